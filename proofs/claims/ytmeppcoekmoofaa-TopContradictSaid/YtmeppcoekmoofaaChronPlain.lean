/- Chronologies, plain: constraints, the first matrix, what follows for days that satisfy them; contradictions. No program in sight. -/
import Derived.Test.YtmeppcoekmoofaaFw
namespace Go.Proofs.Ytmeppcoekmoofaa
set_option linter.unusedVariables false

/-- A constraint. -/
structure Bd where
  a : Int
  b : Int
  lo : Int
  hi : Int

def init0 : Mx := fun i j => if i = j then 0 else far
def addB (M : Mx) (c : Bd) : Mx :=
  updM (updM M c.a.toNat c.b.toNat (min (M c.a.toNat c.b.toNat) c.hi)) c.b.toNat c.a.toNat (min (updM M c.a.toNat c.b.toNat (min (M c.a.toNat c.b.toNat) c.hi) c.b.toNat c.a.toNat) (-c.lo))
def initM (l : List Bd) : Mx := l.foldl addB init0

/-- The numbers that stand in a constraint that is permitted. -/
def chkB (n : Int) (c : Bd) : Int :=
  if c.a < 0 ∨ n ≤ c.a ∨ c.b < 0 ∨ n ≤ c.b ∨ c.lo < -8000000 ∨ 8000000 < c.hi then 3 else if c.a = c.b then 1 else if c.hi < c.lo then 9 else 0
def firstBad (n : Int) : List Bd → Int
  | [] => 0
  | c :: t => if chkB n c = 0 then firstBad n t else chkB n c
def chronChk (n : Int) (l : List Bd) : Int := if 12 < n ∨ 40 < l.length then 2 else if n < 1 then 8 else firstBad n l

structure BdOk (n : Int) (c : Bd) : Prop where
  a0 : 0 ≤ c.a
  a1 : c.a < n
  b0 : 0 ≤ c.b
  b1 : c.b < n
  l0 : -8000000 ≤ c.lo
  h0 : c.hi ≤ 8000000
  ab : c.a ≠ c.b
  lh : c.lo ≤ c.hi

theorem chkB_zero {n : Int} {c : Bd} : chkB n c = 0 ↔ BdOk n c := by
  unfold chkB
  constructor
  · intro h
    split at h
    · omega
    · split at h
      · omega
      · split at h
        · omega
        · constructor <;> omega
  · intro ⟨_, _, _, _, _, _, _, _⟩
    rw [if_neg (by omega), if_neg (by omega), if_neg (by omega)]

theorem firstBad_zero {n : Int} {l : List Bd} : firstBad n l = 0 ↔ ∀ c, c ∈ l → BdOk n c := by
  induction l with
  | nil => simp [firstBad]
  | cons c t ih =>
    unfold firstBad
    split
    · rename_i h
      rw [ih]
      constructor
      · intro h2 d hd
        rcases List.mem_cons.1 hd with rfl | hd
        · exact chkB_zero.1 h
        · exact h2 d hd
      · intro h2 d hd
        exact h2 d (List.mem_cons_of_mem _ hd)
    · rename_i h
      constructor
      · intro h2; exact absurd h2 h
      · intro h2; exact absurd (chkB_zero.2 (h2 c (List.mem_cons_self ..))) h

/-- What is permitted. -/
structure ChronOk (n : Nat) (l : List Bd) : Prop where
  n1 : 1 ≤ n
  n12 : n ≤ 12
  few : l.length ≤ 40
  each : ∀ c, c ∈ l → BdOk n c

theorem chronChk_zero {n : Nat} {l : List Bd} : chronChk n l = 0 ↔ ChronOk n l := by
  unfold chronChk
  constructor
  · intro h
    split at h
    · omega
    · split at h
      · omega
      · exact ⟨by omega, by omega, by omega, firstBad_zero.1 h⟩
  · intro ⟨h1, h2, h3, h4⟩
    rw [if_neg (by omega), if_neg (by omega)]
    exact firstBad_zero.2 h4

theorem updM_at (M : Mx) (i j : Nat) (v : Int) (a b : Nat) : updM M i j v a b = if a = i ∧ b = j then v else M a b := rfl

theorem addB_le (M : Mx) (c : Bd) (i j : Nat) : addB M c i j ≤ M i j := by
  unfold addB
  rw [updM_at, updM_at, updM_at]
  by_cases h1 : i = c.b.toNat ∧ j = c.a.toNat
  · rw [if_pos h1, h1.1, h1.2]
    by_cases h2 : c.b.toNat = c.a.toNat ∧ c.a.toNat = c.b.toNat
    · rw [if_pos h2, h2.1]; omega
    · rw [if_neg h2]; omega
  · rw [if_neg h1]
    by_cases h2 : i = c.a.toNat ∧ j = c.b.toNat
    · rw [if_pos h2, h2.1, h2.2]; omega
    · rw [if_neg h2]; omega

theorem addB_hits (M : Mx) (c : Bd) : addB M c c.a.toNat c.b.toNat ≤ c.hi ∧ addB M c c.b.toNat c.a.toNat ≤ -c.lo := by
  constructor
  · unfold addB
    rw [updM_at, updM_at, updM_at]
    by_cases h1 : c.a.toNat = c.b.toNat ∧ c.b.toNat = c.a.toNat
    · rw [if_pos h1, if_pos ⟨h1.2, h1.1⟩]; omega
    · rw [if_neg h1, if_pos ⟨rfl, rfl⟩]; omega
  · unfold addB
    rw [updM_at, if_pos ⟨rfl, rfl⟩]; omega

theorem above_addB {n : Nat} {X M : Mx} {c : Bd} (h : Leq n X M) (h1 : X c.a.toNat c.b.toNat ≤ c.hi) (h2 : X c.b.toNat c.a.toNat ≤ -c.lo) : Leq n X (addB M c) := by
  intro i j hi hj
  have h0 := h i j hi hj
  unfold addB
  rw [updM_at, updM_at, updM_at]
  by_cases g1 : i = c.b.toNat ∧ j = c.a.toNat
  · rw [if_pos g1]
    rw [← g1.1, ← g1.2] at h1 h2 ⊢
    by_cases g2 : i = j ∧ j = i
    · rw [if_pos g2]
      obtain ⟨rfl, -⟩ := g2
      omega
    · rw [if_neg g2]; omega
  · rw [if_neg g1]
    by_cases g2 : i = c.a.toNat ∧ j = c.b.toNat
    · rw [if_pos g2]
      rw [← g2.1, ← g2.2] at h1 h2 ⊢
      omega
    · rw [if_neg g2]; omega

theorem foldB_le (l : List Bd) (M : Mx) (i j : Nat) : l.foldl addB M i j ≤ M i j := by
  induction l generalizing M with
  | nil => exact Int.le_refl _
  | cons c t ih => exact Int.le_trans (ih _) (addB_le M c i j)

theorem foldB_hits (l : List Bd) (M : Mx) (c : Bd) (hc : c ∈ l) : l.foldl addB M c.a.toNat c.b.toNat ≤ c.hi ∧ l.foldl addB M c.b.toNat c.a.toNat ≤ -c.lo := by
  induction l generalizing M with
  | nil => simp at hc
  | cons d t ih =>
    rcases List.mem_cons.1 hc with rfl | hc
    · exact ⟨Int.le_trans (foldB_le t _ _ _) (addB_hits M c).1, Int.le_trans (foldB_le t _ _ _) (addB_hits M c).2⟩
    · exact ih _ hc

theorem above_foldB {n : Nat} {X : Mx} (l : List Bd) (M : Mx) (h : Leq n X M) (hl : ∀ c, c ∈ l → X c.a.toNat c.b.toNat ≤ c.hi ∧ X c.b.toNat c.a.toNat ≤ -c.lo) : Leq n X (l.foldl addB M) := by
  induction l generalizing M with
  | nil => exact h
  | cons c t ih =>
    have := hl c (List.mem_cons_self ..)
    exact ih _ (above_addB h this.1 this.2) (fun d hd => hl d (List.mem_cons_of_mem _ hd))

theorem initM_sub {n : Nat} {l1 l2 : List Bd} (h : ∀ c, c ∈ l1 → c ∈ l2) : Leq n (initM l2) (initM l1) :=
  above_foldB l1 init0 (fun i j _ _ => foldB_le l2 init0 i j) (fun c hc => foldB_hits l2 init0 c (h c hc))

/-- Bounds on the first matrix. -/
structure Within (n : Nat) (W : Int) (l : List Bd) : Prop where
  w0 : 0 ≤ W
  w1 : W ≤ far
  each : ∀ c, c ∈ l → BdOk n c ∧ -W ≤ c.lo ∧ c.lo ≤ W ∧ -W ≤ c.hi ∧ c.hi ≤ W

theorem Within.low {n : Nat} {W : Int} {l : List Bd} (h : Within n W l) : (∀ i j, i < n → j < n → -W ≤ initM l i j) ∧ ∀ i, i < n → 0 ≤ initM l i i := by
  have h0 := h.w0
  have h1 := h.w1
  have key : Leq n (fun i j => if i = j then 0 else -W) (initM l) := by
    apply above_foldB l init0
    · intro i j _ _
      unfold init0 far
      by_cases e : i = j
      · simp [e]
      · simp [e]; omega
    · intro c hc
      obtain ⟨ho, a1, a2, a3, a4⟩ := h.each c hc
      have hne : c.a.toNat ≠ c.b.toNat := by have := ho.a0; have := ho.b0; have := ho.ab; omega
      rw [if_neg hne, if_neg (Ne.symm hne)]
      omega
  refine ⟨fun i j hi hj => ?_, fun i hi => ?_⟩
  · have := key i j hi hj
    simp only at this
    split at this <;> omega
  · have := key i i hi hi
    simpa using this

theorem Within.high {n : Nat} {W : Int} {l : List Bd} (h : Within n W l) : ∀ i j, initM l i j < far → initM l i j ≤ W := by
  have h0 := h.w0
  have key : ∀ (l : List Bd) (M : Mx), (∀ c, c ∈ l → -c.lo ≤ W ∧ c.hi ≤ W) → (∀ i j, M i j < far → M i j ≤ W) → ∀ i j, l.foldl addB M i j < far → l.foldl addB M i j ≤ W := by
    intro l
    induction l with
    | nil => intro M _ hM; exact hM
    | cons c t ih =>
      intro M hl hM
      have hc := hl c (List.mem_cons_self ..)
      apply ih _ (fun d hd => hl d (List.mem_cons_of_mem _ hd))
      intro i j
      unfold addB
      rw [updM_at]
      by_cases g1 : i = c.b.toNat ∧ j = c.a.toNat
      · rw [if_pos g1]; omega
      · rw [if_neg g1, updM_at]
        by_cases g2 : i = c.a.toNat ∧ j = c.b.toNat
        · rw [if_pos g2]; omega
        · rw [if_neg g2]; exact hM i j
  apply key l init0 (fun c hc => by have := h.each c hc; omega)
  intro i j
  unfold init0 far
  split <;> omega

/-- Days that satisfy a constraint. -/
def Sat (ds : Nat → Int) (c : Bd) : Prop := c.lo ≤ ds c.b.toNat - ds c.a.toNat ∧ ds c.b.toNat - ds c.a.toNat ≤ c.hi
def Pot (ds : Nat → Int) : Mx := fun i j => ds j - ds i

theorem pot_closed (n : Nat) (ds : Nat → Int) : Cl n (Pot ds) := fun i k j _ _ _ _ _ => by unfold Pot; omega

theorem sat_le {n : Nat} {ds : Nat → Int} {l : List Bd} (hd : ∀ i j, i < n → j < n → ds j - ds i ≤ far) (hs : ∀ c, c ∈ l → Sat ds c) : Leq n (Pot ds) (initM l) := by
  apply above_foldB l init0
  · intro i j hi hj
    have := hd i j hi hj
    unfold Pot init0
    split
    · rename_i e; subst e; omega
    · exact this
  · intro c hc
    have := hs c hc
    unfold Sat at this
    unfold Pot
    omega

/-- The matrix of the farthest days. -/
def fin (n : Nat) (l : List Bd) : Mx := fw n (initM l) n
/-- No contradiction. -/
def Free (n : Nat) (l : List Bd) : Prop := Ok n (initM l) n

theorem sat_free {n : Nat} {ds : Nat → Int} {l : List Bd} (hd : ∀ i j, i < n → j < n → ds j - ds i ≤ far) (hs : ∀ c, c ∈ l → Sat ds c) : Free n l ∧ Leq n (Pot ds) (fin n l) :=
  ⟨Ok.of_above (Nat.le_refl _) (pot_closed n ds) (fun i _ => by unfold Pot; omega) (sat_le hd hs), fw_above (Nat.le_refl _) (pot_closed n ds) (sat_le hd hs)⟩

theorem free_sub {n : Nat} {l1 l2 : List Bd} (h : ∀ c, c ∈ l1 → c ∈ l2) (hf : Free n l2) : Free n l1 :=
  Ok.mono (Nat.le_refl _) (initM_sub h) hf
theorem fin_sub {n : Nat} {l1 l2 : List Bd} (h : ∀ c, c ∈ l1 → c ∈ l2) : Leq n (fin n l2) (fin n l1) :=
  fw_mono (Nat.le_refl _) (initM_sub h)
theorem fin_hits {n : Nat} {l : List Bd} (c : Bd) (hc : c ∈ l) (ho : BdOk n c) : fin n l c.a.toNat c.b.toNat ≤ c.hi ∧ fin n l c.b.toNat c.a.toNat ≤ -c.lo := by
  have h1 := foldB_hits l init0 c hc
  have ha : c.a.toNat < n := by have := ho.a0; have := ho.a1; omega
  have hb : c.b.toNat < n := by have := ho.b0; have := ho.b1; omega
  exact ⟨Int.le_trans (fw_le n (initM l) n _ _ ha hb) h1.1, Int.le_trans (fw_le n (initM l) n _ _ hb ha) h1.2⟩

theorem fin_closed {n : Nat} {W : Int} {l : List Bd} (h : Within n W l) (hb : 2 ^ (n + 1) * W < far) (hf : Free n l) : Cl n (fin n l) := by
  intro i k j hi hk hj
  exact fw_closed h.w0 (Nat.le_refl _) hb h.low.2 (fun i j _ _ => h.high i j) hf i k j hi hk hj

/-- A further constraint that is implied changes nothing. -/
theorem implied_same {n : Nat} {W : Int} {l : List Bd} {c : Bd} (h : Within n W l) (hb : 2 ^ (n + 1) * W < far) (hf : Free n l) (hc : BdOk n c) (h1 : fin n l c.a.toNat c.b.toNat ≤ c.hi) (h2 : fin n l c.b.toNat c.a.toNat ≤ -c.lo) (i j : Nat) (hi : i < n) (hj : j < n) :
    fin n (l ++ [c]) i j = fin n l i j := by
  apply Int.le_antisymm
  · exact fin_sub (fun d hd => List.mem_append_left _ hd) i j hi hj
  · refine fw_above (Nat.le_refl _) (fin_closed h hb hf) ?_ i j hi hj
    apply above_foldB (l ++ [c]) init0
    · intro a b ha hb
      exact Int.le_trans (fw_le n (initM l) n a b ha hb) (foldB_le l init0 a b)
    · intro d hd
      rcases List.mem_append.1 hd with hd | hd
      · exact fin_hits d hd (h.each d hd).1
      · simp at hd; subst hd; exact ⟨h1, h2⟩

/-- A constraint beyond a tightest bound contradicts. -/
theorem beyond_bad {n : Nat} {W : Int} {l : List Bd} {c : Bd} (h : Within n W (l ++ [c])) (hb : 2 ^ (n + 1) * W < far) (hx : c.lo = fin n l c.a.toNat c.b.toNat + 1) : ¬ Free n (l ++ [c]) := by
  intro hf
  have hmem : c ∈ l ++ [c] := List.mem_append_right _ (List.mem_singleton.2 rfl)
  obtain ⟨ho, w1, w2, w3, w4⟩ := h.each c hmem
  have ha : c.a.toNat < n := by have := ho.a0; have := ho.a1; omega
  have hbn : c.b.toNat < n := by have := ho.b0; have := ho.b1; omega
  have e1 := fin_hits c hmem ho
  have e2 := fin_sub (n := n) (l1 := l) (l2 := l ++ [c]) (fun d hd => List.mem_append_left _ hd) c.a.toNat c.b.toNat ha hbn
  have w5 := h.w1
  have hcl := fin_closed h hb hf c.a.toNat c.b.toNat c.a.toNat ha hbn ha
  have hdg := hf.diag h.low.2 n (Nat.le_refl _) c.a.toNat ha
  have h20 : (2 : Int) ^ (n + 1) ≥ 2 := by
    have : (1 : Int) ≤ 2 ^ n := Int.pow_pos (by omega)
    rw [Int.pow_succ]; omega
  have : 2 * W ≤ 2 ^ (n + 1) * W := Int.mul_le_mul_of_nonneg_right h20 h.w0
  have hdg' : 0 ≤ fin n (l ++ [c]) c.a.toNat c.a.toNat := hdg
  omega

/-- While a sweep is under way, no number leaves its bounds. -/
theorem sweep_bounds {n k i j : Nat} {l : List Bd} (h : Within n 8000000 l) (hn : n ≤ 12) (hk : k < n) (hi : i ≤ n) (hj : j ≤ n) (ho : Ok n (initM l) k) (a b : Nat) (ha : a < n) (hb : b < n) :
    -70000000000 ≤ rowS k i (sweep n k (fw n (initM l) k) i) j a b ∧ rowS k i (sweep n k (fw n (initM l) k) i) j a b ≤ 1000000000 := by
  have hlo := h.low
  have hp : (2 : Int) ^ k * 8000000 ≤ 35000000000 := (by decide : ∀ k, k < 12 → (2 : Int) ^ k * 8000000 ≤ 35000000000) k (by omega)
  have lowD : ∀ x y, x < n → y < n → -35000000000 ≤ fw n (initM l) k x y := fun x y hx hy => by
    have := fw_low h.w0 (by omega) hlo.2 hlo.1 ho x y hx hy
    omega
  have hd := ho.diag hlo.2 k (Nat.le_refl _) k hk
  constructor
  · have hp := part_row hd (part_sweep (n := n) hd i) j hj
    rw [hp a b]
    have l1 := lowD a b ha hb
    have l2 := lowD a k ha hk
    have l3 := lowD k b hk hb
    split
    · unfold sim; split <;> omega
    · omega
  · have h1 := rowS_le n k i (sweep n k (fw n (initM l) k) i) j a b ha hb
    have h2 := sweep_le n k (fw n (initM l) k) i a b ha hb
    have h3 := fw_le n (initM l) k a b ha hb
    have h4 := foldB_le l init0 a b
    have h5 : init0 a b ≤ 1000000000 := by unfold init0 far; split <;> omega
    have h6 : initM l a b ≤ init0 a b := h4
    omega

theorem relax_pos {k i j : Nat} {M : Mx} (h1 : M i k < far) (h2 : M k j < far) : relax k i j M = updM M i j (min (M i j) (M i k + M k j)) := by unfold relax; rw [if_pos ⟨h1, h2⟩]
theorem relax_neg {k i j : Nat} {M : Mx} (h : ¬ (M i k < far ∧ M k j < far)) : relax k i j M = M := by unfold relax; rw [if_neg h]

/-- The constraints with these numbers. -/
def pick (l : List Bd) (out : List Nat) : List Bd := out.map fun i => l.getD i ⟨0, 0, 0, 0⟩

/-- What holds after the first i rounds of Least. -/
structure LeastIn (n : Nat) (l : List Bd) (i : Nat) (out : List Nat) : Prop where
  bad : ¬ Free n (pick l out ++ l.drop i)
  lt : ∀ x, x ∈ out → x < i
  need : ∀ p, p < out.length → Free n ((pick l out).eraseIdx p ++ l.drop i)
  few : out.length ≤ i
  inc : ∀ p q, p < q → q < out.length → out.getD p 0 < out.getD q 0

theorem least_start {n : Nat} {l : List Bd} (h : ¬ Free n l) : LeastIn n l 0 [] := ⟨by simpa [pick] using h, by simp, by simp, by simp, by simp⟩

theorem drop_cons (l : List Bd) (i : Nat) (hi : i < l.length) : l.drop i = l.getD i ⟨0, 0, 0, 0⟩ :: l.drop (i + 1) := by
  rw [List.drop_eq_getElem_cons hi, List.getD_eq_getElem?_getD, List.getElem?_eq_getElem hi]
  rfl

theorem least_drop {n : Nat} {l : List Bd} {i : Nat} {out : List Nat} (hi : i < l.length) (h : LeastIn n l i out) (hb : ¬ Free n (pick l out ++ l.drop (i + 1))) : LeastIn n l (i + 1) out := by
  refine ⟨hb, fun x hx => Nat.lt_succ_of_lt (h.lt x hx), fun p hp => ?_, by have := h.few; omega, h.inc⟩
  refine free_sub (fun c hc => ?_) (h.need p hp)
  rcases List.mem_append.1 hc with h1 | h1
  · exact List.mem_append_left _ h1
  · rw [drop_cons l i hi]
    exact List.mem_append_right _ (List.mem_cons_of_mem _ h1)

theorem least_keep {n : Nat} {l : List Bd} {i : Nat} {out : List Nat} (hi : i < l.length) (h : LeastIn n l i out) (hb : Free n (pick l out ++ l.drop (i + 1))) : LeastIn n l (i + 1) (out ++ [i]) := by
  have e : pick l (out ++ [i]) = pick l out ++ [l.getD i ⟨0, 0, 0, 0⟩] := by simp [pick]
  have e2 : pick l (out ++ [i]) ++ l.drop (i + 1) = pick l out ++ l.drop i := by rw [e, drop_cons l i hi, List.append_assoc, List.singleton_append]
  refine ⟨by rw [e2]; exact h.bad, fun x hx => ?_, fun p hp => ?_, by have := h.few; simp; omega, fun p q hpq hq => ?_⟩
  · rcases List.mem_append.1 hx with h1 | h1
    · exact Nat.lt_succ_of_lt (h.lt x h1)
    · simp at h1; omega
  · rw [e]
    have hl : (pick l out).length = out.length := by simp [pick]
    rcases Nat.lt_or_ge p out.length with h1 | h1
    · rw [List.eraseIdx_append_of_lt_length (by omega), List.append_assoc, List.singleton_append, ← drop_cons l i hi]
      exact h.need p h1
    · have : p = (pick l out).length := by simp at hp; omega
      rw [List.eraseIdx_append_of_length_le (by omega), this, Nat.sub_self]
      simpa using hb
  · rw [List.length_append, List.length_singleton] at hq
    have g : ∀ x, x < out.length → (out ++ [i]).getD x 0 = out.getD x 0 := fun x hx => by
      rw [List.getD_eq_getElem?_getD, List.getD_eq_getElem?_getD, List.getElem?_append_left hx]
    rcases Nat.lt_or_eq_of_le (Nat.le_of_lt_succ hq) with h1 | rfl
    · rw [g p (by omega), g q h1]; exact h.inc p q hpq h1
    · rw [g p hpq, List.getD_eq_getElem?_getD (l := out ++ [i]), List.getElem?_append_right (Nat.le_refl _), Nat.sub_self, List.getD_eq_getElem?_getD (l := out), List.getElem?_eq_getElem hpq]
      exact h.lt _ (List.getElem_mem hpq)

theorem least_end {n : Nat} {l : List Bd} {out : List Nat} (h : LeastIn n l l.length out) : ¬ Free n (pick l out) ∧ (∀ x, x ∈ out → x < l.length) ∧ ∀ p, p < out.length → Free n ((pick l out).eraseIdx p) := by
  refine ⟨?_, h.lt, fun p hp => ?_⟩
  · have := h.bad; rwa [List.drop_length, List.append_nil] at this
  · have := h.need p hp; rwa [List.drop_length, List.append_nil] at this

end Go.Proofs.Ytmeppcoekmoofaa
