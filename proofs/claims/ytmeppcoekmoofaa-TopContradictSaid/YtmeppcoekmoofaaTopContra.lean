/- TopContradict, the plain law; sChron. -/
import Derived.Test.YtmeppcoekmoofaaSEvents
import Derived.Test.YtmeppcoekmoofaaChanged
namespace Go.Proofs.Ytmeppcoekmoofaa
open Go.RowKit
set_option linter.unusedSimpArgs false
set_option linter.unusedVariables false

/-- One constraint alone does not contradict. -/
theorem one_free {n : Nat} {c : Bd} (h : BdOk n c) : Free n [c] := by
  obtain ⟨a0, a1, b0, b1, l0, h0, ab, lh⟩ := h
  refine (sat_free (ds := fun i => if i = c.b.toNat then c.lo else 0) (fun i j _ _ => ?_) (fun d hd => ?_)).1
  · unfold far; split <;> split <;> omega
  · rw [List.mem_singleton] at hd
    subst hd
    unfold Sat
    dsimp only
    rw [if_pos rfl, if_neg (by omega)]
    omega

/-- What Least tells of constraints that only the last one contradicts. -/
theorem last_least {n : Nat} {l : List Bd} {c : Bd} {out : List Nat} (hf : Free n l) (hc : BdOk n c) (h : LeastIn n (l ++ [c]) (l.length + 1) out) :
    2 ≤ out.length ∧ out.getD (out.length - 1) 0 = l.length ∧ Free n ((pick (l ++ [c]) out).eraseIdx 0) := by
  have hl : (l ++ [c]).length = l.length + 1 := by simp
  rw [← hl] at h
  obtain ⟨e1, e2, e3⟩ := least_end h
  rw [hl] at e2
  have g1 : ∀ x, x < l.length → (l ++ [c]).getD x ⟨0, 0, 0, 0⟩ = l.getD x ⟨0, 0, 0, 0⟩ := fun x hx => by
    rw [List.getD_eq_getElem?_getD, List.getElem?_append_left hx, List.getD_eq_getElem?_getD]
  have g2 : (l ++ [c]).getD l.length ⟨0, 0, 0, 0⟩ = c := by
    rw [List.getD_eq_getElem?_getD, List.getElem?_append_right (Nat.le_refl _), Nat.sub_self]; rfl
  have gl : ∀ x, x < l.length → l.getD x ⟨0, 0, 0, 0⟩ ∈ l := fun x hx => by
    rw [List.getD_eq_getElem?_getD, List.getElem?_eq_getElem hx]; exact List.getElem_mem hx
  have hmem : ∃ p, p < out.length ∧ out.getD p 0 = l.length := by
    apply Classical.byContradiction
    intro hno
    apply e1
    refine free_sub (l2 := l) (fun d hd => ?_) hf
    obtain ⟨x, hx, rfl⟩ := List.mem_map.1 hd
    obtain ⟨p, hp, hpx⟩ := List.mem_iff_getElem.1 hx
    have hxl := e2 x hx
    have hne : x ≠ l.length := fun e => hno ⟨p, hp, by rw [List.getD_eq_getElem?_getD, List.getElem?_eq_getElem hp, Option.getD_some, hpx, e]⟩
    rw [g1 x (by omega)]
    exact gl x (by omega)
  obtain ⟨p, hp, hpe⟩ := hmem
  have hlast : out.getD (out.length - 1) 0 = l.length := by
    rcases Nat.lt_or_eq_of_le (show p ≤ out.length - 1 by omega) with h1 | h1
    · have := h.inc p (out.length - 1) h1 (by omega)
      have hm : out.getD (out.length - 1) 0 ∈ out := by
        rw [List.getD_eq_getElem?_getD, List.getElem?_eq_getElem (by omega)]; exact List.getElem_mem _
      have := e2 _ hm
      omega
    · rw [← h1]; exact hpe
  refine ⟨?_, hlast, e3 0 (by omega)⟩
  apply Classical.byContradiction
  intro hlt
  have h1 : out.length = 1 := by omega
  obtain ⟨x, hx⟩ := List.length_eq_one_iff.1 h1
  subst hx
  have hx2 : x = l.length := by simpa using hlast
  subst hx2
  apply e1
  have : pick (l ++ [c]) [l.length] = [c] := by simp [pick, g2]
  rw [this]
  exact one_free hc

/-- Without constraints nothing is bounded. -/
theorem fin_nil (n i j : Nat) (hi : i < n) (hj : j < n) (h : i ≠ j) : far ≤ fin n [] i j := by
  have hC : Cl n init0 := by
    intro a k b _ _ _ h1 h2
    unfold init0 at h1 h2 ⊢
    split at h1
    · rename_i e1; subst e1
      split at h2
      · rename_i e2; subst e2; simp
      · exact absurd h2 (Int.lt_irrefl _)
    · exact absurd h1 (Int.lt_irrefl _)
  have := fw_above (n := n) (m := n) (C := init0) (M := initM []) (Nat.le_refl _) hC (Leq.refl _ _) i j hi hj
  unfold init0 at this
  rw [if_neg h] at this
  exact this

def chL : List Bd := [⟨0, 1, 10, 20⟩]
def chNums : List Int := [0, 1, 10, 20]
theorem ch_bds : bds chNums 1 = chL := by rfl
theorem ch_each : ∀ c, c ∈ chL → BdOk (2 : Nat) c := by
  intro c hc
  simp only [chL, List.mem_cons, List.not_mem_nil, or_false] at hc
  subst hc
  constructor <;> decide
theorem ch_ok : ChronOk 2 chL := ⟨by omega, by omega, by decide, ch_each⟩
def chP (a : Int) : Nat → Int := fun i => if i = 0 then 0 else a
theorem ch_sat (a : Int) (h0 : 10 ≤ a) (h1 : a ≤ 20) : Free 2 chL ∧ Leq 2 (Pot (chP a)) (fin 2 chL) :=
  sat_free (fun i j _ _ => by unfold chP far; split <;> split <;> omega) (fun c hc => by
    simp only [chL, List.mem_cons, List.not_mem_nil, or_false] at hc
    subst hc
    unfold Sat chP
    dsimp only
    rw [show (Int.toNat 1) = 1 from rfl, show (Int.toNat 0) = 0 from rfl, if_neg (by omega), if_pos rfl]
    omega)
theorem ch_fin : fin 2 chL 0 1 = 20 ∧ fin 2 chL 1 0 = -10 := by
  have h1 := (ch_sat 20 (by omega) (by omega)).2 0 1 (by omega) (by omega)
  have h2 := (ch_sat 10 (by omega) (by omega)).2 1 0 (by omega) (by omega)
  have h3 := fin_hits (n := 2) (l := chL) ⟨0, 1, 10, 20⟩ (by simp [chL]) (ch_each _ (by simp [chL]))
  simp only [show Int.toNat 0 = 0 from rfl, show Int.toNat 1 = 1 from rfl] at h3
  unfold Pot chP at h1 h2
  simp at h1 h2
  omega

set_option maxRecDepth 100000 in
set_option maxHeartbeats 4000000 in
theorem sChron_ok (w : World) : Calls Try.prog 34 #[] w fun e w' => e = .returned (.bool true) ∧ Below w.heap.size w w' := by
  have hf := (ch_sat 10 (by omega) (by omega)).1
  obtain ⟨t1, t2⟩ := ch_fin
  have HF := Lib.hid hf; have T1 := Lib.hid t1; have T2 := Lib.hid t2
  clear hf t1 t2
  go_enter Try.func34, Try.ntmps34
  go_wp2_with fail
  have hF : FlatSl (w.alloc (.cells #[.int .i64 0, .int .i64 1, .int .i64 10, .int .i64 20] 64)) 4 (some ⟨w.heap.size, 0, none⟩) 1 1 chNums := by
    refine ⟨by omega, by simp [maxLen], rfl, fun _ => ⟨_, _, rfl, fun j hj => ?_⟩⟩
    match j, hj with
    | 0, _ => simp [go_sem, ix, chNums]
    | 1, _ => simp [go_sem, ix, chNums]
    | 2, _ => simp [go_sem, ix, chNums]
    | 3, _ => simp [go_sem, ix, chNums]
  refine Calls.mono (tightest_free _ _ _ _ 2 _ _ ch_bds hF ch_ok HF.out) ?_
  rintro e w1 ⟨hb, ob, oc, rb, rc, rfl, hcap, hT⟩
  have hb1 : Below w.heap.size w w1 := ((Below.refl w.heap.size w).alloc (Nat.le_refl _) _).trans (hb.mono (by simp))
  have x1 := hT.out 0 (by omega)
  obtain ⟨x2, x3⟩ := hT.row 0 (by omega) 1 (by omega)
  rw [T2.out] at x2
  rw [T1.out] at x3
  have l1 := hT.lt
  have l2 := hT.ltR 0 (by omega)
  clear hb hT hF
  go_wp2_with fail
  go_ret
  exact ⟨rfl, hb1⟩

end Go.Proofs.Ytmeppcoekmoofaa
