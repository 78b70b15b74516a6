/- The plain law: from intervals and links that are right, Tight finds intervals that are right, within one round more than there are clocks. No program in sight. -/
import Derived.Test.YtplmgbffaeohpaaBhK
set_option linter.unusedSimpArgs false
set_option linter.unusedVariables false
namespace Go.Proofs.Ytplmgbffaeohpaa

/-! ### Pigeons -/
theorem pigeon : ∀ (n t : Nat) (f : Nat → Nat), (∀ s, s ≤ t → f s < n) → (∀ a b, a < b → b ≤ t → f a ≠ f b) → t < n
  | 0, t, f, h, _ => absurd (h 0 (Nat.zero_le _)) (Nat.not_lt_zero _)
  | n + 1, 0, f, _, _ => Nat.succ_pos _
  | n + 1, t + 1, f, h, hi => by
    by_cases hex : ∃ s0, s0 ≤ t ∧ f s0 = n
    · obtain ⟨s0, h0, e0⟩ := hex
      have hlast : f (t + 1) ≠ n := fun e => hi s0 (t + 1) (by omega) (Nat.le_refl _) (by rw [e0, e])
      have := pigeon n t (fun s => if s = s0 then f (t + 1) else f s) (fun s hs => by
        show (if s = s0 then f (t + 1) else f s) < n
        split
        · have := h (t + 1) (Nat.le_refl _); omega
        · have h1 := h s (by omega)
          have h2 : f s ≠ n := fun e => by
            rcases Nat.lt_trichotomy s s0 with hl | hl | hl
            · exact hi s s0 hl (by omega) (by rw [e, e0])
            · omega
            · exact hi s0 s hl (by omega) (by rw [e, e0])
          omega) (fun a b hab hb => by
        show (if a = s0 then f (t + 1) else f a) ≠ (if b = s0 then f (t + 1) else f b)
        split
        · split
          · omega
          · exact fun e => hi b (t + 1) (by omega) (Nat.le_refl _) e.symm
        · split
          · exact hi a (t + 1) (by omega) (Nat.le_refl _)
          · exact hi a b hab (by omega))
      omega
    · have := pigeon n t f (fun s hs => by
        have h1 := h s (by omega)
        have h2 : f s ≠ n := fun e => hex ⟨s, hs, e⟩
        omega) (fun a b hab hb => hi a b hab (by omega))
      omega

/-! ### A bound that is pushed along edges -/
structure Push (n : Nat) (E : Nat → Nat → Int → Prop) (L : Nat → Nat → Int) (τ : Nat → Int) : Prop where
  mono : ∀ t i, i < n → L t i ≤ L (t + 1) i
  ge : ∀ t p i c, i < n → E p i c → L t p + c ≤ L (t + 1) i
  eq : ∀ t i, i < n → L (t + 1) i = L t i ∨ ∃ p c, p < n ∧ E p i c ∧ L (t + 1) i = L t p + c
  feas : ∀ p i c, E p i c → c ≤ τ i - τ p

theorem Push.up {n : Nat} {E : Nat → Nat → Int → Prop} {L : Nat → Nat → Int} {τ : Nat → Int} (h : Push n E L τ) {i : Nat} (hi : i < n) {a b : Nat} (hab : a ≤ b) : L a i ≤ L b i := by
  induction hab with
  | refl => exact Int.le_refl _
  | step _ ih => exact Int.le_trans ih (h.mono _ _ hi)

theorem Push.chain {n : Nat} {E : Nat → Nat → Int → Prop} {L : Nat → Nat → Int} {τ : Nat → Int} (h : Push n E L τ) : ∀ (t i : Nat), i < n → L (t + 1) i ≠ L t i →
    ∃ f : Nat → Nat, (∀ s, s ≤ t → f s < n) ∧ f t = i ∧ (∀ s, s ≤ t → L (s + 1) (f s) ≠ L s (f s)) ∧ ∀ s, s < t → τ (f s) - L (s + 1) (f s) ≤ τ (f (s + 1)) - L (s + 2) (f (s + 1))
  | 0, i, hi, hne => ⟨fun _ => i, fun _ _ => hi, rfl, fun s hs => by obtain rfl : s = 0 := by omega
                                                                     exact hne, fun s hs => absurd hs (by omega)⟩
  | t + 1, i, hi, hne => by
    obtain ⟨p, c, hp, hE, he⟩ := (h.eq (t + 1) i hi).resolve_left hne
    have hpne : L (t + 1) p ≠ L t p := fun e => by
      have h1 := h.ge t p i c hi hE
      have h2 := h.mono (t + 1) i hi
      rw [he, e] at h2
      rw [e] at he
      exact hne (by omega)
    obtain ⟨f, f1, f2, f3, f4⟩ := h.chain t p hp hpne
    refine ⟨fun s => if s ≤ t then f s else i, fun s hs => ?_, ?_, fun s hs => ?_, fun s hs => ?_⟩
    · simp only
      split
      · exact f1 s (by assumption)
      · exact hi
    · show (if t + 1 ≤ t then f (t + 1) else i) = i
      rw [if_neg (by omega)]
    · simp only
      split
      · exact f3 s (by assumption)
      · obtain rfl : s = t + 1 := by omega
        exact hne
    · have hs1 : s ≤ t := by omega
      simp only [hs1, if_true]
      by_cases e : s + 1 ≤ t
      · rw [if_pos e]
        exact f4 s (by omega)
      · obtain rfl : s = t := by omega
        rw [if_neg e, f2, he]
        have := h.feas p i c hE
        omega

theorem Push.slack {n t : Nat} {L : Nat → Nat → Int} {τ : Nat → Int} {f : Nat → Nat} (h4 : ∀ s, s < t → τ (f s) - L (s + 1) (f s) ≤ τ (f (s + 1)) - L (s + 2) (f (s + 1))) {a b : Nat} (hab : a ≤ b) (hb : b ≤ t) : τ (f a) - L (a + 1) (f a) ≤ τ (f b) - L (b + 1) (f b) := by
  induction hab with
  | refl => exact Int.le_refl _
  | step _ ih => exact Int.le_trans (ih (by omega)) (h4 _ (by omega))

/-- A node moves in the round t only if t is less than the number of nodes. -/
theorem Push.rests {n : Nat} {E : Nat → Nat → Int → Prop} {L : Nat → Nat → Int} {τ : Nat → Int} (h : Push n E L τ) {i : Nat} (hi : i < n) : L (n + 1) i = L n i := by
  by_cases hne : L (n + 1) i = L n i
  · exact hne
  · obtain ⟨f, f1, f2, f3, f4⟩ := h.chain n i hi hne
    have := pigeon n n f f1 fun a b hab hb e => by
      have h1 := Push.slack (n := n) f4 (Nat.le_of_lt hab) hb
      have h2 := h.up (f1 b hb) (a := a + 1) (b := b) (by omega)
      have h3 := h.mono b (f b) (f1 b hb)
      have h5 := f3 b hb
      rw [e] at h1
      omega
    omega

/-! ### The rounds -/
theorem stepB_lo {N : Net} {i j : Nat} {p : Int × Int} : p.1 ≤ (stepB N i j p).1 ∧ (stepB N i j p).2 ≤ p.2 ∧ (N.B j = i → N.lo (N.A j) + N.dl j ≤ (stepB N i j p).1 ∧ (stepB N i j p).2 ≤ N.hi (N.A j) + N.dh j) ∧
    ((stepB N i j p).1 = p.1 ∨ (N.B j = i ∧ (stepB N i j p).1 = N.lo (N.A j) + N.dl j)) ∧ ((stepB N i j p).2 = p.2 ∨ (N.B j = i ∧ (stepB N i j p).2 = N.hi (N.A j) + N.dh j)) := by
  unfold stepB
  by_cases e : N.B j = i
  · rw [if_pos e]
    simp only
    omega
  · rw [if_neg e]
    exact ⟨Int.le_refl _, Int.le_refl _, fun h => absurd h e, .inl rfl, .inl rfl⟩
theorem stepA_lo {N : Net} {i j : Nat} {p : Int × Int} : p.1 ≤ (stepA N i j p).1 ∧ (stepA N i j p).2 ≤ p.2 ∧ (N.A j = i → N.lo (N.B j) - N.dh j ≤ (stepA N i j p).1 ∧ (stepA N i j p).2 ≤ N.hi (N.B j) - N.dl j) ∧
    ((stepA N i j p).1 = p.1 ∨ (N.A j = i ∧ (stepA N i j p).1 = N.lo (N.B j) - N.dh j)) ∧ ((stepA N i j p).2 = p.2 ∨ (N.A j = i ∧ (stepA N i j p).2 = N.hi (N.B j) - N.dl j)) := by
  unfold stepA
  by_cases e : N.A j = i
  · rw [if_pos e]
    simp only
    omega
  · rw [if_neg e]
    exact ⟨Int.le_refl _, Int.le_refl _, fun h => absurd h e, .inl rfl, .inl rfl⟩

/-- An edge: what is known of p says so much of i. -/
def Edge (N : Net) (p i : Nat) (c : Int) : Prop := ∃ j, j < N.m ∧ ((N.A j = p ∧ N.B j = i ∧ c = N.dl j) ∨ (N.B j = p ∧ N.A j = i ∧ c = - N.dh j))
def EdgeH (N : Net) (p i : Nat) (c : Int) : Prop := ∃ j, j < N.m ∧ ((N.A j = p ∧ N.B j = i ∧ c = - N.dh j) ∨ (N.B j = p ∧ N.A j = i ∧ c = N.dl j))

theorem meetN_ge (N : Net) (i : Nat) : ∀ k, ∀ j, j < k → (N.B j = i → N.lo (N.A j) + N.dl j ≤ (meetN N i k).1 ∧ (meetN N i k).2 ≤ N.hi (N.A j) + N.dh j) ∧ (N.A j = i → N.lo (N.B j) - N.dh j ≤ (meetN N i k).1 ∧ (meetN N i k).2 ≤ N.hi (N.B j) - N.dl j)
  | 0, j, hj => absurd hj (by omega)
  | k + 1, j, hj => by
    obtain ⟨b1, b2, b3, -, -⟩ := stepB_lo (N := N) (i := i) (j := k) (p := meetN N i k)
    obtain ⟨a1, a2, a3, -, -⟩ := stepA_lo (N := N) (i := i) (j := k) (p := stepB N i k (meetN N i k))
    simp only [meetN]
    rcases Nat.lt_or_ge j k with h | h
    · obtain ⟨h1, h2⟩ := meetN_ge N i k j h
      exact ⟨fun e => by have := h1 e; omega, fun e => by have := h2 e; omega⟩
    · obtain rfl : j = k := by omega
      exact ⟨fun e => by have := b3 e; omega, fun e => by have := a3 e; omega⟩
theorem meetN_eq (N : Net) (i : Nat) : ∀ k, ((meetN N i k).1 = N.lo i ∨ ∃ j, j < k ∧ ((N.B j = i ∧ (meetN N i k).1 = N.lo (N.A j) + N.dl j) ∨ (N.A j = i ∧ (meetN N i k).1 = N.lo (N.B j) - N.dh j))) ∧
    ((meetN N i k).2 = N.hi i ∨ ∃ j, j < k ∧ ((N.B j = i ∧ (meetN N i k).2 = N.hi (N.A j) + N.dh j) ∨ (N.A j = i ∧ (meetN N i k).2 = N.hi (N.B j) - N.dl j)))
  | 0 => ⟨.inl rfl, .inl rfl⟩
  | k + 1 => by
    obtain ⟨-, -, -, b4, b5⟩ := stepB_lo (N := N) (i := i) (j := k) (p := meetN N i k)
    obtain ⟨-, -, -, a4, a5⟩ := stepA_lo (N := N) (i := i) (j := k) (p := stepB N i k (meetN N i k))
    obtain ⟨h1, h2⟩ := meetN_eq N i k
    simp only [meetN]
    constructor
    · rcases a4 with a4 | ⟨e, a4⟩
      · rw [a4]
        rcases b4 with b4 | ⟨e, b4⟩
        · rw [b4]
          rcases h1 with h1 | ⟨j, hj, h1⟩
          · exact .inl h1
          · exact .inr ⟨j, by omega, h1⟩
        · exact .inr ⟨k, by omega, .inl ⟨e, b4⟩⟩
      · exact .inr ⟨k, by omega, .inr ⟨e, a4⟩⟩
    · rcases a5 with a5 | ⟨e, a5⟩
      · rw [a5]
        rcases b5 with b5 | ⟨e, b5⟩
        · rw [b5]
          rcases h2 with h2 | ⟨j, hj, h2⟩
          · exact .inl h2
          · exact .inr ⟨j, by omega, h2⟩
        · exact .inr ⟨k, by omega, .inl ⟨e, b5⟩⟩
      · exact .inr ⟨k, by omega, .inr ⟨e, a5⟩⟩

def itN (N : Net) : Nat → Net
  | 0 => N
  | t + 1 => (itN N t).next
theorem itN_same (N : Net) : ∀ t, (itN N t).n = N.n ∧ (itN N t).m = N.m ∧ (itN N t).A = N.A ∧ (itN N t).B = N.B ∧ (itN N t).dl = N.dl ∧ (itN N t).dh = N.dh
  | 0 => ⟨rfl, rfl, rfl, rfl, rfl, rfl⟩
  | t + 1 => itN_same N t

/-- Numbers that agree with all intervals and links. -/
structure Feas (N : Net) (τ : Nat → Int) : Prop where
  i : ∀ i, i < N.n → N.lo i ≤ τ i ∧ τ i ≤ N.hi i
  l : ∀ j, j < N.m → N.dl j ≤ τ (N.B j) - τ (N.A j) ∧ τ (N.B j) - τ (N.A j) ≤ N.dh j

theorem Feas.next {N : Net} {τ : Nat → Int} (h : Feas N τ) (hA : ∀ j, j < N.m → N.A j < N.n) (hB : ∀ j, j < N.m → N.B j < N.n) : Feas N.next τ := by
  refine ⟨fun i hi => ?_, h.l⟩
  have h0 := h.i i hi
  obtain ⟨e1, e2⟩ := meetN_eq N i N.m
  constructor
  · show (meetN N i N.m).1 ≤ τ i
    rcases e1 with e | ⟨j, hj, ⟨eb, e⟩ | ⟨eb, e⟩⟩
    · omega
    · have := h.l j hj; have := h.i _ (hA j hj); rw [eb] at *; omega
    · have := h.l j hj; have := h.i _ (hB j hj); rw [eb] at *; omega
  · show τ i ≤ (meetN N i N.m).2
    rcases e2 with e | ⟨j, hj, ⟨eb, e⟩ | ⟨eb, e⟩⟩
    · omega
    · have := h.l j hj; have := h.i _ (hA j hj); rw [eb] at *; omega
    · have := h.l j hj; have := h.i _ (hB j hj); rw [eb] at *; omega

theorem itN_feas {N : Net} {τ : Nat → Int} (hF : N.Fine) (h : Feas N τ) : ∀ t, Feas (itN N t) τ ∧ (itN N t).Fine
  | 0 => ⟨h, hF⟩
  | t + 1 => by
    obtain ⟨h1, h2⟩ := itN_feas hF h t
    have h3 := h1.next h2.A h2.B
    exact ⟨h3, h2.next fun ⟨i, hi, hl⟩ => by have h4 := h3.i i hi; have e1 : (itN N t).next.lo i = nlo (itN N t) i := rfl; have e2 : (itN N t).next.hi i = nhi (itN N t) i := rfl; omega⟩

theorem push_lo {N : Net} {τ : Nat → Int} (hF : N.Fine) (h : Feas N τ) : Push N.n (Edge N) (fun t => (itN N t).lo) τ := by
  refine ⟨fun t i hi => ?_, fun t p i c hi hE => ?_, fun t i hi => ?_, fun p i c hE => ?_⟩
  · show (itN N t).lo i ≤ nlo (itN N t) i
    exact (meetN_in (itN N t) i _).1
  · obtain ⟨s1, s2, s3, s4, s5, s6⟩ := itN_same N t
    obtain ⟨j, hj, hc⟩ := hE
    have hg := meetN_ge (itN N t) i (itN N t).m j (by omega)
    show (itN N t).lo p + c ≤ (meetN (itN N t) i (itN N t).m).1
    rw [s3, s4, s5, s6] at hg
    rcases hc with ⟨rfl, e, rfl⟩ | ⟨rfl, e, rfl⟩
    · exact (hg.1 e).1
    · have := (hg.2 e).1; omega
  · obtain ⟨s1, s2, s3, s4, s5, s6⟩ := itN_same N t
    have he := (meetN_eq (itN N t) i (itN N t).m).1
    rw [s3, s4, s5, s6] at he
    show (meetN (itN N t) i (itN N t).m).1 = (itN N t).lo i ∨ _
    rcases he with he | ⟨j, hj, ⟨e, he⟩ | ⟨e, he⟩⟩
    · exact .inl he
    · exact .inr ⟨N.A j, N.dl j, hF.A j (by omega), ⟨j, by omega, .inl ⟨rfl, e, rfl⟩⟩, he⟩
    · exact .inr ⟨N.B j, - N.dh j, hF.B j (by omega), ⟨j, by omega, .inr ⟨rfl, e, rfl⟩⟩, by show (meetN (itN N t) i (itN N t).m).1 = _; omega⟩
  · obtain ⟨j, hj, ⟨rfl, rfl, rfl⟩ | ⟨rfl, rfl, rfl⟩⟩ := hE
    · have := h.l j hj; omega
    · have := h.l j hj; omega
theorem push_hi {N : Net} {τ : Nat → Int} (hF : N.Fine) (h : Feas N τ) : Push N.n (EdgeH N) (fun t i => - (itN N t).hi i) (fun i => - τ i) := by
  refine ⟨fun t i hi => ?_, fun t p i c hi hE => ?_, fun t i hi => ?_, fun p i c hE => ?_⟩
  · show - (itN N t).hi i ≤ - nhi (itN N t) i
    have := (meetN_in (itN N t) i (itN N t).m).2
    unfold nhi
    omega
  · obtain ⟨s1, s2, s3, s4, s5, s6⟩ := itN_same N t
    obtain ⟨j, hj, hc⟩ := hE
    have hg := meetN_ge (itN N t) i (itN N t).m j (by omega)
    show - (itN N t).hi p + c ≤ - (meetN (itN N t) i (itN N t).m).2
    rw [s3, s4, s5, s6] at hg
    rcases hc with ⟨rfl, e, rfl⟩ | ⟨rfl, e, rfl⟩
    · have := (hg.1 e).2; omega
    · have := (hg.2 e).2; omega
  · obtain ⟨s1, s2, s3, s4, s5, s6⟩ := itN_same N t
    have he := (meetN_eq (itN N t) i (itN N t).m).2
    rw [s3, s4, s5, s6] at he
    show - (meetN (itN N t) i (itN N t).m).2 = - (itN N t).hi i ∨ _
    rcases he with he | ⟨j, hj, ⟨e, he⟩ | ⟨e, he⟩⟩
    · exact .inl (by omega)
    · exact .inr ⟨N.A j, - N.dh j, hF.A j (by omega), ⟨j, by omega, .inl ⟨rfl, e, rfl⟩⟩, by show - (meetN (itN N t) i (itN N t).m).2 = _; omega⟩
    · exact .inr ⟨N.B j, N.dl j, hF.B j (by omega), ⟨j, by omega, .inr ⟨rfl, e, rfl⟩⟩, by show - (meetN (itN N t) i (itN N t).m).2 = _; omega⟩
  · obtain ⟨j, hj, ⟨rfl, rfl, rfl⟩ | ⟨rfl, rfl, rfl⟩⟩ := hE
    · have := h.l j hj; omega
    · have := h.l j hj; omega

/-- Tight finds a network that rests. -/
theorem tight_rests {N : Net} {τ : Nat → Int} (hF : N.Fine) (h : Feas N τ) : ∃ t, tightR (N.n + 1) N = some (itN N t) ∧ (itN N t).same (itN N t).next = true := by
  have hlast : (itN N N.n).same (itN N N.n).next = true := by
    rw [Net.same_iff]
    intro i hi
    rw [(itN_same N N.n).1] at hi
    have h1 := (push_lo hF h).rests hi
    have h2 := (push_hi hF h).rests hi
    have e1 : (itN N (N.n + 1)) = (itN N N.n).next := rfl
    simp only [e1] at h1 h2
    omega
  have key : ∀ k t, t ≤ N.n → N.n < t + k → ∃ t', tightR k (itN N t) = some (itN N t') ∧ (itN N t').same (itN N t').next = true := by
    intro k
    induction k with
    | zero => intro t h1 h2; omega
    | succ k ih =>
      intro t h1 h2
      have hnb : (itN N t).next.bad = false := by
        cases hb : (itN N t).next.bad with
        | false => rfl
        | true =>
          obtain ⟨i, hi, hl⟩ := (Net.bad_iff _).1 hb
          have := (itN_feas hF h (t + 1)).1.i i hi
          have e : itN N (t + 1) = (itN N t).next := rfl
          rw [e] at this
          omega
      by_cases hs : (itN N t).same (itN N t).next = true
      · exact ⟨t, by simp only [tightR, hnb, hs, Bool.false_eq_true, if_false, if_true], hs⟩
      · have ht : t ≠ N.n := fun e => hs (e ▸ hlast)
        obtain ⟨t', g1, g2⟩ := ih (t + 1) (by omega) (by omega)
        refine ⟨t', ?_, g2⟩
        simp only [tightR, hnb, hs, Bool.false_eq_true, if_false]
        exact g1
  exact key (N.n + 1) 0 (by omega) (by omega)

theorem itN_in (N : Net) (i : Nat) : ∀ t, N.lo i ≤ (itN N t).lo i ∧ (itN N t).hi i ≤ N.hi i
  | 0 => ⟨Int.le_refl _, Int.le_refl _⟩
  | t + 1 => by
    obtain ⟨h1, h2⟩ := itN_in N i t
    obtain ⟨h3, h4⟩ := meetN_in (itN N t) i (itN N t).m
    constructor
    · show N.lo i ≤ nlo (itN N t) i
      unfold nlo; omega
    · show nhi (itN N t) i ≤ N.hi i
      unfold nhi; omega
end Go.Proofs.Ytplmgbffaeohpaa
