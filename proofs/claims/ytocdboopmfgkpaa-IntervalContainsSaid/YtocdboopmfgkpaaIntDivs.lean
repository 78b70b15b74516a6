/- Scale and Div at whole numbers, and what they come to. -/
import Derived.Test.YtocdboopmfgkpaaIntFacts
import Derived.Test.YtocdboopmfgkpaaIntNeg
namespace Go.Proofs.Ytocdboopmfgkpaa
open Go.RowKit
set_option linter.unusedVariables false

theorem scale_okI (a b n k : Int) (w : World) (h : IvOk a b) (hn : -1000000000 ≤ n ∧ n ≤ 1000000000) (hk : 1 ≤ k) (hk' : k ≤ 1000000000) (p : MulOk a b n n) (s : IvOk (pLo a b n n k) (pHi a b n n k)) :
    Calls Try.prog 14 #[.agg #[.int .i64 a, .int .i64 b], .int .i64 n, .int .i64 k] w fun e w' => e = .returned (.tuple #[.agg #[.int .i64 (pLo a b n n k), .int .i64 (pHi a b n n k)], .int .i64 0]) ∧ Below w.heap.size w w' := by
  obtain ⟨m, rfl⟩ := Int.eq_ofNat_of_zero_le (show 0 ≤ k by omega)
  exact scale_ok a b n m w h hn (by omega) (by omega) p s

theorem div_posI (a b c d : Int) (w : World) (h : IvOk a b) (g : IvOk c d) (hc : 1 ≤ c) :
    Calls Try.prog 15 #[.agg #[.int .i64 a, .int .i64 b], .agg #[.int .i64 c, .int .i64 d]] w fun e w' => e = .returned (.tuple #[.agg #[.int .i64 (dLo a c d), .int .i64 (dHi b c d)], .int .i64 0]) ∧ Below w.heap.size w w' := by
  have := g.m
  obtain ⟨m, rfl⟩ := Int.eq_ofNat_of_zero_le (show 0 ≤ c by omega)
  obtain ⟨n, rfl⟩ := Int.eq_ofNat_of_zero_le (show 0 ≤ d by omega)
  exact div_pos a b m n w h g (by omega)

theorem div_negI (a b c d : Int) (w : World) (h : IvOk a b) (g : IvOk c d) (hd : d ≤ -1) :
    Calls Try.prog 15 #[.agg #[.int .i64 a, .int .i64 b], .agg #[.int .i64 c, .int .i64 d]] w fun e w' => e = .returned (.tuple #[.agg #[.int .i64 (dLo (-b) (-d) (-c)), .int .i64 (dHi (-a) (-d) (-c))], .int .i64 0]) ∧ Below w.heap.size w w' := by
  have := g.m
  obtain ⟨m, hm⟩ := Int.eq_ofNat_of_zero_le (show 0 ≤ -d by omega)
  obtain ⟨n, hn⟩ := Int.eq_ofNat_of_zero_le (show 0 ≤ -c by omega)
  have e1 : d = -(m : Int) := by omega
  have e2 : c = -(n : Int) := by omega
  subst e1 e2
  have q := div_neg (-b) (-a) m n w (by rw [Int.neg_neg, Int.neg_neg]; exact h) g (by omega)
  rw [Int.neg_neg, Int.neg_neg] at q
  rw [Int.neg_neg, Int.neg_neg]
  exact q

theorem upQ_bounds {x k m : Int} (hk : 1 ≤ k) (h1 : -m ≤ x) (h2 : x ≤ m) : -m ≤ upQ x k ∧ upQ x k ≤ m := by
  have := ediv_bounds (-x) k hk (m := m) (by omega) (by omega)
  unfold upQ; omega

theorem upQ_ge {x k : Int} (hk : 1 ≤ k) : x ≤ upQ x k * k := by
  unfold upQ
  have := Int.ediv_mul_le (-x) (show k ≠ 0 by omega)
  rw [Int.neg_mul]; omega

theorem upQ_mono {x y k : Int} (hk : 1 ≤ k) (h : x ≤ y) : upQ x k ≤ upQ y k := by
  unfold upQ
  have := Int.ediv_le_ediv (show 0 < k by omega) (show -y ≤ -x by omega)
  omega

theorem ediv_le_upQ {x k : Int} (hk : 1 ≤ k) : x / k ≤ upQ x k := by
  have h1 := Int.ediv_mul_le x (show k ≠ 0 by omega)
  have h2 := upQ_ge (x := x) hk
  exact Int.le_of_mul_le_mul_right (Int.le_trans h1 h2) (by omega)

/-- pLo, pHi at one positive factor. -/
theorem p_scale {a b n k : Int} (h : a ≤ b) (hn : 0 ≤ n) (hk : 1 ≤ k) : pLo a b n n k = a * n / k ∧ pHi a b n n k = upQ (b * n) k := by
  have h1 := Int.mul_le_mul_of_nonneg_right h hn
  have h2 := Int.ediv_le_ediv (show 0 < k by omega) h1
  have h3 := upQ_mono hk h1
  unfold pLo pHi
  omega

theorem scale_facts {a b n k : Int} (a1 : -1000000000 ≤ a) (a2 : a ≤ b) (a3 : b ≤ 1000000000) (n1 : 1 ≤ n) (n2 : n ≤ 1000) (k1 : 1 ≤ k) (k2 : k ≤ 1000) :
    -1000000000001 ≤ pLo a b n n k ∧ pLo a b n n k ≤ pHi a b n n k ∧ pHi a b n n k ≤ 1000000000001 ∧ pLo a b n n k * k ≤ a * n ∧ b * n ≤ pHi a b n n k * k := by
  obtain ⟨e1, e2⟩ := p_scale (n := n) (k := k) a2 (by omega) k1
  rw [e1, e2]
  have m1 := mul_bound (A := 1000000000) (C := 1000) a1 (show a ≤ 1000000000 by omega) (show -1000 ≤ n by omega) n2
  have m2 := mul_bound (A := 1000000000) (C := 1000) (show -1000000000 ≤ b by omega) a3 (show -1000 ≤ n by omega) n2
  have d1 := ediv_bounds (a * n) k k1 (m := 1000000000000) (by omega) (by omega)
  have d2 := upQ_bounds (x := b * n) k1 (m := 1000000000000) (by omega) (by omega)
  have h1 := Int.mul_le_mul_of_nonneg_right a2 (show 0 ≤ n by omega)
  have h2 := upQ_mono k1 h1
  have h3 := ediv_le_upQ (x := a * n) k1
  exact ⟨by omega, by omega, by omega, Int.ediv_mul_le _ (by omega), upQ_ge k1⟩

theorem scale_back {a b s t n k : Int} (g1 : -1000000000001 ≤ s) (g2 : s ≤ t) (g3 : t ≤ 1000000000001) (g4 : s * k ≤ a * n) (g5 : b * n ≤ t * k) (n1 : 1 ≤ n) (n2 : n ≤ 1000) (k1 : 1 ≤ k) (k2 : k ≤ 1000) :
    -1000000000001000 ≤ pLo s t k k n ∧ pLo s t k k n ≤ pHi s t k k n ∧ pHi s t k k n ≤ 1000000000001000 ∧ pLo s t k k n ≤ a ∧ b ≤ pHi s t k k n := by
  obtain ⟨e1, e2⟩ := p_scale (n := k) (k := n) g2 (by omega) n1
  rw [e1, e2]
  have m1 := mul_bound (A := 1000000000001) (C := 1000) g1 (show s ≤ 1000000000001 by omega) (show -1000 ≤ k by omega) k2
  have m2 := mul_bound (A := 1000000000001) (C := 1000) (show -1000000000001 ≤ t by omega) g3 (show -1000 ≤ k by omega) k2
  have d1 := ediv_bounds (s * k) n n1 (m := 1000000000001000) (by omega) (by omega)
  have d2 := upQ_bounds (x := t * k) n1 (m := 1000000000001000) (by omega) (by omega)
  have h1 := Int.mul_le_mul_of_nonneg_right g2 (show 0 ≤ k by omega)
  have h2 := upQ_mono n1 h1
  have h3 := ediv_le_upQ (x := s * k) n1
  have h4 := Int.ediv_mul_le (s * k) (show n ≠ 0 by omega)
  have h5 := upQ_ge (x := t * k) n1
  refine ⟨by omega, by omega, by omega, ?_, ?_⟩
  · exact Int.le_of_mul_le_mul_right (Int.le_trans h4 g4) (by omega)
  · exact Int.le_of_mul_le_mul_right (Int.le_trans g5 h5) (by omega)

/-- A quotient by positive numbers, and what it gives times the divisor. -/
theorem div_core {a b c d A : Int} (a1 : -A ≤ a) (a2 : a ≤ b) (a3 : b ≤ A) (hc : 1 ≤ c) (hcd : c ≤ d) :
    -A ≤ dLo a c d ∧ dLo a c d ≤ dHi b c d ∧ dHi b c d ≤ A ∧ (dLo a c d * c ≤ a ∨ dLo a c d * d ≤ a) ∧ (b ≤ dHi b c d * c ∨ b ≤ dHi b c d * d) := by
  have hd : 1 ≤ d := by omega
  have hA : 0 ≤ A := by omega
  unfold dLo dHi
  simp only [Int.mul_one]
  have b1 := ediv_bounds a c hc (m := A) a1 (by omega)
  have b2 := ediv_bounds a d hd (m := A) a1 (by omega)
  have b3 := upQ_bounds (x := b) hc (m := A) (by omega) a3
  have b4 := upQ_bounds (x := b) hd (m := A) (by omega) a3
  have l1 := Int.ediv_mul_le a (show c ≠ 0 by omega)
  have l2 := Int.ediv_mul_le a (show d ≠ 0 by omega)
  have u1 := upQ_ge (x := b) hc
  have u2 := upQ_ge (x := b) hd
  by_cases ha : 0 ≤ a
  · rw [if_pos ha, if_neg (by omega)]
    have q0 : 0 ≤ upQ b c := by
      have := upQ_mono hc (show (0 : Int) ≤ b by omega)
      have e : upQ 0 c = 0 := by unfold upQ; simp
      omega
    have q1 : upQ b c * c ≤ upQ b c * d := Int.mul_le_mul_of_nonneg_left hcd q0
    have q2 : a / d ≤ upQ b c := Int.le_of_mul_le_mul_right (show a / d * d ≤ upQ b c * d by omega) (by omega)
    exact ⟨by omega, q2, by omega, .inr l2, .inl u1⟩
  · rw [if_neg ha]
    have p0 : a / c ≤ -1 := by have := Int.ediv_neg_of_neg_of_pos (show a < 0 by omega) (show 0 < c by omega); omega
    by_cases hb : b < 0
    · rw [if_pos hb]
      have q0 : upQ b d ≤ 0 := by
        have := upQ_mono hd (show b ≤ (0 : Int) by omega)
        have e : upQ 0 d = 0 := by unfold upQ; simp
        omega
      have q1 : upQ b d * d ≤ upQ b d * c := Int.mul_le_mul_of_nonpos_left q0 hcd
      have q2 : a / c ≤ upQ b d := Int.le_of_mul_le_mul_right (show a / c * c ≤ upQ b d * c by omega) (by omega)
      exact ⟨by omega, q2, by omega, .inl l1, .inr u2⟩
    · rw [if_neg hb]
      have q0 : 0 ≤ upQ b c := by
        have := upQ_mono hc (show (0 : Int) ≤ b by omega)
        have e : upQ 0 c = 0 := by unfold upQ; simp
        omega
      exact ⟨by omega, by omega, by omega, .inl l1, .inl u1⟩

theorem div_facts_pos {a b c d A : Int} (a1 : -A ≤ a) (a2 : a ≤ b) (a3 : b ≤ A) (hc : 1 ≤ c) (hcd : c ≤ d) :
    -A ≤ dLo a c d ∧ dLo a c d ≤ dHi b c d ∧ dHi b c d ≤ A ∧ pLo (dLo a c d) (dHi b c d) c d 1 ≤ a ∧ b ≤ pHi (dLo a c d) (dHi b c d) c d 1 := by
  obtain ⟨h1, h2, h3, h4, h5⟩ := div_core a1 a2 a3 hc hcd
  refine ⟨h1, h2, h3, ?_, ?_⟩
  · rw [pLo_one]; omega
  · rw [pHi_one]; omega

theorem div_facts_neg {a b c d A : Int} (a1 : -A ≤ a) (a2 : a ≤ b) (a3 : b ≤ A) (hd : d ≤ -1) (hcd : c ≤ d) :
    -A ≤ dLo (-b) (-d) (-c) ∧ dLo (-b) (-d) (-c) ≤ dHi (-a) (-d) (-c) ∧ dHi (-a) (-d) (-c) ≤ A ∧ pLo (dLo (-b) (-d) (-c)) (dHi (-a) (-d) (-c)) c d 1 ≤ a ∧ b ≤ pHi (dLo (-b) (-d) (-c)) (dHi (-a) (-d) (-c)) c d 1 := by
  obtain ⟨h1, h2, h3, h4, h5⟩ := div_core (a := -b) (b := -a) (c := -d) (d := -c) (A := A) (by omega) (by omega) (by omega) (by omega) (by omega)
  simp only [Int.mul_neg] at h4 h5
  refine ⟨h1, h2, h3, ?_, ?_⟩
  · rw [pLo_one]; omega
  · rw [pHi_one]; omega

end Go.Proofs.Ytocdboopmfgkpaa
