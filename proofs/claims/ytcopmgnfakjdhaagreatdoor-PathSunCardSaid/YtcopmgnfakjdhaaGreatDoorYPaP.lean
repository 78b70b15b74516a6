/- path, plain: what Center hands back. -/
import Derived.Test.YtcopmgnfakjdhaaGreatDoorYTmBig
import Derived.Test.YtcopmgnfakjdhaaGreatDoorYDecs
namespace Go.Proofs.YtcopmgnfakjdhaaGreatDoor
set_option linter.unusedSimpArgs false
set_option linter.unusedVariables false
def isqF : Nat → Nat → Nat → Nat
  | 0, _, r => r
  | k + 1, n, r => if (r + 2 ^ k) * (r + 2 ^ k) ≤ n then isqF k n (r + 2 ^ k) else isqF k n r
theorem isqF_ok : ∀ (k n r : Nat), r * r ≤ n → n < (r + 2 ^ k) * (r + 2 ^ k) → (isqF k n r) * (isqF k n r) ≤ n ∧ n < (isqF k n r + 1) * (isqF k n r + 1)
  | 0, n, r, h1, h2 => by rw [Nat.pow_zero] at h2; exact ⟨h1, h2⟩
  | k + 1, n, r, h1, h2 => by
    unfold isqF
    split
    · rename_i c
      exact isqF_ok k n (r + 2 ^ k) c (by
        have e : r + 2 ^ k + 2 ^ k = r + 2 ^ (k + 1) := by rw [Nat.pow_succ]; omega
        rw [e]; exact h2)
    · rename_i c
      exact isqF_ok k n r h1 (by omega)
def isq (n : Int) : Int := ((isqF 30 n.toNat 0 : Nat) : Int)
theorem isq_ok {n : Int} (h0 : 0 ≤ n) (h1 : n ≤ 1000000000000000000) : 0 ≤ isq n ∧ isq n * isq n ≤ n ∧ n < (isq n + 1) * (isq n + 1) := by
  obtain ⟨a, b⟩ := isqF_ok 30 n.toNat 0 (by omega) (by rw [Nat.zero_add]; show n.toNat < 1073741824 * 1073741824; omega)
  unfold isq
  generalize isqF 30 n.toNat 0 = r at *
  have e1 : (r : Int) * (r : Int) = ((r * r : Nat) : Int) := (Int.natCast_mul r r).symm
  have e2 : ((r : Int) + 1) * ((r : Int) + 1) = (((r + 1) * (r + 1) : Nat) : Int) := by rw [Int.natCast_mul, Int.natCast_add]; rfl
  rw [e1, e2]
  generalize r * r = p at *
  generalize (r + 1) * (r + 1) = q at *
  omega
def rootHi (n : Int) : Int := if isq n * isq n < n then isq n + 1 else isq n
theorem root_is {a b : Int} (a0 : 0 ≤ a) (ab : a ≤ b) (b1 : b ≤ 1000000000000000000) : RootIs a b (isq a) (rootHi b) := by
  obtain ⟨p0, p1, p2⟩ := isq_ok a0 (by omega)
  obtain ⟨q0, q1, q2⟩ := isq_ok (n := b) (by omega) b1
  refine ⟨a0, ab, b1, p0, p1, p2, ?_, ?_, ?_⟩
  · unfold rootHi; split <;> omega
  · unfold rootHi; split
    · omega
    · omega
  · unfold rootHi
    split
    · right; rw [show isq b + 1 - 1 = isq b by omega]; assumption
    · rename_i c
      by_cases z : isq b = 0
      · exact .inl z
      · right
        have e : (isq b - 1) * (isq b - 1) = isq b * isq b - 2 * isq b + 1 := by rw [Int.sub_mul, Int.mul_sub]; omega
        rw [e]; omega
theorem root_bd {a b : Int} (a0 : 0 ≤ a) (ab : a ≤ b) (b1 : b ≤ 1000000000000000000) : 0 ≤ isq a ∧ isq a ≤ rootHi b ∧ rootHi b ≤ 1000000000 := by
  obtain ⟨p0, p1, p2⟩ := isq_ok a0 (by omega)
  obtain ⟨q0, q1, q2⟩ := isq_ok (n := b) (by omega) b1
  have h1 : isq a ≤ isq b := by
    apply Int.not_lt.1
    intro l
    have := Int.mul_le_mul (show isq b + 1 ≤ isq a by omega) (show isq b + 1 ≤ isq a by omega) (by omega) (by omega)
    omega
  have h2 : isq b ≤ 1000000000 := by
    apply Int.not_lt.1
    intro l
    have := Int.mul_le_mul (show 1000000001 ≤ isq b by omega) (show 1000000001 ≤ isq b by omega) (by omega) (by omega)
    omega
  refine ⟨p0, ?_, ?_⟩
  · unfold rootHi; split <;> omega
  · unfold rootHi
    split
    · rename_i c
      apply Int.not_lt.1
      intro l
      have e : isq b = 1000000000 := by omega
      rw [e] at c
      omega
    · exact h2
def oxO (t : Int) : Int := if 1000000000 < elLo t + elHi t then 1000000000 else 0
def oxLo (t : Int) : Int := 377 * (elLo t - oxO t)
def oxHi (t : Int) : Int := 377 * (elHi t - oxO t)
def oyLo (t : Int) : Int := 377 * mbLo t
def oyHi (t : Int) : Int := 377 * mbHi t
def sqrLo (a b : Int) : Int := if a ≤ 0 ∧ 0 ≤ b then 0 else tmLo a b a b
def sqrHi (a b : Int) : Int := tmHi a b a b
theorem el_width (t : Int) : elHi t - elLo t ≤ 44008 := by
  obtain ⟨k, a1, a2, a3, a4⟩ := el_at t
  exact lt_of_rat (x := elT (t : Rat) + 22000 + 4006 / 1000 - 1000000000 * (k : Rat)) (y := elT (t : Rat) - 22000 - 4006 / 1000 - 1000000000 * (k : Rat)) (by grind) (by grind) (by rw [show ((44008 : Int) : Rat) = 44008 from rfl]; grind)
theorem ox_bd (t : Int) : oxLo t ≤ oxHi t ∧ oxHi t - oxLo t ≤ 16591016 ∧ -189000000000 ≤ oxLo t ∧ oxHi t ≤ 189000000000 := by
  have a := el_bd t; have b := el_width t
  unfold oxLo oxHi oxO
  generalize elLo t = x at *
  generalize elHi t = y at *
  split <;> omega
theorem oy_bd (t : Int) : oyLo t ≤ oyHi t ∧ oyHi t - oyLo t ≤ 15080754 ∧ -6000000000 ≤ oyLo t ∧ oyHi t ≤ 6000000000 := by
  have a := mb_width t; have b := mb_bd t
  unfold oyLo oyHi
  generalize mbLo t = x at *
  generalize mbHi t = y at *
  omega
theorem sq_nonneg_i (x : Int) : 0 ≤ x * x := by
  rcases (by omega : 0 ≤ x ∨ x ≤ 0) with c | c
  · exact Int.mul_nonneg c c
  · exact Int.mul_nonneg_of_nonpos_of_nonpos c c
theorem upQ_ge (x : Int) : x ≤ upQ x 1000000000 * 1000000000 := by unfold upQ; omega
theorem sqr_bd {a b : Int} (h : a ≤ b) : 0 ≤ sqrLo a b ∧ sqrLo a b ≤ sqrHi a b ∧ a * a ≤ sqrHi a b * 1000000000 ∧ b * b ≤ sqrHi a b * 1000000000 := by
  have p := sq_nonneg_i a; have q := sq_nonneg_i b
  have ua := upQ_ge (a * a); have ub := upQ_ge (b * b)
  have da : a * a / 1000000000 ≤ upQ (a * a) 1000000000 := by unfold upQ; omega
  have m1 : upQ (a * a) 1000000000 ≤ sqrHi a b := by unfold sqrHi tmHi pHi; omega
  have m2 : upQ (b * b) 1000000000 ≤ sqrHi a b := by unfold sqrHi tmHi pHi; omega
  refine ⟨?_, ?_, by omega, by omega⟩
  · unfold sqrLo
    split
    · exact Int.le_refl _
    · rename_i c
      have r : 0 ≤ a * b := by
        rcases (by omega : 0 ≤ a ∨ b ≤ 0) with e | e
        · exact Int.mul_nonneg e (by omega)
        · exact Int.mul_nonneg_of_nonpos_of_nonpos (by omega) e
      have r2 : 0 ≤ b * a := by rw [Int.mul_comm]; exact r
      unfold tmLo pLo
      generalize a * a = x at *
      generalize b * b = y at *
      generalize a * b = z at *
      generalize b * a = z' at *
      clear ua ub da m1 m2
      omega
  · unfold sqrLo
    split
    · omega
    · have : tmLo a b a b ≤ a * a / 1000000000 := by unfold tmLo pLo; omega
      omega
theorem sq_le9 {x : Int} (h : x * x ≤ 1000000000000000000) : -1000000000 ≤ x ∧ x ≤ 1000000000 := by
  constructor
  · apply Int.not_lt.1
    intro l
    have := Int.mul_le_mul (show 1000000001 ≤ -x by omega) (show 1000000001 ≤ -x by omega) (by omega) (by omega)
    rw [Int.neg_mul_neg] at this
    omega
  · apply Int.not_lt.1
    intro l
    have := Int.mul_le_mul (show 1000000001 ≤ x by omega) (show 1000000001 ≤ x by omega) (by omega) (by omega)
    omega
theorem big_of {M N : Nat} {x y u v : Int} (hx : x.natAbs ≤ M) (hy : y.natAbs ≤ M) (hu : u.natAbs ≤ N) (hv : v.natAbs ≤ N) (h : M * N ≤ 9000000000000000000) : MulBig x y u v :=
  ⟨Nat.le_trans (Nat.mul_le_mul hx hu) h, Nat.le_trans (Nat.mul_le_mul hx hv) h, Nat.le_trans (Nat.mul_le_mul hy hu) h, Nat.le_trans (Nat.mul_le_mul hy hv) h⟩
theorem cap_two {u v : Int} (hu : -2000000000 ≤ u ∧ u ≤ 2000000000) (hv : -1000000000 ≤ v ∧ v ≤ 1000000000) : -2000000000 ≤ u * v / 1000000000 ∧ u * v / 1000000000 ≤ upQ (u * v) 1000000000 ∧ upQ (u * v) 1000000000 ≤ 2000000000 := by
  have m := Int.natAbs_mul u v
  have k := Nat.mul_le_mul (show u.natAbs ≤ 2000000000 by omega) (show v.natAbs ≤ 1000000000 by omega)
  unfold upQ
  generalize u * v = z at *
  omega
theorem tm_two {a b c d : Int} (ha : -2000000000 ≤ a) (ab : a ≤ b) (hb : b ≤ 2000000000) (hc : -1000000000 ≤ c) (cd : c ≤ d) (hd : d ≤ 1000000000) : -2000000000 ≤ tmLo a b c d ∧ tmLo a b c d ≤ tmHi a b c d ∧ tmHi a b c d ≤ 2000000000 := by
  have k1 := cap_two (u := a) (v := c) (by omega) (by omega)
  have k2 := cap_two (u := a) (v := d) (by omega) (by omega)
  have k3 := cap_two (u := b) (v := c) (by omega) (by omega)
  have k4 := cap_two (u := b) (v := d) (by omega) (by omega)
  unfold tmLo tmHi pLo pHi
  omega
def smLo (t : Int) : Int := sqrLo (oxLo t) (oxHi t) + sqrLo (oyLo t) (oyHi t)
def smHi (t : Int) : Int := sqrHi (oxLo t) (oxHi t) + sqrHi (oyLo t) (oyHi t)
def zzLo (t : Int) : Int := isq ((1000000000 - smHi t) * 1000000000)
def zzHi (t : Int) : Int := rootHi ((1000000000 - smLo t) * 1000000000)
def sS1 (t : Int) : Int := soLo (slLo t) (slHi t)
def sS2 (t : Int) : Int := soHi (slLo t) (slHi t)
def sC1 (t : Int) : Int := coLo (slLo t) (slHi t)
def sC2 (t : Int) : Int := coHi (slLo t) (slHi t)
def vvLo (t : Int) : Int := tmLo (zzLo t) (zzHi t) (sS1 t) (sS2 t) + tmLo (oxLo t) (oxHi t) (sC1 t) (sC2 t)
def vvHi (t : Int) : Int := tmHi (zzLo t) (zzHi t) (sS1 t) (sS2 t) + tmHi (oxLo t) (oxHi t) (sC1 t) (sC2 t)
def c1Lo (t : Int) : Int := tmLo (zzLo t) (zzHi t) (sC1 t) (sC2 t) - tmHi (oxLo t) (oxHi t) (sS1 t) (sS2 t)
def c1Hi (t : Int) : Int := tmHi (zzLo t) (zzHi t) (sC1 t) (sC2 t) - tmLo (oxLo t) (oxHi t) (sS1 t) (sS2 t)
def c2Lo (t : Int) : Int := tmLo (vvLo t) (vvHi t) (cLo 65109000) (cHi 65109000) - tmHi (oyLo t) (oyHi t) (sLo 65109000) (sHi 65109000)
def c2Hi (t : Int) : Int := tmHi (vvLo t) (vvHi t) (cLo 65109000) (cHi 65109000) - tmLo (oyLo t) (oyHi t) (sLo 65109000) (sHi 65109000)
def c3Lo (t : Int) : Int := tmLo (vvLo t) (vvHi t) (sLo 65109000) (sHi 65109000) + tmLo (oyLo t) (oyHi t) (cLo 65109000) (cHi 65109000)
def c3Hi (t : Int) : Int := tmHi (vvLo t) (vvHi t) (sLo 65109000) (sHi 65109000) + tmHi (oyLo t) (oyHi t) (cLo 65109000) (cHi 65109000)
structure PaR where
  at' : Int
  l1 : Int
  l2 : Int
  b1 : Int
  b2 : Int
  e : Int
def paE (e : Int) : PaR := ⟨0, 0, 0, 0, 0, e⟩
def ceFar (t : Int) : Prop := 2000000000 < oxLo t ∨ oxHi t < -2000000000 ∨ 2000000000 < oyLo t ∨ oyHi t < -2000000000
instance (t : Int) : Decidable (ceFar t) := by unfold ceFar; exact inferInstance
def ceNo (t : Int) : Prop := c2Lo t ≤ 0 ∧ 0 ≤ c2Hi t ∧ c1Lo t ≤ 0 ∧ 0 ≤ c1Hi t
instance (t : Int) : Decidable (ceNo t) := by unfold ceNo; exact inferInstance
def caLo (t : Int) : Int := arcLo (c2Lo t) (c2Hi t) (c1Lo t) (c1Hi t)
def caHi (t : Int) : Int := arcHi (c2Lo t) (c2Hi t) (c1Lo t) (c1Hi t)
def cR1 (t : Int) : Int := caLo t % 1000000000
def cR2 (t : Int) : Int := caLo t % 1000000000 + caHi t - caLo t
def ceF (t : Int) : PaR := if ceFar t then paE 6 else if 1000000000 < smLo t then paE 6 else if 1000000000 < smHi t then paE 11 else if ceNo t then paE 11 else if 400000000 < caHi t - caLo t then paE 11
  else ⟨t, lsLo (cR1 t) (cR2 t) (sdLo 0 t) (sdHi 0 t), lsHi (cR1 t) (cR2 t) (sdLo 0 t) (sdHi 0 t), asLo (clT (c3Lo t)), asHi (clT (c3Hi t)), 0⟩
structure CeIn (t : Int) : Prop where
  x1 : -1000000000 ≤ oxLo t
  x2 : oxHi t ≤ 1000000000
  y1 : -1000000000 ≤ oyLo t
  y2 : oyHi t ≤ 1000000000
  s0 : 0 ≤ smLo t
  s1 : smLo t ≤ smHi t
  s2 : smHi t ≤ 1000000000
theorem ce_in {t : Int} (h : ¬ 1000000000 < smHi t) : CeIn t := by
  have x := ox_bd t; have y := oy_bd t
  have sx := sqr_bd x.1; have sy := sqr_bd y.1
  unfold smHi at h
  obtain ⟨a1, a2⟩ := sq_le9 (x := oxLo t) (by omega)
  obtain ⟨b1, b2⟩ := sq_le9 (x := oxHi t) (by omega)
  obtain ⟨c1, c2⟩ := sq_le9 (x := oyLo t) (by omega)
  obtain ⟨d1, d2⟩ := sq_le9 (x := oyHi t) (by omega)
  refine ⟨a1, b2, c1, d2, ?_, ?_, ?_⟩
  · unfold smLo; omega
  · unfold smLo smHi; omega
  · unfold smHi; omega
structure CeBd (t : Int) : Prop where
  i : CeIn t
  z0 : 0 ≤ zzLo t
  z1 : zzLo t ≤ zzHi t
  z2 : zzHi t ≤ 1000000000
  root : RootIs ((1000000000 - smHi t) * 1000000000) ((1000000000 - smLo t) * 1000000000) (zzLo t) (zzHi t)
  v : -2000000000 ≤ vvLo t ∧ vvLo t ≤ vvHi t ∧ vvHi t ≤ 2000000000
  f1 : -2000000000 ≤ c1Lo t ∧ c1Lo t ≤ c1Hi t ∧ c1Hi t ≤ 2000000000
  f2 : -3000000000 ≤ c2Lo t ∧ c2Lo t ≤ c2Hi t ∧ c2Hi t ≤ 3000000000
  f3 : -3000000000 ≤ c3Lo t ∧ c3Lo t ≤ c3Hi t ∧ c3Hi t ≤ 3000000000
theorem ce_bd {t : Int} (h : ¬ 1000000000 < smHi t) : CeBd t := by
  have I := ce_in h
  have x := ox_bd t; have y := oy_bd t
  obtain ⟨x1, x2, y1, y2, s0, s1, s2⟩ := I
  have Z := root_bd (a := (1000000000 - smHi t) * 1000000000) (b := (1000000000 - smLo t) * 1000000000) (by omega) (by omega) (by omega)
  have R := root_is (a := (1000000000 - smHi t) * 1000000000) (b := (1000000000 - smLo t) * 1000000000) (by omega) (by omega) (by omega)
  have zt : -1000000000 ≤ zzLo t ∧ zzLo t ≤ zzHi t ∧ zzHi t ≤ 1000000000 := by unfold zzLo zzHi; omega
  have xt : -1000000000 ≤ oxLo t ∧ oxLo t ≤ oxHi t ∧ oxHi t ≤ 1000000000 := ⟨x1, x.1, x2⟩
  have yt : -1000000000 ≤ oyLo t ∧ oyLo t ≤ oyHi t ∧ oyHi t ≤ 1000000000 := ⟨y1, y.1, y2⟩
  have st : -1000000000 ≤ sS1 t ∧ sS1 t ≤ sS2 t ∧ sS2 t ≤ 1000000000 := so_tms _ _
  have ct : -1000000000 ≤ sC1 t ∧ sC1 t ≤ sC2 t ∧ sC2 t ≤ 1000000000 := co_tms _ _
  have a1 := tm_tms (tms_of zt st); have a2 := tm_tms (tms_of xt ct); have a3 := tm_tms (tms_of zt ct); have a4 := tm_tms (tms_of xt st)
  have v : -2000000000 ≤ vvLo t ∧ vvLo t ≤ vvHi t ∧ vvHi t ≤ 2000000000 := by unfold vvLo vvHi; omega
  have se := s_tms 65109000; have ce := c_tms 65109000
  have b1 := tm_two v.1 v.2.1 v.2.2 ce.1 ce.2.1 ce.2.2
  have b2 := tm_two v.1 v.2.1 v.2.2 se.1 se.2.1 se.2.2
  have b3 := tm_tms (tms_of yt se); have b4 := tm_tms (tms_of yt ce)
  exact ⟨⟨x1, x2, y1, y2, s0, s1, s2⟩, by unfold zzLo; omega, zt.2.1, zt.2.2, R, v, by unfold c1Lo c1Hi; omega, by unfold c2Lo c2Hi; omega, by unfold c3Lo c3Hi; omega⟩
theorem ce_arc {t : Int} (h : ¬ 1000000000 < smHi t) (no : ¬ ceNo t) : ArcIn (c2Lo t) (c2Hi t) (c1Lo t) (c1Hi t) := by
  have B := ce_bd h
  have f1 := B.f1; have f2 := B.f2
  exact ⟨⟨by omega, by omega⟩, ⟨by omega, by omega⟩, ⟨by omega, by omega⟩, ⟨by omega, by omega⟩, f2.2.1, f1.2.1, no⟩
end Go.Proofs.YtcopmgnfakjdhaaGreatDoor
