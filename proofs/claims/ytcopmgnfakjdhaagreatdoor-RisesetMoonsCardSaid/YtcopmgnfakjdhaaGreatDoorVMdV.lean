/- RisesetMoons, plain: the height's span is narrow; the height a day behind a rising, and some hours later. -/
import Derived.Test.YtcopmgnfakjdhaaGreatDoorVMdU
namespace Go.Proofs.YtcopmgnfakjdhaaGreatDoor
set_option linter.unusedSimpArgs false
set_option linter.unusedVariables false
theorem tm_wide {a b c d A C : Int} (ab : a ≤ b) (cd : c ≤ d) (a1 : -A ≤ a) (b1 : b ≤ A) (c1 : -C ≤ c) (d1 : d ≤ C) : (tmHi a b c d - tmLo a b c d) * 1000000000 ≤ (b - a) * C + A * (d - c) + 2000000000 := by
  have pr : ∀ u v u' v' : Int, a ≤ u → u ≤ b → c ≤ v → v ≤ d → a ≤ u' → u' ≤ b → c ≤ v' → v' ≤ d → u * v - u' * v' ≤ (b - a) * C + A * (d - c) := by
    intro u v u' v' h1 h2 h3 h4 g1 g2 g3 g4
    have m1 := Nat.mul_le_mul (show (u - u').natAbs ≤ (b - a).natAbs by omega) (show v.natAbs ≤ C.natAbs by omega)
    have m2 := Nat.mul_le_mul (show u'.natAbs ≤ A.natAbs by omega) (show (v - v').natAbs ≤ (d - c).natAbs by omega)
    rw [← Int.natAbs_mul, ← Int.natAbs_mul] at m1 m2
    have p1 := Int.mul_nonneg (show 0 ≤ b - a by omega) (show 0 ≤ C by omega)
    have p2 := Int.mul_nonneg (show 0 ≤ A by omega) (show 0 ≤ d - c by omega)
    have id : u * v - u' * v' = (u - u') * v + u' * (v - v') := by rw [Int.sub_mul, Int.mul_sub]; omega
    rw [id]
    generalize (u - u') * v = x1 at *
    generalize u' * (v - v') = x2 at *
    generalize (b - a) * C = x3 at *
    generalize A * (d - c) = x4 at *
    omega
  have hi : ∃ u v : Int, a ≤ u ∧ u ≤ b ∧ c ≤ v ∧ v ≤ d ∧ tmHi a b c d = upQ (u * v) 1000000000 := by
    unfold tmHi pHi
    generalize hx1 : upQ (a * c) 1000000000 = x1
    generalize hx2 : upQ (a * d) 1000000000 = x2
    generalize hx3 : upQ (b * c) 1000000000 = x3
    generalize hx4 : upQ (b * d) 1000000000 = x4
    rcases (by omega : max (max (max (max x1 x1) x2) x3) x4 = x1 ∨ max (max (max (max x1 x1) x2) x3) x4 = x2 ∨ max (max (max (max x1 x1) x2) x3) x4 = x3 ∨ max (max (max (max x1 x1) x2) x3) x4 = x4) with h | h | h | h
    · exact ⟨a, c, by omega, ab, by omega, cd, by rw [h, hx1]⟩
    · exact ⟨a, d, by omega, ab, cd, by omega, by rw [h, hx2]⟩
    · exact ⟨b, c, ab, by omega, by omega, cd, by rw [h, hx3]⟩
    · exact ⟨b, d, ab, by omega, cd, by omega, by rw [h, hx4]⟩
  have lo : ∃ u v : Int, a ≤ u ∧ u ≤ b ∧ c ≤ v ∧ v ≤ d ∧ tmLo a b c d = u * v / 1000000000 := by
    unfold tmLo pLo
    generalize hx1 : a * c / 1000000000 = x1
    generalize hx2 : a * d / 1000000000 = x2
    generalize hx3 : b * c / 1000000000 = x3
    generalize hx4 : b * d / 1000000000 = x4
    rcases (by omega : min (min (min (min x1 x1) x2) x3) x4 = x1 ∨ min (min (min (min x1 x1) x2) x3) x4 = x2 ∨ min (min (min (min x1 x1) x2) x3) x4 = x3 ∨ min (min (min (min x1 x1) x2) x3) x4 = x4) with h | h | h | h
    · exact ⟨a, c, by omega, ab, by omega, cd, by rw [h, hx1]⟩
    · exact ⟨a, d, by omega, ab, cd, by omega, by rw [h, hx2]⟩
    · exact ⟨b, c, ab, by omega, by omega, cd, by rw [h, hx3]⟩
    · exact ⟨b, d, ab, by omega, cd, by omega, by rw [h, hx4]⟩
  obtain ⟨u, v, h1, h2, h3, h4, e1⟩ := hi
  obtain ⟨u', v', g1, g2, g3, g4, e2⟩ := lo
  have p := pr u v u' v' h1 h2 h3 h4 g1 g2 g3 g4
  rw [e1, e2]
  clear pr e1 e2
  unfold upQ
  generalize u * v = x1 at *
  generalize u' * v' = x2 at *
  generalize (b - a) * C + A * (d - c) = x3 at *
  omega
theorem kW_m : kW 320010 ≤ 2010700 ∧ kW 1470001 ≤ 9236300 := by
  have q := qq_b9
  unfold kW ra
  rw [show ((320010 : Int) : Rat) = 320010 from rfl, show ((1470001 : Int) : Rat) = 1470001 from rfl]
  generalize qq = p at *
  constructor <;> grind
theorem two_near {a b : Int} {x r : Rat} {W : Int} (h1 : Near (a : Rat) x r) (h2 : Near (b : Rat) x r) (hw : 2 * r ≤ (W : Rat)) : b - a ≤ W := by
  apply int_le_of_rat
  rw [Rat.intCast_sub]
  unfold Near at *
  grind
theorem md_thin {lon lat t : Int} (hs : -(588 / 1000) ≤ SN lat ∧ SN lat ≤ 588 / 1000) : rsHH lon lat 1 t - rsHL lon lat 1 t ≤ 26000000 := by
  have a : 0 ≤ mlLo t ∧ mlLo t < 1000000000 ∧ mlLo t ≤ mlHi t ∧ mlHi t ≤ 130000000000 := an_bd moonL_in
  have lw := ml_width t
  have bw := mb_width t
  have bb := mb_bd t
  have il : IvOk (mlLo t) (mlHi t) := ⟨by omega, by omega, by omega⟩
  have th1 := eq_thinA il (by omega) bw.1 (by omega) (by omega) (by omega)
  have th2 := dc_thin il (by omega) bw.1 (by omega) (by omega) (by omega)
  have sd := sd_bd lon t
  obtain ⟨la, be, -⟩ : ∃ la be : Rat, True := ⟨(mlLo t : Rat), (mbLo t : Rat), trivial⟩
  obtain ⟨al, de, E, a1, a2, c1, c2⟩ := up_ang (la := (mlLo t : Rat)) (be := (mbLo t : Rat)) il (by omega) bw.1 (by omega) (by omega) (by omega) Rat.le_refl (Rat.intCast_le_intCast.2 a.2.2.1) Rat.le_refl (Rat.intCast_le_intCast.2 bw.1)
  have o1 := int_le_of_rat (Rat.le_trans a1 a2)
  have o2 := int_le_of_rat (Rat.le_trans c1 c2)
  clear E a1 a2 c1 c2
  have eRL : raLo (mlLo t) (mlHi t) (mbLo t) (mbHi t) = mRL t := rfl
  have eRH : raHi (mlLo t) (mlHi t) (mbLo t) (mbHi t) = mRH t := rfl
  have eDL : dcLo (mlLo t) (mlHi t) (mbLo t) (mbHi t) = mDL t := rfl
  have eDH : dcHi (mlLo t) (mlHi t) (mbLo t) (mbHi t) = mDH t := rfl
  rw [eRL, eRH] at th1 o1
  rw [eDL, eDH] at th2 o2
  have ew : hhHi lon t (mRL t) - hhLo lon t (mRH t) ≤ 1470001 := by unfold hhHi hhLo; omega
  have eo : hhLo lon t (mRH t) ≤ hhHi lon t (mRL t) := by unfold hhHi hhLo; omega
  obtain ⟨k1, k2⟩ := kW_m
  obtain ⟨s1, s2⟩ := so_near (W := 320010) o2 th2 (by omega) (Int.le_refl _) o2
  obtain ⟨n1, n2⟩ := co_near (W := 320010) o2 th2 (by omega) (Int.le_refl _) o2
  obtain ⟨h1, h2⟩ := co_near (W := 1470001) eo ew (by omega) (Int.le_refl _) eo
  have w1 := two_near (W := 4021404) s1 s2 (by rw [show ((4021404 : Int) : Rat) = 4021404 from rfl]; grind)
  have w2 := two_near (W := 4021404) n1 n2 (by rw [show ((4021404 : Int) : Rat) = 4021404 from rfl]; grind)
  have w3 := two_near (W := 18472604) h1 h2 (by rw [show ((18472604 : Int) : Rat) = 18472604 from rfl]; grind)
  clear s1 s2 n1 n2 h1 h2 k1 k2
  have ss := sin_span lat; have cc := cos_span lat
  have y1 := ss.lo2; have y2 := ss.hi2; have y3 := cc.lo2; have y4 := cc.hi2
  have e1 : -588000002 ≤ sLo lat := by apply int_le_of_rat; rw [show ((-588000002 : Int) : Rat) = -588000002 from rfl]; grind
  have e2 : sHi lat ≤ 588000002 := by apply int_le_of_rat; rw [show ((588000002 : Int) : Rat) = 588000002 from rfl]; grind
  have e3 : sHi lat - sLo lat ≤ 3 := by apply int_le_of_rat; rw [Rat.intCast_sub, show ((3 : Int) : Rat) = 3 from rfl]; grind
  have e4 : cHi lat - cLo lat ≤ 3 := by apply int_le_of_rat; rw [Rat.intCast_sub, show ((3 : Int) : Rat) = 3 from rfl]; grind
  have st1 := s_tms lat; have st2 := c_tms lat
  have so := so_tms (mDL t) (mDH t); have co := co_tms (mDL t) (mDH t); have ch := co_tms (hhLo lon t (mRH t)) (hhHi lon t (mRL t))
  have nr := tm_tms (tms_of co ch)
  have f1 := tm_wide (A := 588000002) (C := 1000000000) st1.2.1 so.2.1 e1 e2 so.1 so.2.2
  have f2 := tm_wide (A := 1000000000) (C := 1000000000) co.2.1 ch.2.1 co.1 co.2.2 ch.1 ch.2.2
  have f3 := tm_wide (A := 1000000000) (C := 1000000000) st2.2.1 nr.2.1 st2.1 st2.2.2 nr.1 nr.2.2
  have g1 : rsHL lon lat 1 t = upLo lat (hhLo lon t (mRH t)) (hhHi lon t (mRL t)) (mDL t) (mDH t) := rfl
  have g2 : rsHH lon lat 1 t = upHi lat (hhLo lon t (mRH t)) (hhHi lon t (mRL t)) (mDL t) (mDH t) := rfl
  rw [g1, g2]
  unfold upLo upHi nrLo nrHi clLo clHi
  clear g1 g2 ss cc y1 y2 y3 y4 eRL eRH eDL eDH eo ew o1 o2 th1 th2 a lw bw bb il sd hs
  generalize soLo (mDL t) (mDH t) = x1 at *
  generalize soHi (mDL t) (mDH t) = x2 at *
  generalize coLo (mDL t) (mDH t) = x3 at *
  generalize coHi (mDL t) (mDH t) = x4 at *
  generalize coLo (hhLo lon t (mRH t)) (hhHi lon t (mRL t)) = x5 at *
  generalize coHi (hhLo lon t (mRH t)) (hhHi lon t (mRL t)) = x6 at *
  generalize tmLo x3 x4 x5 x6 = x7 at *
  generalize tmHi x3 x4 x5 x6 = x8 at *
  generalize sLo lat = x9 at *
  generalize sHi lat = x10 at *
  generalize cLo lat = x11 at *
  generalize cHi lat = x12 at *
  generalize tmLo x9 x10 x1 x2 = z1 at *
  generalize tmHi x9 x10 x1 x2 = z2 at *
  generalize tmLo x11 x12 x7 x8 = z3 at *
  generalize tmHi x11 x12 x7 x8 = z4 at *
  have q : z2 + z4 - (z1 + z3) ≤ 26000000 := by
    clear st1 st2 so co ch nr
    omega
  clear f1 f2 f3 w1 w2 w3
  omega
end Go.Proofs.YtcopmgnfakjdhaaGreatDoor
