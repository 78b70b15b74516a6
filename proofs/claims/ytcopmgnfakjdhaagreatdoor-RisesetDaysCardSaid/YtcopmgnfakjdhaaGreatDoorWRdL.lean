/- RisesetDays, plain: the sun is surely above at the middle; the law. -/
import Derived.Test.YtcopmgnfakjdhaaGreatDoorWRdR
namespace Go.Proofs.YtcopmgnfakjdhaaGreatDoor
set_option linter.unusedSimpArgs false
set_option linter.unusedVariables false
theorem tm_ge {a b c d A C : Int} (A0 : 0 ≤ A) (a1 : A ≤ a) (ab : a ≤ b) (C0 : 0 ≤ C) (c1 : C ≤ c) (cd : c ≤ d) : A * C / 1000000000 ≤ tmLo a b c d := by
  have m1 := Int.mul_le_mul a1 c1 C0 (by omega)
  have m2 := Int.mul_le_mul a1 (show C ≤ d by omega) C0 (by omega)
  have m3 := Int.mul_le_mul (show A ≤ b by omega) c1 C0 (by omega)
  have m4 := Int.mul_le_mul (show A ≤ b by omega) (show C ≤ d by omega) C0 (by omega)
  unfold tmLo pLo
  generalize a * c = x1 at *
  generalize a * d = x2 at *
  generalize b * c = x3 at *
  generalize b * d = x4 at *
  generalize A * C = x5 at *
  omega
theorem tm_low {a b c d A C : Int} (a1 : -A ≤ a) (ab : a ≤ b) (b1 : b ≤ A) (c1 : -C ≤ c) (cd : c ≤ d) (d1 : d ≤ C) : -(A * C) / 1000000000 ≤ tmLo a b c d := by
  have pr : ∀ u v : Int, -A ≤ u → u ≤ A → -C ≤ v → v ≤ C → -(A * C) ≤ u * v := by
    intro u v h1 h2 h3 h4
    have m := Nat.mul_le_mul (show u.natAbs ≤ A.natAbs by omega) (show v.natAbs ≤ C.natAbs by omega)
    rw [← Int.natAbs_mul, ← Int.natAbs_mul] at m
    have p := Int.mul_nonneg (show 0 ≤ A by omega) (show 0 ≤ C by omega)
    generalize u * v = z at *
    generalize A * C = z' at *
    omega
  have m1 := pr a c (by omega) (by omega) (by omega) (by omega)
  have m2 := pr a d (by omega) (by omega) (by omega) (by omega)
  have m3 := pr b c (by omega) (by omega) (by omega) (by omega)
  have m4 := pr b d (by omega) (by omega) (by omega) (by omega)
  unfold tmLo pLo
  generalize a * c = x1 at *
  generalize a * d = x2 at *
  generalize b * c = x3 at *
  generalize b * d = x4 at *
  generalize A * C = x5 at *
  omega
theorem rd_dec {a b : Int} (h1 : -65116000 ≤ a) (h : a ≤ b) (h2 : b ≤ 65116000) : -410000000 ≤ soLo a b ∧ soHi a b ≤ 410000000 ∧ 910000000 ≤ coLo a b := by
  have q := qq_b9
  have r : ra 65116000 ≤ 40914 / 100000 := by unfold ra; generalize qq = p at *; grind
  have one : ∀ x : Int, -65116000 ≤ x → x ≤ 65116000 → -410000000 ≤ sLo x ∧ sHi x ≤ 410000000 ∧ 910000000 ≤ sLo (x + 250000000) := by
    intro x g1 g2
    have k1 := Rat.intCast_le_intCast.2 g1
    have k2 := Rat.intCast_le_intCast.2 g2
    rw [show ((-65116000 : Int) : Rat) = -65116000 from rfl] at k1
    rw [show ((65116000 : Int) : Rat) = 65116000 from rfl] at k2
    have l := (SA_lipD (y := 0) (d := (x : Rat)) (D := 65116000) ⟨k1, k2⟩).1
    rw [show (0 : Rat) + (x : Rat) = (x : Rat) by grind, SA_0] at l
    have b : -(4092 / 10000) ≤ SA (x : Rat) ∧ SA (x : Rat) ≤ 4092 / 10000 := by unfold Near at l; constructor <;> grind
    have p := SA_pyth (x : Rat)
    have s2 := sq_le b
    have c0 := ca_pos (x := (x : Rat)) (by grind) (by grind)
    have c1 : 912 / 1000 ≤ CA (x : Rat) := by
      apply Rat.not_lt.1
      intro l
      have bb : -(912 / 1000) ≤ CA (x : Rat) ∧ CA (x : Rat) ≤ 912 / 1000 := by constructor <;> grind
      have m := sq_le bb
      unfold Near ep at p
      grind
    have n1 := sine_in x
    have n2 := sine_in (x + 250000000)
    have cs := CA_SA (x : Rat)
    have e : SN (x + 250000000) = SA ((x : Rat) + 250000000) := by rw [← SA_int, Rat.intCast_add]; rfl
    have e1 : SN x = SA (x : Rat) := (SA_int x).symm
    have u1 := n1.lo2; have u2 := n1.hi2; have u3 := n2.lo2
    rw [e1] at u1 u2
    rw [e] at u3
    unfold Near e2 at cs
    refine ⟨?_, ?_, ?_⟩
    · apply int_le_of_rat; rw [show ((-410000000 : Int) : Rat) = -410000000 from rfl]; grind
    · apply int_le_of_rat; rw [show ((410000000 : Int) : Rat) = 410000000 from rfl]; grind
    · apply int_le_of_rat; rw [show ((910000000 : Int) : Rat) = 910000000 from rfl]; grind
  obtain ⟨a1, a2, a3⟩ := one a h1 (by omega)
  obtain ⟨b1, b2, b3⟩ := one b (by omega) h2
  refine ⟨?_, ?_, ?_⟩
  · unfold soLo
    rw [if_neg (by unfold conB; omega)]
    omega
  · unfold soHi
    rw [if_neg (by unfold conB; omega)]
    omega
  · unfold coLo soLo
    have e : min (b - a) 2000000000 = b - a := by omega
    rw [e]
    have c1 := (s_congr (a := a % 1000000000 + 250000000) (b := a + 250000000) (by omega)).1
    have c2 := (s_congr (a := a % 1000000000 + 250000000 + (b - a)) (b := b + 250000000) (by omega)).1
    rw [if_neg (by unfold conB; omega), c1, c2]
    omega
theorem eq_thin {l1 l2 b1 b2 : Int} (il : IvOk l1 l2) (hlw : l2 - l1 ≤ 40010) (hb : b1 ≤ b2) (hbw : b2 - b1 ≤ 40010) (h1 : -15900000 ≤ b1) (h2 : b2 ≤ 15900000) : raHi l1 l2 b1 b2 - raLo l1 l2 b1 b2 ≤ 20000000 := by
  have hl := il.m
  have O := eq_ok il hlw hb hbw h1 h2
  obtain ⟨xl, xh, yl, yh, zl, zh⟩ := eq_near hl hlw hb hbw (Int.le_refl l1) hl (Int.le_refl b1) hb
  have X := eqX_bd l1 l2 b1 b2; have Y := eqY_bd l1 l2 b1 b2
  clear zl zh
  have far : ∀ {A B : Rat}, (-A ≤ dX l1 b1 ∧ dX l1 b1 ≤ A) → (-B ≤ dY l1 b1 ∧ dY l1 b1 ≤ B) → 850000000 ≤ A + B := fun hA hB => xy_far ⟨h1, by omega⟩ hA hB
  have nx := nab_bd' (eqXL l1 l2 b1 b2); have ny := nab_bd' (eqYL l1 l2 b1 b2)
  have f := far (A := ((eqXL l1 l2 b1 b2).natAbs : Rat) + 526000) (B := ((eqYL l1 l2 b1 b2).natAbs : Rat) + 800000) (by unfold Near at xl; grind) (by unfold Near at yl; grind)
  have E1 : eqYH l1 l2 b1 b2 - eqYL l1 l2 b1 b2 ≤ 1600000 := by
    apply int_le_of_rat
    rw [Rat.intCast_sub, show ((1600000 : Int) : Rat) = 1600000 from rfl]
    unfold Near at yl yh
    grind
  have E2 : eqXH l1 l2 b1 b2 - eqXL l1 l2 b1 b2 ≤ 1600000 := by
    apply int_le_of_rat
    rw [Rat.intCast_sub, show ((1600000 : Int) : Rat) = 1600000 from rfl]
    unfold Near at xl xh
    grind
  have E3 : 640000000 ≤ ((eqXL l1 l2 b1 b2).natAbs + (eqYL l1 l2 b1 b2).natAbs : Nat) := by
    have : (640000000 : Int) ≤ ((eqXL l1 l2 b1 b2).natAbs + (eqYL l1 l2 b1 b2).natAbs : Nat) := by
      apply int_le_of_rat
      rw [Rat.intCast_natCast, Rat.natCast_add, show ((640000000 : Int) : Rat) = 640000000 from rfl]
      grind
    omega
  clear far nx ny f xl xh yl yh
  have n := arc_narrow (a := eqYL l1 l2 b1 b2) (b := eqYH l1 l2 b1 b2) (c := eqXL l1 l2 b1 b2) (d := eqXH l1 l2 b1 b2) (E := 1600000) ⟨⟨by omega, by omega⟩, ⟨by omega, by omega⟩, ⟨by omega, by omega⟩, ⟨by omega, by omega⟩, Y.2.1, X.2.1, O.no⟩ (by omega) E1 E2 (by omega)
  unfold raHi raLo
  generalize arcHi (eqYL l1 l2 b1 b2) (eqYH l1 l2 b1 b2) (eqXL l1 l2 b1 b2) (eqXH l1 l2 b1 b2) = p at *
  generalize arcLo (eqYL l1 l2 b1 b2) (eqYH l1 l2 b1 b2) (eqXL l1 l2 b1 b2) (eqXH l1 l2 b1 b2) = q at *
  clear E1 E2 E3 X Y O
  omega
theorem kW_2 : 0 ≤ kW 20000001 ∧ kW 20000001 ≤ 125665000 := by
  have q := qq_b9
  unfold kW ra
  rw [show ((20000001 : Int) : Rat) = 20000001 from rfl]
  generalize qq = p at *
  constructor <;> grind
theorem rd_lo {lon lat t : Int} (hl : -150000000 < lat ∧ lat < 150000000) (hw : -(66 / 1000) ≤ dW (thT lon (t : Rat)) (sunT (t : Rat)) ∧ dW (thT lon (t : Rat)) (sunT (t : Rat)) ≤ 66 / 1000) (he : 64 / 100 ≤ dE (thT lon (t : Rat)) (sunT (t : Rat))) : abF lon lat 0 t = 1 := by
  have a : 0 ≤ slLo t ∧ slLo t < 1000000000 ∧ slLo t ≤ slHi t ∧ slHi t ≤ 130000000000 := an_bd sun_in
  have b := sl_width t
  obtain ⟨k, k1, k2⟩ := th_in lon t
  obtain ⟨j, j1, j2⟩ := su_in t
  have z0 : ((0 : Int) : Rat) = 0 := rfl
  obtain ⟨al, de, E, a1, a2, c1, c2⟩ := up_ang (b1 := 0) (b2 := 0) (be := 0) ⟨by omega, by omega, by omega⟩ (by omega) (by omega) (by omega) (by omega) (by omega) j1 j2 (by rw [z0]; grind) (by rw [z0]; grind)
  have thin := eq_thin (l1 := slLo t) (l2 := slHi t) (b1 := 0) (b2 := 0) ⟨by omega, by omega, by omega⟩ (by omega) (by omega) (by omega) (by omega) (by omega)
  have sd := sd_bd lon t
  have dd := sun_dec t
  obtain ⟨qx, qy, qz⟩ := q_turn (sunT (t : Rat)) j
  have ex := E.nx; have ey := E.ny
  rw [qx] at ex; rw [qy] at ey
  clear E qx qy qz
  have dle : sDL t ≤ sDH t := by
    apply int_le_of_rat
    exact Rat.le_trans c1 c2
  have r1 := Rat.intCast_le_intCast.2 dd.1
  have r2 := Rat.intCast_le_intCast.2 dd.2
  rw [show ((-65116000 : Int) : Rat) = -65116000 from rfl] at r1
  rw [show ((65116000 : Int) : Rat) = 65116000 from rfl] at r2
  have eDL : dcLo (slLo t) (slHi t) 0 0 = sDL t := rfl
  have eDH : dcHi (slLo t) (slHi t) 0 0 = sDH t := rfl
  have eRL : raLo (slLo t) (slHi t) 0 0 = sRL t := rfl
  have eRH : raHi (slLo t) (slHi t) 0 0 = sRH t := rfl
  rw [eDL] at c1; rw [eDH] at c2; rw [eRL] at a1 thin; rw [eRH] at a2 thin
  have d1 : -65116000 ≤ de := by grind
  have d2 : de ≤ 65116000 := by grind
  obtain ⟨i, hi⟩ : ∃ i, i = thT lon (t : Rat) + -al := ⟨_, rfl⟩
  obtain ⟨A, B⟩ := SCA_add (thT lon (t : Rat)) (-al)
  obtain ⟨n1, n2⟩ := SCA_neg al
  rw [← hi] at A B
  have st := SA_1 (thT lon (t : Rat)); have sa := SA_1 al; have sde := SA_1 de; have si := SA_1 i
  obtain ⟨T, hT⟩ : ∃ T, T = thT lon (t : Rat) := ⟨_, rfl⟩
  unfold dE at he
  unfold dW at hw
  rw [← hT] at A B st he hw hi k1 k2
  have m1 := rmul_bd (a := CA T) (b := CA (-al) - CA al) (A := 10001 / 10000) (B := e2) st.2 (by unfold Near at n2; constructor <;> grind)
  have m2 := rmul_bd (a := SA T) (b := SA (-al) - -SA al) (A := 10001 / 10000) (B := e2) st.1 (by unfold Near at n1; constructor <;> grind)
  have m3 := rmul_bd (a := SA T) (b := CA (-al) - CA al) (A := 10001 / 10000) (B := e2) st.1 (by unfold Near at n2; constructor <;> grind)
  have m4 := rmul_bd (a := CA T) (b := SA (-al) - -SA al) (A := 10001 / 10000) (B := e2) st.2 (by unfold Near at n1; constructor <;> grind)
  have hC : -(1 / 1000000000000000000000000) ≤ CA i - (CA T * CA al + SA T * SA al) ∧ CA i - (CA T * CA al + SA T * SA al) ≤ 1 / 1000000000000000000000000 := by
    rw [show CA T * (CA (-al) - CA al) = CA T * CA (-al) - CA T * CA al by grind] at m1
    rw [show SA T * (SA (-al) - -SA al) = SA T * SA (-al) + SA T * SA al by grind] at m2
    clear ex ey m3 m4 n1 n2 st sa sde si A he hw
    unfold Near e2 at *
    generalize CA T * CA (-al) = v1 at *
    generalize CA T * CA al = v2 at *
    generalize SA T * SA (-al) = v3 at *
    generalize SA T * SA al = v4 at *
    constructor <;> grind
  have hS' : -(1 / 1000000000000000000000000) ≤ SA i - (SA T * CA al - CA T * SA al) ∧ SA i - (SA T * CA al - CA T * SA al) ≤ 1 / 1000000000000000000000000 := by
    rw [show SA T * (CA (-al) - CA al) = SA T * CA (-al) - SA T * CA al by grind] at m3
    rw [show CA T * (SA (-al) - -SA al) = CA T * SA (-al) + CA T * SA al by grind] at m4
    clear ex ey m1 m2 n1 n2 st sa sde si B he hw hC
    unfold Near e2 at *
    generalize SA T * CA (-al) = v1 at *
    generalize SA T * CA al = v2 at *
    generalize CA T * SA (-al) = v3 at *
    generalize CA T * SA al = v4 at *
    constructor <;> grind
  have p1 := rmul_bd (a := CA de) (b := CA i - (CA T * CA al + SA T * SA al)) (A := 10001 / 10000) (B := 1 / 1000000000000000000000000) sde.2 hC
  have p2 := rmul_bd (a := CA de) (b := SA i - (SA T * CA al - CA T * SA al)) (A := 10001 / 10000) (B := 1 / 1000000000000000000000000) sde.2 hS'
  have p3 := rmul_bd (a := CA T) (b := CA de * CA al - qX (sunT (t : Rat)) 0) (A := 10001 / 10000) (B := 1 / 100000000000000) st.2 (by unfold Near at ex; constructor <;> grind)
  have p4 := rmul_bd (a := SA T) (b := CA de * SA al - qY (sunT (t : Rat)) 0) (A := 10001 / 10000) (B := 1 / 100000000000000) st.1 (by unfold Near at ey; constructor <;> grind)
  have p5 := rmul_bd (a := SA T) (b := CA de * CA al - qX (sunT (t : Rat)) 0) (A := 10001 / 10000) (B := 1 / 100000000000000) st.1 (by unfold Near at ex; constructor <;> grind)
  have p6 := rmul_bd (a := CA T) (b := CA de * SA al - qY (sunT (t : Rat)) 0) (A := 10001 / 10000) (B := 1 / 100000000000000) st.2 (by unfold Near at ey; constructor <;> grind)
  have gC : 639 / 1000 ≤ CA de * CA i := by
    have id : CA de * CA i = CA de * (CA i - (CA T * CA al + SA T * SA al)) + CA T * (CA de * CA al - qX (sunT (t : Rat)) 0) + SA T * (CA de * SA al - qY (sunT (t : Rat)) 0) + (CA T * qX (sunT (t : Rat)) 0 + SA T * qY (sunT (t : Rat)) 0) := by grind
    rw [id]
    clear id ex ey hC hS' m1 m2 m3 m4 A B n1 n2 p2 p5 p6 hw
    grind
  have gS : -(661 / 10000) ≤ CA de * SA i ∧ CA de * SA i ≤ 661 / 10000 := by
    have id : CA de * SA i = CA de * (SA i - (SA T * CA al - CA T * SA al)) + SA T * (CA de * CA al - qX (sunT (t : Rat)) 0) - CA T * (CA de * SA al - qY (sunT (t : Rat)) 0) + (SA T * qX (sunT (t : Rat)) 0 - CA T * qY (sunT (t : Rat)) 0) := by grind
    rw [id]
    clear id ex ey hC hS' m1 m2 m3 m4 A B n1 n2 p1 p3 p4 he gC
    constructor <;> grind
  clear p1 p2 p3 p4 p5 p6 hC hS' m1 m2 m3 m4 A B n1 n2 ex ey he hw
  have cd : 9 / 10 ≤ CA de := by
    have q := qq_b9
    have r : ra 65116000 ≤ 40914 / 100000 := by unfold ra; generalize qq = p at *; grind
    have l := (SA_lipD (y := 0) (d := de) (D := 65116000) ⟨d1, d2⟩).1
    rw [show (0 : Rat) + de = de by grind, SA_0] at l
    have bb : -(4092 / 10000) ≤ SA de ∧ SA de ≤ 4092 / 10000 := by unfold Near at l; constructor <;> grind
    have p := SA_pyth de
    have s2 := sq_le bb
    have c0 := ca_pos (x := de) (by grind) (by grind)
    apply Rat.not_lt.1
    intro l
    have b2 : -(9 / 10) ≤ CA de ∧ CA de ≤ 9 / 10 := by constructor <;> grind
    have m := sq_le b2
    unfold Near ep at p
    grind
  have ci0 : 0 ≤ CA i := by
    apply Rat.not_lt.1
    intro l
    have m := Rat.mul_nonneg (show 0 ≤ -CA i by grind) (show 0 ≤ CA de by grind)
    rw [show -CA i * CA de = -(CA de * CA i) by grind] at m
    grind
  have sb : -(74 / 1000) ≤ SA i ∧ SA i ≤ 74 / 1000 := by
    constructor
    · apply Rat.not_lt.1
      intro l
      have m := Rat.mul_le_mul_of_nonneg_right cd (show 0 ≤ -SA i by grind)
      rw [show CA de * -SA i = -(CA de * SA i) by grind] at m
      grind
    · apply Rat.not_lt.1
      intro l
      have m := Rat.mul_le_mul_of_nonneg_right cd (show 0 ≤ SA i by grind)
      grind
  have ci : 99 / 100 ≤ CA i := by
    have p := SA_pyth i
    have s2 := sq_le sb
    apply Rat.not_lt.1
    intro l
    have b2 : -(99 / 100) ≤ CA i ∧ CA i ≤ 99 / 100 := by constructor <;> grind
    have m := sq_le b2
    unfold Near ep at p
    grind
  have ew : hhHi lon t (sRL t) - hhLo lon t (sRH t) ≤ 20000001 := by unfold hhHi hhLo; omega
  have eo : hhLo lon t (sRH t) ≤ hhHi lon t (sRL t) := by
    have g := Rat.le_trans a1 a2
    have g' := int_le_of_rat g
    unfold hhHi hhLo; omega
  have i1 : (hhLo lon t (sRH t) : Rat) ≤ i + 1000000000 * (k : Rat) := by unfold hhLo; rw [Rat.intCast_sub]; grind
  have i2 : i + 1000000000 * (k : Rat) ≤ (hhHi lon t (sRL t) : Rat) := by unfold hhHi; rw [Rat.intCast_sub]; grind
  have ew' := Rat.intCast_le_intCast.2 ew
  rw [Rat.intCast_sub, show ((20000001 : Int) : Rat) = 20000001 from rfl] at ew'
  have lp := (SA_lipD (y := i + 1000000000 * (k : Rat)) (d := (hhLo lon t (sRH t) : Rat) - (i + 1000000000 * (k : Rat))) (D := 20000001) (by constructor <;> grind)).2
  rw [show i + 1000000000 * (k : Rat) + ((hhLo lon t (sRH t) : Rat) - (i + 1000000000 * (k : Rat))) = (hhLo lon t (sRH t) : Rat) by grind, CA_turn, CA_int] at lp
  have kw := kW_2
  have rr : ra 20000001 ≤ 125665 / 1000000 := by
    have q := qq_b9
    unfold ra; generalize qq = p at *; grind
  obtain ⟨n1, n2⟩ := co_near (W := 20000001) eo ew (by omega) (Int.le_refl _) eo
  have lo : 735000000 ≤ coLo (hhLo lon t (sRH t)) (hhHi lon t (sRL t)) := by
    apply int_le_of_rat
    rw [show ((735000000 : Int) : Rat) = 735000000 from rfl]
    clear i1 i2 ew' gC gS sb ci0
    unfold Near at lp n1
    grind
  obtain ⟨h1, h2, h3⟩ := rd_dec dd.1 dle dd.2
  obtain ⟨l1, l2, l3⟩ := rd_lat hl
  have ss := sin_span lat; have cc := cos_span lat
  have y1 := ss.lo2; have y2 := ss.hi2; have y3 := cc.lo2
  have s1 : -810000002 ≤ sLo lat := by apply int_le_of_rat; rw [show ((-810000002 : Int) : Rat) = -810000002 from rfl]; grind
  have s2 : sHi lat ≤ 810000002 := by apply int_le_of_rat; rw [show ((810000002 : Int) : Rat) = 810000002 from rfl]; grind
  have s3 : 587000000 ≤ cLo lat := by apply int_le_of_rat; rw [show ((587000000 : Int) : Rat) = 587000000 from rfl]; grind
  have st1 := s_tms lat; have st2 := c_tms lat
  have so := so_tms (sDL t) (sDH t); have co := co_tms (sDL t) (sDH t); have ch := co_tms (hhLo lon t (sRH t)) (hhHi lon t (sRL t))
  have f1 := tm_low (A := 810000002) (C := 410000000) s1 st1.2.1 s2 h1 so.2.1 h2
  have f2 := tm_ge (A := 910000000) (C := 735000000) (by omega) h3 co.2.1 (by omega) lo ch.2.1
  have nr := tm_tms (tms_of co ch)
  have f3 := tm_ge (A := 587000000) (C := 660000000) (by omega) s3 st2.2.1 (by omega) (show 660000000 ≤ nrLo (hhLo lon t (sRH t)) (hhHi lon t (sRL t)) (sDL t) (sDH t) by unfold nrLo; omega) (show nrLo (hhLo lon t (sRH t)) (hhHi lon t (sRL t)) (sDL t) (sDH t) ≤ nrHi (hhLo lon t (sRH t)) (hhHi lon t (sRL t)) (sDL t) (sDH t) from nr.2.1)
  have fin : -14543900 < rsHL lon lat 0 t := by
    have e : rsHL lon lat 0 t = upLo lat (hhLo lon t (sRH t)) (hhHi lon t (sRL t)) (sDL t) (sDH t) := rfl
    rw [e]
    unfold upLo clLo
    omega
  unfold abF
  have l : rsLim 0 = -14543900 := by decide
  rw [l, if_pos fin]
end Go.Proofs.YtcopmgnfakjdhaaGreatDoor
