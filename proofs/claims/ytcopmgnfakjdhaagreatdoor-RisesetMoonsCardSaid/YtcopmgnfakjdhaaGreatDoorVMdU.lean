/- RisesetMoons, plain: the moon's Height is narrow. -/
import Derived.Test.YtcopmgnfakjdhaaGreatDoorVMdT
import Derived.Test.YtcopmgnfakjdhaaGreatDoorVRdR
namespace Go.Proofs.YtcopmgnfakjdhaaGreatDoor
set_option linter.unusedSimpArgs false
set_option linter.unusedVariables false
theorem arc_tightR {a b c d : Int} (H : ArcIn a b c d) {x rho e w : Rat} (r0 : 0 < rho) (e0 : 0 ≤ e) (he : e ≤ rho / 101)
    (na : Near (a : Rat) (rho * SA x) e) (nb : Near (b : Rat) (rho * SA x) e) (nc : Near (c : Rat) (rho * CA x) e) (nd : Near (d : Rat) (rho * CA x) e)
    (r1 : szR a c ≤ 4 * rho) (r2 : szR a d ≤ 4 * rho) (r3 : szR b c ≤ 4 * rho) (r4 : szR b d ≤ 4 * rho) (hw : 5 * (e / rho) + 3 / 10000000000000 ≤ ka * (w - 2)) (hw2 : w ≤ 100000000) :
    ∃ n : Int, x + 1000000000 * (n : Rat) - w ≤ (arcLo a b c d : Rat) ∧ (arcHi a b c d : Rat) ≤ x + 1000000000 * (n : Rat) + w := by
  obtain ⟨z0, z1⟩ := redu_bd x
  obtain ⟨jj, hjj⟩ := redu_eq x
  have eS : SA (redu x) = SA x := by
    have := SA_turn (redu x) jj
    rw [← hjj] at this
    exact this.symm
  have eC : CA (redu x) = CA x := by
    have := CA_turn (redu x) jj
    rw [← hjj] at this
    exact this.symm
  have kb := ka_bd
  have q := qq_b9
  obtain ⟨i, -, i1, i2, i3, i4⟩ := to_half8 (z := ra (redu x)) (ra_8 x)
  have i3' : Near (sn (ra (redu x) + 8 * qq * (i : Rat))) (SA x) (40 * eq1) := i3
  have i4' : Near (cs (ra (redu x) + 8 * qq * (i : Rat))) (CA x) (40 * eq1) := i4
  obtain ⟨A, hA⟩ : ∃ A, A = ra (redu x) + 8 * qq * (i : Rat) := ⟨_, rfl⟩
  rw [← hA] at i1 i2 i3' i4'
  clear i3 i4
  have kA1 : A = ka * (x + 1000000000 * ((i - jj : Int) : Rat)) := by
    rw [hA, Rat.intCast_sub]
    have e1 : redu x = x - 1000000000 * (jj : Rat) := by grind
    have e2 : ra (redu x) = ka * redu x := by unfold ra ka; grind
    rw [e2, e1]
    unfold ka; grind
  have p1 := rmul_bd (a := rho) (b := sn A - SA x) (A := rho) (B := 40 * eq1) (by grind) (by unfold Near at i3'; grind)
  have p2 := rmul_bd (a := rho) (b := cs A - CA x) (A := rho) (B := 40 * eq1) (by grind) (by unfold Near at i4'; grind)
  have ee : rho * (40 * eq1) ≤ rho / 1000000000000000 := by
    have := Rat.mul_le_mul_of_nonneg_left (show 40 * eq1 ≤ 1 / 1000000000000000 by unfold eq1; grind) (show 0 ≤ rho by grind)
    grind
  have m1 : Near (rho * SA x) (rho * sn A) (rho / 1000000000000000) := by
    unfold Near; generalize rho * (40 * eq1) = t at *; constructor <;> grind
  have m2 : Near (rho * CA x) (rho * cs A) (rho / 1000000000000000) := by
    unfold Near; generalize rho * (40 * eq1) = t at *; constructor <;> grind
  clear p1 p2 ee i3' i4' hA
  have cmb : ∀ {n u v : Rat}, Near n u e → Near u v (rho / 1000000000000000) → Near n v (e + rho / 1000000000000000) := fun h g => by
    unfold Near at *; constructor <;> grind
  have w1 := cmb na m1; have w2 := cmb nb m1; have w3 := cmb nc m2; have w4 := cmb nd m2
  obtain ⟨K, k1, k2⟩ := arc_tight H (A := A) (rho := rho) (e := e + rho / 1000000000000000) r0 ⟨by clear w1 w2 w3 w4 m1 m2; grind, by clear w1 w2 w3 w4 m1 m2; grind⟩ (by clear w1 w2 w3 w4 m1 m2; grind) w1 w2 w3 w4 r1 r2 r3 r4
  clear w1 w2 w3 w4 m1 m2 na nb nc nd
  have er : (e + rho / 1000000000000000) / rho = e / rho + 1 / 1000000000000000 := by grind
  rw [er] at k1 k2
  have eK : A - 8 * qq * (K : Rat) = ka * (x + 1000000000 * ((i - jj - K : Int) : Rat)) := by
    rw [kA1, Rat.intCast_sub (i - jj) K]; unfold ka; grind
  rw [eK] at k1 k2
  obtain ⟨n, hn⟩ : ∃ n : Int, n = i - jj - K := ⟨_, rfl⟩
  rw [← hn] at k1 k2
  clear eK kA1 er hn i1 i2 eS eC
  generalize arcLo a b c d = lo at *
  generalize arcHi a b c d = hi at *
  generalize e / rho = g at *
  refine ⟨n, ?_, ?_⟩
  · apply Rat.not_lt.1
    intro l
    have := Rat.mul_lt_mul_of_pos_left (show (lo : Rat) + 2 < x + 1000000000 * (n : Rat) - (w - 2) by grind) (show 0 < ka by grind)
    clear k2
    generalize x + 1000000000 * (n : Rat) = z at *
    grind
  · apply Rat.not_lt.1
    intro l
    have := Rat.mul_lt_mul_of_pos_left (show x + 1000000000 * (n : Rat) + (w - 2) < (hi : Rat) - 2 by grind) (show 0 < ka by grind)
    clear k1
    generalize x + 1000000000 * (n : Rat) = z at *
    grind
theorem eq_thinA {l1 l2 b1 b2 : Int} (il : IvOk l1 l2) (hlw : l2 - l1 ≤ 40010) (hb : b1 ≤ b2) (hbw : b2 - b1 ≤ 40010) (h1 : -15900000 ≤ b1) (h2 : b2 ≤ 15900000) : raHi l1 l2 b1 b2 - raLo l1 l2 b1 b2 ≤ 1470000 := by
  have hl := il.m
  have O := eq_ok il hlw hb hbw h1 h2
  obtain ⟨xl, xh, yl, yh, zl, zh⟩ := eq_near hl hlw hb hbw (Int.le_refl l1) hl (Int.le_refl b1) hb
  have X := eqX_bd l1 l2 b1 b2; have Y := eqY_bd l1 l2 b1 b2
  have zb := dZ_bd (la := l1) (be := b1) ⟨h1, by omega⟩
  have un := d_unit l1 b1
  have H : ArcIn (eqYL l1 l2 b1 b2) (eqYH l1 l2 b1 b2) (eqXL l1 l2 b1 b2) (eqXH l1 l2 b1 b2) := ⟨⟨by omega, by omega⟩, ⟨by omega, by omega⟩, ⟨by omega, by omega⟩, ⟨by omega, by omega⟩, Y.2.1, X.2.1, O.no⟩
  clear zl zh
  obtain ⟨x, hx⟩ : ∃ x, x = dX l1 b1 / 1000000000 := ⟨_, rfl⟩
  obtain ⟨y, hy⟩ : ∃ x, x = dY l1 b1 / 1000000000 := ⟨_, rfl⟩
  obtain ⟨z, hz⟩ : ∃ x, x = dZ l1 b1 / 1000000000 := ⟨_, rfl⟩
  have ex : dX l1 b1 = 1000000000 * x := by rw [hx]; grind
  have ey : dY l1 b1 = 1000000000 * y := by rw [hy]; grind
  have ez : dZ l1 b1 = 1000000000 * z := by rw [hz]; grind
  rw [ex, ey, ez] at un
  rw [ex] at xl xh
  rw [ey] at yl yh
  rw [ez] at zb
  have z2 := sq_le (x := z) (A := 49 / 100) (by constructor <;> grind)
  have n : Near (x * x + y * y + z * z) 1 (1 / 1000000000000000000) := by
    rw [show 1000000000 * x * (1000000000 * x) + 1000000000 * y * (1000000000 * y) + 1000000000 * z * (1000000000 * z) = 1000000000000000000 * (x * x + y * y + z * z) by grind] at un
    clear xl xh yl yh
    generalize x * x + y * y + z * z = w at *
    unfold Near at *
    constructor <;> grind
  have xx := sq_nonneg x; have yy := sq_nonneg y; have zz := sq_nonneg z
  have bx := ps_sq (x := x) (by unfold Near at n; grind)
  have by' := ps_sq (x := y) (by unfold Near at n; grind)
  have s2 : 7598 / 10000 ≤ x * x + y * y := by unfold Near at n; grind
  clear un hx hy hz ex ey ez
  obtain ⟨R, al, rho, PL, rho4, R2⟩ := polar4 (X := x) (Y := y) (A := 10001 / 10000) bx by' (by
    by_cases c : x = 0
    · right; intro d; rw [c, d] at s2; grind
    · exact .inl c)
  have nx : Near x (rho * CA al) (3 / 100000000000000000) := near_weak PL.nx (by grind)
  have ny : Near y (rho * SA al) (3 / 100000000000000000) := near_weak PL.ny (by grind)
  have rp := PL.r0
  have pA := SA_pyth al; have ba := SA_1 al
  have m1 := rmul_bd (a := rho) (b := CA al) (A := 5) (B := 10001 / 10000) (by constructor <;> grind) ba.2
  have m2 := rmul_bd (a := rho) (b := SA al) (A := 5) (B := 10001 / 10000) (by constructor <;> grind) ba.1
  have e1 := rmul_bd (a := rho * CA al - x) (b := rho * CA al + x) (A := 3 / 100000000000000000) (B := 7) (by unfold Near at nx; constructor <;> grind) (by constructor <;> grind)
  have e2' := rmul_bd (a := rho * SA al - y) (b := rho * SA al + y) (A := 3 / 100000000000000000) (B := 7) (by unfold Near at ny; constructor <;> grind) (by constructor <;> grind)
  have rr := rmul_bd (a := rho) (b := rho) (A := 5) (B := 5) (by constructor <;> grind) (by constructor <;> grind)
  have e3 := rmul_bd (a := rho * rho) (b := CA al * CA al + SA al * SA al - 1) (A := 25) (B := ep) (by constructor <;> grind) (by unfold Near at pA; constructor <;> grind)
  rw [show (rho * CA al - x) * (rho * CA al + x) = rho * rho * (CA al * CA al) - x * x by grind] at e1
  rw [show (rho * SA al - y) * (rho * SA al + y) = rho * rho * (SA al * SA al) - y * y by grind] at e2'
  rw [show rho * rho * (CA al * CA al + SA al * SA al - 1) = rho * rho * (CA al * CA al) + rho * rho * (SA al * SA al) - rho * rho by grind] at e3
  have r2 : 759 / 1000 ≤ rho * rho := by
    clear nx ny m1 m2 pA ba rr xl xh yl yh bx by' n z2 zb
    unfold ep at e3
    generalize rho * rho * (CA al * CA al) = w1 at *
    generalize rho * rho * (SA al * SA al) = w2 at *
    generalize x * x = w3 at *
    generalize y * y = w4 at *
    generalize rho * rho = w5 at *
    grind
  clear e1 e2' e3 rr m1 m2
  have r8 : 87 / 100 ≤ rho := by
    apply Rat.not_lt.1
    intro l
    have := sq_le (x := rho) (A := 87 / 100) (by constructor <;> grind)
    grind
  obtain ⟨e, he⟩ : ∃ e : Rat, e = 800001 := ⟨_, rfl⟩
  have eR : 800001 / (1000000000 * rho) ≤ 92 / 100000 := by
    have v : 800001 / (1000000000 * rho) * (1000000000 * rho) = 800001 := by grind
    apply Rat.not_lt.1
    intro l
    have := Rat.mul_lt_mul_of_pos_right l (show 0 < 1000000000 * rho by grind)
    grind
  have kb := ka_bd
  have szc : ∀ {Y' X' : Int}, -1002000000 ≤ Y' → Y' ≤ 1002000000 → -1000000000 ≤ X' → X' ≤ 1000000000 → szR Y' X' ≤ 4 * (1000000000 * rho) := by
    intro Y' X' g1 g2 g3 g4
    unfold szR
    rw [← Rat.natCast_add]
    have : ((X'.natAbs + Y'.natAbs : Nat) : Rat) ≤ ((2002000000 : Nat) : Rat) := Rat.natCast_le_natCast.2 (by omega)
    rw [show ((2002000000 : Nat) : Rat) = 2002000000 from rfl] at this
    grind
  have yl2 : -1002000000 ≤ eqYL l1 l2 b1 b2 := by
    apply int_le_of_rat; rw [show ((-1002000000 : Int) : Rat) = -1002000000 from rfl]; unfold Near at yl; grind
  have yh2 : eqYH l1 l2 b1 b2 ≤ 1002000000 := by
    apply int_le_of_rat; rw [show ((1002000000 : Int) : Rat) = 1002000000 from rfl]; unfold Near at yh; grind
  have c1 : Near (eqYL l1 l2 b1 b2 : Rat) (1000000000 * rho * SA al) 800001 := by
    clear nx xl xh yh kb eR
    rw [show 1000000000 * rho * SA al = 1000000000 * (rho * SA al) by grind]
    generalize rho * SA al = w at *
    unfold Near at *
    constructor <;> grind
  have c2 : Near (eqYH l1 l2 b1 b2 : Rat) (1000000000 * rho * SA al) 800001 := by
    clear nx xl xh yl kb eR c1
    rw [show 1000000000 * rho * SA al = 1000000000 * (rho * SA al) by grind]
    generalize rho * SA al = w at *
    unfold Near at *
    constructor <;> grind
  have c3 : Near (eqXL l1 l2 b1 b2 : Rat) (1000000000 * rho * CA al) 800001 := by
    clear ny xh yl yh kb eR c1 c2
    rw [show 1000000000 * rho * CA al = 1000000000 * (rho * CA al) by grind]
    generalize rho * CA al = w at *
    unfold Near at *
    constructor <;> grind
  have c4 : Near (eqXH l1 l2 b1 b2 : Rat) (1000000000 * rho * CA al) 800001 := by
    clear ny xl yl yh kb eR c1 c2 c3
    rw [show 1000000000 * rho * CA al = 1000000000 * (rho * CA al) by grind]
    generalize rho * CA al = w at *
    unfold Near at *
    constructor <;> grind
  obtain ⟨k, k1, k2⟩ := arc_tightR (w := 734990) H (show 0 < 1000000000 * rho by grind) (show (0 : Rat) ≤ 800001 by grind) (by grind) c1 c2 c3 c4 (szc (by omega) (by omega) (by omega) (by omega)) (szc (by omega) (by omega) (by omega) (by omega)) (szc (by omega) (by omega) (by omega) (by omega)) (szc (by omega) (by omega) (by omega) (by omega)) (by
    generalize 800001 / (1000000000 * rho) = g at *
    have := kb.1
    clear c1 c2 c3 c4 xl xh yl yh szc
    grind) (by grind)
  have fin : arcHi (eqYL l1 l2 b1 b2) (eqYH l1 l2 b1 b2) (eqXL l1 l2 b1 b2) (eqXH l1 l2 b1 b2) - arcLo (eqYL l1 l2 b1 b2) (eqYH l1 l2 b1 b2) (eqXL l1 l2 b1 b2) (eqXH l1 l2 b1 b2) ≤ 1470000 := by
    apply int_le_of_rat
    rw [Rat.intCast_sub, show ((1470000 : Int) : Rat) = 1470000 from rfl]
    grind
  unfold raHi raLo
  generalize arcHi (eqYL l1 l2 b1 b2) (eqYH l1 l2 b1 b2) (eqXL l1 l2 b1 b2) (eqXH l1 l2 b1 b2) = p at *
  generalize arcLo (eqYL l1 l2 b1 b2) (eqYH l1 l2 b1 b2) (eqXL l1 l2 b1 b2) (eqXH l1 l2 b1 b2) = q at *
  clear X Y O H c1 c2 c3 c4 xl xh yl yh
  omega
theorem sl_160 : 1005000 ≤ sLo 160000 := by decide +kernel
theorem dc_thin {l1 l2 b1 b2 : Int} (il : IvOk l1 l2) (hlw : l2 - l1 ≤ 40010) (hb : b1 ≤ b2) (hbw : b2 - b1 ≤ 40010) (h1 : -15900000 ≤ b1) (h2 : b2 ≤ 15900000) : dcHi l1 l2 b1 b2 - dcLo l1 l2 b1 b2 ≤ 320010 := by
  have hl := il.m
  obtain ⟨xl, xh, yl, yh, zl, zh⟩ := eq_near hl hlw hb hbw (Int.le_refl l1) hl (Int.le_refl b1) hb
  have zb := dZ_bd (la := l1) (be := b1) ⟨h1, by omega⟩
  clear xl xh yl yh
  obtain ⟨z, hz⟩ : ∃ x, x = dZ l1 b1 / 1000000000 := ⟨_, rfl⟩
  have ez : dZ l1 b1 = 1000000000 * z := by rw [hz]; grind
  rw [ez] at zl zh zb
  clear hz ez
  obtain ⟨de, d1, d2, nz⟩ := asin_ex2 (v := z) (by grind) (by grind)
  have pD := SA_pyth de
  have bz : -(4901 / 10000) ≤ SA de ∧ SA de ≤ 4901 / 10000 := by unfold Near at nz; constructor <;> grind
  have s2 := sq_le bz
  have c0 := ca_pos d1 d2
  have cd : 87 / 100 ≤ CA de := by
    apply Rat.not_lt.1
    intro l
    have bb : -(87 / 100) ≤ CA de ∧ CA de ≤ 87 / 100 := by constructor <;> grind
    have m := sq_le bb
    unfold Near ep at pD
    grind
  have small : -100000000 ≤ de ∧ de ≤ 100000000 := by
    have c10 : CA 100000000 ≤ 82 / 100 := by
      have k : cHi 100000000 ≤ 810000000 := by decide +kernel
      have k' := Rat.intCast_le_intCast.2 k
      rw [show ((810000000 : Int) : Rat) = 810000000 from rfl] at k'
      have h := (ca_lo 100000000).2
      rw [show ((100000000 : Int) : Rat) = 100000000 from rfl] at h
      grind
    constructor
    · apply Rat.not_lt.1
      intro l
      have f := ca_fallT (x := 100000000) (y := -de) (by grind) (by grind) (by grind)
      have n := (SCA_neg de).2
      unfold Near e2 at n
      grind
    · apply Rat.not_lt.1
      intro l
      have f := ca_fallT (x := 100000000) (y := de) (by grind) (by grind) (by grind)
      grind
  obtain ⟨a, a1, a2⟩ : ∃ a : Int, (a : Rat) ≤ de ∧ de ≤ (a : Rat) + 1 := ⟨de.floor, Rat.floor_le de, by have := Rat.lt_floor_add_one de; grind⟩
  have ab1 : -100000001 ≤ a := by
    apply int_le_of_rat; rw [show ((-100000001 : Int) : Rat) = -100000001 from rfl]; grind
  have ab2 : a ≤ 100000000 := by
    apply int_le_of_rat; rw [show ((100000000 : Int) : Rat) = 100000000 from rfl]; grind
  have s16 : 1005 / 1000000 - 1 / 10000000000 ≤ SA 160000 := by
    have k' := Rat.intCast_le_intCast.2 sl_160
    rw [show ((1005000 : Int) : Rat) = 1005000 from rfl] at k'
    have h := (sa_lo 160000).1
    rw [show ((160000 : Int) : Rat) = 160000 from rfl] at h
    grind
  have s16u := (SA_small (h := 160000) (by grind) (by grind)).2
  have r16 : ra 160000 ≤ 10054 / 10000000 := by
    have q := qq_b9
    unfold ra; generalize qq = p at *; grind
  have c16 : 999999 / 1000000 ≤ CA 160000 := by
    have p := SA_pyth 160000
    have c := ca_pos (x := 160000) (by grind) (by grind)
    have s2 := sq_le (x := SA 160000) (A := 10054 / 10000000) (by constructor <;> grind)
    apply Rat.not_lt.1
    intro l
    have bb : -(999999 / 1000000) ≤ CA 160000 ∧ CA 160000 ≤ 999999 / 1000000 := by constructor <;> grind
    have m := sq_le bb
    unfold Near ep at p
    grind
  have c16u : CA 160000 ≤ 1 + ep := (CA_le 160000).2
  have up : SA de + 8001 / 10000000 ≤ SA (de + 160000) := by
    have k := (SCA_add de 160000).1
    have m1 := rmul_bd (a := SA de) (b := CA 160000 - 1) (A := 4901 / 10000) (B := 1 / 1000000) bz (by unfold ep at c16u; constructor <;> grind)
    have m2 := Rat.mul_le_mul_of_nonneg_left s16 (show 0 ≤ CA de by grind)
    have m3 := Rat.mul_le_mul_of_nonneg_right cd (show (0 : Rat) ≤ 1005 / 1000000 - 1 / 10000000000 by grind)
    rw [show SA de * (CA 160000 - 1) = SA de * CA 160000 - SA de by grind] at m1
    unfold Near e2 at k
    generalize SA de * CA 160000 = w1 at *
    generalize CA de * SA 160000 = w2 at *
    generalize CA de * (1005 / 1000000 - 1 / 10000000000) = w3 at *
    grind
  have dn : SA (de + -160000) ≤ SA de - 8001 / 10000000 := by
    have k := (SCA_add de (-160000)).1
    obtain ⟨n1, n2⟩ := SCA_neg 160000
    have sd := SA_1 de
    have m0 := rmul_bd (a := SA de) (b := CA (-160000) - CA 160000) (A := 10001 / 10000) (B := e2) sd.1 (by unfold Near at n2; constructor <;> grind)
    have m00 := rmul_bd (a := CA de) (b := SA (-160000) - -SA 160000) (A := 10001 / 10000) (B := e2) sd.2 (by unfold Near at n1; constructor <;> grind)
    have m1 := rmul_bd (a := SA de) (b := CA 160000 - 1) (A := 4901 / 10000) (B := 1 / 1000000) bz (by unfold ep at c16u; constructor <;> grind)
    have m2 := Rat.mul_le_mul_of_nonneg_left s16 (show 0 ≤ CA de by grind)
    have m3 := Rat.mul_le_mul_of_nonneg_right cd (show (0 : Rat) ≤ 1005 / 1000000 - 1 / 10000000000 by grind)
    rw [show SA de * (CA 160000 - 1) = SA de * CA 160000 - SA de by grind] at m1
    rw [show SA de * (CA (-160000) - CA 160000) = SA de * CA (-160000) - SA de * CA 160000 by grind] at m0
    rw [show CA de * (SA (-160000) - -SA 160000) = CA de * SA (-160000) + CA de * SA 160000 by grind] at m00
    clear n1 n2
    unfold Near e2 at *
    generalize SA de * CA 160000 = w1 at *
    generalize CA de * SA 160000 = w2 at *
    generalize CA de * (1005 / 1000000 - 1 / 10000000000) = w3 at *
    generalize SA de * CA (-160000) = w4 at *
    generalize CA de * SA (-160000) = w5 at *
    grind
  have gr : ∀ x y : Rat, -200000000 ≤ x → x ≤ y → y ≤ 200000000 → SA x ≤ SA y + 1 / 1000000000000000000000 := fun x y h1 h2 h3 => by
    by_cases c : 0 ≤ x
    · have := sa_growT c h2 (by grind); grind
    · by_cases c2 : 0 ≤ y
      · have u := (SA_small (h := -x) (by grind) (by grind)).1
        have v := (SA_small (h := y) c2 (by grind)).1
        have n := (SCA_neg x).1
        unfold Near e2 at n
        grind
      · have u := sa_growT (x := -y) (y := -x) (by grind) (by grind) (by grind)
        have n := (SCA_neg x).1; have n' := (SCA_neg y).1
        unfold Near e2 at n n'
        grind
  have X := eqZ_bd l1 l2 b1 b2
  have z1 : eqZH l1 l2 b1 b2 ≤ 491000000 := by
    apply int_le_of_rat; rw [show ((491000000 : Int) : Rat) = 491000000 from rfl]; unfold Near at zh; grind
  have z2 : -491000000 ≤ eqZL l1 l2 b1 b2 := by
    apply int_le_of_rat; rw [show ((-491000000 : Int) : Rat) = -491000000 from rfl]; unfold Near at zl; grind
  have hi : asHi (clT (eqZH l1 l2 b1 b2)) ≤ a + 160001 + 1 := by
    have e : clT (eqZH l1 l2 b1 b2) = eqZH l1 l2 b1 b2 := by unfold clT; omega
    rw [e]
    refine asHi_le (by omega) (by omega) ?_
    rw [← SA_int, Rat.intCast_add, show ((160001 : Int) : Rat) = 160001 from rfl]
    have g := gr (de + 160000) ((a : Rat) + 160001) (by grind) (by grind) (by grind)
    clear gr dn zl X
    unfold Near at zh nz
    grind
  have lo : a - 160000 - 1 ≤ asLo (clT (eqZL l1 l2 b1 b2)) := by
    have e : clT (eqZL l1 l2 b1 b2) = eqZL l1 l2 b1 b2 := by unfold clT; omega
    rw [e]
    refine asLo_ge (by omega) (by omega) ?_
    rw [← SA_int, Rat.intCast_sub, show ((160000 : Int) : Rat) = 160000 from rfl]
    have g := gr ((a : Rat) - 160000) (de + -160000) (by grind) (by grind) (by grind)
    clear gr up zh X
    unfold Near at zl nz
    grind
  unfold dcHi dcLo
  omega
end Go.Proofs.YtcopmgnfakjdhaaGreatDoor
