/- The polar form of a point with rational parts; arcs contain the angle of each point of their boxes. Plain. -/
import Derived.Test.YtdeoahgcppbmkaaDoorAsinR
namespace Go.Proofs.YtdeoahgcppbmkaaDoor
set_option linter.unusedSimpArgs false
set_option linter.unusedVariables false
theorem SA_q : Near (SA 250000000) 1 (4 * eq1) ∧ Near (CA 250000000) 0 (4 * eq1) := by
  have q1 := SN_q1; have q2 := CN_q1
  rw [← SA_int] at q1
  rw [← CA_int] at q2
  exact ⟨q1, q2⟩
theorem CA_SA (x : Rat) : Near (SA (x + 250000000)) (CA x) (2 * e2) := by
  have h := (SCA_add x 250000000).1
  have b := SA_le x; have c := CA_le x
  obtain ⟨q1, q2⟩ := SA_q
  have m1 := rmul_bd b (show -(4 * eq1) ≤ CA 250000000 ∧ CA 250000000 ≤ 4 * eq1 by unfold Near at q2; grind)
  have m2 := rmul_bd c (show -(4 * eq1) ≤ SA 250000000 - 1 ∧ SA 250000000 - 1 ≤ 4 * eq1 by unfold Near at q1; grind)
  unfold Near at *
  generalize SA (x + 250000000) = u at *
  generalize SA 250000000 = y at *
  generalize CA 250000000 = z at *
  clear q1 q2 b c
  unfold e2 eq1 ep at *
  grind
theorem quarter_pos {x : Rat} (h0 : 0 ≤ x) (h1 : x ≤ 250000000) : -(1 / 100000000000000000000000) ≤ SA x ∧ -(1 / 100000000000000000000000) ≤ CA x := by
  have a := SA_small (h := x) h0 (by grind)
  have b := SA_small (h := x + 250000000) (by grind) (by grind)
  have c := CA_SA x
  unfold Near e2 at c
  constructor <;> grind
theorem polarR {X Y R : Rat} (hX : 0 ≤ X) (hY : 0 ≤ Y) (hR : X + Y = R) (h0 : 0 < R) : ∃ x rho : Rat, 0 ≤ x ∧ x ≤ 250000000 ∧ 0 < rho ∧ R ≤ 3 / 2 * rho ∧ Near X (rho * CA x) (R * (1 / 1000000000000000000)) ∧ Near Y (rho * SA x) (R * (1 / 1000000000000000000)) := by
  obtain ⟨f, hf⟩ : ∃ f : Nat → Rat, f = fun i : Nat => X * SA ((i : Rat) * (1 / 1000000000000)) - Y * CA ((i : Rat) * (1 / 1000000000000)) + R * (1 / 1000000000000000000000000) * ((i : Rat) * (1 / 125000000000000000000) - 1) := ⟨_, rfl⟩
  obtain ⟨q1, q2⟩ := SA_q
  have e0 : f 0 = -Y - R * (1 / 1000000000000000000000000) := by
    rw [hf]
    show X * SA (((0 : Nat) : Rat) * (1 / 1000000000000)) - Y * CA (((0 : Nat) : Rat) * (1 / 1000000000000)) + R * (1 / 1000000000000000000000000) * (((0 : Nat) : Rat) * (1 / 125000000000000000000) - 1) = _
    rw [show ((0 : Nat) : Rat) = 0 from rfl, show (0 : Rat) * (1 / 1000000000000) = 0 by grind, SA_0, CA_0]
    grind
  have eN : f 250000000000000000000 = X * SA 250000000 - Y * CA 250000000 + R * (1 / 1000000000000000000000000) := by
    rw [hf]
    show X * SA (((250000000000000000000 : Nat) : Rat) * (1 / 1000000000000)) - Y * CA (((250000000000000000000 : Nat) : Rat) * (1 / 1000000000000)) + R * (1 / 1000000000000000000000000) * (((250000000000000000000 : Nat) : Rat) * (1 / 125000000000000000000) - 1) = _
    rw [show ((250000000000000000000 : Nat) : Rat) = 250000000000000000000 from rfl, show (250000000000000000000 : Rat) * (1 / 1000000000000) = 250000000 by grind]
    grind
  have XR : X ≤ R := by grind
  have YR : Y ≤ R := by grind
  have p1 := rmul_bd (a := X) (b := SA 250000000 - 1) (A := R) (B := 4 * eq1) (by grind) (by unfold Near at q1; grind)
  have p2 := rmul_bd (a := Y) (b := CA 250000000) (A := R) (B := 4 * eq1) (by grind) (by unfold Near at q2; grind)
  obtain ⟨i, i1, i2, i3⟩ := cross_at (f := f) (v := 0) (by rw [e0]; grind) 250000000000000000000 (by rw [eN, show X * SA 250000000 = X + X * (SA 250000000 - 1) by grind]; clear eN e0 hf q1 q2; unfold eq1 at *; generalize X * (SA 250000000 - 1) = z1 at *; generalize Y * CA 250000000 = z2 at *; grind)
  have ib := Rat.natCast_le_natCast.2 i1
  rw [show ((250000000000000000000 : Nat) : Rat) = 250000000000000000000 from rfl] at ib
  have i0 := nat_nonneg i
  obtain ⟨x, hx⟩ : ∃ x, x = (i : Rat) * (1 / 1000000000000) := ⟨_, rfl⟩
  have x0 : 0 ≤ x := by rw [hx]; grind
  have x1 : x ≤ 250000000 := by rw [hx]; grind
  have ef : f i = X * SA x - Y * CA x + R * (1 / 1000000000000000000000000) * ((i : Rat) * (1 / 125000000000000000000) - 1) := by rw [hf, hx]
  have ef1 : f (i + 1) = X * SA (x + 1 / 1000000000000) - Y * CA (x + 1 / 1000000000000) + R * (1 / 1000000000000000000000000) * ((i : Rat) * (1 / 125000000000000000000) + 1 / 125000000000000000000 - 1) := by
    rw [hf, hx]
    show X * SA (((i + 1 : Nat) : Rat) * (1 / 1000000000000)) - Y * CA (((i + 1 : Nat) : Rat) * (1 / 1000000000000)) + R * (1 / 1000000000000000000000000) * (((i + 1 : Nat) : Rat) * (1 / 125000000000000000000) - 1) = _
    rw [Rat.natCast_add, show ((1 : Nat) : Rat) = 1 from rfl, show ((i : Rat) + 1) * (1 / 1000000000000) = (i : Rat) * (1 / 1000000000000) + 1 / 1000000000000 by grind, show ((i : Rat) + 1) * (1 / 125000000000000000000) = (i : Rat) * (1 / 125000000000000000000) + 1 / 125000000000000000000 by grind]
  obtain ⟨l1, l2⟩ := SA_lip (y := x) (d := 1 / 1000000000000) (by grind)
  have qb := qq_b9
  have rr : ra (1 / 1000000000000) ≤ 7 / 1000000000000000000000 := by unfold ra; generalize qq = p at *; grind
  have m1 := rmul_bd (a := X) (b := SA (x + 1 / 1000000000000) - SA x) (A := R) (B := 17 / 1000000000000000000000) (by grind) (by unfold Near at l1; grind)
  have m2 := rmul_bd (a := Y) (b := CA (x + 1 / 1000000000000) - CA x) (A := R) (B := 17 / 1000000000000000000000) (by grind) (by unfold Near at l2; grind)
  have m3 := rmul_bd (a := R * (1 / 1000000000000000000000000)) (b := (i : Rat) * (1 / 125000000000000000000) - 1) (A := R * (1 / 1000000000000000000000000)) (B := 1) (by grind) (by grind)
  have G : -(R * (1 / 10000000000000000000)) ≤ X * SA x - Y * CA x ∧ X * SA x - Y * CA x ≤ R * (1 / 10000000000000000000) := by
    clear q1 q2 e0 eN p1 p2 l1 l2 qb rr hf hx
    generalize SA (x + 1 / 1000000000000) = s2 at *
    generalize CA (x + 1 / 1000000000000) = c2 at *
    generalize f i = f1 at *
    generalize f (i + 1) = f2 at *
    generalize (i : Rat) * (1 / 125000000000000000000) = w at *
    constructor <;> grind
  clear q1 q2 e0 eN p1 p2 l1 l2 qb rr m1 m2 m3 ef ef1 i0 i1 i2 i3 ib hf hx
  obtain ⟨s0, c0⟩ := quarter_pos x0 x1
  have py := SA_pyth x
  have sb := SA_le x; have cb := CA_le x
  obtain ⟨s, hs⟩ : ∃ s, s = SA x := ⟨_, rfl⟩
  obtain ⟨c, hc⟩ : ∃ c, c = CA x := ⟨_, rfl⟩
  rw [← hs] at s0 sb G py
  rw [← hc] at c0 cb G py
  have HS := hs; have HC := hc
  clear hs hc
  have n1 := rmul_bd (a := X * s - Y * c) (b := s) (A := R * (1 / 10000000000000000000)) (B := 1 + ep) G sb
  have n2 := rmul_bd (a := X * s - Y * c) (b := c) (A := R * (1 / 10000000000000000000)) (B := 1 + ep) G cb
  have n3 := rmul_bd (a := X) (b := c * c + s * s - 1) (A := R) (B := ep) (by grind) (by unfold Near at py; grind)
  have n4 := rmul_bd (a := Y) (b := c * c + s * s - 1) (A := R) (B := ep) (by grind) (by unfold Near at py; grind)
  have NX : Near X ((X * c + Y * s) * c) (R * (1 / 1000000000000000000)) := by
    have e : X - (X * c + Y * s) * c = (X * s - Y * c) * s - X * (c * c + s * s - 1) := by grind
    unfold Near
    unfold ep at n1 n3
    generalize (X * s - Y * c) * s = u1 at *
    generalize X * (c * c + s * s - 1) = u2 at *
    generalize (X * c + Y * s) * c = u3 at *
    clear n2 n4 py sb cb G
    constructor <;> grind
  have NY : Near Y ((X * c + Y * s) * s) (R * (1 / 1000000000000000000)) := by
    have e : Y - (X * c + Y * s) * s = -((X * s - Y * c) * c) - Y * (c * c + s * s - 1) := by grind
    unfold Near
    unfold ep at n2 n4
    generalize (X * s - Y * c) * c = u1 at *
    generalize Y * (c * c + s * s - 1) = u2 at *
    generalize (X * c + Y * s) * s = u3 at *
    clear n1 n3 py sb cb G NX
    constructor <;> grind
  have r0 : -(R * (1 / 10000000000000000000000)) ≤ X * c + Y * s := by
    have a1 := Rat.mul_le_mul_of_nonneg_left c0 hX
    have a2 := Rat.mul_le_mul_of_nonneg_left s0 hY
    clear n1 n2 n3 n4 NX NY py sb cb G
    generalize X * c = u1 at *
    generalize Y * s = u2 at *
    grind
  generalize X * c + Y * s = rho at *
  clear n1 n2 n3 n4 G
  have rb : R ≤ 3 / 2 * rho := by
    by_cases k : 0 ≤ rho
    · -- X² + Y² is at least R² / 2
      have b1 := rmul_bd (a := rho) (b := c) (A := rho) (B := 1 + ep) (by grind) cb
      have b2 := rmul_bd (a := rho) (b := s) (A := rho) (B := 1 + ep) (by grind) sb
      apply Rat.not_lt.1
      intro l
      have h2 : rho * (c * c + s * s) = (rho * c) * c + (rho * s) * s := by grind
      have cs2 : (c + s) * (c + s) ≤ 2 * (c * c + s * s) := by
        have := sq_nonneg (c - s)
        grind
      have cs3 : c + s ≤ 1415 / 1000 := by
        apply Rat.not_lt.1
        intro h
        have := Rat.mul_lt_mul_of_pos_left h (show 0 < c + s by grind)
        unfold Near ep at py
        grind
      have t := Rat.mul_le_mul_of_nonneg_left cs3 k
      unfold Near at NX NY
      clear b1 b2 py sb cb cs2 h2
      grind
    · exfalso
      have b1 := rmul_bd (a := rho) (b := c) (A := R * (1 / 10000000000000000000000)) (B := 1 + ep) (by grind) cb
      have b2 := rmul_bd (a := rho) (b := s) (A := R * (1 / 10000000000000000000000)) (B := 1 + ep) (by grind) sb
      unfold Near ep at *
      grind
  exact ⟨x, rho, x0, x1, by clear HS HC NX NY; grind, rb, by rw [← HC]; exact NX, by rw [← HS]; exact NY⟩
theorem arc_order {a b c d : Int} (H : ArcIn a b c d) : arcLo a b c d ≤ arcHi a b c d := by
  have hf : Md (dirW a c) 1200000001 := by obtain ⟨x, y, z⟩ := dir_fin H.sa H.sc'; exact ⟨x, y, z⟩
  have q0 := arcD_md hf H.sa H.sd
  have q1 := arcD_md hf H.sb H.sc'
  have q2 := arcD_md hf H.sb H.sd
  have l1 := md_min md_zero q0; have l2 := md_min l1 q1; have l3 := md_min l2 q2
  have g1 := md_max md_zero q0; have g2 := md_max g1 q1; have g3 := md_max g2 q2
  have v1 := (fmin_ok md_zero.fin q0.fin).2; have v2 := (fmin_ok l1.fin q1.fin).2; have v3 := (fmin_ok l2.fin q2.fin).2
  have u1 := (fmax_ok md_zero.fin q0.fin).2; have u2 := (fmax_ok g1.fin q1.fin).2; have u3 := (fmax_ok g2.fin q2.fin).2
  rw [fin_zero.2] at v1 u1
  obtain ⟨-, a1⟩ := arc_sum hf l3
  obtain ⟨-, a2⟩ := arc_sum hf g3
  have lo1 := a1.lo1; have hi1 := a2.hi1
  have eL : arcLo a b c d = aLo (fadd (dirW a c) (fminW (fminW (fminW 0 (arcD (dirW a c) a d)) (arcD (dirW a c) b c)) (arcD (dirW a c) b d))) := rfl
  have eH : arcHi a b c d = aHi (fadd (dirW a c) (fmaxW (fmaxW (fmaxW 0 (arcD (dirW a c) a d)) (arcD (dirW a c) b c)) (arcD (dirW a c) b d))) := rfl
  rw [← eL] at lo1
  rw [← eH] at hi1
  clear a1 a2 eL eH l1 l2 l3 g1 g2 g3 q0 q1 q2
  have ks : kSl - 2 / 10000 ≥ 7 / 10000 := by unfold kSl; grind
  generalize fv (fminW (fminW (fminW 0 (arcD (dirW a c) a d)) (arcD (dirW a c) b c)) (arcD (dirW a c) b d)) = L at *
  generalize fv (fmaxW (fmaxW (fmaxW 0 (arcD (dirW a c) a d)) (arcD (dirW a c) b c)) (arcD (dirW a c) b d)) = G at *
  generalize fv (fminW (fminW 0 (arcD (dirW a c) a d)) (arcD (dirW a c) b c)) = L2 at *
  generalize fv (fmaxW (fmaxW 0 (arcD (dirW a c) a d)) (arcD (dirW a c) b c)) = G2 at *
  generalize fv (fminW 0 (arcD (dirW a c) a d)) = L1 at *
  generalize fv (fmaxW 0 (arcD (dirW a c) a d)) = G1 at *
  generalize fv (arcD (dirW a c) a d) = D0 at *
  generalize fv (arcD (dirW a c) b c) = D1 at *
  generalize fv (arcD (dirW a c) b d) = D2 at *
  apply int_le_of_rat
  grind
/-- An arc contains the angle of each point of its box. -/
theorem arc_containsR {a b c d : Int} (H : ArcIn a b c d) (hw : ¬ 400000000 < arcHi a b c d - arcLo a b c d) {x0 : Rat} (a0 : 0 ≤ x0) (a1 : x0 < 1000000000) {x y rho : Rat} (hy1 : (a : Rat) ≤ y) (hy2 : y ≤ (b : Rat)) (hx1 : (c : Rat) ≤ x) (hx2 : x ≤ (d : Rat)) (rho0 : 0 < rho)
    (r1 : szR a c ≤ 4 * rho) (r2 : szR a d ≤ 4 * rho) (r3 : szR b c ≤ 4 * rho) (r4 : szR b d ≤ 4 * rho) (nx : Near x (rho * CA x0) (rho / 1000000000000000)) (ny : Near y (rho * SA x0) (rho / 1000000000000000)) :
    ∃ k : Int, (arcLo a b c d : Rat) ≤ x0 + 1000000000 * (k : Rat) ∧ x0 + 1000000000 * (k : Rat) ≤ (arcHi a b c d : Rat) := by
  obtain ⟨n1, n2, n3, n4⟩ := H.ne
  have hf : Md (dirW a c) 1200000001 := by obtain ⟨x, y, z⟩ := dir_fin H.sa H.sc'; exact ⟨x, y, z⟩
  have q0 := arcD_md hf H.sa H.sd
  have q1 := arcD_md hf H.sb H.sc'
  have q2 := arcD_md hf H.sb H.sd
  obtain ⟨j0, i0, e0⟩ := arcD_near hf H.sa H.sd
  obtain ⟨j1, i1, e1⟩ := arcD_near hf H.sb H.sc'
  obtain ⟨j2, i2, e2⟩ := arcD_near hf H.sb H.sd
  have l1 := md_min md_zero q0; have l2 := md_min l1 q1; have l3 := md_min l2 q2
  have g1 := md_max md_zero q0; have g2 := md_max g1 q1; have g3 := md_max g2 q2
  have v1 := (fmin_ok md_zero.fin q0.fin).2; have v2 := (fmin_ok l1.fin q1.fin).2; have v3 := (fmin_ok l2.fin q2.fin).2
  have u1 := (fmax_ok md_zero.fin q0.fin).2; have u2 := (fmax_ok g1.fin q1.fin).2; have u3 := (fmax_ok g2.fin q2.fin).2
  rw [fin_zero.2] at v1 u1
  obtain ⟨-, a1⟩ := arc_sum hf l3
  obtain ⟨-, a2⟩ := arc_sum hf g3
  have lo1 := a1.lo1; have hi1 := a2.hi1
  have eL : arcLo a b c d = aLo (fadd (dirW a c) (fminW (fminW (fminW 0 (arcD (dirW a c) a d)) (arcD (dirW a c) b c)) (arcD (dirW a c) b d))) := rfl
  have eH : arcHi a b c d = aHi (fadd (dirW a c) (fmaxW (fmaxW (fmaxW 0 (arcD (dirW a c) a d)) (arcD (dirW a c) b c)) (arcD (dirW a c) b d))) := rfl
  rw [← eL] at lo1
  rw [← eH] at hi1
  clear a1 a2 eL eH l1 l2 l3 g1 g2 g3 q0 q1 q2
  have wr : (arcHi a b c d : Rat) ≤ (arcLo a b c d : Rat) + 400000000 := by
    have := Rat.intCast_le_intCast.2 (show arcHi a b c d ≤ arcLo a b c d + 400000000 by omega)
    rw [Rat.intCast_add] at this
    exact this
  have ks : kSl - 2 / 10000 ≥ 7 / 10000 := by unfold kSl; grind
  generalize arcLo a b c d = lo at *
  generalize arcHi a b c d = hi at *
  generalize fv (fminW (fminW (fminW 0 (arcD (dirW a c) a d)) (arcD (dirW a c) b c)) (arcD (dirW a c) b d)) = L at *
  generalize fv (fmaxW (fmaxW (fmaxW 0 (arcD (dirW a c) a d)) (arcD (dirW a c) b c)) (arcD (dirW a c) b d)) = G at *
  generalize fv (fminW (fminW 0 (arcD (dirW a c) a d)) (arcD (dirW a c) b c)) = L2 at *
  generalize fv (fmaxW (fmaxW 0 (arcD (dirW a c) a d)) (arcD (dirW a c) b c)) = G2 at *
  generalize fv (fminW 0 (arcD (dirW a c) a d)) = L1 at *
  generalize fv (fmaxW 0 (arcD (dirW a c) a d)) = G1 at *
  generalize fv (arcD (dirW a c) a d) = D0 at *
  generalize fv (arcD (dirW a c) b c) = D1 at *
  generalize fv (arcD (dirW a c) b d) = D2 at *
  have k := ka_bd
  have o0 : L ≤ 0 ∧ L ≤ D0 ∧ L ≤ D1 ∧ L ≤ D2 := by clear e0 e1 e2; grind
  have o1 : 0 ≤ G ∧ D0 ≤ G ∧ D1 ≤ G ∧ D2 ≤ G := by clear e0 e1 e2; grind
  have wd : G - L ≤ 400000000 := by clear e0 e1 e2 v1 v2 v3 u1 u2 u3; grind
  -- the middle
  have dr := dir_rad H.sa H.sc' n1
  have dm := (dir_main H.sa H.sc' n1).1
  have dl := dm.lo; have du := dm.hi
  have mb : -(47 / 10) ≤ ka * (fv (dirW a c) + (L + G) / 2) ∧ ka * (fv (dirW a c) + (L + G) / 2) ≤ 47 / 10 := by
    have p1 := Rat.mul_le_mul_of_nonneg_left (show (L + G) / 2 ≤ 200000000 by grind) (show 0 ≤ ka by grind)
    have p2 := Rat.mul_le_mul_of_nonneg_left (show -200000000 ≤ (L + G) / 2 by grind) (show 0 ≤ ka by grind)
    unfold Near at dr
    clear e0 e1 e2 v1 v2 v3 u1 u2 u3 lo1 hi1 wr ks dm
    generalize fv (dirW a c) = w at *
    generalize dirV a c = t at *
    constructor <;> grind
  have z0 : ((0 : Int) : Rat) = 0 := rfl
  have c1 := crn_of H.sa H.sc' n1 (f := fv (dirW a c)) (L := L) (G := G) (D := 0) (j := 0) (.inl rfl) (by rw [z0]; unfold Near; constructor <;> grind) o0.1 o1.1 wd mb r1
  have c2 := crn_of H.sa H.sd n2 (f := fv (dirW a c)) (L := L) (G := G) i0 e0 o0.2.1 o1.2.1 wd mb r2
  have c3 := crn_of H.sb H.sc' n3 (f := fv (dirW a c)) (L := L) (G := G) i1 e1 o0.2.2.1 o1.2.2.1 wd mb r3
  have c4 := crn_of H.sb H.sd n4 (f := fv (dirW a c)) (L := L) (G := G) i2 e2 o0.2.2.2 o1.2.2.2 wd mb r4
  have hb : 0 ≤ ka * ((G - L) / 2) ∧ ka * ((G - L) / 2) ≤ 12567 / 10000 := by
    have p1 := Rat.mul_le_mul_of_nonneg_left wd (show 0 ≤ ka by grind)
    have p2 := Rat.mul_nonneg (show 0 ≤ ka by grind) (show 0 ≤ G - L by grind)
    clear e0 e1 e2 v1 v2 v3 u1 u2 u3 lo1 hi1 wr ks dm dr
    constructor <;> grind
  have ab := ra_bd a0 (Rat.le_of_lt a1)
  have er : redu x0 = x0 := redu_id a0 a1
  have ek : ra x0 = ka * x0 := by unfold ra ka; grind
  unfold SA at ny
  unfold CA at nx
  rw [er] at nx ny
  obtain ⟨kk, k1, k2⟩ := arc_in c1 c2 c3 c4 hy1 hy2 hx1 hx2 (by grind) (by grind) (by grind) rho0 ⟨ab.1, by grind⟩ nx ny
  refine ⟨kk, ?_⟩
  rw [ek, show 8 * qq * (kk : Rat) = ka * (1000000000 * (kk : Rat)) by unfold ka; grind] at k1 k2
  clear c1 c2 c3 c4 e0 e1 e2 v1 v2 v3 u1 u2 u3 dm dr nx ny hb ab mb hy1 hy2 hx1 hx2 dl du r1 r2 r3 r4 n1 n2 n3 n4 hf z0
  generalize fv (dirW a c) = f at *
  have w1 : f + L - 5 / 100000 ≤ x0 + 1000000000 * (kk : Rat) := by
    apply Rat.not_lt.1
    intro l
    have := Rat.mul_lt_mul_of_pos_left l (show 0 < ka by grind)
    clear lo1 hi1 wr ks o0 o1 l
    generalize (kk : Rat) = kk at *
    grind
  have w2 : x0 + 1000000000 * (kk : Rat) ≤ f + G + 5 / 100000 := by
    apply Rat.not_lt.1
    intro l
    have := Rat.mul_lt_mul_of_pos_left l (show 0 < ka by grind)
    clear lo1 hi1 wr ks o0 o1 l w1
    generalize (kk : Rat) = kk at *
    grind
  constructor <;> grind
end Go.Proofs.YtdeoahgcppbmkaaDoor
