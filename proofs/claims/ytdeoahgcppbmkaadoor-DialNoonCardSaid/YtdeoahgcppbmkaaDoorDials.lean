/- Merged by wip/tools/pack.py out of XDialP, XDialQ. -/
import Derived.Test.YtdeoahgcppbmkaaDoorDialW
import Derived.Test.YtdeoahgcppbmkaaDoorPolar
import Derived.Test.YtdeoahgcppbmkaaDoorParts
/- Dials, plain: where the arcs of the hours of the afternoon lie. -/
namespace Go.Proofs.YtdeoahgcppbmkaaDoor
set_option linter.unusedSimpArgs false
set_option linter.unusedVariables false
theorem lat_num : 62000000 ≤ sLo 10000000 := by decide +kernel
/-- The latitude's sine is not small. -/
theorem lat_sn {lat : Int} (h1 : 10000000 ≤ lat) (h2 : lat ≤ 220000000) : 619 / 10000 ≤ SN lat := by
  -- the sine grows up to a quarter: sin lat - sin lat0 = 2 cos (m) sin (d)
  have n := Rat.intCast_le_intCast.2 lat_num
  rw [show ((62000000 : Int) : Rat) = 62000000 from rfl] at n
  have s := (sine_in 10000000).lo
  have b1 := Rat.intCast_le_intCast.2 h1
  have b2 := Rat.intCast_le_intCast.2 h2
  rw [show ((10000000 : Int) : Rat) = 10000000 from rfl] at b1
  rw [show ((220000000 : Int) : Rat) = 220000000 from rfl] at b2
  obtain ⟨d, hd⟩ : ∃ d, d = ((lat : Rat) - 10000000) / 2 := ⟨_, rfl⟩
  have d0 : 0 ≤ d := by grind
  have d1 : d ≤ 105000000 := by grind
  obtain ⟨a1, -⟩ := SCA_add (10000000 + d) d
  obtain ⟨a2, -⟩ := SCA_add (10000000 + d) (-d)
  rw [show 10000000 + d + d = (lat : Rat) by grind, SA_int] at a1
  rw [show 10000000 + d + -d = ((10000000 : Int) : Rat) by rw [show ((10000000 : Int) : Rat) = 10000000 from rfl]; grind, SA_int] at a2
  obtain ⟨n1, n2⟩ := SCA_neg d
  have c := (quarter_pos (x := 10000000 + d) (by grind) (by grind)).2
  have sd := SA_small (h := d) d0 (by grind)
  have sb := SA_le (10000000 + d); have cb := CA_le (10000000 + d); have sdb := SA_le d; have cdb := CA_le d
  have m1 := rmul_bd (a := SA (10000000 + d)) (b := CA (-d) - CA d) (A := 1 + ep) (B := e2) sb (by unfold Near at n2; grind)
  have m2 := rmul_bd (a := CA (10000000 + d)) (b := SA (-d) + SA d) (A := 1 + ep) (B := e2) cb (by unfold Near at n1; grind)
  have m3 : -(1 / 10000000000000000000000) ≤ CA (10000000 + d) * SA d := by
    have p := Rat.mul_nonneg (show 0 ≤ CA (10000000 + d) + 1 / 100000000000000000000000 by grind) (show 0 ≤ SA d + 1 / 1000000000000000000000000 by grind)
    clear m1 m2 n1 n2 a1 a2 n s
    unfold ep at *
    generalize CA (10000000 + d) = u at *
    generalize SA d = v at *
    grind
  unfold Near e2 ep at *
  generalize SN lat = x1 at *
  generalize SN 10000000 = x2 at *
  generalize SA (10000000 + d) = x3 at *
  generalize CA (10000000 + d) = x4 at *
  generalize SA (-d) = x5 at *
  generalize CA (-d) = x6 at *
  generalize SA d = x7 at *
  generalize CA d = x8 at *
  clear n1 n2 sb cb sdb cdb sd c hd
  grind
theorem hr_num {hour : Int} (h1 : 6 ≤ hour) (h2 : hour ≤ 18) : 0 ≤ cLo (hrA hour) ∧ sHi (hrA hour) - sLo (hrA hour) ≤ 3 ∧ cHi (hrA hour) - cLo (hrA hour) ≤ 3 := by
  rcases (by omega : hour = 6 ∨ hour = 7 ∨ hour = 8 ∨ hour = 9 ∨ hour = 10 ∨ hour = 11 ∨ hour = 12 ∨ hour = 13 ∨ hour = 14 ∨ hour = 15 ∨ hour = 16 ∨ hour = 17 ∨ hour = 18) with rfl | rfl | rfl | rfl | rfl | rfl | rfl | rfl | rfl | rfl | rfl | rfl | rfl <;> decide +kernel
theorem hr_pm {hour : Int} (h1 : 12 ≤ hour) (h2 : hour ≤ 18) : (hour = 12 ∨ 0 ≤ sLo (hrA hour)) ∧ 990000000 ≤ sLo (hrA hour) + cLo (hrA hour) := by
  rcases (by omega : hour = 12 ∨ hour = 13 ∨ hour = 14 ∨ hour = 15 ∨ hour = 16 ∨ hour = 17 ∨ hour = 18) with rfl | rfl | rfl | rfl | rfl | rfl | rfl <;> decide +kernel
/-- The hours of the morning are those of the afternoon in a mirror. -/
theorem hr_am {hour : Int} (h1 : 12 ≤ hour) (h2 : hour ≤ 18) : sLo (hrA (24 - hour)) = -sHi (hrA hour) ∧ sHi (hrA (24 - hour)) = -sLo (hrA hour) ∧ cLo (hrA (24 - hour)) = cLo (hrA hour) ∧ cHi (hrA (24 - hour)) = cHi (hrA hour) := by
  rcases (by omega : hour = 12 ∨ hour = 13 ∨ hour = 14 ∨ hour = 15 ∨ hour = 16 ∨ hour = 17 ∨ hour = 18) with rfl | rfl | rfl | rfl | rfl | rfl | rfl <;> decide +kernel
/-- A point of the box of an hour. -/
structure DlBox (lat hour : Int) (Y X : Rat) : Prop where
  y1 : (dyL lat hour : Rat) ≤ Y
  y2 : Y ≤ (dyH lat hour : Rat)
  x1 : (cLo (hrA hour) : Rat) ≤ X
  x2 : X ≤ (cHi (hrA hour) : Rat)
/-- Its direction. -/
structure DlPol (Y X th rho : Rat) : Prop where
  y0 : 0 ≤ Y
  x0 : 0 ≤ X
  far : 60000000 ≤ Y + X
  top : Y + X ≤ 2000000010
  t0 : 0 ≤ th
  t1 : th ≤ 250000000
  r0 : 40000000 ≤ rho
  rr : Y + X ≤ 3 / 2 * rho
  nx : Near X (rho * CA th) ((Y + X) * (1 / 1000000000000000000))
  ny : Near Y (rho * SA th) ((Y + X) * (1 / 1000000000000000000))
theorem dl_pol {Y X : Rat} (y0 : 0 ≤ Y) (x0 : 0 ≤ X) (far : 60000000 ≤ Y + X) (top : Y + X ≤ 2000000010) : ∃ th rho, DlPol Y X th rho := by
  obtain ⟨th, rho, t0, t1, r0, rr, nx, ny⟩ := polarR x0 y0 (R := Y + X) (by grind) (by grind)
  exact ⟨th, rho, y0, x0, far, top, t0, t1, by grind, rr, nx, ny⟩
/-- The points of an hour of the afternoon, and of its mirror. -/
structure DlPt (lat hour : Int) (Y X : Rat) : Prop where
  pm : DlBox lat hour Y X
  am : DlBox lat (24 - hour) (-Y) X
  y0 : 0 ≤ Y
  x0 : 0 ≤ X
  far : 60000000 ≤ Y + X
  top : Y + X ≤ 2000000010
  ny : Near Y (1000000000 * (SN lat * SN (hrA hour))) (1 / 1000000000)
  nx : Near X (1000000000 * CN (hrA hour)) (1 / 1000000000)
theorem dl_pt {lat hour : Int} (h1 : 10000000 ≤ lat) (h2 : lat ≤ 220000000) (g1 : 12 ≤ hour) (g2 : hour ≤ 18) : ∃ Y X, DlPt lat hour Y X ∧ (hour = 12 → Y = 0) := by
  obtain ⟨f, f1, f2, f3⟩ := s_pt lat
  obtain ⟨s, s1, s2, s3, s4⟩ : ∃ s : Rat, (sLo (hrA hour) : Rat) ≤ s ∧ s ≤ (sHi (hrA hour) : Rat) ∧ Near s (1000000000 * SN (hrA hour)) (11 / 1000000000000) ∧ (hour = 12 → s = 0) := by
    by_cases c : hour = 12
    · subst c
      have l : sLo (hrA 12) ≤ 0 ∧ 0 ≤ sHi (hrA 12) ∧ hrA 12 = 0 := by decide +kernel
      refine ⟨0, ?_, ?_, ?_, fun _ => rfl⟩
      · exact Rat.intCast_le_intCast.2 l.1
      · exact Rat.intCast_le_intCast.2 l.2.1
      · rw [l.2.2, ← SA_int, show ((0 : Int) : Rat) = 0 from rfl, SA_0]; unfold Near; grind
    · obtain ⟨s, s1, s2, s3⟩ := s_pt (hrA hour)
      exact ⟨s, s1, s2, s3, fun h => absurd h c⟩
  obtain ⟨c, c1, c2, c3⟩ := c_pt (hrA hour)
  obtain ⟨n2, n3, n4⟩ := hr_num (by omega) g2
  obtain ⟨n1, n5⟩ := hr_pm g1 g2
  obtain ⟨m1, m2, m3, m4⟩ := hr_am g1 g2
  have F := lat_sn h1 h2
  have bF := SN_le lat; have bS := SN_le (hrA hour); have bC := CN_le (hrA hour)
  have t := tm_pt f1 f2 s1 s2
  have s5 : (sLo (hrA (24 - hour)) : Rat) ≤ -s := by rw [m1, Rat.intCast_neg]; grind
  have s6 : -s ≤ (sHi (hrA (24 - hour)) : Rat) := by rw [m2, Rat.intCast_neg]; grind
  have t' := tm_pt f1 f2 s5 s6
  have pr := pr_near f3 s3 (by unfold ep at bF; grind) (by unfold ep at bS; grind) (by grind) (by grind)
  have r2 := Rat.intCast_le_intCast.2 n2
  have r5 := Rat.intCast_le_intCast.2 n5
  rw [show ((0 : Int) : Rat) = 0 from rfl] at r2
  rw [Rat.intCast_add, show ((990000000 : Int) : Rat) = 990000000 from rfl] at r5
  have fl : 61000000 ≤ f := by unfold Near at f3; grind
  have fu : f ≤ 1000000001 := by unfold Near ep at *; grind
  have su : s ≤ 1000000001 := by unfold Near ep at *; grind
  have s0 : 0 ≤ s := by
    rcases n1 with e | n1
    · rw [s4 e]; exact Rat.le_refl
    · have r1 := Rat.intCast_le_intCast.2 n1
      rw [show ((0 : Int) : Rat) = 0 from rfl] at r1
      grind
  have c0 : 0 ≤ c := by grind
  have p1 := Rat.mul_le_mul_of_nonneg_right fl s0
  have p2 := Rat.mul_le_mul_of_nonneg_right fu s0
  refine ⟨f * s / 1000000000, c, ⟨⟨t.1, t.2, c1, c2⟩, ⟨?_, ?_, by rw [m3]; exact c1, by rw [m4]; exact c2⟩, ?_, c0, ?_, ?_, near_weak pr (by grind), near_weak c3 (by grind)⟩, fun h => by rw [s4 h]; grind⟩
  · have e : f * -s / 1000000000 = -(f * s / 1000000000) := by grind
    rw [e] at t'
    exact t'.1
  · have e : f * -s / 1000000000 = -(f * s / 1000000000) := by grind
    rw [e] at t'
    exact t'.2
  · clear pr t t' f3 s3 c3
    generalize f * s = z at *
    grind
  · clear pr t t' f3 s3 c3 s5 s6
    generalize f * s = z at *
    grind
  · clear pr t t' s5 s6
    unfold Near ep at *
    generalize f * s = z at *
    grind
/-- Where the line of an hour lies. -/
structure DlLine (lat hour : Int) (x : Rat) : Prop where
  l1 : (dlL lat hour : Rat) ≤ x
  l2 : x - 1000 ≤ (dlL lat hour : Rat)
  u1 : x ≤ (dlH lat hour : Rat)
  u2 : (dlH lat hour : Rat) ≤ x + 1000
theorem dl_norm {lat hour k : Int} {x : Rat} (hx : -250000000 ≤ x ∧ x ≤ 250000000) (l1 : (daL lat hour : Rat) ≤ x + 1000000000 * (k : Rat)) (l2 : x + 1000000000 * (k : Rat) - 1000 ≤ (daL lat hour : Rat)) : dlL lat hour = daL lat hour - 1000000000 * k ∧ dlH lat hour = daH lat hour - 1000000000 * k := by
  have a1 : daL lat hour - 1000000000 * k ≤ 250000000 := by
    apply int_le_of_rat
    rw [Rat.intCast_sub, Rat.intCast_mul, show ((250000000 : Int) : Rat) = 250000000 from rfl, show ((1000000000 : Int) : Rat) = 1000000000 from rfl]
    grind
  have a2 : -250001000 ≤ daL lat hour - 1000000000 * k := by
    apply int_le_of_rat
    rw [Rat.intCast_sub, Rat.intCast_mul, show ((-250001000 : Int) : Rat) = -250001000 from rfl, show ((1000000000 : Int) : Rat) = 1000000000 from rfl]
    grind
  unfold dlL dlH dlS
  generalize daL lat hour = a at *
  generalize daH lat hour = b at *
  by_cases c : 0 ≤ a - 1000000000 * k
  · have e : a % 1000000000 = a - 1000000000 * k := by omega
    rw [e, if_neg (by omega)]
    omega
  · have e : a % 1000000000 = a - 1000000000 * k + 1000000000 := by omega
    rw [e, if_pos (by omega)]
    omega
theorem dl_any {lat hour : Int} {Y X x rho : Rat} (h1 : 10000000 ≤ lat) (h2 : lat ≤ 220000000) (g1 : 6 ≤ hour) (g2 : hour ≤ 18) (P : DlBox lat hour Y X) (hx : -250000000 ≤ x ∧ x ≤ 250000000) (R40 : 40000000 ≤ rho) (x0 : 0 ≤ X) (far : 60000000 ≤ Y + X ∨ 60000000 ≤ -Y + X) (rr1 : Y + X ≤ 3 / 2 * rho) (rr2 : -Y + X ≤ 3 / 2 * rho)
    (nx : Near X (rho * cs (ka * x)) 1) (ny : Near Y (rho * sn (ka * x)) 1) (nx' : Near X (rho * CA x) (rho / 1000000000000000)) (ny' : Near Y (rho * SA x) (rho / 1000000000000000)) : DlOk lat hour ∧ DlLine lat hour x := by
  obtain ⟨n2, n3, n4⟩ := hr_num g1 g2
  have r0 : 0 < rho := by grind
  have bS := s_tms (hrA hour); have bC := c_tms (hrA hour); have bF := s_tms lat
  have bY := tm_tms (tms_of bF bS)
  have sf := sin_span lat; have ss' := sin_span (hrA hour)
  have k1 : Near (sLo lat : Rat) (1000000000 * SN lat) (103 / 100) := by have := sf.lo; have := sf.lo2; unfold Near; clear nx ny nx' ny' ss'; grind
  have k2 : Near (sHi lat : Rat) (1000000000 * SN lat) (103 / 100) := by have := sf.hi; have := sf.hi2; unfold Near; clear nx ny nx' ny' ss'; grind
  have k3 : Near (sLo (hrA hour) : Rat) (1000000000 * SN (hrA hour)) (103 / 100) := by have := ss'.lo; have := ss'.lo2; unfold Near; clear nx ny nx' ny' sf; grind
  have k4 : Near (sHi (hrA hour) : Rat) (1000000000 * SN (hrA hour)) (103 / 100) := by have := ss'.hi; have := ss'.hi2; unfold Near; clear nx ny nx' ny' sf; grind
  have tm := tm_near (g := 4) k1 k2 k3 k4 (SN_9 lat) (SN_9 (hrA hour)) (by grind) (by grind) (by grind)
  have wY : dyH lat hour - dyL lat hour ≤ 8 := by
    have a := tm.1; have b := tm.2
    unfold dyH dyL
    apply int_le_of_rat
    rw [Rat.intCast_sub, show ((8 : Int) : Rat) = 8 from rfl]
    unfold Near at a b
    clear nx ny nx' ny' k1 k2 k3 k4 tm
    grind
  have eY1 : dyL lat hour = tmLo (sLo lat) (sHi lat) (sLo (hrA hour)) (sHi (hrA hour)) := rfl
  have eY2 : dyH lat hour = tmHi (sLo lat) (sHi lat) (sLo (hrA hour)) (sHi (hrA hour)) := rfl
  rw [← eY1, ← eY2] at bY
  clear tm k1 k2 k3 k4 sf ss' eY1 eY2 bS bF n3
  obtain ⟨y1, y2, x1, x2⟩ := id P
  have rY := Rat.intCast_le_intCast.2 (show dyH lat hour ≤ dyL lat hour + 8 by omega)
  have rX := Rat.intCast_le_intCast.2 (show cHi (hrA hour) ≤ cLo (hrA hour) + 3 by omega)
  rw [Rat.intCast_add, show ((8 : Int) : Rat) = 8 from rfl] at rY
  rw [Rat.intCast_add, show ((3 : Int) : Rat) = 3 from rfl] at rX
  have no : ¬ (dyL lat hour ≤ 0 ∧ 0 ≤ dyH lat hour ∧ cLo (hrA hour) ≤ 0 ∧ 0 ≤ cHi (hrA hour)) := fun h => by
    have a1 := Rat.intCast_le_intCast.2 h.1
    have a2 := Rat.intCast_le_intCast.2 h.2.2.1
    have a3 := Rat.intCast_le_intCast.2 h.2.1
    rw [show ((0 : Int) : Rat) = 0 from rfl] at a1 a2 a3
    clear nx ny nx' ny'
    rcases far with far | far <;> grind
  have H : ArcIn (dyL lat hour) (dyH lat hour) (cLo (hrA hour)) (cHi (hrA hour)) := ⟨⟨by omega, by omega⟩, ⟨by omega, by omega⟩, ⟨by omega, by omega⟩, ⟨by omega, by omega⟩, bY.2.1, bC.2.1, no⟩
  have nabs : ∀ n : Int, (n.natAbs : Rat) = (n : Rat) ∨ (n.natAbs : Rat) = -(n : Rat) := nab_rat
  have kb := ka_bd
  have b1 := Rat.mul_le_mul_of_nonneg_left hx.2 (show 0 ≤ ka by grind)
  have b0 := Rat.mul_le_mul_of_nonneg_left hx.1 (show 0 ≤ ka by grind)
  unfold Near at nx ny
  have sz : ∀ a c : Int, Y - 8 ≤ (a : Rat) → (a : Rat) ≤ Y + 8 → X - 3 ≤ (c : Rat) → (c : Rat) ≤ X + 3 → szR a c ≤ 4 * rho := fun a c u1 u2 u3 u4 => by
    have z1 := nabs a; have z2 := nabs c
    unfold szR
    clear nx ny nx' ny' b1 b0
    grind
  obtain ⟨K, k1, k2⟩ := arc_tight H (A := ka * x) (rho := rho) (e := 10) r0 ⟨by grind, by grind⟩ (by grind) (by unfold Near; clear b1 b0 nx; constructor <;> grind) (by unfold Near; clear b1 b0 nx; constructor <;> grind) (by unfold Near; clear b1 b0 ny; constructor <;> grind) (by unfold Near; clear b1 b0 ny; constructor <;> grind)
    (sz _ _ (by grind) (by grind) (by grind) (by grind)) (sz _ _ (by grind) (by grind) (by grind) (by grind)) (sz _ _ (by grind) (by grind) (by grind) (by grind)) (sz _ _ (by grind) (by grind) (by grind) (by grind))
  have eA1 : daL lat hour = arcLo (dyL lat hour) (dyH lat hour) (cLo (hrA hour)) (cHi (hrA hour)) := rfl
  have eA2 : daH lat hour = arcHi (dyL lat hour) (dyH lat hour) (cLo (hrA hour)) (cHi (hrA hour)) := rfl
  have AO := arc_order H
  obtain ⟨z0, z1⟩ := redu_bd x
  obtain ⟨jj, hjj⟩ := redu_eq x
  have eS : SA (redu x) = SA x := by
    have := SA_turn (redu x) jj
    rw [← hjj] at this
    exact this.symm
  have eC : CA (redu x) = CA x := by
    have := CA_turn (redu x) jj
    rw [← hjj] at this
    exact this.symm
  rw [← eC] at nx'
  rw [← eS] at ny'
  have CT := fun hw => arc_containsR H hw z0 z1 (x := X) (y := Y) (rho := rho) y1 y2 x1 x2 r0 (sz _ _ (by grind) (by grind) (by grind) (by grind)) (sz _ _ (by grind) (by grind) (by grind) (by grind)) (sz _ _ (by grind) (by grind) (by grind) (by grind)) (sz _ _ (by grind) (by grind) (by grind) (by grind)) nx' ny'
  rw [← eA1, ← eA2] at CT AO
  rw [← eA1] at k1
  rw [← eA2] at k2
  have ge : 10 / rho ≤ 25 / 100000000 := by
    have x : 10 / rho * rho = 10 := by grind
    apply Rat.not_lt.1
    intro l
    have := Rat.mul_lt_mul_of_pos_right l r0
    clear nx ny nx' ny' b1 b0 sz k1 k2 rr1 rr2 CT eS eC
    grind
  have eK : 8 * qq * (K : Rat) = ka * (1000000000 * (K : Rat)) := by unfold ka; grind
  rw [eK] at k1 k2
  have w1 : x - 1000000000 * (K : Rat) - 250 ≤ (daL lat hour : Rat) := by
    apply Rat.not_lt.1
    intro l
    have := Rat.mul_lt_mul_of_pos_left l (show 0 < ka by grind)
    clear nx ny nx' ny' b1 b0 eK sz k2 rr1 rr2 CT eS eC
    generalize (daL lat hour : Rat) = z at *
    generalize (K : Rat) = kk at *
    generalize 10 / rho = g at *
    grind
  have w2 : (daH lat hour : Rat) ≤ x - 1000000000 * (K : Rat) + 250 := by
    apply Rat.not_lt.1
    intro l
    have := Rat.mul_lt_mul_of_pos_left l (show 0 < ka by grind)
    clear nx ny nx' ny' b1 b0 eK sz k1 rr1 rr2 CT w1 eS eC
    generalize (daH lat hour : Rat) = z at *
    generalize (K : Rat) = kk at *
    generalize 10 / rho = g at *
    grind
  have nw : ¬ 400000000 < daH lat hour - daL lat hour := by
    have : daH lat hour - daL lat hour ≤ 500 := by
      apply int_le_of_rat
      rw [Rat.intCast_sub, show ((500 : Int) : Rat) = 500 from rfl]
      clear CT sz k1 k2 nx ny nx' ny'
      grind
    omega
  obtain ⟨k, c1, c2⟩ := CT nw
  clear CT sz k1 k2 nx ny nx' ny'
  obtain ⟨m, hm⟩ : ∃ m : Int, redu x + 1000000000 * (k : Rat) = x + 1000000000 * (m : Rat) := ⟨k - jj, by rw [Rat.intCast_sub]; grind⟩
  rw [hm] at c1 c2
  have hk : m = -K := by
    have a1 : m + K < 1 := by
      apply int_lt_of_rat
      rw [Rat.intCast_add, show ((1 : Int) : Rat) = 1 from rfl]
      grind
    have a2 : -1 < m + K := by
      apply int_lt_of_rat
      rw [Rat.intCast_add, show ((-1 : Int) : Rat) = -1 from rfl]
      grind
    omega
  subst hk
  obtain ⟨d1, d2⟩ := dl_norm hx c1 (by rw [Rat.intCast_neg]; grind)
  rw [Rat.intCast_neg] at c1 c2
  refine ⟨⟨h1, h2, by omega, g2, no, nw, AO⟩, ?_, ?_, ?_, ?_⟩
  · rw [d1, Rat.intCast_sub, Rat.intCast_mul, Rat.intCast_neg, show ((1000000000 : Int) : Rat) = 1000000000 from rfl]; grind
  · rw [d1, Rat.intCast_sub, Rat.intCast_mul, Rat.intCast_neg, show ((1000000000 : Int) : Rat) = 1000000000 from rfl]; grind
  · rw [d2, Rat.intCast_sub, Rat.intCast_mul, Rat.intCast_neg, show ((1000000000 : Int) : Rat) = 1000000000 from rfl]; grind
  · rw [d2, Rat.intCast_sub, Rat.intCast_mul, Rat.intCast_neg, show ((1000000000 : Int) : Rat) = 1000000000 from rfl]; grind
theorem pol_sn {th : Rat} (t0 : 0 ≤ th) (t1 : th ≤ 250000000) : SA th = sn (ka * th) ∧ CA th = cs (ka * th) := by
  have ek : ra th = ka * th := by unfold ra ka; grind
  unfold SA CA
  rw [redu_id t0 (by grind), ek]
  exact ⟨rfl, rfl⟩
/-- The line of the afternoon, and that of the morning. -/
theorem dl_pm {lat hour : Int} {Y X th rho : Rat} (h1 : 10000000 ≤ lat) (h2 : lat ≤ 220000000) (g1 : 6 ≤ hour) (g2 : hour ≤ 18) (B : DlBox lat hour Y X) (P : DlPol Y X th rho) : DlOk lat hour ∧ DlLine lat hour th := by
  obtain ⟨y0, x0, far, top, t0, t1, r0, rr, nx, ny⟩ := P
  obtain ⟨es, ec⟩ := pol_sn t0 t1
  exact dl_any h1 h2 g1 g2 B ⟨by grind, t1⟩ r0 x0 (.inl far) rr (by grind) (ec ▸ near_weak nx (by grind)) (es ▸ near_weak ny (by grind)) (near_weak nx (by grind)) (near_weak ny (by grind))
theorem dl_am {lat hour : Int} {Y X th rho : Rat} (h1 : 10000000 ≤ lat) (h2 : lat ≤ 220000000) (g1 : 6 ≤ hour) (g2 : hour ≤ 18) (B : DlBox lat hour (-Y) X) (P : DlPol Y X th rho) : DlOk lat hour ∧ DlLine lat hour (-th) := by
  obtain ⟨y0, x0, far, top, t0, t1, r0, rr, nx, ny⟩ := P
  obtain ⟨es, ec⟩ := pol_sn t0 t1
  obtain ⟨n1, n2⟩ := SCA_neg th
  have f1 : sn (ka * -th) = -SA th := by rw [es, show ka * -th = -(ka * th) by grind, sn_neg]
  have f2 : cs (ka * -th) = CA th := by rw [ec, show ka * -th = -(ka * th) by grind, cs_neg]
  clear es ec
  have p1 := rmul_bd (a := rho) (b := CA (-th) - CA th) (A := rho) (B := e2) (by grind) (by unfold Near at n2; grind)
  have p2 := rmul_bd (a := rho) (b := SA (-th) + SA th) (A := rho) (B := e2) (by grind) (by unfold Near at n1; grind)
  clear n1 n2
  refine dl_any h1 h2 g1 g2 B ⟨by grind, by grind⟩ r0 x0 (.inr (by grind)) (by grind) (by grind) ?_ ?_ ?_ ?_
  · rw [f2]; exact near_weak nx (by grind)
  · rw [f1]; unfold Near at *; clear nx; grind
  · unfold Near at *; clear ny p2; unfold e2 at *; generalize CA (-th) = u at *; generalize CA th = v at *; grind
  · unfold Near at *; clear nx p1; unfold e2 at *; generalize SA (-th) = u at *; generalize SA th = v at *; grind
/-- The closed numbers of the order. -/
theorem hr_ord {m : Int} (h1 : 12 ≤ m) (h2 : m ≤ 17) : 258000000000000000 ≤ sLo (hrA (m + 1)) * cLo (hrA m) - cHi (hrA (m + 1)) * sHi (hrA m) ∧ 0 ≤ cLo (hrA m) ∧ 0 ≤ sHi (hrA m) ∧ 0 ≤ sLo (hrA (m + 1)) := by
  rcases (by omega : m = 12 ∨ m = 13 ∨ m = 14 ∨ m = 15 ∨ m = 16 ∨ m = 17) with rfl | rfl | rfl | rfl | rfl | rfl <;> decide +kernel
end Go.Proofs.YtdeoahgcppbmkaaDoor
/- Dials, plain: the order of the lines, noon, and six o'clock. -/
namespace Go.Proofs.YtdeoahgcppbmkaaDoor
set_option linter.unusedSimpArgs false
set_option linter.unusedVariables false
theorem pol_sum {Y X th rho : Rat} (P : DlPol Y X th rho) : rho ≤ 2100000000 := by
  obtain ⟨y0, x0, far, top, t0, t1, r0, rr, nx, ny⟩ := P
  obtain ⟨p1, p2⟩ := quarter_pos t0 t1
  have q1 := (SA_le th).2; have q2 := (CA_le th).2
  have py := SA_pyth th
  have m1 := Rat.mul_nonneg (show 0 ≤ SA th + 1 / 100000000000000000000000 by grind) (show 0 ≤ 1 + ep - SA th by grind)
  have m2 := Rat.mul_nonneg (show 0 ≤ CA th + 1 / 100000000000000000000000 by grind) (show 0 ≤ 1 + ep - CA th by grind)
  have s : 99 / 100 ≤ SA th + CA th := by
    unfold Near ep at *
    clear nx ny rr top far y0 x0
    generalize SA th = s at *
    generalize CA th = c at *
    grind
  have m := Rat.mul_le_mul_of_nonneg_left s (show 0 ≤ rho by grind)
  clear m1 m2 py
  unfold Near at *
  generalize SA th = s at *
  generalize CA th = c at *
  grind
theorem ka_low {d e : Rat} (h0 : 0 ≤ d) (h1 : d ≤ 250000000) (h : SA d ≤ 1 / 1000000000000) : d < 1 := by
  have ek : ra d = ka * d := by unfold ra ka; grind
  have es : SA d = sn (ka * d) := by unfold SA; rw [redu_id h0 (by grind), ek]
  have kb := ka_bd
  have b1 := Rat.mul_le_mul_of_nonneg_left h1 (show 0 ≤ ka by grind)
  have b0 := Rat.mul_nonneg (show 0 ≤ ka by grind) h0
  have g := sn_half b0 (by grind)
  rw [← es] at g
  clear es ek
  apply Rat.not_le.1
  intro l
  have := Rat.mul_le_mul_of_nonneg_left l (show 0 ≤ ka by grind)
  generalize SA d = s at *
  grind
theorem SA_sub (x y : Rat) : Near (SA (x - y)) (SA x * CA y - CA x * SA y) (5 * e2) := by
  obtain ⟨a, -⟩ := SCA_add x (-y)
  obtain ⟨n1, n2⟩ := SCA_neg y
  have bs := SA_le x; have bc := CA_le x
  have m1 := rmul_bd (a := SA x) (b := CA (-y) - CA y) (A := 1 + ep) (B := e2) bs (by unfold Near at n2; grind)
  have m2 := rmul_bd (a := CA x) (b := SA (-y) + SA y) (A := 1 + ep) (B := e2) bc (by unfold Near at n1; grind)
  rw [show x + -y = x - y by grind] at a
  clear n1 n2 bs bc
  unfold Near e2 ep at *
  grind
theorem SA_low {d : Rat} (h0 : -250000000 ≤ d) (h1 : d ≤ 2000) : SA d ≤ 2 / 100000 := by
  have q := qq_b9
  by_cases c : 0 ≤ d
  · have s := (SA_small c (by grind)).2
    have m := ra_mono h1
    have : ra 2000 ≤ 2 / 100000 := by unfold ra; grind
    grind
  · have s := (SA_small (h := -d) (by grind) (by grind)).1
    obtain ⟨n, -⟩ := SCA_neg (-d)
    rw [show - -d = d by grind] at n
    unfold Near e2 at n
    generalize SA (-d) = u at *
    generalize SA d = v at *
    grind
/-- The lines are apart. -/
theorem dl_order {lat m : Int} {Y X th rho Y' X' th' rho' : Rat} (h1 : 10000000 ≤ lat) (h2 : lat ≤ 220000000) (g1 : 12 ≤ m) (g2 : m ≤ 17) (D : DlPt lat m Y X) (P : DlPol Y X th rho) (D' : DlPt lat (m + 1) Y' X') (P' : DlPol Y' X' th' rho') : th + 2000 < th' := by
  apply Rat.not_le.1
  intro l
  have r1 := pol_sum P; have r2 := pol_sum P'
  have F := lat_sn h1 h2
  have bF := SN_le lat
  obtain ⟨c1, c2, c3, c4⟩ := hr_ord g1 g2
  obtain ⟨y0, x0, far, top, t0, t1, r0, rr, nx, ny⟩ := P
  obtain ⟨y0', x0', far', top', t0', t1', r0', rr', nx', ny'⟩ := P'
  have sd := SA_low (d := th' - th) (by grind) (by grind)
  have sb := SA_sub th' th
  -- the numbers of the boxes
  have k1 := (sin_span (hrA (m + 1))).lo
  have k2 := (sin_span (hrA m)).hi
  obtain ⟨-, ⟨⟩, -, -, -, -, eY, eX⟩ := id D
  obtain ⟨-, ⟨⟩, -, -, -, -, eY', eX'⟩ := id D'
  have b1 := D.pm.x1
  have b2 := D'.pm.x2
  have c1' := Rat.intCast_le_intCast.2 c1
  have c2' := Rat.intCast_le_intCast.2 c2
  have c3' := Rat.intCast_le_intCast.2 c3
  have c4' := Rat.intCast_le_intCast.2 c4
  rw [Rat.intCast_sub, Rat.intCast_mul, Rat.intCast_mul, show ((258000000000000000 : Int) : Rat) = 258000000000000000 from rfl] at c1'
  rw [show ((0 : Int) : Rat) = 0 from rfl] at c2' c3' c4'
  clear c1 c2 c3 c4 D D' eX eX' far far' rr rr'
  have r00 : 0 ≤ rho * rho' := Rat.mul_nonneg (by grind) (by grind)
  have rru : rho * rho' ≤ 2100000000 * 2100000000 := by
    have a := Rat.mul_le_mul_of_nonneg_right r1 (show 0 ≤ rho' by grind)
    grind
  have S0 := Rat.mul_le_mul_of_nonneg_left sd r00
  have S1 : rho * rho' * (SA th' * CA th - CA th' * SA th) ≤ 90000000000000 + 1 := by
    have e : SA th' * CA th - CA th' * SA th ≤ SA (th' - th) + 5 * e2 := by unfold Near at sb; grind
    have a := Rat.mul_le_mul_of_nonneg_left e r00
    clear sb e sd nx ny nx' ny'
    unfold e2 at a
    generalize rho * rho' * (SA th' * CA th - CA th' * SA th) = z at *
    generalize SA (th' - th) = u at *
    generalize rho * rho' = rr at *
    grind
  clear sb sd S0 r00 rru
  have e1 : rho * rho' * (SA th' * CA th - CA th' * SA th) = (rho' * SA th') * (rho * CA th) - (rho' * CA th') * (rho * SA th) := by grind
  rw [e1] at S1
  clear e1
  generalize rho' * SA th' = U at *
  generalize rho * CA th = v at *
  generalize rho' * CA th' = V at *
  generalize rho * SA th = u at *
  clear t0 t1 t0' t1' l r1 r2 r0 r0'
  -- against the points
  have m1 := rmul_bd (a := U - Y') (b := X) (A := 1 / 100000000) (B := 2000000010) (by unfold Near at ny'; clear S1; grind) (by clear S1; grind)
  have m2 := rmul_bd (a := U) (b := v - X) (A := 2000000011) (B := 1 / 100000000) (by unfold Near at ny'; clear S1; grind) (by unfold Near at nx; clear S1; grind)
  have m3 := rmul_bd (a := V - X') (b := Y) (A := 1 / 100000000) (B := 2000000010) (by unfold Near at nx'; clear S1; grind) (by clear S1; grind)
  have m4 := rmul_bd (a := V) (b := u - Y) (A := 2000000011) (B := 1 / 100000000) (by unfold Near at nx'; clear S1; grind) (by unfold Near at ny; clear S1; grind)
  have S2 : Y' * X - X' * Y ≤ 90000000000200 := by
    clear k1 k2 c1' c2' c3' eY eY' nx ny nx' ny' F bF
    grind
  clear S1 m1 m2 m3 m4 nx ny nx' ny'
  generalize SN lat = f at *
  generalize SN (hrA m) = s at *
  generalize SN (hrA (m + 1)) = s' at *
  generalize (sLo (hrA (m + 1)) : Rat) = sl at *
  generalize (sHi (hrA m) : Rat) = sh at *
  generalize (cLo (hrA m) : Rat) = cl at *
  generalize (cHi (hrA (m + 1)) : Rat) = ch at *
  have f0 : 0 ≤ f := by grind
  have g1 := Rat.mul_le_mul_of_nonneg_left k1 f0
  have g2 := Rat.mul_le_mul_of_nonneg_left k2 f0
  have fu : f ≤ 2 := by unfold ep at bF; grind
  clear bF
  have i1 : f * sl - 1 / 100000000 ≤ Y' := by unfold Near at eY'; clear S2 c1' eY g2; grind
  have i2 : Y ≤ f * sh + 1 / 100000000 := by unfold Near at eY; clear S2 c1' eY' g1 i1; grind
  have j1 := Rat.mul_le_mul_of_nonneg_right i1 x0
  have j2 := Rat.mul_le_mul_of_nonneg_left i2 x0'
  have i3 := Rat.mul_le_mul_of_nonneg_left b1 (Rat.mul_nonneg f0 c4')
  have i4 := Rat.mul_le_mul_of_nonneg_right b2 (Rat.mul_nonneg f0 c3')
  have i5 := Rat.mul_le_mul_of_nonneg_right F (show 0 ≤ sl * cl - ch * sh by grind)
  have e3 : f * (sl * cl - ch * sh) = f * sl * cl - ch * (f * sh) := by grind
  rw [e3] at i5
  clear e3 i1 i2 eY eY' k1 k2 g1 g2 b1 b2
  generalize f * sl = z1 at *
  generalize f * sh = z2 at *
  generalize f * s = z3 at *
  generalize f * s' = z4 at *
  grind
theorem dl_six {lat : Int} {Y X th rho : Rat} (D : DlPt lat 18 Y X) (P : DlPol Y X th rho) : 249999999 < th := by
  obtain ⟨y0, x0, far, top, t0, t1, r0, rr, nx, ny⟩ := P
  have eX := D.nx
  have h18 : hrA 18 = 250000000 := by decide
  rw [h18, ← CA_int, show ((250000000 : Int) : Rat) = 250000000 from rfl] at eX
  obtain ⟨q1, q2⟩ := SA_q
  have e1 := eq1_pos
  obtain ⟨a1, a2⟩ := SCA_add th (250000000 - th)
  rw [show th + (250000000 - th) = 250000000 by grind] at a1 a2
  obtain ⟨p1, p2⟩ := quarter_pos t0 t1
  have s := SA_sub 250000000 th
  have bs := SA_le th; have bc := CA_le th
  have m1 := rmul_bd (a := SA 250000000 - 1) (b := CA th) (A := 4 * eq1) (B := 1 + ep) (by unfold Near at q1; grind) bc
  have m2 := rmul_bd (a := CA 250000000) (b := SA th) (A := 4 * eq1) (B := 1 + ep) (by unfold Near at q2; grind) bs
  clear a1 a2 D
  have hc : CA th ≤ 1 / 10000000000000 := by
    apply Rat.not_lt.1
    intro l
    have := Rat.mul_lt_mul_of_pos_left l (show 0 < rho by grind)
    have x : X ≤ 1 / 100000000 := by unfold Near at eX q2; unfold eq1 at *; clear nx ny s m1 m2 q1; generalize CA 250000000 = z at *; grind
    clear s m1 m2 q1 q2 eX ny
    unfold Near at nx
    generalize rho * CA th = z at *
    grind
  have sd : SA (250000000 - th) ≤ 1 / 1000000000000 := by
    clear nx ny eX q2 q1
    unfold Near e2 ep eq1 at *
    clear bs p1
    generalize SA (250000000 - th) = z1 at *
    generalize SA 250000000 = z2 at *
    generalize CA 250000000 = z3 at *
    generalize CA th = z4 at *
    generalize SA th = z5 at *
    grind
  have := ka_low (d := 250000000 - th) (e := 0) (by grind) (by grind) sd
  clear nx ny s m1 m2 q1 q2 eX
  grind
theorem dl_twelve {Y X th rho : Rat} (hY : Y = 0) (P : DlPol Y X th rho) : th < 1 := by
  obtain ⟨y0, x0, far, top, t0, t1, r0, rr, nx, ny⟩ := P
  have sd : SA th ≤ 1 / 1000000000000 := by
    apply Rat.not_lt.1
    intro l
    have := Rat.mul_lt_mul_of_pos_left l (show 0 < rho by grind)
    unfold Near at ny
    clear nx
    generalize rho * SA th = z at *
    grind
  exact ka_low (e := 0) t0 t1 sd
theorem dl_bd {lat hour : Int} {x : Rat} (h : DlLine lat hour x) (hx : -250000000 ≤ x ∧ x ≤ 250000000) : -250001000 ≤ dlL lat hour ∧ dlL lat hour ≤ 250000000 ∧ -250000000 ≤ dlH lat hour ∧ dlH lat hour ≤ 250001000 := by
  obtain ⟨l1, l2, u1, u2⟩ := h
  refine ⟨?_, ?_, ?_, ?_⟩ <;> apply int_le_of_rat
  · rw [show ((-250001000 : Int) : Rat) = -250001000 from rfl]; grind
  · rw [show ((250000000 : Int) : Rat) = 250000000 from rfl]; grind
  · rw [show ((-250000000 : Int) : Rat) = -250000000 from rfl]; grind
  · rw [show ((250001000 : Int) : Rat) = 250001000 from rfl]; grind
/-- Each line is found. -/
structure DlBd (lat hour : Int) : Prop where
  ok : DlOk lat hour
  bd : -250001000 ≤ dlL lat hour ∧ dlL lat hour ≤ 250000000 ∧ -250000000 ≤ dlH lat hour ∧ dlH lat hour ≤ 250001000
/-- The lines of an hour and of its mirror. -/
theorem dl_two {lat m : Int} (h1 : 10000000 ≤ lat) (h2 : lat ≤ 220000000) (g1 : 12 ≤ m) (g2 : m ≤ 18) : ∃ Y X th rho, DlPt lat m Y X ∧ (m = 12 → Y = 0) ∧ DlPol Y X th rho ∧ DlBd lat m ∧ DlBd lat (24 - m) ∧ DlLine lat m th ∧ DlLine lat (24 - m) (-th) := by
  obtain ⟨Y, X, D, hY⟩ := dl_pt h1 h2 g1 g2
  obtain ⟨th, rho, P⟩ := dl_pol D.y0 D.x0 D.far D.top
  obtain ⟨a1, a2⟩ := dl_pm h1 h2 (by omega) g2 D.pm P
  obtain ⟨b1, b2⟩ := dl_am h1 h2 (by omega) (by omega) D.am P
  have t0 := P.t0; have t1 := P.t1
  exact ⟨Y, X, th, rho, D, hY, P, ⟨a1, dl_bd a2 ⟨by grind, t1⟩⟩, ⟨b1, dl_bd b2 ⟨by grind, by grind⟩⟩, a2, b2⟩
theorem dl_ok {lat hour : Int} (h1 : 10000000 ≤ lat) (h2 : lat ≤ 220000000) (g1 : 6 ≤ hour) (g2 : hour ≤ 18) : DlBd lat hour := by
  by_cases c : 12 ≤ hour
  · obtain ⟨Y, X, th, rho, D, hY, P, a, b, l, r⟩ := dl_two h1 h2 c g2
    exact a
  · obtain ⟨Y, X, th, rho, D, hY, P, a, b, l, r⟩ := dl_two h1 h2 (show 12 ≤ 24 - hour by omega) (by omega)
    rw [show 24 - (24 - hour) = hour by omega] at b
    exact b
theorem dialSides_law {lat hour : Int} (h1 : 10000000 ≤ lat) (h2 : lat ≤ 220000000) (g1 : 6 ≤ hour) (g2 : hour ≤ 17) : dlL lat hour ≤ -dlL lat (24 - hour) + 2 ∧ -dlH lat (24 - hour) - 2 ≤ dlH lat hour ∧ dlH lat hour < dlL lat (hour + 1) := by
  by_cases c : 12 ≤ hour
  · obtain ⟨Y, X, th, rho, D, hY, P, a, b, l, r⟩ := dl_two h1 h2 c (by omega)
    obtain ⟨Y', X', th', rho', D', hY', P', a', b', l', r'⟩ := dl_two h1 h2 (show 12 ≤ hour + 1 by omega) (by omega)
    have o := dl_order h1 h2 c g2 D P D' P'
    obtain ⟨l1, l2, u1, u2⟩ := l
    obtain ⟨l1', l2', u1', u2'⟩ := l'
    obtain ⟨l3, l4, u3, u4⟩ := r
    refine ⟨?_, ?_, ?_⟩
    · apply int_le_of_rat
      rw [Rat.intCast_add, Rat.intCast_neg, show ((2 : Int) : Rat) = 2 from rfl]; grind
    · apply int_le_of_rat
      rw [Rat.intCast_sub, Rat.intCast_neg, show ((2 : Int) : Rat) = 2 from rfl]; grind
    · apply int_lt_of_rat
      grind
  · obtain ⟨Y, X, th, rho, D, hY, P, a, b, l, r⟩ := dl_two h1 h2 (show 12 ≤ 24 - (hour + 1) by omega) (by omega)
    obtain ⟨Y', X', th', rho', D', hY', P', a', b', l', r'⟩ := dl_two h1 h2 (show 12 ≤ 24 - (hour + 1) + 1 by omega) (by omega)
    have o := dl_order h1 h2 (by omega) (by omega) D P D' P'
    rw [show 24 - (24 - (hour + 1)) = hour + 1 by omega] at r
    rw [show 24 - (24 - (hour + 1) + 1) = hour by omega] at r'
    rw [show 24 - (hour + 1) + 1 = 24 - hour by omega] at l'
    obtain ⟨l1, l2, u1, u2⟩ := r'
    obtain ⟨l1', l2', u1', u2'⟩ := l'
    obtain ⟨l3, l4, u3, u4⟩ := r
    refine ⟨?_, ?_, ?_⟩
    · apply int_le_of_rat
      rw [Rat.intCast_add, Rat.intCast_neg, show ((2 : Int) : Rat) = 2 from rfl]; grind
    · apply int_le_of_rat
      rw [Rat.intCast_sub, Rat.intCast_neg, show ((2 : Int) : Rat) = 2 from rfl]; grind
    · apply int_lt_of_rat
      grind
theorem dialNoon_law {lat : Int} (h1 : 10000000 ≤ lat) (h2 : lat ≤ 220000000) : (dlL lat 12 ≤ 0 ∧ 0 ≤ dlH lat 12) ∧ (dlL lat 6 ≤ -249999900 ∧ -250000100 ≤ dlH lat 6) ∧ dlL lat 18 ≤ 250000100 ∧ 249999900 ≤ dlH lat 18 := by
  obtain ⟨Y, X, th, rho, D, hY, P, a, b, l, r⟩ := dl_two h1 h2 (show (12 : Int) ≤ 12 by omega) (by omega)
  obtain ⟨Y', X', th', rho', D', hY', P', a', b', l', r'⟩ := dl_two h1 h2 (show (12 : Int) ≤ 18 by omega) (by omega)
  have t1 := dl_twelve (hY rfl) P
  have t2 := dl_six D' P'
  have t3 := P'.t1
  have t4 := P.t0
  obtain ⟨l1, l2, u1, u2⟩ := l
  obtain ⟨l1', l2', u1', u2'⟩ := l'
  obtain ⟨l3, l4, u3, u4⟩ := r'
  rw [show (24 : Int) - 18 = 6 from rfl] at l3 l4 u3 u4
  refine ⟨⟨?_, ?_⟩, ⟨?_, ?_⟩, ?_, ?_⟩
  · have : dlL lat 12 < 1 := by
      apply int_lt_of_rat
      rw [show ((1 : Int) : Rat) = 1 from rfl]; grind
    omega
  · apply int_le_of_rat
    rw [show ((0 : Int) : Rat) = 0 from rfl]; grind
  · apply int_le_of_rat
    rw [show ((-249999900 : Int) : Rat) = -249999900 from rfl]; grind
  · apply int_le_of_rat
    rw [show ((-250000100 : Int) : Rat) = -250000100 from rfl]; grind
  · apply int_le_of_rat
    rw [show ((250000100 : Int) : Rat) = 250000100 from rfl]; grind
  · apply int_le_of_rat
    rw [show ((249999900 : Int) : Rat) = 249999900 from rfl]; grind
end Go.Proofs.YtdeoahgcppbmkaaDoor
