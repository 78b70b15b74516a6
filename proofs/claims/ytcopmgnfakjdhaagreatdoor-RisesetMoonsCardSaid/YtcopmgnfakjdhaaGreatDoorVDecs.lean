/- Merged by wip/tools/pack.py out of XEqP, XDec, XAsinR, XPolar, XParts. -/
import Derived.Test.YtcopmgnfakjdhaaGreatDoorVArcAs
import Derived.Test.YtcopmgnfakjdhaaGreatDoorVTrigOs
import Derived.Test.YtcopmgnfakjdhaaGreatDoorVReals
import Derived.Test.YtcopmgnfakjdhaaGreatDoorVEqus
import Derived.Test.YtcopmgnfakjdhaaGreatDoorVMoons
import Derived.Test.YtcopmgnfakjdhaaGreatDoorVTrigA
import Derived.Test.YtcopmgnfakjdhaaGreatDoorVLookPs
/- Merged by wip/tools/pack.py out of XNarrow, XEquP. -/
/- Narrow boxes have narrow arcs; spans over short spans of angles lie near their sines; products of spans that lie near numbers. Plain. -/
namespace Go.Proofs.YtcopmgnfakjdhaaGreatDoor
set_option linter.unusedSimpArgs false
set_option linter.unusedVariables false
theorem polar {Y X : Int} (hY : Sml Y) (hX : Sml X) (h0 : Y ≠ 0 ∨ X ≠ 0) : ∃ t rho : Rat, -(337 / 100) ≤ t ∧ t ≤ 337 / 100 ∧ 0 < rho ∧ szR Y X ≤ 201 / 100 * rho ∧ Near (X : Rat) (rho * cs t) (1 / 100000000000000 * szR Y X) ∧ Near (Y : Rat) (rho * sn t) (1 / 100000000000000 * szR Y X) := by
  have D := (dir_main hY hX h0).1
  obtain ⟨bx, by'⟩ := sz_bd Y X
  have sp := sz_pos h0
  obtain ⟨n, p, l, u⟩ := D
  have t8 : -8 ≤ dirV Y X ∧ dirV Y X ≤ 8 := by grind
  have py := pyth t8
  have sA := sn_le t8; have cA := cs_le t8
  have nx : ∀ n : Int, (n.natAbs : Rat) = (n : Rat) ∨ (n.natAbs : Rat) = -(n : Rat) := fun n => by
    rcases (by omega : (n.natAbs : Int) = n ∨ (n.natAbs : Int) = -n) with h | h
    · left
      have := congrArg (fun k : Int => (k : Rat)) h
      (try dsimp only at this)
      rwa [Rat.intCast_natCast] at this
    · right
      have := congrArg (fun k : Int => (k : Rat)) h
      (try dsimp only at this)
      rwa [Rat.intCast_natCast, Rat.intCast_neg] at this
  have a1 := nx X; have a2 := nx Y
  have es : szR Y X = (X.natAbs : Rat) + (Y.natAbs : Rat) := rfl
  generalize dirV Y X = t at *
  generalize (X : Rat) = x at *
  generalize (Y : Rat) = y at *
  generalize (X.natAbs : Rat) = xa at *
  generalize (Y.natAbs : Rat) = ya at *
  generalize szR Y X = R at *
  have R0 : 0 ≤ R := by grind
  have m1 := rmul_bd (a := x * sn t - y * cs t) (b := sn t) (A := 2 / 1000000000000000 * R) (B := 101 / 100) (by unfold Near at n; grind) (by unfold ep at sA; grind)
  have m2 := rmul_bd (a := x * sn t - y * cs t) (b := cs t) (A := 2 / 1000000000000000 * R) (B := 101 / 100) (by unfold Near at n; grind) (by unfold ep at cA; grind)
  have q1 := rmul_bd (a := x) (b := cs t * cs t + sn t * sn t - 1) (A := R) (B := ep) bx (by unfold Near at py; grind)
  have q2 := rmul_bd (a := y) (b := cs t * cs t + sn t * sn t - 1) (A := R) (B := ep) by' (by unfold Near at py; grind)
  have rp : 0 < x * cs t + y * sn t := by grind
  have nX : Near x ((x * cs t + y * sn t) * cs t) (1 / 100000000000000 * R) := by
    have e : x - (x * cs t + y * sn t) * cs t = (x * sn t - y * cs t) * sn t - x * (cs t * cs t + sn t * sn t - 1) := by grind
    unfold Near
    unfold ep at q1
    generalize (x * sn t - y * cs t) * sn t = u1 at *
    generalize x * (cs t * cs t + sn t * sn t - 1) = u2 at *
    generalize (x * cs t + y * sn t) * cs t = u3 at *
    clear m2 q2 py sA cA n a1 a2
    constructor <;> grind
  have nY : Near y ((x * cs t + y * sn t) * sn t) (1 / 100000000000000 * R) := by
    have e : y - (x * cs t + y * sn t) * sn t = -((x * sn t - y * cs t) * cs t) - y * (cs t * cs t + sn t * sn t - 1) := by grind
    unfold Near
    unfold ep at q2
    generalize (x * sn t - y * cs t) * cs t = u1 at *
    generalize y * (cs t * cs t + sn t * sn t - 1) = u2 at *
    generalize (x * cs t + y * sn t) * sn t = u3 at *
    clear m1 q1 py sA cA n a1 a2
    constructor <;> grind
  refine ⟨t, x * cs t + y * sn t, l, u, rp, ?_, nX, nY⟩
  generalize x * cs t + y * sn t = rho at *
  have b1 := rmul_bd (a := rho) (b := cs t) (A := rho) (B := 1 + ep) (by grind) cA
  have b2 := rmul_bd (a := rho) (b := sn t) (A := rho) (B := 1 + ep) (by grind) sA
  clear m1 m2 q1 q2 py n p
  unfold Near ep at *
  generalize rho * cs t = u1 at *
  generalize rho * sn t = u2 at *
  grind
theorem sz_le {Y X Y' X' E : Int} (hE : 0 ≤ E) (h1 : -E ≤ Y' - Y ∧ Y' - Y ≤ E) (h2 : -E ≤ X' - X ∧ X' - X ≤ E) : szR Y' X' ≤ szR Y X + 2 * (E : Rat) := by
  have : ((X'.natAbs + Y'.natAbs : Nat) : Int) ≤ ((X.natAbs + Y.natAbs : Nat) : Int) + 2 * E := by omega
  have := Rat.intCast_le_intCast.2 this
  rw [Rat.intCast_add, Rat.intCast_mul, Rat.intCast_natCast, Rat.intCast_natCast, Rat.natCast_add, Rat.natCast_add, show ((2 : Int) : Rat) = 2 from rfl] at this
  unfold szR
  exact this
theorem arc_narrow {a b c d E : Int} (H : ArcIn a b c d) (hE : 0 ≤ E) (h1 : b - a ≤ E) (h2 : d - c ≤ E) (h3 : 400 * E ≤ (c.natAbs + a.natAbs : Nat)) : arcHi a b c d - arcLo a b c d ≤ 20000000 := by
  obtain ⟨n1, n2, n3, n4⟩ := H.ne
  obtain ⟨t, rho, t1, t2, r0, rs, nx, ny⟩ := polar H.sa H.sc' n1
  have ab := H.ab; have cd := H.cd
  have s2 := sz_le (Y := a) (X := c) (Y' := a) (X' := d) hE (by omega) (by omega)
  have s3 := sz_le (Y := a) (X := c) (Y' := b) (X' := c) hE (by omega) (by omega)
  have s4 := sz_le (Y := a) (X := c) (Y' := b) (X' := d) hE (by omega) (by omega)
  have e3 := Rat.intCast_le_intCast.2 h3
  rw [Rat.intCast_mul, Rat.intCast_natCast, Rat.natCast_add, show ((400 : Int) : Rat) = 400 from rfl] at e3
  have es : szR a c = (c.natAbs : Rat) + (a.natAbs : Rat) := rfl
  rw [← es] at e3
  have e0 : (0 : Rat) ≤ (E : Rat) := Rat.intCast_le_intCast.2 hE
  have f1 := Rat.intCast_le_intCast.2 (show b ≤ a + E by omega)
  have f2 := Rat.intCast_le_intCast.2 (show d ≤ c + E by omega)
  rw [Rat.intCast_add] at f1 f2
  have g1 := Rat.intCast_le_intCast.2 ab
  have g2 := Rat.intCast_le_intCast.2 cd
  have he : (E : Rat) + 1 / 100000000000000 * szR a c ≤ rho / 100 := by grind
  unfold Near at nx ny
  obtain ⟨K, k1, k2⟩ := arc_tight H (A := t) (rho := rho) (e := (E : Rat) + 1 / 100000000000000 * szR a c) r0 (by grind) he (by unfold Near; grind) (by unfold Near; grind) (by unfold Near; grind) (by unfold Near; grind) (by grind) (by grind) (by grind) (by grind)
  have ee : ((E : Rat) + 1 / 100000000000000 * szR a c) / rho ≤ 1 / 100 := by
    have x : ((E : Rat) + 1 / 100000000000000 * szR a c) / rho * rho = (E : Rat) + 1 / 100000000000000 * szR a c := by grind
    apply Rat.not_lt.1
    intro h
    have := Rat.mul_lt_mul_of_pos_right h r0
    grind
  have kb := ka_bd
  generalize ((E : Rat) + 1 / 100000000000000 * szR a c) / rho = g at *
  generalize 8 * qq * (K : Rat) = z at *
  have k3 : ka * ((arcHi a b c d : Rat) - 2) - ka * ((arcLo a b c d : Rat) + 2) ≤ 11 / 100 := by grind
  have k4 : ka * ((arcHi a b c d : Rat) - (arcLo a b c d : Rat) - 4) ≤ 11 / 100 := by
    have : ka * ((arcHi a b c d : Rat) - (arcLo a b c d : Rat) - 4) = ka * ((arcHi a b c d : Rat) - 2) - ka * ((arcLo a b c d : Rat) + 2) := by grind
    rw [this]; exact k3
  apply int_le_of_rat
  rw [Rat.intCast_sub, show ((20000000 : Int) : Rat) = 20000000 from rfl]
  clear k1 k2 k3 ee he s2 s3 s4 e3 f1 f2 g1 g2 nx ny rs
  apply Rat.not_lt.1
  intro h
  have : 20000000 - 4 < (arcHi a b c d : Rat) - (arcLo a b c d : Rat) - 4 := by grind
  have := Rat.mul_lt_mul_of_pos_left this (show 0 < ka by grind)
  grind
end Go.Proofs.YtcopmgnfakjdhaaGreatDoor
/- sun.Equator, plain: near which directions its spans lie; that it never fails where the spans are short. -/
namespace Go.Proofs.YtcopmgnfakjdhaaGreatDoor
set_option linter.unusedSimpArgs false
set_option linter.unusedVariables false
theorem fl_near {u v : Int} {X Y e f g : Rat} (hu : Near (u : Rat) X e) (hv : Near (v : Rat) Y f) (hX : -1000000001 ≤ X ∧ X ≤ 1000000001) (hY : -1000000001 ≤ Y ∧ Y ≤ 1000000001) (he : 0 ≤ e ∧ e ≤ 4000000) (hf : 0 ≤ f ∧ f ≤ 4000000) (hg : 101 / 100 * e + 101 / 100 * f + 1 ≤ g) :
    Near ((u * v / 1000000000 : Int) : Rat) (X * Y / 1000000000) g ∧ Near (upQ (u * v) 1000000000 : Rat) (X * Y / 1000000000) g := by
  have m1 := rmul_bd (a := (u : Rat) - X) (b := Y) (A := e) (B := 1000000001) (by unfold Near at hu; grind) hY
  have m2 := rmul_bd (a := X) (b := (v : Rat) - Y) (A := 1000000001) (B := f) hX (by unfold Near at hv; grind)
  have m3 := rmul_bd (a := (u : Rat) - X) (b := (v : Rat) - Y) (A := e) (B := f) (by unfold Near at hu; grind) (by unfold Near at hv; grind)
  have ef : e * f ≤ 4000000 * f := Rat.mul_le_mul_of_nonneg_right he.2 hf.1
  have ex : (u : Rat) * (v : Rat) = X * Y + ((u : Rat) - X) * Y + X * ((v : Rat) - Y) + ((u : Rat) - X) * ((v : Rat) - Y) := by grind
  have d1 : u * v - 1000000000 < u * v / 1000000000 * 1000000000 ∧ u * v / 1000000000 * 1000000000 ≤ u * v := by omega
  have d2 : u * v ≤ upQ (u * v) 1000000000 * 1000000000 ∧ upQ (u * v) 1000000000 * 1000000000 < u * v + 1000000000 := by unfold upQ; omega
  obtain ⟨d11, d12⟩ := d1
  obtain ⟨d21, d22⟩ := d2
  replace d11 := Rat.intCast_lt_intCast.2 d11
  replace d12 := Rat.intCast_le_intCast.2 d12
  replace d21 := Rat.intCast_le_intCast.2 d21
  replace d22 := Rat.intCast_lt_intCast.2 d22
  rw [Rat.intCast_sub, Rat.intCast_mul, Rat.intCast_mul, show ((1000000000 : Int) : Rat) = 1000000000 from rfl] at d11
  rw [Rat.intCast_mul, Rat.intCast_mul, show ((1000000000 : Int) : Rat) = 1000000000 from rfl] at d12 d21
  rw [Rat.intCast_mul, Rat.intCast_add, Rat.intCast_mul, show ((1000000000 : Int) : Rat) = 1000000000 from rfl] at d22
  rw [ex] at d11 d12 d21 d22
  clear ex hu hv hX hY
  unfold Near
  generalize ((u * v / 1000000000 : Int) : Rat) = p at *
  generalize (upQ (u * v) 1000000000 : Rat) = q at *
  generalize ((u : Rat) - X) * Y = x1 at *
  generalize X * ((v : Rat) - Y) = x2 at *
  generalize ((u : Rat) - X) * ((v : Rat) - Y) = x3 at *
  generalize X * Y = x4 at *
  constructor <;> constructor <;> grind
theorem tm_near {a b c d : Int} {X Y e f g : Rat} (ha : Near (a : Rat) X e) (hb : Near (b : Rat) X e) (hc : Near (c : Rat) Y f) (hd : Near (d : Rat) Y f) (hX : -1000000001 ≤ X ∧ X ≤ 1000000001) (hY : -1000000001 ≤ Y ∧ Y ≤ 1000000001) (he : 0 ≤ e ∧ e ≤ 4000000) (hf : 0 ≤ f ∧ f ≤ 4000000) (hg : 101 / 100 * e + 101 / 100 * f + 1 ≤ g) :
    Near (tmLo a b c d : Rat) (X * Y / 1000000000) g ∧ Near (tmHi a b c d : Rat) (X * Y / 1000000000) g := by
  obtain ⟨p1, q1⟩ := fl_near ha hc hX hY he hf hg
  obtain ⟨p2, q2⟩ := fl_near ha hd hX hY he hf hg
  obtain ⟨p3, q3⟩ := fl_near hb hc hX hY he hf hg
  obtain ⟨p4, q4⟩ := fl_near hb hd hX hY he hf hg
  unfold tmLo tmHi pLo pHi
  constructor
  · generalize a * c / 1000000000 = y1 at *
    generalize a * d / 1000000000 = y2 at *
    generalize b * c / 1000000000 = y3 at *
    generalize b * d / 1000000000 = y4 at *
    rcases (by omega : min (min (min (min y1 y1) y2) y3) y4 = y1 ∨ min (min (min (min y1 y1) y2) y3) y4 = y2 ∨ min (min (min (min y1 y1) y2) y3) y4 = y3 ∨ min (min (min (min y1 y1) y2) y3) y4 = y4) with h | h | h | h <;> (rw [h]; assumption)
  · generalize upQ (a * c) 1000000000 = y1 at *
    generalize upQ (a * d) 1000000000 = y2 at *
    generalize upQ (b * c) 1000000000 = y3 at *
    generalize upQ (b * d) 1000000000 = y4 at *
    rcases (by omega : max (max (max (max y1 y1) y2) y3) y4 = y1 ∨ max (max (max (max y1 y1) y2) y3) y4 = y2 ∨ max (max (max (max y1 y1) y2) y3) y4 = y3 ∨ max (max (max (max y1 y1) y2) y3) y4 = y4) with h | h | h | h <;> (rw [h]; assumption)
def dX (la be : Int) : Rat := 1000000000 * (CN be * CN la)
def dY (la be : Int) : Rat := 1000000000 * (CN be * SN la * CN 65109000 - SN be * SN 65109000)
def dZ (la be : Int) : Rat := 1000000000 * (CN be * SN la * SN 65109000 + SN be * CN 65109000)
theorem kW_40 : 0 ≤ kW 40010 ∧ kW 40010 ≤ 251400 := by
  have q := qq_b9
  unfold kW ra
  rw [show ((40010 : Int) : Rat) = 40010 from rfl]
  generalize qq = p at *
  constructor <;> grind
theorem prod_le {a b : Rat} (ha : -(1 + ep) ≤ a ∧ a ≤ 1 + ep) (hb : -(1 + ep) ≤ b ∧ b ≤ 1 + ep) : -1000000001 ≤ 1000000000 * (a * b) ∧ 1000000000 * (a * b) ≤ 1000000001 := by
  have := rmul_bd ha hb
  unfold ep at *
  generalize a * b = c at *
  constructor <;> grind
structure EqNear (l1 l2 b1 b2 la be : Int) : Prop where
  xl : Near (eqXL l1 l2 b1 b2 : Rat) (dX la be) 526000
  xh : Near (eqXH l1 l2 b1 b2 : Rat) (dX la be) 526000
  yl : Near (eqYL l1 l2 b1 b2 : Rat) (dY la be) 800000
  yh : Near (eqYH l1 l2 b1 b2 : Rat) (dY la be) 800000
  zl : Near (eqZL l1 l2 b1 b2 : Rat) (dZ la be) 800000
  zh : Near (eqZH l1 l2 b1 b2 : Rat) (dZ la be) 800000
theorem eq_near {l1 l2 b1 b2 la be : Int} (hl : l1 ≤ l2) (hlw : l2 - l1 ≤ 40010) (hb : b1 ≤ b2) (hbw : b2 - b1 ≤ 40010) (la1 : l1 ≤ la) (la2 : la ≤ l2) (be1 : b1 ≤ be) (be2 : be ≤ b2) : EqNear l1 l2 b1 b2 la be := by
  have k := kW_40
  obtain ⟨s1, s2⟩ := so_near hl hlw (by omega) la1 la2
  obtain ⟨c1, c2⟩ := co_near hl hlw (by omega) la1 la2
  obtain ⟨u1, u2⟩ := so_near hb hbw (by omega) be1 be2
  obtain ⟨v1, v2⟩ := co_near hb hbw (by omega) be1 be2
  have ex : Near (eqXL l1 l2 b1 b2 : Rat) (1000000000 * CN be * (1000000000 * CN la) / 1000000000) 526000 ∧ Near (eqXH l1 l2 b1 b2 : Rat) (1000000000 * CN be * (1000000000 * CN la) / 1000000000) 526000 :=
    tm_near v1 v2 c1 c2 (CN_9 be) (CN_9 la) (by grind) (by grind) (by grind)
  have ea : Near (eqAL l1 l2 b1 b2 : Rat) (1000000000 * CN be * (1000000000 * SN la) / 1000000000) 526000 ∧ Near (eqAH l1 l2 b1 b2 : Rat) (1000000000 * CN be * (1000000000 * SN la) / 1000000000) 526000 :=
    tm_near v1 v2 s1 s2 (CN_9 be) (SN_9 la) (by grind) (by grind) (by grind)
  have rx : 1000000000 * CN be * (1000000000 * CN la) / 1000000000 = dX la be := by unfold dX; grind
  have ra' : 1000000000 * CN be * (1000000000 * SN la) / 1000000000 = 1000000000 * (CN be * SN la) := by grind
  rw [rx] at ex
  rw [ra'] at ea
  have bA := prod_le (CN_le be) (SN_le la)
  have se := sin_span 65109000; have ce := cos_span 65109000
  have se1 : Near (sLo 65109000 : Rat) (1000000000 * SN 65109000) (103 / 100) := by have := se.lo; have := se.lo2; unfold Near; grind
  have se2 : Near (sHi 65109000 : Rat) (1000000000 * SN 65109000) (103 / 100) := by have := se.hi; have := se.hi2; unfold Near; grind
  have ce1 : Near (cLo 65109000 : Rat) (1000000000 * CN 65109000) (103 / 100) := by have := ce.lo; have := ce.lo2; unfold Near; grind
  have ce2 : Near (cHi 65109000 : Rat) (1000000000 * CN 65109000) (103 / 100) := by have := ce.hi; have := ce.hi2; unfold Near; grind
  clear se ce rx ra' s1 s2 c1 c2 v1 v2
  have y1 := tm_near (g := 531270) ea.1 ea.2 ce1 ce2 bA (CN_9 65109000) (by grind) (by grind) (by grind)
  have y2 := tm_near (g := 254000) u1 u2 se1 se2 (SN_9 be) (SN_9 65109000) (by grind) (by grind) (by grind)
  have z1 := tm_near (g := 531270) ea.1 ea.2 se1 se2 bA (SN_9 65109000) (by grind) (by grind) (by grind)
  have z2 := tm_near (g := 254000) u1 u2 ce1 ce2 (SN_9 be) (CN_9 65109000) (by grind) (by grind) (by grind)
  clear u1 u2 se1 se2 ce1 ce2 bA ea k
  refine ⟨ex.1, ex.2, ?_, ?_, ?_, ?_⟩
  · unfold eqYL dY
    rw [Rat.intCast_sub]
    obtain ⟨p, -⟩ := y1; obtain ⟨-, q⟩ := y2
    clear z1 z2 ex
    unfold Near at *
    constructor <;> grind
  · unfold eqYH dY
    rw [Rat.intCast_sub]
    obtain ⟨-, p⟩ := y1; obtain ⟨q, -⟩ := y2
    clear z1 z2 ex
    unfold Near at *
    constructor <;> grind
  · unfold eqZL dZ
    rw [Rat.intCast_add]
    obtain ⟨p, -⟩ := z1; obtain ⟨q, -⟩ := z2
    clear y1 y2 ex
    unfold Near at *
    constructor <;> grind
  · unfold eqZH dZ
    rw [Rat.intCast_add]
    obtain ⟨-, p⟩ := z1; obtain ⟨-, q⟩ := z2
    clear y1 y2 ex
    unfold Near at *
    constructor <;> grind
theorem tilt_num : 397700000 ≤ sLo 65109000 ∧ sHi 65109000 ≤ 397850000 ∧ 917400000 ≤ cLo 65109000 ∧ cHi 65109000 ≤ 917550000 := by decide +kernel
theorem tilt_sc : 3976 / 10000 ≤ SN 65109000 ∧ SN 65109000 ≤ 3979 / 10000 ∧ 9173 / 10000 ≤ CN 65109000 ∧ CN 65109000 ≤ 9176 / 10000 := by
  obtain ⟨h1, h2, h3, h4⟩ := tilt_num
  replace h1 := Rat.intCast_le_intCast.2 h1
  replace h2 := Rat.intCast_le_intCast.2 h2
  replace h3 := Rat.intCast_le_intCast.2 h3
  replace h4 := Rat.intCast_le_intCast.2 h4
  rw [show ((397700000 : Int) : Rat) = 397700000 from rfl] at h1
  rw [show ((397850000 : Int) : Rat) = 397850000 from rfl] at h2
  rw [show ((917400000 : Int) : Rat) = 917400000 from rfl] at h3
  rw [show ((917550000 : Int) : Rat) = 917550000 from rfl] at h4
  have s := sin_span 65109000; have c := cos_span 65109000
  have a1 := s.lo; have a2 := s.hi; have b1 := c.lo; have b2 := c.hi
  clear s c
  refine ⟨?_, ?_, ?_, ?_⟩ <;> grind
theorem d_unit (la be : Int) : Near (dX la be * dX la be + dY la be * dY la be + dZ la be * dZ la be) 1000000000000000000 1 := by
  have pl := SN_pyth la; have pb := SN_pyth be; have pe := SN_pyth 65109000
  have bl := SN_le la; have bb := SN_le be; have cb := CN_le be
  unfold dX dY dZ
  generalize SN la = sl at *
  generalize CN la = cl at *
  generalize SN be = sb at *
  generalize CN be = cb' at *
  generalize SN 65109000 = se at *
  generalize CN 65109000 = ce at *
  have id : 1000000000 * (cb' * cl) * (1000000000 * (cb' * cl)) + 1000000000 * (cb' * sl * ce - sb * se) * (1000000000 * (cb' * sl * ce - sb * se)) + 1000000000 * (cb' * sl * se + sb * ce) * (1000000000 * (cb' * sl * se + sb * ce)) = 1000000000000000000 * (1 + cb' * cb' * (cl * cl + sl * sl - 1) + (cb' * sl * (cb' * sl) + sb * sb) * (ce * ce + se * se - 1) + (cb' * cb' + sb * sb - 1)) := by grind
  rw [id]
  have q1 := rmul_bd cb cb
  have q2 := rmul_bd cb bl
  have q3 := rmul_bd (a := cb' * sl) (b := cb' * sl) (A := 2) (B := 2) (by unfold ep at q2; grind) (by unfold ep at q2; grind)
  have q4 := rmul_bd bb bb
  have r1 := rmul_bd (a := cb' * cb') (b := cl * cl + sl * sl - 1) (A := 2) (B := ep) (by unfold ep at q1; grind) (by unfold Near at pl; grind)
  have r2 := rmul_bd (a := cb' * sl * (cb' * sl) + sb * sb) (b := ce * ce + se * se - 1) (A := 6) (B := ep) (by unfold ep at q4; grind) (by unfold Near at pe; grind)
  clear id q1 q2 q3 q4 bl bb cb pl pe
  unfold Near ep at *
  generalize cb' * cb' * (cl * cl + sl * sl - 1) = z1 at *
  generalize (cb' * sl * (cb' * sl) + sb * sb) * (ce * ce + se * se - 1) = z2 at *
  constructor <;> grind
theorem sb_small {be : Int} (h : -15900000 ≤ be ∧ be ≤ 15900000) : -(1 / 10) ≤ SN be ∧ SN be ≤ 1 / 10 := by
  have m := (SN_move (a := 0) (b := be) (W := 15900000) (by omega)).1
  rw [SN_0] at m
  have q := qq_b9
  unfold Near kW ra at m
  rw [show ((15900000 : Int) : Rat) = 15900000 from rfl] at m
  generalize qq = p at *
  constructor <;> grind
theorem dZ_bd {la be : Int} (h : -15900000 ≤ be ∧ be ≤ 15900000) : -490000000 ≤ dZ la be ∧ dZ la be ≤ 490000000 := by
  obtain ⟨t1, t2, t3, t4⟩ := tilt_sc
  have b := sb_small h
  have q := rmul_bd (CN_le be) (SN_le la)
  have r1 := rmul_bd (a := CN be * SN la) (b := SN 65109000) (A := 10001 / 10000) (B := 3979 / 10000) (by unfold ep at q; grind) (by grind)
  have r2 := rmul_bd (a := SN be) (b := CN 65109000) (A := 1 / 10) (B := 9176 / 10000) (by grind) (by grind)
  unfold dZ
  clear q b t1 t2 t3 t4
  generalize CN be * SN la * SN 65109000 = z1 at *
  generalize SN be * CN 65109000 = z2 at *
  constructor <;> grind
theorem nab_bd' (n : Int) : -(n.natAbs : Rat) ≤ (n : Rat) ∧ (n : Rat) ≤ (n.natAbs : Rat) := by
  have h1 : -(n.natAbs : Int) ≤ n := by omega
  have h2 : n ≤ (n.natAbs : Int) := by omega
  replace h1 := Rat.intCast_le_intCast.2 h1
  replace h2 := Rat.intCast_le_intCast.2 h2
  rw [Rat.intCast_neg, Rat.intCast_natCast] at h1
  rw [Rat.intCast_natCast] at h2
  exact ⟨h1, h2⟩
theorem sq_le {x A : Rat} (h : -A ≤ x ∧ x ≤ A) : x * x ≤ A * A := (rmul_bd h h).2
theorem xy_far {la be : Int} (h : -15900000 ≤ be ∧ be ≤ 15900000) {A B : Rat} (hA : -A ≤ dX la be ∧ dX la be ≤ A) (hB : -B ≤ dY la be ∧ dY la be ≤ B) : 850000000 ≤ A + B := by
  have u := d_unit la be
  have z := dZ_bd (la := la) h
  have z2 := sq_le (A := 490000000) (by grind) (x := dZ la be)
  have a := sq_le hA; have b := sq_le hB
  have A0 : 0 ≤ A := by grind
  have B0 : 0 ≤ B := by grind
  have ab := Rat.mul_nonneg A0 B0
  apply Rat.not_lt.1
  intro l
  have m := sq_le (x := A + B) (A := 850000000) (by grind)
  have e : (A + B) * (A + B) = A * A + B * B + 2 * (A * B) := by grind
  rw [e] at m
  clear hA hB e z
  unfold Near at u
  generalize dX la be * dX la be = x1 at *
  generalize dY la be * dY la be = x2 at *
  generalize dZ la be * dZ la be = x3 at *
  generalize A * B = x4 at *
  generalize A * A = x5 at *
  generalize B * B = x6 at *
  grind
theorem eq_ok {l1 l2 b1 b2 : Int} (il : IvOk l1 l2) (hlw : l2 - l1 ≤ 40010) (hb : b1 ≤ b2) (hbw : b2 - b1 ≤ 40010) (h1 : -15900000 ≤ b1) (h2 : b2 ≤ 15900000) : EqOk l1 l2 b1 b2 := by
  have hl := il.m
  obtain ⟨xl, xh, yl, yh, zl, zh⟩ := eq_near hl hlw hb hbw (Int.le_refl l1) hl (Int.le_refl b1) hb
  have X := eqX_bd l1 l2 b1 b2; have Y := eqY_bd l1 l2 b1 b2
  clear zl zh
  have far : ∀ {A B : Rat}, (-A ≤ dX l1 b1 ∧ dX l1 b1 ≤ A) → (-B ≤ dY l1 b1 ∧ dY l1 b1 ≤ B) → 850000000 ≤ A + B := fun hA hB => xy_far ⟨h1, by omega⟩ hA hB
  have nx := nab_bd' (eqXL l1 l2 b1 b2); have ny := nab_bd' (eqYL l1 l2 b1 b2)
  have f := far (A := ((eqXL l1 l2 b1 b2).natAbs : Rat) + 526000) (B := ((eqYL l1 l2 b1 b2).natAbs : Rat) + 800000) (by unfold Near at xl; grind) (by unfold Near at yl; grind)
  have E1 : eqYH l1 l2 b1 b2 - eqYL l1 l2 b1 b2 ≤ 1600000 := by
    apply int_le_of_rat
    rw [Rat.intCast_sub, show ((1600000 : Int) : Rat) = 1600000 from rfl]
    unfold Near at yl yh
    grind
  have E2 : eqXH l1 l2 b1 b2 - eqXL l1 l2 b1 b2 ≤ 1600000 := by
    apply int_le_of_rat
    rw [Rat.intCast_sub, show ((1600000 : Int) : Rat) = 1600000 from rfl]
    unfold Near at xl xh
    grind
  have E3 : 640000000 ≤ ((eqXL l1 l2 b1 b2).natAbs + (eqYL l1 l2 b1 b2).natAbs : Nat) := by
    have : (640000000 : Int) ≤ ((eqXL l1 l2 b1 b2).natAbs + (eqYL l1 l2 b1 b2).natAbs : Nat) := by
      apply int_le_of_rat
      rw [Rat.intCast_natCast, Rat.natCast_add, show ((640000000 : Int) : Rat) = 640000000 from rfl]
      grind
    omega
  clear far nx ny f xl xh yl yh
  have no : ¬ (eqYL l1 l2 b1 b2 ≤ 0 ∧ 0 ≤ eqYH l1 l2 b1 b2 ∧ eqXL l1 l2 b1 b2 ≤ 0 ∧ 0 ≤ eqXH l1 l2 b1 b2) := by
    generalize eqXL l1 l2 b1 b2 = a at *
    generalize eqXH l1 l2 b1 b2 = b at *
    generalize eqYL l1 l2 b1 b2 = c at *
    generalize eqYH l1 l2 b1 b2 = d at *
    omega
  refine ⟨il, by omega, hb, by omega, no, ?_⟩
  have n := arc_narrow (a := eqYL l1 l2 b1 b2) (b := eqYH l1 l2 b1 b2) (c := eqXL l1 l2 b1 b2) (d := eqXH l1 l2 b1 b2) (E := 1600000) ⟨⟨by omega, by omega⟩, ⟨by omega, by omega⟩, ⟨by omega, by omega⟩, ⟨by omega, by omega⟩, Y.2.1, X.2.1, no⟩ (by omega) E1 E2 (by omega)
  generalize arcHi (eqYL l1 l2 b1 b2) (eqYH l1 l2 b1 b2) (eqXL l1 l2 b1 b2) (eqXH l1 l2 b1 b2) = p at *
  generalize arcLo (eqYL l1 l2 b1 b2) (eqYH l1 l2 b1 b2) (eqXL l1 l2 b1 b2) (eqXH l1 l2 b1 b2) = q at *
  clear no E1 E2 E3 X Y
  omega
end Go.Proofs.YtcopmgnfakjdhaaGreatDoor
/- Merged by wip/tools/pack.py out of XSkyAt, XDecP. -/
/- sun.At, moon.At. -/
namespace Go.Proofs.YtcopmgnfakjdhaaGreatDoor
open Go.RowKit
set_option linter.unusedSimpArgs false
set_option linter.unusedVariables false
theorem lt_of_rat {a b c : Int} {x y : Rat} (h1 : (a : Rat) ≤ x) (h2 : y ≤ (b : Rat)) (h : x - y < (c : Rat) + 1) : a - b ≤ c := by
  have : a - b < c + 1 := by
    apply int_lt_of_rat
    rw [Rat.intCast_sub, Rat.intCast_add, show ((1 : Int) : Rat) = 1 from rfl]
    grind
  omega
theorem sl_width (t : Int) : slHi t - slLo t ≤ 4004 := by
  obtain ⟨k, a1, a2, a3, a4⟩ := sun_at t
  exact lt_of_rat (x := sunT (t : Rat) + 2000 + 2003 / 1000 - 1000000000 * (k : Rat)) (y := sunT (t : Rat) - 2000 - 2003 / 1000 - 1000000000 * (k : Rat)) (by grind) (by grind) (by rw [show ((4004 : Int) : Rat) = 4004 from rfl]; grind)
theorem ml_width (t : Int) : mlHi t - mlLo t ≤ 40004 := by
  obtain ⟨k, a1, a2, a3, a4⟩ := moon_at t
  exact lt_of_rat (x := moonT (t : Rat) + 20000 + 2003 / 1000 - 1000000000 * (k : Rat)) (y := moonT (t : Rat) - 20000 - 2003 / 1000 - 1000000000 * (k : Rat)) (by grind) (by grind) (by rw [show ((40004 : Int) : Rat) = 40004 from rfl]; grind)
def mlatT (t : Rat) : Rat := svT moonBZ 3 t
theorem mlat_at (t : Int) : SumAt (mbLo t) (mbHi t) (mlatT (t : Rat)) 20000 := by
  have h := sum_at (mean := 0) (rest := 20000) (t := t) (n := 3) (zs := moonBZ) (by omega) moonB_in.tm
  rw [show ((0 : Int) : Rat) + svT moonBZ 3 (t : Rat) = mlatT (t : Rat) by unfold mlatT; rw [show ((0 : Int) : Rat) = 0 from rfl]; grind] at h
  exact h
theorem mb_width (t : Int) : mbLo t ≤ mbHi t ∧ mbHi t - mbLo t ≤ 40002 := by
  obtain ⟨a1, a2, a3, a4⟩ := mlat_at t
  rw [show ((20000 : Int) : Rat) = 20000 from rfl] at a1 a2 a3 a4
  refine ⟨int_le_of_rat (by grind), ?_⟩
  exact lt_of_rat (x := mlatT (t : Rat) + 20000 + 1002 / 1000) (y := mlatT (t : Rat) - 20000 - 1002 / 1000) (by grind) (by grind) (by rw [show ((40002 : Int) : Rat) = 40002 from rfl]; grind)
theorem mb_tri (t : Rat) : -15796000 ≤ mlatT t ∧ mlatT t ≤ 15796000 := by
  have e : mlatT t = 0 + tmV moonBZ t 0 + tmV moonBZ t 1 + tmV moonBZ t 2 := rfl
  have t0 : tmV moonBZ t 0 = 14244783 * SA (phT 648500531 36748195111111 t) := rfl
  have t1 : tmV moonBZ t 1 = 779450 * SA (phT 747884547 73039842194444 t) := rfl
  have t2 : tmV moonBZ t 2 = 771369 * SA (phT 450883485 (-456548027778) t) := rfl
  have s0 := SA_le (phT 648500531 36748195111111 t); have s1 := SA_le (phT 747884547 73039842194444 t); have s2 := SA_le (phT 450883485 (-456548027778) t)
  rw [e, t0, t1, t2]
  unfold ep at *
  constructor <;> grind
theorem mb_bd (t : Int) : -15820000 ≤ mbLo t ∧ mbHi t ≤ 15820000 := by
  obtain ⟨a1, a2, a3, a4⟩ := mlat_at t
  have b := mb_tri (t : Rat)
  rw [show ((20000 : Int) : Rat) = 20000 from rfl] at a1 a2 a3 a4
  constructor
  · apply int_le_of_rat; rw [show ((-15820000 : Int) : Rat) = -15820000 from rfl]; grind
  · apply int_le_of_rat; rw [show ((15820000 : Int) : Rat) = 15820000 from rfl]; grind
theorem sun_eq (t : Int) : EqOk (slLo t) (slHi t) 0 0 := by
  have a : 0 ≤ slLo t ∧ slLo t < 1000000000 ∧ slLo t ≤ slHi t ∧ slHi t ≤ 130000000000 := an_bd sun_in
  have b := sl_width t
  generalize slLo t = x at *
  generalize slHi t = y at *
  exact eq_ok ⟨by omega, by omega, by omega⟩ (by omega) (by omega) (by omega) (by omega) (by omega)
theorem moon_eq (t : Int) : EqOk (mlLo t) (mlHi t) (mbLo t) (mbHi t) := by
  have a : 0 ≤ mlLo t ∧ mlLo t < 1000000000 ∧ mlLo t ≤ mlHi t ∧ mlHi t ≤ 130000000000 := an_bd moonL_in
  have b := ml_width t
  have c := mb_width t
  have d := mb_bd t
  generalize mlLo t = x at *
  generalize mlHi t = y at *
  generalize mbLo t = x' at *
  generalize mbHi t = y' at *
  exact eq_ok ⟨by omega, by omega, by omega⟩ (by omega) (by omega) (by omega) (by omega) (by omega)
def sRL (t : Int) : Int := raLo (slLo t) (slHi t) 0 0
def sRH (t : Int) : Int := raHi (slLo t) (slHi t) 0 0
def sDL (t : Int) : Int := dcLo (slLo t) (slHi t) 0 0
def sDH (t : Int) : Int := dcHi (slLo t) (slHi t) 0 0
def mRL (t : Int) : Int := raLo (mlLo t) (mlHi t) (mbLo t) (mbHi t)
def mRH (t : Int) : Int := raHi (mlLo t) (mlHi t) (mbLo t) (mbHi t)
def mDL (t : Int) : Int := dcLo (mlLo t) (mlHi t) (mbLo t) (mbHi t)
def mDH (t : Int) : Int := dcHi (mlLo t) (mlHi t) (mbLo t) (mbHi t)
set_option maxRecDepth 100000 in
set_option maxHeartbeats 8000000 in
theorem sunAt_ok (t : Int) (w : World) (hT : SinT w) (ht : instOk t = true) : Calls Tryz.prog 24 #[.int .i64 t] w fun e w' => e = .returned (.tuple #[.agg #[.int .i64 (sRL t), .int .i64 (sRH t)], .agg #[.int .i64 (sDL t), .int .i64 (sDH t)], .int .i64 0]) ∧ Below w.heap.size w w' := by
  have S := Lib.hid (fun W (hT : SinT W) => sunLong_ok t W hT ht)
  have E := Lib.hid (fun W (hT : SinT W) => Equator_ok (slLo t) (slHi t) 0 0 W hT (sun_eq t))
  have HT := Lib.hid hT
  unfold sRL sRH sDL sDH
  generalize raLo (slLo t) (slHi t) 0 0 = r1 at *
  generalize raHi (slLo t) (slHi t) 0 0 = r2 at *
  generalize dcLo (slLo t) (slHi t) 0 0 = d1 at *
  generalize dcHi (slLo t) (slHi t) 0 0 = d2 at *
  generalize slLo t = a at *
  generalize slHi t = b at *
  clear hT ht
  go_enter Tryz.func24, Tryz.ntmps24
  have HB := Lib.hid (Below.refl w.heap.size w)
  obtain ⟨k1, hk1⟩ : ∃ x, x = w.heap.size := ⟨_, rfl⟩
  have he2 : (w.alloc (.cells #[.int .i64 (0), .int .i64 (0)] 28)).heap.size = k1 + 1 := by simp [hk1]
  have s1 := (SpBox.new w (0) (0)).alloc (.cells #[.int .i64 (0), .int .i64 (0)] 28)
  rw [← hk1] at s1
  have Hkl1 := Lib.hid (show w.heap.size ≤ k1 by rw [hk1]; omega)
  have s2 := SpBox.new (w.alloc (.cells #[.int .i64 (0), .int .i64 (0)] 28)) (0) (0)
  rw [he2] at s2
  have Hkl2 := Lib.hid (show w.heap.size ≤ k1 + 1 by rw [hk1]; omega)
  go_upto_region 1 with fail
  (try rw [he2])
  rw [← hk1]
  obtain ⟨k2, hk2⟩ : ∃ x, x = k1 + 1 := ⟨_, rfl⟩
  rw [← hk2] at s2 Hkl2
  (try rw [← hk2])
  have Hd2_1 := Lib.hid (show k1 < k2 by omega)
  clear hk2
  have HBn := show Below w.heap.size w ((w.alloc (.cells #[.int .i64 (0), .int .i64 (0)] 28)).alloc (.cells #[.int .i64 (0), .int .i64 (0)] 28)) from (by repeat' (first | (with_reducible refine below_drewN ?_ _) | go_grown))
  obtain ⟨X2, hX2⟩ : ∃ X, X = ((w.alloc (.cells #[.int .i64 (0), .int .i64 (0)] 28)).alloc (.cells #[.int .i64 (0), .int .i64 (0)] 28)) := ⟨_, rfl⟩
  rw [← hX2] at s1 s2 HBn ⊢
  clear hX2 he2 HB
  replace s1 := Lib.hid s1
  replace s2 := Lib.hid s2
  have HB := Lib.hid HBn; have HK1 := Lib.hid hk1; clear HBn hk1
  go_wp2_with fail
  refine Calls.mono (S.out _ (HT.out.below HB.out)) ?_
  rintro e wn3 ⟨rfl, hb⟩
  have Hd3_1 := Lib.hid (s1.out.below hb).lt
  have Hd3_2 := Lib.hid (s2.out.below hb).lt
  replace s1 := Lib.hid ((s1.out.below hb).alloc (.cells #[.int .i64 (a), .int .i64 (b)] 28))
  replace s2 := Lib.hid ((s2.out.below hb).alloc (.cells #[.int .i64 (a), .int .i64 (b)] 28))
  have HB3 := HB.out.trans (hb.mono HB.out.size)
  clear hb
  have Hkl3 := Lib.hid HB3.size; replace HB := Lib.hid (HB3.alloc HB3.size (.cells #[.int .i64 (a), .int .i64 (b)] 28))
  clear HB3
  have s3 := Lib.hid (SpBox.new wn3 (a) (b))
  obtain ⟨k3, hk3⟩ : ∃ x, x = wn3.heap.size := ⟨_, rfl⟩
  rw [← hk3] at s3 Hkl3 Hd3_1 Hd3_2
  go_upto_region 4 with fail
  rw [← hk3]
  obtain ⟨X3, hX3⟩ : ∃ X, X = wn3.alloc (.cells #[.int .i64 (a), .int .i64 (b)] 28) := ⟨_, rfl⟩
  rw [← hX3] at s1 s2 s3 HB ⊢
  clear hk3 hX3
  have sc3_0 := s3.out.c0; have sc3_1 := s3.out.c1; have sc3_l := s3.out.lt
  go_wp2_with fail
  refine Calls.mono (E.out _ (HT.out.below HB.out)) ?_
  rintro e wc1 ⟨rfl, hb⟩
  replace s1 := Lib.hid (s1.out.below hb)
  replace s2 := Lib.hid (s2.out.below hb)
  replace s3 := Lib.hid (s3.out.below hb)
  replace HB := Lib.hid (HB.out.trans (hb.mono HB.out.size))
  clear sc3_0 sc3_1 sc3_l
  clear hb
  have c1_0 := s1.out.c0; have c1_1 := s1.out.c1; have c1_f := s1.out.free 0; have c1_g := s1.out.free 1; have c1_l := s1.out.lt; have c1_k := Hkl1.out
  have c2_0 := s2.out.c0; have c2_1 := s2.out.c1; have c2_f := s2.out.free 0; have c2_g := s2.out.free 1; have c2_l := s2.out.lt; have c2_k := Hkl2.out
  have ne1_2 := Nat.ne_of_lt Hd2_1.out; have ne2_1 := Nat.ne_of_gt Hd2_1.out
  go_wp2_with fail
  refine bodyPost_ret (v := .tuple #[.agg #[.int .i64 r1, .int .i64 r2], .agg #[.int .i64 d1, .int .i64 d2], .int .i64 0]) ?_ rfl ⟨rfl, ?_⟩
  · simp [results, Tryz.results24, go_sem, *]
  · exact (((HB.out.setCell (p := ⟨k1, 0, none⟩) c1_k _).setCell (p := ⟨k1, 1, none⟩) c1_k _).setCell (p := ⟨k2, 0, none⟩) c2_k _).setCell (p := ⟨k2, 1, none⟩) c2_k _
set_option maxRecDepth 100000 in
set_option maxHeartbeats 8000000 in
theorem moonAt_ok (t : Int) (w : World) (hT : SinT w) (ht : instOk t = true) : Calls Tryz.prog 82 #[.int .i64 t] w fun e w' => e = .returned (.tuple #[.agg #[.int .i64 (mRL t), .int .i64 (mRH t)], .agg #[.int .i64 (mDL t), .int .i64 (mDH t)], .int .i64 0]) ∧ Below w.heap.size w w' := by
  have S := Lib.hid (fun W (hT : SinT W) => moonLong_ok t W hT ht)
  have B := Lib.hid (fun W (hT : SinT W) => moonLatt_ok t W hT ht)
  have E := Lib.hid (fun W (hT : SinT W) => Equator_ok (mlLo t) (mlHi t) (mbLo t) (mbHi t) W hT (moon_eq t))
  have HT := Lib.hid hT
  unfold mRL mRH mDL mDH
  generalize raLo (mlLo t) (mlHi t) (mbLo t) (mbHi t) = r1 at *
  generalize raHi (mlLo t) (mlHi t) (mbLo t) (mbHi t) = r2 at *
  generalize dcLo (mlLo t) (mlHi t) (mbLo t) (mbHi t) = d1 at *
  generalize dcHi (mlLo t) (mlHi t) (mbLo t) (mbHi t) = d2 at *
  generalize mbLo t = c at *
  generalize mbHi t = d at *
  generalize mlLo t = a at *
  generalize mlHi t = b at *
  clear hT ht
  go_enter Tryz.func82, Tryz.ntmps82
  have HB := Lib.hid (Below.refl w.heap.size w)
  obtain ⟨k1, hk1⟩ : ∃ x, x = w.heap.size := ⟨_, rfl⟩
  have he2 : (w.alloc (.cells #[.int .i64 (0), .int .i64 (0)] 28)).heap.size = k1 + 1 := by simp [hk1]
  have s1 := (SpBox.new w (0) (0)).alloc (.cells #[.int .i64 (0), .int .i64 (0)] 28)
  rw [← hk1] at s1
  have Hkl1 := Lib.hid (show w.heap.size ≤ k1 by rw [hk1]; omega)
  have s2 := SpBox.new (w.alloc (.cells #[.int .i64 (0), .int .i64 (0)] 28)) (0) (0)
  rw [he2] at s2
  have Hkl2 := Lib.hid (show w.heap.size ≤ k1 + 1 by rw [hk1]; omega)
  go_upto_region 1 with fail
  (try rw [he2])
  rw [← hk1]
  obtain ⟨k2, hk2⟩ : ∃ x, x = k1 + 1 := ⟨_, rfl⟩
  rw [← hk2] at s2 Hkl2
  (try rw [← hk2])
  have Hd2_1 := Lib.hid (show k1 < k2 by omega)
  clear hk2
  have HBn := show Below w.heap.size w ((w.alloc (.cells #[.int .i64 (0), .int .i64 (0)] 28)).alloc (.cells #[.int .i64 (0), .int .i64 (0)] 28)) from (by repeat' (first | (with_reducible refine below_drewN ?_ _) | go_grown))
  obtain ⟨X2, hX2⟩ : ∃ X, X = ((w.alloc (.cells #[.int .i64 (0), .int .i64 (0)] 28)).alloc (.cells #[.int .i64 (0), .int .i64 (0)] 28)) := ⟨_, rfl⟩
  rw [← hX2] at s1 s2 HBn ⊢
  clear hX2 he2 HB
  replace s1 := Lib.hid s1
  replace s2 := Lib.hid s2
  have HB := Lib.hid HBn; have HK1 := Lib.hid hk1; clear HBn hk1
  go_wp2_with fail
  refine Calls.mono (S.out _ (HT.out.below HB.out)) ?_
  rintro e wn3 ⟨rfl, hb⟩
  have Hd3_1 := Lib.hid (s1.out.below hb).lt
  have Hd3_2 := Lib.hid (s2.out.below hb).lt
  replace s1 := Lib.hid ((s1.out.below hb).alloc (.cells #[.int .i64 (a), .int .i64 (b)] 28))
  replace s2 := Lib.hid ((s2.out.below hb).alloc (.cells #[.int .i64 (a), .int .i64 (b)] 28))
  have HB3 := HB.out.trans (hb.mono HB.out.size)
  clear hb
  have Hkl3 := Lib.hid HB3.size; replace HB := Lib.hid (HB3.alloc HB3.size (.cells #[.int .i64 (a), .int .i64 (b)] 28))
  clear HB3
  have s3 := Lib.hid (SpBox.new wn3 (a) (b))
  obtain ⟨k3, hk3⟩ : ∃ x, x = wn3.heap.size := ⟨_, rfl⟩
  rw [← hk3] at s3 Hkl3 Hd3_1 Hd3_2
  go_upto_region 4 with fail
  rw [← hk3]
  obtain ⟨X3, hX3⟩ : ∃ X, X = wn3.alloc (.cells #[.int .i64 (a), .int .i64 (b)] 28) := ⟨_, rfl⟩
  rw [← hX3] at s1 s2 s3 HB ⊢
  clear hk3 hX3
  go_wp2_with fail
  refine Calls.mono (B.out _ (HT.out.below HB.out)) ?_
  rintro e wn4 ⟨rfl, hb⟩
  have Hd4_1 := Lib.hid (s1.out.below hb).lt
  have Hd4_2 := Lib.hid (s2.out.below hb).lt
  have Hd4_3 := Lib.hid (s3.out.below hb).lt
  replace s1 := Lib.hid ((s1.out.below hb).alloc (.cells #[.int .i64 (c), .int .i64 (d)] 28))
  replace s2 := Lib.hid ((s2.out.below hb).alloc (.cells #[.int .i64 (c), .int .i64 (d)] 28))
  replace s3 := Lib.hid ((s3.out.below hb).alloc (.cells #[.int .i64 (c), .int .i64 (d)] 28))
  have HB4 := HB.out.trans (hb.mono HB.out.size)
  clear hb
  have Hkl4 := Lib.hid HB4.size; replace HB := Lib.hid (HB4.alloc HB4.size (.cells #[.int .i64 (c), .int .i64 (d)] 28))
  clear HB4
  have s4 := Lib.hid (SpBox.new wn4 (c) (d))
  obtain ⟨k4, hk4⟩ : ∃ x, x = wn4.heap.size := ⟨_, rfl⟩
  rw [← hk4] at s4 Hkl4 Hd4_1 Hd4_2 Hd4_3
  go_upto_region 5 with fail
  rw [← hk4]
  obtain ⟨X4, hX4⟩ : ∃ X, X = wn4.alloc (.cells #[.int .i64 (c), .int .i64 (d)] 28) := ⟨_, rfl⟩
  rw [← hX4] at s1 s2 s3 s4 HB ⊢
  clear hk4 hX4
  have sc3_0 := s3.out.c0; have sc3_1 := s3.out.c1; have sc3_l := s3.out.lt
  have sc4_0 := s4.out.c0; have sc4_1 := s4.out.c1; have sc4_l := s4.out.lt
  go_wp2_with fail
  refine Calls.mono (E.out _ (HT.out.below HB.out)) ?_
  rintro e wc1 ⟨rfl, hb⟩
  replace s1 := Lib.hid (s1.out.below hb)
  replace s2 := Lib.hid (s2.out.below hb)
  replace s3 := Lib.hid (s3.out.below hb)
  replace s4 := Lib.hid (s4.out.below hb)
  replace HB := Lib.hid (HB.out.trans (hb.mono HB.out.size))
  clear sc3_0 sc3_1 sc3_l sc4_0 sc4_1 sc4_l
  clear hb
  have c1_0 := s1.out.c0; have c1_1 := s1.out.c1; have c1_f := s1.out.free 0; have c1_g := s1.out.free 1; have c1_l := s1.out.lt; have c1_k := Hkl1.out
  have c2_0 := s2.out.c0; have c2_1 := s2.out.c1; have c2_f := s2.out.free 0; have c2_g := s2.out.free 1; have c2_l := s2.out.lt; have c2_k := Hkl2.out
  have ne1_2 := Nat.ne_of_lt Hd2_1.out; have ne2_1 := Nat.ne_of_gt Hd2_1.out
  go_wp2_with fail
  refine bodyPost_ret (v := .tuple #[.agg #[.int .i64 r1, .int .i64 r2], .agg #[.int .i64 d1, .int .i64 d2], .int .i64 0]) ?_ rfl ⟨rfl, ?_⟩
  · simp [results, Tryz.results82, go_sem, *]
  · exact (((HB.out.setCell (p := ⟨k1, 0, none⟩) c1_k _).setCell (p := ⟨k1, 1, none⟩) c1_k _).setCell (p := ⟨k2, 0, none⟩) c2_k _).setCell (p := ⟨k2, 1, none⟩) c2_k _
end Go.Proofs.YtcopmgnfakjdhaaGreatDoor
/- How near the arc of a sine lies; the declinations of the sun and the moon. Plain. -/
namespace Go.Proofs.YtcopmgnfakjdhaaGreatDoor
set_option linter.unusedSimpArgs false
set_option linter.unusedVariables false
theorem asHi_le {n al : Int} (h : -1000000000 ≤ n ∧ n ≤ 1000000000) (ha : -250000000 ≤ al ∧ al ≤ 250000000) (hs : (n : Rat) ≤ 1000000000 * SN al + 1 / 10000000000) : asHi n ≤ al + 1 := by
  obtain ⟨f, nr, b1, b2⟩ := as_near h
  obtain ⟨u1, u2⟩ := unit_rad (asU_ok h).2.2 nr (by grind) (by grind)
  have lw := asin_lo h ha hs
  have A := (asU_around h).hi2
  have k := ka_bd
  have ks : kSl = 1152921504606847 / 1152921504606846976 := rfl
  have key : fv (asU n) ≤ (al : Rat) + 5 / 10000 := by
    apply Rat.not_lt.1
    intro l
    have := Rat.mul_lt_mul_of_pos_left l (show 0 < ka by grind)
    unfold Near at u2
    clear u1 A ks nr
    generalize (al : Rat) = z at *
    grind
  have : aHi (asU n) < al + 2 := by
    apply int_lt_of_rat
    rw [Rat.intCast_add, show ((2 : Int) : Rat) = 2 from rfl]
    unfold Near at u1
    clear u2 lw k nr
    grind
  unfold asHi
  omega
theorem asLo_ge {n al : Int} (h : -1000000000 ≤ n ∧ n ≤ 1000000000) (ha : -250000000 ≤ al ∧ al ≤ 250000000) (hs : 1000000000 * SN al - 1 / 10000000000 ≤ (n : Rat)) : al - 1 ≤ asLo n := by
  obtain ⟨f, nr, b1, b2⟩ := as_near h
  obtain ⟨u1, u2⟩ := unit_rad (asU_ok h).2.2 nr (by grind) (by grind)
  have lw := asin_hi h ha hs
  have A := (asU_around h).lo2
  have k := ka_bd
  have ks : kSl = 1152921504606847 / 1152921504606846976 := rfl
  have key : (al : Rat) - 5 / 10000 ≤ fv (asU n) := by
    apply Rat.not_lt.1
    intro l
    have := Rat.mul_lt_mul_of_pos_left l (show 0 < ka by grind)
    unfold Near at u2
    clear u1 A ks nr
    generalize (al : Rat) = z at *
    grind
  have : al - 2 < aLo (asU n) := by
    apply int_lt_of_rat
    rw [Rat.intCast_sub, show ((2 : Int) : Rat) = 2 from rfl]
    unfold Near at u1
    clear u2 lw k nr
    grind
  unfold asLo
  omega
end Go.Proofs.YtcopmgnfakjdhaaGreatDoor
/- trig.ArcSin, plain: angles of any sine; bounds by rational angles; its bounds are in order. -/
namespace Go.Proofs.YtcopmgnfakjdhaaGreatDoor
set_option linter.unusedSimpArgs false
set_option linter.unusedVariables false
theorem cross_at {f : Nat → Rat} {v : Rat} (h0 : f 0 ≤ v) : ∀ n, v ≤ f n → ∃ i, i ≤ n ∧ f i ≤ v ∧ (v ≤ f (i + 1) ∨ v ≤ f i)
  | 0, h => ⟨0, Nat.le_refl 0, h0, .inr h⟩
  | n + 1, h => by
    by_cases c : v ≤ f n
    · obtain ⟨i, i1, i2, i3⟩ := cross_at h0 n c
      exact ⟨i, by omega, i2, i3⟩
    · exact ⟨n, by omega, by grind, .inl h⟩
theorem asin_ex {v : Rat} (h1 : -(1 - 1 / 1000000000000000000000000) ≤ v) (h2 : v ≤ 1 - 1 / 1000000000000000000000000) : ∃ x : Rat, -250000000 ≤ x ∧ x ≤ 250000000 ∧ Near (SA x) v (1 / 20000000000000000000) := by
  obtain ⟨f, hf⟩ : ∃ f : Nat → Rat, f = fun i : Nat => SA (-250000000 + (i : Rat) * (1 / 1000000000000)) := ⟨_, rfl⟩
  have q1 := SN_q1; have q3 := SN_q3
  rw [← SA_int] at q1 q3
  have e0 : f 0 = SA 750000000 := by
    rw [hf]
    have := SA_turn (-250000000) 1
    rw [show ((1 : Int) : Rat) = 1 from rfl, show (-250000000 : Rat) + 1000000000 * 1 = 750000000 by grind] at this
    rw [this]
    show SA (-250000000 + ((0 : Nat) : Rat) * (1 / 1000000000000)) = _
    rw [show ((0 : Nat) : Rat) = 0 from rfl, show (-250000000 : Rat) + 0 * (1 / 1000000000000) = -250000000 by grind]
  have eN : f 500000000000000000000 = SA 250000000 := by
    rw [hf]
    show SA (-250000000 + ((500000000000000000000 : Nat) : Rat) * (1 / 1000000000000)) = _
    rw [show ((500000000000000000000 : Nat) : Rat) = 500000000000000000000 from rfl, show (-250000000 : Rat) + 500000000000000000000 * (1 / 1000000000000) = 250000000 by grind]
  rw [show ((750000000 : Int) : Rat) = 750000000 from rfl] at q3
  rw [show ((250000000 : Int) : Rat) = 250000000 from rfl] at q1
  rw [← e0] at q3
  rw [← eN] at q1
  unfold Near eq1 at q1 q3
  obtain ⟨i, i1, i2, i3⟩ := cross_at (f := f) (v := v) (by grind) 500000000000000000000 (by grind)
  have ib := Rat.natCast_le_natCast.2 i1
  rw [show ((500000000000000000000 : Nat) : Rat) = 500000000000000000000 from rfl] at ib
  have i0 := nat_nonneg i
  refine ⟨-250000000 + (i : Rat) * (1 / 1000000000000), by grind, by grind, ?_⟩
  have ef : f i = SA (-250000000 + (i : Rat) * (1 / 1000000000000)) := by rw [hf]
  have ef1 : f (i + 1) = SA (-250000000 + (i : Rat) * (1 / 1000000000000) + 1 / 1000000000000) := by
    rw [hf]
    show SA (-250000000 + ((i + 1 : Nat) : Rat) * (1 / 1000000000000)) = _
    rw [Rat.natCast_add, show ((1 : Nat) : Rat) = 1 from rfl]
    congr 1; grind
  have l := (SA_lip (y := -250000000 + (i : Rat) * (1 / 1000000000000)) (d := 1 / 1000000000000) (by grind)).1
  rw [← ef1, ← ef] at l
  rw [← ef]
  have qb := qq_b9
  unfold Near ra at *
  clear ef ef1 e0 eN hf q1 q3 h1 h2
  generalize qq = p at *
  generalize f i = y1 at *
  generalize f (i + 1) = y2 at *
  constructor <;> grind
theorem SA_rad {x : Rat} (h1 : -500000000 ≤ x) (h2 : x ≤ 500000000) : Near (SA x) (sn (ka * x)) (1 / 100000000000000000000000) := by
  have ek : ∀ x, ra x = ka * x := fun x => by unfold ra ka; grind
  by_cases c : 0 ≤ x
  · unfold SA
    rw [redu_id c (by grind), ek]
    exact near_refl _ (by grind)
  · have e : redu x = x + 1000000000 := redu_of (k := -1) (by rw [show ((-1 : Int) : Rat) = -1 from rfl]; grind) (by grind) (by grind)
    have b := ra_bd (x := -x) (by grind) (by grind)
    have en : ra (-x) = -ra x := by unfold ra; grind
    have t := (turn_any (x := ra x) (by grind)).1
    unfold SA
    rw [e, ra_add, ra_turn, ← ek]
    exact near_weak t (by unfold eq1; grind)
theorem asin_loR {n : Int} {be : Rat} (h1 : -1000000000 < n) (h2 : n < 1000000000) (B : -(2 * qq) ≤ be ∧ be ≤ 2 * qq) (hs2 : (n : Rat) ≤ 1000000000 * sn be + 2 / 10000000000) : asV n ≤ be + 1 / 1000000000000 := by
  have q := qq_b9
  by_cases c3 : n = 0
  · subst c3
    have e : asV 0 = 0 := rfl
    rw [e]
    rw [zero_cast] at hs2
    apply Rat.not_lt.1
    intro l
    have := sn_half (x := -be) (by grind) (by grind)
    rw [sn_neg] at this
    grind
  · have I : AsIn n := ⟨by omega, by omega, c3⟩
    obtain ⟨v, D, rt, dk, -, p, ng⟩ := I.dir
    have X1 := rt_range rt
    have nb : (n.natAbs : Rat) ≤ 1000000000 := by
      have : ((n.natAbs : Nat) : Rat) ≤ ((1000000000 : Nat) : Rat) := Rat.natCast_le_natCast.2 (by omega)
      exact this
    have n0 := nat_nonneg n.natAbs
    have nn : -(n.natAbs : Rat) ≤ (n : Rat) ∧ (n : Rat) ≤ (n.natAbs : Rat) := nab_bd' n
    exact asin_core I.lo I.hi c3 rt dk (by grind) (by grind) (by grind) p ng B hs2
theorem asV_neg' {n : Int} (h1 : -1000000000 < n) (h2 : n < 1000000000) {be : Rat} (B : -(2 * qq) ≤ be ∧ be ≤ 2 * qq) (hs2 : 1000000000 * sn be - 2 / 10000000000 ≤ (n : Rat)) : be - 1 / 1000000000000 ≤ asV n := by
  have q := qq_b9
  by_cases c3 : n = 0
  · subst c3
    have e : asV 0 = 0 := rfl
    rw [e]
    rw [zero_cast] at hs2
    apply Rat.not_lt.1
    intro l
    have := sn_half (x := be) (by grind) (by grind)
    grind
  · have I : AsIn n := ⟨by omega, by omega, c3⟩
    obtain ⟨v, D, rt, dk, -, p, ng⟩ := I.dir
    have X1 := rt_range rt
    have nb : (n.natAbs : Rat) ≤ 1000000000 := by
      have : ((n.natAbs : Nat) : Rat) ≤ ((1000000000 : Nat) : Rat) := Rat.natCast_le_natCast.2 (by omega)
      exact this
    have n0 := nat_nonneg n.natAbs
    have nn : -(n.natAbs : Rat) ≤ (n : Rat) ∧ (n : Rat) ≤ (n.natAbs : Rat) := nab_bd' n
    have dk2 := dk.neg
    rw [← Rat.intCast_neg] at dk2
    have r := asin_core (n := -n) (t := -asV n) (be := -be) (by omega) (by omega) (by omega) rt.neg dk2 (by grind) (by grind) (by rw [Rat.intCast_neg]; grind) (fun l => by have := ng (by omega); grind) (fun l => by have := p (by omega); grind) (by grind) (by rw [Rat.intCast_neg, sn_neg]; grind)
    grind
theorem asLo_leR {n : Int} {x : Rat} (h1 : -1000000000 < n) (h2 : n < 1000000000) (hx1 : -250000000 ≤ x) (hx2 : x ≤ 250000000) (hs : (n : Rat) ≤ 1000000000 * SA x + 1 / 10000000000) : (asLo n : Rat) ≤ x := by
  have hn : -1000000000 ≤ n ∧ n ≤ 1000000000 := ⟨by omega, by omega⟩
  obtain ⟨f, nr, b1, b2⟩ := as_near hn
  obtain ⟨u1, u2⟩ := unit_rad (asU_ok hn).2.2 nr (by grind) (by grind)
  have S := SA_rad (x := x) (by grind) (by grind)
  have k := ka_bd
  have B : -(2 * qq) ≤ ka * x ∧ ka * x ≤ 2 * qq := by
    have m1 := Rat.mul_le_mul_of_nonneg_left hx1 (show 0 ≤ ka by grind)
    have m2 := Rat.mul_le_mul_of_nonneg_left hx2 (show 0 ≤ ka by grind)
    have e3 : ka * 250000000 = 2 * qq := by unfold ka; grind
    have e4 : ka * -250000000 = -(2 * qq) := by unfold ka; grind
    rw [e3] at m2; rw [e4] at m1
    exact ⟨m1, m2⟩
  have lw := asin_loR h1 h2 B (by unfold Near at S; grind)
  have A := (asU_around hn).lo1
  have ks : kSl = 1152921504606847 / 1152921504606846976 := rfl
  have key : fv (asU n) ≤ x + 5 / 10000 := by
    apply Rat.not_lt.1
    intro l
    have := Rat.mul_lt_mul_of_pos_left l (show 0 < ka by grind)
    unfold Near at u2
    clear u1 A ks nr S B
    grind
  have h3 : (aLo (asU n) : Rat) ≤ x := by
    unfold Near at u1
    clear u2 lw k nr S B
    grind
  unfold asLo
  rcases (by omega : max (aLo (asU n)) (-250000000) = aLo (asU n) ∨ max (aLo (asU n)) (-250000000) = -250000000) with h | h
  · rw [h]; exact h3
  · rw [h, show ((-250000000 : Int) : Rat) = -250000000 from rfl]; exact hx1
theorem asHi_geR {n : Int} {x : Rat} (h1 : -1000000000 < n) (h2 : n < 1000000000) (hx1 : -250000000 ≤ x) (hx2 : x ≤ 250000000) (hs : 1000000000 * SA x - 1 / 10000000000 ≤ (n : Rat)) : x ≤ (asHi n : Rat) := by
  have hn : -1000000000 ≤ n ∧ n ≤ 1000000000 := ⟨by omega, by omega⟩
  obtain ⟨f, nr, b1, b2⟩ := as_near hn
  obtain ⟨u1, u2⟩ := unit_rad (asU_ok hn).2.2 nr (by grind) (by grind)
  have S := SA_rad (x := x) (by grind) (by grind)
  have k := ka_bd
  have B : -(2 * qq) ≤ ka * x ∧ ka * x ≤ 2 * qq := by
    have m1 := Rat.mul_le_mul_of_nonneg_left hx1 (show 0 ≤ ka by grind)
    have m2 := Rat.mul_le_mul_of_nonneg_left hx2 (show 0 ≤ ka by grind)
    have e3 : ka * 250000000 = 2 * qq := by unfold ka; grind
    have e4 : ka * -250000000 = -(2 * qq) := by unfold ka; grind
    rw [e3] at m2; rw [e4] at m1
    exact ⟨m1, m2⟩
  have lw := asV_neg' h1 h2 B (by unfold Near at S; grind)
  have A := (asU_around hn).hi1
  have ks : kSl = 1152921504606847 / 1152921504606846976 := rfl
  have key : x - 5 / 10000 ≤ fv (asU n) := by
    apply Rat.not_lt.1
    intro l
    have := Rat.mul_lt_mul_of_pos_left l (show 0 < ka by grind)
    unfold Near at u2
    clear u1 A ks nr S B
    grind
  have h3 : x ≤ (aHi (asU n) : Rat) := by
    unfold Near at u1
    clear u2 lw k nr S B
    grind
  unfold asHi
  rcases (by omega : min (aHi (asU n)) 250000000 = aHi (asU n) ∨ min (aHi (asU n)) 250000000 = 250000000) with h | h
  · rw [h]; exact h3
  · rw [h, show ((250000000 : Int) : Rat) = 250000000 from rfl]; exact hx2
theorem as_order {m n : Int} (h1 : -1000000000 < m) (h2 : n < 1000000000) (h : m ≤ n) : -250000000 ≤ asLo m ∧ asLo m ≤ asHi n ∧ asHi n ≤ 250000000 := by
  have r1 := Rat.intCast_le_intCast.2 (show -999999999 ≤ m by omega)
  have r2 := Rat.intCast_le_intCast.2 (show m ≤ 999999999 by omega)
  have r3 := Rat.intCast_le_intCast.2 h
  rw [show ((-999999999 : Int) : Rat) = -999999999 from rfl] at r1
  rw [show ((999999999 : Int) : Rat) = 999999999 from rfl] at r2
  obtain ⟨x, x1, x2, x3⟩ := asin_ex (v := (m : Rat) / 1000000000) (by grind) (by grind)
  unfold Near at x3
  have a := asLo_leR (n := m) (x := x) h1 (by omega) x1 x2 (by grind)
  have b := asHi_geR (n := n) (x := x) (by omega) h2 x1 x2 (by grind)
  refine ⟨by unfold asLo; omega, int_le_of_rat (by grind), by unfold asHi; omega⟩
end Go.Proofs.YtcopmgnfakjdhaaGreatDoor
/- The polar form of a point with rational parts; arcs contain the angle of each point of their boxes. Plain. -/
namespace Go.Proofs.YtcopmgnfakjdhaaGreatDoor
set_option linter.unusedSimpArgs false
set_option linter.unusedVariables false
theorem SA_q : Near (SA 250000000) 1 (4 * eq1) ∧ Near (CA 250000000) 0 (4 * eq1) := by
  have q1 := SN_q1; have q2 := CN_q1
  rw [← SA_int] at q1
  rw [← CA_int] at q2
  exact ⟨q1, q2⟩
theorem CA_SA (x : Rat) : Near (SA (x + 250000000)) (CA x) (2 * e2) := by
  have h := (SCA_add x 250000000).1
  have b := SA_le x; have c := CA_le x
  obtain ⟨q1, q2⟩ := SA_q
  have m1 := rmul_bd b (show -(4 * eq1) ≤ CA 250000000 ∧ CA 250000000 ≤ 4 * eq1 by unfold Near at q2; grind)
  have m2 := rmul_bd c (show -(4 * eq1) ≤ SA 250000000 - 1 ∧ SA 250000000 - 1 ≤ 4 * eq1 by unfold Near at q1; grind)
  unfold Near at *
  generalize SA (x + 250000000) = u at *
  generalize SA 250000000 = y at *
  generalize CA 250000000 = z at *
  clear q1 q2 b c
  unfold e2 eq1 ep at *
  grind
theorem quarter_pos {x : Rat} (h0 : 0 ≤ x) (h1 : x ≤ 250000000) : -(1 / 100000000000000000000000) ≤ SA x ∧ -(1 / 100000000000000000000000) ≤ CA x := by
  have a := SA_small (h := x) h0 (by grind)
  have b := SA_small (h := x + 250000000) (by grind) (by grind)
  have c := CA_SA x
  unfold Near e2 at c
  constructor <;> grind
theorem polarR {X Y R : Rat} (hX : 0 ≤ X) (hY : 0 ≤ Y) (hR : X + Y = R) (h0 : 0 < R) : ∃ x rho : Rat, 0 ≤ x ∧ x ≤ 250000000 ∧ 0 < rho ∧ R ≤ 3 / 2 * rho ∧ Near X (rho * CA x) (R * (1 / 1000000000000000000)) ∧ Near Y (rho * SA x) (R * (1 / 1000000000000000000)) := by
  obtain ⟨f, hf⟩ : ∃ f : Nat → Rat, f = fun i : Nat => X * SA ((i : Rat) * (1 / 1000000000000)) - Y * CA ((i : Rat) * (1 / 1000000000000)) + R * (1 / 1000000000000000000000000) * ((i : Rat) * (1 / 125000000000000000000) - 1) := ⟨_, rfl⟩
  obtain ⟨q1, q2⟩ := SA_q
  have e0 : f 0 = -Y - R * (1 / 1000000000000000000000000) := by
    rw [hf]
    show X * SA (((0 : Nat) : Rat) * (1 / 1000000000000)) - Y * CA (((0 : Nat) : Rat) * (1 / 1000000000000)) + R * (1 / 1000000000000000000000000) * (((0 : Nat) : Rat) * (1 / 125000000000000000000) - 1) = _
    rw [show ((0 : Nat) : Rat) = 0 from rfl, show (0 : Rat) * (1 / 1000000000000) = 0 by grind, SA_0, CA_0]
    grind
  have eN : f 250000000000000000000 = X * SA 250000000 - Y * CA 250000000 + R * (1 / 1000000000000000000000000) := by
    rw [hf]
    show X * SA (((250000000000000000000 : Nat) : Rat) * (1 / 1000000000000)) - Y * CA (((250000000000000000000 : Nat) : Rat) * (1 / 1000000000000)) + R * (1 / 1000000000000000000000000) * (((250000000000000000000 : Nat) : Rat) * (1 / 125000000000000000000) - 1) = _
    rw [show ((250000000000000000000 : Nat) : Rat) = 250000000000000000000 from rfl, show (250000000000000000000 : Rat) * (1 / 1000000000000) = 250000000 by grind]
    grind
  have XR : X ≤ R := by grind
  have YR : Y ≤ R := by grind
  have p1 := rmul_bd (a := X) (b := SA 250000000 - 1) (A := R) (B := 4 * eq1) (by grind) (by unfold Near at q1; grind)
  have p2 := rmul_bd (a := Y) (b := CA 250000000) (A := R) (B := 4 * eq1) (by grind) (by unfold Near at q2; grind)
  obtain ⟨i, i1, i2, i3⟩ := cross_at (f := f) (v := 0) (by rw [e0]; grind) 250000000000000000000 (by rw [eN, show X * SA 250000000 = X + X * (SA 250000000 - 1) by grind]; clear eN e0 hf q1 q2; unfold eq1 at *; generalize X * (SA 250000000 - 1) = z1 at *; generalize Y * CA 250000000 = z2 at *; grind)
  have ib := Rat.natCast_le_natCast.2 i1
  rw [show ((250000000000000000000 : Nat) : Rat) = 250000000000000000000 from rfl] at ib
  have i0 := nat_nonneg i
  obtain ⟨x, hx⟩ : ∃ x, x = (i : Rat) * (1 / 1000000000000) := ⟨_, rfl⟩
  have x0 : 0 ≤ x := by rw [hx]; grind
  have x1 : x ≤ 250000000 := by rw [hx]; grind
  have ef : f i = X * SA x - Y * CA x + R * (1 / 1000000000000000000000000) * ((i : Rat) * (1 / 125000000000000000000) - 1) := by rw [hf, hx]
  have ef1 : f (i + 1) = X * SA (x + 1 / 1000000000000) - Y * CA (x + 1 / 1000000000000) + R * (1 / 1000000000000000000000000) * ((i : Rat) * (1 / 125000000000000000000) + 1 / 125000000000000000000 - 1) := by
    rw [hf, hx]
    show X * SA (((i + 1 : Nat) : Rat) * (1 / 1000000000000)) - Y * CA (((i + 1 : Nat) : Rat) * (1 / 1000000000000)) + R * (1 / 1000000000000000000000000) * (((i + 1 : Nat) : Rat) * (1 / 125000000000000000000) - 1) = _
    rw [Rat.natCast_add, show ((1 : Nat) : Rat) = 1 from rfl, show ((i : Rat) + 1) * (1 / 1000000000000) = (i : Rat) * (1 / 1000000000000) + 1 / 1000000000000 by grind, show ((i : Rat) + 1) * (1 / 125000000000000000000) = (i : Rat) * (1 / 125000000000000000000) + 1 / 125000000000000000000 by grind]
  obtain ⟨l1, l2⟩ := SA_lip (y := x) (d := 1 / 1000000000000) (by grind)
  have qb := qq_b9
  have rr : ra (1 / 1000000000000) ≤ 7 / 1000000000000000000000 := by unfold ra; generalize qq = p at *; grind
  have m1 := rmul_bd (a := X) (b := SA (x + 1 / 1000000000000) - SA x) (A := R) (B := 17 / 1000000000000000000000) (by grind) (by unfold Near at l1; grind)
  have m2 := rmul_bd (a := Y) (b := CA (x + 1 / 1000000000000) - CA x) (A := R) (B := 17 / 1000000000000000000000) (by grind) (by unfold Near at l2; grind)
  have m3 := rmul_bd (a := R * (1 / 1000000000000000000000000)) (b := (i : Rat) * (1 / 125000000000000000000) - 1) (A := R * (1 / 1000000000000000000000000)) (B := 1) (by grind) (by grind)
  have G : -(R * (1 / 10000000000000000000)) ≤ X * SA x - Y * CA x ∧ X * SA x - Y * CA x ≤ R * (1 / 10000000000000000000) := by
    clear q1 q2 e0 eN p1 p2 l1 l2 qb rr hf hx
    generalize SA (x + 1 / 1000000000000) = s2 at *
    generalize CA (x + 1 / 1000000000000) = c2 at *
    generalize f i = f1 at *
    generalize f (i + 1) = f2 at *
    generalize (i : Rat) * (1 / 125000000000000000000) = w at *
    constructor <;> grind
  clear q1 q2 e0 eN p1 p2 l1 l2 qb rr m1 m2 m3 ef ef1 i0 i1 i2 i3 ib hf hx
  obtain ⟨s0, c0⟩ := quarter_pos x0 x1
  have py := SA_pyth x
  have sb := SA_le x; have cb := CA_le x
  obtain ⟨s, hs⟩ : ∃ s, s = SA x := ⟨_, rfl⟩
  obtain ⟨c, hc⟩ : ∃ c, c = CA x := ⟨_, rfl⟩
  rw [← hs] at s0 sb G py
  rw [← hc] at c0 cb G py
  have HS := hs; have HC := hc
  clear hs hc
  have n1 := rmul_bd (a := X * s - Y * c) (b := s) (A := R * (1 / 10000000000000000000)) (B := 1 + ep) G sb
  have n2 := rmul_bd (a := X * s - Y * c) (b := c) (A := R * (1 / 10000000000000000000)) (B := 1 + ep) G cb
  have n3 := rmul_bd (a := X) (b := c * c + s * s - 1) (A := R) (B := ep) (by grind) (by unfold Near at py; grind)
  have n4 := rmul_bd (a := Y) (b := c * c + s * s - 1) (A := R) (B := ep) (by grind) (by unfold Near at py; grind)
  have NX : Near X ((X * c + Y * s) * c) (R * (1 / 1000000000000000000)) := by
    have e : X - (X * c + Y * s) * c = (X * s - Y * c) * s - X * (c * c + s * s - 1) := by grind
    unfold Near
    unfold ep at n1 n3
    generalize (X * s - Y * c) * s = u1 at *
    generalize X * (c * c + s * s - 1) = u2 at *
    generalize (X * c + Y * s) * c = u3 at *
    clear n2 n4 py sb cb G
    constructor <;> grind
  have NY : Near Y ((X * c + Y * s) * s) (R * (1 / 1000000000000000000)) := by
    have e : Y - (X * c + Y * s) * s = -((X * s - Y * c) * c) - Y * (c * c + s * s - 1) := by grind
    unfold Near
    unfold ep at n2 n4
    generalize (X * s - Y * c) * c = u1 at *
    generalize Y * (c * c + s * s - 1) = u2 at *
    generalize (X * c + Y * s) * s = u3 at *
    clear n1 n3 py sb cb G NX
    constructor <;> grind
  have r0 : -(R * (1 / 10000000000000000000000)) ≤ X * c + Y * s := by
    have a1 := Rat.mul_le_mul_of_nonneg_left c0 hX
    have a2 := Rat.mul_le_mul_of_nonneg_left s0 hY
    clear n1 n2 n3 n4 NX NY py sb cb G
    generalize X * c = u1 at *
    generalize Y * s = u2 at *
    grind
  generalize X * c + Y * s = rho at *
  clear n1 n2 n3 n4 G
  have rb : R ≤ 3 / 2 * rho := by
    by_cases k : 0 ≤ rho
    · -- X² + Y² is at least R² / 2
      have b1 := rmul_bd (a := rho) (b := c) (A := rho) (B := 1 + ep) (by grind) cb
      have b2 := rmul_bd (a := rho) (b := s) (A := rho) (B := 1 + ep) (by grind) sb
      apply Rat.not_lt.1
      intro l
      have h2 : rho * (c * c + s * s) = (rho * c) * c + (rho * s) * s := by grind
      have cs2 : (c + s) * (c + s) ≤ 2 * (c * c + s * s) := by
        have := sq_nonneg (c - s)
        grind
      have cs3 : c + s ≤ 1415 / 1000 := by
        apply Rat.not_lt.1
        intro h
        have := Rat.mul_lt_mul_of_pos_left h (show 0 < c + s by grind)
        unfold Near ep at py
        grind
      have t := Rat.mul_le_mul_of_nonneg_left cs3 k
      unfold Near at NX NY
      clear b1 b2 py sb cb cs2 h2
      grind
    · exfalso
      have b1 := rmul_bd (a := rho) (b := c) (A := R * (1 / 10000000000000000000000)) (B := 1 + ep) (by grind) cb
      have b2 := rmul_bd (a := rho) (b := s) (A := R * (1 / 10000000000000000000000)) (B := 1 + ep) (by grind) sb
      unfold Near ep at *
      grind
  exact ⟨x, rho, x0, x1, by clear HS HC NX NY; grind, rb, by rw [← HC]; exact NX, by rw [← HS]; exact NY⟩
theorem arc_order {a b c d : Int} (H : ArcIn a b c d) : arcLo a b c d ≤ arcHi a b c d := by
  have hf : Md (dirW a c) 1200000001 := by obtain ⟨x, y, z⟩ := dir_fin H.sa H.sc'; exact ⟨x, y, z⟩
  have q0 := arcD_md hf H.sa H.sd
  have q1 := arcD_md hf H.sb H.sc'
  have q2 := arcD_md hf H.sb H.sd
  have l1 := md_min md_zero q0; have l2 := md_min l1 q1; have l3 := md_min l2 q2
  have g1 := md_max md_zero q0; have g2 := md_max g1 q1; have g3 := md_max g2 q2
  have v1 := (fmin_ok md_zero.fin q0.fin).2; have v2 := (fmin_ok l1.fin q1.fin).2; have v3 := (fmin_ok l2.fin q2.fin).2
  have u1 := (fmax_ok md_zero.fin q0.fin).2; have u2 := (fmax_ok g1.fin q1.fin).2; have u3 := (fmax_ok g2.fin q2.fin).2
  rw [fin_zero.2] at v1 u1
  obtain ⟨-, a1⟩ := arc_sum hf l3
  obtain ⟨-, a2⟩ := arc_sum hf g3
  have lo1 := a1.lo1; have hi1 := a2.hi1
  have eL : arcLo a b c d = aLo (fadd (dirW a c) (fminW (fminW (fminW 0 (arcD (dirW a c) a d)) (arcD (dirW a c) b c)) (arcD (dirW a c) b d))) := rfl
  have eH : arcHi a b c d = aHi (fadd (dirW a c) (fmaxW (fmaxW (fmaxW 0 (arcD (dirW a c) a d)) (arcD (dirW a c) b c)) (arcD (dirW a c) b d))) := rfl
  rw [← eL] at lo1
  rw [← eH] at hi1
  clear a1 a2 eL eH l1 l2 l3 g1 g2 g3 q0 q1 q2
  have ks : kSl - 2 / 10000 ≥ 7 / 10000 := by unfold kSl; grind
  generalize fv (fminW (fminW (fminW 0 (arcD (dirW a c) a d)) (arcD (dirW a c) b c)) (arcD (dirW a c) b d)) = L at *
  generalize fv (fmaxW (fmaxW (fmaxW 0 (arcD (dirW a c) a d)) (arcD (dirW a c) b c)) (arcD (dirW a c) b d)) = G at *
  generalize fv (fminW (fminW 0 (arcD (dirW a c) a d)) (arcD (dirW a c) b c)) = L2 at *
  generalize fv (fmaxW (fmaxW 0 (arcD (dirW a c) a d)) (arcD (dirW a c) b c)) = G2 at *
  generalize fv (fminW 0 (arcD (dirW a c) a d)) = L1 at *
  generalize fv (fmaxW 0 (arcD (dirW a c) a d)) = G1 at *
  generalize fv (arcD (dirW a c) a d) = D0 at *
  generalize fv (arcD (dirW a c) b c) = D1 at *
  generalize fv (arcD (dirW a c) b d) = D2 at *
  apply int_le_of_rat
  grind
theorem arc_containsR {a b c d : Int} (H : ArcIn a b c d) (hw : ¬ 400000000 < arcHi a b c d - arcLo a b c d) {x0 : Rat} (a0 : 0 ≤ x0) (a1 : x0 < 1000000000) {x y rho : Rat} (hy1 : (a : Rat) ≤ y) (hy2 : y ≤ (b : Rat)) (hx1 : (c : Rat) ≤ x) (hx2 : x ≤ (d : Rat)) (rho0 : 0 < rho)
    (r1 : szR a c ≤ 4 * rho) (r2 : szR a d ≤ 4 * rho) (r3 : szR b c ≤ 4 * rho) (r4 : szR b d ≤ 4 * rho) (nx : Near x (rho * CA x0) (rho / 1000000000000000)) (ny : Near y (rho * SA x0) (rho / 1000000000000000)) :
    ∃ k : Int, (arcLo a b c d : Rat) ≤ x0 + 1000000000 * (k : Rat) ∧ x0 + 1000000000 * (k : Rat) ≤ (arcHi a b c d : Rat) := by
  obtain ⟨n1, n2, n3, n4⟩ := H.ne
  have hf : Md (dirW a c) 1200000001 := by obtain ⟨x, y, z⟩ := dir_fin H.sa H.sc'; exact ⟨x, y, z⟩
  have q0 := arcD_md hf H.sa H.sd
  have q1 := arcD_md hf H.sb H.sc'
  have q2 := arcD_md hf H.sb H.sd
  obtain ⟨j0, i0, e0⟩ := arcD_near hf H.sa H.sd
  obtain ⟨j1, i1, e1⟩ := arcD_near hf H.sb H.sc'
  obtain ⟨j2, i2, e2⟩ := arcD_near hf H.sb H.sd
  have l1 := md_min md_zero q0; have l2 := md_min l1 q1; have l3 := md_min l2 q2
  have g1 := md_max md_zero q0; have g2 := md_max g1 q1; have g3 := md_max g2 q2
  have v1 := (fmin_ok md_zero.fin q0.fin).2; have v2 := (fmin_ok l1.fin q1.fin).2; have v3 := (fmin_ok l2.fin q2.fin).2
  have u1 := (fmax_ok md_zero.fin q0.fin).2; have u2 := (fmax_ok g1.fin q1.fin).2; have u3 := (fmax_ok g2.fin q2.fin).2
  rw [fin_zero.2] at v1 u1
  obtain ⟨-, a1⟩ := arc_sum hf l3
  obtain ⟨-, a2⟩ := arc_sum hf g3
  have lo1 := a1.lo1; have hi1 := a2.hi1
  have eL : arcLo a b c d = aLo (fadd (dirW a c) (fminW (fminW (fminW 0 (arcD (dirW a c) a d)) (arcD (dirW a c) b c)) (arcD (dirW a c) b d))) := rfl
  have eH : arcHi a b c d = aHi (fadd (dirW a c) (fmaxW (fmaxW (fmaxW 0 (arcD (dirW a c) a d)) (arcD (dirW a c) b c)) (arcD (dirW a c) b d))) := rfl
  rw [← eL] at lo1
  rw [← eH] at hi1
  clear a1 a2 eL eH l1 l2 l3 g1 g2 g3 q0 q1 q2
  have wr : (arcHi a b c d : Rat) ≤ (arcLo a b c d : Rat) + 400000000 := by
    have := Rat.intCast_le_intCast.2 (show arcHi a b c d ≤ arcLo a b c d + 400000000 by omega)
    rw [Rat.intCast_add] at this
    exact this
  have ks : kSl - 2 / 10000 ≥ 7 / 10000 := by unfold kSl; grind
  generalize arcLo a b c d = lo at *
  generalize arcHi a b c d = hi at *
  generalize fv (fminW (fminW (fminW 0 (arcD (dirW a c) a d)) (arcD (dirW a c) b c)) (arcD (dirW a c) b d)) = L at *
  generalize fv (fmaxW (fmaxW (fmaxW 0 (arcD (dirW a c) a d)) (arcD (dirW a c) b c)) (arcD (dirW a c) b d)) = G at *
  generalize fv (fminW (fminW 0 (arcD (dirW a c) a d)) (arcD (dirW a c) b c)) = L2 at *
  generalize fv (fmaxW (fmaxW 0 (arcD (dirW a c) a d)) (arcD (dirW a c) b c)) = G2 at *
  generalize fv (fminW 0 (arcD (dirW a c) a d)) = L1 at *
  generalize fv (fmaxW 0 (arcD (dirW a c) a d)) = G1 at *
  generalize fv (arcD (dirW a c) a d) = D0 at *
  generalize fv (arcD (dirW a c) b c) = D1 at *
  generalize fv (arcD (dirW a c) b d) = D2 at *
  have k := ka_bd
  have o0 : L ≤ 0 ∧ L ≤ D0 ∧ L ≤ D1 ∧ L ≤ D2 := by clear e0 e1 e2; grind
  have o1 : 0 ≤ G ∧ D0 ≤ G ∧ D1 ≤ G ∧ D2 ≤ G := by clear e0 e1 e2; grind
  have wd : G - L ≤ 400000000 := by clear e0 e1 e2 v1 v2 v3 u1 u2 u3; grind
  have dr := dir_rad H.sa H.sc' n1
  have dm := (dir_main H.sa H.sc' n1).1
  have dl := dm.lo; have du := dm.hi
  have mb : -(47 / 10) ≤ ka * (fv (dirW a c) + (L + G) / 2) ∧ ka * (fv (dirW a c) + (L + G) / 2) ≤ 47 / 10 := by
    have p1 := Rat.mul_le_mul_of_nonneg_left (show (L + G) / 2 ≤ 200000000 by grind) (show 0 ≤ ka by grind)
    have p2 := Rat.mul_le_mul_of_nonneg_left (show -200000000 ≤ (L + G) / 2 by grind) (show 0 ≤ ka by grind)
    unfold Near at dr
    clear e0 e1 e2 v1 v2 v3 u1 u2 u3 lo1 hi1 wr ks dm
    generalize fv (dirW a c) = w at *
    generalize dirV a c = t at *
    constructor <;> grind
  have z0 : ((0 : Int) : Rat) = 0 := rfl
  have c1 := crn_of H.sa H.sc' n1 (f := fv (dirW a c)) (L := L) (G := G) (D := 0) (j := 0) (.inl rfl) (by rw [z0]; unfold Near; constructor <;> grind) o0.1 o1.1 wd mb r1
  have c2 := crn_of H.sa H.sd n2 (f := fv (dirW a c)) (L := L) (G := G) i0 e0 o0.2.1 o1.2.1 wd mb r2
  have c3 := crn_of H.sb H.sc' n3 (f := fv (dirW a c)) (L := L) (G := G) i1 e1 o0.2.2.1 o1.2.2.1 wd mb r3
  have c4 := crn_of H.sb H.sd n4 (f := fv (dirW a c)) (L := L) (G := G) i2 e2 o0.2.2.2 o1.2.2.2 wd mb r4
  have hb : 0 ≤ ka * ((G - L) / 2) ∧ ka * ((G - L) / 2) ≤ 12567 / 10000 := by
    have p1 := Rat.mul_le_mul_of_nonneg_left wd (show 0 ≤ ka by grind)
    have p2 := Rat.mul_nonneg (show 0 ≤ ka by grind) (show 0 ≤ G - L by grind)
    clear e0 e1 e2 v1 v2 v3 u1 u2 u3 lo1 hi1 wr ks dm dr
    constructor <;> grind
  have ab := ra_bd a0 (Rat.le_of_lt a1)
  have er : redu x0 = x0 := redu_id a0 a1
  have ek : ra x0 = ka * x0 := by unfold ra ka; grind
  unfold SA at ny
  unfold CA at nx
  rw [er] at nx ny
  obtain ⟨kk, k1, k2⟩ := arc_in c1 c2 c3 c4 hy1 hy2 hx1 hx2 (by grind) (by grind) (by grind) rho0 ⟨ab.1, by grind⟩ nx ny
  refine ⟨kk, ?_⟩
  rw [ek, show 8 * qq * (kk : Rat) = ka * (1000000000 * (kk : Rat)) by unfold ka; grind] at k1 k2
  clear c1 c2 c3 c4 e0 e1 e2 v1 v2 v3 u1 u2 u3 dm dr nx ny hb ab mb hy1 hy2 hx1 hx2 dl du r1 r2 r3 r4 n1 n2 n3 n4 hf z0
  generalize fv (dirW a c) = f at *
  have w1 : f + L - 5 / 100000 ≤ x0 + 1000000000 * (kk : Rat) := by
    apply Rat.not_lt.1
    intro l
    have := Rat.mul_lt_mul_of_pos_left l (show 0 < ka by grind)
    clear lo1 hi1 wr ks o0 o1 l
    generalize (kk : Rat) = kk at *
    grind
  have w2 : x0 + 1000000000 * (kk : Rat) ≤ f + G + 5 / 100000 := by
    apply Rat.not_lt.1
    intro l
    have := Rat.mul_lt_mul_of_pos_left l (show 0 < ka by grind)
    clear lo1 hi1 wr ks o0 o1 l w1
    generalize (kk : Rat) = kk at *
    grind
  constructor <;> grind
end Go.Proofs.YtcopmgnfakjdhaaGreatDoor
/- Merged by wip/tools/pack.py out of XInvP, XPartsP. -/
/- TrigInverts, plain. -/
namespace Go.Proofs.YtcopmgnfakjdhaaGreatDoor
set_option linter.unusedSimpArgs false
set_option linter.unusedVariables false
theorem s_tri (a : Int) : -1000000000 ≤ sLo a ∧ sLo a ≤ sHi a ∧ sHi a ≤ 1000000000 := by
  have h := sine_in a; exact ⟨h.bl, h.le, h.bh⟩
theorem so_tri (a b : Int) : -1000000000 ≤ soLo a b ∧ soLo a b ≤ soHi a b ∧ soHi a b ≤ 1000000000 := by
  have h := s_tri a; have g := s_tri b
  unfold soLo soHi
  split <;> split <;> omega
end Go.Proofs.YtcopmgnfakjdhaaGreatDoor
/- PlaceParts, plain: the parts of a direction, as place.look reckons them, are those of a vector of length 1. -/
namespace Go.Proofs.YtcopmgnfakjdhaaGreatDoor
set_option linter.unusedSimpArgs false
set_option linter.unusedVariables false
theorem pt_of {l u : Int} {x d : Rat} (h : l ≤ u) (h1 : (l : Rat) ≤ x + d) (h2 : x - d ≤ (u : Rat)) (hd : 0 ≤ d) : ∃ y : Rat, (l : Rat) ≤ y ∧ y ≤ (u : Rat) ∧ Near y x d := by
  have hl := Rat.intCast_le_intCast.2 h
  unfold Near
  by_cases c : x < (l : Rat)
  · exact ⟨l, by grind, hl, by grind, by grind⟩
  · by_cases e : (u : Rat) < x
    · exact ⟨u, hl, by grind, by grind, by grind⟩
    · exact ⟨x, by grind, by grind, by grind, by grind⟩
theorem s_pt (a : Int) : ∃ y : Rat, (sLo a : Rat) ≤ y ∧ y ≤ (sHi a : Rat) ∧ Near y (1000000000 * SN a) (11 / 1000000000000) := by
  have h := sine_in a
  exact pt_of h.le (by have := h.lo; grind) (by have := h.hi; grind) (by grind)
theorem c_pt (a : Int) : ∃ y : Rat, (cLo a : Rat) ≤ y ∧ y ≤ (cHi a : Rat) ∧ Near y (1000000000 * CN a) (11 / 1000000000000) := by
  obtain ⟨e1, e2'⟩ := cos_sine a
  rw [e1, e2']
  have h := sine_in (a + 250000000)
  have n := CN_SN a
  have b1 := h.lo; have b2 := h.hi
  unfold Near e2 at n
  exact pt_of h.le (by grind) (by grind) (by grind)
theorem tm_pt {a b c d : Int} {x y : Rat} (h1 : (a : Rat) ≤ x) (h2 : x ≤ (b : Rat)) (g1 : (c : Rat) ≤ y) (g2 : y ≤ (d : Rat)) : (tmLo a b c d : Rat) ≤ x * y / 1000000000 ∧ x * y / 1000000000 ≤ (tmHi a b c d : Rat) := by
  have r := rp_contains h1 h2 g1 g2
  have e1 : tmLo a b c d = pLo a b c d 1 / 1000000000 := by unfold tmLo; rw [pLo_one]; unfold pLo; omega
  have e2 : tmHi a b c d = upQ (pHi a b c d 1) 1000000000 := by unfold tmHi; rw [pHi_one]; unfold pHi upQ; omega
  have d1 := (div_rat (pLo a b c d 1) 1000000000 (by omega)).1
  have d2 := (div_rat (pHi a b c d 1) 1000000000 (by omega)).2
  rw [show ((1000000000 : Nat) : Rat) = 1000000000 from rfl] at d1 d2
  have f1 : (tmLo a b c d : Rat) * 1000000000 ≤ (pLo a b c d 1 : Rat) := by rw [e1]; exact d1
  have f2 : (pHi a b c d 1 : Rat) ≤ (tmHi a b c d : Rat) * 1000000000 := by rw [e2]; exact d2
  clear e1 e2 d1 d2
  generalize (tmLo a b c d : Rat) = p at *
  generalize (tmHi a b c d : Rat) = q at *
  generalize x * y = z at *
  constructor <;> grind
theorem pr_near {x y a b dx dy : Rat} (hx : Near x (1000000000 * a) dx) (hy : Near y (1000000000 * b) dy) (ha : -(10001 / 10000) ≤ a ∧ a ≤ 10001 / 10000) (hb : -(10001 / 10000) ≤ b ∧ b ≤ 10001 / 10000) (h1 : 0 ≤ dx ∧ dx ≤ 1) (h2 : 0 ≤ dy ∧ dy ≤ 1) : Near (x * y / 1000000000) (1000000000 * (a * b)) (1001 / 1000 * (dx + dy)) := by
  have m1 := rmul_bd (a := x - 1000000000 * a) (b := b) (A := dx) (B := 10001 / 10000) (by unfold Near at hx; grind) hb
  have m2 := rmul_bd (a := a) (b := y - 1000000000 * b) (A := 10001 / 10000) (B := dy) ha (by unfold Near at hy; grind)
  have m3 := rmul_bd (a := x - 1000000000 * a) (b := y - 1000000000 * b) (A := dx) (B := dy) (by unfold Near at hx; grind) (by unfold Near at hy; grind)
  have m4 := Rat.mul_le_mul_of_nonneg_right h1.2 h2.1
  have e : x * y / 1000000000 - 1000000000 * (a * b) = (x - 1000000000 * a) * b + a * (y - 1000000000 * b) + (x - 1000000000 * a) * (y - 1000000000 * b) / 1000000000 := by grind
  clear hx hy ha hb
  unfold Near
  generalize (x - 1000000000 * a) * b = z1 at *
  generalize a * (y - 1000000000 * b) = z2 at *
  generalize (x - 1000000000 * a) * (y - 1000000000 * b) = z3 at *
  generalize x * y / 1000000000 = z4 at *
  generalize 1000000000 * (a * b) = z5 at *
  constructor <;> grind
theorem cl_pt {l u : Int} {v V d : Rat} (h1 : (l : Rat) ≤ v) (h2 : v ≤ (u : Rat)) (hv : Near v V d) (b1 : -1000000000 - d ≤ V) (b2 : V ≤ 1000000000 + d) (hd : 0 ≤ d) : ∃ y : Rat, (clLo l : Rat) ≤ y ∧ y ≤ (clHi u : Rat) ∧ Near y V d := by
  have lu : l ≤ u := int_le_of_rat (by grind)
  have e : clLo l ≤ clHi u := by unfold clLo clHi; omega
  refine pt_of e ?_ ?_ hd
  · unfold clLo
    unfold Near at hv
    rcases (by omega : min (max l (-1000000000)) 1000000000 = l ∨ (min (max l (-1000000000)) 1000000000 = -1000000000) ∨ (min (max l (-1000000000)) 1000000000 = 1000000000 ∧ 1000000000 ≤ l)) with h | h | ⟨h, h'⟩
    · rw [h]; grind
    · rw [h, show ((-1000000000 : Int) : Rat) = -1000000000 from rfl]; grind
    · have := Rat.intCast_le_intCast.2 h'
      rw [h]
      rw [show ((1000000000 : Int) : Rat) = 1000000000 from rfl] at *
      grind
  · unfold clHi
    unfold Near at hv
    rcases (by omega : max (min u 1000000000) (-1000000000) = u ∨ (max (min u 1000000000) (-1000000000) = 1000000000) ∨ (max (min u 1000000000) (-1000000000) = -1000000000 ∧ u ≤ -1000000000)) with h | h | ⟨h, h'⟩
    · rw [h]; grind
    · rw [h, show ((1000000000 : Int) : Rat) = 1000000000 from rfl]; grind
    · have := Rat.intCast_le_intCast.2 h'
      rw [h]
      rw [show ((-1000000000 : Int) : Rat) = -1000000000 from rfl] at *
      grind
theorem look_unit {a b s c p q : Rat} (h1 : Near (b * b + a * a) 1 ep) (h2 : Near (c * c + s * s) 1 ep) (h3 : Near (q * q + p * p) 1 ep) (ba : -(1 + ep) ≤ a ∧ a ≤ 1 + ep) (bs : -(1 + ep) ≤ s ∧ s ≤ 1 + ep) (bc : -(1 + ep) ≤ c ∧ c ≤ 1 + ep) (bq : -(1 + ep) ≤ q ∧ q ≤ 1 + ep) :
    Near ((a * s + b * (c * q)) * (a * s + b * (c * q)) + -(c * p) * -(c * p) + (b * s - a * (c * q)) * (b * s - a * (c * q))) 1 (1 / 10000000000000000000000000) := by
  have id : (a * s + b * (c * q)) * (a * s + b * (c * q)) + -(c * p) * -(c * p) + (b * s - a * (c * q)) * (b * s - a * (c * q)) = 1 + (c * c + s * s - 1) + c * c * (q * q + p * p - 1) + (s * s + c * q * (c * q)) * (b * b + a * a - 1) := by grind
  rw [id]
  have q1 := rmul_bd bc bc
  have q2 := rmul_bd bs bs
  have q3 := rmul_bd bc bq
  have q4 := rmul_bd (a := c * q) (b := c * q) (A := 2) (B := 2) (by unfold ep at q3; grind) (by unfold ep at q3; grind)
  have r1 := rmul_bd (a := c * c) (b := q * q + p * p - 1) (A := 2) (B := ep) (by unfold ep at q1; grind) (by unfold Near at h3; grind)
  have r2 := rmul_bd (a := s * s + c * q * (c * q)) (b := b * b + a * a - 1) (A := 6) (B := ep) (by unfold ep at q2; grind) (by unfold Near at h1; grind)
  clear id q1 q2 q3 q4 ba bs bc bq h1 h3
  unfold Near ep at *
  generalize c * c * (q * q + p * p - 1) = z1 at *
  generalize (s * s + c * q * (c * q)) * (b * b + a * a - 1) = z2 at *
  generalize c * c + s * s = z3 at *
  constructor <;> grind
theorem le1_of_sum {u v z : Rat} (h : Near (u * u + v * v + z * z) 1 (1 / 10000000000000000000000000)) : (-(1 + 1 / 10000000000000000000000000) ≤ u ∧ u ≤ 1 + 1 / 10000000000000000000000000) ∧ (-(1 + 1 / 10000000000000000000000000) ≤ v ∧ v ≤ 1 + 1 / 10000000000000000000000000) ∧ (-(1 + 1 / 10000000000000000000000000) ≤ z ∧ z ≤ 1 + 1 / 10000000000000000000000000) := by
  have a := sq_nonneg u; have b := sq_nonneg v; have c := sq_nonneg z
  unfold Near at h
  refine ⟨one_of_sq (by grind) (by grind), one_of_sq (by grind) (by grind), one_of_sq (by grind) (by grind)⟩
end Go.Proofs.YtcopmgnfakjdhaaGreatDoor
