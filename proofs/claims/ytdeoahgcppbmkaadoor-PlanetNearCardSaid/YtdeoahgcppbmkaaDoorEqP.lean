/- Merged by wip/tools/pack.py out of XNarrow, XEquP. -/
import Derived.Test.YtdeoahgcppbmkaaDoorArcTK
import Derived.Test.YtdeoahgcppbmkaaDoorTms
import Derived.Test.YtdeoahgcppbmkaaDoorRealA
import Derived.Test.YtdeoahgcppbmkaaDoorEqu
/- Narrow boxes have narrow arcs; spans over short spans of angles lie near their sines; products of spans that lie near numbers. Plain. -/
namespace Go.Proofs.YtdeoahgcppbmkaaDoor
set_option linter.unusedSimpArgs false
set_option linter.unusedVariables false
/-- The polar form of a point. -/
theorem polar {Y X : Int} (hY : Sml Y) (hX : Sml X) (h0 : Y ≠ 0 ∨ X ≠ 0) : ∃ t rho : Rat, -(337 / 100) ≤ t ∧ t ≤ 337 / 100 ∧ 0 < rho ∧ szR Y X ≤ 201 / 100 * rho ∧ Near (X : Rat) (rho * cs t) (1 / 100000000000000 * szR Y X) ∧ Near (Y : Rat) (rho * sn t) (1 / 100000000000000 * szR Y X) := by
  have D := (dir_main hY hX h0).1
  obtain ⟨bx, by'⟩ := sz_bd Y X
  have sp := sz_pos h0
  obtain ⟨n, p, l, u⟩ := D
  have t8 : -8 ≤ dirV Y X ∧ dirV Y X ≤ 8 := by grind
  have py := pyth t8
  have sA := sn_le t8; have cA := cs_le t8
  have nx : ∀ n : Int, (n.natAbs : Rat) = (n : Rat) ∨ (n.natAbs : Rat) = -(n : Rat) := fun n => by
    rcases (by omega : (n.natAbs : Int) = n ∨ (n.natAbs : Int) = -n) with h | h
    · left
      have := congrArg (fun k : Int => (k : Rat)) h
      (try dsimp only at this)
      rwa [Rat.intCast_natCast] at this
    · right
      have := congrArg (fun k : Int => (k : Rat)) h
      (try dsimp only at this)
      rwa [Rat.intCast_natCast, Rat.intCast_neg] at this
  have a1 := nx X; have a2 := nx Y
  have es : szR Y X = (X.natAbs : Rat) + (Y.natAbs : Rat) := rfl
  generalize dirV Y X = t at *
  generalize (X : Rat) = x at *
  generalize (Y : Rat) = y at *
  generalize (X.natAbs : Rat) = xa at *
  generalize (Y.natAbs : Rat) = ya at *
  generalize szR Y X = R at *
  have R0 : 0 ≤ R := by grind
  have m1 := rmul_bd (a := x * sn t - y * cs t) (b := sn t) (A := 2 / 1000000000000000 * R) (B := 101 / 100) (by unfold Near at n; grind) (by unfold ep at sA; grind)
  have m2 := rmul_bd (a := x * sn t - y * cs t) (b := cs t) (A := 2 / 1000000000000000 * R) (B := 101 / 100) (by unfold Near at n; grind) (by unfold ep at cA; grind)
  have q1 := rmul_bd (a := x) (b := cs t * cs t + sn t * sn t - 1) (A := R) (B := ep) bx (by unfold Near at py; grind)
  have q2 := rmul_bd (a := y) (b := cs t * cs t + sn t * sn t - 1) (A := R) (B := ep) by' (by unfold Near at py; grind)
  have rp : 0 < x * cs t + y * sn t := by grind
  have nX : Near x ((x * cs t + y * sn t) * cs t) (1 / 100000000000000 * R) := by
    have e : x - (x * cs t + y * sn t) * cs t = (x * sn t - y * cs t) * sn t - x * (cs t * cs t + sn t * sn t - 1) := by grind
    unfold Near
    unfold ep at q1
    generalize (x * sn t - y * cs t) * sn t = u1 at *
    generalize x * (cs t * cs t + sn t * sn t - 1) = u2 at *
    generalize (x * cs t + y * sn t) * cs t = u3 at *
    clear m2 q2 py sA cA n a1 a2
    constructor <;> grind
  have nY : Near y ((x * cs t + y * sn t) * sn t) (1 / 100000000000000 * R) := by
    have e : y - (x * cs t + y * sn t) * sn t = -((x * sn t - y * cs t) * cs t) - y * (cs t * cs t + sn t * sn t - 1) := by grind
    unfold Near
    unfold ep at q2
    generalize (x * sn t - y * cs t) * cs t = u1 at *
    generalize y * (cs t * cs t + sn t * sn t - 1) = u2 at *
    generalize (x * cs t + y * sn t) * sn t = u3 at *
    clear m1 q1 py sA cA n a1 a2
    constructor <;> grind
  refine ⟨t, x * cs t + y * sn t, l, u, rp, ?_, nX, nY⟩
  generalize x * cs t + y * sn t = rho at *
  have b1 := rmul_bd (a := rho) (b := cs t) (A := rho) (B := 1 + ep) (by grind) cA
  have b2 := rmul_bd (a := rho) (b := sn t) (A := rho) (B := 1 + ep) (by grind) sA
  clear m1 m2 q1 q2 py n p
  unfold Near ep at *
  generalize rho * cs t = u1 at *
  generalize rho * sn t = u2 at *
  grind
theorem sz_le {Y X Y' X' E : Int} (hE : 0 ≤ E) (h1 : -E ≤ Y' - Y ∧ Y' - Y ≤ E) (h2 : -E ≤ X' - X ∧ X' - X ≤ E) : szR Y' X' ≤ szR Y X + 2 * (E : Rat) := by
  have : ((X'.natAbs + Y'.natAbs : Nat) : Int) ≤ ((X.natAbs + Y.natAbs : Nat) : Int) + 2 * E := by omega
  have := Rat.intCast_le_intCast.2 this
  rw [Rat.intCast_add, Rat.intCast_mul, Rat.intCast_natCast, Rat.intCast_natCast, Rat.natCast_add, Rat.natCast_add, show ((2 : Int) : Rat) = 2 from rfl] at this
  unfold szR
  exact this
/-- An arc over a small box far from the middle is narrow. -/
theorem arc_narrow {a b c d E : Int} (H : ArcIn a b c d) (hE : 0 ≤ E) (h1 : b - a ≤ E) (h2 : d - c ≤ E) (h3 : 400 * E ≤ (c.natAbs + a.natAbs : Nat)) : arcHi a b c d - arcLo a b c d ≤ 20000000 := by
  obtain ⟨n1, n2, n3, n4⟩ := H.ne
  obtain ⟨t, rho, t1, t2, r0, rs, nx, ny⟩ := polar H.sa H.sc' n1
  have ab := H.ab; have cd := H.cd
  have s2 := sz_le (Y := a) (X := c) (Y' := a) (X' := d) hE (by omega) (by omega)
  have s3 := sz_le (Y := a) (X := c) (Y' := b) (X' := c) hE (by omega) (by omega)
  have s4 := sz_le (Y := a) (X := c) (Y' := b) (X' := d) hE (by omega) (by omega)
  have e3 := Rat.intCast_le_intCast.2 h3
  rw [Rat.intCast_mul, Rat.intCast_natCast, Rat.natCast_add, show ((400 : Int) : Rat) = 400 from rfl] at e3
  have es : szR a c = (c.natAbs : Rat) + (a.natAbs : Rat) := rfl
  rw [← es] at e3
  have e0 : (0 : Rat) ≤ (E : Rat) := Rat.intCast_le_intCast.2 hE
  have f1 := Rat.intCast_le_intCast.2 (show b ≤ a + E by omega)
  have f2 := Rat.intCast_le_intCast.2 (show d ≤ c + E by omega)
  rw [Rat.intCast_add] at f1 f2
  have g1 := Rat.intCast_le_intCast.2 ab
  have g2 := Rat.intCast_le_intCast.2 cd
  have he : (E : Rat) + 1 / 100000000000000 * szR a c ≤ rho / 100 := by grind
  unfold Near at nx ny
  obtain ⟨K, k1, k2⟩ := arc_tight H (A := t) (rho := rho) (e := (E : Rat) + 1 / 100000000000000 * szR a c) r0 (by grind) he (by unfold Near; grind) (by unfold Near; grind) (by unfold Near; grind) (by unfold Near; grind) (by grind) (by grind) (by grind) (by grind)
  have ee : ((E : Rat) + 1 / 100000000000000 * szR a c) / rho ≤ 1 / 100 := by
    have x : ((E : Rat) + 1 / 100000000000000 * szR a c) / rho * rho = (E : Rat) + 1 / 100000000000000 * szR a c := by grind
    apply Rat.not_lt.1
    intro h
    have := Rat.mul_lt_mul_of_pos_right h r0
    grind
  have kb := ka_bd
  generalize ((E : Rat) + 1 / 100000000000000 * szR a c) / rho = g at *
  generalize 8 * qq * (K : Rat) = z at *
  have k3 : ka * ((arcHi a b c d : Rat) - 2) - ka * ((arcLo a b c d : Rat) + 2) ≤ 11 / 100 := by grind
  have k4 : ka * ((arcHi a b c d : Rat) - (arcLo a b c d : Rat) - 4) ≤ 11 / 100 := by
    have : ka * ((arcHi a b c d : Rat) - (arcLo a b c d : Rat) - 4) = ka * ((arcHi a b c d : Rat) - 2) - ka * ((arcLo a b c d : Rat) + 2) := by grind
    rw [this]; exact k3
  apply int_le_of_rat
  rw [Rat.intCast_sub, show ((20000000 : Int) : Rat) = 20000000 from rfl]
  clear k1 k2 k3 ee he s2 s3 s4 e3 f1 f2 g1 g2 nx ny rs
  apply Rat.not_lt.1
  intro h
  have : 20000000 - 4 < (arcHi a b c d : Rat) - (arcLo a b c d : Rat) - 4 := by grind
  have := Rat.mul_lt_mul_of_pos_left this (show 0 < ka by grind)
  grind
/-- How far the sines of whole angles lie apart. -/
def kW (W : Int) : Rat := 1000000000 * ra (W : Rat) + 1 / 1000000000
theorem SN_move {a b W : Int} (h : -W ≤ b - a ∧ b - a ≤ W) : Near (1000000000 * SN b) (1000000000 * SN a) (kW W) ∧ Near (1000000000 * CN b) (1000000000 * CN a) (kW W) := by
  have h1 := Rat.intCast_le_intCast.2 h.1
  have h2 := Rat.intCast_le_intCast.2 h.2
  rw [Rat.intCast_neg, Rat.intCast_sub] at h1
  rw [Rat.intCast_sub] at h2
  obtain ⟨l1, l2⟩ := SA_lipD (y := (a : Rat)) (d := (b : Rat) - (a : Rat)) (D := (W : Rat)) ⟨h1, h2⟩
  rw [show (a : Rat) + ((b : Rat) - (a : Rat)) = (b : Rat) by grind, SA_int, SA_int] at l1
  rw [show (a : Rat) + ((b : Rat) - (a : Rat)) = (b : Rat) by grind, CA_int, CA_int] at l2
  unfold kW
  unfold Near at *
  generalize ra (W : Rat) = z at *
  constructor <;> constructor <;> grind
theorem SN_at {c' c : Int} (k : Int) (h : c' = c + 1000000000 * k) : SN c' = SN c := by rw [h, SN_mod]
theorem con_at {a b t : Int} (h : conB a b t) (hw : b - a < 1000000000) : ∃ x, a ≤ x ∧ x ≤ b ∧ ∃ k : Int, x = t + 1000000000 * k := by
  unfold conB at h
  refine ⟨a + (t - a) % 1000000000, by omega, by omega, -((t - a) / 1000000000), by omega⟩
/-- The span of the sines over a short span lies near each of them. -/
theorem so_near {a b x W : Int} (hab : a ≤ b) (hw : b - a ≤ W) (hW : W < 1000000000) (h1 : a ≤ x) (h2 : x ≤ b) : Near (soLo a b : Rat) (1000000000 * SN x) (kW W + 102 / 100) ∧ Near (soHi a b : Rat) (1000000000 * SN x) (kW W + 102 / 100) := by
  have ia := sine_in a; have ib := sine_in b
  have ma := (SN_move (a := x) (b := a) (W := W) (by omega)).1
  have mb := (SN_move (a := x) (b := b) (W := W) (by omega)).1
  have a1 := ia.lo; have a2 := ia.hi; have a3 := ia.lo2; have a4 := ia.hi2
  have b1 := ib.lo; have b2 := ib.hi; have b3 := ib.lo2; have b4 := ib.hi2
  have xl := SN_9 x
  have ml := Rat.intCast_le_intCast.2 (show min (sLo a) (sLo b) ≤ sLo a by omega)
  have ml2 : ((min (sLo a) (sLo b) : Int) : Rat) = (sLo a : Rat) ∨ ((min (sLo a) (sLo b) : Int) : Rat) = (sLo b : Rat) := by
    rcases (by omega : min (sLo a) (sLo b) = sLo a ∨ min (sLo a) (sLo b) = sLo b) with h | h
    · left; rw [h]
    · right; rw [h]
  have mh2 : ((max (sHi a) (sHi b) : Int) : Rat) = (sHi a : Rat) ∨ ((max (sHi a) (sHi b) : Int) : Rat) = (sHi b : Rat) := by
    rcases (by omega : max (sHi a) (sHi b) = sHi a ∨ max (sHi a) (sHi b) = sHi b) with h | h
    · left; rw [h]
    · right; rw [h]
  clear ia ib
  constructor
  · unfold soLo
    split
    · rename_i h
      obtain ⟨c, c1, c2, k, ck⟩ := con_at h (by omega)
      have mc := (SN_move (a := x) (b := c) (W := W) (by omega)).1
      rw [SN_at k ck] at mc
      have q := SN_q3
      rw [show ((-1000000000 : Int) : Rat) = -1000000000 from rfl]
      clear a1 a2 a3 a4 b1 b2 b3 b4 ml ml2 mh2 ma mb
      unfold Near eq1 at *
      generalize SN 750000000 = v at *
      generalize SN x = u at *
      generalize kW W = z at *
      constructor <;> grind
    · clear a2 a4 b2 b4 mh2
      unfold Near at *
      generalize ((min (sLo a) (sLo b) : Int) : Rat) = m at *
      generalize SN x = u at *
      generalize SN a = ua at *
      generalize SN b = ub at *
      generalize kW W = z at *
      constructor <;> grind
  · unfold soHi
    split
    · rename_i h
      obtain ⟨c, c1, c2, k, ck⟩ := con_at h (by omega)
      have mc := (SN_move (a := x) (b := c) (W := W) (by omega)).1
      rw [SN_at k ck] at mc
      have q := SN_q1
      rw [show ((1000000000 : Int) : Rat) = 1000000000 from rfl]
      clear a1 a2 a3 a4 b1 b2 b3 b4 ml ml2 mh2 ma mb
      unfold Near eq1 at *
      generalize SN 250000000 = v at *
      generalize SN x = u at *
      generalize kW W = z at *
      constructor <;> grind
    · clear a1 a3 b1 b3 ml2 ml
      unfold Near at *
      generalize ((max (sHi a) (sHi b) : Int) : Rat) = m at *
      generalize SN x = u at *
      generalize SN a = ua at *
      generalize SN b = ub at *
      generalize kW W = z at *
      constructor <;> grind
theorem co_near {a b x W : Int} (hab : a ≤ b) (hw : b - a ≤ W) (hW : W < 1000000000) (h1 : a ≤ x) (h2 : x ≤ b) : Near (coLo a b : Rat) (1000000000 * CN x) (kW W + 103 / 100) ∧ Near (coHi a b : Rat) (1000000000 * CN x) (kW W + 103 / 100) := by
  unfold coLo coHi
  have e : min (b - a) 2000000000 = b - a := by omega
  rw [e]
  obtain ⟨n1, n2⟩ := so_near (a := a % 1000000000 + 250000000) (b := a % 1000000000 + 250000000 + (b - a)) (x := a % 1000000000 + 250000000 + (x - a)) (W := W) (by omega) (by omega) hW (by omega) (by omega)
  have es : SN (a % 1000000000 + 250000000 + (x - a)) = SN (x + 250000000) := SN_at (-(a / 1000000000)) (by omega)
  rw [es] at n1 n2
  have q := CN_SN x
  unfold Near e2 at *
  generalize SN (x + 250000000) = u at *
  generalize CN x = v at *
  generalize kW W = z at *
  generalize ((soLo (a % 1000000000 + 250000000) (a % 1000000000 + 250000000 + (b - a)) : Int) : Rat) = p1 at *
  generalize ((soHi (a % 1000000000 + 250000000) (a % 1000000000 + 250000000 + (b - a)) : Int) : Rat) = p2 at *
  clear e es
  constructor <;> constructor <;> grind
end Go.Proofs.YtdeoahgcppbmkaaDoor
/- sun.Equator, plain: near which directions its spans lie; that it never fails where the spans are short. -/
namespace Go.Proofs.YtdeoahgcppbmkaaDoor
set_option linter.unusedSimpArgs false
set_option linter.unusedVariables false
theorem fl_near {u v : Int} {X Y e f g : Rat} (hu : Near (u : Rat) X e) (hv : Near (v : Rat) Y f) (hX : -1000000001 ≤ X ∧ X ≤ 1000000001) (hY : -1000000001 ≤ Y ∧ Y ≤ 1000000001) (he : 0 ≤ e ∧ e ≤ 4000000) (hf : 0 ≤ f ∧ f ≤ 4000000) (hg : 101 / 100 * e + 101 / 100 * f + 1 ≤ g) :
    Near ((u * v / 1000000000 : Int) : Rat) (X * Y / 1000000000) g ∧ Near (upQ (u * v) 1000000000 : Rat) (X * Y / 1000000000) g := by
  have m1 := rmul_bd (a := (u : Rat) - X) (b := Y) (A := e) (B := 1000000001) (by unfold Near at hu; grind) hY
  have m2 := rmul_bd (a := X) (b := (v : Rat) - Y) (A := 1000000001) (B := f) hX (by unfold Near at hv; grind)
  have m3 := rmul_bd (a := (u : Rat) - X) (b := (v : Rat) - Y) (A := e) (B := f) (by unfold Near at hu; grind) (by unfold Near at hv; grind)
  have ef : e * f ≤ 4000000 * f := Rat.mul_le_mul_of_nonneg_right he.2 hf.1
  have ex : (u : Rat) * (v : Rat) = X * Y + ((u : Rat) - X) * Y + X * ((v : Rat) - Y) + ((u : Rat) - X) * ((v : Rat) - Y) := by grind
  have d1 : u * v - 1000000000 < u * v / 1000000000 * 1000000000 ∧ u * v / 1000000000 * 1000000000 ≤ u * v := by omega
  have d2 : u * v ≤ upQ (u * v) 1000000000 * 1000000000 ∧ upQ (u * v) 1000000000 * 1000000000 < u * v + 1000000000 := by unfold upQ; omega
  obtain ⟨d11, d12⟩ := d1
  obtain ⟨d21, d22⟩ := d2
  replace d11 := Rat.intCast_lt_intCast.2 d11
  replace d12 := Rat.intCast_le_intCast.2 d12
  replace d21 := Rat.intCast_le_intCast.2 d21
  replace d22 := Rat.intCast_lt_intCast.2 d22
  rw [Rat.intCast_sub, Rat.intCast_mul, Rat.intCast_mul, show ((1000000000 : Int) : Rat) = 1000000000 from rfl] at d11
  rw [Rat.intCast_mul, Rat.intCast_mul, show ((1000000000 : Int) : Rat) = 1000000000 from rfl] at d12 d21
  rw [Rat.intCast_mul, Rat.intCast_add, Rat.intCast_mul, show ((1000000000 : Int) : Rat) = 1000000000 from rfl] at d22
  rw [ex] at d11 d12 d21 d22
  clear ex hu hv hX hY
  unfold Near
  generalize ((u * v / 1000000000 : Int) : Rat) = p at *
  generalize (upQ (u * v) 1000000000 : Rat) = q at *
  generalize ((u : Rat) - X) * Y = x1 at *
  generalize X * ((v : Rat) - Y) = x2 at *
  generalize ((u : Rat) - X) * ((v : Rat) - Y) = x3 at *
  generalize X * Y = x4 at *
  constructor <;> constructor <;> grind
theorem tm_near {a b c d : Int} {X Y e f g : Rat} (ha : Near (a : Rat) X e) (hb : Near (b : Rat) X e) (hc : Near (c : Rat) Y f) (hd : Near (d : Rat) Y f) (hX : -1000000001 ≤ X ∧ X ≤ 1000000001) (hY : -1000000001 ≤ Y ∧ Y ≤ 1000000001) (he : 0 ≤ e ∧ e ≤ 4000000) (hf : 0 ≤ f ∧ f ≤ 4000000) (hg : 101 / 100 * e + 101 / 100 * f + 1 ≤ g) :
    Near (tmLo a b c d : Rat) (X * Y / 1000000000) g ∧ Near (tmHi a b c d : Rat) (X * Y / 1000000000) g := by
  obtain ⟨p1, q1⟩ := fl_near ha hc hX hY he hf hg
  obtain ⟨p2, q2⟩ := fl_near ha hd hX hY he hf hg
  obtain ⟨p3, q3⟩ := fl_near hb hc hX hY he hf hg
  obtain ⟨p4, q4⟩ := fl_near hb hd hX hY he hf hg
  unfold tmLo tmHi pLo pHi
  constructor
  · generalize a * c / 1000000000 = y1 at *
    generalize a * d / 1000000000 = y2 at *
    generalize b * c / 1000000000 = y3 at *
    generalize b * d / 1000000000 = y4 at *
    rcases (by omega : min (min (min (min y1 y1) y2) y3) y4 = y1 ∨ min (min (min (min y1 y1) y2) y3) y4 = y2 ∨ min (min (min (min y1 y1) y2) y3) y4 = y3 ∨ min (min (min (min y1 y1) y2) y3) y4 = y4) with h | h | h | h <;> (rw [h]; assumption)
  · generalize upQ (a * c) 1000000000 = y1 at *
    generalize upQ (a * d) 1000000000 = y2 at *
    generalize upQ (b * c) 1000000000 = y3 at *
    generalize upQ (b * d) 1000000000 = y4 at *
    rcases (by omega : max (max (max (max y1 y1) y2) y3) y4 = y1 ∨ max (max (max (max y1 y1) y2) y3) y4 = y2 ∨ max (max (max (max y1 y1) y2) y3) y4 = y3 ∨ max (max (max (max y1 y1) y2) y3) y4 = y4) with h | h | h | h <;> (rw [h]; assumption)
/-- The parts of a direction, by its longitude and latitude. -/
def dX (la be : Int) : Rat := 1000000000 * (CN be * CN la)
def dY (la be : Int) : Rat := 1000000000 * (CN be * SN la * CN 65109000 - SN be * SN 65109000)
def dZ (la be : Int) : Rat := 1000000000 * (CN be * SN la * SN 65109000 + SN be * CN 65109000)
theorem kW_40 : 0 ≤ kW 40010 ∧ kW 40010 ≤ 251400 := by
  have q := qq_b9
  unfold kW ra
  rw [show ((40010 : Int) : Rat) = 40010 from rfl]
  generalize qq = p at *
  constructor <;> grind
theorem prod_le {a b : Rat} (ha : -(1 + ep) ≤ a ∧ a ≤ 1 + ep) (hb : -(1 + ep) ≤ b ∧ b ≤ 1 + ep) : -1000000001 ≤ 1000000000 * (a * b) ∧ 1000000000 * (a * b) ≤ 1000000001 := by
  have := rmul_bd ha hb
  unfold ep at *
  generalize a * b = c at *
  constructor <;> grind
structure EqNear (l1 l2 b1 b2 la be : Int) : Prop where
  xl : Near (eqXL l1 l2 b1 b2 : Rat) (dX la be) 526000
  xh : Near (eqXH l1 l2 b1 b2 : Rat) (dX la be) 526000
  yl : Near (eqYL l1 l2 b1 b2 : Rat) (dY la be) 800000
  yh : Near (eqYH l1 l2 b1 b2 : Rat) (dY la be) 800000
  zl : Near (eqZL l1 l2 b1 b2 : Rat) (dZ la be) 800000
  zh : Near (eqZH l1 l2 b1 b2 : Rat) (dZ la be) 800000
theorem eq_near {l1 l2 b1 b2 la be : Int} (hl : l1 ≤ l2) (hlw : l2 - l1 ≤ 40010) (hb : b1 ≤ b2) (hbw : b2 - b1 ≤ 40010) (la1 : l1 ≤ la) (la2 : la ≤ l2) (be1 : b1 ≤ be) (be2 : be ≤ b2) : EqNear l1 l2 b1 b2 la be := by
  have k := kW_40
  obtain ⟨s1, s2⟩ := so_near hl hlw (by omega) la1 la2
  obtain ⟨c1, c2⟩ := co_near hl hlw (by omega) la1 la2
  obtain ⟨u1, u2⟩ := so_near hb hbw (by omega) be1 be2
  obtain ⟨v1, v2⟩ := co_near hb hbw (by omega) be1 be2
  have ex : Near (eqXL l1 l2 b1 b2 : Rat) (1000000000 * CN be * (1000000000 * CN la) / 1000000000) 526000 ∧ Near (eqXH l1 l2 b1 b2 : Rat) (1000000000 * CN be * (1000000000 * CN la) / 1000000000) 526000 :=
    tm_near v1 v2 c1 c2 (CN_9 be) (CN_9 la) (by grind) (by grind) (by grind)
  have ea : Near (eqAL l1 l2 b1 b2 : Rat) (1000000000 * CN be * (1000000000 * SN la) / 1000000000) 526000 ∧ Near (eqAH l1 l2 b1 b2 : Rat) (1000000000 * CN be * (1000000000 * SN la) / 1000000000) 526000 :=
    tm_near v1 v2 s1 s2 (CN_9 be) (SN_9 la) (by grind) (by grind) (by grind)
  have rx : 1000000000 * CN be * (1000000000 * CN la) / 1000000000 = dX la be := by unfold dX; grind
  have ra' : 1000000000 * CN be * (1000000000 * SN la) / 1000000000 = 1000000000 * (CN be * SN la) := by grind
  rw [rx] at ex
  rw [ra'] at ea
  have bA := prod_le (CN_le be) (SN_le la)
  have se := sin_span 65109000; have ce := cos_span 65109000
  have se1 : Near (sLo 65109000 : Rat) (1000000000 * SN 65109000) (103 / 100) := by have := se.lo; have := se.lo2; unfold Near; grind
  have se2 : Near (sHi 65109000 : Rat) (1000000000 * SN 65109000) (103 / 100) := by have := se.hi; have := se.hi2; unfold Near; grind
  have ce1 : Near (cLo 65109000 : Rat) (1000000000 * CN 65109000) (103 / 100) := by have := ce.lo; have := ce.lo2; unfold Near; grind
  have ce2 : Near (cHi 65109000 : Rat) (1000000000 * CN 65109000) (103 / 100) := by have := ce.hi; have := ce.hi2; unfold Near; grind
  clear se ce rx ra' s1 s2 c1 c2 v1 v2
  have y1 := tm_near (g := 531270) ea.1 ea.2 ce1 ce2 bA (CN_9 65109000) (by grind) (by grind) (by grind)
  have y2 := tm_near (g := 254000) u1 u2 se1 se2 (SN_9 be) (SN_9 65109000) (by grind) (by grind) (by grind)
  have z1 := tm_near (g := 531270) ea.1 ea.2 se1 se2 bA (SN_9 65109000) (by grind) (by grind) (by grind)
  have z2 := tm_near (g := 254000) u1 u2 ce1 ce2 (SN_9 be) (CN_9 65109000) (by grind) (by grind) (by grind)
  clear u1 u2 se1 se2 ce1 ce2 bA ea k
  refine ⟨ex.1, ex.2, ?_, ?_, ?_, ?_⟩
  · unfold eqYL dY
    rw [Rat.intCast_sub]
    obtain ⟨p, -⟩ := y1; obtain ⟨-, q⟩ := y2
    clear z1 z2 ex
    unfold Near at *
    constructor <;> grind
  · unfold eqYH dY
    rw [Rat.intCast_sub]
    obtain ⟨-, p⟩ := y1; obtain ⟨q, -⟩ := y2
    clear z1 z2 ex
    unfold Near at *
    constructor <;> grind
  · unfold eqZL dZ
    rw [Rat.intCast_add]
    obtain ⟨p, -⟩ := z1; obtain ⟨q, -⟩ := z2
    clear y1 y2 ex
    unfold Near at *
    constructor <;> grind
  · unfold eqZH dZ
    rw [Rat.intCast_add]
    obtain ⟨-, p⟩ := z1; obtain ⟨-, q⟩ := z2
    clear y1 y2 ex
    unfold Near at *
    constructor <;> grind
theorem tilt_num : 397700000 ≤ sLo 65109000 ∧ sHi 65109000 ≤ 397850000 ∧ 917400000 ≤ cLo 65109000 ∧ cHi 65109000 ≤ 917550000 := by decide +kernel
theorem tilt_sc : 3976 / 10000 ≤ SN 65109000 ∧ SN 65109000 ≤ 3979 / 10000 ∧ 9173 / 10000 ≤ CN 65109000 ∧ CN 65109000 ≤ 9176 / 10000 := by
  obtain ⟨h1, h2, h3, h4⟩ := tilt_num
  replace h1 := Rat.intCast_le_intCast.2 h1
  replace h2 := Rat.intCast_le_intCast.2 h2
  replace h3 := Rat.intCast_le_intCast.2 h3
  replace h4 := Rat.intCast_le_intCast.2 h4
  rw [show ((397700000 : Int) : Rat) = 397700000 from rfl] at h1
  rw [show ((397850000 : Int) : Rat) = 397850000 from rfl] at h2
  rw [show ((917400000 : Int) : Rat) = 917400000 from rfl] at h3
  rw [show ((917550000 : Int) : Rat) = 917550000 from rfl] at h4
  have s := sin_span 65109000; have c := cos_span 65109000
  have a1 := s.lo; have a2 := s.hi; have b1 := c.lo; have b2 := c.hi
  clear s c
  refine ⟨?_, ?_, ?_, ?_⟩ <;> grind
/-- The parts of a direction are those of a vector of length 1. -/
theorem d_unit (la be : Int) : Near (dX la be * dX la be + dY la be * dY la be + dZ la be * dZ la be) 1000000000000000000 1 := by
  have pl := SN_pyth la; have pb := SN_pyth be; have pe := SN_pyth 65109000
  have bl := SN_le la; have bb := SN_le be; have cb := CN_le be
  unfold dX dY dZ
  generalize SN la = sl at *
  generalize CN la = cl at *
  generalize SN be = sb at *
  generalize CN be = cb' at *
  generalize SN 65109000 = se at *
  generalize CN 65109000 = ce at *
  have id : 1000000000 * (cb' * cl) * (1000000000 * (cb' * cl)) + 1000000000 * (cb' * sl * ce - sb * se) * (1000000000 * (cb' * sl * ce - sb * se)) + 1000000000 * (cb' * sl * se + sb * ce) * (1000000000 * (cb' * sl * se + sb * ce)) = 1000000000000000000 * (1 + cb' * cb' * (cl * cl + sl * sl - 1) + (cb' * sl * (cb' * sl) + sb * sb) * (ce * ce + se * se - 1) + (cb' * cb' + sb * sb - 1)) := by grind
  rw [id]
  have q1 := rmul_bd cb cb
  have q2 := rmul_bd cb bl
  have q3 := rmul_bd (a := cb' * sl) (b := cb' * sl) (A := 2) (B := 2) (by unfold ep at q2; grind) (by unfold ep at q2; grind)
  have q4 := rmul_bd bb bb
  have r1 := rmul_bd (a := cb' * cb') (b := cl * cl + sl * sl - 1) (A := 2) (B := ep) (by unfold ep at q1; grind) (by unfold Near at pl; grind)
  have r2 := rmul_bd (a := cb' * sl * (cb' * sl) + sb * sb) (b := ce * ce + se * se - 1) (A := 6) (B := ep) (by unfold ep at q4; grind) (by unfold Near at pe; grind)
  clear id q1 q2 q3 q4 bl bb cb pl pe
  unfold Near ep at *
  generalize cb' * cb' * (cl * cl + sl * sl - 1) = z1 at *
  generalize (cb' * sl * (cb' * sl) + sb * sb) * (ce * ce + se * se - 1) = z2 at *
  constructor <;> grind
theorem sb_small {be : Int} (h : -15900000 ≤ be ∧ be ≤ 15900000) : -(1 / 10) ≤ SN be ∧ SN be ≤ 1 / 10 := by
  have m := (SN_move (a := 0) (b := be) (W := 15900000) (by omega)).1
  rw [SN_0] at m
  have q := qq_b9
  unfold Near kW ra at m
  rw [show ((15900000 : Int) : Rat) = 15900000 from rfl] at m
  generalize qq = p at *
  constructor <;> grind
theorem dZ_bd {la be : Int} (h : -15900000 ≤ be ∧ be ≤ 15900000) : -490000000 ≤ dZ la be ∧ dZ la be ≤ 490000000 := by
  obtain ⟨t1, t2, t3, t4⟩ := tilt_sc
  have b := sb_small h
  have q := rmul_bd (CN_le be) (SN_le la)
  have r1 := rmul_bd (a := CN be * SN la) (b := SN 65109000) (A := 10001 / 10000) (B := 3979 / 10000) (by unfold ep at q; grind) (by grind)
  have r2 := rmul_bd (a := SN be) (b := CN 65109000) (A := 1 / 10) (B := 9176 / 10000) (by grind) (by grind)
  unfold dZ
  clear q b t1 t2 t3 t4
  generalize CN be * SN la * SN 65109000 = z1 at *
  generalize SN be * CN 65109000 = z2 at *
  constructor <;> grind
theorem nab_bd' (n : Int) : -(n.natAbs : Rat) ≤ (n : Rat) ∧ (n : Rat) ≤ (n.natAbs : Rat) := by
  have h1 : -(n.natAbs : Int) ≤ n := by omega
  have h2 : n ≤ (n.natAbs : Int) := by omega
  replace h1 := Rat.intCast_le_intCast.2 h1
  replace h2 := Rat.intCast_le_intCast.2 h2
  rw [Rat.intCast_neg, Rat.intCast_natCast] at h1
  rw [Rat.intCast_natCast] at h2
  exact ⟨h1, h2⟩
theorem nab_rat (n : Int) : (n.natAbs : Rat) = (n : Rat) ∨ (n.natAbs : Rat) = -(n : Rat) := by
  rcases (by omega : (n.natAbs : Int) = n ∨ (n.natAbs : Int) = -n) with h | h
  · left
    have := congrArg (fun k : Int => (k : Rat)) h
    (try dsimp only at this)
    rwa [Rat.intCast_natCast] at this
  · right
    have := congrArg (fun k : Int => (k : Rat)) h
    (try dsimp only at this)
    rwa [Rat.intCast_natCast, Rat.intCast_neg] at this
theorem sq_le {x A : Rat} (h : -A ≤ x ∧ x ≤ A) : x * x ≤ A * A := (rmul_bd h h).2
/-- The direction in the plane of the equator is long. -/
theorem xy_far {la be : Int} (h : -15900000 ≤ be ∧ be ≤ 15900000) {A B : Rat} (hA : -A ≤ dX la be ∧ dX la be ≤ A) (hB : -B ≤ dY la be ∧ dY la be ≤ B) : 850000000 ≤ A + B := by
  have u := d_unit la be
  have z := dZ_bd (la := la) h
  have z2 := sq_le (A := 490000000) (by grind) (x := dZ la be)
  have a := sq_le hA; have b := sq_le hB
  have A0 : 0 ≤ A := by grind
  have B0 : 0 ≤ B := by grind
  have ab := Rat.mul_nonneg A0 B0
  apply Rat.not_lt.1
  intro l
  have m := sq_le (x := A + B) (A := 850000000) (by grind)
  have e : (A + B) * (A + B) = A * A + B * B + 2 * (A * B) := by grind
  rw [e] at m
  clear hA hB e z
  unfold Near at u
  generalize dX la be * dX la be = x1 at *
  generalize dY la be * dY la be = x2 at *
  generalize dZ la be * dZ la be = x3 at *
  generalize A * B = x4 at *
  generalize A * A = x5 at *
  generalize B * B = x6 at *
  grind
/-- Equator never fails where the spans are short, and the latitude is small. -/
theorem eq_ok {l1 l2 b1 b2 : Int} (il : IvOk l1 l2) (hlw : l2 - l1 ≤ 40010) (hb : b1 ≤ b2) (hbw : b2 - b1 ≤ 40010) (h1 : -15900000 ≤ b1) (h2 : b2 ≤ 15900000) : EqOk l1 l2 b1 b2 := by
  have hl := il.m
  obtain ⟨xl, xh, yl, yh, zl, zh⟩ := eq_near hl hlw hb hbw (Int.le_refl l1) hl (Int.le_refl b1) hb
  have X := eqX_bd l1 l2 b1 b2; have Y := eqY_bd l1 l2 b1 b2
  clear zl zh
  have far : ∀ {A B : Rat}, (-A ≤ dX l1 b1 ∧ dX l1 b1 ≤ A) → (-B ≤ dY l1 b1 ∧ dY l1 b1 ≤ B) → 850000000 ≤ A + B := fun hA hB => xy_far ⟨h1, by omega⟩ hA hB
  have nx := nab_bd' (eqXL l1 l2 b1 b2); have ny := nab_bd' (eqYL l1 l2 b1 b2)
  have f := far (A := ((eqXL l1 l2 b1 b2).natAbs : Rat) + 526000) (B := ((eqYL l1 l2 b1 b2).natAbs : Rat) + 800000) (by unfold Near at xl; grind) (by unfold Near at yl; grind)
  have E1 : eqYH l1 l2 b1 b2 - eqYL l1 l2 b1 b2 ≤ 1600000 := by
    apply int_le_of_rat
    rw [Rat.intCast_sub, show ((1600000 : Int) : Rat) = 1600000 from rfl]
    unfold Near at yl yh
    grind
  have E2 : eqXH l1 l2 b1 b2 - eqXL l1 l2 b1 b2 ≤ 1600000 := by
    apply int_le_of_rat
    rw [Rat.intCast_sub, show ((1600000 : Int) : Rat) = 1600000 from rfl]
    unfold Near at xl xh
    grind
  have E3 : 640000000 ≤ ((eqXL l1 l2 b1 b2).natAbs + (eqYL l1 l2 b1 b2).natAbs : Nat) := by
    have : (640000000 : Int) ≤ ((eqXL l1 l2 b1 b2).natAbs + (eqYL l1 l2 b1 b2).natAbs : Nat) := by
      apply int_le_of_rat
      rw [Rat.intCast_natCast, Rat.natCast_add, show ((640000000 : Int) : Rat) = 640000000 from rfl]
      grind
    omega
  clear far nx ny f xl xh yl yh
  have no : ¬ (eqYL l1 l2 b1 b2 ≤ 0 ∧ 0 ≤ eqYH l1 l2 b1 b2 ∧ eqXL l1 l2 b1 b2 ≤ 0 ∧ 0 ≤ eqXH l1 l2 b1 b2) := by
    generalize eqXL l1 l2 b1 b2 = a at *
    generalize eqXH l1 l2 b1 b2 = b at *
    generalize eqYL l1 l2 b1 b2 = c at *
    generalize eqYH l1 l2 b1 b2 = d at *
    omega
  refine ⟨il, by omega, hb, by omega, no, ?_⟩
  have n := arc_narrow (a := eqYL l1 l2 b1 b2) (b := eqYH l1 l2 b1 b2) (c := eqXL l1 l2 b1 b2) (d := eqXH l1 l2 b1 b2) (E := 1600000) ⟨⟨by omega, by omega⟩, ⟨by omega, by omega⟩, ⟨by omega, by omega⟩, ⟨by omega, by omega⟩, Y.2.1, X.2.1, no⟩ (by omega) E1 E2 (by omega)
  generalize arcHi (eqYL l1 l2 b1 b2) (eqYH l1 l2 b1 b2) (eqXL l1 l2 b1 b2) (eqXH l1 l2 b1 b2) = p at *
  generalize arcLo (eqYL l1 l2 b1 b2) (eqYH l1 l2 b1 b2) (eqXL l1 l2 b1 b2) (eqXH l1 l2 b1 b2) = q at *
  clear no E1 E2 E3 X Y
  omega
end Go.Proofs.YtdeoahgcppbmkaaDoor
