/- Merged by wip/tools/pack.py out of XInvP, XPartsP. -/
import Derived.Test.YtcopmgnfakjdhaaDoorAsin
import Derived.Test.YtcopmgnfakjdhaaDoorTrigN
import Derived.Test.YtcopmgnfakjdhaaDoorTrigO2
import Derived.Test.YtcopmgnfakjdhaaDoorLookP
/- TrigInverts, plain. -/
namespace Go.Proofs.YtcopmgnfakjdhaaDoor
set_option linter.unusedSimpArgs false
set_option linter.unusedVariables false
theorem s_tri (a : Int) : -1000000000 ≤ sLo a ∧ sLo a ≤ sHi a ∧ sHi a ≤ 1000000000 := by
  have h := sine_in a; exact ⟨h.bl, h.le, h.bh⟩
theorem so_tri (a b : Int) : -1000000000 ≤ soLo a b ∧ soLo a b ≤ soHi a b ∧ soHi a b ≤ 1000000000 := by
  have h := s_tri a; have g := s_tri b
  unfold soLo soHi
  split <;> split <;> omega
theorem so_left (a b : Int) : soLo a b ≤ sLo a ∧ sHi a ≤ soHi a b := by
  have h := s_tri a
  unfold soLo soHi
  constructor <;> split <;> omega
theorem so_right (a b : Int) : soLo a b ≤ sLo b ∧ sHi b ≤ soHi a b := by
  have h := s_tri b
  unfold soLo soHi
  constructor <;> split <;> omega
theorem s_congr {a b : Int} (h : a % 1000000000 = b % 1000000000) : sLo a = sLo b ∧ sHi a = sHi b := by
  unfold sLo sHi; rw [h]; exact ⟨rfl, rfl⟩
theorem co_left (a b : Int) : coLo a b ≤ cLo a ∧ cHi a ≤ coHi a b := by
  unfold coLo coHi cLo cHi
  exact so_left _ _
theorem co_right {a b : Int} (h : a ≤ b) (h2 : b - a ≤ 2000000000) : coLo a b ≤ cLo b ∧ cHi b ≤ coHi a b := by
  unfold coLo coHi
  have e : min (b - a) 2000000000 = b - a := by omega
  rw [e]
  obtain ⟨c1, c2⟩ := cos_sine b
  have s := s_congr (a := a % 1000000000 + 250000000 + (b - a)) (b := b + 250000000) (by omega)
  rw [c1, c2, ← s.1, ← s.2]
  exact so_right _ _
theorem co_tri (a b : Int) : -1000000000 ≤ coLo a b ∧ coLo a b ≤ coHi a b ∧ coHi a b ≤ 1000000000 := so_tri _ _
theorem sz_4 {Y X : Int} (hY : -1000000000 ≤ Y ∧ Y ≤ 1000000000) (hX : -1000000000 ≤ X ∧ X ≤ 1000000000) : szR Y X ≤ 4 * 1000000000 := by
  unfold szR
  rw [← Rat.natCast_add]
  have : ((X.natAbs + Y.natAbs : Nat) : Rat) ≤ ((2000000000 : Nat) : Rat) := Rat.natCast_le_natCast.2 (by omega)
  rw [show ((2000000000 : Nat) : Rat) = 2000000000 from rfl] at this
  grind
/-- An arc over boxes that hold an angle's sine and cosine holds the angle. -/
theorem arc_holds {a b c d al : Int} (ha : -1000000000 ≤ a) (hab : a ≤ b) (hb : b ≤ 1000000000) (hc : -1000000000 ≤ c) (hcd : c ≤ d) (hd : d ≤ 1000000000) (no : ¬ (a ≤ 0 ∧ 0 ≤ b ∧ c ≤ 0 ∧ 0 ≤ d)) (hw : ¬ 400000000 < arcHi a b c d - arcLo a b c d)
    (s1 : a ≤ sLo al) (s2 : sHi al ≤ b) (c1 : c ≤ cLo al) (c2 : cHi al ≤ d) : (al - arcLo a b c d % 1000000000) % 1000000000 ≤ arcHi a b c d - arcLo a b c d := by
  have H : ArcIn a b c d := ⟨⟨by omega, by omega⟩, ⟨by omega, by omega⟩, ⟨by omega, by omega⟩, ⟨by omega, by omega⟩, hab, hcd, no⟩
  obtain ⟨y, y1, y2, y3⟩ := (sin_span al).pt
  obtain ⟨x, x1, x2, x3⟩ := (cos_span al).pt
  have t1 := Rat.intCast_le_intCast.2 s1; have t2 := Rat.intCast_le_intCast.2 s2
  have t3 := Rat.intCast_le_intCast.2 c1; have t4 := Rat.intCast_le_intCast.2 c2
  obtain ⟨k, k1, k2⟩ := arc_contains H hw al (x := x) (y := y) (rho := 1000000000) (by grind) (by grind) (by grind) (by grind) (by grind) (sz_4 ⟨ha, by omega⟩ ⟨hc, by omega⟩) (sz_4 ⟨ha, by omega⟩ ⟨by omega, hd⟩) (sz_4 ⟨by omega, hb⟩ ⟨hc, by omega⟩) (sz_4 ⟨by omega, hb⟩ ⟨by omega, hd⟩) (near_weak x3 (by grind)) (near_weak y3 (by grind))
  generalize arcLo a b c d = lo at *
  generalize arcHi a b c d = hi at *
  clear t1 t2 t3 t4 x1 x2 x3 y1 y2 y3 s1 s2 c1 c2
  omega
end Go.Proofs.YtcopmgnfakjdhaaDoor
/- PlaceParts, plain: the parts of a direction, as place.look reckons them, are those of a vector of length 1. -/
namespace Go.Proofs.YtcopmgnfakjdhaaDoor
set_option linter.unusedSimpArgs false
set_option linter.unusedVariables false
theorem pt_of {l u : Int} {x d : Rat} (h : l ≤ u) (h1 : (l : Rat) ≤ x + d) (h2 : x - d ≤ (u : Rat)) (hd : 0 ≤ d) : ∃ y : Rat, (l : Rat) ≤ y ∧ y ≤ (u : Rat) ∧ Near y x d := by
  have hl := Rat.intCast_le_intCast.2 h
  unfold Near
  by_cases c : x < (l : Rat)
  · exact ⟨l, by grind, hl, by grind, by grind⟩
  · by_cases e : (u : Rat) < x
    · exact ⟨u, hl, by grind, by grind, by grind⟩
    · exact ⟨x, by grind, by grind, by grind, by grind⟩
theorem s_pt (a : Int) : ∃ y : Rat, (sLo a : Rat) ≤ y ∧ y ≤ (sHi a : Rat) ∧ Near y (1000000000 * SN a) (11 / 1000000000000) := by
  have h := sine_in a
  exact pt_of h.le (by have := h.lo; grind) (by have := h.hi; grind) (by grind)
theorem c_pt (a : Int) : ∃ y : Rat, (cLo a : Rat) ≤ y ∧ y ≤ (cHi a : Rat) ∧ Near y (1000000000 * CN a) (11 / 1000000000000) := by
  obtain ⟨e1, e2'⟩ := cos_sine a
  rw [e1, e2']
  have h := sine_in (a + 250000000)
  have n := CN_SN a
  have b1 := h.lo; have b2 := h.hi
  unfold Near e2 at n
  exact pt_of h.le (by grind) (by grind) (by grind)
theorem so_pt (a b : Int) : ∃ y : Rat, (soLo a b : Rat) ≤ y ∧ y ≤ (soHi a b : Rat) ∧ Near y (1000000000 * SN a) (11 / 1000000000000) := by
  obtain ⟨y, y1, y2, y3⟩ := s_pt a
  obtain ⟨l, u⟩ := so_left a b
  have l' := Rat.intCast_le_intCast.2 l; have u' := Rat.intCast_le_intCast.2 u
  exact ⟨y, by grind, by grind, y3⟩
theorem co_pt (a b : Int) : ∃ y : Rat, (coLo a b : Rat) ≤ y ∧ y ≤ (coHi a b : Rat) ∧ Near y (1000000000 * CN a) (11 / 1000000000000) := by
  obtain ⟨y, y1, y2, y3⟩ := c_pt a
  obtain ⟨l, u⟩ := co_left a b
  have l' := Rat.intCast_le_intCast.2 l; have u' := Rat.intCast_le_intCast.2 u
  exact ⟨y, by grind, by grind, y3⟩
theorem tm_pt {a b c d : Int} {x y : Rat} (h1 : (a : Rat) ≤ x) (h2 : x ≤ (b : Rat)) (g1 : (c : Rat) ≤ y) (g2 : y ≤ (d : Rat)) : (tmLo a b c d : Rat) ≤ x * y / 1000000000 ∧ x * y / 1000000000 ≤ (tmHi a b c d : Rat) := by
  have r := rp_contains h1 h2 g1 g2
  have e1 : tmLo a b c d = pLo a b c d 1 / 1000000000 := by unfold tmLo; rw [pLo_one]; unfold pLo; omega
  have e2 : tmHi a b c d = upQ (pHi a b c d 1) 1000000000 := by unfold tmHi; rw [pHi_one]; unfold pHi upQ; omega
  have d1 := (div_rat (pLo a b c d 1) 1000000000 (by omega)).1
  have d2 := (div_rat (pHi a b c d 1) 1000000000 (by omega)).2
  rw [show ((1000000000 : Nat) : Rat) = 1000000000 from rfl] at d1 d2
  have f1 : (tmLo a b c d : Rat) * 1000000000 ≤ (pLo a b c d 1 : Rat) := by rw [e1]; exact d1
  have f2 : (pHi a b c d 1 : Rat) ≤ (tmHi a b c d : Rat) * 1000000000 := by rw [e2]; exact d2
  clear e1 e2 d1 d2
  generalize (tmLo a b c d : Rat) = p at *
  generalize (tmHi a b c d : Rat) = q at *
  generalize x * y = z at *
  constructor <;> grind
theorem pr_near {x y a b dx dy : Rat} (hx : Near x (1000000000 * a) dx) (hy : Near y (1000000000 * b) dy) (ha : -(10001 / 10000) ≤ a ∧ a ≤ 10001 / 10000) (hb : -(10001 / 10000) ≤ b ∧ b ≤ 10001 / 10000) (h1 : 0 ≤ dx ∧ dx ≤ 1) (h2 : 0 ≤ dy ∧ dy ≤ 1) : Near (x * y / 1000000000) (1000000000 * (a * b)) (1001 / 1000 * (dx + dy)) := by
  have m1 := rmul_bd (a := x - 1000000000 * a) (b := b) (A := dx) (B := 10001 / 10000) (by unfold Near at hx; grind) hb
  have m2 := rmul_bd (a := a) (b := y - 1000000000 * b) (A := 10001 / 10000) (B := dy) ha (by unfold Near at hy; grind)
  have m3 := rmul_bd (a := x - 1000000000 * a) (b := y - 1000000000 * b) (A := dx) (B := dy) (by unfold Near at hx; grind) (by unfold Near at hy; grind)
  have m4 := Rat.mul_le_mul_of_nonneg_right h1.2 h2.1
  have e : x * y / 1000000000 - 1000000000 * (a * b) = (x - 1000000000 * a) * b + a * (y - 1000000000 * b) + (x - 1000000000 * a) * (y - 1000000000 * b) / 1000000000 := by grind
  clear hx hy ha hb
  unfold Near
  generalize (x - 1000000000 * a) * b = z1 at *
  generalize a * (y - 1000000000 * b) = z2 at *
  generalize (x - 1000000000 * a) * (y - 1000000000 * b) = z3 at *
  generalize x * y / 1000000000 = z4 at *
  generalize 1000000000 * (a * b) = z5 at *
  constructor <;> grind
theorem cl_pt {l u : Int} {v V d : Rat} (h1 : (l : Rat) ≤ v) (h2 : v ≤ (u : Rat)) (hv : Near v V d) (b1 : -1000000000 - d ≤ V) (b2 : V ≤ 1000000000 + d) (hd : 0 ≤ d) : ∃ y : Rat, (clLo l : Rat) ≤ y ∧ y ≤ (clHi u : Rat) ∧ Near y V d := by
  have lu : l ≤ u := int_le_of_rat (by grind)
  have e : clLo l ≤ clHi u := by unfold clLo clHi; omega
  refine pt_of e ?_ ?_ hd
  · unfold clLo
    unfold Near at hv
    rcases (by omega : min (max l (-1000000000)) 1000000000 = l ∨ (min (max l (-1000000000)) 1000000000 = -1000000000) ∨ (min (max l (-1000000000)) 1000000000 = 1000000000 ∧ 1000000000 ≤ l)) with h | h | ⟨h, h'⟩
    · rw [h]; grind
    · rw [h, show ((-1000000000 : Int) : Rat) = -1000000000 from rfl]; grind
    · have := Rat.intCast_le_intCast.2 h'
      rw [h]
      rw [show ((1000000000 : Int) : Rat) = 1000000000 from rfl] at *
      grind
  · unfold clHi
    unfold Near at hv
    rcases (by omega : max (min u 1000000000) (-1000000000) = u ∨ (max (min u 1000000000) (-1000000000) = 1000000000) ∨ (max (min u 1000000000) (-1000000000) = -1000000000 ∧ u ≤ -1000000000)) with h | h | ⟨h, h'⟩
    · rw [h]; grind
    · rw [h, show ((1000000000 : Int) : Rat) = 1000000000 from rfl]; grind
    · have := Rat.intCast_le_intCast.2 h'
      rw [h]
      rw [show ((-1000000000 : Int) : Rat) = -1000000000 from rfl] at *
      grind
/-- Squares of the numbers of a span. -/
def sqH (l u : Int) : Int := max (l * l) (u * u)
def sqL (l u : Int) : Int := if 0 < l ∨ u < 0 then min (l * l) (u * u) else 0
theorem sq_span {l u : Int} {v : Rat} (h1 : (l : Rat) ≤ v) (h2 : v ≤ (u : Rat)) : (sqL l u : Rat) ≤ v * v ∧ v * v ≤ (sqH l u : Rat) := by
  have el : ((l * l : Int) : Rat) = (l : Rat) * (l : Rat) := Rat.intCast_mul _ _
  have eu : ((u * u : Int) : Rat) = (u : Rat) * (u : Rat) := Rat.intCast_mul _ _
  have z0 : ((0 : Int) : Rat) = 0 := rfl
  have vv : 0 ≤ v * v := sq_nonneg v
  constructor
  · unfold sqL
    split
    · rename_i h
      rcases h with h | h
      · have hl := Rat.intCast_lt_intCast.2 h
        rw [z0] at hl
        have m := Rat.intCast_le_intCast.2 (show min (l * l) (u * u) ≤ l * l by omega)
        rw [el] at m
        have p1 := Rat.mul_le_mul_of_nonneg_left h1 (show 0 ≤ (l : Rat) by grind)
        have p2 := Rat.mul_le_mul_of_nonneg_right h1 (show 0 ≤ v by grind)
        generalize ((min (l * l) (u * u) : Int) : Rat) = q at *
        grind
      · have hu := Rat.intCast_lt_intCast.2 h
        rw [z0] at hu
        have m := Rat.intCast_le_intCast.2 (show min (l * l) (u * u) ≤ u * u by omega)
        rw [eu] at m
        have p1 := Rat.mul_le_mul_of_nonneg_left (show -(u : Rat) ≤ -v by grind) (show 0 ≤ -(u : Rat) by grind)
        have p2 := Rat.mul_le_mul_of_nonneg_right (show -(u : Rat) ≤ -v by grind) (show 0 ≤ -v by grind)
        generalize ((min (l * l) (u * u) : Int) : Rat) = q at *
        grind
    · rw [z0]; exact vv
  · unfold sqH
    have m1 := Rat.intCast_le_intCast.2 (show l * l ≤ max (l * l) (u * u) by omega)
    have m2 := Rat.intCast_le_intCast.2 (show u * u ≤ max (l * l) (u * u) by omega)
    rw [el] at m1
    rw [eu] at m2
    generalize ((max (l * l) (u * u) : Int) : Rat) = q at *
    by_cases h : 0 ≤ v
    · have p1 := Rat.mul_le_mul_of_nonneg_left h2 h
      have p2 := Rat.mul_le_mul_of_nonneg_right h2 (show 0 ≤ (u : Rat) by grind)
      grind
    · have p1 := Rat.mul_le_mul_of_nonneg_left (show -v ≤ -(l : Rat) by grind) (show 0 ≤ -v by grind)
      have p2 := Rat.mul_le_mul_of_nonneg_right (show -v ≤ -(l : Rat) by grind) (show 0 ≤ -(l : Rat) by grind)
      grind
/-- The identity. -/
theorem look_unit {a b s c p q : Rat} (h1 : Near (b * b + a * a) 1 ep) (h2 : Near (c * c + s * s) 1 ep) (h3 : Near (q * q + p * p) 1 ep) (ba : -(1 + ep) ≤ a ∧ a ≤ 1 + ep) (bs : -(1 + ep) ≤ s ∧ s ≤ 1 + ep) (bc : -(1 + ep) ≤ c ∧ c ≤ 1 + ep) (bq : -(1 + ep) ≤ q ∧ q ≤ 1 + ep) :
    Near ((a * s + b * (c * q)) * (a * s + b * (c * q)) + -(c * p) * -(c * p) + (b * s - a * (c * q)) * (b * s - a * (c * q))) 1 (1 / 10000000000000000000000000) := by
  have id : (a * s + b * (c * q)) * (a * s + b * (c * q)) + -(c * p) * -(c * p) + (b * s - a * (c * q)) * (b * s - a * (c * q)) = 1 + (c * c + s * s - 1) + c * c * (q * q + p * p - 1) + (s * s + c * q * (c * q)) * (b * b + a * a - 1) := by grind
  rw [id]
  have q1 := rmul_bd bc bc
  have q2 := rmul_bd bs bs
  have q3 := rmul_bd bc bq
  have q4 := rmul_bd (a := c * q) (b := c * q) (A := 2) (B := 2) (by unfold ep at q3; grind) (by unfold ep at q3; grind)
  have r1 := rmul_bd (a := c * c) (b := q * q + p * p - 1) (A := 2) (B := ep) (by unfold ep at q1; grind) (by unfold Near at h3; grind)
  have r2 := rmul_bd (a := s * s + c * q * (c * q)) (b := b * b + a * a - 1) (A := 6) (B := ep) (by unfold ep at q2; grind) (by unfold Near at h1; grind)
  clear id q1 q2 q3 q4 ba bs bc bq h1 h3
  unfold Near ep at *
  generalize c * c * (q * q + p * p - 1) = z1 at *
  generalize (s * s + c * q * (c * q)) * (b * b + a * a - 1) = z2 at *
  generalize c * c + s * s = z3 at *
  constructor <;> grind
theorem le1_of_sum {u v z : Rat} (h : Near (u * u + v * v + z * z) 1 (1 / 10000000000000000000000000)) : (-(1 + 1 / 10000000000000000000000000) ≤ u ∧ u ≤ 1 + 1 / 10000000000000000000000000) ∧ (-(1 + 1 / 10000000000000000000000000) ≤ v ∧ v ≤ 1 + 1 / 10000000000000000000000000) ∧ (-(1 + 1 / 10000000000000000000000000) ≤ z ∧ z ≤ 1 + 1 / 10000000000000000000000000) := by
  have a := sq_nonneg u; have b := sq_nonneg v; have c := sq_nonneg z
  unfold Near at h
  refine ⟨one_of_sq (by grind) (by grind), one_of_sq (by grind) (by grind), one_of_sq (by grind) (by grind)⟩
theorem sq_move {x u d : Rat} (h : Near x (1000000000 * u) d) (hu : -(10001 / 10000) ≤ u ∧ u ≤ 10001 / 10000) (hd : 0 ≤ d) (hd2 : d ≤ 1) : Near (x * x) (1000000000000000000 * (u * u)) (2001000000 * d) := by
  have m1 := rmul_bd (a := x - 1000000000 * u) (b := u) (A := d) (B := 10001 / 10000) (by unfold Near at h; grind) hu
  have m2 := rmul_bd (a := x - 1000000000 * u) (b := x - 1000000000 * u) (A := d) (B := 1) (by unfold Near at h; grind) (by unfold Near at h; grind)
  have e : x * x = 1000000000000000000 * (u * u) + 2000000000 * ((x - 1000000000 * u) * u) + (x - 1000000000 * u) * (x - 1000000000 * u) := by grind
  rw [e]
  clear h hu e
  unfold Near
  generalize (x - 1000000000 * u) * u = z1 at *
  generalize (x - 1000000000 * u) * (x - 1000000000 * u) = z2 at *
  generalize u * u = z3 at *
  constructor <;> grind
theorem parts_law (lat hl hh dl dh : Int) : sqL (upLo lat hl hh dl dh) (upHi lat hl hh dl dh) + sqL (eaLo hl hh dl dh) (eaHi hl hh dl dh) + sqL (noLo lat hl hh dl dh) (noHi lat hl hh dl dh) ≤ 1000000000000000000 ∧
    1000000000000000000 ≤ sqH (upLo lat hl hh dl dh) (upHi lat hl hh dl dh) + sqH (eaLo hl hh dl dh) (eaHi hl hh dl dh) + sqH (noLo lat hl hh dl dh) (noHi lat hl hh dl dh) := by
  obtain ⟨s, s1, s2, s3⟩ := so_pt dl dh
  obtain ⟨c, c1, c2, c3⟩ := co_pt dl dh
  obtain ⟨p, p1, p2, p3⟩ := so_pt hl hh
  obtain ⟨q, q1, q2, q3⟩ := co_pt hl hh
  obtain ⟨a, a1, a2, a3⟩ := s_pt lat
  obtain ⟨b, b1, b2, b3⟩ := c_pt lat
  have bS := SN_le dl; have bC := CN_le dl; have bP := SN_le hl; have bQ := CN_le hl; have bA := SN_le lat; have bB := CN_le lat
  have id := look_unit (SN_pyth lat) (SN_pyth dl) (SN_pyth hl) bA bS bC bQ
  have L := le1_of_sum id
  have wk : ∀ {x : Rat}, (-(1 + ep) ≤ x ∧ x ≤ 1 + ep) → (-(10001 / 10000) ≤ x ∧ x ≤ 10001 / 10000) := fun h => by unfold ep at h; grind
  have bCQ : -(10001 / 10000) ≤ CN dl * CN hl ∧ CN dl * CN hl ≤ 10001 / 10000 := by have := rmul_bd bC bQ; unfold ep at this; grind
  have n1 := pr_near c3 q3 (wk bC) (wk bQ) (by grind) (by grind)
  have n2 := pr_near c3 p3 (wk bC) (wk bP) (by grind) (by grind)
  have n3 := pr_near a3 s3 (wk bA) (wk bS) (by grind) (by grind)
  have n4 := pr_near b3 n1 (wk bB) bCQ (by grind) (by grind)
  have n5 := pr_near b3 s3 (wk bB) (wk bS) (by grind) (by grind)
  have n6 := pr_near a3 n1 (wk bA) bCQ (by grind) (by grind)
  have t1 := tm_pt c1 c2 q1 q2
  have t2 := tm_pt c1 c2 p1 p2
  have t3 := tm_pt a1 a2 s1 s2
  have t5 := tm_pt b1 b2 s1 s2
  have e1 : nrLo hl hh dl dh = tmLo (coLo dl dh) (coHi dl dh) (coLo hl hh) (coHi hl hh) := rfl
  have e2 : nrHi hl hh dl dh = tmHi (coLo dl dh) (coHi dl dh) (coLo hl hh) (coHi hl hh) := rfl
  rw [← e1, ← e2] at t1
  have t4 := tm_pt b1 b2 t1.1 t1.2
  have t6 := tm_pt a1 a2 t1.1 t1.2
  have f1 : etLo hl hh dl dh = tmLo (coLo dl dh) (coHi dl dh) (soLo hl hh) (soHi hl hh) := rfl
  have f2 : etHi hl hh dl dh = tmHi (coLo dl dh) (coHi dl dh) (soLo hl hh) (soHi hl hh) := rfl
  rw [← f1, ← f2] at t2
  clear e1 e2 f1 f2 s1 s2 s3 c1 c2 c3 p1 p2 p3 q1 q2 q3 a1 a2 a3 b1 b2 b3 bS bC bP bQ bA bB bCQ wk t1
  generalize SN lat = A at *
  generalize CN lat = B at *
  generalize SN dl = S at *
  generalize CN dl = C at *
  generalize SN hl = P at *
  generalize CN hl = Q at *
  obtain ⟨L1, L2, L3⟩ := L
  obtain ⟨U, U1, U2, U3⟩ := cl_pt (l := tmLo (sLo lat) (sHi lat) (soLo dl dh) (soHi dl dh) + tmLo (cLo lat) (cHi lat) (nrLo hl hh dl dh) (nrHi hl hh dl dh)) (u := tmHi (sLo lat) (sHi lat) (soLo dl dh) (soHi dl dh) + tmHi (cLo lat) (cHi lat) (nrLo hl hh dl dh) (nrHi hl hh dl dh)) (v := a * s / 1000000000 + b * (c * q / 1000000000) / 1000000000) (V := 1000000000 * (A * S + B * (C * Q))) (d := 56 / 1000000000000) (by rw [Rat.intCast_add]; grind) (by rw [Rat.intCast_add]; grind) (by unfold Near at *; grind) (by grind) (by grind) (by grind)
  obtain ⟨E, E1, E2, E3⟩ := cl_pt (l := -etHi hl hh dl dh) (u := -etLo hl hh dl dh) (v := -(c * p / 1000000000)) (V := 1000000000 * -(C * P)) (d := 23 / 1000000000000) (by rw [Rat.intCast_neg]; grind) (by rw [Rat.intCast_neg]; grind) (by unfold Near at *; grind) (by grind) (by grind) (by grind)
  obtain ⟨N, N1, N2, N3⟩ := cl_pt (l := tmLo (cLo lat) (cHi lat) (soLo dl dh) (soHi dl dh) - tmHi (sLo lat) (sHi lat) (nrLo hl hh dl dh) (nrHi hl hh dl dh)) (u := tmHi (cLo lat) (cHi lat) (soLo dl dh) (soHi dl dh) - tmLo (sLo lat) (sHi lat) (nrLo hl hh dl dh) (nrHi hl hh dl dh)) (v := b * s / 1000000000 - a * (c * q / 1000000000) / 1000000000) (V := 1000000000 * (B * S - A * (C * Q))) (d := 56 / 1000000000000) (by rw [Rat.intCast_sub]; grind) (by rw [Rat.intCast_sub]; grind) (by unfold Near at *; grind) (by grind) (by grind) (by grind)
  clear n1 n2 n3 n4 n5 n6 t2 t3 t4 t5 t6
  have z1 := sq_span (l := upLo lat hl hh dl dh) (u := upHi lat hl hh dl dh) U1 U2
  have z2 := sq_span (l := eaLo hl hh dl dh) (u := eaHi hl hh dl dh) E1 E2
  have z3 := sq_span (l := noLo lat hl hh dl dh) (u := noHi lat hl hh dl dh) N1 N2
  have v1 := sq_move U3 (by grind) (by grind) (by grind)
  have v2 := sq_move E3 (by grind) (by grind) (by grind)
  have v3 := sq_move N3 (by grind) (by grind) (by grind)
  clear U1 U2 U3 E1 E2 E3 N1 N2 N3 L1 L2 L3
  generalize (A * S + B * (C * Q)) * (A * S + B * (C * Q)) = w1 at *
  generalize -(C * P) * -(C * P) = w2 at *
  generalize (B * S - A * (C * Q)) * (B * S - A * (C * Q)) = w3 at *
  generalize U * U = uu at *
  generalize E * E = ee at *
  generalize N * N = nn at *
  generalize sqL (upLo lat hl hh dl dh) (upHi lat hl hh dl dh) = l1 at *
  generalize sqL (eaLo hl hh dl dh) (eaHi hl hh dl dh) = l2 at *
  generalize sqL (noLo lat hl hh dl dh) (noHi lat hl hh dl dh) = l3 at *
  generalize sqH (upLo lat hl hh dl dh) (upHi lat hl hh dl dh) = h1 at *
  generalize sqH (eaLo hl hh dl dh) (eaHi hl hh dl dh) = h2 at *
  generalize sqH (noLo lat hl hh dl dh) (noHi lat hl hh dl dh) = h3 at *
  unfold Near at *
  constructor
  · apply rat_le_int
    rw [Rat.intCast_add, Rat.intCast_add, show ((1000000000000000000 : Int) : Rat) = 1000000000000000000 from rfl]
    grind
  · apply rat_le_int
    rw [Rat.intCast_add, Rat.intCast_add, show ((1000000000000000000 : Int) : Rat) = 1000000000000000000 from rfl]
    grind
end Go.Proofs.YtcopmgnfakjdhaaDoor
