/- Merged by wip/tools/pack.py out of XPlanR, XPlanS. -/
import Derived.Test.YtdeoahgcppbmkaaDoorPlanB
/- Package planet, plain: the inner planets are never far from the sun. -/
namespace Go.Proofs.YtdeoahgcppbmkaaDoor
set_option linter.unusedSimpArgs false
set_option linter.unusedVariables false
theorem so_mid {a b x W : Int} (hab : a ≤ b) (hw : b - a < 1000000000) (ha : x - a ≤ W) (hb : b - x ≤ W) (h1 : a ≤ x) (h2 : x ≤ b) : Near (soLo a b : Rat) (1000000000 * SN x) (kW W + 102 / 100) ∧ Near (soHi a b : Rat) (1000000000 * SN x) (kW W + 102 / 100) := by
  have ia := sine_in a; have ib := sine_in b
  have ma := (SN_move (a := x) (b := a) (W := W) (by omega)).1
  have mb := (SN_move (a := x) (b := b) (W := W) (by omega)).1
  have a1 := ia.lo; have a2 := ia.hi; have a3 := ia.lo2; have a4 := ia.hi2
  have b1 := ib.lo; have b2 := ib.hi; have b3 := ib.lo2; have b4 := ib.hi2
  have xl := SN_9 x
  have ml := Rat.intCast_le_intCast.2 (show min (sLo a) (sLo b) ≤ sLo a by omega)
  have ml2 : ((min (sLo a) (sLo b) : Int) : Rat) = (sLo a : Rat) ∨ ((min (sLo a) (sLo b) : Int) : Rat) = (sLo b : Rat) := by
    rcases (by omega : min (sLo a) (sLo b) = sLo a ∨ min (sLo a) (sLo b) = sLo b) with h | h
    · left; rw [h]
    · right; rw [h]
  have mh2 : ((max (sHi a) (sHi b) : Int) : Rat) = (sHi a : Rat) ∨ ((max (sHi a) (sHi b) : Int) : Rat) = (sHi b : Rat) := by
    rcases (by omega : max (sHi a) (sHi b) = sHi a ∨ max (sHi a) (sHi b) = sHi b) with h | h
    · left; rw [h]
    · right; rw [h]
  clear ia ib
  constructor
  · unfold soLo
    split
    · rename_i h
      obtain ⟨c, c1, c2, k, ck⟩ := con_at h (by omega)
      have mc := (SN_move (a := x) (b := c) (W := W) (by omega)).1
      rw [SN_at k ck] at mc
      have q := SN_q3
      rw [show ((-1000000000 : Int) : Rat) = -1000000000 from rfl]
      clear a1 a2 a3 a4 b1 b2 b3 b4 ml ml2 mh2 ma mb
      unfold Near eq1 at *
      generalize SN 750000000 = v at *
      generalize SN x = u at *
      generalize kW W = z at *
      constructor <;> grind
    · clear a2 a4 b2 b4 mh2
      unfold Near at *
      generalize ((min (sLo a) (sLo b) : Int) : Rat) = m at *
      generalize SN x = u at *
      generalize SN a = ua at *
      generalize SN b = ub at *
      generalize kW W = z at *
      constructor <;> grind
  · unfold soHi
    split
    · rename_i h
      obtain ⟨c, c1, c2, k, ck⟩ := con_at h (by omega)
      have mc := (SN_move (a := x) (b := c) (W := W) (by omega)).1
      rw [SN_at k ck] at mc
      have q := SN_q1
      rw [show ((1000000000 : Int) : Rat) = 1000000000 from rfl]
      clear a1 a2 a3 a4 b1 b2 b3 b4 ml ml2 mh2 ma mb
      unfold Near eq1 at *
      generalize SN 250000000 = v at *
      generalize SN x = u at *
      generalize kW W = z at *
      constructor <;> grind
    · clear a1 a3 b1 b3 ml2 ml
      unfold Near at *
      generalize ((max (sHi a) (sHi b) : Int) : Rat) = m at *
      generalize SN x = u at *
      generalize SN a = ua at *
      generalize SN b = ub at *
      generalize kW W = z at *
      constructor <;> grind
theorem co_mid {a b x W : Int} (hab : a ≤ b) (hw : b - a < 1000000000) (ha : x - a ≤ W) (hb : b - x ≤ W) (h1 : a ≤ x) (h2 : x ≤ b) : Near (coLo a b : Rat) (1000000000 * CN x) (kW W + 103 / 100) ∧ Near (coHi a b : Rat) (1000000000 * CN x) (kW W + 103 / 100) := by
  unfold coLo coHi
  have e : min (b - a) 2000000000 = b - a := by omega
  rw [e]
  obtain ⟨n1, n2⟩ := so_mid (a := a % 1000000000 + 250000000) (b := a % 1000000000 + 250000000 + (b - a)) (x := a % 1000000000 + 250000000 + (x - a)) (W := W) (by omega) (by omega) (by omega) (by omega) (by omega) (by omega)
  have es : SN (a % 1000000000 + 250000000 + (x - a)) = SN (x + 250000000) := SN_at (-(a / 1000000000)) (by omega)
  rw [es] at n1 n2
  have q := CN_SN x
  unfold Near e2 at *
  generalize SN (x + 250000000) = u at *
  generalize CN x = v at *
  generalize kW W = z at *
  generalize ((soLo (a % 1000000000 + 250000000) (a % 1000000000 + 250000000 + (b - a)) : Int) : Rat) = p1 at *
  generalize ((soHi (a % 1000000000 + 250000000) (a % 1000000000 + 250000000 + (b - a)) : Int) : Rat) = p2 at *
  clear e es
  constructor <;> constructor <;> grind
theorem arc_tightR {a b c d : Int} (H : ArcIn a b c d) {x rho e w : Rat} (r0 : 0 < rho) (e0 : 0 ≤ e) (he : e ≤ rho / 101)
    (na : Near (a : Rat) (rho * SA x) e) (nb : Near (b : Rat) (rho * SA x) e) (nc : Near (c : Rat) (rho * CA x) e) (nd : Near (d : Rat) (rho * CA x) e)
    (r1 : szR a c ≤ 4 * rho) (r2 : szR a d ≤ 4 * rho) (r3 : szR b c ≤ 4 * rho) (r4 : szR b d ≤ 4 * rho) (hw : 5 * (e / rho) + 3 / 10000000000000 ≤ ka * (w - 2)) (hw2 : w ≤ 100000000) :
    ∃ n : Int, x + 1000000000 * (n : Rat) - w ≤ (arcLo a b c d : Rat) ∧ (arcHi a b c d : Rat) ≤ x + 1000000000 * (n : Rat) + w := by
  obtain ⟨z0, z1⟩ := redu_bd x
  obtain ⟨jj, hjj⟩ := redu_eq x
  have eS : SA (redu x) = SA x := by
    have := SA_turn (redu x) jj
    rw [← hjj] at this
    exact this.symm
  have eC : CA (redu x) = CA x := by
    have := CA_turn (redu x) jj
    rw [← hjj] at this
    exact this.symm
  have kb := ka_bd
  have q := qq_b9
  obtain ⟨i, -, i1, i2, i3, i4⟩ := to_half8 (z := ra (redu x)) (ra_8 x)
  have i3' : Near (sn (ra (redu x) + 8 * qq * (i : Rat))) (SA x) (40 * eq1) := i3
  have i4' : Near (cs (ra (redu x) + 8 * qq * (i : Rat))) (CA x) (40 * eq1) := i4
  obtain ⟨A, hA⟩ : ∃ A, A = ra (redu x) + 8 * qq * (i : Rat) := ⟨_, rfl⟩
  rw [← hA] at i1 i2 i3' i4'
  clear i3 i4
  have kA1 : A = ka * (x + 1000000000 * ((i - jj : Int) : Rat)) := by
    rw [hA, Rat.intCast_sub]
    have e1 : redu x = x - 1000000000 * (jj : Rat) := by grind
    have e2 : ra (redu x) = ka * redu x := by unfold ra ka; grind
    rw [e2, e1]
    unfold ka; grind
  have p1 := rmul_bd (a := rho) (b := sn A - SA x) (A := rho) (B := 40 * eq1) (by grind) (by unfold Near at i3'; grind)
  have p2 := rmul_bd (a := rho) (b := cs A - CA x) (A := rho) (B := 40 * eq1) (by grind) (by unfold Near at i4'; grind)
  have ee : rho * (40 * eq1) ≤ rho / 1000000000000000 := by
    have := Rat.mul_le_mul_of_nonneg_left (show 40 * eq1 ≤ 1 / 1000000000000000 by unfold eq1; grind) (show 0 ≤ rho by grind)
    grind
  have m1 : Near (rho * SA x) (rho * sn A) (rho / 1000000000000000) := by
    unfold Near; generalize rho * (40 * eq1) = t at *; constructor <;> grind
  have m2 : Near (rho * CA x) (rho * cs A) (rho / 1000000000000000) := by
    unfold Near; generalize rho * (40 * eq1) = t at *; constructor <;> grind
  clear p1 p2 ee i3' i4' hA
  have cmb : ∀ {n u v : Rat}, Near n u e → Near u v (rho / 1000000000000000) → Near n v (e + rho / 1000000000000000) := fun h g => by
    unfold Near at *; constructor <;> grind
  have w1 := cmb na m1; have w2 := cmb nb m1; have w3 := cmb nc m2; have w4 := cmb nd m2
  obtain ⟨K, k1, k2⟩ := arc_tight H (A := A) (rho := rho) (e := e + rho / 1000000000000000) r0 ⟨by clear w1 w2 w3 w4 m1 m2; grind, by clear w1 w2 w3 w4 m1 m2; grind⟩ (by clear w1 w2 w3 w4 m1 m2; grind) w1 w2 w3 w4 r1 r2 r3 r4
  clear w1 w2 w3 w4 m1 m2 na nb nc nd
  have er : (e + rho / 1000000000000000) / rho = e / rho + 1 / 1000000000000000 := by grind
  rw [er] at k1 k2
  have eK : A - 8 * qq * (K : Rat) = ka * (x + 1000000000 * ((i - jj - K : Int) : Rat)) := by
    rw [kA1, Rat.intCast_sub (i - jj) K]; unfold ka; grind
  rw [eK] at k1 k2
  obtain ⟨n, hn⟩ : ∃ n : Int, n = i - jj - K := ⟨_, rfl⟩
  rw [← hn] at k1 k2
  clear eK kA1 er hn i1 i2 eS eC
  generalize arcLo a b c d = lo at *
  generalize arcHi a b c d = hi at *
  generalize e / rho = g at *
  refine ⟨n, ?_, ?_⟩
  · apply Rat.not_lt.1
    intro l
    have := Rat.mul_lt_mul_of_pos_left (show (lo : Rat) + 2 < x + 1000000000 * (n : Rat) - (w - 2) by grind) (show 0 < ka by grind)
    clear k2
    generalize x + 1000000000 * (n : Rat) = z at *
    grind
  · apply Rat.not_lt.1
    intro l
    have := Rat.mul_lt_mul_of_pos_left (show x + 1000000000 * (n : Rat) + (w - 2) < (hi : Rat) - 2 by grind) (show 0 < ka by grind)
    clear k1
    generalize x + 1000000000 * (n : Rat) = z at *
    grind
theorem SA_grow {x y : Rat} (h0 : 0 ≤ x) (h1 : x ≤ y) (h2 : y ≤ 250000000) : SA x - 1 / 100000000000000000000 ≤ SA y := by
  obtain ⟨d, hd⟩ : ∃ d, d = (y - x) / 2 := ⟨_, rfl⟩
  have d0 : 0 ≤ d := by grind
  have d1 : d ≤ 125000000 := by grind
  obtain ⟨a1, -⟩ := SCA_add (x + d) d
  obtain ⟨a2, -⟩ := SCA_add (x + d) (-d)
  rw [show x + d + d = y by grind] at a1
  rw [show x + d + -d = x by grind] at a2
  obtain ⟨n1, n2⟩ := SCA_neg d
  have c := (quarter_pos (x := x + d) (by grind) (by grind)).2
  have sd := SA_small (h := d) d0 (by grind)
  have sb := SA_le (x + d); have cb := CA_le (x + d); have sdb := SA_le d; have cdb := CA_le d
  have m1 := rmul_bd (a := SA (x + d)) (b := CA (-d) - CA d) (A := 1 + ep) (B := e2) sb (by unfold Near at n2; grind)
  have m2 := rmul_bd (a := CA (x + d)) (b := SA (-d) + SA d) (A := 1 + ep) (B := e2) cb (by unfold Near at n1; grind)
  have m3 : -(1 / 10000000000000000000000) ≤ CA (x + d) * SA d := by
    have p := Rat.mul_nonneg (show 0 ≤ CA (x + d) + 1 / 100000000000000000000000 by grind) (show 0 ≤ SA d + 1 / 1000000000000000000000000 by grind)
    clear m1 m2 n1 n2 a1 a2
    unfold ep at *
    generalize CA (x + d) = u at *
    generalize SA d = v at *
    grind
  unfold Near e2 ep at *
  generalize SA x = x1 at *
  generalize SA y = x2 at *
  generalize SA (x + d) = x3 at *
  generalize CA (x + d) = x4 at *
  generalize SA (-d) = x5 at *
  generalize CA (-d) = x6 at *
  generalize SA d = x7 at *
  generalize CA d = x8 at *
  clear n1 n2 sb cb sdb cdb sd c hd
  grind
/-- The direction as seen from the earth, and the angle from the sun. -/
structure GPol (r : Rat) (p s : Int) (e rho : Rat) : Prop where
  e0 : -250000000 ≤ e
  e1 : e ≤ 250000000
  far : 1000000000 * (998 - r) ≤ rho
  r0 : 0 < rho
  nx : Near (gX r p s) (rho * CA (e + (s : Rat))) (rho / 10000000000000000)
  ny : Near (gY r p s) (rho * SA (e + (s : Rat))) (rho / 10000000000000000)
theorem g_rot {r : Rat} (r0 : 1 ≤ r) (r1 : r ≤ 900) (p s : Int) {e rho U V : Rat} (h0 : 0 < rho) (h1 : 60000000000 ≤ rho) (hU : U = 1000000000 * (1000 + r * CN (p - s))) (hV : V = 1000000000 * (r * SN (p - s))) (nU : Near U (rho * CA e) (rho / 100000000000000000)) (nV : Near V (rho * SA e) (rho / 100000000000000000)) :
    Near (gX r p s) (rho * CA (e + (s : Rat))) (rho / 10000000000000000) ∧ Near (gY r p s) (rho * SA (e + (s : Rat))) (rho / 10000000000000000) := by
  obtain ⟨a1, a2⟩ := SCA_add e (s : Rat)
  rw [SA_int, CA_int] at a1 a2
  obtain ⟨b1, b2⟩ := SC_add (p - s) s
  rw [show p - s + s = p by omega] at b1 b2
  have bs := SN_le s; have bc := CN_le s
  -- the turned direction
  have m1 := rmul_bd (a := rho) (b := SA (e + (s : Rat)) - (SA e * CN s + CA e * SN s)) (A := rho) (B := e2) (by grind) (by unfold Near at a1; grind)
  have m2 := rmul_bd (a := rho) (b := CA (e + (s : Rat)) - (CA e * CN s - SA e * SN s)) (A := rho) (B := e2) (by grind) (by unfold Near at a2; grind)
  have k1 := rmul_bd (a := U - rho * CA e) (b := CN s) (A := rho / 100000000000000000) (B := 101 / 100) (by unfold Near at nU; grind) (by unfold ep at bc; grind)
  have k2 := rmul_bd (a := V - rho * SA e) (b := SN s) (A := rho / 100000000000000000) (B := 101 / 100) (by unfold Near at nV; grind) (by unfold ep at bs; grind)
  have k3 := rmul_bd (a := U - rho * CA e) (b := SN s) (A := rho / 100000000000000000) (B := 101 / 100) (by unfold Near at nU; grind) (by unfold ep at bs; grind)
  have k4 := rmul_bd (a := V - rho * SA e) (b := CN s) (A := rho / 100000000000000000) (B := 101 / 100) (by unfold Near at nV; grind) (by unfold ep at bc; grind)
  have j1 := rmul_bd (a := r) (b := SN p - (SN (p - s) * CN s + CN (p - s) * SN s)) (A := 900) (B := e2) (by grind) (by unfold Near at b1; grind)
  have j2 := rmul_bd (a := r) (b := CN p - (CN (p - s) * CN s - SN (p - s) * SN s)) (A := 900) (B := e2) (by grind) (by unfold Near at b2; grind)
  clear a1 a2 b1 b2 nU nV
  have eX : gX r p s = U * CN s - V * SN s + 1000000000 * (r * (CN p - (CN (p - s) * CN s - SN (p - s) * SN s))) := by rw [hU, hV]; unfold gX; grind
  have eY : gY r p s = U * SN s + V * CN s + 1000000000 * (r * (SN p - (SN (p - s) * CN s + CN (p - s) * SN s))) := by rw [hU, hV]; unfold gY; grind
  rw [eX, eY]
  clear eX eY hU hV bs bc
  generalize r * (CN p - (CN (p - s) * CN s - SN (p - s) * SN s)) = z1 at *
  generalize r * (SN p - (SN (p - s) * CN s + CN (p - s) * SN s)) = z2 at *
  generalize SA (e + (s : Rat)) = S at *
  generalize CA (e + (s : Rat)) = C at *
  generalize SA e = se at *
  generalize CA e = ce at *
  generalize SN s = q at *
  generalize CN s = c at *
  have n1 : -(rho / 100000000000000000) ≤ rho * (S - (se * c + ce * q)) ∧ rho * (S - (se * c + ce * q)) ≤ rho / 100000000000000000 := by
    unfold e2 at m1; clear m2 k1 k2 k3 k4 j1 j2; generalize rho * (S - (se * c + ce * q)) = z at *; constructor <;> grind
  have n2 : -(rho / 100000000000000000) ≤ rho * (C - (ce * c - se * q)) ∧ rho * (C - (ce * c - se * q)) ≤ rho / 100000000000000000 := by
    unfold e2 at m2; clear m1 k1 k2 k3 k4 j1 j2; generalize rho * (C - (ce * c - se * q)) = z at *; constructor <;> grind
  have i1 : -(rho / 100000000000000000) ≤ 1000000000 * z1 ∧ 1000000000 * z1 ≤ rho / 100000000000000000 := by
    unfold e2 at j2; clear m1 m2 k1 k2 k3 k4 j1 n1 n2; constructor <;> grind
  have i2 : -(rho / 100000000000000000) ≤ 1000000000 * z2 ∧ 1000000000 * z2 ≤ rho / 100000000000000000 := by
    unfold e2 at j1; clear m1 m2 k1 k2 k3 k4 j2 n1 n2; constructor <;> grind
  clear m1 m2 j1 j2
  have kk : rho / 100000000000000000 * (101 / 100) ≤ 2 * (rho / 100000000000000000) := by grind
  have r5 : rho / 10000000000000000 = 10 * (rho / 100000000000000000) := by grind
  rw [r5]
  generalize rho / 100000000000000000 = w at *
  unfold Near
  clear r5
  refine ⟨⟨?_, ?_⟩, ?_, ?_⟩
  · clear n1 i2 k3 k4; grind
  · clear n1 i2 k3 k4; grind
  · clear n2 i1 k1 k2; grind
  · clear n2 i1 k1 k2; grind
theorem el_abs {r K B c q U V : Rat} (r0 : 1 ≤ r) (r1 : r ≤ 900) (K0 : 1 / 10 ≤ K) (K1 : K ≤ 1) (hK : r * r * (1 + 1 / 1000000000) ≤ 1000000 * (K * K)) (B0 : 0 ≤ B) (B1 : B ≤ 250000000) (hB : K + 1 / 1000000000 ≤ SA B)
    (hc : -(1 + ep) ≤ c ∧ c ≤ 1 + ep) (hq : 0 ≤ q) (hp : Near (c * c + q * q) 1 ep) (hU : U = 1000000000 * (1000 + r * c)) (hV : V = 1000000000 * (r * q)) :
    ∃ e rho, 0 ≤ e ∧ e ≤ B ∧ 60000000000 ≤ rho ∧ 1000000000 * (998 - r) ≤ rho ∧ Near U (rho * CA e) (rho / 500000000000000000) ∧ Near V (rho * SA e) (rho / 500000000000000000) := by
  have m := Rat.mul_le_mul_of_nonneg_left hc.1 (show 0 ≤ r by grind)
  have u0 : 1000000000 * (999 - r) ≤ U := by rw [hU]; unfold ep at m; clear hp hK; grind
  have v0 : 0 ≤ V := by rw [hV]; have := Rat.mul_nonneg (show 0 ≤ r by grind) hq; grind
  obtain ⟨th, rho, t0, t1, p0, rr, nx, ny⟩ := polarR (X := U) (Y := V) (R := U + V) (by grind) v0 rfl (by grind)
  have R6 : 60000000000 ≤ rho := by grind
  have nx' : Near U (rho * CA th) (rho / 500000000000000000) := near_weak nx (by grind)
  have ny' : Near V (rho * SA th) (rho / 500000000000000000) := near_weak ny (by grind)
  clear nx ny
  have fr : 1000000000 * (998 - r) ≤ rho := by
    have mc := Rat.mul_le_mul_of_nonneg_left (CA_le th).2 (show 0 ≤ rho by grind)
    clear hp hK ny' hV v0 hB
    unfold Near at nx'
    unfold ep at mc
    generalize rho * CA th = z at *
    grind
  refine ⟨th, rho, t0, ?_, R6, fr, nx', ny'⟩
  apply Rat.not_lt.1
  intro l
  have g := SA_grow B0 (Rat.le_of_lt l) t1
  have ks : K ≤ SA th := by clear hp hK nx' ny'; grind
  clear g hB
  -- what the angle's sine would be
  have key : 1000000 * (V * V) ≤ r * r * (U * U + V * V) + 10000 := by
    rw [hU, hV]
    unfold Near at hp
    have rr2 : r * r ≤ 810000 := by have := rmul_bd (a := r) (b := r) (A := 900) (B := 900) (by grind) (by grind); grind
    have r00 : 0 ≤ r * r := Rat.mul_nonneg (by grind) (by grind)
    have z := Rat.mul_nonneg r00 (sq_nonneg (1000 * c + r))
    have m1 := Rat.mul_le_mul_of_nonneg_left hp.2 r00
    have m2 := Rat.mul_le_mul_of_nonneg_left hp.1 (Rat.mul_nonneg r00 r00)
    have m3 := Rat.mul_le_mul_of_nonneg_left rr2 r00
    have e : r * r * ((1000 + r * c) * (1000 + r * c) + r * q * (r * q)) - 1000000 * (r * q * (r * q)) = r * r * ((1000 * c + r) * (1000 * c + r)) + 1000000 * (r * r) + r * r * (r * r) * (c * c + q * q) - r * r * (r * r) - 1000000 * (r * r * (c * c + q * q)) := by grind
    unfold ep at m1 m2
    suffices h : -(1 / 100000000000000) ≤ r * r * ((1000 + r * c) * (1000 + r * c) + r * q * (r * q)) - 1000000 * (r * q * (r * q)) by grind
    rw [e]
    clear e hU hV nx' ny' m u0 v0 hp hc hK
    generalize r * r * ((1000 * c + r) * (1000 * c + r)) = z1 at *
    generalize r * r * (r * r) * (c * c + q * q) = z2 at *
    generalize r * r * (c * c + q * q) = z3 at *
    generalize r * r * (r * r) = r4 at *
    generalize r * r = r2 at *
    grind
  obtain ⟨a, ha⟩ : ∃ a, U = rho * a := ⟨U / rho, by grind⟩
  obtain ⟨b, hb⟩ : ∃ b, V = rho * b := ⟨V / rho, by grind⟩
  have na : -(1 / 500000000000000000) ≤ a - CA th ∧ a - CA th ≤ 1 / 500000000000000000 := by
    rw [ha] at nx'
    unfold Near at nx'
    constructor
    · apply Rat.not_lt.1; intro h
      have := Rat.mul_lt_mul_of_pos_left h p0
      clear key hp hK ny'; grind
    · apply Rat.not_lt.1; intro h
      have := Rat.mul_lt_mul_of_pos_left h p0
      clear key hp hK ny'; grind
  have nb : -(1 / 500000000000000000) ≤ b - SA th ∧ b - SA th ≤ 1 / 500000000000000000 := by
    rw [hb] at ny'
    unfold Near at ny'
    constructor
    · apply Rat.not_lt.1; intro h
      have := Rat.mul_lt_mul_of_pos_left h p0
      clear key hp hK nx'; grind
    · apply Rat.not_lt.1; intro h
      have := Rat.mul_lt_mul_of_pos_left h p0
      clear key hp hK nx'; grind
  have cb := CA_le th; have sb := SA_le th; have py := SA_pyth th
  have q1 := rmul_bd (a := a - CA th) (b := a + CA th) (A := 1 / 500000000000000000) (B := 3) na (by unfold ep at cb; grind)
  have q2 := rmul_bd (a := b - SA th) (b := b + SA th) (A := 1 / 500000000000000000) (B := 3) nb (by unfold ep at sb; grind)
  have ab : a * a + b * b ≤ 1 + 1 / 10000000000000000 := by
    clear key hp hK nx' ny' na nb
    unfold Near ep at py
    grind
  have kb : K - 1 / 500000000000000000 ≤ b := by clear key hp hK nx' ny' q1 q2 ab; grind
  have bb : K * K - 1 / 100000000000000000 ≤ b * b := by
    have := Rat.mul_le_mul_of_nonneg_left kb (show 0 ≤ K - 1 / 500000000000000000 by grind)
    have := Rat.mul_le_mul_of_nonneg_right kb (show 0 ≤ b by grind)
    clear key hp hK nx' ny' q1 q2 ab
    grind
  have fin : 1000000 * (b * b) ≤ r * r * (a * a + b * b) + 1 / 100000000000000000 := by
    apply Rat.not_lt.1
    intro h
    have rr2 : 3600000000000000000000 ≤ rho * rho := by
      have a1 := Rat.mul_le_mul_of_nonneg_left R6 (show (0 : Rat) ≤ 60000000000 by grind)
      have a2 := Rat.mul_le_mul_of_nonneg_right R6 (show 0 ≤ rho by grind)
      grind
    have := Rat.mul_lt_mul_of_pos_left h (show 0 < rho * rho by grind)
    rw [ha, hb] at key
    clear hp hK nx' ny' q1 q2 ab na nb bb
    have e1 : 1000000 * (rho * b * (rho * b)) = rho * rho * (1000000 * (b * b)) := by grind
    have e2 : r * r * (rho * a * (rho * a) + rho * b * (rho * b)) = rho * rho * (r * r * (a * a + b * b)) := by grind
    rw [e1, e2] at key
    generalize r * r * (a * a + b * b) = z1 at *
    generalize 1000000 * (b * b) = z2 at *
    generalize rho * rho = R2 at *
    clear e1 e2
    grind
  have r00 : 1 ≤ r * r := by have := Rat.mul_le_mul_of_nonneg_left r0 (show 0 ≤ r by grind); grind
  have m5 := Rat.mul_le_mul_of_nonneg_left ab (show 0 ≤ r * r by grind)
  clear key hp nx' ny' q1 q2 ab na nb ha hb cb sb py hc m u0 v0 hU hV
  generalize r * r * (a * a + b * b) = z1 at *
  generalize b * b = b2 at *
  generalize K * K = k2 at *
  generalize r * r = r2 at *
  grind
theorem el_pol {r K B : Rat} (r0 : 1 ≤ r) (r1 : r ≤ 900) (K0 : 1 / 10 ≤ K) (K1 : K ≤ 1) (hK : r * r * (1 + 1 / 1000000000) ≤ 1000000 * (K * K)) (B0 : 0 ≤ B) (B1 : B ≤ 250000000) (hB : K + 1 / 1000000000 ≤ SA B) (p s : Int) :
    ∃ e rho, GPol r p s e rho ∧ -B ≤ e ∧ e ≤ B := by
  have hc := CN_le (p - s)
  have py := SN_pyth (p - s)
  by_cases h : 0 ≤ SN (p - s)
  · obtain ⟨e, rho, e0, e1, R6, far, nU, nV⟩ := el_abs r0 r1 K0 K1 hK B0 B1 hB hc h py rfl rfl
    obtain ⟨nx, ny⟩ := g_rot r0 r1 p s (by grind) R6 rfl rfl (near_weak nU (by grind)) (near_weak nV (by grind))
    exact ⟨e, rho, ⟨by grind, by grind, far, by grind, nx, ny⟩, by grind, e1⟩
  · obtain ⟨e, rho, e0, e1, R6, far, nU, nV⟩ := el_abs (q := -SN (p - s)) r0 r1 K0 K1 hK B0 B1 hB hc (by grind) (by rw [show -SN (p - s) * -SN (p - s) = SN (p - s) * SN (p - s) by grind]; exact py) rfl rfl
    obtain ⟨n1, n2⟩ := SCA_neg e
    have p1 := rmul_bd (a := rho) (b := CA (-e) - CA e) (A := rho) (B := e2) (by grind) (by unfold Near at n2; grind)
    have p2 := rmul_bd (a := rho) (b := SA (-e) + SA e) (A := rho) (B := e2) (by grind) (by unfold Near at n1; grind)
    clear n1 n2 hK py hB
    have nU' : Near (1000000000 * (1000 + r * CN (p - s))) (rho * CA (-e)) (rho / 100000000000000000) := by
      unfold Near at *; clear nV p2; unfold e2 at *; generalize CA (-e) = u at *; generalize CA e = v at *; generalize r * CN (p - s) = z at *; constructor <;> grind
    have nV' : Near (1000000000 * (r * SN (p - s))) (rho * SA (-e)) (rho / 100000000000000000) := by
      unfold Near at *; clear nU p1 nU'; unfold e2 at *
      rw [show r * -SN (p - s) = -(r * SN (p - s)) by grind] at nV
      generalize SA (-e) = u at *; generalize SA e = v at *; generalize r * SN (p - s) = z at *; constructor <;> grind
    obtain ⟨nx, ny⟩ := g_rot r0 r1 p s (e := -e) (by grind) R6 rfl rfl nU' nV'
    exact ⟨-e, rho, ⟨by grind, by grind, far, by grind, nx, ny⟩, by grind, by grind⟩
end Go.Proofs.YtdeoahgcppbmkaaDoor
/- Package planet, plain: where the elongation's interval lies. -/
namespace Go.Proofs.YtdeoahgcppbmkaaDoor
set_option linter.unusedSimpArgs false
set_option linter.unusedVariables false
theorem kW_hm : 0 ≤ kW 5002 ∧ kW 5002 ≤ 31430 := by
  have q := qq_b9
  unfold kW ra
  rw [show ((5002 : Int) : Rat) = 5002 from rfl]
  generalize qq = p at *
  constructor <;> grind
theorem kW_sm : 0 ≤ kW 2002 ∧ kW 2002 ≤ 12580 := by
  have q := qq_b9
  unfold kW ra
  rw [show ((2002 : Int) : Rat) = 2002 from rfl]
  generalize qq = p at *
  constructor <;> grind
theorem he_w2 (i : Nat) (hi : i < 5) (t : Int) : 10000 ≤ heHi i t - heLo i t := by
  obtain ⟨k, a1, a2, a3, a4⟩ := ang_at (mean := pnMean i) (rate := pnRate i) (rest := 5000) (t := t) (n := 0) (zs := []) (by omega) (pn_sum i hi).tm
  have e1 : heLo i t = anLo (pnMean i) (pnRate i) 5000 [] 0 t := rfl
  have e2 : heHi i t = anHi (pnMean i) (pnRate i) 5000 [] 0 t := rfl
  rw [← e1] at a1 a2
  rw [← e2] at a3 a4
  apply int_le_of_rat
  rw [Rat.intCast_sub, show ((10000 : Int) : Rat) = 10000 from rfl]
  rw [show ((5000 : Int) : Rat) = 5000 from rfl] at *
  grind
theorem sl_w2 (t : Int) : 4000 ≤ slHi t - slLo t := by
  obtain ⟨k, a1, a2, a3, a4⟩ := sun_at t
  apply int_le_of_rat
  rw [Rat.intCast_sub, show ((4000 : Int) : Rat) = 4000 from rfl]
  grind
theorem g_mid (i : Nat) (hi : i < 5) (t : Int) : GNear i t (heLo i t + 5002) (slLo t + 2002) ((pnRad i : Rat) * 31432 + 12582000) := by
  have w1 := he_w i hi t; have w3 := he_w2 i hi t
  have w2 := sl_w t; have w4 := sl_w2 t
  have k1 := kW_hm; have k2 := kW_sm
  obtain ⟨a1, a2⟩ := so_mid (a := heLo i t) (b := heHi i t) (x := heLo i t + 5002) (W := 5002) (by omega) (by omega) (by omega) (by omega) (by omega) (by omega)
  obtain ⟨a3, a4⟩ := co_mid (a := heLo i t) (b := heHi i t) (x := heLo i t + 5002) (W := 5002) (by omega) (by omega) (by omega) (by omega) (by omega) (by omega)
  obtain ⟨b1, b2⟩ := so_mid (a := slLo t) (b := slHi t) (x := slLo t + 2002) (W := 2002) (by omega) (by omega) (by omega) (by omega) (by omega) (by omega)
  obtain ⟨b3, b4⟩ := co_mid (a := slLo t) (b := slHi t) (x := slLo t + 2002) (W := 2002) (by omega) (by omega) (by omega) (by omega) (by omega) (by omega)
  have r0 : (0 : Rat) ≤ (pnRad i : Rat) := by
    have := Rat.intCast_le_intCast.2 (show 0 ≤ pnRad i by have := pn_bd i hi; omega)
    rwa [show ((0 : Int) : Rat) = 0 from rfl] at this
  have G : (pnRad i : Rat) * 31432 + 1000 * 12582 ≤ (pnRad i : Rat) * 31432 + 12582000 := by grind
  have wk : ∀ {u : Rat} {v : Rat} {e : Rat}, Near u v (e + 102 / 100) → e ≤ 31430 → Near u v 31432 := fun h g => near_weak h (by grind)
  have wk3 : ∀ {u : Rat} {v : Rat} {e : Rat}, Near u v (e + 103 / 100) → e ≤ 31430 → Near u v 31432 := fun h g => near_weak h (by grind)
  have wl : ∀ {u : Rat} {v : Rat} {e : Rat}, Near u v (e + 102 / 100) → e ≤ 12580 → Near u v 12582 := fun h g => near_weak h (by grind)
  have wl3 : ∀ {u : Rat} {v : Rat} {e : Rat}, Near u v (e + 103 / 100) → e ≤ 12580 → Near u v 12582 := fun h g => near_weak h (by grind)
  exact ⟨sum_near (wk a1 k1.2) (wl b1 k2.2) r0 G, sum_near (wk a2 k1.2) (wl b2 k2.2) r0 G, sum_near (wk3 a3 k1.2) (wl3 b3 k2.2) r0 G, sum_near (wk3 a4 k1.2) (wl3 b4 k2.2) r0 G⟩
/-- A point of the box. -/
theorem g_pt (i : Nat) (hi : i < 5) (t : Int) : ∃ Y X : Rat, ((gYL i t : Rat) ≤ Y ∧ Y ≤ (gYH i t : Rat)) ∧ ((gXL i t : Rat) ≤ X ∧ X ≤ (gXH i t : Rat)) ∧ Near Y (gY (pnRad i) (heLo i t) (slLo t)) (1 / 1000000) ∧ Near X (gX (pnRad i) (heLo i t) (slLo t)) (1 / 1000000) := by
  obtain ⟨y1, a1, a2, a3⟩ := so_pt (heLo i t) (heHi i t)
  obtain ⟨y2, b1, b2, b3⟩ := so_pt (slLo t) (slHi t)
  obtain ⟨x1, c1, c2, c3⟩ := co_pt (heLo i t) (heHi i t)
  obtain ⟨x2, d1, d2, d3⟩ := co_pt (slLo t) (slHi t)
  have bd := pn_bd i hi
  have r0 : (0 : Rat) ≤ (pnRad i : Rat) := by
    have := Rat.intCast_le_intCast.2 (show 0 ≤ pnRad i by omega)
    rwa [show ((0 : Int) : Rat) = 0 from rfl] at this
  have r1 : (pnRad i : Rat) ≤ 10000 := by
    have := Rat.intCast_le_intCast.2 (show pnRad i ≤ 10000 by omega)
    rwa [show ((10000 : Int) : Rat) = 10000 from rfl] at this
  refine ⟨y1 * (pnRad i : Rat) + y2 * 1000, x1 * (pnRad i : Rat) + x2 * 1000, ?_, ?_, ?_, ?_⟩
  · have m1 := Rat.mul_le_mul_of_nonneg_right a1 r0; have m2 := Rat.mul_le_mul_of_nonneg_right a2 r0
    unfold gYL gYH
    rw [Rat.intCast_add, Rat.intCast_mul, Rat.intCast_mul, Rat.intCast_add, Rat.intCast_mul, Rat.intCast_mul, show ((1000 : Int) : Rat) = 1000 from rfl]
    clear a3 b3 c3 d3
    constructor <;> grind
  · have m1 := Rat.mul_le_mul_of_nonneg_right c1 r0; have m2 := Rat.mul_le_mul_of_nonneg_right c2 r0
    unfold gXL gXH
    rw [Rat.intCast_add, Rat.intCast_mul, Rat.intCast_mul, Rat.intCast_add, Rat.intCast_mul, Rat.intCast_mul, show ((1000 : Int) : Rat) = 1000 from rfl]
    clear a3 b3 c3 d3
    constructor <;> grind
  · have m := rmul_bd (a := y1 - 1000000000 * SN (heLo i t)) (b := (pnRad i : Rat)) (A := 11 / 1000000000000) (B := 10000) (by unfold Near at a3; grind) (by grind)
    unfold gY
    clear c3 d3 a1 a2 b1 b2 c1 c2 d1 d2
    unfold Near at *
    generalize SN (heLo i t) = z at *
    generalize SN (slLo t) = z' at *
    generalize (pnRad i : Rat) = r at *
    constructor <;> grind
  · have m := rmul_bd (a := x1 - 1000000000 * CN (heLo i t)) (b := (pnRad i : Rat)) (A := 11 / 1000000000000) (B := 10000) (by unfold Near at c3; grind) (by grind)
    unfold gX
    clear a3 b3 a1 a2 b1 b2 c1 c2 d1 d2
    unfold Near at *
    generalize CN (heLo i t) = z at *
    generalize CN (slLo t) = z' at *
    generalize (pnRad i : Rat) = r at *
    constructor <;> grind
/-- Where the elongation's interval lies. -/
theorem el_law (i : Nat) (hi : i < 5) (t : Int) {K w gam : Rat} {B wi : Int} (r1 : pnRad i ≤ 900) (K0 : 1 / 10 ≤ K) (K1 : K ≤ 1) (hK : (pnRad i : Rat) * (pnRad i : Rat) * (1 + 1 / 1000000000) ≤ 1000000 * (K * K)) (B0 : 0 ≤ B) (B1 : B ≤ 250000000) (hB : K + 1 / 1000000000 ≤ SA (B : Rat))
    (hg : (pnRad i : Rat) * 31432 + 12582000 ≤ gam * (1000000000 * (998 - (pnRad i : Rat)))) (g0 : 0 ≤ gam) (g1 : gam ≤ 1 / 200) (hw : 5 * gam + 4 / 10000000000000 ≤ 62831848 / 10000000000000000 * (w - 2)) (hw2 : w ≤ (wi : Rat)) (hw3 : wi ≤ 1000000) (hw4 : 2 ≤ w) :
    ∃ j : Int, -(B + wi + 2002) ≤ geLo i t - 1000000000 * j ∧ geLo i t - 1000000000 * j ≤ B ∧ -B ≤ geHi i t - 1000000000 * j := by
  have bd := pn_bd i hi
  have OK := pg_ok i hi t
  obtain ⟨yl, yh, xl, xh⟩ := g_mid i hi t
  obtain ⟨Y, X, ⟨Y1, Y2⟩, ⟨X1, X2⟩, nY, nX⟩ := g_pt i hi t
  have rq1 : (1 : Rat) ≤ (pnRad i : Rat) := by
    have := Rat.intCast_le_intCast.2 (show 1 ≤ pnRad i by omega)
    rwa [show ((1 : Int) : Rat) = 1 from rfl] at this
  have rq2 : (pnRad i : Rat) ≤ 900 := by
    have := Rat.intCast_le_intCast.2 r1
    rwa [show ((900 : Int) : Rat) = 900 from rfl] at this
  have B0' : (0 : Rat) ≤ (B : Rat) := by
    have := Rat.intCast_le_intCast.2 B0
    rwa [show ((0 : Int) : Rat) = 0 from rfl] at this
  have B1' : (B : Rat) ≤ 250000000 := by
    have := Rat.intCast_le_intCast.2 B1
    rwa [show ((250000000 : Int) : Rat) = 250000000 from rfl] at this
  obtain ⟨e1, rho1, P1, p1, p2⟩ := el_pol rq1 rq2 K0 K1 hK B0' B1' hB (heLo i t + 5002) (slLo t + 2002)
  obtain ⟨e2, rho2, P2, q1, q2⟩ := el_pol rq1 rq2 K0 K1 hK B0' B1' hB (heLo i t) (slLo t)
  have ws1 := sl_w t; have ws2 := sl_w2 t
  have H := OK.arc
  have nw := OK.nw
  have c1 : gaL i t = arcLo (gYL i t) (gYH i t) (gXL i t) (gXH i t) := rfl
  have c2 : gaH i t = arcHi (gYL i t) (gYH i t) (gXL i t) (gXH i t) := rfl
  have c3 : geLo i t = (gaL i t % 1000000000 - slHi t) % 1000000000 := rfl
  have c4 : geHi i t = (gaL i t % 1000000000 - slHi t) % 1000000000 + (gaL i t % 1000000000 + gaH i t - gaL i t - slLo t) - (gaL i t % 1000000000 - slHi t) := rfl
  rw [c3, c4]
  clear c3 c4 OK hK hB K0 K1
  rw [c1, c2] at nw
  -- the bounds of the box
  have far1 := P1.far; have far2 := P2.far; have nx1 := P1.nx; have ny1 := P1.ny; have nx2 := P2.nx; have ny2 := P2.ny
  rw [Rat.intCast_add, show ((2002 : Int) : Rat) = 2002 from rfl] at nx1 ny1
  have hm : gam * (1000000000 * (998 - (pnRad i : Rat))) ≤ gam * rho1 := Rat.mul_le_mul_of_nonneg_left far1 g0
  have hm2 : gam * (1000000000 * (998 - (pnRad i : Rat))) ≤ gam * rho2 := Rat.mul_le_mul_of_nonneg_left far2 g0
  have rp1 : 90000000000 ≤ rho1 := by grind
  have rp2 : 90000000000 ≤ rho2 := by grind
  have g1r : gam * rho1 ≤ 1 / 200 * rho1 := Rat.mul_le_mul_of_nonneg_right g1 (by grind)
  have G0 : 0 ≤ (pnRad i : Rat) * 31432 + 12582000 := by grind
  obtain ⟨g, hgd⟩ : ∃ g, g = (pnRad i : Rat) * 31432 + 12582000 := ⟨_, rfl⟩
  rw [← hgd] at hg G0 yl yh xl xh
  generalize gX (pnRad i) (heLo i t + 5002) (slLo t + 2002) = GX1 at *
  generalize gY (pnRad i) (heLo i t + 5002) (slLo t + 2002) = GY1 at *
  generalize gX (pnRad i) (heLo i t) (slLo t) = GX2 at *
  generalize gY (pnRad i) (heLo i t) (slLo t) = GY2 at *
  clear P1 P2 far1 far2
  have cmb : ∀ {u v z : Rat}, Near u v g → Near v z (rho1 / 10000000000000000) → Near u z (g + rho1 / 10000000000000000) := fun h k => by
    unfold Near at *; constructor <;> grind
  have w1 := cmb yl ny1; have w2 := cmb yh ny1; have w3 := cmb xl nx1; have w4 := cmb xh nx1
  have gr : g ≤ gam * rho1 := Rat.le_trans hg hm
  have gd : g / rho1 ≤ gam := by
    apply Rat.not_lt.1
    intro l
    have := Rat.mul_lt_mul_of_pos_right l (show 0 < rho1 by grind)
    have x : g / rho1 * rho1 = g := by grind
    clear w1 w2 w3 w4 yl yh xl xh nx1 ny1 nx2 ny2 nX nY
    grind
  have er : (g + rho1 / 10000000000000000) / rho1 = g / rho1 + 1 / 10000000000000000 := by grind
  have sbA := SA_le (e1 + ((slLo t : Rat) + 2002)); have cbA := CA_le (e1 + ((slLo t : Rat) + 2002))
  have ms := rmul_bd (a := rho1) (b := SA (e1 + ((slLo t : Rat) + 2002))) (A := rho1) (B := 101 / 100) (by grind) (by unfold ep at sbA; grind)
  have mc := rmul_bd (a := rho1) (b := CA (e1 + ((slLo t : Rat) + 2002))) (A := rho1) (B := 101 / 100) (by grind) (by unfold ep at cbA; grind)
  have bx : ∀ {n : Int} {z : Rat}, Near (n : Rat) z (g + rho1 / 10000000000000000) → -(rho1 * (101 / 100)) ≤ z → z ≤ rho1 * (101 / 100) → (n.natAbs : Rat) ≤ 2 * rho1 := fun {n z} h a b => by
    have := nab_rat n
    unfold Near at h
    clear w1 w2 w3 w4 yl yh xl xh nx1 ny1 nx2 ny2 nX nY ms mc
    grind
  have n1 := bx w1 ms.1 ms.2; have n2 := bx w2 ms.1 ms.2; have n3 := bx w3 mc.1 mc.2; have n4 := bx w4 mc.1 mc.2
  have kb := ka_bd
  have hwk : 5 * ((g + rho1 / 10000000000000000) / rho1) + 3 / 10000000000000 ≤ ka * (w - 2) := by
    rw [er]
    have := Rat.mul_le_mul_of_nonneg_right kb.1 (show 0 ≤ w - 2 by grind)
    clear w1 w2 w3 w4 yl yh xl xh nx1 ny1 nx2 ny2 nX nY ms mc n1 n2 n3 n4
    generalize g / rho1 = z at *
    grind
  have sz : ∀ {a c : Int}, (a.natAbs : Rat) ≤ 2 * rho1 → (c.natAbs : Rat) ≤ 2 * rho1 → szR a c ≤ 4 * rho1 := fun h k => by unfold szR; grind
  obtain ⟨n, T1, T2⟩ := arc_tightR H (x := e1 + ((slLo t : Rat) + 2002)) (rho := rho1) (e := g + rho1 / 10000000000000000) (w := w) (by grind) (by grind) (by clear w1 w2 w3 w4 ms mc; grind) w1 w2 w3 w4 (sz n1 n3) (sz n1 n4) (sz n2 n3) (sz n2 n4) hwk (by have := Rat.intCast_le_intCast.2 hw3; rw [show ((1000000 : Int) : Rat) = 1000000 from rfl] at this; grind)
  -- what it contains
  obtain ⟨z0, z1⟩ := redu_bd (e2 + (slLo t : Rat))
  obtain ⟨jj, hjj⟩ := redu_eq (e2 + (slLo t : Rat))
  have eS : SA (redu (e2 + (slLo t : Rat))) = SA (e2 + (slLo t : Rat)) := by
    have := SA_turn (redu (e2 + (slLo t : Rat))) jj
    rw [← hjj] at this
    exact this.symm
  have eC : CA (redu (e2 + (slLo t : Rat))) = CA (e2 + (slLo t : Rat)) := by
    have := CA_turn (redu (e2 + (slLo t : Rat))) jj
    rw [← hjj] at this
    exact this.symm
  have gY2 : g ≤ gam * rho2 := Rat.le_trans hg hm2
  have wy : (gYH i t : Rat) ≤ (gYL i t : Rat) + 2 * g := by unfold Near at yl yh; clear w1 w2 w3 w4 ms mc; grind
  have wx : (gXH i t : Rat) ≤ (gXL i t : Rat) + 2 * g := by unfold Near at xl xh; clear w1 w2 w3 w4 ms mc; grind
  clear w1 w2 w3 w4 yl yh xl xh nx1 ny1 ms mc bx cmb n1 n2 n3 n4 er gd hwk sbA cbA sz hm hm2 hg gr
  have sbB := SA_le (e2 + (slLo t : Rat)); have cbB := CA_le (e2 + (slLo t : Rat))
  have ms := rmul_bd (a := rho2) (b := SA (e2 + (slLo t : Rat))) (A := rho2) (B := 101 / 100) (by grind) (by unfold ep at sbB; grind)
  have mc := rmul_bd (a := rho2) (b := CA (e2 + (slLo t : Rat))) (A := rho2) (B := 101 / 100) (by grind) (by unfold ep at cbB; grind)
  have g2r : gam * rho2 ≤ 1 / 200 * rho2 := Rat.mul_le_mul_of_nonneg_right g1 (by grind)
  have Yn : Near Y (rho2 * SA (e2 + (slLo t : Rat))) (rho2 / 1000000000000000) := by
    unfold Near at *; clear ms mc nX nx2 wy wx; constructor <;> grind
  have Xn : Near X (rho2 * CA (e2 + (slLo t : Rat))) (rho2 / 1000000000000000) := by
    unfold Near at *; clear ms mc nY ny2 wy wx Yn; constructor <;> grind
  have bY : -(rho2 * (102 / 100)) ≤ Y ∧ Y ≤ rho2 * (102 / 100) := by unfold Near at Yn; clear Xn mc nX nY nx2 ny2; constructor <;> grind
  have bX : -(rho2 * (102 / 100)) ≤ X ∧ X ≤ rho2 * (102 / 100) := by unfold Near at Xn; clear Yn ms nX nY nx2 ny2; constructor <;> grind
  clear nX nY nx2 ny2 ms mc sbB cbB
  have bn : ∀ {n : Int} {z : Rat}, z - 2 * g ≤ (n : Rat) → (n : Rat) ≤ z + 2 * g → -(rho2 * (102 / 100)) ≤ z → z ≤ rho2 * (102 / 100) → (n.natAbs : Rat) ≤ 2 * rho2 := fun {n z} h k a b => by
    have := nab_rat n
    clear Yn Xn wy wx bY bX
    grind
  have n1 := bn (n := gYL i t) (z := Y) (by grind) (by grind) bY.1 bY.2
  have n2 := bn (n := gYH i t) (z := Y) (by grind) (by grind) bY.1 bY.2
  have n3 := bn (n := gXL i t) (z := X) (by grind) (by grind) bX.1 bX.2
  have n4 := bn (n := gXH i t) (z := X) (by grind) (by grind) bX.1 bX.2
  have sz : ∀ {a c : Int}, (a.natAbs : Rat) ≤ 2 * rho2 → (c.natAbs : Rat) ≤ 2 * rho2 → szR a c ≤ 4 * rho2 := fun h k => by unfold szR; grind
  obtain ⟨k, C1, C2⟩ := arc_containsR H nw z0 z1 (x := X) (y := Y) (rho := rho2) Y1 Y2 X1 X2 (by grind) (sz n1 n3) (sz n1 n4) (sz n2 n3) (sz n2 n4) (by rw [eC]; exact Xn) (by rw [eS]; exact Yn)
  obtain ⟨m, hmm⟩ : ∃ m : Int, redu (e2 + (slLo t : Rat)) + 1000000000 * (k : Rat) = e2 + (slLo t : Rat) + 1000000000 * (m : Rat) := ⟨k - jj, by rw [Rat.intCast_sub]; grind⟩
  rw [hmm] at C1 C2
  rw [← c1] at T1 C1
  rw [← c2] at T2 C2
  clear hmm hjj z0 z1 eS eC Yn Xn wy wx bY bX bn n1 n2 n3 n4 sz H nw c1 c2 Y1 Y2 X1 X2
  generalize gaL i t = lo at *
  generalize gaH i t = hi' at *
  generalize slLo t = s1 at *
  generalize slHi t = s2 at *
  have W : (w : Rat) ≤ 1000000 := by have := Rat.intCast_le_intCast.2 hw3; rw [show ((1000000 : Int) : Rat) = 1000000 from rfl] at this; grind
  have hmn : m = n := by
    have a1 : m - n < 1 := by
      apply int_lt_of_rat
      rw [Rat.intCast_sub, show ((1 : Int) : Rat) = 1 from rfl]
      grind
    have a2 : -1 < m - n := by
      apply int_lt_of_rat
      rw [Rat.intCast_sub, show ((-1 : Int) : Rat) = -1 from rfl]
      grind
    omega
  subst hmn
  have f1 : -(B + wi) ≤ lo - (s1 + 2002) - 1000000000 * m := by
    apply int_le_of_rat
    rw [Rat.intCast_neg, Rat.intCast_add, Rat.intCast_sub, Rat.intCast_sub, Rat.intCast_add, Rat.intCast_mul, show ((1000000000 : Int) : Rat) = 1000000000 from rfl, show ((2002 : Int) : Rat) = 2002 from rfl]
    grind
  have f2 : lo - s1 - 1000000000 * m ≤ B := by
    apply int_le_of_rat
    rw [Rat.intCast_sub, Rat.intCast_sub, Rat.intCast_mul, show ((1000000000 : Int) : Rat) = 1000000000 from rfl]
    grind
  have f3 : -B ≤ hi' - s1 - 1000000000 * m := by
    apply int_le_of_rat
    rw [Rat.intCast_neg, Rat.intCast_sub, Rat.intCast_sub, Rat.intCast_mul, show ((1000000000 : Int) : Rat) = 1000000000 from rfl]
    grind
  refine ⟨(lo % 1000000000 - s2) % 1000000000 / 1000000000 - (lo - s2 - 1000000000 * m - (lo % 1000000000 - s2) % 1000000000) / 1000000000, ?_, ?_, ?_⟩ <;> omega
end Go.Proofs.YtdeoahgcppbmkaaDoor
