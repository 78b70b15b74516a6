/- The sines and cosines of all rational angles of an interval; polar coordinates in the whole plane. Plain. -/
import Derived.Test.YtcopmgnfakjdhaaGreatDoorVDecs
import Derived.Test.YtcopmgnfakjdhaaGreatDoorVReals
namespace Go.Proofs.YtcopmgnfakjdhaaGreatDoor
set_option linter.unusedSimpArgs false
set_option linter.unusedVariables false
theorem sa_growT {x y : Rat} (h0 : 0 ≤ x) (h1 : x ≤ y) (h2 : y ≤ 250000000) : SA x - 1 / 10000000000000000000000 ≤ SA y := by
  obtain ⟨d, hd⟩ : ∃ d, d = (y - x) / 2 := ⟨_, rfl⟩
  have d0 : 0 ≤ d := by grind
  have d1 : d ≤ 125000000 := by grind
  obtain ⟨a1, -⟩ := SCA_add (x + d) d
  obtain ⟨a2, -⟩ := SCA_add (x + d) (-d)
  rw [show x + d + d = y by grind] at a1
  rw [show x + d + -d = x by grind] at a2
  obtain ⟨n1, n2⟩ := SCA_neg d
  have c := (sa_pos (x := x + d) (by grind) (by grind)).2
  have sd := SA_small (h := d) d0 (by grind)
  have sb := SA_le (x + d); have cb := CA_le (x + d); have sdb := SA_le d; have cdb := CA_le d
  have m1 := rmul_bd (a := SA (x + d)) (b := CA (-d) - CA d) (A := 1 + ep) (B := e2) sb (by unfold Near at n2; grind)
  have m2 := rmul_bd (a := CA (x + d)) (b := SA (-d) + SA d) (A := 1 + ep) (B := e2) cb (by unfold Near at n1; grind)
  have m3 : -(2 / 100000000000000000000000) ≤ CA (x + d) * SA d := by
    have p := Rat.mul_nonneg (show 0 ≤ CA (x + d) + 1 / 100000000000000000000000 by grind) (show 0 ≤ SA d + 1 / 1000000000000000000000000 by grind)
    clear m1 m2 n1 n2 a1 a2
    unfold ep at *
    generalize CA (x + d) = u at *
    generalize SA d = v at *
    grind
  unfold Near e2 ep at *
  generalize SA x = x1 at *
  generalize SA y = x2 at *
  generalize SA (x + d) = x3 at *
  generalize CA (x + d) = x4 at *
  generalize SA (-d) = x5 at *
  generalize CA (-d) = x6 at *
  generalize SA d = x7 at *
  generalize CA d = x8 at *
  clear n1 n2 sb cb sdb cdb sd c hd
  grind
theorem ca_fallT {x y : Rat} (h0 : 0 ≤ x) (h1 : x ≤ y) (h2 : y ≤ 250000000) : CA y ≤ CA x + 2 / 10000000000000000000000 := by
  have g := sa_growT (x := 250000000 - y) (y := 250000000 - x) (by grind) (by grind) (by grind)
  have a := ca_back x
  have b := ca_back y
  unfold Near e2 at *
  grind
theorem ca_fall2 {x y : Rat} (h0 : 0 ≤ x) (h1 : x ≤ y) (h2 : y ≤ 500000000) : CA y ≤ CA x + 5 / 10000000000000000000000 := by
  by_cases c : y ≤ 250000000
  · have := ca_fallT h0 h1 c; grind
  · have hy := ca_half y
    have q := sa_q.2
    by_cases d : x ≤ 250000000
    · have f := ca_fallT h0 d (Rat.le_refl (a := 250000000))
      have g := ca_fallT (x := 500000000 - y) (y := 250000000) (by grind) (by grind) (by grind)
      unfold Near e2 eq1 at *
      generalize CA y = p1 at *
      generalize CA x = p2 at *
      generalize CA (500000000 - y) = p3 at *
      generalize CA 250000000 = p4 at *
      clear h0 h1 h2 c d
      grind
    · have hx := ca_half x
      have g := ca_fallT (x := 500000000 - y) (y := 500000000 - x) (by grind) (by grind) (by grind)
      unfold Near e2 at *
      generalize CA y = p1 at *
      generalize CA x = p2 at *
      generalize CA (500000000 - y) = p3 at *
      generalize CA (500000000 - x) = p4 at *
      clear h0 h1 h2 c d q
      grind
theorem ca_whole (u : Rat) : Near (CA (1000000000 - u)) (CA u) e2 := by
  have a := (SCA_neg u).2
  have t := CA_turn (-u) 1
  rw [show ((1 : Int) : Rat) = 1 from rfl, show -u + 1000000000 * 1 = 1000000000 - u by grind] at t
  rw [t]; exact a
theorem ca_ends {s u v : Rat} (h0 : 0 ≤ s) (h1 : s ≤ u) (h2 : u ≤ v) (h3 : v ≤ 1000000000) : CA u ≤ CA s + 6 / 10000000000000000000000 ∨ CA u ≤ CA v + 6 / 10000000000000000000000 := by
  by_cases c : u ≤ 500000000
  · left; have := ca_fall2 h0 h1 c; grind
  · right
    have f := ca_fall2 (x := 1000000000 - v) (y := 1000000000 - u) (by grind) (by grind) (by grind)
    have a := ca_whole u
    have b := ca_whole v
    unfold Near e2 at *
    generalize CA (1000000000 - u) = p1 at *
    generalize CA (1000000000 - v) = p2 at *
    generalize CA u = p3 at *
    generalize CA v = p4 at *
    clear h0 h1 h2 h3 c
    grind
theorem con_not {a b t : Int} (h : ¬ conB a b t) : ∃ k s : Int, a = t + s + 1000000000 * k ∧ 0 ≤ s ∧ s + (b - a) ≤ 1000000000 := by
  unfold conB at h
  exact ⟨-((t - a) / 1000000000) - 1, 1000000000 - (t - a) % 1000000000, by omega, by omega, by omega⟩
theorem con_notR {a b t : Int} {x : Rat} (h : ¬ conB a b t) (h1 : (a : Rat) ≤ x) (h2 : x ≤ (b : Rat)) : ∃ k : Int, ∃ s u v : Rat, (a : Rat) = (t : Rat) + s + 1000000000 * (k : Rat) ∧ x = (t : Rat) + u + 1000000000 * (k : Rat) ∧ (b : Rat) = (t : Rat) + v + 1000000000 * (k : Rat) ∧ 0 ≤ s ∧ s ≤ u ∧ u ≤ v ∧ v ≤ 1000000000 := by
  obtain ⟨k, s, e, s0, s1⟩ := con_not h
  have e' := congrArg (fun n : Int => (n : Rat)) e
  (try dsimp only at e')
  rw [Rat.intCast_add, Rat.intCast_add, Rat.intCast_mul, show ((1000000000 : Int) : Rat) = 1000000000 from rfl] at e'
  have s0' := Rat.intCast_le_intCast.2 s0
  have s1' := Rat.intCast_le_intCast.2 s1
  rw [show ((0 : Int) : Rat) = 0 from rfl] at s0'
  rw [Rat.intCast_add, Rat.intCast_sub, show ((1000000000 : Int) : Rat) = 1000000000 from rfl] at s1'
  exact ⟨k, s, (s : Rat) + (x - (a : Rat)), (s : Rat) + ((b : Rat) - (a : Rat)), e', by grind, by grind, s0', by grind, by grind, s1'⟩
theorem sa_q3 (x : Rat) : Near (SA (750000000 + x)) (-CA x) (23 * e2) := by
  have a := ca_sa (500000000 + x)
  have b := ca_half (-x)
  have c := (SCA_neg x).2
  rw [show 500000000 + x + 250000000 = 750000000 + x by grind] at a
  rw [show 500000000 - -x = 500000000 + x by grind] at b
  unfold Near at *
  constructor <;> grind
theorem so_up {a b : Int} {x : Rat} (h1 : (a : Rat) ≤ x) (h2 : x ≤ (b : Rat)) : 1000000000 * SA x - 12 / 1000000000000 ≤ (soHi a b : Rat) := by
  unfold soHi
  split
  · have := SA_le x
    rw [show ((1000000000 : Int) : Rat) = 1000000000 from rfl]
    unfold ep at this; grind
  · rename_i h
    obtain ⟨k, s, u, v, ea, ex, eb, hs, hsu, huv, hv⟩ := con_notR h h1 h2
    rw [show ((250000000 : Int) : Rat) = 250000000 from rfl] at ea ex eb
    have sx : SA x = SA (u + 250000000) := by rw [ex, SA_turn]; congr 1; grind
    have sa : SA (a : Rat) = SA (s + 250000000) := by rw [ea, SA_turn]; congr 1; grind
    have sb : SA (b : Rat) = SA (v + 250000000) := by rw [eb, SA_turn]; congr 1; grind
    rw [SA_int] at sa sb
    have c0 := ca_sa u; have c1 := ca_sa s; have c2 := ca_sa v
    rw [← sx] at c0
    rw [← sa] at c1
    rw [← sb] at c2
    have m1 := Rat.intCast_le_intCast.2 (show sHi a ≤ max (sHi a) (sHi b) by omega)
    have m2 := Rat.intCast_le_intCast.2 (show sHi b ≤ max (sHi a) (sHi b) by omega)
    have g1 := (sine_in a).hi; have g2 := (sine_in b).hi
    generalize ((max (sHi a) (sHi b) : Int) : Rat) = mm at *
    have en := ca_ends hs hsu huv hv
    clear sx sa sb ea ex eb hs hsu huv hv h h1 h2
    unfold Near e2 at *
    generalize CA u = p1 at *
    generalize CA s = p2 at *
    generalize CA v = p3 at *
    generalize SA x = p4 at *
    rcases en with en | en
    · clear c2 g2 m2; grind
    · clear c1 g1 m1; grind
theorem so_dn {a b : Int} {x : Rat} (h1 : (a : Rat) ≤ x) (h2 : x ≤ (b : Rat)) : (soLo a b : Rat) ≤ 1000000000 * SA x + 12 / 1000000000000 := by
  unfold soLo
  split
  · have := SA_le x
    rw [show ((-1000000000 : Int) : Rat) = -1000000000 from rfl]
    unfold ep at this; grind
  · rename_i h
    obtain ⟨k, s, u, v, ea, ex, eb, hs, hsu, huv, hv⟩ := con_notR h h1 h2
    rw [show ((750000000 : Int) : Rat) = 750000000 from rfl] at ea ex eb
    have sx : SA x = SA (750000000 + u) := by rw [ex, SA_turn]
    have sa : SA (a : Rat) = SA (750000000 + s) := by rw [ea, SA_turn]
    have sb : SA (b : Rat) = SA (750000000 + v) := by rw [eb, SA_turn]
    rw [SA_int] at sa sb
    have c0 := sa_q3 u; have c1 := sa_q3 s; have c2 := sa_q3 v
    rw [← sx] at c0
    rw [← sa] at c1
    rw [← sb] at c2
    have m1 := Rat.intCast_le_intCast.2 (show min (sLo a) (sLo b) ≤ sLo a by omega)
    have m2 := Rat.intCast_le_intCast.2 (show min (sLo a) (sLo b) ≤ sLo b by omega)
    have g1 := (sine_in a).lo; have g2 := (sine_in b).lo
    generalize ((min (sLo a) (sLo b) : Int) : Rat) = mm at *
    have en := ca_ends hs hsu huv hv
    clear sx sa sb ea ex eb hs hsu huv hv h h1 h2
    unfold Near e2 at *
    generalize CA u = p1 at *
    generalize CA s = p2 at *
    generalize CA v = p3 at *
    generalize SA x = p4 at *
    rcases en with en | en
    · clear c2 g2 m2; grind
    · clear c1 g1 m1; grind
theorem so_in {a b : Int} {x : Rat} (h1 : (a : Rat) ≤ x) (h2 : x ≤ (b : Rat)) : ∃ y : Rat, (soLo a b : Rat) ≤ y ∧ y ≤ (soHi a b : Rat) ∧ Near y (1000000000 * SA x) (12 / 1000000000000) :=
  pt_of (so_tri a b).2.1 (so_dn h1 h2) (so_up h1 h2) (by grind)
theorem co_in {a b : Int} {x : Rat} (h1 : (a : Rat) ≤ x) (h2 : x ≤ (b : Rat)) (hw : b - a ≤ 2000000000) : ∃ y : Rat, (coLo a b : Rat) ≤ y ∧ y ≤ (coHi a b : Rat) ∧ Near y (1000000000 * CA x) (13 / 1000000000000) := by
  have e : a = a % 1000000000 + 1000000000 * (a / 1000000000) := by omega
  obtain ⟨k, hk⟩ : ∃ k, k = a / 1000000000 := ⟨_, rfl⟩
  obtain ⟨r, hr⟩ : ∃ r, r = a % 1000000000 := ⟨_, rfl⟩
  rw [← hk, ← hr] at e
  have e' := congrArg (fun n : Int => (n : Rat)) e
  (try dsimp only at e')
  rw [Rat.intCast_add, Rat.intCast_mul, show ((1000000000 : Int) : Rat) = 1000000000 from rfl] at e'
  have m : min (b - a) 2000000000 = b - a := by omega
  obtain ⟨y, y1, y2, y3⟩ := so_in (a := r + 250000000) (b := r + 250000000 + (b - a)) (x := x - 1000000000 * (k : Rat) + 250000000)
    (by rw [Rat.intCast_add, show ((250000000 : Int) : Rat) = 250000000 from rfl]; grind)
    (by rw [Rat.intCast_add, Rat.intCast_add, Rat.intCast_sub, show ((250000000 : Int) : Rat) = 250000000 from rfl]; grind)
  have c := ca_sa (x - 1000000000 * (k : Rat))
  have t := CA_turn (x - 1000000000 * (k : Rat)) k
  rw [show x - 1000000000 * (k : Rat) + 1000000000 * (k : Rat) = x by grind] at t
  rw [← t] at c
  refine ⟨y, ?_, ?_, ?_⟩
  · unfold coLo; rw [m, ← hr]; exact y1
  · unfold coHi; rw [m, ← hr]; exact y2
  · clear y1 y2 t e e' m h1 h2
    unfold Near e2 at *
    constructor <;> grind
theorem ca_q (x : Rat) : Near (CA (x + 250000000)) (-SA x) (20 * e2) := by
  have a := ca_sa (x + 250000000)
  have b := sa_half (-x)
  have c := (SCA_neg x).1
  rw [show x + 250000000 + 250000000 = 500000000 - -x by grind] at a
  unfold Near at *
  constructor <;> grind
theorem redu_SA (x : Rat) : SA (redu x) = SA x ∧ CA (redu x) = CA x := by
  obtain ⟨a, b⟩ := redu_bd x
  unfold SA CA
  rw [redu_id a b]
  exact ⟨rfl, rfl⟩
structure PolarR (X Y R x rho : Rat) : Prop where
  x0 : 0 ≤ x
  x1 : x < 1000000000
  r0 : 0 < rho
  R0 : 0 < R
  Rr : R ≤ 3 / 2 * rho
  nx : Near X (rho * CA x) (R * (1 / 100000000000000000))
  ny : Near Y (rho * SA x) (R * (1 / 100000000000000000))
theorem polar_up {X Y R : Rat} (hR : 0 < R) (h : (X + Y = R ∧ 0 ≤ X ∧ 0 ≤ Y) ∨ (-X + Y = R ∧ X ≤ 0 ∧ 0 ≤ Y)) : ∃ x rho : Rat, 0 ≤ x ∧ x ≤ 500000000 ∧ 0 < rho ∧ R ≤ 3 / 2 * rho ∧ rho ≤ 2 * R ∧ Near X (rho * CA x) (R * (1 / 500000000000000000)) ∧ Near Y (rho * SA x) (R * (1 / 500000000000000000)) := by
  have upR : ∀ {U V rho x : Rat}, 0 < rho → 0 ≤ U → 0 ≤ V → U + V ≤ R → 0 ≤ x → x ≤ 250000000 → Near U (rho * CA x) (R * (1 / 1000000000000000000)) → Near V (rho * SA x) (R * (1 / 1000000000000000000)) → rho ≤ 2 * R := by
    intro U V rho x r0 u0 v0 uv x0 x1 nu nv
    have q := quarter_pos x0 x1
    have p := SA_pyth x
    have s1 := SA_le x; have s2 := CA_le x
    have m1 := rmul_bd (a := SA x + 1 / 100000000000000000000000) (b := CA x + 1 / 100000000000000000000000) (A := 2) (B := 2) (by unfold ep at s1; grind) (by unfold ep at s2; grind)
    have m2 := Rat.mul_nonneg (show 0 ≤ SA x + 1 / 100000000000000000000000 by grind) (show 0 ≤ CA x + 1 / 100000000000000000000000 by grind)
    have s : 9 / 10 ≤ CA x + SA x := by
      apply Rat.not_lt.1
      intro l
      have m := rmul_bd (a := CA x + SA x) (b := CA x + SA x) (A := 9 / 10) (B := 9 / 10) (by grind) (by grind)
      unfold Near ep at *
      generalize CA x = c at *
      generalize SA x = t at *
      clear nu nv m1
      grind
    have m := Rat.mul_le_mul_of_nonneg_left s (Rat.le_of_lt r0)
    unfold Near at nu nv
    generalize CA x = c at *
    generalize SA x = t at *
    clear m1 m2 p q s1 s2 s
    grind
  rcases h with ⟨h1, h2, h3⟩ | ⟨h1, h2, h3⟩
  · obtain ⟨x, rho, a0, a1, a2, a3, a4, a5⟩ := polarR h2 h3 h1 hR
    have u := upR a2 h2 h3 (by grind) a0 a1 a4 a5
    exact ⟨x, rho, a0, by grind, a2, a3, u, near_weak a4 (by grind), near_weak a5 (by grind)⟩
  · obtain ⟨x, rho, a0, a1, a2, a3, a4, a5⟩ := polarR (X := Y) (Y := -X) (R := R) h3 (by grind) (by grind) hR
    have u := upR a2 h3 (show 0 ≤ -X by grind) (by grind) a0 a1 a4 a5
    have c := ca_q x; have s := ca_sa x
    have m1 := rmul_bd (a := rho) (b := CA (x + 250000000) - -SA x) (A := 2 * R) (B := 20 * e2) (by grind) (by unfold Near at c; grind)
    have m2 := rmul_bd (a := rho) (b := SA (x + 250000000) - CA x) (A := 2 * R) (B := 2 * e2) (by grind) (by unfold Near at s; grind)
    refine ⟨x + 250000000, rho, by grind, by grind, a2, a3, u, ?_, ?_⟩
    · clear m2 c s
      unfold Near e2 at *
      generalize CA (x + 250000000) = c1 at *
      generalize SA x = c2 at *
      constructor <;> grind
    · clear m1 c s
      unfold Near e2 at *
      generalize SA (x + 250000000) = c1 at *
      generalize CA x = c2 at *
      constructor <;> grind
theorem polar4 {X Y A : Rat} (hX : -A ≤ X ∧ X ≤ A) (hY : -A ≤ Y ∧ Y ≤ A) (h : X ≠ 0 ∨ Y ≠ 0) : ∃ R x rho : Rat, PolarR X Y R x rho ∧ rho ≤ 4 * A ∧ R ≤ 2 * A := by
  by_cases c : 0 ≤ Y
  · obtain ⟨R, hR, hR2, hh⟩ : ∃ R : Rat, 0 < R ∧ R ≤ 2 * A ∧ ((X + Y = R ∧ 0 ≤ X ∧ 0 ≤ Y) ∨ (-X + Y = R ∧ X ≤ 0 ∧ 0 ≤ Y)) := by
      by_cases d : 0 ≤ X
      · exact ⟨X + Y, by grind, by grind, .inl ⟨rfl, d, c⟩⟩
      · exact ⟨-X + Y, by grind, by grind, .inr ⟨rfl, by grind, c⟩⟩
    obtain ⟨x, rho, a0, a1, a2, a3, u, a4, a5⟩ := polar_up hR hh
    exact ⟨R, x, rho, ⟨a0, by grind, a2, hR, a3, near_weak a4 (by grind), near_weak a5 (by grind)⟩, by grind, hR2⟩
  · obtain ⟨R, hR, hR2, hh⟩ : ∃ R : Rat, 0 < R ∧ R ≤ 2 * A ∧ ((-X + -Y = R ∧ 0 ≤ -X ∧ 0 ≤ -Y) ∨ (- -X + -Y = R ∧ -X ≤ 0 ∧ 0 ≤ -Y)) := by
      by_cases d : 0 ≤ X
      · exact ⟨X - Y, by grind, by grind, .inr ⟨by grind, by grind, by grind⟩⟩
      · exact ⟨-X - Y, by grind, by grind, .inl ⟨by grind, by grind, by grind⟩⟩
    obtain ⟨x, rho, a0, a1, a2, a3, u, a4, a5⟩ := polar_up hR hh
    have s := sa_half (-x); have s2 := (SCA_neg x).1
    have k := ca_half (-x); have k2 := (SCA_neg x).2
    rw [show 500000000 - -x = x + 500000000 by grind] at s k
    have n1 : Near (SA (x + 500000000)) (-SA x) (12 * e2) := by unfold Near e2 at *; clear k k2; constructor <;> grind
    have n2 : Near (CA (x + 500000000)) (-CA x) (22 * e2) := by unfold Near e2 at *; clear s s2; constructor <;> grind
    have m1 := rmul_bd (a := rho) (b := SA (x + 500000000) - -SA x) (A := 2 * R) (B := 12 * e2) (by grind) (by unfold Near at n1; grind)
    have m2 := rmul_bd (a := rho) (b := CA (x + 500000000) - -CA x) (A := 2 * R) (B := 22 * e2) (by grind) (by unfold Near at n2; grind)
    obtain ⟨e1, e3⟩ := redu_SA (x + 500000000)
    obtain ⟨b0, b1⟩ := redu_bd (x + 500000000)
    refine ⟨R, redu (x + 500000000), rho, ⟨b0, b1, a2, hR, a3, ?_, ?_⟩, by grind, hR2⟩
    · rw [e3]
      clear m1 s s2 k k2 n1 n2 e1 b0 b1
      unfold Near e2 at *
      generalize CA (x + 500000000) = c1 at *
      generalize CA x = c2 at *
      constructor <;> grind
    · rw [e1]
      clear m2 s s2 k k2 n1 n2 e3 b0 b1
      unfold Near e2 at *
      generalize SA (x + 500000000) = c1 at *
      generalize SA x = c2 at *
      constructor <;> grind
end Go.Proofs.YtcopmgnfakjdhaaGreatDoor
