/- Merged by wip/tools/pack.py out of XRealA, XSaG, XSoNear. -/
import Derived.Test.YtdifeoahaegjbaaGreatDoorTrigA
import Derived.Test.YtdifeoahaegjbaaGreatDoorTrigOs
/- Sines and cosines of rational angles (in billionths of a turn), less their whole turns: the theorem of addition, how far they move. Plain. -/
namespace Go.Proofs.YtdifeoahaegjbaaGreatDoor
set_option linter.unusedSimpArgs false
set_option linter.unusedVariables false
/-- An angle less its whole turns. -/
def redu (x : Rat) : Rat := x - 1000000000 * (((x / 1000000000).floor : Int) : Rat)
theorem redu_bd (x : Rat) : 0 ≤ redu x ∧ redu x < 1000000000 := by
  have a := Rat.floor_le (x / 1000000000)
  have b := Rat.lt_floor_add_one (x / 1000000000)
  rw [int_rat] at b
  unfold redu
  constructor <;> grind
theorem redu_of {x y : Rat} {k : Int} (h : x = y + 1000000000 * (k : Rat)) (h0 : 0 ≤ y) (h1 : y < 1000000000) : redu x = y := by
  have e : x / 1000000000 = y / 1000000000 + (k : Rat) := by grind
  have f : (y / 1000000000).floor = 0 := by
    have l : (0 : Int) ≤ (y / 1000000000).floor := Rat.le_floor_iff.2 (by rw [show ((0 : Int) : Rat) = 0 from rfl]; grind)
    have u : (y / 1000000000).floor < 1 := Rat.floor_lt_iff.2 (by rw [show ((1 : Int) : Rat) = 1 from rfl]; grind)
    omega
  unfold redu
  rw [e, Rat.floor_add_intCast, f]
  rw [show (0 + k : Int) = k by omega]
  grind
theorem redu_eq (x : Rat) : ∃ k : Int, x = redu x + 1000000000 * (k : Rat) := ⟨(x / 1000000000).floor, by unfold redu; grind⟩
theorem redu_turn (x : Rat) (k : Int) : redu (x + 1000000000 * (k : Rat)) = redu x := by
  obtain ⟨j, hj⟩ := redu_eq x
  obtain ⟨a, b⟩ := redu_bd x
  refine redu_of (k := j + k) ?_ a b
  rw [Rat.intCast_add]
  grind
theorem redu_id {x : Rat} (h0 : 0 ≤ x) (h1 : x < 1000000000) : redu x = x := redu_of (k := 0) (by rw [show ((0 : Int) : Rat) = 0 from rfl]; grind) h0 h1
theorem redu_add (x y : Rat) : redu (x + y) = redu x + redu y ∨ redu (x + y) + 1000000000 = redu x + redu y := by
  obtain ⟨j, hj⟩ := redu_eq x
  obtain ⟨k, hk⟩ := redu_eq y
  obtain ⟨a, b⟩ := redu_bd x
  obtain ⟨c, d⟩ := redu_bd y
  by_cases h : redu x + redu y < 1000000000
  · left
    refine redu_of (k := j + k) ?_ (by grind) h
    rw [Rat.intCast_add]
    generalize redu x = p at *
    generalize redu y = q at *
    grind
  · right
    have : redu (x + y) = redu x + redu y - 1000000000 := by
      refine redu_of (k := j + k + 1) ?_ (by grind) (by grind)
      rw [Rat.intCast_add, Rat.intCast_add, show ((1 : Int) : Rat) = 1 from rfl]
      generalize redu x = p at *
      generalize redu y = q at *
      grind
    grind
/-- Radians. -/
def ra (x : Rat) : Rat := 8 * qq * (x / 1000000000)
theorem ra_add (x y : Rat) : ra (x + y) = ra x + ra y := by unfold ra; grind
theorem ra_turn : ra 1000000000 = 8 * qq := by unfold ra; grind
theorem ra_bd {x : Rat} (h0 : 0 ≤ x) (h1 : x ≤ 1000000000) : 0 ≤ ra x ∧ ra x ≤ 6284 / 1000 := by
  have q := qq_b9
  have m := prod_bd (s := qq) (t := x / 1000000000) (S := 7853982 / 10000000) (T := 1) (by grind) q.2 (by grind) (by grind)
  have p := Rat.mul_nonneg (show 0 ≤ qq by grind) (show 0 ≤ x / 1000000000 by grind)
  unfold ra
  rw [show 8 * qq * (x / 1000000000) = 8 * (qq * (x / 1000000000)) by grind]
  generalize qq * (x / 1000000000) = z at *
  constructor <;> grind
theorem ra_8 (x : Rat) : -8 ≤ ra (redu x) ∧ ra (redu x) ≤ 8 := by
  obtain ⟨a, b⟩ := redu_bd x
  have := ra_bd a (Rat.le_of_lt b)
  constructor <;> grind
/-- The sine and the cosine of an angle. -/
def SA (x : Rat) : Rat := sn (ra (redu x))
def CA (x : Rat) : Rat := cs (ra (redu x))
theorem redu_int (a : Int) : redu (a : Rat) = ((a % 1000000000 : Int) : Rat) := by
  refine redu_of (k := a / 1000000000) ?_ ?_ ?_
  · have h : a = a % 1000000000 + 1000000000 * (a / 1000000000) := by omega
    have e := congrArg (fun n : Int => (n : Rat)) h
    (try dsimp only at e)
    rw [Rat.intCast_add, Rat.intCast_mul] at e
    exact e
  · rw [← show ((0 : Int) : Rat) = 0 from rfl]; exact Rat.intCast_le_intCast.2 (by omega)
  · rw [← show ((1000000000 : Int) : Rat) = 1000000000 from rfl]; exact Rat.intCast_lt_intCast.2 (by omega)
theorem SA_int (a : Int) : SA (a : Rat) = SN a := by unfold SA SN; rw [redu_int]; rfl
theorem CA_int (a : Int) : CA (a : Rat) = CN a := by unfold CA CN; rw [redu_int]; rfl
theorem SA_turn (x : Rat) (k : Int) : SA (x + 1000000000 * (k : Rat)) = SA x := by unfold SA; rw [redu_turn]
theorem CA_turn (x : Rat) (k : Int) : CA (x + 1000000000 * (k : Rat)) = CA x := by unfold CA; rw [redu_turn]
theorem SA_le (x : Rat) : -(1 + ep) ≤ SA x ∧ SA x ≤ 1 + ep := sn_le (ra_8 x)
theorem CA_le (x : Rat) : -(1 + ep) ≤ CA x ∧ CA x ≤ 1 + ep := cs_le (ra_8 x)
theorem SA_pyth (x : Rat) : Near (CA x * CA x + SA x * SA x) 1 ep := pyth (ra_8 x)
theorem SCA_add (x y : Rat) : Near (SA (x + y)) (SA x * CA y + CA x * SA y) e2 ∧ Near (CA (x + y)) (CA x * CA y - SA x * SA y) e2 := by
  have s := sn_add (ra_8 x) (ra_8 y)
  have c := cs_add (ra_8 x) (ra_8 y)
  rw [← ra_add] at s c
  unfold SA CA
  have t := turn_any (ra_8 (x + y))
  rw [← ra_turn, ← ra_add] at t
  rcases redu_add x y with h | h
  · rw [h]
    exact ⟨near_weak s (by unfold e2 ep; grind), near_weak c (by unfold e2 ep; grind)⟩
  · rw [← h] at s c
    obtain ⟨t1, t2⟩ := t
    unfold Near e2 ep eq1 at *
    generalize sn (ra (redu (x + y) + 1000000000)) = p1 at *
    generalize cs (ra (redu (x + y) + 1000000000)) = p2 at *
    generalize sn (ra (redu (x + y))) = p3 at *
    generalize cs (ra (redu (x + y))) = p4 at *
    generalize sn (ra (redu x)) * cs (ra (redu y)) + cs (ra (redu x)) * sn (ra (redu y)) = p5 at *
    generalize cs (ra (redu x)) * cs (ra (redu y)) - sn (ra (redu x)) * sn (ra (redu y)) = p6 at *
    clear h
    grind
theorem redu_zero : redu 0 = 0 := redu_id (by grind) (by grind)
theorem SA_0 : SA 0 = 0 := by unfold SA; rw [redu_zero]; unfold ra; rw [show 8 * qq * (0 / 1000000000) = 0 by grind, sn_zero]
theorem CA_0 : CA 0 = 1 := by unfold CA; rw [redu_zero]; unfold ra; rw [show 8 * qq * (0 / 1000000000) = 0 by grind, cs_zero]
theorem SCA_neg (x : Rat) : Near (SA (-x)) (-SA x) e2 ∧ Near (CA (-x)) (CA x) e2 := by
  obtain ⟨a, b⟩ := redu_bd x
  obtain ⟨k, hk⟩ := redu_eq x
  by_cases h : redu x = 0
  · have e : redu (-x) = 0 := redu_of (k := -k) (by rw [Rat.intCast_neg]; grind) (by grind) (by grind)
    unfold SA CA
    rw [h, e]
    unfold ra
    rw [show 8 * qq * (0 / 1000000000) = 0 by grind, sn_zero, cs_zero]
    unfold Near e2; grind
  · have e : redu (-x) = -redu x + 1000000000 := redu_of (k := -k - 1) (by rw [Rat.intCast_sub, Rat.intCast_neg, show ((1 : Int) : Rat) = 1 from rfl]; grind) (by grind) (by grind)
    unfold SA CA
    have en : ra (-redu x) = -ra (redu x) := by unfold ra; grind
    rw [e, ra_add, ra_turn, en]
    have b8 := ra_8 x
    have t := turn_any (x := -ra (redu x)) (by grind)
    rw [sn_neg, cs_neg] at t
    exact ⟨near_weak t.1 (by unfold e2 eq1; grind), near_weak t.2 (by unfold e2 eq1; grind)⟩
/-- A sine is not greater than its arc. -/
theorem sn_arc_step {x : Rat} (h0 : 0 ≤ x) (h4 : x ≤ 4) : ∀ n : Nat, ss (sf x) (4 * n + 2) ≤ x
  | 0 => by
    show ((0 : Rat) + sf x 0) + sf x 1 ≤ x
    have a : sf x 0 = 0 := by unfold sf; show (0 : Rat) * _ = 0; grind
    have b : sf x 1 = x := by
      unfold sf
      show (1 : Rat) * pw x 1 = x
      have := pw_mul x 0
      rw [show ((0 : Nat) : Rat) = 0 from rfl] at this
      have z : pw x 0 = 1 := rfl
      rw [z] at this
      grind
    rw [a, b]; grind
  | n + 1 => by
    have ih := sn_arc_step h0 h4 n
    show (((ss (sf x) (4 * n + 2) + sf x (4 * n + 2)) + sf x (4 * n + 3)) + sf x (4 * n + 4)) + sf x (4 * n + 5) ≤ x
    have m2 : (4 * n + 2) % 4 = 2 := by omega
    have m3 : (4 * n + 3) % 4 = 3 := by omega
    have m4 : (4 * n + 4) % 4 = 0 := by omega
    have m5 : (4 * n + 5) % 4 = 1 := by omega
    have a2 : sf x (4 * n + 2) = 0 := by unfold sf sc; rw [m2]; show (0 : Rat) * _ = 0; grind
    have a3 : sf x (4 * n + 3) = -pw x (4 * n + 3) := by unfold sf sc; rw [m3]; show (-1 : Rat) * _ = _; grind
    have a4 : sf x (4 * n + 4) = 0 := by unfold sf sc; rw [m4]; show (0 : Rat) * _ = 0; grind
    have a5 : sf x (4 * n + 5) = pw x (4 * n + 5) := by unfold sf sc; rw [m5]; show (1 : Rat) * _ = _; grind
    rw [a2, a3, a4, a5]
    have p3 := pw_nonneg h0 (4 * n + 3)
    have p4 := pw_nonneg h0 (4 * n + 4)
    have p5 := pw_nonneg h0 (4 * n + 5)
    have e4 := pw_mul x (4 * n + 3)
    have e5 := pw_mul x (4 * n + 4)
    have c3 : (3 : Rat) ≤ ((4 * n + 3 : Nat) : Rat) := by rw [← show ((3 : Nat) : Rat) = 3 from rfl]; exact Rat.natCast_le_natCast.2 (by omega)
    have c4 : (4 : Rat) ≤ ((4 * n + 4 : Nat) : Rat) := by rw [← show ((4 : Nat) : Rat) = 4 from rfl]; exact Rat.natCast_le_natCast.2 (by omega)
    have e4' : (((4 * n + 3 : Nat) : Rat) + 1) * pw x (4 * n + 4) = x * pw x (4 * n + 3) := e4
    have e5' : (((4 * n + 4 : Nat) : Rat) + 1) * pw x (4 * n + 5) = x * pw x (4 * n + 4) := e5
    clear e4 e5 m2 m3 m4 m5 a2 a3 a4 a5
    generalize pw x (4 * n + 3) = q3 at *
    generalize pw x (4 * n + 4) = q4 at *
    generalize pw x (4 * n + 5) = q5 at *
    generalize ((4 * n + 3 : Nat) : Rat) = f3 at *
    generalize ((4 * n + 4 : Nat) : Rat) = f4 at *
    have x4 := Rat.mul_le_mul_of_nonneg_right h4 p3
    have x5 := Rat.mul_le_mul_of_nonneg_right h4 p4
    have y4 := Rat.mul_le_mul_of_nonneg_right c3 p4
    have y5 := Rat.mul_le_mul_of_nonneg_right c4 p5
    have z1 : q4 ≤ q3 := by grind
    have z2 : q5 ≤ q4 := by grind
    grind
theorem sn_arc {x : Rat} (h0 : 0 ≤ x) (h4 : x ≤ 4) : sn x ≤ x := sn_arc_step h0 h4 22
/-- How far the sine and the cosine move. -/
theorem SA_chord {y d m : Rat} (h : -m ≤ SA (d / 2) ∧ SA (d / 2) ≤ m) (h2 : m ≤ 2) : Near (SA (y + d)) (SA y) (2 * m + 1 / 1000000000000000000000) := by
  obtain ⟨a1, -⟩ := SCA_add (y + d / 2) (d / 2)
  obtain ⟨b1, -⟩ := SCA_add (y + d / 2) (-(d / 2))
  rw [show y + d / 2 + d / 2 = y + d by grind] at a1
  rw [show y + d / 2 + -(d / 2) = y by grind] at b1
  obtain ⟨n1, n2⟩ := SCA_neg (d / 2)
  have s := SA_le (y + d / 2); have c := CA_le (y + d / 2)
  have g := SA_le (d / 2)
  have m1 := rmul_bd s (show -e2 ≤ CA (-(d / 2)) - CA (d / 2) ∧ CA (-(d / 2)) - CA (d / 2) ≤ e2 by unfold Near at n2; grind)
  have m2 := rmul_bd c (show -e2 ≤ SA (-(d / 2)) + SA (d / 2) ∧ SA (-(d / 2)) + SA (d / 2) ≤ e2 by unfold Near at n1; grind)
  have m3 := rmul_bd c h
  unfold Near at *
  generalize SA (y + d) = x1 at *
  generalize SA y = x2 at *
  generalize SA (y + d / 2) = x3 at *
  generalize CA (y + d / 2) = x4 at *
  generalize SA (-(d / 2)) = x5 at *
  generalize CA (-(d / 2)) = x6 at *
  generalize SA (d / 2) = x7 at *
  generalize CA (d / 2) = x8 at *
  clear n1 n2 s c g
  unfold e2 ep at *
  constructor <;> grind
theorem CA_chord {y d m : Rat} (h : -m ≤ SA (d / 2) ∧ SA (d / 2) ≤ m) (h2 : m ≤ 2) : Near (CA (y + d)) (CA y) (2 * m + 1 / 1000000000000000000000) := by
  obtain ⟨-, a1⟩ := SCA_add (y + d / 2) (d / 2)
  obtain ⟨-, b1⟩ := SCA_add (y + d / 2) (-(d / 2))
  rw [show y + d / 2 + d / 2 = y + d by grind] at a1
  rw [show y + d / 2 + -(d / 2) = y by grind] at b1
  obtain ⟨n1, n2⟩ := SCA_neg (d / 2)
  have s := SA_le (y + d / 2); have c := CA_le (y + d / 2)
  have m1 := rmul_bd c (show -e2 ≤ CA (-(d / 2)) - CA (d / 2) ∧ CA (-(d / 2)) - CA (d / 2) ≤ e2 by unfold Near at n2; grind)
  have m2 := rmul_bd s (show -e2 ≤ SA (-(d / 2)) + SA (d / 2) ∧ SA (-(d / 2)) + SA (d / 2) ≤ e2 by unfold Near at n1; grind)
  have m3 := rmul_bd s h
  unfold Near at *
  generalize CA (y + d) = x1 at *
  generalize CA y = x2 at *
  generalize SA (y + d / 2) = x3 at *
  generalize CA (y + d / 2) = x4 at *
  generalize SA (-(d / 2)) = x5 at *
  generalize CA (-(d / 2)) = x6 at *
  generalize SA (d / 2) = x7 at *
  generalize CA (d / 2) = x8 at *
  clear n1 n2 s c
  unfold e2 ep at *
  constructor <;> grind
theorem SA_small {h : Rat} (h0 : 0 ≤ h) (h1 : h ≤ 500000000) : -(1 / 1000000000000000000000000) ≤ SA h ∧ SA h ≤ ra h := by
  unfold SA
  rw [redu_id h0 (by grind)]
  have b := ra_bd h0 (by grind)
  have q := qq_b9
  have m := ra_bd (x := 2 * h) (by grind) (by grind)
  have e : ra (2 * h) = 2 * ra h := by unfold ra; grind
  have hq : ra h ≤ 4 * qq := by
    clear b m e
    have := Rat.mul_le_mul_of_nonneg_left (show h / 1000000000 ≤ 1 / 2 by grind) (show 0 ≤ 8 * qq by grind)
    unfold ra
    generalize qq = p at *
    grind
  exact ⟨sn_upper b.1 hq, sn_arc b.1 (by grind)⟩
theorem SA_lip {y d : Rat} (h : 0 ≤ d) : Near (SA (y + d)) (SA y) (ra d + 1 / 100000000000000000000) ∧ Near (CA (y + d)) (CA y) (ra d + 1 / 100000000000000000000) := by
  by_cases c : d < 1000000000
  · have rp : 0 ≤ ra d := (ra_bd h (by grind)).1
    have m := SA_small (h := d / 2) (by grind) (by grind)
    have b := ra_bd (x := d) h (by grind)
    have b2 := ra_bd (x := d / 2) (by grind) (by grind)
    have e : ra (d / 2) = ra d / 2 := by unfold ra; grind
    have k : -(ra d / 2 + 1 / 1000000000000000000000000) ≤ SA (d / 2) ∧ SA (d / 2) ≤ ra d / 2 + 1 / 1000000000000000000000000 := by rw [e] at m; clear e b b2; grind
    by_cases k2 : ra d ≤ 3
    · have s := SA_chord (y := y) k (by grind); have t := CA_chord (y := y) k (by grind)
      exact ⟨near_weak s (by grind), near_weak t (by grind)⟩
    · have s := SA_le (y + d); have t := SA_le y
      have s2 := CA_le (y + d); have t2 := CA_le y
      clear m k e b b2
      unfold Near ep at *
      constructor <;> constructor <;> grind
  · have s := SA_le (y + d); have t := SA_le y
    have s2 := CA_le (y + d); have t2 := CA_le y
    have q := qq_b9
    have : 6 ≤ ra d := by
      clear s t s2 t2
      have := Rat.mul_le_mul_of_nonneg_left (show 1 ≤ d / 1000000000 by grind) (show 0 ≤ 8 * qq by grind)
      unfold ra
      generalize qq = p at *
      grind
    clear q c h
    generalize ra d = r at *
    unfold Near ep at *
    constructor <;> constructor <;> grind
/-- How far sines move, whatever the direction. -/
theorem ra_mono {x y : Rat} (h : x ≤ y) : ra x ≤ ra y := by
  have q := qq_b9
  have := Rat.mul_le_mul_of_nonneg_left (show x / 1000000000 ≤ y / 1000000000 by grind) (show 0 ≤ 8 * qq by grind)
  exact this
theorem SA_lipD {y d D : Rat} (h : -D ≤ d ∧ d ≤ D) : Near (SA (y + d)) (SA y) (ra D + 1 / 100000000000000000000) ∧ Near (CA (y + d)) (CA y) (ra D + 1 / 100000000000000000000) := by
  by_cases c : 0 ≤ d
  · obtain ⟨a, b⟩ := SA_lip (y := y) c
    have m := ra_mono h.2
    exact ⟨near_weak a (by grind), near_weak b (by grind)⟩
  · obtain ⟨a, b⟩ := SA_lip (y := y + d) (d := -d) (by grind)
    rw [show y + d + -d = y by grind] at a b
    have m := ra_mono (show -d ≤ D by grind)
    unfold Near at *
    generalize ra D = u at *
    generalize ra (-d) = v at *
    constructor <;> constructor <;> grind
end Go.Proofs.YtdifeoahaegjbaaGreatDoor
/- Sines grow, cosines fall in the first quarter (the first part of XTopPhM as a text of its own, for the eclipses: no claim may hold both). Plain. -/
namespace Go.Proofs.YtdifeoahaegjbaaGreatDoor
set_option linter.unusedSimpArgs false
set_option linter.unusedVariables false
theorem sa_q : Near (SA 250000000) 1 (4 * eq1) ∧ Near (CA 250000000) 0 (4 * eq1) := by
  have q1 := SN_q1; have q2 := CN_q1
  rw [← SA_int] at q1
  rw [← CA_int] at q2
  exact ⟨q1, q2⟩
theorem ca_sa (x : Rat) : Near (SA (x + 250000000)) (CA x) (2 * e2) := by
  have h := (SCA_add x 250000000).1
  have b := SA_le x; have c := CA_le x
  obtain ⟨q1, q2⟩ := sa_q
  have m1 := rmul_bd b (show -(4 * eq1) ≤ CA 250000000 ∧ CA 250000000 ≤ 4 * eq1 by unfold Near at q2; grind)
  have m2 := rmul_bd c (show -(4 * eq1) ≤ SA 250000000 - 1 ∧ SA 250000000 - 1 ≤ 4 * eq1 by unfold Near at q1; grind)
  unfold Near at *
  generalize SA (x + 250000000) = u at *
  generalize SA 250000000 = y at *
  generalize CA 250000000 = z at *
  clear q1 q2 b c
  unfold e2 eq1 ep at *
  grind
theorem sa_pos {x : Rat} (h0 : 0 ≤ x) (h1 : x ≤ 250000000) : -(1 / 100000000000000000000000) ≤ SA x ∧ -(1 / 100000000000000000000000) ≤ CA x := by
  have a := SA_small (h := x) h0 (by grind)
  have b := SA_small (h := x + 250000000) (by grind) (by grind)
  have c := ca_sa x
  unfold Near e2 at c
  constructor <;> grind
theorem sa_grow {x y : Rat} (h0 : 0 ≤ x) (h1 : x ≤ y) (h2 : y ≤ 250000000) : SA x - 1 / 100000000000000000000 ≤ SA y := by
  obtain ⟨d, hd⟩ : ∃ d, d = (y - x) / 2 := ⟨_, rfl⟩
  have d0 : 0 ≤ d := by grind
  have d1 : d ≤ 125000000 := by grind
  obtain ⟨a1, -⟩ := SCA_add (x + d) d
  obtain ⟨a2, -⟩ := SCA_add (x + d) (-d)
  rw [show x + d + d = y by grind] at a1
  rw [show x + d + -d = x by grind] at a2
  obtain ⟨n1, n2⟩ := SCA_neg d
  have c := (sa_pos (x := x + d) (by grind) (by grind)).2
  have sd := SA_small (h := d) d0 (by grind)
  have sb := SA_le (x + d); have cb := CA_le (x + d); have sdb := SA_le d; have cdb := CA_le d
  have m1 := rmul_bd (a := SA (x + d)) (b := CA (-d) - CA d) (A := 1 + ep) (B := e2) sb (by unfold Near at n2; grind)
  have m2 := rmul_bd (a := CA (x + d)) (b := SA (-d) + SA d) (A := 1 + ep) (B := e2) cb (by unfold Near at n1; grind)
  have m3 : -(1 / 10000000000000000000000) ≤ CA (x + d) * SA d := by
    have p := Rat.mul_nonneg (show 0 ≤ CA (x + d) + 1 / 100000000000000000000000 by grind) (show 0 ≤ SA d + 1 / 1000000000000000000000000 by grind)
    clear m1 m2 n1 n2 a1 a2
    unfold ep at *
    generalize CA (x + d) = u at *
    generalize SA d = v at *
    grind
  unfold Near e2 ep at *
  generalize SA x = x1 at *
  generalize SA y = x2 at *
  generalize SA (x + d) = x3 at *
  generalize CA (x + d) = x4 at *
  generalize SA (-d) = x5 at *
  generalize CA (-d) = x6 at *
  generalize SA d = x7 at *
  generalize CA d = x8 at *
  clear n1 n2 sb cb sdb cdb sd c hd
  grind
theorem ca_back (x : Rat) : Near (SA (250000000 - x)) (CA x) (3 * e2) := by
  have a := ca_sa (-x)
  have b := (SCA_neg x).2
  rw [show -x + 250000000 = 250000000 - x by grind] at a
  unfold Near at *
  constructor <;> grind
theorem ca_fall {x y : Rat} (h0 : 0 ≤ x) (h1 : x ≤ y) (h2 : y ≤ 250000000) : CA y ≤ CA x + 1 / 10000000000000000000 := by
  have g := sa_grow (x := 250000000 - y) (y := 250000000 - x) (by grind) (by grind) (by grind)
  have a := ca_back x
  have b := ca_back y
  unfold Near e2 at *
  grind
theorem sa_half (x : Rat) : Near (SA (500000000 - x)) (SA x) (10 * e2) := by
  have a := ca_sa (250000000 - x)
  rw [show 250000000 - x + 250000000 = 500000000 - x by grind] at a
  have b := ca_back (250000000 - x)
  rw [show 250000000 - (250000000 - x) = x by grind] at b
  unfold Near at *
  constructor <;> grind
theorem ca_half (x : Rat) : Near (CA (500000000 - x)) (-CA x) (20 * e2) := by
  have a := ca_back (500000000 - x)
  rw [show 250000000 - (500000000 - x) = -(250000000 - x) by grind] at a
  have b := (SCA_neg (250000000 - x)).1
  have c := ca_back x
  unfold Near at *
  constructor <;> grind
theorem sa_num (n : Int) : (sLo n : Rat) - 1 / 1000000000 ≤ 1000000000 * SA (n : Rat) ∧ 1000000000 * SA (n : Rat) ≤ (sHi n : Rat) + 1 / 1000000000 := by
  have s := sine_in n
  have l := s.lo; have h := s.hi
  rw [SA_int]
  constructor <;> grind
theorem sa_nums : (86598000 ≤ sLo 13800000 ∧ 168200000 ≤ sLo 26900000) ∧ 991940000 ≤ sLo 229800000 := by decide +kernel
theorem cos_falls {A d : Rat} (h0 : 13800000 ≤ A) (h1 : A + d ≤ 473100000) (d0 : 13800000 ≤ d) (d1 : d ≤ 20200000) : CA (A + d) + 3 / 1000 ≤ CA A := by
  obtain ⟨⟨n1, n2⟩, n3⟩ := sa_nums
  have s1 := (sa_num 13800000).1; have s2 := (sa_num 26900000).1; have s3 := (sa_num 229800000).1
  rw [show ((13800000 : Int) : Rat) = 13800000 from rfl] at s1
  rw [show ((26900000 : Int) : Rat) = 26900000 from rfl] at s2
  rw [show ((229800000 : Int) : Rat) = 229800000 from rfl] at s3
  have n1' := Rat.intCast_le_intCast.2 n1
  have n2' := Rat.intCast_le_intCast.2 n2
  have n3' := Rat.intCast_le_intCast.2 n3
  rw [show ((86598000 : Int) : Rat) = 86598000 from rfl] at n1'
  rw [show ((168200000 : Int) : Rat) = 168200000 from rfl] at n2'
  rw [show ((991940000 : Int) : Rat) = 991940000 from rfl] at n3'
  have ad := (SCA_add A d).2
  -- the sine of d, the cosine of d
  have sd : 86597 / 1000000 ≤ SA d := by
    have g := sa_grow (x := 13800000) (y := d) (by grind) d0 (by grind)
    clear ad s2 s3 n2' n3'
    grind
  have cd : 99193 / 100000 ≤ CA d := by
    have g := ca_fall (x := d) (y := 20200000) (by grind) d1 (by grind)
    have b := ca_back 20200000
    rw [show (250000000 : Rat) - 20200000 = 229800000 by grind] at b
    unfold Near e2 at b
    clear ad s1 s2 n1' n2' sd
    grind
  have cdb := (CA_le d).2
  have cb := (CA_le A).1
  have caB := (CA_le A).2
  clear s3 n3' n1 n2 n3
  by_cases c : A ≤ 250000000
  · have sA : 86597 / 1000000 ≤ SA A := by
      have g := sa_grow (x := 13800000) (y := A) (by grind) h0 c
      clear ad s2 n2' sd cd
      grind
    have cA := (sa_pos (x := A) (by grind) c).2
    have p := Rat.mul_nonneg (show 0 ≤ SA A - 86597 / 1000000 by grind) (show 0 ≤ SA d - 86597 / 1000000 by grind)
    have q := Rat.mul_nonneg (show 0 ≤ CA A + 1 / 100000000000000000000000 by grind) (show 0 ≤ 1 + ep - CA d by grind)
    unfold Near e2 ep at *
    clear s1 s2 n1' n2' h0 h1 d0 d1
    generalize CA (A + d) = x at *
    generalize CA A = u at *
    generalize SA A = v at *
    generalize CA d = y at *
    generalize SA d = z at *
    grind
  · obtain ⟨B, hB⟩ : ∃ B, B = 500000000 - A := ⟨_, rfl⟩
    have eB : 500000000 - B = A := by grind
    have eA : SA A = SA (500000000 - B) := by rw [eB]
    have hs := sa_half B
    rw [← eA] at hs
    have sA : 16819 / 100000 ≤ SA A := by
      have g := sa_grow (x := 26900000) (y := B) (by grind) (by grind) (by grind)
      unfold Near e2 at hs
      clear ad s1 n1' sd cd eA
      grind
    have p := Rat.mul_nonneg (show 0 ≤ SA A - 16819 / 100000 by grind) (show 0 ≤ SA d - 86597 / 1000000 by grind)
    have q := Rat.mul_nonneg (show 0 ≤ CA A + (1 + ep) by grind) (show 0 ≤ 1 + ep - CA d by grind)
    unfold Near e2 ep at *
    clear s1 s2 n1' n2' h0 h1 d0 d1 hs eA eB hB
    generalize CA (A + d) = x at *
    generalize CA A = u at *
    generalize SA A = v at *
    generalize CA d = y at *
    generalize SA d = z at *
    grind
end Go.Proofs.YtdifeoahaegjbaaGreatDoor
/- How far the sines of whole angles lie apart; spans over short spans of angles lie near their sines. Plain. -/
namespace Go.Proofs.YtdifeoahaegjbaaGreatDoor
set_option linter.unusedSimpArgs false
set_option linter.unusedVariables false
/-- How far the sines of whole angles lie apart. -/
def kW (W : Int) : Rat := 1000000000 * ra (W : Rat) + 1 / 1000000000
theorem SN_move {a b W : Int} (h : -W ≤ b - a ∧ b - a ≤ W) : Near (1000000000 * SN b) (1000000000 * SN a) (kW W) ∧ Near (1000000000 * CN b) (1000000000 * CN a) (kW W) := by
  have h1 := Rat.intCast_le_intCast.2 h.1
  have h2 := Rat.intCast_le_intCast.2 h.2
  rw [Rat.intCast_neg, Rat.intCast_sub] at h1
  rw [Rat.intCast_sub] at h2
  obtain ⟨l1, l2⟩ := SA_lipD (y := (a : Rat)) (d := (b : Rat) - (a : Rat)) (D := (W : Rat)) ⟨h1, h2⟩
  rw [show (a : Rat) + ((b : Rat) - (a : Rat)) = (b : Rat) by grind, SA_int, SA_int] at l1
  rw [show (a : Rat) + ((b : Rat) - (a : Rat)) = (b : Rat) by grind, CA_int, CA_int] at l2
  unfold kW
  unfold Near at *
  generalize ra (W : Rat) = z at *
  constructor <;> constructor <;> grind
theorem SN_at {c' c : Int} (k : Int) (h : c' = c + 1000000000 * k) : SN c' = SN c := by rw [h, SN_mod]
theorem con_at {a b t : Int} (h : conB a b t) (hw : b - a < 1000000000) : ∃ x, a ≤ x ∧ x ≤ b ∧ ∃ k : Int, x = t + 1000000000 * k := by
  unfold conB at h
  refine ⟨a + (t - a) % 1000000000, by omega, by omega, -((t - a) / 1000000000), by omega⟩
/-- The span of the sines over a short span lies near each of them. -/
theorem so_near {a b x W : Int} (hab : a ≤ b) (hw : b - a ≤ W) (hW : W < 1000000000) (h1 : a ≤ x) (h2 : x ≤ b) : Near (soLo a b : Rat) (1000000000 * SN x) (kW W + 102 / 100) ∧ Near (soHi a b : Rat) (1000000000 * SN x) (kW W + 102 / 100) := by
  have ia := sine_in a; have ib := sine_in b
  have ma := (SN_move (a := x) (b := a) (W := W) (by omega)).1
  have mb := (SN_move (a := x) (b := b) (W := W) (by omega)).1
  have a1 := ia.lo; have a2 := ia.hi; have a3 := ia.lo2; have a4 := ia.hi2
  have b1 := ib.lo; have b2 := ib.hi; have b3 := ib.lo2; have b4 := ib.hi2
  have xl := SN_9 x
  have ml := Rat.intCast_le_intCast.2 (show min (sLo a) (sLo b) ≤ sLo a by omega)
  have ml2 : ((min (sLo a) (sLo b) : Int) : Rat) = (sLo a : Rat) ∨ ((min (sLo a) (sLo b) : Int) : Rat) = (sLo b : Rat) := by
    rcases (by omega : min (sLo a) (sLo b) = sLo a ∨ min (sLo a) (sLo b) = sLo b) with h | h
    · left; rw [h]
    · right; rw [h]
  have mh2 : ((max (sHi a) (sHi b) : Int) : Rat) = (sHi a : Rat) ∨ ((max (sHi a) (sHi b) : Int) : Rat) = (sHi b : Rat) := by
    rcases (by omega : max (sHi a) (sHi b) = sHi a ∨ max (sHi a) (sHi b) = sHi b) with h | h
    · left; rw [h]
    · right; rw [h]
  clear ia ib
  constructor
  · unfold soLo
    split
    · rename_i h
      obtain ⟨c, c1, c2, k, ck⟩ := con_at h (by omega)
      have mc := (SN_move (a := x) (b := c) (W := W) (by omega)).1
      rw [SN_at k ck] at mc
      have q := SN_q3
      rw [show ((-1000000000 : Int) : Rat) = -1000000000 from rfl]
      clear a1 a2 a3 a4 b1 b2 b3 b4 ml ml2 mh2 ma mb
      unfold Near eq1 at *
      generalize SN 750000000 = v at *
      generalize SN x = u at *
      generalize kW W = z at *
      constructor <;> grind
    · clear a2 a4 b2 b4 mh2
      unfold Near at *
      generalize ((min (sLo a) (sLo b) : Int) : Rat) = m at *
      generalize SN x = u at *
      generalize SN a = ua at *
      generalize SN b = ub at *
      generalize kW W = z at *
      constructor <;> grind
  · unfold soHi
    split
    · rename_i h
      obtain ⟨c, c1, c2, k, ck⟩ := con_at h (by omega)
      have mc := (SN_move (a := x) (b := c) (W := W) (by omega)).1
      rw [SN_at k ck] at mc
      have q := SN_q1
      rw [show ((1000000000 : Int) : Rat) = 1000000000 from rfl]
      clear a1 a2 a3 a4 b1 b2 b3 b4 ml ml2 mh2 ma mb
      unfold Near eq1 at *
      generalize SN 250000000 = v at *
      generalize SN x = u at *
      generalize kW W = z at *
      constructor <;> grind
    · clear a1 a3 b1 b3 ml2 ml
      unfold Near at *
      generalize ((max (sHi a) (sHi b) : Int) : Rat) = m at *
      generalize SN x = u at *
      generalize SN a = ua at *
      generalize SN b = ub at *
      generalize kW W = z at *
      constructor <;> grind
theorem co_near {a b x W : Int} (hab : a ≤ b) (hw : b - a ≤ W) (hW : W < 1000000000) (h1 : a ≤ x) (h2 : x ≤ b) : Near (coLo a b : Rat) (1000000000 * CN x) (kW W + 103 / 100) ∧ Near (coHi a b : Rat) (1000000000 * CN x) (kW W + 103 / 100) := by
  unfold coLo coHi
  have e : min (b - a) 2000000000 = b - a := by omega
  rw [e]
  obtain ⟨n1, n2⟩ := so_near (a := a % 1000000000 + 250000000) (b := a % 1000000000 + 250000000 + (b - a)) (x := a % 1000000000 + 250000000 + (x - a)) (W := W) (by omega) (by omega) hW (by omega) (by omega)
  have es : SN (a % 1000000000 + 250000000 + (x - a)) = SN (x + 250000000) := SN_at (-(a / 1000000000)) (by omega)
  rw [es] at n1 n2
  have q := CN_SN x
  unfold Near e2 at *
  generalize SN (x + 250000000) = u at *
  generalize CN x = v at *
  generalize kW W = z at *
  generalize ((soLo (a % 1000000000 + 250000000) (a % 1000000000 + 250000000 + (b - a)) : Int) : Rat) = p1 at *
  generalize ((soHi (a % 1000000000 + 250000000) (a % 1000000000 + 250000000 + (b - a)) : Int) : Rat) = p2 at *
  clear e es
  constructor <;> constructor <;> grind
end Go.Proofs.YtdifeoahaegjbaaGreatDoor
