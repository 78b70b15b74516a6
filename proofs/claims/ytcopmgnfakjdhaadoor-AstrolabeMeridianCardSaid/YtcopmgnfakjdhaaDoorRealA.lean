/- Sines and cosines of rational angles (in billionths of a turn), less their whole turns: the theorem of addition, how far they move. Plain. -/
import Derived.Test.YtcopmgnfakjdhaaDoorTrigV
namespace Go.Proofs.YtcopmgnfakjdhaaDoor
set_option linter.unusedSimpArgs false
set_option linter.unusedVariables false
/-- An angle less its whole turns. -/
def redu (x : Rat) : Rat := x - 1000000000 * (((x / 1000000000).floor : Int) : Rat)
theorem redu_bd (x : Rat) : 0 ≤ redu x ∧ redu x < 1000000000 := by
  have a := Rat.floor_le (x / 1000000000)
  have b := Rat.lt_floor_add_one (x / 1000000000)
  rw [int_rat] at b
  unfold redu
  constructor <;> grind
theorem redu_of {x y : Rat} {k : Int} (h : x = y + 1000000000 * (k : Rat)) (h0 : 0 ≤ y) (h1 : y < 1000000000) : redu x = y := by
  have e : x / 1000000000 = y / 1000000000 + (k : Rat) := by grind
  have f : (y / 1000000000).floor = 0 := by
    have l : (0 : Int) ≤ (y / 1000000000).floor := Rat.le_floor_iff.2 (by rw [show ((0 : Int) : Rat) = 0 from rfl]; grind)
    have u : (y / 1000000000).floor < 1 := Rat.floor_lt_iff.2 (by rw [show ((1 : Int) : Rat) = 1 from rfl]; grind)
    omega
  unfold redu
  rw [e, Rat.floor_add_intCast, f]
  rw [show (0 + k : Int) = k by omega]
  grind
theorem redu_eq (x : Rat) : ∃ k : Int, x = redu x + 1000000000 * (k : Rat) := ⟨(x / 1000000000).floor, by unfold redu; grind⟩
theorem redu_turn (x : Rat) (k : Int) : redu (x + 1000000000 * (k : Rat)) = redu x := by
  obtain ⟨j, hj⟩ := redu_eq x
  obtain ⟨a, b⟩ := redu_bd x
  refine redu_of (k := j + k) ?_ a b
  rw [Rat.intCast_add]
  grind
theorem redu_id {x : Rat} (h0 : 0 ≤ x) (h1 : x < 1000000000) : redu x = x := redu_of (k := 0) (by rw [show ((0 : Int) : Rat) = 0 from rfl]; grind) h0 h1
theorem redu_add (x y : Rat) : redu (x + y) = redu x + redu y ∨ redu (x + y) + 1000000000 = redu x + redu y := by
  obtain ⟨j, hj⟩ := redu_eq x
  obtain ⟨k, hk⟩ := redu_eq y
  obtain ⟨a, b⟩ := redu_bd x
  obtain ⟨c, d⟩ := redu_bd y
  by_cases h : redu x + redu y < 1000000000
  · left
    refine redu_of (k := j + k) ?_ (by grind) h
    rw [Rat.intCast_add]
    generalize redu x = p at *
    generalize redu y = q at *
    grind
  · right
    have : redu (x + y) = redu x + redu y - 1000000000 := by
      refine redu_of (k := j + k + 1) ?_ (by grind) (by grind)
      rw [Rat.intCast_add, Rat.intCast_add, show ((1 : Int) : Rat) = 1 from rfl]
      generalize redu x = p at *
      generalize redu y = q at *
      grind
    grind
/-- Radians. -/
def ra (x : Rat) : Rat := 8 * qq * (x / 1000000000)
theorem ra_add (x y : Rat) : ra (x + y) = ra x + ra y := by unfold ra; grind
theorem ra_turn : ra 1000000000 = 8 * qq := by unfold ra; grind
theorem ra_bd {x : Rat} (h0 : 0 ≤ x) (h1 : x ≤ 1000000000) : 0 ≤ ra x ∧ ra x ≤ 6284 / 1000 := by
  have q := qq_b9
  have m := prod_bd (s := qq) (t := x / 1000000000) (S := 7853982 / 10000000) (T := 1) (by grind) q.2 (by grind) (by grind)
  have p := Rat.mul_nonneg (show 0 ≤ qq by grind) (show 0 ≤ x / 1000000000 by grind)
  unfold ra
  rw [show 8 * qq * (x / 1000000000) = 8 * (qq * (x / 1000000000)) by grind]
  generalize qq * (x / 1000000000) = z at *
  constructor <;> grind
theorem ra_8 (x : Rat) : -8 ≤ ra (redu x) ∧ ra (redu x) ≤ 8 := by
  obtain ⟨a, b⟩ := redu_bd x
  have := ra_bd a (Rat.le_of_lt b)
  constructor <;> grind
/-- The sine and the cosine of an angle. -/
def SA (x : Rat) : Rat := sn (ra (redu x))
def CA (x : Rat) : Rat := cs (ra (redu x))
theorem redu_int (a : Int) : redu (a : Rat) = ((a % 1000000000 : Int) : Rat) := by
  refine redu_of (k := a / 1000000000) ?_ ?_ ?_
  · have h : a = a % 1000000000 + 1000000000 * (a / 1000000000) := by omega
    have e := congrArg (fun n : Int => (n : Rat)) h
    (try dsimp only at e)
    rw [Rat.intCast_add, Rat.intCast_mul] at e
    exact e
  · rw [← show ((0 : Int) : Rat) = 0 from rfl]; exact Rat.intCast_le_intCast.2 (by omega)
  · rw [← show ((1000000000 : Int) : Rat) = 1000000000 from rfl]; exact Rat.intCast_lt_intCast.2 (by omega)
theorem SA_int (a : Int) : SA (a : Rat) = SN a := by unfold SA SN; rw [redu_int]; rfl
theorem CA_int (a : Int) : CA (a : Rat) = CN a := by unfold CA CN; rw [redu_int]; rfl
theorem SA_turn (x : Rat) (k : Int) : SA (x + 1000000000 * (k : Rat)) = SA x := by unfold SA; rw [redu_turn]
theorem CA_turn (x : Rat) (k : Int) : CA (x + 1000000000 * (k : Rat)) = CA x := by unfold CA; rw [redu_turn]
theorem SA_le (x : Rat) : -(1 + ep) ≤ SA x ∧ SA x ≤ 1 + ep := sn_le (ra_8 x)
theorem CA_le (x : Rat) : -(1 + ep) ≤ CA x ∧ CA x ≤ 1 + ep := cs_le (ra_8 x)
theorem SA_pyth (x : Rat) : Near (CA x * CA x + SA x * SA x) 1 ep := pyth (ra_8 x)
theorem SCA_add (x y : Rat) : Near (SA (x + y)) (SA x * CA y + CA x * SA y) e2 ∧ Near (CA (x + y)) (CA x * CA y - SA x * SA y) e2 := by
  have s := sn_add (ra_8 x) (ra_8 y)
  have c := cs_add (ra_8 x) (ra_8 y)
  rw [← ra_add] at s c
  unfold SA CA
  have t := turn_any (ra_8 (x + y))
  rw [← ra_turn, ← ra_add] at t
  rcases redu_add x y with h | h
  · rw [h]
    exact ⟨near_weak s (by unfold e2 ep; grind), near_weak c (by unfold e2 ep; grind)⟩
  · rw [← h] at s c
    obtain ⟨t1, t2⟩ := t
    unfold Near e2 ep eq1 at *
    generalize sn (ra (redu (x + y) + 1000000000)) = p1 at *
    generalize cs (ra (redu (x + y) + 1000000000)) = p2 at *
    generalize sn (ra (redu (x + y))) = p3 at *
    generalize cs (ra (redu (x + y))) = p4 at *
    generalize sn (ra (redu x)) * cs (ra (redu y)) + cs (ra (redu x)) * sn (ra (redu y)) = p5 at *
    generalize cs (ra (redu x)) * cs (ra (redu y)) - sn (ra (redu x)) * sn (ra (redu y)) = p6 at *
    clear h
    grind
theorem redu_zero : redu 0 = 0 := redu_id (by grind) (by grind)
theorem SA_0 : SA 0 = 0 := by unfold SA; rw [redu_zero]; unfold ra; rw [show 8 * qq * (0 / 1000000000) = 0 by grind, sn_zero]
theorem CA_0 : CA 0 = 1 := by unfold CA; rw [redu_zero]; unfold ra; rw [show 8 * qq * (0 / 1000000000) = 0 by grind, cs_zero]
theorem SCA_neg (x : Rat) : Near (SA (-x)) (-SA x) e2 ∧ Near (CA (-x)) (CA x) e2 := by
  obtain ⟨a, b⟩ := redu_bd x
  obtain ⟨k, hk⟩ := redu_eq x
  by_cases h : redu x = 0
  · have e : redu (-x) = 0 := redu_of (k := -k) (by rw [Rat.intCast_neg]; grind) (by grind) (by grind)
    unfold SA CA
    rw [h, e]
    unfold ra
    rw [show 8 * qq * (0 / 1000000000) = 0 by grind, sn_zero, cs_zero]
    unfold Near e2; grind
  · have e : redu (-x) = -redu x + 1000000000 := redu_of (k := -k - 1) (by rw [Rat.intCast_sub, Rat.intCast_neg, show ((1 : Int) : Rat) = 1 from rfl]; grind) (by grind) (by grind)
    unfold SA CA
    have en : ra (-redu x) = -ra (redu x) := by unfold ra; grind
    rw [e, ra_add, ra_turn, en]
    have b8 := ra_8 x
    have t := turn_any (x := -ra (redu x)) (by grind)
    rw [sn_neg, cs_neg] at t
    exact ⟨near_weak t.1 (by unfold e2 eq1; grind), near_weak t.2 (by unfold e2 eq1; grind)⟩
/-- A sine is not greater than its arc. -/
theorem sn_arc_step {x : Rat} (h0 : 0 ≤ x) (h4 : x ≤ 4) : ∀ n : Nat, ss (sf x) (4 * n + 2) ≤ x
  | 0 => by
    show ((0 : Rat) + sf x 0) + sf x 1 ≤ x
    have a : sf x 0 = 0 := by unfold sf; show (0 : Rat) * _ = 0; grind
    have b : sf x 1 = x := by
      unfold sf
      show (1 : Rat) * pw x 1 = x
      have := pw_mul x 0
      rw [show ((0 : Nat) : Rat) = 0 from rfl] at this
      have z : pw x 0 = 1 := rfl
      rw [z] at this
      grind
    rw [a, b]; grind
  | n + 1 => by
    have ih := sn_arc_step h0 h4 n
    show (((ss (sf x) (4 * n + 2) + sf x (4 * n + 2)) + sf x (4 * n + 3)) + sf x (4 * n + 4)) + sf x (4 * n + 5) ≤ x
    have m2 : (4 * n + 2) % 4 = 2 := by omega
    have m3 : (4 * n + 3) % 4 = 3 := by omega
    have m4 : (4 * n + 4) % 4 = 0 := by omega
    have m5 : (4 * n + 5) % 4 = 1 := by omega
    have a2 : sf x (4 * n + 2) = 0 := by unfold sf sc; rw [m2]; show (0 : Rat) * _ = 0; grind
    have a3 : sf x (4 * n + 3) = -pw x (4 * n + 3) := by unfold sf sc; rw [m3]; show (-1 : Rat) * _ = _; grind
    have a4 : sf x (4 * n + 4) = 0 := by unfold sf sc; rw [m4]; show (0 : Rat) * _ = 0; grind
    have a5 : sf x (4 * n + 5) = pw x (4 * n + 5) := by unfold sf sc; rw [m5]; show (1 : Rat) * _ = _; grind
    rw [a2, a3, a4, a5]
    have p3 := pw_nonneg h0 (4 * n + 3)
    have p4 := pw_nonneg h0 (4 * n + 4)
    have p5 := pw_nonneg h0 (4 * n + 5)
    have e4 := pw_mul x (4 * n + 3)
    have e5 := pw_mul x (4 * n + 4)
    have c3 : (3 : Rat) ≤ ((4 * n + 3 : Nat) : Rat) := by rw [← show ((3 : Nat) : Rat) = 3 from rfl]; exact Rat.natCast_le_natCast.2 (by omega)
    have c4 : (4 : Rat) ≤ ((4 * n + 4 : Nat) : Rat) := by rw [← show ((4 : Nat) : Rat) = 4 from rfl]; exact Rat.natCast_le_natCast.2 (by omega)
    have e4' : (((4 * n + 3 : Nat) : Rat) + 1) * pw x (4 * n + 4) = x * pw x (4 * n + 3) := e4
    have e5' : (((4 * n + 4 : Nat) : Rat) + 1) * pw x (4 * n + 5) = x * pw x (4 * n + 4) := e5
    clear e4 e5 m2 m3 m4 m5 a2 a3 a4 a5
    generalize pw x (4 * n + 3) = q3 at *
    generalize pw x (4 * n + 4) = q4 at *
    generalize pw x (4 * n + 5) = q5 at *
    generalize ((4 * n + 3 : Nat) : Rat) = f3 at *
    generalize ((4 * n + 4 : Nat) : Rat) = f4 at *
    have x4 := Rat.mul_le_mul_of_nonneg_right h4 p3
    have x5 := Rat.mul_le_mul_of_nonneg_right h4 p4
    have y4 := Rat.mul_le_mul_of_nonneg_right c3 p4
    have y5 := Rat.mul_le_mul_of_nonneg_right c4 p5
    have z1 : q4 ≤ q3 := by grind
    have z2 : q5 ≤ q4 := by grind
    grind
theorem sn_arc {x : Rat} (h0 : 0 ≤ x) (h4 : x ≤ 4) : sn x ≤ x := sn_arc_step h0 h4 22
/-- How far the sine and the cosine move. -/
theorem SA_chord {y d m : Rat} (h : -m ≤ SA (d / 2) ∧ SA (d / 2) ≤ m) (h2 : m ≤ 2) : Near (SA (y + d)) (SA y) (2 * m + 1 / 1000000000000000000000) := by
  obtain ⟨a1, -⟩ := SCA_add (y + d / 2) (d / 2)
  obtain ⟨b1, -⟩ := SCA_add (y + d / 2) (-(d / 2))
  rw [show y + d / 2 + d / 2 = y + d by grind] at a1
  rw [show y + d / 2 + -(d / 2) = y by grind] at b1
  obtain ⟨n1, n2⟩ := SCA_neg (d / 2)
  have s := SA_le (y + d / 2); have c := CA_le (y + d / 2)
  have g := SA_le (d / 2)
  have m1 := rmul_bd s (show -e2 ≤ CA (-(d / 2)) - CA (d / 2) ∧ CA (-(d / 2)) - CA (d / 2) ≤ e2 by unfold Near at n2; grind)
  have m2 := rmul_bd c (show -e2 ≤ SA (-(d / 2)) + SA (d / 2) ∧ SA (-(d / 2)) + SA (d / 2) ≤ e2 by unfold Near at n1; grind)
  have m3 := rmul_bd c h
  unfold Near at *
  generalize SA (y + d) = x1 at *
  generalize SA y = x2 at *
  generalize SA (y + d / 2) = x3 at *
  generalize CA (y + d / 2) = x4 at *
  generalize SA (-(d / 2)) = x5 at *
  generalize CA (-(d / 2)) = x6 at *
  generalize SA (d / 2) = x7 at *
  generalize CA (d / 2) = x8 at *
  clear n1 n2 s c g
  unfold e2 ep at *
  constructor <;> grind
theorem CA_chord {y d m : Rat} (h : -m ≤ SA (d / 2) ∧ SA (d / 2) ≤ m) (h2 : m ≤ 2) : Near (CA (y + d)) (CA y) (2 * m + 1 / 1000000000000000000000) := by
  obtain ⟨-, a1⟩ := SCA_add (y + d / 2) (d / 2)
  obtain ⟨-, b1⟩ := SCA_add (y + d / 2) (-(d / 2))
  rw [show y + d / 2 + d / 2 = y + d by grind] at a1
  rw [show y + d / 2 + -(d / 2) = y by grind] at b1
  obtain ⟨n1, n2⟩ := SCA_neg (d / 2)
  have s := SA_le (y + d / 2); have c := CA_le (y + d / 2)
  have m1 := rmul_bd c (show -e2 ≤ CA (-(d / 2)) - CA (d / 2) ∧ CA (-(d / 2)) - CA (d / 2) ≤ e2 by unfold Near at n2; grind)
  have m2 := rmul_bd s (show -e2 ≤ SA (-(d / 2)) + SA (d / 2) ∧ SA (-(d / 2)) + SA (d / 2) ≤ e2 by unfold Near at n1; grind)
  have m3 := rmul_bd s h
  unfold Near at *
  generalize CA (y + d) = x1 at *
  generalize CA y = x2 at *
  generalize SA (y + d / 2) = x3 at *
  generalize CA (y + d / 2) = x4 at *
  generalize SA (-(d / 2)) = x5 at *
  generalize CA (-(d / 2)) = x6 at *
  generalize SA (d / 2) = x7 at *
  generalize CA (d / 2) = x8 at *
  clear n1 n2 s c
  unfold e2 ep at *
  constructor <;> grind
theorem SA_small {h : Rat} (h0 : 0 ≤ h) (h1 : h ≤ 500000000) : -(1 / 1000000000000000000000000) ≤ SA h ∧ SA h ≤ ra h := by
  unfold SA
  rw [redu_id h0 (by grind)]
  have b := ra_bd h0 (by grind)
  have q := qq_b9
  have m := ra_bd (x := 2 * h) (by grind) (by grind)
  have e : ra (2 * h) = 2 * ra h := by unfold ra; grind
  have hq : ra h ≤ 4 * qq := by
    clear b m e
    have := Rat.mul_le_mul_of_nonneg_left (show h / 1000000000 ≤ 1 / 2 by grind) (show 0 ≤ 8 * qq by grind)
    unfold ra
    generalize qq = p at *
    grind
  exact ⟨sn_upper b.1 hq, sn_arc b.1 (by grind)⟩
theorem SA_lip {y d : Rat} (h : 0 ≤ d) : Near (SA (y + d)) (SA y) (ra d + 1 / 100000000000000000000) ∧ Near (CA (y + d)) (CA y) (ra d + 1 / 100000000000000000000) := by
  by_cases c : d < 1000000000
  · have rp : 0 ≤ ra d := (ra_bd h (by grind)).1
    have m := SA_small (h := d / 2) (by grind) (by grind)
    have b := ra_bd (x := d) h (by grind)
    have b2 := ra_bd (x := d / 2) (by grind) (by grind)
    have e : ra (d / 2) = ra d / 2 := by unfold ra; grind
    have k : -(ra d / 2 + 1 / 1000000000000000000000000) ≤ SA (d / 2) ∧ SA (d / 2) ≤ ra d / 2 + 1 / 1000000000000000000000000 := by rw [e] at m; clear e b b2; grind
    by_cases k2 : ra d ≤ 3
    · have s := SA_chord (y := y) k (by grind); have t := CA_chord (y := y) k (by grind)
      exact ⟨near_weak s (by grind), near_weak t (by grind)⟩
    · have s := SA_le (y + d); have t := SA_le y
      have s2 := CA_le (y + d); have t2 := CA_le y
      clear m k e b b2
      unfold Near ep at *
      constructor <;> constructor <;> grind
  · have s := SA_le (y + d); have t := SA_le y
    have s2 := CA_le (y + d); have t2 := CA_le y
    have q := qq_b9
    have : 6 ≤ ra d := by
      clear s t s2 t2
      have := Rat.mul_le_mul_of_nonneg_left (show 1 ≤ d / 1000000000 by grind) (show 0 ≤ 8 * qq by grind)
      unfold ra
      generalize qq = p at *
      grind
    clear q c h
    generalize ra d = r at *
    unfold Near ep at *
    constructor <;> constructor <;> grind
/-- How far sines move, whatever the direction. -/
theorem ra_mono {x y : Rat} (h : x ≤ y) : ra x ≤ ra y := by
  have q := qq_b9
  have := Rat.mul_le_mul_of_nonneg_left (show x / 1000000000 ≤ y / 1000000000 by grind) (show 0 ≤ 8 * qq by grind)
  exact this
theorem SA_lipD {y d D : Rat} (h : -D ≤ d ∧ d ≤ D) : Near (SA (y + d)) (SA y) (ra D + 1 / 100000000000000000000) ∧ Near (CA (y + d)) (CA y) (ra D + 1 / 100000000000000000000) := by
  by_cases c : 0 ≤ d
  · obtain ⟨a, b⟩ := SA_lip (y := y) c
    have m := ra_mono h.2
    exact ⟨near_weak a (by grind), near_weak b (by grind)⟩
  · obtain ⟨a, b⟩ := SA_lip (y := y + d) (d := -d) (by grind)
    rw [show y + d + -d = y by grind] at a b
    have m := ra_mono (show -d ≤ D by grind)
    unfold Near at *
    generalize ra D = u at *
    generalize ra (-d) = v at *
    constructor <;> constructor <;> grind
end Go.Proofs.YtcopmgnfakjdhaaDoor
