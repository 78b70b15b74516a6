/- Sines grow, cosines fall in the first quarter (the first part of XTopPhM as a text of its own, for the eclipses: no claim may hold both). Plain. -/
import Derived.Test.YtcopmgnfakjdhaaDoorRealA
import Derived.Test.YtcopmgnfakjdhaaDoorTrigN
namespace Go.Proofs.YtcopmgnfakjdhaaDoor
set_option linter.unusedSimpArgs false
set_option linter.unusedVariables false
theorem sa_q : Near (SA 250000000) 1 (4 * eq1) ∧ Near (CA 250000000) 0 (4 * eq1) := by
  have q1 := SN_q1; have q2 := CN_q1
  rw [← SA_int] at q1
  rw [← CA_int] at q2
  exact ⟨q1, q2⟩
theorem ca_sa (x : Rat) : Near (SA (x + 250000000)) (CA x) (2 * e2) := by
  have h := (SCA_add x 250000000).1
  have b := SA_le x; have c := CA_le x
  obtain ⟨q1, q2⟩ := sa_q
  have m1 := rmul_bd b (show -(4 * eq1) ≤ CA 250000000 ∧ CA 250000000 ≤ 4 * eq1 by unfold Near at q2; grind)
  have m2 := rmul_bd c (show -(4 * eq1) ≤ SA 250000000 - 1 ∧ SA 250000000 - 1 ≤ 4 * eq1 by unfold Near at q1; grind)
  unfold Near at *
  generalize SA (x + 250000000) = u at *
  generalize SA 250000000 = y at *
  generalize CA 250000000 = z at *
  clear q1 q2 b c
  unfold e2 eq1 ep at *
  grind
theorem sa_pos {x : Rat} (h0 : 0 ≤ x) (h1 : x ≤ 250000000) : -(1 / 100000000000000000000000) ≤ SA x ∧ -(1 / 100000000000000000000000) ≤ CA x := by
  have a := SA_small (h := x) h0 (by grind)
  have b := SA_small (h := x + 250000000) (by grind) (by grind)
  have c := ca_sa x
  unfold Near e2 at c
  constructor <;> grind
theorem sa_grow {x y : Rat} (h0 : 0 ≤ x) (h1 : x ≤ y) (h2 : y ≤ 250000000) : SA x - 1 / 100000000000000000000 ≤ SA y := by
  obtain ⟨d, hd⟩ : ∃ d, d = (y - x) / 2 := ⟨_, rfl⟩
  have d0 : 0 ≤ d := by grind
  have d1 : d ≤ 125000000 := by grind
  obtain ⟨a1, -⟩ := SCA_add (x + d) d
  obtain ⟨a2, -⟩ := SCA_add (x + d) (-d)
  rw [show x + d + d = y by grind] at a1
  rw [show x + d + -d = x by grind] at a2
  obtain ⟨n1, n2⟩ := SCA_neg d
  have c := (sa_pos (x := x + d) (by grind) (by grind)).2
  have sd := SA_small (h := d) d0 (by grind)
  have sb := SA_le (x + d); have cb := CA_le (x + d); have sdb := SA_le d; have cdb := CA_le d
  have m1 := rmul_bd (a := SA (x + d)) (b := CA (-d) - CA d) (A := 1 + ep) (B := e2) sb (by unfold Near at n2; grind)
  have m2 := rmul_bd (a := CA (x + d)) (b := SA (-d) + SA d) (A := 1 + ep) (B := e2) cb (by unfold Near at n1; grind)
  have m3 : -(1 / 10000000000000000000000) ≤ CA (x + d) * SA d := by
    have p := Rat.mul_nonneg (show 0 ≤ CA (x + d) + 1 / 100000000000000000000000 by grind) (show 0 ≤ SA d + 1 / 1000000000000000000000000 by grind)
    clear m1 m2 n1 n2 a1 a2
    unfold ep at *
    generalize CA (x + d) = u at *
    generalize SA d = v at *
    grind
  unfold Near e2 ep at *
  generalize SA x = x1 at *
  generalize SA y = x2 at *
  generalize SA (x + d) = x3 at *
  generalize CA (x + d) = x4 at *
  generalize SA (-d) = x5 at *
  generalize CA (-d) = x6 at *
  generalize SA d = x7 at *
  generalize CA d = x8 at *
  clear n1 n2 sb cb sdb cdb sd c hd
  grind
theorem ca_back (x : Rat) : Near (SA (250000000 - x)) (CA x) (3 * e2) := by
  have a := ca_sa (-x)
  have b := (SCA_neg x).2
  rw [show -x + 250000000 = 250000000 - x by grind] at a
  unfold Near at *
  constructor <;> grind
theorem ca_fall {x y : Rat} (h0 : 0 ≤ x) (h1 : x ≤ y) (h2 : y ≤ 250000000) : CA y ≤ CA x + 1 / 10000000000000000000 := by
  have g := sa_grow (x := 250000000 - y) (y := 250000000 - x) (by grind) (by grind) (by grind)
  have a := ca_back x
  have b := ca_back y
  unfold Near e2 at *
  grind
theorem sa_half (x : Rat) : Near (SA (500000000 - x)) (SA x) (10 * e2) := by
  have a := ca_sa (250000000 - x)
  rw [show 250000000 - x + 250000000 = 500000000 - x by grind] at a
  have b := ca_back (250000000 - x)
  rw [show 250000000 - (250000000 - x) = x by grind] at b
  unfold Near at *
  constructor <;> grind
theorem ca_half (x : Rat) : Near (CA (500000000 - x)) (-CA x) (20 * e2) := by
  have a := ca_back (500000000 - x)
  rw [show 250000000 - (500000000 - x) = -(250000000 - x) by grind] at a
  have b := (SCA_neg (250000000 - x)).1
  have c := ca_back x
  unfold Near at *
  constructor <;> grind
theorem sa_num (n : Int) : (sLo n : Rat) - 1 / 1000000000 ≤ 1000000000 * SA (n : Rat) ∧ 1000000000 * SA (n : Rat) ≤ (sHi n : Rat) + 1 / 1000000000 := by
  have s := sine_in n
  have l := s.lo; have h := s.hi
  rw [SA_int]
  constructor <;> grind
theorem sa_nums : (86598000 ≤ sLo 13800000 ∧ 168200000 ≤ sLo 26900000) ∧ 991940000 ≤ sLo 229800000 := by decide +kernel
theorem cos_falls {A d : Rat} (h0 : 13800000 ≤ A) (h1 : A + d ≤ 473100000) (d0 : 13800000 ≤ d) (d1 : d ≤ 20200000) : CA (A + d) + 3 / 1000 ≤ CA A := by
  obtain ⟨⟨n1, n2⟩, n3⟩ := sa_nums
  have s1 := (sa_num 13800000).1; have s2 := (sa_num 26900000).1; have s3 := (sa_num 229800000).1
  rw [show ((13800000 : Int) : Rat) = 13800000 from rfl] at s1
  rw [show ((26900000 : Int) : Rat) = 26900000 from rfl] at s2
  rw [show ((229800000 : Int) : Rat) = 229800000 from rfl] at s3
  have n1' := Rat.intCast_le_intCast.2 n1
  have n2' := Rat.intCast_le_intCast.2 n2
  have n3' := Rat.intCast_le_intCast.2 n3
  rw [show ((86598000 : Int) : Rat) = 86598000 from rfl] at n1'
  rw [show ((168200000 : Int) : Rat) = 168200000 from rfl] at n2'
  rw [show ((991940000 : Int) : Rat) = 991940000 from rfl] at n3'
  have ad := (SCA_add A d).2
  -- the sine of d, the cosine of d
  have sd : 86597 / 1000000 ≤ SA d := by
    have g := sa_grow (x := 13800000) (y := d) (by grind) d0 (by grind)
    clear ad s2 s3 n2' n3'
    grind
  have cd : 99193 / 100000 ≤ CA d := by
    have g := ca_fall (x := d) (y := 20200000) (by grind) d1 (by grind)
    have b := ca_back 20200000
    rw [show (250000000 : Rat) - 20200000 = 229800000 by grind] at b
    unfold Near e2 at b
    clear ad s1 s2 n1' n2' sd
    grind
  have cdb := (CA_le d).2
  have cb := (CA_le A).1
  have caB := (CA_le A).2
  clear s3 n3' n1 n2 n3
  by_cases c : A ≤ 250000000
  · have sA : 86597 / 1000000 ≤ SA A := by
      have g := sa_grow (x := 13800000) (y := A) (by grind) h0 c
      clear ad s2 n2' sd cd
      grind
    have cA := (sa_pos (x := A) (by grind) c).2
    have p := Rat.mul_nonneg (show 0 ≤ SA A - 86597 / 1000000 by grind) (show 0 ≤ SA d - 86597 / 1000000 by grind)
    have q := Rat.mul_nonneg (show 0 ≤ CA A + 1 / 100000000000000000000000 by grind) (show 0 ≤ 1 + ep - CA d by grind)
    unfold Near e2 ep at *
    clear s1 s2 n1' n2' h0 h1 d0 d1
    generalize CA (A + d) = x at *
    generalize CA A = u at *
    generalize SA A = v at *
    generalize CA d = y at *
    generalize SA d = z at *
    grind
  · obtain ⟨B, hB⟩ : ∃ B, B = 500000000 - A := ⟨_, rfl⟩
    have eB : 500000000 - B = A := by grind
    have eA : SA A = SA (500000000 - B) := by rw [eB]
    have hs := sa_half B
    rw [← eA] at hs
    have sA : 16819 / 100000 ≤ SA A := by
      have g := sa_grow (x := 26900000) (y := B) (by grind) (by grind) (by grind)
      unfold Near e2 at hs
      clear ad s1 n1' sd cd eA
      grind
    have p := Rat.mul_nonneg (show 0 ≤ SA A - 16819 / 100000 by grind) (show 0 ≤ SA d - 86597 / 1000000 by grind)
    have q := Rat.mul_nonneg (show 0 ≤ CA A + (1 + ep) by grind) (show 0 ≤ 1 + ep - CA d by grind)
    unfold Near e2 ep at *
    clear s1 s2 n1' n2' h0 h1 d0 d1 hs eA eB hB
    generalize CA (A + d) = x at *
    generalize CA A = u at *
    generalize SA A = v at *
    generalize CA d = y at *
    generalize SA d = z at *
    grind
end Go.Proofs.YtcopmgnfakjdhaaDoor
