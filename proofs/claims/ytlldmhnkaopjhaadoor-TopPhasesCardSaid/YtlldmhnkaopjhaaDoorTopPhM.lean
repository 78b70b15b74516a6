/- Merged by wip/tools/pack.py out of XSaG, XPhH, XTopPhL. -/
import Derived.Test.YtlldmhnkaopjhaaDoorRealA
import Derived.Test.YtlldmhnkaopjhaaDoorTrigN
import Derived.Test.YtlldmhnkaopjhaaDoorPhD
import Derived.Test.YtlldmhnkaopjhaaDoorPhL
import Derived.Test.YtlldmhnkaopjhaaDoorMoonGains
/- Sines grow, cosines fall in the first quarter; how much the cosine falls in some 14 to 20 millionths of a turn. Plain. -/
namespace Go.Proofs.YtlldmhnkaopjhaaDoor
set_option linter.unusedSimpArgs false
set_option linter.unusedVariables false
theorem sa_q : Near (SA 250000000) 1 (4 * eq1) ∧ Near (CA 250000000) 0 (4 * eq1) := by
  have q1 := SN_q1; have q2 := CN_q1
  rw [← SA_int] at q1
  rw [← CA_int] at q2
  exact ⟨q1, q2⟩
theorem ca_sa (x : Rat) : Near (SA (x + 250000000)) (CA x) (2 * e2) := by
  have h := (SCA_add x 250000000).1
  have b := SA_le x; have c := CA_le x
  obtain ⟨q1, q2⟩ := sa_q
  have m1 := rmul_bd b (show -(4 * eq1) ≤ CA 250000000 ∧ CA 250000000 ≤ 4 * eq1 by unfold Near at q2; grind)
  have m2 := rmul_bd c (show -(4 * eq1) ≤ SA 250000000 - 1 ∧ SA 250000000 - 1 ≤ 4 * eq1 by unfold Near at q1; grind)
  unfold Near at *
  generalize SA (x + 250000000) = u at *
  generalize SA 250000000 = y at *
  generalize CA 250000000 = z at *
  clear q1 q2 b c
  unfold e2 eq1 ep at *
  grind
theorem sa_pos {x : Rat} (h0 : 0 ≤ x) (h1 : x ≤ 250000000) : -(1 / 100000000000000000000000) ≤ SA x ∧ -(1 / 100000000000000000000000) ≤ CA x := by
  have a := SA_small (h := x) h0 (by grind)
  have b := SA_small (h := x + 250000000) (by grind) (by grind)
  have c := ca_sa x
  unfold Near e2 at c
  constructor <;> grind
theorem sa_grow {x y : Rat} (h0 : 0 ≤ x) (h1 : x ≤ y) (h2 : y ≤ 250000000) : SA x - 1 / 100000000000000000000 ≤ SA y := by
  obtain ⟨d, hd⟩ : ∃ d, d = (y - x) / 2 := ⟨_, rfl⟩
  have d0 : 0 ≤ d := by grind
  have d1 : d ≤ 125000000 := by grind
  obtain ⟨a1, -⟩ := SCA_add (x + d) d
  obtain ⟨a2, -⟩ := SCA_add (x + d) (-d)
  rw [show x + d + d = y by grind] at a1
  rw [show x + d + -d = x by grind] at a2
  obtain ⟨n1, n2⟩ := SCA_neg d
  have c := (sa_pos (x := x + d) (by grind) (by grind)).2
  have sd := SA_small (h := d) d0 (by grind)
  have sb := SA_le (x + d); have cb := CA_le (x + d); have sdb := SA_le d; have cdb := CA_le d
  have m1 := rmul_bd (a := SA (x + d)) (b := CA (-d) - CA d) (A := 1 + ep) (B := e2) sb (by unfold Near at n2; grind)
  have m2 := rmul_bd (a := CA (x + d)) (b := SA (-d) + SA d) (A := 1 + ep) (B := e2) cb (by unfold Near at n1; grind)
  have m3 : -(1 / 10000000000000000000000) ≤ CA (x + d) * SA d := by
    have p := Rat.mul_nonneg (show 0 ≤ CA (x + d) + 1 / 100000000000000000000000 by grind) (show 0 ≤ SA d + 1 / 1000000000000000000000000 by grind)
    clear m1 m2 n1 n2 a1 a2
    unfold ep at *
    generalize CA (x + d) = u at *
    generalize SA d = v at *
    grind
  unfold Near e2 ep at *
  generalize SA x = x1 at *
  generalize SA y = x2 at *
  generalize SA (x + d) = x3 at *
  generalize CA (x + d) = x4 at *
  generalize SA (-d) = x5 at *
  generalize CA (-d) = x6 at *
  generalize SA d = x7 at *
  generalize CA d = x8 at *
  clear n1 n2 sb cb sdb cdb sd c hd
  grind
theorem ca_back (x : Rat) : Near (SA (250000000 - x)) (CA x) (3 * e2) := by
  have a := ca_sa (-x)
  have b := (SCA_neg x).2
  rw [show -x + 250000000 = 250000000 - x by grind] at a
  unfold Near at *
  constructor <;> grind
theorem ca_fall {x y : Rat} (h0 : 0 ≤ x) (h1 : x ≤ y) (h2 : y ≤ 250000000) : CA y ≤ CA x + 1 / 10000000000000000000 := by
  have g := sa_grow (x := 250000000 - y) (y := 250000000 - x) (by grind) (by grind) (by grind)
  have a := ca_back x
  have b := ca_back y
  unfold Near e2 at *
  grind
theorem sa_half (x : Rat) : Near (SA (500000000 - x)) (SA x) (10 * e2) := by
  have a := ca_sa (250000000 - x)
  rw [show 250000000 - x + 250000000 = 500000000 - x by grind] at a
  have b := ca_back (250000000 - x)
  rw [show 250000000 - (250000000 - x) = x by grind] at b
  unfold Near at *
  constructor <;> grind
theorem ca_half (x : Rat) : Near (CA (500000000 - x)) (-CA x) (20 * e2) := by
  have a := ca_back (500000000 - x)
  rw [show 250000000 - (500000000 - x) = -(250000000 - x) by grind] at a
  have b := (SCA_neg (250000000 - x)).1
  have c := ca_back x
  unfold Near at *
  constructor <;> grind
theorem sa_num (n : Int) : (sLo n : Rat) - 1 / 1000000000 ≤ 1000000000 * SA (n : Rat) ∧ 1000000000 * SA (n : Rat) ≤ (sHi n : Rat) + 1 / 1000000000 := by
  have s := sine_in n
  have l := s.lo; have h := s.hi
  rw [SA_int]
  constructor <;> grind
theorem sa_nums : (86598000 ≤ sLo 13800000 ∧ 168200000 ≤ sLo 26900000) ∧ 991940000 ≤ sLo 229800000 := by decide +kernel
theorem cos_falls {A d : Rat} (h0 : 13800000 ≤ A) (h1 : A + d ≤ 473100000) (d0 : 13800000 ≤ d) (d1 : d ≤ 20200000) : CA (A + d) + 3 / 1000 ≤ CA A := by
  obtain ⟨⟨n1, n2⟩, n3⟩ := sa_nums
  have s1 := (sa_num 13800000).1; have s2 := (sa_num 26900000).1; have s3 := (sa_num 229800000).1
  rw [show ((13800000 : Int) : Rat) = 13800000 from rfl] at s1
  rw [show ((26900000 : Int) : Rat) = 26900000 from rfl] at s2
  rw [show ((229800000 : Int) : Rat) = 229800000 from rfl] at s3
  have n1' := Rat.intCast_le_intCast.2 n1
  have n2' := Rat.intCast_le_intCast.2 n2
  have n3' := Rat.intCast_le_intCast.2 n3
  rw [show ((86598000 : Int) : Rat) = 86598000 from rfl] at n1'
  rw [show ((168200000 : Int) : Rat) = 168200000 from rfl] at n2'
  rw [show ((991940000 : Int) : Rat) = 991940000 from rfl] at n3'
  have ad := (SCA_add A d).2
  -- the sine of d, the cosine of d
  have sd : 86597 / 1000000 ≤ SA d := by
    have g := sa_grow (x := 13800000) (y := d) (by grind) d0 (by grind)
    clear ad s2 s3 n2' n3'
    grind
  have cd : 99193 / 100000 ≤ CA d := by
    have g := ca_fall (x := d) (y := 20200000) (by grind) d1 (by grind)
    have b := ca_back 20200000
    rw [show (250000000 : Rat) - 20200000 = 229800000 by grind] at b
    unfold Near e2 at b
    clear ad s1 s2 n1' n2' sd
    grind
  have cdb := (CA_le d).2
  have cb := (CA_le A).1
  have caB := (CA_le A).2
  clear s3 n3' n1 n2 n3
  by_cases c : A ≤ 250000000
  · have sA : 86597 / 1000000 ≤ SA A := by
      have g := sa_grow (x := 13800000) (y := A) (by grind) h0 c
      clear ad s2 n2' sd cd
      grind
    have cA := (sa_pos (x := A) (by grind) c).2
    have p := Rat.mul_nonneg (show 0 ≤ SA A - 86597 / 1000000 by grind) (show 0 ≤ SA d - 86597 / 1000000 by grind)
    have q := Rat.mul_nonneg (show 0 ≤ CA A + 1 / 100000000000000000000000 by grind) (show 0 ≤ 1 + ep - CA d by grind)
    unfold Near e2 ep at *
    clear s1 s2 n1' n2' h0 h1 d0 d1
    generalize CA (A + d) = x at *
    generalize CA A = u at *
    generalize SA A = v at *
    generalize CA d = y at *
    generalize SA d = z at *
    grind
  · obtain ⟨B, hB⟩ : ∃ B, B = 500000000 - A := ⟨_, rfl⟩
    have eB : 500000000 - B = A := by grind
    have eA : SA A = SA (500000000 - B) := by rw [eB]
    have hs := sa_half B
    rw [← eA] at hs
    have sA : 16819 / 100000 ≤ SA A := by
      have g := sa_grow (x := 26900000) (y := B) (by grind) (by grind) (by grind)
      unfold Near e2 at hs
      clear ad s1 n1' sd cd eA
      grind
    have p := Rat.mul_nonneg (show 0 ≤ SA A - 16819 / 100000 by grind) (show 0 ≤ SA d - 86597 / 1000000 by grind)
    have q := Rat.mul_nonneg (show 0 ≤ CA A + (1 + ep) by grind) (show 0 ≤ 1 + ep - CA d by grind)
    unfold Near e2 ep at *
    clear s1 s2 n1' n2' h0 h1 d0 d1 hs eA eB hB
    generalize CA (A + d) = x at *
    generalize CA A = u at *
    generalize SA A = v at *
    generalize CA d = y at *
    generalize SA d = z at *
    grind
end Go.Proofs.YtlldmhnkaopjhaaDoor
/- How far the true elongation moves over more times (printed by wip/tools/gen-ph2.py). Plain. -/
namespace Go.Proofs.YtlldmhnkaopjhaaDoor
set_option linter.unusedSimpArgs false
set_option linter.unusedVariables false
theorem ph_nh : (-56975919 ≤ sLo 9072912 ∧ sHi 9072912 ≤ 56975919) ∧ (-49357509 ≤ sLo 7858684 ∧ sHi 7858684 ≤ 49357509) ∧ (-106183802 ≤ sLo 16931596 ∧ sHi 16931596 ≤ 106183802) ∧ (-113766727 ≤ sLo 18145824 ∧ sHi 18145824 ≤ 113766727) ∧ (-4300485 ≤ sLo 684445 ∧ sHi 684445 ≤ 4300485) ∧ (-115191585 ≤ sLo 18374098 ∧ sHi 18374098 ≤ 115191585) ∧ (-4300485 ≤ sLo 684445 ∧ sHi 684445 ≤ 4300485) ∧ (-8600881 ≤ sLo 1368889 ∧ sHi 1368889 ≤ 8600881) := by decide +kernel
theorem el_h (t : Rat) : 13943992 ≤ elT (t + 43200000) - elT t ∧ elT (t + 43200000) - elT t ≤ 19919200 := by
  obtain ⟨n0, n1, n2, n3, n4, n5, n6, n7⟩ := ph_nh
  have c0 := tm_chord (17468817) 99384016 36291647083333 t (T := 43200000) (n := 9072912) (M := 56975919) (mA := 17468817) (by rw [show ((36291647083333 : Int) : Rat) = 36291647083333 from rfl, show ((9072912 : Int) : Rat) = 9072912 from rfl]; grind) n0 (by omega) (by rw [show ((17468817 : Int) : Rat) = 17468817 from rfl]; grind)
  rw [show ((17468817 : Int) : Rat) = 17468817 from rfl, show ((56975919 : Int) : Rat) = 56975919 from rfl] at c0
  have c1 := tm_chord (3538964) 134030564 31434736861111 t (T := 43200000) (n := 7858684) (M := 49357509) (mA := 3538964) (by rw [show ((31434736861111 : Int) : Rat) = 31434736861111 from rfl, show ((7858684 : Int) : Rat) = 7858684 from rfl]; grind) n1 (by omega) (by rw [show ((3538964 : Int) : Rat) = 3538964 from rfl]; grind)
  rw [show ((3538964 : Int) : Rat) = 3538964 from rfl, show ((49357509 : Int) : Rat) = 49357509 from rfl] at c1
  have c2 := tm_chord (1828650) 233414580 67726383944444 t (T := 43200000) (n := 16931596) (M := 106183802) (mA := 1828650) (by rw [show ((67726383944444 : Int) : Rat) = 67726383944444 from rfl, show ((16931596 : Int) : Rat) = 16931596 from rfl]; grind) n2 (by omega) (by rw [show ((1828650 : Int) : Rat) = 1828650 from rfl]; grind)
  rw [show ((1828650 : Int) : Rat) = 1828650 from rfl, show ((106183802 : Int) : Rat) = 106183802 from rfl] at c2
  have c3 := tm_chord (593383) 198768032 72583294166666 t (T := 43200000) (n := 18145824) (M := 113766727) (mA := 593383) (by rw [show ((72583294166666 : Int) : Rat) = 72583294166666 from rfl, show ((18145824 : Int) : Rat) = 18145824 from rfl]; grind) n3 (by omega) (by rw [show ((593383 : Int) : Rat) = 593383 from rfl]; grind)
  rw [show ((593383 : Int) : Rat) = 593383 from rfl, show ((113766727 : Int) : Rat) = 113766727 from rfl] at c3
  have c4 := tm_chord (-514211) 84888545 2737778555556 t (T := 43200000) (n := 684445) (M := 4300485) (mA := 514211) (by rw [show ((2737778555556 : Int) : Rat) = 2737778555556 from rfl, show ((684445 : Int) : Rat) = 684445 from rfl]; grind) n4 (by omega) (by rw [show ((-514211 : Int) : Rat) = -514211 from rfl]; grind)
  rw [show ((-514211 : Int) : Rat) = -514211 from rfl, show ((4300485 : Int) : Rat) = 4300485 from rfl] at c4
  have c5 := tm_chord (-317589) 297001062 73496390222222 t (T := 43200000) (n := 18374098) (M := 115191585) (mA := 317589) (by rw [show ((73496390222222 : Int) : Rat) = 73496390222222 from rfl, show ((18374098 : Int) : Rat) = 18374098 from rfl]; grind) n5 (by omega) (by rw [show ((-317589 : Int) : Rat) = -317589 from rfl]; grind)
  rw [show ((-317589 : Int) : Rat) = -317589 from rfl, show ((115191585 : Int) : Rat) = 115191585 from rfl] at c5
  have c6 := tm_chord (5318339) 84888545 2737778555556 t (T := 43200000) (n := 684445) (M := 4300485) (mA := 5318339) (by rw [show ((2737778555556 : Int) : Rat) = 2737778555556 from rfl, show ((684445 : Int) : Rat) = 684445 from rfl]; grind) n6 (by omega) (by rw [show ((5318339 : Int) : Rat) = 5318339 from rfl]; grind)
  rw [show ((5318339 : Int) : Rat) = 5318339 from rfl, show ((4300485 : Int) : Rat) = 4300485 from rfl] at c6
  have c7 := tm_chord (55536) 169777090 5475557111112 t (T := 43200000) (n := 1368889) (M := 8600881) (mA := 55536) (by rw [show ((5475557111112 : Int) : Rat) = 5475557111112 from rfl, show ((1368889 : Int) : Rat) = 1368889 from rfl]; grind) n7 (by omega) (by rw [show ((55536 : Int) : Rat) = 55536 from rfl]; grind)
  rw [show ((55536 : Int) : Rat) = 55536 from rfl, show ((8600881 : Int) : Rat) = 8600881 from rfl] at c7
  have eM : ∀ t, svT moonLZ 6 t = 0 + (17468817) * SA (phT 99384016 36291647083333 t) + (3538964) * SA (phT 134030564 31434736861111 t) + (1828650) * SA (phT 233414580 67726383944444 t) + (593383) * SA (phT 198768032 72583294166666 t) + (-514211) * SA (phT 84888545 2737778555556 t) + (-317589) * SA (phT 297001062 73496390222222 t) := fun _ => rfl
  have eS : ∀ t, svT sunZ 2 t = 0 + (5318339) * SA (phT 84888545 2737778555556 t) + (55536) * SA (phT 169777090 5475557111112 t) := fun _ => rfl
  have ek : ∀ t, elT t = phT 392048814 36601101305556 t + svT moonLZ 6 t - (phT 775342092 2737909333333 t + svT sunZ 2 t) := fun _ => rfl
  rw [ek, ek, eM, eM, eS, eS]
  have em : phT 392048814 36601101305556 (t + 43200000) - phT 775342092 2737909333333 (t + 43200000) = phT 392048814 36601101305556 t - phT 775342092 2737909333333 t + 33863191972223 * 43200000 / 86400000000000 := by unfold phT; rw [show ((36601101305556 : Int) : Rat) = 36601101305556 from rfl, show ((2737909333333 : Int) : Rat) = 2737909333333 from rfl]; grind
  clear eM eS ek
  unfold Near at *
  generalize SA (phT 99384016 36291647083333 (t + 43200000)) = x0 at *
  generalize SA (phT 99384016 36291647083333 t) = y0 at *
  generalize SA (phT 134030564 31434736861111 (t + 43200000)) = x1 at *
  generalize SA (phT 134030564 31434736861111 t) = y1 at *
  generalize SA (phT 233414580 67726383944444 (t + 43200000)) = x2 at *
  generalize SA (phT 233414580 67726383944444 t) = y2 at *
  generalize SA (phT 198768032 72583294166666 (t + 43200000)) = x3 at *
  generalize SA (phT 198768032 72583294166666 t) = y3 at *
  generalize SA (phT 84888545 2737778555556 (t + 43200000)) = x4 at *
  generalize SA (phT 84888545 2737778555556 t) = y4 at *
  generalize SA (phT 297001062 73496390222222 (t + 43200000)) = x5 at *
  generalize SA (phT 297001062 73496390222222 t) = y5 at *
  generalize SA (phT 169777090 5475557111112 (t + 43200000)) = x7 at *
  generalize SA (phT 169777090 5475557111112 t) = y7 at *
  generalize phT 392048814 36601101305556 (t + 43200000) = u1 at *
  generalize phT 775342092 2737909333333 (t + 43200000) = u2 at *
  generalize phT 392048814 36601101305556 t = u3 at *
  generalize phT 775342092 2737909333333 t = u4 at *
  clear n0 n1 n2 n3 n4 n5 n6 n7
  constructor <;> grind
end Go.Proofs.YtlldmhnkaopjhaaDoor
/- The light of the moon grows up to the full moon, then falls. Plain. -/
namespace Go.Proofs.YtlldmhnkaopjhaaDoor
set_option linter.unusedSimpArgs false
set_option linter.unusedVariables false
/-- The interval's beginning as an angle behind the new moon. -/
theorem el_from (x k : Int) : ∃ A : Rat, CN (elLo x) = CA A ∧ A ≤ elT (x : Rat) - 1000000000 * (k : Rat) - 22000 ∧ elT (x : Rat) - 1000000000 * (k : Rat) - 22000 - 4006 / 1000 ≤ A := by
  obtain ⟨j, a1, a2, -, -⟩ := el_at x
  refine ⟨(elLo x : Rat) + 1000000000 * ((j - k : Int) : Rat), ?_, ?_, ?_⟩
  · rw [CA_turn, CA_int]
  · rw [Rat.intCast_sub]; grind
  · rw [Rat.intCast_sub]; grind
theorem lit_up {x k : Int} (h0 : 26999999 ≤ elT (x : Rat) - 1000000000 * (k : Rat)) (h1 : elT ((x : Rat) + 43200000) - 1000000000 * (k : Rat) ≤ 473000001) : liLo x < liLo (x + 43200000) := by
  obtain ⟨A, e1, a1, a2⟩ := el_from x k
  obtain ⟨B, e2', b1, b2⟩ := el_from (x + 43200000) k
  rw [Rat.intCast_add, show ((43200000 : Int) : Rat) = 43200000 from rfl] at b1 b2
  obtain ⟨m1, m2⟩ := el_h (x : Rat)
  have F := cos_falls (A := A) (d := B - A) (by grind) (by grind) (by grind) (by grind)
  rw [show A + (B - A) = B by grind] at F
  have L1 := (li_near x).1
  have L2 := (li_near (x + 43200000)).2.1
  rw [e1] at L1
  rw [e2'] at L2
  apply int_lt_of_rat
  clear e1 e2' a1 a2 b1 b2 m1 m2 h0 h1
  generalize (liLo x : Rat) = p at *
  generalize (liLo (x + 43200000) : Rat) = q at *
  generalize CA A = u at *
  generalize CA B = v at *
  grind
theorem lit_down {x k : Int} (h0 : 526999999 ≤ elT (x : Rat) - 1000000000 * (k : Rat)) (h1 : elT ((x : Rat) + 43200000) - 1000000000 * (k : Rat) ≤ 986100000) : liLo (x + 43200000) < liLo x := by
  obtain ⟨A, e1, a1, a2⟩ := el_from x k
  obtain ⟨B, e2', b1, b2⟩ := el_from (x + 43200000) k
  rw [Rat.intCast_add, show ((43200000 : Int) : Rat) = 43200000 from rfl] at b1 b2
  obtain ⟨m1, m2⟩ := el_h (x : Rat)
  have F := cos_falls (A := 1000000000 - B) (d := B - A) (by grind) (by grind) (by grind) (by grind)
  rw [show 1000000000 - B + (B - A) = 1000000000 - A by grind] at F
  have t1 : ∀ z : Rat, CA (1000000000 - z) = CA (-z) := fun z => by
    have := CA_turn (-z) 1
    rw [show ((1 : Int) : Rat) = 1 from rfl, show -z + 1000000000 * 1 = 1000000000 - z by grind] at this
    exact this
  rw [t1, t1] at F
  have n1 := (SCA_neg A).2
  have n2 := (SCA_neg B).2
  have L1 := (li_near x).2.1
  have L2 := (li_near (x + 43200000)).1
  rw [e1] at L1
  rw [e2'] at L2
  apply int_lt_of_rat
  clear e1 e2' a1 a2 b1 b2 m1 m2 h0 h1 t1
  unfold Near e2 at *
  generalize (liLo x : Rat) = p at *
  generalize (liLo (x + 43200000) : Rat) = q at *
  generalize CA (-A) = u' at *
  generalize CA (-B) = v' at *
  generalize CA A = u at *
  generalize CA B = v at *
  grind
/-- A day behind a passage. -/
theorem el_later {k q c x : Int} (P : PhCross k q c) (h : c + 86400000 ≤ x) : 250000000 * (q : Rat) + 1000000000 * (k : Rat) + 26999999 ≤ elT (x : Rat) := by
  have e := el_le h
  have d := (el_day (c : Rat)).1
  have a := P.a
  rw [Rat.intCast_add, show ((86400000 : Int) : Rat) = 86400000 from rfl] at e
  generalize elT ((c : Rat) + 86400000) = u at *
  generalize elT (c : Rat) = v at *
  generalize elT (x : Rat) = w at *
  grind
/-- Ahead of a passage. -/
theorem el_before {k q c x : Int} (P : PhCross k q c) (h : x ≤ c - 1) : elT (x : Rat) ≤ 250000000 * (q : Rat) + 1000000000 * (k : Rat) + 1 / 10000000 := by
  have e := el_le h
  have b := P.b
  generalize elT ((c - 1 : Int) : Rat) = u at *
  generalize elT (x : Rat) = w at *
  grind
/-- Behind the new moon by a day, and a day and a half before the full moon: the light grows. -/
theorem top_grows {k c c2 x : Int} (P : PhCross k 0 c) (Q : PhCross k 2 c2) (h0 : c + 86400000 ≤ x) (h1 : x + 129600000 ≤ c2 - 1) : liLo x < liLo (x + 43200000) := by
  have a := el_later P h0
  have b := el_before Q h1
  rw [show x + 129600000 = x + 43200000 + 86400000 by omega] at b
  have d := (el_day ((x + 43200000 : Int) : Rat)).1
  rw [Rat.intCast_add, show ((86400000 : Int) : Rat) = 86400000 from rfl] at b
  rw [Rat.intCast_add, show ((43200000 : Int) : Rat) = 43200000 from rfl] at b d
  rw [show ((0 : Int) : Rat) = 0 from rfl] at a
  rw [show ((2 : Int) : Rat) = 2 from rfl] at b
  exact lit_up (k := k) (by grind) (by grind)
/-- Behind the full moon by a day, and a day before the new moon: the light falls. -/
theorem top_falls {k c c2 x : Int} (P : PhCross (k + 1) 0 c) (Q : PhCross k 2 c2) (h0 : c2 + 86400000 ≤ x) (h1 : x + 86400000 ≤ c - 1) : liLo (x + 43200000) < liLo x := by
  have a := el_later Q h0
  have b := el_before P h1
  rw [show x + 86400000 = x + 43200000 + 43200000 by omega] at b
  have d := (el_h ((x + 43200000 : Int) : Rat)).1
  rw [Rat.intCast_add, show ((43200000 : Int) : Rat) = 43200000 from rfl] at b
  rw [Rat.intCast_add, show ((43200000 : Int) : Rat) = 43200000 from rfl] at b d
  rw [Rat.intCast_add, show ((0 : Int) : Rat) = 0 from rfl, show ((1 : Int) : Rat) = 1 from rfl] at b
  rw [show ((2 : Int) : Rat) = 2 from rfl] at a
  exact lit_down (k := k) (by grind) (by grind)
end Go.Proofs.YtlldmhnkaopjhaaDoor
