/- Merged by wip/tools/pack.py out of XEcS, XEcT, XEcU, XEcV. -/
import Derived.Test.YtlldmhnkaopjhaaDoorEcR
/- Within eight lunations in a row there is one whose new moon has a small latitude. Plain. -/
namespace Go.Proofs.YtlldmhnkaopjhaaDoor
set_option linter.unusedSimpArgs false
set_option linter.unusedVariables false
theorem chord_w {a z W m : Rat} (hz : -W ≤ z ∧ z ≤ W) (hW : W ≤ 500000000) (hs : SA (W / 2) ≤ m) (hm : m ≤ 1) : -(2 * m + 1 / 100000000000000000) ≤ SA (a + z) - SA a ∧ SA (a + z) - SA a ≤ 2 * m + 1 / 100000000000000000 := by
  have b : -(m + 1 / 1000000000000000000) ≤ SA (z / 2) ∧ SA (z / 2) ≤ m + 1 / 1000000000000000000 := by
    by_cases c : 0 ≤ z
    · have g := sa_grow (x := z / 2) (y := W / 2) (by grind) (by grind) (by grind)
      have p := (sa_pos (x := z / 2) (by grind) (by grind)).1
      have p2 := (sa_pos (x := W / 2) (by grind) (by grind)).1
      constructor <;> grind
    · have g := sa_grow (x := -(z / 2)) (y := W / 2) (by grind) (by grind) (by grind)
      have p := (sa_pos (x := -(z / 2)) (by grind) (by grind)).1
      have p2 := (sa_pos (x := W / 2) (by grind) (by grind)).1
      have n := (SCA_neg (z / 2)).1
      unfold Near e2 at n
      constructor <;> grind
  have c := SA_chord (y := a) (d := z) b (by grind)
  unfold Near at c
  clear b hs
  generalize SA (a + z) = x at *
  generalize SA a = y at *
  constructor <;> grind
theorem term_w (P R k : Int) {x y W m : Rat} (hz : -W ≤ (R : Rat) * (y - x) / 86400000000000 - 1000000000 * (k : Rat) ∧ (R : Rat) * (y - x) / 86400000000000 - 1000000000 * (k : Rat) ≤ W) (hW : W ≤ 500000000) (hs : SA (W / 2) ≤ m) (hm : m ≤ 1) : -(2 * m + 1 / 100000000000000000) ≤ SA (phT P R y) - SA (phT P R x) ∧ SA (phT P R y) - SA (phT P R x) ≤ 2 * m + 1 / 100000000000000000 := by
  have e : phT P R y = (phT P R x + ((R : Rat) * (y - x) / 86400000000000 - 1000000000 * (k : Rat))) + 1000000000 * (k : Rat) := by unfold phT; grind
  rw [e, SA_turn]
  exact chord_w hz hW hs hm
theorem sea_nums : (sHi 41750000 ≤ 259325000 ∧ sHi 15700000 ≤ 98487000) ∧ (sHi 41100000 ≤ 255379000 ∧ sHi 82150000 ≤ 493548000) ∧ sHi 102250000 ≤ 599164000 := by decide +kernel
/-- How much the elongation moves in a lunation, but for the terms of the anomaly. -/
theorem rest_bd {x y : Rat} (h0 : 2519088000 ≤ y - x) (h1 : y - x ≤ 2591399999) : 33863191972223 * (y - x) / 86400000000000 + 17468817 * (SA (argM y) - SA (argM x)) + 593383 * (SA (argM y + argM y) - SA (argM x + argM x)) - 5610200 ≤ elT y - elT x := by
  obtain ⟨⟨n1, n2⟩, ⟨n3, n4⟩, n5⟩ := sea_nums
  have a1 := num_hi n1; have a2 := num_hi n2; have a3 := num_hi n3; have a4 := num_hi n4; have a5 := num_hi n5
  rw [show ((41750000 : Int) : Rat) = 41750000 from rfl, show ((259325000 : Int) : Rat) = 259325000 from rfl] at a1
  rw [show ((15700000 : Int) : Rat) = 15700000 from rfl, show ((98487000 : Int) : Rat) = 98487000 from rfl] at a2
  rw [show ((41100000 : Int) : Rat) = 41100000 from rfl, show ((255379000 : Int) : Rat) = 255379000 from rfl] at a3
  rw [show ((82150000 : Int) : Rat) = 82150000 from rfl, show ((493548000 : Int) : Rat) = 493548000 from rfl] at a4
  rw [show ((102250000 : Int) : Rat) = 102250000 from rfl, show ((599164000 : Int) : Rat) = 599164000 from rfl] at a5
  have c1 := term_w 134030564 31434736861111 1 (x := x) (y := y) (W := 83500000) (m := 259326 / 1000000) (by rw [show ((31434736861111 : Int) : Rat) = 31434736861111 from rfl, show ((1 : Int) : Rat) = 1 from rfl]; constructor <;> grind) (by grind) (by rw [show (83500000 : Rat) / 2 = 41750000 by grind]; grind) (by grind)
  have c2 := term_w 233414580 67726383944444 2 (x := x) (y := y) (W := 31400000) (m := 98488 / 1000000) (by rw [show ((67726383944444 : Int) : Rat) = 67726383944444 from rfl, show ((2 : Int) : Rat) = 2 from rfl]; constructor <;> grind) (by grind) (by rw [show (31400000 : Rat) / 2 = 15700000 by grind]; grind) (by grind)
  have c3 := term_w 84888545 2737778555556 0 (x := x) (y := y) (W := 82200000) (m := 255380 / 1000000) (by rw [show ((2737778555556 : Int) : Rat) = 2737778555556 from rfl, show ((0 : Int) : Rat) = 0 from rfl]; constructor <;> grind) (by grind) (by rw [show (82200000 : Rat) / 2 = 41100000 by grind]; grind) (by grind)
  have c4 := term_w 169777090 5475557111112 0 (x := x) (y := y) (W := 164300000) (m := 493549 / 1000000) (by rw [show ((5475557111112 : Int) : Rat) = 5475557111112 from rfl, show ((0 : Int) : Rat) = 0 from rfl]; constructor <;> grind) (by grind) (by rw [show (164300000 : Rat) / 2 = 82150000 by grind]; grind) (by grind)
  have c5 := term_w 297001062 73496390222222 2 (x := x) (y := y) (W := 204500000) (m := 599165 / 1000000) (by rw [show ((73496390222222 : Int) : Rat) = 73496390222222 from rfl, show ((2 : Int) : Rat) = 2 from rfl]; constructor <;> grind) (by grind) (by rw [show (204500000 : Rat) / 2 = 102250000 by grind]; grind) (by grind)
  have eM : ∀ t, svT moonLZ 6 t = 0 + (17468817) * SA (argM t) + (3538964) * SA (phT 134030564 31434736861111 t) + (1828650) * SA (phT 233414580 67726383944444 t) + (593383) * SA (phT 198768032 72583294166666 t) + (-514211) * SA (phT 84888545 2737778555556 t) + (-317589) * SA (phT 297001062 73496390222222 t) := fun _ => rfl
  have eS : ∀ t, svT sunZ 2 t = 0 + (5318339) * SA (phT 84888545 2737778555556 t) + (55536) * SA (phT 169777090 5475557111112 t) := fun _ => rfl
  have ek : ∀ t, elT t = phT 392048814 36601101305556 t + svT moonLZ 6 t - (phT 775342092 2737909333333 t + svT sunZ 2 t) := fun _ => rfl
  have e2M : ∀ t, phT 198768032 72583294166666 t = argM t + argM t := fun t => by
    unfold argM phT
    rw [show ((198768032 : Int) : Rat) = 198768032 from rfl, show ((72583294166666 : Int) : Rat) = 72583294166666 from rfl, show ((99384016 : Int) : Rat) = 99384016 from rfl, show ((36291647083333 : Int) : Rat) = 36291647083333 from rfl]
    grind
  rw [ek, ek, eM, eM, eS, eS, e2M, e2M]
  have em : phT 392048814 36601101305556 y - phT 775342092 2737909333333 y = phT 392048814 36601101305556 x - phT 775342092 2737909333333 x + 33863191972223 * (y - x) / 86400000000000 := by unfold phT; rw [show ((36601101305556 : Int) : Rat) = 36601101305556 from rfl, show ((2737909333333 : Int) : Rat) = 2737909333333 from rfl, show ((392048814 : Int) : Rat) = 392048814 from rfl, show ((775342092 : Int) : Rat) = 775342092 from rfl]; grind
  clear eM eS ek e2M n1 n2 n3 n4 n5 a1 a2 a3 a4 a5 h0 h1
  generalize SA (phT 134030564 31434736861111 y) = x1 at *
  generalize SA (phT 134030564 31434736861111 x) = y1 at *
  generalize SA (phT 233414580 67726383944444 y) = x2 at *
  generalize SA (phT 233414580 67726383944444 x) = y2 at *
  generalize SA (phT 84888545 2737778555556 y) = x4 at *
  generalize SA (phT 84888545 2737778555556 x) = y4 at *
  generalize SA (phT 169777090 5475557111112 y) = x5 at *
  generalize SA (phT 169777090 5475557111112 x) = y5 at *
  generalize SA (phT 297001062 73496390222222 y) = x6 at *
  generalize SA (phT 297001062 73496390222222 x) = y6 at *
  generalize SA (argM y) = x0 at *
  generalize SA (argM x) = y0 at *
  generalize SA (argM y + argM y) = x3 at *
  generalize SA (argM x + argM x) = y3 at *
  generalize phT 392048814 36601101305556 y = u1 at *
  generalize phT 775342092 2737909333333 y = u2 at *
  generalize phT 392048814 36601101305556 x = u3 at *
  generalize phT 775342092 2737909333333 x = u4 at *
  generalize 33863191972223 * (y - x) / 86400000000000 = D at *
  grind
end Go.Proofs.YtlldmhnkaopjhaaDoor
/- The latitude does not jump over its small values between two new moons in a row. Plain. -/
namespace Go.Proofs.YtlldmhnkaopjhaaDoor
set_option linter.unusedSimpArgs false
set_option linter.unusedVariables false
theorem sea_num2 : (181570000 ≤ sLo 29060000 ∧ sHi 220940000 ≤ 983380000) ∧ (274460000 ≤ sHi 44250000 ∧ 961590000 ≤ sLo 205750000) := by decide +kernel
theorem sq_nn (x : Rat) : 0 ≤ x * x := by
  by_cases c : 0 ≤ x
  · exact Rat.mul_nonneg c c
  · have := Rat.mul_nonneg (show 0 ≤ -x by grind) (show 0 ≤ -x by grind)
    rw [show -x * -x = x * x by grind] at this
    exact this
/-- The anomaly's sine, and that of twice the anomaly. -/
theorem sig_tau {x m : Rat} (h0 : 58120000 ≤ m) (h1 : m ≤ 88500000) : 7 * ((SA (x + m) - SA x) * (SA (x + m) - SA x)) - 108 / 100 ≤ SA (x + m + (x + m)) - SA (x + x) := by
  obtain ⟨⟨n1, n2⟩, -, n4⟩ := sea_num2
  obtain ⟨-, -, n3⟩ := rare_nums
  have a1 := num_lo n1; have a2 := num_hi n2; have a3 := num_hi n3; have a4 := num_lo n4
  rw [show ((29060000 : Int) : Rat) = 29060000 from rfl, show ((181570000 : Int) : Rat) = 181570000 from rfl] at a1
  rw [show ((220940000 : Int) : Rat) = 220940000 from rfl, show ((983380000 : Int) : Rat) = 983380000 from rfl] at a2
  rw [show ((44250000 : Int) : Rat) = 44250000 from rfl, show ((274470000 : Int) : Rat) = 274470000 from rfl] at a3
  rw [show ((205750000 : Int) : Rat) = 205750000 from rfl, show ((961590000 : Int) : Rat) = 961590000 from rfl] at a4
  obtain ⟨g, hg⟩ : ∃ g, g = m / 2 := ⟨_, rfl⟩
  have g1 := sa_grow (x := 29060000) (y := g) (by grind) (by grind) (by grind)
  have g2 := sa_grow (x := g) (y := 44250000) (by grind) (by grind) (by grind)
  have f1 := ca_fall (x := 29060000) (y := g) (by grind) (by grind) (by grind)
  have f2 := ca_fall (x := g) (y := 44250000) (by grind) (by grind) (by grind)
  have k1 := ca_back 29060000
  have k2 := ca_back 44250000
  rw [show (250000000 : Rat) - 29060000 = 220940000 by grind] at k1
  rw [show (250000000 : Rat) - 44250000 = 205750000 by grind] at k2
  have sg : 18156 / 100000 ≤ SA g ∧ SA g ≤ 27448 / 100000 := by clear f1 f2 k1 k2 a2 a4; constructor <;> grind
  have cg : 96158 / 100000 ≤ CA g ∧ CA g ≤ 98339 / 100000 := by unfold Near e2 at k1 k2; clear g1 g2 a1 a3; constructor <;> grind
  clear a1 a2 a3 a4 g1 g2 f1 f2 k1 k2 n1 n2 n3 n4
  obtain ⟨N, hN⟩ : ∃ N, N = x + g := ⟨_, rfl⟩
  have e1 : x + m = N + g := by grind
  have e2' : x = N + -g := by grind
  have e3 : x + m + (x + m) = (N + N) + (g + g) := by grind
  have e4 : x + x = (N + N) + -(g + g) := by grind
  rw [e3, e4, e1]
  rw [show SA x = SA (N + -g) by rw [← e2']]
  clear e1 e2' e3 e4 hN h0 h1 hg
  have p1 := (SCA_add N g).1
  have p2 := (SCA_add N (-g)).1
  have p3 := (SCA_add (N + N) (g + g)).1
  have p4 := (SCA_add (N + N) (-(g + g))).1
  have p5 := (SCA_add N N).2
  have p6 := (SCA_add g g).1
  obtain ⟨q1, q2⟩ := SCA_neg g
  obtain ⟨q3, q4⟩ := SCA_neg (g + g)
  have bN := SA_le N; have cN := CA_le N; have b2N := SA_le (N + N); have c2N := CA_le (N + N)
  have py := SA_pyth N
  -- the difference of the sines
  have m1 := rmul_bd (a := SA N) (b := CA (-g) - CA g) (B := e2) bN (by unfold Near at q2; constructor <;> grind)
  have m2 := rmul_bd (a := CA N) (b := SA (-g) + SA g) (B := e2) cN (by unfold Near at q1; constructor <;> grind)
  have m3 := rmul_bd (a := SA (N + N)) (b := CA (-(g + g)) - CA (g + g)) (B := e2) b2N (by unfold Near at q4; constructor <;> grind)
  have m4 := rmul_bd (a := CA (N + N)) (b := SA (-(g + g)) + SA (g + g)) (B := e2) c2N (by unfold Near at q3; constructor <;> grind)
  have S1 : Near (SA (N + g) - SA (N + -g)) (2 * (CA N * SA g)) (1 / 1000000000000000000000) := by
    clear p3 p4 p5 p6 m3 m4 q3 q4 py
    unfold Near e2 ep at *
    generalize SA (N + g) = y1 at *
    generalize SA (N + -g) = y2 at *
    generalize SA (-g) = y3 at *
    generalize CA (-g) = y4 at *
    generalize SA N = y5 at *
    generalize CA N = y6 at *
    generalize SA g = y7 at *
    generalize CA g = y8 at *
    constructor <;> grind
  have T1 : Near (SA (N + N + (g + g)) - SA (N + N + -(g + g))) (2 * (CA (N + N) * SA (g + g))) (1 / 1000000000000000000000) := by
    clear p1 p2 p5 p6 m1 m2 q1 q2 py sg cg S1
    unfold Near e2 ep at *
    generalize SA (N + N + (g + g)) = y1 at *
    generalize SA (N + N + -(g + g)) = y2 at *
    generalize SA (-(g + g)) = y3 at *
    generalize CA (-(g + g)) = y4 at *
    generalize SA (N + N) = y5 at *
    generalize CA (N + N) = y6 at *
    generalize SA (g + g) = y7 at *
    generalize CA (g + g) = y8 at *
    constructor <;> grind
  clear p1 p2 p3 p4 m1 m2 m3 m4 q1 q2 q3 q4 b2N
  -- twice the angles
  have C2 : Near (CA (N + N)) (2 * (CA N * CA N) - 1) (1 / 1000000000000000000000) := by
    unfold Near e2 ep at *
    clear sg cg S1 T1 p6
    generalize CA (N + N) = y1 at *
    generalize CA N * CA N = y2 at *
    generalize SA N * SA N = y3 at *
    constructor <;> grind
  have S2 : Near (SA (g + g)) (2 * (SA g * CA g)) (1 / 1000000000000000000000) := by
    unfold Near e2 at *
    clear sg cg S1 T1 p5 C2
    generalize SA (g + g) = y1 at *
    constructor <;> grind
  obtain ⟨w, hw⟩ : ∃ w, w = SA g * CA g := ⟨_, rfl⟩
  obtain ⟨c2, hc2⟩ : ∃ w, w = CA N * CA N := ⟨_, rfl⟩
  have w1 := rmul_bd (a := SA g) (b := CA g) (A := 27448 / 100000) (B := 98339 / 100000) (by constructor <;> grind) (by constructor <;> grind)
  have w0 := Rat.mul_nonneg (show 0 ≤ SA g by grind) (show 0 ≤ CA g - 35 / 10 * SA g by grind)
  have c0 := sq_nn (CA N)
  have w2 := Rat.mul_nonneg c0 w0
  have sgb := rmul_bd (a := CA N) (b := SA g) (B := 27448 / 100000) cN (by constructor <;> grind)
  rw [← hw] at w1 S2
  rw [← hc2] at C2
  have wb : 0 ≤ w := by rw [hw]; exact Rat.mul_nonneg (by grind) (by grind)
  have id0 : CA N * CA N * (SA g * (CA g - 35 / 10 * SA g)) = c2 * w - 35 / 10 * ((CA N * SA g) * (CA N * SA g)) := by rw [hw, hc2]; grind
  rw [id0] at w2
  -- the product
  have pr := rmul_bd (a := CA (N + N) - (2 * c2 - 1)) (b := SA (g + g)) (A := 1 / 1000000000000000000000) (B := 2) (by unfold Near at C2; constructor <;> grind) (by unfold Near at S2; constructor <;> grind)
  have c2b : 0 ≤ c2 ∧ c2 ≤ 11 / 10 := by
    have := rmul_bd cN cN
    rw [← hc2] at this
    rw [← hc2] at c0
    unfold ep at this
    exact ⟨c0, by grind⟩
  have pr2 := rmul_bd (a := 2 * c2 - 1) (b := SA (g + g) - 2 * w) (A := 2) (B := 1 / 1000000000000000000000) (by constructor <;> grind) (by unfold Near at S2; constructor <;> grind)
  have id1 : CA (N + N) * SA (g + g) = (CA (N + N) - (2 * c2 - 1)) * SA (g + g) + (2 * c2 - 1) * (SA (g + g) - 2 * w) + 4 * (c2 * w) - 2 * w := by grind
  rw [id1] at T1
  -- the square
  have sq := rmul_bd (a := SA (N + g) - SA (N + -g) - 2 * (CA N * SA g)) (b := SA (N + g) - SA (N + -g) + 2 * (CA N * SA g)) (A := 1 / 1000000000000000000000) (B := 2) (by unfold Near at S1; constructor <;> grind) (by unfold Near at S1; unfold ep at sgb; constructor <;> grind)
  have id2 : (SA (N + g) - SA (N + -g) - 2 * (CA N * SA g)) * (SA (N + g) - SA (N + -g) + 2 * (CA N * SA g)) = (SA (N + g) - SA (N + -g)) * (SA (N + g) - SA (N + -g)) - 4 * ((CA N * SA g) * (CA N * SA g)) := by grind
  rw [id2] at sq
  clear id0 id1 id2 S1 S2 C2 p5 p6 py c0 w0 sgb cN bN c2N sg cg c2b hc2 hw
  unfold Near at T1
  generalize (CA (N + N) - (2 * c2 - 1)) * SA (g + g) = z1 at *
  generalize (2 * c2 - 1) * (SA (g + g) - 2 * w) = z2 at *
  generalize c2 * w = z3 at *
  generalize (CA N * SA g) * (CA N * SA g) = z4 at *
  generalize (SA (N + g) - SA (N + -g)) * (SA (N + g) - SA (N + -g)) = z5 at *
  generalize SA (N + N + (g + g)) - SA (N + N + -(g + g)) = z6 at *
  grind
theorem arg_chord0 {x z : Rat} (h0 : 0 ≤ z) (h1 : z ≤ 88500000) : -(5493 / 10000) ≤ SA (x + z) - SA x ∧ SA (x + z) - SA x ≤ 5493 / 10000 := by
  obtain ⟨-, -, n5⟩ := rare_nums
  have n := num_hi n5
  rw [show ((44250000 : Int) : Rat) = 44250000 from rfl, show ((274470000 : Int) : Rat) = 274470000 from rfl] at n
  have g := sa_grow (x := z / 2) (y := 44250000) (by grind) (by grind) (by grind)
  have p := (sa_pos (x := z / 2) (by grind) (by grind)).1
  have c := SA_chord (y := x) (d := z) (m := 27448 / 100000) (by constructor <;> grind) (by grind)
  unfold Near at c
  generalize SA (x + z) = a at *
  generalize SA x = b at *
  constructor <;> grind
/-- Half of how far the argument moves, by the anomaly's sine. -/
theorem sea_h {x y z : Rat} (h0 : 2519088000 ≤ y - x) (h1 : y - x ≤ 2591399999) (hz : z = 36748195111111 * (y - x) / 86400000000000 - 1000000000) (he : elT y - elT x ≤ 1000000001) : z / 2 ≤ 45992000 - 9478544 * (SA (argM y) - SA (argM x)) - 2253700 * ((SA (argM y) - SA (argM x)) * (SA (argM y) - SA (argM x))) := by
  have r := rest_bd h0 h1
  obtain ⟨m, hm⟩ : ∃ m, m = 36291647083333 * (y - x) / 86400000000000 - 1000000000 := ⟨_, rfl⟩
  have em : argM y = argM x + m + 1000000000 * ((1 : Int) : Rat) := by
    rw [hm]
    unfold argM phT
    rw [show ((36291647083333 : Int) : Rat) = 36291647083333 from rfl, show ((1 : Int) : Rat) = 1 from rfl]
    grind
  have em2 : argM y + argM y = (argM x + m + (argM x + m)) + 1000000000 * ((2 : Int) : Rat) := by
    rw [em, show ((1 : Int) : Rat) = 1 from rfl, show ((2 : Int) : Rat) = 2 from rfl]; grind
  rw [em2, SA_turn] at r
  rw [em, SA_turn] at r ⊢
  have t := sig_tau (x := argM x) (m := m) (by grind) (by grind)
  have s := arg_chord0 (x := argM x) (z := m) (by grind) (by grind)
  have sq := sq_nn (SA (argM x + m) - SA (argM x))
  clear em em2 hm
  generalize SA (argM x + m + (argM x + m)) - SA (argM x + argM x) = tau at *
  generalize SA (argM x + m) - SA (argM x) = sg at *
  generalize sg * sg = s2 at *
  generalize elT y - elT x = E at *
  obtain ⟨T, hT⟩ : ∃ T, T = y - x := ⟨_, rfl⟩
  rw [← hT] at r hz
  clear hT h0 h1
  grind
theorem sea_num3 : (sHi 45900000 ≤ 284418000 ∧ sHi 204100000 ≤ 958702000) ∧ (sHi 40000000 ≤ 248690000 ∧ sHi 210000000 ≤ 968584000) ∧ (950030000 ≤ sLo 199480000 ∧ sHi 50520000 ≤ 312130000) := by decide +kernel
/-- What the tangent gives. -/
theorem tang {h k : Rat} (k0 : 0 ≤ k) (hk : k ≤ h) (h1 : h ≤ 60000000) : SA h ≤ SA k + CA k * ra (h - k) + 1 / 1000000000000000000 := by
  have a := (SCA_add k (h - k)).1
  rw [show k + (h - k) = h by grind] at a
  have s := SA_small (h := h - k) (by grind) (by grind)
  have c := (CA_le (h - k)).2
  have p := sa_pos (x := k) k0 (by grind)
  have m1 := Rat.mul_nonneg (show 0 ≤ SA k + 1 / 100000000000000000000000 by grind) (show 0 ≤ 1 + ep - CA (h - k) by grind)
  have m2 := Rat.mul_nonneg (show 0 ≤ CA k + 1 / 100000000000000000000000 by grind) (show 0 ≤ ra (h - k) - SA (h - k) by grind)
  have rb := ra_bd (x := h - k) (by grind) (by grind)
  have cb := CA_le (h - k)
  have sk := SA_le k
  have sh := SA_le (h - k)
  clear hk h1 k0
  unfold Near e2 ep at *
  generalize SA h = x1 at *
  generalize SA k = x2 at *
  generalize CA k = x3 at *
  generalize CA (h - k) = x4 at *
  generalize SA (h - k) = x5 at *
  generalize ra (h - k) = x6 at *
  grind
/-- The bounds of what the sum of both latitudes is made of. -/
theorem seaq_bd {h g : Rat} (h0 : 0 ≤ h) (hb : h ≤ 50520000) (hH : h ≤ 45992000 - 9478544 * g - 2253700 * (g * g)) (g0 : -(5493 / 10000) ≤ g) (g1 : g ≤ 5493 / 10000) : (-(1 / 1000) ≤ SA h ∧ SA h ≤ 3123 / 10000) ∧ (-(4 / 100) ≤ SA h + 1550819 / 28489566 * (g * CA h) ∧ SA h + 1550819 / 28489566 * (g * CA h) ≤ 28556 / 100000) := by
  obtain ⟨⟨n1, n2⟩, ⟨n3, n4⟩, n5, n6⟩ := sea_num3
  have a1 := num_hi n1; have a2 := num_hi n2; have a3 := num_hi n3; have a4 := num_hi n4; have a5 := num_lo n5
  rw [show ((45900000 : Int) : Rat) = 45900000 from rfl, show ((284418000 : Int) : Rat) = 284418000 from rfl] at a1
  rw [show ((204100000 : Int) : Rat) = 204100000 from rfl, show ((958702000 : Int) : Rat) = 958702000 from rfl] at a2
  rw [show ((40000000 : Int) : Rat) = 40000000 from rfl, show ((248690000 : Int) : Rat) = 248690000 from rfl] at a3
  rw [show ((210000000 : Int) : Rat) = 210000000 from rfl, show ((968584000 : Int) : Rat) = 968584000 from rfl] at a4
  rw [show ((199480000 : Int) : Rat) = 199480000 from rfl, show ((950030000 : Int) : Rat) = 950030000 from rfl] at a5
  have p := sa_pos (x := h) h0 (by grind)
  have cb := (CA_le h).2
  have q := qq_b9
  have shb : SA h ≤ 3123 / 10000 := by
    have a6 := num_hi n6
    rw [show ((50520000 : Int) : Rat) = 50520000 from rfl, show ((312130000 : Int) : Rat) = 312130000 from rfl] at a6
    have s := sa_grow (x := h) (y := 50520000) h0 hb (by grind)
    clear a1 a2 a3 a4 a5 hH
    grind
  have gg := sq_nn g
  have f := ca_fall (x := h) (y := 50520000) h0 hb (by grind)
  have k := ca_back 50520000
  rw [show (250000000 : Rat) - 50520000 = 199480000 by grind] at k
  have ch : 95 / 100 ≤ CA h := by
    unfold Near e2 at k
    clear a1 a2 a3 a4 hH
    grind
  clear f k a5 n1 n2 n3 n4 n5 n6
  by_cases c : g ≤ 0
  · -- the anomaly's sine falls
    have k2 := ca_back 45900000
    rw [show (250000000 : Rat) - 45900000 = 204100000 by grind] at k2
    have ck : CA 45900000 ≤ 958703 / 1000000 := by unfold Near e2 at k2; grind
    have ck0 := (sa_pos (x := 45900000) (by grind) (by grind)).2
    have sh : SA h ≤ 28442 / 100000 + 958703 / 1000000 * (62831857 / 10000000000000000 * (92000 - 9478544 * g - 2253700 * (g * g))) := by
      by_cases d : 45900000 ≤ h
      · have t := tang (h := h) (k := 45900000) (by grind) d (by grind)
        have r : ra (h - 45900000) ≤ 62831857 / 10000000000000000 * (92000 - 9478544 * g - 2253700 * (g * g)) := by
          have u := Rat.mul_le_mul_of_nonneg_right q.2 (show 0 ≤ h - 45900000 by grind)
          unfold ra
          rw [show 8 * qq * ((h - 45900000) / 1000000000) = qq * (h - 45900000) * (8 / 1000000000) by grind]
          clear t k2 a1 a2 a3 a4 ck ck0 p cb ch q
          generalize qq * (h - 45900000) = w at *
          generalize g * g = g2 at *
          grind
        have r0 := (ra_bd (x := h - 45900000) (by grind) (by grind)).1
        have m1 := Rat.mul_nonneg (show 0 ≤ 958703 / 1000000 - CA 45900000 by grind) r0
        clear k2 a2 a3 a4 ck ck0 p cb ch q hH
        generalize ra (h - 45900000) = w at *
        generalize g * g = g2 at *
        grind
      · have s := sa_grow (x := h) (y := 45900000) h0 (by grind) (by grind)
        have g2 := rmul_bd (a := g) (b := g + 4) (A := 5493 / 10000) (B := 5) (by constructor <;> grind) (by constructor <;> grind)
        have g3 : g * g ≤ 0 - g := by
          have := Rat.mul_nonneg (show 0 ≤ -g by grind) (show 0 ≤ 1 + g by grind)
          grind
        clear k2 a2 a3 a4 ck ck0 p cb ch q hH g2
        generalize g * g = g2 at *
        grind
    have m := Rat.mul_nonneg (show 0 ≤ -g by grind) (show 0 ≤ CA h - 95 / 100 by grind)
    have m' := Rat.mul_nonneg (show 0 ≤ -g by grind) (show 0 ≤ 1 + ep - CA h by grind)
    have w := sq_nn (g + 2 / 10)
    clear k2 a2 a3 a4 ck ck0 q hH a1
    unfold ep at *
    have e1 : -g * (CA h - 95 / 100) = -(g * CA h) + 95 / 100 * g := by grind
    have e2' : -g * (1 + 1 / 1000000000000000000000000000 - CA h) = g * CA h - g * (1 + 1 / 1000000000000000000000000000) := by grind
    have e3 : (g + 2 / 10) * (g + 2 / 10) = g * g + 4 / 10 * g + 4 / 100 := by grind
    rw [e1] at m
    rw [e2'] at m'
    rw [e3] at w
    clear e1 e2' e3
    generalize g * CA h = u at *
    generalize g * g = g2 at *
    refine ⟨⟨by grind, shb⟩, ?_, ?_⟩ <;> grind
  · have k2 := ca_back 40000000
    rw [show (250000000 : Rat) - 40000000 = 210000000 by grind] at k2
    have ck : CA 40000000 ≤ 968585 / 1000000 := by unfold Near e2 at k2; grind
    have ck0 := (sa_pos (x := 40000000) (by grind) (by grind)).2
    by_cases d : 40000000 ≤ h
    · have chh : CA h ≤ 968586 / 1000000 := by
        have f := ca_fall (x := 40000000) (y := h) (by grind) d (by grind)
        clear k2 a1 a2 a3 a4 hH
        grind
      have sh : SA h ≤ 248691 / 1000000 + 968585 / 1000000 * (62831857 / 10000000000000000 * (5992000 - 9478544 * g - 2253700 * (g * g))) := by
        have t := tang (h := h) (k := 40000000) (by grind) d (by grind)
        have r : ra (h - 40000000) ≤ 62831857 / 10000000000000000 * (5992000 - 9478544 * g - 2253700 * (g * g)) := by
          have u := Rat.mul_le_mul_of_nonneg_right q.2 (show 0 ≤ h - 40000000 by grind)
          unfold ra
          rw [show 8 * qq * ((h - 40000000) / 1000000000) = qq * (h - 40000000) * (8 / 1000000000) by grind]
          clear t k2 a1 a2 a3 a4 ck ck0 p cb ch q chh
          generalize qq * (h - 40000000) = w at *
          generalize g * g = g2 at *
          grind
        have r0 := (ra_bd (x := h - 40000000) (by grind) (by grind)).1
        have m1 := Rat.mul_nonneg (show 0 ≤ 968585 / 1000000 - CA 40000000 by grind) r0
        clear k2 a1 a2 a4 ck ck0 p cb ch q hH chh
        generalize ra (h - 40000000) = w at *
        generalize g * g = g2 at *
        grind
      have m := Rat.mul_nonneg (show 0 ≤ g by grind) (show 0 ≤ 968586 / 1000000 - CA h by grind)
      have m' := Rat.mul_nonneg (show 0 ≤ g by grind) (show 0 ≤ CA h by grind)
      clear k2 a1 a2 a3 a4 ck ck0 q hH cb
      have e1 : g * (968586 / 1000000 - CA h) = 968586 / 1000000 * g - g * CA h := by grind
      rw [e1] at m
      clear e1
      generalize g * CA h = u at *
      generalize g * g = g2 at *
      refine ⟨⟨by grind, shb⟩, ?_, ?_⟩ <;> grind
    · have s := sa_grow (x := h) (y := 40000000) h0 (by grind) (by grind)
      have m := Rat.mul_nonneg (show 0 ≤ g by grind) (show 0 ≤ 1 + ep - CA h by grind)
      have m' := Rat.mul_nonneg (show 0 ≤ g by grind) (show 0 ≤ CA h by grind)
      clear k2 a1 a2 a4 ck ck0 q hH cb
      unfold ep at *
      have e1 : g * (1 + 1 / 1000000000000000000000000000 - CA h) = g * (1 + 1 / 1000000000000000000000000000) - g * CA h := by grind
      rw [e1] at m
      clear e1
      generalize g * CA h = u at *
      generalize g * g = g2 at *
      refine ⟨⟨by grind, shb⟩, ?_, ?_⟩ <;> grind
end Go.Proofs.YtlldmhnkaopjhaaDoor
/- Within eight lunations in a row there is one that is not surely without an eclipse. Plain. -/
namespace Go.Proofs.YtlldmhnkaopjhaaDoor
set_option linter.unusedSimpArgs false
set_option linter.unusedVariables false
theorem sea_core {Su Cu sh ch s s' r r' u u' v v' b b' : Rat} (hS : -(1 + ep) ≤ Su ∧ Su ≤ 1 + ep) (hC : -(1 + ep) ≤ Cu ∧ Cu ≤ 1 + ep) (py : Near (Cu * Cu + Su * Su) 1 ep) (hs : -(1 + ep) ≤ s ∧ s ≤ 1 + ep) (hs' : -(1 + ep) ≤ s' ∧ s' ≤ 1 + ep) (hr : -(1 + ep) ≤ r ∧ r ≤ 1 + ep) (hr' : -(1 + ep) ≤ r' ∧ r' ≤ 1 + ep) (hu0 : -(1 + ep) ≤ u ∧ u ≤ 1 + ep) (hu0' : -(1 + ep) ≤ u' ∧ u' ≤ 1 + ep)
    (hu : Near u (Su * ch - Cu * sh) (1 / 1000000000000000000000)) (hu' : Near u' (Su * ch + Cu * sh) (1 / 1000000000000000000000)) (hv : Near v (Cu * ch + Su * sh) (1 / 1000000000000000000000)) (hv' : Near v' (Cu * ch - Su * sh) (1 / 1000000000000000000000))
    (b1 : Near b (14244783 * u + 1550819 * (s * v) + 8081 * (r * u)) (1 / 1000)) (b2 : Near b' (14244783 * u' + 1550819 * (s' * v') + 8081 * (r' * u')) (1 / 1000))
    (hsh : -(1 / 1000) ≤ sh ∧ sh ≤ 3123 / 10000) (hp : -(4 / 100) ≤ sh + 1550819 / 28489566 * ((s' - s) * ch) ∧ sh + 1550819 / 28489566 * ((s' - s) * ch) ≤ 28556 / 100000) : -8220000 ≤ b - b' ∧ b - b' ≤ 8220000 := by
  obtain ⟨p, hpd⟩ : ∃ p, p = sh + 1550819 / 28489566 * ((s' - s) * ch) := ⟨_, rfl⟩
  obtain ⟨q, hqd⟩ : ∃ q, q = 1550819 / 28489566 * ((s + s') * sh) := ⟨_, rfl⟩
  rw [← hpd] at hp
  have q0 := rmul_bd (a := s + s') (b := sh) (A := 2001 / 1000) (B := 3123 / 10000) (by unfold ep at *; constructor <;> grind) (by constructor <;> grind)
  have qb : -(34021 / 1000000) ≤ q ∧ q ≤ 34021 / 1000000 := by
    rw [hqd]
    generalize (s + s') * sh = x at *
    constructor <;> grind
  have pp := rmul_bd (a := p) (b := p) (A := 28556 / 100000) (B := 28556 / 100000) (by constructor <;> grind) (by constructor <;> grind)
  have qq' := rmul_bd qb qb
  obtain ⟨W, hW⟩ : ∃ W, W = Su * q - Cu * p := ⟨_, rfl⟩
  have s1 := sq_nn (Su * p + Cu * q)
  have id1 : W * W + (Su * p + Cu * q) * (Su * p + Cu * q) = (Cu * Cu + Su * Su) * (p * p + q * q) := by rw [hW]; grind
  have p1 := rmul_bd (a := Cu * Cu + Su * Su - 1) (b := p * p + q * q) (A := ep) (B := 1) (by unfold Near at py; constructor <;> grind) (by constructor <;> grind)
  have id2 : (Cu * Cu + Su * Su) * (p * p + q * q) = (Cu * Cu + Su * Su - 1) * (p * p + q * q) + (p * p + q * q) := by grind
  have WW : W * W ≤ 82702 / 1000000 := by
    rw [id2] at id1
    clear id2 b1 b2 hu hu' hv hv'
    unfold ep at p1
    generalize (Cu * Cu + Su * Su - 1) * (p * p + q * q) = x at *
    generalize (Su * p + Cu * q) * (Su * p + Cu * q) = y at *
    generalize W * W = z at *
    generalize p * p = pp2 at *
    generalize q * q = qq2 at *
    grind
  have Wb : -(28764 / 100000) ≤ W ∧ W ≤ 28764 / 100000 := by
    constructor
    · apply Rat.not_lt.1
      intro l
      have := Rat.mul_nonneg (show 0 ≤ -W - 28764 / 100000 by grind) (show 0 ≤ -W - 28764 / 100000 by grind)
      have e : (-W - 28764 / 100000) * (-W - 28764 / 100000) = W * W + 2 * (28764 / 100000) * W + 28764 / 100000 * (28764 / 100000) := by grind
      rw [e] at this
      clear e id1 id2 b1 b2 hu hu' hv hv' pp qq' p1 s1
      generalize W * W = z at *
      grind
    · apply Rat.not_lt.1
      intro l
      have := Rat.mul_nonneg (show 0 ≤ W - 28764 / 100000 by grind) (show 0 ≤ W - 28764 / 100000 by grind)
      have e : (W - 28764 / 100000) * (W - 28764 / 100000) = W * W - 2 * (28764 / 100000) * W + 28764 / 100000 * (28764 / 100000) := by grind
      rw [e] at this
      clear e id1 id2 b1 b2 hu hu' hv hv' pp qq' p1 s1
      generalize W * W = z at *
      grind
  clear pp qq' p1 s1 id1 id2 WW hp qb q0 py
  have m1 := rmul_bd (a := s) (b := v - (Cu * ch + Su * sh)) (B := 1 / 1000000000000000000000) hs (by unfold Near at hv; constructor <;> grind)
  have m2 := rmul_bd (a := s') (b := v' - (Cu * ch - Su * sh)) (B := 1 / 1000000000000000000000) hs' (by unfold Near at hv'; constructor <;> grind)
  have m3 := rmul_bd (a := r) (b := u) hr hu0
  have m4 := rmul_bd (a := r') (b := u') hr' hu0'
  have id3 : 14244783 * (Su * ch - Cu * sh) + 1550819 * (s * (Cu * ch + Su * sh)) - (14244783 * (Su * ch + Cu * sh) + 1550819 * (s' * (Cu * ch - Su * sh))) = 28489566 * W := by rw [hW, hpd, hqd]; grind
  have e1 : s * (v - (Cu * ch + Su * sh)) = s * v - s * (Cu * ch + Su * sh) := by grind
  have e2' : s' * (v' - (Cu * ch - Su * sh)) = s' * v' - s' * (Cu * ch - Su * sh) := by grind
  rw [e1] at m1
  rw [e2'] at m2
  clear e1 e2' hW hpd hqd hv hv' hS hC hs hs' hr hr' hu0 hu0' hsh
  unfold Near ep at *
  generalize s * (Cu * ch + Su * sh) = x1 at *
  generalize s' * (Cu * ch - Su * sh) = x2 at *
  generalize s * v = x3 at *
  generalize s' * v' = x4 at *
  generalize r * u = x5 at *
  generalize r' * u' = x6 at *
  generalize Su * ch = x7 at *
  generalize Cu * sh = x8 at *
  constructor <;> grind
/-- How far the latitude moves from one new moon to the next one. -/
theorem sea_pair {x y : Rat} (h0 : 2519088000 ≤ y - x) (h1 : y - x ≤ 2591399999) (he : elT y - elT x ≤ 1000000001) : -8220000 ≤ beT x - beT y ∧ beT x - beT y ≤ 8220000 := by
  obtain ⟨z, hz⟩ : ∃ z, z = 36748195111111 * (y - x) / 86400000000000 - 1000000000 := ⟨_, rfl⟩
  have H := sea_h h0 h1 hz he
  have z0 : 71430000 ≤ z := by rw [hz]; grind
  have z1 : z ≤ 102200000 := by rw [hz]; grind
  have ez : argF y = argF x + z + 1000000000 * ((1 : Int) : Rat) := by
    rw [hz]
    unfold argF phT
    rw [show ((36748195111111 : Int) : Rat) = 36748195111111 from rfl, show ((1 : Int) : Rat) = 1 from rfl]
    grind
  obtain ⟨m, hm⟩ : ∃ m, m = 36291647083333 * (y - x) / 86400000000000 - 1000000000 := ⟨_, rfl⟩
  have em : argM y = argM x + m + 1000000000 * ((1 : Int) : Rat) := by
    rw [hm]
    unfold argM phT
    rw [show ((36291647083333 : Int) : Rat) = 36291647083333 from rfl, show ((1 : Int) : Rat) = 1 from rfl]
    grind
  have d1 := be_dec x
  have d2 := be_dec y
  rw [ez, em, SA_turn, CA_turn, SA_turn, CA_turn] at d2
  rw [em, SA_turn] at H
  have ch := arg_chord0 (x := argM x) (z := m) (by grind) (by grind)
  obtain ⟨h, hh⟩ : ∃ h, h = z / 2 := ⟨_, rfl⟩
  rw [← hh] at H
  have hb : h ≤ 50520000 := by
    have w := sq_nn (SA (argM x + m) - SA (argM x))
    have w2 := Rat.mul_nonneg (show 0 ≤ SA (argM x + m) - SA (argM x) + 5493 / 10000 by grind) (show 0 ≤ 4 - (SA (argM x + m) - SA (argM x)) by grind)
    clear d1 d2 ez em hm hz z0 z1
    generalize SA (argM x + m) - SA (argM x) = g at *
    have e : (g + 5493 / 10000) * (4 - g) = 34507 / 10000 * g - g * g + 4 * (5493 / 10000) := by grind
    have w3 := sq_nn (g + 5493 / 10000)
    have e3 : (g + 5493 / 10000) * (g + 5493 / 10000) = g * g + 10986 / 10000 * g + 5493 / 10000 * (5493 / 10000) := by grind
    rw [e] at w2
    rw [e3] at w3
    clear e e3
    generalize g * g = g2 at *
    grind
  obtain ⟨hsh, hp⟩ := seaq_bd (h := h) (g := SA (argM x + m) - SA (argM x)) (by grind) hb H ch.1 ch.2
  obtain ⟨N, hN⟩ : ∃ N, N = argF x + h := ⟨_, rfl⟩
  have f1 : argF x = N + -h := by grind
  have f2 : argF x + z = N + h := by grind
  obtain ⟨a1, a2⟩ := SCA_add N h
  obtain ⟨a3, a4⟩ := SCA_add N (-h)
  obtain ⟨n1, n2⟩ := SCA_neg h
  have bS := SA_le N; have bC := CA_le N
  have m1 := rmul_bd (a := SA N) (b := CA (-h) - CA h) (B := e2) bS (by unfold Near at n2; constructor <;> grind)
  have m2 := rmul_bd (a := CA N) (b := SA (-h) + SA h) (B := e2) bC (by unfold Near at n1; constructor <;> grind)
  have m3 := rmul_bd (a := CA N) (b := CA (-h) - CA h) (B := e2) bC (by unfold Near at n2; constructor <;> grind)
  have m4 := rmul_bd (a := SA N) (b := SA (-h) + SA h) (B := e2) bS (by unfold Near at n1; constructor <;> grind)
  rw [f2] at d2
  have f3 : SA (argF x) = SA (N + -h) := by rw [← f1]
  have f4 : CA (argF x) = CA (N + -h) := by rw [← f1]
  rw [f3, f4] at d1
  have u1 := SA_le (N + -h); have u2 := SA_le (N + h)
  refine sea_core bS bC (SA_pyth N) (SA_le (argM x)) (SA_le (argM x + m)) (CA_le (argM x)) (CA_le (argM x + m)) u1 u2 ?_ ?_ ?_ ?_ d1 d2 hsh hp
  all_goals
    clear d1 d2 hsh hp H ch hb f1 f2 f3 f4 u1 u2 hN hh hm hz em ez h0 h1 he z0 z1 n1 n2
    unfold Near e2 ep at *
    generalize SA (N + h) = y1 at *
    generalize CA (N + h) = y2 at *
    generalize SA (N + -h) = y3 at *
    generalize CA (N + -h) = y4 at *
    generalize SA (-h) = y5 at *
    generalize CA (-h) = y6 at *
    generalize SA N = y7 at *
    generalize CA N = y8 at *
    generalize SA h = y9 at *
    generalize CA h = y10 at *
    constructor <;> grind
end Go.Proofs.YtlldmhnkaopjhaaDoor
/- Within eight lunations in a row there is one that is not surely without an eclipse. Plain. -/
namespace Go.Proofs.YtlldmhnkaopjhaaDoor
set_option linter.unusedSimpArgs false
set_option linter.unusedVariables false
theorem la_b {a b : Int} (h : a ≤ b) (hw : b - a ≤ 600000) : (laLo a b : Rat) ≤ beT (b : Rat) - 20002 ∧ beT (b : Rat) + 20002 ≤ (laHi a b : Rat) := by
  have m := mo_ok (d := b - a) (by omega) (by omega)
  have m0 := m.n0
  clear m
  obtain ⟨q1, q2, q3, q4⟩ := be_at b
  rw [show ((20000 : Int) : Rat) = 20000 from rfl] at q1 q2 q3 q4
  have f1 : laLo a b ≤ mbLo b - 2 := by unfold laLo; omega
  have f2 : mbHi b + 2 ≤ laHi a b := by unfold laHi; omega
  have g1 := Rat.intCast_le_intCast.2 f1
  have g2 := Rat.intCast_le_intCast.2 f2
  rw [Rat.intCast_sub, show ((2 : Int) : Rat) = 2 from rfl] at g1
  rw [Rat.intCast_add, show ((2 : Int) : Rat) = 2 from rfl] at g2
  clear f1 f2 m0 hw h
  constructor <;> grind
/-- Surely no eclipse: the latitude is great at both ends, on one side. -/
theorem ec_quiet2 {k : Int} (h : Quiet k 0) (hab : (phF k 0).1 ≤ (phF k 0).2) (hw : (phF k 0).2 - (phF k 0).1 ≤ 600000) : (4120000 ≤ beT ((phF k 0).1 : Rat) ∧ 4120000 ≤ beT ((phF k 0).2 : Rat)) ∨ (beT ((phF k 0).1 : Rat) ≤ -4120000 ∧ beT ((phF k 0).2 : Rat) ≤ -4120000) := by
  obtain ⟨l1, h1, -, -⟩ := la_at hab hw
  obtain ⟨l2, h2⟩ := la_b hab hw
  have m := (quiet_iff k 0).1 h
  have e : ecPart 0 = 4100000 := by decide
  rw [e] at m
  generalize laLo (phF k 0).1 (phF k 0).2 = l at *
  generalize laHi (phF k 0).1 (phF k 0).2 = u at *
  unfold ecLeast at m
  rcases (by omega : 4100000 ≤ l ∨ u ≤ -4100000) with c | c
  · left
    have g := Rat.intCast_le_intCast.2 c
    rw [show ((4100000 : Int) : Rat) = 4100000 from rfl] at g
    constructor <;> grind
  · right
    have g := Rat.intCast_le_intCast.2 c
    rw [show ((-4100000 : Int) : Rat) = -4100000 from rfl] at g
    constructor <;> grind
theorem ec_jump {k c c' : Int} (P : PhIn k 0 c) (P' : PhIn (k + 1) 0 c') : -8220000 ≤ beT ((phF k 0).2 : Rat) - beT ((phF (k + 1) 0).1 : Rat) ∧ beT ((phF k 0).2 : Rat) - beT ((phF (k + 1) 0).1 : Rat) ≤ 8220000 := by
  have h : 250000000 * (0 : Int) + 1000000000 * (k + 1) = 250000000 * 0 + 1000000000 * k + 1000000000 := by omega
  have a := cross_lo (T := 2520288000) (hi := 999948304) P.x P'.x h (el_e (c : Rat)).2 (by omega)
  have b := cross_hi (T := 2590799999) (lo := 1000205526) P.x P'.x h (el_d (c : Rat)).1 (by omega)
  have xa := P.x.a
  have xb := P'.x.b
  obtain ⟨-, -, p1, p2, -, p3⟩ := P
  obtain ⟨-, -, r1, r2, -, r3⟩ := P'
  have l1 := el_le p2
  have l2 := el_le (show (phF (k + 1) 0).1 ≤ c' - 1 by omega)
  have t0 := Rat.intCast_le_intCast.2 (show 2519088000 ≤ (phF (k + 1) 0).1 - (phF k 0).2 by omega)
  have t1 := Rat.intCast_le_intCast.2 (show (phF (k + 1) 0).1 - (phF k 0).2 ≤ 2591399999 by omega)
  rw [Rat.intCast_sub] at t0 t1
  rw [Rat.intCast_add, show ((0 : Int) : Rat) = 0 from rfl, show ((1 : Int) : Rat) = 1 from rfl] at xb
  rw [show ((0 : Int) : Rat) = 0 from rfl] at xa
  refine sea_pair t0 t1 ?_
  clear t0 t1 a b p1 p2 p3 r1 r2 r3 h
  generalize elT ((phF (k + 1) 0).1 : Rat) = e1 at *
  generalize elT ((phF k 0).2 : Rat) = e2' at *
  generalize elT (c : Rat) = e3 at *
  generalize elT ((c' - 1 : Int) : Rat) = e4 at *
  grind
theorem arc_num : sHi 27000000 ≤ 168840000 := by decide +kernel
/-- A sine that is not small. -/
theorem arc_in {t : Rat} (h : 17 / 100 ≤ SA t) : 27000000 ≤ redu t ∧ redu t ≤ 473000000 := by
  obtain ⟨k, hk⟩ := redu_eq t
  obtain ⟨r0, r1⟩ := redu_bd t
  have e : SA t = SA (redu t) := by
    have q := SA_turn (redu t) k
    rw [← hk] at q
    exact q
  rw [e] at h
  clear e hk
  generalize redu t = y at *
  have n := num_hi arc_num
  rw [show ((27000000 : Int) : Rat) = 27000000 from rfl, show ((168840000 : Int) : Rat) = 168840000 from rfl] at n
  constructor
  · apply Rat.not_lt.1
    intro l
    have g := sa_grow (x := y) (y := 27000000) r0 (by grind) (by grind)
    grind
  · apply Rat.not_lt.1
    intro l
    by_cases c : y ≤ 500000000
    · have g := sa_grow (x := 500000000 - y) (y := 27000000) (by grind) (by grind) (by grind)
      have s := sa_half y
      unfold Near e2 at s
      grind
    · have g := (SA_small (h := y - 500000000) (by grind) (by grind)).1
      have s := sa_half (500000000 - y)
      rw [show 500000000 - (500000000 - y) = y by grind] at s
      have s2 := (SCA_neg (y - 500000000)).1
      rw [show -(y - 500000000) = 500000000 - y by grind] at s2
      unfold Near e2 at s s2
      grind
theorem F_pos {t : Rat} (h : 4120000 ≤ beT t) : 27000000 ≤ redu (argF t) ∧ redu (argF t) ≤ 473000000 := by
  apply arc_in
  have d := be_dec t
  have m1 := rmul_bd (SA_le (argM t)) (CA_le (argF t))
  have m2 := rmul_bd (CA_le (argM t)) (SA_le (argF t))
  unfold Near ep at *
  generalize SA (argM t) * CA (argF t) = x at *
  generalize CA (argM t) * SA (argF t) = y at *
  grind
theorem F_neg {t : Rat} (h : beT t ≤ -4120000) : 27000000 ≤ redu (argF t + 500000000) ∧ redu (argF t + 500000000) ≤ 473000000 := by
  apply arc_in
  have d := be_dec t
  have m1 := rmul_bd (SA_le (argM t)) (CA_le (argF t))
  have m2 := rmul_bd (CA_le (argM t)) (SA_le (argF t))
  have s := sa_half (-argF t)
  rw [show 500000000 - -argF t = argF t + 500000000 by grind] at s
  have s2 := (SCA_neg (argF t)).1
  unfold Near e2 ep at *
  generalize SA (argM t) * CA (argF t) = x at *
  generalize CA (argM t) * SA (argF t) = y at *
  grind
theorem redu_step {X z : Rat} {k : Int} (h0 : 0 ≤ redu X + z) (h1 : redu X + z < 1000000000) : redu (X + z + 1000000000 * (k : Rat)) = redu X + z := by
  obtain ⟨j, hj⟩ := redu_eq X
  refine redu_of (k := j + k) ?_ h0 h1
  rw [Rat.intCast_add]
  grind
/-- In a run of quiet lunations on one side the argument grows. -/
theorem arc_run {o : Rat} (t : Nat → Rat) (h : ∀ i, i < 8 → 27000000 ≤ redu (argF (t i) + o) ∧ redu (argF (t i) + o) ≤ 473000000) (ht : ∀ i, i < 7 → 2519688000 ≤ t (i + 1) - t i ∧ t (i + 1) - t i ≤ 2591399999) : ∀ i : Nat, i ≤ 7 → 27000000 + 71680000 * (i : Rat) ≤ redu (argF (t i) + o)
  | 0, _ => by
    have := (h 0 (by omega)).1
    rw [show ((0 : Nat) : Rat) = 0 from rfl]
    grind
  | i + 1, hi => by
    have ih := arc_run t h ht i (by omega)
    have b := h i (by omega)
    have b' := h (i + 1) (by omega)
    obtain ⟨a1, a2⟩ := ht i (by omega)
    obtain ⟨z, ez, z0, z1⟩ := arg_F a1 a2
    have e : argF (t (i + 1)) + o = argF (t i) + o + z + 1000000000 * ((1 : Int) : Rat) := by rw [ez]; grind
    rw [e, redu_step (by grind) (by grind)]
    rw [Rat.natCast_add, show ((1 : Nat) : Rat) = 1 from rfl]
    grind
theorem ec_seasons {k : Int} (k0 : -99000 ≤ k) (k1 : k ≤ 99000) (h : ∀ i : Int, 0 ≤ i → i < 8 → Quiet (k + i) 0) : False := by
  have IN : ∀ i : Int, 0 ≤ i → i < 8 → ∃ c, PhIn (k + i) 0 c := fun i h0 h1 => ph_in (k := k + i) (q := 0) (by omega) (by omega) (by omega) (by omega)
  have TT : ∀ i : Nat, i < 7 → 2519688000 ≤ ((phF (k + ((i + 1 : Nat) : Int)) 0).1 : Rat) - ((phF (k + (i : Int)) 0).1 : Rat) ∧ ((phF (k + ((i + 1 : Nat) : Int)) 0).1 : Rat) - ((phF (k + (i : Int)) 0).1 : Rat) ≤ 2591399999 := by
    intro i hi
    obtain ⟨c, C⟩ := IN (i : Int) (by omega) (by omega)
    obtain ⟨c', C'⟩ := IN ((i : Int) + 1) (by omega) (by omega)
    rw [show k + ((i : Int) + 1) = k + (i : Int) + 1 by omega] at C'
    have a := ph_apart C C'
    rw [show k + ((i + 1 : Nat) : Int) = k + (i : Int) + 1 by omega]
    have a1 := Rat.intCast_le_intCast.2 a.1
    have a2 := Rat.intCast_le_intCast.2 a.2
    rw [Rat.intCast_sub] at a1 a2
    exact ⟨a1, a2⟩
  have Q2 : ∀ i : Int, 0 ≤ i → i < 8 → (4120000 ≤ beT ((phF (k + i) 0).1 : Rat) ∧ 4120000 ≤ beT ((phF (k + i) 0).2 : Rat)) ∨ (beT ((phF (k + i) 0).1 : Rat) ≤ -4120000 ∧ beT ((phF (k + i) 0).2 : Rat) ≤ -4120000) := by
    intro i h0 h1
    obtain ⟨c, C⟩ := IN i h0 h1
    have b := C.b; have c2 := C.c
    exact ec_quiet2 (h i h0 h1) (by omega) C.w
  have J : ∀ i : Int, 0 ≤ i → i < 7 → -8220000 ≤ beT ((phF (k + i) 0).2 : Rat) - beT ((phF (k + (i + 1)) 0).1 : Rat) ∧ beT ((phF (k + i) 0).2 : Rat) - beT ((phF (k + (i + 1)) 0).1 : Rat) ≤ 8220000 := by
    intro i h0 h1
    obtain ⟨c, C⟩ := IN i h0 (by omega)
    obtain ⟨c', C'⟩ := IN (i + 1) (by omega) (by omega)
    rw [show k + (i + 1) = k + i + 1 by omega] at C' ⊢
    exact ec_jump C C'
  rcases Q2 0 (by omega) (by omega) with q | q
  · have R : ∀ i : Nat, i < 8 → 4120000 ≤ beT ((phF (k + (i : Int)) 0).1 : Rat) ∧ 4120000 ≤ beT ((phF (k + (i : Int)) 0).2 : Rat) := by
      intro i
      induction i with
      | zero => intro _; exact q
      | succ n ih =>
        intro hn
        have r := ih (by omega)
        have j := J (n : Int) (by omega) (by omega)
        rcases Q2 ((n : Int) + 1) (by omega) (by omega) with w | w
        · rw [show ((n + 1 : Nat) : Int) = (n : Int) + 1 by omega]; exact w
        · exfalso; clear Q2 J IN TT ih q; grind
    have a := arc_run (o := 0) (fun i => ((phF (k + (i : Int)) 0).1 : Rat)) (fun i hi => by rw [show ∀ x : Rat, x + 0 = x from fun x => by grind]; exact F_pos (R i hi).1) (fun i hi => TT i hi) 7 (by omega)
    have b := (F_pos (R 7 (by omega)).1).2
    rw [show ∀ x : Rat, x + 0 = x from fun x => by grind, show ((7 : Nat) : Rat) = 7 from rfl] at a
    clear R Q2 J IN TT q
    grind
  · have R : ∀ i : Nat, i < 8 → beT ((phF (k + (i : Int)) 0).1 : Rat) ≤ -4120000 ∧ beT ((phF (k + (i : Int)) 0).2 : Rat) ≤ -4120000 := by
      intro i
      induction i with
      | zero => intro _; exact q
      | succ n ih =>
        intro hn
        have r := ih (by omega)
        have j := J (n : Int) (by omega) (by omega)
        rcases Q2 ((n : Int) + 1) (by omega) (by omega) with w | w
        · exfalso; clear Q2 J IN TT ih q; grind
        · rw [show ((n + 1 : Nat) : Int) = (n : Int) + 1 by omega]; exact w
    have a := arc_run (o := 500000000) (fun i => ((phF (k + (i : Int)) 0).1 : Rat)) (fun i hi => F_neg (R i hi).1) (fun i hi => TT i hi) 7 (by omega)
    have b := (F_neg (R 7 (by omega)).1).2
    rw [show ((7 : Nat) : Rat) = 7 from rfl] at a
    clear R Q2 J IN TT q
    grind
end Go.Proofs.YtlldmhnkaopjhaaDoor
