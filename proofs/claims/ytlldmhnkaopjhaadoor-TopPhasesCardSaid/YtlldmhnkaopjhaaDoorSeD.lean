/- How far the true longitude of the sun moves over some times (printed by wip/tools/gen-su.py). Plain. -/
import Derived.Test.YtlldmhnkaopjhaaDoorPhD
import Derived.Test.YtlldmhnkaopjhaaDoorSeP
namespace Go.Proofs.YtlldmhnkaopjhaaDoor
set_option linter.unusedSimpArgs false
set_option linter.unusedVariables false
theorem su_na : (-686748306 ≤ sLo 120481269 ∧ sHi 120481269 ≤ 686748306) ∧ (-998388223 ≤ sLo 240962538 ∧ sHi 240962538 ≤ 998388223) := by decide +kernel
theorem su_a (t : Rat) : 233558433 ≤ sunT (t + 7604400001) - sunT t ∧ sunT (t + 7604400001) - sunT t ≤ 248389663 := by
  obtain ⟨n0, n1⟩ := su_na
  have c0 := tm_chord (5318339) 84888545 2737778555556 t (T := 7604400001) (n := 120481269) (M := 686748306) (mA := 5318339) (by rw [show ((2737778555556 : Int) : Rat) = 2737778555556 from rfl, show ((120481269 : Int) : Rat) = 120481269 from rfl]; grind) n0 (by omega) (by rw [show ((5318339 : Int) : Rat) = 5318339 from rfl]; grind)
  rw [show ((5318339 : Int) : Rat) = 5318339 from rfl, show ((686748306 : Int) : Rat) = 686748306 from rfl] at c0
  have c1 := tm_chord (55536) 169777090 5475557111112 t (T := 7604400001) (n := 240962538) (M := 998388223) (mA := 55536) (by rw [show ((5475557111112 : Int) : Rat) = 5475557111112 from rfl, show ((240962538 : Int) : Rat) = 240962538 from rfl]; grind) n1 (by omega) (by rw [show ((55536 : Int) : Rat) = 55536 from rfl]; grind)
  rw [show ((55536 : Int) : Rat) = 55536 from rfl, show ((998388223 : Int) : Rat) = 998388223 from rfl] at c1
  have ek : ∀ t, sunT t = phT 775342092 2737909333333 t + (0 + (5318339) * SA (phT 84888545 2737778555556 t) + (55536) * SA (phT 169777090 5475557111112 t)) := fun _ => rfl
  rw [ek, ek, mean_sun]
  clear ek n0 n1
  unfold Near at *
  generalize SA (phT 84888545 2737778555556 (t + 7604400001)) = x0 at *
  generalize SA (phT 84888545 2737778555556 t) = y0 at *
  generalize SA (phT 169777090 5475557111112 (t + 7604400001)) = x1 at *
  generalize SA (phT 169777090 5475557111112 t) = y1 at *
  generalize phT 775342092 2737909333333 t = u4 at *
  constructor <;> grind
theorem su_nb : (-729078167 ≤ sLo 130025469 ∧ sHi 130025469 ≤ 729078167) ∧ (-998006585 ≤ sLo 260050938 ∧ sHi 260050938 ≤ 998006585) := by decide +kernel
theorem su_b (t : Rat) : 252197538 ≤ sunT (t + 8206799999) - sunT t ∧ sunT (t + 8206799999) - sunT t ≤ 267929182 := by
  obtain ⟨n0, n1⟩ := su_nb
  have c0 := tm_chord (5318339) 84888545 2737778555556 t (T := 8206799999) (n := 130025469) (M := 729078167) (mA := 5318339) (by rw [show ((2737778555556 : Int) : Rat) = 2737778555556 from rfl, show ((130025469 : Int) : Rat) = 130025469 from rfl]; grind) n0 (by omega) (by rw [show ((5318339 : Int) : Rat) = 5318339 from rfl]; grind)
  rw [show ((5318339 : Int) : Rat) = 5318339 from rfl, show ((729078167 : Int) : Rat) = 729078167 from rfl] at c0
  have c1 := tm_chord (55536) 169777090 5475557111112 t (T := 8206799999) (n := 260050938) (M := 998006585) (mA := 55536) (by rw [show ((5475557111112 : Int) : Rat) = 5475557111112 from rfl, show ((260050938 : Int) : Rat) = 260050938 from rfl]; grind) n1 (by omega) (by rw [show ((55536 : Int) : Rat) = 55536 from rfl]; grind)
  rw [show ((55536 : Int) : Rat) = 55536 from rfl, show ((998006585 : Int) : Rat) = 998006585 from rfl] at c1
  have ek : ∀ t, sunT t = phT 775342092 2737909333333 t + (0 + (5318339) * SA (phT 84888545 2737778555556 t) + (55536) * SA (phT 169777090 5475557111112 t)) := fun _ => rfl
  rw [ek, ek, mean_sun]
  clear ek n0 n1
  unfold Near at *
  generalize SA (phT 84888545 2737778555556 (t + 8206799999)) = x0 at *
  generalize SA (phT 84888545 2737778555556 t) = y0 at *
  generalize SA (phT 169777090 5475557111112 (t + 8206799999)) = x1 at *
  generalize SA (phT 169777090 5475557111112 t) = y1 at *
  generalize phT 775342092 2737909333333 t = u4 at *
  constructor <;> grind
theorem su_nc : (-2113672 ≤ sLo 499663599 ∧ sHi 499663599 ≤ 2113672) ∧ (-4227331 ≤ sLo 999327198 ∧ sHi 999327198 ≤ 4227331) := by decide +kernel
theorem su_c (t : Rat) : 999351980 ≤ sunT (t + 31537200001) - sunT t ∧ sunT (t + 31537200001) - sunT t ≤ 999397887 := by
  obtain ⟨n0, n1⟩ := su_nc
  have c0 := tm_chord (5318339) 84888545 2737778555556 t (T := 31537200001) (n := 499663599) (M := 2113672) (mA := 5318339) (by rw [show ((2737778555556 : Int) : Rat) = 2737778555556 from rfl, show ((499663599 : Int) : Rat) = 499663599 from rfl]; grind) n0 (by omega) (by rw [show ((5318339 : Int) : Rat) = 5318339 from rfl]; grind)
  rw [show ((5318339 : Int) : Rat) = 5318339 from rfl, show ((2113672 : Int) : Rat) = 2113672 from rfl] at c0
  have c1 := tm_chord (55536) 169777090 5475557111112 t (T := 31537200001) (n := 999327198) (M := 4227331) (mA := 55536) (by rw [show ((5475557111112 : Int) : Rat) = 5475557111112 from rfl, show ((999327198 : Int) : Rat) = 999327198 from rfl]; grind) n1 (by omega) (by rw [show ((55536 : Int) : Rat) = 55536 from rfl]; grind)
  rw [show ((55536 : Int) : Rat) = 55536 from rfl, show ((4227331 : Int) : Rat) = 4227331 from rfl] at c1
  have ek : ∀ t, sunT t = phT 775342092 2737909333333 t + (0 + (5318339) * SA (phT 84888545 2737778555556 t) + (55536) * SA (phT 169777090 5475557111112 t)) := fun _ => rfl
  rw [ek, ek, mean_sun]
  clear ek n0 n1
  unfold Near at *
  generalize SA (phT 84888545 2737778555556 (t + 31537200001)) = x0 at *
  generalize SA (phT 84888545 2737778555556 t) = y0 at *
  generalize SA (phT 169777090 5475557111112 (t + 31537200001)) = x1 at *
  generalize SA (phT 169777090 5475557111112 t) = y1 at *
  generalize phT 775342092 2737909333333 t = u4 at *
  constructor <;> grind
theorem su_nd : (-6248358 ≤ sLo 500994463 ∧ sHi 500994463 ≤ 6248358) ∧ (-12496475 ≤ sLo 1001988927 ∧ sHi 1001988927 ≤ 12496475) := by decide +kernel
theorem su_d (t : Rat) : 1001968938 ≤ sunT (t + 31621199999) - sunT t ∧ sunT (t + 31621199999) - sunT t ≤ 1002104641 := by
  obtain ⟨n0, n1⟩ := su_nd
  have c0 := tm_chord (5318339) 84888545 2737778555556 t (T := 31621199999) (n := 500994463) (M := 6248358) (mA := 5318339) (by rw [show ((2737778555556 : Int) : Rat) = 2737778555556 from rfl, show ((500994463 : Int) : Rat) = 500994463 from rfl]; grind) n0 (by omega) (by rw [show ((5318339 : Int) : Rat) = 5318339 from rfl]; grind)
  rw [show ((5318339 : Int) : Rat) = 5318339 from rfl, show ((6248358 : Int) : Rat) = 6248358 from rfl] at c0
  have c1 := tm_chord (55536) 169777090 5475557111112 t (T := 31621199999) (n := 1001988927) (M := 12496475) (mA := 55536) (by rw [show ((5475557111112 : Int) : Rat) = 5475557111112 from rfl, show ((1001988927 : Int) : Rat) = 1001988927 from rfl]; grind) n1 (by omega) (by rw [show ((55536 : Int) : Rat) = 55536 from rfl]; grind)
  rw [show ((55536 : Int) : Rat) = 55536 from rfl, show ((12496475 : Int) : Rat) = 12496475 from rfl] at c1
  have ek : ∀ t, sunT t = phT 775342092 2737909333333 t + (0 + (5318339) * SA (phT 84888545 2737778555556 t) + (55536) * SA (phT 169777090 5475557111112 t)) := fun _ => rfl
  rw [ek, ek, mean_sun]
  clear ek n0 n1
  unfold Near at *
  generalize SA (phT 84888545 2737778555556 (t + 31621199999)) = x0 at *
  generalize SA (phT 84888545 2737778555556 t) = y0 at *
  generalize SA (phT 169777090 5475557111112 (t + 31621199999)) = x1 at *
  generalize SA (phT 169777090 5475557111112 t) = y1 at *
  generalize phT 775342092 2737909333333 t = u4 at *
  constructor <;> grind
end Go.Proofs.YtlldmhnkaopjhaaDoor
