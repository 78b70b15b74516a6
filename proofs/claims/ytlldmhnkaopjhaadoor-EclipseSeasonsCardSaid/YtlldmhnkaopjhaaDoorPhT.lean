/- How far the true elongation moves over more times (printed by wip/tools/gen-ph2.py). Plain. -/
import Derived.Test.YtlldmhnkaopjhaaDoorPhD
namespace Go.Proofs.YtlldmhnkaopjhaaDoor
set_option linter.unusedSimpArgs false
set_option linter.unusedVariables false
theorem ph_ne : (-183143652 ≤ sLo 529313673 ∧ sHi 529313673 ≤ 183143652) ∧ (-257955291 ≤ sLo 458475637 ∧ sHi 458475637 ≤ 257955291) ∧ (-76646786 ≤ sLo 987789310 ∧ sHi 987789310 ≤ 76646786) ∧ (-360091972 ≤ sLo 1058627345 ∧ sHi 1058627345 ≤ 360091972) ∧ (-248266905 ≤ sLo 39930500 ∧ sHi 39930500 ≤ 248266905) ∧ (-436804090 ≤ sLo 1071944851 ∧ sHi 1071944851 ≤ 436804090) ∧ (-248266905 ≤ sLo 39930500 ∧ sHi 39930500 ≤ 248266905) ∧ (-480988160 ≤ sLo 79861000 ∧ sHi 79861000 ≤ 480988160) := by decide +kernel
theorem el_e (t : Rat) : 975630316 ≤ elT (t + 2520288000) - elT t ∧ elT (t + 2520288000) - elT t ≤ 999948304 := by
  obtain ⟨n0, n1, n2, n3, n4, n5, n6, n7⟩ := ph_ne
  have c0 := tm_chord (17468817) 99384016 36291647083333 t (T := 2520288000) (n := 529313673) (M := 183143652) (mA := 17468817) (by rw [show ((36291647083333 : Int) : Rat) = 36291647083333 from rfl, show ((529313673 : Int) : Rat) = 529313673 from rfl]; grind) n0 (by omega) (by rw [show ((17468817 : Int) : Rat) = 17468817 from rfl]; grind)
  rw [show ((17468817 : Int) : Rat) = 17468817 from rfl, show ((183143652 : Int) : Rat) = 183143652 from rfl] at c0
  have c1 := tm_chord (3538964) 134030564 31434736861111 t (T := 2520288000) (n := 458475637) (M := 257955291) (mA := 3538964) (by rw [show ((31434736861111 : Int) : Rat) = 31434736861111 from rfl, show ((458475637 : Int) : Rat) = 458475637 from rfl]; grind) n1 (by omega) (by rw [show ((3538964 : Int) : Rat) = 3538964 from rfl]; grind)
  rw [show ((3538964 : Int) : Rat) = 3538964 from rfl, show ((257955291 : Int) : Rat) = 257955291 from rfl] at c1
  have c2 := tm_chord (1828650) 233414580 67726383944444 t (T := 2520288000) (n := 987789310) (M := 76646786) (mA := 1828650) (by rw [show ((67726383944444 : Int) : Rat) = 67726383944444 from rfl, show ((987789310 : Int) : Rat) = 987789310 from rfl]; grind) n2 (by omega) (by rw [show ((1828650 : Int) : Rat) = 1828650 from rfl]; grind)
  rw [show ((1828650 : Int) : Rat) = 1828650 from rfl, show ((76646786 : Int) : Rat) = 76646786 from rfl] at c2
  have c3 := tm_chord (593383) 198768032 72583294166666 t (T := 2520288000) (n := 1058627345) (M := 360091972) (mA := 593383) (by rw [show ((72583294166666 : Int) : Rat) = 72583294166666 from rfl, show ((1058627345 : Int) : Rat) = 1058627345 from rfl]; grind) n3 (by omega) (by rw [show ((593383 : Int) : Rat) = 593383 from rfl]; grind)
  rw [show ((593383 : Int) : Rat) = 593383 from rfl, show ((360091972 : Int) : Rat) = 360091972 from rfl] at c3
  have c4 := tm_chord (-514211) 84888545 2737778555556 t (T := 2520288000) (n := 39930500) (M := 248266905) (mA := 514211) (by rw [show ((2737778555556 : Int) : Rat) = 2737778555556 from rfl, show ((39930500 : Int) : Rat) = 39930500 from rfl]; grind) n4 (by omega) (by rw [show ((-514211 : Int) : Rat) = -514211 from rfl]; grind)
  rw [show ((-514211 : Int) : Rat) = -514211 from rfl, show ((248266905 : Int) : Rat) = 248266905 from rfl] at c4
  have c5 := tm_chord (-317589) 297001062 73496390222222 t (T := 2520288000) (n := 1071944851) (M := 436804090) (mA := 317589) (by rw [show ((73496390222222 : Int) : Rat) = 73496390222222 from rfl, show ((1071944851 : Int) : Rat) = 1071944851 from rfl]; grind) n5 (by omega) (by rw [show ((-317589 : Int) : Rat) = -317589 from rfl]; grind)
  rw [show ((-317589 : Int) : Rat) = -317589 from rfl, show ((436804090 : Int) : Rat) = 436804090 from rfl] at c5
  have c6 := tm_chord (5318339) 84888545 2737778555556 t (T := 2520288000) (n := 39930500) (M := 248266905) (mA := 5318339) (by rw [show ((2737778555556 : Int) : Rat) = 2737778555556 from rfl, show ((39930500 : Int) : Rat) = 39930500 from rfl]; grind) n6 (by omega) (by rw [show ((5318339 : Int) : Rat) = 5318339 from rfl]; grind)
  rw [show ((5318339 : Int) : Rat) = 5318339 from rfl, show ((248266905 : Int) : Rat) = 248266905 from rfl] at c6
  have c7 := tm_chord (55536) 169777090 5475557111112 t (T := 2520288000) (n := 79861000) (M := 480988160) (mA := 55536) (by rw [show ((5475557111112 : Int) : Rat) = 5475557111112 from rfl, show ((79861000 : Int) : Rat) = 79861000 from rfl]; grind) n7 (by omega) (by rw [show ((55536 : Int) : Rat) = 55536 from rfl]; grind)
  rw [show ((55536 : Int) : Rat) = 55536 from rfl, show ((480988160 : Int) : Rat) = 480988160 from rfl] at c7
  have eM : ∀ t, svT moonLZ 6 t = 0 + (17468817) * SA (phT 99384016 36291647083333 t) + (3538964) * SA (phT 134030564 31434736861111 t) + (1828650) * SA (phT 233414580 67726383944444 t) + (593383) * SA (phT 198768032 72583294166666 t) + (-514211) * SA (phT 84888545 2737778555556 t) + (-317589) * SA (phT 297001062 73496390222222 t) := fun _ => rfl
  have eS : ∀ t, svT sunZ 2 t = 0 + (5318339) * SA (phT 84888545 2737778555556 t) + (55536) * SA (phT 169777090 5475557111112 t) := fun _ => rfl
  have ek : ∀ t, elT t = phT 392048814 36601101305556 t + svT moonLZ 6 t - (phT 775342092 2737909333333 t + svT sunZ 2 t) := fun _ => rfl
  rw [ek, ek, eM, eM, eS, eS]
  have em : phT 392048814 36601101305556 (t + 2520288000) - phT 775342092 2737909333333 (t + 2520288000) = phT 392048814 36601101305556 t - phT 775342092 2737909333333 t + 33863191972223 * 2520288000 / 86400000000000 := by unfold phT; rw [show ((36601101305556 : Int) : Rat) = 36601101305556 from rfl, show ((2737909333333 : Int) : Rat) = 2737909333333 from rfl]; grind
  clear eM eS ek
  unfold Near at *
  generalize SA (phT 99384016 36291647083333 (t + 2520288000)) = x0 at *
  generalize SA (phT 99384016 36291647083333 t) = y0 at *
  generalize SA (phT 134030564 31434736861111 (t + 2520288000)) = x1 at *
  generalize SA (phT 134030564 31434736861111 t) = y1 at *
  generalize SA (phT 233414580 67726383944444 (t + 2520288000)) = x2 at *
  generalize SA (phT 233414580 67726383944444 t) = y2 at *
  generalize SA (phT 198768032 72583294166666 (t + 2520288000)) = x3 at *
  generalize SA (phT 198768032 72583294166666 t) = y3 at *
  generalize SA (phT 84888545 2737778555556 (t + 2520288000)) = x4 at *
  generalize SA (phT 84888545 2737778555556 t) = y4 at *
  generalize SA (phT 297001062 73496390222222 (t + 2520288000)) = x5 at *
  generalize SA (phT 297001062 73496390222222 t) = y5 at *
  generalize SA (phT 169777090 5475557111112 (t + 2520288000)) = x7 at *
  generalize SA (phT 169777090 5475557111112 t) = y7 at *
  generalize phT 392048814 36601101305556 (t + 2520288000) = u1 at *
  generalize phT 775342092 2737909333333 (t + 2520288000) = u2 at *
  generalize phT 392048814 36601101305556 t = u3 at *
  generalize phT 775342092 2737909333333 t = u4 at *
  clear n0 n1 n2 n3 n4 n5 n6 n7
  constructor <;> grind
end Go.Proofs.YtlldmhnkaopjhaaDoor
