/- crescent: two evenings, by the kernel. -/
import Derived.Test.YtcopmgnfakjdhaaGreatDoorCrA
import Derived.Test.YtcopmgnfakjdhaaGreatDoorCrB
namespace Go.Proofs.YtcopmgnfakjdhaaGreatDoor
theorem cr_w1 : crS 0 100000000 63082861200000 = -1 ∧ crS 0 100000000 63082861312500 = -1 := by decide +kernel
theorem cr_w2 : crS 0 100000000 63083207025000 = 1 ∧ crS 0 100000000 63083207137500 = 1 := by decide +kernel
theorem se_w1 : seN 0 100000000 730125 = 0 ∧ seE 0 100000000 730125 = 0 := by
  unfold seN seE
  rw [CrA_set]
  dsimp only
  rw [cr_w1.1, cr_w1.2]
  decide
theorem se_w2 : seN 0 100000000 730129 = 1 ∧ seE 0 100000000 730129 = 0 := by
  unfold seN seE
  rw [CrB_set]
  dsimp only
  rw [cr_w2.1, cr_w2.2]
  decide
end Go.Proofs.YtcopmgnfakjdhaaGreatDoor
