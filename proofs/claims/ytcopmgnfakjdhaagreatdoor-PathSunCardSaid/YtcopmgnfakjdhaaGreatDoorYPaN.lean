/- The path of an eclipse, and a lunation without one, by the kernel. -/
import Derived.Test.YtcopmgnfakjdhaaGreatDoorYPaD
import Derived.Test.YtcopmgnfakjdhaaGreatDoorYEcQ
namespace Go.Proofs.YtcopmgnfakjdhaaGreatDoor
set_option linter.unusedSimpArgs false
set_option linter.unusedVariables false
theorem quiet_up {k x : Int} (k0 : -100002 ≤ k) (k1 : k ≤ 100002) (h0 : phM k 0 - 172800000 ≤ x) (h1 : x + 400000 ≤ phM k 0 + 172800000) (hs : (phSd 0 x = -1 ∧ phSd 0 (x + 400000) = 1) ∧ 4300000 ≤ mbLo x) : Quiet k 0 := by
  obtain ⟨⟨s0, s1⟩, b⟩ := hs
  obtain ⟨c, C⟩ := ph_in (k := k) (q := 0) k0 k1 (by omega) (by omega)
  have c1 := C.x.cr.a x h0 (by omega) s0
  have c2 := C.x.cr.b (x + 400000) (by omega) h1 s1
  have i1 := C.b; have i2 := C.c; have w := C.w
  have p3 := (be_at x).l1
  have g := Rat.intCast_le_intCast.2 b
  rw [show ((4300000 : Int) : Rat) = 4300000 from rfl] at g
  rw [show ((20000 : Int) : Rat) = 20000 from rfl] at p3
  have n1 := be_near (x := x) (y := (phF k 0).1) (W := 1000000) (by omega)
  have n2 := be_near (x := x) (y := (phF k 0).2) (W := 1000000) (by omega)
  rw [show ((1000000 : Int) : Rat) = 1000000 from rfl] at n1 n2
  refine quiet_of (by omega) w (.inl ?_)
  clear b
  unfold Near at n1 n2
  constructor <;> grind
theorem pn_s : (phSd 0 63072598275000 = -1 ∧ phSd 0 (63072598275000 + 400000) = 1) ∧ 4300000 ≤ mbLo 63072598275000 := by decide +kernel
theorem pn_q : Quiet 24720 0 := quiet_up (by omega) (by omega) (by unfold phM; omega) (by unfold phM; omega) pn_s
theorem pn_a : (phF 24719 0).1 = 63070053545382 := by decide +kernel
theorem pn_0 : (ceF 63070053545382).e = 0 := by decide +kernel
theorem pn_1 : (ceF 63070054145382).e = 0 := by decide +kernel
theorem pn_2 : (ceF 63070054745382).e = 0 := by decide +kernel
theorem pn_3 : (ceF 63070055345382).e = 0 := by decide +kernel
end Go.Proofs.YtcopmgnfakjdhaaGreatDoor
