/- starmapWorks. -/
import Derived.Test.YtcopmgnfakjdhaaDoorStarmapR
namespace Go.Proofs.YtcopmgnfakjdhaaDoor
open Go.RowKit
set_option linter.unusedSimpArgs false
set_option linter.unusedVariables false
set_option maxRecDepth 100000 in
set_option maxHeartbeats 8000000 in
theorem starmapWorks_ok (w : World) (hT : SinT w) (hS : StarT w) : Calls Tryd.prog 13 #[] w fun e w' => e = .returned (.bool true) ∧ Below w.heap.size w w' := by
  have s0 := sw_0
  have tri := (sm_tri 0 150000000 0 0).1
  have pl : PlOk 0 150000000 := ⟨by omega, by omega, by omega, by omega⟩
  have e0 : stN 0 = ⟨#[112, 111, 108, 97, 114, 105, 115]⟩ := rfl
  have U := fun W (hT : SinT W) (hS : StarT W) => Up_ok 0 150000000 0 pl (by decide) 0 (by omega) W hT hS
  have un : upN 0 150000000 0 0 = 1 := by unfold upN; rw [if_pos s0]
  have ue : upE 0 150000000 0 0 = 0 := by unfold upE; rw [if_pos s0]
  rw [un, ue, e0] at U
  have U := Lib.hid U
  have M := Lib.hid (fun W (hT : SinT W) (hS : StarT W) => Map_ok 0 150000000 0 pl (by decide) W hT hS)
  have npos : 0 < dotN 0 150000000 0 8 := by
    have h1 : dotN 0 150000000 0 1 = 1 := by
      show (if smHH 0 150000000 0 0 < 0 then 0 else 0 + 1) = 1
      rw [if_neg (by omega)]
    have := dotN_mono 0 150000000 0 (j := 1) (k := 8) (by omega)
    omega
  have D0 : ∀ c, c < 6 → (dots 0 150000000 0 8)[0 * 6 + c]? = (dotRow 0 150000000 0 0)[c]? := fun c hc => dots_at 0 150000000 0 (i := 0) (k := 8) (by omega) (by omega) c hc
  have r0 := D0 0 (by omega)
  have r5 := D0 5 (by omega)
  have q0 : (dotRow 0 150000000 0 0)[0]? = some (.string ⟨#[112, 111, 108, 97, 114, 105, 115]⟩) := rfl
  have q5 : (dotRow 0 150000000 0 0)[5]? = some (.bool true) := by
    show some (Value.bool (decide (0 < smHL 0 150000000 0 0))) = _
    rw [decide_eq_true s0]
  rw [q0] at r0
  rw [q5] at r5
  have HT := Lib.hid hT
  have HS := Lib.hid hS
  have R0 := Lib.hid r0; have R5 := Lib.hid r5
  clear r0 r5 q0 q5 D0 un ue e0 s0 tri pl hT hS
  generalize dots 0 150000000 0 8 = ds at *
  generalize dotN 0 150000000 0 8 = n at *
  go_enter Tryd.func13, Tryd.ntmps13
  have HB := Lib.hid (Below.refl w.heap.size w)
  go_wp2_with fail
  refine Calls.mono (U.out _ (HT.out.below HB.out) (HS.out.below HB.out)) ?_
  rintro e wc1 ⟨rfl, hb⟩
  replace HB := Lib.hid (HB.out.trans (hb.mono HB.out.size))
  clear hb
  go_wp2_with fail
  refine Calls.mono (M.out _ (HT.out.below HB.out) (HS.out.below HB.out)) ?_
  rintro e wM ⟨v, B, rfl, -, own, hb⟩
  replace HB := Lib.hid (HB.out.trans (hb.mono HB.out.size))
  obtain ⟨A, cap, rfl, ho⟩ := own_dots own
  obtain ⟨g, rfl, hg, hn, hc, cells⟩ := ho npos
  have c0 : wM.cell? ⟨g, 0, none⟩ = some (.string ⟨#[112, 111, 108, 97, 114, 105, 115]⟩) := (cells 0 (by omega)).trans R0.out
  have c5 : wM.cell? ⟨g, 5, none⟩ = some (.bool true) := (cells 5 (by omega)).trans R5.out
  have nz : (0 : Int) < (n : Int) := by omega
  clear own hb ho cells
  go_wp2_with fail
  go_ret
  exact ⟨rfl, HB.out⟩
end Go.Proofs.YtcopmgnfakjdhaaDoor
