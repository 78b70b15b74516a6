/- phase.Find, Number, phaseWorks. -/
import Derived.Test.YtdifeoahaegjbaaGreatDoorNars
import Derived.Test.YtdifeoahaegjbaaGreatDoorBasic
import Derived.Test.YtdifeoahaegjbaaGreatDoorTrigA
namespace Go.Proofs.YtdifeoahaegjbaaGreatDoor
open Go.RowKit
set_option linter.unusedSimpArgs false
set_option linter.unusedVariables false
set_option maxHeartbeats 1000000 in
theorem phRange_ok (k : Int) (hk : -100000 ≤ k ∧ k ≤ 100000) (w : World) : Calls Tryz.prog 31 #[.int .i64 k] w fun e w' => e = .returned (.bool true) ∧ w' = w := by
  obtain ⟨k1, k2⟩ := hk
  go_enter Tryz.func31, Tryz.ntmps31
  go_wp2
  go_returns
  exact ⟨rfl, rfl⟩
set_option maxRecDepth 100000 in
set_option maxHeartbeats 4000000 in
theorem PFind_ok (k q : Int) (hk : -100000 ≤ k ∧ k ≤ 100000) (hq : 0 ≤ q ∧ q ≤ 3) (w : World) (hT : SinT w) : Calls Tryz.prog 13 #[.int .i64 k, .int .i64 q] w fun e w' => e = .returned (.tuple #[.agg #[.int .i64 (phF k q).1, .int .i64 (phF k q).2], .int .i64 0]) ∧ Below w.heap.size w w' := by
  have F := Lib.hid (fun W (hT : SinT W) => phFind_ok k q (by omega) hq W hT)
  have R := Lib.hid (fun w => phRange_ok k hk w)
  obtain ⟨q1, q2⟩ := hq
  have HT := Lib.hid hT
  generalize (phF k q).1 = r1 at *
  generalize (phF k q).2 = r2 at *
  clear hT hk
  go_enter Tryz.func13, Tryz.ntmps13
  have HB := Lib.hid (Below.refl w.heap.size w)
  obtain ⟨k1, hk1⟩ : ∃ x, x = w.heap.size := ⟨_, rfl⟩
  have s1 := SpBox.new w (0) (0)
  rw [← hk1] at s1
  have Hkl1 := Lib.hid (show w.heap.size ≤ k1 by rw [hk1]; omega)
  go_upto_region 1 with fail
  rw [← hk1]
  have HBn := show Below w.heap.size w (w.alloc (.cells #[.int .i64 (0), .int .i64 (0)] 43)) from (by repeat' (first | (with_reducible refine below_drewN ?_ _) | go_grown))
  obtain ⟨X1, hX1⟩ : ∃ X, X = (w.alloc (.cells #[.int .i64 (0), .int .i64 (0)] 43)) := ⟨_, rfl⟩
  rw [← hX1] at s1 HBn ⊢
  clear hX1  HB
  replace s1 := Lib.hid s1
  have HB := Lib.hid HBn; have HK1 := Lib.hid hk1; clear HBn hk1
  go_wp2_with fail
  refine Calls.mono (R.out _) ?_
  rintro e wq ⟨rfl, hq⟩
  (first | rw [hq] | rw [← hq])
  clear hq
  go_wp2_with fail
  refine Calls.mono (F.out _ (HT.out.below HB.out)) ?_
  rintro e wf ⟨rfl, hb⟩
  replace s1 := Lib.hid (s1.out.below hb)
  replace HB := Lib.hid (HB.out.trans (hb.mono HB.out.size))
  clear hb
  have c1_0 := s1.out.c0; have c1_1 := s1.out.c1; have c1_f := s1.out.free 0; have c1_g := s1.out.free 1; have c1_l := s1.out.lt; have c1_k := Hkl1.out
  go_wp2_with fail
  refine bodyPost_ret (v := .tuple #[.agg #[.int .i64 r1, .int .i64 r2], .int .i64 0]) ?_ rfl ⟨rfl, ?_⟩
  · simp [results, Tryz.results13, go_sem, *]
  · exact (HB.out.setCell (p := ⟨k1, 0, none⟩) c1_k _).setCell (p := ⟨k1, 1, none⟩) c1_k _
/-- The new moon of the first lunation. -/
theorem pw0 : (phF 0 0).1 ≤ 992260421 ∧ 992260421 ≤ (phF 0 0).2 := by decide +kernel
end Go.Proofs.YtdifeoahaegjbaaGreatDoor
