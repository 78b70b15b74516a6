/- trig.Arc where the arc is open: the walk. -/
import Derived.Test.YtcopmgnfakjdhaaGreatDoorYArcW
namespace Go.Proofs.YtcopmgnfakjdhaaGreatDoor
open Go.RowKit
set_option linter.unusedSimpArgs false
set_option linter.unusedVariables false
set_option maxRecDepth 100000 in
set_option maxHeartbeats 8000000 in
theorem Arc_open (a b c d : Int) (ia : IvOk a b) (ic : IvOk c d) (o1 : a ≤ 0) (o2 : 0 ≤ b) (o3 : c ≤ 0) (o4 : 0 ≤ d) (w : World) : Calls Tryz.prog 59 #[.agg #[.int .i64 a, .int .i64 b], .agg #[.int .i64 c, .int .i64 d]] w fun e w' => e = .returned (.tuple #[.agg #[.int .i64 0, .int .i64 0], .int .i64 11]) ∧ Below w.heap.size w w' := by
  have j0 : ∀ w, (Instr.index 95 (.agg #[.int .i64 a, .int .i64 b, .int .i64 c, .int .i64 d]) (.int .i64 0)).run Tryz.prog w = .ok (.agg #[.int .i64 a, .int .i64 b]) w := fun _ => by kernel_rfl
  have j1 : ∀ w, (Instr.index 95 (.agg #[.int .i64 a, .int .i64 b, .int .i64 c, .int .i64 d]) (.int .i64 1)).run Tryz.prog w = .ok (.agg #[.int .i64 c, .int .i64 d]) w := fun _ => by kernel_rfl
  have C1 := Lib.hid (fun w => check_ok a b w ia)
  have C2 := Lib.hid (fun w => check_ok c d w ic)
  clear ia ic
  obtain ⟨k, hk⟩ : ∃ b, b = w.heap.size := ⟨_, rfl⟩
  have e5 : (w.alloc (.cells #[.int .i64 a, .int .i64 b] 28)).heap.size = k + 1 := by simp [hk]
  have e6 : ((w.alloc (.cells #[.int .i64 a, .int .i64 b] 28)).alloc (.cells #[.int .i64 c, .int .i64 d] 28)).heap.size = k + 1 + 1 := by simp [hk]
  have b1 := SpBox.new w a b
  have b2 := SpBox.new (w.alloc (.cells #[.int .i64 a, .int .i64 b] 28)) c d
  have b3 := SpBox.new ((w.alloc (.cells #[.int .i64 a, .int .i64 b] 28)).alloc (.cells #[.int .i64 c, .int .i64 d] 28)) 0 0
  rw [← hk] at b1; rw [e5] at b2; rw [e6] at b3
  have s1 := Lib.hid ((b1.alloc (.cells #[.int .i64 c, .int .i64 d] 28)).alloc (.cells #[.int .i64 0, .int .i64 0] 28))
  have s2 := Lib.hid (b2.alloc (.cells #[.int .i64 0, .int .i64 0] 28))
  have s3 := Lib.hid b3
  have HB := Lib.hid (show Below w.heap.size w (((w.alloc (.cells #[.int .i64 a, .int .i64 b] 28)).alloc (.cells #[.int .i64 c, .int .i64 d] 28)).alloc (.cells #[.int .i64 0, .int .i64 0] 28)) from (by repeat' (first | (with_reducible refine below_drewN ?_ _) | go_grown)))
  have HE5 := Lib.hid e5; have HE6 := Lib.hid e6; have HK := Lib.hid hk
  clear b1 b2 b3 e5 e6
  go_enter Tryz.func59, Tryz.ntmps59
  go_upto_region 1 with fail
  (try rw [HE5.out])
  (try rw [HE6.out])
  rw [← hk]
  clear hk
  obtain ⟨W, hW⟩ : ∃ W, W = ((w.alloc (.cells #[.int .i64 a, .int .i64 b] 28)).alloc (.cells #[.int .i64 c, .int .i64 d] 28)).alloc (.cells #[.int .i64 0, .int .i64 0] 28) := ⟨_, rfl⟩
  rw [← hW] at s1 s2 s3 HB ⊢
  clear hW
  have sc1_0 := s1.out.c0; have sc1_1 := s1.out.c1; have sc1_l := s1.out.lt
  have sc2_0 := s2.out.c0; have sc2_1 := s2.out.c1; have sc2_l := s2.out.lt
  go_wp2_with fail
  clear sc1_0 sc1_1 sc1_l sc2_0 sc2_1 sc2_l
  go_loopw [19] (fun i wr => ∃ j : Nat, j ≤ 2 ∧ i = .int .i64 j ∧ Hid (SpBox wr k a b) ∧ Hid (SpBox wr (k + 1) c d) ∧ Hid (SpBox wr (k + 1 + 1) 0 0) ∧ Hid (Below w.heap.size w wr)) (fun i _ => 2 - (intOf i).toNat)
  case atStart => exact ⟨0, by omega, rfl, s1, s2, s3, HB⟩
  case round =>
    clear s1 s2 s3 HB
    obtain ⟨j, hj, rfl, s1, s2, s3, HB⟩ := hrel
    obtain rfl | rfl | rfl : j = 0 ∨ j = 1 ∨ j = 2 := by omega
    · go_wp2_with fail
      refine Calls.mono (C1.out _) ?_
      rintro e wk ⟨rfl, hb⟩
      replace s1 := Lib.hid ((s1.out.alloc (.cells #[.int .i64 a, .int .i64 b] 28)).below hb)
      replace s2 := Lib.hid ((s2.out.alloc (.cells #[.int .i64 a, .int .i64 b] 28)).below hb)
      replace s3 := Lib.hid ((s3.out.alloc (.cells #[.int .i64 a, .int .i64 b] 28)).below hb)
      have al := HB.out.alloc HB.out.size (.cells #[.int .i64 a, .int .i64 b] 28)
      replace HB := Lib.hid (al.trans (hb.mono al.size))
      clear hb al
      go_wp2_with fail
      go_roundw
      case rel => exact ⟨1, by omega, by go_num, s1, s2, s3, HB⟩
      case measure => simp [intOf]
    · go_wp2_with fail
      refine Calls.mono (C2.out _) ?_
      rintro e wk ⟨rfl, hb⟩
      replace s1 := Lib.hid ((s1.out.alloc (.cells #[.int .i64 c, .int .i64 d] 28)).below hb)
      replace s2 := Lib.hid ((s2.out.alloc (.cells #[.int .i64 c, .int .i64 d] 28)).below hb)
      replace s3 := Lib.hid ((s3.out.alloc (.cells #[.int .i64 c, .int .i64 d] 28)).below hb)
      have al := HB.out.alloc HB.out.size (.cells #[.int .i64 c, .int .i64 d] 28)
      replace HB := Lib.hid (al.trans (hb.mono al.size))
      clear hb al
      go_wp2_with fail
      go_roundw
      case rel => exact ⟨2, by omega, by go_num, s1, s2, s3, HB⟩
      case measure => simp [intOf]
    · clear j0 j1 C1 C2
      have sc1_0 := s1.out.c0; have sc1_1 := s1.out.c1; have sc1_l := s1.out.lt
      have sc2_0 := s2.out.c0; have sc2_1 := s2.out.c1; have sc2_l := s2.out.lt
      have d0 := s3.out.c0; have d1 := s3.out.c1; have dl := s3.out.lt; have f0 := s3.out.free 0; have f1 := s3.out.free 1
      go_wp2_with fail
      refine bodyPost_ret (v := .tuple #[.agg #[.int .i64 0, .int .i64 0], .int .i64 11]) ?_ rfl ⟨rfl, ?_⟩
      · simp [results, Tryz.results59, go_sem, d0, d1, dl, f0, f1]
      · have := HK.out
        exact (HB.out.setCell (p := ⟨k + 1 + 1, 0, none⟩) (by dsimp only; omega) _).setCell (p := ⟨k + 1 + 1, 1, none⟩) (by dsimp only; omega) _
end Go.Proofs.YtcopmgnfakjdhaaGreatDoor
