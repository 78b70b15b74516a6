/- sClocks. -/
import Derived.Test.YtocdboopmfgkpaaDoorLeapTwo
import Derived.Test.YtocdboopmfgkpaaDoorAgreeLaw
import Derived.Test.YtocdboopmfgkpaaDoorBase
namespace Go.Proofs.YtocdboopmfgkpaaDoor
open Go.RowKit
set_option linter.unusedSimpArgs false
set_option linter.unusedVariables false

theorem leapOneS_ok : LeapOk [100, 1] 1 := by
  refine ⟨by omega, ?_, ?_, ?_, ?_⟩ <;> intro j hj <;> (obtain rfl : j = 0 := by omega) <;> simp [ix] at *
theorem leapOneS_noGap : NoGap [100, 1] (8726400000 / 86400000) (8726400000 % 86400000) 1 := by
  intro j hj
  obtain rfl : j = 0 := by omega
  simp [ix]
theorem agreeThree_ok : SpOk [0, 10, 5, 15, 8, 20] 3 := by
  refine ⟨by omega, by omega, fun j hj => ?_⟩
  match j, hj with
  | 0, _ => decide
  | 1, _ => decide
  | 2, _ => decide

set_option maxRecDepth 100000 in
set_option maxHeartbeats 4000000 in
theorem sClocks_ok (w : World) : Calls Tryd.prog 19 #[] w fun e w' => e = .returned (.bool true) ∧ Below w.heap.size w w' := by
  have e1 : 8726400000 + 1000 * lsum [100, 1] (8726400000 / 86400000) 1 = 8726401000 := by decide
  have e2 : withinV [0, 10, 5, 15, 8, 20] 3 2 = .tuple #[.agg #[.int .i64 5, .int .i64 15], .int .i64 0] := by
    unfold withinV
    rw [show (wH [0, 10, 5, 15, 8, 20] 3 2 3) = ⟨true, 5, 15⟩ by rfl]
    rfl
  have e3 : elLo 100 1000000 = 999900 := by decide
  have e4 : elHi 100 1000000 = 1000101 := by decide
  have E1 := Lib.hid e1; have E2 := Lib.hid e2; have E3 := Lib.hid e3; have E4 := Lib.hid e4
  clear e1 e2 e3 e4
  go_enter Tryd.func19, Tryd.ntmps19
  go_wp2_with fail
  have hF : FlatSl (w.alloc (.cells #[.int .i64 0, .int .i64 10, .int .i64 5, .int .i64 15, .int .i64 8, .int .i64 20] 65)) 2 (some ⟨w.heap.size, 0, none⟩) 3 3 [0, 10, 5, 15, 8, 20] := by
    refine ⟨by omega, by simp [maxLen], rfl, fun _ => ⟨_, _, rfl, fun j hj => ?_⟩⟩
    match j, hj with
    | 0, _ => simp [go_sem, ix]
    | 1, _ => simp [go_sem, ix]
    | 2, _ => simp [go_sem, ix]
    | 3, _ => simp [go_sem, ix]
    | 4, _ => simp [go_sem, ix]
    | 5, _ => simp [go_sem, ix]
  refine Calls.mono (within_any _ _ _ _ _ _ hF agreeThree_ok (by omega) (by omega)) ?_
  rintro e w1 ⟨rfl, hb⟩
  rw [E2.out]
  obtain ⟨hb1, hz1, hc1, hf1⟩ := took (w := w) (by repeat' (first | (with_reducible refine below_drewN ?_ _) | go_grown)) (by first | (simp only [World.size_alloc, World.size_setCell, World.size_drew, size_drewN]; done) | (simp only [World.size_alloc, World.size_setCell, World.size_drew, size_drewN]; rfl) | rfl) hb; clear hb
  have X1 := SpBox.new w1 5 15
  obtain ⟨W1, hW1⟩ : ∃ W1, W1 = w1.alloc (.cells #[.int .i64 5, .int .i64 15] 65) := ⟨_, rfl⟩
  rw [← hW1] at X1
  go_wp2_with fail
  have hG : FlatSl ((w1.alloc (.cells #[.int .i64 5, .int .i64 15] 65)).alloc (.cells #[.int .i64 100, .int .i64 1] 72)) 2 (some ⟨w1.heap.size + 1, 0, none⟩) 1 1 [100, 1] := by
    refine ⟨by omega, by simp [maxLen], rfl, fun _ => ⟨_, _, rfl, fun j hj => ?_⟩⟩
    match j, hj with
    | 0, _ => simp [go_sem, ix]
    | 1, _ => simp [go_sem, ix]
  refine Calls.mono (count_ok _ _ _ _ _ _ hG leapOneS_ok (by omega) (by omega) leapOneS_noGap) ?_
  rintro e w2 ⟨rfl, hb⟩
  rw [E1.out]
  have X2 := (((SpBox.new w1 5 15).alloc (.cells #[.int .i64 100, .int .i64 1] 72))).below hb
  have hb2 : Below w.heap.size w w2 := ((hb1.alloc hb1.size _).alloc (by simp; omega) _).trans (hb.mono (by simp; omega))
  clear hb hG hW1 X1
  go_wp2_with fail
  refine Calls.mono (elapsed_any _ _ _ (by omega) (by omega) (by omega) (by omega)) ?_
  rintro e w3 ⟨rfl, hb⟩
  rw [E3.out, E4.out]
  have X3 := X2.below hb
  have hb3 := hb2.trans (hb.mono hb2.size)
  have x0 := X3.c0; have x1 := X3.c1; have x2 := X3.lt
  have z3 : w1.heap.size ≠ w3.heap.size := by omega
  clear hb hb2 X2 hc1 hf1 hF
  go_wp2_with fail
  go_ret
  exact ⟨rfl, hb3.alloc hb3.size _⟩

end Go.Proofs.YtocdboopmfgkpaaDoor
