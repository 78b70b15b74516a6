/- The contract of leapWorks. -/
import Derived.Test.YtaemgglkdeklmaaLeapLaw
namespace Go.Proofs.Ytaemgglkdeklmaa
open Go.RowKit
set_option linter.unusedSimpArgs false
set_option linter.unusedVariables false

theorem leapOne_ok : LeapOk [100, 1] 1 := by
  refine ⟨by omega, ?_, ?_, ?_, ?_⟩ <;> intro j hj <;> (obtain rfl : j = 0 := by omega) <;> simp [ix] at *

theorem leapOne_noGap : NoGap [100, 1] (8726400000 / 86400000) (8726400000 % 86400000) 1 := by
  intro j hj
  obtain rfl : j = 0 := by omega
  simp [ix]

theorem leapOne_in {out : Int} {is : Bool} (h : Inst [100, 1] 1 8726400500 out is) : out = 8726399999 ∧ is = true := by
  obtain ⟨k, hk, hp, h⟩ := h
  rcases Nat.eq_zero_or_pos k with rfl | h0
  · simp [lE, nsum, ix] at h
    rcases h with h | h
    · omega
    · exact ⟨h.2.2, h.1⟩
  · have := hp 0 h0
    simp [lE, nsum, ix] at this

set_option maxHeartbeats 800000 in
theorem leapWorks_ok (w : World) : Calls Try.prog 33 #[] w fun e w' => e = .returned (.bool true) ∧ Below w.heap.size w w' := by
  have e1 : 8726400000 + 1000 * lsum [100, 1] (8726400000 / 86400000) 1 = 8726401000 := by decide
  have E1 := Lib.hid e1; clear e1
  go_enter Try.func33, Try.ntmps33
  go_wp2_with fail
  have hF : FlatSl (w.alloc (.cells #[.int .i64 100, .int .i64 1] 92)) 2 (some ⟨w.heap.size, 0, none⟩) 1 1 [100, 1] := by
    refine ⟨by omega, by simp [maxLen], rfl, fun _ => ⟨_, _, rfl, fun j hj => ?_⟩⟩
    match j, hj with
    | 0, _ => simp [go_sem, ix]
    | 1, _ => simp [go_sem, ix]
  refine Calls.mono (count_ok _ _ _ _ _ _ hF leapOne_ok (by omega) (by omega) leapOne_noGap) ?_
  rintro e w1 ⟨rfl, hb⟩
  rw [E1.out]
  have hF1 := hF.keep (by omega) hb
  obtain ⟨hb1, hz1, hc1, hf1⟩ := took (w := w) (by repeat' (first | (with_reducible refine below_drewN ?_ _) | go_grown)) (by first | (simp only [World.size_alloc, World.size_setCell, World.size_drew, size_drewN]; done) | (simp only [World.size_alloc, World.size_setCell, World.size_drew, size_drewN]; rfl) | rfl) hb; clear hb
  have z1 : w.heap.size < w1.heap.size := by omega
  go_wp2_with fail
  refine Calls.mono (instant_ok _ _ _ _ _ _ hF1 leapOne_ok (by omega) (by omega)) ?_
  rintro e w2 ⟨out, is, rfl, hi, hb⟩
  obtain ⟨rfl, rfl⟩ := leapOne_in hi
  obtain ⟨hb2, hz2, hc2, hf2⟩ := took (w := w) (by repeat' (first | (with_reducible refine below_drewN ?_ _) | go_grown)) (by first | (simp only [World.size_alloc, World.size_setCell, World.size_drew, size_drewN]; done) | (simp only [World.size_alloc, World.size_setCell, World.size_drew, size_drewN]; rfl) | rfl) hb; clear hb
  go_wp2_with fail
  go_returns
  exact ⟨rfl, by repeat' (first | (with_reducible refine below_drewN ?_ _) | go_grown)⟩

end Go.Proofs.Ytaemgglkdeklmaa
