/- moon.longitude, moon.Longitude. -/
import Derived.Test.YtdeoahgcppbmkaaDoorSunW
namespace Go.Proofs.YtdeoahgcppbmkaaDoor
open Go.RowKit
set_option linter.unusedSimpArgs false
set_option linter.unusedVariables false
/-- The terms of ephemeris/moon.longitude. -/
def moonLZ : List Int := [17468817, 99384016, 36291647083333, 3538964, 134030564, 31434736861111, 1828650, 233414580, 67726383944444, 593383, 198768032, 72583294166666, -514211, 84888545, 2737778555556, -317589, 297001062, 73496390222222]
theorem moonL_in : SumIn 392048814 36601101305556 20000 6 moonLZ := by
  refine ⟨by omega, by omega, by omega, by omega, by omega, by omega, by omega, fun i hi => ?_⟩
  rcases (by omega : i = 0 ∨ i = 1 ∨ i = 2 ∨ i = 3 ∨ i = 4 ∨ i = 5) with rfl | rfl | rfl | rfl | rfl | rfl <;> exact ⟨by decide, by decide, by decide, by decide, by decide, by decide⟩
set_option maxRecDepth 100000 in
set_option maxHeartbeats 4000000 in
theorem moonLon_ok (w : World) : Calls Tryd.prog 117 #[] w (SumPost 392048814 36601101305556 20000 6 moonLZ w) := by
  go_enter Tryd.func117, Tryd.ntmps117
  go_wp2_with fail
  refine bodyPost_ret (v := .agg #[.int .i64 392048814, .int .i64 36601101305556, .slice (some ⟨w.heap.size + 1, 0, none⟩) 6 6, .int .i64 20000]) ?_ rfl ⟨some ⟨w.heap.size + 1, 0, none⟩, 6, rfl, ?_, (by repeat' (first | (with_reducible refine below_drewN ?_ _) | go_grown))⟩
  · simp [results, Tryd.results117, go_sem]
  · refine ⟨by omega, by unfold maxLen; omega, rfl, fun _ => ⟨w.heap.size + 1, 0, rfl, fun j hj => ?_⟩⟩
    rcases (by omega : j = 0 ∨ j = 1 ∨ j = 2 ∨ j = 3 ∨ j = 4 ∨ j = 5 ∨ j = 6 ∨ j = 7 ∨ j = 8 ∨ j = 9 ∨ j = 10 ∨ j = 11 ∨ j = 12 ∨ j = 13 ∨ j = 14 ∨ j = 15 ∨ j = 16 ∨ j = 17) with rfl | rfl | rfl | rfl | rfl | rfl | rfl | rfl | rfl | rfl | rfl | rfl | rfl | rfl | rfl | rfl | rfl | rfl <;> (simp [go_sem]; rfl)
/-- The longitude of the moon. -/
def mlLo (t : Int) : Int := anLo 392048814 36601101305556 20000 moonLZ 6 t
def mlHi (t : Int) : Int := anHi 392048814 36601101305556 20000 moonLZ 6 t
set_option maxRecDepth 100000 in
set_option maxHeartbeats 4000000 in
theorem moonLong_ok (t : Int) (w : World) (hT : SinT w) (ht : instOk t = true) : Calls Tryd.prog 85 #[.int .i64 t] w fun e w' => e = .returned (.tuple #[.agg #[.int .i64 (mlLo t), .int .i64 (mlHi t)], .int .i64 0]) ∧ Below w.heap.size w w' := by
  have S := Lib.hid (fun w => moonLon_ok w)
  have G := Lib.hid (fun A cap W (hT : SinT W) (h : FlatSl W 3 A 6 cap moonLZ) => Angle_ok 392048814 36601101305556 20000 t A 6 cap moonLZ W hT h moonL_in ht)
  have HT := Lib.hid hT
  unfold mlLo mlHi
  generalize anLo 392048814 36601101305556 20000 moonLZ 6 t = lo at *
  generalize anHi 392048814 36601101305556 20000 moonLZ 6 t = hi at *
  clear hT ht
  go_enter Tryd.func85, Tryd.ntmps85
  go_wp2_with fail
  refine Calls.mono (S.out _) ?_
  rintro e w1 ⟨A, cap, rfl, hF, hb⟩
  obtain ⟨hb1, hz1, hc1, hf1⟩ := took (w := w) (by repeat' (first | (with_reducible refine below_drewN ?_ _) | go_grown)) (by first | (simp only [World.size_alloc, World.size_setCell, World.size_drew, size_drewN]; done) | (simp only [World.size_alloc, World.size_setCell, World.size_drew, size_drewN]; rfl) | rfl) hb; clear hb
  have z1 : w.heap.size < w1.heap.size := by omega
  have HT1 := Lib.hid (HT.out.below hb1)
  go_wp2_with fail
  refine Calls.mono (G.out _ _ _ HT1.out hF) ?_
  rintro e w2 ⟨rfl, hb⟩
  obtain ⟨hb2, hz2, hc2, hf2⟩ := took (w := w) (by repeat' (first | (with_reducible refine below_drewN ?_ _) | go_grown)) (by first | (simp only [World.size_alloc, World.size_setCell, World.size_drew, size_drewN]; done) | (simp only [World.size_alloc, World.size_setCell, World.size_drew, size_drewN]; rfl) | rfl) hb; clear hb
  have z2 : w.heap.size < w2.heap.size := by omega
  go_wp2_with fail
  refine bodyPost_ret (v := .tuple #[.agg #[.int .i64 lo, .int .i64 hi], .int .i64 0]) ?_ rfl ⟨rfl, (by repeat' (first | (with_reducible refine below_drewN ?_ _) | go_grown))⟩
  simp [results, Tryd.results85, go_sem, *]
end Go.Proofs.YtdeoahgcppbmkaaDoor
