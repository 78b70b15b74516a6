/- moon.latitude, moon.Latitude. -/
import Derived.Test.YtdeoahgcppbmkaaDoorSunW
namespace Go.Proofs.YtdeoahgcppbmkaaDoor
open Go.RowKit
set_option linter.unusedSimpArgs false
set_option linter.unusedVariables false
/-- The terms of ephemeris/moon.latitude. -/
def moonBZ : List Int := [14244783, 648500531, 36748195111111, 779450, 747884547, 73039842194444, 771369, 450883485, -456548027778]
theorem moonB_in : SumIn 0 0 20000 3 moonBZ := by
  refine ⟨by omega, by omega, by omega, by omega, by omega, by omega, by omega, fun i hi => ?_⟩
  rcases (by omega : i = 0 ∨ i = 1 ∨ i = 2) with rfl | rfl | rfl <;> exact ⟨by decide, by decide, by decide, by decide, by decide, by decide⟩
set_option maxRecDepth 100000 in
set_option maxHeartbeats 4000000 in
theorem moonLat_ok (w : World) : Calls Tryd.prog 88 #[] w (SumPost 0 0 20000 3 moonBZ w) := by
  go_enter Tryd.func88, Tryd.ntmps88
  go_wp2_with fail
  refine bodyPost_ret (v := .agg #[.int .i64 0, .int .i64 0, .slice (some ⟨w.heap.size + 1, 0, none⟩) 3 3, .int .i64 20000]) ?_ rfl ⟨some ⟨w.heap.size + 1, 0, none⟩, 3, rfl, ?_, (by repeat' (first | (with_reducible refine below_drewN ?_ _) | go_grown))⟩
  · simp [results, Tryd.results88, go_sem]
  · refine ⟨by omega, by unfold maxLen; omega, rfl, fun _ => ⟨w.heap.size + 1, 0, rfl, fun j hj => ?_⟩⟩
    rcases (by omega : j = 0 ∨ j = 1 ∨ j = 2 ∨ j = 3 ∨ j = 4 ∨ j = 5 ∨ j = 6 ∨ j = 7 ∨ j = 8) with rfl | rfl | rfl | rfl | rfl | rfl | rfl | rfl | rfl <;> (simp [go_sem]; rfl)
/-- The latitude of the moon. -/
def mbLo (t : Int) : Int := vLo 0 20000 moonBZ 3 t
def mbHi (t : Int) : Int := vHi 0 20000 moonBZ 3 t
set_option maxRecDepth 100000 in
set_option maxHeartbeats 4000000 in
theorem moonLatt_ok (t : Int) (w : World) (hT : SinT w) (ht : instOk t = true) : Calls Tryd.prog 51 #[.int .i64 t] w fun e w' => e = .returned (.tuple #[.agg #[.int .i64 (mbLo t), .int .i64 (mbHi t)], .int .i64 0]) ∧ Below w.heap.size w w' := by
  have S := Lib.hid (fun w => moonLat_ok w)
  have G := Lib.hid (fun A cap W (hT : SinT W) (h : FlatSl W 3 A 3 cap moonBZ) => Value_ok 0 0 20000 t A 3 cap moonBZ W hT h moonB_in ht)
  have HT := Lib.hid hT
  unfold mbLo mbHi
  generalize vLo 0 20000 moonBZ 3 t = lo at *
  generalize vHi 0 20000 moonBZ 3 t = hi at *
  clear hT ht
  go_enter Tryd.func51, Tryd.ntmps51
  go_wp2_with fail
  refine Calls.mono (S.out _) ?_
  rintro e w1 ⟨A, cap, rfl, hF, hb⟩
  obtain ⟨hb1, hz1, hc1, hf1⟩ := took (w := w) (by repeat' (first | (with_reducible refine below_drewN ?_ _) | go_grown)) (by first | (simp only [World.size_alloc, World.size_setCell, World.size_drew, size_drewN]; done) | (simp only [World.size_alloc, World.size_setCell, World.size_drew, size_drewN]; rfl) | rfl) hb; clear hb
  have z1 : w.heap.size < w1.heap.size := by omega
  have HT1 := Lib.hid (HT.out.below hb1)
  go_wp2_with fail
  refine Calls.mono (G.out _ _ _ HT1.out hF) ?_
  rintro e w2 ⟨rfl, hb⟩
  obtain ⟨hb2, hz2, hc2, hf2⟩ := took (w := w) (by repeat' (first | (with_reducible refine below_drewN ?_ _) | go_grown)) (by first | (simp only [World.size_alloc, World.size_setCell, World.size_drew, size_drewN]; done) | (simp only [World.size_alloc, World.size_setCell, World.size_drew, size_drewN]; rfl) | rfl) hb; clear hb
  have z2 : w.heap.size < w2.heap.size := by omega
  go_wp2_with fail
  refine bodyPost_ret (v := .tuple #[.agg #[.int .i64 lo, .int .i64 hi], .int .i64 0]) ?_ rfl ⟨rfl, (by repeat' (first | (with_reducible refine below_drewN ?_ _) | go_grown))⟩
  simp [results, Tryd.results51, go_sem, *]
end Go.Proofs.YtdeoahgcppbmkaaDoor
