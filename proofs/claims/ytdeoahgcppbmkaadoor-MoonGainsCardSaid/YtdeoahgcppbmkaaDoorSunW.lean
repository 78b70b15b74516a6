/- sun.Sum, sun.Longitude. -/
import Derived.Test.YtdeoahgcppbmkaaDoorAngleT
namespace Go.Proofs.YtdeoahgcppbmkaaDoor
open Go.RowKit
set_option linter.unusedSimpArgs false
set_option linter.unusedVariables false
def SumPost (mean rate rest : Int) (n : Nat) (zs : List Int) (w : World) (e : Ending) (w' : World) : Prop := ∃ A cap, e = .returned (.agg #[.int .i64 mean, .int .i64 rate, .slice A n cap, .int .i64 rest]) ∧ FlatSl w' 3 A n cap zs ∧ Below w.heap.size w w'
/-- The terms of ephemeris/sun.Sum. -/
def sunZ : List Int := [5318339, 84888545, 2737778555556, 55536, 169777090, 5475557111112]
theorem sun_in : SumIn 775342092 2737909333333 2000 2 sunZ := by
  refine ⟨by omega, by omega, by omega, by omega, by omega, by omega, by omega, fun i hi => ?_⟩
  rcases (by omega : i = 0 ∨ i = 1) with rfl | rfl <;> exact ⟨by decide, by decide, by decide, by decide, by decide, by decide⟩
set_option maxRecDepth 100000 in
set_option maxHeartbeats 4000000 in
theorem sunSum_ok (w : World) : Calls Tryd.prog 87 #[] w (SumPost 775342092 2737909333333 2000 2 sunZ w) := by
  go_enter Tryd.func87, Tryd.ntmps87
  go_wp2_with fail
  refine bodyPost_ret (v := .agg #[.int .i64 775342092, .int .i64 2737909333333, .slice (some ⟨w.heap.size + 1, 0, none⟩) 2 2, .int .i64 2000]) ?_ rfl ⟨some ⟨w.heap.size + 1, 0, none⟩, 2, rfl, ?_, (by repeat' (first | (with_reducible refine below_drewN ?_ _) | go_grown))⟩
  · simp [results, Tryd.results87, go_sem]
  · refine ⟨by omega, by unfold maxLen; omega, rfl, fun _ => ⟨w.heap.size + 1, 0, rfl, fun j hj => ?_⟩⟩
    rcases (by omega : j = 0 ∨ j = 1 ∨ j = 2 ∨ j = 3 ∨ j = 4 ∨ j = 5) with rfl | rfl | rfl | rfl | rfl | rfl <;> (simp [go_sem]; rfl)
/-- The sun's longitude. -/
def slLo (t : Int) : Int := anLo 775342092 2737909333333 2000 sunZ 2 t
def slHi (t : Int) : Int := anHi 775342092 2737909333333 2000 sunZ 2 t
set_option maxRecDepth 100000 in
set_option maxHeartbeats 4000000 in
theorem sunLong_ok (t : Int) (w : World) (hT : SinT w) (ht : instOk t = true) : Calls Tryd.prog 49 #[.int .i64 t] w fun e w' => e = .returned (.tuple #[.agg #[.int .i64 (slLo t), .int .i64 (slHi t)], .int .i64 0]) ∧ Below w.heap.size w w' := by
  have S := Lib.hid (fun w => sunSum_ok w)
  have G := Lib.hid (fun A cap W (hT : SinT W) (h : FlatSl W 3 A 2 cap sunZ) => Angle_ok 775342092 2737909333333 2000 t A 2 cap sunZ W hT h sun_in ht)
  have HT := Lib.hid hT
  unfold slLo slHi
  generalize anLo 775342092 2737909333333 2000 sunZ 2 t = lo at *
  generalize anHi 775342092 2737909333333 2000 sunZ 2 t = hi at *
  clear hT ht
  go_enter Tryd.func49, Tryd.ntmps49
  go_wp2_with fail
  refine Calls.mono (S.out _) ?_
  rintro e w1 ⟨A, cap, rfl, hF, hb⟩
  obtain ⟨hb1, hz1, hc1, hf1⟩ := took (w := w) (by repeat' (first | (with_reducible refine below_drewN ?_ _) | go_grown)) (by first | (simp only [World.size_alloc, World.size_setCell, World.size_drew, size_drewN]; done) | (simp only [World.size_alloc, World.size_setCell, World.size_drew, size_drewN]; rfl) | rfl) hb; clear hb
  have z1 : w.heap.size < w1.heap.size := by omega
  have HT1 := Lib.hid (HT.out.below hb1)
  go_wp2_with fail
  refine Calls.mono (G.out _ _ _ HT1.out hF) ?_
  rintro e w2 ⟨rfl, hb⟩
  obtain ⟨hb2, hz2, hc2, hf2⟩ := took (w := w) (by repeat' (first | (with_reducible refine below_drewN ?_ _) | go_grown)) (by first | (simp only [World.size_alloc, World.size_setCell, World.size_drew, size_drewN]; done) | (simp only [World.size_alloc, World.size_setCell, World.size_drew, size_drewN]; rfl) | rfl) hb; clear hb
  have z2 : w.heap.size < w2.heap.size := by omega
  go_wp2_with fail
  refine bodyPost_ret (v := .tuple #[.agg #[.int .i64 lo, .int .i64 hi], .int .i64 0]) ?_ rfl ⟨rfl, (by repeat' (first | (with_reducible refine below_drewN ?_ _) | go_grown))⟩
  simp [results, Tryd.results49, go_sem, *]
end Go.Proofs.YtdeoahgcppbmkaaDoor
