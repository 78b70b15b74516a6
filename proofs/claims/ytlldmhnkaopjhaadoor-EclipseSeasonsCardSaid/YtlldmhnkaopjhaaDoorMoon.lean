/- Merged by wip/tools/pack.py out of XSunW, XMoonW, XMoonB, XElong, XElT. -/
import Derived.Test.YtlldmhnkaopjhaaDoorSer
import Derived.Test.YtlldmhnkaopjhaaDoorSkyLaw
import Derived.Test.YtlldmhnkaopjhaaDoorTrue
/- sun.Sum, sun.Longitude. -/
namespace Go.Proofs.YtlldmhnkaopjhaaDoor
open Go.RowKit
set_option linter.unusedSimpArgs false
set_option linter.unusedVariables false
def SumPost (mean rate rest : Int) (n : Nat) (zs : List Int) (w : World) (e : Ending) (w' : World) : Prop := ∃ A cap, e = .returned (.agg #[.int .i64 mean, .int .i64 rate, .slice A n cap, .int .i64 rest]) ∧ FlatSl w' 3 A n cap zs ∧ Below w.heap.size w w'
/-- The terms of ephemeris/sun.Sum. -/
def sunZ : List Int := [5318339, 84888545, 2737778555556, 55536, 169777090, 5475557111112]
theorem sun_in : SumIn 775342092 2737909333333 2000 2 sunZ := by
  refine ⟨by omega, by omega, by omega, by omega, by omega, by omega, by omega, fun i hi => ?_⟩
  rcases (by omega : i = 0 ∨ i = 1) with rfl | rfl <;> exact ⟨by decide, by decide, by decide, by decide, by decide, by decide⟩
set_option maxRecDepth 100000 in
set_option maxHeartbeats 4000000 in
theorem sunSum_ok (w : World) : Calls Tryd.prog 62 #[] w (SumPost 775342092 2737909333333 2000 2 sunZ w) := by
  go_enter Tryd.func62, Tryd.ntmps62
  go_wp2_with fail
  refine bodyPost_ret (v := .agg #[.int .i64 775342092, .int .i64 2737909333333, .slice (some ⟨w.heap.size + 1, 0, none⟩) 2 2, .int .i64 2000]) ?_ rfl ⟨some ⟨w.heap.size + 1, 0, none⟩, 2, rfl, ?_, (by repeat' (first | (with_reducible refine below_drewN ?_ _) | go_grown))⟩
  · simp [results, Tryd.results62, go_sem]
  · refine ⟨by omega, by unfold maxLen; omega, rfl, fun _ => ⟨w.heap.size + 1, 0, rfl, fun j hj => ?_⟩⟩
    rcases (by omega : j = 0 ∨ j = 1 ∨ j = 2 ∨ j = 3 ∨ j = 4 ∨ j = 5) with rfl | rfl | rfl | rfl | rfl | rfl <;> (simp [go_sem]; rfl)
/-- The sun's longitude. -/
def slLo (t : Int) : Int := anLo 775342092 2737909333333 2000 sunZ 2 t
def slHi (t : Int) : Int := anHi 775342092 2737909333333 2000 sunZ 2 t
set_option maxRecDepth 100000 in
set_option maxHeartbeats 4000000 in
theorem sunLong_ok (t : Int) (w : World) (hT : SinT w) (ht : instOk t = true) : Calls Tryd.prog 42 #[.int .i64 t] w fun e w' => e = .returned (.tuple #[.agg #[.int .i64 (slLo t), .int .i64 (slHi t)], .int .i64 0]) ∧ Below w.heap.size w w' := by
  have S := Lib.hid (fun w => sunSum_ok w)
  have G := Lib.hid (fun A cap W (hT : SinT W) (h : FlatSl W 3 A 2 cap sunZ) => Angle_ok 775342092 2737909333333 2000 t A 2 cap sunZ W hT h sun_in ht)
  have HT := Lib.hid hT
  unfold slLo slHi
  generalize anLo 775342092 2737909333333 2000 sunZ 2 t = lo at *
  generalize anHi 775342092 2737909333333 2000 sunZ 2 t = hi at *
  clear hT ht
  go_enter Tryd.func42, Tryd.ntmps42
  go_wp2_with fail
  refine Calls.mono (S.out _) ?_
  rintro e w1 ⟨A, cap, rfl, hF, hb⟩
  obtain ⟨hb1, hz1, hc1, hf1⟩ := took (w := w) (by repeat' (first | (with_reducible refine below_drewN ?_ _) | go_grown)) (by first | (simp only [World.size_alloc, World.size_setCell, World.size_drew, size_drewN]; done) | (simp only [World.size_alloc, World.size_setCell, World.size_drew, size_drewN]; rfl) | rfl) hb; clear hb
  have z1 : w.heap.size < w1.heap.size := by omega
  have HT1 := Lib.hid (HT.out.below hb1)
  go_wp2_with fail
  refine Calls.mono (G.out _ _ _ HT1.out hF) ?_
  rintro e w2 ⟨rfl, hb⟩
  obtain ⟨hb2, hz2, hc2, hf2⟩ := took (w := w) (by repeat' (first | (with_reducible refine below_drewN ?_ _) | go_grown)) (by first | (simp only [World.size_alloc, World.size_setCell, World.size_drew, size_drewN]; done) | (simp only [World.size_alloc, World.size_setCell, World.size_drew, size_drewN]; rfl) | rfl) hb; clear hb
  have z2 : w.heap.size < w2.heap.size := by omega
  go_wp2_with fail
  refine bodyPost_ret (v := .tuple #[.agg #[.int .i64 lo, .int .i64 hi], .int .i64 0]) ?_ rfl ⟨rfl, (by repeat' (first | (with_reducible refine below_drewN ?_ _) | go_grown))⟩
  simp [results, Tryd.results42, go_sem, *]
end Go.Proofs.YtlldmhnkaopjhaaDoor
/- moon.longitude, moon.Longitude. -/
namespace Go.Proofs.YtlldmhnkaopjhaaDoor
open Go.RowKit
set_option linter.unusedSimpArgs false
set_option linter.unusedVariables false
/-- The terms of ephemeris/moon.longitude. -/
def moonLZ : List Int := [17468817, 99384016, 36291647083333, 3538964, 134030564, 31434736861111, 1828650, 233414580, 67726383944444, 593383, 198768032, 72583294166666, -514211, 84888545, 2737778555556, -317589, 297001062, 73496390222222]
theorem moonL_in : SumIn 392048814 36601101305556 20000 6 moonLZ := by
  refine ⟨by omega, by omega, by omega, by omega, by omega, by omega, by omega, fun i hi => ?_⟩
  rcases (by omega : i = 0 ∨ i = 1 ∨ i = 2 ∨ i = 3 ∨ i = 4 ∨ i = 5) with rfl | rfl | rfl | rfl | rfl | rfl <;> exact ⟨by decide, by decide, by decide, by decide, by decide, by decide⟩
set_option maxRecDepth 100000 in
set_option maxHeartbeats 4000000 in
theorem moonLon_ok (w : World) : Calls Tryd.prog 63 #[] w (SumPost 392048814 36601101305556 20000 6 moonLZ w) := by
  go_enter Tryd.func63, Tryd.ntmps63
  go_wp2_with fail
  refine bodyPost_ret (v := .agg #[.int .i64 392048814, .int .i64 36601101305556, .slice (some ⟨w.heap.size + 1, 0, none⟩) 6 6, .int .i64 20000]) ?_ rfl ⟨some ⟨w.heap.size + 1, 0, none⟩, 6, rfl, ?_, (by repeat' (first | (with_reducible refine below_drewN ?_ _) | go_grown))⟩
  · simp [results, Tryd.results63, go_sem]
  · refine ⟨by omega, by unfold maxLen; omega, rfl, fun _ => ⟨w.heap.size + 1, 0, rfl, fun j hj => ?_⟩⟩
    rcases (by omega : j = 0 ∨ j = 1 ∨ j = 2 ∨ j = 3 ∨ j = 4 ∨ j = 5 ∨ j = 6 ∨ j = 7 ∨ j = 8 ∨ j = 9 ∨ j = 10 ∨ j = 11 ∨ j = 12 ∨ j = 13 ∨ j = 14 ∨ j = 15 ∨ j = 16 ∨ j = 17) with rfl | rfl | rfl | rfl | rfl | rfl | rfl | rfl | rfl | rfl | rfl | rfl | rfl | rfl | rfl | rfl | rfl | rfl <;> (simp [go_sem]; rfl)
/-- The longitude of the moon. -/
def mlLo (t : Int) : Int := anLo 392048814 36601101305556 20000 moonLZ 6 t
def mlHi (t : Int) : Int := anHi 392048814 36601101305556 20000 moonLZ 6 t
set_option maxRecDepth 100000 in
set_option maxHeartbeats 4000000 in
theorem moonLong_ok (t : Int) (w : World) (hT : SinT w) (ht : instOk t = true) : Calls Tryd.prog 43 #[.int .i64 t] w fun e w' => e = .returned (.tuple #[.agg #[.int .i64 (mlLo t), .int .i64 (mlHi t)], .int .i64 0]) ∧ Below w.heap.size w w' := by
  have S := Lib.hid (fun w => moonLon_ok w)
  have G := Lib.hid (fun A cap W (hT : SinT W) (h : FlatSl W 3 A 6 cap moonLZ) => Angle_ok 392048814 36601101305556 20000 t A 6 cap moonLZ W hT h moonL_in ht)
  have HT := Lib.hid hT
  unfold mlLo mlHi
  generalize anLo 392048814 36601101305556 20000 moonLZ 6 t = lo at *
  generalize anHi 392048814 36601101305556 20000 moonLZ 6 t = hi at *
  clear hT ht
  go_enter Tryd.func43, Tryd.ntmps43
  go_wp2_with fail
  refine Calls.mono (S.out _) ?_
  rintro e w1 ⟨A, cap, rfl, hF, hb⟩
  obtain ⟨hb1, hz1, hc1, hf1⟩ := took (w := w) (by repeat' (first | (with_reducible refine below_drewN ?_ _) | go_grown)) (by first | (simp only [World.size_alloc, World.size_setCell, World.size_drew, size_drewN]; done) | (simp only [World.size_alloc, World.size_setCell, World.size_drew, size_drewN]; rfl) | rfl) hb; clear hb
  have z1 : w.heap.size < w1.heap.size := by omega
  have HT1 := Lib.hid (HT.out.below hb1)
  go_wp2_with fail
  refine Calls.mono (G.out _ _ _ HT1.out hF) ?_
  rintro e w2 ⟨rfl, hb⟩
  obtain ⟨hb2, hz2, hc2, hf2⟩ := took (w := w) (by repeat' (first | (with_reducible refine below_drewN ?_ _) | go_grown)) (by first | (simp only [World.size_alloc, World.size_setCell, World.size_drew, size_drewN]; done) | (simp only [World.size_alloc, World.size_setCell, World.size_drew, size_drewN]; rfl) | rfl) hb; clear hb
  have z2 : w.heap.size < w2.heap.size := by omega
  go_wp2_with fail
  refine bodyPost_ret (v := .tuple #[.agg #[.int .i64 lo, .int .i64 hi], .int .i64 0]) ?_ rfl ⟨rfl, (by repeat' (first | (with_reducible refine below_drewN ?_ _) | go_grown))⟩
  simp [results, Tryd.results43, go_sem, *]
end Go.Proofs.YtlldmhnkaopjhaaDoor
/- moon.latitude, moon.Latitude. -/
namespace Go.Proofs.YtlldmhnkaopjhaaDoor
open Go.RowKit
set_option linter.unusedSimpArgs false
set_option linter.unusedVariables false
/-- The terms of ephemeris/moon.latitude. -/
def moonBZ : List Int := [14244783, 648500531, 36748195111111, 779450, 747884547, 73039842194444, 771369, 450883485, -456548027778]
theorem moonB_in : SumIn 0 0 20000 3 moonBZ := by
  refine ⟨by omega, by omega, by omega, by omega, by omega, by omega, by omega, fun i hi => ?_⟩
  rcases (by omega : i = 0 ∨ i = 1 ∨ i = 2) with rfl | rfl | rfl <;> exact ⟨by decide, by decide, by decide, by decide, by decide, by decide⟩
set_option maxRecDepth 100000 in
set_option maxHeartbeats 4000000 in
theorem moonLat_ok (w : World) : Calls Tryd.prog 73 #[] w (SumPost 0 0 20000 3 moonBZ w) := by
  go_enter Tryd.func73, Tryd.ntmps73
  go_wp2_with fail
  refine bodyPost_ret (v := .agg #[.int .i64 0, .int .i64 0, .slice (some ⟨w.heap.size + 1, 0, none⟩) 3 3, .int .i64 20000]) ?_ rfl ⟨some ⟨w.heap.size + 1, 0, none⟩, 3, rfl, ?_, (by repeat' (first | (with_reducible refine below_drewN ?_ _) | go_grown))⟩
  · simp [results, Tryd.results73, go_sem]
  · refine ⟨by omega, by unfold maxLen; omega, rfl, fun _ => ⟨w.heap.size + 1, 0, rfl, fun j hj => ?_⟩⟩
    rcases (by omega : j = 0 ∨ j = 1 ∨ j = 2 ∨ j = 3 ∨ j = 4 ∨ j = 5 ∨ j = 6 ∨ j = 7 ∨ j = 8) with rfl | rfl | rfl | rfl | rfl | rfl | rfl | rfl | rfl <;> (simp [go_sem]; rfl)
/-- The latitude of the moon. -/
def mbLo (t : Int) : Int := vLo 0 20000 moonBZ 3 t
def mbHi (t : Int) : Int := vHi 0 20000 moonBZ 3 t
set_option maxRecDepth 100000 in
set_option maxHeartbeats 4000000 in
theorem moonLatt_ok (t : Int) (w : World) (hT : SinT w) (ht : instOk t = true) : Calls Tryd.prog 59 #[.int .i64 t] w fun e w' => e = .returned (.tuple #[.agg #[.int .i64 (mbLo t), .int .i64 (mbHi t)], .int .i64 0]) ∧ Below w.heap.size w w' := by
  have S := Lib.hid (fun w => moonLat_ok w)
  have G := Lib.hid (fun A cap W (hT : SinT W) (h : FlatSl W 3 A 3 cap moonBZ) => Value_ok 0 0 20000 t A 3 cap moonBZ W hT h moonB_in ht)
  have HT := Lib.hid hT
  unfold mbLo mbHi
  generalize vLo 0 20000 moonBZ 3 t = lo at *
  generalize vHi 0 20000 moonBZ 3 t = hi at *
  clear hT ht
  go_enter Tryd.func59, Tryd.ntmps59
  go_wp2_with fail
  refine Calls.mono (S.out _) ?_
  rintro e w1 ⟨A, cap, rfl, hF, hb⟩
  obtain ⟨hb1, hz1, hc1, hf1⟩ := took (w := w) (by repeat' (first | (with_reducible refine below_drewN ?_ _) | go_grown)) (by first | (simp only [World.size_alloc, World.size_setCell, World.size_drew, size_drewN]; done) | (simp only [World.size_alloc, World.size_setCell, World.size_drew, size_drewN]; rfl) | rfl) hb; clear hb
  have z1 : w.heap.size < w1.heap.size := by omega
  have HT1 := Lib.hid (HT.out.below hb1)
  go_wp2_with fail
  refine Calls.mono (G.out _ _ _ HT1.out hF) ?_
  rintro e w2 ⟨rfl, hb⟩
  obtain ⟨hb2, hz2, hc2, hf2⟩ := took (w := w) (by repeat' (first | (with_reducible refine below_drewN ?_ _) | go_grown)) (by first | (simp only [World.size_alloc, World.size_setCell, World.size_drew, size_drewN]; done) | (simp only [World.size_alloc, World.size_setCell, World.size_drew, size_drewN]; rfl) | rfl) hb; clear hb
  have z2 : w.heap.size < w2.heap.size := by omega
  go_wp2_with fail
  refine bodyPost_ret (v := .tuple #[.agg #[.int .i64 lo, .int .i64 hi], .int .i64 0]) ?_ rfl ⟨rfl, (by repeat' (first | (with_reducible refine below_drewN ?_ _) | go_grown))⟩
  simp [results, Tryd.results59, go_sem, *]
end Go.Proofs.YtlldmhnkaopjhaaDoor
/- trig.Less, moon.Elongation, moonWorks. -/
namespace Go.Proofs.YtlldmhnkaopjhaaDoor
open Go.RowKit
set_option linter.unusedSimpArgs false
set_option linter.unusedVariables false
theorem an_bd {mean rate rest t : Int} {n : Nat} {zs : List Int} (h : SumIn mean rate rest n zs) : 0 ≤ anLo mean rate rest zs n t ∧ anLo mean rate rest zs n t < 1000000000 ∧ anLo mean rate rest zs n t ≤ anHi mean rate rest zs n t ∧ anHi mean rate rest zs n t ≤ 130000000000 := by
  have a : 0 ≤ anLo mean rate rest zs n t ∧ anLo mean rate rest zs n t < 1000000000 := by unfold anLo; omega
  have b := v_bd (t := t) h.n40 h.tm ⟨h.m1, h.m2⟩ ⟨h.t1, h.t2⟩
  refine ⟨a.1, a.2, ?_, ?_⟩
  · unfold anHi; split <;> omega
  · unfold anHi; split <;> omega
set_option maxHeartbeats 1000000 in
theorem lMinus_ok (a b c d : Int) (w : World) (h1 : -4000000000000000000 ≤ a - d ∧ a - d ≤ 4000000000000000000) (h2 : -4000000000000000000 ≤ b - c ∧ b - c ≤ 4000000000000000000) :
    Calls Tryd.prog 69 #[.agg #[.int .i64 a, .int .i64 b], .agg #[.int .i64 c, .int .i64 d]] w fun e w' => e = .returned (.agg #[.int .i64 (a - d), .int .i64 (b - c)]) ∧ Below w.heap.size w w' := by
  have e1 : wrap64 (a - d) = a - d := IntWalk.wrap64_in _ (by omega)
  have e2 : wrap64 (b - c) = b - c := IntWalk.wrap64_in _ (by omega)
  clear h1 h2
  go_enter Tryd.func69, Tryd.ntmps69
  go_wp2_with fail
  refine bodyPost_ret (v := .agg #[.int .i64 (a - d), .int .i64 (b - c)]) ?_ rfl ⟨rfl, (by repeat' (first | (with_reducible refine below_drewN ?_ _) | go_grown))⟩
  simp [results, Tryd.results69, go_sem, *]
/-- An interval of angles less another one. -/
def lsLo (a b c d : Int) : Int := (a - d) % 1000000000
def lsHi (a b c d : Int) : Int := (a - d) % 1000000000 + (b - c) - (a - d)
set_option maxHeartbeats 1000000 in
theorem less_ok (a b c d : Int) (w : World) (h1 : -1000000000000000000 ≤ a - d ∧ a - d ≤ 1000000000000000000) (h2 : -1000000000000000000 ≤ b - c ∧ b - c ≤ 1000000000000000000) :
    Calls Tryd.prog 57 #[.agg #[.int .i64 a, .int .i64 b], .agg #[.int .i64 c, .int .i64 d]] w fun e w' => e = .returned (.agg #[.int .i64 (lsLo a b c d), .int .i64 (lsHi a b c d)]) ∧ Below w.heap.size w w' := by
  have M := Lib.hid (fun w => lMinus_ok a b c d w (by omega) (by omega))
  have N := Lib.hid (fun w => norm_ok (a - d) (b - c) w (by omega) (by omega))
  unfold lsLo lsHi
  generalize (a - d) % 1000000000 + (b - c) - (a - d) = hi at *
  generalize (a - d) % 1000000000 = lo at *
  generalize a - d = x at *
  generalize b - c = y at *
  clear h1 h2
  go_enter Tryd.func57, Tryd.ntmps57
  go_wp2_with fail
  refine Calls.mono (M.out _) ?_
  rintro e w1 ⟨rfl, hb⟩
  obtain ⟨hb1, hz1, hc1, hf1⟩ := took (w := w) (by repeat' (first | (with_reducible refine below_drewN ?_ _) | go_grown)) (by first | (simp only [World.size_alloc, World.size_setCell, World.size_drew, size_drewN]; done) | (simp only [World.size_alloc, World.size_setCell, World.size_drew, size_drewN]; rfl) | rfl) hb; clear hb
  have z1 : w.heap.size < w1.heap.size := by omega
  have z1b : w.heap.size + 1 < w1.heap.size := by omega
  have z1c : w.heap.size + 1 + 1 < w1.heap.size := by omega
  go_wp2_with fail
  refine Calls.mono (N.out _) ?_
  rintro e w2 ⟨rfl, hb⟩
  obtain ⟨hb2, hz2, hc2, hf2⟩ := took (w := w) (by repeat' (first | (with_reducible refine below_drewN ?_ _) | go_grown)) (by first | (simp only [World.size_alloc, World.size_setCell, World.size_drew, size_drewN]; done) | (simp only [World.size_alloc, World.size_setCell, World.size_drew, size_drewN]; rfl) | rfl) hb; clear hb
  have z2 : w.heap.size < w2.heap.size := by omega
  have z2b : w.heap.size + 1 < w2.heap.size := by omega
  have z2d : w.heap.size + 1 + 1 < w2.heap.size := by omega
  go_wp2_with fail
  refine bodyPost_ret (v := .agg #[.int .i64 lo, .int .i64 hi]) ?_ rfl ⟨rfl, (by repeat' (first | (with_reducible refine below_drewN ?_ _) | go_grown))⟩
  simp [results, Tryd.results57, go_sem, *]
theorem ls_bd {a b c d : Int} (h1 : 0 ≤ a ∧ a < 1000000000 ∧ a ≤ b ∧ b ≤ 130000000000) (h2 : 0 ≤ c ∧ c < 1000000000 ∧ c ≤ d ∧ d ≤ 130000000000) : 0 ≤ lsLo a b c d ∧ lsLo a b c d < 1000000000 ∧ lsLo a b c d ≤ lsHi a b c d ∧ lsHi a b c d ≤ 400000000000 := by unfold lsLo lsHi; omega
/-- The elongation. -/
def elLo (t : Int) : Int := lsLo (mlLo t) (mlHi t) (slLo t) (slHi t)
def elHi (t : Int) : Int := lsHi (mlLo t) (mlHi t) (slLo t) (slHi t)
theorem el_bd (t : Int) : 0 ≤ elLo t ∧ elLo t < 1000000000 ∧ elLo t ≤ elHi t ∧ elHi t ≤ 400000000000 := ls_bd (an_bd moonL_in) (an_bd sun_in)
set_option maxHeartbeats 2000000 in
theorem elong_ok (t : Int) (w : World) (hT : SinT w) (ht : instOk t = true) : Calls Tryd.prog 37 #[.int .i64 t] w fun e w' => e = .returned (.tuple #[.agg #[.int .i64 (elLo t), .int .i64 (elHi t)], .int .i64 0]) ∧ Below w.heap.size w w' := by
  have M := Lib.hid (fun W (hT : SinT W) => moonLong_ok t W hT ht)
  have S := Lib.hid (fun W (hT : SinT W) => sunLong_ok t W hT ht)
  have b1 : 0 ≤ mlLo t ∧ mlLo t < 1000000000 ∧ mlLo t ≤ mlHi t ∧ mlHi t ≤ 130000000000 := an_bd moonL_in
  have b2 : 0 ≤ slLo t ∧ slLo t < 1000000000 ∧ slLo t ≤ slHi t ∧ slHi t ≤ 130000000000 := an_bd sun_in
  have L := Lib.hid (fun w => less_ok (mlLo t) (mlHi t) (slLo t) (slHi t) w (by omega) (by omega))
  unfold elLo elHi
  generalize lsLo (mlLo t) (mlHi t) (slLo t) (slHi t) = lo at *
  generalize lsHi (mlLo t) (mlHi t) (slLo t) (slHi t) = hi at *
  generalize mlLo t = a at *
  generalize mlHi t = b at *
  generalize slLo t = c at *
  generalize slHi t = d at *
  have HT := Lib.hid hT
  clear hT ht b1 b2
  go_enter Tryd.func37, Tryd.ntmps37
  have HB := Lib.hid (Below.refl w.heap.size w)
  go_upto_region 1 with fail
  have HB1 := HB.out
  replace HB := Lib.hid (HB1.alloc HB1.size (.cells #[.int .i64 (0), .int .i64 (0)] 24))
  clear HB1
  have s1 := Lib.hid (SpBox.new w (0) (0))
  obtain ⟨k1, hk1⟩ : ∃ x, x = w.heap.size := ⟨_, rfl⟩
  rw [← hk1] at s1
  have Hkl1 := Lib.hid (Nat.le_of_eq hk1.symm)
  rw [← hk1]
  obtain ⟨X1, hX1⟩ : ∃ X, X = w.alloc (.cells #[.int .i64 (0), .int .i64 (0)] 24) := ⟨_, rfl⟩
  rw [← hX1] at s1 HB ⊢
  clear hk1 hX1
  go_wp2_with fail
  refine Calls.mono (M.out _ (HT.out.below HB.out)) ?_
  rintro e wn2 ⟨rfl, hb⟩
  replace s1 := Lib.hid ((s1.out.below hb).alloc (.cells #[.int .i64 (a), .int .i64 (b)] 24))
  have HB2 := HB.out.trans (hb.mono HB.out.size)
  clear hb
  have Hkl2 := Lib.hid HB2.size; replace HB := Lib.hid (HB2.alloc HB2.size (.cells #[.int .i64 (a), .int .i64 (b)] 24))
  clear HB2
  have s2 := Lib.hid (SpBox.new wn2 (a) (b))
  obtain ⟨k2, hk2⟩ : ∃ x, x = wn2.heap.size := ⟨_, rfl⟩
  rw [← hk2] at s2 Hkl2
  go_upto_region 2 with fail
  rw [← hk2]
  obtain ⟨X2, hX2⟩ : ∃ X, X = wn2.alloc (.cells #[.int .i64 (a), .int .i64 (b)] 24) := ⟨_, rfl⟩
  rw [← hX2] at s1 s2 HB ⊢
  clear hk2 hX2
  go_wp2_with fail
  refine Calls.mono (S.out _ (HT.out.below HB.out)) ?_
  rintro e wn3 ⟨rfl, hb⟩
  replace s1 := Lib.hid ((s1.out.below hb).alloc (.cells #[.int .i64 (c), .int .i64 (d)] 24))
  replace s2 := Lib.hid ((s2.out.below hb).alloc (.cells #[.int .i64 (c), .int .i64 (d)] 24))
  have HB3 := HB.out.trans (hb.mono HB.out.size)
  clear hb
  have Hkl3 := Lib.hid HB3.size; replace HB := Lib.hid (HB3.alloc HB3.size (.cells #[.int .i64 (c), .int .i64 (d)] 24))
  clear HB3
  have s3 := Lib.hid (SpBox.new wn3 (c) (d))
  obtain ⟨k3, hk3⟩ : ∃ x, x = wn3.heap.size := ⟨_, rfl⟩
  rw [← hk3] at s3 Hkl3
  go_upto_region 5 with fail
  rw [← hk3]
  obtain ⟨X3, hX3⟩ : ∃ X, X = wn3.alloc (.cells #[.int .i64 (c), .int .i64 (d)] 24) := ⟨_, rfl⟩
  rw [← hX3] at s1 s2 s3 HB ⊢
  clear hk3 hX3
  have sc2_0 := s2.out.c0; have sc2_1 := s2.out.c1; have sc2_l := s2.out.lt
  have sc3_0 := s3.out.c0; have sc3_1 := s3.out.c1; have sc3_l := s3.out.lt
  go_wp2_with fail
  refine Calls.mono (L.out _) ?_
  rintro e wc1 ⟨rfl, hb⟩
  replace s1 := Lib.hid (s1.out.below hb)
  replace s2 := Lib.hid (s2.out.below hb)
  replace s3 := Lib.hid (s3.out.below hb)
  replace HB := Lib.hid (HB.out.trans (hb.mono HB.out.size))
  clear sc2_0 sc2_1 sc2_l sc3_0 sc3_1 sc3_l
  clear hb
  have rs0 := s1.out.c0; have rs1 := s1.out.c1; have rsf0 := s1.out.free 0; have rsf1 := s1.out.free 1; have rsl := s1.out.lt; have rsk := Hkl1.out
  go_wp2_with fail
  refine bodyPost_ret (v := .tuple #[.agg #[.int .i64 lo, .int .i64 hi], .int .i64 0]) ?_ rfl ⟨rfl, ?_⟩
  · simp [results, Tryd.results37, go_sem, *]
  · refine Below.setCell (Below.setCell HB.out ?_ _) ?_ _
    all_goals (first | (simp only [World.size_setCell]; omega) | (dsimp only; omega))
end Go.Proofs.YtlldmhnkaopjhaaDoor
/- The true longitudes of the sun and the moon, and the elongation: how fast they grow. Plain. -/
namespace Go.Proofs.YtlldmhnkaopjhaaDoor
set_option linter.unusedSimpArgs false
set_option linter.unusedVariables false
theorem anT_move {mean rate : Int} {zs : List Int} {n : Nat} (hz : ∀ i, i < n → TmOk zs i) (t : Rat) {d : Rat} (hd : 0 ≤ d) :
    Near (anT mean rate zs n (t + d)) (anT mean rate zs n t + (rate : Rat) * (d / 86400000000000)) (ra (slS zs n * (d / 86400000000000)) + (n : Rat) * (1 / 10000000000)) := by
  have h := sv_move hz t hd n (Nat.le_refl _)
  unfold anT
  have e : phT mean rate (t + d) = phT mean rate t + (rate : Rat) * (d / 86400000000000) := by unfold phT; grind
  rw [e]
  unfold Near at *
  generalize svT zs n (t + d) = x1 at *
  generalize svT zs n t = x2 at *
  generalize phT mean rate t = x3 at *
  generalize (rate : Rat) * (d / 86400000000000) = x4 at *
  generalize ra (slS zs n * (d / 86400000000000)) = x5 at *
  constructor <;> grind
/-- An interval of angles around a true one, with a slack. -/
def AngW (lo hi : Int) (X r s : Rat) : Prop := ∃ k : Int, (lo : Rat) + 1000000000 * (k : Rat) ≤ X - r ∧ X - r - s ≤ (lo : Rat) + 1000000000 * (k : Rat) ∧ X + r ≤ (hi : Rat) + 1000000000 * (k : Rat) ∧ (hi : Rat) + 1000000000 * (k : Rat) ≤ X + r + s
theorem angAt_W {lo hi : Int} {X r : Rat} (h : AngAt lo hi X r) : AngW lo hi X r (2003 / 1000) := h
theorem less_at {a b c d : Int} {X Y r s p q : Rat} (h : AngW a b X r p) (g : AngW c d Y s q) : AngW (lsLo a b c d) (lsHi a b c d) (X - Y) (r + s) (p + q) := by
  obtain ⟨k, h1, h2, h3, h4⟩ := h
  obtain ⟨j, g1, g2, g3, g4⟩ := g
  have e : lsLo a b c d = a - d + 1000000000 * -((a - d) / 1000000000) := by unfold lsLo; omega
  have e2 : lsHi a b c d = b - c + 1000000000 * -((a - d) / 1000000000) := by unfold lsHi; omega
  refine ⟨k - j + (a - d) / 1000000000, ?_⟩
  rw [e, e2]
  clear e e2
  generalize (a - d) / 1000000000 = z
  rw [Rat.intCast_add, Rat.intCast_add, Rat.intCast_add, Rat.intCast_mul, Rat.intCast_sub, Rat.intCast_sub, Rat.intCast_sub, Rat.intCast_neg, show ((1000000000 : Int) : Rat) = 1000000000 from rfl]
  refine ⟨?_, ?_, ?_, ?_⟩ <;> grind
/-- The true longitudes. -/
def sunT (t : Rat) : Rat := anT 775342092 2737909333333 sunZ 2 t
def moonT (t : Rat) : Rat := anT 392048814 36601101305556 moonLZ 6 t
def elT (t : Rat) : Rat := moonT t - sunT t
theorem sun_at (t : Int) : AngW (slLo t) (slHi t) (sunT (t : Rat)) 2000 (2003 / 1000) := ang_at (by omega) sun_in.tm
theorem moon_at (t : Int) : AngW (mlLo t) (mlHi t) (moonT (t : Rat)) 20000 (2003 / 1000) := ang_at (by omega) moonL_in.tm
theorem el_at (t : Int) : AngW (elLo t) (elHi t) (elT (t : Rat)) 22000 (4006 / 1000) := by
  have h := less_at (moon_at t) (sun_at t)
  rw [show (20000 : Rat) + 2000 = 22000 by grind, show (2003 / 1000 : Rat) + 2003 / 1000 = 4006 / 1000 by grind] at h
  exact h
theorem sl_sun : slS sunZ 2 = 14864525005099857516 := by unfold slS; decide +kernel
theorem sl_moon : slS moonLZ 6 = 936885529393895316817 := by unfold slS; decide +kernel
end Go.Proofs.YtlldmhnkaopjhaaDoor
