/- place.Height, place.Ground. -/
import Derived.Test.YtcopmgnfakjdhaaDoorLook
namespace Go.Proofs.YtcopmgnfakjdhaaDoor
open Go.RowKit
set_option linter.unusedSimpArgs false
set_option linter.unusedVariables false
set_option maxHeartbeats 4000000 in
theorem Height_ok (lon lat rl rh dl dh t : Int) (w : World) (hT : SinT w) (h : LkOk lon lat rl rh dl dh t) :
    Calls Tryd.prog 29 #[.agg #[.int .i64 lon, .int .i64 lat], .agg #[.int .i64 rl, .int .i64 rh], .agg #[.int .i64 dl, .int .i64 dh], .int .i64 t] w fun e w' => e = .returned (.tuple #[.agg #[.int .i64 (upLo lat (hhLo lon t rh) (hhHi lon t rl) dl dh), .int .i64 (upHi lat (hhLo lon t rh) (hhHi lon t rl) dl dh)], .int .i64 0]) ∧ Below w.heap.size w w' := by
  have L := Lib.hid (fun w ht => look_ok lon lat rl rh dl dh t w ht h)
  have HT := Lib.hid hT
  unfold lookV at L
  clear h hT
  generalize hhLo lon t rh = hl at *
  generalize hhHi lon t rl = hh at *
  generalize upLo lat hl hh dl dh = u1 at *
  generalize upHi lat hl hh dl dh = u2 at *
  generalize eaLo hl hh dl dh = u3 at *
  generalize eaHi hl hh dl dh = u4 at *
  generalize noLo lat hl hh dl dh = u5 at *
  generalize noHi lat hl hh dl dh = u6 at *
  go_enter Tryd.func29, Tryd.ntmps29
  go_wp2_with fail
  refine Calls.mono (L.out _ (HT.out.below (by repeat' (first | (with_reducible refine below_drewN ?_ _) | go_grown)))) ?_
  rintro e w1 ⟨rfl, hb⟩
  obtain ⟨hb1, hz1, hc1, hf1⟩ := took (w := w) (by repeat' (first | (with_reducible refine below_drewN ?_ _) | go_grown)) (by first | (simp only [World.size_alloc, World.size_setCell, World.size_drew, size_drewN]; done) | (simp only [World.size_alloc, World.size_setCell, World.size_drew, size_drewN]; rfl) | rfl) hb; clear hb
  have z1 : w.heap.size < w1.heap.size := by omega
  have z2 : w.heap.size + 1 < w1.heap.size := by omega
  have z3 : w.heap.size + 1 + 1 < w1.heap.size := by omega
  have z4 : w.heap.size + 1 + 1 + 1 < w1.heap.size := by omega
  go_wp2_with fail
  refine bodyPost_ret (v := .tuple #[.agg #[.int .i64 u1, .int .i64 u2], .int .i64 0]) ?_ rfl ⟨rfl, (by repeat' (first | (with_reducible refine below_drewN ?_ _) | go_grown))⟩
  simp [results, Tryd.results29, go_sem, *]
set_option maxHeartbeats 4000000 in
theorem Ground_ok (lon lat rl rh dl dh t : Int) (w : World) (hT : SinT w) (h : LkOk lon lat rl rh dl dh t) :
    Calls Tryd.prog 30 #[.agg #[.int .i64 lon, .int .i64 lat], .agg #[.int .i64 rl, .int .i64 rh], .agg #[.int .i64 dl, .int .i64 dh], .int .i64 t] w fun e w' => e = .returned (.tuple #[.agg #[.int .i64 (eaLo (hhLo lon t rh) (hhHi lon t rl) dl dh), .int .i64 (eaHi (hhLo lon t rh) (hhHi lon t rl) dl dh)], .agg #[.int .i64 (noLo lat (hhLo lon t rh) (hhHi lon t rl) dl dh), .int .i64 (noHi lat (hhLo lon t rh) (hhHi lon t rl) dl dh)], .int .i64 0]) ∧ Below w.heap.size w w' := by
  have L := Lib.hid (fun w ht => look_ok lon lat rl rh dl dh t w ht h)
  have HT := Lib.hid hT
  unfold lookV at L
  clear h hT
  generalize hhLo lon t rh = hl at *
  generalize hhHi lon t rl = hh at *
  generalize upLo lat hl hh dl dh = u1 at *
  generalize upHi lat hl hh dl dh = u2 at *
  generalize eaLo hl hh dl dh = u3 at *
  generalize eaHi hl hh dl dh = u4 at *
  generalize noLo lat hl hh dl dh = u5 at *
  generalize noHi lat hl hh dl dh = u6 at *
  go_enter Tryd.func30, Tryd.ntmps30
  go_wp2_with fail
  refine Calls.mono (L.out _ (HT.out.below (by repeat' (first | (with_reducible refine below_drewN ?_ _) | go_grown)))) ?_
  rintro e w1 ⟨rfl, hb⟩
  obtain ⟨hb1, hz1, hc1, hf1⟩ := took (w := w) (by repeat' (first | (with_reducible refine below_drewN ?_ _) | go_grown)) (by first | (simp only [World.size_alloc, World.size_setCell, World.size_drew, size_drewN]; done) | (simp only [World.size_alloc, World.size_setCell, World.size_drew, size_drewN]; rfl) | rfl) hb; clear hb
  have z1 : w.heap.size < w1.heap.size := by omega
  have z2 : w.heap.size + 1 < w1.heap.size := by omega
  have z3 : w.heap.size + 1 + 1 < w1.heap.size := by omega
  have z4 : w.heap.size + 1 + 1 + 1 < w1.heap.size := by omega
  have z5 : w.heap.size + 1 + 1 + 1 + 1 < w1.heap.size := by omega
  go_upto_region 2 with fail
  go_region
  go_wp2_with fail
  refine bodyPost_ret (v := .tuple #[.agg #[.int .i64 u3, .int .i64 u4], .agg #[.int .i64 u5, .int .i64 u6], .int .i64 0]) ?_ rfl ⟨rfl, (by repeat' (first | (with_reducible refine below_drewN ?_ _) | go_grown))⟩
  simp [results, Tryd.results30, go_sem, *]
end Go.Proofs.YtcopmgnfakjdhaaDoor
