/- figure.Box at a figure without points. -/
import Derived.Test.YtbehickhaidliaaDoorBoxF
namespace Go.Proofs.YtbehickhaidliaaDoor
open Go.RowKit
set_option linter.unusedSimpArgs false
set_option linter.unusedVariables false

set_option maxRecDepth 100000 in
set_option maxHeartbeats 16000000 in
theorem fbox_nil (A : Option Addr) (c : Nat) (zs : List Int) (B : Option Addr) (m bc : Nat) (w : World) (h : FigW w A 0 c zs B m bc) :
    Calls Tryd.prog 11 #[.agg #[.slice A 0 c, .slice B m bc]] w fun e w' => e = .returned (.tuple #[.agg #[.int .i64 0, .int .i64 0, .int .i64 0, .int .i64 0], .agg #[.int .i64 0, .int .i64 0, .int .i64 0, .int .i64 0], .int .i64 6]) ∧ Below w.heap.size w w' := by
  have HB0 := Lib.hid (bxB_new w (.slice A 0 c) (.slice B m bc))
  have Hb0 := Lib.hid (bxB_below w (.slice A 0 c) (.slice B m bc))
  have H := Lib.hid h
  obtain ⟨k, hk⟩ : ∃ k, k = w.heap.size := ⟨_, rfl⟩
  have HK := Lib.hid hk
  obtain ⟨V, hV⟩ : ∃ V, V = (((((w.alloc (.cells #[.slice A 0 c, .slice B m bc] 27)).alloc (.cells #[.int .i64 0, .int .i64 0, .int .i64 0, .int .i64 0] 40)).alloc (.cells #[.int .i64 0, .int .i64 0, .int .i64 0, .int .i64 0] 40)).alloc (.cells #[.int .i64 0, .int .i64 0, .int .i64 0, .int .i64 0] 40)).alloc (.cells #[.int .i64 0, .int .i64 0, .int .i64 0, .int .i64 0] 40)) := ⟨_, rfl⟩
  rw [← hV, ← hk] at HB0; rw [← hV] at Hb0
  have HV := Lib.hid hV
  clear h hV
  go_enter Tryd.func11, Tryd.ntmps11
  go_upto_region 2 with fail
  rw [← HV.out, ← hk]
  clear hk HV
  have x0 := HB0.out.g.c0; have x1 := HB0.out.g.c1; have xl := HB0.out.g.lt
  go_wp2_with fail
  refine Calls.mono (figCheck_ok A 0 c zs B m bc _ (H.out.below Hb0.out)) ?_
  rintro e w1 ⟨rfl, hb⟩
  have HB := Lib.hid (HB0.out.below hb)
  have Hb := Lib.hid (Hb0.out.trans (hb.mono Hb0.out.size))
  clear hb x0 x1 xl HB0 Hb0
  have x0 := HB.out.g.c0; have x1 := HB.out.g.c1; have xl := HB.out.g.lt
  go_upto_region 6 with fail
  clear x0 x1 xl
  have x0 := HB.out.l.c0; have x1 := HB.out.l.c1; have x2 := HB.out.l.c2; have x3 := HB.out.l.c3
  have y0 := HB.out.h.c0; have y1 := HB.out.h.c1; have y2 := HB.out.h.c2; have y3 := HB.out.h.c3
  have r0 := HB.out.r.c0; have r1 := HB.out.r.c1; have r2 := HB.out.r.c2; have r3 := HB.out.r.c3; have rl := HB.out.r.lt
  have s0 := HB.out.s.c0; have s1 := HB.out.s.c1; have s2 := HB.out.s.c2; have s3 := HB.out.s.c3; have sl := HB.out.s.lt
  have rf0 := HB.out.r.free 0; have rf1 := HB.out.r.free 1; have rf2 := HB.out.r.free 2; have rf3 := HB.out.r.free 3
  have sf0 := HB.out.s.free 0; have sf1 := HB.out.s.free 1; have sf2 := HB.out.s.free 2; have sf3 := HB.out.s.free 3
  have wk := HK.out
  have hbl := (below_two (o := 2) (p := 3) (b := k + 1 + 1) (below_two (o := 0) (p := 1) (b := k + 1 + 1) (below_two (o := 2) (p := 3) (b := k + 1) (below_two (o := 0) (p := 1) (b := k + 1) Hb.out (by omega) (.int .i64 0) (.int .i64 0)) (by omega) (.int .i64 0) (.int .i64 0)) (by omega) (.int .i64 0) (.int .i64 0)) (by omega) (.int .i64 0) (.int .i64 0)).drew
  have HBL := Lib.hid hbl
  clear hbl wk
  go_region
  go_wp2_with fail
  refine bodyPost_ret (v := .tuple #[.agg #[.int .i64 0, .int .i64 0, .int .i64 0, .int .i64 0], .agg #[.int .i64 0, .int .i64 0, .int .i64 0, .int .i64 0], .int .i64 6]) ?_ rfl ⟨rfl, HBL.out⟩
  simp [results, Tryd.results11, go_sem, *]
end Go.Proofs.YtbehickhaidliaaDoor
