/- figureWorks: the example holds. -/
import Derived.Test.YtbehickhaidliaaDoorBar
import Derived.Test.YtbehickhaidliaaDoorBoxF
import Derived.Test.YtbehickhaidliaaDoorFigRead
namespace Go.Proofs.YtbehickhaidliaaDoor
open Go.RowKit
set_option linter.unusedSimpArgs false
set_option linter.unusedVariables false

theorem barText : figT barZ 2 1 = ⟨#[112, 32, 48, 32, 48, 10, 112, 32, 49, 47, 50, 32, 49, 10, 108, 32, 48, 32, 49, 10]⟩ := by decide +kernel
theorem fread_lit (w : World) (hr : Rd w) : Calls Tryd.prog 19 #[.string ⟨#[112, 32, 48, 32, 48, 10, 112, 32, 49, 47, 50, 32, 49, 10, 108, 32, 48, 32, 49, 10]⟩] w fun e w' => ∃ A c B bc, e = .returned (.tuple #[.agg #[.slice A 2 c, .slice B 1 bc], .int .i64 0]) ∧ Below w.heap.size w w' := fread_ok w hr
theorem barHigh : lhV (highF barZ 0 2) (highF barZ 2 2) = .agg #[.int .i64 1, .int .i64 2, .int .i64 1, .int .i64 1] := by
  have h1 : highF barZ 0 2 = (1, 2) := by decide +kernel
  have h2 : highF barZ 2 2 = (1, 1) := by decide +kernel
  rw [h1, h2]; rfl
theorem barLow : lhV (lowF barZ 0 2) (lowF barZ 2 2) = .agg #[.int .i64 0, .int .i64 1, .int .i64 0, .int .i64 1] := by
  have h1 : lowF barZ 0 2 = (0, 1) := by decide +kernel
  have h2 : lowF barZ 2 2 = (0, 1) := by decide +kernel
  rw [h1, h2]; rfl

set_option maxRecDepth 100000 in
set_option maxHeartbeats 8000000 in
theorem figureWorks_ok (w : World) (hr : Rd w) : Calls Tryd.prog 6 #[] w fun e w' => e = .returned (.bool true) ∧ Below w.heap.size w w' := by
  have HR := Lib.hid hr
  clear hr
  go_enter Tryd.func6, Tryd.ntmps6
  go_wp2_with fail
  refine Calls.mono (bar_ok _) ?_
  rintro er w1 ⟨A1, B1, rfl, hF1, hb1⟩
  have HF1 := Lib.hid hF1; have Hb1 := Lib.hid hb1
  clear hF1 hb1
  go_wp2_with fail
  refine Calls.mono (text_ok A1 2 2 barZ B1 1 1 _ (HR.out.t.below Hb1.out) HF1.out) ?_
  rintro er w2 ⟨rfl, hb⟩
  have Hb2 := Lib.hid (Hb1.out.trans (hb.mono Hb1.out.size))
  clear hb Hb1 HF1
  rw [barText]
  go_wp2_with fail
  refine Calls.mono (fread_lit _ (HR.out.below Hb2.out)) ?_
  rintro er w3 ⟨A3, c3, B3, d3, rfl, hb⟩
  have Hb3 := Lib.hid (Hb2.out.trans (hb.mono Hb2.out.size))
  clear hb Hb2
  go_upto_region 3 with fail
  have bf := (Below.refl w3.heap.size w3).alloc (Nat.le_refl _) (.cells #[.slice A3 2 c3, .slice B3 1 d3] 27)
  have HG := Lib.hid (FgBox.new w3 (.slice A3 2 c3) (.slice B3 1 d3))
  have Hb4 := Lib.hid (Hb3.out.trans (bf.mono Hb3.out.size))
  obtain ⟨kf, hkf⟩ : ∃ b, b = w3.heap.size := ⟨_, rfl⟩
  obtain ⟨V, hV⟩ : ∃ V, V = w3.alloc (.cells #[.slice A3 2 c3, .slice B3 1 d3] 27) := ⟨_, rfl⟩
  rw [← hV, ← hkf] at HG ⊢
  rw [← hV] at Hb4
  clear bf hkf hV Hb3
  go_wp2_with fail
  refine Calls.mono (bar_ok _) ?_
  rintro er w5 ⟨A5, B5, rfl, hF5, hb⟩
  have HF5 := Lib.hid hF5; have HG5 := Lib.hid (HG.out.below hb); have Hb5 := Lib.hid (Hb4.out.trans (hb.mono Hb4.out.size))
  clear hF5 hb HG Hb4
  go_wp2_with fail
  refine Calls.mono (fbox_ok A5 2 2 barZ B5 1 1 _ HF5.out (by omega)) ?_
  rintro er w6 ⟨rfl, hb⟩
  have HG6 := Lib.hid (HG5.out.below hb); have Hb6 := Lib.hid (Hb5.out.trans (hb.mono Hb5.out.size))
  clear hb HF5 HG5 Hb5
  rw [barLow, barHigh]
  go_upto_region 4 with fail
  have P5 := (PtBox.new w6 0 1 0 1).alloc (.cells #[.int .i64 1, .int .i64 2, .int .i64 1, .int .i64 1] 40)
  have P6 := PtBox.new (w6.alloc (.cells #[.int .i64 0, .int .i64 1, .int .i64 0, .int .i64 1] 40)) 1 2 1 1
  simp only [World.size_alloc] at P6
  have bf := ((Below.refl w6.heap.size w6).alloc (Nat.le_refl _) (.cells #[.int .i64 0, .int .i64 1, .int .i64 0, .int .i64 1] 40)).alloc (by simp) (.cells #[.int .i64 1, .int .i64 2, .int .i64 1, .int .i64 1] 40)
  have G7 := HG6.out.below bf
  have b7 := Hb6.out.trans (bf.mono Hb6.out.size)
  obtain ⟨k6, hk6⟩ : ∃ b, b = w6.heap.size := ⟨_, rfl⟩
  obtain ⟨U, hU⟩ : ∃ U, U = (w6.alloc (.cells #[.int .i64 0, .int .i64 1, .int .i64 0, .int .i64 1] 40)).alloc (.cells #[.int .i64 1, .int .i64 2, .int .i64 1, .int .i64 1] 40) := ⟨_, rfl⟩
  rw [← hU] at P6 G7 b7 ⊢
  rw [← hk6] at P6 ⊢
  have HB7 := Lib.hid b7
  clear b7 bf P5 hU hk6 HG6 Hb6
  have x0 := G7.c0; have x1 := G7.c1; have xl := G7.lt
  have y0 := P6.c0; have y1 := P6.c1; have yl := P6.lt
  clear G7 P6
  go_wp2_with fail
  go_ret
  exact ⟨rfl, HB7.out⟩
end Go.Proofs.YtbehickhaidliaaDoor
