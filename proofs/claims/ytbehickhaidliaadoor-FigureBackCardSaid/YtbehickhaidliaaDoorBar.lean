/- bar: the figure of the example. -/
import Derived.Test.YtbehickhaidliaaDoorFigKit
import Derived.Deep.DeepCutAuto
namespace Go.Proofs.YtbehickhaidliaaDoor
open Go.RowKit
set_option linter.unusedSimpArgs false
set_option linter.unusedVariables false

def barZ : List Int := [0, 1, 0, 1, 1, 2, 1, 1]
set_option maxRecDepth 100000 in
set_option maxHeartbeats 8000000 in
theorem bar_ok (w : World) : Calls Tryd.prog 18 #[] w fun e w' => ∃ A B, e = .returned (.agg #[.slice A 2 2, .slice B 1 1]) ∧ FigW w' A 2 2 barZ B 1 1 ∧ Below w.heap.size w w' := by
  have b0 := (Below.refl w.heap.size w).alloc (Nat.le_refl _) (.cells #[.slice none 0 0, .slice none 0 0] 27)
  have P0 := FgBox.new w (.slice none 0 0) (.slice none 0 0)
  have HB := Lib.hid b0; have HP := Lib.hid P0
  obtain ⟨k, hk⟩ : ∃ k, k = w.heap.size := ⟨_, rfl⟩
  have HK := Lib.hid hk
  clear b0 P0
  go_enter Tryd.func18, Tryd.ntmps18
  go_upto_region 1 with fail
  obtain ⟨V, hV⟩ : ∃ V, V = w.alloc (.cells #[.slice none 0 0, .slice none 0 0] 27) := ⟨_, rfl⟩
  rw [← hV] at HB HP ⊢
  rw [← hk] at HP ⊢
  clear hV hk
  obtain ⟨o1, ho1⟩ : ∃ o, o = Obj.cells #[.int .i64 0, .int .i64 1, .int .i64 0, .int .i64 1, .int .i64 1, .int .i64 2, .int .i64 1, .int .i64 1] 40 := ⟨_, rfl⟩
  have bW : Below V.heap.size V (((V.alloc (.cells #[.int .i64 0, .int .i64 1, .int .i64 0, .int .i64 1, .int .i64 1, .int .i64 2, .int .i64 1, .int .i64 1] 40)).alloc (.cells #[.int .i64 0, .int .i64 1] 3)).alloc (.cells #[.slice (some ⟨V.heap.size + 1, 0, none⟩) 2 2] 22)) := (((Below.refl V.heap.size V).alloc (Nat.le_refl _) _).alloc (by simp) _).alloc (by simp; omega) _
  have HP3 := HP.out.below bW
  have c0 := HP3.c0; have c1 := HP3.c1; have f0 := HP3.free 0; have f1 := HP3.free 1; have fl := HP3.lt
  obtain ⟨q, hq⟩ : ∃ q, q = V.heap.size := ⟨_, rfl⟩
  have b1 := HB.out.trans (bW.mono HB.out.size)
  clear bW
  rw [← hq] at HP3 b1 c0 c1 f0 f1 fl
  obtain ⟨W3, hW3⟩ : ∃ W, W = (((V.alloc (.cells #[.int .i64 0, .int .i64 1, .int .i64 0, .int .i64 1, .int .i64 1, .int .i64 2, .int .i64 1, .int .i64 1] 40)).alloc (.cells #[.int .i64 0, .int .i64 1] 3)).alloc (.cells #[.slice (some ⟨q + 1, 0, none⟩) 2 2] 22)) := ⟨_, rfl⟩
  have hfl : FlatSl W3 4 (some ⟨q, 0, none⟩) 2 2 barZ := ⟨by omega, by unfold maxLen; omega, rfl, fun _ => ⟨q, 0, rfl, fun j hj => by
    rw [hW3, hq]
    match j, hj with
    | 0, _ => simp [go_sem, barZ, ix]
    | 1, _ => simp [go_sem, barZ, ix]
    | 2, _ => simp [go_sem, barZ, ix]
    | 3, _ => simp [go_sem, barZ, ix]
    | 4, _ => simp [go_sem, barZ, ix]
    | 5, _ => simp [go_sem, barZ, ix]
    | 6, _ => simp [go_sem, barZ, ix]
    | 7, _ => simp [go_sem, barZ, ix]
    | (m + 8), h => omega⟩⟩
  have hF : FigW W3 (some ⟨q, 0, none⟩) 2 2 barZ (some ⟨q + 1 + 1, 0, none⟩) 1 1 := ⟨hfl, by omega, fun i hi => by
    match i, hi with
    | 0, _ => exact frOk_one (by decide) (by decide)
    | 1, _ => exact ⟨by decide, by decide, by decide, by decide, by decide⟩, fun i hi => by
    match i, hi with
    | 0, _ => exact frOk_one (by decide) (by decide)
    | 1, _ => exact frOk_one (by decide) (by decide), by omega, by omega, by omega, fun _ => ⟨q + 1 + 1, q + 1, 2, rfl, by rw [hW3, hq]; simp [go_sem], by omega, by rw [hW3, hq]; simp [go_sem], by rw [hW3, hq]; simp [go_sem]⟩⟩
  rw [← hW3] at HP3 b1 c0 c1 f0 f1 fl
  have HPW := Lib.hid HP3
  have wk := HK.out
  have HG := Lib.hid (fun x y => figW_set hF HP3 x y)
  have Hb := Lib.hid (fun x y => (b1.setCell (p := ⟨k, 0, none⟩) (show w.heap.size ≤ k by omega) x).setCell (p := ⟨k, 1, none⟩) (show w.heap.size ≤ k by omega) y)
  rw [hW3, hq] at c0 c1 f0 f1 fl
  have HW3 := Lib.hid hW3; have HQ := Lib.hid hq
  clear hfl hF HP3 b1 wk hW3 hq HP
  go_wp2_with fail
  rw [← HQ.out, ← HW3.out]
  clear c0 c1 f0 f1 fl
  have c0 := HPW.out.c0; have c1 := HPW.out.c1; have f0 := HPW.out.free 0; have f1 := HPW.out.free 1; have fl := HPW.out.lt
  refine bodyPost_ret (v := .agg #[.slice (some ⟨q, 0, none⟩) 2 2, .slice (some ⟨q + 1 + 1, 0, none⟩) 1 1]) ?_ rfl ⟨_, _, rfl, HG.out _ _, Hb.out _ _⟩
  simp [results, Tryd.results18, go_sem, *]
end Go.Proofs.YtbehickhaidliaaDoor
