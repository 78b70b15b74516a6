/- tide.High, tideWorks. -/
import Derived.Test.YtdeoahgcppbmkaaDoorFind
namespace Go.Proofs.YtdeoahgcppbmkaaDoor
open Go.RowKit
set_option linter.unusedSimpArgs false
set_option linter.unusedVariables false

theorem twHeight : hLo [1000, 0, 2000000000000000] 1 0 = 999 ∧ hHi [1000, 0, 2000000000000000] 1 0 = 1001 := by decide +kernel
theorem twOuts : outs 32400000 (upAt [1000, 0, 2000000000000000] 1 32400000) (7 - 2) = [39600000, 46800000] := by decide +kernel
set_option maxRecDepth 100000 in
set_option maxHeartbeats 4000000 in
theorem High_ok (f g : Int) (N : Nat) (A : Option Addr) (n cap : Nat) (zs : List Int) (w : World) (ht : SinT w) (hF : FlatSl w 3 A n cap zs) (hn : n ≤ 12) (hz : ∀ i, i < n → TdOk zs i) (h1 : instOk f = true) (h2 : instOk g = true) (hfg : f ≤ g) (hg : g - f ≤ 1728000000) (hN : N = ((g - f) / 3600000).toNat + 1) :
    Calls Tryd.prog 32 #[.slice A n cap, .int .i64 f, .int .i64 g] w (FindPost zs n f N w) := by
  have H := Lib.hid (find_ok f g N A n cap zs w ht hF hn hz h1 h2 hfg hg hN)
  clear ht hF hn hz h1 h2 hfg hg hN
  go_enter Tryd.func32, Tryd.ntmps32
  go_wp2_with fail
  refine Calls.mono H.out ?_
  rintro e w1 ⟨v, m, rfl, ho, hb⟩
  have HO := Lib.hid ho; have HB := Lib.hid hb
  clear ho hb
  go_wp2_with fail
  go_ret2
  exact ⟨_, m, rfl, HO.out, HB.out⟩
theorem flat_new3 (w : World) (a b c : Int) : FlatSl (w.alloc (.cells #[.int .i64 a, .int .i64 b, .int .i64 c] 82)) 3 (some ⟨w.heap.size, 0, none⟩) 1 1 [a, b, c] := by
  refine ⟨by omega, by unfold maxLen; omega, rfl, fun _ => ⟨w.heap.size, 0, rfl, fun j hj => ?_⟩⟩
  rcases (by omega : j = 0 ∨ j = 1 ∨ j = 2) with rfl | rfl | rfl <;> (simp [go_sem]; rfl)
set_option maxRecDepth 100000 in
set_option maxHeartbeats 8000000 in
theorem tideWorks_ok (w : World) (ht : SinT w) : Calls Tryd.prog 28 #[] w fun e w' => e = .returned (.bool true) ∧ Below w.heap.size w w' := by
  have hT : ∀ i, i < 1 → TdOk [1000, 0, 2000000000000000] i := fun i hi => by
    obtain rfl : i = 0 := by omega
    exact ⟨by decide, by decide, by decide, by decide, by decide, by decide⟩
  have V : ∀ W A, SinT W → FlatSl W 3 A 1 1 [1000, 0, 2000000000000000] → Calls Tryd.prog 34 #[.slice A 1 1, .int .i64 0] W fun e w' => e = .returned (.tuple #[.agg #[.int .i64 999, .int .i64 1001], .int .i64 0]) ∧ Below W.heap.size W w' := fun W A h1 h2 => by
    have h := THeight_ok 0 A 1 1 _ W h1 h2 (by omega) hT (by decide)
    rw [twHeight.1, twHeight.2] at h
    exact h
  have HV := Lib.hid V
  have HH := Lib.hid (fun W A h1 h2 => High_ok 32400000 54000000 7 A 1 1 [1000, 0, 2000000000000000] W h1 h2 (by omega) hT (by decide) (by decide) (by omega) (by omega) (by decide))
  have HT := Lib.hid ht
  have HF0 := Lib.hid (flat_new3 w 1000 0 2000000000000000)
  have HW0 := Lib.hid ((Below.refl w.heap.size w).alloc (Nat.le_refl _) (.cells #[.int .i64 1000, .int .i64 0, .int .i64 2000000000000000] 82))
  have H1 := Lib.hid (fun w => has_true 999 1001 1000 2 w (by omega) (by omega) (by omega) (by omega))
  have H2 := Lib.hid (fun w => has_true 39600000 46800000 43200000 7200000 w (by omega) (by omega) (by omega) (by omega))
  clear V hT ht
  go_enter Tryd.func28, Tryd.ntmps28
  go_wp2_with fail
  refine Calls.mono (HV.out _ _ (HT.out.below HW0.out) HF0.out) ?_
  rintro e w1 ⟨rfl, hb⟩
  have hb1 := HW0.out.trans (hb.mono HW0.out.size)
  have F1 := flat_below HF0.out hb
  have al := (Below.refl w1.heap.size w1).alloc (Nat.le_refl _) (.cells #[.int .i64 999, .int .i64 1001] 24)
  have HB1 := Lib.hid (hb1.trans (al.mono hb1.size))
  have HF1 := Lib.hid (flat_below F1 al)
  have S1 := Lib.hid (SpBox.new w1 999 1001)
  obtain ⟨k1, hk1⟩ : ∃ x, x = w1.heap.size := ⟨_, rfl⟩
  rw [← hk1] at S1
  clear hb hb1 F1 al
  go_upto_region 3 with fail
  rw [← hk1]
  obtain ⟨X, hX⟩ : ∃ X, X = w1.alloc (.cells #[.int .i64 999, .int .i64 1001] 24) := ⟨_, rfl⟩
  rw [← hX] at HB1 HF1 S1 ⊢
  clear hX hk1
  have HTX := Lib.hid (HT.out.below HB1.out)
  go_wp2_with fail
  refine Calls.mono (HH.out _ _ HTX.out HF1.out) ?_
  rintro e w2 ⟨v, m, rfl, ho, hb⟩
  have hm := ho.1
  rw [twOuts] at ho hm
  have hm1 : m = 1 := by simp at hm; omega
  subst hm1
  obtain ⟨A2, c2, rfl, fl⟩ := own_flat ho
  obtain ⟨q, o, hA, hc⟩ := fl.at' (by omega)
  have cc := fl.le
  subst hA
  have x0 := hc 0 (by omega)
  have x1 := hc 1 (by omega)
  have e0 : ix [39600000, 46800000] 0 = 39600000 := rfl
  have e1 : ix [39600000, 46800000] 1 = 46800000 := rfl
  rw [e0, Nat.add_zero] at x0
  rw [e1] at x1
  have HB2 := Lib.hid (HB1.out.trans (hb.mono HB1.out.size))
  have S2 := S1.out.below hb
  have p0 := S2.c0; have p1 := S2.c1; have pl := S2.lt
  have i2 : (0 : Int) < (c2 : Int) := by omega
  have HX0 := Lib.hid x0; have HX1 := Lib.hid x1
  clear hb ho hm fl hc S2 e0 e1 x0 x1 cc
  go_wp2_with fail
  refine Calls.mono (H1.out _) ?_
  rintro e w3 ⟨rfl, hb⟩
  have HB3 := Lib.hid (HB2.out.trans (hb.mono HB2.out.size))
  have y0 := (hb.cell (cell_below HX0.out)).trans HX0.out
  have y1 := (hb.cell (cell_below HX1.out)).trans HX1.out
  clear hb p0 p1 pl
  go_wp2_with fail
  refine Calls.mono (H2.out _) ?_
  rintro e w4 ⟨rfl, hb⟩
  have HB4 := Lib.hid (HB3.out.trans (hb.mono HB3.out.size))
  clear hb y0 y1
  go_wp2_with fail
  go_ret
  exact ⟨rfl, HB4.out⟩
end Go.Proofs.YtdeoahgcppbmkaaDoor
