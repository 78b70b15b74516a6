/- StarStays: the declination of a star does not change, and its right ascension grows evenly. -/
import Derived.Test.YtloaliddcaobeaaDoorStar
import Derived.Test.YtloaliddcaobeaaDoorSkyLaw
namespace Go.Proofs.YtloaliddcaobeaaDoor
open Go.RowKit
set_option linter.unusedSimpArgs false
set_option linter.unusedVariables false

set_option maxRecDepth 100000 in
set_option maxHeartbeats 4000000 in
theorem starWorks_ok (w : World) (ht : StarT w) : Calls Tryd.prog 25 #[] w fun e w' => e = .returned (.bool true) ∧ Below w.heap.size w w' := by
  have A : ∀ W, StarT W → Calls Tryd.prog 27 #[.string ⟨#[118, 101, 103, 97]⟩, .int .i64 0] W fun e w' =>
      e = .returned (.tuple #[.agg #[.int .i64 775649900, .int .i64 775650100], .agg #[.int .i64 107732400, .int .i64 107732600], .int .i64 0]) ∧ Below W.heap.size W w' := fun W hW => by
    have h := starAt_ok 7 (by omega) 0 W hW (by decide)
    have e1 : stN 7 = ⟨#[118, 101, 103, 97]⟩ := rfl
    have e2 : a0Lo (stRa 7) 97300000 100 0 = 775649900 := by decide
    have e3 : a0Hi (stRa 7) 97300000 100 0 = 775650100 := by decide
    have e4 : stDec 7 = 107732500 := rfl
    rw [e1, e2, e3, e4] at h
    exact h
  have HA := Lib.hid A
  have H1 := Lib.hid (fun w => has_true 775649900 775650100 775650000 201 w (by omega) (by omega) (by omega) (by omega))
  have H2 := Lib.hid (fun w => has_true 107732400 107732600 107732500 201 w (by omega) (by omega) (by omega) (by omega))
  have HN := Lib.hid (fun W hW => names_ok W hW)
  have HT := Lib.hid ht
  clear A ht
  go_enter Tryd.func25, Tryd.ntmps25
  go_wp2_with fail
  refine Calls.mono (HA.out _ HT.out) ?_
  rintro e w1 ⟨rfl, hb⟩
  obtain ⟨hb1, hz1, hc1, hf1⟩ := took (w := w) (by repeat' (first | (with_reducible refine below_drewN ?_ _) | go_grown)) (by first | (simp only [World.size_alloc, World.size_setCell, World.size_drew, size_drewN]; done) | (simp only [World.size_alloc, World.size_setCell, World.size_drew, size_drewN]; rfl) | rfl) hb; clear hb
  have T1 := Lib.hid (HT.out.below hb1)
  go_wp2_with fail
  refine Calls.mono (H1.out _) ?_
  rintro e w2 ⟨rfl, hb⟩
  obtain ⟨hb2, hz2, hc2, hf2⟩ := took (w := w) (by repeat' (first | (with_reducible refine below_drewN ?_ _) | go_grown)) (by first | (simp only [World.size_alloc, World.size_setCell, World.size_drew, size_drewN]; done) | (simp only [World.size_alloc, World.size_setCell, World.size_drew, size_drewN]; rfl) | rfl) hb; clear hb
  have z2 : w1.heap.size < w2.heap.size := by omega
  have z2b : w1.heap.size + 1 < w2.heap.size := by omega
  go_wp2_with fail
  refine Calls.mono (H2.out _) ?_
  rintro e w3 ⟨rfl, hb⟩
  obtain ⟨hb3, hz3, hc3, hf3⟩ := took (w := w) (by repeat' (first | (with_reducible refine below_drewN ?_ _) | go_grown)) (by first | (simp only [World.size_alloc, World.size_setCell, World.size_drew, size_drewN]; done) | (simp only [World.size_alloc, World.size_setCell, World.size_drew, size_drewN]; rfl) | rfl) hb; clear hb
  go_wp2_with fail
  have T3 := HT.out.below hb3
  refine Calls.mono (HN.out _ T3) ?_
  rintro e w4 ⟨v, rfl, hnm, hb⟩
  obtain ⟨g, cap, rfl, -⟩ := hnm.form
  clear hnm
  obtain ⟨hb4, hz4, hc4, hf4⟩ := took (w := w) (by repeat' (first | (with_reducible refine below_drewN ?_ _) | go_grown)) (by first | (simp only [World.size_alloc, World.size_setCell, World.size_drew, size_drewN]; done) | (simp only [World.size_alloc, World.size_setCell, World.size_drew, size_drewN]; rfl) | rfl) hb; clear hb
  go_wp2_with fail
  go_ret
  exact ⟨rfl, hb4⟩
theorem div_day (d : Int) (h0 : 0 ≤ d) (h1 : d < 1000) : (d * 10000 * 86400000).tdiv 1000 = d * 864000000 := by
  rw [Int.tdiv_eq_ediv_of_nonneg (by omega)]; omega
theorem a0_moves (ra t d : Int) : (a0Lo ra 97300000 100 (t + d * 864000000) - (a0Lo ra 97300000 100 t + 973 * d - 1)) % 1000000000 = 1 := by
  unfold a0Lo
  have e : 97300000 * (t + d * 864000000) / 86400000000000 = 97300000 * t / 86400000000000 + 973 * d := by omega
  rw [e]
  omega
theorem a0_bd (ra t : Int) : 0 ≤ a0Lo ra 97300000 100 t ∧ a0Lo ra 97300000 100 t < 1000000000 ∧ a0Lo ra 97300000 100 t + 200 ≤ a0Hi ra 97300000 100 t ∧ a0Hi ra 97300000 100 t ≤ a0Lo ra 97300000 100 t + 201 := by
  unfold a0Hi
  have : 0 ≤ a0Lo ra 97300000 100 t ∧ a0Lo ra 97300000 100 t < 1000000000 := by unfold a0Lo; omega
  split <;> omega
set_option maxRecDepth 100000 in
set_option maxHeartbeats 8000000 in
theorem starStays_walk (k0 t0 d0 : Int) (w : World) (ht : StarT w) : Calls Tryd.prog 7 #[.int .i64 k0, .int .i64 t0, .int .i64 d0] w fun e w' => e = .returned (.bool true) ∧ Below w.heap.size w w' := by
  have HW := Lib.hid (starWorks_ok w ht)
  have HT := Lib.hid ht
  obtain ⟨i, hi, hi8⟩ : ∃ i : Nat, (k0 % 8 : Int) = (i : Int) ∧ i < 8 := ⟨(k0 % 8).toNat, by omega, by omega⟩
  have HK := Lib.hid (fun w => hi ▸ at_any k0 8 w (by omega) (by omega))
  obtain ⟨t, hte⟩ : ∃ t, t = t0 % 604800000000000 - 302400000000000 := ⟨_, rfl⟩
  have HI := Lib.hid (fun w => hte ▸ instant_ok t0 w)
  obtain ⟨d, hd⟩ : ∃ d, d = d0 % 1000 := ⟨_, rfl⟩
  have HD := Lib.hid (fun w => hd ▸ at_any d0 1000 w (by omega) (by omega))
  have t1 : -302400000000000 ≤ t := by omega
  have t2 : t < 302400000000000 := by omega
  have d1 : 0 ≤ d := by omega
  have d2 : d < 1000 := by omega
  have A1 := Lib.hid (fun W hW => starAt_ok i hi8 t W hW (by unfold instOk dayOk; exact decide_eq_true (by omega)))
  have A2 := Lib.hid (fun W hW => starAt_ok i hi8 (t + d * 864000000) W hW (by unfold instOk dayOk; exact decide_eq_true (by omega)))
  have mv := a0_moves (stRa i) t d
  obtain ⟨b1, b2, b3, b4⟩ := a0_bd (stRa i) t
  obtain ⟨c1, c2, c3, c4⟩ := a0_bd (stRa i) (t + d * 864000000)
  obtain ⟨-, -, dc1, dc2⟩ := st_bd i hi8
  generalize a0Lo (stRa i) 97300000 100 t = al at *
  generalize a0Hi (stRa i) 97300000 100 t = ah at *
  generalize a0Lo (stRa i) 97300000 100 (t + d * 864000000) = bl at *
  generalize a0Hi (stRa i) 97300000 100 (t + d * 864000000) = bh at *
  generalize stDec i = dc at *
  have HS := Lib.hid (fun w => same_true (al + 973 * d - 1) (ah + 973 * d + 1) bl bh w (by omega) (by omega) (by omega) (by omega))
  have dd := div_day d d1 d2
  have q1 : wrap64 (d * 10000) = d * 10000 := IntWalk.wrap64_in _ (by omega)
  have HN := Lib.hid (fun W hW => names_ok W hW)
  have i0 : (0 : Int) ≤ (i : Int) := by omega
  have i8 : (i : Int) < 8 := by omega
  have Hi8 := Lib.hid hi8
  clear hi hte hd ht mv hi8
  go_enter Tryd.func7, Tryd.ntmps7
  go_wp2_with fail
  refine Calls.mono HW.out ?_
  rintro e w1 ⟨rfl, hb⟩
  have Hb1 := Lib.hid hb
  have T1 := HT.out.below hb
  clear hb
  go_wp2_with fail
  refine Calls.mono (HN.out _ T1) ?_
  rintro e w2 ⟨v, rfl, hnm, hb⟩
  have Hb2 := Lib.hid (Hb1.out.trans (hb.mono Hb1.out.size))
  obtain ⟨g, cap, rfl, hc8, hcm, hcell, hgl⟩ := hnm.form
  have ci := hcell i Hi8.out
  have i9 : (i : Int) < (cap : Int) := by omega
  unfold maxLen at hcm
  clear hnm hb Hb1 hcell
  go_wp2_with fail
  refine Calls.mono (HK.out _) ?_
  rintro e _ ⟨rfl, rfl⟩
  go_wp2_with fail
  refine Calls.mono (HI.out _) ?_
  rintro e _ ⟨rfl, rfl⟩
  go_wp2_with fail
  refine Calls.mono (HD.out _) ?_
  rintro e _ ⟨rfl, rfl⟩
  go_wp2_with fail
  have T2 := HT.out.below Hb2.out
  clear ci hgl hc8 hcm i9
  refine Calls.mono (A1.out _ T2) ?_
  rintro e w3 ⟨rfl, hb⟩
  have Hb3 := Lib.hid (Hb2.out.trans (hb.mono Hb2.out.size))
  clear hb Hb2
  have T3 := Lib.hid (HT.out.below ((Hb3.out.alloc Hb3.out.size (.cells #[.int .i64 al, .int .i64 ah] 25)).alloc (by have := Hb3.out.size; simp; omega) (.cells #[.int .i64 (dc - 100), .int .i64 (dc + 100)] 25)))
  have Hb4 := Lib.hid ((Hb3.out.alloc Hb3.out.size (.cells #[.int .i64 al, .int .i64 ah] 25)).alloc (by have := Hb3.out.size; simp; omega) (.cells #[.int .i64 (dc - 100), .int .i64 (dc + 100)] 25))
  go_wp2_with fail
  refine Calls.mono (A2.out _ T3.out) ?_
  rintro e w4 ⟨rfl, hb⟩
  have Hb5 := Lib.hid (Hb4.out.trans (hb.mono Hb4.out.size))
  obtain ⟨hc4, hf4⟩ := bcell hb
  have hz4 : w3.heap.size + 1 < w4.heap.size := by have := hb.size; simp at this; omega
  have hz4b : w3.heap.size < w4.heap.size := by omega
  clear hb T3
  have Hb6 := Lib.hid ((Hb5.out.alloc Hb5.out.size (.cells #[.int .i64 bl, .int .i64 bh] 25)).alloc (by have := Hb5.out.size; simp; omega) (.cells #[.int .i64 (dc - 100), .int .i64 (dc + 100)] 25))
  go_wp2_with fail
  refine Calls.mono (HS.out _) ?_
  rintro e w5 ⟨rfl, hb⟩
  have Hb7 := Lib.hid (Hb6.out.trans (hb.mono Hb6.out.size))
  clear hb hc4 hf4
  go_wp2_with fail
  go_ret
  exact ⟨rfl, Hb7.out⟩
end Go.Proofs.YtloaliddcaobeaaDoor
