/- DialNoon: at noon the line is in the middle, at 6 and 18 at right angles to it. -/
import Derived.Test.YtdeoahgcppbmkaaDoorDialL
import Derived.Test.YtdeoahgcppbmkaaDoorAt
namespace Go.Proofs.YtdeoahgcppbmkaaDoor
open Go.RowKit
set_option linter.unusedSimpArgs false
set_option linter.unusedVariables false
theorem ixP_lt {xs ys : List Int} {i : Nat} (h : i < xs.length) : ix (xs ++ ys) i = ix xs i := by unfold ix; rw [List.getD_eq_getElem?_getD, List.getD_eq_getElem?_getD, List.getElem?_append_left h]
theorem ixP_at {xs ys : List Int} (j : Nat) : ix (xs ++ ys) (xs.length + j) = ix ys j := by unfold ix; rw [List.getD_eq_getElem?_getD, List.getD_eq_getElem?_getD, List.getElem?_append_right (by omega), show xs.length + j - xs.length = j by omega]
theorem dlN_len (lat : Int) : ∀ k, (dlN lat k).length = k * 2
  | 0 => rfl
  | k + 1 => by unfold dlN; rw [List.length_append, dlN_len lat k]; show k * 2 + 2 = _; omega
theorem dlN_lo (lat : Int) : ∀ k i, i < k → ix (dlN lat k) (i * 2) = dlL lat (6 + (i : Int))
  | 0, i, h => by omega
  | k + 1, i, h => by
    unfold dlN
    have hl := dlN_len lat k
    by_cases e : i < k
    · rw [ixP_lt (by omega)]; exact dlN_lo lat k i e
    · obtain rfl : i = k := by omega
      have := ixP_at (xs := dlN lat i) (ys := [dlL lat (6 + (i : Int)), dlH lat (6 + (i : Int))]) 0
      rw [hl] at this
      exact this
theorem dlN_hi (lat : Int) : ∀ k i, i < k → ix (dlN lat k) (i * 2 + 1) = dlH lat (6 + (i : Int))
  | 0, i, h => by omega
  | k + 1, i, h => by
    unfold dlN
    have hl := dlN_len lat k
    by_cases e : i < k
    · rw [ixP_lt (by omega)]; exact dlN_hi lat k i e
    · obtain rfl : i = k := by omega
      have := ixP_at (xs := dlN lat i) (ys := [dlL lat (6 + (i : Int)), dlH lat (6 + (i : Int))]) 1
      rw [hl] at this
      exact this
theorem dlN_at (lat : Int) : ix (dlN lat 13) 0 = dlL lat 6 ∧ ix (dlN lat 13) 1 = dlH lat 6 ∧ ix (dlN lat 13) 12 = dlL lat 12 ∧ ix (dlN lat 13) 13 = dlH lat 12 ∧ ix (dlN lat 13) 24 = dlL lat 18 ∧ ix (dlN lat 13) 25 = dlH lat 18 :=
  ⟨dlN_lo lat 13 0 (by omega), dlN_hi lat 13 0 (by omega), dlN_lo lat 13 6 (by omega), dlN_hi lat 13 6 (by omega), dlN_lo lat 13 12 (by omega), dlN_hi lat 13 12 (by omega)⟩
set_option maxRecDepth 100000 in
set_option maxHeartbeats 8000000 in
theorem dialNoon_walk (lat : Int) (w : World) (hT : SinT w) : Calls Tryd.prog 8 #[.int .i64 lat] w fun e w' => e = .returned (.bool true) ∧ Below w.heap.size w w' := by
  have HW := Lib.hid (dialWorks_ok w hT)
  have HT := Lib.hid hT
  have K1 := Lib.hid (fun w => at_any lat 210000001 w (by omega) (by omega))
  obtain ⟨x, hx⟩ : ∃ x, x = 10000000 + lat % 210000001 := ⟨_, rfl⟩
  have ex : wrap64 (10000000 + lat % 210000001) = x := by rw [hx]; exact IntWalk.wrap64_in _ (by omega)
  have x1 : 10000000 ≤ x := by omega
  have x2 : x ≤ 220000000 := by omega
  clear hx
  generalize lat % 210000001 = la at *
  obtain ⟨⟨y1, y2⟩, ⟨y3, y4⟩, y5, y6⟩ := dialNoon_law x1 x2
  have L := Lib.hid (fun W (hT : SinT W) => Lines_ok x W hT x1 x2)
  obtain ⟨e0, e1, e2, e3, e4, e5⟩ := dlN_at x
  clear hT x1 x2
  go_enter Tryd.func8, Tryd.ntmps8
  have HB := Lib.hid (Below.refl w.heap.size w)
  go_wp2_with fail
  refine Calls.mono (HW.out) ?_
  rintro e wc1 ⟨rfl, hb⟩
  replace HB := Lib.hid (HB.out.trans (hb.mono HB.out.size))
  clear hb
  go_wp2_with fail
  refine Calls.mono (K1.out _) ?_
  rintro e wq ⟨rfl, hq⟩
  (first | rw [hq] | rw [← hq])
  clear hq
  go_wp2_with fail
  refine Calls.mono (L.out _ (HT.out.below HB.out)) ?_
  rintro e W ⟨v, rfl, hown, hb⟩
  have HB2 := Lib.hid (HB.out.trans (hb.mono HB.out.size))
  obtain ⟨A', cap', hv, hF'⟩ := own_flat hown
  obtain ⟨q, o, hA, hc⟩ := hF'.at' (by omega)
  have hcap := hF'.le
  subst hv
  subst hA
  have c0 := hc 0 (by omega); have c1 := hc 1 (by omega); have c2 := hc 12 (by omega); have c3 := hc 13 (by omega); have c4 := hc 24 (by omega); have c5 := hc 25 (by omega)
  rw [e0] at c0; rw [e1] at c1; rw [e2] at c2; rw [e3] at c3; rw [e4] at c4; rw [e5] at c5
  generalize dlL x 6 = al at *
  generalize dlH x 6 = ah at *
  generalize dlL x 12 = bl at *
  generalize dlH x 12 = bh at *
  generalize dlL x 18 = cl at *
  generalize dlH x 18 = ch at *
  have M1 := Lib.hid (fun w => meets_true al ah (-250000100) (-249999900) w y3 y4)
  have M2 := Lib.hid (fun w => meets_true cl ch 249999900 250000100 w y5 y6)
  have g1 : decide (bl ≤ 0) = true := decide_eq_true y1
  have g2 : decide (0 ≤ bh) = true := decide_eq_true y2
  rw [Nat.add_zero] at c0
  rw [show o + 13 = o + 12 + 1 from rfl] at c3
  rw [show o + 25 = o + 24 + 1 from rfl] at c5
  clear hown hF' hc hb e0 e1 e2 e3 e4 e5 L
  go_wp2_with fail
  refine Calls.mono (M1.out _) ?_
  rintro e W2 ⟨rfl, hb⟩
  have d4 := (hb.cell (p := ⟨q, o + 24, none⟩) (cell_below c4)).trans c4
  have d5 := (hb.cell (p := ⟨q, o + 24 + 1, none⟩) (cell_below c5)).trans c5
  have HB3 := Lib.hid (HB2.out.trans (hb.mono HB2.out.size))
  clear c0 c1 c2 c3 c4 c5 hb
  go_wp2_with fail
  refine Calls.mono (M2.out _) ?_
  rintro e W3 ⟨rfl, hb⟩
  have HB4 := Lib.hid (HB3.out.trans (hb.mono HB3.out.size))
  clear d4 d5 hb
  go_wp2_with fail
  go_ret
  exact ⟨rfl, HB4.out⟩
end Go.Proofs.YtdeoahgcppbmkaaDoor
