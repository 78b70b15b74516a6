/- PlanetNames: each name is that of a planet. -/
import Derived.Test.YtdeoahgcppbmkaaDoorPlanB
namespace Go.Proofs.YtdeoahgcppbmkaaDoor
open Go.RowKit
set_option linter.unusedSimpArgs false
set_option linter.unusedVariables false
theorem pn_x (i : Nat) (hi : i < 5) : ∀ k, k < 5 → ((pnN k).toList == (pnN i ++ ⟨#[120]⟩).toList) = false := fun k hk => by
  rcases (by omega : i = 0 ∨ i = 1 ∨ i = 2 ∨ i = 3 ∨ i = 4) with rfl | rfl | rfl | rfl | rfl <;>
  rcases (by omega : k = 0 ∨ k = 1 ∨ k = 2 ∨ k = 3 ∨ k = 4) with rfl | rfl | rfl | rfl | rfl <;> kernel_rfl
theorem pn_size (i : Nat) (hi : i < 5) : (pnN i).size ≤ 7 := by
  rcases (by omega : i = 0 ∨ i = 1 ∨ i = 2 ∨ i = 3 ∨ i = 4) with rfl | rfl | rfl | rfl | rfl <;> decide
set_option maxRecDepth 100000 in
set_option maxHeartbeats 8000000 in
theorem planetNames_walk (k t : Int) (w : World) (hT : SinT w ∧ PlanT w) : Calls Tryd.prog 12 #[.int .i64 k, .int .i64 t] w fun e w' => e = .returned (.bool true) ∧ Below w.heap.size w w' := by
  obtain ⟨hT, hP⟩ := hT
  have HW := Lib.hid (planetWorks_ok w hT hP)
  have HT := Lib.hid hT; have HP := Lib.hid hP
  have N := Lib.hid (fun W h => pNames_ok W h)
  have I := Lib.hid (fun w => instant_ok t w)
  have K := Lib.hid (fun w => at_any k 5 w (by omega) (by omega))
  have k1 := instant_in t
  generalize t % 604800000000000 - 302400000000000 = x at *
  obtain ⟨i, hi⟩ : ∃ i : Nat, k % 5 = (i : Int) := ⟨(k % 5).toNat, by omega⟩
  have i5 : i < 5 := by omega
  rw [hi] at K
  have R := Lib.hid (fun W (h : PlanT W) => Radius_ok i i5 W h)
  have RB := Lib.hid (fun W (h : PlanT W) => Radius_bad (pnN i ++ ⟨#[120]⟩) (pn_x i i5) W h)
  have L := Lib.hid (fun W (hT : SinT W) (h : PlanT W) => pLong_ok i i5 x W hT h k1 (pg_ok i i5 x))
  have bd := pn_bd i i5
  have sz := pn_size i i5
  have g1 : decide (0 < pnRad i) = true := decide_eq_true (by omega)
  have HI := Lib.hid i5
  have ii1 : (0 : Int) ≤ (i : Int) := by omega
  have ii2 : (i : Int) < 5 := by omega
  generalize pgLo i x = a at *
  generalize pgHi i x = b at *
  generalize pnRad i = r at *
  clear hT hP k1 hi bd i5
  go_enter Tryd.func12, Tryd.ntmps12
  have HB := Lib.hid (Below.refl w.heap.size w)
  go_wp2_with fail
  refine Calls.mono (HW.out) ?_
  rintro e wc1 ⟨rfl, hb⟩
  replace HB := Lib.hid (HB.out.trans (hb.mono HB.out.size))
  clear hb
  go_wp2_with fail
  refine Calls.mono (N.out _ (HP.out.below HB.out)) ?_
  rintro e w2 ⟨v, rfl, hn, hb⟩
  replace HB := Lib.hid (HB.out.trans (hb.mono HB.out.size))
  obtain ⟨g, cap, rfl, hc5, hcm, hcell, hlt⟩ := hn.form
  have c0 := hcell i HI.out
  generalize pnN i = nm at *
  clear hn hb hcell
  unfold maxLen at hcm
  go_wp2_with fail
  refine Calls.mono (K.out _) ?_
  rintro e wq ⟨rfl, hq⟩
  (first | rw [hq] | rw [← hq])
  clear hq
  go_wp2_with fail
  clear c0
  go_wp2_with fail
  refine Calls.mono (R.out _ (HP.out.below HB.out)) ?_
  rintro e wc2 ⟨rfl, hb⟩
  replace HB := Lib.hid (HB.out.trans (hb.mono HB.out.size))
  clear hb
  go_wp2_with fail
  refine Calls.mono (I.out _) ?_
  rintro e wq ⟨rfl, hq⟩
  (first | rw [hq] | rw [← hq])
  clear hq
  go_wp2_with fail
  refine Calls.mono (L.out _ (HT.out.below HB.out) (HP.out.below HB.out)) ?_
  rintro e wn1 ⟨rfl, hb⟩
  have HB1 := HB.out.trans (hb.mono HB.out.size)
  clear hb
  have Hkl1 := Lib.hid HB1.size; replace HB := Lib.hid (HB1.alloc HB1.size (.cells #[.int .i64 (a), .int .i64 (b)] 24))
  clear HB1
  have s1 := Lib.hid (SpBox.new wn1 (a) (b))
  obtain ⟨k1, hk1⟩ : ∃ x, x = wn1.heap.size := ⟨_, rfl⟩
  rw [← hk1] at s1 Hkl1
  go_upto_region 7 with fail
  rw [← hk1]
  obtain ⟨X1, hX1⟩ : ∃ X, X = wn1.alloc (.cells #[.int .i64 (a), .int .i64 (b)] 24) := ⟨_, rfl⟩
  rw [← hX1] at s1 HB ⊢
  clear hk1 hX1
  go_wp2_with fail
  refine Calls.mono (RB.out _ (HP.out.below HB.out)) ?_
  rintro e wc3 ⟨rfl, hb⟩
  replace s1 := Lib.hid (s1.out.below hb)
  replace HB := Lib.hid (HB.out.trans (hb.mono HB.out.size))
  clear hb
  go_wp2_with fail
  go_ret
  exact ⟨rfl, HB.out⟩
end Go.Proofs.YtdeoahgcppbmkaaDoor
