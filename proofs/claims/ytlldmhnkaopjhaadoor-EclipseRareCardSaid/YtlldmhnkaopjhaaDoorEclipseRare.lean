/- EclipseRare: no two lunations in a row have total eclipses of the sun. -/
import Derived.Test.YtlldmhnkaopjhaaDoorEcN
import Derived.Test.YtlldmhnkaopjhaaDoorEcR
namespace Go.Proofs.YtlldmhnkaopjhaaDoor
open Go.RowKit
set_option linter.unusedSimpArgs false
set_option linter.unusedVariables false
set_option maxRecDepth 100000 in
set_option maxHeartbeats 16000000 in
theorem eclipseRare_walk (a0 : Int) (w : World) (hT : SinT w) : Calls Tryd.prog 6 #[.int .i64 a0] w fun e w' => e = .returned (.bool true) ∧ Below w.heap.size w w' := by
  have HW := Lib.hid (eclipseWorks_ok w hT)
  have HT := Lib.hid hT
  obtain ⟨k, hk⟩ : ∃ k, k = a0.tmod 90000 := ⟨_, rfl⟩
  obtain ⟨kb1, kb2⟩ := rem_bd a0
  rw [← hk] at kb1 kb2
  have ek2 : a0.tmod 90000 = k := hk.symm
  obtain ⟨j, hj⟩ : ∃ j, j = k + 1 := ⟨_, rfl⟩
  have ej : wrap64 (k + 1) = j := by rw [hj]; exact IntWalk.wrap64_in _ (by omega)
  have R := ec_rare (k := k) (by omega) (by omega)
  rw [← hj] at R
  have F1 := Lib.hid (fun W (hT : SinT W) => eFind_ok k 0 (by omega) (.inl rfl) W hT)
  have F2 := Lib.hid (fun W (hT : SinT W) => eFind_ok j 0 (by omega) (.inl rfl) W hT)
  clear hk hj hT
  have E1 : (ecF k 0).e = 0 ∨ (ecF k 0).e = 11 := ecW_e _ _ _ _ _ _
  have E2 : (ecF j 0).e = 0 ∨ (ecF j 0).e = 11 := ecW_e _ _ _ _ _ _
  generalize (ecF k 0).k = x0 at *
  generalize (ecF k 0).a = x1 at *
  generalize (ecF k 0).b = x2 at *
  generalize (ecF k 0).l = x3 at *
  generalize (ecF k 0).h = x4 at *
  generalize (ecF k 0).p = x5 at *
  generalize (ecF k 0).q = x6 at *
  generalize (ecF k 0).e = x7 at *
  generalize (ecF j 0).k = y0 at *
  generalize (ecF j 0).a = y1 at *
  generalize (ecF j 0).b = y2 at *
  generalize (ecF j 0).l = y3 at *
  generalize (ecF j 0).h = y4 at *
  generalize (ecF j 0).p = y5 at *
  generalize (ecF j 0).q = y6 at *
  generalize (ecF j 0).e = y7 at *
  have S := Lib.hid R
  have HE1 := Lib.hid E1
  have HE2 := Lib.hid E2
  clear R kb1 kb2 E1 E2
  go_enter Tryd.func6, Tryd.ntmps6
  have HB := Lib.hid (Below.refl w.heap.size w)
  go_wp2_with fail
  refine Calls.mono (HW.out) ?_
  rintro e wc1 ⟨rfl, hb⟩
  replace HB := Lib.hid (HB.out.trans (hb.mono HB.out.size))
  clear hb
  go_wp2_with fail
  refine Calls.mono (F1.out _ (HT.out.below HB.out)) ?_
  rintro e wn1 ⟨rfl, hb⟩
  have HB1 := HB.out.trans (hb.mono HB.out.size)
  clear hb
  have Hkl1 := Lib.hid HB1.size; replace HB := Lib.hid (HB1.alloc HB1.size (.cells #[.int .i64 x0, .int .i64 x1, .int .i64 x2, .int .i64 x3, .int .i64 x4, .int .i64 x5, .int .i64 x6] 36)); clear HB1
  have s1 := Lib.hid (EcBox.new wn1 (.int .i64 x0) (.int .i64 x1) (.int .i64 x2) (.int .i64 x3) (.int .i64 x4) (.int .i64 x5) (.int .i64 x6))
  obtain ⟨k1, hk1⟩ : ∃ x, x = wn1.heap.size := ⟨_, rfl⟩
  rw [← hk1] at s1 Hkl1
  go_upto_region 5 with fail
  rw [← hk1]
  obtain ⟨X1, hX1⟩ : ∃ X, X = wn1.alloc (.cells #[.int .i64 x0, .int .i64 x1, .int .i64 x2, .int .i64 x3, .int .i64 x4, .int .i64 x5, .int .i64 x6] 36) := ⟨_, rfl⟩
  rw [← hX1] at s1 HB ⊢
  clear hk1 hX1
  go_wp2_with fail
  refine Calls.mono (F2.out _ (HT.out.below HB.out)) ?_
  rintro e wn2 ⟨rfl, hb⟩
  replace s1 := Lib.hid ((s1.out.below hb).alloc (.cells #[.int .i64 y0, .int .i64 y1, .int .i64 y2, .int .i64 y3, .int .i64 y4, .int .i64 y5, .int .i64 y6] 36))
  have HB2 := HB.out.trans (hb.mono HB.out.size)
  clear hb
  have Hkl2 := Lib.hid HB2.size; replace HB := Lib.hid (HB2.alloc HB2.size (.cells #[.int .i64 y0, .int .i64 y1, .int .i64 y2, .int .i64 y3, .int .i64 y4, .int .i64 y5, .int .i64 y6] 36)); clear HB2
  have s2 := Lib.hid (EcBox.new wn2 (.int .i64 y0) (.int .i64 y1) (.int .i64 y2) (.int .i64 y3) (.int .i64 y4) (.int .i64 y5) (.int .i64 y6))
  obtain ⟨k2, hk2⟩ : ∃ x, x = wn2.heap.size := ⟨_, rfl⟩
  rw [← hk2] at s2 Hkl2
  go_upto_region 6 with fail
  rw [← hk2]
  obtain ⟨X2, hX2⟩ : ∃ X, X = wn2.alloc (.cells #[.int .i64 y0, .int .i64 y1, .int .i64 y2, .int .i64 y3, .int .i64 y4, .int .i64 y5, .int .i64 y6] 36) := ⟨_, rfl⟩
  rw [← hX2] at s1 s2 HB ⊢
  clear hk2 hX2
  have c0 := s1.out.c0; have d0 := s2.out.c0
  have hs := S.out
  have e1 := HE1.out
  have e2 := HE2.out
  clear S HE1 HE2
  rcases hs with hs | hs
  · rcases e1 with rfl | rfl <;> rcases e2 with rfl | rfl
    all_goals (go_wp2_with fail; go_ret; exact ⟨rfl, HB.out⟩)
  · have hb : (y0 != 2) = true := by simp [hs]
    by_cases h : x0 = 2
    · rcases e1 with rfl | rfl <;> rcases e2 with rfl | rfl
      all_goals (go_wp2_with fail; go_ret; exact ⟨rfl, HB.out⟩)
    · rcases e1 with rfl | rfl <;> rcases e2 with rfl | rfl
      all_goals (go_wp2_with fail; go_ret; exact ⟨rfl, HB.out⟩)
end Go.Proofs.YtlldmhnkaopjhaaDoor
