/- EclipseSizes: total eclipses have greater magnitudes than partial ones. -/
import Derived.Test.YtlldmhnkaopjhaaDoorEcN
namespace Go.Proofs.YtlldmhnkaopjhaaDoor
open Go.RowKit
set_option linter.unusedSimpArgs false
set_option linter.unusedVariables false
theorem ec_bd {k : Int} (hk : -100000 ≤ k ∧ k ≤ 100000) : laLo (phF k 0).1 (phF k 0).2 ≤ laHi (phF k 0).1 (phF k 0).2 := by
  have bd := phF_bd (k := k) (q := 0) hk.1 hk.2 (by omega) (by omega)
  obtain ⟨c, C⟩ := ph_in (k := k) (q := 0) (by omega) (by omega) (by omega) (by omega)
  exact (la_bd bd.2.1 C.w).2.1
theorem ec_mag (a b l h : Int) (hlh : l ≤ h) : ((ecW a b l h 2500000 4100000).k = 2 → 391 ≤ (ecW a b l h 2500000 4100000).q) ∧ ((ecW a b l h 2500000 4100000).k = 1 → (ecW a b l h 2500000 4100000).p ≤ 390) := by
  unfold ecW
  have m : ecLeast l h ≤ ecMost l h := by unfold ecLeast ecMost; omega
  by_cases c : 4100000 ≤ ecLeast l h
  · rw [if_pos c]; exact ⟨fun e => absurd (show (0 : Int) = 2 from e) (by omega), fun e => absurd (show (0 : Int) = 1 from e) (by omega)⟩
  · rw [if_neg c]
    by_cases d : ecMost l h < 2500000
    · rw [if_pos d]
      exact ⟨fun _ => by show 391 ≤ -(-((4100000 - ecLeast l h) * 1000) / 4100000); omega, fun e => absurd (show (2 : Int) = 1 from e) (by omega)⟩
    · rw [if_neg d]
      by_cases f : 2500000 ≤ ecLeast l h ∧ ecMost l h < 4100000
      · rw [if_pos f]
        exact ⟨fun e => absurd (show (1 : Int) = 2 from e) (by omega), fun _ => by show (4100000 - ecMost l h) * 1000 / 4100000 ≤ 390; omega⟩
      · rw [if_neg f]; exact ⟨fun e => absurd (show (0 : Int) = 2 from e) (by omega), fun e => absurd (show (0 : Int) = 1 from e) (by omega)⟩
theorem ec_sizes {k : Int} (hk : -100000 ≤ k ∧ k ≤ 100000) : ((ecF k 0).k = 2 → 391 ≤ (ecF k 0).q) ∧ ((ecF k 0).k = 1 → (ecF k 0).p ≤ 390) := by
  have e1 : ecTot 0 = 2500000 := by decide
  have e2 : ecPart 0 = 4100000 := by decide
  have h := ec_mag (phF k 0).1 (phF k 0).2 _ _ (ec_bd hk)
  unfold ecF
  rw [e1, e2]
  exact h
set_option maxRecDepth 100000 in
set_option maxHeartbeats 16000000 in
theorem eclipseSizes_walk (a0 b0 : Int) (w : World) (hT : SinT w) : Calls Tryd.prog 7 #[.int .i64 a0, .int .i64 b0] w fun e w' => e = .returned (.bool true) ∧ Below w.heap.size w w' := by
  have HW := Lib.hid (eclipseWorks_ok w hT)
  have HT := Lib.hid hT
  obtain ⟨k, hk⟩ : ∃ k, k = a0.tmod 90000 := ⟨_, rfl⟩
  obtain ⟨j, hj⟩ : ∃ k, k = b0.tmod 90000 := ⟨_, rfl⟩
  obtain ⟨kb1, kb2⟩ := rem_bd a0
  obtain ⟨jb1, jb2⟩ := rem_bd b0
  rw [← hk] at kb1 kb2
  rw [← hj] at jb1 jb2
  have ek2 : a0.tmod 90000 = k := hk.symm
  have ej2 : b0.tmod 90000 = j := hj.symm
  clear hk hj hT
  have F1 := Lib.hid (fun W (hT : SinT W) => eFind_ok k 0 (by omega) (.inl rfl) W hT)
  have F2 := Lib.hid (fun W (hT : SinT W) => eFind_ok j 0 (by omega) (.inl rfl) W hT)
  have E1 : (ecF k 0).e = 0 ∨ (ecF k 0).e = 11 := ecW_e _ _ _ _ _ _
  have E2 : (ecF j 0).e = 0 ∨ (ecF j 0).e = 11 := ecW_e _ _ _ _ _ _
  obtain ⟨s2, -⟩ := ec_sizes (k := k) (by omega)
  obtain ⟨-, s1⟩ := ec_sizes (k := j) (by omega)
  generalize (ecF k 0).k = x0 at *
  generalize (ecF k 0).a = x1 at *
  generalize (ecF k 0).b = x2 at *
  generalize (ecF k 0).l = x3 at *
  generalize (ecF k 0).h = x4 at *
  generalize (ecF k 0).p = x5 at *
  generalize (ecF k 0).q = x6 at *
  generalize (ecF k 0).e = x7 at *
  generalize (ecF j 0).k = y0 at *
  generalize (ecF j 0).a = y1 at *
  generalize (ecF j 0).b = y2 at *
  generalize (ecF j 0).l = y3 at *
  generalize (ecF j 0).h = y4 at *
  generalize (ecF j 0).p = y5 at *
  generalize (ecF j 0).q = y6 at *
  generalize (ecF j 0).e = y7 at *
  have S : Hid (x0 = 2 → y0 = 1 → y5 < x6) := Lib.hid (fun h1 h2 => by have := s2 h1; have := s1 h2; omega)
  have HE1 := Lib.hid E1
  have HE2 := Lib.hid E2
  clear s1 s2 kb1 kb2 jb1 jb2 E1 E2
  go_enter Tryd.func7, Tryd.ntmps7
  have HB := Lib.hid (Below.refl w.heap.size w)
  go_wp2_with fail
  refine Calls.mono (HW.out) ?_
  rintro e wc1 ⟨rfl, hb⟩
  replace HB := Lib.hid (HB.out.trans (hb.mono HB.out.size))
  clear hb
  go_wp2_with fail
  refine Calls.mono (F1.out _ (HT.out.below HB.out)) ?_
  rintro e wn1 ⟨rfl, hb⟩
  have HB1 := HB.out.trans (hb.mono HB.out.size)
  clear hb
  have Hkl1 := Lib.hid HB1.size; replace HB := Lib.hid (HB1.alloc HB1.size (.cells #[.int .i64 x0, .int .i64 x1, .int .i64 x2, .int .i64 x3, .int .i64 x4, .int .i64 x5, .int .i64 x6] 36)); clear HB1
  have s1 := Lib.hid (EcBox.new wn1 (.int .i64 x0) (.int .i64 x1) (.int .i64 x2) (.int .i64 x3) (.int .i64 x4) (.int .i64 x5) (.int .i64 x6))
  obtain ⟨k1, hk1⟩ : ∃ x, x = wn1.heap.size := ⟨_, rfl⟩
  rw [← hk1] at s1 Hkl1
  go_upto_region 4 with fail
  rw [← hk1]
  obtain ⟨X1, hX1⟩ : ∃ X, X = wn1.alloc (.cells #[.int .i64 x0, .int .i64 x1, .int .i64 x2, .int .i64 x3, .int .i64 x4, .int .i64 x5, .int .i64 x6] 36) := ⟨_, rfl⟩
  rw [← hX1] at s1 HB ⊢
  clear hk1 hX1
  go_wp2_with fail
  refine Calls.mono (F2.out _ (HT.out.below HB.out)) ?_
  rintro e wn2 ⟨rfl, hb⟩
  replace s1 := Lib.hid ((s1.out.below hb).alloc (.cells #[.int .i64 y0, .int .i64 y1, .int .i64 y2, .int .i64 y3, .int .i64 y4, .int .i64 y5, .int .i64 y6] 36))
  have HB2 := HB.out.trans (hb.mono HB.out.size)
  clear hb
  have Hkl2 := Lib.hid HB2.size; replace HB := Lib.hid (HB2.alloc HB2.size (.cells #[.int .i64 y0, .int .i64 y1, .int .i64 y2, .int .i64 y3, .int .i64 y4, .int .i64 y5, .int .i64 y6] 36)); clear HB2
  have s2 := Lib.hid (EcBox.new wn2 (.int .i64 y0) (.int .i64 y1) (.int .i64 y2) (.int .i64 y3) (.int .i64 y4) (.int .i64 y5) (.int .i64 y6))
  obtain ⟨k2, hk2⟩ : ∃ x, x = wn2.heap.size := ⟨_, rfl⟩
  rw [← hk2] at s2 Hkl2
  go_upto_region 5 with fail
  rw [← hk2]
  obtain ⟨X2, hX2⟩ : ∃ X, X = wn2.alloc (.cells #[.int .i64 y0, .int .i64 y1, .int .i64 y2, .int .i64 y3, .int .i64 y4, .int .i64 y5, .int .i64 y6] 36) := ⟨_, rfl⟩
  rw [← hX2] at s1 s2 HB ⊢
  clear hk2 hX2
  have c0 := s1.out.c0; have c6 := s1.out.c6; have d0 := s2.out.c0; have d5 := s2.out.c5
  have hs := S.out
  have e1 := HE1.out
  have e2 := HE2.out
  clear S HE1 HE2
  by_cases h1 : x0 = 2
  · by_cases h2 : y0 = 1
    · subst h1; subst h2
      have h3 : y5 < x6 := hs rfl rfl
      clear hs
      rcases e1 with rfl | rfl <;> rcases e2 with rfl | rfl
      all_goals (go_wp2_with fail; go_ret; exact ⟨rfl, HB.out⟩)
    · clear hs
      rcases e1 with rfl | rfl <;> rcases e2 with rfl | rfl
      all_goals (go_wp2_with fail; go_ret; exact ⟨rfl, HB.out⟩)
  · clear hs
    rcases e1 with rfl | rfl <;> rcases e2 with rfl | rfl
    all_goals (go_wp2_with fail; go_ret; exact ⟨rfl, HB.out⟩)
end Go.Proofs.YtlldmhnkaopjhaaDoor
