/- AstrolabeFalls: a greater declination has a lesser circle. -/
import Derived.Test.YtcopmgnfakjdhaaDoorAstrolabe
namespace Go.Proofs.YtcopmgnfakjdhaaDoor
open Go.RowKit
set_option linter.unusedSimpArgs false
set_option linter.unusedVariables false
set_option maxRecDepth 100000 in
set_option maxHeartbeats 16000000 in
theorem astrolabeFalls_walk (a0 b0 : Int) (w : World) (hT : SinT w) : Calls Tryd.prog 3 #[.int .i64 a0, .int .i64 b0] w fun e w' => e = .returned (.bool true) ∧ Below w.heap.size w w' := by
  have HW := Lib.hid (astrolabeWorks_ok w hT)
  have HT := Lib.hid hT
  have A := Lib.hid (fun w => at_any a0 445000001 w (by omega) (by omega))
  have B := Lib.hid (fun w => at_any b0 445000001 w (by omega) (by omega))
  have ar : 0 ≤ a0 % 445000001 ∧ a0 % 445000001 ≤ 445000000 := by omega
  have br : 0 ≤ b0 % 445000001 ∧ b0 % 445000001 ≤ 445000000 := by omega
  generalize a0 % 445000001 = y at *
  generalize b0 % 445000001 = z at *
  obtain ⟨a, ha⟩ : ∃ a, a = y - 195000000 := ⟨_, rfl⟩
  obtain ⟨b, hb⟩ : ∃ b, b = z - 195000000 := ⟨_, rfl⟩
  have ea : wrap64 (y - 195000000) = a := by rw [ha]; exact IntWalk.wrap64_in _ (by omega)
  have eb : wrap64 (z - 195000000) = b := by rw [hb]; exact IntWalk.wrap64_in _ (by omega)
  have a0' : -195000000 ≤ a := by omega
  have a1' : a ≤ 250000000 := by omega
  have b0' : -195000000 ≤ b := by omega
  have b1' : b ≤ 250000000 := by omega
  have RA := Lib.hid (fun W hT => Ring_ok a a0' a1' W hT)
  have RB := Lib.hid (fun W hT => Ring_ok b b0' b1' W hT)
  clear ha hb ar br hT
  by_cases c : b < a
  · obtain ⟨m, s, p⟩ := fall_ok b0' (show b ≤ a by omega) a1'
    have d1 : wrap64 (a - b) = a - b := IntWalk.wrap64_in _ (by omega)
    generalize aLo (rW a) = x1 at *
    generalize aHi (rW a) = x2 at *
    generalize aLo (rW b) = y1 at *
    generalize aHi (rW b) = y2 at *
    have HS := Lib.hid s
    clear s a0' a1' b0' b1'
    go_enter Tryd.func3, Tryd.ntmps3
    have HB := Lib.hid (Below.refl w.heap.size w)
    go_wp2_with fail
    refine Calls.mono (HW.out) ?_
    rintro e wc1 ⟨rfl, hb⟩
    replace HB := Lib.hid (HB.out.trans (hb.mono HB.out.size))
    clear hb
    go_wp2_with fail
    refine Calls.mono (A.out _) ?_
    rintro e wq ⟨rfl, hq⟩
    (first | rw [hq] | rw [← hq])
    clear hq
    go_wp2_with fail
    refine Calls.mono (B.out _) ?_
    rintro e wq ⟨rfl, hq⟩
    (first | rw [hq] | rw [← hq])
    clear hq
    go_wp2_with fail
    refine Calls.mono (RB.out _ (HT.out.below HB.out)) ?_
    rintro e wn1 ⟨rfl, hb⟩
    have HB1 := HB.out.trans (hb.mono HB.out.size)
    clear hb
    have Hkl1 := Lib.hid HB1.size; replace HB := Lib.hid (HB1.alloc HB1.size (.cells #[.int .i64 (y1), .int .i64 (y2)] 25))
    clear HB1
    have s1 := Lib.hid (SpBox.new wn1 (y1) (y2))
    obtain ⟨k1, hk1⟩ : ∃ x, x = wn1.heap.size := ⟨_, rfl⟩
    rw [← hk1] at s1 Hkl1
    go_upto_region 7 with fail
    rw [← hk1]
    obtain ⟨X1, hX1⟩ : ∃ X, X = wn1.alloc (.cells #[.int .i64 (y1), .int .i64 (y2)] 25) := ⟨_, rfl⟩
    rw [← hX1] at s1 HB ⊢
    clear hk1 hX1
    go_wp2_with fail
    refine Calls.mono (RA.out _ (HT.out.below HB.out)) ?_
    rintro e wn2 ⟨rfl, hb⟩
    replace s1 := Lib.hid ((s1.out.below hb).alloc (.cells #[.int .i64 (x1), .int .i64 (x2)] 25))
    have HB2 := HB.out.trans (hb.mono HB.out.size)
    clear hb
    have Hkl2 := Lib.hid HB2.size; replace HB := Lib.hid (HB2.alloc HB2.size (.cells #[.int .i64 (x1), .int .i64 (x2)] 25))
    clear HB2
    have s2 := Lib.hid (SpBox.new wn2 (x1) (x2))
    obtain ⟨k2, hk2⟩ : ∃ x, x = wn2.heap.size := ⟨_, rfl⟩
    rw [← hk2] at s2 Hkl2
    go_upto_region 8 with fail
    rw [← hk2]
    obtain ⟨X2, hX2⟩ : ∃ X, X = wn2.alloc (.cells #[.int .i64 (x1), .int .i64 (x2)] 25) := ⟨_, rfl⟩
    rw [← hX2] at s1 s2 HB ⊢
    clear hk2 hX2
    have sc1_0 := s1.out.c0; have sc1_1 := s1.out.c1; have sc1_l := s1.out.lt
    have sc2_0 := s2.out.c0; have sc2_1 := s2.out.c1; have sc2_l := s2.out.lt
    by_cases d : a - b < 10000
    · go_wp2_with fail
      go_ret
      exact ⟨rfl, HB.out⟩
    · have s := HS.out (by omega)
      go_wp2_with fail
      go_ret
      exact ⟨rfl, HB.out⟩
  · obtain ⟨m, s, p⟩ := fall_ok a0' (show a ≤ b by omega) b1'
    have d1 : wrap64 (b - a) = b - a := IntWalk.wrap64_in _ (by omega)
    generalize aLo (rW a) = x1 at *
    generalize aHi (rW a) = x2 at *
    generalize aLo (rW b) = y1 at *
    generalize aHi (rW b) = y2 at *
    have HS := Lib.hid s
    clear s a0' a1' b0' b1'
    go_enter Tryd.func3, Tryd.ntmps3
    have HB := Lib.hid (Below.refl w.heap.size w)
    go_wp2_with fail
    refine Calls.mono (HW.out) ?_
    rintro e wc1 ⟨rfl, hb⟩
    replace HB := Lib.hid (HB.out.trans (hb.mono HB.out.size))
    clear hb
    go_wp2_with fail
    refine Calls.mono (A.out _) ?_
    rintro e wq ⟨rfl, hq⟩
    (first | rw [hq] | rw [← hq])
    clear hq
    go_wp2_with fail
    refine Calls.mono (B.out _) ?_
    rintro e wq ⟨rfl, hq⟩
    (first | rw [hq] | rw [← hq])
    clear hq
    go_wp2_with fail
    refine Calls.mono (RA.out _ (HT.out.below HB.out)) ?_
    rintro e wn1 ⟨rfl, hb⟩
    have HB1 := HB.out.trans (hb.mono HB.out.size)
    clear hb
    have Hkl1 := Lib.hid HB1.size; replace HB := Lib.hid (HB1.alloc HB1.size (.cells #[.int .i64 (x1), .int .i64 (x2)] 25))
    clear HB1
    have s1 := Lib.hid (SpBox.new wn1 (x1) (x2))
    obtain ⟨k1, hk1⟩ : ∃ x, x = wn1.heap.size := ⟨_, rfl⟩
    rw [← hk1] at s1 Hkl1
    go_upto_region 7 with fail
    rw [← hk1]
    obtain ⟨X1, hX1⟩ : ∃ X, X = wn1.alloc (.cells #[.int .i64 (x1), .int .i64 (x2)] 25) := ⟨_, rfl⟩
    rw [← hX1] at s1 HB ⊢
    clear hk1 hX1
    go_wp2_with fail
    refine Calls.mono (RB.out _ (HT.out.below HB.out)) ?_
    rintro e wn2 ⟨rfl, hb⟩
    replace s1 := Lib.hid ((s1.out.below hb).alloc (.cells #[.int .i64 (y1), .int .i64 (y2)] 25))
    have HB2 := HB.out.trans (hb.mono HB.out.size)
    clear hb
    have Hkl2 := Lib.hid HB2.size; replace HB := Lib.hid (HB2.alloc HB2.size (.cells #[.int .i64 (y1), .int .i64 (y2)] 25))
    clear HB2
    have s2 := Lib.hid (SpBox.new wn2 (y1) (y2))
    obtain ⟨k2, hk2⟩ : ∃ x, x = wn2.heap.size := ⟨_, rfl⟩
    rw [← hk2] at s2 Hkl2
    go_upto_region 8 with fail
    rw [← hk2]
    obtain ⟨X2, hX2⟩ : ∃ X, X = wn2.alloc (.cells #[.int .i64 (y1), .int .i64 (y2)] 25) := ⟨_, rfl⟩
    rw [← hX2] at s1 s2 HB ⊢
    clear hk2 hX2
    have sc1_0 := s1.out.c0; have sc1_1 := s1.out.c1; have sc1_l := s1.out.lt
    have sc2_0 := s2.out.c0; have sc2_1 := s2.out.c1; have sc2_l := s2.out.lt
    by_cases d : b - a < 10000
    · go_wp2_with fail
      go_ret
      exact ⟨rfl, HB.out⟩
    · have s := HS.out (by omega)
      go_wp2_with fail
      go_ret
      exact ⟨rfl, HB.out⟩
end Go.Proofs.YtcopmgnfakjdhaaDoor
