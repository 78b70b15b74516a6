/- SharpenAgrees: Decide agrees with intervals that are apart. -/
import Derived.Test.YtlldmhnkaopjhaaDoorShD
namespace Go.Proofs.YtlldmhnkaopjhaaDoor
open Go.RowKit
set_option linter.unusedSimpArgs false
set_option linter.unusedVariables false
theorem ear_sym (a b c d : Int) (h1 : a ≤ b) (h2 : c ≤ d) : (earF a b c d = (-1, 0) ∧ earF c d a b = (1, 0)) ∨ (earF a b c d = (1, 0) ∧ earF c d a b = (-1, 0)) ∨ (earF a b c d = (0, 11) ∧ earF c d a b = (0, 11)) := by
  unfold earF
  by_cases p : b < c
  · rw [if_pos p, if_neg (by omega), if_pos p]; exact .inl ⟨rfl, rfl⟩
  · by_cases q : d < a
    · rw [if_neg p, if_pos q, if_pos q]; exact .inr (.inl ⟨rfl, rfl⟩)
    · rw [if_neg p, if_neg q, if_neg q, if_neg p]; exact .inr (.inr ⟨rfl, rfl⟩)
set_option maxRecDepth 100000 in
set_option maxHeartbeats 16000000 in
theorem sharpenAgrees_walk (q0 y0 k0 : Int) (w : World) (hT : SinT w) : Calls Tryd.prog 13 #[.int .i64 q0, .int .i64 y0, .int .i64 k0] w fun e w' => e = .returned (.bool true) ∧ Below w.heap.size w w' := by
  have HW := Lib.hid (sharpenWorks_ok w hT)
  have HT := Lib.hid hT
  have Aq := Lib.hid (fun w => at_any q0 4 w (by omega) (by omega))
  have Ay := Lib.hid (fun w => at_any y0 4000 w (by omega) (by omega))
  have Ak := Lib.hid (fun w => at_any k0 40000 w (by omega) (by omega))
  have qb : 0 ≤ q0 % 4 ∧ q0 % 4 ≤ 3 := by omega
  have yb : -9100 ≤ y0 % 4000 ∧ y0 % 4000 ≤ 9100 := by omega
  have kb : -100000 ≤ k0 % 40000 ∧ k0 % 40000 ≤ 100000 := by omega
  generalize q0 % 4 = q at *
  generalize y0 % 4000 = y at *
  generalize k0 % 40000 = k at *
  have F := Lib.hid (fun W (hT : SinT W) => SFind_ok q y qb yb W hT)
  have P := Lib.hid (fun W (hT : SinT W) => PFind_ok k 2 kb (by omega) W hT)
  have D := Lib.hid (fun W (hT : SinT W) => Decide_ok q y k 2 qb yb kb (by omega) W hT)
  have s := seY_bd (q := q) (y := y) qb.1 qb.2 yb.1 yb.2
  have p := phF_bd (k := k) (q := 2) kb.1 kb.2 (by omega) (by omega)
  have E1 := fun W => Earlier_ok (seY q y).1 (seY q y).2 (phF k 2).1 (phF k 2).2 W ⟨by omega, by omega, by omega⟩ ⟨by omega, by omega, by omega⟩
  have E2 := fun W => Earlier_ok (phF k 2).1 (phF k 2).2 (seY q y).1 (seY q y).2 W ⟨by omega, by omega, by omega⟩ ⟨by omega, by omega, by omega⟩
  have ES := ear_sym (seY q y).1 (seY q y).2 (phF k 2).1 (phF k 2).2 s.2.1 p.2.1
  have DD := fun n g (h : DecOk q y k 2 n g) => h
  unfold DecOk at DD
  have HDD : Hid (∀ n g, DecOk q y k 2 n g → (earF (seY q y).1 (seY q y).2 (phF k 2).1 (phF k 2).2).2 = 0 → n = (earF (seY q y).1 (seY q y).2 (phF k 2).1 (phF k 2).2).1 ∧ g = 0) := Lib.hid (fun n g h => h)
  clear DD s p qb yb kb hT
  generalize DecOk q y k 2 = dec at *
  generalize (seY q y).1 = a1 at *
  generalize (seY q y).2 = a2 at *
  generalize (phF k 2).1 = b1 at *
  generalize (phF k 2).2 = b2 at *
  rcases ES with ⟨h1, h2⟩ | ⟨h1, h2⟩ | ⟨h1, h2⟩
  case inr.inr =>
    rw [h1] at E1 HDD
    rw [h2] at E2
    have E1 := Lib.hid E1
    have E2 := Lib.hid E2
    clear h1 h2
    go_enter Tryd.func13, Tryd.ntmps13
    have HB := Lib.hid (Below.refl w.heap.size w)
    go_wp2_with fail
    refine Calls.mono (HW.out) ?_
    rintro e wc1 ⟨rfl, hb⟩
    replace HB := Lib.hid (HB.out.trans (hb.mono HB.out.size))
    clear hb
    go_wp2_with fail
    refine Calls.mono (Aq.out _) ?_
    rintro e wq ⟨rfl, hq⟩
    (first | rw [hq] | rw [← hq])
    clear hq
    go_wp2_with fail
    refine Calls.mono (Ay.out _) ?_
    rintro e wq ⟨rfl, hq⟩
    (first | rw [hq] | rw [← hq])
    clear hq
    go_wp2_with fail
    refine Calls.mono (Ak.out _) ?_
    rintro e wq ⟨rfl, hq⟩
    (first | rw [hq] | rw [← hq])
    clear hq
    go_wp2_with fail
    refine Calls.mono (F.out _ (HT.out.below HB.out)) ?_
    rintro e wn1 ⟨rfl, hb⟩
    have HB1 := HB.out.trans (hb.mono HB.out.size)
    clear hb
    have Hkl1 := Lib.hid HB1.size; replace HB := Lib.hid (HB1.alloc HB1.size (.cells #[.int .i64 (a1), .int .i64 (a2)] 24))
    clear HB1
    have s1 := Lib.hid (SpBox.new wn1 (a1) (a2))
    obtain ⟨k1, hk1⟩ : ∃ x, x = wn1.heap.size := ⟨_, rfl⟩
    rw [← hk1] at s1 Hkl1
    go_upto_region 5 with fail
    rw [← hk1]
    obtain ⟨X1, hX1⟩ : ∃ X, X = wn1.alloc (.cells #[.int .i64 (a1), .int .i64 (a2)] 24) := ⟨_, rfl⟩
    rw [← hX1] at s1 HB ⊢
    clear hk1 hX1
    go_wp2_with fail
    refine Calls.mono (P.out _ (HT.out.below HB.out)) ?_
    rintro e wn2 ⟨rfl, hb⟩
    replace s1 := Lib.hid ((s1.out.below hb).alloc (.cells #[.int .i64 (b1), .int .i64 (b2)] 24))
    have HB2 := HB.out.trans (hb.mono HB.out.size)
    clear hb
    have Hkl2 := Lib.hid HB2.size; replace HB := Lib.hid (HB2.alloc HB2.size (.cells #[.int .i64 (b1), .int .i64 (b2)] 24))
    clear HB2
    have s2 := Lib.hid (SpBox.new wn2 (b1) (b2))
    obtain ⟨k2, hk2⟩ : ∃ x, x = wn2.heap.size := ⟨_, rfl⟩
    rw [← hk2] at s2 Hkl2
    go_upto_region 6 with fail
    rw [← hk2]
    obtain ⟨X2, hX2⟩ : ∃ X, X = wn2.alloc (.cells #[.int .i64 (b1), .int .i64 (b2)] 24) := ⟨_, rfl⟩
    rw [← hX2] at s1 s2 HB ⊢
    clear hk2 hX2
    go_wp2_with fail
    refine Calls.mono (D.out _ (HT.out.below HB.out)) ?_
    rintro e wD ⟨n, g, rfl, hd, hb⟩
    replace s1 := Lib.hid (s1.out.below hb)
    replace s2 := Lib.hid (s2.out.below hb)
    replace HB := Lib.hid (HB.out.trans (hb.mono HB.out.size))
    have hd' := Lib.hid (HDD.out n g hd)
    clear hb hd HDD
    clear hd'
    have sc1_0 := s1.out.c0; have sc1_1 := s1.out.c1; have sc1_l := s1.out.lt
    have sc2_0 := s2.out.c0; have sc2_1 := s2.out.c1; have sc2_l := s2.out.lt
    go_wp2_with fail
    refine Calls.mono (E1.out _) ?_
    rintro e wc2 ⟨rfl, hb⟩
    replace s1 := Lib.hid (s1.out.below hb)
    replace s2 := Lib.hid (s2.out.below hb)
    replace HB := Lib.hid (HB.out.trans (hb.mono HB.out.size))
    clear sc1_0 sc1_1 sc1_l sc2_0 sc2_1 sc2_l
    clear hb
    have sc1_0 := s1.out.c0; have sc1_1 := s1.out.c1; have sc1_l := s1.out.lt
    have sc2_0 := s2.out.c0; have sc2_1 := s2.out.c1; have sc2_l := s2.out.lt
    go_wp2_with fail
    refine Calls.mono (E2.out _) ?_
    rintro e wc3 ⟨rfl, hb⟩
    replace s1 := Lib.hid (s1.out.below hb)
    replace s2 := Lib.hid (s2.out.below hb)
    replace HB := Lib.hid (HB.out.trans (hb.mono HB.out.size))
    clear sc1_0 sc1_1 sc1_l sc2_0 sc2_1 sc2_l
    clear hb
    go_wp2_with fail
    go_ret
    exact ⟨rfl, HB.out⟩
  all_goals
    rw [h1] at E1 HDD
    rw [h2] at E2
    have E1 := Lib.hid E1
    have E2 := Lib.hid E2
    clear h1 h2
    go_enter Tryd.func13, Tryd.ntmps13
    have HB := Lib.hid (Below.refl w.heap.size w)
    go_wp2_with fail
    refine Calls.mono (HW.out) ?_
    rintro e wc1 ⟨rfl, hb⟩
    replace HB := Lib.hid (HB.out.trans (hb.mono HB.out.size))
    clear hb
    go_wp2_with fail
    refine Calls.mono (Aq.out _) ?_
    rintro e wq ⟨rfl, hq⟩
    (first | rw [hq] | rw [← hq])
    clear hq
    go_wp2_with fail
    refine Calls.mono (Ay.out _) ?_
    rintro e wq ⟨rfl, hq⟩
    (first | rw [hq] | rw [← hq])
    clear hq
    go_wp2_with fail
    refine Calls.mono (Ak.out _) ?_
    rintro e wq ⟨rfl, hq⟩
    (first | rw [hq] | rw [← hq])
    clear hq
    go_wp2_with fail
    refine Calls.mono (F.out _ (HT.out.below HB.out)) ?_
    rintro e wn1 ⟨rfl, hb⟩
    have HB1 := HB.out.trans (hb.mono HB.out.size)
    clear hb
    have Hkl1 := Lib.hid HB1.size; replace HB := Lib.hid (HB1.alloc HB1.size (.cells #[.int .i64 (a1), .int .i64 (a2)] 24))
    clear HB1
    have s1 := Lib.hid (SpBox.new wn1 (a1) (a2))
    obtain ⟨k1, hk1⟩ : ∃ x, x = wn1.heap.size := ⟨_, rfl⟩
    rw [← hk1] at s1 Hkl1
    go_upto_region 5 with fail
    rw [← hk1]
    obtain ⟨X1, hX1⟩ : ∃ X, X = wn1.alloc (.cells #[.int .i64 (a1), .int .i64 (a2)] 24) := ⟨_, rfl⟩
    rw [← hX1] at s1 HB ⊢
    clear hk1 hX1
    go_wp2_with fail
    refine Calls.mono (P.out _ (HT.out.below HB.out)) ?_
    rintro e wn2 ⟨rfl, hb⟩
    replace s1 := Lib.hid ((s1.out.below hb).alloc (.cells #[.int .i64 (b1), .int .i64 (b2)] 24))
    have HB2 := HB.out.trans (hb.mono HB.out.size)
    clear hb
    have Hkl2 := Lib.hid HB2.size; replace HB := Lib.hid (HB2.alloc HB2.size (.cells #[.int .i64 (b1), .int .i64 (b2)] 24))
    clear HB2
    have s2 := Lib.hid (SpBox.new wn2 (b1) (b2))
    obtain ⟨k2, hk2⟩ : ∃ x, x = wn2.heap.size := ⟨_, rfl⟩
    rw [← hk2] at s2 Hkl2
    go_upto_region 6 with fail
    rw [← hk2]
    obtain ⟨X2, hX2⟩ : ∃ X, X = wn2.alloc (.cells #[.int .i64 (b1), .int .i64 (b2)] 24) := ⟨_, rfl⟩
    rw [← hX2] at s1 s2 HB ⊢
    clear hk2 hX2
    go_wp2_with fail
    refine Calls.mono (D.out _ (HT.out.below HB.out)) ?_
    rintro e wD ⟨n, g, rfl, hd, hb⟩
    replace s1 := Lib.hid (s1.out.below hb)
    replace s2 := Lib.hid (s2.out.below hb)
    replace HB := Lib.hid (HB.out.trans (hb.mono HB.out.size))
    have hd' := Lib.hid (HDD.out n g hd)
    clear hb hd HDD
    obtain ⟨rfl, rfl⟩ := hd'.out (by first | trivial | rfl)
    clear hd'
    have sc1_0 := s1.out.c0; have sc1_1 := s1.out.c1; have sc1_l := s1.out.lt
    have sc2_0 := s2.out.c0; have sc2_1 := s2.out.c1; have sc2_l := s2.out.lt
    go_wp2_with fail
    refine Calls.mono (E1.out _) ?_
    rintro e wc2 ⟨rfl, hb⟩
    replace s1 := Lib.hid (s1.out.below hb)
    replace s2 := Lib.hid (s2.out.below hb)
    replace HB := Lib.hid (HB.out.trans (hb.mono HB.out.size))
    clear sc1_0 sc1_1 sc1_l sc2_0 sc2_1 sc2_l
    clear hb
    have sc1_0 := s1.out.c0; have sc1_1 := s1.out.c1; have sc1_l := s1.out.lt
    have sc2_0 := s2.out.c0; have sc2_1 := s2.out.c1; have sc2_l := s2.out.lt
    go_wp2_with fail
    refine Calls.mono (E2.out _) ?_
    rintro e wc3 ⟨rfl, hb⟩
    replace s1 := Lib.hid (s1.out.below hb)
    replace s2 := Lib.hid (s2.out.below hb)
    replace HB := Lib.hid (HB.out.trans (hb.mono HB.out.size))
    clear sc1_0 sc1_1 sc1_l sc2_0 sc2_1 sc2_l
    clear hb
    go_wp2_with fail
    go_ret
    exact ⟨rfl, HB.out⟩
end Go.Proofs.YtlldmhnkaopjhaaDoor
