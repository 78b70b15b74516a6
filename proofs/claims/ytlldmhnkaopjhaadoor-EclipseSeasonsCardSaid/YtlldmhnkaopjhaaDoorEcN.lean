/- eclipse.Next, eclipseWorks. -/
import Derived.Test.YtlldmhnkaopjhaaDoorEcF
import Derived.Test.YtlldmhnkaopjhaaDoorEcQ
import Derived.Test.YtlldmhnkaopjhaaDoorSkyLaw
namespace Go.Proofs.YtlldmhnkaopjhaaDoor
open Go.RowKit
set_option linter.unusedSimpArgs false
set_option linter.unusedVariables false
/-- What Next hands back. -/
def NextP (k q n g : Int) : Prop :=
  (∃ j : Int, 0 ≤ j ∧ j < 24 ∧ (∀ i, 0 ≤ i → i < j → Quiet (k + i) q) ∧ ((g = 11 ∧ n = 0 ∧ (ecF (k + j) q).e = 11) ∨ (g = 0 ∧ n = k + j ∧ (ecF (k + j) q).e = 0 ∧ (ecF (k + j) q).k ≠ 0))) ∨ ((∀ i, 0 ≤ i → i < 24 → Quiet (k + i) q) ∧ g = 6 ∧ n = 0)
set_option maxRecDepth 100000 in
set_option maxHeartbeats 16000000 in
theorem eNext_ok (k q : Int) (hk : -99000 ≤ k ∧ k ≤ 99000) (hq : q = 0 ∨ q = 2) (w : World) (hT : SinT w) : Calls Tryd.prog 21 #[.int .i64 k, .int .i64 q] w fun e w' => ∃ n g : Int, e = .returned (.tuple #[.int .i64 n, .int .i64 g]) ∧ NextP k q n g ∧ Below w.heap.size w w' := by
  have F := Lib.hid (fun (j : Nat) (hj : j < 24) W (hT : SinT W) => eFind_ok (k + j) q (by omega) hq W hT)
  have EE := Lib.hid (fun j : Int => show (ecF (k + j) q).e = 0 ∨ (ecF (k + j) q).e = 11 from ecW_e _ _ _ _ _ _)
  have HT := Lib.hid hT
  have HK := Lib.hid hk
  clear hT hq hk
  go_enter Tryd.func21, Tryd.ntmps21
  have HB := Lib.hid (Below.refl w.heap.size w)
  go_upto_region 2 with fail
  go_loopw [9] (fun v wr => ∃ j : Nat, j ≤ 24 ∧ v = .int .i64 j ∧ Hid (∀ i : Int, 0 ≤ i → i < j → Quiet (k + i) q) ∧ Hid (Below w.heap.size w wr)) (fun v _ => 24 - (intOf v).toNat)
  case atStart => exact ⟨0, by omega, rfl, Lib.hid (fun i h1 h2 => by omega), HB⟩
  case round =>
    clear HB
    obtain ⟨j, hj, rfl, HQ, HB⟩ := hrel
    by_cases c : j < 24
    · have kb := HK.out
      have kj : wrap64 (k + (j : Int)) = k + (j : Int) := IntWalk.wrap64_in _ (by omega)
      clear kb
      have F1 := Lib.hid (F.out j c)
      have E1 := EE.out (j : Int)
      have Q1 : Hid ((ecF (k + (j : Int)) q).e = 0 → (ecF (k + (j : Int)) q).k = 0 → ∀ i : Int, 0 ≤ i → i < ((j + 1 : Nat) : Int) → Quiet (k + i) q) := Lib.hid (fun h1 h2 i h3 h4 => by
        by_cases h : i < (j : Int)
        · exact HQ.out i h3 h
        · rw [show i = (j : Int) by omega]; exact ⟨h1, h2⟩)
      have Q2 : Hid ((ecF (k + (j : Int)) q).e = 11 → NextP k q 0 11) := Lib.hid (fun h1 => .inl ⟨(j : Int), by omega, by omega, HQ.out, .inl ⟨rfl, rfl, h1⟩⟩)
      have Q3 : Hid ((ecF (k + (j : Int)) q).e = 0 → (ecF (k + (j : Int)) q).k ≠ 0 → NextP k q (k + (j : Int)) 0) := Lib.hid (fun h1 h2 => .inl ⟨(j : Int), by omega, by omega, HQ.out, .inr ⟨rfl, rfl, h1, h2⟩⟩)
      clear F EE HQ
      generalize (ecF (k + (j : Int)) q).k = r0 at *
      generalize (ecF (k + (j : Int)) q).a = r1 at *
      generalize (ecF (k + (j : Int)) q).b = r2 at *
      generalize (ecF (k + (j : Int)) q).l = r3 at *
      generalize (ecF (k + (j : Int)) q).h = r4 at *
      generalize (ecF (k + (j : Int)) q).p = r5 at *
      generalize (ecF (k + (j : Int)) q).q = r6 at *
      generalize (ecF (k + (j : Int)) q).e = r7 at *
      rcases E1 with rfl | rfl
      · by_cases c0 : r0 = 0
        · subst c0
          have Q := Lib.hid (Q1.out rfl rfl)
          clear Q1 Q2 Q3
          go_wp2_with fail
          refine Calls.mono (F1.out _ (HT.out.below HB.out)) ?_
          rintro e wn1 ⟨rfl, hb⟩
          have HB1 := HB.out.trans (hb.mono HB.out.size)
          clear hb
          have Hkl1 := Lib.hid HB1.size; replace HB := Lib.hid (HB1.alloc HB1.size (.cells #[.int .i64 0, .int .i64 r1, .int .i64 r2, .int .i64 r3, .int .i64 r4, .int .i64 r5, .int .i64 r6] 36)); clear HB1
          have s1 := Lib.hid (EcBox.new wn1 (.int .i64 0) (.int .i64 r1) (.int .i64 r2) (.int .i64 r3) (.int .i64 r4) (.int .i64 r5) (.int .i64 r6))
          obtain ⟨k1, hk1⟩ : ∃ x, x = wn1.heap.size := ⟨_, rfl⟩
          rw [← hk1] at s1 Hkl1
          go_upto_region 5 with fail
          rw [← hk1]
          obtain ⟨X1, hX1⟩ : ∃ X, X = wn1.alloc (.cells #[.int .i64 0, .int .i64 r1, .int .i64 r2, .int .i64 r3, .int .i64 r4, .int .i64 r5, .int .i64 r6] 36) := ⟨_, rfl⟩
          rw [← hX1] at s1 HB ⊢
          clear hk1 hX1
          have y0 := s1.out.c0
          go_wp2_with fail
          go_roundw
          case rel => exact ⟨j + 1, by omega, by go_num, Q, HB⟩
          case measure => simp [intOf]; omega
        · have Q := Lib.hid (Q3.out rfl c0)
          clear Q1 Q2 Q3
          go_wp2_with fail
          refine Calls.mono (F1.out _ (HT.out.below HB.out)) ?_
          rintro e wn1 ⟨rfl, hb⟩
          have HB1 := HB.out.trans (hb.mono HB.out.size)
          clear hb
          have Hkl1 := Lib.hid HB1.size; replace HB := Lib.hid (HB1.alloc HB1.size (.cells #[.int .i64 r0, .int .i64 r1, .int .i64 r2, .int .i64 r3, .int .i64 r4, .int .i64 r5, .int .i64 r6] 36)); clear HB1
          have s1 := Lib.hid (EcBox.new wn1 (.int .i64 r0) (.int .i64 r1) (.int .i64 r2) (.int .i64 r3) (.int .i64 r4) (.int .i64 r5) (.int .i64 r6))
          obtain ⟨k1, hk1⟩ : ∃ x, x = wn1.heap.size := ⟨_, rfl⟩
          rw [← hk1] at s1 Hkl1
          go_upto_region 5 with fail
          rw [← hk1]
          obtain ⟨X1, hX1⟩ : ∃ X, X = wn1.alloc (.cells #[.int .i64 r0, .int .i64 r1, .int .i64 r2, .int .i64 r3, .int .i64 r4, .int .i64 r5, .int .i64 r6] 36) := ⟨_, rfl⟩
          rw [← hX1] at s1 HB ⊢
          clear hk1 hX1
          have y0 := s1.out.c0
          go_wp2_with fail
          go_ret2
          exact ⟨_, _, rfl, (by rw [kj]; exact Q.out), HB.out⟩
      · have Q := Lib.hid (Q2.out rfl)
        clear Q1 Q2 Q3
        go_wp2_with fail
        refine Calls.mono (F1.out _ (HT.out.below HB.out)) ?_
        rintro e wn1 ⟨rfl, hb⟩
        have HB1 := HB.out.trans (hb.mono HB.out.size)
        clear hb
        have Hkl1 := Lib.hid HB1.size; replace HB := Lib.hid (HB1.alloc HB1.size (.cells #[.int .i64 r0, .int .i64 r1, .int .i64 r2, .int .i64 r3, .int .i64 r4, .int .i64 r5, .int .i64 r6] 36)); clear HB1
        have s1 := Lib.hid (EcBox.new wn1 (.int .i64 r0) (.int .i64 r1) (.int .i64 r2) (.int .i64 r3) (.int .i64 r4) (.int .i64 r5) (.int .i64 r6))
        obtain ⟨k1, hk1⟩ : ∃ x, x = wn1.heap.size := ⟨_, rfl⟩
        rw [← hk1] at s1 Hkl1
        go_upto_region 5 with fail
        rw [← hk1]
        obtain ⟨X1, hX1⟩ : ∃ X, X = wn1.alloc (.cells #[.int .i64 r0, .int .i64 r1, .int .i64 r2, .int .i64 r3, .int .i64 r4, .int .i64 r5, .int .i64 r6] 36) := ⟨_, rfl⟩
        rw [← hX1] at s1 HB ⊢
        clear hk1 hX1
        go_wp2_with fail
        go_ret2
        exact ⟨_, _, rfl, Q.out, HB.out⟩
    · obtain rfl : j = 24 := by omega
      have Q : Hid (NextP k q 0 6) := Lib.hid (.inr ⟨fun i h1 h2 => HQ.out i h1 h2, rfl, rfl⟩)
      clear F EE HQ hj c
      go_wp2_with fail
      go_ret2
      exact ⟨_, _, rfl, Q.out, HB.out⟩
theorem ew_next {n g : Int} (h : NextP 24714 0 n g) : n = 24719 ∧ g = 0 := by
  obtain ⟨e0, e1, -, -, -⟩ := ew_0
  obtain ⟨⟨a0, b0⟩, ⟨a1, b1⟩, ⟨a2, b2⟩, ⟨a3, b3⟩, a4, b4⟩ := ew_1
  have q5 : ¬ Quiet ((24714 : Int) + 5) 0 := by
    rw [show (24714 : Int) + 5 = 24719 by omega]
    intro h
    have := h.2
    omega
  rcases h with ⟨j, j0, j1, hq, h⟩ | ⟨hq, -, -⟩
  · have j5 : j ≤ 5 := by
      apply Int.not_lt.1
      intro l
      exact q5 (hq 5 (by omega) (by omega))
    rcases (by omega : j = 0 ∨ j = 1 ∨ j = 2 ∨ j = 3 ∨ j = 4 ∨ j = 5) with rfl | rfl | rfl | rfl | rfl | rfl
    · rw [show (24714 : Int) + 0 = 24714 by omega] at h; omega
    · rw [show (24714 : Int) + 1 = 24715 by omega] at h; omega
    · rw [show (24714 : Int) + 2 = 24716 by omega] at h; omega
    · rw [show (24714 : Int) + 3 = 24717 by omega] at h; omega
    · rw [show (24714 : Int) + 4 = 24718 by omega] at h; omega
    · rw [show (24714 : Int) + 5 = 24719 by omega] at h; omega
  · exact absurd (hq 5 (by omega) (by omega)) q5
set_option maxRecDepth 100000 in
set_option maxHeartbeats 8000000 in
theorem eclipseWorks_ok (w : World) (hT : SinT w) : Calls Tryd.prog 19 #[] w fun e w' => e = .returned (.bool true) ∧ Below w.heap.size w w' := by
  have F := fun W (hT : SinT W) => eFind_ok 24719 0 (by omega) (.inl rfl) W hT
  have N := Lib.hid (fun W (hT : SinT W) => eNext_ok 24714 0 (by omega) (.inl rfl) W hT)
  obtain ⟨e0, e1, e2, e3, e4⟩ := ew_0
  rw [e0, e1] at F
  have F := Lib.hid F
  clear e0 e1
  generalize (ecF 24719 0).a = r1 at *
  generalize (ecF 24719 0).b = r2 at *
  generalize (ecF 24719 0).l = r3 at *
  generalize (ecF 24719 0).h = r4 at *
  generalize (ecF 24719 0).p = r5 at *
  generalize (ecF 24719 0).q = r6 at *
  have H := Lib.hid (fun w => has_true r3 r4 1695151 91000 w e2 e3 e4 ⟨by omega, by omega⟩)
  have HT := Lib.hid hT
  clear hT e2 e3 e4
  go_enter Tryd.func19, Tryd.ntmps19
  have HB := Lib.hid (Below.refl w.heap.size w)
  go_wp2_with fail
  refine Calls.mono (F.out _ (HT.out.below HB.out)) ?_
  rintro e wn1 ⟨rfl, hb⟩
  have HB1 := HB.out.trans (hb.mono HB.out.size)
  clear hb
  have Hkl1 := Lib.hid HB1.size; replace HB := Lib.hid (HB1.alloc HB1.size (.cells #[.int .i64 2, .int .i64 r1, .int .i64 r2, .int .i64 r3, .int .i64 r4, .int .i64 r5, .int .i64 r6] 36)); clear HB1
  have s1 := Lib.hid (EcBox.new wn1 (.int .i64 2) (.int .i64 r1) (.int .i64 r2) (.int .i64 r3) (.int .i64 r4) (.int .i64 r5) (.int .i64 r6))
  obtain ⟨k1, hk1⟩ : ∃ x, x = wn1.heap.size := ⟨_, rfl⟩
  rw [← hk1] at s1 Hkl1
  go_upto_region 2 with fail
  rw [← hk1]
  obtain ⟨X1, hX1⟩ : ∃ X, X = wn1.alloc (.cells #[.int .i64 2, .int .i64 r1, .int .i64 r2, .int .i64 r3, .int .i64 r4, .int .i64 r5, .int .i64 r6] 36) := ⟨_, rfl⟩
  rw [← hX1] at s1 HB ⊢
  clear hk1 hX1
  go_wp2_with fail
  refine Calls.mono (N.out _ (HT.out.below HB.out)) ?_
  rintro e wD ⟨n, g, rfl, hd, hb⟩
  obtain ⟨rfl, rfl⟩ := ew_next hd
  replace s1 := Lib.hid (s1.out.below hb)
  replace HB := Lib.hid (HB.out.trans (hb.mono HB.out.size))
  clear hb hd
  have y0 := s1.out.c0; have y3 := s1.out.c3; have y4 := s1.out.c4
  go_wp2_with fail
  refine Calls.mono (H.out _) ?_
  rintro e wc1 ⟨rfl, hb⟩
  replace s1 := Lib.hid (s1.out.below hb)
  replace HB := Lib.hid (HB.out.trans (hb.mono HB.out.size))
  clear hb
  go_wp2_with fail
  go_ret
  exact ⟨rfl, HB.out⟩
end Go.Proofs.YtlldmhnkaopjhaaDoor
