/- PhasesInOrder: phases follow each other behind 6 to 9 days, new moons behind 29 to 30. -/
import Derived.Test.YtlldmhnkaopjhaaDoorPhN
import Derived.Test.YtlldmhnkaopjhaaDoorPhQ
namespace Go.Proofs.YtlldmhnkaopjhaaDoor
open Go.RowKit
set_option linter.unusedSimpArgs false
set_option linter.unusedVariables false
theorem rem_bd (a : Int) : -89999 ≤ a.tmod 90000 ∧ a.tmod 90000 ≤ 89999 := by
  have h1 := Int.lt_tmod_of_pos a (show (0 : Int) < 90000 by omega)
  have h2 := Int.tmod_lt_of_pos a (show (0 : Int) < 90000 by omega)
  omega
/-- Bounds of an interval. -/
theorem phF_bd {k q : Int} (k0 : -100000 ≤ k) (k1 : k ≤ 100000) (q0 : 0 ≤ q) (q1 : q ≤ 3) : -300000000000000 ≤ (phF k q).1 ∧ (phF k q).1 ≤ (phF k q).2 ∧ (phF k q).2 ≤ 300000000000000 := by
  obtain ⟨c, C⟩ := ph_in (k := k) (q := q) (by omega) (by omega) q0 q1
  have a := C.a; have b := C.b; have c' := C.c; have d := C.d
  unfold phM at a d
  omega
set_option maxRecDepth 100000 in
set_option maxHeartbeats 16000000 in
theorem phasesInOrder_walk (a0 : Int) (w : World) (hT : SinT w) : Calls Tryd.prog 3 #[.int .i64 a0] w fun e w' => e = .returned (.bool true) ∧ Below w.heap.size w w' := by
  have HW := Lib.hid (phaseWorks_ok w hT)
  have HT := Lib.hid hT
  obtain ⟨k, hk⟩ : ∃ k, k = a0.tmod 90000 := ⟨_, rfl⟩
  obtain ⟨kb1, kb2⟩ := rem_bd a0
  rw [← hk] at kb1 kb2
  have ek : wrap64 (a0.tmod 90000) = k := by rw [hk]; exact IntWalk.wrap64_in _ (by rw [← hk]; omega)
  have ek2 : a0.tmod 90000 = k := hk.symm
  obtain ⟨p, hp⟩ : ∃ p : Int → Int × Int, p = fun j => phF (k + j / 4) (j % 4) := ⟨_, rfl⟩
  have HF := Lib.hid (fun j (h1 : 0 ≤ j) (h2 : j ≤ 4) W (hT : SinT W) => show Calls Tryd.prog 15 #[.int .i64 (k + j / 4), .int .i64 (j % 4)] W fun e w' => e = .returned (.tuple #[.agg #[.int .i64 (p j).1, .int .i64 (p j).2], .int .i64 0]) ∧ Below W.heap.size W w' by
    rw [hp]; exact PFind_ok (k + j / 4) (j % 4) (by omega) (by omega) W hT)
  have HB0 := Lib.hid (fun j (h1 : 0 ≤ j) (h2 : j ≤ 4) => show -300000000000000 ≤ (p j).1 ∧ (p j).1 ≤ (p j).2 ∧ (p j).2 ≤ 300000000000000 by
    rw [hp]; exact phF_bd (by omega) (by omega) (by omega) (by omega))
  have HS := Lib.hid (fun j (h1 : 1 ≤ j) (h2 : j ≤ 4) => show 518400000 ≤ (p j).1 - (p (j - 1)).2 ∧ (p j).2 - (p (j - 1)).1 ≤ 777600000 by
    rw [hp]
    obtain ⟨c, C⟩ := ph_in (k := k + (j - 1) / 4) (q := (j - 1) % 4) (by omega) (by omega) (by omega) (by omega)
    obtain ⟨c', C'⟩ := ph_in (k := k + j / 4) (q := j % 4) (by omega) (by omega) (by omega) (by omega)
    exact ph_step C C' (by omega))
  have HM : 2505600000 < (p 4).1 - (p 0).2 ∧ (p 4).2 - (p 0).1 < 2592000000 := by
    rw [hp]
    obtain ⟨c, C⟩ := ph_in (k := k) (q := 0) (by omega) (by omega) (by omega) (by omega)
    obtain ⟨c', C'⟩ := ph_in (k := k + 1) (q := 0) (by omega) (by omega) (by omega) (by omega)
    have := ph_month C C'
    have e0 : k + 0 / 4 = k := by omega
    have e4 : k + 4 / 4 = k + 1 := by omega
    dsimp only
    rw [e0, e4]
    exact this
  have F0 := Lib.hid (fun W (hT : SinT W) => show Calls Tryd.prog 15 #[.int .i64 k, .int .i64 0] W fun e w' => e = .returned (.tuple #[.agg #[.int .i64 (p 0).1, .int .i64 (p 0).2], .int .i64 0]) ∧ Below W.heap.size W w' by
    have h := HF.out 0 (by omega) (by omega) W hT
    have e0 : k + 0 / 4 = k := by omega
    rw [e0] at h
    exact h)
  have b0 := HB0.out 0 (by omega) (by omega)
  have b4 := HB0.out 4 (by omega) (by omega)
  obtain ⟨a, ha⟩ : ∃ a, a = (p 0).1 := ⟨_, rfl⟩
  obtain ⟨b, hb⟩ : ∃ b, b = (p 0).2 := ⟨_, rfl⟩
  rw [← ha, ← hb] at F0 b0
  have g1 := HM.1; have g2 := HM.2
  rw [← hb] at g1
  rw [← ha] at g2
  have HA := Lib.hid ha; have HBq := Lib.hid hb
  have HG := Lib.hid (And.intro g1 g2)
  clear hT hk hp HM ha hb g1 g2
  go_enter Tryd.func3, Tryd.ntmps3
  have HB := Lib.hid (Below.refl w.heap.size w)
  go_wp2_with fail
  refine Calls.mono (HW.out) ?_
  rintro e wc1 ⟨rfl, hb⟩
  replace HB := Lib.hid (HB.out.trans (hb.mono HB.out.size))
  clear hb
  go_wp2_with fail
  refine Calls.mono (F0.out _ (HT.out.below HB.out)) ?_
  rintro e wn1 ⟨rfl, hb⟩
  have HB1 := HB.out.trans (hb.mono HB.out.size)
  clear hb
  have Hkl1 := Lib.hid HB1.size; replace HB := Lib.hid (HB1.alloc HB1.size (.cells #[.int .i64 (a), .int .i64 (b)] 24))
  clear HB1
  have s1 := Lib.hid (SpBox.new wn1 (a) (b))
  obtain ⟨k1, hk1⟩ : ∃ x, x = wn1.heap.size := ⟨_, rfl⟩
  rw [← hk1] at s1 Hkl1
  go_upto_region 5 with fail
  rw [← hk1]
  obtain ⟨X1, hX1⟩ : ∃ X, X = wn1.alloc (.cells #[.int .i64 (a), .int .i64 (b)] 24) := ⟨_, rfl⟩
  rw [← hX1] at s1 HB ⊢
  clear hk1 hX1
  have sc1_0 := s1.out.c0; have sc1_1 := s1.out.c1; have sc1_l := s1.out.lt
  obtain ⟨wn2, hwn2⟩ : ∃ x, x = X1 := ⟨_, rfl⟩
  go_upto_region 6 with fail
  rw [← hwn2]
  have Hd2_1 := Lib.hid s1.out.lt
  replace s1 := Lib.hid (s1.out.alloc (.cells #[.int .i64 (a), .int .i64 (b)] 24))
  have HB2 := HB.out
  clear sc1_0 sc1_1 sc1_l
  rw [← hwn2] at s1 HB2 Hd2_1
  clear hwn2
  have Hkl2 := Lib.hid HB2.size; replace HB := Lib.hid (HB2.alloc HB2.size (.cells #[.int .i64 (a), .int .i64 (b)] 24))
  clear HB2
  have s2 := Lib.hid (SpBox.new wn2 (a) (b))
  obtain ⟨k2, hk2⟩ : ∃ x, x = wn2.heap.size := ⟨_, rfl⟩
  rw [← hk2] at s2 Hkl2 Hd2_1
  rw [← hk2]
  obtain ⟨X2, hX2⟩ : ∃ X, X = wn2.alloc (.cells #[.int .i64 (a), .int .i64 (b)] 24) := ⟨_, rfl⟩
  rw [← hX2] at s1 s2 HB ⊢
  clear hk2 hX2
  go_wp2_with fail
  go_loopw [6] (fun i wr => ∃ j : Int, i = .int .i64 j ∧ 1 ≤ j ∧ j ≤ 5 ∧ SpBox wr k1 a b ∧ Hid (SpBox wr k2 (p (j - 1)).1 (p (j - 1)).2) ∧ Below w.heap.size w wr) (fun i _ => (5 - intOf i).toNat)
  case atStart => exact ⟨1, rfl, by omega, by omega, s1.out, by have := s2.out; rw [HA.out, HBq.out] at this; exact Lib.hid this, HB.out⟩
  case round =>
    obtain ⟨j, rfl, j1, j2, hs1, hs2, hbl⟩ := hrel
    clear s1 s2 HB
    by_cases c : j < 5
    · have f := Lib.hid (HF.out j (by omega) (by omega))
      have st := HS.out j (by omega) (by omega)
      have q1 := HB0.out j (by omega) (by omega)
      have q2 := HB0.out (j - 1) (by omega) (by omega)
      have ep : p (j + 1 - 1) = p j := by rw [show j + 1 - 1 = j by omega]
      have h2 := hs2.out
      obtain ⟨x, hx⟩ : ∃ x, x = (p j).1 := ⟨_, rfl⟩
      obtain ⟨y, hy⟩ : ∃ y, y = (p j).2 := ⟨_, rfl⟩
      obtain ⟨x', hx'⟩ : ∃ x, x = (p (j - 1)).1 := ⟨_, rfl⟩
      obtain ⟨y', hy'⟩ : ∃ y, y = (p (j - 1)).2 := ⟨_, rfl⟩
      rw [← hx, ← hy] at f q1 st
      rw [← hx'] at st q2 h2
      rw [← hy'] at st q2 h2
      have HX := Lib.hid (show p (j + 1 - 1) = (x, y) by rw [ep, hx, hy])
      obtain ⟨t1, t2⟩ := st
      have T1 := Lib.hid hs1; have T2 := Lib.hid h2; have TB := Lib.hid hbl
      have v1 : ¬ x - y' < 518400000 := by omega
      have v2 : ¬ 777600000 < y - x' := by omega
      clear hx hy hx' hy' ep hs1 hs2 h2 hbl t1 t2
      go_wp2_with fail
      refine Calls.mono (f.out _ (HT.out.below TB.out)) ?_
      rintro e w3 ⟨rfl, hb⟩
      have V := TB.out.trans (hb.mono TB.out.size)
      have U1 := Lib.hid ((T1.out.below hb).alloc (.cells #[.int .i64 x, .int .i64 y] 24))
      have U2 := Lib.hid ((T2.out.below hb).alloc (.cells #[.int .i64 x, .int .i64 y] 24))
      have U3 := Lib.hid (SpBox.new w3 x y)
      have UB := Lib.hid (V.alloc V.size (.cells #[.int .i64 x, .int .i64 y] 24))
      obtain ⟨kk, hkk⟩ : ∃ k, k = w3.heap.size := ⟨_, rfl⟩
      rw [← hkk] at U3
      clear hb V T1 T2 TB
      go_upto_region 10 with fail
      rw [← hkk]
      obtain ⟨Y, hY⟩ : ∃ Y, Y = w3.alloc (.cells #[.int .i64 x, .int .i64 y] 24) := ⟨_, rfl⟩
      rw [← hY] at U1 U2 U3 UB ⊢
      clear hY hkk
      have d0 := U3.out.c0; have d1 := U3.out.c1
      have f0 := U2.out.c0; have f1 := U2.out.c1; have f2 := U2.out.free 0; have f3 := U2.out.free 1; have f4 := U2.out.lt
      have n12 : k1 ≠ k2 := Nat.ne_of_lt Hd2_1.out
      have R1 := Lib.hid ((U1.out.other (a := ⟨k2, 0, none⟩) n12 (.int .i64 x)).other (a := ⟨k2, 1, none⟩) n12 (.int .i64 y))
      have R2 := Lib.hid (U2.out.set x y)
      have RB := Lib.hid ((UB.out.setCell (p := ⟨k2, 0, none⟩) Hkl2.out (.int .i64 x)).setCell (p := ⟨k2, 1, none⟩) Hkl2.out (.int .i64 y))
      go_wp2_with fail
      go_roundw
      case rel => exact ⟨j + 1, rfl, by omega, by omega, R1.out, by rw [HX.out]; exact R2, RB.out⟩
      case measure => simp [intOf]; omega
    · obtain rfl : j = 5 := by omega
      have h2 := hs2.out
      rw [show (5 : Int) - 1 = 4 from rfl] at h2
      have g := HG.out
      generalize (p 4).1 = x at *
      generalize (p 4).2 = y at *
      obtain ⟨g1, g2⟩ := g
      have c1 := hs1.c0; have c2 := hs1.c1; have c3 := h2.c0; have c4 := h2.c1
      have HB2 := Lib.hid hbl
      have v1 : decide (2505600000 < x - b) = true := decide_eq_true g1
      have v2 : decide (y - a < 2592000000) = true := decide_eq_true g2
      clear hs1 hs2 h2 hbl
      go_wp2_with fail
      go_ret
      exact ⟨rfl, HB2.out⟩
end Go.Proofs.YtlldmhnkaopjhaaDoor
