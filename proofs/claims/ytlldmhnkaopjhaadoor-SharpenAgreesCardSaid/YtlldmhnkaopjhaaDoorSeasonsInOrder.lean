/- SeasonsInOrder: the seasons of a year are in order, and between 88 and 95 days long. -/
import Derived.Test.YtlldmhnkaopjhaaDoorSeN
namespace Go.Proofs.YtlldmhnkaopjhaaDoor
open Go.RowKit
set_option linter.unusedSimpArgs false
set_option linter.unusedVariables false
/-- Bounds of an interval. -/
theorem seY_bd {q y : Int} (q0 : 0 ≤ q) (q1 : q ≤ 3) (h0 : -9100 ≤ y) (h1 : y ≤ 9100) : -320000000000000 ≤ (seY q y).1 ∧ (seY q y).1 ≤ (seY q y).2 ∧ (seY q y).2 ≤ 345000000000000 := by
  obtain ⟨B, c, C⟩ := se_find q0 q1 h0 h1
  have n := newY_ms h0 h1
  have a := C.l; have b := C.i1; have c' := C.i2; have d := C.u
  have e : seF (250000000 * q) (newY y * 86400000) = seY q y := rfl
  rw [e] at a b c' d
  have wa := wa_ok (b := seB (250000000 * q) (newY y * 86400000)) (by omega) (by unfold seB; omega)
  have n0 := wa.n0; have n1 := wa.n1
  unfold seLo at a
  unfold seHi at d
  omega
set_option maxRecDepth 100000 in
set_option maxHeartbeats 16000000 in
theorem seasonsInOrder_walk (a0 : Int) (w : World) (hT : SinT w) : Calls Tryd.prog 10 #[.int .i64 a0] w fun e w' => e = .returned (.bool true) ∧ Below w.heap.size w w' := by
  have HW := Lib.hid (seasonWorks_ok w hT)
  have HT := Lib.hid hT
  have A := Lib.hid (fun w => at_any a0 18000 w (by omega) (by omega))
  have ab : 0 ≤ a0 % 18000 ∧ a0 % 18000 < 18000 := by omega
  generalize a0 % 18000 = z at *
  obtain ⟨k, hk⟩ : ∃ k, k = z - 9000 := ⟨_, rfl⟩
  have ek : wrap64 (z - 9000) = k := by rw [hk]; exact IntWalk.wrap64_in _ (by omega)
  have kb1 : -9000 ≤ k := by omega
  have kb2 : k < 9000 := by omega
  obtain ⟨p, hp⟩ : ∃ p : Int → Int × Int, p = fun j => seY (j % 4) (k + j / 4) := ⟨_, rfl⟩
  have HF := Lib.hid (fun j (h1 : 0 ≤ j) (h2 : j ≤ 4) W (hT : SinT W) => show Calls Tryd.prog 25 #[.int .i64 (j % 4), .int .i64 (k + j / 4)] W fun e w' => e = .returned (.tuple #[.agg #[.int .i64 (p j).1, .int .i64 (p j).2], .int .i64 0]) ∧ Below W.heap.size W w' by
    rw [hp]; exact SFind_ok (j % 4) (k + j / 4) (by omega) (by omega) W hT)
  have HB0 := Lib.hid (fun j (h1 : 0 ≤ j) (h2 : j ≤ 4) => show -320000000000000 ≤ (p j).1 ∧ (p j).1 ≤ (p j).2 ∧ (p j).2 ≤ 345000000000000 by
    rw [hp]; exact seY_bd (by omega) (by omega) (by omega) (by omega))
  have HS := Lib.hid (fun j (h1 : 1 ≤ j) (h2 : j ≤ 4) => show 7603200000 ≤ (p j).1 - (p (j - 1)).2 ∧ (p j).2 - (p (j - 1)).1 ≤ 8208000000 by
    rw [hp]
    obtain ⟨-, c, C⟩ := se_find (q := (j - 1) % 4) (y := k + (j - 1) / 4) (by omega) (by omega) (by omega) (by omega)
    obtain ⟨-, c', C'⟩ := se_find (q := j % 4) (y := k + j / 4) (by omega) (by omega) (by omega) (by omega)
    exact se_step C C' (by omega))
  have F0 := Lib.hid (fun W (hT : SinT W) => show Calls Tryd.prog 25 #[.int .i64 0, .int .i64 k] W fun e w' => e = .returned (.tuple #[.agg #[.int .i64 (p 0).1, .int .i64 (p 0).2], .int .i64 0]) ∧ Below W.heap.size W w' by
    have h := HF.out 0 (by omega) (by omega) W hT
    have e0 : k + 0 / 4 = k := by omega
    rw [e0] at h
    exact h)
  obtain ⟨a, ha⟩ : ∃ a, a = (p 0).1 := ⟨_, rfl⟩
  obtain ⟨b, hb⟩ : ∃ b, b = (p 0).2 := ⟨_, rfl⟩
  rw [← ha, ← hb] at F0
  have HA := Lib.hid ha; have HBq := Lib.hid hb
  clear hT hp ha hb ab hk
  go_enter Tryd.func10, Tryd.ntmps10
  have HB := Lib.hid (Below.refl w.heap.size w)
  go_wp2_with fail
  refine Calls.mono (HW.out) ?_
  rintro e wc1 ⟨rfl, hb⟩
  replace HB := Lib.hid (HB.out.trans (hb.mono HB.out.size))
  clear hb
  go_wp2_with fail
  refine Calls.mono (A.out _) ?_
  rintro e wq ⟨rfl, hq⟩
  (first | rw [hq] | rw [← hq])
  clear hq
  go_wp2_with fail
  refine Calls.mono (F0.out _ (HT.out.below HB.out)) ?_
  rintro e wn1 ⟨rfl, hb⟩
  have HB1 := HB.out.trans (hb.mono HB.out.size)
  clear hb
  have Hkl1 := Lib.hid HB1.size; replace HB := Lib.hid (HB1.alloc HB1.size (.cells #[.int .i64 (a), .int .i64 (b)] 24))
  clear HB1
  have s1 := Lib.hid (SpBox.new wn1 (a) (b))
  obtain ⟨k1, hk1⟩ : ∃ x, x = wn1.heap.size := ⟨_, rfl⟩
  rw [← hk1] at s1 Hkl1
  go_upto_region 5 with fail
  rw [← hk1]
  obtain ⟨X1, hX1⟩ : ∃ X, X = wn1.alloc (.cells #[.int .i64 (a), .int .i64 (b)] 24) := ⟨_, rfl⟩
  rw [← hX1] at s1 HB ⊢
  clear hk1 hX1
  go_wp2_with fail
  go_loopw [5] (fun i wr => ∃ j : Int, i = .int .i64 j ∧ 1 ≤ j ∧ j ≤ 5 ∧ Hid (SpBox wr k1 (p (j - 1)).1 (p (j - 1)).2) ∧ Below w.heap.size w wr) (fun i _ => (5 - intOf i).toNat)
  case atStart => exact ⟨1, rfl, by omega, by omega, by have := s1.out; rw [HA.out, HBq.out] at this; exact Lib.hid this, HB.out⟩
  case round =>
    obtain ⟨j, rfl, j1, j2, hs2, hbl⟩ := hrel
    clear s1 HB
    by_cases c : j < 5
    · have f := Lib.hid (HF.out j (by omega) (by omega))
      have st := HS.out j (by omega) (by omega)
      have q1 := HB0.out j (by omega) (by omega)
      have q2 := HB0.out (j - 1) (by omega) (by omega)
      have ep : p (j + 1 - 1) = p j := by rw [show j + 1 - 1 = j by omega]
      have h2 := hs2.out
      obtain ⟨x, hx⟩ : ∃ x, x = (p j).1 := ⟨_, rfl⟩
      obtain ⟨y, hy⟩ : ∃ y, y = (p j).2 := ⟨_, rfl⟩
      obtain ⟨x', hx'⟩ : ∃ x, x = (p (j - 1)).1 := ⟨_, rfl⟩
      obtain ⟨y', hy'⟩ : ∃ y, y = (p (j - 1)).2 := ⟨_, rfl⟩
      rw [← hx, ← hy] at f q1 st
      rw [← hx'] at st q2 h2
      rw [← hy'] at st q2 h2
      have HX := Lib.hid (show p (j + 1 - 1) = (x, y) by rw [ep, hx, hy])
      obtain ⟨t1, t2⟩ := st
      have T2 := Lib.hid h2; have TB := Lib.hid hbl
      have v1 : ¬ x - y' < 7603200000 := by omega
      have v2 : ¬ 8208000000 < y - x' := by omega
      clear hx hy hx' hy' ep hs2 h2 hbl t1 t2
      go_wp2_with fail
      refine Calls.mono (f.out _ (HT.out.below TB.out)) ?_
      rintro e w3 ⟨rfl, hb⟩
      have V := TB.out.trans (hb.mono TB.out.size)
      have U2 := Lib.hid ((T2.out.below hb).alloc (.cells #[.int .i64 x, .int .i64 y] 24))
      have U3 := Lib.hid (SpBox.new w3 x y)
      have UB := Lib.hid (V.alloc V.size (.cells #[.int .i64 x, .int .i64 y] 24))
      obtain ⟨kk, hkk⟩ : ∃ k, k = w3.heap.size := ⟨_, rfl⟩
      rw [← hkk] at U3
      clear hb V T2 TB
      go_upto_region 9 with fail
      rw [← hkk]
      obtain ⟨Y, hY⟩ : ∃ Y, Y = w3.alloc (.cells #[.int .i64 x, .int .i64 y] 24) := ⟨_, rfl⟩
      rw [← hY] at U2 U3 UB ⊢
      clear hY hkk
      have d0 := U3.out.c0; have d1 := U3.out.c1
      have f0 := U2.out.c0; have f1 := U2.out.c1; have f2 := U2.out.free 0; have f3 := U2.out.free 1; have f4 := U2.out.lt
      have R2 := Lib.hid (U2.out.set x y)
      have RB := Lib.hid ((UB.out.setCell (p := ⟨k1, 0, none⟩) Hkl1.out (.int .i64 x)).setCell (p := ⟨k1, 1, none⟩) Hkl1.out (.int .i64 y))
      go_wp2_with fail
      go_roundw
      case rel => exact ⟨j + 1, rfl, by omega, by omega, by rw [HX.out]; exact R2, RB.out⟩
      case measure => simp [intOf]; omega
    · obtain rfl : j = 5 := by omega
      have HB2 := Lib.hid hbl
      clear hs2 hbl
      go_wp2_with fail
      go_ret
      exact ⟨rfl, HB2.out⟩
end Go.Proofs.YtlldmhnkaopjhaaDoor
