/- phase.Find, Number, phaseWorks. -/
import Derived.Test.YtcopmgnfakjdhaaGreatDoorNars
import Derived.Test.YtcopmgnfakjdhaaGreatDoorBasic
import Derived.Test.YtcopmgnfakjdhaaGreatDoorTrigA
namespace Go.Proofs.YtcopmgnfakjdhaaGreatDoor
open Go.RowKit
set_option linter.unusedSimpArgs false
set_option linter.unusedVariables false
set_option maxHeartbeats 1000000 in
theorem phRange_ok (k : Int) (hk : -100000 ≤ k ∧ k ≤ 100000) (w : World) : Calls Tryz.prog 50 #[.int .i64 k] w fun e w' => e = .returned (.bool true) ∧ w' = w := by
  obtain ⟨k1, k2⟩ := hk
  go_enter Tryz.func50, Tryz.ntmps50
  go_wp2
  go_returns
  exact ⟨rfl, rfl⟩
set_option maxRecDepth 100000 in
set_option maxHeartbeats 4000000 in
theorem PFind_ok (k q : Int) (hk : -100000 ≤ k ∧ k ≤ 100000) (hq : 0 ≤ q ∧ q ≤ 3) (w : World) (hT : SinT w) : Calls Tryz.prog 21 #[.int .i64 k, .int .i64 q] w fun e w' => e = .returned (.tuple #[.agg #[.int .i64 (phF k q).1, .int .i64 (phF k q).2], .int .i64 0]) ∧ Below w.heap.size w w' := by
  have F := Lib.hid (fun W (hT : SinT W) => phFind_ok k q (by omega) hq W hT)
  have R := Lib.hid (fun w => phRange_ok k hk w)
  obtain ⟨q1, q2⟩ := hq
  have HT := Lib.hid hT
  generalize (phF k q).1 = r1 at *
  generalize (phF k q).2 = r2 at *
  clear hT hk
  go_enter Tryz.func21, Tryz.ntmps21
  have HB := Lib.hid (Below.refl w.heap.size w)
  obtain ⟨k1, hk1⟩ : ∃ x, x = w.heap.size := ⟨_, rfl⟩
  have s1 := SpBox.new w (0) (0)
  rw [← hk1] at s1
  have Hkl1 := Lib.hid (show w.heap.size ≤ k1 by rw [hk1]; omega)
  go_upto_region 1 with fail
  rw [← hk1]
  have HBn := show Below w.heap.size w (w.alloc (.cells #[.int .i64 (0), .int .i64 (0)] 28)) from (by repeat' (first | (with_reducible refine below_drewN ?_ _) | go_grown))
  obtain ⟨X1, hX1⟩ : ∃ X, X = (w.alloc (.cells #[.int .i64 (0), .int .i64 (0)] 28)) := ⟨_, rfl⟩
  rw [← hX1] at s1 HBn ⊢
  clear hX1  HB
  replace s1 := Lib.hid s1
  have HB := Lib.hid HBn; have HK1 := Lib.hid hk1; clear HBn hk1
  go_wp2_with fail
  refine Calls.mono (R.out _) ?_
  rintro e wq ⟨rfl, hq⟩
  (first | rw [hq] | rw [← hq])
  clear hq
  go_wp2_with fail
  refine Calls.mono (F.out _ (HT.out.below HB.out)) ?_
  rintro e wf ⟨rfl, hb⟩
  replace s1 := Lib.hid (s1.out.below hb)
  replace HB := Lib.hid (HB.out.trans (hb.mono HB.out.size))
  clear hb
  have c1_0 := s1.out.c0; have c1_1 := s1.out.c1; have c1_f := s1.out.free 0; have c1_g := s1.out.free 1; have c1_l := s1.out.lt; have c1_k := Hkl1.out
  go_wp2_with fail
  refine bodyPost_ret (v := .tuple #[.agg #[.int .i64 r1, .int .i64 r2], .int .i64 0]) ?_ rfl ⟨rfl, ?_⟩
  · simp [results, Tryz.results21, go_sem, *]
  · exact (HB.out.setCell (p := ⟨k1, 0, none⟩) c1_k _).setCell (p := ⟨k1, 1, none⟩) c1_k _
set_option maxRecDepth 100000 in
set_option maxHeartbeats 8000000 in
theorem Number_ok (x k n : Int) (w : World) (hT : SinT w) (hin : instOk x = true) (hx : -345600000000000 ≤ x ∧ x ≤ 345686400000000) (hn : n = (x - 977949455) / 2551442878) (n1 : -99998 ≤ n) (n2 : n ≤ 99998) (hk1 : k ≤ n + 1) (hk2 : n - 3 ≤ k) (hgt : ∀ j, k < j → j ≤ n + 1 → x < (phF j 0).1) (r e : Int)
    (hr : ((phF k 0).1 ≤ x ∧ x ≤ (phF k 0).2 ∧ r = 0 ∧ e = 11) ∨ ((phF k 0).2 < x ∧ r = k ∧ e = 0)) :
    Calls Tryz.prog 40 #[.int .i64 x] w fun v w' => v = .returned (.tuple #[.int .i64 r, .int .i64 e]) ∧ Below w.heap.size w w' := by
  have F := Lib.hid (fun j (h1 : k ≤ j) (h2 : j ≤ n + 1) W (hT : SinT W) => phFind_ok j 0 (by omega) (by omega) W hT)
  have O := Lib.hid (fun j (h1 : k ≤ j) (h2 : j ≤ n + 1) => show (phF j 0).1 ≤ (phF j 0).2 by
    obtain ⟨c, C⟩ := ph_in (k := j) (q := 0) (by omega) (by omega) (by omega) (by omega)
    have := C.b; have := C.c; omega)
  have I := Lib.hid (fun w => hin ▸ isInst_ok x w (by omega) (by omega))
  have D := Lib.hid (fun w => hn ▸ down_all (x - 977949455) 2551442878 w (by omega) (by omega) (by omega) (by omega))
  have G := Lib.hid hgt
  have HR := Lib.hid hr
  have HT := Lib.hid hT
  obtain ⟨x1, x2⟩ := hx
  clear hgt hr hT hin hn
  go_enter Tryz.func40, Tryz.ntmps40
  go_wp2_with fail
  refine Calls.mono (I.out _) ?_
  rintro v w1 ⟨rfl, hb⟩
  have HB1 := Lib.hid hb
  clear hb
  go_wp2_with fail
  refine Calls.mono (D.out _) ?_
  rintro v w2 ⟨rfl, hb⟩
  have HB2 := Lib.hid (HB1.out.trans (hb.mono HB1.out.size))
  clear hb x1 x2
  go_wp2_with fail
  go_loopw [5] (fun i wr => ∃ j : Int, i = .int .i64 j ∧ k ≤ j ∧ j ≤ n + 1 ∧ Below w.heap.size w wr) (fun i _ => (intOf i - k).toNat)
  case atStart => exact ⟨n + 1, rfl, hk1, Int.le_refl _, HB2.out⟩
  case round =>
    obtain ⟨j, rfl, j1, j2, hbl⟩ := hrel
    have f := Lib.hid (F.out j j1 j2)
    have o := O.out j j1 j2
    have HB := Lib.hid hbl
    clear hbl
    have jb1 : -200000 ≤ j := by omega
    have jb2 : j ≤ 200000 := by omega
    by_cases c : j = k
    · subst c
      rcases HR.out with ⟨r1, r2, rfl, rfl⟩ | ⟨r1, rfl, rfl⟩
      · generalize (phF j 0).1 = a at *
        generalize (phF j 0).2 = b at *
        go_wp2_with fail
        refine Calls.mono (f.out _ (HT.out.below HB.out)) ?_
        rintro v w3 ⟨rfl, hb⟩
        have V := HB.out.trans (hb.mono HB.out.size)
        have HB3 := Lib.hid (V.alloc V.size (.cells #[.int .i64 a, .int .i64 b] 28))
        have S := SpBox.new w3 a b
        obtain ⟨kk, hkk⟩ : ∃ k, k = w3.heap.size := ⟨_, rfl⟩
        rw [← hkk] at S
        clear hb V
        go_upto_region 9 with fail
        rw [← hkk]
        obtain ⟨Y, hY⟩ : ∃ Y, Y = w3.alloc (.cells #[.int .i64 a, .int .i64 b] 28) := ⟨_, rfl⟩
        rw [← hY] at S HB3 ⊢
        clear hY hkk
        have u0 := S.c0; have u1 := S.c1
        go_wp2_with fail
        go_ret2
        exact ⟨rfl, HB3.out⟩
      · have na : ¬ x ≤ (phF r 0).2 := by omega
        have la : (phF r 0).1 ≤ x := by omega
        generalize (phF r 0).1 = a at *
        generalize (phF r 0).2 = b at *
        go_wp2_with fail
        refine Calls.mono (f.out _ (HT.out.below HB.out)) ?_
        rintro v w3 ⟨rfl, hb⟩
        have V := HB.out.trans (hb.mono HB.out.size)
        have HB3 := Lib.hid (V.alloc V.size (.cells #[.int .i64 a, .int .i64 b] 28))
        have S := SpBox.new w3 a b
        obtain ⟨kk, hkk⟩ : ∃ k, k = w3.heap.size := ⟨_, rfl⟩
        rw [← hkk] at S
        clear hb V
        go_upto_region 9 with fail
        rw [← hkk]
        obtain ⟨Y, hY⟩ : ∃ Y, Y = w3.alloc (.cells #[.int .i64 a, .int .i64 b] 28) := ⟨_, rfl⟩
        rw [← hY] at S HB3 ⊢
        clear hY hkk
        have u0 := S.c0; have u1 := S.c1
        go_wp2_with fail
        go_ret2
        exact ⟨rfl, HB3.out⟩
    · have g := G.out j (by omega) j2
      have na : ¬ (phF j 0).1 ≤ x := by omega
      have nb : ¬ (phF j 0).2 < x := by omega
      have HJ := Lib.hid (show k ≤ j - 1 by omega)
      have HJ2 := Lib.hid (show j - 1 ≤ n + 1 by omega)
      generalize (phF j 0).1 = a at *
      generalize (phF j 0).2 = b at *
      clear g o c j1 j2
      go_wp2_with fail
      refine Calls.mono (f.out _ (HT.out.below HB.out)) ?_
      rintro v w3 ⟨rfl, hb⟩
      have V := HB.out.trans (hb.mono HB.out.size)
      have HB3 := Lib.hid (V.alloc V.size (.cells #[.int .i64 a, .int .i64 b] 28))
      have S := SpBox.new w3 a b
      obtain ⟨kk, hkk⟩ : ∃ k, k = w3.heap.size := ⟨_, rfl⟩
      rw [← hkk] at S
      clear hb V
      go_upto_region 9 with fail
      rw [← hkk]
      obtain ⟨Y, hY⟩ : ∃ Y, Y = w3.alloc (.cells #[.int .i64 a, .int .i64 b] 28) := ⟨_, rfl⟩
      rw [← hY] at S HB3 ⊢
      clear hY hkk
      have u0 := S.c0; have u1 := S.c1
      go_wp2_with fail
      go_roundw
      case rel => exact ⟨j - 1, rfl, HJ.out, HJ2.out, HB3.out⟩
      case measure => have := HJ.out; simp [intOf]; omega
/-- The new moon of the first lunation. -/
theorem pw0 : (phF 0 0).1 ≤ 992260421 ∧ 992260421 ≤ (phF 0 0).2 := by decide +kernel
end Go.Proofs.YtcopmgnfakjdhaaGreatDoor
