/- TrigRootSquares: the root of a square is the number. -/
import Derived.Test.YtloaliddcaobeaaDoorTrigWorks
import Derived.Test.YtloaliddcaobeaaDoorAt
namespace Go.Proofs.YtloaliddcaobeaaDoor
open Go.RowKit
set_option linter.unusedSimpArgs false
set_option linter.unusedVariables false
theorem rootSq {a b : Int} (ha : 0 ≤ a) (hab : a ≤ b) (hb : b ≤ 1000000000) : RootIs (a * a) (b * b) a b := by
  have h1 := Int.mul_self_le_mul_self ha hab
  have h2 := Int.mul_self_le_mul_self (show (0 : Int) ≤ b by omega) hb
  have h3 : (a + 1) * (a + 1) = a * a + 2 * a + 1 := by grind
  have h4 : (b - 1) * (b - 1) = b * b - 2 * b + 1 := by grind
  have h5 := Int.mul_nonneg ha ha
  exact ⟨h5, h1, by omega, ha, by omega, by omega, by omega, by omega, by omega⟩
set_option maxRecDepth 100000 in
set_option maxHeartbeats 4000000 in
theorem trigRootSquares_walk (n m : Int) (w : World) (ht : SinT w) : Calls Tryd.prog 11 #[.int .i64 n, .int .i64 m] w fun e w' => e = .returned (.bool true) ∧ Below w.heap.size w w' := by
  have HW := Lib.hid (trigWorks_ok w ht)
  have A1 := Lib.hid (fun w => at_any n 1000000000 w (by omega) (by omega))
  have A2 := Lib.hid (fun w => at_any m 1000000000 w (by omega) (by omega))
  have hn : 0 ≤ n % 1000000000 ∧ n % 1000000000 < 1000000000 := by omega
  have hm : 0 ≤ m % 1000000000 ∧ m % 1000000000 < 1000000000 := by omega
  generalize n % 1000000000 = x at *
  generalize m % 1000000000 = y at *
  obtain ⟨a, ha⟩ : ∃ a, a = min x y := ⟨_, rfl⟩
  obtain ⟨b, hb⟩ : ∃ b, b = max x y := ⟨_, rfl⟩
  have a0 : 0 ≤ a := by omega
  have ab : a ≤ b := by omega
  have b1 : b ≤ 1000000000 := by omega
  have R := rootSq a0 ab b1
  obtain ⟨a2, ha2⟩ : ∃ x, x = a * a := ⟨_, rfl⟩
  obtain ⟨b2, hb2⟩ : ∃ x, x = b * b := ⟨_, rfl⟩
  have wa : wrap64 (a * a) = a2 := by rw [ha2]; exact IntWalk.wrap64_in _ (by have := R.a0; have := R.ab; have := R.b1; omega)
  have wb : wrap64 (b * b) = b2 := by rw [hb2]; exact IntWalk.wrap64_in _ (by have := R.a0; have := R.ab; have := R.b1; omega)
  rw [← ha2, ← hb2] at R
  have HR := Lib.hid (fun w => troot_ok a2 b2 a b R w)
  clear R ha2 hb2 hn hm ht
  have ea : min x y = a := ha.symm
  have eb : max x y = b := hb.symm
  clear ha hb a0 ab b1
  go_enter Tryd.func11, Tryd.ntmps11
  have HB := Lib.hid (Below.refl w.heap.size w)
  go_wp2_with fail
  refine Calls.mono (HW.out) ?_
  rintro e wc1 ⟨rfl, hb⟩
  replace HB := Lib.hid (HB.out.trans (hb.mono HB.out.size))
  clear hb
  go_wp2_with fail
  refine Calls.mono (A1.out _) ?_
  rintro e wq ⟨rfl, hq⟩
  (first | rw [hq] | rw [← hq])
  clear hq
  go_wp2_with fail
  refine Calls.mono (A2.out _) ?_
  rintro e wq ⟨rfl, hq⟩
  (first | rw [hq] | rw [← hq])
  clear hq
  go_wp2_with fail
  refine Calls.mono (HR.out _) ?_
  rintro e wn1 ⟨rfl, hb⟩
  have HB1 := HB.out.trans (hb.mono HB.out.size)
  clear hb
  replace HB := Lib.hid (HB1.alloc HB1.size (.cells #[.int .i64 (a), .int .i64 (b)] 25))
  clear HB1
  have s1 := Lib.hid (SpBox.new wn1 (a) (b))
  obtain ⟨k1, hk1⟩ : ∃ x, x = wn1.heap.size := ⟨_, rfl⟩
  rw [← hk1] at s1
  go_upto_region 6 with fail
  rw [← hk1]
  obtain ⟨X1, hX1⟩ : ∃ X, X = wn1.alloc (.cells #[.int .i64 (a), .int .i64 (b)] 25) := ⟨_, rfl⟩
  rw [← hX1] at s1 HB ⊢
  clear hk1 hX1
  have sc1_0 := s1.out.c0; have sc1_1 := s1.out.c1; have sc1_l := s1.out.lt
  go_wp2_with fail
  go_ret
  exact ⟨rfl, HB.out⟩
end Go.Proofs.YtloaliddcaobeaaDoor
