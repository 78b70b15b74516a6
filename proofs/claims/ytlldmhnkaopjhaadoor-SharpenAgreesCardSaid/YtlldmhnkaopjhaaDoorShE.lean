/- sharpen: Earlier. -/
import Derived.Test.YtlldmhnkaopjhaaDoorIval
import Derived.Test.YtlldmhnkaopjhaaDoorShW
namespace Go.Proofs.YtlldmhnkaopjhaaDoor
open Go.RowKit
set_option linter.unusedSimpArgs false
set_option linter.unusedVariables false
/-- What Earlier hands back. -/
def earF (a1 a2 b1 b2 : Int) : Int × Int := if a2 < b1 then (-1, 0) else if b2 < a1 then (1, 0) else (0, 11)
set_option maxRecDepth 100000 in
set_option maxHeartbeats 8000000 in
theorem Earlier_ok (a1 a2 b1 b2 : Int) (w : World) (ia : IvOk a1 a2) (ib : IvOk b1 b2) : Calls Tryd.prog 31 #[.agg #[.int .i64 a1, .int .i64 a2], .agg #[.int .i64 b1, .int .i64 b2]] w fun e w' => e = .returned (.tuple #[.int .i64 (earF a1 a2 b1 b2).1, .int .i64 (earF a1 a2 b1 b2).2]) ∧ Below w.heap.size w w' := by
  have i0 : ∀ w, (Instr.index 58 (.agg #[.int .i64 a1, .int .i64 a2, .int .i64 b1, .int .i64 b2]) (.int .i64 0)).run Tryd.prog w = .ok (.agg #[.int .i64 a1, .int .i64 a2]) w := fun _ => by kernel_rfl
  have i1 : ∀ w, (Instr.index 58 (.agg #[.int .i64 a1, .int .i64 a2, .int .i64 b1, .int .i64 b2]) (.int .i64 1)).run Tryd.prog w = .ok (.agg #[.int .i64 b1, .int .i64 b2]) w := fun _ => by kernel_rfl
  have K1 := Lib.hid (fun w => check_ok a1 a2 w ia)
  have K2 := Lib.hid (fun w => check_ok b1 b2 w ib)
  have HR := Lib.hid (show earF a1 a2 b1 b2 = if a2 < b1 then (-1, 0) else if b2 < a1 then (1, 0) else (0, 11) from rfl)
  generalize earF a1 a2 b1 b2 = r at *
  clear ia ib
  have HII := Lib.hid (And.intro i0 i1)
  clear i0 i1
  go_enter Tryd.func31, Tryd.ntmps31
  have HB := Lib.hid (Below.refl w.heap.size w)
  obtain ⟨k1, hk1⟩ : ∃ x, x = w.heap.size := ⟨_, rfl⟩
  have he2 : (w.alloc (.cells #[.int .i64 (a1), .int .i64 (a2)] 24)).heap.size = k1 + 1 := by simp [hk1]
  have s1 := (SpBox.new w (a1) (a2)).alloc (.cells #[.int .i64 (b1), .int .i64 (b2)] 24)
  rw [← hk1] at s1
  have Hkl1 := Lib.hid (show w.heap.size ≤ k1 by rw [hk1]; omega)
  have s2 := SpBox.new (w.alloc (.cells #[.int .i64 (a1), .int .i64 (a2)] 24)) (b1) (b2)
  rw [he2] at s2
  have Hkl2 := Lib.hid (show w.heap.size ≤ k1 + 1 by rw [hk1]; omega)
  go_upto_region 1 with fail
  (try rw [he2])
  rw [← hk1]
  obtain ⟨k2, hk2⟩ : ∃ x, x = k1 + 1 := ⟨_, rfl⟩
  rw [← hk2] at s2 Hkl2
  (try rw [← hk2])
  have Hd2_1 := Lib.hid (show k1 < k2 by omega)
  clear hk2
  have HBn := show Below w.heap.size w ((w.alloc (.cells #[.int .i64 (a1), .int .i64 (a2)] 24)).alloc (.cells #[.int .i64 (b1), .int .i64 (b2)] 24)) from (by repeat' (first | (with_reducible refine below_drewN ?_ _) | go_grown))
  obtain ⟨X2, hX2⟩ : ∃ X, X = ((w.alloc (.cells #[.int .i64 (a1), .int .i64 (a2)] 24)).alloc (.cells #[.int .i64 (b1), .int .i64 (b2)] 24)) := ⟨_, rfl⟩
  rw [← hX2] at s1 s2 HBn ⊢
  clear hX2 he2 HB
  replace s1 := Lib.hid s1
  replace s2 := Lib.hid s2
  have HB := Lib.hid HBn; have HK1 := Lib.hid hk1; clear HBn hk1
  have sc1_0 := s1.out.c0; have sc1_1 := s1.out.c1; have sc1_l := s1.out.lt
  have sc2_0 := s2.out.c0; have sc2_1 := s2.out.c1; have sc2_l := s2.out.lt
  have j0 := HII.out.1; have j1 := HII.out.2
  go_wp2_with fail
  clear sc1_0 sc1_1 sc1_l sc2_0 sc2_1 sc2_l
  go_loopw [12] (fun i wr => ∃ j : Nat, j ≤ 2 ∧ i = .int .i64 j ∧ Hid (SpBox wr k1 a1 a2) ∧ Hid (SpBox wr k2 b1 b2) ∧ Hid (Below w.heap.size w wr)) (fun i _ => 2 - (intOf i).toNat)
  case atStart => exact ⟨0, by omega, rfl, s1, s2, HB⟩
  case round =>
    clear s1 s2 HB
    obtain ⟨j, hj, rfl, s1, s2, HB⟩ := hrel
    obtain rfl | rfl | rfl : j = 0 ∨ j = 1 ∨ j = 2 := by omega
    · go_wp2_with fail
      refine Calls.mono (K1.out _) ?_
      rintro e wk ⟨rfl, hb⟩
      replace s1 := Lib.hid ((s1.out.alloc (.cells #[.int .i64 a1, .int .i64 a2] 24)).below hb)
      replace s2 := Lib.hid ((s2.out.alloc (.cells #[.int .i64 a1, .int .i64 a2] 24)).below hb)
      have al := HB.out.alloc HB.out.size (.cells #[.int .i64 a1, .int .i64 a2] 24)
      replace HB := Lib.hid (al.trans (hb.mono al.size))
      clear hb al
      go_wp2_with fail
      go_roundw
      case rel => exact ⟨1, by omega, by go_num, s1, s2, HB⟩
      case measure => simp [intOf]
    · go_wp2_with fail
      refine Calls.mono (K2.out _) ?_
      rintro e wk ⟨rfl, hb⟩
      replace s1 := Lib.hid ((s1.out.alloc (.cells #[.int .i64 b1, .int .i64 b2] 24)).below hb)
      replace s2 := Lib.hid ((s2.out.alloc (.cells #[.int .i64 b1, .int .i64 b2] 24)).below hb)
      have al := HB.out.alloc HB.out.size (.cells #[.int .i64 b1, .int .i64 b2] 24)
      replace HB := Lib.hid (al.trans (hb.mono al.size))
      clear hb al
      go_wp2_with fail
      go_roundw
      case rel => exact ⟨2, by omega, by go_num, s1, s2, HB⟩
      case measure => simp [intOf]
    · have f0 := s1.out.c0; have f1 := s1.out.c1; have f2 := s2.out.c0; have f3 := s2.out.c1
      have hr := HR.out
      by_cases c : a2 < b1
      · rw [if_pos c] at hr
        subst hr
        go_wp2_with fail
        go_ret2
        exact ⟨rfl, HB.out⟩
      · rw [if_neg c] at hr
        by_cases c' : b2 < a1
        · rw [if_pos c'] at hr
          subst hr
          go_wp2_with fail
          go_ret2
          exact ⟨rfl, HB.out⟩
        · rw [if_neg c'] at hr
          subst hr
          go_wp2_with fail
          go_ret2
          exact ⟨rfl, HB.out⟩
end Go.Proofs.YtlldmhnkaopjhaaDoor
