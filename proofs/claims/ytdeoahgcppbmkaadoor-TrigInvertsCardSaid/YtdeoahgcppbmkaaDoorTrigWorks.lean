/- trigWorks. -/
import Derived.Test.YtdeoahgcppbmkaaDoorArcW
import Derived.Test.YtdeoahgcppbmkaaDoorRootW
import Derived.Test.YtdeoahgcppbmkaaDoorTrigS
import Derived.Test.YtdeoahgcppbmkaaDoorSkyLaw
namespace Go.Proofs.YtdeoahgcppbmkaaDoor
open Go.RowKit
set_option linter.unusedSimpArgs false
set_option linter.unusedVariables false
theorem twSin : sLo 125000000 = 707106781 ∧ sHi 125000000 = 707106782 := by decide +kernel
theorem twArc : arcLo 5 5 (-5) (-5) = 374999999 ∧ arcHi 5 5 (-5) (-5) = 375000001 := by decide +kernel
theorem arcOut_narrow {a b c d : Int} (h : ¬ 400000000 < arcHi a b c d - arcLo a b c d) : arcOut a b c d = .tuple #[.agg #[.int .i64 (arcLo a b c d % 1000000000), .int .i64 (arcLo a b c d % 1000000000 + arcHi a b c d - arcLo a b c d)], .int .i64 0] := if_neg h
set_option maxRecDepth 100000 in
set_option maxHeartbeats 8000000 in
theorem trigWorks_ok (w : World) (ht : SinT w) : Calls Tryd.prog 15 #[] w fun e w' => e = .returned (.bool true) ∧ Below w.heap.size w w' := by
  have S : ∀ W, SinT W → Calls Tryd.prog 16 #[.int .i64 125000000] W fun e w' => e = .returned (.tuple #[.agg #[.int .i64 707106781, .int .i64 707106782], .int .i64 0]) ∧ Below W.heap.size W w' := fun W hW => by
    have h := trSin_ok 125000000 W hW (by omega)
    rw [twSin.1, twSin.2] at h
    exact h
  have C : ∀ W, SinT W → Calls Tryd.prog 17 #[.int .i64 0] W fun e w' => e = .returned (.tuple #[.agg #[.int .i64 1000000000, .int .i64 1000000000], .int .i64 0]) ∧ Below W.heap.size W w' := fun W hW => by
    have h := trCos_ok 0 W hW (by omega)
    have e1 : cLo 0 = 1000000000 := by decide
    have e2 : cHi 0 = 1000000000 := by decide
    rw [e1, e2] at h
    exact h
  have A : ∀ W, Calls Tryd.prog 25 #[.agg #[.int .i64 5, .int .i64 5], .agg #[.int .i64 (-5), .int .i64 (-5)]] W fun e w' => e = .returned (.tuple #[.agg #[.int .i64 374999999, .int .i64 375000001], .int .i64 0]) ∧ Below W.heap.size W w' := fun W => by
    have h := Arc_ok 5 5 (-5) (-5) ⟨⟨by omega, by omega⟩, ⟨by omega, by omega⟩, ⟨by omega, by omega⟩, ⟨by omega, by omega⟩, by omega, by omega, by omega⟩ W
    rw [arcOut_narrow (by rw [twArc.1, twArc.2]; omega), twArc.1, twArc.2] at h
    exact h
  have R : ∀ W, Calls Tryd.prog 58 #[.agg #[.int .i64 2, .int .i64 9]] W fun e w' => e = .returned (.tuple #[.agg #[.int .i64 1, .int .i64 3], .int .i64 0]) ∧ Below W.heap.size W w' := fun W =>
    troot_ok 2 9 1 3 ⟨by omega, by omega, by omega, by omega, by omega, by omega, by omega, by omega, by omega⟩ W
  have HS := Lib.hid S; have HC := Lib.hid C; have HA := Lib.hid A; have HR := Lib.hid R; have HT := Lib.hid ht
  have H1 := Lib.hid (fun w => has_true 707106781 707106782 707106781 3 w (by omega) (by omega) (by omega) (by omega))
  have H2 := Lib.hid (fun w => has_true 374999999 375000001 375000000 3 w (by omega) (by omega) (by omega) (by omega))
  have H3 := Lib.hid (fun w => has_true 1000000000 1000000000 1000000000 3 w (by omega) (by omega) (by omega) (by omega))
  clear S C A R ht
  go_enter Tryd.func15, Tryd.ntmps15
  go_wp2_with fail
  refine Calls.mono (HS.out _ HT.out) ?_
  rintro e w1 ⟨rfl, hb⟩
  have Hb1 := Lib.hid (hb.alloc hb.size (.cells #[.int .i64 707106781, .int .i64 707106782] 24))
  have S1 := Lib.hid (SpBox.new w1 707106781 707106782)
  obtain ⟨k1, hk1⟩ : ∃ x, x = w1.heap.size := ⟨_, rfl⟩
  rw [← hk1] at S1
  clear hb
  go_wp2_with fail
  refine Calls.mono (HA.out _) ?_
  rintro e w2 ⟨rfl, hb⟩
  rw [← hk1]
  clear hk1
  have S1b := Lib.hid ((S1.out.below hb).alloc (.cells #[.int .i64 374999999, .int .i64 375000001] 24))
  have Hb2 := Hb1.out.trans (hb.mono Hb1.out.size)
  have Hb3 := Lib.hid (Hb2.alloc Hb2.size (.cells #[.int .i64 374999999, .int .i64 375000001] 24))
  have S2 := Lib.hid (SpBox.new w2 374999999 375000001)
  obtain ⟨k2, hk2⟩ : ∃ x, x = w2.heap.size := ⟨_, rfl⟩
  rw [← hk2] at S2
  clear hb S1 Hb1 Hb2
  go_wp2_with fail
  refine Calls.mono (HR.out _) ?_
  rintro e w3 ⟨rfl, hb⟩
  rw [← hk2]
  clear hk2
  have S1c := Lib.hid ((S1b.out.below hb).alloc (.cells #[.int .i64 1, .int .i64 3] 24))
  have S2c := Lib.hid ((S2.out.below hb).alloc (.cells #[.int .i64 1, .int .i64 3] 24))
  have Hb4 := Hb3.out.trans (hb.mono Hb3.out.size)
  have Hb5 := Lib.hid (Hb4.alloc Hb4.size (.cells #[.int .i64 1, .int .i64 3] 24))
  have S3 := Lib.hid (SpBox.new w3 1 3)
  obtain ⟨k3, hk3⟩ : ∃ x, x = w3.heap.size := ⟨_, rfl⟩
  rw [← hk3] at S3
  have T3 := Lib.hid (HT.out.below Hb5.out)
  clear hb S1b S2 Hb3 Hb4
  go_wp2_with fail
  refine Calls.mono (HC.out _ T3.out) ?_
  rintro e w4 ⟨rfl, hb⟩
  rw [← hk3]
  clear hk3
  have S1d := Lib.hid ((S1c.out.below hb).alloc (.cells #[.int .i64 1000000000, .int .i64 1000000000] 24))
  have S2d := Lib.hid ((S2c.out.below hb).alloc (.cells #[.int .i64 1000000000, .int .i64 1000000000] 24))
  have S3d := Lib.hid ((S3.out.below hb).alloc (.cells #[.int .i64 1000000000, .int .i64 1000000000] 24))
  have Hb6 := Hb5.out.trans (hb.mono Hb5.out.size)
  have Hb7 := Lib.hid (Hb6.alloc Hb6.size (.cells #[.int .i64 1000000000, .int .i64 1000000000] 24))
  have S4 := Lib.hid (SpBox.new w4 1000000000 1000000000)
  obtain ⟨k4, hk4⟩ : ∃ x, x = w4.heap.size := ⟨_, rfl⟩
  rw [← hk4] at S4
  clear hb S1c S2c S3 Hb5 Hb6 T3
  go_upto_region 5 with fail
  rw [← hk4]
  obtain ⟨X, hX⟩ : ∃ X, X = w4.alloc (.cells #[.int .i64 1000000000, .int .i64 1000000000] 24) := ⟨_, rfl⟩
  rw [← hX] at S1d S2d S3d S4 Hb7 ⊢
  clear hX hk4
  have p0 := S1d.out.c0; have p1 := S1d.out.c1; have pl := S1d.out.lt
  go_wp2_with fail
  refine Calls.mono (H1.out _) ?_
  rintro e w5 ⟨rfl, hb⟩
  have S2e := Lib.hid (S2d.out.below hb)
  have S3e := Lib.hid (S3d.out.below hb)
  have S4e := Lib.hid (S4.out.below hb)
  have Hb8 := Lib.hid (Hb7.out.trans (hb.mono Hb7.out.size))
  have q0 := S2e.out.c0; have q1 := S2e.out.c1; have ql := S2e.out.lt
  clear hb p0 p1 pl
  go_wp2_with fail
  refine Calls.mono (H2.out _) ?_
  rintro e w6 ⟨rfl, hb⟩
  have S3f := Lib.hid (S3e.out.below hb)
  have S4f := Lib.hid (S4e.out.below hb)
  have Hb9 := Lib.hid (Hb8.out.trans (hb.mono Hb8.out.size))
  clear hb q0 q1 ql
  have q0 := S3f.out.c0; have q1 := S3f.out.c1; have ql := S3f.out.lt
  have r0 := S4f.out.c0; have r1 := S4f.out.c1; have rl := S4f.out.lt
  go_wp2_with fail
  refine Calls.mono (H3.out _) ?_
  rintro e w7 ⟨rfl, hb⟩
  have Hb10 := Lib.hid (Hb9.out.trans (hb.mono Hb9.out.size))
  clear hb q0 q1 ql r0 r1 rl
  go_wp2_with fail
  go_ret
  exact ⟨rfl, Hb10.out⟩
end Go.Proofs.YtdeoahgcppbmkaaDoor
