/- seriesWorks. -/
import Derived.Test.YtdeoahgcppbmkaaDoorSmall
namespace Go.Proofs.YtdeoahgcppbmkaaDoor
open Go.RowKit
set_option linter.unusedSimpArgs false
set_option linter.unusedVariables false

theorem flat_set {w : World} {sz n cap : Nat} {A : Option Addr} {zs : List Int} (h : FlatSl w (sz + 1) A n cap zs) (a : Addr) (x : Value) (hA : ∀ q, A = some q → q.block ≠ a.block) : FlatSl (w.setCell a x) (sz + 1) A n cap zs := by
  refine ⟨h.le, h.most, h.len, fun hn => ?_⟩
  obtain ⟨b, off, rfl, hc⟩ := h.at' hn
  refine ⟨b, off, rfl, fun j hj => ?_⟩
  rw [World.cell?_setCell_far _ _ _ _ (by have := hA _ rfl; exact fun e => this e.symm)]
  exact hc j hj
theorem flat_nil (w : World) : FlatSl w 3 none 0 0 [] := ⟨by omega, by unfold maxLen; omega, rfl, fun h => absurd h (by omega)⟩
set_option maxRecDepth 100000 in
set_option maxHeartbeats 8000000 in
theorem seriesWorks_ok (w : World) (ht : SinT w) : Calls Tryd.prog 35 #[] w fun e w' => e = .returned (.bool true) ∧ Below w.heap.size w w' := by
  have A : ∀ W, Calls Tryd.prog 37 #[.agg #[.int .i64 5, .int .i64 2000000, .slice none 0 0, .int .i64 0], .int .i64 259200000] W fun e w' => e = .returned (.tuple #[.agg #[.int .i64 11, .int .i64 11], .int .i64 0]) ∧ Below W.heap.size W w' := fun W => by
    have h := Angle0_ok 5 2000000 0 259200000 W (by omega) (by omega) (by omega) (by decide)
    have e2 : a0Lo 5 2000000 0 259200000 = 11 := by decide
    have e3 : a0Hi 5 2000000 0 259200000 = 11 := by decide
    rw [e2, e3] at h
    exact h
  have V : ∀ W, SinT W → Calls Tryd.prog 77 #[.agg #[.int .i64 7, .int .i64 0, .slice none 0 0, .int .i64 2], .int .i64 0] W fun e w' => e = .returned (.tuple #[.agg #[.int .i64 5, .int .i64 9], .int .i64 0]) ∧ Below W.heap.size W w' := fun W hW =>
    Value_ok 7 0 2 0 none 0 0 [] W hW (flat_nil W) ⟨by omega, by omega, by omega, by omega, by omega, by omega, by omega, fun i hi => absurd hi (by omega)⟩ (by decide)
  have Bd : ∀ W A, FlatSl W 3 A 1 1 [-200000000, 0, 0] → Calls Tryd.prog 78 #[.agg #[.int .i64 0, .int .i64 0, .slice A 1 1, .int .i64 2]] W fun e w' => e = .returned (.tuple #[.int .i64 8, .int .i64 0]) ∧ Below W.heap.size W w' := fun W A hW => by
    have hT : ∀ i, i < 1 → TmOk [-200000000, 0, 0] i := fun i hi => by
      obtain rfl : i = 0 := by omega
      exact ⟨by decide, by decide, by decide, by decide, by decide, by decide⟩
    have h := Bound_ok 0 0 2 A 1 1 [-200000000, 0, 0] W hW ⟨by omega, by omega, by omega, by omega, by omega, by omega, by omega, hT⟩
    have e2 : bndSr 2 [-200000000, 0, 0] 1 = 8 := by decide
    rw [e2] at h
    exact h
  have HA := Lib.hid A; have HV := Lib.hid V; have HB := Lib.hid Bd; have HT := Lib.hid ht
  have H1 := Lib.hid (fun w => has_true 11 11 11 1 w (by omega) (by omega) (by omega) (by omega))
  have H2 := Lib.hid (fun w => has_true 5 9 9 4 w (by omega) (by omega) (by omega) (by omega))
  have H3 := Lib.hid (fun w => has_true 5 9 5 4 w (by omega) (by omega) (by omega) (by omega))
  clear A V Bd ht
  go_enter Tryd.func35, Tryd.ntmps35
  go_wp2_with fail
  refine Calls.mono (HA.out _) ?_
  rintro e w1 ⟨rfl, hb⟩
  have Hb1 := Lib.hid (hb.alloc hb.size (.cells #[.int .i64 11, .int .i64 11] 24))
  have T1 := Lib.hid (HT.out.below Hb1.out)
  have S1 := Lib.hid (SpBox.new w1 11 11)
  obtain ⟨k1, hk1⟩ : ∃ x, x = w1.heap.size := ⟨_, rfl⟩
  rw [← hk1] at S1
  clear hb
  go_wp2_with fail
  refine Calls.mono (HV.out _ T1.out) ?_
  rintro e w2 ⟨rfl, hb⟩
  rw [← hk1]
  clear hk1
  have Hb2 := Lib.hid (Hb1.out.trans (hb.mono Hb1.out.size))
  have S1' := Lib.hid (S1.out.below hb)
  have S2 := Lib.hid (SpBox.new w2 5 9)
  obtain ⟨k2, hk2⟩ : ∃ x, x = w2.heap.size := ⟨_, rfl⟩
  rw [← hk2] at S2
  have Hb3 := Lib.hid (Hb2.out.alloc Hb2.out.size (.cells #[.int .i64 5, .int .i64 9] 24))
  have S1b := Lib.hid (S1'.out.alloc (.cells #[.int .i64 5, .int .i64 9] 24))
  clear hb S1 S1' Hb1 T1
  go_upto_region 3 with fail
  rw [← hk2]
  obtain ⟨X, hX⟩ : ∃ X, X = w2.alloc (.cells #[.int .i64 5, .int .i64 9] 24) := ⟨_, rfl⟩
  rw [← hX] at S2 S1b Hb3 ⊢
  clear hX hk2
  have S1c := Lib.hid (S1b.out.alloc (.cells #[.int .i64 (-200000000), .int .i64 0, .int .i64 0] 87))
  have S2c := Lib.hid (S2.out.alloc (.cells #[.int .i64 (-200000000), .int .i64 0, .int .i64 0] 87))
  have Hb4 := Lib.hid (Hb3.out.alloc Hb3.out.size (.cells #[.int .i64 (-200000000), .int .i64 0, .int .i64 0] 87))
  have FL : FlatSl (X.alloc (.cells #[.int .i64 (-200000000), .int .i64 0, .int .i64 0] 87)) 3 (some ⟨X.heap.size, 0, none⟩) 1 1 [-200000000, 0, 0] := by
    refine ⟨by omega, by unfold maxLen; omega, rfl, fun _ => ⟨X.heap.size, 0, rfl, fun j hj => ?_⟩⟩
    rcases (by omega : j = 0 ∨ j = 1 ∨ j = 2) with rfl | rfl | rfl <;> (simp [go_sem]; rfl)
  have HFL := Lib.hid FL
  clear FL
  go_wp2_with fail
  refine Calls.mono (HB.out _ _ HFL.out) ?_
  rintro e w3 ⟨rfl, hb⟩
  have S1d := S1c.out.below hb
  have S2d := S2c.out.below hb
  have Hb5 := Lib.hid (Hb4.out.trans (hb.mono Hb4.out.size))
  have HS1 := Lib.hid S1d; have HS2 := Lib.hid S2d
  have p0 := S1d.c0; have p1 := S1d.c1; have pl := S1d.lt
  clear hb S1c S2c Hb4 HFL S1d S2d S1b S2 Hb3
  go_wp2_with fail
  refine Calls.mono (H1.out _) ?_
  rintro e w4 ⟨rfl, hb⟩
  have HS2' := Lib.hid (HS2.out.below hb)
  have Hb6 := Lib.hid (Hb5.out.trans (hb.mono Hb5.out.size))
  have q0 := HS2'.out.c0; have q1 := HS2'.out.c1; have ql := HS2'.out.lt
  clear hb p0 p1 pl
  go_wp2_with fail
  refine Calls.mono (H2.out _) ?_
  rintro e w5 ⟨rfl, hb⟩
  have HS3' := Lib.hid (HS2'.out.below hb)
  have Hb7 := Lib.hid (Hb6.out.trans (hb.mono Hb6.out.size))
  clear q0 q1 ql
  have q0 := HS3'.out.c0; have q1 := HS3'.out.c1; have ql := HS3'.out.lt
  clear hb
  go_wp2_with fail
  refine Calls.mono (H3.out _) ?_
  rintro e w6 ⟨rfl, hb⟩
  have Hb8 := Lib.hid (Hb7.out.trans (hb.mono Hb7.out.size))
  clear hb q0 q1 ql
  go_wp2_with fail
  go_ret
  exact ⟨rfl, Hb8.out⟩
end Go.Proofs.YtdeoahgcppbmkaaDoor
