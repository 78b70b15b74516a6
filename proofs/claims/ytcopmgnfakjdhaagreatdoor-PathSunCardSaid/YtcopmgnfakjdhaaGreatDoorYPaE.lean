/- pathWorks. -/
import Derived.Test.YtcopmgnfakjdhaaGreatDoorYPaT
import Derived.Test.YtcopmgnfakjdhaaGreatDoorYPaN
namespace Go.Proofs.YtcopmgnfakjdhaaGreatDoor
open Go.RowKit
set_option linter.unusedSimpArgs false
set_option linter.unusedVariables false
theorem tr_four : 4 ≤ trN 63070053545382 49 := by
  have h0 : (trC 63070053545382 24).e = 0 := by
    unfold trC
    rw [show (63070053545382 : Int) + (((24 : Nat) : Int) - 24) * 600000 = 63070053545382 by omega]
    exact pn_0
  have h1 : (trC 63070053545382 25).e = 0 := by
    unfold trC
    rw [show (63070053545382 : Int) + (((25 : Nat) : Int) - 24) * 600000 = 63070054145382 by omega]
    exact pn_1
  have h2 : (trC 63070053545382 26).e = 0 := by
    unfold trC
    rw [show (63070053545382 : Int) + (((26 : Nat) : Int) - 24) * 600000 = 63070054745382 by omega]
    exact pn_2
  have h3 : (trC 63070053545382 27).e = 0 := by
    unfold trC
    rw [show (63070053545382 : Int) + (((27 : Nat) : Int) - 24) * 600000 = 63070055345382 by omega]
    exact pn_3
  have a0 := trN_hit h0
  have a1 := trN_hit h1
  have a2 := trN_hit h2
  have a3 := trN_hit h3
  have m := trN_mono 63070053545382 (show 28 ≤ 49 by omega)
  rw [show 24 + 1 = 25 from rfl] at a0
  rw [show 25 + 1 = 26 from rfl] at a1
  rw [show 26 + 1 = 27 from rfl] at a2
  rw [show 27 + 1 = 28 from rfl] at a3
  generalize trN 63070053545382 49 = z at *
  generalize trN 63070053545382 28 = z4 at *
  generalize trN 63070053545382 27 = z3 at *
  generalize trN 63070053545382 26 = z2 at *
  generalize trN 63070053545382 25 = z1 at *
  generalize trN 63070053545382 24 = z0 at *
  omega
theorem tr_first : trE 24719 = 0 ∧ (ecF 24719 0).a = 63070053545382 := by
  obtain ⟨e0, e1, -, -, -⟩ := ew_0
  constructor
  · unfold trE; rw [if_pos e0, if_pos e1]
  · rw [(ec_a 24719 e0).1, pn_a]
theorem tr_next : trE 24720 = 6 := by
  obtain ⟨e0, e1⟩ := pn_q
  unfold trE
  rw [if_pos e0, if_neg (by omega)]
set_option maxRecDepth 100000 in
set_option maxHeartbeats 4000000 in
theorem pathWorks_ok (w : World) (hT : SinT w) : Calls Tryz.prog 20 #[] w fun e w' => e = .returned (.bool true) ∧ Below w.heap.size w w' := by
  have A : Hid (∀ W, SinT W → Calls Tryz.prog 39 #[.int .i64 24719] W fun e w' => ∃ a n c, e = .returned (.tuple #[.slice a n c, .int .i64 0]) ∧ 3 < n ∧ Below W.heap.size W w') := Lib.hid (fun W hT => (Track_ok 24719 (by omega) W hT).mono (fun e w' h => by
    obtain ⟨v, h1, h2, h3, h4⟩ := h
    obtain ⟨t1, t2⟩ := tr_first
    rw [t1] at h1 h3
    rw [t2] at h3
    obtain ⟨B, -, own⟩ := h3 rfl
    have f := tr_four
    generalize trN 63070053545382 49 = n at *
    generalize trP 63070053545382 49 = xs at *
    obtain ⟨g, cap, rfl⟩ : ∃ g cap, v = .slice (some ⟨g, 0, none⟩) n cap := by
      rcases own.2 with ⟨_, h0⟩ | ⟨g, cap, _, hv, _⟩
      · omega
      · exact ⟨g, cap, hv⟩
    exact ⟨_, n, cap, h1, by omega, h2⟩))
  have B : Hid (∀ W, SinT W → Calls Tryz.prog 39 #[.int .i64 24720] W fun e w' => ∃ v, e = .returned (.tuple #[v, .int .i64 6]) ∧ Below W.heap.size W w') := Lib.hid (fun W hT => (Track_ok 24720 (by omega) W hT).mono (fun e w' h => by
    obtain ⟨v, h1, h2, -, -⟩ := h
    rw [tr_next] at h1
    exact ⟨v, h1, h2⟩))
  have HT := Lib.hid hT
  clear hT
  go_enter Tryz.func20, Tryz.ntmps20
  go_wp2_with fail
  refine Calls.mono (A.out _ HT.out) ?_
  rintro e w1 ⟨a, n, c, rfl, hn, hb⟩
  have HB := Lib.hid hb
  have hn' : (3 : Int) < (n : Int) := by omega
  clear hb
  go_wp2_with fail
  refine Calls.mono (B.out _ (HT.out.below HB.out)) ?_
  rintro e w2 ⟨v, rfl, hb⟩
  have HB2 := Lib.hid (HB.out.trans (hb.mono HB.out.size))
  clear hb
  go_wp2_with fail
  go_ret
  exact ⟨rfl, HB2.out⟩
end Go.Proofs.YtcopmgnfakjdhaaGreatDoor
