/- The contract of gauge.Check. -/
import Derived.Test.YtmeppcoekmoofaaSystem
namespace Go.Proofs.Ytmeppcoekmoofaa
open Go.RowKit
set_option linter.unusedSimpArgs false
set_option linter.unusedVariables false

set_option maxHeartbeats 400000 in
theorem inRange_true (a m : Int) (w : World) (hm : 0 ≤ m) (hm2 : m ≤ 1000000) (h1 : -m ≤ a) (h2 : a ≤ m) :
    Calls Try.prog 70 #[.int .i64 a, .int .i64 m] w fun e w' => e = .returned (.bool true) ∧ w = w' := by
  go_enter Try.func70, Try.ntmps70
  go_wp2_with fail
  go_returns
  exact ⟨rfl, rfl⟩

set_option maxHeartbeats 400000 in
theorem gcheck_nil (A Ah : Option Addr) (cap nh ch : Nat) (w : World) :
    Calls Try.prog 52 #[.slice A 0 cap, .slice Ah nh ch] w fun e w' => e = .returned (.int .i64 8) ∧ w = w' := by
  go_enter Try.func52, Try.ntmps52
  go_wp2_with fail
  go_returns
  exact ⟨rfl, rfl⟩

set_option maxRecDepth 100000 in
set_option maxHeartbeats 4000000 in
theorem gcheck_ok (rO oo rcap : Nat) (rb0 rc0 : Nat → Nat) (R : Gm) (m n : Nat) (Ah : Option Addr) (hcap : Nat) (hs : List Int) (w : World) (hM : GMat w rO oo m n rb0 rc0 R) (hH : FlatSl w 1 Ah m hcap hs) (hG : GRead R (ix hs) m n) (hrc : m ≤ rcap) :
    Calls Try.prog 52 #[.slice (some ⟨rO, oo, none⟩) m rcap, .slice Ah m hcap] w fun e w' => e = .returned (.int .i64 0) ∧ w = w' := by
  have m1 := hG.m1; have m8 := hG.m8; have n1 := hG.n1; have n3 := hG.n3
  obtain ⟨hb, ho, hA, hcell⟩ := hH.at' (by omega)
  subst hA
  have hhc := hH.le
  have c0 := hM.out 0 (by omega)
  rw [Nat.add_zero] at c0
  have q1 : 0 < m := m1
  have q2 : (m : Int) ≤ 8 := by omega
  have q3 : (n : Int) ≤ 3 := by omega
  have q4 : ((m : Int) == 0) = false := by simp; omega
  have q5 : (1 : Int) ≤ (n : Int) := by omega
  have HM := Lib.hid hM; have HG := Lib.hid hG; have HC := Lib.hid hcell
  obtain ⟨b0, hb0⟩ : ∃ x, x = rb0 0 := ⟨_, rfl⟩
  obtain ⟨d0, hd0⟩ : ∃ x, x = rc0 0 := ⟨_, rfl⟩
  rw [← hb0, ← hd0] at c0
  clear hM hH hG hcell hb0 hd0
  go_enter Try.func52, Try.ntmps52
  go_wp2_with fail
  go_loop [38] (fun k' => ∃ k : Nat, k ≤ m ∧ k' = .int .i64 k) (fun k' => m - (intOf k').toNat)
  case atStart => exact ⟨0, by omega, rfl⟩
  case round =>
    obtain ⟨k, hk, rfl⟩ := hrel
    by_cases hkm : k < m
    · have k0 : (0 : Int) ≤ (k : Int) := by omega
      have k1 : (k : Int) < (m : Int) := by omega
      have k2 : (k : Int) < (hcap : Int) := by omega
      have y0 := HM.out.out k hkm
      obtain ⟨rk, hrk⟩ : ∃ x, x = rb0 k := ⟨_, rfl⟩
      obtain ⟨ck, hck⟩ : ∃ x, x = rc0 k := ⟨_, rfl⟩
      have hcc := HM.out.cap k hkm
      rw [← hrk, ← hck] at y0
      rw [← hck] at hcc
      have HRK := Lib.hid hrk
      clear hrk hck
      go_wp2_with fail
      go_loop [52] (fun j' => ∃ j : Nat, j ≤ n ∧ j' = .int .i64 j) (fun j' => n - (intOf j').toNat)
      case atStart => exact ⟨0, by omega, rfl⟩
      case round =>
        obtain ⟨j, hj, rfl⟩ := hrel
        by_cases hjn : j < n
        · have j0 : (0 : Int) ≤ (j : Int) := by omega
          have j1 : (j : Int) < (n : Int) := by omega
          have y1 := HM.out.row k hkm j hjn
          have ru := HG.out.r k j hkm hjn
          rw [← HRK.out] at y1
          go_wp2_with fail
          refine Calls.mono (inRange_true _ _ _ (by omega) (by omega) ru.1 ru.2) ?_
          rintro e _ ⟨rfl, rfl⟩
          go_wp2_with fail
          go_round
          case rel => exact ⟨j + 1, by omega, by go_num⟩
          case measure => simp [intOf]; omega
        · obtain rfl : j = n := by omega
          have z0 := HC.out k (by omega)
          have rv := HG.out.h k hkm
          go_wp2_with fail
          refine Calls.mono (inRange_true _ _ _ (by omega) (by omega) rv.1 rv.2) ?_
          rintro e _ ⟨rfl, rfl⟩
          go_wp2_with fail
          go_round
          case rel => exact ⟨k + 1, by omega, by go_num⟩
          case measure => simp [intOf]; omega
    · obtain rfl : k = m := by omega
      go_wp2_with fail
      go_returns
      exact ⟨rfl, rfl⟩

end Go.Proofs.Ytmeppcoekmoofaa
