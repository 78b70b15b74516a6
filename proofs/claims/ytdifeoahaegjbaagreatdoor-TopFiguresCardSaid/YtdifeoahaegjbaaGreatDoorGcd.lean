/- The contracts of whole.size, whole.Gcd at numbers that are not the greatest. -/
import Derived.Test.YtdifeoahaegjbaaGreatDoorRows
import Derived.Test.YtdifeoahaegjbaaGreatDoorBasic
import Derived.Deep.QuietTactic
import Derived.BigQuiet
namespace Go.Proofs.YtdifeoahaegjbaaGreatDoor
open Go.RowKit
set_option linter.unusedSimpArgs false
set_option linter.unusedVariables false

set_option maxHeartbeats 1000000 in
theorem gsize_ok (a : Int) (w : World) (h0 : -1000000000000000000 ≤ a) (h1 : a ≤ 1000000000000000000) :
    Calls Tryz.prog 55 #[.int .i64 a] w fun e w' => e = .returned (.int .u64 (a.natAbs : Int)) ∧ w = w' := by
  by_cases hn : a < 0
  · go_enter Tryz.func55, Tryz.ntmps55
    go_wp2_with fail
    go_ret
    exact ⟨ret_int (by simp only [IntKind.wrap_u64]; omega), rfl⟩
  · have hn2 : ¬ a < 0 := hn
    have e : Hid (a = (a.natAbs : Int)) := Lib.hid (by omega)
    go_enter Tryz.func55, Tryz.ntmps55
    go_wp2_with fail
    go_ret
    exact ⟨ret_int e.out, rfl⟩

set_option maxHeartbeats 2000000 in
theorem gcd_ok (a b : Int) (w : World) (h0 : -1000000000000000000 ≤ a) (h1 : a ≤ 1000000000000000000) (h2 : -1000000000000000000 ≤ b) (h3 : b ≤ 1000000000000000000) :
    Calls Tryz.prog 36 #[.int .i64 a, .int .i64 b] w fun e w' => e = .returned (.tuple #[.int .i64 (Int.gcd a b : Int), .int .i64 0]) ∧ Below w.heap.size w w' := by
  go_enter Tryz.func36, Tryz.ntmps36
  go_wp2_with fail
  refine Calls.mono (gsize_ok _ _ h0 h1) ?_
  rintro e _ ⟨rfl, rfl⟩
  go_wp2_with fail
  refine Calls.mono (gsize_ok _ _ h2 h3) ?_
  rintro e _ ⟨rfl, rfl⟩
  have hg : Hid (Nat.gcd a.natAbs b.natAbs = Int.gcd a b) := Lib.hid rfl
  go_wp2_with fail
  go_loopw [6, 7] (fun x y wv => ∃ p q : Nat, x = .int .u64 p ∧ y = .int .u64 q ∧ p ≤ 1000000000000000000 ∧ q ≤ 1000000000000000000 ∧ Hid (Nat.gcd p q = Int.gcd a b) ∧ Below w.heap.size w wv) (fun _ y _ => (intOf y).toNat)
  case atStart => exact ⟨_, _, rfl, rfl, by omega, by omega, hg, Below.refl _ _⟩
  case round =>
    obtain ⟨p, q, rfl, rfl, hp, hq, hpq, hbw⟩ := hrel
    by_cases h : q = 0
    · subst h
      have hpe : Hid ((p : Int) = (Int.gcd a b : Int)) := Lib.hid (by have := hpq.out; rw [Nat.gcd_zero_right] at this; omega)
      have p0 : (p : Int) ≤ 9223372036854775807 := by omega
      go_wp2_with fail
      go_returns
      exact ⟨ret_ints2 hpe.out rfl, hbw⟩
    · have q0 : ((q : Int) != 0) = true := by simp; omega
      have q1 : ((q : Int) == 0) = false := by simp; omega
      have hm : (p : Int).tmod (q : Int) = ((p % q : Nat) : Int) := by rw [Int.tmod_eq_emod_of_nonneg (by omega)]; rfl
      have hl := Nat.mod_lt p (show 0 < q by omega)
      have hs : Hid (Nat.gcd q (p % q) = Int.gcd a b) := Lib.hid (by rw [← hpq.out, Nat.gcd_comm q, ← Nat.gcd_rec, Nat.gcd_comm])
      have hle := Nat.mod_le p q
      have HM := Lib.hid hm
      clear hm
      go_wp2_with fail
      go_quiet (fail)
      go_wp2_with fail
      refine ⟨⟨q, p % q, rfl, by rw [Int.natCast_emod], hq, by omega, hs, below_drewN hbw _⟩, ?_⟩
      have e1 : ((p : Int) % (q : Int)) = ((p % q : Nat) : Int) := rfl
      show ((p : Int) % (q : Int)).toNat < ((q : Nat) : Int).toNat
      rw [e1]
      omega

end Go.Proofs.YtdifeoahaegjbaaGreatDoor
