/- Zones: the small functions (numbers, names, labels). -/
import Derived.Test.YtdifeoahaegjbaaDoorNBase
import Derived.Deep.QuietTactic
import Derived.BigQuiet
import Derived.Deep.DeepCutAuto
namespace Go.Proofs.YtdifeoahaegjbaaDoor
open Go.RowKit
set_option linter.unusedSimpArgs false
set_option linter.unusedVariables false

theorem tdiv_half (a b : Int) (hb : 2 ≤ b) (ha : -9223372036854775808 ≤ a) (ha' : a ≤ 9223372036854775807) : -4611686018427387904 ≤ a.tdiv b ∧ a.tdiv b ≤ 4611686018427387904 := by
  have h : (a.tdiv b).natAbs ≤ 4611686018427387904 := by
    rw [Int.natAbs_tdiv]
    exact Nat.le_trans (Nat.div_le_div_left (c := 2) (by omega) (by omega)) (by omega)
  omega

set_option maxHeartbeats 1000000 in
theorem div_all (a b : Int) (w : World) (hb : 2 ≤ b) (ha : -9223372036854775808 ≤ a) (ha' : a ≤ 9223372036854775807) (hb' : b ≤ 4000000000000000000) :
    Calls Tryd.prog 24 #[.int .i64 a, .int .i64 b] w fun e w' => e = .returned (.tuple #[.int .i64 (a / b), .int .i64 (a % b), .int .i64 0]) ∧ Below w.heap.size w w' := by
  have q1 := tdiv_half a b hb ha ha'
  have hw : IntKind.i64.wrap (a.tdiv b) = a.tdiv b := IntWalk.i64_in _ (by omega)
  have r1 : -b < a.tmod b := Int.lt_tmod_of_pos a (by omega)
  have r2 : a.tmod b < b := Int.tmod_lt_of_pos a (by omega)
  have hb1 : ¬ b = -1 := by omega
  have hb2 : (b == -1) = false := by simp [hb1]
  have hb3 : (b == 0) = false := by simp; omega
  have hb0 : decide (b < 0) = false := decide_eq_false (by omega)
  have key := Lib.hid (tdiv_key a b (by omega))
  obtain ⟨q, hq⟩ : ∃ q, (a == -9223372036854775808) = q := ⟨_, rfl⟩
  have HA := Lib.hid (And.intro ha ha')
  clear ha ha'
  cases q
  all_goals
    go_enter Tryd.func24, Tryd.ntmps24
    go_wp2
    go_quiet (fail)
    by_cases h0 : a.tmod b < 0
    · have h1 : (a.tmod b != 0) = true := by rw [bne_iff_ne]; omega
      go_wp2
      go_returns
      exact ⟨ret_tup3 (key.out.2 h0).1 (key.out.2 h0).2 rfl, (by repeat' (first | (with_reducible refine below_drewN ?_ _) | go_grown))⟩
    · go_wp2
      all_goals go_returns
      all_goals exact ⟨ret_tup3 (key.out.1 (by omega)).1 (by have := (key.out.1 (by omega)).2; omega) rfl, (by repeat' (first | (with_reducible refine below_drewN ?_ _) | go_grown))⟩

set_option maxHeartbeats 400000 in
theorem down_all (a b : Int) (w : World) (hb : 2 ≤ b) (ha : -9223372036854775808 ≤ a) (ha' : a ≤ 9223372036854775807) (hb' : b ≤ 4000000000000000000) :
    Calls Tryd.prog 42 #[.int .i64 a, .int .i64 b] w fun e w' => e = .returned (.int .i64 (a / b)) ∧ Below w.heap.size w w' := by
  go_enter Tryd.func42, Tryd.ntmps42
  go_wp2_with fail
  refine Calls.mono (div_all a b _ hb ha ha' hb') ?_
  rintro e w1 ⟨rfl, hbl⟩
  go_wp2_with fail
  go_ret
  exact ⟨rfl, hbl⟩
set_option maxHeartbeats 400000 in
theorem mod_all (a b : Int) (w : World) (hb : 2 ≤ b) (ha : -9223372036854775808 ≤ a) (ha' : a ≤ 9223372036854775807) (hb' : b ≤ 4000000000000000000) :
    Calls Tryd.prog 55 #[.int .i64 a, .int .i64 b] w fun e w' => e = .returned (.int .i64 (a % b)) ∧ Below w.heap.size w w' := by
  go_enter Tryd.func55, Tryd.ntmps55
  go_wp2_with fail
  refine Calls.mono (div_all a b _ hb ha ha' hb') ?_
  rintro e w1 ⟨rfl, hbl⟩
  go_wp2_with fail
  go_ret
  exact ⟨rfl, hbl⟩

def dayOk (n : Int) : Bool := decide (-4000000 ≤ n ∧ n ≤ 4000000)
def instOk (n : Int) : Bool := dayOk (n / 86400000)
def offOk (n : Int) : Bool := decide (n.tmod 1000 = 0 ∧ -64800000 ≤ n ∧ n ≤ 64800000)
set_option maxHeartbeats 1000000 in
theorem lineIs_ok (n : Int) (w : World) : Calls Tryd.prog 41 #[.int .i64 n] w fun e w' => e = .returned (.bool (dayOk n)) ∧ w' = w := by
  by_cases h1 : -4000000 ≤ n
  · by_cases h2 : n ≤ 4000000
    · have hd : dayOk n = true := decide_eq_true ⟨h1, h2⟩
      rw [hd]
      clear hd
      go_enter Tryd.func41, Tryd.ntmps41
      go_wp2_with fail
      go_ret
      exact ⟨rfl, rfl⟩
    · have hd : dayOk n = false := decide_eq_false (fun h => h2 h.2)
      rw [hd]
      clear hd
      go_enter Tryd.func41, Tryd.ntmps41
      go_wp2_with fail
      go_ret
      exact ⟨rfl, rfl⟩
  · have hd : dayOk n = false := decide_eq_false (fun h => h1 h.1)
    rw [hd]
    clear hd
    go_enter Tryd.func41, Tryd.ntmps41
    go_wp2_with fail
    go_ret
    exact ⟨rfl, rfl⟩
set_option maxHeartbeats 1000000 in
theorem isInst_ok (n : Int) (w : World) (h0 : -9223372036854775808 ≤ n) (h1 : n ≤ 9223372036854775807) : Calls Tryd.prog 30 #[.int .i64 n] w fun e w' => e = .returned (.bool (instOk n)) ∧ Below w.heap.size w w' := by
  go_enter Tryd.func30, Tryd.ntmps30
  go_wp2_with fail
  refine Calls.mono (down_all n 86400000 _ (by omega) h0 h1 (by omega)) ?_
  rintro e w1 ⟨rfl, hbl⟩
  go_wp2_with fail
  refine Calls.mono (lineIs_ok _ _) ?_
  rintro e _ ⟨rfl, rfl⟩
  go_wp2_with fail
  go_ret
  exact ⟨rfl, hbl⟩
set_option maxHeartbeats 1000000 in
theorem isOff_ok (n : Int) (w : World) : Calls Tryd.prog 27 #[.int .i64 n] w fun e w' => e = .returned (.bool (offOk n)) ∧ w' = w := by
  by_cases h0 : n.tmod 1000 = 0
  · by_cases h1 : -64800000 ≤ n
    · by_cases h2 : n ≤ 64800000
      · have hd : offOk n = true := decide_eq_true ⟨h0, h1, h2⟩
        rw [hd]
        clear hd
        go_enter Tryd.func27, Tryd.ntmps27
        go_wp2_with fail
        go_ret
        exact ⟨rfl, rfl⟩
      · have hd : offOk n = false := decide_eq_false (fun h => h2 h.2.2)
        rw [hd]
        clear hd
        go_enter Tryd.func27, Tryd.ntmps27
        go_wp2_with fail
        go_ret
        exact ⟨rfl, rfl⟩
    · have hd : offOk n = false := decide_eq_false (fun h => h1 h.2.1)
      rw [hd]
      clear hd
      go_enter Tryd.func27, Tryd.ntmps27
      go_wp2_with fail
      go_ret
      exact ⟨rfl, rfl⟩
  · have hd : offOk n = false := decide_eq_false (fun h => h0 h.1)
    rw [hd]
    clear hd
    go_enter Tryd.func27, Tryd.ntmps27
    go_wp2_with fail
    go_ret
    exact ⟨rfl, rfl⟩
end Go.Proofs.YtdifeoahaegjbaaDoor
