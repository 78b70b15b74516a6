/- series.size, series.grown. -/
import Derived.Test.YtdeoahgcppbmkaaDoorDiv64
import Derived.Test.YtdeoahgcppbmkaaDoorWhole
namespace Go.Proofs.YtdeoahgcppbmkaaDoor
open Go.RowKit
set_option linter.unusedSimpArgs false
set_option linter.unusedVariables false

theorem size_ok (n : Int) (w : World) (h : -9000000000000000000 ≤ n ∧ n ≤ 9000000000000000000) : Calls Tryd.prog 129 #[.int .i64 n] w fun e w' => e = .returned (.int .i64 (n.natAbs : Int)) ∧ w' = w := by
  have e1 : wrap64 (-n) = -n := IntWalk.wrap64_in _ (by omega)
  have e2 : max n (-n) = (n.natAbs : Int) := by omega
  have H := Lib.hid e2
  clear e2 h
  go_enter Tryd.func129, Tryd.ntmps129
  go_wp2
  go_ret
  exact ⟨ret_int H.out, rfl⟩
theorem grown_plain (a b : Int) (V : Nat) (hV : V = a.natAbs * b.natAbs) : ((a < 0 ↔ b < 0) → a * b = (V : Int)) ∧ (¬ (a < 0 ↔ b < 0) → a * b = -(V : Int)) := by
  have e : (V : Int) = ((a * b).natAbs : Int) := by rw [hV, Int.natAbs_mul]
  constructor
  · intro h
    have : 0 ≤ a * b := by
      by_cases ha : a < 0
      · exact Int.mul_nonneg_of_nonpos_of_nonpos (by omega) (by have := h.1 ha; omega)
      · exact Int.mul_nonneg (by omega) (by have : ¬ b < 0 := fun c => ha (h.2 c); omega)
    omega
  · intro h
    have : a * b ≤ 0 := by
      by_cases ha : a < 0
      · have hb : ¬ b < 0 := fun c => h ⟨fun _ => c, fun _ => ha⟩
        exact Int.mul_nonpos_of_nonpos_of_nonneg (by omega) (by omega)
      · have hb : b < 0 := by
          by_cases c : b < 0
          · exact c
          · exact absurd ⟨fun x => absurd x ha, fun x => absurd x c⟩ h
        exact Int.mul_nonpos_of_nonneg_of_nonpos (by omega) (by omega)
    omega
set_option maxRecDepth 100000 in
set_option maxHeartbeats 4000000 in
theorem grown_ok (a b : Int) (w : World) (ha : -4000000000000000 ≤ a ∧ a ≤ 4000000000000000) (hb : -350000000000000 ≤ b ∧ b ≤ 350000000000000) :
    Calls Tryd.prog 112 #[.int .i64 a, .int .i64 b] w fun e w' => e = .returned (.tuple #[.int .i64 (a * b / 86400000000000), .int .i64 (a * b % 86400000000000)]) ∧ Below w.heap.size w w' := by
  have S1 := Lib.hid (fun w => size_ok a w (by omega))
  have S2 := Lib.hid (fun w => size_ok b w (by omega))
  obtain ⟨A, hA⟩ : ∃ A, A = a.natAbs := ⟨_, rfl⟩
  obtain ⟨B, hB⟩ : ∃ B, B = b.natAbs := ⟨_, rfl⟩
  rw [← hA] at S1
  rw [← hB] at S2
  obtain ⟨V, hV⟩ : ∃ V, V = A * B := ⟨_, rfl⟩
  have hp := grown_plain a b V (by rw [hV, hA, hB])
  have A1 : A ≤ 4000000000000000 := by omega
  have B1 : B ≤ 350000000000000 := by omega
  have V1 : V ≤ 4000000000000000 * 350000000000000 := by rw [hV]; exact Nat.mul_le_mul A1 B1
  have M := Lib.hid (fun w => Tryd.bits_Mul64 A B (by omega) (by omega) w)
  rw [← hV] at M
  obtain ⟨hi, hhi⟩ : ∃ x : Int, x = ((V / 18446744073709551616 : Nat) : Int) := ⟨_, rfl⟩
  obtain ⟨lo, hlo⟩ : ∃ x : Int, x = ((V % 18446744073709551616 : Nat) : Int) := ⟨_, rfl⟩
  obtain ⟨q, hq⟩ : ∃ x : Int, (V : Int) / 86400000000000 = x := ⟨_, rfl⟩
  obtain ⟨r, hr⟩ : ∃ x : Int, (V : Int) % 86400000000000 = x := ⟨_, rfl⟩
  have D := Lib.hid (fun w => div64_ok 86400000000000 rfl V (by omega) hi lo hhi hlo q r hq hr w)
  rw [← hhi, ← hlo] at M
  have q0 : 0 ≤ q := by omega
  have q1 : q ≤ 20000000000000000 := by omega
  have r0 : 0 ≤ r := by omega
  have r1 : r < 86400000000000 := by omega
  obtain ⟨Q, hQ⟩ : ∃ x, x = a * b / 86400000000000 := ⟨_, rfl⟩
  obtain ⟨R, hR⟩ : ∃ x, x = a * b % 86400000000000 := ⟨_, rfl⟩
  rw [← hQ, ← hR]
  have w1 : IntKind.u64.wrap (A : Int) = (A : Int) := IntWalk.u64_in _ (by omega)
  have w2 : IntKind.u64.wrap (B : Int) = (B : Int) := IntWalk.u64_in _ (by omega)
  have same : (a < 0 ↔ b < 0) → Q = q ∧ R = r := fun h => by
    rw [hQ, hR, hp.1 h]; exact ⟨hq, hr⟩
  have diff : ¬ (a < 0 ↔ b < 0) → (r = 0 → Q = -q ∧ R = 0) ∧ (0 < r → Q = -q - 1 ∧ R = -r + 86400000000000) := fun h => by
    rw [hQ, hR, hp.2 h]
    omega
  clear hp hq hr hhi hlo hV V1 hA hB A1 B1 ha hb hQ hR
  have HS := Lib.hid same; have HD := Lib.hid diff
  clear same diff
  have fin1 : ∀ (e1 : Q = q) (e2 : R = r), Hid (Q = q ∧ R = r) := fun e1 e2 => Lib.hid ⟨e1, e2⟩
  have n1 : wrap64 (-q) = -q := IntWalk.wrap64_in _ (by omega)
  have n2 : wrap64 (-r) = -r := IntWalk.wrap64_in _ (by omega)
  have n3 : wrap64 (-q - 1) = -q - 1 := IntWalk.wrap64_in _ (by omega)
  have n4 : wrap64 (-r + 86400000000000) = -r + 86400000000000 := IntWalk.wrap64_in _ (by omega)
  clear fin1
  have fin : ∀ (x y : Int), Q = x → R = y → Hid (Q = x ∧ R = y) := fun x y h1 h2 => Lib.hid ⟨h1, h2⟩
  have HFIN := Lib.hid fin
  clear fin
  by_cases sa : a < 0
  · have da : decide (a < 0) = true := decide_eq_true sa
    by_cases sb : b < 0
    · have db : decide (b < 0) = true := decide_eq_true sb
      have HF := HFIN.out q r (HS.out ⟨fun _ => sb, fun _ => sa⟩).1 (HS.out ⟨fun _ => sb, fun _ => sa⟩).2
      have dr : decide (r < 0) = false := decide_eq_false (by omega)
      go_enter Tryd.func112, Tryd.ntmps112
      go_wp2_with fail
      refine Calls.mono (S1.out _) ?_
      rintro e _ ⟨rfl, rfl⟩
      go_wp2_with fail
      refine Calls.mono (S2.out _) ?_
      rintro e _ ⟨rfl, rfl⟩
      go_wp2_with fail
      refine Calls.mono (M.out _) ?_
      rintro e _ ⟨rfl, rfl⟩
      go_wp2_with fail
      refine Calls.mono (D.out _) ?_
      rintro e w1 ⟨rfl, hbl⟩
      go_wp2_with fail
      go_ret2
      exact ⟨ret_ints2 (HF.out).1.symm (HF.out).2.symm, hbl⟩
    · have db : decide (b < 0) = false := decide_eq_false sb
      have hno : ¬ (a < 0 ↔ b < 0) := fun h => sb (h.1 sa)
      by_cases hr : 0 < r
      · have HF := HFIN.out (-q - 1) (-r + 86400000000000) ((HD.out hno).2 hr).1 ((HD.out hno).2 hr).2
        have dr : decide (-r < 0) = true := decide_eq_true (by omega)
        clear hno
        go_enter Tryd.func112, Tryd.ntmps112
        go_wp2_with fail
        refine Calls.mono (S1.out _) ?_
        rintro e _ ⟨rfl, rfl⟩
        go_wp2_with fail
        refine Calls.mono (S2.out _) ?_
        rintro e _ ⟨rfl, rfl⟩
        go_wp2_with fail
        refine Calls.mono (M.out _) ?_
        rintro e _ ⟨rfl, rfl⟩
        go_wp2_with fail
        refine Calls.mono (D.out _) ?_
        rintro e w1 ⟨rfl, hbl⟩
        go_wp2_with fail
        go_ret2
        exact ⟨ret_ints2 (HF.out).1.symm (HF.out).2.symm, hbl⟩
      · obtain rfl : r = 0 := by omega
        have HF := HFIN.out (-q) 0 ((HD.out hno).1 rfl).1 ((HD.out hno).1 rfl).2
        clear hno
        go_enter Tryd.func112, Tryd.ntmps112
        go_wp2_with fail
        refine Calls.mono (S1.out _) ?_
        rintro e _ ⟨rfl, rfl⟩
        go_wp2_with fail
        refine Calls.mono (S2.out _) ?_
        rintro e _ ⟨rfl, rfl⟩
        go_wp2_with fail
        refine Calls.mono (M.out _) ?_
        rintro e _ ⟨rfl, rfl⟩
        go_wp2_with fail
        refine Calls.mono (D.out _) ?_
        rintro e w1 ⟨rfl, hbl⟩
        go_wp2_with fail
        go_ret2
        exact ⟨ret_ints2 (HF.out).1.symm (HF.out).2.symm, hbl⟩
  · have da : decide (a < 0) = false := decide_eq_false sa
    by_cases sb : b < 0
    · have db : decide (b < 0) = true := decide_eq_true sb
      have hno : ¬ (a < 0 ↔ b < 0) := fun h => sa (h.2 sb)
      by_cases hr : 0 < r
      · have HF := HFIN.out (-q - 1) (-r + 86400000000000) ((HD.out hno).2 hr).1 ((HD.out hno).2 hr).2
        have dr : decide (-r < 0) = true := decide_eq_true (by omega)
        clear hno
        go_enter Tryd.func112, Tryd.ntmps112
        go_wp2_with fail
        refine Calls.mono (S1.out _) ?_
        rintro e _ ⟨rfl, rfl⟩
        go_wp2_with fail
        refine Calls.mono (S2.out _) ?_
        rintro e _ ⟨rfl, rfl⟩
        go_wp2_with fail
        refine Calls.mono (M.out _) ?_
        rintro e _ ⟨rfl, rfl⟩
        go_wp2_with fail
        refine Calls.mono (D.out _) ?_
        rintro e w1 ⟨rfl, hbl⟩
        go_wp2_with fail
        go_ret2
        exact ⟨ret_ints2 (HF.out).1.symm (HF.out).2.symm, hbl⟩
      · obtain rfl : r = 0 := by omega
        have HF := HFIN.out (-q) 0 ((HD.out hno).1 rfl).1 ((HD.out hno).1 rfl).2
        clear hno
        go_enter Tryd.func112, Tryd.ntmps112
        go_wp2_with fail
        refine Calls.mono (S1.out _) ?_
        rintro e _ ⟨rfl, rfl⟩
        go_wp2_with fail
        refine Calls.mono (S2.out _) ?_
        rintro e _ ⟨rfl, rfl⟩
        go_wp2_with fail
        refine Calls.mono (M.out _) ?_
        rintro e _ ⟨rfl, rfl⟩
        go_wp2_with fail
        refine Calls.mono (D.out _) ?_
        rintro e w1 ⟨rfl, hbl⟩
        go_wp2_with fail
        go_ret2
        exact ⟨ret_ints2 (HF.out).1.symm (HF.out).2.symm, hbl⟩
    · have db : decide (b < 0) = false := decide_eq_false sb
      have HF := HFIN.out q r (HS.out ⟨fun h => absurd h sa, fun h => absurd h sb⟩).1 (HS.out ⟨fun h => absurd h sa, fun h => absurd h sb⟩).2
      have dr : decide (r < 0) = false := decide_eq_false (by omega)
      go_enter Tryd.func112, Tryd.ntmps112
      go_wp2_with fail
      refine Calls.mono (S1.out _) ?_
      rintro e _ ⟨rfl, rfl⟩
      go_wp2_with fail
      refine Calls.mono (S2.out _) ?_
      rintro e _ ⟨rfl, rfl⟩
      go_wp2_with fail
      refine Calls.mono (M.out _) ?_
      rintro e _ ⟨rfl, rfl⟩
      go_wp2_with fail
      refine Calls.mono (D.out _) ?_
      rintro e w1 ⟨rfl, hbl⟩
      go_wp2_with fail
      go_ret2
      exact ⟨ret_ints2 (HF.out).1.symm (HF.out).2.symm, hbl⟩
end Go.Proofs.YtdeoahgcppbmkaaDoor
