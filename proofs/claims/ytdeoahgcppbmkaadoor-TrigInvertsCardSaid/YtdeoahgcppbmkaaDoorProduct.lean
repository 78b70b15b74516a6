/- The contract of interval.Product. -/
import Derived.Test.YtdeoahgcppbmkaaDoorRatio
namespace Go.Proofs.YtdeoahgcppbmkaaDoor
open Go.RowKit
set_option linter.unusedSimpArgs false
set_option linter.unusedVariables false

/-- The least of the quotients so far, as the loop comes to it, and the greatest. -/
def loAt (a b c d k : Int) : Nat → Int
  | 0 => 0
  | 1 => min (a * c / k) (a * c / k)
  | 2 => min (min (a * c / k) (a * c / k)) (a * d / k)
  | 3 => min (min (min (a * c / k) (a * c / k)) (a * d / k)) (b * c / k)
  | _ => min (min (min (min (a * c / k) (a * c / k)) (a * d / k)) (b * c / k)) (b * d / k)
def hiAt (a b c d k : Int) : Nat → Int
  | 0 => 0
  | 1 => max (upQ (a * c) k) (upQ (a * c) k)
  | 2 => max (max (upQ (a * c) k) (upQ (a * c) k)) (upQ (a * d) k)
  | 3 => max (max (max (upQ (a * c) k) (upQ (a * c) k)) (upQ (a * d) k)) (upQ (b * c) k)
  | _ => max (max (max (max (upQ (a * c) k) (upQ (a * c) k)) (upQ (a * d) k)) (upQ (b * c) k)) (upQ (b * d) k)
def pLo (a b c d : Int) (k : Int) : Int := min (min (min (min (a * c / k) (a * c / k)) (a * d / k)) (b * c / k)) (b * d / k)
def pHi (a b c d : Int) (k : Int) : Int := max (max (max (max (upQ (a * c) k) (upQ (a * c) k)) (upQ (a * d) k)) (upQ (b * c) k)) (upQ (b * d) k)

set_option maxRecDepth 100000 in
set_option maxHeartbeats 8000000 in
theorem product_ok (a b c d : Int) (k : Nat) (w : World) (hk : 1 ≤ k) (hk' : k ≤ 1000000000000000000) (ha : -4000000000000000000 ≤ a ∧ a ≤ 4000000000000000000) (hb : -4000000000000000000 ≤ b ∧ b ≤ 4000000000000000000) (hc : -4000000000000000000 ≤ c ∧ c ≤ 4000000000000000000) (hd : -4000000000000000000 ≤ d ∧ d ≤ 4000000000000000000)
    (h0 : a.natAbs * c.natAbs ≤ 1000000000000000000) (h1 : a.natAbs * d.natAbs ≤ 1000000000000000000) (h2 : b.natAbs * c.natAbs ≤ 1000000000000000000) (h3 : b.natAbs * d.natAbs ≤ 1000000000000000000) :
    Calls Tryd.prog 101 #[.agg #[.int .i64 a, .int .i64 b], .agg #[.int .i64 c, .int .i64 d], .int .i64 k] w fun e w' => e = .returned (.agg #[.int .i64 (pLo a b c d k), .int .i64 (pHi a b c d k)]) ∧ Below w.heap.size w w' := by
  have i0 : ∀ w, (Instr.index 117 (.agg #[.int .i64 a, .int .i64 c, .int .i64 a, .int .i64 d, .int .i64 b, .int .i64 c, .int .i64 b, .int .i64 d]) (.int .i64 0)).run Tryd.prog w = .ok (.agg #[.int .i64 a, .int .i64 c]) w := fun _ => by kernel_rfl
  have i1 : ∀ w, (Instr.index 117 (.agg #[.int .i64 a, .int .i64 c, .int .i64 a, .int .i64 d, .int .i64 b, .int .i64 c, .int .i64 b, .int .i64 d]) (.int .i64 1)).run Tryd.prog w = .ok (.agg #[.int .i64 a, .int .i64 d]) w := fun _ => by kernel_rfl
  have i2 : ∀ w, (Instr.index 117 (.agg #[.int .i64 a, .int .i64 c, .int .i64 a, .int .i64 d, .int .i64 b, .int .i64 c, .int .i64 b, .int .i64 d]) (.int .i64 2)).run Tryd.prog w = .ok (.agg #[.int .i64 b, .int .i64 c]) w := fun _ => by kernel_rfl
  have i3 : ∀ w, (Instr.index 117 (.agg #[.int .i64 a, .int .i64 c, .int .i64 a, .int .i64 d, .int .i64 b, .int .i64 c, .int .i64 b, .int .i64 d]) (.int .i64 3)).run Tryd.prog w = .ok (.agg #[.int .i64 b, .int .i64 d]) w := fun _ => by kernel_rfl
  have v0 := fun w => ratio_ok a c k w hk hk' ha hc h0
  have v1 := fun w => ratio_ok a d k w hk hk' ha hd h1
  have v2 := fun w => ratio_ok b c k w hk hk' hb hc h2
  have v3 := fun w => ratio_ok b d k w hk hk' hb hd h3
  have V0 := Lib.hid v0; have V1 := Lib.hid v1; have V2 := Lib.hid v2; have V3 := Lib.hid v3
  clear v0 v1 v2 v3
  go_enter Tryd.func101, Tryd.ntmps101
  go_wp2_with fail
  go_loopw [33] (fun i wr => ∃ j : Nat, j ≤ 4 ∧ i = .int .i64 j ∧ wr.cell? ⟨w.heap.size + 1 + 1 + 1, 0, none⟩ = some (.int .i64 (loAt a b c d k j)) ∧ wr.cell? ⟨w.heap.size + 1 + 1 + 1, 1, none⟩ = some (.int .i64 (hiAt a b c d k j)) ∧
      wr.frozen? ⟨w.heap.size + 1 + 1 + 1, 0, none⟩ = false ∧ wr.frozen? ⟨w.heap.size + 1 + 1 + 1, 1, none⟩ = false ∧ wr.cell? ⟨w.heap.size + 1 + 1, 0, none⟩ = some (.int .i64 0) ∧ wr.cell? ⟨w.heap.size + 1 + 1, 1, none⟩ = some (.int .i64 0) ∧
      wr.frozen? ⟨w.heap.size + 1 + 1, 0, none⟩ = false ∧ wr.frozen? ⟨w.heap.size + 1 + 1, 1, none⟩ = false ∧ w.heap.size + 1 + 1 + 1 < wr.heap.size ∧ Below w.heap.size w wr)
    (fun i _ => 4 - (intOf i).toNat)
  case atStart => exact ⟨0, by omega, rfl, by simp [go_sem, loAt], by simp [go_sem, hiAt], by simp [go_sem], by simp [go_sem], by simp [go_sem], by simp [go_sem], by simp [go_sem], by simp [go_sem], by simp, (by repeat' (first | (with_reducible refine below_drewN ?_ _) | go_grown))⟩
  case round =>
    obtain ⟨j, hj, rfl, c0, c1, f0, f1, r0, r1, g0, g1, hz, hbw⟩ := hrel
    have hz2 : w.heap.size + 1 + 1 < wr.heap.size := by omega
    obtain rfl | rfl | rfl | rfl | rfl : j = 0 ∨ j = 1 ∨ j = 2 ∨ j = 3 ∨ j = 4 := by omega
    · go_wp2_with fail
      refine Calls.mono (V0.out _) ?_
      rintro e _ ⟨rfl, n0, rfl⟩
      go_wp2_with fail
      have E0 : ((wr.alloc (.cells #[.int .i64 a, .int .i64 c] 78)).drewN n0).cell? ⟨w.heap.size + 1 + 1 + 1, 0, none⟩ = some (.int .i64 (loAt a b c d k 0)) := by simp [go_sem, *]
      have E1 : ((wr.alloc (.cells #[.int .i64 a, .int .i64 c] 78)).drewN n0).cell? ⟨w.heap.size + 1 + 1 + 1, 1, none⟩ = some (.int .i64 (hiAt a b c d k 0)) := by simp [go_sem, *]
      exact ⟨⟨1, by omega, rfl, by first | (simp [go_sem, *, loAt]; done) | (simp only [loAt, Int.min_self]; exact (pair_cells (pair_cells E0 E1).1 (pair_cells E0 E1).2).1), by first | (simp [go_sem, *, hiAt]; done) | (simp only [hiAt, Int.max_self]; exact (pair_cells (pair_cells E0 E1).1 (pair_cells E0 E1).2).2), by simp [go_sem, *], by simp [go_sem, *], by simp [go_sem, *], by simp [go_sem, *], by simp [go_sem, *], by simp [go_sem, *], by simp; omega, (by repeat' (first | (with_reducible refine below_drewN ?_ _) | go_grown))⟩, by simp [intOf]⟩
    · go_wp2_with fail
      refine Calls.mono (V1.out _) ?_
      rintro e _ ⟨rfl, n0, rfl⟩
      go_wp2_with fail
      exact ⟨⟨2, by omega, rfl, by first | (simp [go_sem, *, loAt]; done) | (simp only [loAt, Int.min_self]; exact (pair_cells (pair_cells E0 E1).1 (pair_cells E0 E1).2).1), by first | (simp [go_sem, *, hiAt]; done) | (simp only [hiAt, Int.max_self]; exact (pair_cells (pair_cells E0 E1).1 (pair_cells E0 E1).2).2), by simp [go_sem, *], by simp [go_sem, *], by simp [go_sem, *], by simp [go_sem, *], by simp [go_sem, *], by simp [go_sem, *], by simp; omega, (by repeat' (first | (with_reducible refine below_drewN ?_ _) | go_grown))⟩, by simp [intOf]⟩
    · go_wp2_with fail
      refine Calls.mono (V2.out _) ?_
      rintro e _ ⟨rfl, n0, rfl⟩
      go_wp2_with fail
      exact ⟨⟨3, by omega, rfl, by first | (simp [go_sem, *, loAt]; done) | (simp only [loAt, Int.min_self]; exact (pair_cells (pair_cells E0 E1).1 (pair_cells E0 E1).2).1), by first | (simp [go_sem, *, hiAt]; done) | (simp only [hiAt, Int.max_self]; exact (pair_cells (pair_cells E0 E1).1 (pair_cells E0 E1).2).2), by simp [go_sem, *], by simp [go_sem, *], by simp [go_sem, *], by simp [go_sem, *], by simp [go_sem, *], by simp [go_sem, *], by simp; omega, (by repeat' (first | (with_reducible refine below_drewN ?_ _) | go_grown))⟩, by simp [intOf]⟩
    · go_wp2_with fail
      refine Calls.mono (V3.out _) ?_
      rintro e _ ⟨rfl, n0, rfl⟩
      go_wp2_with fail
      exact ⟨⟨4, by omega, rfl, by first | (simp [go_sem, *, loAt]; done) | (simp only [loAt, Int.min_self]; exact (pair_cells (pair_cells E0 E1).1 (pair_cells E0 E1).2).1), by first | (simp [go_sem, *, hiAt]; done) | (simp only [hiAt, Int.max_self]; exact (pair_cells (pair_cells E0 E1).1 (pair_cells E0 E1).2).2), by simp [go_sem, *], by simp [go_sem, *], by simp [go_sem, *], by simp [go_sem, *], by simp [go_sem, *], by simp [go_sem, *], by simp; omega, (by repeat' (first | (with_reducible refine below_drewN ?_ _) | go_grown))⟩, by simp [intOf]⟩
    · go_wp2_with fail
      refine bodyPost_ret (v := .agg #[.int .i64 (pLo a b c d k), .int .i64 (pHi a b c d k)]) ?_ rfl ⟨rfl, (by repeat' (first | (with_reducible refine below_drewN ?_ _) | go_grown))⟩
      simp [results, Tryd.results101, go_sem, r0, r1, loAt, hiAt, pLo, pHi]

end Go.Proofs.YtdeoahgcppbmkaaDoor
