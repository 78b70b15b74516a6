/- The contracts of interval's operations, where nothing is beyond the bounds. -/
import Derived.Test.YtdeoahgcppbmkaaDoorProduct
namespace Go.Proofs.YtdeoahgcppbmkaaDoor
open Go.RowKit
set_option linter.unusedSimpArgs false
set_option linter.unusedVariables false

/-- A valid interval. -/
structure IvOk (lo hi : Int) : Prop where
  l : -1000000000000000000 ≤ lo
  m : lo ≤ hi
  h : hi ≤ 1000000000000000000

theorem IvOk.chk {lo hi : Int} (h : IvOk lo hi) : chk lo hi = 0 := by
  obtain ⟨h1, h2, h3⟩ := h
  unfold Proofs.YtdeoahgcppbmkaaDoor.chk
  rw [if_neg (by omega), if_neg (by omega)]

theorem check_ok (lo hi : Int) (w : World) (h : IvOk lo hi) :
    Calls Tryd.prog 65 #[.agg #[.int .i64 lo, .int .i64 hi]] w fun e w' => e = .returned (.int .i64 0) ∧ Below w.heap.size w w' :=
  (check_any lo hi w).mono fun e w' q => ⟨by rw [q.1, h.chk], q.2⟩

set_option maxHeartbeats 400000 in
theorem both_ok (a b c d : Int) (w : World) (h : IvOk a b) (g : IvOk c d) :
    Calls Tryd.prog 99 #[.agg #[.int .i64 a, .int .i64 b], .agg #[.int .i64 c, .int .i64 d]] w fun e w' => e = .returned (.int .i64 0) ∧ Below w.heap.size w w' := by
  go_enter Tryd.func99, Tryd.ntmps99
  go_wp2_with fail
  refine Calls.mono (check_ok _ _ _ h) ?_
  rintro e w1 ⟨rfl, hb⟩
  obtain ⟨hb1, hz1, hc1, hf1⟩ := took (w := w) (by repeat' (first | (with_reducible refine below_drewN ?_ _) | go_grown)) (by first | (simp only [World.size_alloc, World.size_setCell, World.size_drew, size_drewN]; done) | (simp only [World.size_alloc, World.size_setCell, World.size_drew, size_drewN]; rfl) | rfl) hb; clear hb
  have z1 : w.heap.size + 1 < w1.heap.size := by omega
  go_wp2_with fail
  refine Calls.mono (check_ok _ _ _ g) ?_
  rintro e w2 ⟨rfl, hb⟩
  obtain ⟨hb2, hz2, hc2, hf2⟩ := took (w := w) (by repeat' (first | (with_reducible refine below_drewN ?_ _) | go_grown)) (by first | (simp only [World.size_alloc, World.size_setCell, World.size_drew, size_drewN]; done) | (simp only [World.size_alloc, World.size_setCell, World.size_drew, size_drewN]; rfl) | rfl) hb; clear hb
  go_wp2_with fail
  go_returns
  exact ⟨rfl, by repeat' (first | (with_reducible refine below_drewN ?_ _) | go_grown)⟩
set_option maxHeartbeats 400000 in
theorem made_ok (a b : Int) (w : World) (h : IvOk a b) :
    Calls Tryd.prog 100 #[.agg #[.int .i64 a, .int .i64 b]] w fun e w' => e = .returned (.tuple #[.agg #[.int .i64 a, .int .i64 b], .int .i64 0]) ∧ Below w.heap.size w w' := by
  go_enter Tryd.func100, Tryd.ntmps100
  go_wp2_with fail
  refine Calls.mono (check_ok _ _ _ h) ?_
  rintro e w1 ⟨rfl, hb⟩
  obtain ⟨hb1, hz1, hc1, hf1⟩ := took (w := w) (by repeat' (first | (with_reducible refine below_drewN ?_ _) | go_grown)) (by first | (simp only [World.size_alloc, World.size_setCell, World.size_drew, size_drewN]; done) | (simp only [World.size_alloc, World.size_setCell, World.size_drew, size_drewN]; rfl) | rfl) hb; clear hb
  have z0 : w.heap.size < w1.heap.size := by omega
  have z1 : w.heap.size + 1 < w1.heap.size := by omega
  go_wp2_with fail
  refine bodyPost_ret (v := .tuple #[.agg #[.int .i64 a, .int .i64 b], .int .i64 0]) ?_ rfl ⟨rfl, (by repeat' (first | (with_reducible refine below_drewN ?_ _) | go_grown))⟩
  simp [results, Tryd.results100, go_sem, hc1]



/-- Four products of bounds, all within the bounds. -/
structure MulOk (a b c d : Int) : Prop where
  p0 : a.natAbs * c.natAbs ≤ 1000000000000000000
  p1 : a.natAbs * d.natAbs ≤ 1000000000000000000
  p2 : b.natAbs * c.natAbs ≤ 1000000000000000000
  p3 : b.natAbs * d.natAbs ≤ 1000000000000000000

set_option maxHeartbeats 400000 in
theorem mul_ok (a b c d : Int) (w : World) (h : IvOk a b) (g : IvOk c d) (p : MulOk a b c d) (s : IvOk (pLo a b c d 1) (pHi a b c d 1)) :
    Calls Tryd.prog 63 #[.agg #[.int .i64 a, .int .i64 b], .agg #[.int .i64 c, .int .i64 d]] w fun e w' => e = .returned (.tuple #[.agg #[.int .i64 (pLo a b c d 1), .int .i64 (pHi a b c d 1)], .int .i64 0]) ∧ Below w.heap.size w w' := by
  obtain ⟨h1, h2, h3⟩ := id h
  obtain ⟨g1, g2, g3⟩ := id g
  go_enter Tryd.func63, Tryd.ntmps63
  go_wp2_with fail
  refine Calls.mono (both_ok _ _ _ _ _ h g) ?_
  rintro e w1 ⟨rfl, hb⟩
  obtain ⟨hb1, hz1, hc1, hf1⟩ := took (w := w) (by repeat' (first | (with_reducible refine below_drewN ?_ _) | go_grown)) (by first | (simp only [World.size_alloc, World.size_setCell, World.size_drew, size_drewN]; done) | (simp only [World.size_alloc, World.size_setCell, World.size_drew, size_drewN]; rfl) | rfl) hb; clear hb
  have z0 : w.heap.size < w1.heap.size := by omega
  have z1 : w.heap.size + 1 < w1.heap.size := by omega
  have z2 : w.heap.size + 1 + 1 < w1.heap.size := by omega
  go_wp2_with fail
  refine Calls.mono (product_ok a b c d 1 _ (by omega) (by omega) (by omega) (by omega) (by omega) (by omega) p.p0 p.p1 p.p2 p.p3) ?_
  rintro e w2 ⟨rfl, hb⟩
  obtain ⟨hb2, hz2, hc2, hf2⟩ := took (w := w) (by repeat' (first | (with_reducible refine below_drewN ?_ _) | go_grown)) (by first | (simp only [World.size_alloc, World.size_setCell, World.size_drew, size_drewN]; done) | (simp only [World.size_alloc, World.size_setCell, World.size_drew, size_drewN]; rfl) | rfl) hb; clear hb
  have y2 : w.heap.size + 1 + 1 < w2.heap.size := by omega
  go_wp2_with fail
  refine Calls.mono (made_ok _ _ _ s) ?_
  rintro e w3 ⟨rfl, hb⟩
  obtain ⟨hb3, hz3, hc3, hf3⟩ := took (w := w) (by repeat' (first | (with_reducible refine below_drewN ?_ _) | go_grown)) (by first | (simp only [World.size_alloc, World.size_setCell, World.size_drew, size_drewN]; done) | (simp only [World.size_alloc, World.size_setCell, World.size_drew, size_drewN]; rfl) | rfl) hb; clear hb
  have x2 : w.heap.size + 1 + 1 < w3.heap.size := by omega
  go_wp2_with fail
  refine bodyPost_ret (v := .tuple #[.agg #[.int .i64 (pLo a b c d 1), .int .i64 (pHi a b c d 1)], .int .i64 0]) ?_ rfl ⟨rfl, (by repeat' (first | (with_reducible refine below_drewN ?_ _) | go_grown))⟩
  simp [results, Tryd.results63, go_sem, hc1, hc2, hc3, z2, y2]
set_option maxHeartbeats 400000 in
theorem scale_ok (a b n : Int) (k : Nat) (w : World) (h : IvOk a b) (hn : -1000000000 ≤ n ∧ n ≤ 1000000000) (hk : 1 ≤ k) (hk' : k ≤ 1000000000) (p : MulOk a b n n) (s : IvOk (pLo a b n n k) (pHi a b n n k)) :
    Calls Tryd.prog 64 #[.agg #[.int .i64 a, .int .i64 b], .int .i64 n, .int .i64 k] w fun e w' => e = .returned (.tuple #[.agg #[.int .i64 (pLo a b n n k), .int .i64 (pHi a b n n k)], .int .i64 0]) ∧ Below w.heap.size w w' := by
  obtain ⟨h1, h2, h3⟩ := id h
  obtain ⟨n1, n2⟩ := hn
  have k1 : (1 : Int) ≤ k := by omega
  have k2 : (k : Int) ≤ 1000000000 := by omega
  go_enter Tryd.func64, Tryd.ntmps64
  go_wp2_with fail
  refine Calls.mono (check_ok _ _ _ h) ?_
  rintro e w1 ⟨rfl, hb⟩
  obtain ⟨hb1, hz1, hc1, hf1⟩ := took (w := w) (by repeat' (first | (with_reducible refine below_drewN ?_ _) | go_grown)) (by first | (simp only [World.size_alloc, World.size_setCell, World.size_drew, size_drewN]; done) | (simp only [World.size_alloc, World.size_setCell, World.size_drew, size_drewN]; rfl) | rfl) hb; clear hb
  have z0 : w.heap.size < w1.heap.size := by omega
  have z1 : w.heap.size + 1 < w1.heap.size := by omega
  go_wp2_with fail
  refine Calls.mono (product_ok a b n n k _ (by omega) (by omega) (by omega) (by omega) (by omega) (by omega) p.p0 p.p1 p.p2 p.p3) ?_
  rintro e w2 ⟨rfl, hb⟩
  obtain ⟨hb2, hz2, hc2, hf2⟩ := took (w := w) (by repeat' (first | (with_reducible refine below_drewN ?_ _) | go_grown)) (by first | (simp only [World.size_alloc, World.size_setCell, World.size_drew, size_drewN]; done) | (simp only [World.size_alloc, World.size_setCell, World.size_drew, size_drewN]; rfl) | rfl) hb; clear hb
  have y2 : w.heap.size + 1 < w2.heap.size := by omega
  go_wp2_with fail
  refine Calls.mono (made_ok _ _ _ s) ?_
  rintro e w3 ⟨rfl, hb⟩
  obtain ⟨hb3, hz3, hc3, hf3⟩ := took (w := w) (by repeat' (first | (with_reducible refine below_drewN ?_ _) | go_grown)) (by first | (simp only [World.size_alloc, World.size_setCell, World.size_drew, size_drewN]; done) | (simp only [World.size_alloc, World.size_setCell, World.size_drew, size_drewN]; rfl) | rfl) hb; clear hb
  have x2 : w.heap.size + 1 < w3.heap.size := by omega
  go_wp2_with fail
  refine bodyPost_ret (v := .tuple #[.agg #[.int .i64 (pLo a b n n k), .int .i64 (pHi a b n n k)], .int .i64 0]) ?_ rfl ⟨rfl, (by repeat' (first | (with_reducible refine below_drewN ?_ _) | go_grown))⟩
  simp [results, Tryd.results64, go_sem, hc1, hc2, hc3, z1, y2]
end Go.Proofs.YtdeoahgcppbmkaaDoor
