/- link.Best: the numbers that are in all offsets. Plain definitions, and the contract. -/
import Derived.Test.YtaemgglkdeklmaaLink
import Derived.Test.YtaemgglkdeklmaaLeap
import Derived.Test.YtaemgglkdeklmaaBox
namespace Go.Proofs.Ytaemgglkdeklmaa
open Go.RowKit
set_option linter.unusedSimpArgs false
set_option linter.unusedVariables false

def oLo (ys : List Int) (k : Nat) : Int := ix ys (k * 4 + 3) - ix ys (k * 4 + 1)
def oHi (ys : List Int) (k : Nat) : Int := ix ys (k * 4 + 2) - ix ys (k * 4)
def bLo (ys : List Int) : Nat → Int
  | 0 => oLo ys 0
  | k + 1 => max (bLo ys k) (oLo ys k)
def bHi (ys : List Int) : Nat → Int
  | 0 => oHi ys 0
  | k + 1 => min (bHi ys k) (oHi ys k)

/-- Exchanges that are permitted, whose offsets all hold the number t. -/
structure ExsOk (ys : List Int) (m : Nat) (t : Int) : Prop where
  few : m ≤ 20
  each : ∀ k, k < m → ExOk (ix ys (k * 4)) (ix ys (k * 4 + 1)) (ix ys (k * 4 + 2)) (ix ys (k * 4 + 3))
  has : ∀ k, k < m → oLo ys k ≤ t ∧ t ≤ oHi ys k

theorem bLo_le {ys : List Int} {m : Nat} {t : Int} (h : ExsOk ys m t) (h0 : 0 < m) (k : Nat) (hk : k ≤ m) : bLo ys k ≤ t ∧ t ≤ bHi ys k := by
  induction k with
  | zero => exact h.has 0 h0
  | succ k ih =>
    have h1 := ih (by omega)
    have h2 := h.has k (by omega)
    unfold bLo bHi
    omega
theorem bLo_each (ys : List Int) (k j : Nat) (hj : j < k) : oLo ys j ≤ bLo ys k ∧ bHi ys k ≤ oHi ys j := by
  induction k with
  | zero => omega
  | succ k ih =>
    unfold bLo bHi
    rcases Nat.lt_or_eq_of_le (Nat.le_of_lt_succ hj) with h1 | rfl
    · have := ih h1; omega
    · omega
theorem bLo_bounds {ys : List Int} {m : Nat} {t : Int} (h : ExsOk ys m t) (h0 : 0 < m) (k : Nat) (hk : k ≤ m) : -2000000000000000000 ≤ bLo ys k ∧ bLo ys k ≤ 2000000000000000000 ∧ -2000000000000000000 ≤ bHi ys k ∧ bHi ys k ≤ 2000000000000000000 := by
  induction k with
  | zero =>
    obtain ⟨-, -, -, a, b, c, d⟩ := h.each 0 h0
    unfold bLo bHi oLo oHi
    omega
  | succ k ih =>
    have h1 := ih (by omega)
    obtain ⟨-, -, -, a, b, c, d⟩ := h.each k (by omega)
    unfold bLo bHi oLo oHi
    omega

set_option maxRecDepth 100000 in
set_option maxHeartbeats 8000000 in
theorem linkBest_ok (A : Option Addr) (m cap : Nat) (ys : List Int) (t : Int) (w : World) (h : FlatSl w 4 A m cap ys) (hX : ExsOk ys m t) (h0 : 0 < m) :
    Calls Try.prog 19 #[.slice A m cap] w fun e w' => e = .returned (.tuple #[.agg #[.int .i64 (bLo ys m), .int .i64 (bHi ys m)], .int .i64 0]) ∧ Below w.heap.size w w' := by
  have hf := hX.few
  have H := Lib.hid h
  obtain ⟨b, off, hA, hcell⟩ := h.at' h0
  subst hA
  have hb := World.block_lt_of_cell? w _ (hcell 0 (by omega))
  simp at hb
  have HC := Lib.hid hcell; clear hcell h
  have q0 : ((m : Int) == 0) = false := by simp; omega
  go_enter Try.func19, Try.ntmps19
  go_wp2_with fail
  have B0 : SpBox ((w.alloc (.cells #[.int .i64 0, .int .i64 0] 25)).alloc (.cells #[.int .i64 0, .int .i64 0] 25)) w.heap.size 0 0 := (SpBox.new w 0 0).alloc _
  have B1 : SpBox ((w.alloc (.cells #[.int .i64 0, .int .i64 0] 25)).alloc (.cells #[.int .i64 0, .int .i64 0] 25)) (w.heap.size + 1) 0 0 := by
    have := SpBox.new (w.alloc (.cells #[.int .i64 0, .int .i64 0] 25)) 0 0
    simpa using this
  go_loopw [19] (fun i wr => ∃ (k : Nat) (x y : Int), k ≤ m ∧ i = .int .i64 k ∧ (0 < k → x = bLo ys k ∧ y = bHi ys k) ∧ SpBox wr w.heap.size 0 0 ∧ SpBox wr (w.heap.size + 1) x y ∧ Below w.heap.size w wr) (fun i _ => m - (intOf i).toNat)
  case atStart => exact ⟨0, 0, 0, by omega, rfl, fun h => by omega, B0, B1, (by repeat' (first | (with_reducible refine below_drewN ?_ _) | go_grown))⟩
  case round =>
    clear B0 B1
    obtain ⟨k, x, y, hk, rfl, hxy, b0, b1, hbw⟩ := hrel
    have HXY := Lib.hid hxy; clear hxy
    have hbs := hbw.size
    have lt1 := b1.lt
    have lt0 := b0.lt
    by_cases hlt : k < m
    · have c0 : wr.cell? ⟨b, off + k * 4, none⟩ = some (.int .i64 (ix ys (k * 4))) := (hbw.cell (p := ⟨b, off + k * 4, none⟩) hb).trans (HC.out (k * 4) (by omega))
      have c1 : wr.cell? ⟨b, off + k * 4 + 1, none⟩ = some (.int .i64 (ix ys (k * 4 + 1))) := (hbw.cell (p := ⟨b, off + k * 4 + 1, none⟩) hb).trans (HC.out (k * 4 + 1) (by omega))
      have c2 : wr.cell? ⟨b, off + k * 4 + 2, none⟩ = some (.int .i64 (ix ys (k * 4 + 2))) := (hbw.cell (p := ⟨b, off + k * 4 + 2, none⟩) hb).trans (HC.out (k * 4 + 2) (by omega))
      have c3 : wr.cell? ⟨b, off + k * 4 + 3, none⟩ = some (.int .i64 (ix ys (k * 4 + 3))) := (hbw.cell (p := ⟨b, off + k * 4 + 3, none⟩) hb).trans (HC.out (k * 4 + 3) (by omega))
      have hex := hX.each k hlt
      obtain ⟨s, hs⟩ : ∃ s, s = ix ys (k * 4) := ⟨_, rfl⟩
      obtain ⟨r, hr⟩ : ∃ r, r = ix ys (k * 4 + 1) := ⟨_, rfl⟩
      obtain ⟨lo, hlo⟩ : ∃ lo, lo = ix ys (k * 4 + 2) := ⟨_, rfl⟩
      obtain ⟨hi, hhi⟩ : ∃ hi, hi = ix ys (k * 4 + 3) := ⟨_, rfl⟩
      have hol : oLo ys k = hi - r := by unfold oLo; rw [hr, hhi]
      have hoh : oHi ys k = lo - s := by unfold oHi; rw [hs, hlo]
      rw [← hs, ← hr, ← hlo, ← hhi] at hex
      rw [← hs] at c0
      rw [← hr] at c1
      rw [← hlo] at c2
      rw [← hhi] at c3
      have HOL := Lib.hid hol; have HOH := Lib.hid hoh; have HEX := Lib.hid hex
      clear hs hr hlo hhi hol hoh hex
      go_wp2_with fail
      refine Calls.mono (linkOffset_ok _ _ _ _ _ HEX.out) ?_
      rintro e w1 ⟨rfl, hb1⟩
      have b0' := (b0.alloc (.cells #[.int .i64 s, .int .i64 r, .int .i64 lo, .int .i64 hi] 27)).below hb1
      have b1' := (b1.alloc (.cells #[.int .i64 s, .int .i64 r, .int .i64 lo, .int .i64 hi] 27)).below hb1
      have hb2 := (hbw.alloc hbs (.cells #[.int .i64 s, .int .i64 r, .int .i64 lo, .int .i64 hi] 27)).trans (hb1.mono (by simp; omega))
      have hbs2 := hb2.size
      have lt2 := b1'.lt
      have f0 := b1'.c0
      have f1 := b1'.c1
      have f2 := b1'.free 0
      have f3 := b1'.free 1
      have ne1 : w.heap.size + 1 ≠ w1.heap.size := by omega
      clear b0 b1 hb1 hbw c0 c1 c2 c3
      by_cases hk0 : k = 0
      · subst hk0
        go_wp2_with fail
        go_roundw
        case rel => exact ⟨1, hi - r, lo - s, by omega, rfl, fun _ => ⟨by unfold bLo bLo; rw [HOL.out]; omega, by unfold bHi bHi; rw [HOH.out]; omega⟩, ((((b0'.other (by simp) _).other (by simp) _).other (by simp) _).other (by simp) _).alloc _, ((b1'.set _ _).set _ _).alloc _, (by repeat' (first | (with_reducible refine below_drewN ?_ _) | go_grown))⟩
        case measure => simp [intOf]; omega
      · have q1 : ((k : Int) == 0) = false := by simp; omega
        go_wp2_with fail
        go_roundw
        case rel => exact ⟨k + 1, max x (hi - r), min y (lo - s), by omega, by go_num, fun _ => ⟨by unfold bLo; rw [HOL.out, (HXY.out (by omega)).1], by unfold bHi; rw [HOH.out, (HXY.out (by omega)).2]⟩, ((b0'.other (by simp) _).other (by simp) _).alloc _, (b1'.set _ _).alloc _, (by repeat' (first | (with_reducible refine below_drewN ?_ _) | go_grown))⟩
        case measure => simp [intOf]; omega
    · obtain rfl : k = m := by omega
      obtain ⟨hx, hy⟩ := HXY.out (by omega)
      have hle := bLo_le hX h0 k (Nat.le_refl _)
      rw [← hx, ← hy] at hle
      have q2 : ¬ y < x := by omega
      have f0 := b1.c0
      have f1 := b1.c1
      have f2 := b0.free 0
      have f3 := b0.free 1
      have f4 := b0.c0
      have f5 := b0.c1
      have HX := Lib.hid hx; have HY := Lib.hid hy
      clear hx hy
      go_wp2_with fail
      refine bodyPost_ret (v := .tuple #[.agg #[.int .i64 x, .int .i64 y], .int .i64 0]) ?_ rfl ⟨by rw [HX.out, HY.out], (by repeat' (first | (with_reducible refine below_drewN ?_ _) | go_grown))⟩
      simp [results, Try.results19, go_sem, f4, f5]

set_option maxHeartbeats 1000000 in
theorem linkBest_nil (A : Option Addr) (cap : Nat) (w : World) :
    Calls Try.prog 19 #[.slice A 0 cap] w fun e w' => e = .returned (.tuple #[.agg #[.int .i64 0, .int .i64 0], .int .i64 6]) ∧ Below w.heap.size w w' := by
  go_enter Try.func19, Try.ntmps19
  go_wp2_with fail
  refine bodyPost_ret (v := .tuple #[.agg #[.int .i64 0, .int .i64 0], .int .i64 6]) ?_ rfl ⟨rfl, (by repeat' (first | (with_reducible refine below_drewN ?_ _) | go_grown))⟩
  simp [results, Try.results19, go_sem]

end Go.Proofs.Ytaemgglkdeklmaa
