/- The contracts of package link. -/
import Derived.Test.YtmeppcoekmoofaaBase
namespace Go.Proofs.Ytmeppcoekmoofaa
open Go.RowKit
set_option linter.unusedSimpArgs false

/-- An exchange, as Go lays it. -/
def exV (s r lo hi : Int) : Value := .agg #[.int .i64 s, .int .i64 r, .int .i64 lo, .int .i64 hi]
/-- An interval, as Go lays it. -/
def spV (lo hi : Int) : Value := .agg #[.int .i64 lo, .int .i64 hi]

/-- An exchange that is permitted. -/
structure ExOk (s r lo hi : Int) : Prop where
  own : timesF s r = 0
  other : timesF lo hi = 0
  meet : hi - r ≤ lo - s
  b1 : -1000000000000000000 ≤ s ∧ s ≤ 1000000000000000000
  b2 : -1000000000000000000 ≤ r ∧ r ≤ 1000000000000000000
  b3 : -1000000000000000000 ≤ lo ∧ lo ≤ 1000000000000000000
  b4 : -1000000000000000000 ≤ hi ∧ hi ≤ 1000000000000000000

set_option maxHeartbeats 400000 in
theorem linkCheck_ok (s r lo hi : Int) (w : World) (h : ExOk s r lo hi) :
    Calls Try.prog 67 #[.agg #[.int .i64 s, .int .i64 r, .int .i64 lo, .int .i64 hi]] w fun e w' => e = .returned (.int .i64 0) ∧ Below w.heap.size w w' := by
  have H1 := Lib.hid h.own; have H2 := Lib.hid h.other
  clear h
  go_enter Try.func67, Try.ntmps67
  go_wp2_with fail
  refine Calls.mono (times_any _ _ _) ?_
  rintro e w1 ⟨rfl, hb⟩
  obtain ⟨hb1, hz1, hc1, hf1⟩ := took (w := w) (by repeat' (first | (with_reducible refine below_drewN ?_ _) | go_grown)) (by first | (simp only [World.size_alloc, World.size_setCell, World.size_drew, size_drewN]; done) | (simp only [World.size_alloc, World.size_setCell, World.size_drew, size_drewN]; rfl) | rfl) hb; clear hb
  rw [H1.out]
  go_wp2_with fail
  refine Calls.mono (times_any _ _ _) ?_
  rintro e w2 ⟨rfl, hb⟩
  obtain ⟨hb2, hz2, hc2, hf2⟩ := took (w := w) (by repeat' (first | (with_reducible refine below_drewN ?_ _) | go_grown)) (by first | (simp only [World.size_alloc, World.size_setCell, World.size_drew, size_drewN]; done) | (simp only [World.size_alloc, World.size_setCell, World.size_drew, size_drewN]; rfl) | rfl) hb; clear hb
  rw [H2.out]
  go_wp2_with fail
  go_returns
  exact ⟨rfl, by repeat' (first | (with_reducible refine below_drewN ?_ _) | go_grown)⟩

set_option maxHeartbeats 400000 in
theorem linkOffset_ok (s r lo hi : Int) (w : World) (h : ExOk s r lo hi) :
    Calls Try.prog 44 #[.agg #[.int .i64 s, .int .i64 r, .int .i64 lo, .int .i64 hi]] w fun e w' => e = .returned (.tuple #[.agg #[.int .i64 (hi - r), .int .i64 (lo - s)], .int .i64 0]) ∧ Below w.heap.size w w' := by
  obtain ⟨-, -, h1, ⟨h2, h3⟩, ⟨h4, h5⟩, ⟨h6, h7⟩, ⟨h8, h9⟩⟩ := id h
  go_enter Try.func44, Try.ntmps44
  go_wp2_with fail
  refine Calls.mono (linkCheck_ok _ _ _ _ _ h) ?_
  rintro e w1 ⟨rfl, hb⟩
  obtain ⟨hb1, hz1, hc1, hf1⟩ := took (w := w) (by repeat' (first | (with_reducible refine below_drewN ?_ _) | go_grown)) (by first | (simp only [World.size_alloc, World.size_setCell, World.size_drew, size_drewN]; done) | (simp only [World.size_alloc, World.size_setCell, World.size_drew, size_drewN]; rfl) | rfl) hb; clear hb
  have z0 : w.heap.size < w1.heap.size := by omega
  have z1 : w.heap.size + 1 < w1.heap.size := by omega
  go_wp2_with fail
  refine bodyPost_ret (v := .tuple #[.agg #[.int .i64 (hi - r), .int .i64 (lo - s)], .int .i64 0]) ?_ rfl ⟨rfl, (by repeat' (first | (with_reducible refine below_drewN ?_ _) | go_grown))⟩
  simp [results, Try.results44, go_sem, hc1, z1]



end Go.Proofs.Ytmeppcoekmoofaa
