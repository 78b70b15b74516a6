/- The contracts of smearWorks and smear.Offset. -/
import Derived.Test.YtmeppcoekmoofaaSmear
namespace Go.Proofs.Ytmeppcoekmoofaa
open Go.RowKit
set_option linter.unusedSimpArgs false
set_option linter.unusedVariables false

theorem smOne_ok : LeapOk [100, 1] 1 := by
  refine ⟨by omega, ?_, ?_, ?_, ?_⟩ <;> intro j hj <;> (obtain rfl : j = 0 := by omega) <;> simp [ix] at *

theorem smOne_in {out : Int} (h : SmIn [100, 1] 43200000 8726400500 1 out) : out = 8726400000 := by
  obtain ⟨k, hk, hp, h⟩ := h
  rcases Nat.eq_zero_or_pos k with rfl | h0
  · simp [sB, sW, nsum, ix] at h
    exact h
  · have := hp 0 h0
    simp [sB, sW, nsum, ix] at this

set_option maxHeartbeats 800000 in
theorem smearWorks_ok (w : World) : Calls Try.prog 21 #[] w fun e w' => e = .returned (.bool true) ∧ Below w.heap.size w w' := by
  go_enter Try.func21, Try.ntmps21
  go_wp2_with fail
  have hF : FlatSl (w.alloc (.cells #[.int .i64 100, .int .i64 1] 46)) 2 (some ⟨w.heap.size, 0, none⟩) 1 1 [100, 1] := by
    refine ⟨by omega, by simp [maxLen], rfl, fun _ => ⟨_, _, rfl, fun j hj => ?_⟩⟩
    match j, hj with
    | 0, _ => simp [go_sem, ix]
    | 1, _ => simp [go_sem, ix]
  refine Calls.mono (smear_ok _ _ _ _ _ _ _ hF smOne_ok (by omega) (by omega) (by omega) (by omega)) ?_
  rintro e w1 ⟨out, rfl, hi, hb⟩
  obtain rfl := smOne_in hi
  obtain ⟨hb1, hz1, hc1, hf1⟩ := took (w := w) (by repeat' (first | (with_reducible refine below_drewN ?_ _) | go_grown)) (by first | (simp only [World.size_alloc, World.size_setCell, World.size_drew, size_drewN]; done) | (simp only [World.size_alloc, World.size_setCell, World.size_drew, size_drewN]; rfl) | rfl) hb; clear hb
  go_wp2_with fail
  go_returns
  exact ⟨rfl, by repeat' (first | (with_reducible refine below_drewN ?_ _) | go_grown)⟩

def OffsetPost (zs : List Int) (half : Int) (n : Nat) (c : Int) (w : World) (e : Ending) (w' : World) : Prop :=
  ∃ out, e = .returned (.tuple #[.int .i64 (out - c), .int .i64 0]) ∧ SmIn zs half c n out ∧ Below w.heap.size w w'

set_option maxHeartbeats 800000 in
theorem offset_ok (A : Option Addr) (n cap : Nat) (zs : List Int) (half c : Int) (w : World) (h : FlatSl w 2 A n cap zs) (hL : LeapOk zs n) (h0 : 1000 ≤ half) (h1 : half ≤ 43200000) (hc0 : -100000 ≤ c) (hc1 : c ≤ 800000000000) :
    Calls Try.prog 25 #[.slice A n cap, .int .i64 half, .int .i64 c] w (OffsetPost zs half n c w) := by
  go_enter Try.func25, Try.ntmps25
  go_wp2_with fail
  refine Calls.mono (smear_ok _ _ _ _ _ _ _ h hL h0 h1 hc0 hc1) ?_
  rintro e w1 ⟨out, rfl, hi, hb⟩
  have ob := smIn_bounds hL h0 h1 (Nat.le_refl _) hi
  have HI := Lib.hid hi; clear hi
  go_wp2_with fail
  go_returns
  exact ⟨_, rfl, HI.out, hb⟩

end Go.Proofs.Ytmeppcoekmoofaa
