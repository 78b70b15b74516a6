/- LeapBack, the walk: Instant inverts Count. -/
import Derived.Test.YtaemgglkdeklmaaLeapWorks
namespace Go.Proofs.Ytaemgglkdeklmaa
open Go.RowKit
set_option linter.unusedSimpArgs false
set_option linter.unusedVariables false

set_option maxHeartbeats 2000000 in
theorem leapBack_walk (A : Option Addr) (n cap : Nat) (zs : List Int) (t0 : Int) (w : World) (hF : FlatSl w 1 A n cap zs) :
    Calls Try.prog 9 #[.slice A n cap, .int .i64 t0] w fun e w' => e = .returned (.bool true) ∧ Below w.heap.size w w' := by
  have m1 : 0 ≤ t0 % 777600000000 := by omega
  have m2 : t0 % 777600000000 < 777600000000 := by omega
  obtain ⟨t, ht⟩ : ∃ t, t = t0 % 777600000000 := ⟨_, rfl⟩
  have HT := Lib.hid ht
  rw [← ht] at m1 m2
  clear ht
  have H := Lib.hid hF; clear hF
  go_enter Try.func9, Try.ntmps9
  go_wp2_with fail
  refine Calls.mono (leapWorks_ok _) ?_
  rintro e w1 ⟨rfl, hb⟩
  obtain ⟨hb1, hz1, hc1, hf1⟩ := took (w := w) (by repeat' (first | (with_reducible refine below_drewN ?_ _) | go_grown)) (by first | (simp only [World.size_alloc, World.size_setCell, World.size_drew, size_drewN]; done) | (simp only [World.size_alloc, World.size_setCell, World.size_drew, size_drewN]; rfl) | rfl) hb; clear hb
  go_wp2_with fail
  have hF1 := H.out.keep (by omega) hb1
  refine Calls.mono (leaps_any _ _ _ _ _ hF1) ?_
  rintro e w2 ⟨v, rfl, hown, hb⟩
  obtain ⟨A2, cap2, rfl, hF2⟩ := own_flat hown
  have hL := leapNums_ok zs (min n 20) (Nat.min_le_right _ _)
  obtain ⟨hb2, hz2, hc2, hf2⟩ := took (w := w) (by repeat' (first | (with_reducible refine below_drewN ?_ _) | go_grown)) (by first | (simp only [World.size_alloc, World.size_setCell, World.size_drew, size_drewN]; done) | (simp only [World.size_alloc, World.size_setCell, World.size_drew, size_drewN]; rfl) | rfl) hb; clear hb
  clear hown hF1
  go_wp2_with fail
  refine Calls.mono (at_any _ _ _ (by omega) (by omega)) ?_
  rintro e _ ⟨rfl, rfl⟩
  rw [← HT.out]
  go_wp2_with fail
  by_cases hg : NoGap (leapNums zs (min n 20)) (t / 86400000) (t % 86400000) (min n 20)
  · have lb := lsum_bounds hL (t / 86400000) _ (Nat.le_refl _)
    refine Calls.mono (count_ok _ _ _ _ _ _ hF2 hL (by omega) (by omega) hg) ?_
    rintro e w3 ⟨rfl, hb⟩
    have hF3 := hF2.keep (by omega) hb
    obtain ⟨hb3, hz3, hc3, hf3⟩ := took (w := w) (by repeat' (first | (with_reducible refine below_drewN ?_ _) | go_grown)) (by first | (simp only [World.size_alloc, World.size_setCell, World.size_drew, size_drewN]; done) | (simp only [World.size_alloc, World.size_setCell, World.size_drew, size_drewN]; rfl) | rfl) hb; clear hb
    clear hF2
    go_wp2_with fail
    refine Calls.mono (instant_ok _ _ _ _ _ _ hF3 hL (by omega) (by omega)) ?_
    rintro e w4 ⟨out, is, rfl, hi, hb⟩
    obtain ⟨rfl, rfl⟩ := inst_back hL hg hi
    obtain ⟨hb4, hz4, hc4, hf4⟩ := took (w := w) (by repeat' (first | (with_reducible refine below_drewN ?_ _) | go_grown)) (by first | (simp only [World.size_alloc, World.size_setCell, World.size_drew, size_drewN]; done) | (simp only [World.size_alloc, World.size_setCell, World.size_drew, size_drewN]; rfl) | rfl) hb; clear hb
    go_wp2_with fail
    go_returns
    exact ⟨rfl, by repeat' (first | (with_reducible refine below_drewN ?_ _) | go_grown)⟩
  · refine Calls.mono (count_gap _ _ _ _ _ _ hF2 hL (by omega) (by omega) hg) ?_
    rintro e w3 ⟨rfl, hb⟩
    obtain ⟨hb3, hz3, hc3, hf3⟩ := took (w := w) (by repeat' (first | (with_reducible refine below_drewN ?_ _) | go_grown)) (by first | (simp only [World.size_alloc, World.size_setCell, World.size_drew, size_drewN]; done) | (simp only [World.size_alloc, World.size_setCell, World.size_drew, size_drewN]; rfl) | rfl) hb; clear hb
    go_wp2_with fail
    go_returns
    exact ⟨rfl, by repeat' (first | (with_reducible refine below_drewN ?_ _) | go_grown)⟩

end Go.Proofs.Ytaemgglkdeklmaa
