/- LeapGrows, the walk: instants grow with the count, but for inserted seconds. -/
import Derived.Test.YtaemgglkdeklmaaLeapWorks
namespace Go.Proofs.Ytaemgglkdeklmaa
open Go.RowKit
set_option linter.unusedSimpArgs false
set_option linter.unusedVariables false

set_option maxHeartbeats 2000000 in
theorem leapGrows_walk (A : Option Addr) (n cap : Nat) (zs : List Int) (a0 b0 : Int) (w : World) (hF : FlatSl w 1 A n cap zs) :
    Calls Try.prog 10 #[.slice A n cap, .int .i64 a0, .int .i64 b0] w fun e w' => e = .returned (.bool true) ∧ Below w.heap.size w w' := by
  have m1 : 0 ≤ a0 % 777600000000 := by omega
  have m2 : a0 % 777600000000 < 777600000000 := by omega
  have m3 : 0 ≤ b0 % 5000 := by omega
  have m4 : b0 % 5000 < 5000 := by omega
  obtain ⟨a, ha⟩ : ∃ t, t = a0 % 777600000000 := ⟨_, rfl⟩
  obtain ⟨b, hb⟩ : ∃ t, t = b0 % 5000 := ⟨_, rfl⟩
  have HA := Lib.hid ha; have HB := Lib.hid hb
  rw [← ha] at m1 m2
  rw [← hb] at m3 m4
  clear ha hb
  have H := Lib.hid hF; clear hF
  go_enter Try.func10, Try.ntmps10
  go_wp2_with fail
  refine Calls.mono (leapWorks_ok _) ?_
  rintro e w1 ⟨rfl, hb⟩
  obtain ⟨hb1, hz1, hc1, hf1⟩ := took (w := w) (by repeat' (first | (with_reducible refine below_drewN ?_ _) | go_grown)) (by first | (simp only [World.size_alloc, World.size_setCell, World.size_drew, size_drewN]; done) | (simp only [World.size_alloc, World.size_setCell, World.size_drew, size_drewN]; rfl) | rfl) hb; clear hb
  go_wp2_with fail
  have hF1 := H.out.keep (by omega) hb1
  refine Calls.mono (leaps_any _ _ _ _ _ hF1) ?_
  rintro e w2 ⟨v, rfl, hown, hb⟩
  obtain ⟨A2, cap2, rfl, hF2⟩ := own_flat hown
  have hL := leapNums_ok zs (min n 20) (Nat.min_le_right _ _)
  obtain ⟨hb2, hz2, hc2, hf2⟩ := took (w := w) (by repeat' (first | (with_reducible refine below_drewN ?_ _) | go_grown)) (by first | (simp only [World.size_alloc, World.size_setCell, World.size_drew, size_drewN]; done) | (simp only [World.size_alloc, World.size_setCell, World.size_drew, size_drewN]; rfl) | rfl) hb; clear hb
  clear hown hF1
  go_wp2_with fail
  refine Calls.mono (at_any _ _ _ (by omega) (by omega)) ?_
  rintro e _ ⟨rfl, rfl⟩
  rw [← HA.out]
  go_wp2_with fail
  refine Calls.mono (at_any _ _ _ (by omega) (by omega)) ?_
  rintro e _ ⟨rfl, rfl⟩
  rw [← HB.out]
  go_wp2_with fail
  refine Calls.mono (instant_ok _ _ _ _ _ _ hF2 hL (by omega) (by omega)) ?_
  rintro e w3 ⟨s, x, rfl, h1, hb⟩
  have hF3 := hF2.keep (by omega) hb
  obtain ⟨hb3, hz3, hc3, hf3⟩ := took (w := w) (by repeat' (first | (with_reducible refine below_drewN ?_ _) | go_grown)) (by first | (simp only [World.size_alloc, World.size_setCell, World.size_drew, size_drewN]; done) | (simp only [World.size_alloc, World.size_setCell, World.size_drew, size_drewN]; rfl) | rfl) hb; clear hb
  clear hF2
  go_wp2_with fail
  refine Calls.mono (instant_ok _ _ _ _ _ _ hF3 hL (by omega) (by omega)) ?_
  rintro e w4 ⟨t, y, rfl, h2, hb⟩
  obtain ⟨hb4, hz4, hc4, hf4⟩ := took (w := w) (by repeat' (first | (with_reducible refine below_drewN ?_ _) | go_grown)) (by first | (simp only [World.size_alloc, World.size_setCell, World.size_drew, size_drewN]; done) | (simp only [World.size_alloc, World.size_setCell, World.size_drew, size_drewN]; rfl) | rfl) hb; clear hb
  obtain ⟨g1, g2⟩ := inst_grows hL m3 (by omega) h1 h2
  obtain ⟨i1, i2⟩ := inst_bounds hL h1 (by omega)
  obtain ⟨i3, i4⟩ := inst_bounds hL h2 (by omega)
  have G2 := Lib.hid g2
  clear g2 h1 h2 hF3
  cases x <;> cases y
  all_goals
    go_wp2_with fail
    go_returns
    refine ⟨ret_bool ?_, (by repeat' (first | (with_reducible refine below_drewN ?_ _) | go_grown))⟩
    first | rfl | (have g3 : b - 1000 ≤ t - s := by simpa using G2.out
                   simpa using g3)

end Go.Proofs.Ytaemgglkdeklmaa
