/- SmearGrows, the walk: a smeared clock never goes back, and is never far from the one with leaps. -/
import Derived.Test.YtaemgglkdeklmaaSmearWorks
namespace Go.Proofs.Ytaemgglkdeklmaa
open Go.RowKit
set_option linter.unusedSimpArgs false
set_option linter.unusedVariables false

set_option maxHeartbeats 2000000 in
theorem smearGrows_walk (A : Option Addr) (n cap : Nat) (zs : List Int) (half0 a0 b0 : Int) (w : World) (hF : FlatSl w 1 A n cap zs) :
    Calls Try.prog 14 #[.slice A n cap, .int .i64 half0, .int .i64 a0, .int .i64 b0] w fun e w' => e = .returned (.bool true) ∧ Below w.heap.size w w' := by
  have m1 : 0 ≤ a0 % 777600000000 := by omega
  have m2 : a0 % 777600000000 < 777600000000 := by omega
  have m3 : 0 ≤ b0 % 100000 := by omega
  have m4 : b0 % 100000 < 100000 := by omega
  have m5 : 0 ≤ half0 % 43199001 := by omega
  have m6 : half0 % 43199001 < 43199001 := by omega
  obtain ⟨a, ha⟩ : ∃ t, t = a0 % 777600000000 := ⟨_, rfl⟩
  obtain ⟨b, hb⟩ : ∃ t, t = b0 % 100000 := ⟨_, rfl⟩
  obtain ⟨h, hh⟩ : ∃ t, t = half0 % 43199001 := ⟨_, rfl⟩
  have HA := Lib.hid ha; have HB := Lib.hid hb; have HH := Lib.hid hh
  rw [← ha] at m1 m2
  rw [← hb] at m3 m4
  rw [← hh] at m5 m6
  clear ha hb hh
  have H := Lib.hid hF; clear hF
  go_enter Try.func14, Try.ntmps14
  go_wp2_with fail
  refine Calls.mono (smearWorks_ok _) ?_
  rintro e w1 ⟨rfl, hb⟩
  obtain ⟨hb1, hz1, hc1, hf1⟩ := took (w := w) (by repeat' (first | (with_reducible refine below_drewN ?_ _) | go_grown)) (by first | (simp only [World.size_alloc, World.size_setCell, World.size_drew, size_drewN]; done) | (simp only [World.size_alloc, World.size_setCell, World.size_drew, size_drewN]; rfl) | rfl) hb; clear hb
  go_wp2_with fail
  have hF1 := H.out.keep (by omega) hb1
  refine Calls.mono (leaps_any _ _ _ _ _ hF1) ?_
  rintro e w2 ⟨v, rfl, hown, hb⟩
  obtain ⟨A2, cap2, rfl, hF2⟩ := own_flat hown
  have hL := leapNums_ok zs (min n 20) (Nat.min_le_right _ _)
  obtain ⟨hb2, hz2, hc2, hf2⟩ := took (w := w) (by repeat' (first | (with_reducible refine below_drewN ?_ _) | go_grown)) (by first | (simp only [World.size_alloc, World.size_setCell, World.size_drew, size_drewN]; done) | (simp only [World.size_alloc, World.size_setCell, World.size_drew, size_drewN]; rfl) | rfl) hb; clear hb
  clear hown hF1
  go_wp2_with fail
  refine Calls.mono (at_any _ _ _ (by omega) (by omega)) ?_
  rintro e _ ⟨rfl, rfl⟩
  rw [← HH.out]
  go_wp2_with fail
  refine Calls.mono (at_any _ _ _ (by omega) (by omega)) ?_
  rintro e _ ⟨rfl, rfl⟩
  rw [← HA.out]
  go_wp2_with fail
  refine Calls.mono (at_any _ _ _ (by omega) (by omega)) ?_
  rintro e _ ⟨rfl, rfl⟩
  rw [← HB.out]
  go_wp2_with fail
  refine Calls.mono (smear_ok _ _ _ _ _ _ _ hF2 hL (by omega) (by omega) (by omega) (by omega)) ?_
  rintro e w3 ⟨s, rfl, h1, hb⟩
  have hF3 := hF2.keep (by omega) hb
  obtain ⟨hb3, hz3, hc3, hf3⟩ := took (w := w) (by repeat' (first | (with_reducible refine below_drewN ?_ _) | go_grown)) (by first | (simp only [World.size_alloc, World.size_setCell, World.size_drew, size_drewN]; done) | (simp only [World.size_alloc, World.size_setCell, World.size_drew, size_drewN]; rfl) | rfl) hb; clear hb
  clear hF2
  have H1 := Lib.hid h1; clear h1
  go_wp2_with fail
  refine Calls.mono (smear_ok _ _ _ _ _ _ _ hF3 hL (by omega) (by omega) (by omega) (by omega)) ?_
  rintro e w4 ⟨t, rfl, h2, hb⟩
  have hF4 := hF3.keep (by omega) hb
  obtain ⟨hb4, hz4, hc4, hf4⟩ := took (w := w) (by repeat' (first | (with_reducible refine below_drewN ?_ _) | go_grown)) (by first | (simp only [World.size_alloc, World.size_setCell, World.size_drew, size_drewN]; done) | (simp only [World.size_alloc, World.size_setCell, World.size_drew, size_drewN]; rfl) | rfl) hb; clear hb
  clear hF3
  have g1 := smear_grows hL (by omega) (by omega) m3 H1.out h2
  have b1 := smIn_bounds hL (by omega) (by omega) (Nat.le_refl _) H1.out
  have b2 := smIn_bounds hL (by omega) (by omega) (Nat.le_refl _) h2
  clear h2
  go_wp2_with fail
  refine Calls.mono (instant_ok _ _ _ _ _ _ hF4 hL (by omega) (by omega)) ?_
  rintro e w5 ⟨u, x, rfl, h3, hb⟩
  obtain ⟨hb5, hz5, hc5, hf5⟩ := took (w := w) (by repeat' (first | (with_reducible refine below_drewN ?_ _) | go_grown)) (by first | (simp only [World.size_alloc, World.size_setCell, World.size_drew, size_drewN]; done) | (simp only [World.size_alloc, World.size_setCell, World.size_drew, size_drewN]; rfl) | rfl) hb; clear hb
  obtain ⟨g2, g3, -⟩ := smear_near hL (by omega) (by omega) h3 H1.out
  obtain ⟨i1, i2⟩ := inst_bounds hL h3 (by omega)
  clear h3 hF4 H1
  go_wp2_with fail
  go_returns
  exact ⟨ret_bool (by simp), (by repeat' (first | (with_reducible refine below_drewN ?_ _) | go_grown))⟩

end Go.Proofs.Ytaemgglkdeklmaa
