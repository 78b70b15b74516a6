/- SmearApart, the walk: farther than half from all leaps, a smeared clock is the one with leaps. -/
import Derived.Test.YtmeppcoekmoofaaSmearWorks
namespace Go.Proofs.Ytmeppcoekmoofaa
open Go.RowKit
set_option linter.unusedSimpArgs false
set_option linter.unusedVariables false

/-- An instant that is far from the first k leaps. -/
def FarFrom (zs : List Int) (half u : Int) (k : Nat) : Prop := ∀ j, j < k → ¬ (u - (ix zs (j * 2) + 1) * 86400000 < half + 2000 ∧ -half - 2000 < u - (ix zs (j * 2) + 1) * 86400000)
theorem farFrom_step {zs : List Int} {half u : Int} {k : Nat} (h : Hid (FarFrom zs half u k)) (hk : ¬ (u - (ix zs (k * 2) + 1) * 86400000 < half + 2000 ∧ -half - 2000 < u - (ix zs (k * 2) + 1) * 86400000)) : FarFrom zs half u (k + 1) := by
  intro j hj
  rcases Nat.lt_or_eq_of_le (Nat.le_of_lt_succ hj) with h1 | rfl
  · exact h.out j h1
  · exact hk

set_option maxRecDepth 100000 in
set_option maxHeartbeats 4000000 in
theorem smearApart_walk (A : Option Addr) (n cap : Nat) (zs : List Int) (half0 a0 : Int) (w : World) (hF : FlatSl w 1 A n cap zs) :
    Calls Try.prog 5 #[.slice A n cap, .int .i64 half0, .int .i64 a0] w fun e w' => e = .returned (.bool true) ∧ Below w.heap.size w w' := by
  have m1 : 0 ≤ a0 % 777600000000 := by omega
  have m2 : a0 % 777600000000 < 777600000000 := by omega
  have m5 : 0 ≤ half0 % 43199001 := by omega
  have m6 : half0 % 43199001 < 43199001 := by omega
  obtain ⟨a, ha⟩ : ∃ t, t = a0 % 777600000000 := ⟨_, rfl⟩
  obtain ⟨h, hh⟩ : ∃ t, t = half0 % 43199001 := ⟨_, rfl⟩
  have HA := Lib.hid ha; have HH := Lib.hid hh
  rw [← ha] at m1 m2
  rw [← hh] at m5 m6
  clear ha hh
  have H := Lib.hid hF; clear hF
  go_enter Try.func5, Try.ntmps5
  go_wp2_with fail
  refine Calls.mono (smearWorks_ok _) ?_
  rintro e w1 ⟨rfl, hb⟩
  obtain ⟨hb1, hz1, hc1, hf1⟩ := took (w := w) (by repeat' (first | (with_reducible refine below_drewN ?_ _) | go_grown)) (by first | (simp only [World.size_alloc, World.size_setCell, World.size_drew, size_drewN]; done) | (simp only [World.size_alloc, World.size_setCell, World.size_drew, size_drewN]; rfl) | rfl) hb; clear hb
  go_wp2_with fail
  have hF1 := H.out.keep (by omega) hb1
  refine Calls.mono (leaps_any _ _ _ _ _ hF1) ?_
  rintro e w2 ⟨v, rfl, hown, hb⟩
  obtain ⟨A2, cap2, rfl, hF2⟩ := own_flat hown
  obtain ⟨m, hm⟩ : ∃ m, m = min n 20 := ⟨_, rfl⟩
  rw [← hm] at hF2
  rw [← hm]
  have hm20 : m ≤ 20 := by omega
  have HM := Lib.hid hm; clear hm
  have hL := leapNums_ok zs m hm20
  obtain ⟨hb2, hz2, hc2, hf2⟩ := took (w := w) (by repeat' (first | (with_reducible refine below_drewN ?_ _) | go_grown)) (by first | (simp only [World.size_alloc, World.size_setCell, World.size_drew, size_drewN]; done) | (simp only [World.size_alloc, World.size_setCell, World.size_drew, size_drewN]; rfl) | rfl) hb; clear hb
  clear hown hF1
  go_wp2_with fail
  refine Calls.mono (at_any _ _ _ (by omega) (by omega)) ?_
  rintro e _ ⟨rfl, rfl⟩
  rw [← HH.out]
  go_wp2_with fail
  refine Calls.mono (at_any _ _ _ (by omega) (by omega)) ?_
  rintro e _ ⟨rfl, rfl⟩
  rw [← HA.out]
  go_wp2_with fail
  obtain ⟨ys, hys⟩ : ∃ ys, ys = leapNums zs m := ⟨_, rfl⟩
  rw [← hys] at hF2 hL
  have HY := Lib.hid hys; clear hys
  refine Calls.mono (instant_ok _ _ _ _ _ _ hF2 hL (by omega) (by omega)) ?_
  rintro e w3 ⟨u, x, rfl, hi, hb⟩
  have hF3 := hF2.keep (by omega) hb
  obtain ⟨hb3, hz3, hc3, hf3⟩ := took (w := w) (by repeat' (first | (with_reducible refine below_drewN ?_ _) | go_grown)) (by first | (simp only [World.size_alloc, World.size_setCell, World.size_drew, size_drewN]; done) | (simp only [World.size_alloc, World.size_setCell, World.size_drew, size_drewN]; rfl) | rfl) hb; clear hb
  obtain ⟨i1, i2⟩ := inst_bounds hL hi hm20
  have HI := Lib.hid hi; clear hi hF2
  go_wp2_with fail
  go_loopw [36] (fun i wr => ∃ k : Nat, k ≤ m ∧ i = .int .i64 k ∧ FarFrom ys (1000 + h) u k ∧ Below w.heap.size w wr ∧ Below w3.heap.size w3 wr) (fun i _ => m - (intOf i).toNat)
  case atStart => exact ⟨0, by omega, rfl, fun j hj => absurd hj (by omega), (by repeat' (first | (with_reducible refine below_drewN ?_ _) | go_grown)), (by repeat' (first | (with_reducible refine below_drewN ?_ _) | go_grown))⟩
  case round =>
    obtain ⟨k, hk, rfl, hfar, hbw, hbv⟩ := hrel
    have HR := Lib.hid hfar; clear hfar
    have hbs := hbw.size
    have hbvs := hbv.size
    by_cases hlt : k < m
    · obtain ⟨b, off, rfl, hcell⟩ := hF3.at' (by omega)
      obtain ⟨c0, c1, hbl⟩ := leap_cells hcell (World.block_lt_of_cell? w3 _ (hcell 0 (by omega))) hbv hlt
      have l1 := hL.lo k hlt
      have l2 := hL.hi k hlt
      clear hcell hF3
      by_cases q : u - (ix ys (k * 2) + 1) * 86400000 < (1000 + h) + 2000 ∧ -(1000 + h) - 2000 < u - (ix ys (k * 2) + 1) * 86400000
      · obtain ⟨q1, q2⟩ := q
        go_wp2_with fail
        go_returns
        exact ⟨rfl, hbw.alloc hbs _⟩
      · have R := Lib.hid (farFrom_step HR q)
        by_cases q1 : u - (ix ys (k * 2) + 1) * 86400000 < (1000 + h) + 2000
        · have q2 : ¬ (-(1000 + h) - 2000 < u - (ix ys (k * 2) + 1) * 86400000) := fun h2 => q ⟨q1, h2⟩
          clear q
          go_wp2_with fail
          go_roundw
          case rel => exact ⟨k + 1, by omega, by go_num, R.out, hbw.alloc hbs _, hbv.alloc hbvs _⟩
          case measure => simp [intOf]; omega
        · clear q
          go_wp2_with fail
          go_roundw
          case rel => exact ⟨k + 1, by omega, by go_num, R.out, hbw.alloc hbs _, hbv.alloc hbvs _⟩
          case measure => simp [intOf]; omega
    · obtain rfl : k = m := by omega
      have hF4 := hF3.keep (by omega) hbv
      clear hF3
      go_wp2_with fail
      refine Calls.mono (smear_ok _ _ _ _ _ _ _ hF4 hL (by omega) (by omega) (by omega) (by omega)) ?_
      rintro e w5 ⟨s, rfl, h1, hb⟩
      have hF5 := hF4.keep (by omega) hb
      have hb5 := hbw.trans (hb.mono hbs)
      have hs5 := hb5.size
      clear hb hF4
      have e1 := (smear_near hL (by omega) (by omega) HI.out h1).2.2 HR.out
      subst e1
      clear h1
      go_wp2_with fail
      refine Calls.mono (offset_ok _ _ _ _ _ _ _ hF5 hL (by omega) (by omega) (by omega) (by omega)) ?_
      rintro e w6 ⟨s2, rfl, h1, hb⟩
      have hb6 := hb5.trans (hb.mono hs5)
      have e1 := (smear_near hL (by omega) (by omega) HI.out h1).2.2 HR.out
      subst e1
      clear h1 hb
      go_wp2_with fail
      go_returns
      exact ⟨ret_bool (by simp), hb6⟩

end Go.Proofs.Ytmeppcoekmoofaa
