/- The contracts of leap.Count and leap.Instant, at tables that are permitted. -/
import Derived.Test.YtocdboopmfgkpaaDoorLeap
namespace Go.Proofs.YtocdboopmfgkpaaDoor
open Go.RowKit
set_option linter.unusedSimpArgs false
set_option linter.unusedVariables false

/-- No instant of the day's last second falls out. -/
def NoGap (zs : List Int) (day ms : Int) (k : Nat) : Prop := ∀ j, j < k → ¬ (ix zs (j * 2 + 1) = -1 ∧ ix zs (j * 2) = day ∧ 86399000 ≤ ms)
theorem noGap_step {zs : List Int} {day ms : Int} {k : Nat} (h : Hid (NoGap zs day ms k)) (hk : ¬ (ix zs (k * 2 + 1) = -1 ∧ ix zs (k * 2) = day ∧ 86399000 ≤ ms)) : NoGap zs day ms (k + 1) := by
  intro j hj
  rcases Nat.lt_or_eq_of_le (Nat.le_of_lt_succ hj) with h1 | rfl
  · exact h.out j h1
  · exact hk

set_option maxRecDepth 100000 in
set_option maxHeartbeats 4000000 in
theorem count_ok (A : Option Addr) (n cap : Nat) (zs : List Int) (t : Int) (w : World) (h : FlatSl w 2 A n cap zs) (hL : LeapOk zs n) (h0 : 0 ≤ t) (h1 : t ≤ 800000000000) (hg : NoGap zs (t / 86400000) (t % 86400000) n) :
    Calls Tryd.prog 34 #[.slice A n cap, .int .i64 t] w fun e w' => e = .returned (.tuple #[.int .i64 (t + 1000 * lsum zs (t / 86400000) n), .int .i64 0]) ∧ Below w.heap.size w w' := by
  have hf := hL.few
  have d0 : 0 ≤ t / 86400000 := by omega
  have d1 : t / 86400000 ≤ 10000 := by omega
  have m0 : 0 ≤ t % 86400000 := by omega
  have m1 : t % 86400000 < 86400000 := by omega
  have lb := lsum_bounds hL (t / 86400000) n (Nat.le_refl _)
  obtain ⟨hl, hm, hz, ha⟩ := id h
  have HG := Lib.hid hg; clear hg
  have H := Lib.hid h; clear h
  have HZ := Lib.hid hz; clear hz
  obtain ⟨day, hday⟩ : ∃ d, d = t / 86400000 := ⟨_, rfl⟩
  obtain ⟨ms, hms⟩ : ∃ d, d = t % 86400000 := ⟨_, rfl⟩
  rw [← hday] at d0 d1 lb
  rw [← hms] at m0 m1
  rw [← hday, ← hms] at HG
  rw [← hday]
  have HD := Lib.hid hday; have HM := Lib.hid hms; clear hday hms
  go_enter Tryd.func34, Tryd.ntmps34
  go_wp2_with fail
  refine Calls.mono (leapCheck_ok _ _ _ _ _ H.out hL) ?_
  rintro e w1 ⟨rfl, hb⟩
  obtain ⟨hb1, hz1, hc1, hf1⟩ := took (w := w) (by repeat' (first | (with_reducible refine below_drewN ?_ _) | go_grown)) (by first | (simp only [World.size_alloc, World.size_setCell, World.size_drew, size_drewN]; done) | (simp only [World.size_alloc, World.size_setCell, World.size_drew, size_drewN]; rfl) | rfl) hb; clear hb
  go_wp2_with fail
  refine Calls.mono (div_any t 86400000 _ (by omega) (by omega) (by omega) (by omega)) ?_
  rintro e _ ⟨rfl, nq, rfl⟩
  rw [← HD.out, ← HM.out]
  go_wp2_with fail
  refine Calls.mono (isDay_true _ _ (by omega) (by omega)) ?_
  rintro e _ ⟨rfl, rfl⟩
  go_wp2_with fail
  have hk1 := H.out.keep (by omega) hb1
  go_loopw [28] (fun i wr => ∃ k : Nat, k ≤ n ∧ i = .int .i64 k ∧ Below w.heap.size w wr ∧ Below w1.heap.size w1 wr) (fun i _ => n - (intOf i).toNat)
  case atStart => exact ⟨0, by omega, rfl, (by repeat' (first | (with_reducible refine below_drewN ?_ _) | go_grown)), (by repeat' (first | (with_reducible refine below_drewN ?_ _) | go_grown))⟩
  case round =>
    obtain ⟨k, hk, rfl, hbw, hbv⟩ := hrel
    have hbs := hbw.size
    have hbvs := hbv.size
    by_cases hlt : k < n
    · obtain ⟨b, off, rfl, hcell⟩ := hk1.at' (by omega)
      obtain ⟨c0, c1, hbl⟩ := leap_cells hcell (World.block_lt_of_cell? w1 _ (hcell 0 (by omega))) hbv hlt
      have hng := HG.out k hlt
      have hs := hL.sh k hlt
      clear hcell hk1
      by_cases hS : ix zs (k * 2 + 1) = -1
      · rw [hS] at c1
        by_cases hDd : ix zs (k * 2) = day
        · have t2 : decide (86399000 ≤ ms) = false := decide_eq_false (fun h => hng ⟨hS, hDd, h⟩)
          rw [hDd] at c0
          clear hng hS hDd hs
          go_wp2_with fail
          go_roundw
          case rel => exact ⟨k + 1, by omega, by go_num, hbw.alloc hbs _, hbv.alloc hbvs _⟩
          case measure => simp [intOf]; omega
        · have t2 : (ix zs (k * 2) == day) = false := by simpa using hDd
          clear hng hS hDd hs
          go_wp2_with fail
          go_roundw
          case rel => exact ⟨k + 1, by omega, by go_num, hbw.alloc hbs _, hbv.alloc hbvs _⟩
          case measure => simp [intOf]; omega
      · have hS' : ix zs (k * 2 + 1) = 1 := by omega
        rw [hS'] at c1
        clear hng hS hS' hs
        go_wp2_with fail
        go_roundw
        case rel => exact ⟨k + 1, by omega, by go_num, hbw.alloc hbs _, hbv.alloc hbvs _⟩
        case measure => simp [intOf]; omega
    · obtain rfl : k = n := by omega
      go_wp2_with fail
      refine Calls.mono (leapsum_ok _ _ _ zs day _ (hk1.keep (by omega) hbv) hL) ?_
      rintro e w2 ⟨rfl, hb2⟩
      have hb3 := hbw.trans (hb2.mono hbs)
      go_wp2_with fail
      go_returns
      exact ⟨rfl, hb3⟩

set_option maxRecDepth 100000 in
set_option maxHeartbeats 4000000 in
theorem count_gap (A : Option Addr) (n cap : Nat) (zs : List Int) (t : Int) (w : World) (h : FlatSl w 2 A n cap zs) (hL : LeapOk zs n) (h0 : 0 ≤ t) (h1 : t ≤ 800000000000) (hg : ¬ NoGap zs (t / 86400000) (t % 86400000) n) :
    Calls Tryd.prog 34 #[.slice A n cap, .int .i64 t] w fun e w' => e = .returned (.tuple #[.int .i64 0, .int .i64 15]) ∧ Below w.heap.size w w' := by
  have hf := hL.few
  have d0 : 0 ≤ t / 86400000 := by omega
  have d1 : t / 86400000 ≤ 10000 := by omega
  have m0 : 0 ≤ t % 86400000 := by omega
  have m1 : t % 86400000 < 86400000 := by omega
  have lb := lsum_bounds hL (t / 86400000) n (Nat.le_refl _)
  obtain ⟨hl, hm, hz, ha⟩ := id h
  have HG := Lib.hid hg; clear hg
  have H := Lib.hid h; clear h
  have HZ := Lib.hid hz; clear hz
  obtain ⟨day, hday⟩ : ∃ d, d = t / 86400000 := ⟨_, rfl⟩
  obtain ⟨ms, hms⟩ : ∃ d, d = t % 86400000 := ⟨_, rfl⟩
  rw [← hday] at d0 d1 lb
  rw [← hms] at m0 m1
  rw [← hday, ← hms] at HG
  have HD := Lib.hid hday; have HM := Lib.hid hms; clear hday hms
  go_enter Tryd.func34, Tryd.ntmps34
  go_wp2_with fail
  refine Calls.mono (leapCheck_ok _ _ _ _ _ H.out hL) ?_
  rintro e w1 ⟨rfl, hb⟩
  obtain ⟨hb1, hz1, hc1, hf1⟩ := took (w := w) (by repeat' (first | (with_reducible refine below_drewN ?_ _) | go_grown)) (by first | (simp only [World.size_alloc, World.size_setCell, World.size_drew, size_drewN]; done) | (simp only [World.size_alloc, World.size_setCell, World.size_drew, size_drewN]; rfl) | rfl) hb; clear hb
  go_wp2_with fail
  refine Calls.mono (div_any t 86400000 _ (by omega) (by omega) (by omega) (by omega)) ?_
  rintro e _ ⟨rfl, nq, rfl⟩
  rw [← HD.out, ← HM.out]
  go_wp2_with fail
  refine Calls.mono (isDay_true _ _ (by omega) (by omega)) ?_
  rintro e _ ⟨rfl, rfl⟩
  go_wp2_with fail
  have hk1 := H.out.keep (by omega) hb1
  go_loopw [28] (fun i wr => ∃ k : Nat, k ≤ n ∧ i = .int .i64 k ∧ NoGap zs day ms k ∧ Below w.heap.size w wr ∧ Below w1.heap.size w1 wr) (fun i _ => n - (intOf i).toNat)
  case atStart => exact ⟨0, by omega, rfl, fun j hj => absurd hj (by omega), (by repeat' (first | (with_reducible refine below_drewN ?_ _) | go_grown)), (by repeat' (first | (with_reducible refine below_drewN ?_ _) | go_grown))⟩
  case round =>
    obtain ⟨k, hk, rfl, hno, hbw, hbv⟩ := hrel
    have HN := Lib.hid hno; clear hno
    have hbs := hbw.size
    have hbvs := hbv.size
    by_cases hlt : k < n
    · obtain ⟨b, off, rfl, hcell⟩ := hk1.at' (by omega)
      obtain ⟨c0, c1, hbl⟩ := leap_cells hcell (World.block_lt_of_cell? w1 _ (hcell 0 (by omega))) hbv hlt
      have hs := hL.sh k hlt
      clear hcell hk1
      by_cases hS : ix zs (k * 2 + 1) = -1
      · rw [hS] at c1
        by_cases hDd : ix zs (k * 2) = day
        · by_cases hM : 86399000 ≤ ms
          · rw [hDd] at c0
            clear hS hDd hs
            go_wp2_with fail
            go_returns
            exact ⟨rfl, hbw.alloc hbs _⟩
          · have R := Lib.hid (noGap_step HN (fun h => hM h.2.2))
            rw [hDd] at c0
            clear hS hDd hs
            go_wp2_with fail
            go_roundw
            case rel => exact ⟨k + 1, by omega, by go_num, R.out, hbw.alloc hbs _, hbv.alloc hbvs _⟩
            case measure => simp [intOf]; omega
        · have t2 : (ix zs (k * 2) == day) = false := by simpa using hDd
          have R := Lib.hid (noGap_step HN (fun h => hDd h.2.1))
          clear hS hDd hs
          go_wp2_with fail
          go_roundw
          case rel => exact ⟨k + 1, by omega, by go_num, R.out, hbw.alloc hbs _, hbv.alloc hbvs _⟩
          case measure => simp [intOf]; omega
      · have hS' : ix zs (k * 2 + 1) = 1 := by omega
        rw [hS'] at c1
        have R := Lib.hid (noGap_step HN (fun h => hS h.1))
        clear hS hS' hs
        go_wp2_with fail
        go_roundw
        case rel => exact ⟨k + 1, by omega, by go_num, R.out, hbw.alloc hbs _, hbv.alloc hbvs _⟩
        case measure => simp [intOf]; omega
    · obtain rfl : k = n := by omega
      exact absurd HN.out HG.out

end Go.Proofs.YtocdboopmfgkpaaDoor
