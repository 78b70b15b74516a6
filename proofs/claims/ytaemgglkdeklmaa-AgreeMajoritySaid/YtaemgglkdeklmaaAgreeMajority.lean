/- AgreeMajority, the walk: a number that is in all intervals but some is in Within of as many. -/
import Derived.Test.YtaemgglkdeklmaaAgreeWorks
namespace Go.Proofs.Ytaemgglkdeklmaa
open Go.RowKit
set_option linter.unusedSimpArgs false
set_option linter.unusedVariables false

set_option maxRecDepth 100000 in
set_option maxHeartbeats 8000000 in
theorem agreeMajority_walk (A : Option Addr) (n cap : Nat) (zs : List Int) (t0 : Int) (w : World) (hF : FlatSl w 2 A n cap zs) :
    Calls Try.prog 11 #[.slice A n cap, .int .i64 t0] w fun e w' => e = .returned (.bool true) ∧ Below w.heap.size w w' := by
  have m1 := Int.lt_tmod_of_pos t0 (show 0 < 1001 by omega)
  have m2 := Int.tmod_lt_of_pos t0 (show 0 < 1001 by omega)
  obtain ⟨t, ht⟩ : ∃ t, t = t0.tmod 1001 := ⟨_, rfl⟩
  rw [← ht] at m1 m2
  have HT := Lib.hid ht; clear ht
  have H := Lib.hid hF; clear hF
  go_enter Try.func11, Try.ntmps11
  go_wp2_with fail
  refine Calls.mono (agreeWorks_ok _) ?_
  rintro e w1 ⟨rfl, hb⟩
  obtain ⟨hb1, hz1, hc1, hf1⟩ := took (w := w) (by repeat' (first | (with_reducible refine below_drewN ?_ _) | go_grown)) (by first | (simp only [World.size_alloc, World.size_setCell, World.size_drew, size_drewN]; done) | (simp only [World.size_alloc, World.size_setCell, World.size_drew, size_drewN]; rfl) | rfl) hb; clear hb
  go_wp2_with fail
  refine Calls.mono (spans_any _ _ _ _ _ (H.out.keep (by omega) hb1)) ?_
  rintro e w2 ⟨v, rfl, hown, hb⟩
  obtain ⟨A2, cap2, rfl, hF2⟩ := own_flat hown
  obtain ⟨m, hm⟩ : ∃ m, m = min n 20 := ⟨_, rfl⟩
  rw [← hm] at hF2
  rw [← hm]
  have hm20 : m ≤ 20 := by omega
  have HM := Lib.hid hm; clear hm
  obtain ⟨ys, hys⟩ : ∃ ys, ys = spanNums zs 1000 m := ⟨_, rfl⟩
  rw [← hys] at hF2
  have HY := Lib.hid hys; clear hys
  obtain ⟨hb2, hz2, hc2, hf2⟩ := took (w := w) (by repeat' (first | (with_reducible refine below_drewN ?_ _) | go_grown)) (by first | (simp only [World.size_alloc, World.size_setCell, World.size_drew, size_drewN]; done) | (simp only [World.size_alloc, World.size_setCell, World.size_drew, size_drewN]; rfl) | rfl) hb; clear hb
  clear hown hc1 hc2 hf1 hf2
  go_wp2_with fail
  rw [← HT.out]
  have hdm := dep_le ys t m
  go_loopw [5, 21] (fun v i wr => ∃ k : Nat, k ≤ m ∧ i = .int .i64 k ∧ v = .int .i64 (dep ys t k) ∧ Below w.heap.size w wr ∧ Below w2.heap.size w2 wr) (fun _ i _ => m - (intOf i).toNat)
  case atStart => exact ⟨0, by omega, rfl, rfl, hb2, Below.refl _ _⟩
  case round =>
    obtain ⟨k, hk, rfl, rfl, hbw, hbv⟩ := hrel
    have hbs := hbw.size
    have hbvs := hbv.size
    have hd := dep_le ys t k
    by_cases hlt : k < m
    · obtain ⟨b, off, rfl, hcell⟩ := hF2.at' (by omega)
      obtain ⟨c0, c1, hbl⟩ := leap_cells hcell (World.block_lt_of_cell? w2 _ (hcell 0 (by omega))) hbv hlt
      clear hcell hF2
      have hnx : dep ys t (k + 1) = dep ys t k + if ix ys (k * 2) ≤ t ∧ t ≤ ix ys (k * 2 + 1) then 1 else 0 := rfl
      by_cases q1 : ix ys (k * 2) ≤ t
      · by_cases q2 : t ≤ ix ys (k * 2 + 1)
        · rw [if_pos ⟨q1, q2⟩] at hnx
          have H := Lib.hid hnx; clear hnx
          go_wp2_with fail
          go_roundw
          case rel => exact ⟨k + 1, by omega, by go_num, by rw [H.out]; go_num, hbw.alloc hbs _, hbv.alloc hbvs _⟩
          case measure => simp [intOf]; omega
        · rw [if_neg (fun h => q2 h.2)] at hnx
          have H := Lib.hid hnx; clear hnx
          go_wp2_with fail
          go_roundw
          case rel => exact ⟨k + 1, by omega, by go_num, by rw [H.out]; go_num, hbw.alloc hbs _, hbv.alloc hbvs _⟩
          case measure => simp [intOf]; omega
      · rw [if_neg (fun h => q1 h.1)] at hnx
        have H := Lib.hid hnx; clear hnx
        go_wp2_with fail
        go_roundw
        case rel => exact ⟨k + 1, by omega, by go_num, by rw [H.out]; go_num, hbw.alloc hbs _, hbv.alloc hbvs _⟩
        case measure => simp [intOf]; omega
    · obtain rfl : k = m := by omega
      obtain ⟨N, hN⟩ : ∃ N, N = dep ys t k := ⟨_, rfl⟩
      rw [← hN] at hd hdm
      rw [← hN]
      have HN := Lib.hid hN; clear hN
      have hF3 := hF2.keep (by omega) hbv
      clear hF2
      by_cases hN0 : N = 0
      · subst hN0
        go_wp2_with fail
        go_returns
        exact ⟨rfl, hbw⟩
      · have hS : SpOk ys k := by rw [HY.out]; exact spanNums_ok zs k (by omega) hm20
        have q0 : ((N : Int) == 0) = false := by simp; omega
        have hlaw := majority hS HN.out (by omega) (most_law hS)
        obtain ⟨x, hx⟩ : ∃ x, x = wH ys k N k := ⟨_, rfl⟩
        obtain ⟨lo, hlo⟩ : ∃ x, x = (mB ys k k).lo := ⟨_, rfl⟩
        obtain ⟨hi, hhi⟩ : ∃ x, x = mH ys (mB ys k k).lo (mB ys k k).hi k := ⟨_, rfl⟩
        obtain ⟨kk, hkk⟩ : ∃ x, x = (mB ys k k).k := ⟨_, rfl⟩
        rw [← hx, ← hhi, ← hlo, ← hkk] at hlaw
        have hkb : kk ≤ 40 := by rw [hkk]; exact (mB_bounds hS k (Nat.le_refl _)).2.2.2.2
        obtain ⟨xis, xlo, xhi⟩ := x
        obtain ⟨l1, l2, l3, l4, l5⟩ := hlaw
        simp only at l1 l2 l3 l5
        subst l1
        have hv : withinV ys k N = .tuple #[.agg #[.int .i64 xlo, .int .i64 xhi], .int .i64 0] := by unfold withinV; rw [← hx]; rfl
        have HV := Lib.hid hv; have HLO := Lib.hid hlo; have HHI := Lib.hid hhi; have HKK := Lib.hid hkk
        have L5 := Lib.hid l5
        clear hx hlo hhi hkk hv l5
        have l4' : (N : Int) ≤ (kk : Int) := by omega
        go_wp2_with fail
        refine Calls.mono (within_any _ _ _ _ _ _ hF3 hS (by omega) (by omega)) ?_
        rintro e w3 ⟨rfl, hb⟩
        rw [HV.out]
        have hF4 := (hF3.keep (by omega) hb).atop (by omega) (.cells #[.int .i64 xlo, .int .i64 xhi] 25)
        have hb3 := hbw.trans (hb.mono hbs)
        have hbs3 := hb3.size
        have X1 := SpBox.new w3 xlo xhi
        clear hF3 hb
        go_wp2_with fail
        refine Calls.mono (agreeMost_ok _ _ _ _ _ hF4 hS) ?_
        rintro e w4 ⟨rfl, hb⟩
        rw [← HHI.out, ← HLO.out, ← HKK.out]
        have X2 := X1.below hb
        have hb4 := (hb3.alloc hbs3 (.cells #[.int .i64 xlo, .int .i64 xhi] 25)).trans (hb.mono (by simp; omega))
        have hbs4 := hb4.size
        have f0 := X2.c0; have f1 := X2.c1
        have lt := X2.lt
        clear X1 X2 hb hF4
        by_cases hkN : N < kk
        · have q5 : (N : Int) < (kk : Int) := by omega
          go_wp2_with fail
          go_returns
          exact ⟨rfl, by repeat' (first | (with_reducible refine below_drewN ?_ _) | go_grown)⟩
        · have q5 : ¬ (N : Int) < (kk : Int) := by omega
          obtain ⟨g1, g2⟩ := L5.out.resolve_left hkN
          go_wp2_with fail
          refine Calls.mono (holds_true _ _ _ _ _ g1 g2) ?_
          rintro e w5 ⟨rfl, hb⟩
          have hb5 := (hb4.alloc hbs4 (.cells #[.int .i64 lo, .int .i64 hi] 25)).trans (hb.mono (by simp; omega))
          go_wp2_with fail
          go_returns
          exact ⟨rfl, hb5⟩

end Go.Proofs.Ytaemgglkdeklmaa
