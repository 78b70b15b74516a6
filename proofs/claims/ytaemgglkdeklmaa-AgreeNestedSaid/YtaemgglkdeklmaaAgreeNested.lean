/- AgreeNested, the walk: who wants more intervals gets less. -/
import Derived.Test.YtaemgglkdeklmaaAgreeWorks
namespace Go.Proofs.Ytaemgglkdeklmaa
open Go.RowKit
set_option linter.unusedSimpArgs false
set_option linter.unusedVariables false

set_option maxRecDepth 100000 in
set_option maxHeartbeats 8000000 in
theorem agreeNested_walk (A : Option Addr) (n cap : Nat) (zs : List Int) (t0 : Int) (w : World) (hF : FlatSl w 2 A n cap zs) :
    Calls Try.prog 12 #[.slice A n cap, .int .i64 t0] w fun e w' => e = .returned (.bool true) ∧ Below w.heap.size w w' := by
  have H := Lib.hid hF; clear hF
  go_enter Try.func12, Try.ntmps12
  go_wp2_with fail
  refine Calls.mono (agreeWorks_ok _) ?_
  rintro e w1 ⟨rfl, hb⟩
  obtain ⟨hb1, hz1, hc1, hf1⟩ := took (w := w) (by repeat' (first | (with_reducible refine below_drewN ?_ _) | go_grown)) (by first | (simp only [World.size_alloc, World.size_setCell, World.size_drew, size_drewN]; done) | (simp only [World.size_alloc, World.size_setCell, World.size_drew, size_drewN]; rfl) | rfl) hb; clear hb
  go_wp2_with fail
  refine Calls.mono (spans_any _ _ _ _ _ (H.out.keep (by omega) hb1)) ?_
  rintro e w2 ⟨v, rfl, hown, hb⟩
  obtain ⟨A2, cap2, rfl, hF2⟩ := own_flat hown
  obtain ⟨m, hm⟩ : ∃ m, m = min n 20 := ⟨_, rfl⟩
  rw [← hm] at hF2
  rw [← hm]
  have hm20 : m ≤ 20 := by omega
  have HM := Lib.hid hm; clear hm
  obtain ⟨ys, hys⟩ : ∃ ys, ys = spanNums zs 1000 m := ⟨_, rfl⟩
  rw [← hys] at hF2
  have HY := Lib.hid hys; clear hys
  obtain ⟨hb2, hz2, hc2, hf2⟩ := took (w := w) (by repeat' (first | (with_reducible refine below_drewN ?_ _) | go_grown)) (by first | (simp only [World.size_alloc, World.size_setCell, World.size_drew, size_drewN]; done) | (simp only [World.size_alloc, World.size_setCell, World.size_drew, size_drewN]; rfl) | rfl) hb; clear hb
  clear hown hc1 hc2 hf1 hf2
  have hbs2 := hb2.size
  by_cases h2 : m < 2
  · go_wp2_with fail
    go_returns
    exact ⟨rfl, by repeat' (first | (with_reducible refine below_drewN ?_ _) | go_grown)⟩
  · have hS : SpOk ys m := by rw [HY.out]; exact spanNums_ok zs m (by omega) hm20
    obtain ⟨d, hd⟩ : ∃ d, d = t0 % ((m : Int) - 1) := ⟨_, rfl⟩
    have d0 : 0 ≤ d := by rw [hd]; exact Int.emod_nonneg _ (by omega)
    have d1 : d < (m : Int) - 1 := by rw [hd]; exact Int.emod_lt_of_pos _ (by omega)
    have HD := Lib.hid hd; clear hd
    go_wp2_with fail
    refine Calls.mono (at_any _ _ _ (by omega) (by omega)) ?_
    rintro e _ ⟨rfl, rfl⟩
    rw [← HD.out]
    go_wp2_with fail
    obtain ⟨x, hx⟩ : ∃ x, x = wH ys m (1 + d) m := ⟨_, rfl⟩
    obtain ⟨y, hy⟩ : ∃ x, x = wH ys m (1 + d + 1) m := ⟨_, rfl⟩
    obtain ⟨xis, xlo, xhi⟩ := x
    obtain ⟨yis, ylo, yhi⟩ := y
    have hvx : withinV ys m (1 + d) = .tuple #[.agg #[.int .i64 xlo, .int .i64 xhi], .int .i64 (if xis then 0 else 6)] := by unfold withinV; rw [← hx]
    have hvy : withinV ys m (1 + d + 1) = .tuple #[.agg #[.int .i64 ylo, .int .i64 yhi], .int .i64 (if yis then 0 else 6)] := by unfold withinV; rw [← hy]
    have hn := nested (zs := ys) (n := m) (need := 1 + d)
    rw [← hx, ← hy] at hn
    simp only at hn
    have HVX := Lib.hid hvx; have HVY := Lib.hid hvy; have HN := Lib.hid hn
    clear hx hy hvx hvy hn
    cases yis
    · have HVY2 : Hid (withinV ys m (1 + d + 1) = .tuple #[.agg #[.int .i64 ylo, .int .i64 yhi], .int .i64 6]) := Lib.hid HVY.out
      clear HN HVY
      cases xis
      · have HVX2 : Hid (withinV ys m (1 + d) = .tuple #[.agg #[.int .i64 xlo, .int .i64 xhi], .int .i64 6]) := Lib.hid HVX.out
        clear HVX
        refine Calls.mono (within_any _ _ _ _ _ _ hF2 hS (by omega) (by omega)) ?_
        rintro e w3 ⟨rfl, hb⟩
        rw [HVX2.out]
        have hF4 := (hF2.keep (by omega) hb).atop (by omega) (.cells #[.int .i64 xlo, .int .i64 xhi] 25)
        have hb3 := hb2.trans (hb.mono hbs2)
        have hbs3 := hb3.size
        have X1 := SpBox.new w3 xlo xhi
        clear hF2 hb
        go_wp2_with fail
        refine Calls.mono (within_any _ _ _ _ _ _ hF4 hS (by omega) (by omega)) ?_
        rintro e w4 ⟨rfl, hb⟩
        rw [HVY2.out]
        have X2 := X1.below hb
        have hb4 := (hb3.alloc hbs3 (.cells #[.int .i64 xlo, .int .i64 xhi] 25)).trans (hb.mono (by simp; omega))
        have f0 := X2.c0; have f1 := X2.c1
        have lt := X2.lt
        have hbs4 := hb4.size
        clear X1 X2 hb
        go_wp2_with fail
        go_returns
        exact ⟨rfl, by repeat' (first | (with_reducible refine below_drewN ?_ _) | go_grown)⟩
      · have HVX2 : Hid (withinV ys m (1 + d) = .tuple #[.agg #[.int .i64 xlo, .int .i64 xhi], .int .i64 0]) := Lib.hid HVX.out
        clear HVX
        refine Calls.mono (within_any _ _ _ _ _ _ hF2 hS (by omega) (by omega)) ?_
        rintro e w3 ⟨rfl, hb⟩
        rw [HVX2.out]
        have hF4 := (hF2.keep (by omega) hb).atop (by omega) (.cells #[.int .i64 xlo, .int .i64 xhi] 25)
        have hb3 := hb2.trans (hb.mono hbs2)
        have hbs3 := hb3.size
        have X1 := SpBox.new w3 xlo xhi
        clear hF2 hb
        go_wp2_with fail
        refine Calls.mono (within_any _ _ _ _ _ _ hF4 hS (by omega) (by omega)) ?_
        rintro e w4 ⟨rfl, hb⟩
        rw [HVY2.out]
        have X2 := X1.below hb
        have hb4 := (hb3.alloc hbs3 (.cells #[.int .i64 xlo, .int .i64 xhi] 25)).trans (hb.mono (by simp; omega))
        have f0 := X2.c0; have f1 := X2.c1
        have lt := X2.lt
        have hbs4 := hb4.size
        clear X1 X2 hb
        go_wp2_with fail
        go_returns
        exact ⟨rfl, by repeat' (first | (with_reducible refine below_drewN ?_ _) | go_grown)⟩
    · have HVY2 : Hid (withinV ys m (1 + d + 1) = .tuple #[.agg #[.int .i64 ylo, .int .i64 yhi], .int .i64 0]) := Lib.hid HVY.out
      obtain ⟨rfl, g1, g2⟩ := HN.out rfl
      have HVX2 : Hid (withinV ys m (1 + d) = .tuple #[.agg #[.int .i64 xlo, .int .i64 xhi], .int .i64 0]) := Lib.hid HVX.out
      clear HN HVY HVX
      refine Calls.mono (within_any _ _ _ _ _ _ hF2 hS (by omega) (by omega)) ?_
      rintro e w3 ⟨rfl, hb⟩
      rw [HVX2.out]
      have hF4 := (hF2.keep (by omega) hb).atop (by omega) (.cells #[.int .i64 xlo, .int .i64 xhi] 25)
      have hb3 := hb2.trans (hb.mono hbs2)
      have hbs3 := hb3.size
      have X1 := SpBox.new w3 xlo xhi
      clear hF2 hb
      go_wp2_with fail
      refine Calls.mono (within_any _ _ _ _ _ _ hF4 hS (by omega) (by omega)) ?_
      rintro e w4 ⟨rfl, hb⟩
      rw [HVY2.out]
      have X2 := X1.below hb
      have hb4 := (hb3.alloc hbs3 (.cells #[.int .i64 xlo, .int .i64 xhi] 25)).trans (hb.mono (by simp; omega))
      have f0 := X2.c0; have f1 := X2.c1
      have lt := X2.lt
      have hbs4 := hb4.size
      clear X1 X2 hb
      go_wp2_with fail
      refine Calls.mono (holds_true _ _ _ _ _ g1 g2) ?_
      rintro e w5 ⟨rfl, hb⟩
      have hb5 := (hb4.alloc hbs4 (.cells #[.int .i64 ylo, .int .i64 yhi] 25)).trans (hb.mono (by simp; omega))
      go_wp2_with fail
      go_returns
      exact ⟨rfl, hb5⟩

end Go.Proofs.Ytaemgglkdeklmaa
