/- trig.inRange, trig.Sin, trig.Cos. -/
import Derived.Test.YtcopmgnfakjdhaaDoorTrigW
namespace Go.Proofs.YtcopmgnfakjdhaaDoor
open Go.RowKit
set_option linter.unusedSimpArgs false
set_option linter.unusedVariables false
theorem tinR_ok (n : Int) (w : World) (h : -1000000000000000000 ≤ n ∧ n ≤ 1000000000000000000) : Calls Tryd.prog 76 #[.int .i64 n] w fun e w' => e = .returned (.bool true) ∧ w' = w := by
  obtain ⟨h1, h2⟩ := h
  go_enter Tryd.func76, Tryd.ntmps76
  go_wp2_with fail
  go_ret
  exact ⟨rfl, rfl⟩
set_option maxHeartbeats 1000000 in
theorem trSin_ok (a : Int) (w : World) (ht : SinT w) (h : -1000000000000000000 ≤ a ∧ a ≤ 1000000000000000000) : Calls Tryd.prog 58 #[.int .i64 a] w fun e w' => e = .returned (.tuple #[.agg #[.int .i64 (sLo a), .int .i64 (sHi a)], .int .i64 0]) ∧ Below w.heap.size w w' := by
  have R := Lib.hid (fun w => tinR_ok a w h)
  have S := Lib.hid (fun w ht => sine_ok a w ht (by omega))
  have HT := Lib.hid (ht.below ((Below.refl w.heap.size w).alloc (Nat.le_refl _) (.cells #[.int .i64 0, .int .i64 0] 25)))
  generalize sLo a = lo at *
  generalize sHi a = hi at *
  clear ht h
  go_enter Tryd.func58, Tryd.ntmps58
  go_wp2_with fail
  refine Calls.mono (R.out _) ?_
  rintro e _ ⟨rfl, rfl⟩
  go_wp2_with fail
  refine Calls.mono (S.out _ HT.out) ?_
  rintro e w1 ⟨rfl, hb⟩
  obtain ⟨hb1, hz1, hc1, hf1⟩ := took (w := w) (by repeat' (first | (with_reducible refine below_drewN ?_ _) | go_grown)) (by first | (simp only [World.size_alloc, World.size_setCell, World.size_drew, size_drewN]; done) | (simp only [World.size_alloc, World.size_setCell, World.size_drew, size_drewN]; rfl) | rfl) hb; clear hb
  have z1 : w.heap.size < w1.heap.size := by omega
  go_wp2_with fail
  refine bodyPost_ret (v := .tuple #[.agg #[.int .i64 lo, .int .i64 hi], .int .i64 0]) ?_ rfl ⟨rfl, (by repeat' (first | (with_reducible refine below_drewN ?_ _) | go_grown))⟩
  simp [results, Tryd.results58, go_sem, *]
/-- The interval of a cosine. -/
def cLo (a : Int) : Int := sLo (a % 1000000000 + 250000000)
def cHi (a : Int) : Int := sHi (a % 1000000000 + 250000000)
set_option maxHeartbeats 1000000 in
theorem trCos_ok (a : Int) (w : World) (ht : SinT w) (h : -1000000000000000000 ≤ a ∧ a ≤ 1000000000000000000) : Calls Tryd.prog 59 #[.int .i64 a] w fun e w' => e = .returned (.tuple #[.agg #[.int .i64 (cLo a), .int .i64 (cHi a)], .int .i64 0]) ∧ Below w.heap.size w w' := by
  have R := Lib.hid (fun w => tinR_ok a w h)
  have M := Lib.hid (fun w => mod_all a 1000000000 w (by omega) (by omega) (by omega) (by omega))
  have hm : 0 ≤ a % 1000000000 ∧ a % 1000000000 < 1000000000 := by omega
  have S := Lib.hid (fun w ht => sine_ok (a % 1000000000 + 250000000) w ht (by omega))
  have HT := Lib.hid ht
  unfold cLo cHi
  generalize a % 1000000000 = m at *
  obtain ⟨k, hk⟩ : ∃ k, k = m + 250000000 := ⟨_, rfl⟩
  rw [← hk] at S ⊢
  have w1e : wrap64 (m + 250000000) = k := by rw [hk]; exact IntWalk.wrap64_in _ (by omega)
  generalize sLo k = lo at *
  generalize sHi k = hi at *
  have HK := Lib.hid hk
  clear ht h hk hm
  go_enter Tryd.func59, Tryd.ntmps59
  go_wp2_with fail
  refine Calls.mono (R.out _) ?_
  rintro e _ ⟨rfl, rfl⟩
  go_wp2_with fail
  refine Calls.mono (M.out _) ?_
  rintro e w1 ⟨rfl, hb⟩
  obtain ⟨hb1, hz1, hc1, hf1⟩ := took (w := w) (by repeat' (first | (with_reducible refine below_drewN ?_ _) | go_grown)) (by first | (simp only [World.size_alloc, World.size_setCell, World.size_drew, size_drewN]; done) | (simp only [World.size_alloc, World.size_setCell, World.size_drew, size_drewN]; rfl) | rfl) hb; clear hb
  have HT1 := HT.out.below hb1
  have z1 : w.heap.size < w1.heap.size := by omega
  go_wp2_with fail
  refine Calls.mono (S.out _ HT1) ?_
  rintro e w2 ⟨rfl, hb⟩
  obtain ⟨hb2, hz2, hc2, hf2⟩ := took (w := w) (by repeat' (first | (with_reducible refine below_drewN ?_ _) | go_grown)) (by first | (simp only [World.size_alloc, World.size_setCell, World.size_drew, size_drewN]; done) | (simp only [World.size_alloc, World.size_setCell, World.size_drew, size_drewN]; rfl) | rfl) hb; clear hb
  have z2 : w.heap.size < w2.heap.size := by omega
  go_wp2_with fail
  refine bodyPost_ret (v := .tuple #[.agg #[.int .i64 lo, .int .i64 hi], .int .i64 0]) ?_ rfl ⟨rfl, (by repeat' (first | (with_reducible refine below_drewN ?_ _) | go_grown))⟩
  simp [results, Tryd.results59, go_sem, *]
end Go.Proofs.YtcopmgnfakjdhaaDoor
