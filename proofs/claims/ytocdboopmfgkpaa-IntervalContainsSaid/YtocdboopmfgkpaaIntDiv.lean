/- The contracts of interval.Div, Meet, Hull, Sign. -/
import Derived.Test.YtocdboopmfgkpaaIntOps
import Derived.BigRegion
namespace Go.Proofs.Ytocdboopmfgkpaa
open Go.RowKit
set_option linter.unusedSimpArgs false
set_option linter.unusedVariables false

def dLo (a c d : Int) : Int := if 0 ≤ a then a * 1 / d else a * 1 / c
def dHi (b c d : Int) : Int := if b < 0 then upQ (b * 1) d else upQ (b * 1) c

set_option maxHeartbeats 2000000 in
theorem div_pos (a b : Int) (c d : Nat) (w : World) (h : IvOk a b) (g : IvOk c d) (hc : 1 ≤ c) :
    Calls Try.prog 15 #[.agg #[.int .i64 a, .int .i64 b], .agg #[.int .i64 c, .int .i64 d]] w fun e w' => e = .returned (.tuple #[.agg #[.int .i64 (dLo a c d), .int .i64 (dHi b c d)], .int .i64 0]) ∧ Below w.heap.size w w' := by
  obtain ⟨h1, h2, h3⟩ := id h
  obtain ⟨g1, g2, g3⟩ := id g
  have n1 : (1 : Int) ≤ c := by omega
  have n2 : (1 : Int) ≤ d := by omega
  have v0 := fun w => ratio_ok a 1 c w hc (by omega) (by omega) (by omega) (by simp; omega)
  have v1 := fun w => ratio_ok a 1 d w (by omega) (by omega) (by omega) (by omega) (by simp; omega)
  have v2 := fun w => ratio_ok b 1 c w hc (by omega) (by omega) (by omega) (by simp; omega)
  have v3 := fun w => ratio_ok b 1 d w (by omega) (by omega) (by omega) (by omega) (by simp; omega)
  have V0 := Lib.hid v0; have V1 := Lib.hid v1; have V2 := Lib.hid v2; have V3 := Lib.hid v3
  clear v0 v1 v2 v3
  have G := Lib.hid (both_ok a b c d)
  by_cases ha : 0 ≤ a
  · have e1 : dLo a c d = a * 1 / d := if_pos ha
    have e2 : dHi b c d = upQ (b * 1) c := if_neg (by omega)
    rw [e1, e2]; clear e1 e2
    have hb : 0 ≤ b := by omega
    go_enter Try.func15, Try.ntmps15
    go_wp2_with fail
    refine Calls.mono (G.out _ h g) ?_
    rintro e w1 ⟨rfl, hb⟩
    obtain ⟨hb1, hz1, hc1, hf1⟩ := took (w := w) (by repeat' (first | (with_reducible refine below_drewN ?_ _) | go_grown)) (by first | (simp only [World.size_alloc, World.size_setCell, World.size_drew, size_drewN]; done) | (simp only [World.size_alloc, World.size_setCell, World.size_drew, size_drewN]; rfl) | rfl) hb; clear hb
    have z0 : w.heap.size < w1.heap.size := by omega
    have z1 : w.heap.size + 1 < w1.heap.size := by omega
    have z2 : w.heap.size + 1 + 1 < w1.heap.size := by omega
    go_wp2_with fail
    refine Calls.mono (V0.out _) ?_
    rintro e _ ⟨rfl, n1, rfl⟩
    go_wp2_with fail
    refine Calls.mono (V1.out _) ?_
    rintro e _ ⟨rfl, n2, rfl⟩
    go_wp2_with fail
    refine Calls.mono (V2.out _) ?_
    rintro e _ ⟨rfl, n3, rfl⟩
    go_wp2_with fail
    refine bodyPost_ret (v := .tuple #[.agg #[.int .i64 (a * 1 / d), .int .i64 (upQ (b * 1) c)], .int .i64 0]) ?_ rfl ⟨rfl, (by repeat' (first | (with_reducible refine below_drewN ?_ _) | go_grown))⟩
    simp [results, Try.results15, go_sem, hc1, z2]
  · by_cases hb : b < 0
    · have e1 : dLo a c d = a * 1 / c := if_neg ha
      have e2 : dHi b c d = upQ (b * 1) d := if_pos hb
      rw [e1, e2]; clear e1 e2
      have ha' : a < 0 := by omega
      clear ha
      go_enter Try.func15, Try.ntmps15
      go_wp2_with fail
      refine Calls.mono (G.out _ h g) ?_
      rintro e w1 ⟨rfl, hb⟩
      obtain ⟨hb1, hz1, hc1, hf1⟩ := took (w := w) (by repeat' (first | (with_reducible refine below_drewN ?_ _) | go_grown)) (by first | (simp only [World.size_alloc, World.size_setCell, World.size_drew, size_drewN]; done) | (simp only [World.size_alloc, World.size_setCell, World.size_drew, size_drewN]; rfl) | rfl) hb; clear hb
      have z0 : w.heap.size < w1.heap.size := by omega
      have z1 : w.heap.size + 1 < w1.heap.size := by omega
      have z2 : w.heap.size + 1 + 1 < w1.heap.size := by omega
      go_wp2_with fail
      refine Calls.mono (V0.out _) ?_
      rintro e _ ⟨rfl, n1, rfl⟩
      go_wp2_with fail
      refine Calls.mono (V2.out _) ?_
      rintro e _ ⟨rfl, n2, rfl⟩
      go_wp2_with fail
      refine Calls.mono (V3.out _) ?_
      rintro e _ ⟨rfl, n3, rfl⟩
      go_wp2_with fail
      refine bodyPost_ret (v := .tuple #[.agg #[.int .i64 (a * 1 / c), .int .i64 (upQ (b * 1) d)], .int .i64 0]) ?_ rfl ⟨rfl, (by repeat' (first | (with_reducible refine below_drewN ?_ _) | go_grown))⟩
      simp [results, Try.results15, go_sem, hc1, z2]
    · have e1 : dLo a c d = a * 1 / c := if_neg ha
      have e2 : dHi b c d = upQ (b * 1) c := if_neg hb
      rw [e1, e2]; clear e1 e2
      have ha' : a < 0 := by omega
      have hb' : 0 ≤ b := by omega
      clear ha hb
      go_enter Try.func15, Try.ntmps15
      go_wp2_with fail
      refine Calls.mono (G.out _ h g) ?_
      rintro e w1 ⟨rfl, hb⟩
      obtain ⟨hb1, hz1, hc1, hf1⟩ := took (w := w) (by repeat' (first | (with_reducible refine below_drewN ?_ _) | go_grown)) (by first | (simp only [World.size_alloc, World.size_setCell, World.size_drew, size_drewN]; done) | (simp only [World.size_alloc, World.size_setCell, World.size_drew, size_drewN]; rfl) | rfl) hb; clear hb
      have z0 : w.heap.size < w1.heap.size := by omega
      have z1 : w.heap.size + 1 < w1.heap.size := by omega
      have z2 : w.heap.size + 1 + 1 < w1.heap.size := by omega
      go_wp2_with fail
      refine Calls.mono (V0.out _) ?_
      rintro e _ ⟨rfl, n1, rfl⟩
      go_wp2_with fail
      refine Calls.mono (V2.out _) ?_
      rintro e _ ⟨rfl, n2, rfl⟩
      go_wp2_with fail
      refine bodyPost_ret (v := .tuple #[.agg #[.int .i64 (a * 1 / c), .int .i64 (upQ (b * 1) c)], .int .i64 0]) ?_ rfl ⟨rfl, (by repeat' (first | (with_reducible refine below_drewN ?_ _) | go_grown))⟩
      simp [results, Try.results15, go_sem, hc1, z2]

set_option maxHeartbeats 1000000 in
theorem div_err (a b c d : Int) (w : World) (h : IvOk a b) (g : IvOk c d) (hc : c ≤ 0) (hd : 0 ≤ d) :
    Calls Try.prog 15 #[.agg #[.int .i64 a, .int .i64 b], .agg #[.int .i64 c, .int .i64 d]] w fun e w' => e = .returned (.tuple #[.agg #[.int .i64 0, .int .i64 0], .int .i64 1]) ∧ Below w.heap.size w w' := by
  obtain ⟨h1, h2, h3⟩ := id h
  obtain ⟨g1, g2, g3⟩ := id g
  go_enter Try.func15, Try.ntmps15
  go_wp2_with fail
  refine Calls.mono (both_ok a b c d _ h g) ?_
  rintro e w1 ⟨rfl, hb⟩
  obtain ⟨hb1, hz1, hc1, hf1⟩ := took (w := w) (by repeat' (first | (with_reducible refine below_drewN ?_ _) | go_grown)) (by first | (simp only [World.size_alloc, World.size_setCell, World.size_drew, size_drewN]; done) | (simp only [World.size_alloc, World.size_setCell, World.size_drew, size_drewN]; rfl) | rfl) hb; clear hb
  have z0 : w.heap.size < w1.heap.size := by omega
  have z1 : w.heap.size + 1 < w1.heap.size := by omega
  have z2 : w.heap.size + 1 + 1 < w1.heap.size := by omega
  go_wp2_with fail
  refine bodyPost_ret (v := .tuple #[.agg #[.int .i64 0, .int .i64 0], .int .i64 1]) ?_ rfl ⟨rfl, (by repeat' (first | (with_reducible refine below_drewN ?_ _) | go_grown))⟩
  simp [results, Try.results15, go_sem, hc1]

def signV (a b : Int) : Int := if 0 < a then 1 else if b < 0 then -1 else 0
def signE (a b : Int) : Int := if 0 < a ∨ b < 0 ∨ (a = 0 ∧ b = 0) then 0 else 11

set_option maxHeartbeats 1000000 in
theorem sign_ok (a b : Int) (w : World) (h : IvOk a b) :
    Calls Try.prog 18 #[.agg #[.int .i64 a, .int .i64 b]] w fun e w' => e = .returned (.tuple #[.int .i64 (signV a b), .int .i64 (signE a b)]) ∧ Below w.heap.size w w' := by
  obtain ⟨h1, h2, h3⟩ := id h
  go_enter Try.func18, Try.ntmps18
  go_wp2_with fail
  refine Calls.mono (check_ok a b _ h) ?_
  rintro e w1 ⟨rfl, hb⟩
  obtain ⟨hb1, hz1, hc1, hf1⟩ := took (w := w) (by repeat' (first | (with_reducible refine below_drewN ?_ _) | go_grown)) (by first | (simp only [World.size_alloc, World.size_setCell, World.size_drew, size_drewN]; done) | (simp only [World.size_alloc, World.size_setCell, World.size_drew, size_drewN]; rfl) | rfl) hb; clear hb
  have z0 : w.heap.size < w1.heap.size := by omega
  go_wp2_with fail
  all_goals go_returns
  all_goals exact ⟨ret_ints2 (by unfold signV; (repeat' split) <;> omega) (by unfold signE; (repeat' split) <;> omega), (by repeat' (first | (with_reducible refine below_drewN ?_ _) | go_grown))⟩

set_option maxHeartbeats 1000000 in
theorem meet_ok (a b c d : Int) (w : World) (h : IvOk a b) (g : IvOk c d) (hm : max a c ≤ min b d) :
    Calls Try.prog 19 #[.agg #[.int .i64 a, .int .i64 b], .agg #[.int .i64 c, .int .i64 d]] w fun e w' => e = .returned (.tuple #[.agg #[.int .i64 (max a c), .int .i64 (min b d)], .int .i64 0]) ∧ Below w.heap.size w w' := by
  go_enter Try.func19, Try.ntmps19
  go_wp2_with fail
  refine Calls.mono (both_ok _ _ _ _ _ h g) ?_
  rintro e w1 ⟨rfl, hb⟩
  obtain ⟨hb1, hz1, hc1, hf1⟩ := took (w := w) (by repeat' (first | (with_reducible refine below_drewN ?_ _) | go_grown)) (by first | (simp only [World.size_alloc, World.size_setCell, World.size_drew, size_drewN]; done) | (simp only [World.size_alloc, World.size_setCell, World.size_drew, size_drewN]; rfl) | rfl) hb; clear hb
  have z0 : w.heap.size < w1.heap.size := by omega
  have z1 : w.heap.size + 1 < w1.heap.size := by omega
  have z2 : w.heap.size + 1 + 1 < w1.heap.size := by omega
  go_wp2_with fail
  refine bodyPost_ret (v := .tuple #[.agg #[.int .i64 (max a c), .int .i64 (min b d)], .int .i64 0]) ?_ rfl ⟨rfl, (by repeat' (first | (with_reducible refine below_drewN ?_ _) | go_grown))⟩
  simp [results, Try.results19, go_sem, hc1, z2]

set_option maxHeartbeats 1000000 in
theorem meet_none (a b c d : Int) (w : World) (h : IvOk a b) (g : IvOk c d) (hm : min b d < max a c) :
    Calls Try.prog 19 #[.agg #[.int .i64 a, .int .i64 b], .agg #[.int .i64 c, .int .i64 d]] w fun e w' => e = .returned (.tuple #[.agg #[.int .i64 0, .int .i64 0], .int .i64 6]) ∧ Below w.heap.size w w' := by
  go_enter Try.func19, Try.ntmps19
  go_wp2_with fail
  refine Calls.mono (both_ok _ _ _ _ _ h g) ?_
  rintro e w1 ⟨rfl, hb⟩
  obtain ⟨hb1, hz1, hc1, hf1⟩ := took (w := w) (by repeat' (first | (with_reducible refine below_drewN ?_ _) | go_grown)) (by first | (simp only [World.size_alloc, World.size_setCell, World.size_drew, size_drewN]; done) | (simp only [World.size_alloc, World.size_setCell, World.size_drew, size_drewN]; rfl) | rfl) hb; clear hb
  have z0 : w.heap.size < w1.heap.size := by omega
  have z1 : w.heap.size + 1 < w1.heap.size := by omega
  have z2 : w.heap.size + 1 + 1 < w1.heap.size := by omega
  go_wp2_with fail
  refine bodyPost_ret (v := .tuple #[.agg #[.int .i64 0, .int .i64 0], .int .i64 6]) ?_ rfl ⟨rfl, (by repeat' (first | (with_reducible refine below_drewN ?_ _) | go_grown))⟩
  simp [results, Try.results19, go_sem, hc1, z2]

set_option maxHeartbeats 1000000 in
theorem hull_ok (a b c d : Int) (w : World) (h : IvOk a b) (g : IvOk c d) :
    Calls Try.prog 20 #[.agg #[.int .i64 a, .int .i64 b], .agg #[.int .i64 c, .int .i64 d]] w fun e w' => e = .returned (.tuple #[.agg #[.int .i64 (min a c), .int .i64 (max b d)], .int .i64 0]) ∧ Below w.heap.size w w' := by
  go_enter Try.func20, Try.ntmps20
  go_wp2_with fail
  refine Calls.mono (both_ok _ _ _ _ _ h g) ?_
  rintro e w1 ⟨rfl, hb⟩
  obtain ⟨hb1, hz1, hc1, hf1⟩ := took (w := w) (by repeat' (first | (with_reducible refine below_drewN ?_ _) | go_grown)) (by first | (simp only [World.size_alloc, World.size_setCell, World.size_drew, size_drewN]; done) | (simp only [World.size_alloc, World.size_setCell, World.size_drew, size_drewN]; rfl) | rfl) hb; clear hb
  have z0 : w.heap.size < w1.heap.size := by omega
  have z1 : w.heap.size + 1 < w1.heap.size := by omega
  have z2 : w.heap.size + 1 + 1 < w1.heap.size := by omega
  go_wp2_with fail
  refine bodyPost_ret (v := .tuple #[.agg #[.int .i64 (min a c), .int .i64 (max b d)], .int .i64 0]) ?_ rfl ⟨rfl, (by repeat' (first | (with_reducible refine below_drewN ?_ _) | go_grown))⟩
  simp [results, Try.results20, go_sem, hc1, z2]

end Go.Proofs.Ytocdboopmfgkpaa
