/- The contract of interval.Div for a divisor below 0. -/
import Derived.Test.YtocdboopmfgkpaaIntDiv
namespace Go.Proofs.Ytocdboopmfgkpaa
open Go.RowKit
set_option linter.unusedSimpArgs false
set_option linter.unusedVariables false

set_option maxHeartbeats 4000000 in
theorem div_neg (a b : Int) (c d : Nat) (w : World) (h : IvOk (-b) (-a)) (g : IvOk (-(d : Int)) (-(c : Int))) (hc : 1 ≤ c) :
    Calls Try.prog 15 #[.agg #[.int .i64 (-b), .int .i64 (-a)], .agg #[.int .i64 (-(d : Int)), .int .i64 (-(c : Int))]] w fun e w' => e = .returned (.tuple #[.agg #[.int .i64 (dLo a c d), .int .i64 (dHi b c d)], .int .i64 0]) ∧ Below w.heap.size w w' := by
  obtain ⟨h1, h2, h3⟩ := id h
  obtain ⟨g1, g2, g3⟩ := id g
  have n1 : (1 : Int) ≤ c := by omega
  have n2 : (1 : Int) ≤ d := by omega
  have v0 := fun w => ratio_ok a 1 c w hc (by omega) (by omega) (by omega) (by simp; omega)
  have v1 := fun w => ratio_ok a 1 d w (by omega) (by omega) (by omega) (by omega) (by simp; omega)
  have v2 := fun w => ratio_ok b 1 c w hc (by omega) (by omega) (by omega) (by simp; omega)
  have v3 := fun w => ratio_ok b 1 d w (by omega) (by omega) (by omega) (by omega) (by simp; omega)
  have V0 := Lib.hid v0; have V1 := Lib.hid v1; have V2 := Lib.hid v2; have V3 := Lib.hid v3
  clear v0 v1 v2 v3
  have u1 : IntKind.i64.wrap a = a := IntWalk.i64_in _ (by omega)
  have u2 : IntKind.i64.wrap b = b := IntWalk.i64_in _ (by omega)
  have u3 : IntKind.i64.wrap (c : Int) = c := IntWalk.i64_in _ (by omega)
  have u4 : IntKind.i64.wrap (d : Int) = d := IntWalk.i64_in _ (by omega)
  have t1 : -(c : Int) < 0 := by omega
  have G := Lib.hid (both_ok (-b) (-a) (-(d : Int)) (-(c : Int)))
  by_cases ha : 0 ≤ a
  · have e1 : dLo a c d = a * 1 / d := if_pos ha
    have e2 : dHi b c d = upQ (b * 1) c := if_neg (by omega)
    rw [e1, e2]; clear e1 e2
    have hb : 0 ≤ b := by omega
    go_enter Try.func15, Try.ntmps15
    go_wp2_with fail
    refine Calls.mono (G.out _ h g) ?_
    rintro e w1 ⟨rfl, hb⟩
    obtain ⟨hb1, hz1, hc1, hf1⟩ := took (w := w) (by repeat' (first | (with_reducible refine below_drewN ?_ _) | go_grown)) (by first | (simp only [World.size_alloc, World.size_setCell, World.size_drew, size_drewN]; done) | (simp only [World.size_alloc, World.size_setCell, World.size_drew, size_drewN]; rfl) | rfl) hb; clear hb
    have z0 : w.heap.size < w1.heap.size := by omega
    have z1 : w.heap.size + 1 < w1.heap.size := by omega
    have z2 : w.heap.size + 1 + 1 < w1.heap.size := by omega
    have c00 := hc1 w.heap.size 0 (by omega)
    have c01 := hc1 w.heap.size 1 (by omega)
    have c10 := hc1 (w.heap.size + 1) 0 (by omega)
    have c11 := hc1 (w.heap.size + 1) 1 (by omega)
    have c20 := hc1 (w.heap.size + 1 + 1) 0 (by omega)
    have c21 := hc1 (w.heap.size + 1 + 1) 1 (by omega)
    have f00 := hf1 w.heap.size 0 (by omega)
    have f01 := hf1 w.heap.size 1 (by omega)
    have f10 := hf1 (w.heap.size + 1) 0 (by omega)
    have f11 := hf1 (w.heap.size + 1) 1 (by omega)
    have f20 := hf1 (w.heap.size + 1 + 1) 0 (by omega)
    have f21 := hf1 (w.heap.size + 1 + 1) 1 (by omega)
    simp [go_sem] at c00 c01 c10 c11 c20 c21 f00 f01 f10 f11 f20 f21
    clear hc1 hf1
    go_wp2_with fail
    go_region
    go_wp2_with fail
    refine Calls.mono (V0.out _) ?_
    rintro e _ ⟨rfl, n1, rfl⟩
    go_wp2_with fail
    refine Calls.mono (V1.out _) ?_
    rintro e _ ⟨rfl, n2, rfl⟩
    go_wp2_with fail
    refine Calls.mono (V2.out _) ?_
    rintro e _ ⟨rfl, n3, rfl⟩
    go_wp2_with fail
    refine bodyPost_ret (v := .tuple #[.agg #[.int .i64 (a * 1 / d), .int .i64 (upQ (b * 1) c)], .int .i64 0]) ?_ rfl ⟨rfl, (by repeat' (first | (with_reducible refine below_drewN ?_ _) | go_grown))⟩
    simp [results, Try.results15, go_sem, *]
  · by_cases hb : b < 0
    · have e1 : dLo a c d = a * 1 / c := if_neg ha
      have e2 : dHi b c d = upQ (b * 1) d := if_pos hb
      rw [e1, e2]; clear e1 e2
      have ha' : a < 0 := by omega
      clear ha
      go_enter Try.func15, Try.ntmps15
      go_wp2_with fail
      refine Calls.mono (G.out _ h g) ?_
      rintro e w1 ⟨rfl, hb⟩
      obtain ⟨hb1, hz1, hc1, hf1⟩ := took (w := w) (by repeat' (first | (with_reducible refine below_drewN ?_ _) | go_grown)) (by first | (simp only [World.size_alloc, World.size_setCell, World.size_drew, size_drewN]; done) | (simp only [World.size_alloc, World.size_setCell, World.size_drew, size_drewN]; rfl) | rfl) hb; clear hb
      have z0 : w.heap.size < w1.heap.size := by omega
      have z1 : w.heap.size + 1 < w1.heap.size := by omega
      have z2 : w.heap.size + 1 + 1 < w1.heap.size := by omega
      have c00 := hc1 w.heap.size 0 (by omega)
      have c01 := hc1 w.heap.size 1 (by omega)
      have c10 := hc1 (w.heap.size + 1) 0 (by omega)
      have c11 := hc1 (w.heap.size + 1) 1 (by omega)
      have c20 := hc1 (w.heap.size + 1 + 1) 0 (by omega)
      have c21 := hc1 (w.heap.size + 1 + 1) 1 (by omega)
      have f00 := hf1 w.heap.size 0 (by omega)
      have f01 := hf1 w.heap.size 1 (by omega)
      have f10 := hf1 (w.heap.size + 1) 0 (by omega)
      have f11 := hf1 (w.heap.size + 1) 1 (by omega)
      have f20 := hf1 (w.heap.size + 1 + 1) 0 (by omega)
      have f21 := hf1 (w.heap.size + 1 + 1) 1 (by omega)
      simp [go_sem] at c00 c01 c10 c11 c20 c21 f00 f01 f10 f11 f20 f21
      clear hc1 hf1
      go_wp2_with fail
      go_region
      go_wp2_with fail
      refine Calls.mono (V0.out _) ?_
      rintro e _ ⟨rfl, n1, rfl⟩
      go_wp2_with fail
      refine Calls.mono (V2.out _) ?_
      rintro e _ ⟨rfl, n2, rfl⟩
      go_wp2_with fail
      refine Calls.mono (V3.out _) ?_
      rintro e _ ⟨rfl, n3, rfl⟩
      go_wp2_with fail
      refine bodyPost_ret (v := .tuple #[.agg #[.int .i64 (a * 1 / c), .int .i64 (upQ (b * 1) d)], .int .i64 0]) ?_ rfl ⟨rfl, (by repeat' (first | (with_reducible refine below_drewN ?_ _) | go_grown))⟩
      simp [results, Try.results15, go_sem, *]
    · have e1 : dLo a c d = a * 1 / c := if_neg ha
      have e2 : dHi b c d = upQ (b * 1) c := if_neg hb
      rw [e1, e2]; clear e1 e2
      have ha' : a < 0 := by omega
      have hb' : 0 ≤ b := by omega
      clear ha hb
      go_enter Try.func15, Try.ntmps15
      go_wp2_with fail
      refine Calls.mono (G.out _ h g) ?_
      rintro e w1 ⟨rfl, hb⟩
      obtain ⟨hb1, hz1, hc1, hf1⟩ := took (w := w) (by repeat' (first | (with_reducible refine below_drewN ?_ _) | go_grown)) (by first | (simp only [World.size_alloc, World.size_setCell, World.size_drew, size_drewN]; done) | (simp only [World.size_alloc, World.size_setCell, World.size_drew, size_drewN]; rfl) | rfl) hb; clear hb
      have z0 : w.heap.size < w1.heap.size := by omega
      have z1 : w.heap.size + 1 < w1.heap.size := by omega
      have z2 : w.heap.size + 1 + 1 < w1.heap.size := by omega
      have c00 := hc1 w.heap.size 0 (by omega)
      have c01 := hc1 w.heap.size 1 (by omega)
      have c10 := hc1 (w.heap.size + 1) 0 (by omega)
      have c11 := hc1 (w.heap.size + 1) 1 (by omega)
      have c20 := hc1 (w.heap.size + 1 + 1) 0 (by omega)
      have c21 := hc1 (w.heap.size + 1 + 1) 1 (by omega)
      have f00 := hf1 w.heap.size 0 (by omega)
      have f01 := hf1 w.heap.size 1 (by omega)
      have f10 := hf1 (w.heap.size + 1) 0 (by omega)
      have f11 := hf1 (w.heap.size + 1) 1 (by omega)
      have f20 := hf1 (w.heap.size + 1 + 1) 0 (by omega)
      have f21 := hf1 (w.heap.size + 1 + 1) 1 (by omega)
      simp [go_sem] at c00 c01 c10 c11 c20 c21 f00 f01 f10 f11 f20 f21
      clear hc1 hf1
      go_wp2_with fail
      go_region
      go_wp2_with fail
      refine Calls.mono (V0.out _) ?_
      rintro e _ ⟨rfl, n1, rfl⟩
      go_wp2_with fail
      refine Calls.mono (V2.out _) ?_
      rintro e _ ⟨rfl, n2, rfl⟩
      go_wp2_with fail
      refine bodyPost_ret (v := .tuple #[.agg #[.int .i64 (a * 1 / c), .int .i64 (upQ (b * 1) c)], .int .i64 0]) ?_ rfl ⟨rfl, (by repeat' (first | (with_reducible refine below_drewN ?_ _) | go_grown))⟩
      simp [results, Try.results15, go_sem, *]

end Go.Proofs.Ytocdboopmfgkpaa
