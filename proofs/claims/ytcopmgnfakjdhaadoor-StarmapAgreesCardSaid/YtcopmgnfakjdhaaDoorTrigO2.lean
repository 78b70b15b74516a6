/- trig.CosOver, Times, Plus, Minus; place.clip. -/
import Derived.Test.YtcopmgnfakjdhaaDoorTrigO
import Derived.Test.YtcopmgnfakjdhaaDoorIval
namespace Go.Proofs.YtcopmgnfakjdhaaDoor
open Go.RowKit
set_option linter.unusedSimpArgs false
set_option linter.unusedVariables false
/-- The span of the cosines over a span of angles. -/
def coLo (a b : Int) : Int := soLo (a % 1000000000 + 250000000) (a % 1000000000 + 250000000 + min (b - a) 2000000000)
def coHi (a b : Int) : Int := soHi (a % 1000000000 + 250000000) (a % 1000000000 + 250000000 + min (b - a) 2000000000)
set_option maxHeartbeats 2000000 in
theorem CosOver_ok (a b : Int) (w : World) (ht : SinT w) (h : IvOk a b) : Calls Tryd.prog 57 #[.agg #[.int .i64 a, .int .i64 b]] w fun e w' => e = .returned (.tuple #[.agg #[.int .i64 (coLo a b), .int .i64 (coHi a b)], .int .i64 0]) ∧ Below w.heap.size w w' := by
  obtain ⟨h1, h2, h3⟩ := id h
  have C := Lib.hid (fun w => check_ok a b w h)
  have M := Lib.hid (fun w => mod_all a 1000000000 w (by omega) (by omega) (by omega) (by omega))
  have S := Lib.hid (fun w ht => SinOver_ok (a % 1000000000 + 250000000) (a % 1000000000 + 250000000 + min (b - a) 2000000000) w ht ⟨by omega, by omega, by omega⟩)
  have hm : 0 ≤ a % 1000000000 ∧ a % 1000000000 < 1000000000 := by omega
  have HT := Lib.hid ht
  unfold coLo coHi
  generalize a % 1000000000 = m at *
  obtain ⟨l, hl⟩ : ∃ l, l = m + 250000000 := ⟨_, rfl⟩
  obtain ⟨d, hd⟩ : ∃ d, d = min (b - a) 2000000000 := ⟨_, rfl⟩
  rw [← hl, ← hd] at S ⊢
  obtain ⟨r, hr⟩ : ∃ r, r = l + d := ⟨_, rfl⟩
  rw [← hr] at S ⊢
  generalize soLo l r = lo at *
  generalize soHi l r = hi at *
  have w1 : wrap64 (m + 250000000) = l := by rw [hl]; exact IntWalk.wrap64_in _ (by omega)
  have w2 : wrap64 (b - a) = b - a := IntWalk.wrap64_in _ (by omega)
  have w3 : wrap64 (l + d) = r := by rw [hr]; exact IntWalk.wrap64_in _ (by omega)
  have e1 : min (b - a) 2000000000 = d := hd.symm
  clear hm hl hd hr h1 h2 h3 h ht
  go_enter Tryd.func57, Tryd.ntmps57
  go_wp2_with fail
  refine Calls.mono (C.out _) ?_
  rintro e w1 ⟨rfl, hb⟩
  obtain ⟨hb1, hz1, hc1, hf1⟩ := took (w := w) (by repeat' (first | (with_reducible refine below_drewN ?_ _) | go_grown)) (by first | (simp only [World.size_alloc, World.size_setCell, World.size_drew, size_drewN]; done) | (simp only [World.size_alloc, World.size_setCell, World.size_drew, size_drewN]; rfl) | rfl) hb; clear hb
  have z1 : w.heap.size < w1.heap.size := by omega
  have z1b : w.heap.size + 1 < w1.heap.size := by omega
  go_wp2_with fail
  refine Calls.mono (M.out _) ?_
  rintro e w2 ⟨rfl, hb⟩
  obtain ⟨hb2, hz2, hc2, hf2⟩ := took (w := w) (by repeat' (first | (with_reducible refine below_drewN ?_ _) | go_grown)) (by first | (simp only [World.size_alloc, World.size_setCell, World.size_drew, size_drewN]; done) | (simp only [World.size_alloc, World.size_setCell, World.size_drew, size_drewN]; rfl) | rfl) hb; clear hb
  have z2 : w.heap.size < w2.heap.size := by omega
  have z2b : w.heap.size + 1 < w2.heap.size := by omega
  have HT2 := HT.out.below hb2
  go_wp2_with fail
  refine Calls.mono (S.out _ HT2) ?_
  rintro e w3 ⟨rfl, hb⟩
  obtain ⟨hb3, hz3, hc3, hf3⟩ := took (w := w) (by repeat' (first | (with_reducible refine below_drewN ?_ _) | go_grown)) (by first | (simp only [World.size_alloc, World.size_setCell, World.size_drew, size_drewN]; done) | (simp only [World.size_alloc, World.size_setCell, World.size_drew, size_drewN]; rfl) | rfl) hb; clear hb
  have z3 : w.heap.size < w3.heap.size := by omega
  have z3b : w.heap.size + 1 < w3.heap.size := by omega
  go_wp2_with fail
  refine bodyPost_ret (v := .tuple #[.agg #[.int .i64 lo, .int .i64 hi], .int .i64 0]) ?_ rfl ⟨rfl, (by repeat' (first | (with_reducible refine below_drewN ?_ _) | go_grown))⟩
  simp [results, Tryd.results57, go_sem, *]
/-- Bounds for a product in the unit 1 / Turn. -/
structure TmsOk (a b c d : Int) : Prop where
  ab : a ≤ b
  cd : c ≤ d
  la : -1000000000 ≤ a
  lb : b ≤ 1000000000
  lc : -1000000000 ≤ c
  ld : d ≤ 1000000000
theorem TmsOk.mul {a b c d : Int} (h : TmsOk a b c d) : MulOk a b c d := mulOk_of h.la h.ab h.lb h.lc h.cd h.ld (by omega)
def tmLo (a b c d : Int) : Int := pLo a b c d 1000000000
def tmHi (a b c d : Int) : Int := pHi a b c d 1000000000
set_option maxHeartbeats 1000000 in
theorem Times_ok (a b c d : Int) (w : World) (h : MulOk a b c d) (h1 : -4000000000000000000 ≤ a ∧ a ≤ 4000000000000000000) (h2 : -4000000000000000000 ≤ b ∧ b ≤ 4000000000000000000) (h3 : -4000000000000000000 ≤ c ∧ c ≤ 4000000000000000000) (h4 : -4000000000000000000 ≤ d ∧ d ≤ 4000000000000000000) :
    Calls Tryd.prog 60 #[.agg #[.int .i64 a, .int .i64 b], .agg #[.int .i64 c, .int .i64 d]] w fun e w' => e = .returned (.agg #[.int .i64 (tmLo a b c d), .int .i64 (tmHi a b c d)]) ∧ Below w.heap.size w w' := by
  have P := Lib.hid (fun w => product_ok a b c d 1000000000 w (by omega) (by omega) h1 h2 h3 h4 h.p0 h.p1 h.p2 h.p3)
  have e1 : pLo a b c d ((1000000000 : Nat) : Int) = tmLo a b c d := rfl
  have e2 : pHi a b c d ((1000000000 : Nat) : Int) = tmHi a b c d := rfl
  rw [e1, e2] at P
  clear e1 e2
  generalize tmLo a b c d = lo at *
  generalize tmHi a b c d = hi at *
  have P' : Hid (∀ w, Calls Tryd.prog 77 #[.agg #[.int .i64 a, .int .i64 b], .agg #[.int .i64 c, .int .i64 d], .int .i64 1000000000] w fun e w' => e = .returned (.agg #[.int .i64 lo, .int .i64 hi]) ∧ Below w.heap.size w w') := P
  clear P h h1 h2 h3 h4
  go_enter Tryd.func60, Tryd.ntmps60
  go_wp2_with fail
  refine Calls.mono (P'.out _) ?_
  rintro e w1 ⟨rfl, hb⟩
  obtain ⟨hb1, hz1, hc1, hf1⟩ := took (w := w) (by repeat' (first | (with_reducible refine below_drewN ?_ _) | go_grown)) (by first | (simp only [World.size_alloc, World.size_setCell, World.size_drew, size_drewN]; done) | (simp only [World.size_alloc, World.size_setCell, World.size_drew, size_drewN]; rfl) | rfl) hb; clear hb
  have z1 : w.heap.size < w1.heap.size := by omega
  have z2 : w.heap.size + 1 < w1.heap.size := by omega
  have z3 : w.heap.size + 1 + 1 < w1.heap.size := by omega
  go_wp2_with fail
  refine bodyPost_ret (v := .agg #[.int .i64 lo, .int .i64 hi]) ?_ rfl ⟨rfl, (by repeat' (first | (with_reducible refine below_drewN ?_ _) | go_grown))⟩
  simp [results, Tryd.results60, go_sem, *]
set_option maxHeartbeats 1000000 in
theorem tPlus_ok (a b c d : Int) (w : World) (h1 : -4000000000000000000 ≤ a + c ∧ a + c ≤ 4000000000000000000) (h2 : -4000000000000000000 ≤ b + d ∧ b + d ≤ 4000000000000000000) :
    Calls Tryd.prog 62 #[.agg #[.int .i64 a, .int .i64 b], .agg #[.int .i64 c, .int .i64 d]] w fun e w' => e = .returned (.agg #[.int .i64 (a + c), .int .i64 (b + d)]) ∧ Below w.heap.size w w' := by
  have e1 : wrap64 (a + c) = a + c := IntWalk.wrap64_in _ (by omega)
  have e2 : wrap64 (b + d) = b + d := IntWalk.wrap64_in _ (by omega)
  clear h1 h2
  go_enter Tryd.func62, Tryd.ntmps62
  go_wp2_with fail
  refine bodyPost_ret (v := .agg #[.int .i64 (a + c), .int .i64 (b + d)]) ?_ rfl ⟨rfl, (by repeat' (first | (with_reducible refine below_drewN ?_ _) | go_grown))⟩
  simp [results, Tryd.results62, go_sem, *]
set_option maxHeartbeats 1000000 in
theorem tMinus_ok (a b c d : Int) (w : World) (h1 : -4000000000000000000 ≤ a - d ∧ a - d ≤ 4000000000000000000) (h2 : -4000000000000000000 ≤ b - c ∧ b - c ≤ 4000000000000000000) :
    Calls Tryd.prog 55 #[.agg #[.int .i64 a, .int .i64 b], .agg #[.int .i64 c, .int .i64 d]] w fun e w' => e = .returned (.agg #[.int .i64 (a - d), .int .i64 (b - c)]) ∧ Below w.heap.size w w' := by
  have e1 : wrap64 (a - d) = a - d := IntWalk.wrap64_in _ (by omega)
  have e2 : wrap64 (b - c) = b - c := IntWalk.wrap64_in _ (by omega)
  clear h1 h2
  go_enter Tryd.func55, Tryd.ntmps55
  go_wp2_with fail
  refine bodyPost_ret (v := .agg #[.int .i64 (a - d), .int .i64 (b - c)]) ?_ rfl ⟨rfl, (by repeat' (first | (with_reducible refine below_drewN ?_ _) | go_grown))⟩
  simp [results, Tryd.results55, go_sem, *]
end Go.Proofs.YtcopmgnfakjdhaaDoor
