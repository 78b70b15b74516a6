/- trig.Norm; sums without terms: series.Check, value, angle, Angle. -/
import Derived.Test.YtdeoahgcppbmkaaDoorGrown
namespace Go.Proofs.YtdeoahgcppbmkaaDoor
open Go.RowKit
set_option linter.unusedSimpArgs false
set_option linter.unusedVariables false

set_option maxHeartbeats 1000000 in
theorem norm_ok (lo hi : Int) (w : World) (h1 : -4000000000000000000 ≤ lo ∧ lo ≤ 4000000000000000000) (h2 : -4000000000000000000 ≤ hi ∧ hi ≤ 4000000000000000000) :
    Calls Tryd.prog 70 #[.agg #[.int .i64 lo, .int .i64 hi]] w fun e w' => e = .returned (.agg #[.int .i64 (lo % 1000000000), .int .i64 (lo % 1000000000 + hi - lo)]) ∧ Below w.heap.size w w' := by
  have hm := Lib.hid (fun w => mod_all lo 1000000000 w (by omega) (by omega) (by omega) (by omega))
  obtain ⟨m, hmm⟩ : ∃ m, m = lo % 1000000000 := ⟨_, rfl⟩
  rw [← hmm] at hm ⊢
  have m1 : 0 ≤ m := by omega
  have m2 : m < 1000000000 := by omega
  obtain ⟨a1, a2⟩ := h1
  obtain ⟨a3, a4⟩ := h2
  clear hmm
  go_enter Tryd.func70, Tryd.ntmps70
  go_wp2_with fail
  refine Calls.mono (hm.out _) ?_
  rintro e w1 ⟨rfl, hb⟩
  obtain ⟨hb1, hz1, hc1, hf1⟩ := took (w := w) (by repeat' (first | (with_reducible refine below_drewN ?_ _) | go_grown)) (by first | (simp only [World.size_alloc, World.size_setCell, World.size_drew, size_drewN]; done) | (simp only [World.size_alloc, World.size_setCell, World.size_drew, size_drewN]; rfl) | rfl) hb; clear hb
  have z1 : w.heap.size < w1.heap.size := by omega
  have z2 : w.heap.size + 1 < w1.heap.size := by omega
  go_wp2_with fail
  refine bodyPost_ret (v := .agg #[.int .i64 m, .int .i64 (m + hi - lo)]) ?_ rfl ⟨rfl, (by repeat' (first | (with_reducible refine below_drewN ?_ _) | go_grown))⟩
  simp [results, Tryd.results70, go_sem, *]
theorem inR_true (n m : Int) (w : World) (h : -m ≤ n ∧ n ≤ m) (hm : 0 ≤ m ∧ m ≤ 9000000000000000000) : Calls Tryd.prog 111 #[.int .i64 n, .int .i64 m] w fun e w' => e = .returned (.bool true) ∧ w' = w := by
  have e1 : wrap64 (-m) = -m := IntWalk.wrap64_in _ (by omega)
  obtain ⟨h1, h2⟩ := h
  go_enter Tryd.func111, Tryd.ntmps111
  go_wp2
  go_ret
  exact ⟨rfl, rfl⟩
/-- A sum without terms. -/
def sum0 (mean rate rest : Int) : Value := .agg #[.int .i64 mean, .int .i64 rate, .slice none 0 0, .int .i64 rest]
set_option maxHeartbeats 2000000 in
theorem check0_ok (mean rate rest : Int) (w : World) (h1 : -1000000000 ≤ mean ∧ mean ≤ 1000000000) (h2 : -4000000000000000 ≤ rate ∧ rate ≤ 4000000000000000) (h3 : 0 ≤ rest ∧ rest ≤ 100000000) :
    Calls Tryd.prog 79 #[.agg #[.int .i64 mean, .int .i64 rate, .slice none 0 0, .int .i64 rest]] w fun e w' => e = .returned (.int .i64 0) ∧ Below w.heap.size w w' := by
  have c1 := Lib.hid (fun w => inR_true mean 1000000000 w (by omega) (by omega))
  have c2 := Lib.hid (fun w => inR_true rate 4000000000000000 w (by omega) (by omega))
  have d1 : decide (rest < 0) = false := decide_eq_false (by omega)
  have d2 : decide (100000000 < rest) = false := decide_eq_false (by omega)
  clear h1 h2 h3
  go_enter Tryd.func79, Tryd.ntmps79
  go_wp2_with fail
  refine Calls.mono (c1.out _) ?_
  rintro e _ ⟨rfl, rfl⟩
  go_wp2_with fail
  refine Calls.mono (c2.out _) ?_
  rintro e _ ⟨rfl, rfl⟩
  go_wp2_with fail
  go_loop [32] (fun i => i = .int .i64 0) (fun _ => 0)
  case atStart => rfl
  case round =>
    obtain rfl := hrel
    go_wp2_with fail
    go_returns
    exact ⟨rfl, (by repeat' (first | (with_reducible refine below_drewN ?_ _) | go_grown))⟩
set_option maxHeartbeats 2000000 in
theorem value0_ok (mean rate rest t : Int) (w : World) (h1 : -1000000000 ≤ mean ∧ mean ≤ 1000000000) (h3 : 0 ≤ rest ∧ rest ≤ 100000000) :
    Calls Tryd.prog 109 #[.agg #[.int .i64 mean, .int .i64 rate, .slice none 0 0, .int .i64 rest], .int .i64 t] w fun e w' => e = .returned (.agg #[.int .i64 (mean - rest), .int .i64 (mean + rest)]) ∧ Below w.heap.size w w' := by
  obtain ⟨a1, a2⟩ := h1
  obtain ⟨a3, a4⟩ := h3
  go_enter Tryd.func109, Tryd.ntmps109
  go_wp2_with fail
  refine bodyPost_ret (v := .agg #[.int .i64 (mean - rest), .int .i64 (mean + rest)]) ?_ rfl ⟨rfl, (by repeat' (first | (with_reducible refine below_drewN ?_ _) | go_grown))⟩
  simp [results, Tryd.results109, go_sem, *]
theorem mul_bd {a b A B : Int} (h1 : -A ≤ a ∧ a ≤ A) (h2 : -B ≤ b ∧ b ≤ B) : -(A * B) ≤ a * b ∧ a * b ≤ A * B := by
  have e : ((a * b).natAbs : Int) = (a.natAbs : Int) * (b.natAbs : Int) := by rw [Int.natAbs_mul]; rfl
  have p1 : (a.natAbs : Int) ≤ A := by omega
  have p2 : (b.natAbs : Int) ≤ B := by omega
  have p3 : (a.natAbs : Int) * (b.natAbs : Int) ≤ A * B := Int.mul_le_mul p1 p2 (by omega) (by omega)
  omega
/-- The angle of a sum without terms. -/
def a0Lo (mean rate rest t : Int) : Int := (mean - rest + rate * t / 86400000000000 % 1000000000) % 1000000000
def a0Hi (mean rate rest t : Int) : Int := a0Lo mean rate rest t + (2 * rest + if 0 < rate * t % 86400000000000 then 1 else 0)
set_option maxHeartbeats 4000000 in
theorem angle0_ok (mean rate rest t : Int) (w : World) (h1 : -1000000000 ≤ mean ∧ mean ≤ 1000000000) (h2 : -4000000000000000 ≤ rate ∧ rate ≤ 4000000000000000) (h3 : 0 ≤ rest ∧ rest ≤ 100000000) (ht : -350000000000000 ≤ t ∧ t ≤ 350000000000000) :
    Calls Tryd.prog 80 #[.agg #[.int .i64 mean, .int .i64 rate, .slice none 0 0, .int .i64 rest], .int .i64 t] w fun e w' => e = .returned (.agg #[.int .i64 (a0Lo mean rate rest t), .int .i64 (a0Hi mean rate rest t)]) ∧ Below w.heap.size w w' := by
  have V := Lib.hid (fun w => value0_ok mean rate rest t w h1 h3)
  have G := Lib.hid (fun w => grown_ok rate t w h2 ht)
  obtain ⟨lo, hlo⟩ : ∃ x, x = a0Lo mean rate rest t := ⟨_, rfl⟩
  obtain ⟨hi, hhi⟩ : ∃ x, x = a0Hi mean rate rest t := ⟨_, rfl⟩
  rw [← hlo, ← hhi]
  unfold a0Hi at hhi
  rw [← hlo] at hhi
  unfold a0Lo at hlo
  have qb : -20000000000000000 ≤ rate * t / 86400000000000 ∧ rate * t / 86400000000000 ≤ 20000000000000000 := by
    have := mul_bd h2 ht
    omega
  generalize rate * t / 86400000000000 = q at *
  have hr0 : 0 ≤ rate * t % 86400000000000 := by omega
  generalize rate * t % 86400000000000 = r at *
  have M := Lib.hid (fun w => mod_all q 1000000000 w (by omega) (by omega) (by omega) (by omega))
  have qm0 : 0 ≤ q % 1000000000 ∧ q % 1000000000 < 1000000000 := by omega
  generalize q % 1000000000 = qm at *
  obtain ⟨m0, m1⟩ := qm0
  obtain ⟨x, hx⟩ : ∃ x, x = mean - rest := ⟨_, rfl⟩
  obtain ⟨y, hy⟩ : ∃ x, x = mean + rest := ⟨_, rfl⟩
  have xb : -1200000000 ≤ x ∧ x ≤ 1200000000 := by omega
  have yb : -1200000000 ≤ y ∧ y ≤ 1200000000 := by omega
  rw [← hx] at V hlo
  rw [← hy] at V
  by_cases hr : 0 < r
  · rw [if_pos hr] at hhi
    have N := Lib.hid (fun w => norm_ok (x + qm) (y + 1 + qm) w (by omega) (by omega))
    have ehi : (x + qm) % 1000000000 + (y + 1 + qm) - (x + qm) = hi := by rw [hhi, ← hlo]; omega
    rw [ehi, ← hlo] at N
    have d1 : decide (0 < r) = true := decide_eq_true hr
    obtain ⟨x1, x2⟩ := xb
    obtain ⟨y1, y2⟩ := yb
    clear h1 h2 h3 ht qb hlo hhi hx hy ehi hr
    go_enter Tryd.func80, Tryd.ntmps80
    go_wp2_with fail
    refine Calls.mono (V.out _) ?_
    rintro e w1 ⟨rfl, hb⟩
    obtain ⟨hb1, hz1, hc1, hf1⟩ := took (w := w) (by repeat' (first | (with_reducible refine below_drewN ?_ _) | go_grown)) (by first | (simp only [World.size_alloc, World.size_setCell, World.size_drew, size_drewN]; done) | (simp only [World.size_alloc, World.size_setCell, World.size_drew, size_drewN]; rfl) | rfl) hb; clear hb
    have z1 : w.heap.size < w1.heap.size := by omega
    have z1b : w.heap.size + 1 < w1.heap.size := by omega
    go_wp2_with fail
    refine Calls.mono (G.out _) ?_
    rintro e w2 ⟨rfl, hb⟩
    obtain ⟨hb2, hz2, hc2, hf2⟩ := took (w := w) (by repeat' (first | (with_reducible refine below_drewN ?_ _) | go_grown)) (by first | (simp only [World.size_alloc, World.size_setCell, World.size_drew, size_drewN]; done) | (simp only [World.size_alloc, World.size_setCell, World.size_drew, size_drewN]; rfl) | rfl) hb; clear hb
    have z2 : w.heap.size < w2.heap.size := by omega
    have z2b : w.heap.size + 1 < w2.heap.size := by omega
    have z2c : w1.heap.size < w2.heap.size := by omega
    go_wp2_with fail
    refine Calls.mono (M.out _) ?_
    rintro e w3 ⟨rfl, hb⟩
    obtain ⟨hb3, hz3, hc3, hf3⟩ := took (w := w) (by repeat' (first | (with_reducible refine below_drewN ?_ _) | go_grown)) (by first | (simp only [World.size_alloc, World.size_setCell, World.size_drew, size_drewN]; done) | (simp only [World.size_alloc, World.size_setCell, World.size_drew, size_drewN]; rfl) | rfl) hb; clear hb
    have z3 : w.heap.size < w3.heap.size := by omega
    have z3b : w.heap.size + 1 < w3.heap.size := by omega
    have z3c : w1.heap.size < w3.heap.size := by omega
    go_wp2_with fail
    refine Calls.mono (N.out _) ?_
    rintro e w4 ⟨rfl, hb⟩
    obtain ⟨hb4, hz4, hc4, hf4⟩ := took (w := w) (by repeat' (first | (with_reducible refine below_drewN ?_ _) | go_grown)) (by first | (simp only [World.size_alloc, World.size_setCell, World.size_drew, size_drewN]; done) | (simp only [World.size_alloc, World.size_setCell, World.size_drew, size_drewN]; rfl) | rfl) hb; clear hb
    have z4 : w.heap.size < w4.heap.size := by omega
    have z4b : w.heap.size + 1 < w4.heap.size := by omega
    have z4c : w1.heap.size < w4.heap.size := by omega
    go_wp2_with fail
    refine bodyPost_ret (v := .agg #[.int .i64 lo, .int .i64 hi]) ?_ rfl ⟨rfl, (by repeat' (first | (with_reducible refine below_drewN ?_ _) | go_grown))⟩
    simp [results, Tryd.results80, go_sem, *]
  · rw [if_neg hr] at hhi
    have N := Lib.hid (fun w => norm_ok (x + qm) (y + qm) w (by omega) (by omega))
    have ehi : (x + qm) % 1000000000 + (y + qm) - (x + qm) = hi := by rw [hhi, ← hlo]; omega
    rw [ehi, ← hlo] at N
    have d1 : decide (0 < r) = false := decide_eq_false hr
    obtain ⟨x1, x2⟩ := xb
    obtain ⟨y1, y2⟩ := yb
    clear h1 h2 h3 ht qb hlo hhi hx hy ehi hr
    go_enter Tryd.func80, Tryd.ntmps80
    go_wp2_with fail
    refine Calls.mono (V.out _) ?_
    rintro e w1 ⟨rfl, hb⟩
    obtain ⟨hb1, hz1, hc1, hf1⟩ := took (w := w) (by repeat' (first | (with_reducible refine below_drewN ?_ _) | go_grown)) (by first | (simp only [World.size_alloc, World.size_setCell, World.size_drew, size_drewN]; done) | (simp only [World.size_alloc, World.size_setCell, World.size_drew, size_drewN]; rfl) | rfl) hb; clear hb
    have z1 : w.heap.size < w1.heap.size := by omega
    have z1b : w.heap.size + 1 < w1.heap.size := by omega
    go_wp2_with fail
    refine Calls.mono (G.out _) ?_
    rintro e w2 ⟨rfl, hb⟩
    obtain ⟨hb2, hz2, hc2, hf2⟩ := took (w := w) (by repeat' (first | (with_reducible refine below_drewN ?_ _) | go_grown)) (by first | (simp only [World.size_alloc, World.size_setCell, World.size_drew, size_drewN]; done) | (simp only [World.size_alloc, World.size_setCell, World.size_drew, size_drewN]; rfl) | rfl) hb; clear hb
    have z2 : w.heap.size < w2.heap.size := by omega
    have z2b : w.heap.size + 1 < w2.heap.size := by omega
    have z2c : w1.heap.size < w2.heap.size := by omega
    go_wp2_with fail
    refine Calls.mono (M.out _) ?_
    rintro e w3 ⟨rfl, hb⟩
    obtain ⟨hb3, hz3, hc3, hf3⟩ := took (w := w) (by repeat' (first | (with_reducible refine below_drewN ?_ _) | go_grown)) (by first | (simp only [World.size_alloc, World.size_setCell, World.size_drew, size_drewN]; done) | (simp only [World.size_alloc, World.size_setCell, World.size_drew, size_drewN]; rfl) | rfl) hb; clear hb
    have z3 : w.heap.size < w3.heap.size := by omega
    have z3b : w.heap.size + 1 < w3.heap.size := by omega
    have z3c : w1.heap.size < w3.heap.size := by omega
    go_wp2_with fail
    refine Calls.mono (N.out _) ?_
    rintro e w4 ⟨rfl, hb⟩
    obtain ⟨hb4, hz4, hc4, hf4⟩ := took (w := w) (by repeat' (first | (with_reducible refine below_drewN ?_ _) | go_grown)) (by first | (simp only [World.size_alloc, World.size_setCell, World.size_drew, size_drewN]; done) | (simp only [World.size_alloc, World.size_setCell, World.size_drew, size_drewN]; rfl) | rfl) hb; clear hb
    have z4 : w.heap.size < w4.heap.size := by omega
    have z4b : w.heap.size + 1 < w4.heap.size := by omega
    have z4c : w1.heap.size < w4.heap.size := by omega
    go_wp2_with fail
    refine bodyPost_ret (v := .agg #[.int .i64 lo, .int .i64 hi]) ?_ rfl ⟨rfl, (by repeat' (first | (with_reducible refine below_drewN ?_ _) | go_grown))⟩
    simp [results, Tryd.results80, go_sem, *]
set_option maxHeartbeats 4000000 in
/-- series.Angle of a sum without terms. -/
theorem Angle0_ok (mean rate rest t : Int) (w : World) (h1 : -1000000000 ≤ mean ∧ mean ≤ 1000000000) (h2 : -4000000000000000 ≤ rate ∧ rate ≤ 4000000000000000) (h3 : 0 ≤ rest ∧ rest ≤ 100000000) (ht : instOk t = true) :
    Calls Tryd.prog 37 #[.agg #[.int .i64 mean, .int .i64 rate, .slice none 0 0, .int .i64 rest], .int .i64 t] w fun e w' => e = .returned (.tuple #[.agg #[.int .i64 (a0Lo mean rate rest t), .int .i64 (a0Hi mean rate rest t)], .int .i64 0]) ∧ Below w.heap.size w w' := by
  have htb : -345600000000000 ≤ t ∧ t ≤ 345686400000000 := by
    have h : dayOk (t / 86400000) = true := ht
    unfold dayOk at h
    have := of_decide_eq_true h
    omega
  have C := Lib.hid (fun w => check0_ok mean rate rest w h1 h2 h3)
  have I := Lib.hid (fun w => ht ▸ isInst_ok t w (by omega) (by omega))
  have A := Lib.hid (fun w => angle0_ok mean rate rest t w h1 h2 h3 (by omega))
  generalize a0Lo mean rate rest t = lo at *
  generalize a0Hi mean rate rest t = hi at *
  clear h1 h2 h3 ht htb
  go_enter Tryd.func37, Tryd.ntmps37
  go_wp2_with fail
  refine Calls.mono (C.out _) ?_
  rintro e w1 ⟨rfl, hb⟩
  obtain ⟨hb1, hz1, hc1, hf1⟩ := took (w := w) (by repeat' (first | (with_reducible refine below_drewN ?_ _) | go_grown)) (by first | (simp only [World.size_alloc, World.size_setCell, World.size_drew, size_drewN]; done) | (simp only [World.size_alloc, World.size_setCell, World.size_drew, size_drewN]; rfl) | rfl) hb; clear hb
  have z1 : w.heap.size < w1.heap.size := by omega
  have z1b : w.heap.size + 1 < w1.heap.size := by omega
  go_wp2_with fail
  refine Calls.mono (I.out _) ?_
  rintro e w2 ⟨rfl, hb⟩
  obtain ⟨hb2, hz2, hc2, hf2⟩ := took (w := w) (by repeat' (first | (with_reducible refine below_drewN ?_ _) | go_grown)) (by first | (simp only [World.size_alloc, World.size_setCell, World.size_drew, size_drewN]; done) | (simp only [World.size_alloc, World.size_setCell, World.size_drew, size_drewN]; rfl) | rfl) hb; clear hb
  have z2 : w.heap.size < w2.heap.size := by omega
  have z2b : w.heap.size + 1 < w2.heap.size := by omega
  go_wp2_with fail
  refine Calls.mono (A.out _) ?_
  rintro e w3 ⟨rfl, hb⟩
  obtain ⟨hb3, hz3, hc3, hf3⟩ := took (w := w) (by repeat' (first | (with_reducible refine below_drewN ?_ _) | go_grown)) (by first | (simp only [World.size_alloc, World.size_setCell, World.size_drew, size_drewN]; done) | (simp only [World.size_alloc, World.size_setCell, World.size_drew, size_drewN]; rfl) | rfl) hb; clear hb
  have z3 : w.heap.size < w3.heap.size := by omega
  have z3b : w.heap.size + 1 < w3.heap.size := by omega
  go_wp2_with fail
  refine bodyPost_ret (v := .tuple #[.agg #[.int .i64 lo, .int .i64 hi], .int .i64 0]) ?_ rfl ⟨rfl, (by repeat' (first | (with_reducible refine below_drewN ?_ _) | go_grown))⟩
  simp [results, Tryd.results37, go_sem, *]
end Go.Proofs.YtdeoahgcppbmkaaDoor
