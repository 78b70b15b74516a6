/- series.angle, series.Angle of any permitted sum. -/
import Derived.Test.YtdeoahgcppbmkaaDoorSeriesW
import Derived.Test.YtdeoahgcppbmkaaDoorAngle0
namespace Go.Proofs.YtdeoahgcppbmkaaDoor
open Go.RowKit
set_option linter.unusedSimpArgs false
set_option linter.unusedVariables false

/-- The angle of a sum. -/
def anLo (mean rate rest : Int) (zs : List Int) (n : Nat) (t : Int) : Int := (vLo mean rest zs n t + rate * t / 86400000000000 % 1000000000) % 1000000000
def anHi (mean rate rest : Int) (zs : List Int) (n : Nat) (t : Int) : Int := anLo mean rate rest zs n t + (vHi mean rest zs n t - vLo mean rest zs n t + if 0 < rate * t % 86400000000000 then 1 else 0)
theorem v_bd {mean rest t : Int} {n : Nat} {zs : List Int} (hn : n ≤ 40) (hz : ∀ i, i < n → TmOk zs i) (h1 : -1000000000 ≤ mean ∧ mean ≤ 1000000000) (h3 : 0 ≤ rest ∧ rest ≤ 100000000) :
    -62000000000 ≤ vLo mean rest zs n t ∧ vLo mean rest zs n t ≤ vHi mean rest zs n t ∧ vHi mean rest zs n t ≤ 62000000000 := by
  rcases Nat.eq_zero_or_pos n with rfl | hpos
  · show -62000000000 ≤ mean - rest ∧ mean - rest ≤ mean + rest ∧ mean + rest ≤ 62000000000
    omega
  · have hmod : ∀ i, i < n → Mod' (tmW zs t i) := fun i hi => tm_mod (hz i hi) t
    have AR := sum_around hn hmod
    have O := around_order AR (by grind)
    have AB := around_bd AR (by grind) (by have := (sum_ok hn hmod n (Nat.le_refl _)).bl; have := nat_le40 hn; grind) (by have := (sum_ok hn hmod n (Nat.le_refl _)).bh; have := nat_le40 hn; grind)
    unfold vLo vHi
    rw [if_neg (by omega), if_neg (by omega)]
    omega
set_option maxHeartbeats 4000000 in
theorem angle_ok (mean rate rest t : Int) (A : Option Addr) (n cap : Nat) (zs : List Int) (w : World) (hT : SinT w) (hF : FlatSl w 3 A n cap zs) (hs : SumIn mean rate rest n zs) (ht : -350000000000000 ≤ t ∧ t ≤ 350000000000000) :
    Calls Tryd.prog 80 #[.agg #[.int .i64 mean, .int .i64 rate, .slice A n cap, .int .i64 rest], .int .i64 t] w fun e w' => e = .returned (.agg #[.int .i64 (anLo mean rate rest zs n t), .int .i64 (anHi mean rate rest zs n t)]) ∧ Below w.heap.size w w' := by
  have h1 := And.intro hs.m1 hs.m2
  have h2 := And.intro hs.r1 hs.r2
  have h3 := And.intro hs.t1 hs.t2
  have VB := v_bd (t := t) hs.n40 hs.tm h1 h3
  have V := Lib.hid (fun W (hT : SinT W) (h : FlatSl W 3 A n cap zs) => value_ok mean rate rest t A n cap zs W hT h hs.n40 hs.tm h1 h3 ht)
  have G := Lib.hid (fun w => grown_ok rate t w h2 ht)
  obtain ⟨lo, hlo⟩ : ∃ x, x = anLo mean rate rest zs n t := ⟨_, rfl⟩
  obtain ⟨hi, hhi⟩ : ∃ x, x = anHi mean rate rest zs n t := ⟨_, rfl⟩
  rw [← hlo, ← hhi]
  unfold anHi at hhi
  rw [← hlo] at hhi
  unfold anLo at hlo
  have qb : -20000000000000000 ≤ rate * t / 86400000000000 ∧ rate * t / 86400000000000 ≤ 20000000000000000 := by
    have := mul_bd h2 ht
    omega
  generalize rate * t / 86400000000000 = q at *
  have hr0 : 0 ≤ rate * t % 86400000000000 := by omega
  generalize rate * t % 86400000000000 = r at *
  have M := Lib.hid (fun w => mod_all q 1000000000 w (by omega) (by omega) (by omega) (by omega))
  have qm0 : 0 ≤ q % 1000000000 ∧ q % 1000000000 < 1000000000 := by omega
  generalize q % 1000000000 = qm at *
  obtain ⟨m0, m1⟩ := qm0
  obtain ⟨x, hx⟩ : ∃ x, x = vLo mean rest zs n t := ⟨_, rfl⟩
  obtain ⟨y, hy⟩ : ∃ x, x = vHi mean rest zs n t := ⟨_, rfl⟩
  rw [← hx] at V hlo hhi VB
  rw [← hy] at V hhi VB
  have xb : -62000000000 ≤ x ∧ x ≤ 62000000000 := by omega
  have yb : -62000000000 ≤ y ∧ y ≤ 62000000000 := by omega
  have E1 := show Below w.heap.size w ((w.alloc (.cells #[.int .i64 mean, .int .i64 rate, .slice A n cap, .int .i64 rest] 46)).alloc (.cells #[.int .i64 0, .int .i64 0] 24)) from (by repeat' (first | (with_reducible refine below_drewN ?_ _) | go_grown))
  have T1 := Lib.hid (hT.below E1)
  have F1 := Lib.hid (flat_below hF E1)
  by_cases hr : 0 < r
  · rw [if_pos hr] at hhi
    have N := Lib.hid (fun w => norm_ok (x + qm) (y + 1 + qm) w (by omega) (by omega))
    have ehi : (x + qm) % 1000000000 + (y + 1 + qm) - (x + qm) = hi := by rw [hhi, ← hlo]; omega
    rw [ehi, ← hlo] at N
    have d1 : decide (0 < r) = true := decide_eq_true hr
    obtain ⟨x1, x2⟩ := xb
    obtain ⟨y1, y2⟩ := yb
    clear h1 h2 h3 ht qb hlo hhi hx hy ehi hr hT hF hs VB E1
    go_enter Tryd.func80, Tryd.ntmps80
    go_wp2_with fail
    refine Calls.mono (V.out _ T1.out F1.out) ?_
    rintro e w1 ⟨rfl, hb⟩
    obtain ⟨hb1, hz1, hc1, hf1⟩ := took (w := w) (by repeat' (first | (with_reducible refine below_drewN ?_ _) | go_grown)) (by first | (simp only [World.size_alloc, World.size_setCell, World.size_drew, size_drewN]; done) | (simp only [World.size_alloc, World.size_setCell, World.size_drew, size_drewN]; rfl) | rfl) hb; clear hb
    have z1 : w.heap.size < w1.heap.size := by omega
    have z1b : w.heap.size + 1 < w1.heap.size := by omega
    go_wp2_with fail
    refine Calls.mono (G.out _) ?_
    rintro e w2 ⟨rfl, hb⟩
    obtain ⟨hb2, hz2, hc2, hf2⟩ := took (w := w) (by repeat' (first | (with_reducible refine below_drewN ?_ _) | go_grown)) (by first | (simp only [World.size_alloc, World.size_setCell, World.size_drew, size_drewN]; done) | (simp only [World.size_alloc, World.size_setCell, World.size_drew, size_drewN]; rfl) | rfl) hb; clear hb
    have z2 : w.heap.size < w2.heap.size := by omega
    have z2b : w.heap.size + 1 < w2.heap.size := by omega
    have z2c : w1.heap.size < w2.heap.size := by omega
    go_wp2_with fail
    refine Calls.mono (M.out _) ?_
    rintro e w3 ⟨rfl, hb⟩
    obtain ⟨hb3, hz3, hc3, hf3⟩ := took (w := w) (by repeat' (first | (with_reducible refine below_drewN ?_ _) | go_grown)) (by first | (simp only [World.size_alloc, World.size_setCell, World.size_drew, size_drewN]; done) | (simp only [World.size_alloc, World.size_setCell, World.size_drew, size_drewN]; rfl) | rfl) hb; clear hb
    have z3 : w.heap.size < w3.heap.size := by omega
    have z3b : w.heap.size + 1 < w3.heap.size := by omega
    have z3c : w1.heap.size < w3.heap.size := by omega
    go_wp2_with fail
    refine Calls.mono (N.out _) ?_
    rintro e w4 ⟨rfl, hb⟩
    obtain ⟨hb4, hz4, hc4, hf4⟩ := took (w := w) (by repeat' (first | (with_reducible refine below_drewN ?_ _) | go_grown)) (by first | (simp only [World.size_alloc, World.size_setCell, World.size_drew, size_drewN]; done) | (simp only [World.size_alloc, World.size_setCell, World.size_drew, size_drewN]; rfl) | rfl) hb; clear hb
    have z4 : w.heap.size < w4.heap.size := by omega
    have z4b : w.heap.size + 1 < w4.heap.size := by omega
    have z4c : w1.heap.size < w4.heap.size := by omega
    go_wp2_with fail
    refine bodyPost_ret (v := .agg #[.int .i64 lo, .int .i64 hi]) ?_ rfl ⟨rfl, (by repeat' (first | (with_reducible refine below_drewN ?_ _) | go_grown))⟩
    simp [results, Tryd.results80, go_sem, *]
  · rw [if_neg hr] at hhi
    have N := Lib.hid (fun w => norm_ok (x + qm) (y + qm) w (by omega) (by omega))
    have ehi : (x + qm) % 1000000000 + (y + qm) - (x + qm) = hi := by rw [hhi, ← hlo]; omega
    rw [ehi, ← hlo] at N
    have d1 : decide (0 < r) = false := decide_eq_false hr
    obtain ⟨x1, x2⟩ := xb
    obtain ⟨y1, y2⟩ := yb
    clear h1 h2 h3 ht qb hlo hhi hx hy ehi hr hT hF hs VB E1
    go_enter Tryd.func80, Tryd.ntmps80
    go_wp2_with fail
    refine Calls.mono (V.out _ T1.out F1.out) ?_
    rintro e w1 ⟨rfl, hb⟩
    obtain ⟨hb1, hz1, hc1, hf1⟩ := took (w := w) (by repeat' (first | (with_reducible refine below_drewN ?_ _) | go_grown)) (by first | (simp only [World.size_alloc, World.size_setCell, World.size_drew, size_drewN]; done) | (simp only [World.size_alloc, World.size_setCell, World.size_drew, size_drewN]; rfl) | rfl) hb; clear hb
    have z1 : w.heap.size < w1.heap.size := by omega
    have z1b : w.heap.size + 1 < w1.heap.size := by omega
    go_wp2_with fail
    refine Calls.mono (G.out _) ?_
    rintro e w2 ⟨rfl, hb⟩
    obtain ⟨hb2, hz2, hc2, hf2⟩ := took (w := w) (by repeat' (first | (with_reducible refine below_drewN ?_ _) | go_grown)) (by first | (simp only [World.size_alloc, World.size_setCell, World.size_drew, size_drewN]; done) | (simp only [World.size_alloc, World.size_setCell, World.size_drew, size_drewN]; rfl) | rfl) hb; clear hb
    have z2 : w.heap.size < w2.heap.size := by omega
    have z2b : w.heap.size + 1 < w2.heap.size := by omega
    have z2c : w1.heap.size < w2.heap.size := by omega
    go_wp2_with fail
    refine Calls.mono (M.out _) ?_
    rintro e w3 ⟨rfl, hb⟩
    obtain ⟨hb3, hz3, hc3, hf3⟩ := took (w := w) (by repeat' (first | (with_reducible refine below_drewN ?_ _) | go_grown)) (by first | (simp only [World.size_alloc, World.size_setCell, World.size_drew, size_drewN]; done) | (simp only [World.size_alloc, World.size_setCell, World.size_drew, size_drewN]; rfl) | rfl) hb; clear hb
    have z3 : w.heap.size < w3.heap.size := by omega
    have z3b : w.heap.size + 1 < w3.heap.size := by omega
    have z3c : w1.heap.size < w3.heap.size := by omega
    go_wp2_with fail
    refine Calls.mono (N.out _) ?_
    rintro e w4 ⟨rfl, hb⟩
    obtain ⟨hb4, hz4, hc4, hf4⟩ := took (w := w) (by repeat' (first | (with_reducible refine below_drewN ?_ _) | go_grown)) (by first | (simp only [World.size_alloc, World.size_setCell, World.size_drew, size_drewN]; done) | (simp only [World.size_alloc, World.size_setCell, World.size_drew, size_drewN]; rfl) | rfl) hb; clear hb
    have z4 : w.heap.size < w4.heap.size := by omega
    have z4b : w.heap.size + 1 < w4.heap.size := by omega
    have z4c : w1.heap.size < w4.heap.size := by omega
    go_wp2_with fail
    refine bodyPost_ret (v := .agg #[.int .i64 lo, .int .i64 hi]) ?_ rfl ⟨rfl, (by repeat' (first | (with_reducible refine below_drewN ?_ _) | go_grown))⟩
    simp [results, Tryd.results80, go_sem, *]
set_option maxHeartbeats 4000000 in
/-- series.Angle of a permitted sum. -/
theorem Angle_ok (mean rate rest t : Int) (A : Option Addr) (n cap : Nat) (zs : List Int) (w : World) (hT : SinT w) (hF : FlatSl w 3 A n cap zs) (hs : SumIn mean rate rest n zs) (ht : instOk t = true) :
    Calls Tryd.prog 37 #[.agg #[.int .i64 mean, .int .i64 rate, .slice A n cap, .int .i64 rest], .int .i64 t] w fun e w' => e = .returned (.tuple #[.agg #[.int .i64 (anLo mean rate rest zs n t), .int .i64 (anHi mean rate rest zs n t)], .int .i64 0]) ∧ Below w.heap.size w w' := by
  have htb : -345600000000000 ≤ t ∧ t ≤ 345686400000000 := by
    have h : dayOk (t / 86400000) = true := ht
    unfold dayOk at h
    have := of_decide_eq_true h
    omega
  have C := Lib.hid (fun W (h : FlatSl W 3 A n cap zs) => check_ok mean rate rest A n cap zs W h hs)
  have I := Lib.hid (fun w => ht ▸ isInst_ok t w (by omega) (by omega))
  have G := Lib.hid (fun W (hT : SinT W) (h : FlatSl W 3 A n cap zs) => angle_ok mean rate rest t A n cap zs W hT h hs (by omega))
  have HF := Lib.hid hF
  have HT := Lib.hid hT
  have f1 := Lib.hid (flat_below hF (show Below w.heap.size w ((w.alloc (.cells #[.int .i64 mean, .int .i64 rate, .slice A n cap, .int .i64 rest] 46)).alloc (.cells #[.int .i64 0, .int .i64 0] 24)) from (by repeat' (first | (with_reducible refine below_drewN ?_ _) | go_grown))))
  generalize anLo mean rate rest zs n t = lo at *
  generalize anHi mean rate rest zs n t = hi at *
  clear hF hs hT ht htb
  go_enter Tryd.func37, Tryd.ntmps37
  go_wp2_with fail
  refine Calls.mono (C.out _ f1.out) ?_
  rintro e w1 ⟨rfl, hb⟩
  obtain ⟨hb1, hz1, hc1, hf1⟩ := took (w := w) (by repeat' (first | (with_reducible refine below_drewN ?_ _) | go_grown)) (by first | (simp only [World.size_alloc, World.size_setCell, World.size_drew, size_drewN]; done) | (simp only [World.size_alloc, World.size_setCell, World.size_drew, size_drewN]; rfl) | rfl) hb; clear hb
  have z1 : w.heap.size < w1.heap.size := by omega
  have z1b : w.heap.size + 1 < w1.heap.size := by omega
  go_wp2_with fail
  refine Calls.mono (I.out _) ?_
  rintro e w2 ⟨rfl, hb⟩
  obtain ⟨hb2, hz2, hc2, hf2⟩ := took (w := w) (by repeat' (first | (with_reducible refine below_drewN ?_ _) | go_grown)) (by first | (simp only [World.size_alloc, World.size_setCell, World.size_drew, size_drewN]; done) | (simp only [World.size_alloc, World.size_setCell, World.size_drew, size_drewN]; rfl) | rfl) hb; clear hb
  have z2 : w.heap.size < w2.heap.size := by omega
  have z2b : w.heap.size + 1 < w2.heap.size := by omega
  have f2 := Lib.hid (flat_below HF.out hb2)
  have T2 := Lib.hid (HT.out.below hb2)
  go_wp2_with fail
  refine Calls.mono (G.out _ T2.out f2.out) ?_
  rintro e w3 ⟨rfl, hb⟩
  obtain ⟨hb3, hz3, hc3, hf3⟩ := took (w := w) (by repeat' (first | (with_reducible refine below_drewN ?_ _) | go_grown)) (by first | (simp only [World.size_alloc, World.size_setCell, World.size_drew, size_drewN]; done) | (simp only [World.size_alloc, World.size_setCell, World.size_drew, size_drewN]; rfl) | rfl) hb; clear hb
  have z3 : w.heap.size < w3.heap.size := by omega
  have z3b : w.heap.size + 1 < w3.heap.size := by omega
  go_wp2_with fail
  refine bodyPost_ret (v := .tuple #[.agg #[.int .i64 lo, .int .i64 hi], .int .i64 0]) ?_ rfl ⟨rfl, (by repeat' (first | (with_reducible refine below_drewN ?_ _) | go_grown))⟩
  simp [results, Tryd.results37, go_sem, *]
end Go.Proofs.YtdeoahgcppbmkaaDoor
