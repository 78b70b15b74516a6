/- line: Leap, Lengths, NewYear, weekday, Nth. -/
import Derived.Test.YtdifeoahaegjbaaDoorZone
namespace Go.Proofs.YtdifeoahaegjbaaDoor
open Go.RowKit
set_option linter.unusedSimpArgs false
set_option linter.unusedVariables false

def leapF (y : Int) : Bool := decide (y.tmod 4 = 0) && (!decide (y.tmod 100 = 0) || decide (y.tmod 400 = 0))
set_option maxHeartbeats 2000000 in
theorem leap_ok (y : Int) (w : World) : Calls Tryd.prog 53 #[.int .i64 y] w fun e w' => e = .returned (.bool (leapF y)) ∧ w' = w := by
  by_cases h1 : y.tmod 4 = 0
  · by_cases h2 : y.tmod 100 = 0
    · by_cases h3 : y.tmod 400 = 0
      · have hl : leapF y = true := by unfold leapF; simp [h1, h2, h3]
        rw [hl]; clear hl
        go_enter Tryd.func53, Tryd.ntmps53
        go_wp2_with fail
        go_ret
        exact ⟨rfl, rfl⟩
      · have hl : leapF y = false := by unfold leapF; simp [h1, h2, h3]
        rw [hl]; clear hl
        go_enter Tryd.func53, Tryd.ntmps53
        go_wp2_with fail
        go_ret
        refine ⟨?_, rfl⟩
        show Ending.returned (.bool (y.tmod 400 == 0)) = _
        simp [h3]
    · have hl : leapF y = true := by unfold leapF; simp [h1, h2]
      rw [hl]; clear hl
      go_enter Tryd.func53, Tryd.ntmps53
      go_wp2_with fail
      go_ret
      exact ⟨rfl, rfl⟩
  · have hl : leapF y = false := by unfold leapF; simp [h1]
    rw [hl]; clear hl
    go_enter Tryd.func53, Tryd.ntmps53
    go_wp2_with fail
    go_ret
    exact ⟨rfl, rfl⟩

def mLen (f : Int) : Nat → Int := fun j => match j with | 1 => f | 3 => 30 | 5 => 30 | 8 => 30 | 10 => 30 | _ => 31
def lenC (f : Int) : Array Value := #[.int .i64 31, .int .i64 f, .int .i64 31, .int .i64 30, .int .i64 31, .int .i64 30, .int .i64 31, .int .i64 31, .int .i64 30, .int .i64 31, .int .i64 30, .int .i64 31]
theorem mLen_bnd {f : Int} (h : 28 ≤ f ∧ f ≤ 29) (j : Nat) : 28 ≤ mLen f j ∧ mLen f j ≤ 31 := by
  unfold mLen; split <;> omega
def LnBox (w : World) (b : Nat) (f : Int) : Prop := w.rowIs b 86 12 (fun j => .int .i64 (mLen f j))
theorem LnBox.cell {w : World} {b : Nat} {f : Int} (h : LnBox w b f) (j : Nat) (hj : j < 12) : w.cell? ⟨b, j, none⟩ = some (.int .i64 (mLen f j)) := World.rowIs.cell h hj
theorem LnBox.free {w : World} {b : Nat} {f : Int} (h : LnBox w b f) (j : Nat) : w.frozen? ⟨b, j, none⟩ = false := World.rowIs.frozen h j
theorem LnBox.lt {w : World} {b : Nat} {f : Int} (h : LnBox w b f) : b < w.heap.size := World.rowIs.lt h
theorem LnBox.below {w w' : World} {b : Nat} {f : Int} (h : LnBox w b f) (hb : Below w.heap.size w w') : LnBox w' b f := World.rowIs.of_block h (hb.block b (World.rowIs.lt h))
theorem LnBox.new (w : World) (f : Int) : LnBox (w.alloc (.cells (lenC f) 86)) w.heap.size f :=
  World.rowIs_alloc w (lenC f) 86 _ (fun i hi => by
    match i, hi with
    | 0, _ => rfl
    | 1, _ => rfl
    | 2, _ => rfl
    | 3, _ => rfl
    | 4, _ => rfl
    | 5, _ => rfl
    | 6, _ => rfl
    | 7, _ => rfl
    | 8, _ => rfl
    | 9, _ => rfl
    | 10, _ => rfl
    | 11, _ => rfl)

def febF (y : Int) : Int := if leapF y = true then 29 else 28
theorem febF_bd (y : Int) : 28 ≤ febF y ∧ febF y ≤ 29 := by unfold febF; split <;> omega
theorem lenC_at (f : Int) (j : Nat) (hj : j < 12) : ∀ w, (Instr.index 86 (.agg (lenC f)) (.int .i64 j)).run Tryd.prog w = .ok (.int .i64 (mLen f j)) w := fun w => by
  rcases (by omega : j = 0 ∨ j = 1 ∨ j = 2 ∨ j = 3 ∨ j = 4 ∨ j = 5 ∨ j = 6 ∨ j = 7 ∨ j = 8 ∨ j = 9 ∨ j = 10 ∨ j = 11) with rfl | rfl | rfl | rfl | rfl | rfl | rfl | rfl | rfl | rfl | rfl | rfl
  all_goals kernel_rfl
set_option maxHeartbeats 4000000 in
set_option maxRecDepth 100000 in
theorem lengths_ok (y : Int) (w : World) : Calls Tryd.prog 44 #[.int .i64 y] w fun e w' => e = .returned (.agg (lenC (febF y))) ∧ Below w.heap.size w w' := by
  cases hb : leapF y
  · have hf : febF y = 28 := by unfold febF; rw [hb]; rfl
    have HL := Lib.hid (fun W => hb ▸ leap_ok y W)
    rw [hf]
    clear hf hb
    go_enter Tryd.func44, Tryd.ntmps44
    go_wp2_with fail
    refine Calls.mono (HL.out _) ?_
    rintro e _ ⟨rfl, rfl⟩
    go_wp2_with fail
    go_returns
    exact ⟨rfl, (by repeat' (first | (with_reducible refine below_drewN ?_ _) | go_grown))⟩
  · have hf : febF y = 29 := by unfold febF; rw [hb]; rfl
    have HL := Lib.hid (fun W => hb ▸ leap_ok y W)
    rw [hf]
    clear hf hb
    go_enter Tryd.func44, Tryd.ntmps44
    go_wp2_with fail
    refine Calls.mono (HL.out _) ?_
    rintro e _ ⟨rfl, rfl⟩
    go_wp2_with fail
    go_returns
    exact ⟨rfl, (by repeat' (first | (with_reducible refine below_drewN ?_ _) | go_grown))⟩
set_option maxHeartbeats 2000000 in
theorem weekday_ok (d : Int) (w : World) (h : -100000000 ≤ d ∧ d ≤ 100000000) : Calls Tryd.prog 56 #[.int .i64 d] w fun e w' => ∃ r, (0 ≤ r ∧ r ≤ 6) ∧ e = .returned (.int .i64 r) ∧ Below w.heap.size w w' := by
  have H := Lib.hid h
  have p1 : IntKind.i64.wrap (d - 1) = d - 1 := IntWalk.i64_in _ (by omega)
  go_enter Tryd.func56, Tryd.ntmps56
  go_wp2_with fail
  refine Calls.mono (mod_all _ 7 _ (by omega) (by have := H.out; omega) (by have := H.out; omega) (by omega)) ?_
  rintro e w1 ⟨rfl, hbl⟩
  go_wp2_with fail
  go_ret
  exact ⟨_, by omega, rfl, hbl⟩
theorem lineCheck_ok (d : Int) (w : World) (h : dayOk d = true) : Calls Tryd.prog 54 #[.int .i64 d] w fun e w' => e = .returned (.int .i64 0) ∧ w' = w := by
  have H := Lib.hid (fun W => h ▸ lineIs_ok d W)
  clear h
  go_enter Tryd.func54, Tryd.ntmps54
  go_wp2_with fail
  refine Calls.mono (H.out _) ?_
  rintro e _ ⟨rfl, rfl⟩
  go_wp2_with fail
  go_ret
  exact ⟨rfl, rfl⟩
def newF (y : Int) : Int := 365 * (y - 1) + (y - 1) / 4 - (y - 1) / 100 + (y - 1) / 400 + 1
theorem newF_bd (y : Int) (h : -10000 ≤ y ∧ y ≤ 10000) : -3700000 ≤ newF y ∧ newF y ≤ 3700000 := by
  unfold newF; omega
set_option maxHeartbeats 4000000 in
theorem newYear_ok (y : Int) (w : World) (h : -10000 ≤ y ∧ y ≤ 10000) : Calls Tryd.prog 52 #[.int .i64 y] w fun e w' => e = .returned (.int .i64 (newF y)) ∧ Below w.heap.size w w' := by
  unfold newF
  obtain ⟨z, hz⟩ : ∃ z, z = y - 1 := ⟨_, rfl⟩
  rw [← hz]
  have p0 : IntKind.i64.wrap (y - 1) = z := by rw [hz]; exact IntWalk.i64_in _ (by omega)
  have zb : -10001 ≤ z ∧ z ≤ 9999 := by omega
  have HZ := Lib.hid zb
  clear hz zb h
  go_enter Tryd.func52, Tryd.ntmps52
  go_wp2_with fail
  refine Calls.mono (down_all z 4 _ (by omega) (by have := HZ.out; omega) (by have := HZ.out; omega) (by omega)) ?_
  rintro e w1 ⟨rfl, hb1⟩
  obtain ⟨a, ha⟩ : ∃ a, a = z / 4 := ⟨_, rfl⟩
  have HEA := Lib.hid ha
  have hab : -2501 ≤ a ∧ a ≤ 2500 := by have := HZ.out; omega
  have HA := Lib.hid hab; have HB1 := Lib.hid hb1
  rw [← ha]
  clear ha hab hb1
  go_wp2_with fail
  refine Calls.mono (down_all z 100 _ (by omega) (by have := HZ.out; omega) (by have := HZ.out; omega) (by omega)) ?_
  rintro e w2 ⟨rfl, hb⟩
  obtain ⟨b, hbb⟩ : ∃ a, a = z / 100 := ⟨_, rfl⟩
  have HEB := Lib.hid hbb
  have hab : -101 ≤ b ∧ b ≤ 100 := by have := HZ.out; omega
  have HB := Lib.hid hab; have HB2 := Lib.hid (HB1.out.trans (hb.mono HB1.out.size))
  rw [← hbb]
  clear hbb hab hb HB1
  go_wp2_with fail
  refine Calls.mono (down_all z 400 _ (by omega) (by have := HZ.out; omega) (by have := HZ.out; omega) (by omega)) ?_
  rintro e w3 ⟨rfl, hb⟩
  obtain ⟨c, hcc⟩ : ∃ a, a = z / 400 := ⟨_, rfl⟩
  have HEC := Lib.hid hcc
  have hab : -26 ≤ c ∧ c ≤ 25 := by have := HZ.out; omega
  have HC := Lib.hid hab; have HB3 := Lib.hid (HB2.out.trans (hb.mono HB2.out.size))
  rw [← hcc]
  clear hcc hab hb HB2
  have z0 := HZ.out.1; have z1 := HZ.out.2; have a0 := HA.out.1; have a1 := HA.out.2; have b0 := HB.out.1; have b1 := HB.out.2; have c0 := HC.out.1; have c1 := HC.out.2
  go_wp2_with fail
  go_ret
  have e1 : wrap64 (365 * z) = 365 * z := IntWalk.wrap64_in _ (by omega)
  have e2 : wrap64 (365 * z + a) = 365 * z + a := IntWalk.wrap64_in _ (by omega)
  have e3 : wrap64 (365 * z + a - b) = 365 * z + a - b := IntWalk.wrap64_in _ (by omega)
  have e4 : wrap64 (365 * z + a - b + c) = 365 * z + a - b + c := IntWalk.wrap64_in _ (by omega)
  have e5 : wrap64 (365 * z + a - b + c + 1) = 365 * z + a - b + c + 1 := IntWalk.wrap64_in _ (by omega)
  refine ⟨?_, HB3.out⟩
  rw [e1, e2, e3, e4, e5, ← HEA.out, ← HEB.out, ← HEC.out]
  rfl

set_option maxHeartbeats 4000000 in
theorem nth_ok (d wd n : Int) (w : World) (hd : -3900000 ≤ d ∧ d ≤ 3900000) (h1 : 0 ≤ wd ∧ wd ≤ 6) (h2 : (1 ≤ n ∧ n ≤ 4) ∨ n = -1) :
    Calls Tryd.prog 45 #[.int .i64 d, .int .i64 wd, .int .i64 n] w fun e w' => ∃ r, (-4000000 ≤ r ∧ r ≤ 4000000) ∧ e = .returned (.tuple #[.int .i64 r, .int .i64 0]) ∧ Below w.heap.size w w' := by
  have D := Lib.hid hd; have W1 := Lib.hid h1; have N1 := Lib.hid h2
  have hday : dayOk d = true := decide_eq_true (by omega)
  have HC := Lib.hid (fun W => lineCheck_ok d W hday)
  have q1 : 0 ≤ wd := by omega
  have q2 : wd ≤ 6 := by omega
  have t1 : decide (wd < 0) = false := decide_eq_false (by omega)
  have t2 : decide (6 < wd) = false := decide_eq_false (by omega)
  have t3 : (n == 0) = false := by simp; omega
  have t4 : decide (n < -1000000) = false := decide_eq_false (by omega)
  have t5 : decide (1000000 < n) = false := decide_eq_false (by omega)
  have HW := Lib.hid (fun W => weekday_ok d W (by omega))
  clear hd h1 hday h2
  go_enter Tryd.func45, Tryd.ntmps45
  go_wp2_with fail
  refine Calls.mono (HC.out _) ?_
  rintro e _ ⟨rfl, rfl⟩
  go_wp2_with fail
  refine Calls.mono (HW.out _) ?_
  rintro e w1 ⟨a, ha, rfl, hb⟩
  have A0 := Lib.hid ha; have HB1 := Lib.hid hb
  clear ha hb
  have p1 : IntKind.i64.wrap (wd - a) = wd - a := IntWalk.i64_in _ (by have := A0.out; omega)
  go_wp2_with fail
  refine Calls.mono (mod_all (wd - a) 7 _ (by omega) (by have := A0.out; omega) (by have := A0.out; omega) (by omega)) ?_
  rintro e w2 ⟨rfl, hb⟩
  obtain ⟨c, hc⟩ : ∃ c, c = (wd - a) % 7 := ⟨_, rfl⟩
  have C0 := Lib.hid (show 0 ≤ c ∧ c ≤ 6 by omega)
  have HB2 := Lib.hid (HB1.out.trans (hb.mono HB1.out.size))
  rw [← hc]
  clear hc hb HB1 p1
  obtain ⟨x, hx⟩ : ∃ x, x = d + c := ⟨_, rfl⟩
  obtain ⟨y, hy⟩ : ∃ y, y = 7 * (n - 1) := ⟨_, rfl⟩
  have p1 : IntKind.i64.wrap (d + c) = x := by rw [hx]; exact IntWalk.i64_in _ (by have := D.out; have := C0.out; omega)
  have p2 : IntKind.i64.wrap (n - 1) = n - 1 := IntWalk.i64_in _ (by have := N1.out; omega)
  have p3 : IntKind.i64.wrap (7 * (n - 1)) = y := by rw [hy]; exact IntWalk.i64_in _ (by have := N1.out; omega)
  have p4 : IntKind.i64.wrap (x + y) = x + y := IntWalk.i64_in _ (by have := D.out; have := C0.out; have := N1.out; omega)
  have X0 := Lib.hid hx; have Y0 := Lib.hid hy
  clear hx hy
  by_cases hn : n < 0
  · have hn2 : n = -1 := by have := N1.out; omega
    subst hn2
    clear t1 t2 t3 t4 t5
    go_wp2_with fail
    refine Calls.mono (HW.out _) ?_
    rintro e w3 ⟨a2, ha, rfl, hb⟩
    have A1 := Lib.hid ha; have HB3 := Lib.hid (HB2.out.trans (hb.mono HB2.out.size))
    clear ha hb HB2 p1 p2 p3 p4
    have p1 : IntKind.i64.wrap (a2 - wd) = a2 - wd := IntWalk.i64_in _ (by have := A1.out; omega)
    go_wp2_with fail
    refine Calls.mono (mod_all (a2 - wd) 7 _ (by omega) (by have := A1.out; omega) (by have := A1.out; omega) (by omega)) ?_
    rintro e w4 ⟨rfl, hb⟩
    obtain ⟨c2, hc⟩ : ∃ c, c = (a2 - wd) % 7 := ⟨_, rfl⟩
    have C1 := Lib.hid (show 0 ≤ c2 ∧ c2 ≤ 6 by omega)
    have HB4 := Lib.hid (HB3.out.trans (hb.mono HB3.out.size))
    rw [← hc]
    clear hc hb HB3 p1
    obtain ⟨z, hz⟩ : ∃ z, z = d - c2 := ⟨_, rfl⟩
    have p1 : IntKind.i64.wrap (d - c2) = z := by rw [hz]; exact IntWalk.i64_in _ (by have := D.out; have := C1.out; omega)
    have hzd : dayOk z = true := decide_eq_true (by have := D.out; have := C1.out; omega)
    have Z0 := Lib.hid hz
    have HI := Lib.hid (fun W => hzd ▸ lineIs_ok z W)
    have z1 : z + 0 = z := by omega
    have z2 : wrap64 z = z := IntWalk.wrap64_in _ (by have := D.out; have := C1.out; omega)
    clear hz hzd
    go_wp2_with fail
    refine Calls.mono (HI.out _) ?_
    rintro e _ ⟨rfl, rfl⟩
    go_wp2_with fail
    go_returns
    exact ⟨z, by have := D.out; have := C1.out; have := Z0.out; omega, rfl, HB4.out⟩
  · have hzd : dayOk (x + y) = true := decide_eq_true (by have := D.out; have := C0.out; have := X0.out; have := Y0.out; have := N1.out; omega)
    have HI := Lib.hid (fun W => hzd ▸ lineIs_ok (x + y) W)
    clear hzd
    go_wp2_with fail
    refine Calls.mono (HI.out _) ?_
    rintro e _ ⟨rfl, rfl⟩
    go_wp2_with fail
    go_returns
    exact ⟨x + y, by have := D.out; have := C0.out; have := X0.out; have := Y0.out; have := N1.out; omega, rfl, HB2.out⟩
end Go.Proofs.YtdifeoahaegjbaaDoor
