/- Merged by wip/tools/pack.py out of XPlaceS, XLookP. -/
import Derived.Test.YtcopmgnfakjdhaaGreatDoorVTrigOs
import Derived.Test.YtcopmgnfakjdhaaGreatDoorVGrow
/- place.Check, place.Sidereal, place.clip. -/
namespace Go.Proofs.YtcopmgnfakjdhaaGreatDoor
open Go.RowKit
set_option linter.unusedSimpArgs false
set_option linter.unusedVariables false
structure PlOk (lon lat : Int) : Prop where
  o1 : -500000000 ≤ lon
  o2 : lon ≤ 500000000
  a1 : -220000000 ≤ lat
  a2 : lat ≤ 220000000
def PlBox (w : World) (b : Nat) (x y : Int) : Prop := w.rowIs b 23 2 (prF x y)
theorem PlBox.c0 {w : World} {b : Nat} {x y : Int} (h : PlBox w b x y) : w.cell? ⟨b, 0, none⟩ = some (.int .i64 x) := World.rowIs.cell h (i := 0) (by omega)
theorem PlBox.c1 {w : World} {b : Nat} {x y : Int} (h : PlBox w b x y) : w.cell? ⟨b, 1, none⟩ = some (.int .i64 y) := World.rowIs.cell h (i := 1) (by omega)
theorem PlBox.free {w : World} {b : Nat} {x y : Int} (h : PlBox w b x y) (i : Nat) : w.frozen? ⟨b, i, none⟩ = false := World.rowIs.frozen h i
theorem PlBox.lt {w : World} {b : Nat} {x y : Int} (h : PlBox w b x y) : b < w.heap.size := World.rowIs.lt h
theorem PlBox.alloc {w : World} {b : Nat} {x y : Int} (h : PlBox w b x y) (o : Obj) : PlBox (w.alloc o) b x y := World.rowIs.alloc h o
theorem PlBox.drew {w : World} {b : Nat} {x y : Int} (h : PlBox w b x y) : PlBox w.drew b x y := h
theorem PlBox.below {w w' : World} {b : Nat} {x y : Int} (h : PlBox w b x y) (hb : Below w.heap.size w w') : PlBox w' b x y := World.rowIs.of_block h (hb.block b (World.rowIs.lt h))
theorem PlBox.new (w : World) (x y : Int) : PlBox (w.alloc (.cells #[.int .i64 x, .int .i64 y] 23)) w.heap.size x y :=
  World.rowIs_alloc w #[.int .i64 x, .int .i64 y] 23 (prF x y) (fun i hi => by
    match i, hi with
    | 0, _ => rfl
    | 1, _ => rfl)
theorem PlBox.other {w : World} {b : Nat} {x y : Int} (h : PlBox w b x y) {a : Addr} (ha : b ≠ a.block) (v : Value) : PlBox (w.setCell a v) b x y := World.rowIs.setOther h ha v
set_option maxHeartbeats 1000000 in
theorem plCheck_ok (lon lat : Int) (w : World) (h : PlOk lon lat) : Calls Tryz.prog 71 #[.agg #[.int .i64 lon, .int .i64 lat]] w fun e w' => e = .returned (.int .i64 0) ∧ Below w.heap.size w w' := by
  obtain ⟨h1, h2, h3, h4⟩ := h
  go_enter Tryz.func71, Tryz.ntmps71
  go_wp2_with fail
  go_returns
  exact ⟨rfl, (by repeat' (first | (with_reducible refine below_drewN ?_ _) | go_grown))⟩
set_option maxHeartbeats 1000000 in
theorem plClip_ok (a b : Int) (w : World) : Calls Tryz.prog 96 #[.agg #[.int .i64 a, .int .i64 b]] w fun e w' => e = .returned (.agg #[.int .i64 (clLo a), .int .i64 (clHi b)]) ∧ Below w.heap.size w w' := by
  go_enter Tryz.func96, Tryz.ntmps96
  go_wp2
  go_returns
  exact ⟨rfl, (by repeat' (first | (with_reducible refine below_drewN ?_ _) | go_grown))⟩
def sdLo (lon t : Int) : Int := (a0Lo 275313108 1002737909350806 0 t + lon) % 1000000000
def sdHi (lon t : Int) : Int := sdLo lon t + (if 0 < 1002737909350806 * t % 86400000000000 then 1 else 0)
set_option maxHeartbeats 2000000 in
theorem Sidereal_ok (lon lat t : Int) (w : World) (h : PlOk lon lat) (ht : instOk t = true) : Calls Tryz.prog 30 #[.agg #[.int .i64 lon, .int .i64 lat], .int .i64 t] w fun e w' => e = .returned (.tuple #[.agg #[.int .i64 (sdLo lon t), .int .i64 (sdHi lon t)], .int .i64 0]) ∧ Below w.heap.size w w' := by
  have C := Lib.hid (fun w => plCheck_ok lon lat w h)
  have A := Lib.hid (fun w => Angle0_ok 275313108 1002737909350806 0 t w (by omega) (by omega) (by omega) ht)
  have b0 : 0 ≤ a0Lo 275313108 1002737909350806 0 t ∧ a0Lo 275313108 1002737909350806 0 t < 1000000000 := by unfold a0Lo; omega
  have eh : a0Hi 275313108 1002737909350806 0 t = a0Lo 275313108 1002737909350806 0 t + (if 0 < 1002737909350806 * t % 86400000000000 then 1 else 0) := by unfold a0Hi; omega
  unfold sdHi sdLo
  rw [eh] at A
  have b1 : 0 ≤ (if 0 < 1002737909350806 * t % 86400000000000 then (1 : Int) else 0) ∧ (if 0 < 1002737909350806 * t % 86400000000000 then (1 : Int) else 0) ≤ 1 := by split <;> omega
  clear eh
  generalize (if 0 < 1002737909350806 * t % 86400000000000 then (1 : Int) else 0) = d at *
  generalize a0Lo 275313108 1002737909350806 0 t = lo at *
  obtain ⟨h1, h2, h3, h4⟩ := h
  obtain ⟨x, hx⟩ : ∃ x, x = lo + lon := ⟨_, rfl⟩
  obtain ⟨y, hy⟩ : ∃ y, y = lo + d + lon := ⟨_, rfl⟩
  have N := Lib.hid (fun w => norm_ok x y w (by omega) (by omega))
  have w1 : wrap64 (lo + lon) = x := by rw [hx]; exact IntWalk.wrap64_in _ (by omega)
  have w2 : wrap64 (lo + d + lon) = y := by rw [hy]; exact IntWalk.wrap64_in _ (by omega)
  have e1 : x % 1000000000 + y - x = (lo + lon) % 1000000000 + d := by rw [hx, hy]; omega
  rw [e1, hx, ← hx] at N
  obtain ⟨p, hp⟩ : ∃ p, p = (lo + lon) % 1000000000 := ⟨_, rfl⟩
  rw [hx, ← hp] at N
  rw [← hp]
  obtain ⟨q, hq⟩ : ∃ q, q = p + d := ⟨_, rfl⟩
  rw [← hq] at N ⊢
  rw [← hx] at N
  obtain ⟨z, hz⟩ : ∃ z, z = lo + d := ⟨_, rfl⟩
  rw [← hz] at A w2
  clear hx hy e1 hp hq hz b0 b1 h1 h2 h3 h4 ht
  go_enter Tryz.func30, Tryz.ntmps30
  go_wp2_with fail
  refine Calls.mono (C.out _) ?_
  rintro e w1 ⟨rfl, hb⟩
  obtain ⟨hb1, hz1, hc1, hf1⟩ := took (w := w) (by repeat' (first | (with_reducible refine below_drewN ?_ _) | go_grown)) (by first | (simp only [vA, vB, vC, vD]; done) | (simp only [vA, vB, vC, vD]; rfl) | rfl) hb; clear hb
  have z1 : w.heap.size < w1.heap.size := by omega
  have z1b : w.heap.size + 1 < w1.heap.size := by omega
  go_wp2_with fail
  refine Calls.mono (A.out _) ?_
  rintro e w2 ⟨rfl, hb⟩
  obtain ⟨hb2, hz2, hc2, hf2⟩ := took (w := w) (by repeat' (first | (with_reducible refine below_drewN ?_ _) | go_grown)) (by first | (simp only [vA, vB, vC, vD]; done) | (simp only [vA, vB, vC, vD]; rfl) | rfl) hb; clear hb
  have z2 : w.heap.size < w2.heap.size := by omega
  have z2b : w.heap.size + 1 < w2.heap.size := by omega
  go_wp2_with fail
  refine Calls.mono (N.out _) ?_
  rintro e w3 ⟨rfl, hb⟩
  obtain ⟨hb3, hz3, hc3, hf3⟩ := took (w := w) (by repeat' (first | (with_reducible refine below_drewN ?_ _) | go_grown)) (by first | (simp only [vA, vB, vC, vD]; done) | (simp only [vA, vB, vC, vD]; rfl) | rfl) hb; clear hb
  have z3 : w.heap.size < w3.heap.size := by omega
  have z3b : w.heap.size + 1 < w3.heap.size := by omega
  go_wp2_with fail
  refine bodyPost_ret (v := .tuple #[.agg #[.int .i64 p, .int .i64 q], .int .i64 0]) ?_ rfl ⟨rfl, (by repeat' (first | (with_reducible refine below_drewN ?_ _) | go_grown))⟩
  simp [results, Tryz.results30, go_sem, *]
end Go.Proofs.YtcopmgnfakjdhaaGreatDoor
/- place.look, plain: the numbers of a direction. -/
namespace Go.Proofs.YtcopmgnfakjdhaaGreatDoor
set_option linter.unusedSimpArgs false
set_option linter.unusedVariables false
structure LkOk (lon lat rl rh dl dh t : Int) : Prop where
  pl : PlOk lon lat
  r1 : -1000000000 ≤ rl
  r2 : rl ≤ rh
  r3 : rh ≤ 3000000000
  d1 : -250000000 ≤ dl
  d2 : dl ≤ dh
  d3 : dh ≤ 250000000
  ti : instOk t = true
def hhLo (lon t rh : Int) : Int := sdLo lon t - rh
def hhHi (lon t rl : Int) : Int := sdHi lon t - rl
theorem sd_bd (lon t : Int) : 0 ≤ sdLo lon t ∧ sdLo lon t < 1000000000 ∧ sdLo lon t ≤ sdHi lon t ∧ sdHi lon t ≤ sdLo lon t + 1 := by
  have h : 0 ≤ sdLo lon t ∧ sdLo lon t < 1000000000 := by unfold sdLo; exact ⟨Int.emod_nonneg _ (by decide), Int.emod_lt_of_pos _ (by decide)⟩
  have g : ∀ (p : Prop) [Decidable p], 0 ≤ (if p then (1 : Int) else 0) ∧ (if p then (1 : Int) else 0) ≤ 1 := fun p _ => by split <;> omega
  have e : sdHi lon t = sdLo lon t + (if 0 < 1002737909350806 * t % 86400000000000 then 1 else 0) := rfl
  have g' := g (0 < 1002737909350806 * t % 86400000000000)
  rw [e]
  generalize (if 0 < 1002737909350806 * t % 86400000000000 then (1 : Int) else 0) = d at *
  generalize sdLo lon t = s at *
  clear g e
  omega
def nrLo (hl hh dl dh : Int) : Int := tmLo (coLo dl dh) (coHi dl dh) (coLo hl hh) (coHi hl hh)
def nrHi (hl hh dl dh : Int) : Int := tmHi (coLo dl dh) (coHi dl dh) (coLo hl hh) (coHi hl hh)
def etLo (hl hh dl dh : Int) : Int := tmLo (coLo dl dh) (coHi dl dh) (soLo hl hh) (soHi hl hh)
def etHi (hl hh dl dh : Int) : Int := tmHi (coLo dl dh) (coHi dl dh) (soLo hl hh) (soHi hl hh)
theorem nr_tms (hl hh dl dh : Int) : -1000000000 ≤ nrLo hl hh dl dh ∧ nrLo hl hh dl dh ≤ nrHi hl hh dl dh ∧ nrHi hl hh dl dh ≤ 1000000000 := by unfold nrLo nrHi; exact tm_tms (tms_of (co_tms dl dh) (co_tms hl hh))
theorem et_tms (hl hh dl dh : Int) : -1000000000 ≤ etLo hl hh dl dh ∧ etLo hl hh dl dh ≤ etHi hl hh dl dh ∧ etHi hl hh dl dh ≤ 1000000000 := by unfold etLo etHi; exact tm_tms (tms_of (co_tms dl dh) (so_tms hl hh))
def upLo (lat hl hh dl dh : Int) : Int := clLo (tmLo (sLo lat) (sHi lat) (soLo dl dh) (soHi dl dh) + tmLo (cLo lat) (cHi lat) (nrLo hl hh dl dh) (nrHi hl hh dl dh))
def upHi (lat hl hh dl dh : Int) : Int := clHi (tmHi (sLo lat) (sHi lat) (soLo dl dh) (soHi dl dh) + tmHi (cLo lat) (cHi lat) (nrLo hl hh dl dh) (nrHi hl hh dl dh))
def eaLo (hl hh dl dh : Int) : Int := clLo (-etHi hl hh dl dh)
def eaHi (hl hh dl dh : Int) : Int := clHi (-etLo hl hh dl dh)
def noLo (lat hl hh dl dh : Int) : Int := clLo (tmLo (cLo lat) (cHi lat) (soLo dl dh) (soHi dl dh) - tmHi (sLo lat) (sHi lat) (nrLo hl hh dl dh) (nrHi hl hh dl dh))
def noHi (lat hl hh dl dh : Int) : Int := clHi (tmHi (cLo lat) (cHi lat) (soLo dl dh) (soHi dl dh) - tmLo (sLo lat) (sHi lat) (nrLo hl hh dl dh) (nrHi hl hh dl dh))
def lookV (lat hl hh dl dh : Int) : Value := .tuple #[.agg #[.int .i64 (upLo lat hl hh dl dh), .int .i64 (upHi lat hl hh dl dh), .int .i64 (eaLo hl hh dl dh), .int .i64 (eaHi hl hh dl dh), .int .i64 (noLo lat hl hh dl dh), .int .i64 (noHi lat hl hh dl dh)], .int .i64 0]
end Go.Proofs.YtcopmgnfakjdhaaGreatDoor
