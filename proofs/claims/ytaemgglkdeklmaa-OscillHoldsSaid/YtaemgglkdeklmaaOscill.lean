/- The contracts of package oscill's clocks. -/
import Derived.Test.YtaemgglkdeklmaaSource
import Derived.Deep.RegionHeld3
import Derived.BigRegion
import Derived.Deep.DeepCutAuto
namespace Go.Proofs.Ytaemgglkdeklmaa
open Go.RowKit
set_option linter.unusedSimpArgs false
set_option linter.unusedVariables false

/-- A clock in memory. -/
structure ClockAt (w : World) (b : Nat) (d t lo hi : Int) (set : Bool) : Prop where
  c0 : w.cell? ⟨b, 0, none⟩ = some (.int .i64 d)
  c1 : w.cell? ⟨b, 1, none⟩ = some (.int .i64 t)
  c2 : w.cell? ⟨b, 2, none⟩ = some (.int .i64 lo)
  c3 : w.cell? ⟨b, 3, none⟩ = some (.int .i64 hi)
  c4 : w.cell? ⟨b, 4, none⟩ = some (.bool set)
  f : ∀ o, w.frozen? ⟨b, o, none⟩ = false
  lt : b < w.heap.size

theorem ClockAt.keep {w w' : World} {b : Nat} {d t lo hi : Int} {set : Bool} (h : ClockAt w b d t lo hi set) (hb : Below w.heap.size w w') : ClockAt w' b d t lo hi set :=
  let k := keepB hb h.lt
  ⟨k.1 _ _ h.c0, k.1 _ _ h.c1, k.1 _ _ h.c2, k.1 _ _ h.c3, k.1 _ _ h.c4, fun o => k.2.1 o (h.f o), k.2.2⟩

set_option maxHeartbeats 400000 in
theorem clockNew_ok (d : Int) (w : World) (h0 : 0 ≤ d) (h1 : d ≤ 100000) :
    Calls Try.prog 27 #[.int .i64 d] w fun e w' => e = .returned (.tuple #[.pointer (some ⟨w.heap.size, 0, none⟩), .int .i64 0]) ∧ ClockAt w' w.heap.size d 0 0 0 false ∧ Below w.heap.size w w' := by
  go_enter Try.func27, Try.ntmps27
  go_wp2_with fail
  refine Calls.mono (isDrift_any _ _) ?_
  rintro e _ ⟨rfl, rfl⟩
  go_wp2_with fail
  go_returns
  exact ⟨rfl, ⟨by simp [go_sem], by simp [go_sem], by simp [go_sem], by simp [go_sem], by simp [go_sem], fun o => by simp [go_sem], by simp⟩, (by repeat' (first | (with_reducible refine below_drewN ?_ _) | go_grown))⟩

set_option maxRecDepth 100000 in
set_option maxHeartbeats 8000000 in
theorem clockAt_ok (b : Nat) (d t lo hi k : Int) (w : World) (h : ClockAt w b d t lo hi true) (hd : 0 ≤ d) (hd' : d ≤ 100000) (ht : 0 ≤ t) (hk : t ≤ k) (hk' : k ≤ 1000000000000) (hl : -1000000000000000000 ≤ lo) (hh : hi ≤ 1000000000000000000) (hlh : lo ≤ hi) :
    Calls Try.prog 29 #[.pointer (some ⟨b, 0, none⟩), .int .i64 k] w fun e w' => e = .returned (.tuple #[.agg #[.int .i64 (lo + elLo d (k - t)), .int .i64 (hi + elHi d (k - t))], .int .i64 0]) ∧ Below w.heap.size w w' := by
  have be := el_bounds d (k - t) hd hd' (by omega) (by omega)
  have hk0 : 0 ≤ k := by omega
  have e1 : IntKind.i64.wrap (k - t) = k - t := IntWalk.i64_in _ (by omega)
  have e2 : IntKind.i64.wrap (lo + elLo d (k - t)) = lo + elLo d (k - t) := IntWalk.i64_in _ (by omega)
  have e3 : IntKind.i64.wrap (hi + elHi d (k - t)) = hi + elHi d (k - t) := IntWalk.i64_in _ (by omega)
  obtain ⟨c0, c1, c2, c3, c4, hf, hlt⟩ := id h
  clear hf
  have hne : b ≠ w.heap.size := by omega
  go_enter Try.func29, Try.ntmps29
  go_upto_region 7 with (go_at_call 46; refine Calls.mono (isTick_any _ _) ?_; rintro e _ ⟨rfl, rfl⟩)
  go_cut [6, 7] (fun s6 s7 wx => s7 = .int .i64 0 ∧ ∃ g : Nat, s6 = .pointer (some ⟨g, 0, none⟩) ∧ w.heap.size < g ∧ wx.cell? ⟨g, 0, none⟩ = some (.int .i64 (elLo d (k - t))) ∧ wx.cell? ⟨g, 1, none⟩ = some (.int .i64 (elHi d (k - t))) ∧ Below w.heap.size w wx ∧
    wx.cell? ⟨w.heap.size, 0, none⟩ = some (.int .i64 0) ∧ wx.cell? ⟨w.heap.size, 1, none⟩ = some (.int .i64 0) ∧ wx.frozen? ⟨w.heap.size, 0, none⟩ = false ∧ wx.frozen? ⟨w.heap.size, 1, none⟩ = false)
  case first =>
    go_region_with ((go_at_call 25; refine Calls.mono (elapsed_any _ _ _ hd hd' (by omega) (by omega)) ?_; rintro e w1 ⟨rfl, hb⟩; obtain ⟨hb1, hz1, hc1, hf1⟩ := took (w := w) (by repeat' (first | (with_reducible refine below_drewN ?_ _) | go_grown)) (by first | (simp only [World.size_alloc, World.size_setCell, World.size_drew, size_drewN]; done) | (simp only [World.size_alloc, World.size_setCell, World.size_drew, size_drewN]; rfl) | rfl) hb; clear hb; have z1 : w.heap.size < w1.heap.size := (by omega); (try have z2 : w.heap.size + 1 < w1.heap.size := (by omega))))
    all_goals (go_wp2_with fail; go_meet; refine ⟨rfl, _, rfl, by omega, by simp [hc1, go_sem, *], by simp [hc1, go_sem, *], (by repeat' (first | (with_reducible refine below_drewN ?_ _) | go_grown)), by simp [hc1, go_sem, *], by simp [hc1, go_sem, *], by simp [hf1, go_sem, *], by simp [hf1, go_sem, *]⟩)
  case rest =>
    obtain ⟨rfl, g, rfl, hg, k0, k1, hbw, r0, r1, f0, f1⟩ := hcut
    obtain ⟨m0, m1, m2, m3, m4, -, -⟩ := h.keep hbw
    go_wp2_with fail
    go_still_tail 17, (by kernel_rfl)
    change wpList _ _ _ _ _ wc.drew
    go_wp2_with fail
    refine bodyPost_ret (v := .tuple #[.agg #[.int .i64 (lo + elLo d (k - t)), .int .i64 (hi + elHi d (k - t))], .int .i64 0]) ?_ rfl ⟨rfl, (by repeat' (first | (with_reducible refine below_drewN ?_ _) | go_grown))⟩
    simp [results, Try.results29, go_sem, r0, r1]

end Go.Proofs.Ytaemgglkdeklmaa
