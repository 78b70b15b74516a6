/- The contracts of package leap, at tables that are permitted. -/
import Derived.Test.YtocdboopmfgkpaaDoorLeaps
import Derived.Test.YtocdboopmfgkpaaDoorBase
import Derived.Test.YtocdboopmfgkpaaDoorOwn
namespace Go.Proofs.YtocdboopmfgkpaaDoor
open Go.RowKit
set_option linter.unusedSimpArgs false
set_option linter.unusedVariables false

theorem FlatSl.keep {w w' : World} {sz n cap : Nat} {A : Option Addr} {zs : List Int} (h : FlatSl w sz A n cap zs) (hsz : 0 < sz) (hb : Below w.heap.size w w') : FlatSl w' sz A n cap zs := by
  obtain ⟨h1, h2, h3, h4⟩ := h
  refine ⟨h1, h2, h3, fun hn => ?_⟩
  obtain ⟨b, off, rfl, hc⟩ := h4 hn
  have hlt := World.block_lt_of_cell? w _ (hc 0 (Nat.mul_pos hn hsz))
  exact ⟨b, off, rfl, fun j hj => (hb.cell (p := ⟨b, off + j, none⟩) hlt).trans (hc j hj)⟩

/-- A table of leaps that is permitted. -/
structure LeapOk (zs : List Int) (n : Nat) : Prop where
  few : n ≤ 60
  lo : ∀ j, j < n → -3999998 ≤ ix zs (j * 2)
  hi : ∀ j, j < n → ix zs (j * 2) ≤ 3999998
  sh : ∀ j, j < n → ix zs (j * 2 + 1) = 1 ∨ ix zs (j * 2 + 1) = -1
  up : ∀ j, j + 1 < n → ix zs (j * 2) + 2 ≤ ix zs ((j + 1) * 2)

set_option maxRecDepth 100000 in
set_option maxHeartbeats 2000000 in
theorem leapCheck_pos (b off n cap : Nat) (zs : List Int) (w : World) (hn : 0 < n) (hL : LeapOk zs n) (hcell : ∀ j, j < n * 2 → w.cell? ⟨b, off + j, none⟩ = some (.int .i64 (ix zs j))) (hb : b < w.heap.size) :
    Calls Tryd.prog 40 #[.slice (some ⟨b, off, none⟩) n cap] w fun e w' => e = .returned (.int .i64 0) ∧ Below w.heap.size w w' := by
  have hf := hL.few
  go_enter Tryd.func40, Tryd.ntmps40
  go_wp2_with fail
  go_loopw [10] (fun i wr => ∃ k : Nat, k ≤ n ∧ i = .int .i64 k ∧ Below w.heap.size w wr) (fun i _ => n - (intOf i).toNat)
  case atStart => exact ⟨0, by omega, rfl, Below.refl _ _⟩
  case round =>
    obtain ⟨k, hk, rfl, hbw⟩ := hrel
    have hbl : b < wr.heap.size := Nat.lt_of_lt_of_le hb hbw.size
    by_cases hlt : k < n
    · have c0 : wr.cell? ⟨b, off + k * 2, none⟩ = some (.int .i64 (ix zs (k * 2))) := (hbw.cell (p := ⟨b, off + k * 2, none⟩) hb).trans (hcell _ (by omega))
      have c1 : wr.cell? ⟨b, off + k * 2 + 1, none⟩ = some (.int .i64 (ix zs (k * 2 + 1))) := (hbw.cell (p := ⟨b, off + k * 2 + 1, none⟩) hb).trans (hcell (k * 2 + 1) (by omega))
      have l1 := hL.lo k hlt
      have l2 := hL.hi k hlt
      have l9 : ∃ s, (s = 1 ∨ s = -1) ∧ ix zs (k * 2 + 1) = s := ⟨_, hL.sh k hlt, rfl⟩
      obtain ⟨s, hs, he⟩ := l9
      rw [he] at c1
      have s1 : (s != 1 && s != -1) = false := by rcases hs with h | h <;> rw [h] <;> rfl
      clear he
      have s2 : (ix zs (k * 2) < -3999998) = False := by simp; omega
      by_cases hk0 : k = 0
      · subst hk0
        simp only [Nat.zero_mul] at l1 l2 s2
        have d0 : wr.cell? ⟨b, off, none⟩ = some (.int .i64 (ix zs 0)) := c0
        have d1 : wr.cell? ⟨b, off + 1, none⟩ = some (.int .i64 s) := c1
        have e2 : decide ((0 : Int) < ((0 : Nat) : Int)) = false := rfl
        clear c0 c1
        rcases hs with rfl | rfl
        all_goals
          go_wp2_with fail
          go_quiet (fail)
          go_wp2_with fail
          go_roundw
          case rel => exact ⟨1, by omega, by go_num, below_drewN (hbw.alloc hbw.size _) _⟩
          case measure => simp [intOf]; omega
      · obtain ⟨j, rfl⟩ : ∃ j, k = j + 1 := ⟨k - 1, by omega⟩
        have l3 := hL.up j hlt
        have l4 := hL.lo j (by omega)
        have l5 := hL.hi j (by omega)
        have c2 : wr.cell? ⟨b, off + j * 2, none⟩ = some (.int .i64 (ix zs (j * 2))) := (hbw.cell (p := ⟨b, off + j * 2, none⟩) hb).trans (hcell _ (by omega))
        have e1 : IntKind.i64.wrap (j : Int) = (j : Int) := IntWalk.i64_in _ (by omega)
        have e2 : decide ((0 : Int) < ((j + 1 : Nat) : Int)) = true := decide_eq_true (by omega)
        have e3 : IntKind.i64.wrap (ix zs (j * 2) + 2) = ix zs (j * 2) + 2 := IntWalk.i64_in _ (by omega)
        have e5 : (0 : Int) ≤ (j : Int) := by omega
        have e6 : (j : Int) < (n : Int) := by omega
        have e4 : decide (ix zs ((j + 1) * 2) < ix zs (j * 2) + 2) = false := by simp; omega
        rcases hs with rfl | rfl
        all_goals
          go_wp2_with fail
          go_quiet (fail)
          go_wp2_with fail
          go_roundw
          case rel => exact ⟨j + 1 + 1, by omega, by go_num, below_drewN (hbw.alloc hbw.size _) _⟩
          case measure => simp [intOf]; omega
    · go_wp2_with fail
      go_returns
      exact ⟨rfl, hbw⟩

theorem leapCheck_nil (A : Option Addr) (cap : Nat) (w : World) : Calls Tryd.prog 40 #[.slice A 0 cap] w fun e w' => e = .returned (.int .i64 0) ∧ Below w.heap.size w w' := by
  go_enter Tryd.func40, Tryd.ntmps40
  go_wp2_with fail
  go_rounds 1
  go_ret
  exact ⟨rfl, Below.refl _ _⟩

theorem leapCheck_ok (A : Option Addr) (n cap : Nat) (zs : List Int) (w : World) (h : FlatSl w 2 A n cap zs) (hL : LeapOk zs n) :
    Calls Tryd.prog 40 #[.slice A n cap] w fun e w' => e = .returned (.int .i64 0) ∧ Below w.heap.size w w' := by
  obtain ⟨hl, hm, hz, ha⟩ := h
  rcases Nat.eq_zero_or_pos n with rfl | hn
  · exact leapCheck_nil A cap w
  · obtain ⟨b, off, rfl, hc⟩ := ha hn
    exact leapCheck_pos b off n cap zs w hn hL hc (World.block_lt_of_cell? w _ (hc 0 (by omega)))

/-- The sum of the leaps before a day, of the first k. -/
def lsum (zs : List Int) (day : Int) : Nat → Int
  | 0 => 0
  | k + 1 => lsum zs day k + if ix zs (k * 2) < day then ix zs (k * 2 + 1) else 0
/-- The sum of the first k leaps. -/
def nsum (zs : List Int) : Nat → Int
  | 0 => 0
  | k + 1 => nsum zs k + ix zs (k * 2 + 1)

theorem lsum_bounds {zs : List Int} {n : Nat} (hL : LeapOk zs n) (day : Int) (k : Nat) (hk : k ≤ n) : -(k : Int) ≤ lsum zs day k ∧ lsum zs day k ≤ k := by
  induction k with
  | zero => simp [lsum]
  | succ k ih =>
    have := ih (by omega)
    simp only [lsum]
    rcases hL.sh k (by omega) with h | h <;> rw [h] <;> split <;> omega
theorem nsum_bounds {zs : List Int} {n : Nat} (hL : LeapOk zs n) (k : Nat) (hk : k ≤ n) : -(k : Int) ≤ nsum zs k ∧ nsum zs k ≤ k := by
  induction k with
  | zero => simp [nsum]
  | succ k ih =>
    have := ih (by omega)
    simp only [nsum]
    rcases hL.sh k (by omega) with h | h <;> rw [h] <;> omega

/-- What a round at the k-th leap reads. -/
theorem leap_cells {w wr : World} {b off n : Nat} {zs : List Int} {k : Nat} (hcell : ∀ j, j < n * 2 → w.cell? ⟨b, off + j, none⟩ = some (.int .i64 (ix zs j))) (hb : b < w.heap.size) (hbw : Below w.heap.size w wr) (hlt : k < n) :
    wr.cell? ⟨b, off + k * 2, none⟩ = some (.int .i64 (ix zs (k * 2))) ∧ wr.cell? ⟨b, off + k * 2 + 1, none⟩ = some (.int .i64 (ix zs (k * 2 + 1))) ∧ b < wr.heap.size :=
  ⟨(hbw.cell (p := ⟨b, off + k * 2, none⟩) hb).trans (hcell _ (by omega)), (hbw.cell (p := ⟨b, off + k * 2 + 1, none⟩) hb).trans (hcell (k * 2 + 1) (by omega)), Nat.lt_of_lt_of_le hb hbw.size⟩

set_option maxRecDepth 100000 in
set_option maxHeartbeats 2000000 in
theorem leapsum_pos (b off n cap : Nat) (zs : List Int) (day : Int) (w : World) (hn : 0 < n) (hL : LeapOk zs n) (hcell : ∀ j, j < n * 2 → w.cell? ⟨b, off + j, none⟩ = some (.int .i64 (ix zs j))) (hb : b < w.heap.size) :
    Calls Tryd.prog 43 #[.slice (some ⟨b, off, none⟩) n cap, .int .i64 day] w fun e w' => e = .returned (.int .i64 (lsum zs day n)) ∧ Below w.heap.size w w' := by
  have hf := hL.few
  go_enter Tryd.func43, Tryd.ntmps43
  go_wp2_with fail
  go_loopw [5, 10] (fun v i wr => ∃ k : Nat, k ≤ n ∧ i = .int .i64 k ∧ v = .int .i64 (lsum zs day k) ∧ Below w.heap.size w wr) (fun _ i _ => n - (intOf i).toNat)
  case atStart => exact ⟨0, by omega, rfl, rfl, Below.refl _ _⟩
  case round =>
    obtain ⟨k, hk, rfl, rfl, hbw⟩ := hrel
    have hbs := hbw.size
    have lb := lsum_bounds hL day k hk
    by_cases hlt : k < n
    · obtain ⟨c0, c1, hbl⟩ := leap_cells hcell hb hbw hlt
      have hs := hL.sh k hlt
      have s1 : -1 ≤ ix zs (k * 2 + 1) := by omega
      have s2 : ix zs (k * 2 + 1) ≤ 1 := by omega
      clear hs
      by_cases hd : ix zs (k * 2) < day
      · have hnx : lsum zs day (k + 1) = lsum zs day k + ix zs (k * 2 + 1) := by simp only [lsum]; rw [if_pos hd]
        have H := Lib.hid hnx; clear hnx
        go_wp2_with fail
        go_roundw
        case rel => exact ⟨k + 1, by omega, by go_num, by rw [H.out], hbw.alloc hbs _⟩
        case measure => simp [intOf]; omega
      · have hnx : lsum zs day (k + 1) = lsum zs day k := by simp only [lsum]; rw [if_neg hd]; omega
        have H := Lib.hid hnx; clear hnx
        go_wp2_with fail
        go_roundw
        case rel => exact ⟨k + 1, by omega, by go_num, by rw [H.out], hbw.alloc hbs _⟩
        case measure => simp [intOf]; omega
    · obtain rfl : k = n := by omega
      go_wp2_with fail
      go_returns
      exact ⟨rfl, hbw⟩

theorem leapsum_ok (A : Option Addr) (n cap : Nat) (zs : List Int) (day : Int) (w : World) (h : FlatSl w 2 A n cap zs) (hL : LeapOk zs n) :
    Calls Tryd.prog 43 #[.slice A n cap, .int .i64 day] w fun e w' => e = .returned (.int .i64 (lsum zs day n)) ∧ Below w.heap.size w w' := by
  obtain ⟨hl, hm, hz, ha⟩ := h
  rcases Nat.eq_zero_or_pos n with rfl | hn
  · go_enter Tryd.func43, Tryd.ntmps43
    go_wp2_with fail
    go_rounds 1
    go_ret
    exact ⟨rfl, Below.refl _ _⟩
  · obtain ⟨b, off, rfl, hc⟩ := ha hn
    exact leapsum_pos b off n cap zs day w hn hL hc (World.block_lt_of_cell? w _ (hc 0 (by omega)))

set_option maxHeartbeats 400000 in
theorem isDay_any (d : Int) (w : World) : Calls Tryd.prog 42 #[.int .i64 d] w fun e w' => e = .returned (.bool (decide (-4000000 ≤ d ∧ d ≤ 4000000))) ∧ w = w' := by
  go_enter Tryd.func42, Tryd.ntmps42
  go_wp2
  all_goals go_returns
  all_goals exact ⟨ret_bool (by simp; try omega), rfl⟩

theorem isDay_true (d : Int) (w : World) (h1 : -4000000 ≤ d) (h2 : d ≤ 4000000) : Calls Tryd.prog 42 #[.int .i64 d] w fun e w' => e = .returned (.bool true) ∧ w = w' :=
  (isDay_any d w).mono fun e w' h => ⟨by rw [h.1, decide_eq_true ⟨h1, h2⟩], h.2⟩



end Go.Proofs.YtocdboopmfgkpaaDoor
