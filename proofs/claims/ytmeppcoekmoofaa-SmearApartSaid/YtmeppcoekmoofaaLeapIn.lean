/- The contract of leap.Instant, at tables that are permitted. -/
import Derived.Test.YtmeppcoekmoofaaLeapTwo
namespace Go.Proofs.Ytmeppcoekmoofaa
open Go.RowKit
set_option linter.unusedSimpArgs false
set_option linter.unusedVariables false

/-- The count of the end of the k-th leap's day, by the leaps before it. -/
def lE (zs : List Int) (k : Nat) : Int := (ix zs (k * 2) + 1) * 86400000 + 1000 * nsum zs k
/-- The count has passed the first k leaps. -/
def Passed (zs : List Int) (c : Int) (k : Nat) : Prop := ∀ j, j < k → lE zs j + min 0 (1000 * ix zs (j * 2 + 1)) ≤ c ∧ lE zs j + 1000 * ix zs (j * 2 + 1) ≤ c
/-- What Instant tells. -/
def Inst (zs : List Int) (n : Nat) (c out : Int) (is : Bool) : Prop :=
  ∃ k, k ≤ n ∧ Passed zs c k ∧ ((is = false ∧ out = c - 1000 * nsum zs k ∧ (k < n → c < lE zs k + min 0 (1000 * ix zs (k * 2 + 1)))) ∨
    (is = true ∧ k < n ∧ lE zs k + min 0 (1000 * ix zs (k * 2 + 1)) ≤ c ∧ c < lE zs k + 1000 * ix zs (k * 2 + 1) ∧ out = (ix zs (k * 2) + 1) * 86400000 - 1))

theorem passed_zero (zs : List Int) (c : Int) : Passed zs c 0 := fun j hj => absurd hj (by omega)
theorem passed_step {zs : List Int} {c : Int} {k : Nat} (h : Hid (Passed zs c k)) (h1 : lE zs k + min 0 (1000 * ix zs (k * 2 + 1)) ≤ c) (h2 : lE zs k + 1000 * ix zs (k * 2 + 1) ≤ c) : Passed zs c (k + 1) := by
  intro j hj
  rcases Nat.lt_or_eq_of_le (Nat.le_of_lt_succ hj) with h3 | rfl
  · exact h.out j h3
  · exact ⟨h1, h2⟩

def InstPost (zs : List Int) (n : Nat) (c : Int) (w : World) (e : Ending) (w' : World) : Prop :=
  ∃ out is, e = .returned (.tuple #[.int .i64 out, .bool is, .int .i64 0]) ∧ Inst zs n c out is ∧ Below w.heap.size w w'

theorem inst_end {zs : List Int} {n k : Nat} {c : Int} (hk : k ≤ n) (h : Hid (Passed zs c k)) (hc : k < n → c < lE zs k + min 0 (1000 * ix zs (k * 2 + 1))) : Inst zs n c (c - 1000 * nsum zs k) false :=
  ⟨k, hk, h.out, Or.inl ⟨rfl, rfl, hc⟩⟩
theorem inst_in {zs : List Int} {n k : Nat} {c : Int} (hk : k < n) (h : Hid (Passed zs c k)) (h1 : lE zs k + min 0 (1000 * ix zs (k * 2 + 1)) ≤ c) (h2 : c < lE zs k + 1000 * ix zs (k * 2 + 1)) : Inst zs n c ((ix zs (k * 2) + 1) * 86400000 - 1) true :=
  ⟨k, by omega, h.out, Or.inr ⟨rfl, hk, h1, h2, rfl⟩⟩

set_option maxRecDepth 100000 in
set_option maxHeartbeats 8000000 in
theorem instant_ok (A : Option Addr) (n cap : Nat) (zs : List Int) (c : Int) (w : World) (h : FlatSl w 2 A n cap zs) (hL : LeapOk zs n) (h0 : -100000 ≤ c) (h1 : c ≤ 800000000000) :
    Calls Try.prog 23 #[.slice A n cap, .int .i64 c] w (InstPost zs n c w) := by
  have hf := hL.few
  obtain ⟨hl, hm, hz, ha⟩ := id h
  have H := Lib.hid h; clear h
  have HZ := Lib.hid hz; clear hz
  go_enter Try.func23, Try.ntmps23
  go_wp2_with fail
  refine Calls.mono (leapCheck_ok _ _ _ _ _ H.out hL) ?_
  rintro e w1 ⟨rfl, hb⟩
  obtain ⟨hb1, hz1, hc1, hf1⟩ := took (w := w) (by repeat' (first | (with_reducible refine below_drewN ?_ _) | go_grown)) (by first | (simp only [World.size_alloc, World.size_setCell, World.size_drew, size_drewN]; done) | (simp only [World.size_alloc, World.size_setCell, World.size_drew, size_drewN]; rfl) | rfl) hb; clear hb
  go_wp2_with fail
  refine Calls.mono (far_false _ _ (by omega) (by omega)) ?_
  rintro e _ ⟨rfl, rfl⟩
  go_wp2_with fail
  have hk1 := H.out.keep (by omega) hb1
  go_loopw [8, 22] (fun v i wr => ∃ k : Nat, k ≤ n ∧ i = .int .i64 k ∧ v = .int .i64 (nsum zs k) ∧ Passed zs c k ∧ Below w.heap.size w wr ∧ Below w1.heap.size w1 wr) (fun _ i _ => n - (intOf i).toNat)
  case atStart => exact ⟨0, by omega, rfl, rfl, passed_zero _ _, (by repeat' (first | (with_reducible refine below_drewN ?_ _) | go_grown)), (by repeat' (first | (with_reducible refine below_drewN ?_ _) | go_grown))⟩
  case round =>
    obtain ⟨k, hk, rfl, rfl, hpa, hbw, hbv⟩ := hrel
    have HP := Lib.hid hpa; clear hpa
    have hbs := hbw.size
    have hbvs := hbv.size
    have nb := nsum_bounds hL k hk
    by_cases hlt : k < n
    · obtain ⟨b, off, rfl, hcell⟩ := hk1.at' (by omega)
      obtain ⟨c0, c1, hbl⟩ := leap_cells hcell (World.block_lt_of_cell? w1 _ (hcell 0 (by omega))) hbv hlt
      have hs := hL.sh k hlt
      have l1 := hL.lo k hlt
      have l2 := hL.hi k hlt
      clear hcell hk1
      have he : lE zs k = (ix zs (k * 2) + 1) * 86400000 + 1000 * nsum zs k := rfl
      have hnx : nsum zs (k + 1) = nsum zs k + ix zs (k * 2 + 1) := rfl
      have HE := Lib.hid he; have HX := Lib.hid hnx; clear he hnx
      obtain ⟨s, hse⟩ : ∃ s, s = ix zs (k * 2 + 1) := ⟨_, rfl⟩
      rw [← hse] at c1 hs HX
      have HS := Lib.hid hse; clear hse
      rcases hs with rfl | rfl
      all_goals go_wp2_with fail
      · have ht : c < (ix zs (k * 2) + 1) * 86400000 + 1000 * nsum zs k + min 0 1000 := by assumption
        have R := inst_end hk HP (fun _ => by rw [← HS.out, HE.out]; omega)
        have R' := Lib.hid R; clear R
        refine Calls.mono (isInstant_true _ _ (by omega) (by omega)) ?_
        rintro e _ ⟨rfl, n1, rfl⟩
        go_wp2_with fail
        go_returns
        exact ⟨_, _, rfl, R'.out, below_drewN (hbw.alloc hbs _) _⟩
      · have ht : (ix zs (k * 2) + 1) * 86400000 + 1000 * nsum zs k + min 0 1000 ≤ c := by assumption
        have ht2 : c < (ix zs (k * 2) + 1) * 86400000 + 1000 * nsum zs k + 1000 := by assumption
        have R := inst_in hlt HP (by rw [← HS.out, HE.out]; omega) (by rw [← HS.out, HE.out]; omega)
        have R' := Lib.hid R; clear R
        go_returns
        exact ⟨_, _, rfl, R'.out, hbw.alloc hbs _⟩
      · have ht : (ix zs (k * 2) + 1) * 86400000 + 1000 * nsum zs k + min 0 1000 ≤ c := by assumption
        have ht2 : (ix zs (k * 2) + 1) * 86400000 + 1000 * nsum zs k + 1000 ≤ c := by assumption
        have R := passed_step HP (by rw [← HS.out, HE.out]; omega) (by rw [← HS.out, HE.out]; omega)
        have R' := Lib.hid R; clear R
        go_roundw
        case rel => exact ⟨k + 1, by omega, by go_num, by rw [HX.out], R'.out, hbw.alloc hbs _, hbv.alloc hbvs _⟩
        case measure => simp [intOf]; omega
      · have ht : c < (ix zs (k * 2) + 1) * 86400000 + 1000 * nsum zs k + min 0 (-1000) := by assumption
        have R := inst_end hk HP (fun _ => by rw [← HS.out, HE.out]; omega)
        have R' := Lib.hid R; clear R
        refine Calls.mono (isInstant_true _ _ (by omega) (by omega)) ?_
        rintro e _ ⟨rfl, n1, rfl⟩
        go_wp2_with fail
        go_returns
        exact ⟨_, _, rfl, R'.out, below_drewN (hbw.alloc hbs _) _⟩
      · have ht : (ix zs (k * 2) + 1) * 86400000 + 1000 * nsum zs k + min 0 (-1000) ≤ c := by assumption
        have ht2 : (ix zs (k * 2) + 1) * 86400000 + 1000 * nsum zs k + -1000 ≤ c := by assumption
        have R := passed_step HP (by rw [← HS.out, HE.out]; omega) (by rw [← HS.out, HE.out]; omega)
        have R' := Lib.hid R; clear R
        go_roundw
        case rel => exact ⟨k + 1, by omega, by go_num, by rw [HX.out], R'.out, hbw.alloc hbs _, hbv.alloc hbvs _⟩
        case measure => simp [intOf]; omega
    · obtain rfl : k = n := by omega
      have R := inst_end (n := k) (Nat.le_refl _) HP (fun h => absurd h (by omega))
      have R' := Lib.hid R; clear R
      go_wp2_with fail
      refine Calls.mono (isInstant_true _ _ (by omega) (by omega)) ?_
      rintro e _ ⟨rfl, n1, rfl⟩
      go_wp2_with fail
      go_returns
      exact ⟨_, _, rfl, R'.out, below_drewN hbw _⟩

end Go.Proofs.Ytmeppcoekmoofaa
