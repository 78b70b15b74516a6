/- leaps: the table of leaps that the laws make of what comes in. -/
import Derived.Test.YtmeppcoekmoofaaAt
import Derived.Test.YtmeppcoekmoofaaOpen
namespace Go.Proofs.Ytmeppcoekmoofaa
open Go.RowKit
set_option linter.unusedSimpArgs false
set_option linter.unusedVariables false

/-- The day of the k-th leap (counted from 1), its shift (counted from 0), and the table's cells. -/
def dayAt (zs : List Int) : Nat → Int
  | 0 => 0
  | k + 1 => dayAt zs k + (2 + ix zs k % 400)
def shiftAt (zs : List Int) (k : Nat) : Int := 1 - 2 * (ix zs k % 3 / 2)
def leapNums (zs : List Int) : Nat → List Int
  | 0 => []
  | k + 1 => leapNums zs k ++ [dayAt zs (k + 1), shiftAt zs k]

theorem leapNums_len (zs : List Int) (k : Nat) : (leapNums zs k).length = k * 2 := by
  induction k with
  | zero => rfl
  | succ k ih => simp [leapNums, ih]; omega

theorem dayAt_bounds (zs : List Int) (k : Nat) : 0 ≤ dayAt zs k ∧ dayAt zs k ≤ 401 * k := by
  induction k with
  | zero => simp [dayAt]
  | succ k ih =>
    simp only [dayAt]
    have h1 := Int.emod_nonneg (ix zs k) (show (400 : Int) ≠ 0 by omega)
    have h2 := Int.emod_lt_of_pos (ix zs k) (show (0 : Int) < 400 by omega)
    omega

def LeapsPost (zs : List Int) (k : Nat) (w : World) (e : Ending) (w' : World) : Prop :=
  ∃ v, e = .returned v ∧ w'.ownsRow w.heap.size 46 2 v k ((leapNums zs k).map (Value.int .i64)) ∧ Below w.heap.size w w'

theorem Try.infoLeap : (Try.prog.info? 46).map (fun i => (i.zero, i.size, i.bytes)) = some (some (.agg #[.int .i64 0, .int .i64 0]), 2, 16) := by kernel_rfl

set_option maxRecDepth 100000 in
set_option maxHeartbeats 2000000 in
theorem leaps_pos (b off n cap : Nat) (zs : List Int) (w : World) (hn : 0 < n) (hz : zs.length = n) (hm : n ≤ maxLen) (hcell : ∀ j, j < n → w.cell? ⟨b, off + j, none⟩ = some (.int .i64 (ix zs j))) (hb : b < w.heap.size) :
    Calls Try.prog 22 #[.slice (some ⟨b, off, none⟩) n cap] w (LeapsPost zs (min n 20) w) := by
  obtain ⟨i0, hi, hz0, hz1, hz2⟩ := info_parts Try.infoLeap
  unfold maxLen at hm
  go_enter Try.func22, Try.ntmps22
  go_wp2_with fail
  go_loopw [3, 4, 9] (fun v d i wr => ∃ k : Nat, k ≤ n ∧ k ≤ 20 ∧ i = .int .i64 k ∧ d = .int .i64 (dayAt zs k) ∧ wr.ownsRow w.heap.size 46 2 v k ((leapNums zs k).map (Value.int .i64)) ∧ Below w.heap.size w wr)
    (fun _ _ i _ => 21 - (intOf i).toNat)
  case atStart => exact ⟨0, by omega, by omega, rfl, rfl, World.ownsRow_nil _ _ _ _, Below.refl _ _⟩
  case round =>
    obtain ⟨k, hk, hk20, rfl, rfl, hown, hbw⟩ := hrel
    have hdb := dayAt_bounds zs k
    by_cases hlt : k < n
    · have hc : wr.cell? ⟨b, off + k, none⟩ = some (.int .i64 (ix zs k)) := (hbw.cell (p := ⟨b, off + k, none⟩) hb).trans (hcell k hlt)
      have m1 : 0 ≤ ix zs k % 400 := Int.emod_nonneg _ (by omega)
      have m2 : ix zs k % 400 < 400 := Int.emod_lt_of_pos _ (by omega)
      have m3 : 0 ≤ ix zs k % 3 := Int.emod_nonneg _ (by omega)
      have m4 : ix zs k % 3 < 3 := Int.emod_lt_of_pos _ (by omega)
      by_cases h20 : k = 20
      · subst h20
        go_wp2
        go_ret
        exact ⟨_, rfl, by rw [Nat.min_eq_right (by omega)]; exact hown, hbw⟩
      · have h20' : ((k : Int) == 20) = false := by simp; omega
        go_wp2_with (first
          | (go_at_call 19; refine Calls.mono (at_any _ _ _ (by omega) (by omega)) ?_; rintro e _ ⟨rfl, rfl⟩)
          | (at_builtin; refine wpList_append_own _ rfl _ _ 41 rfl w.heap.size 46 i0 (.agg #[.int .i64 0, .int .i64 0]) 2 16 Try.underlying41 hi hz0 hz1 hz2 rfl (by decide) _ _ _ rfl (hown.alloc _) ⟨wr.heap.size, 0, none⟩ 1 1 [.int .i64 (dayAt zs (k + 1)), .int .i64 (shiftAt zs k)] rfl rfl ?c1 ?c2 ?c3 ?c4 ?c5 ?_))
        case c1 =>
          intro j u hj
          match j, hj with
          | 0, hj => simp at hj; subst hj; simp [Addr.add, dayAt]
          | 1, hj => simp at hj; subst hj; simp [Addr.add, shiftAt]
        case c2 => intro u hu; simp at hu; rcases hu with rfl | rfl <;> rfl
        case c3 => unfold maxLen; omega
        case c4 => omega
        case c5 => have := hbw.size; simp; omega
        · intro v' w1 hown' hgrow _
          go_wp2
          exact ⟨⟨k + 1, by omega, by omega, by go_num, rfl, by simpa [leapNums] using hown', (hbw.alloc hbw.size _).grown hgrow (by have := hbw.size; simp; omega) (fun q hq => (hown.lt q hq).1)⟩, by simp [intOf]; omega⟩
    · have hkn : k = n := by omega
      subst hkn
      go_wp2_with fail
      go_ret
      exact ⟨_, rfl, by rw [Nat.min_eq_left (by omega)]; exact hown, hbw⟩

theorem leaps_nil (A : Option Addr) (cap : Nat) (zs : List Int) (w : World) : Calls Try.prog 22 #[.slice A 0 cap] w (LeapsPost zs 0 w) := by
  go_enter Try.func22, Try.ntmps22
  go_wp2_with fail
  go_rounds 1
  go_ret
  exact ⟨_, rfl, World.ownsRow_nil _ _ _ _, Below.refl _ _⟩

/-- LEAPS, of whatever slice came in. -/
theorem leaps_any (A : Option Addr) (n cap : Nat) (zs : List Int) (w : World) (h : FlatSl w 1 A n cap zs) : Calls Try.prog 22 #[.slice A n cap] w (LeapsPost zs (min n 20) w) := by
  obtain ⟨hl, hm, hz, ha⟩ := h
  rcases Nat.eq_zero_or_pos n with rfl | hn
  · exact leaps_nil A cap zs w
  · obtain ⟨b, off, rfl, hc⟩ := ha hn
    have hc' : ∀ j, j < n → w.cell? ⟨b, off + j, none⟩ = some (.int .i64 (ix zs j)) := fun j hj => hc j (by omega)
    exact leaps_pos b off n cap zs w hn (by omega) (by omega) hc' (World.block_lt_of_cell? w _ (hc' 0 hn))

end Go.Proofs.Ytmeppcoekmoofaa
