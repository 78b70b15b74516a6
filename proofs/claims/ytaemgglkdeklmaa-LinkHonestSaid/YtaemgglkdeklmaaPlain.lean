/- Small plain lemmas: integers, worlds. No program in sight. -/
import Derived.WalkKit
import Derived.WalkSpells
import Derived.WalkLawsBesides
import Derived.Handy
import Derived.Lib.Hide
namespace Go.Proofs.Ytaemgglkdeklmaa
open Go.RowKit

theorem at_eq (k n : Int) (hn : 1 ≤ n) (hn' : n ≤ 4611686018427387904) : (wrap64 (k.tmod n + n)).tmod n = k % n := by
  have h1 := Int.lt_tmod_of_pos k (show 0 < n by omega)
  have h2 := Int.tmod_lt_of_pos k (show 0 < n by omega)
  rw [IntWalk.wrap64_in _ (by omega), Int.tmod_eq_emod_of_nonneg (by omega), Int.add_emod_right]
  rw [Int.tmod_def, Int.sub_mul_emod_self_left]

theorem tdiv_bounds (a b : Int) {m : Int} (ha : -m ≤ a) (ha' : a ≤ m) : -m ≤ a.tdiv b ∧ a.tdiv b ≤ m := by
  have h : (a.tdiv b).natAbs ≤ a.natAbs := by
    rw [Int.natAbs_tdiv]
    exact Nat.div_le_self _ _
  omega

theorem ediv_bounds (a b : Int) (hb : 1 ≤ b) {m : Int} (ha : -m ≤ a) (ha' : a ≤ m) : -m ≤ a / b ∧ a / b ≤ m := by
  rcases Int.lt_or_le a 0 with h | h
  · have h1 := Int.ediv_neg_of_neg_of_pos h (show 0 < b by omega)
    have h2 : a ≤ a / b := by
      rw [Int.le_ediv_iff_mul_le (by omega)]
      have := Int.mul_nonneg_of_nonpos_of_nonpos (a := a) (b := 1 - b) (by omega) (by omega)
      rw [Int.mul_sub] at this
      omega
    omega
  · have h1 := Int.ediv_le_self b h
    have h2 := Int.ediv_nonneg h (show 0 ≤ b by omega)
    omega

theorem tdiv_key (a b : Int) (hb : 1 ≤ b) : (¬ a.tmod b < 0 → a.tdiv b = a / b ∧ a.tmod b = a % b) ∧ (a.tmod b < 0 → a.tdiv b - 1 = a / b ∧ a.tmod b + b = a % b) := by
  have e1 := Int.mul_tdiv_add_tmod a b
  have e2 := Int.mul_ediv_add_emod a b
  have n1 := Int.emod_nonneg a (show b ≠ 0 by omega)
  have n2 := Int.emod_lt_of_pos a (show 0 < b by omega)
  have r1 : -b < a.tmod b := Int.lt_tmod_of_pos a (by omega)
  have r2 : a.tmod b < b := Int.tmod_lt_of_pos a (by omega)
  have e : b * (a.tdiv b - a / b) = a % b - a.tmod b := by rw [Int.mul_sub]; omega
  constructor
  · intro h
    have : a.tdiv b - a / b = 0 := by
      apply Int.le_antisymm
      · apply Int.lt_add_one_iff.1
        apply Int.lt_of_mul_lt_mul_left (a := b) _ (by omega)
        omega
      · apply Int.lt_add_one_iff.1
        apply Int.lt_of_mul_lt_mul_left (a := b) _ (by omega)
        rw [Int.mul_add]; omega
    rw [this] at e; omega
  · intro h
    have : a.tdiv b - a / b = 1 := by
      apply Int.le_antisymm
      · apply Int.lt_add_one_iff.1
        apply Int.lt_of_mul_lt_mul_left (a := b) _ (by omega)
        omega
      · apply Int.lt_add_one_iff.1
        apply Int.lt_of_mul_lt_mul_left (a := b) _ (by omega)
        rw [Int.mul_add]; omega
    rw [this] at e; omega

theorem ret_int {k : IntKind} {a b : Int} (h : a = b) : Ending.returned (.int k a) = .returned (.int k b) := by rw [h]
theorem ret_tup2 {a b : Int} {x y : Value} {k : IntKind} (h : a = b) (e : x = y) : Ending.returned (.tuple #[.int k a, x]) = .returned (.tuple #[.int k b, y]) := by rw [h, e]
theorem ret_tup3 {a b c d : Int} {x y : Value} {k l : IntKind} (h : a = b) (g : c = d) (e : x = y) : Ending.returned (.tuple #[.int k a, .int l c, x]) = .returned (.tuple #[.int k b, .int l d, y]) := by rw [h, g, e]
theorem ret_bool {a b : Bool} (h : a = b) : Ending.returned (.bool a) = .returned (.bool b) := by rw [h]

/-- Behind a call that leaves what was there: each old cell and each old mark reads as before. -/
theorem bcell {W w1 : World} (hb : Below W.heap.size W w1) : (∀ b o, b < W.heap.size → w1.cell? ⟨b, o, none⟩ = W.cell? ⟨b, o, none⟩) ∧ (∀ b o, b < W.heap.size → w1.frozen? ⟨b, o, none⟩ = W.frozen? ⟨b, o, none⟩) :=
  ⟨fun b o h => hb.cell (p := ⟨b, o, none⟩) h, fun b o h => hb.frozen (p := ⟨b, o, none⟩) h⟩

theorem size_drewN (w : World) (n : Nat) : (w.drewN n).heap.size = w.heap.size := rfl

/-- A call out of the world W (of s blocks), which had come from w: what it left. -/
theorem took {w W w1 : World} {s : Nat} (h0 : Below w.heap.size w W) (hs : W.heap.size = s) (hb : Below W.heap.size W w1) :
    Below w.heap.size w w1 ∧ s ≤ w1.heap.size ∧ (∀ b o, b < s → w1.cell? ⟨b, o, none⟩ = W.cell? ⟨b, o, none⟩) ∧ (∀ b o, b < s → w1.frozen? ⟨b, o, none⟩ = W.frozen? ⟨b, o, none⟩) := by
  subst hs
  exact ⟨h0.trans (hb.mono h0.size), hb.size, (bcell hb).1, (bcell hb).2⟩

end Go.Proofs.Ytaemgglkdeklmaa
