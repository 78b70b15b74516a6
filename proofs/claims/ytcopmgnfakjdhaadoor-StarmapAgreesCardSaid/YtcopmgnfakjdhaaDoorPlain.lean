/- Small plain lemmas: integers, worlds. No program in sight. -/
import Derived.WalkKit
import Derived.WalkSpells
import Derived.WalkLawsBesides
import Derived.Handy
import Derived.Lib.Hide
namespace Go.Proofs.YtcopmgnfakjdhaaDoor
open Go.RowKit

theorem at_eq (k n : Int) (hn : 1 ≤ n) (hn' : n ≤ 4611686018427387904) : (wrap64 (k.tmod n + n)).tmod n = k % n := by
  have h1 := Int.lt_tmod_of_pos k (show 0 < n by omega)
  have h2 := Int.tmod_lt_of_pos k (show 0 < n by omega)
  rw [IntWalk.wrap64_in _ (by omega), Int.tmod_eq_emod_of_nonneg (by omega), Int.add_emod_right]
  rw [Int.tmod_def, Int.sub_mul_emod_self_left]

theorem tdiv_bounds (a b : Int) {m : Int} (ha : -m ≤ a) (ha' : a ≤ m) : -m ≤ a.tdiv b ∧ a.tdiv b ≤ m := by
  have h : (a.tdiv b).natAbs ≤ a.natAbs := by
    rw [Int.natAbs_tdiv]
    exact Nat.div_le_self _ _
  omega

theorem ediv_bounds (a b : Int) (hb : 1 ≤ b) {m : Int} (ha : -m ≤ a) (ha' : a ≤ m) : -m ≤ a / b ∧ a / b ≤ m := by
  rcases Int.lt_or_le a 0 with h | h
  · have h1 := Int.ediv_neg_of_neg_of_pos h (show 0 < b by omega)
    have h2 : a ≤ a / b := by
      rw [Int.le_ediv_iff_mul_le (by omega)]
      have := Int.mul_nonneg_of_nonpos_of_nonpos (a := a) (b := 1 - b) (by omega) (by omega)
      rw [Int.mul_sub] at this
      omega
    omega
  · have h1 := Int.ediv_le_self b h
    have h2 := Int.ediv_nonneg h (show 0 ≤ b by omega)
    omega

theorem tdiv_key (a b : Int) (hb : 1 ≤ b) : (¬ a.tmod b < 0 → a.tdiv b = a / b ∧ a.tmod b = a % b) ∧ (a.tmod b < 0 → a.tdiv b - 1 = a / b ∧ a.tmod b + b = a % b) := by
  have e1 := Int.mul_tdiv_add_tmod a b
  have e2 := Int.mul_ediv_add_emod a b
  have n1 := Int.emod_nonneg a (show b ≠ 0 by omega)
  have n2 := Int.emod_lt_of_pos a (show 0 < b by omega)
  have r1 : -b < a.tmod b := Int.lt_tmod_of_pos a (by omega)
  have r2 : a.tmod b < b := Int.tmod_lt_of_pos a (by omega)
  have e : b * (a.tdiv b - a / b) = a % b - a.tmod b := by rw [Int.mul_sub]; omega
  constructor
  · intro h
    have : a.tdiv b - a / b = 0 := by
      apply Int.le_antisymm
      · apply Int.lt_add_one_iff.1
        apply Int.lt_of_mul_lt_mul_left (a := b) _ (by omega)
        omega
      · apply Int.lt_add_one_iff.1
        apply Int.lt_of_mul_lt_mul_left (a := b) _ (by omega)
        rw [Int.mul_add]; omega
    rw [this] at e; omega
  · intro h
    have : a.tdiv b - a / b = 1 := by
      apply Int.le_antisymm
      · apply Int.lt_add_one_iff.1
        apply Int.lt_of_mul_lt_mul_left (a := b) _ (by omega)
        omega
      · apply Int.lt_add_one_iff.1
        apply Int.lt_of_mul_lt_mul_left (a := b) _ (by omega)
        rw [Int.mul_add]; omega
    rw [this] at e; omega

/-- The quotient, rounded up. -/
def upQ (a b : Int) : Int := -(-a / b)

theorem ret_int {k : IntKind} {a b : Int} (h : a = b) : Ending.returned (.int k a) = .returned (.int k b) := by rw [h]
theorem ret_tup2 {a b : Int} {x y : Value} {k : IntKind} (h : a = b) (e : x = y) : Ending.returned (.tuple #[.int k a, x]) = .returned (.tuple #[.int k b, y]) := by rw [h, e]
theorem ret_ints2 {a b c d : Int} {k l : IntKind} (h : a = b) (g : c = d) : Ending.returned (.tuple #[.int k a, .int l c]) = .returned (.tuple #[.int k b, .int l d]) := by rw [h, g]
theorem ret_tup3 {a b c d : Int} {x y : Value} {k l : IntKind} (h : a = b) (g : c = d) (e : x = y) : Ending.returned (.tuple #[.int k a, .int l c, x]) = .returned (.tuple #[.int k b, .int l d, y]) := by rw [h, g, e]
theorem ret_agg2 {a b c d : Int} {k l : IntKind} (h : a = b) (g : c = d) : Ending.returned (.agg #[.int k a, .int l c]) = .returned (.agg #[.int k b, .int l d]) := by rw [h, g]
theorem ret_sp {a b c d : Int} {x y : Value} {k l : IntKind} (h : a = b) (g : c = d) (e : x = y) : Ending.returned (.tuple #[.agg #[.int k a, .int l c], x]) = .returned (.tuple #[.agg #[.int k b, .int l d], y]) := by rw [h, g, e]
theorem ret_bool {a b : Bool} (h : a = b) : Ending.returned (.bool a) = .returned (.bool b) := by rw [h]

/-- Behind a call that leaves what was there: each old cell and each old mark reads as before. -/
theorem bcell {W w1 : World} (hb : Below W.heap.size W w1) : (∀ b o, b < W.heap.size → w1.cell? ⟨b, o, none⟩ = W.cell? ⟨b, o, none⟩) ∧ (∀ b o, b < W.heap.size → w1.frozen? ⟨b, o, none⟩ = W.frozen? ⟨b, o, none⟩) :=
  ⟨fun b o h => hb.cell (p := ⟨b, o, none⟩) h, fun b o h => hb.frozen (p := ⟨b, o, none⟩) h⟩

section
variable {P : Program} {w : World}
theorem run_min_min (ts : Array TypeId) (t : TypeId) (k k' : IntKind) (x y : Int) : (Builtin.min_ ts t #[.int k x, .int k' y]).run P w = .ok (.int k (min x y)) w := by
  rw [run_min_int2]; congr 2; rw [Int.min_def]; split <;> split <;> omega
theorem run_max_max (ts : Array TypeId) (t : TypeId) (k k' : IntKind) (x y : Int) : (Builtin.max_ ts t #[.int k x, .int k' y]).run P w = .ok (.int k (max x y)) w := by
  rw [run_max_int2]; congr 2; rw [Int.max_def]; split <;> split <;> omega
end
attribute [go_sem high] run_min_min run_max_max

/-- Both cells of an interval, stored one behind the other. -/
theorem pair_cells {w : World} {b : Nat} {x y u v : Value} (h0 : w.cell? ⟨b, 0, none⟩ = some u) (h1 : w.cell? ⟨b, 1, none⟩ = some v) :
    ((w.setCell ⟨b, 0, none⟩ x).setCell ⟨b, 1, none⟩ y).cell? ⟨b, 0, none⟩ = some x ∧ ((w.setCell ⟨b, 0, none⟩ x).setCell ⟨b, 1, none⟩ y).cell? ⟨b, 1, none⟩ = some y := by
  constructor <;> simp [go_sem, h0, h1]

/-- Number k of a list; 0 behind its end. (A name that simp does not open.) -/
def ix (zs : List Int) (k : Nat) : Int := zs.getD k 0

theorem size_drewN (w : World) (n : Nat) : (w.drewN n).heap.size = w.heap.size := rfl

/-- A call out of the world W (of s blocks), which had come from w: what it left. -/
theorem took {w W w1 : World} {s : Nat} (h0 : Below w.heap.size w W) (hs : W.heap.size = s) (hb : Below W.heap.size W w1) :
    Below w.heap.size w w1 ∧ s ≤ w1.heap.size ∧ (∀ b o, b < s → w1.cell? ⟨b, o, none⟩ = W.cell? ⟨b, o, none⟩) ∧ (∀ b o, b < s → w1.frozen? ⟨b, o, none⟩ = W.frozen? ⟨b, o, none⟩) := by
  subst hs
  exact ⟨h0.trans (hb.mono h0.size), hb.size, (bcell hb).1, (bcell hb).2⟩

/-- A block that stood before a call reads as before behind it. -/
theorem keepB {W W' : World} {b : Nat} (hb : Below W.heap.size W W') (hl : b < W.heap.size) : (∀ o v, W.cell? ⟨b, o, none⟩ = some v → W'.cell? ⟨b, o, none⟩ = some v) ∧ (∀ o, W.frozen? ⟨b, o, none⟩ = false → W'.frozen? ⟨b, o, none⟩ = false) ∧ b < W'.heap.size :=
  ⟨fun o _ h => (hb.cell (p := ⟨b, o, none⟩) hl).trans h, fun o h => (hb.frozen (p := ⟨b, o, none⟩) hl).trans h, by have := hb.size; omega⟩

/-- An interval in memory, behind a call: two cells and the block's standing. -/
theorem spKeep {W W' : World} {b : Nat} {x y : Value} (hb : Below W.heap.size W W') (h0 : W.cell? ⟨b, 0, none⟩ = some x) (h1 : W.cell? ⟨b, 1, none⟩ = some y) (h2 : b < W.heap.size) :
    W'.cell? ⟨b, 0, none⟩ = some x ∧ W'.cell? ⟨b, 1, none⟩ = some y ∧ b < W'.heap.size :=
  ⟨(keepB hb h2).1 0 _ h0, (keepB hb h2).1 1 _ h1, (keepB hb h2).2.2⟩

/-- Facts on a block that stood at X, in a later world. -/
theorem bX_oldc {X w' : World} {b : Nat} (h : Below X.heap.size X w') (hb : b < X.heap.size) {o : Nat} {v : Value} (hv : X.cell? ⟨b, o, none⟩ = some v) : w'.cell? ⟨b, o, none⟩ = some v := (keepB h hb).1 o v hv
theorem bX_oldf {X w' : World} {b : Nat} (h : Below X.heap.size X w') (hb : b < X.heap.size) {o : Nat} (hv : X.frozen? ⟨b, o, none⟩ = false) : w'.frozen? ⟨b, o, none⟩ = false := (keepB h hb).2.1 o hv
theorem bX_oldl {X w' : World} {b : Nat} (h : Below X.heap.size X w') (hb : b < X.heap.size) : b < w'.heap.size := (keepB h hb).2.2
theorem bX_more {X w w' : World} (h : Below X.heap.size X w) (hb : Below w.heap.size w w') : Below X.heap.size X w' := h.trans (hb.mono h.size)
theorem bX_back {w X w' : World} (h : Below w.heap.size w X) (hX : Below X.heap.size X w') : Below w.heap.size w w' := h.trans (hX.mono h.size)
theorem bX_alloc {X w : World} (h : Below X.heap.size X w) (o : Obj) : Below X.heap.size X (w.alloc o) := h.alloc h.size o
theorem bX_set {X w v : World} (h : Below X.heap.size X v) (hw : Below X.heap.size X w) (o : Nat) (u : Value) : Below X.heap.size X (v.setCell ⟨w.heap.size, o, none⟩ u) := h.setCell hw.size u

end Go.Proofs.YtcopmgnfakjdhaaDoor
