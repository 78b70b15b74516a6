/- Merged by wip/tools/pack.py out of XPlain, XAt, XSpan, XOpen, XOwn, XBox. -/
import Derived.WalkKit
import Derived.WalkSpells
import Derived.WalkLawsBesides
import Derived.Handy
import Derived.Lib.Hide
import Derived.Test.YtplmgbffaeohpaaRows
import Derived.Deep.QuietTactic
import Derived.BigQuiet
import Derived.ProofKit
import Derived.OpenShut
import Derived.Deep.Slices
import Derived.ChangeSame
import Derived.Deep.OwnRows
/- Small plain lemmas: integers, worlds. No program in sight. -/
namespace Go.Proofs.Ytplmgbffaeohpaa
open Go.RowKit

theorem at_eq (k n : Int) (hn : 1 ≤ n) (hn' : n ≤ 4611686018427387904) : (wrap64 (k.tmod n + n)).tmod n = k % n := by
  have h1 := Int.lt_tmod_of_pos k (show 0 < n by omega)
  have h2 := Int.tmod_lt_of_pos k (show 0 < n by omega)
  rw [IntWalk.wrap64_in _ (by omega), Int.tmod_eq_emod_of_nonneg (by omega), Int.add_emod_right]
  rw [Int.tmod_def, Int.sub_mul_emod_self_left]

theorem tdiv_bounds (a b : Int) {m : Int} (ha : -m ≤ a) (ha' : a ≤ m) : -m ≤ a.tdiv b ∧ a.tdiv b ≤ m := by
  have h : (a.tdiv b).natAbs ≤ a.natAbs := by
    rw [Int.natAbs_tdiv]
    exact Nat.div_le_self _ _
  omega

theorem ediv_bounds (a b : Int) (hb : 1 ≤ b) {m : Int} (ha : -m ≤ a) (ha' : a ≤ m) : -m ≤ a / b ∧ a / b ≤ m := by
  rcases Int.lt_or_le a 0 with h | h
  · have h1 := Int.ediv_neg_of_neg_of_pos h (show 0 < b by omega)
    have h2 : a ≤ a / b := by
      rw [Int.le_ediv_iff_mul_le (by omega)]
      have := Int.mul_nonneg_of_nonpos_of_nonpos (a := a) (b := 1 - b) (by omega) (by omega)
      rw [Int.mul_sub] at this
      omega
    omega
  · have h1 := Int.ediv_le_self b h
    have h2 := Int.ediv_nonneg h (show 0 ≤ b by omega)
    omega

theorem tdiv_key (a b : Int) (hb : 1 ≤ b) : (¬ a.tmod b < 0 → a.tdiv b = a / b ∧ a.tmod b = a % b) ∧ (a.tmod b < 0 → a.tdiv b - 1 = a / b ∧ a.tmod b + b = a % b) := by
  have e1 := Int.mul_tdiv_add_tmod a b
  have e2 := Int.mul_ediv_add_emod a b
  have n1 := Int.emod_nonneg a (show b ≠ 0 by omega)
  have n2 := Int.emod_lt_of_pos a (show 0 < b by omega)
  have r1 : -b < a.tmod b := Int.lt_tmod_of_pos a (by omega)
  have r2 : a.tmod b < b := Int.tmod_lt_of_pos a (by omega)
  have e : b * (a.tdiv b - a / b) = a % b - a.tmod b := by rw [Int.mul_sub]; omega
  constructor
  · intro h
    have : a.tdiv b - a / b = 0 := by
      apply Int.le_antisymm
      · apply Int.lt_add_one_iff.1
        apply Int.lt_of_mul_lt_mul_left (a := b) _ (by omega)
        omega
      · apply Int.lt_add_one_iff.1
        apply Int.lt_of_mul_lt_mul_left (a := b) _ (by omega)
        rw [Int.mul_add]; omega
    rw [this] at e; omega
  · intro h
    have : a.tdiv b - a / b = 1 := by
      apply Int.le_antisymm
      · apply Int.lt_add_one_iff.1
        apply Int.lt_of_mul_lt_mul_left (a := b) _ (by omega)
        omega
      · apply Int.lt_add_one_iff.1
        apply Int.lt_of_mul_lt_mul_left (a := b) _ (by omega)
        rw [Int.mul_add]; omega
    rw [this] at e; omega

/-- The quotient, rounded up. -/
def upQ (a b : Int) : Int := -(-a / b)

theorem ret_int {k : IntKind} {a b : Int} (h : a = b) : Ending.returned (.int k a) = .returned (.int k b) := by rw [h]
theorem ret_tup2 {a b : Int} {x y : Value} {k : IntKind} (h : a = b) (e : x = y) : Ending.returned (.tuple #[.int k a, x]) = .returned (.tuple #[.int k b, y]) := by rw [h, e]
theorem ret_ints2 {a b c d : Int} {k l : IntKind} (h : a = b) (g : c = d) : Ending.returned (.tuple #[.int k a, .int l c]) = .returned (.tuple #[.int k b, .int l d]) := by rw [h, g]
theorem ret_tup3 {a b c d : Int} {x y : Value} {k l : IntKind} (h : a = b) (g : c = d) (e : x = y) : Ending.returned (.tuple #[.int k a, .int l c, x]) = .returned (.tuple #[.int k b, .int l d, y]) := by rw [h, g, e]
theorem ret_agg2 {a b c d : Int} {k l : IntKind} (h : a = b) (g : c = d) : Ending.returned (.agg #[.int k a, .int l c]) = .returned (.agg #[.int k b, .int l d]) := by rw [h, g]
theorem ret_sp {a b c d : Int} {x y : Value} {k l : IntKind} (h : a = b) (g : c = d) (e : x = y) : Ending.returned (.tuple #[.agg #[.int k a, .int l c], x]) = .returned (.tuple #[.agg #[.int k b, .int l d], y]) := by rw [h, g, e]
theorem ret_bool {a b : Bool} (h : a = b) : Ending.returned (.bool a) = .returned (.bool b) := by rw [h]

/-- Behind a call that leaves what was there: each old cell and each old mark reads as before. -/
theorem bcell {W w1 : World} (hb : Below W.heap.size W w1) : (∀ b o, b < W.heap.size → w1.cell? ⟨b, o, none⟩ = W.cell? ⟨b, o, none⟩) ∧ (∀ b o, b < W.heap.size → w1.frozen? ⟨b, o, none⟩ = W.frozen? ⟨b, o, none⟩) :=
  ⟨fun b o h => hb.cell (p := ⟨b, o, none⟩) h, fun b o h => hb.frozen (p := ⟨b, o, none⟩) h⟩

section
variable {P : Program} {w : World}
theorem run_min_min (ts : Array TypeId) (t : TypeId) (k k' : IntKind) (x y : Int) : (Builtin.min_ ts t #[.int k x, .int k' y]).run P w = .ok (.int k (min x y)) w := by
  rw [run_min_int2]; congr 2; rw [Int.min_def]; split <;> split <;> omega
theorem run_max_max (ts : Array TypeId) (t : TypeId) (k k' : IntKind) (x y : Int) : (Builtin.max_ ts t #[.int k x, .int k' y]).run P w = .ok (.int k (max x y)) w := by
  rw [run_max_int2]; congr 2; rw [Int.max_def]; split <;> split <;> omega
end
attribute [go_sem high] run_min_min run_max_max

/-- Both cells of an interval, stored one behind the other. -/
theorem pair_cells {w : World} {b : Nat} {x y u v : Value} (h0 : w.cell? ⟨b, 0, none⟩ = some u) (h1 : w.cell? ⟨b, 1, none⟩ = some v) :
    ((w.setCell ⟨b, 0, none⟩ x).setCell ⟨b, 1, none⟩ y).cell? ⟨b, 0, none⟩ = some x ∧ ((w.setCell ⟨b, 0, none⟩ x).setCell ⟨b, 1, none⟩ y).cell? ⟨b, 1, none⟩ = some y := by
  constructor <;> simp [go_sem, h0, h1]

/-- Number k of a list; 0 behind its end. (A name that simp does not open.) -/
def ix (zs : List Int) (k : Nat) : Int := zs.getD k 0

theorem size_drewN (w : World) (n : Nat) : (w.drewN n).heap.size = w.heap.size := rfl

/-- A call out of the world W (of s blocks), which had come from w: what it left. -/
theorem took {w W w1 : World} {s : Nat} (h0 : Below w.heap.size w W) (hs : W.heap.size = s) (hb : Below W.heap.size W w1) :
    Below w.heap.size w w1 ∧ s ≤ w1.heap.size ∧ (∀ b o, b < s → w1.cell? ⟨b, o, none⟩ = W.cell? ⟨b, o, none⟩) ∧ (∀ b o, b < s → w1.frozen? ⟨b, o, none⟩ = W.frozen? ⟨b, o, none⟩) := by
  subst hs
  exact ⟨h0.trans (hb.mono h0.size), hb.size, (bcell hb).1, (bcell hb).2⟩

/-- A block that stood before a call reads as before behind it. -/
theorem keepB {W W' : World} {b : Nat} (hb : Below W.heap.size W W') (hl : b < W.heap.size) : (∀ o v, W.cell? ⟨b, o, none⟩ = some v → W'.cell? ⟨b, o, none⟩ = some v) ∧ (∀ o, W.frozen? ⟨b, o, none⟩ = false → W'.frozen? ⟨b, o, none⟩ = false) ∧ b < W'.heap.size :=
  ⟨fun o _ h => (hb.cell (p := ⟨b, o, none⟩) hl).trans h, fun o h => (hb.frozen (p := ⟨b, o, none⟩) hl).trans h, by have := hb.size; omega⟩

/-- An interval in memory, behind a call: two cells and the block's standing. -/
theorem spKeep {W W' : World} {b : Nat} {x y : Value} (hb : Below W.heap.size W W') (h0 : W.cell? ⟨b, 0, none⟩ = some x) (h1 : W.cell? ⟨b, 1, none⟩ = some y) (h2 : b < W.heap.size) :
    W'.cell? ⟨b, 0, none⟩ = some x ∧ W'.cell? ⟨b, 1, none⟩ = some y ∧ b < W'.heap.size :=
  ⟨(keepB hb h2).1 0 _ h0, (keepB hb h2).1 1 _ h1, (keepB hb h2).2.2⟩

/-- Facts on a block that stood at X, in a later world. -/
theorem bX_oldc {X w' : World} {b : Nat} (h : Below X.heap.size X w') (hb : b < X.heap.size) {o : Nat} {v : Value} (hv : X.cell? ⟨b, o, none⟩ = some v) : w'.cell? ⟨b, o, none⟩ = some v := (keepB h hb).1 o v hv
theorem bX_oldf {X w' : World} {b : Nat} (h : Below X.heap.size X w') (hb : b < X.heap.size) {o : Nat} (hv : X.frozen? ⟨b, o, none⟩ = false) : w'.frozen? ⟨b, o, none⟩ = false := (keepB h hb).2.1 o hv
theorem bX_oldl {X w' : World} {b : Nat} (h : Below X.heap.size X w') (hb : b < X.heap.size) : b < w'.heap.size := (keepB h hb).2.2
theorem bX_more {X w w' : World} (h : Below X.heap.size X w) (hb : Below w.heap.size w w') : Below X.heap.size X w' := h.trans (hb.mono h.size)
theorem bX_back {w X w' : World} (h : Below w.heap.size w X) (hX : Below X.heap.size X w') : Below w.heap.size w w' := h.trans (hX.mono h.size)
theorem bX_alloc {X w : World} (h : Below X.heap.size X w) (o : Obj) : Below X.heap.size X (w.alloc o) := h.alloc h.size o
theorem bX_set {X w v : World} (h : Below X.heap.size X v) (hw : Below X.heap.size X w) (o : Nat) (u : Value) : Below X.heap.size X (v.setCell ⟨w.heap.size, o, none⟩ u) := h.setCell hw.size u

end Go.Proofs.Ytplmgbffaeohpaa
/- The contracts of 'at' and of interval.Check. -/
namespace Go.Proofs.Ytplmgbffaeohpaa
open Go.RowKit

set_option maxHeartbeats 400000 in
theorem at_any (k n : Int) (w : World) (hn : 1 ≤ n) (hn' : n ≤ 4611686018427387904) :
    Calls Try.prog 10 #[.int .i64 k, .int .i64 n] w fun e w' => e = .returned (.int .i64 (k % n)) ∧ w = w' := by
  go_enter Try.func10, Try.ntmps10
  go_wp2
  go_ret
  exact ⟨ret_int (at_eq k n hn hn'), rfl⟩

def chk (lo hi : Int) : Int :=
  if lo < -1000000000000000000 ∨ 1000000000000000000 < lo ∨ hi < -1000000000000000000 ∨ 1000000000000000000 < hi then 3 else if hi < lo then 9 else 0

set_option maxHeartbeats 400000 in
theorem check_any (lo hi : Int) (w : World) :
    Calls Try.prog 23 #[.agg #[.int .i64 lo, .int .i64 hi]] w fun e w' => e = .returned (.int .i64 (chk lo hi)) ∧ Below w.heap.size w w' := by
  have i0 : ∀ w, (Instr.index 40 (.agg #[.int .i64 lo, .int .i64 hi]) (.int .i64 0)).run Try.prog w = .ok (.int .i64 lo) w := fun _ => by kernel_rfl
  have i1 : ∀ w, (Instr.index 40 (.agg #[.int .i64 lo, .int .i64 hi]) (.int .i64 1)).run Try.prog w = .ok (.int .i64 hi) w := fun _ => by kernel_rfl
  go_enter Try.func23, Try.ntmps23
  go_wp2
  go_rounds 3
  all_goals go_returns
  all_goals exact ⟨ret_int (by unfold chk; (repeat' split) <;> omega), by go_grown⟩

end Go.Proofs.Ytplmgbffaeohpaa
/- The contracts of the laws' own helpers on intervals: cut, plus, holds. -/
namespace Go.Proofs.Ytplmgbffaeohpaa
open Go.RowKit
set_option linter.unusedSimpArgs false

theorem cut_bounds (lo hi m : Int) (h0 : 0 ≤ m) : -m ≤ min (lo.tmod (m + 1)) (hi.tmod (m + 1)) ∧ min (lo.tmod (m + 1)) (hi.tmod (m + 1)) ≤ max (lo.tmod (m + 1)) (hi.tmod (m + 1)) ∧ max (lo.tmod (m + 1)) (hi.tmod (m + 1)) ≤ m := by
  have q1 := Int.lt_tmod_of_pos lo (show 0 < m + 1 by omega)
  have q2 := Int.tmod_lt_of_pos lo (show 0 < m + 1 by omega)
  have q3 := Int.lt_tmod_of_pos hi (show 0 < m + 1 by omega)
  have q4 := Int.tmod_lt_of_pos hi (show 0 < m + 1 by omega)
  omega



set_option maxHeartbeats 400000 in
theorem holds_any (a b c d : Int) (w : World) :
    Calls Try.prog 9 #[.agg #[.int .i64 a, .int .i64 b], .agg #[.int .i64 c, .int .i64 d]] w fun e w' => e = .returned (.bool (decide (a ≤ c ∧ d ≤ b))) ∧ Below w.heap.size w w' := by
  go_enter Try.func9, Try.ntmps9
  go_wp2
  all_goals go_returns
  all_goals exact ⟨ret_bool (by simp; try omega), (by repeat' (first | (with_reducible refine below_drewN ?_ _) | go_grown))⟩

theorem holds_true (a b c d : Int) (w : World) (h1 : a ≤ c) (h2 : d ≤ b) :
    Calls Try.prog 9 #[.agg #[.int .i64 a, .int .i64 b], .agg #[.int .i64 c, .int .i64 d]] w fun e w' => e = .returned (.bool true) ∧ Below w.heap.size w w' :=
  (holds_any a b c d w).mono fun e w' h => ⟨by rw [h.1, decide_eq_true ⟨h1, h2⟩], h.2⟩

end Go.Proofs.Ytplmgbffaeohpaa
/- How what comes in is opened: structs and slices whose cells are integers. -/
namespace Go.Proofs.Ytplmgbffaeohpaa
open Go.RowKit Go.ChangeShapes Go.WideShapes Go.ChangeAt Go.Deep
set_option linter.unusedSimpArgs false
set_option linter.unusedVariables false

section
variable {H : Type} {enc : TypeId × Value → H} {P : Program} {w : World} {base : Nat} {spare : Nat → Bool} {held : Bool}

/-- A type all of whose cells are integers (of kind i64), whatever its make. -/
def Flat (P : Program) (t : TypeId) : Prop :=
  ∀ (H : Type) (enc : TypeId × Value → H) (w : World) (base : Nat) (spare : Nat → Bool) (held : Bool) (fuel : Nat) (cs : List Value) (x : DataW H × List MemPlace),
    DataW.trod enc P w base spare held fuel t cs = some x → cs.length = P.cellsOf t ∧ ∀ j, j < cs.length → ∃ z, cs[j]? = some (.int .i64 z)

theorem flat_int {P : Program} {t : TypeId} (ht : P.underlying t = some (.int .i64)) (hc : P.cellsOf t = 1) : Flat P t := by
  intro H enc w base spare held fuel cs x h
  obtain ⟨n, rfl, _, _⟩ := DataW.trod_int ht h
  refine ⟨by simp [hc], fun j hj => ?_⟩
  simp at hj
  subst hj
  exact ⟨n, rfl⟩

theorem flat_struct {P : Program} {t : TypeId} {fs : Array Field} (ht : P.underlying t = some (.struct fs)) (hf : ∀ (i : Nat) (f : Field), fs[i]? = some f → Flat P f.type)
    (hcov : ((List.range (P.cellsOf t)).all fun j => fs.toList.any fun f => decide (f.offset ≤ j) && decide (j < f.offset + P.cellsOf f.type)) = true) : Flat P t := by
  intro H enc w base spare held fuel cs x h
  obtain ⟨xs, n, _, _, hl, hxl, hx⟩ := DataW.trod_struct ht h
  refine ⟨hl, fun j hj => ?_⟩
  rw [List.all_eq_true] at hcov
  have := hcov j (by rw [List.mem_range]; omega)
  rw [List.any_eq_true] at this
  obtain ⟨f, hfm, hb⟩ := this
  simp only [Bool.and_eq_true, decide_eq_true_eq] at hb
  obtain ⟨i, hi⟩ := List.mem_iff_getElem?.1 hfm
  have hi' : fs[i]? = some f := by simpa using hi
  have h1 := hx i f hi'
  have hil : i < xs.length := by rw [hxl]; exact (Array.getElem?_eq_some_iff.1 hi').1
  rw [List.getElem?_eq_getElem hil] at h1
  obtain ⟨hl2, hz⟩ := hf i f hi' H enc w base spare held _ _ _ h1
  obtain ⟨z, hz⟩ := hz (j - f.offset) (by omega)
  refine ⟨z, ?_⟩
  rw [List.getElem?_take, if_pos (by omega), List.getElem?_drop, show f.offset + (j - f.offset) = j by omega] at hz
  exact hz

theorem flat_array {P : Program} {t e : TypeId} {n : Nat} (ht : P.underlying t = some (.array n e)) (he : Flat P e) (hc : P.cellsOf t = n * P.cellsOf e) (h0 : 0 < P.cellsOf e) : Flat P t := by
  intro H enc w base spare held fuel cs x h
  obtain ⟨xs, m, _, _, hl, hxl, hx⟩ := DataW.trod_array ht h
  refine ⟨hl, fun j hj => ?_⟩
  have hi : j / P.cellsOf e < n := by rw [Nat.div_lt_iff_lt_mul h0]; omega
  have h1 := hx (j / P.cellsOf e) hi
  rw [List.getElem?_eq_getElem (by omega)] at h1
  obtain ⟨hl2, hz⟩ := he H enc w base spare held _ _ _ h1
  have hm := Nat.div_add_mod j (P.cellsOf e)
  have hlt := Nat.mod_lt j h0
  obtain ⟨z, hz⟩ := hz (j % P.cellsOf e) (by omega)
  refine ⟨z, ?_⟩
  rw [List.getElem?_take, if_pos (by omega), List.getElem?_drop, Nat.mul_comm, hm] at hz
  exact hz

/-- A struct of integers by value: its cells. -/
theorem open_flat {r : Reach} {b0 : Nat} {t : TypeId} {fs : Array Field} {v : Value} {d : DataW H} {p : List MemPlace} (hs : P.underlying t = some (.struct fs)) (hF : Flat P t)
    (hv : Value.okWide P w r b0 t v) (h : DataW.Trod enc P w base spare held t v d p) : ∃ zs : List Int, zs.length = P.cellsOf t ∧ v = .agg (zs.map (Value.int .i64)).toArray := by
  obtain ⟨cs, rfl, hsz⟩ := okWide_struct hs hv
  obtain ⟨fuel, hf⟩ := h
  obtain ⟨hl, hz⟩ := hF H enc w base spare held fuel _ _ hf
  have hl' : cs.toList.length = P.cellsOf t := by simpa [Value.cells] using hl
  have hz' : ∀ j, j < cs.toList.length → ∃ z, cs.toList[j]? = some (.int .i64 z) := by simpa [Value.cells] using hz
  obtain ⟨f, hf⟩ := choose_lt hz'
  refine ⟨(List.range (P.cellsOf t)).map f, by simp, ?_⟩
  congr 1
  apply Array.ext'
  apply List.ext_getElem?
  intro j
  by_cases hj : j < cs.toList.length
  · rw [hf j hj]
    simp only [List.map_map]
    rw [List.getElem?_map, List.getElem?_range (by omega)]
    rfl
  · rw [List.getElem?_eq_none (by omega), List.getElem?_eq_none (by simp; omega)]

theorem open_flat2 {r : Reach} {b0 : Nat} {t : TypeId} {fs : Array Field} {v : Value} {d : DataW H} {p : List MemPlace} (hs : P.underlying t = some (.struct fs)) (hF : Flat P t) (hc : P.cellsOf t = 2)
    (hv : Value.okWide P w r b0 t v) (h : DataW.Trod enc P w base spare held t v d p) : ∃ x y, v = .agg #[.int .i64 x, .int .i64 y] := by
  obtain ⟨zs, hl, rfl⟩ := open_flat hs hF hv h
  rw [hc] at hl
  match zs, hl with
  | [x, y], _ => exact ⟨x, y, rfl⟩
theorem open_flat3 {r : Reach} {b0 : Nat} {t : TypeId} {fs : Array Field} {v : Value} {d : DataW H} {p : List MemPlace} (hs : P.underlying t = some (.struct fs)) (hF : Flat P t) (hc : P.cellsOf t = 3)
    (hv : Value.okWide P w r b0 t v) (h : DataW.Trod enc P w base spare held t v d p) : ∃ x y z, v = .agg #[.int .i64 x, .int .i64 y, .int .i64 z] := by
  obtain ⟨zs, hl, rfl⟩ := open_flat hs hF hv h
  rw [hc] at hl
  match zs, hl with
  | [x, y, z], _ => exact ⟨x, y, z, rfl⟩
theorem open_flat4 {r : Reach} {b0 : Nat} {t : TypeId} {fs : Array Field} {v : Value} {d : DataW H} {p : List MemPlace} (hs : P.underlying t = some (.struct fs)) (hF : Flat P t) (hc : P.cellsOf t = 4)
    (hv : Value.okWide P w r b0 t v) (h : DataW.Trod enc P w base spare held t v d p) : ∃ x y z u, v = .agg #[.int .i64 x, .int .i64 y, .int .i64 z, .int .i64 u] := by
  obtain ⟨zs, hl, rfl⟩ := open_flat hs hF hv h
  rw [hc] at hl
  match zs, hl with
  | [x, y, z, u], _ => exact ⟨x, y, z, u, rfl⟩

/-- A slice of elements of sz integers each, as the walk is told of it: n elements, their numbers in a row. -/
structure FlatSl (w : World) (sz : Nat) (a : Option Addr) (n cap : Nat) (zs : List Int) : Prop where
  le : n ≤ cap
  most : cap ≤ maxLen
  len : zs.length = n * sz
  at' : 0 < n → ∃ b off, a = some ⟨b, off, none⟩ ∧ ∀ j, j < n * sz → w.cell? ⟨b, off + j, none⟩ = some (.int .i64 (ix zs j))

theorem open_flat_slice {t e : TypeId} {sz : Nat} {a : Option Addr} {n cap : Nat} {d : DataW H} {p : List MemPlace} (ht : P.underlying t = some (.slice e)) (hF : Flat P e) (hsz : P.cellsOf e = sz) (h0 : 0 < sz)
    (h : DataW.Trod enc P w base (fun _ => true) held t (.slice a n cap) d p) : ∃ zs, FlatSl w sz a n cap zs := by
  subst hsz
  obtain ⟨fuel, hf⟩ := h
  rcases open_slice ht hf with ⟨hcs, _⟩ | ⟨x, l, c, m, k, D, Pl, hcs, _, hl, hm, hmm, _, hx⟩
  · simp [Value.cells] at hcs
    obtain ⟨rfl, rfl, rfl⟩ := hcs
    exact ⟨[], by omega, by simp [maxLen], by simp, fun h => absurd h (by omega)⟩
  · simp [Value.cells] at hcs
    obtain ⟨rfl, rfl, rfl⟩ := hcs
    simp only [if_true] at hmm
    subst hmm
    have key : ∀ j, j < n * P.cellsOf e → ∃ z, w.cell? (x.add j) = some (.int .i64 z) := by
      intro j hj
      have hi : j / P.cellsOf e < n := by rw [Nat.div_lt_iff_lt_mul h0]; omega
      obtain ⟨cs', h1, h2⟩ := hx (j / P.cellsOf e) (by omega)
      obtain ⟨_, hcl, hat⟩ := World.cells?_some h1
      obtain ⟨_, hz⟩ := hF H enc w base (fun _ => true) held _ _ _ h2
      have hmod := Nat.div_add_mod j (P.cellsOf e)
      have hlt := Nat.mod_lt j h0
      obtain ⟨z, hz⟩ := hz (j % P.cellsOf e) (by omega)
      refine ⟨z, ?_⟩
      have := hat (j % P.cellsOf e) hlt
      rw [Go.Deep.add_add, hz, show j / P.cellsOf e * P.cellsOf e + j % P.cellsOf e = j by rw [Nat.mul_comm]; exact hmod] at this
      exact this
    obtain ⟨f, hf⟩ := choose_lt key
    refine ⟨(List.range (n * P.cellsOf e)).map f, hl, hm, by simp, fun hn => ?_⟩
    have h00 := hf 0 (Nat.mul_pos hn h0)
    obtain ⟨b, off, spot⟩ := x
    have hspot : spot = none := by simpa [Addr.add] using World.cell?_spot h00
    subst hspot
    refine ⟨b, off, rfl, fun j hj => ?_⟩
    have := hf j hj
    rw [add_plain] at this
    rw [this]
    simp [ix, List.getD, hj]
end

theorem flatInt : Flat Try.prog 3 := flat_int Try.underlying3 (by kernel_rfl)

end Go.Proofs.Ytplmgbffaeohpaa
/- What a call owns, over calls that leave old memory alone; read as a slice that came in. -/
namespace Go.Proofs.Ytplmgbffaeohpaa
open Go.RowKit
set_option linter.unusedVariables false

theorem below_grown {w w' : World} (hb : Below w.heap.size w w') : w.grownBy w' none := ⟨hb.os, hb.tape, hb.output, hb.size, fun k hk _ => hb.block k hk⟩
theorem own_below {w w' : World} {base : Nat} {e : TypeId} {size : Nat} {v : Value} {n : Nat} {xs : List Value} (h : w.ownsRow base e size v n xs) (hb : Below w.heap.size w w') : w'.ownsRow base e size v n xs :=
  h.kept (below_grown hb) (by cases hv : v.ownBlock <;> simp)
/-- Behind an append: what had come from w still stands. -/
theorem below_grew {w W W' : World} {e : TypeId} {size : Nat} {v : Value} {n : Nat} {xs : List Value} (hb : Below w.heap.size w W) (hg : W.grownBy W' v.ownBlock) (h : W.ownsRow w.heap.size e size v n xs) : Below w.heap.size w W' :=
  hb.grown hg hb.size (fun q hq => (h.lt q hq).1)
theorem cells_two {w : World} {x y : Value} {t : TypeId} : ∀ j u, [x, y][j]? = some u → (w.alloc (.cells #[x, y] t)).cell? ((⟨w.heap.size, 0, none⟩ : Addr).add j) = some u := by
  intro j u hj
  match j, hj with
  | 0, hj => simp at hj; subst hj; simp [Addr.add]
  | 1, hj => simp at hj; subst hj; simp [Addr.add]
theorem cells_four {w : World} {x y z q : Value} {t : TypeId} : ∀ j u, [x, y, z, q][j]? = some u → (w.alloc (.cells #[x, y, z, q] t)).cell? ((⟨w.heap.size, 0, none⟩ : Addr).add j) = some u := by
  intro j u hj
  match j, hj with
  | 0, hj => simp at hj; subst hj; simp [Addr.add]
  | 1, hj => simp at hj; subst hj; simp [Addr.add]
  | 2, hj => simp at hj; subst hj; simp [Addr.add]
  | 3, hj => simp at hj; subst hj; simp [Addr.add]
theorem cells_one {w : World} {x : Value} {t : TypeId} : ∀ j u, [x][j]? = some u → (w.alloc (.cells #[x] t)).cell? ((⟨w.heap.size, 0, none⟩ : Addr).add j) = some u := by
  intro j u hj
  match j, hj with
  | 0, hj => simp at hj; subst hj; simp [Addr.add]
theorem ints_cells {zs : List Int} {k : IntKind} : ∀ u, u ∈ zs.map (Value.int k) → u.cells = #[u] := by
  intro u hu
  obtain ⟨z, _, rfl⟩ := List.mem_map.1 hu
  rfl

/-- What a call owns, read as a slice that came in. -/
theorem own_flat {w : World} {base : Nat} {e : TypeId} {sz : Nat} {v : Value} {n : Nat} {zs : List Int} (h : w.ownsRow base e sz v n (zs.map (Value.int .i64))) :
    ∃ A cap, v = .slice A n cap ∧ FlatSl w sz A n cap zs := by
  obtain ⟨hl, h2⟩ := id h
  have hl' : zs.length = n * sz := by simpa using hl
  rcases h2 with ⟨rfl, rfl⟩ | ⟨g, cap, cur, rfl, hb, hg, hn, hc, hs, ht⟩
  · exact ⟨none, 0, rfl, ⟨by omega, by simp [maxLen], hl', fun h => absurd h (by omega)⟩⟩
  · refine ⟨_, cap, rfl, ⟨hn, hc, hl', fun h0 => ⟨g, 0, rfl, fun j hj => ?_⟩⟩⟩
    have := h.cellAt j hj
    rw [Nat.zero_add, this]
    rw [List.getElem?_map, List.getElem?_eq_getElem (by omega)]
    simp [ix, List.getD, List.getElem?_eq_getElem (show j < zs.length by omega)]

end Go.Proofs.Ytplmgbffaeohpaa
/- A box of two numbers (an interval) that a call has laid. -/
namespace Go.Proofs.Ytplmgbffaeohpaa
open Go.RowKit
set_option linter.unusedVariables false

def prF (x y : Int) : Nat → Value := fun i => if i = 0 then .int .i64 x else .int .i64 y
/-- Block b holds the interval from x to y, and may be written. -/
def SpBox (w : World) (b : Nat) (x y : Int) : Prop := w.rowIs b 33 2 (prF x y)

theorem SpBox.c0 {w : World} {b : Nat} {x y : Int} (h : SpBox w b x y) : w.cell? ⟨b, 0, none⟩ = some (.int .i64 x) := World.rowIs.cell h (i := 0) (by omega)
theorem SpBox.c1 {w : World} {b : Nat} {x y : Int} (h : SpBox w b x y) : w.cell? ⟨b, 1, none⟩ = some (.int .i64 y) := World.rowIs.cell h (i := 1) (by omega)
theorem SpBox.free {w : World} {b : Nat} {x y : Int} (h : SpBox w b x y) (i : Nat) : w.frozen? ⟨b, i, none⟩ = false := World.rowIs.frozen h i
theorem SpBox.lt {w : World} {b : Nat} {x y : Int} (h : SpBox w b x y) : b < w.heap.size := World.rowIs.lt h
theorem SpBox.alloc {w : World} {b : Nat} {x y : Int} (h : SpBox w b x y) (o : Obj) : SpBox (w.alloc o) b x y := World.rowIs.alloc h o
theorem SpBox.drew {w : World} {b : Nat} {x y : Int} (h : SpBox w b x y) : SpBox w.drew b x y := h
theorem SpBox.below {w w' : World} {b : Nat} {x y : Int} (h : SpBox w b x y) (hb : Below w.heap.size w w') : SpBox w' b x y := World.rowIs.of_block h (hb.block b (World.rowIs.lt h))
theorem SpBox.new (w : World) (x y : Int) : SpBox (w.alloc (.cells #[.int .i64 x, .int .i64 y] 33)) w.heap.size x y :=
  World.rowIs_alloc w #[.int .i64 x, .int .i64 y] 33 (prF x y) (fun i hi => by
    match i, hi with
    | 0, _ => rfl
    | 1, _ => rfl)
theorem SpBox.other {w : World} {b : Nat} {x y : Int} (h : SpBox w b x y) {a : Addr} (ha : b ≠ a.block) (v : Value) : SpBox (w.setCell a v) b x y := World.rowIs.setOther h ha v
theorem SpBox.set {w : World} {b : Nat} {x y : Int} (h : SpBox w b x y) (u v : Int) : SpBox ((w.setCell ⟨b, 0, none⟩ (.int .i64 u)).setCell ⟨b, 1, none⟩ (.int .i64 v)) b u v :=
  ((World.rowIs.set h 0 (.int .i64 u)).set 1 (.int .i64 v)).congr (fun i hi => by
    match i, hi with
    | 0, _ => rfl
    | 1, _ => rfl)
theorem SpBox.set1 {w : World} {b : Nat} {x y : Int} (h : SpBox w b x y) (v : Int) : SpBox (w.setCell ⟨b, 1, none⟩ (.int .i64 v)) b x v :=
  (World.rowIs.set h 1 (.int .i64 v)).congr (fun i hi => by
    match i, hi with
    | 0, _ => rfl
    | 1, _ => rfl)

theorem SpBox.grown {w w' : World} {b : Nat} {x y : Int} (h : SpBox w b x y) {B : Nat} {e : TypeId} {size : Nat} {v : Value} {n : Nat} {xs : List Value} (hg : w.grownBy w' v.ownBlock) (ho : w.ownsRow B e size v n xs) (hb : b < B) : SpBox w' b x y :=
  World.rowIs.of_block h (hg.block b h.lt (fun e1 => by have := (ho.lt b e1.symm).1; omega))

end Go.Proofs.Ytplmgbffaeohpaa
