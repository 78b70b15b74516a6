/- Merged by wip/tools/pack.py out of XPlain, XAt, XSpan, XOpen, XOwn, XBox. -/
import Derived.WalkKit
import Derived.WalkSpells
import Derived.WalkLawsBesides
import Derived.Handy
import Derived.Lib.Hide
import Derived.Test.YtcopmgnfakjdhaaGreatDoorRows
import Derived.Deep.QuietTactic
import Derived.BigQuiet
import Derived.ProofKit
import Derived.OpenShut
import Derived.Deep.Slices
import Derived.ChangeSame
import Derived.Deep.OwnRows
/- Small plain lemmas: integers, worlds. No program in sight. -/
namespace Go.Proofs.YtcopmgnfakjdhaaGreatDoor
open Go.RowKit

theorem at_eq (k n : Int) (hn : 1 ≤ n) (hn' : n ≤ 4611686018427387904) : (wrap64 (k.tmod n + n)).tmod n = k % n := by
  have h1 := Int.lt_tmod_of_pos k (show 0 < n by omega)
  have h2 := Int.tmod_lt_of_pos k (show 0 < n by omega)
  rw [IntWalk.wrap64_in _ (by omega), Int.tmod_eq_emod_of_nonneg (by omega), Int.add_emod_right]
  rw [Int.tmod_def, Int.sub_mul_emod_self_left]

theorem tdiv_key (a b : Int) (hb : 1 ≤ b) : (¬ a.tmod b < 0 → a.tdiv b = a / b ∧ a.tmod b = a % b) ∧ (a.tmod b < 0 → a.tdiv b - 1 = a / b ∧ a.tmod b + b = a % b) := by
  have e1 := Int.mul_tdiv_add_tmod a b
  have e2 := Int.mul_ediv_add_emod a b
  have n1 := Int.emod_nonneg a (show b ≠ 0 by omega)
  have n2 := Int.emod_lt_of_pos a (show 0 < b by omega)
  have r1 : -b < a.tmod b := Int.lt_tmod_of_pos a (by omega)
  have r2 : a.tmod b < b := Int.tmod_lt_of_pos a (by omega)
  have e : b * (a.tdiv b - a / b) = a % b - a.tmod b := by rw [Int.mul_sub]; omega
  constructor
  · intro h
    have : a.tdiv b - a / b = 0 := by
      apply Int.le_antisymm
      · apply Int.lt_add_one_iff.1
        apply Int.lt_of_mul_lt_mul_left (a := b) _ (by omega)
        omega
      · apply Int.lt_add_one_iff.1
        apply Int.lt_of_mul_lt_mul_left (a := b) _ (by omega)
        rw [Int.mul_add]; omega
    rw [this] at e; omega
  · intro h
    have : a.tdiv b - a / b = 1 := by
      apply Int.le_antisymm
      · apply Int.lt_add_one_iff.1
        apply Int.lt_of_mul_lt_mul_left (a := b) _ (by omega)
        omega
      · apply Int.lt_add_one_iff.1
        apply Int.lt_of_mul_lt_mul_left (a := b) _ (by omega)
        rw [Int.mul_add]; omega
    rw [this] at e; omega

def upQ (a b : Int) : Int := -(-a / b)

theorem ret_int {k : IntKind} {a b : Int} (h : a = b) : Ending.returned (.int k a) = .returned (.int k b) := by rw [h]
theorem ret_ints2 {a b c d : Int} {k l : IntKind} (h : a = b) (g : c = d) : Ending.returned (.tuple #[.int k a, .int l c]) = .returned (.tuple #[.int k b, .int l d]) := by rw [h, g]
theorem ret_tup3 {a b c d : Int} {x y : Value} {k l : IntKind} (h : a = b) (g : c = d) (e : x = y) : Ending.returned (.tuple #[.int k a, .int l c, x]) = .returned (.tuple #[.int k b, .int l d, y]) := by rw [h, g, e]
theorem bcell {W w1 : World} (hb : Below W.heap.size W w1) : (∀ b o, b < W.heap.size → w1.cell? ⟨b, o, none⟩ = W.cell? ⟨b, o, none⟩) ∧ (∀ b o, b < W.heap.size → w1.frozen? ⟨b, o, none⟩ = W.frozen? ⟨b, o, none⟩) :=
  ⟨fun b o h => hb.cell (p := ⟨b, o, none⟩) h, fun b o h => hb.frozen (p := ⟨b, o, none⟩) h⟩

section
variable {P : Program} {w : World}
theorem run_min_min (ts : Array TypeId) (t : TypeId) (k k' : IntKind) (x y : Int) : (Builtin.min_ ts t #[.int k x, .int k' y]).run P w = .ok (.int k (min x y)) w := by
  rw [run_min_int2]; congr 2; rw [Int.min_def]; split <;> split <;> omega
theorem run_max_max (ts : Array TypeId) (t : TypeId) (k k' : IntKind) (x y : Int) : (Builtin.max_ ts t #[.int k x, .int k' y]).run P w = .ok (.int k (max x y)) w := by
  rw [run_max_int2]; congr 2; rw [Int.max_def]; split <;> split <;> omega
end
attribute [go_sem high] run_min_min run_max_max

theorem pair_cells {w : World} {b : Nat} {x y u v : Value} (h0 : w.cell? ⟨b, 0, none⟩ = some u) (h1 : w.cell? ⟨b, 1, none⟩ = some v) :
    ((w.setCell ⟨b, 0, none⟩ x).setCell ⟨b, 1, none⟩ y).cell? ⟨b, 0, none⟩ = some x ∧ ((w.setCell ⟨b, 0, none⟩ x).setCell ⟨b, 1, none⟩ y).cell? ⟨b, 1, none⟩ = some y := by
  constructor <;> simp [go_sem, h0, h1]

def ix (zs : List Int) (k : Nat) : Int := zs.getD k 0

theorem size_drewN (w : World) (n : Nat) : (w.drewN n).heap.size = w.heap.size := rfl

theorem took {w W w1 : World} {s : Nat} (h0 : Below w.heap.size w W) (hs : W.heap.size = s) (hb : Below W.heap.size W w1) :
    Below w.heap.size w w1 ∧ s ≤ w1.heap.size ∧ (∀ b o, b < s → w1.cell? ⟨b, o, none⟩ = W.cell? ⟨b, o, none⟩) ∧ (∀ b o, b < s → w1.frozen? ⟨b, o, none⟩ = W.frozen? ⟨b, o, none⟩) := by
  subst hs
  exact ⟨h0.trans (hb.mono h0.size), hb.size, (bcell hb).1, (bcell hb).2⟩

theorem keepB {W W' : World} {b : Nat} (hb : Below W.heap.size W W') (hl : b < W.heap.size) : (∀ o v, W.cell? ⟨b, o, none⟩ = some v → W'.cell? ⟨b, o, none⟩ = some v) ∧ (∀ o, W.frozen? ⟨b, o, none⟩ = false → W'.frozen? ⟨b, o, none⟩ = false) ∧ b < W'.heap.size :=
  ⟨fun o _ h => (hb.cell (p := ⟨b, o, none⟩) hl).trans h, fun o h => (hb.frozen (p := ⟨b, o, none⟩) hl).trans h, by have := hb.size; omega⟩

theorem bX_oldc {X w' : World} {b : Nat} (h : Below X.heap.size X w') (hb : b < X.heap.size) {o : Nat} {v : Value} (hv : X.cell? ⟨b, o, none⟩ = some v) : w'.cell? ⟨b, o, none⟩ = some v := (keepB h hb).1 o v hv
theorem bX_more {X w w' : World} (h : Below X.heap.size X w) (hb : Below w.heap.size w w') : Below X.heap.size X w' := h.trans (hb.mono h.size)
theorem bX_back {w X w' : World} (h : Below w.heap.size w X) (hX : Below X.heap.size X w') : Below w.heap.size w w' := h.trans (hX.mono h.size)
end Go.Proofs.YtcopmgnfakjdhaaGreatDoor
/- The contracts of 'at' and of interval.Check. -/
namespace Go.Proofs.YtcopmgnfakjdhaaGreatDoor
open Go.RowKit

set_option maxHeartbeats 400000 in
theorem at_any (k n : Int) (w : World) (hn : 1 ≤ n) (hn' : n ≤ 4611686018427387904) :
    Calls Tryz.prog 13 #[.int .i64 k, .int .i64 n] w fun e w' => e = .returned (.int .i64 (k % n)) ∧ w = w' := by
  go_enter Tryz.func13, Tryz.ntmps13
  go_wp2
  go_ret
  exact ⟨ret_int (at_eq k n hn hn'), rfl⟩

def chk (lo hi : Int) : Int :=
  if lo < -1000000000000000000 ∨ 1000000000000000000 < lo ∨ hi < -1000000000000000000 ∨ 1000000000000000000 < hi then 3 else if hi < lo then 9 else 0

set_option maxHeartbeats 400000 in
theorem check_any (lo hi : Int) (w : World) :
    Calls Tryz.prog 73 #[.agg #[.int .i64 lo, .int .i64 hi]] w fun e w' => e = .returned (.int .i64 (chk lo hi)) ∧ Below w.heap.size w w' := by
  have i0 : ∀ w, (Instr.index 89 (.agg #[.int .i64 lo, .int .i64 hi]) (.int .i64 0)).run Tryz.prog w = .ok (.int .i64 lo) w := fun _ => by kernel_rfl
  have i1 : ∀ w, (Instr.index 89 (.agg #[.int .i64 lo, .int .i64 hi]) (.int .i64 1)).run Tryz.prog w = .ok (.int .i64 hi) w := fun _ => by kernel_rfl
  go_enter Tryz.func73, Tryz.ntmps73
  go_wp2
  go_rounds 3
  all_goals go_returns
  all_goals exact ⟨ret_int (by unfold chk; (repeat' split) <;> omega), by go_grown⟩

end Go.Proofs.YtcopmgnfakjdhaaGreatDoor
/- The contracts of the laws' own helpers on intervals: cut, plus, holds. -/
namespace Go.Proofs.YtcopmgnfakjdhaaGreatDoor
open Go.RowKit
set_option linter.unusedSimpArgs false

end Go.Proofs.YtcopmgnfakjdhaaGreatDoor
/- How what comes in is opened: structs and slices whose cells are integers. -/
namespace Go.Proofs.YtcopmgnfakjdhaaGreatDoor
open Go.RowKit Go.ChangeShapes Go.WideShapes Go.ChangeAt Go.Deep
set_option linter.unusedSimpArgs false
set_option linter.unusedVariables false

section
variable {H : Type} {enc : TypeId × Value → H} {P : Program} {w : World} {base : Nat} {spare : Nat → Bool} {held : Bool}

def Flat (P : Program) (t : TypeId) : Prop :=
  ∀ (H : Type) (enc : TypeId × Value → H) (w : World) (base : Nat) (spare : Nat → Bool) (held : Bool) (fuel : Nat) (cs : List Value) (x : DataW H × List MemPlace),
    DataW.trod enc P w base spare held fuel t cs = some x → cs.length = P.cellsOf t ∧ ∀ j, j < cs.length → ∃ z, cs[j]? = some (.int .i64 z)

theorem flat_int {P : Program} {t : TypeId} (ht : P.underlying t = some (.int .i64)) (hc : P.cellsOf t = 1) : Flat P t := by
  intro H enc w base spare held fuel cs x h
  obtain ⟨n, rfl, _, _⟩ := DataW.trod_int ht h
  refine ⟨by simp [hc], fun j hj => ?_⟩
  simp at hj
  subst hj
  exact ⟨n, rfl⟩

theorem flat_struct {P : Program} {t : TypeId} {fs : Array Field} (ht : P.underlying t = some (.struct fs)) (hf : ∀ (i : Nat) (f : Field), fs[i]? = some f → Flat P f.type)
    (hcov : ((List.range (P.cellsOf t)).all fun j => fs.toList.any fun f => decide (f.offset ≤ j) && decide (j < f.offset + P.cellsOf f.type)) = true) : Flat P t := by
  intro H enc w base spare held fuel cs x h
  obtain ⟨xs, n, _, _, hl, hxl, hx⟩ := DataW.trod_struct ht h
  refine ⟨hl, fun j hj => ?_⟩
  rw [List.all_eq_true] at hcov
  have := hcov j (by rw [List.mem_range]; omega)
  rw [List.any_eq_true] at this
  obtain ⟨f, hfm, hb⟩ := this
  simp only [Bool.and_eq_true, decide_eq_true_eq] at hb
  obtain ⟨i, hi⟩ := List.mem_iff_getElem?.1 hfm
  have hi' : fs[i]? = some f := by simpa using hi
  have h1 := hx i f hi'
  have hil : i < xs.length := by rw [hxl]; exact (Array.getElem?_eq_some_iff.1 hi').1
  rw [List.getElem?_eq_getElem hil] at h1
  obtain ⟨hl2, hz⟩ := hf i f hi' H enc w base spare held _ _ _ h1
  obtain ⟨z, hz⟩ := hz (j - f.offset) (by omega)
  refine ⟨z, ?_⟩
  rw [List.getElem?_take, if_pos (by omega), List.getElem?_drop, show f.offset + (j - f.offset) = j by omega] at hz
  exact hz

theorem open_flat {r : Reach} {b0 : Nat} {t : TypeId} {fs : Array Field} {v : Value} {d : DataW H} {p : List MemPlace} (hs : P.underlying t = some (.struct fs)) (hF : Flat P t)
    (hv : Value.okWide P w r b0 t v) (h : DataW.Trod enc P w base spare held t v d p) : ∃ zs : List Int, zs.length = P.cellsOf t ∧ v = .agg (zs.map (Value.int .i64)).toArray := by
  obtain ⟨cs, rfl, hsz⟩ := okWide_struct hs hv
  obtain ⟨fuel, hf⟩ := h
  obtain ⟨hl, hz⟩ := hF H enc w base spare held fuel _ _ hf
  have hl' : cs.toList.length = P.cellsOf t := by simpa [Value.cells] using hl
  have hz' : ∀ j, j < cs.toList.length → ∃ z, cs.toList[j]? = some (.int .i64 z) := by simpa [Value.cells] using hz
  obtain ⟨f, hf⟩ := choose_lt hz'
  refine ⟨(List.range (P.cellsOf t)).map f, by simp, ?_⟩
  congr 1
  apply Array.ext'
  apply List.ext_getElem?
  intro j
  by_cases hj : j < cs.toList.length
  · rw [hf j hj]
    simp only [List.map_map]
    rw [List.getElem?_map, List.getElem?_range (by omega)]
    rfl
  · rw [List.getElem?_eq_none (by omega), List.getElem?_eq_none (by simp; omega)]

theorem open_flat2 {r : Reach} {b0 : Nat} {t : TypeId} {fs : Array Field} {v : Value} {d : DataW H} {p : List MemPlace} (hs : P.underlying t = some (.struct fs)) (hF : Flat P t) (hc : P.cellsOf t = 2)
    (hv : Value.okWide P w r b0 t v) (h : DataW.Trod enc P w base spare held t v d p) : ∃ x y, v = .agg #[.int .i64 x, .int .i64 y] := by
  obtain ⟨zs, hl, rfl⟩ := open_flat hs hF hv h
  rw [hc] at hl
  match zs, hl with
  | [x, y], _ => exact ⟨x, y, rfl⟩
structure FlatSl (w : World) (sz : Nat) (a : Option Addr) (n cap : Nat) (zs : List Int) : Prop where
  le : n ≤ cap
  most : cap ≤ maxLen
  len : zs.length = n * sz
  at' : 0 < n → ∃ b off, a = some ⟨b, off, none⟩ ∧ ∀ j, j < n * sz → w.cell? ⟨b, off + j, none⟩ = some (.int .i64 (ix zs j))

end

theorem flatInt : Flat Tryz.prog 3 := flat_int Tryz.underlying3 (by kernel_rfl)

end Go.Proofs.YtcopmgnfakjdhaaGreatDoor
/- What a call owns, over calls that leave old memory alone; read as a slice that came in. -/
namespace Go.Proofs.YtcopmgnfakjdhaaGreatDoor
open Go.RowKit
set_option linter.unusedVariables false

end Go.Proofs.YtcopmgnfakjdhaaGreatDoor
/- A box of two numbers (an interval) that a call has laid. -/
namespace Go.Proofs.YtcopmgnfakjdhaaGreatDoor
open Go.RowKit
set_option linter.unusedVariables false

def prF (x y : Int) : Nat → Value := fun i => if i = 0 then .int .i64 x else .int .i64 y
def SpBox (w : World) (b : Nat) (x y : Int) : Prop := w.rowIs b 28 2 (prF x y)

theorem SpBox.c0 {w : World} {b : Nat} {x y : Int} (h : SpBox w b x y) : w.cell? ⟨b, 0, none⟩ = some (.int .i64 x) := World.rowIs.cell h (i := 0) (by omega)
theorem SpBox.c1 {w : World} {b : Nat} {x y : Int} (h : SpBox w b x y) : w.cell? ⟨b, 1, none⟩ = some (.int .i64 y) := World.rowIs.cell h (i := 1) (by omega)
theorem SpBox.free {w : World} {b : Nat} {x y : Int} (h : SpBox w b x y) (i : Nat) : w.frozen? ⟨b, i, none⟩ = false := World.rowIs.frozen h i
theorem SpBox.lt {w : World} {b : Nat} {x y : Int} (h : SpBox w b x y) : b < w.heap.size := World.rowIs.lt h
theorem SpBox.alloc {w : World} {b : Nat} {x y : Int} (h : SpBox w b x y) (o : Obj) : SpBox (w.alloc o) b x y := World.rowIs.alloc h o
theorem SpBox.drew {w : World} {b : Nat} {x y : Int} (h : SpBox w b x y) : SpBox w.drew b x y := h
theorem SpBox.below {w w' : World} {b : Nat} {x y : Int} (h : SpBox w b x y) (hb : Below w.heap.size w w') : SpBox w' b x y := World.rowIs.of_block h (hb.block b (World.rowIs.lt h))
theorem SpBox.new (w : World) (x y : Int) : SpBox (w.alloc (.cells #[.int .i64 x, .int .i64 y] 28)) w.heap.size x y :=
  World.rowIs_alloc w #[.int .i64 x, .int .i64 y] 28 (prF x y) (fun i hi => by
    match i, hi with
    | 0, _ => rfl
    | 1, _ => rfl)
theorem SpBox.other {w : World} {b : Nat} {x y : Int} (h : SpBox w b x y) {a : Addr} (ha : b ≠ a.block) (v : Value) : SpBox (w.setCell a v) b x y := World.rowIs.setOther h ha v
theorem SpBox.set {w : World} {b : Nat} {x y : Int} (h : SpBox w b x y) (u v : Int) : SpBox ((w.setCell ⟨b, 0, none⟩ (.int .i64 u)).setCell ⟨b, 1, none⟩ (.int .i64 v)) b u v :=
  ((World.rowIs.set h 0 (.int .i64 u)).set 1 (.int .i64 v)).congr (fun i hi => by
    match i, hi with
    | 0, _ => rfl
    | 1, _ => rfl)
theorem SpBox.set1 {w : World} {b : Nat} {x y : Int} (h : SpBox w b x y) (v : Int) : SpBox (w.setCell ⟨b, 1, none⟩ (.int .i64 v)) b x v :=
  (World.rowIs.set h 1 (.int .i64 v)).congr (fun i hi => by
    match i, hi with
    | 0, _ => rfl
    | 1, _ => rfl)

end Go.Proofs.YtcopmgnfakjdhaaGreatDoor
namespace Go.Proofs.YtcopmgnfakjdhaaGreatDoor
theorem gA {α : Type _} {xs : List α} {i : Nat} : (List.toArray xs)[i]? = xs[i]? := List.getElem?_toArray
theorem gB {α : Type _} {a : α} {i : Nat} {l : List α} : (a :: l)[i + 1]? = l[i]? := List.getElem?_cons_succ
theorem gC {α : Type _} {a : α} {l : List α} : (a :: l)[0]? = some a := List.getElem?_cons_zero
theorem uA {α : Type _} (l : List α) (i : Nat) (a : α) : Array.setIfInBounds (List.toArray l) i a = List.toArray (List.set l i a) := List.setIfInBounds_toArray l i a
theorem uB {α : Type _} {x : α} {xs : List α} {a : α} : List.set (x :: xs) 0 a = a :: xs := List.set_cons_zero
theorem uC {α : Type _} {x : α} {xs : List α} {i : Nat} {a : α} : List.set (x :: xs) (i + 1) a = x :: List.set xs i a := List.set_cons_succ
theorem vA (w : World) (o : Obj) : (w.alloc o).heap.size = w.heap.size + 1 := World.size_alloc w o
theorem vB (w : World) (a : Addr) (v : Value) : (w.setCell a v).heap.size = w.heap.size := World.size_setCell w a v
theorem vC (w : World) : w.drew.heap.size = w.heap.size := World.size_drew w
theorem vD (w : World) (n : Nat) : (w.drewN n).heap.size = w.heap.size := size_drewN w n
end Go.Proofs.YtcopmgnfakjdhaaGreatDoor
