/- A box of two numbers (an interval) that a call has laid. -/
import Derived.Test.YtcopmgnfakjdhaaDoorOwn
import Derived.Deep.OwnRows
namespace Go.Proofs.YtcopmgnfakjdhaaDoor
open Go.RowKit
set_option linter.unusedVariables false

def prF (x y : Int) : Nat → Value := fun i => if i = 0 then .int .i64 x else .int .i64 y
/-- Block b holds the interval from x to y, and may be written. -/
def SpBox (w : World) (b : Nat) (x y : Int) : Prop := w.rowIs b 25 2 (prF x y)

theorem SpBox.c0 {w : World} {b : Nat} {x y : Int} (h : SpBox w b x y) : w.cell? ⟨b, 0, none⟩ = some (.int .i64 x) := World.rowIs.cell h (i := 0) (by omega)
theorem SpBox.c1 {w : World} {b : Nat} {x y : Int} (h : SpBox w b x y) : w.cell? ⟨b, 1, none⟩ = some (.int .i64 y) := World.rowIs.cell h (i := 1) (by omega)
theorem SpBox.free {w : World} {b : Nat} {x y : Int} (h : SpBox w b x y) (i : Nat) : w.frozen? ⟨b, i, none⟩ = false := World.rowIs.frozen h i
theorem SpBox.lt {w : World} {b : Nat} {x y : Int} (h : SpBox w b x y) : b < w.heap.size := World.rowIs.lt h
theorem SpBox.alloc {w : World} {b : Nat} {x y : Int} (h : SpBox w b x y) (o : Obj) : SpBox (w.alloc o) b x y := World.rowIs.alloc h o
theorem SpBox.drew {w : World} {b : Nat} {x y : Int} (h : SpBox w b x y) : SpBox w.drew b x y := h
theorem SpBox.below {w w' : World} {b : Nat} {x y : Int} (h : SpBox w b x y) (hb : Below w.heap.size w w') : SpBox w' b x y := World.rowIs.of_block h (hb.block b (World.rowIs.lt h))
theorem SpBox.new (w : World) (x y : Int) : SpBox (w.alloc (.cells #[.int .i64 x, .int .i64 y] 25)) w.heap.size x y :=
  World.rowIs_alloc w #[.int .i64 x, .int .i64 y] 25 (prF x y) (fun i hi => by
    match i, hi with
    | 0, _ => rfl
    | 1, _ => rfl)
theorem SpBox.other {w : World} {b : Nat} {x y : Int} (h : SpBox w b x y) {a : Addr} (ha : b ≠ a.block) (v : Value) : SpBox (w.setCell a v) b x y := World.rowIs.setOther h ha v
theorem SpBox.set {w : World} {b : Nat} {x y : Int} (h : SpBox w b x y) (u v : Int) : SpBox ((w.setCell ⟨b, 0, none⟩ (.int .i64 u)).setCell ⟨b, 1, none⟩ (.int .i64 v)) b u v :=
  ((World.rowIs.set h 0 (.int .i64 u)).set 1 (.int .i64 v)).congr (fun i hi => by
    match i, hi with
    | 0, _ => rfl
    | 1, _ => rfl)
theorem SpBox.set1 {w : World} {b : Nat} {x y : Int} (h : SpBox w b x y) (v : Int) : SpBox (w.setCell ⟨b, 1, none⟩ (.int .i64 v)) b x v :=
  (World.rowIs.set h 1 (.int .i64 v)).congr (fun i hi => by
    match i, hi with
    | 0, _ => rfl
    | 1, _ => rfl)

theorem SpBox.grown {w w' : World} {b : Nat} {x y : Int} (h : SpBox w b x y) {B : Nat} {e : TypeId} {size : Nat} {v : Value} {n : Nat} {xs : List Value} (hg : w.grownBy w' v.ownBlock) (ho : w.ownsRow B e size v n xs) (hb : b < B) : SpBox w' b x y :=
  World.rowIs.of_block h (hg.block b h.lt (fun e1 => by have := (ho.lt b e1.symm).1; omega))

end Go.Proofs.YtcopmgnfakjdhaaDoor
