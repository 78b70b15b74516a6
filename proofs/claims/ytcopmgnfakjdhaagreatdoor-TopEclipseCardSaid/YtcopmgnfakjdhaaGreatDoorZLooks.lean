/- Merged by wip/tools/pack.py out of XLook, XHeight, XPlaceWorks. -/
import Derived.Test.YtcopmgnfakjdhaaGreatDoorZLookPs
import Derived.Test.YtcopmgnfakjdhaaGreatDoorZTrigA
/- place.look: the walk. -/
namespace Go.Proofs.YtcopmgnfakjdhaaGreatDoor
open Go.RowKit
set_option linter.unusedSimpArgs false
set_option linter.unusedVariables false
def PaBox (w : World) (b : Nat) : Prop := w.rowIs b 75 6 (fun _ => .int .i64 0)
theorem PaBox.c {w : World} {b : Nat} (h : PaBox w b) {i : Nat} (hi : i < 6) : w.cell? ⟨b, i, none⟩ = some (.int .i64 0) := World.rowIs.cell h (i := i) hi
theorem PaBox.free {w : World} {b : Nat} (h : PaBox w b) (i : Nat) : w.frozen? ⟨b, i, none⟩ = false := World.rowIs.frozen h i
theorem PaBox.lt {w : World} {b : Nat} (h : PaBox w b) : b < w.heap.size := World.rowIs.lt h
theorem PaBox.alloc {w : World} {b : Nat} (h : PaBox w b) (o : Obj) : PaBox (w.alloc o) b := World.rowIs.alloc h o
theorem PaBox.below {w w' : World} {b : Nat} (h : PaBox w b) (hb : Below w.heap.size w w') : PaBox w' b := World.rowIs.of_block h (hb.block b (World.rowIs.lt h))
theorem PaBox.new (w : World) : PaBox (w.alloc (.cells #[.int .i64 0, .int .i64 0, .int .i64 0, .int .i64 0, .int .i64 0, .int .i64 0] 75)) w.heap.size :=
  World.rowIs_alloc w #[.int .i64 0, .int .i64 0, .int .i64 0, .int .i64 0, .int .i64 0, .int .i64 0] 75 (fun _ => .int .i64 0) (fun i hi => by
    match i, hi with
    | 0, _ => rfl
    | 1, _ => rfl
    | 2, _ => rfl
    | 3, _ => rfl
    | 4, _ => rfl
    | 5, _ => rfl)
structure LkF (w0 w : World) (a b c d e q : Nat) (fl fh sdl sdh gl gh nl nh el eh : Int) : Prop where
  b1 : SpBox w a fl fh
  b2 : SpBox w b sdl sdh
  b3 : SpBox w c gl gh
  b4 : SpBox w d nl nh
  b5 : SpBox w e el eh
  pa : PaBox w q
  bl : Below w0.heap.size w0 w
theorem LkF.below {w0 w w' : World} {a b c d e q : Nat} {fl fh sdl sdh gl gh nl nh el eh : Int} (h : LkF w0 w a b c d e q fl fh sdl sdh gl gh nl nh el eh) (hb : Below w.heap.size w w') : LkF w0 w' a b c d e q fl fh sdl sdh gl gh nl nh el eh :=
  ⟨h.b1.below hb, h.b2.below hb, h.b3.below hb, h.b4.below hb, h.b5.below hb, h.pa.below hb, h.bl.trans (hb.mono h.bl.size)⟩
end Go.Proofs.YtcopmgnfakjdhaaGreatDoor
/- place.Height, place.Ground. -/
namespace Go.Proofs.YtcopmgnfakjdhaaGreatDoor
open Go.RowKit
set_option linter.unusedSimpArgs false
set_option linter.unusedVariables false
end Go.Proofs.YtcopmgnfakjdhaaGreatDoor
/- placeWorks, site. -/
namespace Go.Proofs.YtcopmgnfakjdhaaGreatDoor
open Go.RowKit
set_option linter.unusedSimpArgs false
set_option linter.unusedVariables false
end Go.Proofs.YtcopmgnfakjdhaaGreatDoor
