/- shape: a figure with whole coordinates. -/
import Derived.Test.YtdifeoahaegjbaaGreatDoorFig
import Derived.Test.YtdifeoahaegjbaaGreatDoorApps
import Derived.Test.YtdifeoahaegjbaaGreatDoorReg
namespace Go.Proofs.YtdifeoahaegjbaaGreatDoor
open Go.RowKit
set_option linter.unusedSimpArgs false
set_option linter.unusedVariables false

theorem below_grow {B : Nat} {w w1 w2 : World} {r : Option Nat} (hb : Below B w w1) (hs : B ≤ w.heap.size) (hg : w1.grownBy w2 r) (hr : ∀ q, r = some q → B ≤ q) : Below B w w2 :=
  ⟨hg.os.trans hb.os, hg.tape.trans hb.tape, hg.output.trans hb.output, by have := hg.size; have := hb.size; omega, fun k hk => (hg.block k (by have := hb.size; omega) (fun e => by have := hr k e.symm; omega)).trans (hb.block k hk)⟩
theorem below_grownR {w w' : World} (hb : Below w.heap.size w w') (r : Option Nat) : w.grownBy w' r := ⟨hb.os, hb.tape, hb.output, hb.size, fun k hk _ => hb.block k hk⟩
theorem FgBox.grown {w w' : World} {b : Nat} {u v : Value} {r : Option Nat} (h : FgBox w b u v) (hg : w.grownBy w' r) (hr : some b ≠ r) : FgBox w' b u v := World.rowIs.of_block h (hg.block b h.lt hr)
theorem infoPt : (Tryz.prog.info? 33).map (fun i => (i.zero, i.size, i.bytes)) = some (some (.agg #[.int .i64 0, .int .i64 0, .int .i64 0, .int .i64 0]), 4, 32) := by kernel_rfl

theorem setCell_grown (w : World) (b o : Nat) (v : Value) : w.grownBy (w.setCell ⟨b, o, none⟩ v) (some b) :=
  ⟨rfl, rfl, rfl, by simp, fun k _ hne => Go.Deep.blk_setCell_other _ _ _ _ (fun e => hne (by rw [e]))⟩
theorem own_flat_of {w : World} {base : Nat} {e : TypeId} {sz n cap : Nat} {A : Option Addr} {zs : List Int} (h : w.ownsRow base e sz (.slice A n cap) n (zs.map (Value.int .i64))) : FlatSl w sz A n cap zs := by
  obtain ⟨A', cap', h1, h2⟩ := own_flat h
  injection h1 with h3 _ h4
  rw [h3, h4]; exact h2
theorem own_set {w : World} {base b o : Nat} {e : TypeId} {sz n : Nat} {v x : Value} {xs : List Value} (h : w.ownsRow base e sz v n xs) (hb : b < base) : (w.setCell ⟨b, o, none⟩ x).ownsRow base e sz v n xs :=
  h.kept (row := some b) (setCell_grown w b o x) (by
    cases hv : v.ownBlock with
    | none => simp
    | some q => exact .inr (fun e => by have := (h.lt q hv).1; have := Option.some.inj e; omega))

/-- The numbers of the first k points. -/
def ptNums (X Y : Nat → Int) : Nat → List Int
  | 0 => []
  | k + 1 => ptNums X Y k ++ [X k, 1, Y k, 1]
theorem ptNums_len (X Y : Nat → Int) (k : Nat) : (ptNums X Y k).length = k * 4 := by
  induction k with
  | zero => rfl
  | succ k ih => unfold ptNums; rw [List.length_append, ih]; simp; omega
def shX (xs : List Int) (i : Nat) : Int := (ix xs i).tmod 1000
abbrev shNums (xs ys : List Int) (k : Nat) : List Int := ptNums (shX xs) (shX ys) k
theorem ix_left {l m : List Int} {j : Nat} (h : j < l.length) : ix (l ++ m) j = ix l j := by unfold ix; rw [List.getD_eq_getElem?_getD, List.getD_eq_getElem?_getD, List.getElem?_append_left h]
theorem ix_right {l m : List Int} {j : Nat} (k : Nat) (h : j = l.length + k) : ix (l ++ m) j = ix m k := by
  subst h
  unfold ix; rw [List.getD_eq_getElem?_getD, List.getD_eq_getElem?_getD, List.getElem?_append_right (by omega), Nat.add_sub_cancel_left]
/-- All coordinates are whole. -/
def WholeN (zs : List Int) (n : Nat) (X Y : Nat → Int) : Prop := ∀ i, i < n → ix zs (i * 4) = X i ∧ ix zs (i * 4 + 1) = 1 ∧ ix zs (i * 4 + 2) = Y i ∧ ix zs (i * 4 + 3) = 1
theorem ptNums_at (X Y : Nat → Int) (n : Nat) : WholeN (ptNums X Y n) n X Y := by
  intro i h
  induction n with
  | zero => omega
  | succ n ih =>
    have hl := ptNums_len X Y n
    unfold ptNums
    by_cases e : i = n
    · subst e
      exact ⟨ix_right 0 (by omega), ix_right 1 (by omega), ix_right 2 (by omega), ix_right 3 (by omega)⟩
    · obtain ⟨h0, h1, h2, h3⟩ := ih (by omega)
      exact ⟨(ix_left (by omega)).trans h0, (ix_left (by omega)).trans h1, (ix_left (by omega)).trans h2, (ix_left (by omega)).trans h3⟩
theorem tmod_lim (x : Int) : -1000 < x.tmod 1000 ∧ x.tmod 1000 < 1000 := ⟨Int.lt_tmod_of_pos _ (by omega), Int.tmod_lt_of_pos _ (by omega)⟩
def shN (a b : Nat) : Nat := min (min a b) 20
def ShapePost (xs ys : List Int) (n : Nat) (w : World) (e : Ending) (w' : World) : Prop :=
  ∃ A c B m bc, e = .returned (.agg #[.slice A n c, .slice B m bc]) ∧ FigW w' A n c (shNums xs ys n) B m bc ∧ (m = if 1 < n then 1 else 0) ∧ Below w.heap.size w w'

end Go.Proofs.YtdifeoahaegjbaaGreatDoor
