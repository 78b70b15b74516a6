/- Itoa at this program, by its contract; the table that it reads, carried over calls. -/
import Derived.Test.YtdifeoahaegjbaaGreatDoorShelf
import Derived.Test.YtdifeoahaegjbaaGreatDoorRows
import Derived.Test.YtdifeoahaegjbaaGreatDoorBasic
import Derived.Lib.ItoaLen
import Derived.Lib.LaidTab
import Derived.Lib.AppendIntMem
namespace Go.Proofs.YtdifeoahaegjbaaGreatDoor
open Go.RowKit
set_option linter.unusedVariables false

/-- The table of the powers of ten stands. -/
def Tab (w : World) : Prop := Lib.TabIs Tryz.prog w "internal/strconv.uint64pow10" .u64 Lib.pow10Tab
theorem gTab : Tryz.prog.globalNamed "internal/strconv.uint64pow10" = some 1 := by kernel_rfl
theorem cell_lt {w : World} {a : Addr} {v : Value} (h : w.cell? a = some v) : a.block < w.heap.size := by
  rcases Nat.lt_or_ge a.block w.heap.size with h' | h'
  · exact h'
  · simp [World.cell?, Array.getElem?_eq_none h'] at h
theorem Tab.below {w w' : World} (h : Tab w) (hb : Below w.heap.size w w') : Tab w' := by
  have hc := Lib.TabIs.cell h gTab 0 (by rw [Lib.pow10Tab_length]; omega)
  have hB := hb.block _ (cell_lt hc)
  unfold Tab Lib.TabIs World.var? at h ⊢
  rw [gTab] at h ⊢
  simp only [Option.bind_some] at h ⊢
  rw [hB]
  exact h
theorem Tab.drew {w : World} (h : Tab w) : Tab w.drew := h

theorem itoa_any (n : Int) (h0 : -9223372036854775808 ≤ n) (h1 : n ≤ 9223372036854775807) (w : World) (h : Tab w) :
    Calls Tryz.prog 18 #[.int .i64 n] w fun e w' => e = .returned (.string ⟨(Lib.itoa n).toArray⟩) ∧ Below w.heap.size w w' :=
  (Tryz.strconv_Itoa n h0 h1 w h).mono fun e w' ⟨he, k, os, hw⟩ => ⟨he, by rw [hw]; exact Go.Lib.below_grow _ w (Nat.le_refl _) k os⟩

/-- The same, the text under a name. -/
theorem itoa_as (n : Int) (s : ByteArray) (hs : Hid (s = ⟨(Lib.itoa n).toArray⟩)) (h0 : -9223372036854775808 ≤ n) (h1 : n ≤ 9223372036854775807) (w : World) (h : Tab w) :
    Calls Tryz.prog 18 #[.int .i64 n] w fun e w' => e = .returned (.string s) ∧ Below w.heap.size w w' := by
  rw [hs.out]; exact itoa_any n h0 h1 w h
theorem itoa_size (n : Int) (h0 : -9223372036854775808 ≤ n) (h1 : n ≤ 9223372036854775807) : (⟨(Lib.itoa n).toArray⟩ : ByteArray).size ≤ 21 := by
  have := Lib.itoa_length_le n h0 h1
  simpa [ByteArray.size] using this
/-- A sum of two short strings, under a name. -/
theorem cat_run (P : Program) (a b c : ByteArray) (h : c = a ++ b) (hl : a.size + b.size ≤ 9223372036854775807) : ∀ w : World, (Op.stringOp .add a b).run P w = .ok (.string c) w := fun w => by
  rw [h]; exact run_string_add_sum w a b hl
theorem cat_size {a b c : ByteArray} (h : c = a ++ b) : c.size = a.size + b.size := by rw [h]; exact ByteArray.size_append
theorem cat_list {a b c : ByteArray} (h : c = a ++ b) : c.data.toList = a.data.toList ++ b.data.toList := by rw [h]; simp

end Go.Proofs.YtdifeoahaegjbaaGreatDoor
