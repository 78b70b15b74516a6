/- What a call owns, over calls that leave old memory alone; read as a slice that came in. -/
import Derived.Test.YtaemgglkdeklmaaOpen
namespace Go.Proofs.Ytaemgglkdeklmaa
open Go.RowKit
set_option linter.unusedVariables false

theorem below_grown {w w' : World} (hb : Below w.heap.size w w') : w.grownBy w' none := ⟨hb.os, hb.tape, hb.output, hb.size, fun k hk _ => hb.block k hk⟩
theorem own_below {w w' : World} {base : Nat} {e : TypeId} {size : Nat} {v : Value} {n : Nat} {xs : List Value} (h : w.ownsRow base e size v n xs) (hb : Below w.heap.size w w') : w'.ownsRow base e size v n xs :=
  h.kept (below_grown hb) (by cases hv : v.ownBlock <;> simp)
/-- Behind an append: what had come from w still stands. -/
theorem below_grew {w W W' : World} {e : TypeId} {size : Nat} {v : Value} {n : Nat} {xs : List Value} (hb : Below w.heap.size w W) (hg : W.grownBy W' v.ownBlock) (h : W.ownsRow w.heap.size e size v n xs) : Below w.heap.size w W' :=
  hb.grown hg hb.size (fun q hq => (h.lt q hq).1)
theorem cells_two {w : World} {x y : Value} {t : TypeId} : ∀ j u, [x, y][j]? = some u → (w.alloc (.cells #[x, y] t)).cell? ((⟨w.heap.size, 0, none⟩ : Addr).add j) = some u := by
  intro j u hj
  match j, hj with
  | 0, hj => simp at hj; subst hj; simp [Addr.add]
  | 1, hj => simp at hj; subst hj; simp [Addr.add]
theorem cells_four {w : World} {x y z q : Value} {t : TypeId} : ∀ j u, [x, y, z, q][j]? = some u → (w.alloc (.cells #[x, y, z, q] t)).cell? ((⟨w.heap.size, 0, none⟩ : Addr).add j) = some u := by
  intro j u hj
  match j, hj with
  | 0, hj => simp at hj; subst hj; simp [Addr.add]
  | 1, hj => simp at hj; subst hj; simp [Addr.add]
  | 2, hj => simp at hj; subst hj; simp [Addr.add]
  | 3, hj => simp at hj; subst hj; simp [Addr.add]
theorem cells_one {w : World} {x : Value} {t : TypeId} : ∀ j u, [x][j]? = some u → (w.alloc (.cells #[x] t)).cell? ((⟨w.heap.size, 0, none⟩ : Addr).add j) = some u := by
  intro j u hj
  match j, hj with
  | 0, hj => simp at hj; subst hj; simp [Addr.add]
theorem ints_cells {zs : List Int} {k : IntKind} : ∀ u, u ∈ zs.map (Value.int k) → u.cells = #[u] := by
  intro u hu
  obtain ⟨z, _, rfl⟩ := List.mem_map.1 hu
  rfl

end Go.Proofs.Ytaemgglkdeklmaa
