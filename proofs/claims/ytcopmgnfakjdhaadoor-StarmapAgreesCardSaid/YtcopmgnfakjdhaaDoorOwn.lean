/- What a call owns, over calls that leave old memory alone; read as a slice that came in. -/
import Derived.Test.YtcopmgnfakjdhaaDoorOpen
namespace Go.Proofs.YtcopmgnfakjdhaaDoor
open Go.RowKit
set_option linter.unusedVariables false

theorem below_grown {w w' : World} (hb : Below w.heap.size w w') : w.grownBy w' none := ⟨hb.os, hb.tape, hb.output, hb.size, fun k hk _ => hb.block k hk⟩
theorem own_below {w w' : World} {base : Nat} {e : TypeId} {size : Nat} {v : Value} {n : Nat} {xs : List Value} (h : w.ownsRow base e size v n xs) (hb : Below w.heap.size w w') : w'.ownsRow base e size v n xs :=
  h.kept (below_grown hb) (by cases hv : v.ownBlock <;> simp)
/-- Behind an append: what had come from w still stands. -/
theorem below_grew {w W W' : World} {e : TypeId} {size : Nat} {v : Value} {n : Nat} {xs : List Value} (hb : Below w.heap.size w W) (hg : W.grownBy W' v.ownBlock) (h : W.ownsRow w.heap.size e size v n xs) : Below w.heap.size w W' :=
  hb.grown hg hb.size (fun q hq => (h.lt q hq).1)
theorem cells_two {w : World} {x y : Value} {t : TypeId} : ∀ j u, [x, y][j]? = some u → (w.alloc (.cells #[x, y] t)).cell? ((⟨w.heap.size, 0, none⟩ : Addr).add j) = some u := by
  intro j u hj
  match j, hj with
  | 0, hj => simp at hj; subst hj; simp [Addr.add]
  | 1, hj => simp at hj; subst hj; simp [Addr.add]
theorem cells_four {w : World} {x y z q : Value} {t : TypeId} : ∀ j u, [x, y, z, q][j]? = some u → (w.alloc (.cells #[x, y, z, q] t)).cell? ((⟨w.heap.size, 0, none⟩ : Addr).add j) = some u := by
  intro j u hj
  match j, hj with
  | 0, hj => simp at hj; subst hj; simp [Addr.add]
  | 1, hj => simp at hj; subst hj; simp [Addr.add]
  | 2, hj => simp at hj; subst hj; simp [Addr.add]
  | 3, hj => simp at hj; subst hj; simp [Addr.add]
theorem cells_one {w : World} {x : Value} {t : TypeId} : ∀ j u, [x][j]? = some u → (w.alloc (.cells #[x] t)).cell? ((⟨w.heap.size, 0, none⟩ : Addr).add j) = some u := by
  intro j u hj
  match j, hj with
  | 0, hj => simp at hj; subst hj; simp [Addr.add]
theorem ints_cells {zs : List Int} {k : IntKind} : ∀ u, u ∈ zs.map (Value.int k) → u.cells = #[u] := by
  intro u hu
  obtain ⟨z, _, rfl⟩ := List.mem_map.1 hu
  rfl

/-- What a call owns, read as a slice that came in. -/
theorem own_flat {w : World} {base : Nat} {e : TypeId} {sz : Nat} {v : Value} {n : Nat} {zs : List Int} (h : w.ownsRow base e sz v n (zs.map (Value.int .i64))) :
    ∃ A cap, v = .slice A n cap ∧ FlatSl w sz A n cap zs := by
  obtain ⟨hl, h2⟩ := id h
  have hl' : zs.length = n * sz := by simpa using hl
  rcases h2 with ⟨rfl, rfl⟩ | ⟨g, cap, cur, rfl, hb, hg, hn, hc, hs, ht⟩
  · exact ⟨none, 0, rfl, ⟨by omega, by simp [maxLen], hl', fun h => absurd h (by omega)⟩⟩
  · refine ⟨_, cap, rfl, ⟨hn, hc, hl', fun h0 => ⟨g, 0, rfl, fun j hj => ?_⟩⟩⟩
    have := h.cellAt j hj
    rw [Nat.zero_add, this]
    rw [List.getElem?_map, List.getElem?_eq_getElem (by omega)]
    simp [ix, List.getD, List.getElem?_eq_getElem (show j < zs.length by omega)]

end Go.Proofs.YtcopmgnfakjdhaaDoor
