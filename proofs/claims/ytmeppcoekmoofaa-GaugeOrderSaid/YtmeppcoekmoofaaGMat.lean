/- Slices of rows of integers, in memory: while they are laid; when they stand. The contract of det. -/
import Derived.Test.YtmeppcoekmoofaaOwn
import Derived.Test.YtmeppcoekmoofaaAppend
import Derived.Test.YtmeppcoekmoofaaGaugePlain
import Derived.Deep.RegionHeld3
import Derived.Deep.OwnRows
namespace Go.Proofs.Ytmeppcoekmoofaa
open Go.RowKit
set_option linter.unusedSimpArgs false
set_option linter.unusedVariables false

theorem at_addr (b o j : Nat) : (⟨b, o, none⟩ : Addr).add j = ⟨b, o + j, none⟩ := by unfold Addr.add; split <;> simp_all

/-- m rows of n integers that stand. -/
structure GMat (w : World) (ob oo m n : Nat) (rb rc : Nat → Nat) (R : Gm) : Prop where
  out : ∀ k, k < m → w.cell? ⟨ob, oo + k, none⟩ = some (.slice (some ⟨rb k, 0, none⟩) n (rc k))
  row : ∀ k, k < m → ∀ i, i < n → w.cell? ⟨rb k, i, none⟩ = some (.int .i64 (R k i))
  lt : ob < w.heap.size
  ltR : ∀ k, k < m → rb k < w.heap.size
  cap : ∀ k, k < m → n ≤ rc k
theorem GMat.below {w w' : World} {ob oo m n : Nat} {rb rc : Nat → Nat} {R : Gm} (h : GMat w ob oo m n rb rc R) (hb : Below w.heap.size w w') : GMat w' ob oo m n rb rc R :=
  ⟨fun k hk => (hb.cell (p := ⟨ob, oo + k, none⟩) h.lt).trans (h.out k hk), fun k hk i hi => (hb.cell (p := ⟨rb k, i, none⟩) (h.ltR k hk)).trans (h.row k hk i hi),
    Nat.lt_of_lt_of_le h.lt hb.size, fun k hk => Nat.lt_of_lt_of_le (h.ltR k hk) hb.size, h.cap⟩

/-- The first i rows of n integers have been laid; the list of the rows has its own block. -/
structure GLay (w : World) (B n i : Nat) (v : Value) (rb rc : Nat → Nat) (R : Gm) : Prop where
  own : w.ownsRow B 22 1 v i ((List.range i).map fun x => .slice (some ⟨rb x, 0, none⟩) n (rc x))
  row : ∀ x, x < i → ∀ j, j < n → w.cell? ⟨rb x, j, none⟩ = some (.int .i64 (R x j))
  ltR : ∀ x, x < i → rb x < w.heap.size
  ne : ∀ x q, x < i → v.ownBlock = some q → rb x ≠ q
  cap : ∀ x, x < i → n ≤ rc x
theorem GLay.start (w : World) (B n : Nat) (rb rc : Nat → Nat) (R : Gm) : GLay w B n 0 (.slice none 0 0) rb rc R :=
  ⟨World.ownsRow_nil _ _ _ _, fun x hx => absurd hx (by omega), fun x hx => absurd hx (by omega), fun x q hx => absurd hx (by omega), fun x hx => absurd hx (by omega)⟩
/-- Memory above Bi has changed, nothing below it. -/
theorem GLay.above {w w' : World} {B Bi n i : Nat} {v : Value} {rb rc : Nat → Nat} {R : Gm} (h : GLay w B n i v rb rc R) (hs : w.heap.size ≤ w'.heap.size) (hBi : ∀ b, b < Bi → w'.heap[b]? = w.heap[b]?) (hr : ∀ x, x < i → rb x < Bi) (ho : ∀ q, v.ownBlock = some q → q < Bi) : GLay w' B n i v rb rc R := by
  refine ⟨?_, fun x hx j hj => (World.cell?_of_block (w := w) (hBi _ (hr x hx))).trans (h.row x hx j hj), fun x hx => Nat.lt_of_lt_of_le (h.ltR x hx) hs, h.ne, h.cap⟩
  obtain ⟨h1, h2⟩ := h.own
  refine ⟨h1, h2.imp id ?_⟩
  rintro ⟨g, cap, cur, hv, hg, hc, r⟩
  refine ⟨g, cap, cur, hv, hg, ?_, r⟩
  rw [hBi g (ho g (by rw [hv]; rfl))]
  exact hc
theorem GLay.below {w w' : World} {B n i : Nat} {v : Value} {rb rc : Nat → Nat} {R : Gm} (h : GLay w B n i v rb rc R) (hb : Below w.heap.size w w') : GLay w' B n i v rb rc R :=
  h.above hb.size (fun b hb' => hb.block b hb') h.ltR (fun q hq => (h.own.lt q hq).2)

theorem GLay.step {w w' : World} {B n i g gc : Nat} {v v' : Value} {rb rc : Nat → Nat} {R : Gm} (hL : GLay w B n i v rb rc R) (hrow : ∀ j, j < n → w.cell? ⟨g, j, none⟩ = some (.int .i64 (R i j))) (hg2 : g < w.heap.size)
    (hgne : ∀ q, v.ownBlock = some q → g ≠ q) (hgc : n ≤ gc) (o : Obj) (hown' : w'.ownsRow B 22 1 v' (i + 1) (((List.range i).map fun x => .slice (some ⟨rb x, 0, none⟩) n (rc x)) ++ [.slice (some ⟨g, 0, none⟩) n gc]))
    (hg : (w.alloc o).grownBy w' v.ownBlock) (hat : v'.ownBlock = v.ownBlock ∨ v'.ownBlock = some (w.alloc o).heap.size) :
    GLay w' B n (i + 1) v' (fun x => if x = i then g else rb x) (fun x => if x = i then gc else rc x) R := by
  have keep : ∀ b, b < w.heap.size → (∀ q, v.ownBlock = some q → b ≠ q) → w'.heap[b]? = w.heap[b]? := fun b hb hne => by
    have h1 := hg.block b (by simp; omega) (fun e => hne b e.symm rfl)
    rw [h1]
    exact Below.heap_alloc w o b hb
  refine ⟨?_, fun x hx j hj => ?_, fun x hx => ?_, fun x q hx hq => ?_, fun x hx => ?_⟩
  · rw [List.range_succ, List.map_append]
    simp only [List.map_cons, List.map_nil, if_true]
    have e : (List.range i).map (fun x => Value.slice (some ⟨if x = i then g else rb x, 0, none⟩) n (if x = i then gc else rc x)) = (List.range i).map (fun x => Value.slice (some ⟨rb x, 0, none⟩) n (rc x)) := by
      apply List.map_congr_left
      intro x hx
      have : x ≠ i := by have := List.mem_range.1 hx; omega
      simp [this]
    rw [e]
    exact hown'
  · by_cases e : x = i
    · subst e
      simp only [if_true]
      exact (World.cell?_of_block (w := w) (keep g hg2 hgne)).trans (hrow j hj)
    · simp only [if_neg e]
      have hxi : x < i := by omega
      exact (World.cell?_of_block (w := w) (keep (rb x) (hL.ltR x hxi) (fun q hq => hL.ne x q hxi hq))).trans (hL.row x hxi j hj)
  · have hsz := hg.size
    simp at hsz
    by_cases e : x = i
    · simp only [if_pos e]; omega
    · simp only [if_neg e]
      have := hL.ltR x (by omega)
      omega
  · by_cases e : x = i
    · simp only [if_pos e]
      rcases hat with h | h
      · rw [h] at hq; exact hgne q hq
      · rw [h] at hq; simp at hq; omega
    · simp only [if_neg e]
      have hxi : x < i := by omega
      rcases hat with h | h
      · rw [h] at hq; exact hL.ne x q hxi hq
      · rw [h] at hq; simp at hq; have := hL.ltR x hxi; omega
  · by_cases e : x = i
    · simp only [if_pos e]; exact hgc
    · simp only [if_neg e]; exact hL.cap x (by omega)
/-- When the rows are laid they stand. -/
theorem GLay.mat {w : World} {B n i g gc : Nat} {rb rc : Nat → Nat} {R : Gm} (h : GLay w B n i (.slice (some ⟨g, 0, none⟩) i gc) rb rc R) : GMat w g 0 i n rb rc R := by
  refine ⟨fun k hk => ?_, h.row, (h.own.lt g rfl).2, h.ltR, h.cap⟩
  rw [Nat.zero_add, h.own.cellAt k (by omega), List.getElem?_map, List.getElem?_range hk]
  rfl

/-- Numbers in a row, from place a on. -/
def seg (f : Nat → Int) (a m : Nat) : List Int := (List.range m).map fun i => f (a + i)
theorem seg_len (f : Nat → Int) (a m : Nat) : (seg f a m).length = m := by simp [seg]
theorem seg_cells {w : World} {b n : Nat} {f : Nat → Int} (a m : Nat) (h : a + m ≤ n) (hc : ∀ i, i < n → w.cell? ⟨b, i, none⟩ = some (.int .i64 (f i))) :
    ∀ j u, ((seg f a m).map (Value.int .i64))[j]? = some u → w.cell? ((⟨b, a, none⟩ : Addr).add j) = some u := by
  intro j u hu
  rw [List.getElem?_map] at hu
  by_cases hj : j < m
  · unfold seg at hu
    rw [List.getElem?_map, List.getElem?_range hj] at hu
    simp only [Option.map_some, Option.some.injEq] at hu
    rw [at_addr, hc (a + j) (by omega), hu]
  · rw [List.getElem?_eq_none (by rw [seg_len]; omega)] at hu
    simp at hu
theorem seg_one (f : Nat → Int) (a m : Nat) : ∀ u ∈ (seg f a m).map (Value.int .i64), u.oneCell' = true := fun u hu => by
  obtain ⟨x, _, rfl⟩ := List.mem_map.1 hu; rfl
/-- A row without its k-th number. -/
theorem seg_two (f : Nat → Int) (N k j : Nat) (hk : k ≤ N) (hj : j < N) : ((([] : List Value) ++ (seg f 0 k).map (Value.int .i64)) ++ (seg f (k + 1) (N - k)).map (Value.int .i64))[j]? = some (.int .i64 (f (if j < k then j else j + 1))) := by
  rw [List.nil_append]
  by_cases h : j < k
  · rw [List.getElem?_append_left (by rw [List.length_map, seg_len]; exact h), if_pos h]
    unfold seg
    rw [List.getElem?_map, List.getElem?_map, List.getElem?_range h]
    simp
  · rw [List.getElem?_append_right (by rw [List.length_map, seg_len]; omega), if_neg h, List.length_map, seg_len]
    unfold seg
    rw [List.getElem?_map, List.getElem?_map, List.getElem?_range (by omega)]
    simp only [Option.map_some]
    rw [show k + 1 + (j - k) = j + 1 by omega]

end Go.Proofs.Ytmeppcoekmoofaa
