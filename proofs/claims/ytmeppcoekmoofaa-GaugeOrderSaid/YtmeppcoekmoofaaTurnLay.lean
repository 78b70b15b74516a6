/- Rows and numbers turned by t, in memory: what two appends have laid reads as the turned readings. -/
import Derived.Test.YtmeppcoekmoofaaOrderLaw
import Derived.Test.YtmeppcoekmoofaaFitRes
import Derived.Test.YtmeppcoekmoofaaGaugeLeast
namespace Go.Proofs.Ytmeppcoekmoofaa
open Go.RowKit
set_option linter.unusedSimpArgs false
set_option linter.unusedVariables false

/-- The list of the row headers. -/
def hdr (q n : Nat) (rb rc : Nat → Nat) : List Value := (List.range q).map fun x => .slice (some ⟨rb x, 0, none⟩) n (rc x)
theorem hdr_len (q n : Nat) (rb rc : Nat → Nat) : (hdr q n rb rc).length = q := by simp [hdr]
theorem turn_get {α : Type} (l : List α) (t k : Nat) (ht : t ≤ l.length) (hk : k < l.length) : (l.drop t ++ l.take t)[k]? = l[turnI l.length t k]? := by
  unfold turnI
  split
  · rw [List.getElem?_append_left (by simp; omega), List.getElem?_drop]
  · rw [List.getElem?_append_right (by simp; omega), List.getElem?_take, if_pos (by simp; omega)]
    simp
theorem turnI_lt {m t k : Nat} (ht : t ≤ m) (hk : k < m) : turnI m t k < m := by unfold turnI; split <;> omega
theorem GMat.turned {w w' : World} {ob oo m n g gc B : Nat} {rb rc : Nat → Nat} {R : Gm} (h : GMat w ob oo m n rb rc R) (t : Nat) (ht : t ≤ m) (hs : w.heap.size ≤ w'.heap.size)
    (hk : ∀ x, x < m → ∀ i, i < n → w'.cell? ⟨rb x, i, none⟩ = w.cell? ⟨rb x, i, none⟩)
    (hown : w'.ownsRow B 22 1 (.slice (some ⟨g, 0, none⟩) m gc) m ((hdr m n rb rc).drop t ++ (hdr m n rb rc).take t)) (hg : g < w'.heap.size) :
    GMat w' g 0 m n (fun k => rb (turnI m t k)) (fun k => rc (turnI m t k)) (fun k => R (turnI m t k)) := by
  refine ⟨fun k hk' => ?_, fun k hk' i hi => ?_, hg, fun k hk' => ?_, fun k hk' => ?_⟩
  · rw [Nat.zero_add, hown.cellAt k (by omega), turn_get _ _ _ (by rw [hdr_len]; omega) (by rw [hdr_len]; omega), hdr_len]
    have := turnI_lt ht hk'
    unfold hdr
    rw [List.getElem?_map, List.getElem?_range this]
    rfl
  · rw [hk _ (turnI_lt ht hk') i hi]; exact h.row _ (turnI_lt ht hk') i hi
  · exact Nat.lt_of_lt_of_le (h.ltR _ (turnI_lt ht hk')) hs
  · exact h.cap _ (turnI_lt ht hk')
/-- A list of numbers, turned, in a block of its own. -/
theorem flat_turned {w : World} {B q : Nat} {v : Value} (f : Nat → Int) (t : Nat) (ht : t ≤ q) (hown : w.ownsRow B 3 1 v q (((seg f 0 q).drop t ++ (seg f 0 q).take t).map (Value.int .i64))) :
    ∃ A cap, v = .slice A q cap ∧ FlatSl w 1 A q cap ((seg f 0 q).drop t ++ (seg f 0 q).take t) := own_flat hown
theorem turned_ix (f : Nat → Int) (q t k : Nat) (ht : t ≤ q) (hk : k < q) : ix ((seg f 0 q).drop t ++ (seg f 0 q).take t) k = f (turnI q t k) := by
  have h := ix_turn (seg f 0 q) t k (by rw [seg_len]; omega) (by rw [seg_len]; omega)
  rw [h, seg_len, ix_seg _ _ _ (turnI_lt ht hk)]
/-- The cells from place k on. -/
theorem lies_from {w : World} {b o N : Nat} {l : List Value} (hc : ∀ j, j < N → w.cell? ⟨b, o + j, none⟩ = l[j]?) (hl : l.length = N) (k : Nat) : ∀ j u, (l.drop k)[j]? = some u → w.cell? ⟨b, o + k + j, none⟩ = some u := by
  intro j u hu
  rw [List.getElem?_drop] at hu
  have hj : k + j < N := by
    apply Classical.byContradiction
    intro hno
    rw [List.getElem?_eq_none (by omega)] at hu
    simp at hu
  rw [Nat.add_assoc, hc _ hj, hu]
theorem lies_to {w : World} {b o N : Nat} {l : List Value} (hc : ∀ j, j < N → w.cell? ⟨b, o + j, none⟩ = l[j]?) (hl : l.length = N) (k : Nat) : ∀ j u, (l.take k)[j]? = some u → w.cell? ⟨b, o + j, none⟩ = some u := by
  intro j u hu
  rw [List.getElem?_take] at hu
  split at hu
  · have hj : j < N := by
      apply Classical.byContradiction
      intro hno
      rw [List.getElem?_eq_none (by omega)] at hu
      simp at hu
    rw [hc _ hj, hu]
  · simp at hu
theorem hdr_one (q n : Nat) (rb rc : Nat → Nat) : ∀ u ∈ hdr q n rb rc, u.oneCell' = true := fun u hu => by
  obtain ⟨x, _, rfl⟩ := List.mem_map.1 hu; rfl
theorem mem_drop' {α : Type} {l : List α} {k : Nat} {u : α} (h : u ∈ l.drop k) : u ∈ l := List.mem_of_mem_drop h
theorem mem_take' {α : Type} {l : List α} {k : Nat} {u : α} (h : u ∈ l.take k) : u ∈ l := List.mem_of_mem_take h

/-- The sums of the turned readings. -/
theorem gr_turned (R : Gm) (f : Nat → Int) (q t : Nat) (ht : t ≤ q) : gr (fun k => R (turnI q t k)) (ix ((seg f 0 q).drop t ++ (seg f 0 q).take t)) q = gr R (ix (seg f 0 q)) q := by
  have h := gr_turn R (ix (seg f 0 q)) q t ht
  rw [← h]
  funext i
  unfold gr
  exact sumTo_congr q (fun k hk => by show R (turnI q t k) i * _ = R (turnI q t k) i * ix (seg f 0 q) (turnI q t k); rw [turned_ix f q t k ht hk, ix_seg f q _ (turnI_lt ht hk)])
theorem turned_len (f : Nat → Int) (q t : Nat) (ht : t ≤ q) : ((seg f 0 q).drop t ++ (seg f 0 q).take t).length = q := by
  rw [List.length_append, List.length_drop, List.length_take, seg_len]; omega

end Go.Proofs.Ytmeppcoekmoofaa
