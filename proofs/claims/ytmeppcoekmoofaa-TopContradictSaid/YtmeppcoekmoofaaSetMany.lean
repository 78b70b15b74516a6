/- Several cells of a row that the call owns are written; a row is cut short. -/
import Derived.Test.YtmeppcoekmoofaaOwn
import Derived.Laws.OwnMore
import Derived.Laws.IdiomCopy
namespace Go.Proofs.Ytmeppcoekmoofaa
open Go.RowKit
set_option linter.unusedVariables false

def setMany (xs : List Value) (o : Nat) : List Value → List Value
  | [] => xs
  | v :: r => setMany (xs.set o v) (o + 1) r
theorem setMany_len (xs : List Value) (o : Nat) (vs : List Value) : (setMany xs o vs).length = xs.length := by
  induction vs generalizing xs o with
  | nil => rfl
  | cons v r ih => simp [setMany, ih]
theorem setMany_at (xs : List Value) (o : Nat) (vs : List Value) (j : Nat) (hj : j < xs.length) : (setMany xs o vs)[j]? = if o ≤ j ∧ j < o + vs.length then vs[j - o]? else xs[j]? := by
  induction vs generalizing xs o with
  | nil => simp [setMany]; intro h1 h2; omega
  | cons v r ih =>
    simp only [setMany]
    rw [ih (xs.set o v) (o + 1) (by simpa using hj)]
    by_cases h1 : o + 1 ≤ j ∧ j < o + 1 + r.length
    · rw [if_pos h1, if_pos (by simp; omega)]
      obtain ⟨k, hk⟩ : ∃ k, j - o = k + 1 := ⟨j - o - 1, by omega⟩
      rw [hk, List.getElem?_cons_succ, show j - (o + 1) = k by omega]
    · rw [if_neg h1]
      by_cases h2 : j = o
      · subst h2
        rw [if_pos (by simp), List.getElem?_set_self hj]
        simp
      · rw [if_neg (by simp; omega), List.getElem?_set_ne (by omega)]

theorem own_setCells {w : World} {base g n cap size : Nat} {e : TypeId} {xs : List Value} (h : w.ownsRow base e size (.slice (some ⟨g, 0, none⟩) n cap) n xs) (o : Nat) (vs : List Value) :
    (w.setCells g o vs).ownsRow base e size (.slice (some ⟨g, 0, none⟩) n cap) n (setMany xs o vs) ∧ w.grownBy (w.setCells g o vs) (some g) := by
  induction vs generalizing w o xs with
  | nil => exact ⟨h, ⟨rfl, rfl, rfl, Nat.le_refl _, fun _ _ _ => rfl⟩⟩
  | cons v r ih =>
    have h1 := h.stored o v
    have h2 := ih h1.1 (o + 1)
    refine ⟨h2.1, ?_⟩
    have a := h1.2
    have b := h2.2
    exact ⟨b.os.trans a.os, b.tape.trans a.tape, b.output.trans a.output, Nat.le_trans a.size b.size, fun k hk hne => (b.block k (Nat.lt_of_lt_of_le hk a.size) hne).trans (a.block k hk hne)⟩

theorem own_shrink {w : World} {base g n m cap size : Nat} {e : TypeId} {xs : List Value} (h : w.ownsRow base e size (.slice (some ⟨g, 0, none⟩) n cap) n xs) (hm : m ≤ n) :
    w.ownsRow base e size (.slice (some ⟨g, 0, none⟩) m cap) m (xs.take (m * size)) := by
  obtain ⟨h1, h2⟩ := h
  have hle : m * size ≤ n * size := Nat.mul_le_mul_right _ hm
  refine ⟨by rw [List.length_take, h1]; omega, ?_⟩
  rcases h2 with ⟨h2, _⟩ | ⟨g', cap', cur, h2, hb, hg, hn, hc, hs, ht⟩
  · cases h2
  · simp only [Value.slice.injEq, Option.some.injEq, Addr.mk.injEq, and_true, true_and] at h2
    obtain ⟨rfl, rfl⟩ := h2
    refine Or.inr ⟨g, cap, cur, rfl, hb, hg, by omega, hc, hs, ?_⟩
    rw [← ht, List.take_take, Nat.min_eq_left hle]

/-- One element is struck: those behind it are moved, the last place is cleared. -/
theorem struck (xs zs : List Value) (i r : Nat) (hx : xs.length = (i + 1 + r) * 4) :
    (setMany (setMany xs (i * 4) (xs.drop ((i + 1) * 4))) ((i + r) * 4) zs).take ((i + r) * 4) = xs.take (i * 4) ++ xs.drop ((i + 1) * 4) := by
  apply List.ext_getElem?
  intro j
  by_cases hj : j < (i + r) * 4
  · rw [List.getElem?_take, if_pos hj, setMany_at _ _ _ _ (by rw [setMany_len]; omega), if_neg (by omega), setMany_at _ _ _ _ (by omega)]
    have hd : (xs.drop ((i + 1) * 4)).length = r * 4 := by simp; omega
    by_cases h1 : j < i * 4
    · rw [if_neg (by omega), List.getElem?_append_left (by simp; omega), List.getElem?_take, if_pos h1]
    · rw [if_pos (by rw [hd]; omega), List.getElem?_append_right (by simp; omega), List.length_take, Nat.min_eq_left (by omega)]
  · rw [List.getElem?_eq_none (by simp; omega), List.getElem?_eq_none (by simp; omega)]

end Go.Proofs.Ytmeppcoekmoofaa
