/- What ContradictNeeded lays: the constraints of Least but for one. Plain. -/
import Derived.Test.YtmeppcoekmoofaaContraWorks
namespace Go.Proofs.Ytmeppcoekmoofaa
open Go.RowKit
set_option linter.unusedSimpArgs false
set_option linter.unusedVariables false

def needNums (zs : List Int) (out : List Nat) (s : Nat) : Nat → List Int
  | 0 => []
  | k + 1 => if k + 1 = s then needNums zs out s k else needNums zs out s k ++ [ix zs (out.getD k 0 * 4), ix zs (out.getD k 0 * 4 + 1), ix zs (out.getD k 0 * 4 + 2), ix zs (out.getD k 0 * 4 + 3)]
def needCnt (s : Nat) : Nat → Nat
  | 0 => 0
  | k + 1 => if k + 1 = s then needCnt s k else needCnt s k + 1
def needL (l : List Bd) (out : List Nat) (s : Nat) : Nat → List Bd
  | 0 => []
  | k + 1 => if k + 1 = s then needL l out s k else needL l out s k ++ [l.getD (out.getD k 0) ⟨0, 0, 0, 0⟩]
theorem needCnt_le (s k : Nat) : needCnt s k ≤ k := by
  induction k with
  | zero => exact Nat.le_refl _
  | succ k ih => unfold needCnt; split <;> omega
theorem needNums_len (zs : List Int) (out : List Nat) (s k : Nat) : (needNums zs out s k).length = needCnt s k * 4 := by
  induction k with
  | zero => rfl
  | succ k ih =>
    unfold needNums needCnt
    split
    · exact ih
    · rw [List.length_append, ih]; simp; omega
theorem bds_snoc (ys : List Int) (m : Nat) (a b c d : Int) (h : ys.length = m * 4) : bds (ys ++ [a, b, c, d]) (m + 1) = bds ys m ++ [⟨a, b, c, d⟩] := by
  unfold bds
  rw [List.range_succ, List.map_append]
  congr 1
  · apply List.map_congr_left
    intro j hj
    have hj := List.mem_range.1 hj
    unfold bdAt
    simp only [ix, List.getD_eq_getElem?_getD]
    rw [List.getElem?_append_left (by omega), List.getElem?_append_left (by omega), List.getElem?_append_left (by omega), List.getElem?_append_left (by omega)]
  · simp only [List.map_cons, List.map_nil, bdAt, ix, List.getD_eq_getElem?_getD]
    rw [List.getElem?_append_right (by omega), List.getElem?_append_right (by omega), List.getElem?_append_right (by omega), List.getElem?_append_right (by omega), h]
    simp [Nat.add_sub_cancel_left]
theorem bds_getD (zs : List Int) (m x : Nat) (hx : x < m) : (bds zs m).getD x ⟨0, 0, 0, 0⟩ = ⟨ix zs (x * 4), ix zs (x * 4 + 1), ix zs (x * 4 + 2), ix zs (x * 4 + 3)⟩ := by
  unfold bds
  rw [List.getD_eq_getElem?_getD, List.getElem?_map, List.getElem?_range hx]
  rfl
theorem need_bds (zs : List Int) (m : Nat) (out : List Nat) (s k : Nat) (hlt : ∀ x, x ∈ out → x < m) (hk : k ≤ out.length) : bds (needNums zs out s k) (needCnt s k) = needL (bds zs m) out s k := by
  induction k with
  | zero => rfl
  | succ k ih =>
    unfold needNums needCnt needL
    split
    · exact ih (by omega)
    · rw [bds_snoc _ _ _ _ _ _ (needNums_len zs out s k), ih (by omega)]
      congr 2
      have hx : out.getD k 0 < m := hlt _ (by rw [List.getD_eq_getElem?_getD, List.getElem?_eq_getElem (by omega)]; exact List.getElem_mem _)
      exact (bds_getD zs m _ hx).symm
theorem pick_take (l : List Bd) (out : List Nat) (k : Nat) (hk : k < out.length) : (pick l out).take (k + 1) = (pick l out).take k ++ [l.getD (out.getD k 0) ⟨0, 0, 0, 0⟩] := by
  rw [List.take_add_one]
  congr 1
  unfold pick
  rw [List.getElem?_map, List.getElem?_eq_getElem hk, List.getD_eq_getElem?_getD (l := out), List.getElem?_eq_getElem hk]
  rfl
theorem needL_zero (l : List Bd) (out : List Nat) (k : Nat) (hk : k ≤ out.length) : needL l out 0 k = (pick l out).take k := by
  induction k with
  | zero => rfl
  | succ k ih => unfold needL; rw [if_neg (by omega), ih (by omega), pick_take l out k (by omega)]
theorem needL_succ (l : List Bd) (out : List Nat) (t k : Nat) (hk : k ≤ out.length) : needL l out (t + 1) k = ((pick l out).take k).eraseIdx t := by
  induction k with
  | zero => simp [needL]
  | succ k ih =>
    have hlen : ((pick l out).take k).length = k := by rw [List.length_take, pick_len]; omega
    unfold needL
    rw [pick_take l out k (by omega), ih (by omega)]
    by_cases h1 : k = t
    · subst h1
      rw [if_pos rfl, List.eraseIdx_of_length_le (by omega), List.eraseIdx_append_of_length_le (by omega), hlen, Nat.sub_self]
      simp
    · rw [if_neg (by omega)]
      by_cases h2 : k < t
      · rw [List.eraseIdx_of_length_le (by omega), List.eraseIdx_of_length_le (by rw [List.length_append, hlen]; simp; omega)]
      · rw [List.eraseIdx_append_of_lt_length (by omega)]
theorem needL_mem (l : List Bd) (out : List Nat) (s k : Nat) (hlt : ∀ x, x ∈ out → x < l.length) (hk : k ≤ out.length) : ∀ c, c ∈ needL l out s k → c ∈ l := by
  induction k with
  | zero => simp [needL]
  | succ k ih =>
    intro c hc
    unfold needL at hc
    split at hc
    · exact ih (by omega) c hc
    · rcases List.mem_append.1 hc with h1 | h1
      · exact ih (by omega) c h1
      · have hx : out.getD k 0 < l.length := hlt _ (by rw [List.getD_eq_getElem?_getD, List.getElem?_eq_getElem (by omega)]; exact List.getElem_mem _)
        rw [List.mem_singleton.1 h1, List.getD_eq_getElem?_getD (l := l), List.getElem?_eq_getElem hx]
        exact List.getElem_mem _
theorem free_nil (n : Nat) : Free n [] := (sat_free (ds := fun _ => 0) (fun i j _ _ => by unfold far; omega) (by simp)).1

end Go.Proofs.Ytmeppcoekmoofaa
