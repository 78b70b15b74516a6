/- The contracts of contradict.fails and contradict.without. -/
import Derived.Test.YtmeppcoekmoofaaDelete
namespace Go.Proofs.Ytmeppcoekmoofaa
open Go.RowKit
set_option linter.unusedSimpArgs false
set_option linter.unusedVariables false

/-- The numbers without those of the k-th constraint. -/
def strike (zs : List Int) (k : Nat) : List Int := zs.take (k * 4) ++ zs.drop ((k + 1) * 4)
theorem ix_strike (zs : List Int) (k j : Nat) (hk : (k + 1) * 4 ≤ zs.length) : ix (strike zs k) j = if j < k * 4 then ix zs j else ix zs (j + 4) := by
  simp only [ix, strike, List.getD_eq_getElem?_getD]
  split
  · rename_i h
    rw [List.getElem?_append_left (by rw [List.length_take]; omega), List.getElem?_take, if_pos h]
  · rename_i h
    rw [List.getElem?_append_right (by rw [List.length_take]; omega), List.length_take, Nat.min_eq_left (by omega), List.getElem?_drop, show (k + 1) * 4 + (j - k * 4) = j + 4 by omega]
theorem bds_strike (zs : List Int) (k r : Nat) (h : zs.length = (k + 1 + r) * 4) : bds (strike zs k) (k + r) = (bds zs (k + 1 + r)).eraseIdx k := by
  apply List.ext_getElem?
  intro j
  rw [List.getElem?_eraseIdx]
  have hb : ∀ (ys : List Int) (m i : Nat), (bds ys m)[i]? = if i < m then some (bdAt ys i) else none := by
    intro ys m i
    unfold bds
    rw [List.getElem?_map]
    by_cases hi : i < m
    · rw [List.getElem?_range hi, if_pos hi]; rfl
    · rw [List.getElem?_eq_none (by simp; omega), if_neg hi]; rfl
  rw [hb, hb, hb]
  by_cases h1 : j < k
  · rw [if_pos (by omega), if_pos h1, if_pos (by omega)]
    congr 1
    unfold bdAt
    rw [ix_strike zs k _ (by omega), ix_strike zs k _ (by omega), ix_strike zs k _ (by omega), ix_strike zs k _ (by omega), if_pos (by omega), if_pos (by omega), if_pos (by omega), if_pos (by omega)]
  · rw [if_neg h1]
    by_cases h2 : j < k + r
    · rw [if_pos h2, if_pos (by omega)]
      congr 1
      unfold bdAt
      rw [ix_strike zs k _ (by omega), ix_strike zs k _ (by omega), ix_strike zs k _ (by omega), ix_strike zs k _ (by omega), if_neg (by omega), if_neg (by omega), if_neg (by omega), if_neg (by omega)]
      rw [show (j + 1) * 4 = j * 4 + 4 by omega, show j * 4 + 4 + 1 = j * 4 + 1 + 4 by omega, show j * 4 + 4 + 2 = j * 4 + 2 + 4 by omega, show j * 4 + 4 + 3 = j * 4 + 3 + 4 by omega]
    · rw [if_neg h2, if_neg (by omega)]

def FailsPost (N : Nat) (l : List Bd) (w : World) (e : Ending) (w' : World) : Prop :=
  Below w.heap.size w w' ∧ ((Free N l ∧ e = .returned (.bool false)) ∨ (¬ Free N l ∧ e = .returned (.bool true)))

set_option maxHeartbeats 1000000 in
theorem fails_ok (A : Option Addr) (m cap : Nat) (zs : List Int) (N : Nat) (w : World) (h : FlatSl w 4 A m cap zs) (hC : ChronOk N (bds zs m)) :
    Calls Try.prog 56 #[.int .i64 N, .slice A m cap] w (FailsPost N (bds zs m) w) := by
  have HZ := Lib.hid (chronChk_zero.2 hC)
  have H := Lib.hid h; clear h hC
  go_enter Try.func56, Try.ntmps56
  go_wp2_with fail
  refine Calls.mono (tightest_any _ _ _ _ (N : Nat) _ H.out) ?_
  rintro e w1 ⟨hb1, ⟨N', hN, -, hf, ob, oc, rb, rc, rfl, hcap, hT⟩ | ⟨N', hN, -, hbad, rfl⟩ | ⟨hbad, -⟩⟩
  · obtain rfl : N' = N := by omega
    have HF := Lib.hid hf
    clear hT hf
    go_wp2_with fail
    go_returns
    exact ⟨hb1, Or.inl ⟨HF.out, rfl⟩⟩
  · obtain rfl : N' = N := by omega
    have HF := Lib.hid hbad; clear hbad
    go_wp2_with fail
    go_returns
    exact ⟨hb1, Or.inr ⟨HF.out, rfl⟩⟩
  · exact absurd HZ.out hbad

def WithoutPost (m k : Nat) (zs : List Int) (w : World) (e : Ending) (w' : World) : Prop :=
  ∃ g cap, e = .returned (.slice (some ⟨g, 0, none⟩) m cap) ∧ w.heap.size ≤ g ∧ w'.ownsRow w.heap.size 64 4 (.slice (some ⟨g, 0, none⟩) m cap) m ((strike zs k).map (Value.int .i64)) ∧ Below w.heap.size w w'

set_option maxHeartbeats 1000000 in
theorem without_ok (A : Option Addr) (k r cap : Nat) (zs : List Int) (w : World) (h : FlatSl w 4 A (k + 1 + r) cap zs) (hn : k + 1 + r ≤ 1000) :
    Calls Try.prog 58 #[.slice A (k + 1 + r) cap, .int .i64 k] w (WithoutPost (k + r) k zs w) := by
  have H := Lib.hid h; clear h
  go_enter Try.func58, Try.ntmps58
  go_wp2_with fail
  refine Calls.mono (clone_any _ _ _ _ _ H.out (by omega)) ?_
  rintro e w1 ⟨v, rfl, hown, hb1⟩
  obtain ⟨g, gc, hv, hg1, hg2⟩ := hown.form (by omega)
  subst hv
  have HO := Lib.hid hown; clear hown
  go_wp2_with fail
  refine Calls.mono (delete_one w.heap.size g gc k r zs _ HO.out (by omega)) ?_
  rintro e w2 ⟨rfl, hown2, hgr⟩
  have hb2 := hb1.grown hgr hb1.size (fun q hq => by cases hq; exact hg1)
  have HO2 := Lib.hid hown2; clear hown2 hgr
  go_wp2_with fail
  go_returns
  exact ⟨g, gc, rfl, hg1, HO2.out, hb2⟩

end Go.Proofs.Ytmeppcoekmoofaa
