/- The contract of chron.Check. -/
import Derived.Test.YtmeppcoekmoofaaChronPlain
import Derived.Test.YtmeppcoekmoofaaOwn
import Derived.Test.YtmeppcoekmoofaaAt
namespace Go.Proofs.Ytmeppcoekmoofaa
open Go.RowKit
set_option linter.unusedSimpArgs false
set_option linter.unusedVariables false

theorem FlatSl.keepC {w w' : World} {sz n cap : Nat} {A : Option Addr} {zs : List Int} (h : FlatSl w sz A n cap zs) (hsz : 0 < sz) (hb : Below w.heap.size w w') : FlatSl w' sz A n cap zs := by
  obtain ⟨h1, h2, h3, h4⟩ := h
  refine ⟨h1, h2, h3, fun hn => ?_⟩
  obtain ⟨b, off, rfl, hc⟩ := h4 hn
  have hlt := World.block_lt_of_cell? w _ (hc 0 (Nat.mul_pos hn hsz))
  exact ⟨b, off, rfl, fun j hj => (hb.cell (p := ⟨b, off + j, none⟩) hlt).trans (hc j hj)⟩

def bdAt (zs : List Int) (j : Nat) : Bd := ⟨ix zs (j * 4), ix zs (j * 4 + 1), ix zs (j * 4 + 2), ix zs (j * 4 + 3)⟩
def bds (zs : List Int) (m : Nat) : List Bd := (List.range m).map (bdAt zs)
theorem bds_len (zs : List Int) (m : Nat) : (bds zs m).length = m := by simp [bds]
theorem bds_succ (zs : List Int) (m : Nat) : bds zs (m + 1) = bds zs m ++ [bdAt zs m] := by simp [bds, List.range_succ]
theorem mem_bds {zs : List Int} {m : Nat} {c : Bd} : c ∈ bds zs m ↔ ∃ j, j < m ∧ c = bdAt zs j := by
  simp only [bds, List.mem_map, List.mem_range]
  exact ⟨fun ⟨j, h1, h2⟩ => ⟨j, h1, h2.symm⟩, fun ⟨j, h1, h2⟩ => ⟨j, h1, h2.symm⟩⟩
theorem initM_succ (zs : List Int) (m : Nat) : initM (bds zs (m + 1)) = addB (initM (bds zs m)) (bdAt zs m) := by
  rw [bds_succ]; unfold initM; rw [List.foldl_append]; rfl

theorem firstBad_append (n : Int) (l : List Bd) (c : Bd) (t : List Bd) (h : firstBad n l = 0) : firstBad n (l ++ c :: t) = if chkB n c = 0 then firstBad n t else chkB n c := by
  induction l with
  | nil => rfl
  | cons d l ih =>
    simp only [firstBad] at h ⊢
    rw [List.cons_append]
    simp only [firstBad]
    split at h
    · rename_i h0; rw [if_pos h0]; exact ih h
    · rename_i h0; exact absurd h h0
theorem bds_split (zs : List Int) (m k : Nat) (h : k < m) : ∃ t, bds zs m = bds zs k ++ bdAt zs k :: t := by
  induction m with
  | zero => omega
  | succ m ih =>
    rcases Nat.lt_or_eq_of_le (Nat.le_of_lt_succ h) with h1 | rfl
    · obtain ⟨t, ht⟩ := ih h1
      exact ⟨t ++ [bdAt zs m], by rw [bds_succ, ht]; simp⟩
    · exact ⟨[], bds_succ zs k⟩

/-- What a round at the k-th constraint reads. -/
theorem bd_cells {w wr : World} {b off m : Nat} {zs : List Int} {k : Nat} (hcell : ∀ j, j < m * 4 → w.cell? ⟨b, off + j, none⟩ = some (.int .i64 (ix zs j))) (hb : b < w.heap.size) (hbw : Below w.heap.size w wr) (hlt : k < m) :
    wr.cell? ⟨b, off + k * 4, none⟩ = some (.int .i64 (bdAt zs k).a) ∧ wr.cell? ⟨b, off + k * 4 + 1, none⟩ = some (.int .i64 (bdAt zs k).b) ∧ wr.cell? ⟨b, off + k * 4 + 2, none⟩ = some (.int .i64 (bdAt zs k).lo) ∧ wr.cell? ⟨b, off + k * 4 + 3, none⟩ = some (.int .i64 (bdAt zs k).hi) ∧ b < wr.heap.size :=
  ⟨(hbw.cell (p := ⟨b, off + k * 4, none⟩) hb).trans (hcell _ (by omega)), (hbw.cell (p := ⟨b, off + k * 4 + 1, none⟩) hb).trans (hcell (k * 4 + 1) (by omega)), (hbw.cell (p := ⟨b, off + k * 4 + 2, none⟩) hb).trans (hcell (k * 4 + 2) (by omega)), (hbw.cell (p := ⟨b, off + k * 4 + 3, none⟩) hb).trans (hcell (k * 4 + 3) (by omega)), Nat.lt_of_lt_of_le hb hbw.size⟩

set_option maxRecDepth 100000 in
set_option maxHeartbeats 8000000 in
theorem chronCheck_any (A : Option Addr) (m cap : Nat) (zs : List Int) (n : Int) (w : World) (h : FlatSl w 4 A m cap zs) :
    Calls Try.prog 46 #[.int .i64 n, .slice A m cap] w fun e w' => e = .returned (.int .i64 (chronChk n (bds zs m))) ∧ Below w.heap.size w w' := by
  obtain ⟨hle, hmost, hlen, hat⟩ := h
  have HL := Lib.hid hlen; clear hlen
  by_cases big : 12 < n ∨ 40 < m
  · have hv : chronChk n (bds zs m) = 2 := by unfold chronChk; rw [bds_len, if_pos big]
    have HV := Lib.hid hv; clear hv
    rw [HV.out]
    by_cases b1 : 12 < n
    · clear big
      go_enter Try.func46, Try.ntmps46
      go_wp2_with fail
      go_returns
      exact ⟨rfl, Below.refl _ _⟩
    · have b2 : (40 : Int) < (m : Int) := by omega
      clear big
      go_enter Try.func46, Try.ntmps46
      go_wp2_with fail
      go_returns
      exact ⟨rfl, Below.refl _ _⟩
  · have b1 : n ≤ 12 := by omega
    have b2 : m ≤ 40 := by omega
    clear big
    by_cases low : n < 1
    · have hv : chronChk n (bds zs m) = 8 := by unfold chronChk; rw [bds_len, if_neg (by omega), if_pos low]
      have HV := Lib.hid hv; clear hv
      rw [HV.out]
      go_enter Try.func46, Try.ntmps46
      go_wp2_with fail
      go_returns
      exact ⟨rfl, Below.refl _ _⟩
    · have hv : chronChk n (bds zs m) = firstBad n (bds zs m) := by unfold chronChk; rw [bds_len, if_neg (by omega), if_neg low]
      have HV := Lib.hid hv; clear hv
      rw [HV.out]
      obtain ⟨r, hr⟩ : ∃ r, r = firstBad n (bds zs m) := ⟨_, rfl⟩
      rw [← hr]
      have HR := Lib.hid hr; clear hr
      go_enter Try.func46, Try.ntmps46
      go_wp2_with fail
      go_loopw [18] (fun i wr => ∃ k : Nat, k ≤ m ∧ i = .int .i64 k ∧ firstBad n (bds zs k) = 0 ∧ Below w.heap.size w wr) (fun i _ => m - (intOf i).toNat)
      case atStart => exact ⟨0, by omega, rfl, rfl, Below.refl _ _⟩
      case round =>
        obtain ⟨k, hk, rfl, hok, hbw⟩ := hrel
        have HK := Lib.hid hok; clear hok
        have hbs := hbw.size
        by_cases hlt : k < m
        · obtain ⟨b, off, rfl, hcell⟩ := hat (by omega)
          obtain ⟨c0, c1, c2, c3, hbl⟩ := bd_cells hcell (World.block_lt_of_cell? w _ (hcell 0 (by omega))) hbw hlt
          clear hcell hat
          obtain ⟨⟨ca, cb, lo, hi⟩, hc⟩ : ∃ c, c = bdAt zs k := ⟨_, rfl⟩
          rw [← hc] at c0 c1 c2 c3
          simp only at c0 c1 c2 c3
          by_cases hz : chkB n ⟨ca, cb, lo, hi⟩ = 0
          · obtain ⟨o1, o2, o3, o4, o5, o6, o7, o8⟩ := chkB_zero.1 hz
            simp only at o1 o2 o3 o4 o5 o6 o7 o8
            have hn2 : firstBad n (bds zs (k + 1)) = 0 := by rw [bds_succ, firstBad_append _ _ _ _ HK.out, ← hc, if_pos hz]; rfl
            have HN := Lib.hid hn2; clear hn2 hz hc
            have o9 : (ca == cb) = false := by simpa using o7
            clear o7
            go_wp2_with fail
            go_roundw
            case rel => exact ⟨k + 1, by omega, by go_num, HN.out, hbw.alloc hbs _⟩
            case measure => simp [intOf]; omega
          · have hr2 : r = chkB n ⟨ca, cb, lo, hi⟩ := by
              obtain ⟨t, ht⟩ := bds_split zs m k hlt
              rw [HR.out, ht, firstBad_append _ _ _ _ HK.out, ← hc, if_neg hz]
            have HR2 := Lib.hid hr2; have HZ := Lib.hid hz; clear hr2 hz hc
            by_cases hab : ca = cb
            · subst hab
              go_wp2_with fail
              all_goals first
                | (go_returns; exact ⟨ret_int (by rw [HR2.out]; unfold chkB; dsimp only; (repeat' split) <;> omega), hbw.alloc hbs _⟩)
            · have o9 : (ca == cb) = false := by simpa using hab
              have o10 : (ca : Int) ≠ cb := hab
              clear hab
              have HO := Lib.hid o10; clear o10
              go_wp2_with fail
              all_goals first
                | (go_returns; exact ⟨ret_int (by have := HO.out; rw [HR2.out]; unfold chkB; dsimp only; (repeat' split) <;> omega), hbw.alloc hbs _⟩)
                | (have := HO.out; exact absurd (by unfold chkB; dsimp only; rw [if_neg (by omega), if_neg (by omega), if_neg (by omega)]) HZ.out)
        · obtain rfl : k = m := by omega
          obtain rfl : r = 0 := by rw [HR.out]; exact HK.out
          go_wp2_with fail
          go_returns
          exact ⟨rfl, hbw⟩

end Go.Proofs.Ytmeppcoekmoofaa
