/- tides: permitted constituents out of any. -/
import Derived.Test.YtdeoahgcppbmkaaDoorTideW
import Derived.Test.YtdeoahgcppbmkaaDoorSkyLaw
import Derived.Test.YtdeoahgcppbmkaaDoorApps
import Derived.Deep.RegionHeld3
namespace Go.Proofs.YtdeoahgcppbmkaaDoor
open Go.RowKit
set_option linter.unusedSimpArgs false
set_option linter.unusedVariables false

theorem infoTide : (Tryd.prog.info? 82).map (fun i => (i.zero, i.size, i.bytes)) = some (some (.agg #[.int .i64 0, .int .i64 0, .int .i64 0]), 3, 24) := by kernel_rfl
theorem ixT_lt {xs ys : List Int} {j : Nat} (h : j < xs.length) : ix (xs ++ ys) j = ix xs j := by
  unfold ix; simp [List.getD, List.getElem?_append_left h]
theorem ixT_at {xs ys : List Int} (j : Nat) : ix (xs ++ ys) (xs.length + j) = ix ys j := by
  unfold ix
  rw [List.getD_eq_getElem?_getD, List.getD_eq_getElem?_getD, List.getElem?_append_right (by omega)]
  congr 2; omega
theorem tdOk_app {zs : List Int} {m : Nat} (hl : zs.length = m * 3) (h : ∀ j, j < m → TdOk zs j) {a p r : Int} (ha : 0 ≤ a ∧ a ≤ 20000) (hp : 0 ≤ p ∧ p < 1000000000) (hr : 1 ≤ r ∧ r ≤ 4000000000000000) : ∀ j, j < m + 1 → TdOk (zs ++ [a, p, r]) j := by
  intro j hj
  rcases (by omega : j < m ∨ j = m) with c | rfl
  · have := h j c
    obtain ⟨a1, a2, p1, p2, r1, r2⟩ := this
    refine ⟨?_, ?_, ?_, ?_, ?_, ?_⟩
    all_goals rw [ixT_lt (by omega)]
    all_goals assumption
  · have e0 : ix (zs ++ [a, p, r]) (j * 3) = a := by have := ixT_at (xs := zs) (ys := [a, p, r]) 0; rw [hl] at this; exact this
    have e1 : ix (zs ++ [a, p, r]) (j * 3 + 1) = p := by have := ixT_at (xs := zs) (ys := [a, p, r]) 1; rw [hl] at this; exact this
    have e2 : ix (zs ++ [a, p, r]) (j * 3 + 2) = r := by have := ixT_at (xs := zs) (ys := [a, p, r]) 2; rw [hl] at this; exact this
    exact ⟨by rw [e0]; exact ha.1, by rw [e0]; exact ha.2, by rw [e1]; exact hp.1, by rw [e1]; exact hp.2, by rw [e2]; exact hr.1, by rw [e2]; exact hr.2⟩
/-- What tides hands back. -/
def TidesPost (w : World) (e : Ending) (w' : World) : Prop := ∃ (v : Value) (m : Nat) (ys : List Int), e = .returned v ∧ w'.ownsRow w.heap.size 82 3 v m (ys.map (Value.int .i64)) ∧ m ≤ 6 ∧ (∀ j, j < m → TdOk ys j) ∧ Below w.heap.size w w'
set_option maxRecDepth 100000 in
set_option maxHeartbeats 16000000 in
theorem tides_ok (A : Option Addr) (n cap : Nat) (zs : List Int) (w : World) (hF : FlatSl w 3 A n cap zs) :
    Calls Tryd.prog 29 #[.slice A n cap] w (TidesPost w) := by
  obtain ⟨iT, hi, hy0, hy1, hy2⟩ := info_parts infoTide
  have HF := Lib.hid hF
  clear hF
  go_enter Tryd.func29, Tryd.ntmps29
  go_wp2_with fail
  go_loopw [3, 8] (fun v i wr => ∃ (k m : Nat) (ys : List Int), k ≤ n ∧ m = min k 6 ∧ i = .int .i64 k ∧ Hid (wr.ownsRow w.heap.size 82 3 v m (ys.map (Value.int .i64))) ∧ Hid (∀ j, j < m → TdOk ys j) ∧ Below w.heap.size w wr) (fun _ i _ => n - (intOf i).toNat)
  case atStart => exact ⟨0, 0, [], by omega, rfl, rfl, Lib.hid (World.ownsRow_nil _ _ _ _), Lib.hid (fun j hj => absurd hj (by omega)), Below.refl _ _⟩
  case round =>
    obtain ⟨k, m, ys, hk, hm, rfl, hown, hty, hbl⟩ := hrel
    have hsw := hbl.size
    by_cases hlt : k < n
    · have i0 : (0 : Int) ≤ (k : Int) := by omega
      have i1 : (k : Int) < (n : Int) := by omega
      have i2 : (k : Int) < (cap : Int) := by have := HF.out.le; omega
      have hcm := HF.out.most
      unfold maxLen at hcm
      obtain ⟨q, o, hA, hc⟩ := HF.out.at' (by omega)
      have x0 := (hbl.cell (p := ⟨q, o + k * 3, none⟩) (cell_below (hc (k * 3) (by omega)))).trans (hc (k * 3) (by omega))
      have x1 := (hbl.cell (p := ⟨q, o + (k * 3 + 1), none⟩) (cell_below (hc (k * 3 + 1) (by omega)))).trans (hc (k * 3 + 1) (by omega))
      have x2 := (hbl.cell (p := ⟨q, o + (k * 3 + 2), none⟩) (cell_below (hc (k * 3 + 2) (by omega)))).trans (hc (k * 3 + 2) (by omega))
      rw [← Nat.add_assoc] at x1 x2
      subst hA
      generalize ix zs (k * 3) = ta at *
      generalize ix zs (k * 3 + 1) = tp at *
      generalize ix zs (k * 3 + 2) = tr at *
      have HM := Lib.hid hm
      have kb := Lib.hid (hbl.alloc hsw (.cells #[.int .i64 ta, .int .i64 tp, .int .i64 tr] 82))
      have ko := Lib.hid (hown.out.alloc (.cells #[.int .i64 ta, .int .i64 tp, .int .i64 tr] 82))
      have n1 : some wr.heap.size ≠ u3.ownBlock := fun e => by have := (hown.out.lt _ e.symm).2; omega
      clear hc hbl hown hm
      by_cases h6 : k < 6
      · have j6 : (k : Int) < 6 := by omega
        have HA1 := Lib.hid (fun w => at_any ta 20001 w (by omega) (by omega))
        have HA2 := Lib.hid (fun w => at_any tp 1000000000 w (by omega) (by omega))
        have HA3 := Lib.hid (fun w => at_any tr 4000000000000000 w (by omega) (by omega))
        have tb := Lib.hid (show 0 ≤ ta % 20001 ∧ ta % 20001 ≤ 20000 by omega)
        have pb := Lib.hid (show 0 ≤ tp % 1000000000 ∧ tp % 1000000000 < 1000000000 by omega)
        obtain ⟨tr', htr⟩ : ∃ x, x = 1 + tr % 4000000000000000 := ⟨_, rfl⟩
        have rb2 := Lib.hid (show 1 ≤ tr' ∧ tr' ≤ 4000000000000000 by omega)
        have er : IntKind.i64.wrap (1 + tr % 4000000000000000) = tr' := by rw [htr]; exact IntWalk.i64_in _ (by omega)
        clear htr
        generalize ta % 20001 = ta' at *
        generalize tp % 1000000000 = tp' at *
        generalize tr % 4000000000000000 = tr0 at *
        obtain ⟨kq, hkq⟩ : ∃ x, x = wr.heap.size := ⟨_, rfl⟩
        have X9 : ∃ X, X = wr.alloc (.cells #[.int .i64 ta, .int .i64 tp, .int .i64 tr] 82) := ⟨_, rfl⟩
        obtain ⟨X, hX⟩ := X9
        have c0 : X.cell? ⟨kq, 0, none⟩ = some (.int .i64 ta) := by rw [hX, hkq]; simp [go_sem]
        have c1 : X.cell? ⟨kq, 1, none⟩ = some (.int .i64 tp) := by rw [hX, hkq]; simp [go_sem]
        have c2 : X.cell? ⟨kq, 2, none⟩ = some (.int .i64 tr) := by rw [hX, hkq]; simp [go_sem]
        have cl : kq < X.heap.size := by rw [hX, hkq]; simp
        have xs : w.heap.size ≤ X.heap.size := by rw [hX]; simp; omega
        rw [← hX] at kb ko
        rw [← hkq] at n1
        have hl3 : ys.length = m * 3 := by have := ko.out.1; simpa using this
        have HL3 := Lib.hid hl3
        have m6 : m + 1 ≤ 6 := by have := HM.out; omega
        have Hm6 := Lib.hid m6
        clear hl3
        go_upto_region 6 with fail
        rw [← hX, ← hkq]
        clear hX hkq x0 x1 x2
        go_wp2_with fail
        go_region_held3 (fun w' => w'.cell? ⟨kq, 0, none⟩ = some (.int .i64 ta) ∧ w'.cell? ⟨kq, 1, none⟩ = some (.int .i64 tp) ∧ w'.cell? ⟨kq, 2, none⟩ = some (.int .i64 tr)) (first | go_keep | (go_split_ands; refine ⟨?_, ?_, ?_⟩ <;> (rw [hgrow.cell_far _ (by simp; omega) n1]; assumption)))
          (first
            | (go_at_call_of 31 ta; refine Calls.mono (HA1.out _) ?_; rintro e _ ⟨rfl, rfl⟩)
            | (go_at_call_of 31 tp; refine Calls.mono (HA2.out _) ?_; rintro e _ ⟨rfl, rfl⟩)
            | (go_at_call_of 31 tr; refine Calls.mono (HA3.out _) ?_; rintro e _ ⟨rfl, rfl⟩)
            | (refine step_append_any (by rfl) _ _ _ (by rfl) w.heap.size 82 iT _ 3 24 Tryd.underlying35 hi hy0 hy1 hy2 rfl (by omega) u3 m (ys.map (Value.int .i64)) (by rfl) ((ko.out.alloc _).drew) ⟨X.heap.size, 0, none⟩ 1 1 [.int .i64 ta', .int .i64 tp', .int .i64 tr'] (by rfl) (by rfl) (World.news_of_block (cs := #[.int .i64 ta', .int .i64 tp', .int .i64 tr']) (t := 82) (fr := (0, 0)) (heap_alloc_new X _)) (by simp [Value.oneCell']) (by unfold maxLen; omega) (by omega) (by simp; omega) ?_; intro v' w3 hown' hgrow hat))
        have ho2 := (ko.out.alloc (.cells #[.int .i64 ta', .int .i64 tp', .int .i64 tr'] 82)).drew
        have R1 : Hid (w3.ownsRow w.heap.size 82 3 v' (m + 1) ((ys ++ [ta', tp', tr']).map (Value.int .i64))) := Lib.hid (by simpa only [List.map_append, List.map_cons, List.map_nil] using hown')
        have R4 := Lib.hid (((kb.out.alloc kb.out.size (.cells #[.int .i64 ta', .int .i64 tp', .int .i64 tr'] 82)).drew).grown hgrow (by have := kb.out.size; simp; omega) (fun q hq => (ho2.lt q hq).1))
        have R5 : Hid (∀ j, j < m + 1 → TdOk (ys ++ [ta', tp', tr']) j) := Lib.hid (tdOk_app HL3.out hty.out tb.out pb.out rb2.out)
        clear hown' hgrow hat ho2 ko kb
        go_wp2_with fail
        go_roundw
        case rel => exact ⟨k + 1, m + 1, ys ++ [ta', tp', tr'], by omega, by have := HM.out; omega, by go_num, R1, R5, R4.out⟩
        case measure => simp [intOf]; omega
      · have j6 : ¬ (k : Int) < 6 := by omega
        go_wp2_with fail
        go_roundw
        case rel => exact ⟨k + 1, m, ys, by omega, by have := HM.out; omega, by go_num, ko, hty, kb.out⟩
        case measure => simp [intOf]; omega
    · obtain rfl : k = n := by omega
      have HM6 := Lib.hid hm
      have kb := Lib.hid hbl
      clear hm hbl
      go_wp2_with fail
      go_ret
      exact ⟨_, m, ys, rfl, hown.out, by have := HM6.out; omega, hty.out, kb.out⟩
end Go.Proofs.YtdeoahgcppbmkaaDoor
