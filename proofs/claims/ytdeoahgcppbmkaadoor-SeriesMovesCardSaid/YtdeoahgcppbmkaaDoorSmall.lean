/- small: a permitted sum out of any. -/
import Derived.Test.YtdeoahgcppbmkaaDoorSer
import Derived.Test.YtdeoahgcppbmkaaDoorSkyLaw
import Derived.Test.YtdeoahgcppbmkaaDoorApps
import Derived.RegionCalls
import Derived.Deep.RegionHeld3
namespace Go.Proofs.YtdeoahgcppbmkaaDoor
open Go.RowKit
set_option linter.unusedSimpArgs false
set_option linter.unusedVariables false

theorem infoTerm : (Tryd.prog.info? 87).map (fun i => (i.zero, i.size, i.bytes)) = some (some (.agg #[.int .i64 0, .int .i64 0, .int .i64 0]), 3, 24) := by kernel_rfl
theorem tmod_bd (a m : Int) (hm : 0 < m) : -(m - 1) ≤ a.tmod m ∧ a.tmod m ≤ m - 1 := by
  have h1 := Int.lt_tmod_of_pos a hm
  have h2 := Int.tmod_lt_of_pos a hm
  omega
theorem ix_app_lt {xs ys : List Int} {j : Nat} (h : j < xs.length) : ix (xs ++ ys) j = ix xs j := by
  unfold ix; simp [List.getD, List.getElem?_append_left h]
theorem ix_app_at {xs ys : List Int} (j : Nat) : ix (xs ++ ys) (xs.length + j) = ix ys j := by
  unfold ix
  rw [List.getD_eq_getElem?_getD, List.getD_eq_getElem?_getD, List.getElem?_append_right (by omega)]
  congr 2; omega
theorem tmOk_app {zs : List Int} {m : Nat} (hl : zs.length = m * 3) (h : ∀ j, j < m → TmOk zs j) {a p r : Int} (ha : -1000000000 ≤ a ∧ a ≤ 1000000000) (hp : 0 ≤ p ∧ p < 1000000000) (hr : -4000000000000000 ≤ r ∧ r ≤ 4000000000000000) : ∀ j, j < m + 1 → TmOk (zs ++ [a, p, r]) j := by
  intro j hj
  rcases (by omega : j < m ∨ j = m) with c | rfl
  · have := h j c
    obtain ⟨a1, a2, p1, p2, r1, r2⟩ := this
    refine ⟨?_, ?_, ?_, ?_, ?_, ?_⟩
    all_goals rw [ix_app_lt (by omega)]
    all_goals assumption
  · have e0 : ix (zs ++ [a, p, r]) (j * 3) = a := by have := ix_app_at (xs := zs) (ys := [a, p, r]) 0; rw [hl] at this; exact this
    have e1 : ix (zs ++ [a, p, r]) (j * 3 + 1) = p := by have := ix_app_at (xs := zs) (ys := [a, p, r]) 1; rw [hl] at this; exact this
    have e2 : ix (zs ++ [a, p, r]) (j * 3 + 2) = r := by have := ix_app_at (xs := zs) (ys := [a, p, r]) 2; rw [hl] at this; exact this
    exact ⟨by rw [e0]; exact ha.1, by rw [e0]; exact ha.2, by rw [e1]; exact hp.1, by rw [e1]; exact hp.2, by rw [e2]; exact hr.1, by rw [e2]; exact hr.2⟩
theorem SmBox.drew {w : World} {b : Nat} {x y z u : Value} (h : SmBox w b x y z u) : SmBox w.drew b x y z u := h
theorem SmBox.grown {w w' : World} {b : Nat} {x y z u : Value} (h : SmBox w b x y z u) {B : Nat} {e : TypeId} {size : Nat} {v : Value} {n : Nat} {xs : List Value} (hg : w.grownBy w' v.ownBlock) (ho : w.ownsRow B e size v n xs) (hb : b < B) : SmBox w' b x y z u :=
  World.rowIs.of_block h (hg.block b h.lt (fun e1 => by have := (ho.lt b e1.symm).1; omega))
/-- What small hands back. -/
def SmallPost (w : World) (e : Ending) (w' : World) : Prop := ∃ (mean rate rest : Int) (A : Option Addr) (n cap : Nat) (zs : List Int), e = .returned (.agg #[.int .i64 mean, .int .i64 rate, .slice A n cap, .int .i64 rest]) ∧ FlatSl w' 3 A n cap zs ∧ SumIn mean rate rest n zs ∧ n ≤ 6 ∧ rest < 1000 ∧ (∀ a, A = some a → w.heap.size ≤ a.block) ∧ Below w.heap.size w w'
set_option maxRecDepth 100000 in
set_option maxHeartbeats 16000000 in
theorem small_ok (mean rate rest : Int) (A : Option Addr) (n cap : Nat) (zs : List Int) (w : World) (hF : FlatSl w 3 A n cap zs) :
    Calls Tryd.prog 36 #[.agg #[.int .i64 mean, .int .i64 rate, .slice A n cap, .int .i64 rest]] w (SmallPost w) := by
  obtain ⟨iT, hi, hy0, hy1, hy2⟩ := info_parts infoTerm
  obtain ⟨m', hm'⟩ : ∃ x, x = mean.tmod 1000000001 := ⟨_, rfl⟩
  obtain ⟨r', hr'⟩ : ∃ x, x = rate.tmod 4000000000000001 := ⟨_, rfl⟩
  obtain ⟨q', hq'⟩ : ∃ x, x = (wrap64 (rest.tmod 1000 + 1000)).tmod 1000 := ⟨_, rfl⟩
  have mb := tmod_bd mean 1000000001 (by omega)
  have rb := tmod_bd rate 4000000000000001 (by omega)
  have qb : 0 ≤ q' ∧ q' < 1000 := by rw [hq', at_eq rest 1000 (by omega) (by omega)]; omega
  rw [← hm'] at mb
  rw [← hr'] at rb
  have HSI := Lib.hid (And.intro mb (And.intro rb qb))
  have HF := Lib.hid hF
  have HM := Lib.hid hm'; have HR := Lib.hid hr'; have HQ := Lib.hid hq'
  have B0 := SmBox.new w (.int .i64 m') (.int .i64 r') (.slice A n cap) (.int .i64 q')
  have B1 := SmBox.new (w.alloc (.cells #[.int .i64 m', .int .i64 r', .slice A n cap, .int .i64 q'] 46)) (.int .i64 0) (.int .i64 0) (.slice none 0 0) (.int .i64 0)
  obtain ⟨b, hb⟩ : ∃ b, b = w.heap.size := ⟨_, rfl⟩
  have e5 : (w.alloc (.cells #[.int .i64 m', .int .i64 r', .slice A n cap, .int .i64 q'] 46)).heap.size = b + 1 := by simp [hb]
  rw [e5] at B1
  have HB0 := Lib.hid (B0.alloc (.cells #[.int .i64 0, .int .i64 0, .slice none 0 0, .int .i64 0] 46))
  rw [← hb] at HB0
  have HB1 := Lib.hid B1
  have HBW := Lib.hid (show Below w.heap.size w ((w.alloc (.cells #[.int .i64 m', .int .i64 r', .slice A n cap, .int .i64 q'] 46)).alloc (.cells #[.int .i64 0, .int .i64 0, .slice none 0 0, .int .i64 0] 46)) from (by repeat' (first | (with_reducible refine below_drewN ?_ _) | go_grown)))
  have HS0 := Lib.hid (show ((w.alloc (.cells #[.int .i64 m', .int .i64 r', .slice A n cap, .int .i64 q'] 46)).alloc (.cells #[.int .i64 0, .int .i64 0, .slice none 0 0, .int .i64 0] 46)).heap.size = b + 2 by simp [hb])
  have HBB := Lib.hid hb
  clear mb rb qb hm' hr' hq' hF B0 B1 e5 hb
  go_enter Tryd.func36, Tryd.ntmps36
  go_wp2_with fail
  go_cut [] (fun wx => SmBox wx b (.int .i64 m') (.int .i64 r') (.slice A n cap) (.int .i64 q') ∧ SmBox wx (b + 1) (.int .i64 0) (.int .i64 0) (.slice none 0 0) (.int .i64 0) ∧ Below w.heap.size w wx ∧ wx.heap.size = b + 2)
  case first =>
    go_region_calls
    all_goals rw [← HM.out, ← HR.out, ← HQ.out]
    all_goals (go_wp2_with fail; go_meet; exact ⟨HB0.out, HB1.out, HBW.out.drew, HS0.out⟩)
  case rest =>
    obtain ⟨hx0, hx1, hxw, hxs⟩ := hcut
    rw [← HBB.out]
    clear HB0 HB1 HBW HS0 HM HR HQ
    have c2 := hx0.c2; have cl := hx0.lt
    have hx0' := Lib.hid hx0; have hx1' := Lib.hid hx1; have hxw' := Lib.hid hxw; have hxs' := Lib.hid hxs
    clear hx0 hx1 hxw hxs
    go_wp2_with fail
    clear c2 cl
    go_loopw [3, 21] (fun v i wr => ∃ (k m : Nat) (ys : List Int), k ≤ n ∧ m = min k 6 ∧ i = .int .i64 k ∧ Hid (wr.ownsRow (b + 2) 87 3 v m (ys.map (Value.int .i64))) ∧ Hid (∀ j, j < m → TmOk ys j) ∧ SmBox wr b (.int .i64 m') (.int .i64 r') (.slice A n cap) (.int .i64 q') ∧ SmBox wr (b + 1) (.int .i64 0) (.int .i64 0) (.slice none 0 0) (.int .i64 0) ∧ Below w.heap.size w wr ∧ b + 2 ≤ wr.heap.size) (fun _ i _ => n - (intOf i).toNat)
    case atStart => exact ⟨0, 0, [], by omega, rfl, rfl, Lib.hid (World.ownsRow_nil _ _ _ _), Lib.hid (fun j hj => absurd hj (by omega)), hx0'.out, hx1'.out, hxw'.out, by have := hxs'.out; omega⟩
    case round =>
      clear hx0' hx1' hxw' hxs'
      obtain ⟨k, m, ys, hk, hm, rfl, hown, hty, hB0, hB1, hbl, hsz⟩ := hrel
      have hsw := hbl.size
      by_cases hlt : k < n
      · have i0 : (0 : Int) ≤ (k : Int) := by omega
        have i1 : (k : Int) < (n : Int) := by omega
        have i2 : (k : Int) < (cap : Int) := by have := HF.out.le; omega
        have hcm := HF.out.most
        unfold maxLen at hcm
        obtain ⟨q, o, hA, hc⟩ := HF.out.at' (by omega)
        have x0 := (hbl.cell (p := ⟨q, o + k * 3, none⟩) (cell_below (hc (k * 3) (by omega)))).trans (hc (k * 3) (by omega))
        have x1 := (hbl.cell (p := ⟨q, o + (k * 3 + 1), none⟩) (cell_below (hc (k * 3 + 1) (by omega)))).trans (hc (k * 3 + 1) (by omega))
        have x2 := (hbl.cell (p := ⟨q, o + (k * 3 + 2), none⟩) (cell_below (hc (k * 3 + 2) (by omega)))).trans (hc (k * 3 + 2) (by omega))
        rw [← Nat.add_assoc] at x1 x2
        subst hA
        generalize ix zs (k * 3) = ta at *
        generalize ix zs (k * 3 + 1) = tp at *
        generalize ix zs (k * 3 + 2) = tr at *
        have HM := Lib.hid hm
        have k0 := Lib.hid (hB0.alloc (.cells #[.int .i64 ta, .int .i64 tp, .int .i64 tr] 87))
        have k1 := Lib.hid (hB1.alloc (.cells #[.int .i64 ta, .int .i64 tp, .int .i64 tr] 87))
        have kb := Lib.hid (hbl.alloc hsw (.cells #[.int .i64 ta, .int .i64 tp, .int .i64 tr] 87))
        have ko := Lib.hid (hown.out.alloc (.cells #[.int .i64 ta, .int .i64 tp, .int .i64 tr] 87))
        have n1 : some wr.heap.size ≠ u3.ownBlock := fun e => by have := (hown.out.lt _ e.symm).2; omega
        clear hc hB0 hB1 hbl hown hm
        by_cases h6 : k < 6
        · have j6 : (k : Int) < 6 := by omega
          have tb := Lib.hid (tmod_bd ta 1000000001 (by omega))
          have rb2 := Lib.hid (tmod_bd tr 4000000000000001 (by omega))
          have HAT := Lib.hid (fun w => at_any tp 1000000000 w (by omega) (by omega))
          have pb : 0 ≤ tp % 1000000000 ∧ tp % 1000000000 < 1000000000 := by omega
          have HPB := Lib.hid pb
          obtain ⟨ta', hta⟩ : ∃ x, x = ta.tmod 1000000001 := ⟨_, rfl⟩
          obtain ⟨tr', htr⟩ : ∃ x, x = tr.tmod 4000000000000001 := ⟨_, rfl⟩
          rw [← hta] at tb
          rw [← htr] at rb2
          generalize tp % 1000000000 = tp' at *
          have HTA := Lib.hid hta.symm; have HTR := Lib.hid htr.symm
          obtain ⟨kq, hkq⟩ : ∃ x, x = wr.heap.size := ⟨_, rfl⟩
          have X9 : ∃ X, X = wr.alloc (.cells #[.int .i64 ta, .int .i64 tp, .int .i64 tr] 87) := ⟨_, rfl⟩
          obtain ⟨X, hX⟩ := X9
          have c0 : X.cell? ⟨kq, 0, none⟩ = some (.int .i64 ta) := by rw [hX, hkq]; simp [go_sem]
          have c1 : X.cell? ⟨kq, 1, none⟩ = some (.int .i64 tp) := by rw [hX, hkq]; simp [go_sem]
          have c2 : X.cell? ⟨kq, 2, none⟩ = some (.int .i64 tr) := by rw [hX, hkq]; simp [go_sem]
          have cl : kq < X.heap.size := by rw [hX, hkq]; simp
          have xs : b + 2 ≤ X.heap.size := by rw [hX]; simp; omega
          rw [← hX] at k0 k1 kb ko
          rw [← hkq] at n1
          have hl3 : ys.length = m * 3 := by have := ko.out.1; simpa using this
          have HL3 := Lib.hid hl3
          have m6 : m + 1 ≤ 6 := by have := HM.out; omega
          have Hm6 := Lib.hid m6
          clear pb hta htr hl3
          go_upto_region 6 with fail
          rw [← hX, ← hkq]
          clear hX hkq x0 x1 x2
          go_wp2_with fail
          go_region_held3 (fun w' => w'.cell? ⟨kq, 0, none⟩ = some (.int .i64 ta) ∧ w'.cell? ⟨kq, 1, none⟩ = some (.int .i64 tp) ∧ w'.cell? ⟨kq, 2, none⟩ = some (.int .i64 tr)) (first | go_keep | (go_split_ands; refine ⟨?_, ?_, ?_⟩ <;> (rw [hgrow.cell_far _ (by simp; omega) n1]; assumption)))
            (first
              | (go_at_call 31; refine Calls.mono (HAT.out _) ?_; rintro e _ ⟨rfl, rfl⟩)
              | (refine step_append_any (by rfl) _ _ _ (by rfl) (b + 2) 87 iT _ 3 24 Tryd.underlying44 hi hy0 hy1 hy2 rfl (by omega) u3 m (ys.map (Value.int .i64)) (by rfl) ((ko.out.alloc _).drew) ⟨X.heap.size, 0, none⟩ 1 1 [.int .i64 (ta.tmod 1000000001), .int .i64 tp', .int .i64 (tr.tmod 4000000000000001)] (by rfl) (by rfl) (World.news_of_block (cs := #[.int .i64 (ta.tmod 1000000001), .int .i64 tp', .int .i64 (tr.tmod 4000000000000001)]) (t := 87) (fr := (0, 0)) (heap_alloc_new X _)) (by simp [Value.oneCell']) (by unfold maxLen; omega) (by omega) (by simp; omega) ?_; intro v' w3 hown' hgrow hat))
          rw [HTA.out, HTR.out] at hown'
          have ho2 := (ko.out.alloc (.cells #[.int .i64 (ta.tmod 1000000001), .int .i64 tp', .int .i64 (tr.tmod 4000000000000001)] 87)).drew
          have R1 : Hid (w3.ownsRow (b + 2) 87 3 v' (m + 1) ((ys ++ [ta', tp', tr']).map (Value.int .i64))) := Lib.hid (by simpa only [List.map_append, List.map_cons, List.map_nil] using hown')
          have R2 := Lib.hid (((k0.out.alloc (.cells #[.int .i64 (ta.tmod 1000000001), .int .i64 tp', .int .i64 (tr.tmod 4000000000000001)] 87)).drew).grown hgrow ho2 (by omega))
          have R3 := Lib.hid (((k1.out.alloc (.cells #[.int .i64 (ta.tmod 1000000001), .int .i64 tp', .int .i64 (tr.tmod 4000000000000001)] 87)).drew).grown hgrow ho2 (by omega))
          have R4 := Lib.hid (((kb.out.alloc kb.out.size (.cells #[.int .i64 (ta.tmod 1000000001), .int .i64 tp', .int .i64 (tr.tmod 4000000000000001)] 87)).drew).grown hgrow (by have := kb.out.size; simp; omega) (fun q hq => by have h1 := (ko.out.lt q hq).1; have h2 := HBB.out; omega))
          have R5 : Hid (∀ j, j < m + 1 → TmOk (ys ++ [ta', tp', tr']) j) := Lib.hid (tmOk_app HL3.out hty.out tb.out HPB.out rb2.out)
          have hsz3 := hgrow.size
          have hs3 : b + 2 ≤ w3.heap.size := by simp at hsz3; omega
          clear hown' hgrow hat ho2 ko k0 k1 kb
          go_wp2_with fail
          go_roundw
          case rel => exact ⟨k + 1, m + 1, ys ++ [ta', tp', tr'], by omega, by have := HM.out; omega, by go_num, R1, R5, R2.out, R3.out, R4.out, hs3⟩
          case measure => simp [intOf]; omega
        · have j6 : ¬ (k : Int) < 6 := by omega
          go_wp2_with fail
          go_roundw
          case rel => exact ⟨k + 1, m, ys, by omega, by have := HM.out; omega, by go_num, ko, hty, k0.out, k1.out, kb.out, by simp; omega⟩
          case measure => simp [intOf]; omega
      · obtain rfl : k = n := by omega
        obtain ⟨A', cap', rfl, -⟩ := own_flat hown.out
        have p0 := hB0.c0; have p1 := hB0.c1; have p2 := hB0.c2; have p3 := hB0.c3; have pl := hB0.lt; have pf := hB0.free 2
        have r0 := hB1.c0; have r1 := hB1.c1; have r2 := hB1.c2; have r3 := hB1.c3; have rl := hB1.lt; have rf0 := hB1.free 0; have rf1 := hB1.free 1; have rf2 := hB1.free 2; have rf3 := hB1.free 3
        have kb := Lib.hid hbl
        have HM6 := Lib.hid hm
        clear hB0 hB1 hbl hm
        go_wp2_with fail
        refine bodyPost_ret (v := .agg #[.int .i64 m', .int .i64 r', .slice A' m cap', .int .i64 q']) ?_ rfl ⟨m', r', q', A', m, cap', ys, rfl, ?_, ?_, ?_, ?_, ?_, ?_⟩
        · simp [results, Tryd.results36, go_sem, *]
        · have ho := ownsRow_setCell_below (ownsRow_setCell_below (ownsRow_setCell_below (ownsRow_setCell_below (ownsRow_setCell_below hown.out (a := ⟨b, 2, none⟩) (by show b < b + 2; omega) (.slice A' m cap')) (a := ⟨b + 1, 0, none⟩) (by show b + 1 < b + 2; omega) (.int .i64 m')) (a := ⟨b + 1, 1, none⟩) (by show b + 1 < b + 2; omega) (.int .i64 r')) (a := ⟨b + 1, 2, none⟩) (by show b + 1 < b + 2; omega) (.slice A' m cap')) (a := ⟨b + 1, 3, none⟩) (by show b + 1 < b + 2; omega) (.int .i64 q')
          obtain ⟨A2, c2, e2, hf2⟩ := own_flat ho
          cases e2
          exact hf2
        · obtain ⟨s1, s2, s3⟩ := HSI.out
          exact ⟨by omega, by omega, by omega, by omega, by omega, by omega, by have := HM6.out; omega, hty.out⟩
        · have := HM6.out; omega
        · exact (HSI.out).2.2.2
        · intro a ha
          subst ha
          have h1 := (hown.out.lt a.block rfl).1
          have h2 := HBB.out
          omega
        · have hB := HBB.out
          refine Below.setCell (Below.setCell (Below.setCell (Below.setCell (Below.setCell kb.out ?_ _) ?_ _) ?_ _) ?_ _) ?_ _
          all_goals (dsimp only; omega)
end Go.Proofs.YtdeoahgcppbmkaaDoor
