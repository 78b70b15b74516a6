/- ContradictNeeded, the walk: without any one of the constraints of Least, the others of it do not contradict each other. -/
import Derived.Test.YtmeppcoekmoofaaNeed
namespace Go.Proofs.Ytmeppcoekmoofaa
open Go.RowKit
set_option linter.unusedSimpArgs false
set_option linter.unusedVariables false

set_option maxRecDepth 100000 in
set_option maxHeartbeats 16000000 in
theorem contradictNeeded_walk (n : Int) (A : Option Addr) (m cap : Nat) (zs : List Int) (w : World) (h : FlatSl w 4 A m cap zs) :
    Calls Try.prog 10 #[.int .i64 n, .slice A m cap] w fun e w' => e = .returned (.bool true) ∧ Below w.heap.size w w' := by
  obtain ⟨iB, hB0, hB1, hB2, hB3⟩ := info_parts Try.infoBd
  have H := Lib.hid h
  have hat := h.at'
  clear h
  go_enter Try.func10, Try.ntmps10
  go_wp2_with fail
  refine Calls.mono (contradictWorks_ok _) ?_
  rintro e w1 ⟨rfl, hb⟩
  obtain ⟨hb1, hz1, hc1, hf1⟩ := took (w := w) (by repeat' (first | (with_reducible refine below_drewN ?_ _) | go_grown)) (by first | (simp only [World.size_alloc, World.size_setCell, World.size_drew, size_drewN]; done) | (simp only [World.size_alloc, World.size_setCell, World.size_drew, size_drewN]; rfl) | rfl) hb; clear hb
  have hs1 := hb1.size
  clear hc1 hf1
  go_wp2_with fail
  refine Calls.mono (least_any _ _ _ _ _ _ (H.out.keepC (by omega) hb1)) ?_
  rintro e w2 ⟨hb, ⟨N, rfl, hC, -, out, v, rfl, hout, hown⟩ | ⟨N, rfl, -, -, rfl⟩ | ⟨hbad, rfl⟩⟩
  · obtain ⟨l, hl⟩ : ∃ l, l = bds zs m := ⟨_, rfl⟩
    rw [← hl] at hC hout
    have hll : l.length = m := by rw [hl, bds_len]
    obtain ⟨e1, e2, e3⟩ := least_end hout
    rw [hll] at e2
    have hfew := hout.few
    rw [hll] at hfew
    have hm40 := hC.few
    rw [hll] at hm40
    have hp1 : 1 ≤ out.length := by
      apply Classical.byContradiction
      intro h0
      have : out = [] := List.eq_nil_of_length_eq_zero (by omega)
      rw [this] at e1
      exact e1 (free_nil N)
    obtain ⟨p, hp⟩ : ∃ p, p = out.length := ⟨_, rfl⟩
    rw [← hp] at hown hp1 hfew e3
    have hcl : ∀ k, k < p → (out.map fun (x : Nat) => Value.int .i64 (x : Int))[k]? = some (.int .i64 ((out.getD k 0 : Nat) : Int)) := fun k hk => by
      rw [List.getElem?_map, List.getElem?_eq_getElem (by omega), List.getD_eq_getElem?_getD, List.getElem?_eq_getElem (by omega)]
      rfl
    have hx : ∀ k, k < p → out.getD k 0 < m := fun k hk => e2 _ (by rw [List.getD_eq_getElem?_getD, List.getElem?_eq_getElem (by omega)]; exact List.getElem_mem _)
    obtain ⟨g, gc, hv, hg1, hg2⟩ := hown.form (by omega)
    subst hv
    have hoc : ∀ k, k < p → w2.cell? ⟨g, k, none⟩ = some (.int .i64 ((out.getD k 0 : Nat) : Int)) := fun k hk => by
      have := hown.cellAt k (by omega)
      rwa [hcl k hk] at this
    have hgl := World.block_lt_of_cell? w2 _ (hoc 0 (by omega))
    simp at hgl
    obtain ⟨b0, o0, rfl, hcell⟩ := hat (by have := hx 0 (by omega); omega)
    have hb0 := World.block_lt_of_cell? w _ (hcell 0 (by omega))
    simp at hb0
    have hcap := H.out.le
    have hb2 := hb1.trans (hb.mono hs1)
    have hs2 := hb2.size
    have HC := Lib.hid hC; have E1 := Lib.hid e1; have E2 := Lib.hid e2; have E3 := Lib.hid e3
    have HX := Lib.hid hx; have HOC := Lib.hid hoc; have HCE := Lib.hid hcell; have HP := Lib.hid hp; have HL := Lib.hid hl; have HLL := Lib.hid hll
    clear hat hC hout e1 e2 e3 hcl hx hown hoc hcell hp hl hll hb hb1 hs1
    go_wp2_with fail
    go_loopw [7] (fun i' wr => ∃ (s : Nat) (sk : Int), s ≤ p + 1 ∧ i' = .int .i64 sk ∧ sk = s - 1 ∧ Below w2.heap.size w2 wr ∧ Below w.heap.size w wr) (fun i' _ => (p - intOf i').toNat)
    case atStart => exact ⟨0, -1, by omega, rfl, by omega, Below.refl _ _, hb2⟩
    case round =>
      clear hb2
      obtain ⟨s, sk, hs, rfl, hsk, hbv, hbw⟩ := hrel
      by_cases hlt : sk < (p : Int)
      · have hsp : s ≤ p := by omega
        have hbs := hbw.size
        have hbvs := hbv.size
        have HSK := Lib.hid hsk
        clear hsk
        go_wp2_with fail
        go_loopw [8, 34] (fun vl i' wv => ∃ k : Nat, k ≤ p ∧ i' = .int .i64 k ∧ wv.ownsRow w2.heap.size 64 4 vl (needCnt s k) ((needNums zs out s k).map (Value.int .i64)) ∧ Below w2.heap.size w2 wv ∧ Below w.heap.size w wv) (fun _ i' _ => p - (intOf i').toNat)
        case atStart => exact ⟨0, by omega, rfl, World.ownsRow_nil _ _ _ _, hbv, hbw⟩
        case round =>
          clear hbv hbw hbs hbvs
          obtain ⟨k, hk, rfl, hown, hbv, hbw⟩ := hrel
          have hbs := hbw.size
          have hbvs := hbv.size
          have hcnt := needCnt_le s k
          by_cases hkp : k < p
          · have hsk := HSK.out
            obtain ⟨x, hxe⟩ : ∃ x, x = out.getD k 0 := ⟨_, rfl⟩
            have hxm : x < m := by rw [hxe]; exact HX.out k hkp
            have d0 : wr.cell? ⟨g, k, none⟩ = some (.int .i64 (x : Int)) := by rw [hxe]; exact (hbv.cell (p := ⟨g, k, none⟩) hgl).trans (HOC.out k hkp)
            have x0 : (0 : Int) ≤ (x : Int) := by omega
            have xm : (x : Int) < (m : Int) := by omega
            have kd1 : decide ((x : Int) < 0) = false := by simp
            have kd2 : decide ((m : Int) ≤ (x : Int)) = false := by simp; omega
            have kd3 : decide (m ≤ x) = false := by simp; omega
            have HXE := Lib.hid hxe
            clear hxe
            by_cases hks : (k : Int) = sk
            · have e : ((k : Int) != sk) = false := by simp [hks]
              have q1 : needCnt s (k + 1) = needCnt s k := by unfold needCnt; rw [if_pos (by omega)]; cases k <;> rfl
              have q2 : needNums zs out s (k + 1) = needNums zs out s k := by rw [needNums, if_pos (by omega)]
              have R : Hid (wr.ownsRow w2.heap.size 64 4 u8 (needCnt s (k + 1)) ((needNums zs out s (k + 1)).map (Value.int .i64))) := Lib.hid (by rw [q1, q2]; exact hown)
              clear q1 q2 hks hsk
              go_wp2_with fail
              go_roundw
              case rel => exact ⟨k + 1, by omega, by go_num, R.out, hbv, hbw⟩
              case measure => simp [intOf]; omega
            · have e : ((k : Int) != sk) = true := by simpa using hks
              have c0 : wr.cell? ⟨b0, o0 + x * 4, none⟩ = some (.int .i64 (ix zs (x * 4))) := (hbw.cell (p := ⟨b0, o0 + x * 4, none⟩) hb0).trans (HCE.out (x * 4) (by omega))
              have c1 : wr.cell? ⟨b0, o0 + x * 4 + 1, none⟩ = some (.int .i64 (ix zs (x * 4 + 1))) := (hbw.cell (p := ⟨b0, o0 + x * 4 + 1, none⟩) hb0).trans (HCE.out (x * 4 + 1) (by omega))
              have c2 : wr.cell? ⟨b0, o0 + x * 4 + 2, none⟩ = some (.int .i64 (ix zs (x * 4 + 2))) := (hbw.cell (p := ⟨b0, o0 + x * 4 + 2, none⟩) hb0).trans (HCE.out (x * 4 + 2) (by omega))
              have c3 : wr.cell? ⟨b0, o0 + x * 4 + 3, none⟩ = some (.int .i64 (ix zs (x * 4 + 3))) := (hbw.cell (p := ⟨b0, o0 + x * 4 + 3, none⟩) hb0).trans (HCE.out (x * 4 + 3) (by omega))
              have q1 : needCnt s (k + 1) = needCnt s k + 1 := by rw [needCnt, if_neg (by omega)]
              have q2 : needNums zs out s (k + 1) = needNums zs out s k ++ [ix zs (x * 4), ix zs (x * 4 + 1), ix zs (x * 4 + 2), ix zs (x * 4 + 3)] := by rw [HXE.out, needNums, if_neg (by omega)]
              have Q1 := Lib.hid q1; have Q2 := Lib.hid q2
              clear q1 q2 hks hsk
              obtain ⟨n0, hn0⟩ : ∃ n0, n0 = ix zs (x * 4) := ⟨_, rfl⟩
              obtain ⟨n1, hn1⟩ : ∃ n1, n1 = ix zs (x * 4 + 1) := ⟨_, rfl⟩
              obtain ⟨n2, hn2⟩ : ∃ n2, n2 = ix zs (x * 4 + 2) := ⟨_, rfl⟩
              obtain ⟨n3, hn3⟩ : ∃ n3, n3 = ix zs (x * 4 + 3) := ⟨_, rfl⟩
              rw [← hn0] at c0
              rw [← hn1] at c1
              rw [← hn2] at c2
              rw [← hn3] at c3
              have N0 := Lib.hid hn0; have N1 := Lib.hid hn1; have N2 := Lib.hid hn2; have N3 := Lib.hid hn3
              clear hn0 hn1 hn2 hn3
              go_wp2_with (at_builtin; refine wpList_append_own _ rfl _ _ 23 rfl w2.heap.size 64 iB _ 4 32 Try.underlying23 hB0 hB1 hB2 hB3 rfl (by decide) _ _ _ rfl (hown.alloc _) ⟨wr.heap.size, 0, none⟩ 1 1 [.int .i64 n0, .int .i64 n1, .int .i64 n2, .int .i64 n3] rfl rfl ?c1 ?c2 ?c3 ?c4 ?c5 ?_)
              case c1 => exact World.news_of_block (cs := #[.int .i64 n0, .int .i64 n1, .int .i64 n2, .int .i64 n3]) (t := 64) (fr := (0, 0)) (heap_alloc_new wr _)
              case c2 => simp [Value.oneCell']
              case c3 => unfold maxLen; omega
              case c4 => omega
              case c5 => simp; omega
              · intro v' w3 hown' hgrow _
                have R : Hid (w3.ownsRow w2.heap.size 64 4 v' (needCnt s (k + 1)) ((needNums zs out s (k + 1)).map (Value.int .i64))) := Lib.hid (by
                  rw [Q1.out, Q2.out, ← N0.out, ← N1.out, ← N2.out, ← N3.out]
                  simpa only [List.map_append, List.map_cons, List.map_nil] using hown')
                have R1 := (hbv.alloc hbvs (.cells #[.int .i64 n0, .int .i64 n1, .int .i64 n2, .int .i64 n3] 64)).grown hgrow (by simp; omega) (fun q hq => (hown.lt q hq).1)
                have R2 := (hbw.alloc hbs (.cells #[.int .i64 n0, .int .i64 n1, .int .i64 n2, .int .i64 n3] 64)).grown hgrow (by simp; omega) (fun q hq => Nat.le_trans hs2 (hown.lt q hq).1)
                clear hown' hgrow hown
                go_wp2_with fail
                go_roundw
                case rel => exact ⟨k + 1, by omega, by go_num, R.out, R1, R2⟩
                case measure => simp [intOf]; omega
          · obtain rfl : k = p := by omega
            obtain ⟨A3, cap3, hv, hF3⟩ := own_flat hown
            subst hv
            have hbd : bds (needNums zs out s k) (needCnt s k) = needL l out s k := by
              rw [HL.out]
              exact need_bds zs m out s k E2.out (by rw [HP.out]; exact Nat.le_refl _)
            have hok : ChronOk N (bds (needNums zs out s k) (needCnt s k)) := ⟨HC.out.n1, HC.out.n12, by rw [bds_len]; omega, fun c hc => HC.out.each c (by
              rw [hbd] at hc
              exact needL_mem l out s k (by rw [HLL.out]; exact E2.out) (by rw [HP.out]; exact Nat.le_refl _) c hc)⟩
            have HBD := Lib.hid hbd; have HZ := Lib.hid (chronChk_zero.2 hok)
            have htk : (pick l out).take k = pick l out := List.take_of_length_le (by rw [pick_len, ← HP.out]; exact Nat.le_refl _)
            have HTK := Lib.hid htk
            clear hbd hok hown htk
            go_wp2_with fail
            refine Calls.mono (tightest_any _ _ _ _ (N : Nat) _ hF3) ?_
            rintro e w4 ⟨hb5, ⟨N2, hN2, -, hf, ob, oc, rb, rc, rfl, hcap4, hT⟩ | ⟨N2, hN2, -, hbad, rfl⟩ | ⟨hbad, -⟩⟩
            · obtain rfl : N2 = N := by omega
              have hv2 := hbv.trans (hb5.mono hbvs)
              have hw2 := hbw.trans (hb5.mono hbs)
              clear hT hF3 hb5
              rcases s with _ | t
              · exfalso
                rw [HBD.out, needL_zero l out k (by rw [HP.out]; exact Nat.le_refl _), HTK.out] at hf
                exact E1.out hf
              · obtain rfl : sk = (t : Int) := by have := HSK.out; omega
                clear hf hbv hbw
                have t0 : (0 : Int) ≤ (t : Int) := by omega
                have t1 : decide ((t : Int) < 0) = false := by simp
                go_wp2_with fail
                go_roundw
                case rel => exact ⟨t + 1 + 1, _, by omega, by go_num, by omega, hv2, hw2⟩
                case measure => show ((k : Int) - ((t : Int) + 1)).toNat < ((k : Int) - (t : Int)).toNat; omega
            · obtain rfl : N2 = N := by omega
              have hv2 := hbv.trans (hb5.mono hbvs)
              have hw2 := hbw.trans (hb5.mono hbs)
              clear hF3 hb5
              rcases s with _ | t
              · obtain rfl : sk = -1 := by have := HSK.out; omega
                clear hbad hbv hbw
                go_wp2_with fail
                go_roundw
                case rel => exact ⟨1, 0, by omega, rfl, by omega, hv2, hw2⟩
                case measure => show ((k : Int) - 0).toNat < ((k : Int) - (-1)).toNat; omega
              · exfalso
                rw [HBD.out, needL_succ l out t k (by rw [HP.out]; exact Nat.le_refl _), HTK.out] at hbad
                exact hbad (E3.out t (by omega))
            · exact absurd HZ.out hbad
      · go_wp2_with fail
        go_returns
        exact ⟨rfl, hbw⟩
  · have hb2 := hb1.trans (hb.mono hs1)
    clear hb hb1
    go_wp2_with fail
    go_returns
    exact ⟨rfl, by repeat' (first | (with_reducible refine below_drewN ?_ _) | go_grown)⟩
  · obtain ⟨r, hr⟩ : ∃ r, r = chronChk n (bds zs m) := ⟨_, rfl⟩
    rw [← hr] at hbad
    rw [← hr]
    have r0 : (r != 0) = true := by simpa using hbad
    have hb2 := hb1.trans (hb.mono hs1)
    clear hb hb1
    go_wp2_with fail
    go_returns
    exact ⟨rfl, by repeat' (first | (with_reducible refine below_drewN ?_ _) | go_grown)⟩

end Go.Proofs.Ytmeppcoekmoofaa
