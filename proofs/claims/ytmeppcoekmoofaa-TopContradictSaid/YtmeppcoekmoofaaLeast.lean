/- The contract of contradict.Least. -/
import Derived.Test.YtmeppcoekmoofaaContra
import Derived.Test.YtmeppcoekmoofaaEarly
namespace Go.Proofs.Ytmeppcoekmoofaa
open Go.RowKit
set_option linter.unusedSimpArgs false
set_option linter.unusedVariables false

def LeastPost (n : Int) (l : List Bd) (w : World) (e : Ending) (w' : World) : Prop :=
  Below w.heap.size w w' ∧ ((∃ N : Nat, n = N ∧ ChronOk N l ∧ ¬ Free N l ∧ ∃ (out : List Nat) (v : Value), e = .returned (.tuple #[v, .int .i64 0]) ∧ LeastIn N l l.length out ∧ w'.ownsRow w.heap.size 3 1 v out.length (out.map fun (x : Nat) => Value.int .i64 (x : Int))) ∨
    (∃ N : Nat, n = N ∧ ChronOk N l ∧ Free N l ∧ e = .returned (.tuple #[.slice none 0 0, .int .i64 6])) ∨
    (chronChk n l ≠ 0 ∧ e = .returned (.tuple #[.slice none 0 0, .int .i64 (chronChk n l)])))

theorem pick_len (l : List Bd) (out : List Nat) : (pick l out).length = out.length := by simp [pick]
theorem pick_drop_erase (l : List Bd) (out : List Nat) (i : Nat) (hi : i < l.length) : (pick l out ++ l.drop i).eraseIdx out.length = pick l out ++ l.drop (i + 1) := by
  rw [List.eraseIdx_append_of_length_le (by rw [pick_len]; exact Nat.le_refl _), pick_len, Nat.sub_self, drop_cons l i hi]
  rfl
theorem pick_mem {l : List Bd} {out : List Nat} {i : Nat} (h : ∀ x, x ∈ out → x < i) (hi : i ≤ l.length) : ∀ c, c ∈ pick l out ++ l.drop i → c ∈ l := by
  intro c hc
  rcases List.mem_append.1 hc with h1 | h1
  · obtain ⟨x, hx, rfl⟩ := List.mem_map.1 h1
    have := h x hx
    rw [List.getD_eq_getElem?_getD, List.getElem?_eq_getElem (by omega)]
    exact List.getElem_mem _
  · exact List.mem_of_mem_drop h1

theorem pick_snoc (l : List Bd) (out : List Nat) (i : Nat) (hi : i < l.length) : pick l out ++ l.drop i = pick l (out ++ [i]) ++ l.drop (i + 1) := by
  rw [drop_cons l i hi]
  simp [pick, List.getD_eq_getElem?_getD, List.getElem?_eq_getElem hi]

/-- What is left, in memory, beside the list of numbers. -/
structure LMem (w : World) (A : Option Addr) (nl cap : Nat) (zs : List Int) (v : Value) : Prop where
  flat : FlatSl w 4 A nl cap zs
  ne : ∀ b off q, A = some ⟨b, off, none⟩ → v.ownBlock = some q → b ≠ q

set_option maxRecDepth 100000 in
set_option maxHeartbeats 16000000 in
theorem least_any (A : Option Addr) (m cap : Nat) (zs : List Int) (n : Int) (w : World) (h : FlatSl w 4 A m cap zs) :
    Calls Try.prog 31 #[.int .i64 n, .slice A m cap] w (LeastPost n (bds zs m) w) := by
  obtain ⟨i0, hi, hy0, hy1, hy2⟩ := info_parts Try.infoI2
  have H := Lib.hid h; clear h
  obtain ⟨l, hl⟩ : ∃ l, l = bds zs m := ⟨_, rfl⟩
  rw [← hl]
  have hll : l.length = m := by rw [hl, bds_len]
  have HL := Lib.hid hl; clear hl
  by_cases hz : chronChk n l = 0
  · have hok : ∃ N : Nat, n = N := by
      refine ⟨n.toNat, ?_⟩
      unfold chronChk at hz
      split at hz
      · omega
      · split at hz <;> omega
    obtain ⟨N, rfl⟩ := hok
    have hC := chronChk_zero.1 hz
    have hn1 := hC.n1
    have hn12 := hC.n12
    have hm40 := hC.few
    rw [hll] at hm40
    have HC := Lib.hid hC
    have hz2 : chronChk (N : Int) (bds zs m) = 0 := by rw [← HL.out]; exact hz
    have hC2 : ChronOk N (bds zs m) := by rw [← HL.out]; exact hC
    have HZ := Lib.hid hz2; have HC2 := Lib.hid hC2; have HLL := Lib.hid hll
    clear hC hz hz2 hC2 hll
    go_enter Try.func31, Try.ntmps31
    go_wp2_with fail
    refine Calls.mono (chronCheck_any _ _ _ _ _ _ H.out) ?_
    rintro e w1 ⟨rfl, hb1⟩
    rw [HZ.out]
    have hs1 := hb1.size
    have hF1 := H.out.keepC (by omega) hb1
    go_wp2_with fail
    refine Calls.mono (fails_ok _ _ _ _ _ _ hF1 HC2.out) ?_
    rintro e w2 ⟨hb, ⟨hf, rfl⟩ | ⟨hf, rfl⟩⟩
    · have hb2 := hb1.trans (hb.mono hs1)
      rw [← HL.out] at hf
      have HF := Lib.hid hf; clear hf
      go_wp2_with fail
      go_returns
      exact ⟨hb2, Or.inr (Or.inl ⟨N, rfl, HC.out, HF.out, rfl⟩)⟩
    · have hb2 := hb1.trans (hb.mono hs1)
      have hs2 := hb2.size
      have hF2 := hF1.keepC (by omega) hb
      rw [← HL.out] at hf
      have hst := least_start hf
      have HST := Lib.hid hst
      have HBADF := Lib.hid hf
      clear hf hst hb hb1 hs1 hF1
      go_wp2_with fail
      refine Calls.mono (clone_any _ _ _ _ _ hF2 (by omega)) ?_
      rintro e w3 ⟨v, rfl, hown, hb⟩
      obtain ⟨A3, cap3, rfl, hF3⟩ := own_flat hown
      have hb3 := hb2.trans (hb.mono hs2)
      have hs3 := hb3.size
      clear hown hb hF2 hb2 hs2
      go_wp2_with fail
      go_loopw [7, 8, 9, 26] (fun vl vo va i' wr => ∃ (i : Nat) (out : List Nat) (Al : Option Addr) (nl capl : Nat) (zl : List Int), i ≤ m ∧ i' = .int .i64 i ∧ va = .int .i64 out.length ∧ vl = .slice Al nl capl ∧ nl = out.length + (m - i) ∧ LMem wr Al nl capl zl vo ∧ bds zl nl = pick l out ++ l.drop i ∧ LeastIn N l i out ∧ wr.ownsRow w.heap.size 3 1 vo out.length (out.map fun (x : Nat) => Value.int .i64 (x : Int)) ∧ Below w.heap.size w wr)
        (fun _ _ _ i' _ => m - (intOf i').toNat)
      case atStart => exact ⟨0, [], A3, m, cap3, zs, by omega, rfl, rfl, rfl, by simp, ⟨hF3, fun b off q _ hq => by simp [Value.ownBlock] at hq⟩, by rw [← HL.out]; rfl, HST.out, World.ownsRow_nil _ _ _ _, hb3⟩
      case round =>
        clear hF3 hb3 hs3
        obtain ⟨i, out, Al, nl, capl, zl, hi2, rfl, rfl, rfl, hnl, hLM, hbd, hin, hown, hbw⟩ := hrel
        have hbs := hbw.size
        have hfew := hin.few
        have HBD := Lib.hid hbd; have HIN := Lib.hid hin
        clear hbd hin
        by_cases hlt : i < m
        · obtain ⟨p, hp⟩ : ∃ p, p = out.length := ⟨_, rfl⟩
          obtain ⟨r, hr⟩ : ∃ r, nl = p + 1 + r := ⟨nl - p - 1, by omega⟩
          subst hr
          rw [← hp]
          rw [← hp] at hown hfew
          have hrr : p + r = out.length + (m - (i + 1)) := by omega
          have hil : i < l.length := by rw [HLL.out]; exact hlt
          have herase : bds (strike zl p) (p + r) = pick l out ++ l.drop (i + 1) := by
            rw [bds_strike zl p r hLM.flat.len, HBD.out, hp, pick_drop_erase l out i hil]
          have hple : p + r + 1 ≤ 40 := by omega
          have HP := Lib.hid hp; have HRR := Lib.hid hrr; have HER := Lib.hid herase; have HIL := Lib.hid hil
          clear hp hrr hnl herase hil
          have hokE : ChronOk N (bds (strike zl p) (p + r)) := by
            refine ⟨hn1, hn12, by rw [bds_len]; omega, fun c hc => HC.out.each c ?_⟩
            rw [HER.out] at hc
            exact pick_mem (fun x hx => Nat.lt_succ_of_lt (HIN.out.lt x hx)) HIL.out c hc
          have HOK := Lib.hid hokE; clear hokE
          go_wp2_with fail
          refine Calls.mono (without_ok _ _ _ _ _ _ hLM.flat (by omega)) ?_
          rintro e w4 ⟨g, gc, rfl, hg, hownS, hb4⟩
          have hown4 := own_below hown hb4
          have hFl4 := hLM.flat.keepC (by omega) hb4
          have hne4 := hLM.ne
          have hb5 := hbw.trans (hb4.mono hbs)
          have hs5 := hb5.size
          have hgq : ∀ q, u8.ownBlock = some q → g ≠ q := fun q hq => by have := (hown.lt q hq).2; omega
          obtain ⟨AS, capS, hvS, hFS⟩ := own_flat hownS
          have hAS : AS = some ⟨g, 0, none⟩ ∧ capS = gc := by simp only [Value.slice.injEq, true_and] at hvS; exact ⟨hvS.1.symm, hvS.2.symm⟩
          obtain ⟨rfl, rfl⟩ := hAS
          have HNE := Lib.hid hne4; have HGQ := Lib.hid hgq
          clear hvS hownS hown hb4 hLM hbw hbs hne4 hgq
          go_wp2_with fail
          refine Calls.mono (fails_ok _ _ _ _ _ _ hFS HOK.out) ?_
          rintro e w5 ⟨hb6, ⟨hf, rfl⟩ | ⟨hf, rfl⟩⟩
          · -- without it there is no contradiction: it is kept
            rw [HER.out] at hf
            have hk := least_keep HIL.out HIN.out hf
            have HK := Lib.hid hk
            have hown5 := own_below hown4 hb6
            have hFl5 := hFl4.keepC (by omega) hb6
            have hb7 := hb5.trans (hb6.mono hs5)
            have hs7 := hb7.size
            clear hf hk hown4 hFl4 hb6 hb5 hs5 hFS
            go_wp2_with (at_builtin; refine wpList_append_own_at _ rfl _ _ 22 rfl w.heap.size 3 i0 (.int .i64 0) 1 8 Try.underlying22 hi hy0 hy1 hy2 rfl (by decide) _ _ _ rfl (hown5.alloc _) ⟨w5.heap.size, 0, none⟩ 1 1 [.int .i64 i] rfl rfl ?c1 ?c2 ?c3 ?c4 ?c5 ?_)
            case c1 => exact cells_one
            case c2 => intro u hu; simp at hu; subst hu; rfl
            case c3 => unfold maxLen; omega
            case c4 => omega
            case c5 => simp; omega
            · intro v' w6 hown' hgrow _ hat
              have hb8 := (hb7.alloc hs7 (.cells #[.int .i64 i] 3)).grown hgrow (by simp; omega) (fun q hq => (hown5.lt q hq).1)
              have R1 : Hid (w6.ownsRow w.heap.size 3 1 v' (out ++ [i]).length ((out ++ [i]).map fun (x : Nat) => Value.int .i64 (x : Int))) := Lib.hid (by
                rw [List.length_append, List.map_append, ← HP.out]; simpa using hown')
              have R2 : Hid (LMem w6 Al (p + 1 + r) capl zl v') := Lib.hid (by
                refine ⟨⟨hFl5.le, hFl5.most, hFl5.len, fun h0 => ?_⟩, fun b off q hA hq => ?_⟩
                · obtain ⟨b, off, hA, hc⟩ := hFl5.at' h0
                  refine ⟨b, off, hA, fun j hj => ?_⟩
                  have hbl := World.block_lt_of_cell? w5 _ (hc j hj)
                  have h1 := hgrow.block b (by simp; simp at hbl; omega) (fun e => HNE.out b off b hA e.symm rfl)
                  exact (World.cell?_of_block (w := w5.alloc (.cells #[.int .i64 i] 3)) h1).trans ((((Below.refl w5.heap.size w5).alloc (Nat.le_refl _) (.cells #[.int .i64 i] 3)).cell (p := ⟨b, off + j, none⟩) hbl).trans (hc j hj))
                · rcases hat with h | h
                  · rw [h] at hq; exact HNE.out b off q hA hq
                  · rw [h] at hq
                    simp at hq
                    obtain ⟨b', off', hA', hc⟩ := hFl5.at' (by omega)
                    rw [hA'] at hA
                    cases hA
                    have hbl := World.block_lt_of_cell? w5 _ (hc 0 (by omega))
                    simp at hbl
                    omega)
              have hlen : ((out ++ [i]).length : Int) = (p : Int) + 1 := by rw [List.length_append, ← HP.out]; simp
              have HLN := Lib.hid hlen
              clear hlen hown' hgrow hat hown5 hFl5 hb7 hs7
              go_wp2_with fail
              go_roundw
              case rel => exact ⟨i + 1, out ++ [i], Al, p + 1 + r, capl, zl, by omega, by go_num, by rw [HLN.out], rfl, by rw [List.length_append]; have := HRR.out; have := HP.out; simp; omega, R2.out, by rw [HBD.out]; exact pick_snoc l out i HIL.out, HK.out, R1.out, hb8⟩
              case measure => simp [intOf]; omega
          · -- it can be left out
            rw [HER.out] at hf
            have hk := least_drop HIL.out HIN.out hf
            have HK := Lib.hid hk
            have hown5 := own_below hown4 hb6
            have hFS5 := hFS.keepC (by omega) hb6
            have hb7 := hb5.trans (hb6.mono hs5)
            have R2 : Hid (LMem w5 (some ⟨g, 0, none⟩) (p + r) capS (strike zl p) u8) := Lib.hid ⟨hFS5, fun b off q hA hq => by cases hA; exact HGQ.out q hq⟩
            have hown6 := Lib.hid hown5
            clear hf hk hown4 hown5 hFl4 hb6 hb5 hs5 hFS hFS5
            go_wp2_with fail
            go_roundw
            case rel => exact ⟨i + 1, out, some ⟨g, 0, none⟩, p + r, capS, strike zl p, by omega, by go_num, by rw [HP.out], rfl, HRR.out, R2.out, HER.out, HK.out, by rw [← HP.out]; exact hown6.out, hb7⟩
            case measure => simp [intOf]; omega
        · obtain rfl : i = m := by omega
          have hne : ¬ Free N l := HBADF.out
          go_wp2_with fail
          go_returns
          exact ⟨hbw, Or.inl ⟨N, rfl, HC.out, hne, out, _, rfl, by rw [HLL.out]; exact HIN.out, hown⟩⟩
  · obtain ⟨r, hr⟩ : ∃ r, r = chronChk n l := ⟨_, rfl⟩
    rw [← hr] at hz
    have r0 : (r != 0) = true := by simpa using hz
    have HR := Lib.hid hr; have HZ := Lib.hid hz; clear hr hz
    go_enter Try.func31, Try.ntmps31
    go_wp2_with fail
    refine Calls.mono (chronCheck_any _ _ _ _ _ _ H.out) ?_
    rintro e w1 ⟨rfl, hb⟩
    rw [← HL.out, ← HR.out]
    go_wp2_with fail
    go_returns
    exact ⟨hb, Or.inr (Or.inr ⟨by rw [← HR.out]; exact HZ.out, by rw [← HR.out]; rfl⟩)⟩

end Go.Proofs.Ytmeppcoekmoofaa
