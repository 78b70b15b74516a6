/- SpreadReaches, the walk: in a network in which all nodes are joined, all hold the newest notice of each author in the end. -/
import Derived.Test.YtocdboopmfgkpaaDoorSpreadWorks
import Derived.Test.YtocdboopmfgkpaaDoorSpreadLaw
import Derived.Test.YtocdboopmfgkpaaDoorNoticeNumbers
import Derived.Test.YtocdboopmfgkpaaDoorOpen
import Derived.Test.YtocdboopmfgkpaaDoorRegH
namespace Go.Proofs.YtocdboopmfgkpaaDoor
open Go.RowKit
set_option linter.unusedSimpArgs false
set_option linter.unusedVariables false

def ex5 (j : Nat) : Nat := if j = 0 then 0 else if j = 1 then 1 else if j = 2 then 2 else 4
def ey5 (j : Nat) : Nat := if j = 0 then 1 else if j = 1 then 2 else 3
def tB : ByteArray := ⟨#[116]⟩
def D5 : NetD := ⟨tB, fun a m => sumAll (ix [5, 7] a) (ntL a m tB), 2, 5, ix [5, 7], fun i => (adjN ex5 ey5 i 4).length, fun i j => ((adjN ex5 ey5 i 4)[j]?).getD 0⟩
theorem ok5 : NetOk D5 := ⟨(by decide : 1 ≤ 5), (by decide : 5 ≤ 12), (by decide : 1 ≤ 2), (by decide : 2 ≤ 8), (by decide : ∀ i, i < 5 → (adjN ex5 ey5 i 4).length ≤ 80), (by decide : ∀ i, i < 5 → ∀ j, j < (adjN ex5 ey5 i 4).length → ((adjN ex5 ey5 i 4)[j]?).getD 0 < 5)⟩
theorem nok5 : NewOk [5, 7] 2 5 4 ex5 ey5 := ⟨by decide, by decide, by decide, by decide, by decide, by decide, by decide, by decide, by decide⟩
theorem reach5 : ∀ i, i < D5.n → ∀ j, j < D5.n → reachN D5 4 i j = true := by
  show ∀ i, i < 5 → ∀ j, j < 5 → reachN D5 4 i j = true
  decide
theorem t_ok (a : Nat) (n : Int) (a1 : a < 2) (n0 : 1 ≤ n) (n1 : n ≤ 20) : NtOk a n tB 0 := ⟨by omega, by omega, n0, by omega, by decide, by decide, by decide, by decide⟩
theorem key5 (a : Nat) (ha : a < 2) : 1 ≤ ix [5, 7] a ∧ ix [5, 7] a ≤ 1000000000 := by
  match a, ha with
  | 0, _ => decide
  | 1, _ => decide

/-- Between two notices. -/
structure R5 (L : NetL) (base kb bB : Nat) (wv : World) (H : Nat → Nat → Int) : Prop where
  net : NetW D5 L base wv H
  pos : ∀ x y, 0 ≤ H x y
  box : VRow wv bB 2 (fun j => .int .i64 (mxN H j 5))
  key : ∀ j, j < 2 → wv.cell? ⟨kb, j, none⟩ = some (.int .i64 (ix [5, 7] j))
  kl : kb < wv.heap.size
theorem R5.below {L : NetL} {base kb bB : Nat} {w w' : World} {H : Nat → Nat → Int} (h : R5 L base kb bB w H) (hb : Below w.heap.size w w') : R5 L base kb bB w' H :=
  ⟨h.net.below hb, h.pos, h.box.below hb, fun j hj => (hb.cell (p := ⟨kb, j, none⟩) h.kl).trans (h.key j hj), Nat.lt_of_lt_of_le h.kl hb.size⟩

theorem below_grownR {w w' : World} (hb : Below w.heap.size w w') (r : Option Nat) : w.grownBy w' r := ⟨hb.os, hb.tape, hb.output, hb.size, fun k hk _ => hb.block k hk⟩
theorem NtBox.grown {w w' : World} {b : Nat} {a n : Int} {s : ByteArray} {m : Int} {r : Option Nat} (h : NtBox w b a n s m) (hg : w.grownBy w' r) (hr : some b ≠ r) : NtBox w' b a n s m := World.rowIs.of_block h (hg.block b (World.rowIs.lt h) hr)
/-- Behind a Put and behind the box's turn. -/
theorem R5.put {L : NetL} {base kb bB : Nat} {w w6 : World} {H : Nat → Nat → Int} (h : R5 L base kb bB w H) (hF : NetFar D5 L (some bB)) (hkb : kb < base) (nd a : Nat) (m : Int) (hnd : nd < 5) (ha : a < 2) (hm : 0 ≤ m)
    (hN : NetW D5 L base w6 (putH H nd a m)) (hg : w.grownBy w6 (some (L.hb nd))) (hkB : kb ≠ bB) :
    R5 L base kb bB (w6.drew.setCell ⟨bB, a, none⟩ (.int .i64 (max (mxN H a 5) m))) (putH H nd a m) := by
  have oh := h.net.oh nd hnd
  have g1 := setCell_grown w6.drew bB a (.int .i64 (max (mxN H a 5) m))
  have bd : Below w6.heap.size w6 w6.drew := (Below.refl _ _).drew
  have bx : VRow w6 bB 2 (fun j => .int .i64 (mxN H j 5)) := h.box.grown hg (hF.hb nd hnd).symm
  refine ⟨(hN.below bd).grown g1 hF, putH_nonneg H nd a m hm h.pos, ((bx.below bd).set a ha _).congr (fun j hj => ?_), fun j hj => ?_, ?_⟩
  · rw [mxN_put H nd a m hm j 5]
    by_cases e : j = a
    · subst e
      rw [if_pos rfl, if_pos ⟨rfl, hnd⟩]
      congr 1
      rw [Int.max_def]; split <;> split <;> omega
    · rw [if_neg e, if_neg (fun h => e h.1)]
  · have c1 := (hg.cell_far ⟨kb, j, none⟩ h.kl (fun e => by have := Option.some.inj e; simp at this; omega)).trans (h.key j hj)
    have k6 : kb < w6.heap.size := Nat.lt_of_lt_of_le h.kl hg.size
    have c2 := (bd.cell (p := ⟨kb, j, none⟩) k6).trans c1
    exact (g1.cell_far ⟨kb, j, none⟩ k6 (fun e => hkB (Option.some.inj e))).trans c2
  · have := h.kl; have := hg.size; have := g1.size; have := bd.size; omega

set_option maxRecDepth 100000 in
set_option maxHeartbeats 40000000 in
theorem spreadReaches_walk (A1 : Option Addr) (n1 c1 : Nat) (zs1 : List Int) (A2 : Option Addr) (n2 c2 : Nat) (zs2 : List Int) (w : World) (ht : Tab w) (h1 : FlatSl w 1 A1 n1 c1 zs1) (h2 : FlatSl w 1 A2 n2 c2 zs2) :
    Calls Tryd.prog 5 #[.slice A1 n1 c1, .slice A2 n2 c2] w fun e w' => e = .returned (.bool true) ∧ Below w.heap.size w w' := by
  have HT := Lib.hid ht
  have g1 := h1.le; have g2 := h2.le; have g3 := h1.most; have g4 := h2.most
  unfold maxLen at g3 g4
  have H1 := Lib.hid h1; have H2 := Lib.hid h2
  clear ht h1 h2
  go_enter Tryd.func5, Tryd.ntmps5
  go_wp2_with fail
  refine Calls.mono (spreadWorks_ok _ HT.out) ?_
  rintro e w1 ⟨rfl, hb⟩
  have B1 := Lib.hid hb
  clear hb
  go_wp2_with fail
  obtain ⟨W, hW⟩ : ∃ W, W = (w1.alloc (.cells #[.int .i64 5, .int .i64 7] 3)).alloc (.cells #[.int .i64 0, .int .i64 1, .int .i64 1, .int .i64 2, .int .i64 2, .int .i64 3, .int .i64 4, .int .i64 3] 39) := ⟨_, rfl⟩
  rw [← hW]
  have bW : Below w1.heap.size w1 W := by rw [hW]; exact ((Below.refl _ w1).alloc (Nat.le_refl _) _).alloc (by simp) _
  have hk : FlatSl W 1 (some ⟨w1.heap.size, 0, none⟩) 2 2 [5, 7] := ⟨by omega, by unfold maxLen; omega, rfl, fun _ => ⟨_, _, rfl, fun j hj => by
    match j, hj with
    | 0, _ => rw [hW]; simp [ix]
    | 1, _ => rw [hW]; simp [ix]⟩⟩
  have he : FlatSl W 2 (some ⟨w1.heap.size + 1, 0, none⟩) 4 4 [0, 1, 1, 2, 2, 3, 4, 3] := ⟨by omega, by unfold maxLen; omega, rfl, fun _ => ⟨_, _, rfl, fun j hj => by
    match j, hj with
    | 0, _ => rw [hW]; simp [ix]
    | 1, _ => rw [hW]; simp [ix]
    | 2, _ => rw [hW]; simp [ix]
    | 3, _ => rw [hW]; simp [ix]
    | 4, _ => rw [hW]; simp [ix]
    | 5, _ => rw [hW]; simp [ix]
    | 6, _ => rw [hW]; simp [ix]
    | 7, _ => rw [hW]; simp [ix]⟩⟩
  have hK : ∀ j, j < 2 → W.cell? ⟨w1.heap.size, j, none⟩ = some (.int .i64 (ix [5, 7] j)) := fun j hj => by
    match j, hj with
    | 0, _ => rw [hW]; simp [ix]
    | 1, _ => rw [hW]; simp [ix]
  have hE : ∀ j, j < 4 → ix [0, 1, 1, 2, 2, 3, 4, 3] (j * 2) = (ex5 j : Int) ∧ ix [0, 1, 1, 2, 2, 3, 4, 3] (j * 2 + 1) = (ey5 j : Int) := by decide
  have sW : w1.heap.size + 2 = W.heap.size := by rw [hW]; simp
  have s1 := B1.out.size
  have BW := Lib.hid (B1.out.trans (bW.mono s1))
  clear hW bW
  refine Calls.mono (new_ok w1.heap.size 0 2 2 [5, 7] 5 (some ⟨w1.heap.size + 1, 0, none⟩) 4 4 [0, 1, 1, 2, 2, 3, 4, 3] ex5 ey5 W hk he hE nok5 tB (fun a m => sumAll (ix [5, 7] a) (ntL a m tB)) (by decide)) ?_
  rintro e w2 ⟨L, rfl, hN, hb⟩
  have B2 := Lib.hid (BW.out.trans (hb.mono (by omega)))
  have s2 := hb.size
  have HN2 := Lib.hid (show NetW D5 L W.heap.size w2 (fun _ _ => 0) from hN)
  have HK2 := Lib.hid (fun j (hj : j < 2) => (hb.cell (p := ⟨w1.heap.size, j, none⟩) (show w1.heap.size < W.heap.size by omega)).trans (hK j hj))
  clear hN hb hk he hE hK
  go_wp2_with fail
  obtain ⟨kb, hkb⟩ : ∃ b, b = w1.heap.size := ⟨_, rfl⟩
  obtain ⟨bB, hbB⟩ : ∃ b, b = w2.heap.size := ⟨_, rfl⟩
  rw [← hkb] at HK2 ⊢
  rw [← hbB]
  have wk : w.heap.size ≤ kb := by omega
  have kW : kb < W.heap.size := by omega
  have Wb : W.heap.size ≤ bB := by omega
  obtain ⟨base, hbase⟩ : ∃ b, b = W.heap.size := ⟨_, rfl⟩
  rw [← hbase] at HN2 kW Wb
  have HR3 := Lib.hid (show R5 L base kb bB (w2.alloc (.cells #[.int .i64 0, .int .i64 0] 39)) (fun _ _ => 0) from by
    have hb := (Below.refl w2.heap.size w2).alloc (Nat.le_refl _) (.cells #[.int .i64 0, .int .i64 0] 39)
    refine ⟨HN2.out.below hb, fun _ _ => Int.le_refl _, ⟨fun j hj => ?_, fun j hj => ?_, ?_⟩, fun j hj => (hb.cell (p := ⟨kb, j, none⟩) (by show kb < _; omega)).trans (HK2.out j hj), ?_⟩
    · rw [hbB, mxN_zero]
      match j, hj with
      | 0, _ => simp
      | 1, _ => simp
    · rw [hbB]; simp
    · rw [hbB]; simp
    · simp; omega)
  have HF := Lib.hid (show NetFar D5 L (some bB) from by
    have h := HN2.out
    have ne : ∀ {x : Nat}, x < w2.heap.size → some x ≠ some bB := fun hx e => by have := Option.some.inj e; omega
    exact ⟨ne h.lb, ne h.lk, ne h.ln, ne h.lh, fun i hi => ne (h.lnb i hi), fun i hi => ne (h.row i hi).lt⟩)
  have HOH := Lib.hid (show ∀ i, i < 5 → base ≤ L.hb i from HN2.out.oh)
  have OB := HN2.out.ob
  have B3 := Lib.hid (B2.out.alloc (by have := B2.out.size; omega) (.cells #[.int .i64 0, .int .i64 0] 39))
  have hbw : w.heap.size ≤ base := by omega
  have hsz : bB < (w2.alloc (.cells #[.int .i64 0, .int .i64 0] 39)).heap.size := by rw [hbB]; simp
  clear HK2 HN2 hkb hbB hbase
  go_loopw [40] (fun i' wv => ∃ (i : Nat) (H : Nat → Nat → Int), i ≤ n2 ∧ i' = .int .i64 i ∧ R5 L base kb bB wv H ∧ Below w.heap.size w wv) (fun i' _ => n2 - (intOf i').toNat)
  case atStart => exact ⟨0, fun _ _ => 0, by omega, rfl, HR3.out, B3.out⟩
  case round =>
    clear HR3 B3
    obtain ⟨i, H, hi, rfl, hR, hb⟩ := hrel
    by_cases hin : i < n2
    · have i0 : (0 : Int) ≤ (i : Int) := by omega
      have i1 : (i : Int) < (n2 : Int) := by omega
      have h2' := H2.out.stay (by decide) hb
      obtain ⟨q2, o2, hA2, hc⟩ := h2'.at' (by omega)
      have x0 := hc i (by omega)
      subst hA2
      have HR := Lib.hid hR; have HB := Lib.hid hb
      obtain ⟨z, hz⟩ : ∃ z, z = ix zs2 i := ⟨_, rfl⟩
      rw [← hz] at x0
      clear hR hb hc h2' hz
      by_cases hi1 : i < n1
      · have i2 : (i : Int) < (n1 : Int) := by omega
        obtain ⟨a, ha⟩ : ∃ a, a = i % 2 := ⟨_, rfl⟩
        have a1 : a < 2 := by omega
        have ha' : (i : Int).tmod 2 = (a : Int) := by rw [Int.tmod_eq_emod_of_nonneg (by omega)]; omega
        obtain ⟨r, hr⟩ : ∃ r, r = z % 20 := ⟨_, rfl⟩
        have r0 : 0 ≤ r := by omega
        have r1 : r < 20 := by omega
        have p1 : IntKind.i64.wrap (1 + r) = 1 + r := IntWalk.i64_in _ (by omega)
        obtain ⟨ky, hky⟩ : ∃ x, x = ix [5, 7] a := ⟨_, rfl⟩
        obtain ⟨k0, k1⟩ := key5 a a1
        rw [← hky] at k0 k1
        obtain ⟨M, hM⟩ : ∃ x, x = sumAll ky (ntL a (1 + r) ⟨#[116]⟩) := ⟨_, rfl⟩
        have hMr := sumAll_range ky (ntL a (1 + r) ⟨#[116]⟩)
        rw [← hM] at hMr
        obtain ⟨M0, M1⟩ := hMr
        have hsg : ∀ W, Tab W → Calls Tryd.prog 11 #[.int .i64 ky, .agg #[.int .i64 a, .int .i64 (1 + r), .string ⟨#[116]⟩, .int .i64 0]] W fun e w' => e = .returned (.tuple #[.agg #[.int .i64 a, .int .i64 (1 + r), .string ⟨#[116]⟩, .int .i64 M], .int .i64 0]) ∧ Below W.heap.size W w' := fun W hW => by
          rw [hM]; exact sign_ok ky a (1 + r) ⟨#[116]⟩ 0 W hW (t_ok a (1 + r) a1 (by omega) (by omega)) k0 k1
        have HS := Lib.hid hsg
        have HKC := Lib.hid (show wr.cell? ⟨kb, a, none⟩ = some (.int .i64 ky) by rw [hky]; exact HR.out.key a a1)
        have Hr := Lib.hid hr; have Hky := Lib.hid hky; have HM := Lib.hid hM
        have HTX := Lib.hid (show Tab wr.drew from (HT.out.below HB.out).drew)
        have a0 : (0 : Int) ≤ (a : Int) := by omega
        have a2 : (a : Int) < 2 := by omega
        have Ha := Lib.hid ha
        clear hsg hr hky hM ha
        go_wp2_with fail
        obtain ⟨X, hX⟩ : ∃ X, X = wr.drew := ⟨_, rfl⟩
        have BX := Lib.hid (show Below wr.heap.size wr X by rw [hX]; exact (Below.refl _ _).drew)
        have HhX := Lib.hid hX
        clear hX
        go_cut [12, 13] (fun p e wx => ∃ b3, p = .pointer (some ⟨b3, 0, none⟩) ∧ e = .int .i64 0 ∧ wr.heap.size ≤ b3 ∧ NtBox wx b3 a (1 + r) ⟨#[116]⟩ M ∧ Below wr.heap.size wr wx)
        case first =>
          have hf : X.cell? ⟨kb, a, none⟩ = some (.int .i64 ky) ∧ Below wr.heap.size wr X := ⟨(BX.out.cell (p := ⟨kb, a, none⟩) HR.out.kl).trans HKC.out, BX.out⟩
          refine wp_region_G [(14, fun w' => w'.cell? ⟨kb, a, none⟩ = some (.int .i64 ky) ∧ Below wr.heap.size wr w'), (15, fun _ => True)] (by kernel_rfl) (heldC_two (fun _ => by rw [← HhX.out]; exact hf) (fun _ => trivial)) (fun hF => ?_)
          rw [← HhX.out] at hF ⊢
          refine wpG_take (oi := ?oi1) (v := ?vv1) 0 _ ?hi1 (List.Mem.head _) ?hc1 ?hQ1 hF ?hw1 ?hy1 (fun hF => ?hh1)
          case hi1 => (simp only [List.getElem?_toArray, List.getElem?_cons_succ, List.getElem?_cons_zero]; rfl)
          case hc1 => kernel_rfl
          case hQ1 => exact fun _ _ _ h => h
          case hw1 => rfl
          case hy1 => (intro wz hz; skip; go_simp; try (with_reducible rfl))
          try simp only [Act.put, List.setIfInBounds_toArray, List.set_cons_zero, List.set_cons_succ]
          refine wpG_take (oi := ?oi2) (v := ?vv2) 1 _ ?hi2 (List.Mem.head _) ?hc2 ?hQ2 hF ?hw2 ?hy2 (fun hF => ?hh2)
          case hi2 => (simp only [List.getElem?_toArray, List.getElem?_cons_succ, List.getElem?_cons_zero]; rfl)
          case hc2 => kernel_rfl
          case hQ2 => exact fun _ _ _ h => h
          case hw2 => rfl
          case hy2 => (intro wz hz; skip; go_simp; try (with_reducible rfl))
          try simp only [Act.put, List.setIfInBounds_toArray, List.set_cons_zero, List.set_cons_succ]
          refine wpG_take (oi := ?oi3) (v := ?vv3) 2 _ ?hi3 (List.Mem.head _) ?hc3 ?hQ3 hF ?hw3 ?hy3 (fun hF => ?hh3)
          case hi3 => (simp only [List.getElem?_toArray, List.getElem?_cons_succ, List.getElem?_cons_zero]; rfl)
          case hc3 => kernel_rfl
          case hQ3 => exact fun _ _ _ h => h
          case hw3 => rfl
          case hy3 => (intro wz hz; skip; go_simp; try (with_reducible rfl))
          try simp only [Act.put, List.setIfInBounds_toArray, List.set_cons_zero, List.set_cons_succ]
          refine wpG_take (oi := ?oi4) (v := ?vv4) 3 _ ?hi4 (List.Mem.head _) ?hc4 ?hQ4 hF ?hw4 ?hy4 (fun hF => ?hh4)
          case hi4 => (simp only [List.getElem?_toArray, List.getElem?_cons_succ, List.getElem?_cons_zero]; rfl)
          case hc4 => kernel_rfl
          case hQ4 => exact fun _ _ _ h => h
          case hw4 => rfl
          case hy4 => (intro wz hz; have zc := hz.1; go_simp; try (with_reducible rfl))
          try simp only [Act.put, List.setIfInBounds_toArray, List.set_cons_zero, List.set_cons_succ]
          refine wpG_take (oi := ?oi5) (v := ?vv5) 4 _ ?hi5 (List.Mem.head _) ?hc5 ?hQ5 hF ?hw5 ?hy5 (fun hF => ?hh5)
          case hi5 => (simp only [List.getElem?_toArray, List.getElem?_cons_succ, List.getElem?_cons_zero]; rfl)
          case hc5 => kernel_rfl
          case hQ5 => exact fun _ _ _ h => h
          case hw5 => rfl
          case hy5 => (intro wz hz; skip; go_simp; try (with_reducible rfl))
          try simp only [Act.put, List.setIfInBounds_toArray, List.set_cons_zero, List.set_cons_succ]
          refine wpG_take (oi := ?oi6) (v := ?vv6) 5 _ ?hi6 (List.Mem.head _) ?hc6 ?hQ6 hF ?hw6 ?hy6 (fun hF => ?hh6)
          case hi6 => (simp only [List.getElem?_toArray, List.getElem?_cons_succ, List.getElem?_cons_zero]; rfl)
          case hc6 => kernel_rfl
          case hQ6 => exact fun _ _ _ h => h
          case hw6 => rfl
          case hy6 => (intro wz hz; skip; go_simp; try (with_reducible rfl))
          try simp only [Act.put, List.setIfInBounds_toArray, List.set_cons_zero, List.set_cons_succ]
          refine wpG_ready (rs := [6, 13]) (by kernel_rfl) (by simp) ?_
          refine all_two ?_ ?_
          · skip
            refine wpOp_hand (oi := ?oi7) ?hi7 (fun K hK => ?hh7)
            case hi7 => (simp only [List.getElem?_toArray, List.getElem?_cons_succ, List.getElem?_cons_zero]; rfl)
            go_simp
            refine Calls.mono (at_as z _ r _ Hr (by omega) (by omega)) ?_
            rintro e _ ⟨rfl, rfl⟩
            refine hK.out _ _ (heldC_two (fun _ => hf) (fun _ => trivial)) (fun hF => ?_)
            clear hK K
            try simp only [Act.put, List.setIfInBounds_toArray, List.set_cons_zero, List.set_cons_succ]
            refine wpG_take (oi := ?oi8) (v := ?vv8) 7 _ ?hi8 (List.Mem.head _) ?hc8 ?hQ8 hF ?hw8 ?hy8 (fun hF => ?hh8)
            case hi8 => (simp only [List.getElem?_toArray, List.getElem?_cons_succ, List.getElem?_cons_zero]; rfl)
            case hc8 => kernel_rfl
            case hQ8 => exact fun _ _ _ h => h
            case hw8 => rfl
            case hy8 => (intro wz hz; skip; go_simp; try (with_reducible rfl))
            try simp only [Act.put, List.setIfInBounds_toArray, List.set_cons_zero, List.set_cons_succ]
            refine wpG_take (oi := ?oi9) (v := ?vv9) 8 _ ?hi9 (List.Mem.head _) ?hc9 ?hQ9 hF ?hw9 ?hy9 (fun hF => ?hh9)
            case hi9 => (simp only [List.getElem?_toArray, List.getElem?_cons_succ, List.getElem?_cons_zero]; rfl)
            case hc9 => kernel_rfl
            case hQ9 => exact fun _ _ _ h => h
            case hw9 => rfl
            case hy9 => (intro wz hz; skip; go_simp; try (with_reducible rfl))
            try simp only [Act.put, List.setIfInBounds_toArray, List.set_cons_zero, List.set_cons_succ]
            refine wpG_ready (rs := [9, 13]) (by kernel_rfl) (by simp) ?_
            refine all_two ?_ ?_
            · skip
              refine wpOp_hand (oi := ?oi10) ?hi10 (fun K hK => ?hh10)
              case hi10 => (simp only [List.getElem?_toArray, List.getElem?_cons_succ, List.getElem?_cons_zero]; rfl)
              go_simp
              refine Calls.mono (HS.out _ ((HT.out.below HB.out).below hf.2)) ?_
              rintro e wq ⟨rfl, hb⟩
              have hfn : wq.cell? ⟨kb, a, none⟩ = some (.int .i64 ky) ∧ Below wr.heap.size wr wq := ⟨(hb.cell (p := ⟨kb, a, none⟩) (cell_lt hf.1)).trans hf.1, hf.2.trans (hb.mono hf.2.size)⟩
              clear hf hb
              have hf := hfn
              clear hfn
              refine hK.out _ _ (heldC_two (fun _ => hf) (fun _ => trivial)) (fun hF => ?_)
              clear hK K
              try simp only [Act.put, List.setIfInBounds_toArray, List.set_cons_zero, List.set_cons_succ]
              refine wpG_take (oi := ?oi11) (v := ?vv11) 10 _ ?hi11 (List.Mem.head _) ?hc11 ?hQ11 hF ?hw11 ?hy11 (fun hF => ?hh11)
              case hi11 => (simp only [List.getElem?_toArray, List.getElem?_cons_succ, List.getElem?_cons_zero]; rfl)
              case hc11 => kernel_rfl
              case hQ11 => exact fun _ _ _ h => h
              case hw11 => rfl
              case hy11 => (intro wz hz; skip; go_simp; try (with_reducible rfl))
              try simp only [Act.put, List.setIfInBounds_toArray, List.set_cons_zero, List.set_cons_succ]
              refine wpG_take (oi := ?oi12) (v := ?vv12) 11 _ ?hi12 (List.Mem.head _) ?hc12 ?hQ12 hF ?hw12 ?hy12 (fun hF => ?hh12)
              case hi12 => (simp only [List.getElem?_toArray, List.getElem?_cons_succ, List.getElem?_cons_zero]; rfl)
              case hc12 => kernel_rfl
              case hQ12 => exact fun _ _ _ h => h
              case hw12 => rfl
              case hy12 => (intro wz hz; skip; go_simp; try (with_reducible rfl))
              try simp only [Act.put, List.setIfInBounds_toArray, List.set_cons_zero, List.set_cons_succ]
              refine wpG_take (oi := ?oi13) (v := ?vv13) 12 _ ?hi13 (List.Mem.tail _ (List.Mem.head _)) ?hc13 ?hQ13 hF ?hw13 ?hy13 (fun hF => ?hh13)
              case hi13 => (simp only [List.getElem?_toArray, List.getElem?_cons_succ, List.getElem?_cons_zero]; rfl)
              case hc13 => kernel_rfl
              case hQ13 => exact fun _ _ _ h => h
              case hw13 => rfl
              case hy13 => (intro wz hz; skip; go_simp; try (with_reducible rfl))
              try simp only [Act.put, List.setIfInBounds_toArray, List.set_cons_zero, List.set_cons_succ]
              refine wpG_ready (rs := [13]) (by kernel_rfl) (by simp) ?_
              refine all_one ?_
              refine wpOp_hand (oi := ?oi14) ?hi14 (fun K hK => ?hh14)
              case hi14 => (simp only [List.getElem?_toArray, List.getElem?_cons_succ, List.getElem?_cons_zero]; rfl)
              go_simp
              have hN := NtBox.new wq 0 0 ⟨#[]⟩ 0
              have hs3 := hf.2.size
              obtain ⟨b3, hb3⟩ : ∃ b, b = wq.heap.size := ⟨_, rfl⟩
              obtain ⟨Y, hY⟩ : ∃ Y, Y = wq.alloc (.cells #[.int .i64 0, .int .i64 0, .string ⟨#[]⟩, .int .i64 0] 23) := ⟨_, rfl⟩
              have hfn : Y.cell? ⟨kb, a, none⟩ = some (.int .i64 ky) ∧ Below wr.heap.size wr Y := by rw [hY]; exact ⟨(((Below.refl _ _).alloc (Nat.le_refl _) _).cell (p := ⟨kb, a, none⟩) (cell_lt hf.1)).trans hf.1, hf.2.alloc hs3 _⟩
              rw [← hb3] at hs3
              rw [← hY, ← hb3] at hN ⊢
              clear hf
              have hf := hfn
              clear hfn hY hb3
              refine hK.out _ _ (heldC_two (fun _ => hf) (fun _ => trivial)) (fun hF => ?_)
              clear hK K
              try simp only [Act.put, List.setIfInBounds_toArray, List.set_cons_zero, List.set_cons_succ]
              refine wpG_ready (rs := [14]) (by kernel_rfl) (by simp) ?_
              refine all_one ?_
              have x0 := hN.c0; have x1 := hN.c1; have x2 := hN.c2; have x3 := hN.c3; have xf0 := hN.free 0; have xf1 := hN.free 1; have xf2 := hN.free 2; have xf3 := hN.free 3; have xl := hN.lt
              refine wpOp_hand (oi := ?oi15) ?hi15 (fun K hK => ?hh15)
              case hi15 => (simp only [List.getElem?_toArray, List.getElem?_cons_succ, List.getElem?_cons_zero]; rfl)
              go_simp
              refine hK.out _ _ (heldC_two (fun h => absurd h (by simp)) (fun _ => trivial)) (fun hF => ?_)
              clear hK K
              try simp only [Act.put, List.setIfInBounds_toArray, List.set_cons_zero, List.set_cons_succ]
              refine wpG_ready (rs := [15]) (by kernel_rfl) (by simp) ?_
              refine all_one ?_
              refine wpOp_hand (oi := ?oi16) ?hi16 (fun K hK => ?hh16)
              case hi16 => (simp only [List.getElem?_toArray, List.getElem?_cons_succ, List.getElem?_cons_zero]; rfl)
              go_simp
              refine hK.out _ _ (heldC_two (fun h => absurd h (by simp)) (fun h => absurd h (by simp))) (fun hF => ?_)
              clear hK K
              try simp only [Act.put, List.setIfInBounds_toArray, List.set_cons_zero, List.set_cons_succ]
              refine wpG_done (by kernel_rfl) ?_ _
              have hNn := hN.set a (1 + r) ⟨#[116]⟩ M
              have hbl := (((hf.2.setCell (p := ⟨b3, 0, none⟩) hs3 (.int .i64 a)).setCell (p := ⟨b3, 1, none⟩) hs3 (.int .i64 (1 + r))).setCell (p := ⟨b3, 2, none⟩) hs3 (.string ⟨#[116]⟩)).setCell (p := ⟨b3, 3, none⟩) hs3 (.int .i64 M)
              clear x0 xf0 x1 xf1 x2 xf2 x3 xf3 xl
              clear hf hN
              go_wp2_with fail
              go_meet
              exact ⟨b3, rfl, rfl, hs3, hNn, hbl⟩
            · skip
              refine wpOp_hand (oi := ?oi17) ?hi17 (fun K hK => ?hh17)
              case hi17 => (simp only [List.getElem?_toArray, List.getElem?_cons_succ, List.getElem?_cons_zero]; rfl)
              go_simp
              have hN := NtBox.new X 0 0 ⟨#[]⟩ 0
              have hs3 := hf.2.size
              obtain ⟨b3, hb3⟩ : ∃ b, b = X.heap.size := ⟨_, rfl⟩
              obtain ⟨Y, hY⟩ : ∃ Y, Y = X.alloc (.cells #[.int .i64 0, .int .i64 0, .string ⟨#[]⟩, .int .i64 0] 23) := ⟨_, rfl⟩
              have hfn : Y.cell? ⟨kb, a, none⟩ = some (.int .i64 ky) ∧ Below wr.heap.size wr Y := by rw [hY]; exact ⟨(((Below.refl _ _).alloc (Nat.le_refl _) _).cell (p := ⟨kb, a, none⟩) (cell_lt hf.1)).trans hf.1, hf.2.alloc hs3 _⟩
              rw [← hb3] at hs3
              rw [← hY, ← hb3] at hN ⊢
              clear hf
              have hf := hfn
              clear hfn hY hb3
              refine hK.out _ _ (heldC_two (fun _ => hf) (fun _ => trivial)) (fun hF => ?_)
              clear hK K
              try simp only [Act.put, List.setIfInBounds_toArray, List.set_cons_zero, List.set_cons_succ]
              refine wpG_ready (rs := [9]) (by kernel_rfl) (by simp) ?_
              refine all_one ?_
              refine wpOp_hand (oi := ?oi18) ?hi18 (fun K hK => ?hh18)
              case hi18 => (simp only [List.getElem?_toArray, List.getElem?_cons_succ, List.getElem?_cons_zero]; rfl)
              go_simp
              refine Calls.mono (HS.out _ ((HT.out.below HB.out).below hf.2)) ?_
              rintro e wq ⟨rfl, hb⟩
              have hfn : wq.cell? ⟨kb, a, none⟩ = some (.int .i64 ky) ∧ Below wr.heap.size wr wq := ⟨(hb.cell (p := ⟨kb, a, none⟩) (cell_lt hf.1)).trans hf.1, hf.2.trans (hb.mono hf.2.size)⟩
              have hNn := hN.below hb
              clear hN
              have hN := hNn
              clear hNn
              clear hf hb
              have hf := hfn
              clear hfn
              refine hK.out _ _ (heldC_two (fun _ => hf) (fun _ => trivial)) (fun hF => ?_)
              clear hK K
              try simp only [Act.put, List.setIfInBounds_toArray, List.set_cons_zero, List.set_cons_succ]
              refine wpG_take (oi := ?oi19) (v := ?vv19) 10 _ ?hi19 (List.Mem.head _) ?hc19 ?hQ19 hF ?hw19 ?hy19 (fun hF => ?hh19)
              case hi19 => (simp only [List.getElem?_toArray, List.getElem?_cons_succ, List.getElem?_cons_zero]; rfl)
              case hc19 => kernel_rfl
              case hQ19 => exact fun _ _ _ h => h
              case hw19 => rfl
              case hy19 => (intro wz hz; skip; go_simp; try (with_reducible rfl))
              try simp only [Act.put, List.setIfInBounds_toArray, List.set_cons_zero, List.set_cons_succ]
              refine wpG_take (oi := ?oi20) (v := ?vv20) 11 _ ?hi20 (List.Mem.head _) ?hc20 ?hQ20 hF ?hw20 ?hy20 (fun hF => ?hh20)
              case hi20 => (simp only [List.getElem?_toArray, List.getElem?_cons_succ, List.getElem?_cons_zero]; rfl)
              case hc20 => kernel_rfl
              case hQ20 => exact fun _ _ _ h => h
              case hw20 => rfl
              case hy20 => (intro wz hz; skip; go_simp; try (with_reducible rfl))
              try simp only [Act.put, List.setIfInBounds_toArray, List.set_cons_zero, List.set_cons_succ]
              refine wpG_take (oi := ?oi21) (v := ?vv21) 12 _ ?hi21 (List.Mem.tail _ (List.Mem.head _)) ?hc21 ?hQ21 hF ?hw21 ?hy21 (fun hF => ?hh21)
              case hi21 => (simp only [List.getElem?_toArray, List.getElem?_cons_succ, List.getElem?_cons_zero]; rfl)
              case hc21 => kernel_rfl
              case hQ21 => exact fun _ _ _ h => h
              case hw21 => rfl
              case hy21 => (intro wz hz; skip; go_simp; try (with_reducible rfl))
              try simp only [Act.put, List.setIfInBounds_toArray, List.set_cons_zero, List.set_cons_succ]
              refine wpG_ready (rs := [14]) (by kernel_rfl) (by simp) ?_
              refine all_one ?_
              have x0 := hN.c0; have x1 := hN.c1; have x2 := hN.c2; have x3 := hN.c3; have xf0 := hN.free 0; have xf1 := hN.free 1; have xf2 := hN.free 2; have xf3 := hN.free 3; have xl := hN.lt
              refine wpOp_hand (oi := ?oi22) ?hi22 (fun K hK => ?hh22)
              case hi22 => (simp only [List.getElem?_toArray, List.getElem?_cons_succ, List.getElem?_cons_zero]; rfl)
              go_simp
              refine hK.out _ _ (heldC_two (fun h => absurd h (by simp)) (fun _ => trivial)) (fun hF => ?_)
              clear hK K
              try simp only [Act.put, List.setIfInBounds_toArray, List.set_cons_zero, List.set_cons_succ]
              refine wpG_ready (rs := [15]) (by kernel_rfl) (by simp) ?_
              refine all_one ?_
              refine wpOp_hand (oi := ?oi23) ?hi23 (fun K hK => ?hh23)
              case hi23 => (simp only [List.getElem?_toArray, List.getElem?_cons_succ, List.getElem?_cons_zero]; rfl)
              go_simp
              refine hK.out _ _ (heldC_two (fun h => absurd h (by simp)) (fun h => absurd h (by simp))) (fun hF => ?_)
              clear hK K
              try simp only [Act.put, List.setIfInBounds_toArray, List.set_cons_zero, List.set_cons_succ]
              refine wpG_done (by kernel_rfl) ?_ _
              have hNn := hN.set a (1 + r) ⟨#[116]⟩ M
              have hbl := (((hf.2.setCell (p := ⟨b3, 0, none⟩) hs3 (.int .i64 a)).setCell (p := ⟨b3, 1, none⟩) hs3 (.int .i64 (1 + r))).setCell (p := ⟨b3, 2, none⟩) hs3 (.string ⟨#[116]⟩)).setCell (p := ⟨b3, 3, none⟩) hs3 (.int .i64 M)
              clear x0 xf0 x1 xf1 x2 xf2 x3 xf3 xl
              clear hf hN
              go_wp2_with fail
              go_meet
              exact ⟨b3, rfl, rfl, hs3, hNn, hbl⟩
          · skip
            refine wpOp_hand (oi := ?oi24) ?hi24 (fun K hK => ?hh24)
            case hi24 => (simp only [List.getElem?_toArray, List.getElem?_cons_succ, List.getElem?_cons_zero]; rfl)
            go_simp
            have hN := NtBox.new X 0 0 ⟨#[]⟩ 0
            have hs3 := hf.2.size
            obtain ⟨b3, hb3⟩ : ∃ b, b = X.heap.size := ⟨_, rfl⟩
            obtain ⟨Y, hY⟩ : ∃ Y, Y = X.alloc (.cells #[.int .i64 0, .int .i64 0, .string ⟨#[]⟩, .int .i64 0] 23) := ⟨_, rfl⟩
            have hfn : Y.cell? ⟨kb, a, none⟩ = some (.int .i64 ky) ∧ Below wr.heap.size wr Y := by rw [hY]; exact ⟨(((Below.refl _ _).alloc (Nat.le_refl _) _).cell (p := ⟨kb, a, none⟩) (cell_lt hf.1)).trans hf.1, hf.2.alloc hs3 _⟩
            rw [← hb3] at hs3
            rw [← hY, ← hb3] at hN ⊢
            clear hf
            have hf := hfn
            clear hfn hY hb3
            refine hK.out _ _ (heldC_two (fun _ => hf) (fun _ => trivial)) (fun hF => ?_)
            clear hK K
            try simp only [Act.put, List.setIfInBounds_toArray, List.set_cons_zero, List.set_cons_succ]
            refine wpG_ready (rs := [6]) (by kernel_rfl) (by simp) ?_
            refine all_one ?_
            refine wpOp_hand (oi := ?oi25) ?hi25 (fun K hK => ?hh25)
            case hi25 => (simp only [List.getElem?_toArray, List.getElem?_cons_succ, List.getElem?_cons_zero]; rfl)
            go_simp
            refine Calls.mono (at_as z _ r _ Hr (by omega) (by omega)) ?_
            rintro e _ ⟨rfl, rfl⟩
            refine hK.out _ _ (heldC_two (fun _ => hf) (fun _ => trivial)) (fun hF => ?_)
            clear hK K
            try simp only [Act.put, List.setIfInBounds_toArray, List.set_cons_zero, List.set_cons_succ]
            refine wpG_take (oi := ?oi26) (v := ?vv26) 7 _ ?hi26 (List.Mem.head _) ?hc26 ?hQ26 hF ?hw26 ?hy26 (fun hF => ?hh26)
            case hi26 => (simp only [List.getElem?_toArray, List.getElem?_cons_succ, List.getElem?_cons_zero]; rfl)
            case hc26 => kernel_rfl
            case hQ26 => exact fun _ _ _ h => h
            case hw26 => rfl
            case hy26 => (intro wz hz; skip; go_simp; try (with_reducible rfl))
            try simp only [Act.put, List.setIfInBounds_toArray, List.set_cons_zero, List.set_cons_succ]
            refine wpG_take (oi := ?oi27) (v := ?vv27) 8 _ ?hi27 (List.Mem.head _) ?hc27 ?hQ27 hF ?hw27 ?hy27 (fun hF => ?hh27)
            case hi27 => (simp only [List.getElem?_toArray, List.getElem?_cons_succ, List.getElem?_cons_zero]; rfl)
            case hc27 => kernel_rfl
            case hQ27 => exact fun _ _ _ h => h
            case hw27 => rfl
            case hy27 => (intro wz hz; skip; go_simp; try (with_reducible rfl))
            try simp only [Act.put, List.setIfInBounds_toArray, List.set_cons_zero, List.set_cons_succ]
            refine wpG_ready (rs := [9]) (by kernel_rfl) (by simp) ?_
            refine all_one ?_
            refine wpOp_hand (oi := ?oi28) ?hi28 (fun K hK => ?hh28)
            case hi28 => (simp only [List.getElem?_toArray, List.getElem?_cons_succ, List.getElem?_cons_zero]; rfl)
            go_simp
            refine Calls.mono (HS.out _ ((HT.out.below HB.out).below hf.2)) ?_
            rintro e wq ⟨rfl, hb⟩
            have hfn : wq.cell? ⟨kb, a, none⟩ = some (.int .i64 ky) ∧ Below wr.heap.size wr wq := ⟨(hb.cell (p := ⟨kb, a, none⟩) (cell_lt hf.1)).trans hf.1, hf.2.trans (hb.mono hf.2.size)⟩
            have hNn := hN.below hb
            clear hN
            have hN := hNn
            clear hNn
            clear hf hb
            have hf := hfn
            clear hfn
            refine hK.out _ _ (heldC_two (fun _ => hf) (fun _ => trivial)) (fun hF => ?_)
            clear hK K
            try simp only [Act.put, List.setIfInBounds_toArray, List.set_cons_zero, List.set_cons_succ]
            refine wpG_take (oi := ?oi29) (v := ?vv29) 10 _ ?hi29 (List.Mem.head _) ?hc29 ?hQ29 hF ?hw29 ?hy29 (fun hF => ?hh29)
            case hi29 => (simp only [List.getElem?_toArray, List.getElem?_cons_succ, List.getElem?_cons_zero]; rfl)
            case hc29 => kernel_rfl
            case hQ29 => exact fun _ _ _ h => h
            case hw29 => rfl
            case hy29 => (intro wz hz; skip; go_simp; try (with_reducible rfl))
            try simp only [Act.put, List.setIfInBounds_toArray, List.set_cons_zero, List.set_cons_succ]
            refine wpG_take (oi := ?oi30) (v := ?vv30) 11 _ ?hi30 (List.Mem.head _) ?hc30 ?hQ30 hF ?hw30 ?hy30 (fun hF => ?hh30)
            case hi30 => (simp only [List.getElem?_toArray, List.getElem?_cons_succ, List.getElem?_cons_zero]; rfl)
            case hc30 => kernel_rfl
            case hQ30 => exact fun _ _ _ h => h
            case hw30 => rfl
            case hy30 => (intro wz hz; skip; go_simp; try (with_reducible rfl))
            try simp only [Act.put, List.setIfInBounds_toArray, List.set_cons_zero, List.set_cons_succ]
            refine wpG_take (oi := ?oi31) (v := ?vv31) 12 _ ?hi31 (List.Mem.tail _ (List.Mem.head _)) ?hc31 ?hQ31 hF ?hw31 ?hy31 (fun hF => ?hh31)
            case hi31 => (simp only [List.getElem?_toArray, List.getElem?_cons_succ, List.getElem?_cons_zero]; rfl)
            case hc31 => kernel_rfl
            case hQ31 => exact fun _ _ _ h => h
            case hw31 => rfl
            case hy31 => (intro wz hz; skip; go_simp; try (with_reducible rfl))
            try simp only [Act.put, List.setIfInBounds_toArray, List.set_cons_zero, List.set_cons_succ]
            refine wpG_ready (rs := [14]) (by kernel_rfl) (by simp) ?_
            refine all_one ?_
            have x0 := hN.c0; have x1 := hN.c1; have x2 := hN.c2; have x3 := hN.c3; have xf0 := hN.free 0; have xf1 := hN.free 1; have xf2 := hN.free 2; have xf3 := hN.free 3; have xl := hN.lt
            refine wpOp_hand (oi := ?oi32) ?hi32 (fun K hK => ?hh32)
            case hi32 => (simp only [List.getElem?_toArray, List.getElem?_cons_succ, List.getElem?_cons_zero]; rfl)
            go_simp
            refine hK.out _ _ (heldC_two (fun h => absurd h (by simp)) (fun _ => trivial)) (fun hF => ?_)
            clear hK K
            try simp only [Act.put, List.setIfInBounds_toArray, List.set_cons_zero, List.set_cons_succ]
            refine wpG_ready (rs := [15]) (by kernel_rfl) (by simp) ?_
            refine all_one ?_
            refine wpOp_hand (oi := ?oi33) ?hi33 (fun K hK => ?hh33)
            case hi33 => (simp only [List.getElem?_toArray, List.getElem?_cons_succ, List.getElem?_cons_zero]; rfl)
            go_simp
            refine hK.out _ _ (heldC_two (fun h => absurd h (by simp)) (fun h => absurd h (by simp))) (fun hF => ?_)
            clear hK K
            try simp only [Act.put, List.setIfInBounds_toArray, List.set_cons_zero, List.set_cons_succ]
            refine wpG_done (by kernel_rfl) ?_ _
            have hNn := hN.set a (1 + r) ⟨#[116]⟩ M
            have hbl := (((hf.2.setCell (p := ⟨b3, 0, none⟩) hs3 (.int .i64 a)).setCell (p := ⟨b3, 1, none⟩) hs3 (.int .i64 (1 + r))).setCell (p := ⟨b3, 2, none⟩) hs3 (.string ⟨#[116]⟩)).setCell (p := ⟨b3, 3, none⟩) hs3 (.int .i64 M)
            clear x0 xf0 x1 xf1 x2 xf2 x3 xf3 xl
            clear hf hN
            go_wp2_with fail
            go_meet
            exact ⟨b3, rfl, rfl, hs3, hNn, hbl⟩
        case rest =>
          obtain ⟨b3, rfl, rfl, hb3, hN, hb⟩ := hcut
          have HR1 := Lib.hid (HR.out.below hb)
          have HB1 := Lib.hid (HB.out.trans (hb.mono HB.out.size))
          have h1' := H1.out.stay (by decide) HB1.out
          obtain ⟨q1, o1, hA1, hc⟩ := h1'.at' (by omega)
          have y0 := hc i (by omega)
          subst hA1
          obtain ⟨z1, hz1⟩ : ∃ z, z = ix zs1 i := ⟨_, rfl⟩
          rw [← hz1] at y0
          obtain ⟨nd, hnd⟩ : ∃ x, x = (z1 % 5).toNat := ⟨_, rfl⟩
          have nd5 : nd < 5 := by omega
          have hnd' : (nd : Int) = z1 % 5 := by omega
          have HND := Lib.hid hnd'
          have HN3 := Lib.hid hN
          have HY0 := Lib.hid y0
          have sb := hb.size
          clear hN hb hc h1' hz1 y0 hnd hnd' HS HKC BX HhX HTX
          go_wp2_with fail
          have hf : wc.drew.cell? ⟨q1, o1 + i, none⟩ = some (.int .i64 z1) ∧ NtBox wc.drew b3 a (1 + r) ⟨#[116]⟩ M ∧ Below wc.heap.size wc wc.drew := ⟨HY0.out, HN3.out, (Below.refl _ _).drew⟩
          refine wp_region_G [(7, fun w' => w'.cell? ⟨q1, o1 + i, none⟩ = some (.int .i64 z1) ∧ NtBox w' b3 a (1 + r) ⟨#[116]⟩ M ∧ Below wc.heap.size wc w')] (by kernel_rfl) (heldC_one (fun _ => hf)) (fun hF => ?_)
          refine wpG_take (oi := ?oi34) (v := ?vv34) 0 _ ?hi34 (List.Mem.head _) ?hc34 ?hQ34 hF ?hw34 ?hy34 (fun hF => ?hh34)
          case hi34 => (simp only [List.getElem?_toArray, List.getElem?_cons_succ, List.getElem?_cons_zero]; rfl)
          case hc34 => kernel_rfl
          case hQ34 => exact fun _ _ _ h => h
          case hw34 => rfl
          case hy34 => (intro wz hz; skip; go_simp; try (with_reducible rfl))
          try simp only [Act.put, List.setIfInBounds_toArray, List.set_cons_zero, List.set_cons_succ]
          refine wpG_takeC (oi := ?oi35) (v := ?vv35) 1 _ [5,4,3] ?hi35 (List.Mem.head _) ?hc35 ?hQ35 hF ?hw35 ?hy35 (fun hF => ?hh35)
          case hi35 => (simp only [List.getElem?_toArray, List.getElem?_cons_succ, List.getElem?_cons_zero]; rfl)
          case hc35 => kernel_rfl
          case hQ35 => exact fun _ _ _ h => h
          case hw35 => rfl
          case hy35 => (intro wz hz; skip; go_simp; try (with_reducible rfl))
          try simp only [Act.put, List.setIfInBounds_toArray, List.set_cons_zero, List.set_cons_succ]
          refine wpG_takeC (oi := ?oi36) (v := ?vv36) 2 _ [5,4,3] ?hi36 (List.Mem.head _) ?hc36 ?hQ36 hF ?hw36 ?hy36 (fun hF => ?hh36)
          case hi36 => (simp only [List.getElem?_toArray, List.getElem?_cons_succ, List.getElem?_cons_zero]; rfl)
          case hc36 => kernel_rfl
          case hQ36 => exact fun _ _ _ h => h
          case hw36 => rfl
          case hy36 => (intro wz hz; skip; go_simp; try (with_reducible rfl))
          try simp only [Act.put, List.setIfInBounds_toArray, List.set_cons_zero, List.set_cons_succ]
          refine wpG_takeC (oi := ?oi37) (v := ?vv37) 3 _ [5,4] ?hi37 (List.Mem.head _) ?hc37 ?hQ37 hF ?hw37 ?hy37 (fun hF => ?hh37)
          case hi37 => (simp only [List.getElem?_toArray, List.getElem?_cons_succ, List.getElem?_cons_zero]; rfl)
          case hc37 => kernel_rfl
          case hQ37 => exact fun _ _ _ h => h
          case hw37 => rfl
          case hy37 => (intro wz hz; skip; go_simp; try (with_reducible rfl))
          try simp only [Act.put, List.setIfInBounds_toArray, List.set_cons_zero, List.set_cons_succ]
          refine wpG_takeC (oi := ?oi38) (v := ?vv38) 4 _ [5] ?hi38 (List.Mem.head _) ?hc38 ?hQ38 hF ?hw38 ?hy38 (fun hF => ?hh38)
          case hi38 => (simp only [List.getElem?_toArray, List.getElem?_cons_succ, List.getElem?_cons_zero]; rfl)
          case hc38 => kernel_rfl
          case hQ38 => exact fun _ _ _ h => h
          case hw38 => rfl
          case hy38 => (intro wz hz; have zc := hz.1; go_simp; try (with_reducible rfl))
          try simp only [Act.put, List.setIfInBounds_toArray, List.set_cons_zero, List.set_cons_succ]
          refine wpG_take (oi := ?oi39) (v := ?vv39) 6 _ ?hi39 (List.Mem.head _) ?hc39 ?hQ39 hF ?hw39 ?hy39 (fun hF => ?hh39)
          case hi39 => (simp only [List.getElem?_toArray, List.getElem?_cons_succ, List.getElem?_cons_zero]; rfl)
          case hc39 => kernel_rfl
          case hQ39 => exact fun _ _ _ h => h
          case hw39 => rfl
          case hy39 => (intro wz hz; have z0 := hz.2.1.c0; have z1 := hz.2.1.c1; have z2 := hz.2.1.c2; have z3 := hz.2.1.c3; go_simp; try (with_reducible rfl))
          try simp only [Act.put, List.setIfInBounds_toArray, List.set_cons_zero, List.set_cons_succ]
          refine wpG_ready (rs := [5]) (by kernel_rfl) (by simp) ?_
          refine all_one ?_
          refine wpOp_hand (oi := ?oi40) ?hi40 (fun K hK => ?hh40)
          case hi40 => (simp only [List.getElem?_toArray, List.getElem?_cons_succ, List.getElem?_cons_zero]; rfl)
          go_simp
          refine Calls.mono (at_as z1 _ nd _ HND (by omega) (by omega)) ?_
          rintro e _ ⟨rfl, rfl⟩
          refine hK.out _ _ (heldC_one (fun _ => hf)) (fun hF => ?_)
          clear hK K
          try simp only [Act.put, List.setIfInBounds_toArray, List.set_cons_zero, List.set_cons_succ]
          refine wpG_ready (rs := [7]) (by kernel_rfl) (by simp) ?_
          refine all_one ?_
          refine wpOp_hand (oi := ?oi41) ?hi41 (fun K hK => ?hh41)
          case hi41 => (simp only [List.getElem?_toArray, List.getElem?_cons_succ, List.getElem?_cons_zero]; rfl)
          go_simp
          have hT := (t_ok a (1 + r) a1 (by omega) (by omega)).sum M0 M1
          refine Calls.mono (put_right D5 L base H nd a (1 + r) M _ ((HT.out.below HB1.out).drew) (HR1.out.net.below (Below.refl _ _).drew) nd5 a1 (by decide : 2 ≤ 8) (by show 1 ≤ ix [5, 7] a ∧ ix [5, 7] a ≤ 1000000000; exact key5 a a1) hT (by show M = sumAll (ix [5, 7] a) (ntL a (1 + r) tB); rw [← Hky.out]; exact HM.out) (by show sumAll (ix [5, 7] a) (ntL a (1 + r) tB) = M; rw [← Hky.out]; exact HM.out.symm) (HR1.out.pos nd a)) ?_
          rintro e w6 ⟨rfl, hN6, hg6⟩
          refine hK.out _ _ (heldC_one (fun h => absurd h (by simp))) (fun hF => ?_)
          clear hK K
          try simp only [Act.put, List.setIfInBounds_toArray, List.set_cons_zero, List.set_cons_succ]
          refine wpG_ready (rs := [8]) (by kernel_rfl) (by simp) ?_
          refine all_one ?_
          refine wpOp_hand (oi := ?oi42) ?hi42 (fun K hK => ?hh42)
          case hi42 => (simp only [List.getElem?_toArray, List.getElem?_cons_succ, List.getElem?_cons_zero]; rfl)
          go_simp
          refine hK.out _ _ (heldC_one (fun h => absurd h (by simp))) (fun hF => ?_)
          clear hK K
          try simp only [Act.put, List.setIfInBounds_toArray, List.set_cons_zero, List.set_cons_succ]
          refine wpG_done (by kernel_rfl) ?_ _
          clear hf hF hT
          have oh := HOH.out nd nd5
          have hg := (below_grownR (Below.refl wc.heap.size wc).drew (some (L.hb nd))).trans hg6
          have ne3 : b3 ≠ L.hb nd := fun e => by have := (HR.out.net.row nd nd5).lt; omega
          have N6 := HN3.out.grown hg (fun e => ne3 (Option.some.inj e))
          have R6 := Lib.hid (HR1.out.put HF.out kW nd a (1 + r) nd5 a1 (by omega) hN6 hg (by omega))
          have B6 := Lib.hid (below_then HB1.out (Nat.le_refl _) hg (by omega))
          have bx6 : VRow w6 bB 2 (fun j => .int .i64 (mxN H j 5)) := HR1.out.box.grown hg (HF.out.hb nd nd5).symm
          have v0 := bx6.cell a a1
          have v1 := bx6.free a a1
          have v2 := bx6.lt
          obtain ⟨x, hx⟩ : ∃ x, x = mxN H a 5 := ⟨_, rfl⟩
          rw [← hx] at R6
          replace v0 : w6.cell? ⟨bB, a, none⟩ = some (.int .i64 x) := by rw [hx]; exact v0
          obtain ⟨g, hgg⟩ : ∃ g : Int, g = if H nd a < 1 + r then 0 else 9 := ⟨_, rfl⟩
          rw [← hgg]
          have hg2 : g = 0 ∨ g = 9 := by rw [hgg]; split <;> simp
          have sz6 := hg.size
          have V0 := Lib.hid v0; have V1 := Lib.hid v1; have N6h := Lib.hid N6; have HX := Lib.hid hx
          clear hgg hg bx6 hN6 hg6 hx v0 v1 N6
          rcases hg2 with rfl | rfl
          all_goals
            have v0 := V0.out; have v1 := V1.out; have v3 := N6h.out.c1; have v4 := N6h.out.lt
            go_wp2_with fail
            go_still_tail 8, (by kernel_rfl)
            change wpList _ _ _ _ _ (World.drew _)
            go_wp2_with fail
            go_roundw
            case rel => exact ⟨i + 1, _, by omega, by go_num, R6.out, (B6.out.drew).setCell (p := ⟨bB, a, none⟩) (by show w.heap.size ≤ bB; omega) _⟩
            case measure => simp [intOf]; omega
      · have i2 : ¬ (i : Int) < (n1 : Int) := by omega
        go_wp2_with fail
        go_round
        case rel => exact ⟨i + 1, H, by omega, by go_num, HR.out, HB.out⟩
        case measure => simp [intOf]; omega
    · obtain rfl : i = n2 := by omega
      have hmax : ∀ x, x < D5.n → ∀ a, a < D5.K → iterN D5 H 4 x a = mxN H a 5 := fun x hx a ha => iter_max ok5 H a 4 _ reach5 (fun i hi => (mxN_ge H a 5).2 i hi) (mxN_is H a 5 (by decide) (fun i _ => hR.pos i a)) x hx
      have HFX := Lib.hid (fix_of_max ok5 H 4 (fun a => mxN H a 5) hmax)
      have HMX := Lib.hid hmax
      have HR := Lib.hid hR; have HB := Lib.hid hb
      have szr := hb.size
      have netr := hR.net
      have obr : base ≤ wr.heap.size := by have := netr.ob; have := netr.lb; omega
      clear hmax hR hb netr
      go_wp2_with fail
      refine Calls.mono (settle_ok D5 L base H 4 _ ok5 HR.out.net obr (by omega) HFX.out) ?_
      rintro e w9 ⟨L9, q, hq, rfl, hf, hN, hg, hLb, _, _, _, _, _⟩
      have q4 : ¬ (4 : Int) < (q : Int) := by omega
      have B9 := Lib.hid (below_then HB.out (Nat.le_refl _) hg (by omega))
      have bx9 : VRow w9 bB 2 (fun j => .int .i64 (mxN H j 5)) := HR.out.box.grown hg HF.out.b.symm
      have HBX := Lib.hid bx9
      have HFQ := Lib.hid hf
      have HRM := Lib.hid (fun (a : Nat) (ha : a < D5.K) (x : Nat) (hx : x < D5.n) => (rest_max ok5 H q 4 hq hf a ha x hx).trans (HMX.out x hx a ha))
      have hst := step_ok D5 L9 base (iterN D5 H q) w9 ok5 hN (by have := hg.size; omega)
      rw [hLb] at hst
      have hc0 : cntN D5 (iterN D5 H q) D5.n = 0 := (cntN_zero D5 _ _).2 hf
      have HST := Lib.hid hst; have HC0 := Lib.hid hc0; have HLB := Lib.hid hLb
      have sz9 := hg.size
      clear hf hN hg hLb hst hc0 bx9
      go_wp2_with fail
      refine Calls.mono HST.out ?_
      rintro e wS ⟨L', rfl, hN, hg, hLb', _, _, _, _, _⟩
      have HLB' := Lib.hid (hLb'.trans HLB.out)
      clear hLb'
      rw [HC0.out]
      rw [HLB.out] at hg
      have HNS := Lib.hid (show NetW D5 L' base wS (stepN D5 (iterN D5 H q)) from hN)
      have BS := Lib.hid (below_then B9.out (Nat.le_refl _) hg (by omega))
      have HBS := Lib.hid (show VRow wS bB 2 (fun j => .int .i64 (mxN H j 5)) from HBX.out.grown hg HF.out.b.symm)
      have HHV := Lib.hid (fun (x : Nat) (hx : x < 5) (a : Nat) (ha : a < 2) => show stepN D5 (iterN D5 H q) x a = mxN H a 5 from (HFQ.out x hx a ha).trans (HRM.out a ha x hx))
      have szS := hg.size
      clear hN hg HBX HST HC0
      go_wp2_with fail
      go_loopw [99] (fun i' wv => ∃ x : Nat, x ≤ 5 ∧ i' = .int .i64 x ∧ Below wS.heap.size wS wv) (fun i' _ => 5 - (intOf i').toNat)
      case atStart => exact ⟨0, by omega, rfl, Below.refl _ _⟩
      case round =>
        obtain ⟨x, hx, rfl, hb⟩ := hrel
        have HB1 := Lib.hid hb
        clear hb
        by_cases hx5 : x < 5
        · have x0 : (x : Int) < 5 := by omega
          go_wp2_with fail
          go_loopw [102] (fun i' wv => ∃ a : Nat, a ≤ 2 ∧ i' = .int .i64 a ∧ Below wS.heap.size wS wv) (fun i' _ => 2 - (intOf i').toNat)
          case atStart => exact ⟨0, by omega, rfl, HB1.out⟩
          case round =>
            clear HB1
            obtain ⟨a, ha, rfl, hb⟩ := hrel
            have HB2 := Lib.hid hb
            clear hb
            by_cases ha2 : a < 2
            · have a0 : (a : Int) < 2 := by omega
              have a3 : (0 : Int) ≤ (a : Int) := by omega
              go_wp2_with fail
              have hh := held_ok (HNS.out.below HB2.out) x a hx5 ha2
              rw [HLB'.out, HHV.out x hx5 a ha2] at hh
              refine Calls.mono hh ?_
              clear hh
              rintro e wH ⟨rfl, hb⟩
              have HB3 := Lib.hid (HB2.out.trans (hb.mono HB2.out.size))
              have bxH : VRow wH bB 2 (fun j => .int .i64 (mxN H j 5)) := HBS.out.below HB3.out
              have v0 := bxH.cell a ha2
              have v2 := bxH.lt
              have m0 := (mxN_ge H a 5).1
              have szh := HB3.out.size
              obtain ⟨m, hm⟩ : ∃ m, m = mxN H a 5 := ⟨_, rfl⟩
              simp only [← hm] at v0 m0
              rw [← hm]
              clear hb bxH hm
              have vne : wH.heap.size ≠ bB := by omega
              rcases (by omega : m = 0 ∨ 0 < m) with rfl | hm
              · have e1 : heldV D5 a 0 = .tuple #[.agg #[.int .i64 0, .int .i64 0, .string ⟨#[]⟩, .int .i64 0], .int .i64 6] := by simp [heldV, ntA, ntT, ntS]
                rw [e1]
                clear e1
                go_wp2_with fail
                go_quiet (fail)
                go_wp2_with fail
                have hb3 := HB3.out
                go_roundw
                case rel => exact ⟨a + 1, by omega, by go_num, below_drewN (hb3.alloc szh _) _⟩
                case measure => simp [intOf]; omega
              · obtain ⟨p, t, s, hv⟩ : ∃ p t s, heldV D5 a m = .tuple #[.agg #[.int .i64 p, .int .i64 m, .string t, .int .i64 s], .int .i64 0] := ⟨_, _, _, by unfold heldV; rw [if_neg (by omega : ¬ m = 0)]⟩
                rw [hv]
                clear hv
                go_wp2_with fail
                go_quiet (fail)
                go_wp2_with fail
                have hb3 := HB3.out
                go_roundw
                case rel => exact ⟨a + 1, by omega, by go_num, below_drewN (hb3.alloc szh _) _⟩
                case measure => simp [intOf]; omega
            · obtain rfl : a = 2 := by omega
              go_wp2_with fail
              go_roundw
              case rel => exact ⟨x + 1, by omega, by go_num, HB2.out⟩
              case measure => simp [intOf]; omega
        · obtain rfl : x = 5 := by omega
          go_wp2_with fail
          go_ret
          exact ⟨rfl, BS.out.trans (HB1.out.mono BS.out.size)⟩
end Go.Proofs.YtocdboopmfgkpaaDoor
