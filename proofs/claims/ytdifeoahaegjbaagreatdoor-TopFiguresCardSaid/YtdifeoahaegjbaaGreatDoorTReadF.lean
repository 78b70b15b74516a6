/- figure.Read of the text of a figure with the lines 0-1, 1-2, ..: the walk. -/
import Derived.Test.YtdifeoahaegjbaaGreatDoorTRead
import Derived.Deep.DeepCutAuto
namespace Go.Proofs.YtdifeoahaegjbaaGreatDoor
open Go.RowKit
set_option linter.unusedSimpArgs false
set_option linter.unusedVariables false

theorem list_size {s : ByteArray} {l : List UInt8} (h : s.data.toList = l) : s.size = l.length := by
  show s.data.size = _
  rw [← Array.length_toList, h]
theorem list_mk {s : ByteArray} {l : List UInt8} (h : s.data.toList = l) : s = ⟨l.toArray⟩ := by
  obtain ⟨⟨x⟩⟩ := s
  simp at h
  rw [h]
def ReadPost (zs : List Int) (n m : Nat) (w : World) (e : Ending) (w' : World) : Prop :=
  ∃ A c B bc, e = .returned (.tuple #[.agg #[.slice A n c, .slice B m bc], .int .i64 0]) ∧ FigN w' A n c (copyZ zs n) B m bc ∧ Below w.heap.size w w'

set_option maxRecDepth 100000 in
set_option maxHeartbeats 16000000 in
theorem freadN_ok (zs : List Int) (n m : Nat) (w : World) (hr : Rd w) (hn : n ≤ 12) (hm : m = n - 1) (hx : ∀ i, i < n → FrP (ix zs (i * 4)) (ix zs (i * 4 + 1))) (hy : ∀ i, i < n → FrP (ix zs (i * 4 + 2)) (ix zs (i * 4 + 3))) :
    Calls Tryz.prog 9 #[.string (figNT zs n m)] w (ReadPost zs n m w) := by
  obtain ⟨iP, hP0, hP1, hP2, hP3⟩ := info_parts infoPt
  obtain ⟨iR, hR0, hR1, hR2, hR3⟩ := info_parts infoRw
  have HR := Lib.hid hr; have HX := Lib.hid hx; have HY := Lib.hid hy; have HM := Lib.hid hm
  obtain ⟨k, hk⟩ : ∃ k, k = w.heap.size := ⟨_, rfl⟩
  have HK := Lib.hid hk
  have hS : RdN zs n w ((w.alloc (.cells #[.slice none 0 0, .slice none 0 0] 28)).alloc (.cells #[.slice none 0 0, .slice none 0 0] 28)) k 0 (.slice none 0 0) (.slice none 0 0) := by
    have h2 := FgBox.new (w.alloc (.cells #[.slice none 0 0, .slice none 0 0] 28)) (.slice none 0 0) (.slice none 0 0)
    simp only [World.size_alloc] at h2
    rw [← hk] at h2
    refine ⟨?_, h2, by rw [show min 0 n = 0 by omega]; exact World.ownsRow_nil _ _ _ _, by rw [show 0 - n = 0 by omega]; exact LinN.nil _ _, fun _ => rfl, by simp; omega, ((Below.refl w.heap.size w).alloc (Nat.le_refl _) _).alloc (by simp) _⟩
    rw [hk]; exact (FgBox.new w (.slice none 0 0) (.slice none 0 0)).alloc _
  obtain ⟨N, hN⟩ : ∃ N, N = n + m := ⟨_, rfl⟩
  obtain ⟨s0, hs0⟩ : ∃ s, s = figNT zs n m := ⟨_, rfl⟩
  have hl0 : s0.data.toList = rowsL zs n (N - 0) 0 := by rw [hs0, hN, Nat.sub_zero, ← fig_rows]; simp [figNT]
  have hz0 : s0.size ≤ 4000 := by
    rw [list_size hl0, hN, Nat.sub_zero, ← fig_rows]
    have a := ptsL_len zs n (fun i hi => ⟨(hx i hi).s.ok, (hy i hi).s.ok⟩)
    have b := lnsL_len m (by omega)
    unfold figNL
    rw [List.length_append]; omega
  have HL0 := Lib.hid hl0; have HN := Lib.hid hN
  have e0 : decide ((16000 : Int) < (s0.size : Int)) = false := decide_eq_false (by omega)
  have e00 : decide (16000 < s0.size) = false := decide_eq_false (by omega)
  have HZ0 := Lib.hid hz0
  rw [← hs0]
  obtain ⟨V, hV⟩ : ∃ V, V = ((w.alloc (.cells #[.slice none 0 0, .slice none 0 0] 28)).alloc (.cells #[.slice none 0 0, .slice none 0 0] 28)) := ⟨_, rfl⟩
  rw [← hV] at hS
  have HS := Lib.hid hS; have HV := Lib.hid hV
  clear hr hS hs0 hV hx hy hm hN hl0 hz0
  go_enter Tryz.func9, Tryz.ntmps9
  go_upto_region 4 with fail
  rw [← HV.out, ← hk]
  clear HV hk e0 e00
  go_loopw [0] (fun a0 wv => ∃ (t : Nat) (s : ByteArray) (u v : Value), t ≤ N ∧ s.data.toList = rowsL zs n (N - t) t ∧ s.size ≤ 4000 ∧ a0 = .string s ∧ RdN zs n w wv k t u v) (fun a0 _ => match a0 with | .string s => s.size | _ => 0)
  case atStart => exact ⟨0, s0, _, _, by omega, HL0.out, HZ0.out, rfl, HS.out⟩
  case round =>
    clear HS HL0 HZ0
    obtain ⟨t, s, u, v, ht, hs, hsz, rfl, hS⟩ := hrel
    have HS := Lib.hid hS; have HSL := Lib.hid hs; have HSZ := Lib.hid hsz
    clear hS hs hsz
    by_cases htN : t < N
    · have hsl : s.data.toList = rowB zs n t ++ 10 :: rowsL zs n (N - (t + 1)) (t + 1) := by rw [HSL.out, show N - t = N - (t + 1) + 1 by omega]; rfl
      have ne : s.toList.isEmpty = false := by
        rw [ByteArray.toList_eq, hsl]
        cases h : rowB zs n t <;> simp
      obtain ⟨bd, hbd⟩ : ∃ x, x = (⟨(rowB zs n t).toArray⟩ : ByteArray) := ⟨_, rfl⟩
      obtain ⟨s', hs'⟩ : ∃ x, x = (⟨(rowsL zs n (N - (t + 1)) (t + 1)).toArray⟩ : ByteArray) := ⟨_, rfl⟩
      have hbl : bd.data.toList = rowB zs n t := by rw [hbd]
      have hsl' : s'.data.toList = rowsL zs n (N - (t + 1)) (t + 1) := by rw [hs']
      have hcu : Lib.cut s.data.toList [10] = (bd.data.toList, s'.data.toList, true) := by rw [hsl, hbl, hsl']; exact cut_hit row_not
      have hlt : s'.size < s.size ∧ bd.size ≤ s.size := by
        rw [list_size hsl, list_size hsl', list_size hbl]; simp; omega
      obtain ⟨c0, c1, c2⟩ := wd_not (c := 32) (zs := zs) (n := n) (t := t) (.inr rfl)
      have hcn := three_count c0 c1 c2 bd hbl
      have hsp := three_split c0 c1 c2 bd hbl
      have HCU := Lib.hid hcu; have HS' := Lib.hid hsl'; have HZ := Lib.hid hlt; have HCN := Lib.hid hcn; have HSP := Lib.hid hsp
      clear hsl hbd hs' hbl hsl' hcu hlt c0 c1 c2 hcn hsp HSL
      go_wp2_with fail
      refine Calls.mono (cut_at s ⟨#[10]⟩ bd s' true HCU.out (by have := HSZ.out; omega) _ (HR.out.below HS.out.b).m) ?_
      rintro er w1 ⟨rfl, hb⟩
      have HS1 := Lib.hid (HS.out.below hb)
      clear hb HS ne
      go_wp2_with fail
      refine Calls.mono (split_at bd ⟨#[32]⟩ 3 _ HCN.out HSP.out (by have := HSZ.out; have := HZ.out; omega) (by decide) _ (HR.out.below HS1.out.b).m) ?_
      rintro er w2 ⟨rfl, hw2⟩
      obtain ⟨q, hq⟩ : ∃ q, q = w1.heap.size := ⟨_, rfl⟩
      have b2 : Below w1.heap.size w1 w2 := by rw [hw2]; exact (Below.refl _ _).alloc (Nat.le_refl _) _
      have z0 : w2.cell? ⟨q, 0, none⟩ = some (.string ⟨(wd0 n t).toArray⟩) := by rw [hw2, hq]; simp [go_sem]
      have z1 : w2.cell? ⟨q, 1, none⟩ = some (.string ⟨(wd1 zs n t).toArray⟩) := by rw [hw2, hq]; simp [go_sem]
      have z2 : w2.cell? ⟨q, 2, none⟩ = some (.string ⟨(wd2 zs n t).toArray⟩) := by rw [hw2, hq]; simp [go_sem]
      have HS2 := Lib.hid (HS1.out.below b2)
      have hnov := HS1.out.nov
      rw [← hq]
      clear b2 hw2 hq HS1 HCN HSP
      have hs4 : s'.size ≤ 4000 := by have := HZ.out; have := HSZ.out; omega
      by_cases htn : t < n
      · have hv := hnov (by omega)
        subst hv
        unfold wd0 at z0; unfold wd1 at z1; unfold wd2 at z2
        rw [if_pos htn] at z0 z1 z2
        have fx := HX.out t htn; have fy := HY.out t htn
        have htz : copyZ zs (t + 1) = copyZ zs t ++ [ix zs (t * 4), ix zs (t * 4 + 1), ix zs (t * 4 + 2), ix zs (t * 4 + 3)] := rfl
        obtain ⟨a, ha⟩ : ∃ a, a = ix zs (t * 4) := ⟨_, rfl⟩
        obtain ⟨d, hd⟩ : ∃ a, a = ix zs (t * 4 + 1) := ⟨_, rfl⟩
        obtain ⟨e, he⟩ : ∃ a, a = ix zs (t * 4 + 2) := ⟨_, rfl⟩
        obtain ⟨f, hf⟩ : ∃ a, a = ix zs (t * 4 + 3) := ⟨_, rfl⟩
        rw [← ha, ← hd] at z1 fx; rw [← he, ← hf] at z2 fy
        rw [← ha, ← hd, ← he, ← hf] at htz
        obtain ⟨sX, hsX⟩ : ∃ x, x = frT a d := ⟨_, rfl⟩
        obtain ⟨sY, hsY⟩ : ∃ x, x = frT e f := ⟨_, rfl⟩
        have z1' : w2.cell? ⟨q, 1, none⟩ = some (.string sX) := by rw [hsX]; exact z1
        have z2' : w2.cell? ⟨q, 2, none⟩ = some (.string sY) := by rw [hsY]; exact z2
        have HFX := Lib.hid (fun W (h : Rd W) => show Calls Tryz.prog 41 #[.string sX] W fun r w' => r = .returned (.tuple #[.agg #[.int .i64 a, .int .i64 d], .int .i64 0]) ∧ Below W.heap.size W w' by rw [hsX]; exact fread_fr fx W h)
        have HFY := Lib.hid (fun W (h : Rd W) => show Calls Tryz.prog 41 #[.string sY] W fun r w' => r = .returned (.tuple #[.agg #[.int .i64 e, .int .i64 f], .int .i64 0]) ∧ Below W.heap.size W w' by rw [hsY]; exact fread_fr fy W h)
        have HTZ := Lib.hid htz
        have HZ1 := Lib.hid z1'; have HZ2 := Lib.hid z2'
        clear z1 z2 z1' z2' ha hd he hf hsX hsY fx fy htz
        have f1 := HS2.out.f.c1; have fl := HS2.out.f.lt
        go_wp2_with fail
        have bp : Below w2.heap.size w2 (w2.alloc (.cells #[.int .i64 0, .int .i64 0, .int .i64 0, .int .i64 0] 33)) := (Below.refl _ _).alloc (Nat.le_refl _) _
        have P3 := Lib.hid (PtBox.new w2 0 0 0 0)
        obtain ⟨kp, hkp⟩ : ∃ b, b = w2.heap.size := ⟨_, rfl⟩
        have HS3 := Lib.hid (HS2.out.below bp)
        have kpk : k + 1 < kp := by rw [hkp]; exact HS2.out.f.lt
        have huk := Lib.hid (show ∀ q, u.ownBlock = some q → q ≠ kp from fun q hq e => by have h := (HS2.out.own.lt q hq).2; omega)
        have y1 := (bp.cell (p := ⟨q, 1, none⟩) (cell_lt HZ1.out)).trans HZ1.out
        have y2 := (bp.cell (p := ⟨q, 1 + 1, none⟩) (cell_lt HZ2.out)).trans HZ2.out
        obtain ⟨W3, hW3⟩ : ∃ W, W = w2.alloc (.cells #[.int .i64 0, .int .i64 0, .int .i64 0, .int .i64 0] 33) := ⟨_, rfl⟩
        rw [← hW3, ← hkp] at P3
        rw [← hW3] at HS3 y1 y2
        have rd3 := HR.out.below HS3.out.b
        have hpt := Lib.hid (point_ok q 1 2 sX sY a d e f W3 (by omega) y1 y2 (fun W hb => HFX.out W (rd3.below hb)) (fun W hb => HFY.out W (rd3.below hb)))
        rw [← hW3, ← hkp]
        clear bp hkp hW3 y1 y2 HS2 HZ1 HZ2 z0 f1 fl
        refine Calls.mono hpt.out ?_
        rintro er w4 ⟨rfl, hb⟩
        have HS4 := Lib.hid (HS3.out.below hb); have P4 := Lib.hid (P3.out.below hb)
        clear hb HS3 P3 hpt rd3
        have p0 := P4.out.c0; have p1 := P4.out.c1; have p2 := P4.out.c2; have p3 := P4.out.c3; have pl := P4.out.lt
        have pf0 := P4.out.free 0; have pf1 := P4.out.free 1; have pf2 := P4.out.free 2; have pf3 := P4.out.free 3
        go_upto_region 11 with fail
        have wk := HK.out
        have kp0 : w.heap.size ≤ kp := by omega
        have HU5 := Lib.hid (((((HS4.out.setP htn huk.out kpk kp0 0 (.int .i64 a)).setP htn huk.out kpk kp0 1 (.int .i64 d)).setP htn huk.out kpk kp0 2 (.int .i64 e)).setP htn huk.out kpk kp0 3 (.int .i64 f)))
        have P5 := Lib.hid (ptBox_set4 P4.out a d e f)
        clear p0 p1 p2 p3 pl pf0 pf1 pf2 pf3 HS4 P4 wk
        obtain ⟨W5, hW5⟩ : ∃ W, W = ((((w4.setCell ⟨kp, 0, none⟩ (.int .i64 a)).setCell ⟨kp, 1, none⟩ (.int .i64 d)).setCell ⟨kp, 2, none⟩ (.int .i64 e)).setCell ⟨kp, 3, none⟩ (.int .i64 f)) := ⟨_, rfl⟩
        rw [← hW5] at HU5 P5 ⊢
        clear hW5
        have p0 := P5.out.c0; have p1 := P5.out.c1; have p2 := P5.out.c2; have p3 := P5.out.c3; have pl := P5.out.lt
        have f0 := HU5.out.f.c0; have fl := HU5.out.f.lt
        have hown : W5.ownsRow (k + 1 + 1) 33 4 u t ((copyZ zs t).map (Value.int .i64)) := by have h := HU5.out.own; rwa [show min t n = t by omega] at h
        go_wp2_with (at_builtin; refine wpList_append_own _ rfl _ _ 25 rfl (k + 1 + 1) 33 iP _ 4 32 Tryz.underlying25 hP0 hP1 hP2 hP3 rfl (by decide) _ _ _ rfl (hown.alloc _) ⟨W5.heap.size, 0, none⟩ 1 1 [.int .i64 a, .int .i64 d, .int .i64 e, .int .i64 f] rfl rfl ?c1 ?c2 ?c3 ?c4 ?c5 ?_)
        case c1 => exact cells_four
        case c2 => simp [Value.oneCell']
        case c3 => unfold maxLen; omega
        case c4 => omega
        case c5 => have := HU5.out.sz; simp; omega
        · intro v' Z hown' hgr hat
          have hlo : ∀ q, u.ownBlock = some q → k + 1 + 1 ≤ q := fun q hq => (hown.lt q hq).1
          obtain ⟨g, gc, hv', _, _⟩ := hown'.form (by omega)
          subst hv'
          have bf := (Below.refl W5.heap.size W5).alloc (Nat.le_refl _) (.cells #[.int .i64 a, .int .i64 d, .int .i64 e, .int .i64 f] 33)
          have szf := bf.size
          have R6 := Lib.hid ((HU5.out.r.below bf).grown hgr (fun e => by have := hlo _ e.symm; omega))
          have F6 := Lib.hid ((HU5.out.f.below bf).grown hgr (fun e => by have := hlo _ e.symm; omega))
          have hb5 := HU5.out.b.trans (bf.mono HU5.out.b.size)
          have wk := HK.out
          have B6 := Lib.hid (below_grow hb5 (Nat.le_refl _) hgr (fun q hq => by have := hlo q hq; omega))
          have s6 : k + 1 + 1 ≤ Z.heap.size := Nat.le_trans (Nat.le_trans HU5.out.sz szf) hgr.size
          have W6 := Lib.hid (show Z.ownsRow (k + 1 + 1) 33 4 (.slice (some ⟨g, 0, none⟩) (t + 1) gc) (t + 1) ((copyZ zs (t + 1)).map (Value.int .i64)) by rw [HTZ.out, List.map_append]; exact hown')
          clear hown hown' hgr hat hlo bf szf hb5 p0 p1 p2 p3 pl f0 fl HU5 P5
          have f0 := F6.out.c0; have ff := F6.out.free 0; have fl := F6.out.lt
          have S7 := Lib.hid (show RdN zs n w (Z.setCell ⟨k + 1, 0, none⟩ (.slice (some ⟨g, 0, none⟩) (t + 1) gc)) k (t + 1) (.slice (some ⟨g, 0, none⟩) (t + 1) gc) (.slice none 0 0) from
            ⟨R6.out.other (a := ⟨k + 1, 0, none⟩) (by show k ≠ k + 1; omega) _, F6.out.set0 _, by rw [show min (t + 1) n = t + 1 by omega]; exact own_set W6.out (by omega), by rw [show t + 1 - n = 0 by omega]; exact LinN.nil _ _, fun _ => rfl, by simpa using s6, B6.out.setCell (p := ⟨k + 1, 0, none⟩) (by show w.heap.size ≤ k + 1; omega) _⟩)
          clear R6 F6 B6 W6 s6 wk
          go_wp2_with fail
          go_roundw
          case rel => exact ⟨t + 1, s', _, _, by omega, HS'.out, hs4, rfl, S7.out⟩
          case measure => have := HZ.out.1; simpa using this
      · obtain ⟨l, hl⟩ : ∃ l, t = n + l := ⟨t - n, by omega⟩
        have hl12 : l < 12 := by have := HN.out; have := HM.out; omega
        have htl : t - n = l := by omega
        unfold wd0 at z0; unfold wd1 at z1; unfold wd2 at z2
        rw [if_neg htn] at z0 z1 z2
        rw [htl] at z1 z2
        obtain ⟨sX, hsX⟩ : ∃ x, x = (⟨(Lib.itoa (l : Int)).toArray⟩ : ByteArray) := ⟨_, rfl⟩
        obtain ⟨sY, hsY⟩ : ∃ x, x = (⟨(Lib.itoa ((l : Int) + 1)).toArray⟩ : ByteArray) := ⟨_, rfl⟩
        have lX : sX.size ≤ 18 := by
          have := itoa_short (l : Int) (by omega) (by omega)
          rw [hsX]; simp [ByteArray.size]; omega
        have lY : sY.size ≤ 18 := by
          have := itoa_short ((l : Int) + 1) (by omega) (by omega)
          rw [hsY]; simp [ByteArray.size]; omega
        have aX : Lib.atoi sX.data.toList = some (l : Int) := by rw [hsX]; simpa using itoa_read (l : Int)
        have aY : Lib.atoi sY.data.toList = some ((l : Int) + 1) := by rw [hsY]; simpa using itoa_read ((l : Int) + 1)
        have z1' : w2.cell? ⟨q, 1, none⟩ = some (.string sX) := by rw [hsX]; exact z1
        have z2' : w2.cell? ⟨q, 1 + 1, none⟩ = some (.string sY) := by rw [hsY]; exact z2
        have hpl := Lib.hid (polyline_ok q 1 2 sX sY (l : Int) ((l : Int) + 1) w2 (HR.out.below HS2.out.b).t (by omega) z1' z2' lX lY aX aY hsX hsY (by omega) (by omega))
        obtain ⟨vs, hv1, hv2⟩ := HS2.out.lin
        rw [htl] at hv1 hv2
        have hvb := Lib.hid (show ∀ q, v.ownBlock = some q → q < w2.heap.size from fun q hq => (hv1.lt q hq).2)
        have HVS := Lib.hid hv1; have HVT := Lib.hid hv2
        have HTL := Lib.hid hl; have HTL2 := Lib.hid htl; have HTN := Lib.hid htn
        clear z1 z2 z1' z2' hsX hsY lX lY aX aY hv1 hv2 hnov hl htl htn
        have f1 := HS2.out.f.c1; have fl := HS2.out.f.lt
        go_wp2_with fail
        refine Calls.mono hpl.out ?_
        rintro er w4 ⟨gl, gcl, hgl, rfl, l2, c0, c1, hb⟩
        have hgk : k + 1 + 1 ≤ gl := Nat.le_trans HS2.out.sz hgl
        have HS4 := Lib.hid (HS2.out.below hb)
        have HV4 := Lib.hid (own_below HVS.out hb)
        have HW4 := Lib.hid (fun j hj => (HVT.out j hj).imp fun x hx => (⟨hx.1, hx.2.below hb⟩ : vs[j]? = some x ∧ LineAt w4 (k + 1 + 1) x j))
        have HLN := Lib.hid (show LineAt w4 (k + 1 + 1) (.slice (some ⟨gl, 0, none⟩) 2 gcl) l from ⟨gl, gcl, rfl, l2, hgk, c0, c1⟩)
        have hne := Lib.hid (show ∀ g gc, Value.slice (some ⟨gl, 0, none⟩) 2 gcl = .slice (some ⟨g, 0, none⟩) 2 gc → some g ≠ v.ownBlock from fun g gc e h => by
          injection e with e _ _; injection e with e; injection e with e
          have := hvb.out g h.symm; omega)
        clear hb hpl HS2 z0 f1 fl c0 c1 hgl HVS HVT hvb l2 hgk
        have f1 := HS4.out.f.c1; have fl := HS4.out.f.lt
        have hown := HV4.out
        go_wp2_with (at_builtin; refine wpList_append_own _ rfl _ _ 26 rfl (k + 1 + 1) 22 iR _ 1 24 Tryz.underlying26 hR0 hR1 hR2 hR3 rfl (by decide) _ _ _ rfl (hown.alloc _) ⟨w4.heap.size, 0, none⟩ 1 1 [.slice (some ⟨gl, 0, none⟩) 2 gcl] rfl rfl ?c1 ?c2 ?c3 ?c4 ?c5 ?_)
        case c1 => exact cells_one
        case c2 => simp [Value.oneCell']
        case c3 => unfold maxLen; omega
        case c4 => omega
        case c5 => have := HS4.out.sz; simp; omega
        · intro v' Z hown' hgr hat
          obtain ⟨g, gc, hv', _, _⟩ := hown'.form (by omega)
          subst hv'
          have bf := (Below.refl w4.heap.size w4).alloc (Nat.le_refl _) (.cells #[.slice (some ⟨gl, 0, none⟩) 2 gcl] 22)
          have szf := bf.size
          have hlo : ∀ q, v.ownBlock = some q → k + 1 + 1 ≤ q := fun q hq => (hown.lt q hq).1
          have R6 := Lib.hid ((HS4.out.r.below bf).grown hgr (fun e => by have := hlo _ e.symm; omega))
          have F6 := Lib.hid ((HS4.out.f.below bf).grown hgr (fun e => by have := hlo _ e.symm; omega))
          have hb5 := HS4.out.b.trans (bf.mono HS4.out.b.size)
          have wk := HK.out
          have B6 := Lib.hid (below_grow hb5 (Nat.le_refl _) hgr (fun q hq => by have := hlo q hq; omega))
          have s6 : k + 1 + 1 ≤ Z.heap.size := Nat.le_trans (Nat.le_trans HS4.out.sz szf) hgr.size
          have O6 := Lib.hid ((own_below HS4.out.own bf).kept hgr (own_ne (own_below HS4.out.own bf) (own_below hown bf) (by decide)))
          have L6 := Lib.hid (LinN.add (own_below hown bf) (fun j hj => (HW4.out j hj).imp fun x hx => (⟨hx.1, hx.2.below bf⟩ : vs[j]? = some x ∧ LineAt _ (k + 1 + 1) x j)) (HLN.out.below bf) hne.out hgr hown')
          clear hown hown' hgr hat bf szf hb5 f1 fl HS4 HV4 HW4 HLN hne hlo
          have f1 := F6.out.c1; have ff := F6.out.free 1; have fl := F6.out.lt
          have S7 := Lib.hid (show RdN zs n w (Z.setCell ⟨k + 1, 1, none⟩ (.slice (some ⟨g, 0, none⟩) (l + 1) gc)) k (t + 1) u (.slice (some ⟨g, 0, none⟩) (l + 1) gc) from
            ⟨R6.out.other (a := ⟨k + 1, 1, none⟩) (by show k ≠ k + 1; omega) _, F6.out.set1 _, by have h := own_set (b := k + 1) (o := 1) (x := .slice (some ⟨g, 0, none⟩) (l + 1) gc) O6.out (by omega); rwa [show min t n = min (t + 1) n by have := HTL.out; omega] at h, by rw [show t + 1 - n = l + 1 by have := HTL.out; omega]; exact L6.out.set (by omega), fun h => absurd h (by have := HTL.out; omega), by simpa using s6, B6.out.setCell (p := ⟨k + 1, 1, none⟩) (by show w.heap.size ≤ k + 1; omega) _⟩)
          clear R6 F6 B6 O6 L6 s6 wk
          go_wp2_with fail
          go_roundw
          case rel => exact ⟨t + 1, s', _, _, by omega, HS'.out, hs4, rfl, S7.out⟩
          case measure => have := HZ.out.1; simpa using this
    · obtain rfl : N = t := by omega
      have hsn : s.data.toList = [] := by rw [HSL.out, Nat.sub_self]; rfl
      have ne : s.toList.isEmpty = true := by rw [ByteArray.toList_eq, hsn]; rfl
      have h1 := HM.out; have h2 := HN.out
      have hmn : min N n = n := by omega
      have hnm : N - n = m := by omega
      have hown := HS.out.own
      rw [hmn] at hown
      obtain ⟨A', c', rfl, hfl⟩ := own_flat hown
      have hlin := HS.out.lin
      rw [hnm] at hlin
      obtain ⟨B', bc', rfl, hbm, _⟩ := hlin.fig
      have hpt : ∀ i, i < n → FrP (ix (copyZ zs n) (i * 4)) (ix (copyZ zs n) (i * 4 + 1)) ∧ FrP (ix (copyZ zs n) (i * 4 + 2)) (ix (copyZ zs n) (i * 4 + 3)) := fun i hi => by
        obtain ⟨e0, e1, e2, e3⟩ := pt4_at (fun i => ix zs (i * 4)) (fun i => ix zs (i * 4 + 1)) (fun i => ix zs (i * 4 + 2)) (fun i => ix zs (i * 4 + 3)) n i hi
        rw [e0, e1, e2, e3]
        exact ⟨HX.out i hi, HY.out i hi⟩
      have HF := Lib.hid (FigN.mk (A := A') (c := c') (B := B') (bc := bc') hfl hn (fun i hi => (hpt i hi).1) (fun i hi => (hpt i hi).2) h1 hbm hlin.lines)
      have HO := Lib.hid hown; have HLI := Lib.hid hlin; have HPT := Lib.hid hpt; have HBM := Lib.hid hbm
      clear hsn h1 h2 hmn hnm hown hfl hlin hbm hpt HSL
      have f0 := HS.out.f.c0; have f1 := HS.out.f.c1; have fl := HS.out.f.lt
      go_wp2_with fail
      refine Calls.mono (figCheckN_ok _ n c' _ _ m bc' _ HF.out) ?_
      rintro er w1 ⟨rfl, hb⟩
      have HS1 := Lib.hid (HS.out.below hb)
      have HO1 := Lib.hid (own_below HO.out hb); have HL1 := Lib.hid (HLI.out.below hb)
      clear hb HS f0 f1 fl HF HO HLI
      have f0 := HS1.out.f.c0; have f1 := HS1.out.f.c1; have fl := HS1.out.f.lt
      have r0 := HS1.out.r.c0; have r1 := HS1.out.r.c1; have rl := HS1.out.r.lt; have rf0 := HS1.out.r.free 0; have rf1 := HS1.out.r.free 1
      have wk := HK.out
      have HBF := Lib.hid (fun u v => (HS1.out.b.setCell (p := ⟨k, 0, none⟩) (show w.heap.size ≤ k by omega) u).setCell (p := ⟨k, 1, none⟩) (show w.heap.size ≤ k by omega) v)
      have HLF := Lib.hid (fun x y => (show LinN ((w1.setCell ⟨k, 0, none⟩ x).setCell ⟨k, 1, none⟩ y) (k + 1 + 1) (.slice B' m bc') m from (HL1.out.set (by omega)).set (by omega)))
      have HWF := Lib.hid (fun x y => own_flat_of (own_set (b := k) (o := 1) (x := y) (own_set (b := k) (o := 0) (x := x) HO1.out (by omega)) (by omega)))
      clear wk
      go_wp2_with fail
      refine bodyPost_ret (v := .tuple #[.agg #[.slice A' n c', .slice B' m bc'], .int .i64 0]) ?_ rfl ⟨A', c', B', bc', rfl, FigN.mk (HWF.out _ _) hn (fun i hi => (HPT.out i hi).1) (fun i hi => (HPT.out i hi).2) HM.out HBM.out (HLF.out _ _).lines, HBF.out _ _⟩
      simp [results, Tryz.results9, go_sem, *]
end Go.Proofs.YtdifeoahaegjbaaGreatDoor
