/- forecast.Extend. -/
import Derived.Test.YtdifeoahaegjbaaDoorZClone
import Derived.Deep.Onto
namespace Go.Proofs.YtdifeoahaegjbaaDoor
open Go.RowKit
set_option linter.unusedSimpArgs false
set_option linter.unusedVariables false

theorem own_sl {w : World} {base n m : Nat} {A : Option Addr} {cap : Nat} {cs : List Chg} (hr : ChRngs cs) (h : w.ownsRow base 36 3 (.slice A n cap) m (chCs cs)) : ChSl w A m cap cs := by
  obtain ⟨A', c', e, hc⟩ := own_ch hr h
  injection e with h1 h2 h3
  subst h1; subst h3
  exact hc
def zeroZ : Value := .agg #[.string ⟨#[]⟩, .int .i64 0, .slice none 0 0]
def lastOff (f : Int) (cs : List Chg) : Int := if cs.length = 0 then f else (ch cs (cs.length - 1)).off
def lastR (l : List Rul) : Int := (rl l (l.length - 1)).off
/-- What the rules make of k years. -/
def MadeY (l : List Rul) (b : Int) : Nat → List Chg → Prop
  | 0, cs => cs = []
  | k + 1, cs => ∃ a more, cs = a ++ more ∧ MadeY l b k a ∧ Made l (if k = 0 then b else lastR l) more ∧ more.length = l.length
theorem MadeY.len {l : List Rul} {b : Int} : ∀ {k : Nat} {cs : List Chg}, MadeY l b k cs → cs.length = k * l.length
  | 0, cs, h => by rw [show cs = [] from h]; simp
  | k + 1, cs, ⟨a, more, e, h, _, hl⟩ => by rw [e, List.length_append, MadeY.len h, hl, Nat.succ_mul]
theorem lastR_bd {l : List Rul} (h : RulesOk l) : -64800000 ≤ lastR l ∧ lastR l ≤ 64800000 := offOk_bd (rules_at h (by have := h.1; omega)).o
theorem MadeY.rngs {l : List Rul} {b : Int} (hr : RulesOk l) (hb : -64800000 ≤ b ∧ b ≤ 64800000) : ∀ {k : Nat} {cs : List Chg}, MadeY l b k cs → ChRngs cs
  | 0, cs, h => by rw [show cs = [] from h]; exact fun i hi => absurd hi (by simp)
  | k + 1, cs, ⟨a, more, e, h, hm, hl⟩ => by
    rw [e]
    refine (MadeY.rngs hr hb h).app (hm.rngs hr ?_ (by omega))
    split
    · exact hb
    · exact lastR_bd hr
theorem lastOff_bd {s : ByteArray} {f : Int} {cs : List Chg} (h : ZoneOk s f cs) : -64800000 ≤ lastOff f cs ∧ lastOff f cs ≤ 64800000 := by
  unfold lastOff
  split
  · exact offOk_bd h.2.1
  · exact offOk_bd (h.2.2.2 _ (by omega)).2.1

def ExtPost (s : ByteArray) (f : Int) (cs : List Chg) (l : List Rul) (m : Nat) (w : World) (e : Ending) (w' : World) : Prop :=
  (∃ r : Int, r ≠ 0 ∧ e = .returned (.tuple #[zeroZ, .int .i64 r]) ∧ (RulesOk l → ZoneOk s f cs → ∃ news, MadeY l (lastOff f cs) m news ∧ ¬ ZoneOk s f (cs ++ news)) ∧ Below w.heap.size w w') ∨
  (∃ news A' n' cap', e = .returned (.tuple #[.agg #[.string s, .int .i64 f, .slice A' n' cap'], .int .i64 0]) ∧ RulesOk l ∧ ZoneOk s f cs ∧ MadeY l (lastOff f cs) m news ∧ ZoneOk s f (cs ++ news) ∧ ChSl w' A' n' cap' (cs ++ news) ∧ Below w.heap.size w w')

set_option maxHeartbeats 1000000 in
theorem isYear_ok (n : Int) (w : World) (h : -10000 ≤ n ∧ n ≤ 10000) : Calls Tryd.prog 12 #[.int .i64 n] w fun e w' => e = .returned (.bool true) ∧ w' = w := by
  have h1 := h.1; have h2 := h.2
  go_enter Tryd.func12, Tryd.ntmps12
  go_wp2_with fail
  go_ret
  exact ⟨rfl, rfl⟩

set_option maxRecDepth 100000 in
set_option maxHeartbeats 16000000 in
theorem extend_ok (s : ByteArray) (f : Int) (A : Option Addr) (n cap : Nat) (cs : List Chg) (B : Option Addr) (m mc : Nat) (l : List Rul) (y : Int) (yn : Nat) (t : Int) (w : World) (h : ChSl w A n cap cs) (hr : RlSl w B m mc l) (hs : s.size ≤ 9223372036854775807) (hy : 1 ≤ y ∧ y ≤ 5000) (hyn : 1 ≤ yn ∧ yn ≤ 5) (ht : t = y + (yn - 1 : Nat)) :
    Calls Tryd.prog 4 #[.agg #[.string s, .int .i64 f, .slice A n cap], .slice B m mc, .int .i64 y, .int .i64 t] w (ExtPost s f cs l yn w) := by
  obtain ⟨iC, hC0, hC1, hC2, hC3⟩ := info_parts Tryd.infoCh
  have H := Lib.hid h; have HR := Lib.hid hr; have HY := Lib.hid hy; have HYN := Lib.hid hyn; have HT := Lib.hid ht
  have HZ0 := (ZBox.new w (.string s) (.int .i64 f) (.slice A n cap)).alloc (.cells #[.string ⟨#[]⟩, .int .i64 0, .slice none 0 0] 24)
  have HZ1 := ZBox.new (w.alloc (.cells #[.string s, .int .i64 f, .slice A n cap] 24)) (.string ⟨#[]⟩) (.int .i64 0) (.slice none 0 0)
  have hbb := (((Below.refl w.heap.size w).alloc (Nat.le_refl _) (.cells #[.string s, .int .i64 f, .slice A n cap] 24)).alloc (by simp) (.cells #[.string ⟨#[]⟩, .int .i64 0, .slice none 0 0] 24))
  rw [World.size_alloc] at HZ1
  obtain ⟨k, hk⟩ : ∃ k, k = w.heap.size := ⟨_, rfl⟩
  have KS := Lib.hid hk
  have HCR := Lib.hid (fun W hW => fcCheck_ok B m mc l W hW)
  have HCZ := Lib.hid (fun W hW => zCheck_ok s f A n cap cs W hW hs)
  clear h hr hy hyn ht
  go_enter Tryd.func4, Tryd.ntmps4
  go_upto_region 1 with fail
  obtain ⟨V, hV⟩ : ∃ V, V = (w.alloc (.cells #[.string s, .int .i64 f, .slice A n cap] 24)).alloc (.cells #[.string ⟨#[]⟩, .int .i64 0, .slice none 0 0] 24) := ⟨_, rfl⟩
  rw [← hV] at HZ0 HZ1 hbb ⊢
  rw [← hk] at HZ0 HZ1 ⊢
  have Z0 := Lib.hid HZ0; have Z1 := Lib.hid HZ1; have Hb := Lib.hid hbb
  clear hV hk HZ0 HZ1 hbb
  go_wp2_with fail
  refine Calls.mono (HCR.out _ (HR.out.stay Hb.out)) ?_
  rintro e w1 ⟨r, rfl, hr, hb⟩
  have Z01 := Lib.hid (Z0.out.below hb); have Z11 := Lib.hid (Z1.out.below hb); have Hb1 := Lib.hid (Hb.out.trans (hb.mono Hb.out.size))
  have HRR := Lib.hid hr
  clear hb hr Z0 Z1 Hb
  by_cases hr0 : r = 0
  · subst hr0
    have hROK := HRR.out.1 rfl
    have HRO := Lib.hid hROK
    clear hROK
    have x0 := Z01.out.c0; have x1 := Z01.out.c1; have x2 := Z01.out.c2; have xl := Z01.out.lt
    go_wp2_with fail
    refine Calls.mono (HCZ.out _ (H.out.stay Hb1.out)) ?_
    rintro e w2 ⟨r, rfl, hr, hb⟩
    have Z02 := Lib.hid (Z01.out.below hb); have Z12 := Lib.hid (Z11.out.below hb); have Hb2 := Lib.hid (Hb1.out.trans (hb.mono Hb1.out.size))
    have HRZ := Lib.hid hr
    clear hb hr Z01 Z11 Hb1 HRR x0 x1 x2 xl
    by_cases hr0 : r = 0
    · subst hr0
      have hZOK := HRZ.out.1 rfl
      have HZO := Lib.hid hZOK
      clear hZOK
      obtain ⟨q1, q2⟩ := HY.out
      have q3 : decide (t < y) = false := decide_eq_false (by have := HT.out; omega)
      have q4 : decide (10000 < t) = false := decide_eq_false (by have := HT.out; have := HYN.out; omega)
      have q5 : decide (50 < t - y) = false := decide_eq_false (by have := HT.out; have := HYN.out; omega)
      have q6 : IntKind.i64.wrap (t - y) = t - y := IntWalk.i64_in _ (by have := HT.out; have := HYN.out; omega)
      go_wp2_with fail
      refine Calls.mono (isYear_ok y _ (by omega)) ?_
      rintro e w3 ⟨rfl, rfl⟩
      clear q1 q2
      have x0 := Z02.out.c0; have x1 := Z02.out.c1; have x2 := Z02.out.c2; have xl := Z02.out.lt
      have bw := (Below.refl w3.heap.size w3).alloc (Nat.le_refl _) (.cells #[.string s, .int .i64 f, .slice A n cap] 24)
      have Z03 := Lib.hid (Z02.out.below bw); have Z13 := Lib.hid (Z12.out.below bw); have Hb3 := Lib.hid (Hb2.out.trans (bw.mono Hb2.out.size))
      have Z23 := Lib.hid (ZBox.new w3 (.string s) (.int .i64 f) (.slice A n cap))
      have hk12 : k + 1 < w3.heap.size := Z12.out.lt
      clear bw Z02 Z12 Hb2
      go_wp2_with fail
      obtain ⟨k2, hk2⟩ : ∃ b, b = w3.heap.size := ⟨_, rfl⟩
      obtain ⟨W, hW⟩ : ∃ W, W = w3.alloc (.cells #[.string s, .int .i64 f, .slice A n cap] 24) := ⟨_, rfl⟩
      have hWs : W.heap.size = k2 + 1 := by rw [hW, hk2]; simp
      rw [← hW] at Z03 Z13 Hb3 Z23 ⊢
      rw [← hk2] at Z23 hk12 ⊢
      have HK2 := Lib.hid hk12
      clear hW hk2 x0 x1 x2 xl q3 q4 q5 q6 hk12
      have hn2 : n ≤ 200 := by have := HZO.out.2.2.1; rw [H.out.len] at this; exact this
      refine Calls.mono (clone_ok A n cap cs _ (H.out.stay Hb3.out) hn2) ?_
      rintro e w4 ⟨v, rfl, hown, hb⟩
      rw [hWs] at hown
      obtain ⟨A1, c1, rfl, _⟩ := own_ch H.out.rngs hown
      have Z04 := Lib.hid (Z03.out.below hb); have Z14 := Lib.hid (Z13.out.below hb); have Z24 := Lib.hid (Z23.out.below hb); have Hb4 := Lib.hid (Hb3.out.trans (hb.mono Hb3.out.size))
      have hs4 : k2 + 1 ≤ w4.heap.size := by have := hb.size; omega
      have HO4 := Lib.hid hown
      have Z0e := Lib.hid (Z04.out.other (a := ⟨k2, 2, none⟩) (show k ≠ k2 by have := HK2.out; omega) (.slice A1 n c1))
      have Z1e := Lib.hid (Z14.out.other (a := ⟨k2, 2, none⟩) (show k + 1 ≠ k2 by have := HK2.out; omega) (.slice A1 n c1))
      have Z2e := Lib.hid (Z24.out.set2 (.slice A1 n c1))
      have Hbe := Lib.hid (Hb4.out.setCell (p := ⟨k2, 2, none⟩) (show w.heap.size ≤ k2 by have := HK2.out; have := KS.out; omega) (.slice A1 n c1))
      have HOe := Lib.hid (zown_set (b := k2) (o := 2) (x := .slice A1 n c1) HO4.out (by omega))
      have hse : k2 + 1 ≤ (w4.setCell ⟨k2, 2, none⟩ (.slice A1 n c1)).heap.size := by simpa using hs4
      have x0 := Z04.out.c0; have x1 := Z04.out.c1; have x2 := Z04.out.c2; have xl := Z04.out.lt
      have y2 := Z24.out.c2; have y3 := Z24.out.free 2; have yl := Z24.out.lt
      clear hb hown hs4 Z03 Z13 Z23 Hb3 Z14 Hb4 HO4
      have hne : k ≠ k2 := by have := HK2.out; omega
      rcases Nat.eq_zero_or_pos n with hn0 | hn0
      focus
        have hlo : lastOff f cs = f := by unfold lastOff; rw [H.out.len, if_pos hn0]
        have HLO := Lib.hid hlo
        clear hlo
        have n0 : decide ((0 : Int) < (n : Int)) = false := decide_eq_false (by omega)
        have n1 : decide (0 < n) = false := decide_eq_false (by omega)
        clear hn0
        go_wp2_with fail
        clear n0 n1
      rotate_left
      focus
        obtain ⟨p, hp⟩ : ∃ p, n = p + 1 := ⟨n - 1, by omega⟩
        obtain ⟨q, o, hA, hc⟩ := (H.out.stay Hbe.out).mem hn0
        obtain ⟨_, z1, _⟩ := hc p (by omega)
        have hlo : lastOff f cs = (ch cs p).off := by unfold lastOff; rw [H.out.len, if_neg (by omega), hp]; rfl
        rw [← hlo] at z1
        have hsub : (n : Int) - 1 = (p : Int) := by omega
        have p0 : (0 : Int) ≤ (p : Int) := by omega
        have p1 : (p : Int) < (n : Int) := by omega
        have p2 : (p : Int) < (cap : Int) := by have := H.out.le; omega
        have hwp : IntKind.i64.wrap (p : Int) = (p : Int) := IntWalk.i64_in _ (by omega)
        have n0 : decide ((0 : Int) < (n : Int)) = true := decide_eq_true (by omega)
        have n1 : decide (0 < n) = true := decide_eq_true (by omega)
        subst hA
        clear hc hlo hp hn0
        go_wp2_with fail
        clear n0 n1 z1 hsub p0 p1 p2 hwp
        have HLO := Lib.hid (rfl : lastOff f cs = lastOff f cs)
      rotate_left
      focus
        clear x0 x1 x2 xl y2 y3 yl Z04 Z24
        obtain ⟨W0, hW0⟩ : ∃ W0, W0 = w4.setCell ⟨k2, 2, none⟩ (.slice A1 n c1) := ⟨_, rfl⟩
        rw [← hW0] at Z0e Z1e Z2e Hbe HOe hse ⊢
        clear hW0 Z0e
        have hm4 := HRO.out.2.1
        rw [HR.out.len] at hm4
        have hm1 := HRO.out.1
        rw [HR.out.len] at hm1
        go_loopw [13, 15] (fun b' y' wv => ∃ (j M : Nat) (news : List Chg) (A2 : Option Addr) (c2 : Nat), j ≤ yn ∧ M = n + j * m ∧ y' = .int .i64 (y + (j : Int)) ∧ b' = .int .i64 (if j = 0 then lastOff f cs else lastR l) ∧ MadeY l (lastOff f cs) j news ∧
          wv.ownsRow (k2 + 1) 36 3 (.slice A2 M c2) M (chCs (cs ++ news)) ∧ ZBox wv k2 (.string s) (.int .i64 f) (.slice A2 M c2) ∧ ZBox wv (k + 1) (.string ⟨#[]⟩) (.int .i64 0) (.slice none 0 0) ∧ k2 + 1 ≤ wv.heap.size ∧ Below w.heap.size w wv) (fun _ y' _ => (t + 1 - intOf y').toNat)
        case atStart => exact ⟨0, n, [], A1, c1, by omega, by omega, by rw [Int.natCast_zero, Int.add_zero], by rw [if_pos rfl, HLO.out], rfl, by rw [List.append_nil]; exact HOe.out, Z2e.out, Z1e.out, hse, Hbe.out⟩
        case round =>
          clear HOe Z2e Z1e hse Hbe
          obtain ⟨j, M, news, A2, c2, hj, hM, rfl, rfl, hmy, hown, hz2, hz1, hsz, hb⟩ := hrel
          have HMY := Lib.hid hmy; have HO := Lib.hid hown; have Z2 := Lib.hid hz2; have Z1 := Lib.hid hz1; have Hb := Lib.hid hb; have HM := Lib.hid hM
          clear hmy hown hz2 hz1 hb hM
          obtain ⟨yy, hyy⟩ : ∃ yy, yy = y + (j : Int) := ⟨_, rfl⟩
          obtain ⟨bb, hbb⟩ : ∃ b, b = (if j = 0 then lastOff f cs else lastR l) := ⟨_, rfl⟩
          rw [← hyy, ← hbb]
          have HYY := Lib.hid hyy; have HBB := Lib.hid hbb
          clear hyy hbb
          by_cases hjn : j < yn
          · have c0 : yy ≤ t := by have := HYY.out; have := HT.out; have := HYN.out; omega
            have hyb : -10000 ≤ yy ∧ yy ≤ 10000 := by have := HYY.out; have := HY.out; have := HYN.out; omega
            have hbbd : -64800000 ≤ bb ∧ bb ≤ 64800000 := by
              rw [HBB.out]; split
              · exact lastOff_bd HZO.out
              · exact lastR_bd HRO.out
            have CH := Lib.hid (fun W hW => changes_ok B m mc l bb yy W hW HRO.out hbbd hyb)
            have HBD := Lib.hid hbbd
            have hM225 : M ≤ 220 := by
              have h1 := HM.out
              have h2 : j * m ≤ 4 * 4 := Nat.mul_le_mul (by have := HYN.out; omega) hm4
              omega
            clear hyb hbbd
            go_wp2_with fail
            obtain ⟨X, hX⟩ : ∃ X, X = wr.drew := ⟨_, rfl⟩
            have bX : Below wr.heap.size wr X := by rw [hX]; exact (Below.refl _ _).drew
            have Z2X := Lib.hid (Z2.out.below bX); have Z1X := Lib.hid (Z1.out.below bX); have HOX := Lib.hid (own_below HO.out bX); have HbX := Lib.hid (Hb.out.trans (bX.mono Hb.out.size))
            have hsX : k2 + 1 ≤ X.heap.size := Nat.le_trans hsz bX.size
            refine wp_region_G [(6, fun w' => ZBox w' k2 (.string s) (.int .i64 f) (.slice A2 M c2))] (by kernel_rfl) (heldC_one (fun _ => by rw [← hX]; exact Z2X.out)) (fun hF => ?_)
            rw [← hX] at hF ⊢
            clear hX bX Z2 Z1 HO Hb hsz
            refine wpG_takeC (oi := ?oi47) (v := ?vv47) 0 _ [1] ?hi47 (List.Mem.head _) ?hc47 ?hQ47 hF ?hw47 ?hy47 (fun hF => ?hh47)
            case hi47 => (simp only [List.getElem?_toArray, List.getElem?_cons_succ, List.getElem?_cons_zero]; rfl)
            case hc47 => kernel_rfl
            case hQ47 => exact fun _ _ _ h => h
            case hw47 => rfl
            case hy47 => (intro wz hz; skip; go_simp; try (with_reducible rfl))
            try simp only [Act.put, List.setIfInBounds_toArray, List.set_cons_zero, List.set_cons_succ]
            refine wpG_take (oi := ?oi48) (v := ?vv48) 1 _ ?hi48 (List.Mem.head _) ?hc48 ?hQ48 hF ?hw48 ?hy48 (fun hF => ?hh48)
            case hi48 => (simp only [List.getElem?_toArray, List.getElem?_cons_succ, List.getElem?_cons_zero]; rfl)
            case hc48 => kernel_rfl
            case hQ48 => exact fun _ _ _ h => h
            case hw48 => rfl
            case hy48 => (intro wz hz; have zz2 := hz.c2; go_simp; try (with_reducible rfl))
            try simp only [Act.put, List.setIfInBounds_toArray, List.set_cons_zero, List.set_cons_succ]
            refine wpG_takeC (oi := ?oi49) (v := ?vv49) 2 _ [5] ?hi49 (List.Mem.head _) ?hc49 ?hQ49 hF ?hw49 ?hy49 (fun hF => ?hh49)
            case hi49 => (simp only [List.getElem?_toArray, List.getElem?_cons_succ, List.getElem?_cons_zero]; rfl)
            case hc49 => kernel_rfl
            case hQ49 => exact fun _ _ _ h => h
            case hw49 => rfl
            case hy49 => (intro wz hz; skip; go_simp; try (with_reducible rfl))
            try simp only [Act.put, List.setIfInBounds_toArray, List.set_cons_zero, List.set_cons_succ]
            refine wpG_takeC (oi := ?oi50) (v := ?vv50) 3 _ [5] ?hi50 (List.Mem.head _) ?hc50 ?hQ50 hF ?hw50 ?hy50 (fun hF => ?hh50)
            case hi50 => (simp only [List.getElem?_toArray, List.getElem?_cons_succ, List.getElem?_cons_zero]; rfl)
            case hc50 => kernel_rfl
            case hQ50 => exact fun _ _ _ h => h
            case hw50 => rfl
            case hy50 => (intro wz hz; skip; go_simp; try (with_reducible rfl))
            try simp only [Act.put, List.setIfInBounds_toArray, List.set_cons_zero, List.set_cons_succ]
            refine wpG_takeC (oi := ?oi51) (v := ?vv51) 4 _ [5] ?hi51 (List.Mem.head _) ?hc51 ?hQ51 hF ?hw51 ?hy51 (fun hF => ?hh51)
            case hi51 => (simp only [List.getElem?_toArray, List.getElem?_cons_succ, List.getElem?_cons_zero]; rfl)
            case hc51 => kernel_rfl
            case hQ51 => exact fun _ _ _ h => h
            case hw51 => rfl
            case hy51 => (intro wz hz; skip; go_simp; try (with_reducible rfl))
            try simp only [Act.put, List.setIfInBounds_toArray, List.set_cons_zero, List.set_cons_succ]
            refine wpG_ready (rs := [5]) (by kernel_rfl) (by simp) ?_
            refine all_one ?_
            refine wpOp_hand (oi := ?oi52) ?hi52 (fun K hK => ?hh52)
            case hi52 => (simp only [List.getElem?_toArray, List.getElem?_cons_succ, List.getElem?_cons_zero]; rfl)
            go_simp
            go_at_call 14
            refine Calls.mono (CH.out _ (HR.out.stay HbX.out)) ?_
            rintro e wq ⟨v2, more, rfl, hmd, hml, hown2, hb⟩
            have hrg := hmd.rngs HRO.out HBD.out (by rw [hml, HR.out.len]; omega)
            obtain ⟨A3, c3, rfl, hs3⟩ := own_ch hrg hown2
            obtain ⟨b3, o3, rfl, _⟩ := hs3.mem (by omega)
            have hnews := hs3.news
            have hnl : (chCs more).length = m * 3 := by rw [chCs_len, hml]
            have Z2q := Lib.hid (Z2X.out.below hb); have Z1q := Lib.hid (Z1X.out.below hb); have HOq := Lib.hid (own_below HOX.out hb); have Hbq := Lib.hid (HbX.out.trans (hb.mono HbX.out.size))
            have hsq : k2 + 1 ≤ wq.heap.size := Nat.le_trans hsX hb.size
            have HMD := Lib.hid hmd; have HML := Lib.hid hml; have HRG := Lib.hid hrg
            clear hb hown2 hmd hml hrg hs3 Z2X Z1X HOX HbX hsX
            go_simp
            refine hK.out _ _ (heldC_one (fun _ => Z2q.out)) (fun hF => ?_)
            clear hK K
            try simp only [Act.put, List.setIfInBounds_toArray, List.set_cons_zero, List.set_cons_succ]
            refine wpG_ready (rs := [6]) (by kernel_rfl) (by simp) ?_
            refine all_one ?_
            refine wpOp_hand (oi := ?oi53) ?hi53 (fun K hK => ?hh53)
            case hi53 => (simp only [List.getElem?_toArray, List.getElem?_cons_succ, List.getElem?_cons_zero]; rfl)
            refine step_append_any (by rfl) (.tmp 73) (.tmp 77) _ (by rfl) (k2 + 1) 36 iC _ 3 32 Tryd.underlying22 hC0 hC1 hC2 hC3 rfl (by omega) (.slice A2 M c2) M (chCs (cs ++ news)) (by rfl) HOq.out ⟨b3, o3, none⟩ m c3 (chCs more) (by rfl) hnl hnews (chCs_one more) (by unfold maxLen; omega) (by omega) hsq ?_
            intro v' w5 hown' hgrow hat
            rw [← chCs_app, List.append_assoc] at hown'
            have hrgs : ChRngs (cs ++ (news ++ more)) := H.out.rngs.app ((HMY.out.rngs HRO.out (lastOff_bd HZO.out)).app HRG.out)
            obtain ⟨A4, c4, rfl, _⟩ := own_ch hrgs hown'
            have hlo : ∀ q, (Value.slice A2 M c2).ownBlock = some q → k2 + 1 ≤ q := fun q hq => (HOq.out.lt q hq).1
            have Z25 := Lib.hid (Z2q.out.grown hgrow (fun e => by have := hlo _ e.symm; omega))
            have Z15 := Lib.hid (Z1q.out.grown hgrow (fun e => by have := hlo _ e.symm; have := HK2.out; omega))
            have Hb5 := Lib.hid (below_growZ Hbq.out (Nat.le_refl _) hgrow (fun q hq => by have := hlo q hq; have := HK2.out; have := KS.out; omega))
            have hs5 : k2 + 1 ≤ w5.heap.size := Nat.le_trans hsq hgrow.size
            have HO5 := Lib.hid hown'; have HRS := Lib.hid hrgs
            clear hown' hgrow hat hnews hlo hsq Z2q Z1q HOq Hbq hnl hrgs
            go_simp
            refine hK.out _ _ (heldC_one (fun h => absurd h (by simp))) (fun hF => ?_)
            clear hK K
            try simp only [Act.put, List.setIfInBounds_toArray, List.set_cons_zero, List.set_cons_succ]
            refine wpG_ready (rs := [7]) (by kernel_rfl) (by simp) ?_
            refine all_one ?_
            refine wpOp_hand (oi := ?oi54) ?hi54 (fun K hK => ?hh54)
            case hi54 => (simp only [List.getElem?_toArray, List.getElem?_cons_succ, List.getElem?_cons_zero]; rfl)
            go_simp
            refine hK.out _ _ (heldC_one (fun h => absurd h (by simp))) (fun hF => ?_)
            clear hK K
            try simp only [Act.put, List.setIfInBounds_toArray, List.set_cons_zero, List.set_cons_succ]
            refine wpG_ready (rs := [8]) (by kernel_rfl) (by simp) ?_
            refine all_one ?_
            have g2 := Z25.out.c2; have gf := Z25.out.free 2; have gl := Z25.out.lt
            refine wpOp_hand (oi := ?oi55) ?hi55 (fun K hK => ?hh55)
            case hi55 => (simp only [List.getElem?_toArray, List.getElem?_cons_succ, List.getElem?_cons_zero]; rfl)
            go_simp
            refine hK.out _ _ (heldC_one (fun h => absurd h (by simp))) (fun hF => ?_)
            clear hK K
            try simp only [Act.put, List.setIfInBounds_toArray, List.set_cons_zero, List.set_cons_succ]
            refine wpG_done (by kernel_rfl) ?_ _
            clear hF g2 gf gl
            have Z26 := Lib.hid (Z25.out.set2 (.slice A4 (M + m) c4))
            have Z16 := Lib.hid (Z15.out.other (a := ⟨k2, 2, none⟩) (show k + 1 ≠ k2 by have := HK2.out; omega) (.slice A4 (M + m) c4))
            have Hb6 := Lib.hid (Hb5.out.setCell (p := ⟨k2, 2, none⟩) (show w.heap.size ≤ k2 by have := HK2.out; have := KS.out; omega) (.slice A4 (M + m) c4))
            have HO6 := Lib.hid (zown_set (b := k2) (o := 2) (x := .slice A4 (M + m) c4) HO5.out (by omega))
            have hs6 : k2 + 1 ≤ (w5.setCell ⟨k2, 2, none⟩ (.slice A4 (M + m) c4)).heap.size := by simpa using hs5
            obtain ⟨mp, hmp⟩ : ∃ p, m = p + 1 := ⟨m - 1, by omega⟩
            obtain ⟨qb, qo, hB, hcB⟩ := (HR.out.stay Hb6.out).mem (by omega)
            have r4 := (hcB mp (by omega)).c4
            have hlr : lastR l = (rl l mp).off := by unfold lastR; rw [HR.out.len, hmp]; rfl
            rw [← hlr] at r4
            have msub : (m : Int) - 1 = (mp : Int) := by omega
            have mw : IntKind.i64.wrap (mp : Int) = (mp : Int) := IntWalk.i64_in _ (by omega)
            have m0 : (0 : Int) ≤ (mp : Int) := by omega
            have m1 : (mp : Int) < (m : Int) := by omega
            have yw : IntKind.i64.wrap (yy + 1) = yy + 1 := IntWalk.i64_in _ (by have := HYY.out; have := HY.out; have := HYN.out; omega)
            obtain ⟨W6, hW6⟩ : ∃ W, W = w5.setCell ⟨k2, 2, none⟩ (.slice A4 (M + m) c4) := ⟨_, rfl⟩
            rw [← hW6] at Z26 Z16 Hb6 HO6 hs6 r4 ⊢
            have HB0 := Lib.hid hB
            clear hW6 hmp hcB hlr hs5 Z25 Z15 Hb5 HO5
            have hBB := HB0.out
            subst hBB
            clear HB0
            go_wp2_with fail
            go_roundw
            case rel => exact ⟨j + 1, M + m, news ++ more, A4, c4, by omega, by rw [HM.out, Nat.succ_mul]; omega, by rw [show yy + 1 = y + ((j + 1 : Nat) : Int) by have := HYY.out; omega], by rw [if_neg (by omega)], ⟨news, more, rfl, HMY.out, by rw [← HBB.out]; exact HMD.out, by rw [HML.out, HR.out.len]⟩, HO6.out, Z26.out, Z16.out, hs6, Hb6.out⟩
            case measure => have := HYY.out; have := HT.out; have := HYN.out; simp [intOf]; omega
          · have c0 : ¬ yy ≤ t := by have := HYY.out; have := HT.out; have := HYN.out; omega
            obtain rfl : j = yn := by omega
            have hrgs : ChRngs (cs ++ news) := H.out.rngs.app (HMY.out.rngs HRO.out (lastOff_bd HZO.out))
            have HCS := Lib.hid (own_sl hrgs HO.out); have HRG := Lib.hid hrgs
            have z0 := Z2.out.c0; have z1 := Z2.out.c1; have z2 := Z2.out.c2; have zl := Z2.out.lt
            clear hrgs
            go_wp2_with fail
            refine Calls.mono (zCheck_ok s f A2 M c2 (cs ++ news) _ HCS.out hs) ?_
            rintro e w7 ⟨r, rfl, hr, hb⟩
            have Z27 := Lib.hid (Z2.out.below hb); have Z17 := Lib.hid (Z1.out.below hb); have Hb7 := Lib.hid (Hb.out.trans (hb.mono Hb.out.size))
            have HO7 := Lib.hid (own_below HO.out hb); have hs7 : k2 + 1 ≤ w7.heap.size := Nat.le_trans hsz hb.size
            have HRL := Lib.hid hr
            clear hb hr z0 z1 z2 zl Z2 Z1 Hb HCS HO
            have f0 := Z17.out.free 0; have f1 := Z17.out.free 1; have f2 := Z17.out.free 2; have cc0 := Z17.out.c0; have cc1 := Z17.out.c1; have cc2 := Z17.out.c2; have cl := Z17.out.lt
            have z0 := Z27.out.c0; have z1 := Z27.out.c1; have z2 := Z27.out.c2; have zl := Z27.out.lt
            by_cases hr0 : r = 0
            · subst hr0
              have hok := HRL.out.1 rfl
              have HOKK := Lib.hid hok
              have HCF := Lib.hid (fun x y z => show ChSl (((w7.setCell ⟨k + 1, 0, none⟩ x).setCell ⟨k + 1, 1, none⟩ y).setCell ⟨k + 1, 2, none⟩ z) A2 M c2 (cs ++ news) from
                own_sl HRG.out (zown_set (zown_set (zown_set HO7.out (by have := HK2.out; omega)) (by have := HK2.out; omega)) (by have := HK2.out; omega)))
              have HBF := Lib.hid (fun x y z => ((Hb7.out.setCell (p := ⟨k + 1, 0, none⟩) (by have := KS.out; show _ ≤ k + 1; omega) x).setCell (p := ⟨k + 1, 1, none⟩) (by have := KS.out; show _ ≤ k + 1; omega) y).setCell (p := ⟨k + 1, 2, none⟩) (by have := KS.out; show _ ≤ k + 1; omega) z)
              clear hok
              go_wp2_with fail
              refine bodyPost_ret (v := .tuple #[.agg #[.string s, .int .i64 f, .slice A2 M c2], .int .i64 0]) ?_ rfl (.inr ⟨news, A2, M, c2, rfl, HRO.out, HZO.out, HMY.out, HOKK.out, HCF.out _ _ _, HBF.out _ _ _⟩)
              simp [results, Tryd.results4, go_sem, *]
            · have t1 : (r != 0) = true := by simp [hr0]
              have hno := Lib.hid (fun h : ZoneOk s f (cs ++ news) => hr0 (HRL.out.2 h))
              have HR0 := Lib.hid hr0
              clear hr0
              go_wp2_with fail
              refine bodyPost_ret (v := .tuple #[zeroZ, .int .i64 r]) ?_ rfl (.inl ⟨r, HR0.out, rfl, fun _ _ => ⟨news, HMY.out, hno.out⟩, ((Hb7.out.setCell (p := ⟨k + 1, 0, none⟩) (by have := KS.out; show _ ≤ k + 1; omega) _).setCell (p := ⟨k + 1, 1, none⟩) (by have := KS.out; show _ ≤ k + 1; omega) _).setCell (p := ⟨k + 1, 2, none⟩) (by have := KS.out; show _ ≤ k + 1; omega) _⟩)
              simp [results, Tryd.results4, go_sem, zeroZ, *]
      focus
        clear x0 x1 x2 xl y2 y3 yl Z04 Z24
        obtain ⟨W0, hW0⟩ : ∃ W0, W0 = w4.setCell ⟨k2, 2, none⟩ (.slice A1 n c1) := ⟨_, rfl⟩
        rw [← hW0] at Z0e Z1e Z2e Hbe HOe hse ⊢
        clear hW0 Z0e
        have hm4 := HRO.out.2.1
        rw [HR.out.len] at hm4
        have hm1 := HRO.out.1
        rw [HR.out.len] at hm1
        go_loopw [13, 15] (fun b' y' wv => ∃ (j M : Nat) (news : List Chg) (A2 : Option Addr) (c2 : Nat), j ≤ yn ∧ M = n + j * m ∧ y' = .int .i64 (y + (j : Int)) ∧ b' = .int .i64 (if j = 0 then lastOff f cs else lastR l) ∧ MadeY l (lastOff f cs) j news ∧
          wv.ownsRow (k2 + 1) 36 3 (.slice A2 M c2) M (chCs (cs ++ news)) ∧ ZBox wv k2 (.string s) (.int .i64 f) (.slice A2 M c2) ∧ ZBox wv (k + 1) (.string ⟨#[]⟩) (.int .i64 0) (.slice none 0 0) ∧ k2 + 1 ≤ wv.heap.size ∧ Below w.heap.size w wv) (fun _ y' _ => (t + 1 - intOf y').toNat)
        case atStart => exact ⟨0, n, [], A1, c1, by omega, by omega, by rw [Int.natCast_zero, Int.add_zero], by rw [if_pos rfl, HLO.out], rfl, by rw [List.append_nil]; exact HOe.out, Z2e.out, Z1e.out, hse, Hbe.out⟩
        case round =>
          clear HOe Z2e Z1e hse Hbe
          obtain ⟨j, M, news, A2, c2, hj, hM, rfl, rfl, hmy, hown, hz2, hz1, hsz, hb⟩ := hrel
          have HMY := Lib.hid hmy; have HO := Lib.hid hown; have Z2 := Lib.hid hz2; have Z1 := Lib.hid hz1; have Hb := Lib.hid hb; have HM := Lib.hid hM
          clear hmy hown hz2 hz1 hb hM
          obtain ⟨yy, hyy⟩ : ∃ yy, yy = y + (j : Int) := ⟨_, rfl⟩
          obtain ⟨bb, hbb⟩ : ∃ b, b = (if j = 0 then lastOff f cs else lastR l) := ⟨_, rfl⟩
          rw [← hyy, ← hbb]
          have HYY := Lib.hid hyy; have HBB := Lib.hid hbb
          clear hyy hbb
          by_cases hjn : j < yn
          · have c0 : yy ≤ t := by have := HYY.out; have := HT.out; have := HYN.out; omega
            have hyb : -10000 ≤ yy ∧ yy ≤ 10000 := by have := HYY.out; have := HY.out; have := HYN.out; omega
            have hbbd : -64800000 ≤ bb ∧ bb ≤ 64800000 := by
              rw [HBB.out]; split
              · exact lastOff_bd HZO.out
              · exact lastR_bd HRO.out
            have CH := Lib.hid (fun W hW => changes_ok B m mc l bb yy W hW HRO.out hbbd hyb)
            have HBD := Lib.hid hbbd
            have hM225 : M ≤ 220 := by
              have h1 := HM.out
              have h2 : j * m ≤ 4 * 4 := Nat.mul_le_mul (by have := HYN.out; omega) hm4
              omega
            clear hyb hbbd
            go_wp2_with fail
            obtain ⟨X, hX⟩ : ∃ X, X = wr.drew := ⟨_, rfl⟩
            have bX : Below wr.heap.size wr X := by rw [hX]; exact (Below.refl _ _).drew
            have Z2X := Lib.hid (Z2.out.below bX); have Z1X := Lib.hid (Z1.out.below bX); have HOX := Lib.hid (own_below HO.out bX); have HbX := Lib.hid (Hb.out.trans (bX.mono Hb.out.size))
            have hsX : k2 + 1 ≤ X.heap.size := Nat.le_trans hsz bX.size
            refine wp_region_G [(6, fun w' => ZBox w' k2 (.string s) (.int .i64 f) (.slice A2 M c2))] (by kernel_rfl) (heldC_one (fun _ => by rw [← hX]; exact Z2X.out)) (fun hF => ?_)
            rw [← hX] at hF ⊢
            clear hX bX Z2 Z1 HO Hb hsz
            refine wpG_takeC (oi := ?oi56) (v := ?vv56) 0 _ [1] ?hi56 (List.Mem.head _) ?hc56 ?hQ56 hF ?hw56 ?hy56 (fun hF => ?hh56)
            case hi56 => (simp only [List.getElem?_toArray, List.getElem?_cons_succ, List.getElem?_cons_zero]; rfl)
            case hc56 => kernel_rfl
            case hQ56 => exact fun _ _ _ h => h
            case hw56 => rfl
            case hy56 => (intro wz hz; skip; go_simp; try (with_reducible rfl))
            try simp only [Act.put, List.setIfInBounds_toArray, List.set_cons_zero, List.set_cons_succ]
            refine wpG_take (oi := ?oi57) (v := ?vv57) 1 _ ?hi57 (List.Mem.head _) ?hc57 ?hQ57 hF ?hw57 ?hy57 (fun hF => ?hh57)
            case hi57 => (simp only [List.getElem?_toArray, List.getElem?_cons_succ, List.getElem?_cons_zero]; rfl)
            case hc57 => kernel_rfl
            case hQ57 => exact fun _ _ _ h => h
            case hw57 => rfl
            case hy57 => (intro wz hz; have zz2 := hz.c2; go_simp; try (with_reducible rfl))
            try simp only [Act.put, List.setIfInBounds_toArray, List.set_cons_zero, List.set_cons_succ]
            refine wpG_takeC (oi := ?oi58) (v := ?vv58) 2 _ [5] ?hi58 (List.Mem.head _) ?hc58 ?hQ58 hF ?hw58 ?hy58 (fun hF => ?hh58)
            case hi58 => (simp only [List.getElem?_toArray, List.getElem?_cons_succ, List.getElem?_cons_zero]; rfl)
            case hc58 => kernel_rfl
            case hQ58 => exact fun _ _ _ h => h
            case hw58 => rfl
            case hy58 => (intro wz hz; skip; go_simp; try (with_reducible rfl))
            try simp only [Act.put, List.setIfInBounds_toArray, List.set_cons_zero, List.set_cons_succ]
            refine wpG_takeC (oi := ?oi59) (v := ?vv59) 3 _ [5] ?hi59 (List.Mem.head _) ?hc59 ?hQ59 hF ?hw59 ?hy59 (fun hF => ?hh59)
            case hi59 => (simp only [List.getElem?_toArray, List.getElem?_cons_succ, List.getElem?_cons_zero]; rfl)
            case hc59 => kernel_rfl
            case hQ59 => exact fun _ _ _ h => h
            case hw59 => rfl
            case hy59 => (intro wz hz; skip; go_simp; try (with_reducible rfl))
            try simp only [Act.put, List.setIfInBounds_toArray, List.set_cons_zero, List.set_cons_succ]
            refine wpG_takeC (oi := ?oi60) (v := ?vv60) 4 _ [5] ?hi60 (List.Mem.head _) ?hc60 ?hQ60 hF ?hw60 ?hy60 (fun hF => ?hh60)
            case hi60 => (simp only [List.getElem?_toArray, List.getElem?_cons_succ, List.getElem?_cons_zero]; rfl)
            case hc60 => kernel_rfl
            case hQ60 => exact fun _ _ _ h => h
            case hw60 => rfl
            case hy60 => (intro wz hz; skip; go_simp; try (with_reducible rfl))
            try simp only [Act.put, List.setIfInBounds_toArray, List.set_cons_zero, List.set_cons_succ]
            refine wpG_ready (rs := [5]) (by kernel_rfl) (by simp) ?_
            refine all_one ?_
            refine wpOp_hand (oi := ?oi61) ?hi61 (fun K hK => ?hh61)
            case hi61 => (simp only [List.getElem?_toArray, List.getElem?_cons_succ, List.getElem?_cons_zero]; rfl)
            go_simp
            go_at_call 14
            refine Calls.mono (CH.out _ (HR.out.stay HbX.out)) ?_
            rintro e wq ⟨v2, more, rfl, hmd, hml, hown2, hb⟩
            have hrg := hmd.rngs HRO.out HBD.out (by rw [hml, HR.out.len]; omega)
            obtain ⟨A3, c3, rfl, hs3⟩ := own_ch hrg hown2
            obtain ⟨b3, o3, rfl, _⟩ := hs3.mem (by omega)
            have hnews := hs3.news
            have hnl : (chCs more).length = m * 3 := by rw [chCs_len, hml]
            have Z2q := Lib.hid (Z2X.out.below hb); have Z1q := Lib.hid (Z1X.out.below hb); have HOq := Lib.hid (own_below HOX.out hb); have Hbq := Lib.hid (HbX.out.trans (hb.mono HbX.out.size))
            have hsq : k2 + 1 ≤ wq.heap.size := Nat.le_trans hsX hb.size
            have HMD := Lib.hid hmd; have HML := Lib.hid hml; have HRG := Lib.hid hrg
            clear hb hown2 hmd hml hrg hs3 Z2X Z1X HOX HbX hsX
            go_simp
            refine hK.out _ _ (heldC_one (fun _ => Z2q.out)) (fun hF => ?_)
            clear hK K
            try simp only [Act.put, List.setIfInBounds_toArray, List.set_cons_zero, List.set_cons_succ]
            refine wpG_ready (rs := [6]) (by kernel_rfl) (by simp) ?_
            refine all_one ?_
            refine wpOp_hand (oi := ?oi62) ?hi62 (fun K hK => ?hh62)
            case hi62 => (simp only [List.getElem?_toArray, List.getElem?_cons_succ, List.getElem?_cons_zero]; rfl)
            refine step_append_any (by rfl) (.tmp 73) (.tmp 77) _ (by rfl) (k2 + 1) 36 iC _ 3 32 Tryd.underlying22 hC0 hC1 hC2 hC3 rfl (by omega) (.slice A2 M c2) M (chCs (cs ++ news)) (by rfl) HOq.out ⟨b3, o3, none⟩ m c3 (chCs more) (by rfl) hnl hnews (chCs_one more) (by unfold maxLen; omega) (by omega) hsq ?_
            intro v' w5 hown' hgrow hat
            rw [← chCs_app, List.append_assoc] at hown'
            have hrgs : ChRngs (cs ++ (news ++ more)) := H.out.rngs.app ((HMY.out.rngs HRO.out (lastOff_bd HZO.out)).app HRG.out)
            obtain ⟨A4, c4, rfl, _⟩ := own_ch hrgs hown'
            have hlo : ∀ q, (Value.slice A2 M c2).ownBlock = some q → k2 + 1 ≤ q := fun q hq => (HOq.out.lt q hq).1
            have Z25 := Lib.hid (Z2q.out.grown hgrow (fun e => by have := hlo _ e.symm; omega))
            have Z15 := Lib.hid (Z1q.out.grown hgrow (fun e => by have := hlo _ e.symm; have := HK2.out; omega))
            have Hb5 := Lib.hid (below_growZ Hbq.out (Nat.le_refl _) hgrow (fun q hq => by have := hlo q hq; have := HK2.out; have := KS.out; omega))
            have hs5 : k2 + 1 ≤ w5.heap.size := Nat.le_trans hsq hgrow.size
            have HO5 := Lib.hid hown'; have HRS := Lib.hid hrgs
            clear hown' hgrow hat hnews hlo hsq Z2q Z1q HOq Hbq hnl hrgs
            go_simp
            refine hK.out _ _ (heldC_one (fun h => absurd h (by simp))) (fun hF => ?_)
            clear hK K
            try simp only [Act.put, List.setIfInBounds_toArray, List.set_cons_zero, List.set_cons_succ]
            refine wpG_ready (rs := [7]) (by kernel_rfl) (by simp) ?_
            refine all_one ?_
            refine wpOp_hand (oi := ?oi63) ?hi63 (fun K hK => ?hh63)
            case hi63 => (simp only [List.getElem?_toArray, List.getElem?_cons_succ, List.getElem?_cons_zero]; rfl)
            go_simp
            refine hK.out _ _ (heldC_one (fun h => absurd h (by simp))) (fun hF => ?_)
            clear hK K
            try simp only [Act.put, List.setIfInBounds_toArray, List.set_cons_zero, List.set_cons_succ]
            refine wpG_ready (rs := [8]) (by kernel_rfl) (by simp) ?_
            refine all_one ?_
            have g2 := Z25.out.c2; have gf := Z25.out.free 2; have gl := Z25.out.lt
            refine wpOp_hand (oi := ?oi64) ?hi64 (fun K hK => ?hh64)
            case hi64 => (simp only [List.getElem?_toArray, List.getElem?_cons_succ, List.getElem?_cons_zero]; rfl)
            go_simp
            refine hK.out _ _ (heldC_one (fun h => absurd h (by simp))) (fun hF => ?_)
            clear hK K
            try simp only [Act.put, List.setIfInBounds_toArray, List.set_cons_zero, List.set_cons_succ]
            refine wpG_done (by kernel_rfl) ?_ _
            clear hF g2 gf gl
            have Z26 := Lib.hid (Z25.out.set2 (.slice A4 (M + m) c4))
            have Z16 := Lib.hid (Z15.out.other (a := ⟨k2, 2, none⟩) (show k + 1 ≠ k2 by have := HK2.out; omega) (.slice A4 (M + m) c4))
            have Hb6 := Lib.hid (Hb5.out.setCell (p := ⟨k2, 2, none⟩) (show w.heap.size ≤ k2 by have := HK2.out; have := KS.out; omega) (.slice A4 (M + m) c4))
            have HO6 := Lib.hid (zown_set (b := k2) (o := 2) (x := .slice A4 (M + m) c4) HO5.out (by omega))
            have hs6 : k2 + 1 ≤ (w5.setCell ⟨k2, 2, none⟩ (.slice A4 (M + m) c4)).heap.size := by simpa using hs5
            obtain ⟨mp, hmp⟩ : ∃ p, m = p + 1 := ⟨m - 1, by omega⟩
            obtain ⟨qb, qo, hB, hcB⟩ := (HR.out.stay Hb6.out).mem (by omega)
            have r4 := (hcB mp (by omega)).c4
            have hlr : lastR l = (rl l mp).off := by unfold lastR; rw [HR.out.len, hmp]; rfl
            rw [← hlr] at r4
            have msub : (m : Int) - 1 = (mp : Int) := by omega
            have mw : IntKind.i64.wrap (mp : Int) = (mp : Int) := IntWalk.i64_in _ (by omega)
            have m0 : (0 : Int) ≤ (mp : Int) := by omega
            have m1 : (mp : Int) < (m : Int) := by omega
            have yw : IntKind.i64.wrap (yy + 1) = yy + 1 := IntWalk.i64_in _ (by have := HYY.out; have := HY.out; have := HYN.out; omega)
            obtain ⟨W6, hW6⟩ : ∃ W, W = w5.setCell ⟨k2, 2, none⟩ (.slice A4 (M + m) c4) := ⟨_, rfl⟩
            rw [← hW6] at Z26 Z16 Hb6 HO6 hs6 r4 ⊢
            have HB0 := Lib.hid hB
            clear hW6 hmp hcB hlr hs5 Z25 Z15 Hb5 HO5
            have hBB := HB0.out
            subst hBB
            clear HB0
            go_wp2_with fail
            go_roundw
            case rel => exact ⟨j + 1, M + m, news ++ more, A4, c4, by omega, by rw [HM.out, Nat.succ_mul]; omega, by rw [show yy + 1 = y + ((j + 1 : Nat) : Int) by have := HYY.out; omega], by rw [if_neg (by omega)], ⟨news, more, rfl, HMY.out, by rw [← HBB.out]; exact HMD.out, by rw [HML.out, HR.out.len]⟩, HO6.out, Z26.out, Z16.out, hs6, Hb6.out⟩
            case measure => have := HYY.out; have := HT.out; have := HYN.out; simp [intOf]; omega
          · have c0 : ¬ yy ≤ t := by have := HYY.out; have := HT.out; have := HYN.out; omega
            obtain rfl : j = yn := by omega
            have hrgs : ChRngs (cs ++ news) := H.out.rngs.app (HMY.out.rngs HRO.out (lastOff_bd HZO.out))
            have HCS := Lib.hid (own_sl hrgs HO.out); have HRG := Lib.hid hrgs
            have z0 := Z2.out.c0; have z1 := Z2.out.c1; have z2 := Z2.out.c2; have zl := Z2.out.lt
            clear hrgs
            go_wp2_with fail
            refine Calls.mono (zCheck_ok s f A2 M c2 (cs ++ news) _ HCS.out hs) ?_
            rintro e w7 ⟨r, rfl, hr, hb⟩
            have Z27 := Lib.hid (Z2.out.below hb); have Z17 := Lib.hid (Z1.out.below hb); have Hb7 := Lib.hid (Hb.out.trans (hb.mono Hb.out.size))
            have HO7 := Lib.hid (own_below HO.out hb); have hs7 : k2 + 1 ≤ w7.heap.size := Nat.le_trans hsz hb.size
            have HRL := Lib.hid hr
            clear hb hr z0 z1 z2 zl Z2 Z1 Hb HCS HO
            have f0 := Z17.out.free 0; have f1 := Z17.out.free 1; have f2 := Z17.out.free 2; have cc0 := Z17.out.c0; have cc1 := Z17.out.c1; have cc2 := Z17.out.c2; have cl := Z17.out.lt
            have z0 := Z27.out.c0; have z1 := Z27.out.c1; have z2 := Z27.out.c2; have zl := Z27.out.lt
            by_cases hr0 : r = 0
            · subst hr0
              have hok := HRL.out.1 rfl
              have HOKK := Lib.hid hok
              have HCF := Lib.hid (fun x y z => show ChSl (((w7.setCell ⟨k + 1, 0, none⟩ x).setCell ⟨k + 1, 1, none⟩ y).setCell ⟨k + 1, 2, none⟩ z) A2 M c2 (cs ++ news) from
                own_sl HRG.out (zown_set (zown_set (zown_set HO7.out (by have := HK2.out; omega)) (by have := HK2.out; omega)) (by have := HK2.out; omega)))
              have HBF := Lib.hid (fun x y z => ((Hb7.out.setCell (p := ⟨k + 1, 0, none⟩) (by have := KS.out; show _ ≤ k + 1; omega) x).setCell (p := ⟨k + 1, 1, none⟩) (by have := KS.out; show _ ≤ k + 1; omega) y).setCell (p := ⟨k + 1, 2, none⟩) (by have := KS.out; show _ ≤ k + 1; omega) z)
              clear hok
              go_wp2_with fail
              refine bodyPost_ret (v := .tuple #[.agg #[.string s, .int .i64 f, .slice A2 M c2], .int .i64 0]) ?_ rfl (.inr ⟨news, A2, M, c2, rfl, HRO.out, HZO.out, HMY.out, HOKK.out, HCF.out _ _ _, HBF.out _ _ _⟩)
              simp [results, Tryd.results4, go_sem, *]
            · have t1 : (r != 0) = true := by simp [hr0]
              have hno := Lib.hid (fun h : ZoneOk s f (cs ++ news) => hr0 (HRL.out.2 h))
              have HR0 := Lib.hid hr0
              clear hr0
              go_wp2_with fail
              refine bodyPost_ret (v := .tuple #[zeroZ, .int .i64 r]) ?_ rfl (.inl ⟨r, HR0.out, rfl, fun _ _ => ⟨news, HMY.out, hno.out⟩, ((Hb7.out.setCell (p := ⟨k + 1, 0, none⟩) (by have := KS.out; show _ ≤ k + 1; omega) _).setCell (p := ⟨k + 1, 1, none⟩) (by have := KS.out; show _ ≤ k + 1; omega) _).setCell (p := ⟨k + 1, 2, none⟩) (by have := KS.out; show _ ≤ k + 1; omega) _⟩)
              simp [results, Tryd.results4, go_sem, zeroZ, *]
    · have t1 : (r != 0) = true := by simp [hr0]
      have hno := Lib.hid (fun h : ZoneOk s f cs => hr0 (HRZ.out.2 h))
      have HR0 := Lib.hid hr0
      have f0 := Z12.out.free 0; have f1 := Z12.out.free 1; have f2 := Z12.out.free 2; have c0 := Z12.out.c0; have c1 := Z12.out.c1; have c2 := Z12.out.c2; have cl := Z12.out.lt
      clear hr0
      go_wp2_with fail
      refine bodyPost_ret (v := .tuple #[zeroZ, .int .i64 r]) ?_ rfl (.inl ⟨r, HR0.out, rfl, fun _ h => absurd h hno.out, ((Hb2.out.setCell (p := ⟨k + 1, 0, none⟩) (by have := KS.out; show _ ≤ k + 1; omega) _).setCell (p := ⟨k + 1, 1, none⟩) (by have := KS.out; show _ ≤ k + 1; omega) _).setCell (p := ⟨k + 1, 2, none⟩) (by have := KS.out; show _ ≤ k + 1; omega) _⟩)
      simp [results, Tryd.results4, go_sem, zeroZ, *]
  · have t1 : (r != 0) = true := by simp [hr0]
    have hno := Lib.hid (fun h : RulesOk l => hr0 (HRR.out.2 h))
    have HR0 := Lib.hid hr0
    have f0 := Z11.out.free 0; have f1 := Z11.out.free 1; have f2 := Z11.out.free 2; have c0 := Z11.out.c0; have c1 := Z11.out.c1; have c2 := Z11.out.c2; have cl := Z11.out.lt
    clear hr0
    go_wp2_with fail
    refine bodyPost_ret (v := .tuple #[zeroZ, .int .i64 r]) ?_ rfl (.inl ⟨r, HR0.out, rfl, fun h => absurd h hno.out, ((Hb1.out.setCell (p := ⟨k + 1, 0, none⟩) (by have := KS.out; show _ ≤ k + 1; omega) _).setCell (p := ⟨k + 1, 1, none⟩) (by have := KS.out; show _ ≤ k + 1; omega) _).setCell (p := ⟨k + 1, 2, none⟩) (by have := KS.out; show _ ≤ k + 1; omega) _⟩)
    simp [results, Tryd.results4, go_sem, zeroZ, *]
end Go.Proofs.YtdifeoahaegjbaaDoor
