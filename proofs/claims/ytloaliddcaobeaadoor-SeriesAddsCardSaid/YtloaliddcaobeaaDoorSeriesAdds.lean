/- SeriesAdds: a sum of two sums is the sum of them. -/
import Derived.Test.YtloaliddcaobeaaDoorSeriesP
import Derived.Test.YtloaliddcaobeaaDoorAppendFlat
import Derived.Test.YtloaliddcaobeaaDoorSpan
import Derived.Test.YtloaliddcaobeaaDoorRegH
import Derived.Deep.RegionHeld3
namespace Go.Proofs.YtloaliddcaobeaaDoor
open Go.RowKit
set_option linter.unusedSimpArgs false
set_option linter.unusedVariables false
/-- Two boxes written anew. -/
theorem two_put {w : World} {b : Nat} {x y z u x1 y1 z1 u1 : Value} (E0 : SmBox w b x y z u) (E1 : SmBox w (b + 1) x1 y1 z1 u1) (x' y' z' u' x1' y1' z1' u1' : Value) :
    SmBox ((((((((w.setCell ⟨b, 0, none⟩ x').setCell ⟨b, 1, none⟩ y').setCell ⟨b, 2, none⟩ z').setCell ⟨b, 3, none⟩ u').setCell ⟨b + 1, 0, none⟩ x1').setCell ⟨b + 1, 1, none⟩ y1').setCell ⟨b + 1, 2, none⟩ z1').setCell ⟨b + 1, 3, none⟩ u1') b x' y' z' u' ∧
    SmBox ((((((((w.setCell ⟨b, 0, none⟩ x').setCell ⟨b, 1, none⟩ y').setCell ⟨b, 2, none⟩ z').setCell ⟨b, 3, none⟩ u').setCell ⟨b + 1, 0, none⟩ x1').setCell ⟨b + 1, 1, none⟩ y1').setCell ⟨b + 1, 2, none⟩ z1').setCell ⟨b + 1, 3, none⟩ u1') (b + 1) x1' y1' z1' u1' := by
  have n1 : ∀ o, b ≠ (⟨b + 1, o, none⟩ : Addr).block := fun o => by show b ≠ b + 1; omega
  have n2 : ∀ o, b + 1 ≠ (⟨b, o, none⟩ : Addr).block := fun o => by show b + 1 ≠ b; omega
  exact ⟨((((E0.put x' y' z' u').other (n1 0) x1').other (n1 1) y1').other (n1 2) z1').other (n1 3) u1', ((((E1.other (n2 0) x').other (n2 1) y').other (n2 2) z').other (n2 3) u').put x1' y1' z1' u1'⟩
theorem two_flat {w : World} {b sz n cap : Nat} {A : Option Addr} {zs : List Int} (h : FlatSl w (sz + 1) A n cap zs) (hA : ∀ a, A = some a → b + 1 < a.block) (x' y' z' u' x1' y1' z1' u1' : Value) :
    FlatSl ((((((((w.setCell ⟨b, 0, none⟩ x').setCell ⟨b, 1, none⟩ y').setCell ⟨b, 2, none⟩ z').setCell ⟨b, 3, none⟩ u').setCell ⟨b + 1, 0, none⟩ x1').setCell ⟨b + 1, 1, none⟩ y1').setCell ⟨b + 1, 2, none⟩ z1').setCell ⟨b + 1, 3, none⟩ u1') (sz + 1) A n cap zs := by
  have n1 : ∀ o, ∀ q, A = some q → q.block ≠ (⟨b, o, none⟩ : Addr).block := fun o q hq => by have := hA q hq; show q.block ≠ b; omega
  have n2 : ∀ o, ∀ q, A = some q → q.block ≠ (⟨b + 1, o, none⟩ : Addr).block := fun o q hq => by have := hA q hq; show q.block ≠ b + 1; omega
  exact flat_set (flat_set (flat_set (flat_set (flat_set (flat_set (flat_set (flat_set h _ _ (n1 0)) _ _ (n1 1)) _ _ (n1 2)) _ _ (n1 3)) _ _ (n2 0)) _ _ (n2 1)) _ _ (n2 2)) _ _ (n2 3)
theorem two_below {W w : World} {b : Nat} (h : Below W.heap.size W w) (hb : W.heap.size ≤ b) (x' y' z' u' x1' y1' z1' u1' : Value) :
    Below W.heap.size W ((((((((w.setCell ⟨b, 0, none⟩ x').setCell ⟨b, 1, none⟩ y').setCell ⟨b, 2, none⟩ z').setCell ⟨b, 3, none⟩ u').setCell ⟨b + 1, 0, none⟩ x1').setCell ⟨b + 1, 1, none⟩ y1').setCell ⟨b + 1, 2, none⟩ z1').setCell ⟨b + 1, 3, none⟩ u1') := by
  refine Below.setCell (Below.setCell (Below.setCell (Below.setCell (Below.setCell (Below.setCell (Below.setCell (Below.setCell h ?_ _) ?_ _) ?_ _) ?_ _) ?_ _) ?_ _) ?_ _) ?_ _
  all_goals (dsimp only; omega)
theorem smbox_grown {w w' : World} {g : Nat} {x y z u v : Value} (h : SmBox w g x y z u) (hg : w.grownBy w' v.ownBlock) (hn : v.ownBlock ≠ some g) : SmBox w' g x y z u :=
  World.rowIs.of_block h (hg.block g h.lt (fun e => hn e.symm))
theorem own_ne {v1 v2 : Value} {g s : Nat} (h : v2.ownBlock = v1.ownBlock ∨ v2.ownBlock = some s) (n1 : v1.ownBlock ≠ some g) (hs : g < s) : v2.ownBlock ≠ some g := by
  rcases h with h | h
  · rw [h]; exact n1
  · rw [h]; intro e; cases e; omega
theorem own_blk {A : Option Addr} {n c g : Nat} (h : (Value.slice A n c).ownBlock ≠ some g) : ∀ q, A = some q → q.block ≠ g := by
  intro q hq e
  subst hq
  exact h (by simp [Value.ownBlock, e])
theorem own_lt' {w : World} {B : Nat} {e : TypeId} {sz : Nat} {A : Option Addr} {n c : Nat} {xs : List Value} (h : w.ownsRow B e sz (.slice A n c) n xs) : ∀ q, A = some q → q.block < w.heap.size := by
  intro q hq
  subst hq
  exact (h.lt q.block (by simp [Value.ownBlock])).2
theorem four_flat {w : World} {g sz n cap : Nat} {A : Option Addr} {zs : List Int} (h : FlatSl w (sz + 1) A n cap zs) (hA : ∀ a, A = some a → a.block ≠ g) (x' y' z' u' : Value) :
    FlatSl ((((w.setCell ⟨g, 0, none⟩ x').setCell ⟨g, 1, none⟩ y').setCell ⟨g, 2, none⟩ z').setCell ⟨g, 3, none⟩ u') (sz + 1) A n cap zs := by
  have n1 : ∀ o, ∀ q, A = some q → q.block ≠ (⟨g, o, none⟩ : Addr).block := fun o q hq => hA q hq
  exact flat_set (flat_set (flat_set (flat_set h _ _ (n1 0)) _ _ (n1 1)) _ _ (n1 2)) _ _ (n1 3)
theorem four_below {W w : World} {g : Nat} (h : Below W.heap.size W w) (hb : W.heap.size ≤ g) (x' y' z' u' : Value) :
    Below W.heap.size W ((((w.setCell ⟨g, 0, none⟩ x').setCell ⟨g, 1, none⟩ y').setCell ⟨g, 2, none⟩ z').setCell ⟨g, 3, none⟩ u') := by
  refine Below.setCell (Below.setCell (Below.setCell (Below.setCell h ?_ _) ?_ _) ?_ _) ?_ _
  all_goals (dsimp only; omega)
theorem tdiv2_bd {a : Int} (h1 : -1000000000 ≤ a) (h2 : a ≤ 1000000000) : -500000000 ≤ a.tdiv 2 ∧ a.tdiv 2 ≤ 500000000 := by
  have e := Int.mul_tdiv_add_tmod a 2
  have m1 := Int.lt_tmod_of_pos a (show (0 : Int) < 2 by omega)
  have m2 := Int.tmod_lt_of_pos a (show (0 : Int) < 2 by omega)
  omega
set_option maxRecDepth 100000 in
set_option maxHeartbeats 16000000 in
theorem seriesAdds_walk (me0 mr0 mq0 : Int) (A0 : Option Addr) (n0 cap0 : Nat) (zs0 : List Int) (me1 mr1 mq1 : Int) (A1 : Option Addr) (n1 cap1 : Nat) (zs1 : List Int) (t0 : Int) (w : World) (ht : SinT w) (hF0 : FlatSl w 3 A0 n0 cap0 zs0) (hF1 : FlatSl w 3 A1 n1 cap1 zs1) :
    Calls Tryd.prog 8 #[.agg #[.int .i64 me0, .int .i64 mr0, .slice A0 n0 cap0, .int .i64 mq0], .agg #[.int .i64 me1, .int .i64 mr1, .slice A1 n1 cap1, .int .i64 mq1], .int .i64 t0] w fun e w' => e = .returned (.bool true) ∧ Below w.heap.size w w' := by
  obtain ⟨iT, hi, hy0, hy1, hy2⟩ := info_parts infoTerm
  have b0 := SmBox.new w (.int .i64 me0) (.int .i64 mr0) (.slice A0 n0 cap0) (.int .i64 mq0)
  have b1 := SmBox.new (w.alloc (.cells #[.int .i64 me0, .int .i64 mr0, .slice A0 n0 cap0, .int .i64 mq0] 48)) (.int .i64 me1) (.int .i64 mr1) (.slice A1 n1 cap1) (.int .i64 mq1)
  obtain ⟨b, hb⟩ : ∃ b, b = w.heap.size := ⟨_, rfl⟩
  have e5 : (w.alloc (.cells #[.int .i64 me0, .int .i64 mr0, .slice A0 n0 cap0, .int .i64 mq0] 48)).heap.size = b + 1 := by simp [hb]
  rw [e5] at b1
  have HB0 := Lib.hid (b0.alloc (.cells #[.int .i64 me1, .int .i64 mr1, .slice A1 n1 cap1, .int .i64 mq1] 48))
  rw [← hb] at HB0
  have HB1 := Lib.hid b1
  have HW := Lib.hid (show Below w.heap.size w ((w.alloc (.cells #[.int .i64 me0, .int .i64 mr0, .slice A0 n0 cap0, .int .i64 mq0] 48)).alloc (.cells #[.int .i64 me1, .int .i64 mr1, .slice A1 n1 cap1, .int .i64 mq1] 48)) from (by repeat' (first | (with_reducible refine below_drewN ?_ _) | go_grown)))
  obtain ⟨t, hte⟩ : ∃ t, t = t0 % 604800000000000 - 302400000000000 := ⟨_, rfl⟩
  have HI := Lib.hid (fun w => hte ▸ instant_ok t0 w)
  have HIN := Lib.hid (show instOk t = true by rw [hte]; exact instant_in t0)
  have HT := Lib.hid ht; have HF0 := Lib.hid hF0; have HF1 := Lib.hid hF1
  have HBB := Lib.hid hb
  have HE5 := Lib.hid e5
  clear hte ht hF0 hF1 b0 b1 e5
  go_enter Tryd.func8, Tryd.ntmps8
  go_upto_region 1 with fail
  (try rw [HE5.out])
  rw [← hb]
  clear hb
  obtain ⟨W, hW⟩ : ∃ W, W = (w.alloc (.cells #[.int .i64 me0, .int .i64 mr0, .slice A0 n0 cap0, .int .i64 mq0] 48)).alloc (.cells #[.int .i64 me1, .int .i64 mr1, .slice A1 n1 cap1, .int .i64 mq1] 48) := ⟨_, rfl⟩
  rw [← hW] at HB0 HB1 HW ⊢
  clear hW
  go_upto_region 3 with (go_at_call 29; refine Calls.mono (seriesWorks_ok _ (HT.out.below HW.out)) ?_; rintro e w1 ⟨rfl, hb⟩; have W1 := Lib.hid (HW.out.trans (hb.mono HW.out.size)); have C0 := Lib.hid (HB0.out.below hb); have C1 := Lib.hid (HB1.out.below hb); clear hb HB0 HB1 HW)
  go_cut [2] (fun s2 wx => s2 = .int .i64 t ∧ ∃ (m1 r1 q1 : Int) (D1 : Option Addr) (k1 c1 : Nat) (ys : List Int) (m2 r2 q2 : Int) (D2 : Option Addr) (k2 c2 : Nat) (us : List Int), SmBox wx b (.int .i64 m1) (.int .i64 r1) (.slice D1 k1 c1) (.int .i64 q1) ∧ SmBox wx (b + 1) (.int .i64 m2) (.int .i64 r2) (.slice D2 k2 c2) (.int .i64 q2) ∧ FlatSl wx 3 D1 k1 c1 ys ∧ FlatSl wx 3 D2 k2 c2 us ∧ SumIn m1 r1 q1 k1 ys ∧ SumIn m2 r2 q2 k2 us ∧ k1 ≤ 6 ∧ k2 ≤ 6 ∧ q1 < 1000 ∧ q2 < 1000 ∧ (∀ a, D1 = some a → b + 1 < a.block) ∧ (∀ a, D2 = some a → b + 1 < a.block) ∧ Below w.heap.size w wx)
  case first =>
    obtain ⟨X, hX⟩ : ∃ X, X = w1.drew := ⟨_, rfl⟩
    have HhX := Lib.hid hX
    have WX := Lib.hid (show Below w.heap.size w X by rw [hX]; exact W1.out.drew)
    have hf := Lib.hid (show SmBox X b (.int .i64 me0) (.int .i64 mr0) (.slice A0 n0 cap0) (.int .i64 mq0) ∧ SmBox X (b + 1) (.int .i64 me1) (.int .i64 mr1) (.slice A1 n1 cap1) (.int .i64 mq1) by rw [hX]; exact ⟨C0.out.drew, C1.out.drew⟩)
    clear hX C0 C1 W1
    refine wp_region_G [(6, fun w' => SmBox w' b (.int .i64 me0) (.int .i64 mr0) (.slice A0 n0 cap0) (.int .i64 mq0) ∧ SmBox w' (b + 1) (.int .i64 me1) (.int .i64 mr1) (.slice A1 n1 cap1) (.int .i64 mq1)), (8, fun _ => True)] (by kernel_rfl) (heldC_two (fun _ => by rw [← HhX.out]; exact hf.out) (fun _ => trivial)) (fun hF => ?_)
    rw [← HhX.out] at hF ⊢
    refine wpG_take (oi := ?oi1) (v := ?vv1) 0 _ ?hi1 (List.Mem.head _) ?hc1 ?hQ1 hF ?hw1 ?hy1 (fun hF => ?hh1)
    case hi1 => (simp only [List.getElem?_toArray, List.getElem?_cons_succ, List.getElem?_cons_zero]; rfl)
    case hc1 => kernel_rfl
    case hQ1 => exact fun _ _ _ h => h
    case hw1 => rfl
    case hy1 => (intro wz hz; have z0 := hz.1.c0; have z1 := hz.1.c1; have z2 := hz.1.c2; have z3 := hz.1.c3; have z4 := hz.1.lt; go_simp; try (with_reducible rfl))
    try simp only [Act.put, List.setIfInBounds_toArray, List.set_cons_zero, List.set_cons_succ]
    refine wpG_takeC (oi := ?oi2) (v := ?vv2) 2 _ [5,3] ?hi2 (List.Mem.head _) ?hc2 ?hQ2 hF ?hw2 ?hy2 (fun hF => ?hh2)
    case hi2 => (simp only [List.getElem?_toArray, List.getElem?_cons_succ, List.getElem?_cons_zero]; rfl)
    case hc2 => kernel_rfl
    case hQ2 => exact fun _ _ _ h => h
    case hw2 => rfl
    case hy2 => (intro wz hz; have z0 := hz.2.c0; have z1 := hz.2.c1; have z2 := hz.2.c2; have z3 := hz.2.c3; have z4 := hz.2.lt; go_simp; try (with_reducible rfl))
    try simp only [Act.put, List.setIfInBounds_toArray, List.set_cons_zero, List.set_cons_succ]
    refine wpG_takeC (oi := ?oi3) (v := ?vv3) 4 _ [5] ?hi3 (List.Mem.head _) ?hc3 ?hQ3 hF ?hw3 ?hy3 (fun hF => ?hh3)
    case hi3 => (simp only [List.getElem?_toArray, List.getElem?_cons_succ, List.getElem?_cons_zero]; rfl)
    case hc3 => kernel_rfl
    case hQ3 => exact fun _ _ _ h => h
    case hw3 => rfl
    case hy3 => (intro wz hz; skip; go_simp; try (with_reducible rfl))
    try simp only [Act.put, List.setIfInBounds_toArray, List.set_cons_zero, List.set_cons_succ]
    refine wpG_ready (rs := [1]) (by kernel_rfl) (by simp) ?_
    refine all_one ?_
    refine wpOp_hand (oi := ?oi4) ?hi4 (fun K hK => ?hh4)
    case hi4 => (simp only [List.getElem?_toArray, List.getElem?_cons_succ, List.getElem?_cons_zero]; rfl)
    go_simp
    refine Calls.mono (small_ok me0 mr0 mq0 A0 n0 cap0 zs0 _ (flat_below HF0.out WX.out)) ?_
    rintro e w2 ⟨m1, r1, q1, D1, k1, c1, ys, rfl, hfl1, hsum1, hk1, hq1, hAb1, hb⟩
    have W2 := Lib.hid (WX.out.trans (hb.mono WX.out.size))
    have hf2 := Lib.hid (And.intro (hf.out.1.below hb) (hf.out.2.below hb))
    have HA1 := Lib.hid (show ∀ a, D1 = some a → b + 1 < a.block from fun a ha => by have h1 := hAb1 a ha; have h2 := hf.out.2.lt; omega)
    have HL1 := Lib.hid hfl1
    have HS1 := Lib.hid hsum1
    clear hb hAb1 hfl1 hsum1 hf
    refine hK.out _ _ (heldC_two (fun _ => hf2.out) (fun _ => trivial)) (fun hF => ?_)
    clear hK K
    try simp only [Act.put, List.setIfInBounds_toArray, List.set_cons_zero, List.set_cons_succ]
    refine wpG_ready (rs := [3]) (by kernel_rfl) (by simp) ?_
    refine all_one ?_
    refine wpOp_hand (oi := ?oi5) ?hi5 (fun K hK => ?hh5)
    case hi5 => (simp only [List.getElem?_toArray, List.getElem?_cons_succ, List.getElem?_cons_zero]; rfl)
    go_simp
    refine Calls.mono (small_ok me1 mr1 mq1 A1 n1 cap1 zs1 _ (flat_below HF1.out W2.out)) ?_
    rintro e w3 ⟨m2, r2, q2, D2, k2, c2, us, rfl, hfl2, hsum2, hk2, hq2, hAb2, hb⟩
    have W3 := Lib.hid (W2.out.trans (hb.mono W2.out.size))
    have hf3 := Lib.hid (And.intro (hf2.out.1.below hb) (hf2.out.2.below hb))
    have HA2 := Lib.hid (show ∀ a, D2 = some a → b + 1 < a.block from fun a ha => by have h1 := hAb2 a ha; have h2 := hf2.out.2.lt; omega)
    have HL2 := Lib.hid hfl2
    have HS2 := Lib.hid hsum2
    have HL3 := Lib.hid (flat_below HL1.out hb)
    clear hb hAb2 hfl2 hsum2 hf2
    refine hK.out _ _ (heldC_two (fun _ => hf3.out) (fun _ => trivial)) (fun hF => ?_)
    clear hK K
    try simp only [Act.put, List.setIfInBounds_toArray, List.set_cons_zero, List.set_cons_succ]
    refine wpG_ready (rs := [5]) (by kernel_rfl) (by simp) ?_
    refine all_one ?_
    refine wpOp_hand (oi := ?oi6) ?hi6 (fun K hK => ?hh6)
    case hi6 => (simp only [List.getElem?_toArray, List.getElem?_cons_succ, List.getElem?_cons_zero]; rfl)
    go_simp
    refine Calls.mono (HI.out _) ?_
    rintro e wI ⟨rfl, hwI⟩
    have hwI' : wI = w3 := (by first | exact hwI | exact hwI.symm)
    clear hwI
    subst wI
    refine hK.out _ _ (heldC_two (fun _ => hf3.out) (fun _ => trivial)) (fun hF => ?_)
    clear hK K
    try simp only [Act.put, List.setIfInBounds_toArray, List.set_cons_zero, List.set_cons_succ]
    refine wpG_ready (rs := [6]) (by kernel_rfl) (by simp) ?_
    refine all_one ?_
    have c0 := hf3.out.1.c0; have c1' := hf3.out.1.c1; have c2' := hf3.out.1.c2; have c3 := hf3.out.1.c3; have cl := hf3.out.1.lt
    have f0 := hf3.out.1.free 0; have f1 := hf3.out.1.free 1; have f2 := hf3.out.1.free 2; have f3 := hf3.out.1.free 3
    have d0 := hf3.out.2.c0; have d1 := hf3.out.2.c1; have d2 := hf3.out.2.c2; have d3 := hf3.out.2.c3; have dl := hf3.out.2.lt
    have g0 := hf3.out.2.free 0; have g1 := hf3.out.2.free 1; have g2 := hf3.out.2.free 2; have g3 := hf3.out.2.free 3
    refine wpOp_hand (oi := ?oi7) ?hi7 (fun K hK => ?hh7)
    case hi7 => (simp only [List.getElem?_toArray, List.getElem?_cons_succ, List.getElem?_cons_zero]; rfl)
    go_simp
    refine hK.out _ _ (heldC_two (fun h => absurd h (by simp)) (fun _ => trivial)) (fun hF => ?_)
    clear hK K
    try simp only [Act.put, List.setIfInBounds_toArray, List.set_cons_zero, List.set_cons_succ]
    refine wpG_ready (rs := [7]) (by kernel_rfl) (by simp) ?_
    refine all_one ?_
    refine wpOp_hand (oi := ?oi8) ?hi8 (fun K hK => ?hh8)
    case hi8 => (simp only [List.getElem?_toArray, List.getElem?_cons_succ, List.getElem?_cons_zero]; rfl)
    go_simp
    refine hK.out _ _ (heldC_two (fun h => absurd h (by simp)) (fun _ => trivial)) (fun hF => ?_)
    clear hK K
    try simp only [Act.put, List.setIfInBounds_toArray, List.set_cons_zero, List.set_cons_succ]
    refine wpG_ready (rs := [8]) (by kernel_rfl) (by simp) ?_
    refine all_one ?_
    refine wpOp_hand (oi := ?oi9) ?hi9 (fun K hK => ?hh9)
    case hi9 => (simp only [List.getElem?_toArray, List.getElem?_cons_succ, List.getElem?_cons_zero]; rfl)
    go_simp
    refine hK.out _ _ (heldC_two (fun h => absurd h (by simp)) (fun h => absurd h (by simp))) (fun hF => ?_)
    clear hK K
    try simp only [Act.put, List.setIfInBounds_toArray, List.set_cons_zero, List.set_cons_succ]
    refine wpG_done (by kernel_rfl) ?_ _
    clear c0 c1' c2' c3 cl d0 d1 d2 d3 dl f0 f1 f2 f3 g0 g1 g2 g3
    go_wp2_with fail
    go_meet
    have hp := two_put hf3.out.1 hf3.out.2 (.int .i64 m1) (.int .i64 r1) (.slice D1 k1 c1) (.int .i64 q1) (.int .i64 m2) (.int .i64 r2) (.slice D2 k2 c2) (.int .i64 q2)
    exact ⟨rfl, m1, r1, q1, D1, k1, c1, ys, m2, r2, q2, D2, k2, c2, us, hp.1, hp.2, two_flat HL3.out HA1.out _ _ _ _ _ _ _ _, two_flat HL2.out HA2.out _ _ _ _ _ _ _ _, HS1.out, HS2.out, hk1, hk2, hq1, hq2, HA1.out, HA2.out, two_below W3.out (by have := HBB.out; omega) _ _ _ _ _ _ _ _⟩
  case rest =>
    clear C0 C1 W1 HF0 HF1
    obtain ⟨rfl, m1, r1, q1, D1, k1, c1, ys, m2, r2, q2, D2, k2, c2, us, hb0, hb1, hl1, hl2, hs1, hs2, hk1, hk2, hq1, hq2, hA1, hA2, hbw⟩ := hcut
    have P0 := Lib.hid hb0; have P1 := Lib.hid hb1; have L1 := Lib.hid hl1; have L2 := Lib.hid hl2; have S1 := Lib.hid hs1; have S2 := Lib.hid hs2; have HA1 := Lib.hid hA1; have HA2 := Lib.hid hA2; have W1 := Lib.hid hbw
    clear hb0 hb1 hl1 hl2 hs1 hs2 hA1 hA2 hbw
    have K1 := Lib.hid hk1; have K2 := Lib.hid hk2; have Q1 := Lib.hid hq1; have Q2 := Lib.hid hq2
    clear hk1 hk2 hq1 hq2
    obtain ⟨x1, hx1⟩ : ∃ x, x = m1.tdiv 2 := ⟨_, rfl⟩
    obtain ⟨x2, hx2⟩ : ∃ x, x = m2.tdiv 2 := ⟨_, rfl⟩
    have bx1 := tdiv2_bd S1.out.m1 S1.out.m2
    have bx2 := tdiv2_bd S2.out.m1 S2.out.m2
    rw [← hx1] at bx1
    rw [← hx2] at bx2
    have ex1 : IntKind.i64.wrap (m1.tdiv 2) = x1 := by rw [← hx1]; exact IntWalk.i64_in _ (by omega)
    have ex2 : IntKind.i64.wrap (m2.tdiv 2) = x2 := by rw [← hx2]; exact IntWalk.i64_in _ (by omega)
    have BX1 := Lib.hid bx1; have BX2 := Lib.hid bx2; have HX1 := Lib.hid hx1; have HX2 := Lib.hid hx2
    clear bx1 bx2 hx1 hx2
    go_upto_region 4 with fail
    go_cut [] (fun wx => SmBox wx b (.int .i64 x1) (.int .i64 r1) (.slice D1 k1 c1) (.int .i64 q1) ∧ SmBox wx (b + 1) (.int .i64 x2) (.int .i64 r2) (.slice D2 k2 c2) (.int .i64 q2) ∧ FlatSl wx 3 D1 k1 c1 ys ∧ FlatSl wx 3 D2 k2 c2 us ∧ Below w.heap.size w wx)
    case first =>
      have c0 := P0.out.c0; have c1' := P0.out.c1; have c2' := P0.out.c2; have c3 := P0.out.c3; have cl := P0.out.lt
      have f0 := P0.out.free 0
      have d0 := P1.out.c0; have d1 := P1.out.c1; have d2 := P1.out.c2; have d3 := P1.out.c3; have dl := P1.out.lt
      have g0 := P1.out.free 0
      go_region
      all_goals go_wp2_with fail
      all_goals go_meet
      have n1 : b ≠ (⟨b + 1, 0, none⟩ : Addr).block := by show b ≠ b + 1; omega
      have n2 : b + 1 ≠ (⟨b, 0, none⟩ : Addr).block := by show b + 1 ≠ b; omega
      have fs : ∀ {D : Option Addr} {k c : Nat} {zs : List Int}, FlatSl wc 3 D k c zs → (∀ a, D = some a → b + 1 < a.block) → FlatSl ((wc.setCell ⟨b, 0, none⟩ (.int .i64 x1)).setCell ⟨b + 1, 0, none⟩ (.int .i64 x2)) 3 D k c zs := fun h hA => flat_set (flat_set h _ _ (fun q hq => by have := hA q hq; show q.block ≠ b; omega)) _ _ (fun q hq => by have := hA q hq; show q.block ≠ b + 1; omega)
      exact ⟨((P0.out.put0 (.int .i64 x1)).other n1 (.int .i64 x2)).drew, ((P1.out.other n2 (.int .i64 x1)).put0 (.int .i64 x2)).drew, flat_below (fs L1.out HA1.out) ((Below.refl _ _).drew), flat_below (fs L2.out HA2.out) ((Below.refl _ _).drew), (Below.setCell (Below.setCell W1.out (by have := HBB.out; show w.heap.size ≤ b; omega) _) (by have := HBB.out; show w.heap.size ≤ b + 1; omega) _).drew⟩
    case rest =>
      clear P0 P1 L1 L2 W1
      obtain ⟨hb0, hb1, hl1, hl2, hbw⟩ := hcut
      have P0 := Lib.hid hb0; have P1 := Lib.hid hb1; have L1 := Lib.hid hl1; have L2 := Lib.hid hl2; have W1 := Lib.hid hbw
      clear hb0 hb1 hl1 hl2 hbw
      have c0 := P0.out.c0; have c2' := P0.out.c2; have c3 := P0.out.c3; have cl := P0.out.lt
      have d0 := P1.out.c0; have d2 := P1.out.c2; have d3 := P1.out.c3; have dl := P1.out.lt
      obtain ⟨mm, hmm⟩ : ∃ x, x = x1 + x2 := ⟨_, rfl⟩
      obtain ⟨qq', hqq⟩ : ∃ x, x = q1 + q2 := ⟨_, rfl⟩
      have em : IntKind.i64.wrap (x1 + x2) = mm := by rw [hmm]; exact IntWalk.i64_in _ (by have := BX1.out; have := BX2.out; omega)
      have eq : IntKind.i64.wrap (q1 + q2) = qq' := by rw [hqq]; exact IntWalk.i64_in _ (by have := Q1.out; have := Q2.out; have := S1.out.t1; have := S2.out.t1; omega)
      have HMM := Lib.hid hmm; have HQQ := Lib.hid hqq
      clear hmm hqq
      obtain ⟨o7, ho7⟩ : ∃ o : Obj, o = .cells #[.int .i64 0, .int .i64 0, .slice none 0 0, .int .i64 0] 48 := ⟨_, rfl⟩
      have HSIX := Lib.hid (show ∀ w', Below wc.heap.size wc w' → (w'.cell? ⟨b, 0, none⟩ = some (.int .i64 x1) ∧ w'.cell? ⟨b + 1, 0, none⟩ = some (.int .i64 x2) ∧ w'.cell? ⟨b, 3, none⟩ = some (.int .i64 q1) ∧ w'.cell? ⟨b + 1, 3, none⟩ = some (.int .i64 q2) ∧ w'.cell? ⟨b, 2, none⟩ = some (.slice D1 k1 c1) ∧ w'.cell? ⟨b + 1, 2, none⟩ = some (.slice D2 k2 c2)) from fun w' h => ⟨bX_oldc h cl c0, bX_oldc h dl d0, bX_oldc h cl c3, bX_oldc h dl d3, bX_oldc h cl c2', bX_oldc h dl d2⟩)
      have b0 := Below.refl wc.heap.size wc
      have HBA := Lib.hid ((b0.alloc (Nat.le_refl _) (.cells #[] 83)).drew)
      have HBC := Lib.hid (((b0.alloc (Nat.le_refl _) (.cells #[] 83)).alloc (by simp) (.cells #[.int .i64 0, .int .i64 0, .slice none 0 0, .int .i64 0] 48)).drew)
      have HBD := Lib.hid (((b0.alloc (Nat.le_refl _) (.cells #[.int .i64 0, .int .i64 0, .slice none 0 0, .int .i64 0] 48)).alloc (by simp) (.cells #[] 83)).drew)
      have HBZ := Lib.hid ((b0.alloc (Nat.le_refl _) (.cells #[.int .i64 0, .int .i64 0, .slice none 0 0, .int .i64 0] 48)).drew)
      have HOA := Lib.hid ((World.ownsRow_made (base := wc.heap.size) (e := 83) (size := 3) wc #[] 0 (Nat.le_refl _) (by unfold maxLen; omega) rfl).drew)
      have HOC := Lib.hid (((World.ownsRow_made (base := wc.heap.size) (e := 83) (size := 3) wc #[] 0 (Nat.le_refl _) (by unfold maxLen; omega) rfl).alloc (.cells #[.int .i64 0, .int .i64 0, .slice none 0 0, .int .i64 0] 48)).drew)
      have oD := (World.ownsRow_made (base := wc.heap.size) (e := 83) (size := 3) (wc.alloc (.cells #[.int .i64 0, .int .i64 0, .slice none 0 0, .int .i64 0] 48)) #[] 0 (by simp) (by unfold maxLen; omega) rfl).drew
      have eZ : ∀ o : Obj, (wc.alloc o).heap.size = wc.heap.size + 1 := fun o => by simp
      have gC := SmBox.new (wc.alloc (.cells #[] 83)) (.int .i64 0) (.int .i64 0) (.slice none 0 0) (.int .i64 0)
      rw [eZ] at oD gC
      have HOD := Lib.hid oD
      have GC := Lib.hid gC.drew
      have GD := Lib.hid (((SmBox.new wc (.int .i64 0) (.int .i64 0) (.slice none 0 0) (.int .i64 0)).alloc (.cells #[] 83)).drew)
      clear b0 oD gC
      go_upto_region 5 with fail
      go_cut [7] (fun s7 wx => ∃ (g : Nat) (A3 : Option Addr) (cap3 : Nat), s7 = .pointer (some ⟨g, 0, none⟩) ∧ wc.heap.size ≤ g ∧ SmBox wx g (.int .i64 mm) (.int .i64 0) (.slice A3 (k1 + k2) cap3) (.int .i64 qq') ∧ FlatSl wx 3 A3 (k1 + k2) cap3 (ys ++ us) ∧ Below wc.heap.size wc wx)
      case first =>
        go_region_held3 (fun w' => w'.cell? ⟨b, 0, none⟩ = some (.int .i64 x1) ∧ w'.cell? ⟨b + 1, 0, none⟩ = some (.int .i64 x2) ∧ w'.cell? ⟨b, 3, none⟩ = some (.int .i64 q1) ∧ w'.cell? ⟨b + 1, 3, none⟩ = some (.int .i64 q2) ∧ w'.cell? ⟨b, 2, none⟩ = some (.slice D1 k1 c1) ∧ w'.cell? ⟨b + 1, 2, none⟩ = some (.slice D2 k2 c2)) (first | exact HSIX.out _ ((Below.refl wc.heap.size wc).drew) | exact HSIX.out _ HBA.out | exact HSIX.out _ HBC.out | exact HSIX.out _ HBD.out | exact HSIX.out _ HBZ.out | exact HSIX.out _ HB3.out | exact HSIX.out _ HB4.out | exact HSIX.out _ (HB3.out.alloc z3 _) | exact HSIX.out _ (HB4.out.alloc z4 _) | exact HSIX.out _ (four_below HB4.out (by omega) _ _ _ _) | exact HSIX.out _ (four_below (HB4.out.alloc z4 _) (by omega) _ _ _ _))
          (first
          | (refine step_append_flat (by rfl) (.tmp 40) (.tmp 42) _ (by rfl) wc.heap.size 83 iT _ 3 24 Tryd.underlying46 hi hy0 hy1 hy2 rfl (by omega) (.slice (some ⟨wc.heap.size, 0, none⟩) 0 0) 0 [] (by rfl) HOA.out D1 k1 c1 ys (by rfl) (flat_below L1.out HBA.out) (by have := K1.out; unfold maxLen; omega) (by have := K1.out; omega) HBA.out.size ?_; intro v1 w3 hown1 hgrow1 hat1; have HB3 := Lib.hid (HBA.out.grown hgrow1 HBA.out.size (fun q hq => (HOA.out.lt q hq).1)); have z3 : wc.heap.size ≤ w3.heap.size := HB3.out.size; have HO1 := Lib.hid hown1; clear hown1 hgrow1 hat1)
          | (refine step_append_flat (by rfl) (.tmp 40) (.tmp 42) _ (by rfl) wc.heap.size 83 iT _ 3 24 Tryd.underlying46 hi hy0 hy1 hy2 rfl (by omega) (.slice (some ⟨wc.heap.size, 0, none⟩) 0 0) 0 [] (by rfl) HOC.out D1 k1 c1 ys (by rfl) (flat_below L1.out HBC.out) (by have := K1.out; unfold maxLen; omega) (by have := K1.out; omega) HBC.out.size ?_; intro v1 w3 hown1 hgrow1 hat1; have HB3 := Lib.hid (HBC.out.grown hgrow1 HBC.out.size (fun q hq => (HOC.out.lt q hq).1)); have z3 : wc.heap.size ≤ w3.heap.size := HB3.out.size; have HO1 := Lib.hid hown1; have nv1 : v1.ownBlock ≠ some (wc.heap.size + 1) := own_ne hat1 (by simp [Value.ownBlock]) (by simp); have G3 := Lib.hid (And.intro (smbox_grown GC.out hgrow1 (by simp [Value.ownBlock])) nv1); clear nv1; clear hown1 hgrow1 hat1)
          | (refine step_append_flat (by rfl) (.tmp 40) (.tmp 42) _ (by rfl) wc.heap.size 83 iT _ 3 24 Tryd.underlying46 hi hy0 hy1 hy2 rfl (by omega) (.slice (some ⟨wc.heap.size + 1, 0, none⟩) 0 0) 0 [] (by rfl) HOD.out D1 k1 c1 ys (by rfl) (flat_below L1.out HBD.out) (by have := K1.out; unfold maxLen; omega) (by have := K1.out; omega) HBD.out.size ?_; intro v1 w3 hown1 hgrow1 hat1; have HB3 := Lib.hid (HBD.out.grown hgrow1 HBD.out.size (fun q hq => (HOD.out.lt q hq).1)); have z3 : wc.heap.size ≤ w3.heap.size := HB3.out.size; have HO1 := Lib.hid hown1; have nv1 : v1.ownBlock ≠ some wc.heap.size := own_ne hat1 (by simp [Value.ownBlock]) (by simp; omega); have G3 := Lib.hid (And.intro (smbox_grown GD.out hgrow1 (by simp [Value.ownBlock])) nv1); clear nv1; clear hown1 hgrow1 hat1)
          | (refine step_append_flat (by rfl) (.tmp 43) (.tmp 45) _ (by rfl) wc.heap.size 83 iT _ 3 24 Tryd.underlying46 hi hy0 hy1 hy2 rfl (by omega) v1 (0 + k1) _ (by rfl) HO1.out D2 k2 c2 us (by rfl) (flat_below L2.out HB3.out) (by have := K1.out; have := K2.out; unfold maxLen; omega) (by have := K1.out; have := K2.out; omega) HB3.out.size ?_; intro v2 w4 hown2 hgrow2 hat2; have HB4 := Lib.hid (HB3.out.grown hgrow2 HB3.out.size (fun q hq => (HO1.out.lt q hq).1)); have z4 : wc.heap.size ≤ w4.heap.size := HB4.out.size; have G4 := Lib.hid (And.intro (smbox_grown G3.out.1 hgrow2 G3.out.2) (own_ne hat2 G3.out.2 G3.out.1.lt)); have hg4 := G4.out.1; have gg0 := hg4.c0; have gg1 := hg4.c1; have gg2 := hg4.c2; have gg3 := hg4.c3; have ggl := hg4.lt; have gf0 := hg4.free 0; have gf1 := hg4.free 1; have gf2 := hg4.free 2; have gf3 := hg4.free 3; clear hg4; have hts : w4.ownsRow wc.heap.size 83 3 v2 (k1 + k2) ((ys ++ us).map (Value.int .i64)) := (by rw [Nat.zero_add] at hown2; simpa only [List.nil_append, List.map_append] using hown2); clear hat2 hown2 hgrow2; obtain ⟨A3, cap3, hv, hF3⟩ := own_flat hts; have HF3 := Lib.hid hF3; subst hv; have NE := Lib.hid (own_blk G4.out.2); clear hts hF3)
          | (refine step_append_flat (by rfl) (.tmp 43) (.tmp 45) _ (by rfl) wc.heap.size 83 iT _ 3 24 Tryd.underlying46 hi hy0 hy1 hy2 rfl (by omega) v1 (0 + k1) _ (by rfl) HO1.out D2 k2 c2 us (by rfl) (flat_below L2.out HB3.out) (by have := K1.out; have := K2.out; unfold maxLen; omega) (by have := K1.out; have := K2.out; omega) HB3.out.size ?_; intro v2 w4 hown2 hgrow2 hat2; have HB4 := Lib.hid (HB3.out.grown hgrow2 HB3.out.size (fun q hq => (HO1.out.lt q hq).1)); have z4 : wc.heap.size ≤ w4.heap.size := HB4.out.size; have hts : w4.ownsRow wc.heap.size 83 3 v2 (k1 + k2) ((ys ++ us).map (Value.int .i64)) := (by rw [Nat.zero_add] at hown2; simpa only [List.nil_append, List.map_append] using hown2); clear hat2 hown2 hgrow2; obtain ⟨A3, cap3, hv, hF3⟩ := own_flat hts; have HF3 := Lib.hid hF3; subst hv; have NL := Lib.hid (own_lt' hts); clear hts hF3)
          | (refine step_append_flat (by rfl) (.tmp 43) (.tmp 45) _ (by rfl) wc.heap.size 83 iT _ 3 24 Tryd.underlying46 hi hy0 hy1 hy2 rfl (by omega) v1 (0 + k1) _ (by rfl) (HO1.out.alloc (.cells #[.int .i64 0, .int .i64 0, .slice none 0 0, .int .i64 0] 48)) D2 k2 c2 us (by rfl) (flat_below L2.out (HB3.out.alloc HB3.out.size (.cells #[.int .i64 0, .int .i64 0, .slice none 0 0, .int .i64 0] 48))) (by have := K1.out; have := K2.out; unfold maxLen; omega) (by have := K1.out; have := K2.out; omega) (HB3.out.alloc HB3.out.size (.cells #[.int .i64 0, .int .i64 0, .slice none 0 0, .int .i64 0] 48)).size ?_; intro v2 w4 hown2 hgrow2 hat2; have HB4 := Lib.hid ((HB3.out.alloc HB3.out.size (.cells #[.int .i64 0, .int .i64 0, .slice none 0 0, .int .i64 0] 48)).grown hgrow2 (HB3.out.alloc HB3.out.size (.cells #[.int .i64 0, .int .i64 0, .slice none 0 0, .int .i64 0] 48)).size (fun q hq => ((HO1.out.alloc (.cells #[.int .i64 0, .int .i64 0, .slice none 0 0, .int .i64 0] 48)).lt q hq).1)); have z4 : wc.heap.size ≤ w4.heap.size := HB4.out.size; have nb : v1.ownBlock ≠ some w3.heap.size := (fun e => by have := (HO1.out.lt _ e).2; omega); have G4 := Lib.hid (And.intro (smbox_grown (SmBox.new w3 (.int .i64 0) (.int .i64 0) (.slice none 0 0) (.int .i64 0)) hgrow2 nb) (own_ne hat2 nb (by simp))); clear nb; have hg4 := G4.out.1; have gg0 := hg4.c0; have gg1 := hg4.c1; have gg2 := hg4.c2; have gg3 := hg4.c3; have ggl := hg4.lt; have gf0 := hg4.free 0; have gf1 := hg4.free 1; have gf2 := hg4.free 2; have gf3 := hg4.free 3; clear hg4; have hts : w4.ownsRow wc.heap.size 83 3 v2 (k1 + k2) ((ys ++ us).map (Value.int .i64)) := (by rw [Nat.zero_add] at hown2; simpa only [List.nil_append, List.map_append] using hown2); clear hat2 hown2 hgrow2; obtain ⟨A3, cap3, hv, hF3⟩ := own_flat hts; have HF3 := Lib.hid hF3; subst hv; have NE := Lib.hid (own_blk G4.out.2); clear hts hF3))
        all_goals clear HSIX HBA HBC HBD HBZ HOA HOC HOD GC GD c0 c2' c3 cl d0 d2 d3 dl em eq ex1 ex2
        all_goals (try clear gg0 gg1 gg2 gg3 gf0 gf1 gf2 gf3 ggl)
        all_goals (try clear G3)
        all_goals go_wp2_with fail
        all_goals go_meet
        all_goals first
          | (have hn := NL; exact ⟨w4.heap.size, A3, cap3, rfl, z4, SmBox.new w4 _ _ _ _, flat_below HF3.out ((Below.refl _ _).alloc (Nat.le_refl _) _), HB4.out.alloc z4 _⟩)
          | (have hn := NE; exact ⟨_, A3, cap3, rfl, by omega, G4.out.1.put _ _ _ _, four_flat HF3.out NE.out _ _ _ _, four_below HB4.out (by omega) _ _ _ _⟩)
      case rest =>
        obtain ⟨g, A3, cap3, rfl, hg, hbx, hf3, hbl⟩ := hcut
        have P0n := Lib.hid (P0.out.below hbl); have P1n := Lib.hid (P1.out.below hbl); have PG := Lib.hid hbx; have FL1 := Lib.hid (flat_below L1.out hbl); have FL2 := Lib.hid (flat_below L2.out hbl); have FL3 := Lib.hid hf3; have Wn := Lib.hid (W1.out.trans (hbl.mono W1.out.size))
        clear HSIX HBA HBC HBD HBZ HOA HOC HOD GC GD c0 c2' c3 cl d0 d2 d3 dl em eq ex1 ex2 HX1 HX2 ho7 hbx hf3 hbl hg P0 P1 L1 L2 W1
        have P0 := P0n; clear P0n; have P1 := P1n; clear P1n; have W1 := Wn; clear Wn
        have SI1 : SumIn x1 r1 q1 k1 ys := ⟨by have := BX1.out; omega, by have := BX1.out; omega, S1.out.r1, S1.out.r2, S1.out.t1, S1.out.t2, S1.out.n40, S1.out.tm⟩
        have SI2 : SumIn x2 r2 q2 k2 us := ⟨by have := BX2.out; omega, by have := BX2.out; omega, S2.out.r1, S2.out.r2, S2.out.t1, S2.out.t2, S2.out.n40, S2.out.tm⟩
        have k12 : k1 + k2 ≤ 40 := by have := K1.out; have := K2.out; omega
        have SI3 : SumIn mm 0 qq' (k1 + k2) (ys ++ us) := ⟨by have := BX1.out; have := BX2.out; have := HMM.out; omega, by have := BX1.out; have := BX2.out; have := HMM.out; omega, by omega, by omega, by have := HQQ.out; have := S1.out.t1; have := S2.out.t1; omega, by have := HQQ.out; have := Q1.out; have := Q2.out; omega, k12, both_tm FL1.out.len S1.out.tm S2.out.tm⟩
        have mt := both_meet FL1.out.len (by have := K1.out; omega) (by have := K2.out; omega) S1.out.tm S2.out.tm x1 x2 q1 q2 t S1.out.t1 S2.out.t1
        rw [← HMM.out, ← HQQ.out] at mt
        have v1 := vals SI1 t; have v2 := vals SI2 t; have v3 := vals SI3 t
        have HV1 := Lib.hid (fun W (hT : SinT W) (h : FlatSl W 3 D1 k1 c1 ys) => Value_ok x1 r1 q1 t D1 k1 c1 ys W hT h SI1 HIN.out)
        have HV2 := Lib.hid (fun W (hT : SinT W) (h : FlatSl W 3 D2 k2 c2 us) => Value_ok x2 r2 q2 t D2 k2 c2 us W hT h SI2 HIN.out)
        have HV3 := Lib.hid (fun W (hT : SinT W) (h : FlatSl W 3 A3 (k1 + k2) cap3 (ys ++ us)) => Value_ok mm 0 qq' t A3 (k1 + k2) cap3 (ys ++ us) W hT h SI3 HIN.out)
        generalize vLo x1 q1 ys k1 t = lo1 at *; generalize vHi x1 q1 ys k1 t = hi1 at *; generalize vLo x2 q2 us k2 t = lo2 at *; generalize vHi x2 q2 us k2 t = hi2 at *; generalize vLo mm qq' (ys ++ us) (k1 + k2) t = lo3 at *; generalize vHi mm qq' (ys ++ us) (k1 + k2) t = hi3 at *
        obtain ⟨a1, a2, a3, -⟩ := v1; obtain ⟨a4, a5, a6, -⟩ := v2; obtain ⟨a7, a8, a9, -⟩ := v3; obtain ⟨m1', m2'⟩ := mt
        have HP := Lib.hid (fun w => plus_any lo1 hi1 lo2 hi2 w (by omega) (by omega) (by omega) (by omega))
        have HM := Lib.hid (fun w => meets_true lo3 hi3 (lo1 + lo2) (hi1 + hi2) w m1' m2')
        clear SI1 SI2 SI3 a1 a2 a3 a4 a5 a6 a7 a8 a9 m1' m2' k12 S1 S2 K1 K2 Q1 Q2 BX1 BX2 HMM HQQ
        have TT := Lib.hid (HT.out.below W1.out)
        have c0 := P0.out.c0; have c1' := P0.out.c1; have c2' := P0.out.c2; have c3 := P0.out.c3; have cl := P0.out.lt
        go_wp2_with fail
        refine Calls.mono (HV1.out _ TT.out FL1.out) ?_
        rintro e u1 ⟨rfl, hb⟩
        clear c0 c1' c2' c3 cl TT
        have V := Lib.hid (W1.out.trans (hb.mono W1.out.size))
        have P0n := Lib.hid ((P0.out.below hb).alloc (.cells #[.int .i64 lo1, .int .i64 hi1] 25))
        have P1n := Lib.hid ((P1.out.below hb).alloc (.cells #[.int .i64 lo1, .int .i64 hi1] 25))
        have PGn := Lib.hid ((PG.out.below hb).alloc (.cells #[.int .i64 lo1, .int .i64 hi1] 25))
        have hbz := (hb.alloc hb.size (.cells #[.int .i64 lo1, .int .i64 hi1] 25))
        have FL1n := Lib.hid (flat_below FL1.out hbz)
        have FL2n := Lib.hid (flat_below FL2.out hbz)
        have FL3n := Lib.hid (flat_below FL3.out hbz)
        have Z1n := Lib.hid (SpBox.new u1 lo1 hi1)
        have Wn := Lib.hid (V.out.alloc V.out.size (.cells #[.int .i64 lo1, .int .i64 hi1] 25))
        clear hb hbz V W1 P0 P1 PG FL1 FL2 FL3
        go_upto_region 7 with fail
        obtain ⟨g1, hg1⟩ : ∃ x, x = u1.heap.size := ⟨_, rfl⟩
        rw [← hg1] at Z1n ⊢
        obtain ⟨X1, hX⟩ : ∃ X, X = u1.alloc (.cells #[.int .i64 lo1, .int .i64 hi1] 25) := ⟨_, rfl⟩
        rw [← hX] at Wn Z1n P0n P1n PGn FL1n FL2n FL3n ⊢
        clear hX hg1
        have P0 := P0n; clear P0n
        have P1 := P1n; clear P1n
        have PG := PGn; clear PGn
        have FL1 := FL1n; clear FL1n
        have FL2 := FL2n; clear FL2n
        have FL3 := FL3n; clear FL3n
        have Z1 := Z1n; clear Z1n
        have W1 := Wn; clear Wn
        have TT := Lib.hid (HT.out.below W1.out)
        have c0 := P1.out.c0; have c1' := P1.out.c1; have c2' := P1.out.c2; have c3 := P1.out.c3; have cl := P1.out.lt
        go_wp2_with fail
        refine Calls.mono (HV2.out _ TT.out FL2.out) ?_
        rintro e u2 ⟨rfl, hb⟩
        clear c0 c1' c2' c3 cl TT
        have V := Lib.hid (W1.out.trans (hb.mono W1.out.size))
        have P0n := Lib.hid ((P0.out.below hb).alloc (.cells #[.int .i64 lo2, .int .i64 hi2] 25))
        have P1n := Lib.hid ((P1.out.below hb).alloc (.cells #[.int .i64 lo2, .int .i64 hi2] 25))
        have PGn := Lib.hid ((PG.out.below hb).alloc (.cells #[.int .i64 lo2, .int .i64 hi2] 25))
        have Z1n := Lib.hid ((Z1.out.below hb).alloc (.cells #[.int .i64 lo2, .int .i64 hi2] 25))
        have hbz := (hb.alloc hb.size (.cells #[.int .i64 lo2, .int .i64 hi2] 25))
        have FL1n := Lib.hid (flat_below FL1.out hbz)
        have FL2n := Lib.hid (flat_below FL2.out hbz)
        have FL3n := Lib.hid (flat_below FL3.out hbz)
        have Z2n := Lib.hid (SpBox.new u2 lo2 hi2)
        have Wn := Lib.hid (V.out.alloc V.out.size (.cells #[.int .i64 lo2, .int .i64 hi2] 25))
        clear hb hbz V W1 P0 P1 PG FL1 FL2 FL3 Z1
        go_upto_region 8 with fail
        obtain ⟨g2, hg2⟩ : ∃ x, x = u2.heap.size := ⟨_, rfl⟩
        rw [← hg2] at Z2n ⊢
        obtain ⟨X2, hX⟩ : ∃ X, X = u2.alloc (.cells #[.int .i64 lo2, .int .i64 hi2] 25) := ⟨_, rfl⟩
        rw [← hX] at Wn Z2n P0n P1n PGn FL1n FL2n FL3n Z1n ⊢
        clear hX hg2
        have P0 := P0n; clear P0n
        have P1 := P1n; clear P1n
        have PG := PGn; clear PGn
        have FL1 := FL1n; clear FL1n
        have FL2 := FL2n; clear FL2n
        have FL3 := FL3n; clear FL3n
        have Z1 := Z1n; clear Z1n
        have Z2 := Z2n; clear Z2n
        have W1 := Wn; clear Wn
        have TT := Lib.hid (HT.out.below W1.out)
        have c0 := PG.out.c0; have c1' := PG.out.c1; have c2' := PG.out.c2; have c3 := PG.out.c3; have cl := PG.out.lt
        go_wp2_with fail
        refine Calls.mono (HV3.out _ TT.out FL3.out) ?_
        rintro e u3 ⟨rfl, hb⟩
        clear c0 c1' c2' c3 cl TT
        have V := Lib.hid (W1.out.trans (hb.mono W1.out.size))
        have P0n := Lib.hid ((P0.out.below hb).alloc (.cells #[.int .i64 lo3, .int .i64 hi3] 25))
        have P1n := Lib.hid ((P1.out.below hb).alloc (.cells #[.int .i64 lo3, .int .i64 hi3] 25))
        have PGn := Lib.hid ((PG.out.below hb).alloc (.cells #[.int .i64 lo3, .int .i64 hi3] 25))
        have Z1n := Lib.hid ((Z1.out.below hb).alloc (.cells #[.int .i64 lo3, .int .i64 hi3] 25))
        have Z2n := Lib.hid ((Z2.out.below hb).alloc (.cells #[.int .i64 lo3, .int .i64 hi3] 25))
        have hbz := (hb.alloc hb.size (.cells #[.int .i64 lo3, .int .i64 hi3] 25))
        have FL1n := Lib.hid (flat_below FL1.out hbz)
        have FL2n := Lib.hid (flat_below FL2.out hbz)
        have FL3n := Lib.hid (flat_below FL3.out hbz)
        have Z3n := Lib.hid (SpBox.new u3 lo3 hi3)
        have Wn := Lib.hid (V.out.alloc V.out.size (.cells #[.int .i64 lo3, .int .i64 hi3] 25))
        clear hb hbz V W1 P0 P1 PG FL1 FL2 FL3 Z1 Z2
        go_upto_region 9 with fail
        obtain ⟨g3, hg3⟩ : ∃ x, x = u3.heap.size := ⟨_, rfl⟩
        rw [← hg3] at Z3n ⊢
        obtain ⟨X3, hX⟩ : ∃ X, X = u3.alloc (.cells #[.int .i64 lo3, .int .i64 hi3] 25) := ⟨_, rfl⟩
        rw [← hX] at Wn Z3n P0n P1n PGn FL1n FL2n FL3n Z1n Z2n ⊢
        clear hX hg3
        have P0 := P0n; clear P0n
        have P1 := P1n; clear P1n
        have PG := PGn; clear PGn
        have FL1 := FL1n; clear FL1n
        have FL2 := FL2n; clear FL2n
        have FL3 := FL3n; clear FL3n
        have Z1 := Z1n; clear Z1n
        have Z2 := Z2n; clear Z2n
        have Z3 := Z3n; clear Z3n
        have W1 := Wn; clear Wn
        have TT := Lib.hid (HT.out.below W1.out)
        clear P0 P1 PG FL1 FL2 FL3 TT HV1 HV2 HV3
        obtain ⟨XX, hXX⟩ : ∃ XX, XX = (X3).drew := ⟨_, rfl⟩
        have xXX0 : XX.cell? ⟨g3, 0, none⟩ = some (.int .i64 lo3) := by rw [hXX]; exact (Z3.out.c0)
        have xXX1 : XX.cell? ⟨g3, 1, none⟩ = some (.int .i64 hi3) := by rw [hXX]; exact (Z3.out.c1)
        have xXX2 : XX.cell? ⟨g1, 0, none⟩ = some (.int .i64 lo1) := by rw [hXX]; exact (Z1.out.c0)
        have xXX3 : XX.cell? ⟨g1, 1, none⟩ = some (.int .i64 hi1) := by rw [hXX]; exact (Z1.out.c1)
        have xXX4 : XX.cell? ⟨g2, 0, none⟩ = some (.int .i64 lo2) := by rw [hXX]; exact (Z2.out.c0)
        have xXX5 : XX.cell? ⟨g2, 1, none⟩ = some (.int .i64 hi2) := by rw [hXX]; exact (Z2.out.c1)
        have lXX0 : g3 < XX.heap.size := by rw [hXX]; exact (Z3.out.lt)
        have lXX1 : g1 < XX.heap.size := by rw [hXX]; exact (Z1.out.lt)
        have lXX2 : g2 < XX.heap.size := by rw [hXX]; exact (Z2.out.lt)
        have bXX : Below w.heap.size w XX := by rw [hXX]; exact (W1.out).drew
        have HxXX0 := Lib.hid xXX0
        have HxXX1 := Lib.hid xXX1
        have HxXX2 := Lib.hid xXX2
        have HxXX3 := Lib.hid xXX3
        have HxXX4 := Lib.hid xXX4
        have HxXX5 := Lib.hid xXX5
        have HlXX0 := Lib.hid lXX0
        have HlXX1 := Lib.hid lXX1
        have HlXX2 := Lib.hid lXX2
        have HbXX := Lib.hid bXX
        have HhXX := Lib.hid hXX
        clear xXX0 xXX1 xXX2 xXX3 xXX4 xXX5 lXX0 lXX1 lXX2 bXX hXX
        go_region_held3 (fun w' => w'.cell? ⟨g3, 0, none⟩ = some (.int .i64 lo3) ∧ w'.cell? ⟨g3, 1, none⟩ = some (.int .i64 hi3) ∧ w'.cell? ⟨g1, 0, none⟩ = some (.int .i64 lo1) ∧ w'.cell? ⟨g1, 1, none⟩ = some (.int .i64 hi1) ∧ w'.cell? ⟨g2, 0, none⟩ = some (.int .i64 lo2) ∧ w'.cell? ⟨g2, 1, none⟩ = some (.int .i64 hi2) ∧ Below XX.heap.size XX w')
          (((try dsimp only); repeat' apply And.intro) <;> (first | (with_reducible assumption) | (go_split_ands; (with_reducible assumption)) | (rw [← HhXX.out]; (first | exact Below.refl _ _ | exact HxXX0.out | exact HxXX1.out | exact HxXX2.out | exact HxXX3.out | exact HxXX4.out | exact HxXX5.out)) | go_keep))
          (first
            | (go_at_call 20; refine Calls.mono (HP.out _) ?_; rintro e wq ⟨rfl, hb⟩; (try go_split_ands); have qB : Below XX.heap.size XX wq := (bX_more (by with_reducible assumption) hb); have m0 := bX_oldc qB HlXX0.out HxXX0.out; have m1 := bX_oldc qB HlXX0.out HxXX1.out; have m2 := bX_oldc qB HlXX1.out HxXX2.out; have m3 := bX_oldc qB HlXX1.out HxXX3.out; have m4 := bX_oldc qB HlXX2.out HxXX4.out; have m5 := bX_oldc qB HlXX2.out HxXX5.out; clear hb)
            | (go_at_call 19; refine Calls.mono (HM.out _) ?_; rintro e wq ⟨rfl, hb⟩; (try go_split_ands); have qB : Below XX.heap.size XX wq := (bX_more (by with_reducible assumption) hb); have m0 := bX_oldc qB HlXX0.out HxXX0.out; have m1 := bX_oldc qB HlXX0.out HxXX1.out; have m2 := bX_oldc qB HlXX1.out HxXX2.out; have m3 := bX_oldc qB HlXX1.out HxXX3.out; have m4 := bX_oldc qB HlXX2.out HxXX4.out; have m5 := bX_oldc qB HlXX2.out HxXX5.out; clear hb))
        go_wp2_with fail
        go_split_ands
        go_ret
        exact ⟨rfl, bX_back HbXX.out (by with_reducible assumption)⟩
end Go.Proofs.YtloaliddcaobeaaDoor
