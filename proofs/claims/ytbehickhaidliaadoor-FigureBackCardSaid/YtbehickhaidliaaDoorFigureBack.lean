/- FigureBack, the walk: a map and its inverse leave a figure as it is. (Printed by tools/gen-shifts.py out of XFigureBack.head.) -/
import Derived.Test.YtbehickhaidliaaDoorFigWorks
import Derived.Test.YtbehickhaidliaaDoorShiftLaw
import Derived.Deep.DeepCutAuto
import Derived.Deep.CutRange
namespace Go.Proofs.YtbehickhaidliaaDoor
open Go.RowKit
set_option linter.unusedSimpArgs false
set_option linter.unusedVariables false

def bkM (p q r s t u : Int) : Nat → Int := fun j => match j with | 0 => p | 1 => q | 2 => r | 3 => s | 4 => t | _ => u
theorem bkM_ok {p q r s t u : Int} (hp : -1000000 ≤ p ∧ p ≤ 1000000) (hq : -1000000 ≤ q ∧ q ≤ 1000000) (hr : -1000000 ≤ r ∧ r ≤ 1000000) (hs : -1000000 ≤ s ∧ s ≤ 1000000) (ht : -1000000 ≤ t ∧ t ≤ 1000000) (hu : -1000000 ≤ u ∧ u ≤ 1000000) : ∀ j, j < 6 → FrOk (bkM p q r s t u j) 1 := fun j hj => by
  match j, hj with
  | 0, _ => exact frOk_one (n := p) (by omega) (by omega)
  | 1, _ => exact frOk_one (n := q) (by omega) (by omega)
  | 2, _ => exact frOk_one (n := r) (by omega) (by omega)
  | 3, _ => exact frOk_one (n := s) (by omega) (by omega)
  | 4, _ => exact frOk_one (n := t) (by omega) (by omega)
  | 5, _ => exact frOk_one (n := u) (by omega) (by omega)
theorem tmod20 (x : Int) : -19 ≤ x.tmod 20 ∧ x.tmod 20 ≤ 19 := by
  have h1 := Int.lt_tmod_of_pos x (show (0 : Int) < 20 by omega)
  have h2 := Int.tmod_lt_of_pos x (show (0 : Int) < 20 by omega)
  omega
/-- The numbers of the map and of its inverse. -/
structure BkN (a b c d k e na nb ad ec g bcx h : Int) : Prop where
  ab : -19 ≤ a ∧ a ≤ 19
  bb : -19 ≤ b ∧ b ≤ 19
  cb : -999 ≤ c ∧ c ≤ 999
  db : -999 ≤ d ∧ d ≤ 999
  k1 : k = a * b
  e1 : e = k + 1
  na1 : na = -a
  nb1 : nb = -b
  ad1 : ad = a * d
  ec1 : ec = e * c
  g1 : g = ad - ec
  bc1 : bcx = b * c
  h1 : h = bcx - d
theorem BkN.bnd {a b c d k e na nb ad ec g bcx h : Int} (H : BkN a b c d k e na nb ad ec g bcx h) : (-361 ≤ k ∧ k ≤ 361) ∧ (-362 ≤ e ∧ e ≤ 362) ∧ (-18981 ≤ ad ∧ ad ≤ 18981) ∧ (-361638 ≤ ec ∧ ec ≤ 361638) ∧ (-18981 ≤ bcx ∧ bcx ≤ 18981) := by
  have h1 := int_abs_mul H.ab.1 H.ab.2 H.bb.1 H.bb.2
  have h2 := int_abs_mul H.ab.1 H.ab.2 H.db.1 H.db.2
  have h4 := int_abs_mul H.bb.1 H.bb.2 H.cb.1 H.cb.2
  rw [← H.k1] at h1; rw [← H.ad1] at h2; rw [← H.bc1] at h4
  have e1 : -362 ≤ e ∧ e ≤ 362 := by have := H.e1; omega
  have h3 := int_abs_mul e1.1 e1.2 H.cb.1 H.cb.2
  rw [← H.ec1] at h3
  exact ⟨by omega, e1, by omega, by omega, by omega⟩
theorem BkN.mapOk {a b c d k e na nb ad ec g bcx h : Int} (H : BkN a b c d k e na nb ad ec g bcx h) {x y : Int} (hx : -999 ≤ x ∧ x ≤ 999) (hy : -999 ≤ y ∧ y ≤ 999) :
    MapOk 1 a c x y ∧ MapOk b e d x y ∧ MapOk e na g (mapC 1 a c x y) (mapC b e d x y) ∧ MapOk nb 1 h (mapC 1 a c x y) (mapC b e d x y) := by
  obtain ⟨b1, b2, b3, b4, b5⟩ := H.bnd
  have u1 := int_abs_mul H.ab.1 H.ab.2 hy.1 hy.2
  have u2 := int_abs_mul H.bb.1 H.bb.2 hx.1 hx.2
  have u3 := int_abs_mul b2.1 b2.2 hy.1 hy.2
  have hc := H.cb; have hd := H.db
  have X : -21000 ≤ mapC 1 a c x y ∧ mapC 1 a c x y ≤ 21000 := by
    unfold mapC
    obtain ⟨v, hv⟩ : ∃ v, v = a * y := ⟨_, rfl⟩
    rw [← hv] at u1 ⊢; omega
  have Y : -400000 ≤ mapC b e d x y ∧ mapC b e d x y ≤ 400000 := by
    unfold mapC
    obtain ⟨v, hv⟩ : ∃ v, v = b * x := ⟨_, rfl⟩
    obtain ⟨z, hz⟩ : ∃ v, v = e * y := ⟨_, rfl⟩
    rw [← hv] at u2 ⊢; rw [← hz] at u3 ⊢; omega
  have hna : -19 ≤ na ∧ na ≤ 19 := by have := H.na1; have := H.ab; omega
  have hnb : -19 ≤ nb ∧ nb ≤ 19 := by have := H.nb1; have := H.bb; omega
  have hg := H.g1; have hh := H.h1
  exact ⟨mapOk_of (A := 1) (B := 19) (P := 999) (Q := 999) (by omega) H.ab (by omega) hx hy (by omega) (by omega) (by omega) (by omega),
    mapOk_of (A := 19) (B := 362) (P := 999) (Q := 999) H.bb b2 (by omega) hx hy (by omega) (by omega) (by omega) (by omega),
    mapOk_of (A := 362) (B := 19) (P := 21000) (Q := 400000) b2 hna (by omega) X Y (by omega) (by omega) (by omega) (by omega),
    mapOk_of (A := 19) (B := 1) (P := 21000) (Q := 400000) hnb (by omega) (by omega) X Y (by omega) (by omega) (by omega) (by omega)⟩
theorem BkN.back {a b c d k e na nb ad ec g bcx h : Int} (H : BkN a b c d k e na nb ad ec g bcx h) (x y : Int) : mapC e na g (mapC 1 a c x y) (mapC b e d x y) = x ∧ mapC nb 1 h (mapC 1 a c x y) (mapC b e d x y) = y := by
  obtain ⟨_, _, _, _, rfl, rfl, rfl, rfl, rfl, rfl, rfl, rfl, rfl⟩ := H
  exact map_back a b c d x y

set_option maxRecDepth 100000 in
set_option maxHeartbeats 40000000 in
theorem figureBack_walk (A1 : Option Addr) (n1 c1 : Nat) (xs : List Int) (A2 : Option Addr) (n2 c2 : Nat) (ys : List Int) (a0 b0 c0 d0 : Int) (w : World) (hr : Rd w) (h1 : FlatSl w 1 A1 n1 c1 xs) (h2 : FlatSl w 1 A2 n2 c2 ys) :
    Calls Tryd.prog 3 #[.slice A1 n1 c1, .slice A2 n2 c2, .int .i64 a0, .int .i64 b0, .int .i64 c0, .int .i64 d0] w fun e w' => e = .returned (.bool true) ∧ Below w.heap.size w w' := by
  have HR := Lib.hid hr; have H1 := Lib.hid h1; have H2 := Lib.hid h2
  obtain ⟨N, hN⟩ : ∃ N, N = shN n1 n2 := ⟨_, rfl⟩
  have hs : ∀ W, Below w.heap.size w W → Calls Tryd.prog 7 #[.slice A1 n1 c1, .slice A2 n2 c2] W (ShapePost xs ys N W) := fun W hb => by rw [hN]; exact shape_ok A1 n1 c1 xs A2 n2 c2 ys W (H1.out.stay (by omega) hb) (H2.out.stay (by omega) hb)
  have HSH := Lib.hid hs
  obtain ⟨a, ha⟩ : ∃ c, c = a0.tmod 20 := ⟨_, rfl⟩
  obtain ⟨b, hb⟩ : ∃ c, c = b0.tmod 20 := ⟨_, rfl⟩
  obtain ⟨c, hc⟩ : ∃ c, c = c0.tmod 1000 := ⟨_, rfl⟩
  obtain ⟨d, hd⟩ : ∃ c, c = d0.tmod 1000 := ⟨_, rfl⟩
  have ab : -19 ≤ a ∧ a ≤ 19 := by rw [ha]; exact tmod20 a0
  have bb : -19 ≤ b ∧ b ≤ 19 := by rw [hb]; exact tmod20 b0
  have cb : -999 ≤ c ∧ c ≤ 999 := by rw [hc]; have := tmod_lim c0; omega
  have db : -999 ≤ d ∧ d ≤ 999 := by rw [hd]; have := tmod_lim d0; omega
  obtain ⟨k, hk⟩ : ∃ x, x = a * b := ⟨_, rfl⟩
  obtain ⟨e, he⟩ : ∃ x, x = k + 1 := ⟨_, rfl⟩
  obtain ⟨na, hna⟩ : ∃ x, x = -a := ⟨_, rfl⟩
  obtain ⟨nb, hnb⟩ : ∃ x, x = -b := ⟨_, rfl⟩
  obtain ⟨ad, had⟩ : ∃ x, x = a * d := ⟨_, rfl⟩
  obtain ⟨ec, hec⟩ : ∃ x, x = e * c := ⟨_, rfl⟩
  obtain ⟨g, hg⟩ : ∃ x, x = ad - ec := ⟨_, rfl⟩
  obtain ⟨bcx, hbc⟩ : ∃ x, x = b * c := ⟨_, rfl⟩
  obtain ⟨h, hh⟩ : ∃ x, x = bcx - d := ⟨_, rfl⟩
  have hBK : BkN a b c d k e na nb ad ec g bcx h := ⟨ab, bb, cb, db, hk, he, hna, hnb, had, hec, hg, hbc, hh⟩
  obtain ⟨q1, q2, q3, q4, q5⟩ := hBK.bnd
  have p1 : IntKind.i64.wrap (a * b) = k := by rw [hk]; exact IntWalk.i64_in _ (by omega)
  have p2 : IntKind.i64.wrap (k + 1) = e := by rw [he]; exact IntWalk.i64_in _ (by omega)
  have p3 : IntKind.i64.wrap (-a) = na := by rw [hna]; exact IntWalk.i64_in _ (by omega)
  have p4 : IntKind.i64.wrap (-b) = nb := by rw [hnb]; exact IntWalk.i64_in _ (by omega)
  have p5 : IntKind.i64.wrap (a * d) = ad := by rw [had]; exact IntWalk.i64_in _ (by omega)
  have p6 : IntKind.i64.wrap (e * c) = ec := by rw [hec]; exact IntWalk.i64_in _ (by omega)
  have p7 : IntKind.i64.wrap (ad - ec) = g := by rw [hg]; exact IntWalk.i64_in _ (by omega)
  have p8 : IntKind.i64.wrap (b * c) = bcx := by rw [hbc]; exact IntWalk.i64_in _ (by omega)
  have p9 : IntKind.i64.wrap (bcx - d) = h := by rw [hh]; exact IntWalk.i64_in _ (by omega)
  have BK := Lib.hid hBK
  have HPS := Lib.hid (And.intro p1 (And.intro p2 (And.intro p3 (And.intro p4 (And.intro p5 (And.intro p6 (And.intro p7 (And.intro p8 p9))))))))
  clear hr h1 h2 hN hs ab bb cb db hk he hna hnb had hec hg hbc hh hBK q1 q2 q3 q4 q5 p1 p2 p3 p4 p5 p6 p7 p8 p9
  go_enter Tryd.func3, Tryd.ntmps3
  go_wp2_with fail
  refine Calls.mono (figureWorks_ok _ HR.out) ?_
  rintro er w1 ⟨rfl, hbb⟩
  have Hb1 := Lib.hid hbb
  clear hbb
  go_wp2_with fail
  refine Calls.mono (HSH.out _ Hb1.out) ?_
  rintro er w2 ⟨A, cA, B, m, bc, rfl, hF, hm, hbb⟩
  have HF := Lib.hid hF; have Hb2 := Lib.hid (Hb1.out.trans (hbb.mono Hb1.out.size))
  clear hF hbb Hb1 hm
  go_upto_region 5 with fail
  rw [← ha, ← hb, ← hc, ← hd]
  clear ha hb hc hd
  obtain ⟨kf, hkf⟩ : ∃ b, b = w2.heap.size := ⟨_, rfl⟩
  obtain ⟨V, hV⟩ : ∃ V, V = w2.alloc (.cells #[.slice A N cA, .slice B m bc] 27) := ⟨_, rfl⟩
  have bV : Below w2.heap.size w2 V := by rw [hV]; exact (Below.refl _ _).alloc (Nat.le_refl _) _
  have hG := FgBox.new w2 (.slice A N cA) (.slice B m bc)
  rw [← hV, ← hkf] at hG ⊢
  have HG := Lib.hid hG; have HFV := Lib.hid (HF.out.below bV); have HbV := Lib.hid (Hb2.out.trans (bV.mono Hb2.out.size))
  clear hG hV hkf bV HF Hb2
  obtain ⟨GX, hGX⟩ : ∃ G : Nat → Int, G = fun i => mapC 1 a c (shX xs i) (shX ys i) := ⟨_, rfl⟩
  obtain ⟨GY, hGY⟩ : ∃ G : Nat → Int, G = fun i => mapC b e d (shX xs i) (shX ys i) := ⟨_, rfl⟩
  have hmap : ∀ W, FigW W A N cA (shNums xs ys N) B m bc → Calls Tryd.prog 8 #[.agg #[.slice A N cA, .slice B m bc], .agg #[.int .i64 1, .int .i64 1, .int .i64 a, .int .i64 1, .int .i64 c, .int .i64 1, .int .i64 b, .int .i64 1, .int .i64 e, .int .i64 1, .int .i64 d, .int .i64 1]] W (MapPost N m GX GY W) := fun W hW => by
    obtain ⟨q1, q2, q3, q4, q5⟩ := BK.out.bnd
    have q6 := BK.out.ab; have q7 := BK.out.bb; have q8 := BK.out.cb; have q9 := BK.out.db
    have h := fMapped_ok A N cA (shNums xs ys N) B m bc (shX xs) (shX ys) (bkM 1 a c b e d) W hW (ptNums_at _ _ _) (bkM_ok (by omega) (by omega) (by omega) (by omega) (by omega) (by omega))
      (fun i _ => (BK.out.mapOk (shX_bnd xs i) (shX_bnd ys i)).1) (fun i _ => (BK.out.mapOk (shX_bnd xs i) (shX_bnd ys i)).2.1)
    rw [hGX, hGY]
    exact h
  have hmap2 : ∀ (A' : Option Addr) (c' : Nat) (B' : Option Addr) (bc' : Nat) W, FigW W A' N c' (ptNums GX GY N) B' m bc' → Calls Tryd.prog 8 #[.agg #[.slice A' N c', .slice B' m bc'], .agg #[.int .i64 e, .int .i64 1, .int .i64 na, .int .i64 1, .int .i64 g, .int .i64 1, .int .i64 nb, .int .i64 1, .int .i64 1, .int .i64 1, .int .i64 h, .int .i64 1]] W (MapPost N m (shX xs) (shX ys) W) := fun A' c' B' bc' W hW => by
    obtain ⟨q1, q2, q3, q4, q5⟩ := BK.out.bnd
    have q6 := BK.out.ab; have q7 := BK.out.bb; have q8 := BK.out.cb; have q9 := BK.out.db
    have r1 := BK.out.na1; have r2 := BK.out.nb1; have r3 := BK.out.g1; have r4 := BK.out.h1
    have hm := fMapped_ok A' N c' (ptNums GX GY N) B' m bc' GX GY (bkM e na g nb 1 h) W hW (ptNums_at _ _ _) (bkM_ok (by omega) (by omega) (by omega) (by omega) (by omega) (by omega))
      (fun i _ => by rw [hGX, hGY]; exact (BK.out.mapOk (shX_bnd xs i) (shX_bnd ys i)).2.2.1) (fun i _ => by rw [hGX, hGY]; exact (BK.out.mapOk (shX_bnd xs i) (shX_bnd ys i)).2.2.2)
    have z1 : (fun i => mapC (bkM e na g nb 1 h 0) (bkM e na g nb 1 h 1) (bkM e na g nb 1 h 2) (GX i) (GY i)) = shX xs := funext fun i => by rw [hGX, hGY]; exact (BK.out.back (shX xs i) (shX ys i)).1
    have z2 : (fun i => mapC (bkM e na g nb 1 h 3) (bkM e na g nb 1 h 4) (bkM e na g nb 1 h 5) (GX i) (GY i)) = shX ys := funext fun i => by rw [hGX, hGY]; exact (BK.out.back (shX xs i) (shX ys i)).2
    rw [z1, z2] at hm
    exact hm
  have HMAP := Lib.hid hmap; have HMAQ := Lib.hid hmap2
  clear hmap hmap2 hGX hGY
  obtain ⟨p1, p2, p3, p4, p5, p6, p7, p8, p9⟩ := HPS.out
  obtain ⟨X, hX⟩ : ∃ X, X = V.drew := ⟨_, rfl⟩
  have bX := Lib.hid (show Below V.heap.size V X by rw [hX]; exact (Below.refl _ _).drew)
  have HhX := Lib.hid hX
  clear hX
  go_cut [14, 15] (fun p e wx => ∃ b A' c' B' bc', p = .pointer (some ⟨b, 0, none⟩) ∧ e = .int .i64 0 ∧ V.heap.size ≤ b ∧ FgBox wx b (.slice A' N c') (.slice B' m bc') ∧ FigW wx A' N c' (ptNums GX GY N) B' m bc' ∧ Below V.heap.size V wx)
  case first =>
    have hf : FgBox X kf (.slice A N cA) (.slice B m bc) ∧ Below V.heap.size V X := ⟨HG.out.below bX.out, bX.out⟩
    refine wp_region_G [(16, fun w' => FgBox w' kf (.slice A N cA) (.slice B m bc)), (22, fun _ => True)] (by kernel_rfl) (heldC_two (fun _ => by rw [← HhX.out]; exact hf.1) (fun _ => trivial)) (fun hF => ?_)
    rw [← HhX.out] at hF ⊢
    refine wpG_take (oi := ?oi1) (v := ?vv1) 0 _ ?hi1 (List.Mem.head _) ?hc1 ?hQ1 hF ?hw1 ?hy1 (fun hF => ?hh1)
    case hi1 => (simp only [List.getElem?_toArray, List.getElem?_cons_succ, List.getElem?_cons_zero]; rfl)
    case hc1 => kernel_rfl
    case hQ1 => exact fun _ _ _ h => h
    case hw1 => rfl
    case hy1 => (intro wz hz; have z0 := hz.c0; have z1 := hz.c1; go_simp; try (with_reducible rfl))
    try simp only [Act.put, List.setIfInBounds_toArray, List.set_cons_zero, List.set_cons_succ]
    refine wpG_takeC (oi := ?oi2) (v := ?vv2) 2 _ [15,3] ?hi2 (List.Mem.head _) ?hc2 ?hQ2 hF ?hw2 ?hy2 (fun hF => ?hh2)
    case hi2 => (simp only [List.getElem?_toArray, List.getElem?_cons_succ, List.getElem?_cons_zero]; rfl)
    case hc2 => kernel_rfl
    case hQ2 => exact fun _ _ _ h => h
    case hw2 => rfl
    case hy2 => (intro wz hz; skip; go_simp; try (with_reducible rfl))
    try simp only [Act.put, List.setIfInBounds_toArray, List.set_cons_zero, List.set_cons_succ]
    refine wpG_takeC (oi := ?oi3) (v := ?vv3) 4 _ [15,5] ?hi3 (List.Mem.head _) ?hc3 ?hQ3 hF ?hw3 ?hy3 (fun hF => ?hh3)
    case hi3 => (simp only [List.getElem?_toArray, List.getElem?_cons_succ, List.getElem?_cons_zero]; rfl)
    case hc3 => kernel_rfl
    case hQ3 => exact fun _ _ _ h => h
    case hw3 => rfl
    case hy3 => (intro wz hz; skip; go_simp; try (with_reducible rfl))
    try simp only [Act.put, List.setIfInBounds_toArray, List.set_cons_zero, List.set_cons_succ]
    refine wpG_takeC (oi := ?oi4) (v := ?vv4) 6 _ [15,7] ?hi4 (List.Mem.head _) ?hc4 ?hQ4 hF ?hw4 ?hy4 (fun hF => ?hh4)
    case hi4 => (simp only [List.getElem?_toArray, List.getElem?_cons_succ, List.getElem?_cons_zero]; rfl)
    case hc4 => kernel_rfl
    case hQ4 => exact fun _ _ _ h => h
    case hw4 => rfl
    case hy4 => (intro wz hz; skip; go_simp; try (with_reducible rfl))
    try simp only [Act.put, List.setIfInBounds_toArray, List.set_cons_zero, List.set_cons_succ]
    refine wpG_takeC (oi := ?oi5) (v := ?vv5) 8 _ [15,12,11,10] ?hi5 (List.Mem.head _) ?hc5 ?hQ5 hF ?hw5 ?hy5 (fun hF => ?hh5)
    case hi5 => (simp only [List.getElem?_toArray, List.getElem?_cons_succ, List.getElem?_cons_zero]; rfl)
    case hc5 => kernel_rfl
    case hQ5 => exact fun _ _ _ h => h
    case hw5 => rfl
    case hy5 => (intro wz hz; skip; go_simp; try (with_reducible rfl))
    try simp only [Act.put, List.setIfInBounds_toArray, List.set_cons_zero, List.set_cons_succ]
    refine wpG_takeC (oi := ?oi6) (v := ?vv6) 9 _ [15,12,11,10] ?hi6 (List.Mem.head _) ?hc6 ?hQ6 hF ?hw6 ?hy6 (fun hF => ?hh6)
    case hi6 => (simp only [List.getElem?_toArray, List.getElem?_cons_succ, List.getElem?_cons_zero]; rfl)
    case hc6 => kernel_rfl
    case hQ6 => exact fun _ _ _ h => h
    case hw6 => rfl
    case hy6 => (intro wz hz; skip; go_simp; try (with_reducible rfl))
    try simp only [Act.put, List.setIfInBounds_toArray, List.set_cons_zero, List.set_cons_succ]
    refine wpG_takeC (oi := ?oi7) (v := ?vv7) 10 _ [15,12,11] ?hi7 (List.Mem.head _) ?hc7 ?hQ7 hF ?hw7 ?hy7 (fun hF => ?hh7)
    case hi7 => (simp only [List.getElem?_toArray, List.getElem?_cons_succ, List.getElem?_cons_zero]; rfl)
    case hc7 => kernel_rfl
    case hQ7 => exact fun _ _ _ h => h
    case hw7 => rfl
    case hy7 => (intro wz hz; skip; go_simp; try (with_reducible rfl))
    try simp only [Act.put, List.setIfInBounds_toArray, List.set_cons_zero, List.set_cons_succ]
    refine wpG_takeC (oi := ?oi8) (v := ?vv8) 11 _ [15,12] ?hi8 (List.Mem.head _) ?hc8 ?hQ8 hF ?hw8 ?hy8 (fun hF => ?hh8)
    case hi8 => (simp only [List.getElem?_toArray, List.getElem?_cons_succ, List.getElem?_cons_zero]; rfl)
    case hc8 => kernel_rfl
    case hQ8 => exact fun _ _ _ h => h
    case hw8 => rfl
    case hy8 => (intro wz hz; skip; go_simp; try (with_reducible rfl))
    try simp only [Act.put, List.setIfInBounds_toArray, List.set_cons_zero, List.set_cons_succ]
    refine wpG_takeC (oi := ?oi9) (v := ?vv9) 13 _ [14] ?hi9 (List.Mem.head _) ?hc9 ?hQ9 hF ?hw9 ?hy9 (fun hF => ?hh9)
    case hi9 => (simp only [List.getElem?_toArray, List.getElem?_cons_succ, List.getElem?_cons_zero]; rfl)
    case hc9 => kernel_rfl
    case hQ9 => exact fun _ _ _ h => h
    case hw9 => rfl
    case hy9 => (intro wz hz; skip; go_simp; try (with_reducible rfl))
    try simp only [Act.put, List.setIfInBounds_toArray, List.set_cons_zero, List.set_cons_succ]
    refine wpG_ready (rs := [1, 20]) (by kernel_rfl) (by simp) ?_
    refine all_two ?_ ?_
    · skip
      refine wpOp_hand (oi := ?oi10) ?hi10 (fun K hK => ?hh10)
      case hi10 => (simp only [List.getElem?_toArray, List.getElem?_cons_succ, List.getElem?_cons_zero]; rfl)
      go_simp
      refine Calls.mono (whole_ok _ _) ?_
      rintro e wq ⟨rfl, hb⟩
      have hfn : FgBox wq kf (.slice A N cA) (.slice B m bc) ∧ Below V.heap.size V wq := ⟨hf.1.below hb, hf.2.trans (hb.mono hf.2.size)⟩
      clear hf
      have hf := hfn
      clear hfn
      clear hb
      refine hK.out _ _ (heldC_two (fun _ => hf.1) (fun _ => trivial)) (fun hF => ?_)
      clear hK K
      try simp only [Act.put, List.setIfInBounds_toArray, List.set_cons_zero, List.set_cons_succ]
      refine wpG_ready (rs := [3, 20]) (by kernel_rfl) (by simp) ?_
      refine all_two ?_ ?_
      · skip
        refine wpOp_hand (oi := ?oi11) ?hi11 (fun K hK => ?hh11)
        case hi11 => (simp only [List.getElem?_toArray, List.getElem?_cons_succ, List.getElem?_cons_zero]; rfl)
        go_simp
        refine Calls.mono (whole_ok _ _) ?_
        rintro e wq ⟨rfl, hb⟩
        have hfn : FgBox wq kf (.slice A N cA) (.slice B m bc) ∧ Below V.heap.size V wq := ⟨hf.1.below hb, hf.2.trans (hb.mono hf.2.size)⟩
        clear hf
        have hf := hfn
        clear hfn
        clear hb
        refine hK.out _ _ (heldC_two (fun _ => hf.1) (fun _ => trivial)) (fun hF => ?_)
        clear hK K
        try simp only [Act.put, List.setIfInBounds_toArray, List.set_cons_zero, List.set_cons_succ]
        refine wpG_ready (rs := [5, 20]) (by kernel_rfl) (by simp) ?_
        refine all_two ?_ ?_
        · skip
          refine wpOp_hand (oi := ?oi12) ?hi12 (fun K hK => ?hh12)
          case hi12 => (simp only [List.getElem?_toArray, List.getElem?_cons_succ, List.getElem?_cons_zero]; rfl)
          go_simp
          refine Calls.mono (whole_ok _ _) ?_
          rintro e wq ⟨rfl, hb⟩
          have hfn : FgBox wq kf (.slice A N cA) (.slice B m bc) ∧ Below V.heap.size V wq := ⟨hf.1.below hb, hf.2.trans (hb.mono hf.2.size)⟩
          clear hf
          have hf := hfn
          clear hfn
          clear hb
          refine hK.out _ _ (heldC_two (fun _ => hf.1) (fun _ => trivial)) (fun hF => ?_)
          clear hK K
          try simp only [Act.put, List.setIfInBounds_toArray, List.set_cons_zero, List.set_cons_succ]
          refine wpG_ready (rs := [7, 20]) (by kernel_rfl) (by simp) ?_
          refine all_two ?_ ?_
          · skip
            refine wpOp_hand (oi := ?oi13) ?hi13 (fun K hK => ?hh13)
            case hi13 => (simp only [List.getElem?_toArray, List.getElem?_cons_succ, List.getElem?_cons_zero]; rfl)
            go_simp
            refine Calls.mono (whole_ok _ _) ?_
            rintro e wq ⟨rfl, hb⟩
            have hfn : FgBox wq kf (.slice A N cA) (.slice B m bc) ∧ Below V.heap.size V wq := ⟨hf.1.below hb, hf.2.trans (hb.mono hf.2.size)⟩
            clear hf
            have hf := hfn
            clear hfn
            clear hb
            refine hK.out _ _ (heldC_two (fun _ => hf.1) (fun _ => trivial)) (fun hF => ?_)
            clear hK K
            try simp only [Act.put, List.setIfInBounds_toArray, List.set_cons_zero, List.set_cons_succ]
            refine wpG_ready (rs := [12, 20]) (by kernel_rfl) (by simp) ?_
            refine all_two ?_ ?_
            · skip
              refine wpOp_hand (oi := ?oi14) ?hi14 (fun K hK => ?hh14)
              case hi14 => (simp only [List.getElem?_toArray, List.getElem?_cons_succ, List.getElem?_cons_zero]; rfl)
              go_simp
              refine Calls.mono (whole_ok _ _) ?_
              rintro e wq ⟨rfl, hb⟩
              have hfn : FgBox wq kf (.slice A N cA) (.slice B m bc) ∧ Below V.heap.size V wq := ⟨hf.1.below hb, hf.2.trans (hb.mono hf.2.size)⟩
              clear hf
              have hf := hfn
              clear hfn
              clear hb
              refine hK.out _ _ (heldC_two (fun _ => hf.1) (fun _ => trivial)) (fun hF => ?_)
              clear hK K
              try simp only [Act.put, List.setIfInBounds_toArray, List.set_cons_zero, List.set_cons_succ]
              refine wpG_ready (rs := [14, 20]) (by kernel_rfl) (by simp) ?_
              refine all_two ?_ ?_
              · skip
                refine wpOp_hand (oi := ?oi15) ?hi15 (fun K hK => ?hh15)
                case hi15 => (simp only [List.getElem?_toArray, List.getElem?_cons_succ, List.getElem?_cons_zero]; rfl)
                go_simp
                refine Calls.mono (whole_ok _ _) ?_
                rintro e wq ⟨rfl, hb⟩
                have hfn : FgBox wq kf (.slice A N cA) (.slice B m bc) ∧ Below V.heap.size V wq := ⟨hf.1.below hb, hf.2.trans (hb.mono hf.2.size)⟩
                clear hf
                have hf := hfn
                clear hfn
                clear hb
                refine hK.out _ _ (heldC_two (fun _ => hf.1) (fun _ => trivial)) (fun hF => ?_)
                clear hK K
                try simp only [Act.put, List.setIfInBounds_toArray, List.set_cons_zero, List.set_cons_succ]
                refine wpG_take (oi := ?oi16) (v := ?vv16) 15 _ ?hi16 (List.Mem.head _) ?hc16 ?hQ16 hF ?hw16 ?hy16 (fun hF => ?hh16)
                case hi16 => (simp only [List.getElem?_toArray, List.getElem?_cons_succ, List.getElem?_cons_zero]; rfl)
                case hc16 => kernel_rfl
                case hQ16 => exact fun _ _ _ h => h
                case hw16 => rfl
                case hy16 => (intro wz hz; skip; go_simp; try (with_reducible rfl))
                try simp only [Act.put, List.setIfInBounds_toArray, List.set_cons_zero, List.set_cons_succ]
                refine wpG_ready (rs := [16, 20]) (by kernel_rfl) (by simp) ?_
                refine all_two ?_ ?_
                · skip
                  refine wpOp_hand (oi := ?oi17) ?hi17 (fun K hK => ?hh17)
                  case hi17 => (simp only [List.getElem?_toArray, List.getElem?_cons_succ, List.getElem?_cons_zero]; rfl)
                  go_simp
                  refine Calls.mono (HMAP.out _ (HFV.out.below hf.2)) ?_
                  rintro e wq ⟨Am, cm, Bm, bm, rfl, hG, hb⟩
                  have hfn : FgBox wq kf (.slice A N cA) (.slice B m bc) ∧ Below V.heap.size V wq := ⟨hf.1.below hb, hf.2.trans (hb.mono hf.2.size)⟩
                  clear hf
                  have hf := hfn
                  clear hfn
                  clear hb
                  refine hK.out _ _ (heldC_two (fun h => absurd h (by simp)) (fun _ => trivial)) (fun hF => ?_)
                  clear hK K
                  try simp only [Act.put, List.setIfInBounds_toArray, List.set_cons_zero, List.set_cons_succ]
                  refine wpG_take (oi := ?oi18) (v := ?vv18) 17 _ ?hi18 (List.Mem.tail _ (List.Mem.head _)) ?hc18 ?hQ18 hF ?hw18 ?hy18 (fun hF => ?hh18)
                  case hi18 => (simp only [List.getElem?_toArray, List.getElem?_cons_succ, List.getElem?_cons_zero]; rfl)
                  case hc18 => kernel_rfl
                  case hQ18 => exact fun _ _ _ h => h
                  case hw18 => rfl
                  case hy18 => (intro wz hz; skip; go_simp; try (with_reducible rfl))
                  try simp only [Act.put, List.setIfInBounds_toArray, List.set_cons_zero, List.set_cons_succ]
                  refine wpG_take (oi := ?oi19) (v := ?vv19) 18 _ ?hi19 (List.Mem.tail _ (List.Mem.head _)) ?hc19 ?hQ19 hF ?hw19 ?hy19 (fun hF => ?hh19)
                  case hi19 => (simp only [List.getElem?_toArray, List.getElem?_cons_succ, List.getElem?_cons_zero]; rfl)
                  case hc19 => kernel_rfl
                  case hQ19 => exact fun _ _ _ h => h
                  case hw19 => rfl
                  case hy19 => (intro wz hz; skip; go_simp; try (with_reducible rfl))
                  try simp only [Act.put, List.setIfInBounds_toArray, List.set_cons_zero, List.set_cons_succ]
                  refine wpG_take (oi := ?oi20) (v := ?vv20) 19 _ ?hi20 (List.Mem.tail _ (List.Mem.head _)) ?hc20 ?hQ20 hF ?hw20 ?hy20 (fun hF => ?hh20)
                  case hi20 => (simp only [List.getElem?_toArray, List.getElem?_cons_succ, List.getElem?_cons_zero]; rfl)
                  case hc20 => kernel_rfl
                  case hQ20 => exact fun _ _ _ h => h
                  case hw20 => rfl
                  case hy20 => (intro wz hz; skip; go_simp; try (with_reducible rfl))
                  try simp only [Act.put, List.setIfInBounds_toArray, List.set_cons_zero, List.set_cons_succ]
                  refine wpG_ready (rs := [20]) (by kernel_rfl) (by simp) ?_
                  refine all_one ?_
                  refine wpOp_hand (oi := ?oi21) ?hi21 (fun K hK => ?hh21)
                  case hi21 => (simp only [List.getElem?_toArray, List.getElem?_cons_succ, List.getElem?_cons_zero]; rfl)
                  go_simp
                  have hN := FgBox.new wq (.slice none 0 0) (.slice none 0 0)
                  obtain ⟨kb, hkb⟩ : ∃ b, b = wq.heap.size := ⟨_, rfl⟩
                  obtain ⟨Y, hY⟩ : ∃ Y, Y = wq.alloc (.cells #[.slice none 0 0, .slice none 0 0] 27) := ⟨_, rfl⟩
                  have bY : Below wq.heap.size wq Y := by rw [hY]; exact (Below.refl _ _).alloc (Nat.le_refl _) _
                  have hs3 : V.heap.size ≤ kb := by rw [hkb]; exact hf.2.size
                  rw [← hY, ← hkb] at hN ⊢
                  have hfn : FgBox Y kf (.slice A N cA) (.slice B m bc) ∧ Below V.heap.size V Y := ⟨hf.1.below bY, hf.2.trans (bY.mono hf.2.size)⟩
                  have hGn := hG.below bY
                  clear hG
                  have hG := hGn
                  clear hGn
                  clear hf
                  have hf := hfn
                  clear hfn
                  clear bY hY hkb
                  refine hK.out _ _ (heldC_two (fun h => absurd h (by simp)) (fun _ => trivial)) (fun hF => ?_)
                  clear hK K
                  try simp only [Act.put, List.setIfInBounds_toArray, List.set_cons_zero, List.set_cons_succ]
                  refine wpG_ready (rs := [21]) (by kernel_rfl) (by simp) ?_
                  refine all_one ?_
                  have f0 := hN.c0; have f1 := hN.c1; have f2 := hN.free 0; have f3 := hN.free 1; have f4 := hN.lt
                  refine wpOp_hand (oi := ?oi22) ?hi22 (fun K hK => ?hh22)
                  case hi22 => (simp only [List.getElem?_toArray, List.getElem?_cons_succ, List.getElem?_cons_zero]; rfl)
                  go_simp
                  refine hK.out _ _ (heldC_two (fun h => absurd h (by simp)) (fun _ => trivial)) (fun hF => ?_)
                  clear hK K
                  try simp only [Act.put, List.setIfInBounds_toArray, List.set_cons_zero, List.set_cons_succ]
                  refine wpG_ready (rs := [22]) (by kernel_rfl) (by simp) ?_
                  refine all_one ?_
                  refine wpOp_hand (oi := ?oi23) ?hi23 (fun K hK => ?hh23)
                  case hi23 => (simp only [List.getElem?_toArray, List.getElem?_cons_succ, List.getElem?_cons_zero]; rfl)
                  go_simp
                  refine hK.out _ _ (heldC_two (fun h => absurd h (by simp)) (fun h => absurd h (by simp))) (fun hF => ?_)
                  clear hK K
                  try simp only [Act.put, List.setIfInBounds_toArray, List.set_cons_zero, List.set_cons_succ]
                  refine wpG_done (by kernel_rfl) ?_ _
                  clear f0 f1 f2 f3 f4
                  go_wp2_with fail
                  go_meet
                  exact ⟨kb, Am, cm, Bm, bm, rfl, rfl, hs3, hN.set _ _, figW_set hG hN _ _, (hf.2.setCell (p := ⟨kb, 0, none⟩) hs3 _).setCell (p := ⟨kb, 1, none⟩) hs3 _⟩
                · skip
                  refine wpOp_hand (oi := ?oi24) ?hi24 (fun K hK => ?hh24)
                  case hi24 => (simp only [List.getElem?_toArray, List.getElem?_cons_succ, List.getElem?_cons_zero]; rfl)
                  go_simp
                  have hN := FgBox.new wq (.slice none 0 0) (.slice none 0 0)
                  obtain ⟨kb, hkb⟩ : ∃ b, b = wq.heap.size := ⟨_, rfl⟩
                  obtain ⟨Y, hY⟩ : ∃ Y, Y = wq.alloc (.cells #[.slice none 0 0, .slice none 0 0] 27) := ⟨_, rfl⟩
                  have bY : Below wq.heap.size wq Y := by rw [hY]; exact (Below.refl _ _).alloc (Nat.le_refl _) _
                  have hs3 : V.heap.size ≤ kb := by rw [hkb]; exact hf.2.size
                  rw [← hY, ← hkb] at hN ⊢
                  have hfn : FgBox Y kf (.slice A N cA) (.slice B m bc) ∧ Below V.heap.size V Y := ⟨hf.1.below bY, hf.2.trans (bY.mono hf.2.size)⟩
                  clear hf
                  have hf := hfn
                  clear hfn
                  clear bY hY hkb
                  refine hK.out _ _ (heldC_two (fun _ => hf.1) (fun _ => trivial)) (fun hF => ?_)
                  clear hK K
                  try simp only [Act.put, List.setIfInBounds_toArray, List.set_cons_zero, List.set_cons_succ]
                  refine wpG_ready (rs := [16]) (by kernel_rfl) (by simp) ?_
                  refine all_one ?_
                  refine wpOp_hand (oi := ?oi25) ?hi25 (fun K hK => ?hh25)
                  case hi25 => (simp only [List.getElem?_toArray, List.getElem?_cons_succ, List.getElem?_cons_zero]; rfl)
                  go_simp
                  refine Calls.mono (HMAP.out _ (HFV.out.below hf.2)) ?_
                  rintro e wq ⟨Am, cm, Bm, bm, rfl, hG, hb⟩
                  have hfn : FgBox wq kf (.slice A N cA) (.slice B m bc) ∧ Below V.heap.size V wq := ⟨hf.1.below hb, hf.2.trans (hb.mono hf.2.size)⟩
                  have hNn := hN.below hb
                  clear hN
                  have hN := hNn
                  clear hNn
                  clear hf
                  have hf := hfn
                  clear hfn
                  clear hb
                  refine hK.out _ _ (heldC_two (fun h => absurd h (by simp)) (fun _ => trivial)) (fun hF => ?_)
                  clear hK K
                  try simp only [Act.put, List.setIfInBounds_toArray, List.set_cons_zero, List.set_cons_succ]
                  refine wpG_take (oi := ?oi26) (v := ?vv26) 17 _ ?hi26 (List.Mem.tail _ (List.Mem.head _)) ?hc26 ?hQ26 hF ?hw26 ?hy26 (fun hF => ?hh26)
                  case hi26 => (simp only [List.getElem?_toArray, List.getElem?_cons_succ, List.getElem?_cons_zero]; rfl)
                  case hc26 => kernel_rfl
                  case hQ26 => exact fun _ _ _ h => h
                  case hw26 => rfl
                  case hy26 => (intro wz hz; skip; go_simp; try (with_reducible rfl))
                  try simp only [Act.put, List.setIfInBounds_toArray, List.set_cons_zero, List.set_cons_succ]
                  refine wpG_take (oi := ?oi27) (v := ?vv27) 18 _ ?hi27 (List.Mem.tail _ (List.Mem.head _)) ?hc27 ?hQ27 hF ?hw27 ?hy27 (fun hF => ?hh27)
                  case hi27 => (simp only [List.getElem?_toArray, List.getElem?_cons_succ, List.getElem?_cons_zero]; rfl)
                  case hc27 => kernel_rfl
                  case hQ27 => exact fun _ _ _ h => h
                  case hw27 => rfl
                  case hy27 => (intro wz hz; skip; go_simp; try (with_reducible rfl))
                  try simp only [Act.put, List.setIfInBounds_toArray, List.set_cons_zero, List.set_cons_succ]
                  refine wpG_take (oi := ?oi28) (v := ?vv28) 19 _ ?hi28 (List.Mem.tail _ (List.Mem.head _)) ?hc28 ?hQ28 hF ?hw28 ?hy28 (fun hF => ?hh28)
                  case hi28 => (simp only [List.getElem?_toArray, List.getElem?_cons_succ, List.getElem?_cons_zero]; rfl)
                  case hc28 => kernel_rfl
                  case hQ28 => exact fun _ _ _ h => h
                  case hw28 => rfl
                  case hy28 => (intro wz hz; skip; go_simp; try (with_reducible rfl))
                  try simp only [Act.put, List.setIfInBounds_toArray, List.set_cons_zero, List.set_cons_succ]
                  refine wpG_ready (rs := [21]) (by kernel_rfl) (by simp) ?_
                  refine all_one ?_
                  have f0 := hN.c0; have f1 := hN.c1; have f2 := hN.free 0; have f3 := hN.free 1; have f4 := hN.lt
                  refine wpOp_hand (oi := ?oi29) ?hi29 (fun K hK => ?hh29)
                  case hi29 => (simp only [List.getElem?_toArray, List.getElem?_cons_succ, List.getElem?_cons_zero]; rfl)
                  go_simp
                  refine hK.out _ _ (heldC_two (fun h => absurd h (by simp)) (fun _ => trivial)) (fun hF => ?_)
                  clear hK K
                  try simp only [Act.put, List.setIfInBounds_toArray, List.set_cons_zero, List.set_cons_succ]
                  refine wpG_ready (rs := [22]) (by kernel_rfl) (by simp) ?_
                  refine all_one ?_
                  refine wpOp_hand (oi := ?oi30) ?hi30 (fun K hK => ?hh30)
                  case hi30 => (simp only [List.getElem?_toArray, List.getElem?_cons_succ, List.getElem?_cons_zero]; rfl)
                  go_simp
                  refine hK.out _ _ (heldC_two (fun h => absurd h (by simp)) (fun h => absurd h (by simp))) (fun hF => ?_)
                  clear hK K
                  try simp only [Act.put, List.setIfInBounds_toArray, List.set_cons_zero, List.set_cons_succ]
                  refine wpG_done (by kernel_rfl) ?_ _
                  clear f0 f1 f2 f3 f4
                  go_wp2_with fail
                  go_meet
                  exact ⟨kb, Am, cm, Bm, bm, rfl, rfl, hs3, hN.set _ _, figW_set hG hN _ _, (hf.2.setCell (p := ⟨kb, 0, none⟩) hs3 _).setCell (p := ⟨kb, 1, none⟩) hs3 _⟩
              · skip
                refine wpOp_hand (oi := ?oi31) ?hi31 (fun K hK => ?hh31)
                case hi31 => (simp only [List.getElem?_toArray, List.getElem?_cons_succ, List.getElem?_cons_zero]; rfl)
                go_simp
                have hN := FgBox.new wq (.slice none 0 0) (.slice none 0 0)
                obtain ⟨kb, hkb⟩ : ∃ b, b = wq.heap.size := ⟨_, rfl⟩
                obtain ⟨Y, hY⟩ : ∃ Y, Y = wq.alloc (.cells #[.slice none 0 0, .slice none 0 0] 27) := ⟨_, rfl⟩
                have bY : Below wq.heap.size wq Y := by rw [hY]; exact (Below.refl _ _).alloc (Nat.le_refl _) _
                have hs3 : V.heap.size ≤ kb := by rw [hkb]; exact hf.2.size
                rw [← hY, ← hkb] at hN ⊢
                have hfn : FgBox Y kf (.slice A N cA) (.slice B m bc) ∧ Below V.heap.size V Y := ⟨hf.1.below bY, hf.2.trans (bY.mono hf.2.size)⟩
                clear hf
                have hf := hfn
                clear hfn
                clear bY hY hkb
                refine hK.out _ _ (heldC_two (fun _ => hf.1) (fun _ => trivial)) (fun hF => ?_)
                clear hK K
                try simp only [Act.put, List.setIfInBounds_toArray, List.set_cons_zero, List.set_cons_succ]
                refine wpG_ready (rs := [14]) (by kernel_rfl) (by simp) ?_
                refine all_one ?_
                refine wpOp_hand (oi := ?oi32) ?hi32 (fun K hK => ?hh32)
                case hi32 => (simp only [List.getElem?_toArray, List.getElem?_cons_succ, List.getElem?_cons_zero]; rfl)
                go_simp
                refine Calls.mono (whole_ok _ _) ?_
                rintro e wq ⟨rfl, hb⟩
                have hfn : FgBox wq kf (.slice A N cA) (.slice B m bc) ∧ Below V.heap.size V wq := ⟨hf.1.below hb, hf.2.trans (hb.mono hf.2.size)⟩
                have hNn := hN.below hb
                clear hN
                have hN := hNn
                clear hNn
                clear hf
                have hf := hfn
                clear hfn
                clear hb
                refine hK.out _ _ (heldC_two (fun _ => hf.1) (fun _ => trivial)) (fun hF => ?_)
                clear hK K
                try simp only [Act.put, List.setIfInBounds_toArray, List.set_cons_zero, List.set_cons_succ]
                refine wpG_take (oi := ?oi33) (v := ?vv33) 15 _ ?hi33 (List.Mem.head _) ?hc33 ?hQ33 hF ?hw33 ?hy33 (fun hF => ?hh33)
                case hi33 => (simp only [List.getElem?_toArray, List.getElem?_cons_succ, List.getElem?_cons_zero]; rfl)
                case hc33 => kernel_rfl
                case hQ33 => exact fun _ _ _ h => h
                case hw33 => rfl
                case hy33 => (intro wz hz; skip; go_simp; try (with_reducible rfl))
                try simp only [Act.put, List.setIfInBounds_toArray, List.set_cons_zero, List.set_cons_succ]
                refine wpG_ready (rs := [16]) (by kernel_rfl) (by simp) ?_
                refine all_one ?_
                refine wpOp_hand (oi := ?oi34) ?hi34 (fun K hK => ?hh34)
                case hi34 => (simp only [List.getElem?_toArray, List.getElem?_cons_succ, List.getElem?_cons_zero]; rfl)
                go_simp
                refine Calls.mono (HMAP.out _ (HFV.out.below hf.2)) ?_
                rintro e wq ⟨Am, cm, Bm, bm, rfl, hG, hb⟩
                have hfn : FgBox wq kf (.slice A N cA) (.slice B m bc) ∧ Below V.heap.size V wq := ⟨hf.1.below hb, hf.2.trans (hb.mono hf.2.size)⟩
                have hNn := hN.below hb
                clear hN
                have hN := hNn
                clear hNn
                clear hf
                have hf := hfn
                clear hfn
                clear hb
                refine hK.out _ _ (heldC_two (fun h => absurd h (by simp)) (fun _ => trivial)) (fun hF => ?_)
                clear hK K
                try simp only [Act.put, List.setIfInBounds_toArray, List.set_cons_zero, List.set_cons_succ]
                refine wpG_take (oi := ?oi35) (v := ?vv35) 17 _ ?hi35 (List.Mem.tail _ (List.Mem.head _)) ?hc35 ?hQ35 hF ?hw35 ?hy35 (fun hF => ?hh35)
                case hi35 => (simp only [List.getElem?_toArray, List.getElem?_cons_succ, List.getElem?_cons_zero]; rfl)
                case hc35 => kernel_rfl
                case hQ35 => exact fun _ _ _ h => h
                case hw35 => rfl
                case hy35 => (intro wz hz; skip; go_simp; try (with_reducible rfl))
                try simp only [Act.put, List.setIfInBounds_toArray, List.set_cons_zero, List.set_cons_succ]
                refine wpG_take (oi := ?oi36) (v := ?vv36) 18 _ ?hi36 (List.Mem.tail _ (List.Mem.head _)) ?hc36 ?hQ36 hF ?hw36 ?hy36 (fun hF => ?hh36)
                case hi36 => (simp only [List.getElem?_toArray, List.getElem?_cons_succ, List.getElem?_cons_zero]; rfl)
                case hc36 => kernel_rfl
                case hQ36 => exact fun _ _ _ h => h
                case hw36 => rfl
                case hy36 => (intro wz hz; skip; go_simp; try (with_reducible rfl))
                try simp only [Act.put, List.setIfInBounds_toArray, List.set_cons_zero, List.set_cons_succ]
                refine wpG_take (oi := ?oi37) (v := ?vv37) 19 _ ?hi37 (List.Mem.tail _ (List.Mem.head _)) ?hc37 ?hQ37 hF ?hw37 ?hy37 (fun hF => ?hh37)
                case hi37 => (simp only [List.getElem?_toArray, List.getElem?_cons_succ, List.getElem?_cons_zero]; rfl)
                case hc37 => kernel_rfl
                case hQ37 => exact fun _ _ _ h => h
                case hw37 => rfl
                case hy37 => (intro wz hz; skip; go_simp; try (with_reducible rfl))
                try simp only [Act.put, List.setIfInBounds_toArray, List.set_cons_zero, List.set_cons_succ]
                refine wpG_ready (rs := [21]) (by kernel_rfl) (by simp) ?_
                refine all_one ?_
                have f0 := hN.c0; have f1 := hN.c1; have f2 := hN.free 0; have f3 := hN.free 1; have f4 := hN.lt
                refine wpOp_hand (oi := ?oi38) ?hi38 (fun K hK => ?hh38)
                case hi38 => (simp only [List.getElem?_toArray, List.getElem?_cons_succ, List.getElem?_cons_zero]; rfl)
                go_simp
                refine hK.out _ _ (heldC_two (fun h => absurd h (by simp)) (fun _ => trivial)) (fun hF => ?_)
                clear hK K
                try simp only [Act.put, List.setIfInBounds_toArray, List.set_cons_zero, List.set_cons_succ]
                refine wpG_ready (rs := [22]) (by kernel_rfl) (by simp) ?_
                refine all_one ?_
                refine wpOp_hand (oi := ?oi39) ?hi39 (fun K hK => ?hh39)
                case hi39 => (simp only [List.getElem?_toArray, List.getElem?_cons_succ, List.getElem?_cons_zero]; rfl)
                go_simp
                refine hK.out _ _ (heldC_two (fun h => absurd h (by simp)) (fun h => absurd h (by simp))) (fun hF => ?_)
                clear hK K
                try simp only [Act.put, List.setIfInBounds_toArray, List.set_cons_zero, List.set_cons_succ]
                refine wpG_done (by kernel_rfl) ?_ _
                clear f0 f1 f2 f3 f4
                go_wp2_with fail
                go_meet
                exact ⟨kb, Am, cm, Bm, bm, rfl, rfl, hs3, hN.set _ _, figW_set hG hN _ _, (hf.2.setCell (p := ⟨kb, 0, none⟩) hs3 _).setCell (p := ⟨kb, 1, none⟩) hs3 _⟩
            · skip
              refine wpOp_hand (oi := ?oi40) ?hi40 (fun K hK => ?hh40)
              case hi40 => (simp only [List.getElem?_toArray, List.getElem?_cons_succ, List.getElem?_cons_zero]; rfl)
              go_simp
              have hN := FgBox.new wq (.slice none 0 0) (.slice none 0 0)
              obtain ⟨kb, hkb⟩ : ∃ b, b = wq.heap.size := ⟨_, rfl⟩
              obtain ⟨Y, hY⟩ : ∃ Y, Y = wq.alloc (.cells #[.slice none 0 0, .slice none 0 0] 27) := ⟨_, rfl⟩
              have bY : Below wq.heap.size wq Y := by rw [hY]; exact (Below.refl _ _).alloc (Nat.le_refl _) _
              have hs3 : V.heap.size ≤ kb := by rw [hkb]; exact hf.2.size
              rw [← hY, ← hkb] at hN ⊢
              have hfn : FgBox Y kf (.slice A N cA) (.slice B m bc) ∧ Below V.heap.size V Y := ⟨hf.1.below bY, hf.2.trans (bY.mono hf.2.size)⟩
              clear hf
              have hf := hfn
              clear hfn
              clear bY hY hkb
              refine hK.out _ _ (heldC_two (fun _ => hf.1) (fun _ => trivial)) (fun hF => ?_)
              clear hK K
              try simp only [Act.put, List.setIfInBounds_toArray, List.set_cons_zero, List.set_cons_succ]
              refine wpG_ready (rs := [12]) (by kernel_rfl) (by simp) ?_
              refine all_one ?_
              refine wpOp_hand (oi := ?oi41) ?hi41 (fun K hK => ?hh41)
              case hi41 => (simp only [List.getElem?_toArray, List.getElem?_cons_succ, List.getElem?_cons_zero]; rfl)
              go_simp
              refine Calls.mono (whole_ok _ _) ?_
              rintro e wq ⟨rfl, hb⟩
              have hfn : FgBox wq kf (.slice A N cA) (.slice B m bc) ∧ Below V.heap.size V wq := ⟨hf.1.below hb, hf.2.trans (hb.mono hf.2.size)⟩
              have hNn := hN.below hb
              clear hN
              have hN := hNn
              clear hNn
              clear hf
              have hf := hfn
              clear hfn
              clear hb
              refine hK.out _ _ (heldC_two (fun _ => hf.1) (fun _ => trivial)) (fun hF => ?_)
              clear hK K
              try simp only [Act.put, List.setIfInBounds_toArray, List.set_cons_zero, List.set_cons_succ]
              refine wpG_ready (rs := [14]) (by kernel_rfl) (by simp) ?_
              refine all_one ?_
              refine wpOp_hand (oi := ?oi42) ?hi42 (fun K hK => ?hh42)
              case hi42 => (simp only [List.getElem?_toArray, List.getElem?_cons_succ, List.getElem?_cons_zero]; rfl)
              go_simp
              refine Calls.mono (whole_ok _ _) ?_
              rintro e wq ⟨rfl, hb⟩
              have hfn : FgBox wq kf (.slice A N cA) (.slice B m bc) ∧ Below V.heap.size V wq := ⟨hf.1.below hb, hf.2.trans (hb.mono hf.2.size)⟩
              have hNn := hN.below hb
              clear hN
              have hN := hNn
              clear hNn
              clear hf
              have hf := hfn
              clear hfn
              clear hb
              refine hK.out _ _ (heldC_two (fun _ => hf.1) (fun _ => trivial)) (fun hF => ?_)
              clear hK K
              try simp only [Act.put, List.setIfInBounds_toArray, List.set_cons_zero, List.set_cons_succ]
              refine wpG_take (oi := ?oi43) (v := ?vv43) 15 _ ?hi43 (List.Mem.head _) ?hc43 ?hQ43 hF ?hw43 ?hy43 (fun hF => ?hh43)
              case hi43 => (simp only [List.getElem?_toArray, List.getElem?_cons_succ, List.getElem?_cons_zero]; rfl)
              case hc43 => kernel_rfl
              case hQ43 => exact fun _ _ _ h => h
              case hw43 => rfl
              case hy43 => (intro wz hz; skip; go_simp; try (with_reducible rfl))
              try simp only [Act.put, List.setIfInBounds_toArray, List.set_cons_zero, List.set_cons_succ]
              refine wpG_ready (rs := [16]) (by kernel_rfl) (by simp) ?_
              refine all_one ?_
              refine wpOp_hand (oi := ?oi44) ?hi44 (fun K hK => ?hh44)
              case hi44 => (simp only [List.getElem?_toArray, List.getElem?_cons_succ, List.getElem?_cons_zero]; rfl)
              go_simp
              refine Calls.mono (HMAP.out _ (HFV.out.below hf.2)) ?_
              rintro e wq ⟨Am, cm, Bm, bm, rfl, hG, hb⟩
              have hfn : FgBox wq kf (.slice A N cA) (.slice B m bc) ∧ Below V.heap.size V wq := ⟨hf.1.below hb, hf.2.trans (hb.mono hf.2.size)⟩
              have hNn := hN.below hb
              clear hN
              have hN := hNn
              clear hNn
              clear hf
              have hf := hfn
              clear hfn
              clear hb
              refine hK.out _ _ (heldC_two (fun h => absurd h (by simp)) (fun _ => trivial)) (fun hF => ?_)
              clear hK K
              try simp only [Act.put, List.setIfInBounds_toArray, List.set_cons_zero, List.set_cons_succ]
              refine wpG_take (oi := ?oi45) (v := ?vv45) 17 _ ?hi45 (List.Mem.tail _ (List.Mem.head _)) ?hc45 ?hQ45 hF ?hw45 ?hy45 (fun hF => ?hh45)
              case hi45 => (simp only [List.getElem?_toArray, List.getElem?_cons_succ, List.getElem?_cons_zero]; rfl)
              case hc45 => kernel_rfl
              case hQ45 => exact fun _ _ _ h => h
              case hw45 => rfl
              case hy45 => (intro wz hz; skip; go_simp; try (with_reducible rfl))
              try simp only [Act.put, List.setIfInBounds_toArray, List.set_cons_zero, List.set_cons_succ]
              refine wpG_take (oi := ?oi46) (v := ?vv46) 18 _ ?hi46 (List.Mem.tail _ (List.Mem.head _)) ?hc46 ?hQ46 hF ?hw46 ?hy46 (fun hF => ?hh46)
              case hi46 => (simp only [List.getElem?_toArray, List.getElem?_cons_succ, List.getElem?_cons_zero]; rfl)
              case hc46 => kernel_rfl
              case hQ46 => exact fun _ _ _ h => h
              case hw46 => rfl
              case hy46 => (intro wz hz; skip; go_simp; try (with_reducible rfl))
              try simp only [Act.put, List.setIfInBounds_toArray, List.set_cons_zero, List.set_cons_succ]
              refine wpG_take (oi := ?oi47) (v := ?vv47) 19 _ ?hi47 (List.Mem.tail _ (List.Mem.head _)) ?hc47 ?hQ47 hF ?hw47 ?hy47 (fun hF => ?hh47)
              case hi47 => (simp only [List.getElem?_toArray, List.getElem?_cons_succ, List.getElem?_cons_zero]; rfl)
              case hc47 => kernel_rfl
              case hQ47 => exact fun _ _ _ h => h
              case hw47 => rfl
              case hy47 => (intro wz hz; skip; go_simp; try (with_reducible rfl))
              try simp only [Act.put, List.setIfInBounds_toArray, List.set_cons_zero, List.set_cons_succ]
              refine wpG_ready (rs := [21]) (by kernel_rfl) (by simp) ?_
              refine all_one ?_
              have f0 := hN.c0; have f1 := hN.c1; have f2 := hN.free 0; have f3 := hN.free 1; have f4 := hN.lt
              refine wpOp_hand (oi := ?oi48) ?hi48 (fun K hK => ?hh48)
              case hi48 => (simp only [List.getElem?_toArray, List.getElem?_cons_succ, List.getElem?_cons_zero]; rfl)
              go_simp
              refine hK.out _ _ (heldC_two (fun h => absurd h (by simp)) (fun _ => trivial)) (fun hF => ?_)
              clear hK K
              try simp only [Act.put, List.setIfInBounds_toArray, List.set_cons_zero, List.set_cons_succ]
              refine wpG_ready (rs := [22]) (by kernel_rfl) (by simp) ?_
              refine all_one ?_
              refine wpOp_hand (oi := ?oi49) ?hi49 (fun K hK => ?hh49)
              case hi49 => (simp only [List.getElem?_toArray, List.getElem?_cons_succ, List.getElem?_cons_zero]; rfl)
              go_simp
              refine hK.out _ _ (heldC_two (fun h => absurd h (by simp)) (fun h => absurd h (by simp))) (fun hF => ?_)
              clear hK K
              try simp only [Act.put, List.setIfInBounds_toArray, List.set_cons_zero, List.set_cons_succ]
              refine wpG_done (by kernel_rfl) ?_ _
              clear f0 f1 f2 f3 f4
              go_wp2_with fail
              go_meet
              exact ⟨kb, Am, cm, Bm, bm, rfl, rfl, hs3, hN.set _ _, figW_set hG hN _ _, (hf.2.setCell (p := ⟨kb, 0, none⟩) hs3 _).setCell (p := ⟨kb, 1, none⟩) hs3 _⟩
          · skip
            refine wpOp_hand (oi := ?oi50) ?hi50 (fun K hK => ?hh50)
            case hi50 => (simp only [List.getElem?_toArray, List.getElem?_cons_succ, List.getElem?_cons_zero]; rfl)
            go_simp
            have hN := FgBox.new wq (.slice none 0 0) (.slice none 0 0)
            obtain ⟨kb, hkb⟩ : ∃ b, b = wq.heap.size := ⟨_, rfl⟩
            obtain ⟨Y, hY⟩ : ∃ Y, Y = wq.alloc (.cells #[.slice none 0 0, .slice none 0 0] 27) := ⟨_, rfl⟩
            have bY : Below wq.heap.size wq Y := by rw [hY]; exact (Below.refl _ _).alloc (Nat.le_refl _) _
            have hs3 : V.heap.size ≤ kb := by rw [hkb]; exact hf.2.size
            rw [← hY, ← hkb] at hN ⊢
            have hfn : FgBox Y kf (.slice A N cA) (.slice B m bc) ∧ Below V.heap.size V Y := ⟨hf.1.below bY, hf.2.trans (bY.mono hf.2.size)⟩
            clear hf
            have hf := hfn
            clear hfn
            clear bY hY hkb
            refine hK.out _ _ (heldC_two (fun _ => hf.1) (fun _ => trivial)) (fun hF => ?_)
            clear hK K
            try simp only [Act.put, List.setIfInBounds_toArray, List.set_cons_zero, List.set_cons_succ]
            refine wpG_ready (rs := [7]) (by kernel_rfl) (by simp) ?_
            refine all_one ?_
            refine wpOp_hand (oi := ?oi51) ?hi51 (fun K hK => ?hh51)
            case hi51 => (simp only [List.getElem?_toArray, List.getElem?_cons_succ, List.getElem?_cons_zero]; rfl)
            go_simp
            refine Calls.mono (whole_ok _ _) ?_
            rintro e wq ⟨rfl, hb⟩
            have hfn : FgBox wq kf (.slice A N cA) (.slice B m bc) ∧ Below V.heap.size V wq := ⟨hf.1.below hb, hf.2.trans (hb.mono hf.2.size)⟩
            have hNn := hN.below hb
            clear hN
            have hN := hNn
            clear hNn
            clear hf
            have hf := hfn
            clear hfn
            clear hb
            refine hK.out _ _ (heldC_two (fun _ => hf.1) (fun _ => trivial)) (fun hF => ?_)
            clear hK K
            try simp only [Act.put, List.setIfInBounds_toArray, List.set_cons_zero, List.set_cons_succ]
            refine wpG_ready (rs := [12]) (by kernel_rfl) (by simp) ?_
            refine all_one ?_
            refine wpOp_hand (oi := ?oi52) ?hi52 (fun K hK => ?hh52)
            case hi52 => (simp only [List.getElem?_toArray, List.getElem?_cons_succ, List.getElem?_cons_zero]; rfl)
            go_simp
            refine Calls.mono (whole_ok _ _) ?_
            rintro e wq ⟨rfl, hb⟩
            have hfn : FgBox wq kf (.slice A N cA) (.slice B m bc) ∧ Below V.heap.size V wq := ⟨hf.1.below hb, hf.2.trans (hb.mono hf.2.size)⟩
            have hNn := hN.below hb
            clear hN
            have hN := hNn
            clear hNn
            clear hf
            have hf := hfn
            clear hfn
            clear hb
            refine hK.out _ _ (heldC_two (fun _ => hf.1) (fun _ => trivial)) (fun hF => ?_)
            clear hK K
            try simp only [Act.put, List.setIfInBounds_toArray, List.set_cons_zero, List.set_cons_succ]
            refine wpG_ready (rs := [14]) (by kernel_rfl) (by simp) ?_
            refine all_one ?_
            refine wpOp_hand (oi := ?oi53) ?hi53 (fun K hK => ?hh53)
            case hi53 => (simp only [List.getElem?_toArray, List.getElem?_cons_succ, List.getElem?_cons_zero]; rfl)
            go_simp
            refine Calls.mono (whole_ok _ _) ?_
            rintro e wq ⟨rfl, hb⟩
            have hfn : FgBox wq kf (.slice A N cA) (.slice B m bc) ∧ Below V.heap.size V wq := ⟨hf.1.below hb, hf.2.trans (hb.mono hf.2.size)⟩
            have hNn := hN.below hb
            clear hN
            have hN := hNn
            clear hNn
            clear hf
            have hf := hfn
            clear hfn
            clear hb
            refine hK.out _ _ (heldC_two (fun _ => hf.1) (fun _ => trivial)) (fun hF => ?_)
            clear hK K
            try simp only [Act.put, List.setIfInBounds_toArray, List.set_cons_zero, List.set_cons_succ]
            refine wpG_take (oi := ?oi54) (v := ?vv54) 15 _ ?hi54 (List.Mem.head _) ?hc54 ?hQ54 hF ?hw54 ?hy54 (fun hF => ?hh54)
            case hi54 => (simp only [List.getElem?_toArray, List.getElem?_cons_succ, List.getElem?_cons_zero]; rfl)
            case hc54 => kernel_rfl
            case hQ54 => exact fun _ _ _ h => h
            case hw54 => rfl
            case hy54 => (intro wz hz; skip; go_simp; try (with_reducible rfl))
            try simp only [Act.put, List.setIfInBounds_toArray, List.set_cons_zero, List.set_cons_succ]
            refine wpG_ready (rs := [16]) (by kernel_rfl) (by simp) ?_
            refine all_one ?_
            refine wpOp_hand (oi := ?oi55) ?hi55 (fun K hK => ?hh55)
            case hi55 => (simp only [List.getElem?_toArray, List.getElem?_cons_succ, List.getElem?_cons_zero]; rfl)
            go_simp
            refine Calls.mono (HMAP.out _ (HFV.out.below hf.2)) ?_
            rintro e wq ⟨Am, cm, Bm, bm, rfl, hG, hb⟩
            have hfn : FgBox wq kf (.slice A N cA) (.slice B m bc) ∧ Below V.heap.size V wq := ⟨hf.1.below hb, hf.2.trans (hb.mono hf.2.size)⟩
            have hNn := hN.below hb
            clear hN
            have hN := hNn
            clear hNn
            clear hf
            have hf := hfn
            clear hfn
            clear hb
            refine hK.out _ _ (heldC_two (fun h => absurd h (by simp)) (fun _ => trivial)) (fun hF => ?_)
            clear hK K
            try simp only [Act.put, List.setIfInBounds_toArray, List.set_cons_zero, List.set_cons_succ]
            refine wpG_take (oi := ?oi56) (v := ?vv56) 17 _ ?hi56 (List.Mem.tail _ (List.Mem.head _)) ?hc56 ?hQ56 hF ?hw56 ?hy56 (fun hF => ?hh56)
            case hi56 => (simp only [List.getElem?_toArray, List.getElem?_cons_succ, List.getElem?_cons_zero]; rfl)
            case hc56 => kernel_rfl
            case hQ56 => exact fun _ _ _ h => h
            case hw56 => rfl
            case hy56 => (intro wz hz; skip; go_simp; try (with_reducible rfl))
            try simp only [Act.put, List.setIfInBounds_toArray, List.set_cons_zero, List.set_cons_succ]
            refine wpG_take (oi := ?oi57) (v := ?vv57) 18 _ ?hi57 (List.Mem.tail _ (List.Mem.head _)) ?hc57 ?hQ57 hF ?hw57 ?hy57 (fun hF => ?hh57)
            case hi57 => (simp only [List.getElem?_toArray, List.getElem?_cons_succ, List.getElem?_cons_zero]; rfl)
            case hc57 => kernel_rfl
            case hQ57 => exact fun _ _ _ h => h
            case hw57 => rfl
            case hy57 => (intro wz hz; skip; go_simp; try (with_reducible rfl))
            try simp only [Act.put, List.setIfInBounds_toArray, List.set_cons_zero, List.set_cons_succ]
            refine wpG_take (oi := ?oi58) (v := ?vv58) 19 _ ?hi58 (List.Mem.tail _ (List.Mem.head _)) ?hc58 ?hQ58 hF ?hw58 ?hy58 (fun hF => ?hh58)
            case hi58 => (simp only [List.getElem?_toArray, List.getElem?_cons_succ, List.getElem?_cons_zero]; rfl)
            case hc58 => kernel_rfl
            case hQ58 => exact fun _ _ _ h => h
            case hw58 => rfl
            case hy58 => (intro wz hz; skip; go_simp; try (with_reducible rfl))
            try simp only [Act.put, List.setIfInBounds_toArray, List.set_cons_zero, List.set_cons_succ]
            refine wpG_ready (rs := [21]) (by kernel_rfl) (by simp) ?_
            refine all_one ?_
            have f0 := hN.c0; have f1 := hN.c1; have f2 := hN.free 0; have f3 := hN.free 1; have f4 := hN.lt
            refine wpOp_hand (oi := ?oi59) ?hi59 (fun K hK => ?hh59)
            case hi59 => (simp only [List.getElem?_toArray, List.getElem?_cons_succ, List.getElem?_cons_zero]; rfl)
            go_simp
            refine hK.out _ _ (heldC_two (fun h => absurd h (by simp)) (fun _ => trivial)) (fun hF => ?_)
            clear hK K
            try simp only [Act.put, List.setIfInBounds_toArray, List.set_cons_zero, List.set_cons_succ]
            refine wpG_ready (rs := [22]) (by kernel_rfl) (by simp) ?_
            refine all_one ?_
            refine wpOp_hand (oi := ?oi60) ?hi60 (fun K hK => ?hh60)
            case hi60 => (simp only [List.getElem?_toArray, List.getElem?_cons_succ, List.getElem?_cons_zero]; rfl)
            go_simp
            refine hK.out _ _ (heldC_two (fun h => absurd h (by simp)) (fun h => absurd h (by simp))) (fun hF => ?_)
            clear hK K
            try simp only [Act.put, List.setIfInBounds_toArray, List.set_cons_zero, List.set_cons_succ]
            refine wpG_done (by kernel_rfl) ?_ _
            clear f0 f1 f2 f3 f4
            go_wp2_with fail
            go_meet
            exact ⟨kb, Am, cm, Bm, bm, rfl, rfl, hs3, hN.set _ _, figW_set hG hN _ _, (hf.2.setCell (p := ⟨kb, 0, none⟩) hs3 _).setCell (p := ⟨kb, 1, none⟩) hs3 _⟩
        · skip
          refine wpOp_hand (oi := ?oi61) ?hi61 (fun K hK => ?hh61)
          case hi61 => (simp only [List.getElem?_toArray, List.getElem?_cons_succ, List.getElem?_cons_zero]; rfl)
          go_simp
          have hN := FgBox.new wq (.slice none 0 0) (.slice none 0 0)
          obtain ⟨kb, hkb⟩ : ∃ b, b = wq.heap.size := ⟨_, rfl⟩
          obtain ⟨Y, hY⟩ : ∃ Y, Y = wq.alloc (.cells #[.slice none 0 0, .slice none 0 0] 27) := ⟨_, rfl⟩
          have bY : Below wq.heap.size wq Y := by rw [hY]; exact (Below.refl _ _).alloc (Nat.le_refl _) _
          have hs3 : V.heap.size ≤ kb := by rw [hkb]; exact hf.2.size
          rw [← hY, ← hkb] at hN ⊢
          have hfn : FgBox Y kf (.slice A N cA) (.slice B m bc) ∧ Below V.heap.size V Y := ⟨hf.1.below bY, hf.2.trans (bY.mono hf.2.size)⟩
          clear hf
          have hf := hfn
          clear hfn
          clear bY hY hkb
          refine hK.out _ _ (heldC_two (fun _ => hf.1) (fun _ => trivial)) (fun hF => ?_)
          clear hK K
          try simp only [Act.put, List.setIfInBounds_toArray, List.set_cons_zero, List.set_cons_succ]
          refine wpG_ready (rs := [5]) (by kernel_rfl) (by simp) ?_
          refine all_one ?_
          refine wpOp_hand (oi := ?oi62) ?hi62 (fun K hK => ?hh62)
          case hi62 => (simp only [List.getElem?_toArray, List.getElem?_cons_succ, List.getElem?_cons_zero]; rfl)
          go_simp
          refine Calls.mono (whole_ok _ _) ?_
          rintro e wq ⟨rfl, hb⟩
          have hfn : FgBox wq kf (.slice A N cA) (.slice B m bc) ∧ Below V.heap.size V wq := ⟨hf.1.below hb, hf.2.trans (hb.mono hf.2.size)⟩
          have hNn := hN.below hb
          clear hN
          have hN := hNn
          clear hNn
          clear hf
          have hf := hfn
          clear hfn
          clear hb
          refine hK.out _ _ (heldC_two (fun _ => hf.1) (fun _ => trivial)) (fun hF => ?_)
          clear hK K
          try simp only [Act.put, List.setIfInBounds_toArray, List.set_cons_zero, List.set_cons_succ]
          refine wpG_ready (rs := [7]) (by kernel_rfl) (by simp) ?_
          refine all_one ?_
          refine wpOp_hand (oi := ?oi63) ?hi63 (fun K hK => ?hh63)
          case hi63 => (simp only [List.getElem?_toArray, List.getElem?_cons_succ, List.getElem?_cons_zero]; rfl)
          go_simp
          refine Calls.mono (whole_ok _ _) ?_
          rintro e wq ⟨rfl, hb⟩
          have hfn : FgBox wq kf (.slice A N cA) (.slice B m bc) ∧ Below V.heap.size V wq := ⟨hf.1.below hb, hf.2.trans (hb.mono hf.2.size)⟩
          have hNn := hN.below hb
          clear hN
          have hN := hNn
          clear hNn
          clear hf
          have hf := hfn
          clear hfn
          clear hb
          refine hK.out _ _ (heldC_two (fun _ => hf.1) (fun _ => trivial)) (fun hF => ?_)
          clear hK K
          try simp only [Act.put, List.setIfInBounds_toArray, List.set_cons_zero, List.set_cons_succ]
          refine wpG_ready (rs := [12]) (by kernel_rfl) (by simp) ?_
          refine all_one ?_
          refine wpOp_hand (oi := ?oi64) ?hi64 (fun K hK => ?hh64)
          case hi64 => (simp only [List.getElem?_toArray, List.getElem?_cons_succ, List.getElem?_cons_zero]; rfl)
          go_simp
          refine Calls.mono (whole_ok _ _) ?_
          rintro e wq ⟨rfl, hb⟩
          have hfn : FgBox wq kf (.slice A N cA) (.slice B m bc) ∧ Below V.heap.size V wq := ⟨hf.1.below hb, hf.2.trans (hb.mono hf.2.size)⟩
          have hNn := hN.below hb
          clear hN
          have hN := hNn
          clear hNn
          clear hf
          have hf := hfn
          clear hfn
          clear hb
          refine hK.out _ _ (heldC_two (fun _ => hf.1) (fun _ => trivial)) (fun hF => ?_)
          clear hK K
          try simp only [Act.put, List.setIfInBounds_toArray, List.set_cons_zero, List.set_cons_succ]
          refine wpG_ready (rs := [14]) (by kernel_rfl) (by simp) ?_
          refine all_one ?_
          refine wpOp_hand (oi := ?oi65) ?hi65 (fun K hK => ?hh65)
          case hi65 => (simp only [List.getElem?_toArray, List.getElem?_cons_succ, List.getElem?_cons_zero]; rfl)
          go_simp
          refine Calls.mono (whole_ok _ _) ?_
          rintro e wq ⟨rfl, hb⟩
          have hfn : FgBox wq kf (.slice A N cA) (.slice B m bc) ∧ Below V.heap.size V wq := ⟨hf.1.below hb, hf.2.trans (hb.mono hf.2.size)⟩
          have hNn := hN.below hb
          clear hN
          have hN := hNn
          clear hNn
          clear hf
          have hf := hfn
          clear hfn
          clear hb
          refine hK.out _ _ (heldC_two (fun _ => hf.1) (fun _ => trivial)) (fun hF => ?_)
          clear hK K
          try simp only [Act.put, List.setIfInBounds_toArray, List.set_cons_zero, List.set_cons_succ]
          refine wpG_take (oi := ?oi66) (v := ?vv66) 15 _ ?hi66 (List.Mem.head _) ?hc66 ?hQ66 hF ?hw66 ?hy66 (fun hF => ?hh66)
          case hi66 => (simp only [List.getElem?_toArray, List.getElem?_cons_succ, List.getElem?_cons_zero]; rfl)
          case hc66 => kernel_rfl
          case hQ66 => exact fun _ _ _ h => h
          case hw66 => rfl
          case hy66 => (intro wz hz; skip; go_simp; try (with_reducible rfl))
          try simp only [Act.put, List.setIfInBounds_toArray, List.set_cons_zero, List.set_cons_succ]
          refine wpG_ready (rs := [16]) (by kernel_rfl) (by simp) ?_
          refine all_one ?_
          refine wpOp_hand (oi := ?oi67) ?hi67 (fun K hK => ?hh67)
          case hi67 => (simp only [List.getElem?_toArray, List.getElem?_cons_succ, List.getElem?_cons_zero]; rfl)
          go_simp
          refine Calls.mono (HMAP.out _ (HFV.out.below hf.2)) ?_
          rintro e wq ⟨Am, cm, Bm, bm, rfl, hG, hb⟩
          have hfn : FgBox wq kf (.slice A N cA) (.slice B m bc) ∧ Below V.heap.size V wq := ⟨hf.1.below hb, hf.2.trans (hb.mono hf.2.size)⟩
          have hNn := hN.below hb
          clear hN
          have hN := hNn
          clear hNn
          clear hf
          have hf := hfn
          clear hfn
          clear hb
          refine hK.out _ _ (heldC_two (fun h => absurd h (by simp)) (fun _ => trivial)) (fun hF => ?_)
          clear hK K
          try simp only [Act.put, List.setIfInBounds_toArray, List.set_cons_zero, List.set_cons_succ]
          refine wpG_take (oi := ?oi68) (v := ?vv68) 17 _ ?hi68 (List.Mem.tail _ (List.Mem.head _)) ?hc68 ?hQ68 hF ?hw68 ?hy68 (fun hF => ?hh68)
          case hi68 => (simp only [List.getElem?_toArray, List.getElem?_cons_succ, List.getElem?_cons_zero]; rfl)
          case hc68 => kernel_rfl
          case hQ68 => exact fun _ _ _ h => h
          case hw68 => rfl
          case hy68 => (intro wz hz; skip; go_simp; try (with_reducible rfl))
          try simp only [Act.put, List.setIfInBounds_toArray, List.set_cons_zero, List.set_cons_succ]
          refine wpG_take (oi := ?oi69) (v := ?vv69) 18 _ ?hi69 (List.Mem.tail _ (List.Mem.head _)) ?hc69 ?hQ69 hF ?hw69 ?hy69 (fun hF => ?hh69)
          case hi69 => (simp only [List.getElem?_toArray, List.getElem?_cons_succ, List.getElem?_cons_zero]; rfl)
          case hc69 => kernel_rfl
          case hQ69 => exact fun _ _ _ h => h
          case hw69 => rfl
          case hy69 => (intro wz hz; skip; go_simp; try (with_reducible rfl))
          try simp only [Act.put, List.setIfInBounds_toArray, List.set_cons_zero, List.set_cons_succ]
          refine wpG_take (oi := ?oi70) (v := ?vv70) 19 _ ?hi70 (List.Mem.tail _ (List.Mem.head _)) ?hc70 ?hQ70 hF ?hw70 ?hy70 (fun hF => ?hh70)
          case hi70 => (simp only [List.getElem?_toArray, List.getElem?_cons_succ, List.getElem?_cons_zero]; rfl)
          case hc70 => kernel_rfl
          case hQ70 => exact fun _ _ _ h => h
          case hw70 => rfl
          case hy70 => (intro wz hz; skip; go_simp; try (with_reducible rfl))
          try simp only [Act.put, List.setIfInBounds_toArray, List.set_cons_zero, List.set_cons_succ]
          refine wpG_ready (rs := [21]) (by kernel_rfl) (by simp) ?_
          refine all_one ?_
          have f0 := hN.c0; have f1 := hN.c1; have f2 := hN.free 0; have f3 := hN.free 1; have f4 := hN.lt
          refine wpOp_hand (oi := ?oi71) ?hi71 (fun K hK => ?hh71)
          case hi71 => (simp only [List.getElem?_toArray, List.getElem?_cons_succ, List.getElem?_cons_zero]; rfl)
          go_simp
          refine hK.out _ _ (heldC_two (fun h => absurd h (by simp)) (fun _ => trivial)) (fun hF => ?_)
          clear hK K
          try simp only [Act.put, List.setIfInBounds_toArray, List.set_cons_zero, List.set_cons_succ]
          refine wpG_ready (rs := [22]) (by kernel_rfl) (by simp) ?_
          refine all_one ?_
          refine wpOp_hand (oi := ?oi72) ?hi72 (fun K hK => ?hh72)
          case hi72 => (simp only [List.getElem?_toArray, List.getElem?_cons_succ, List.getElem?_cons_zero]; rfl)
          go_simp
          refine hK.out _ _ (heldC_two (fun h => absurd h (by simp)) (fun h => absurd h (by simp))) (fun hF => ?_)
          clear hK K
          try simp only [Act.put, List.setIfInBounds_toArray, List.set_cons_zero, List.set_cons_succ]
          refine wpG_done (by kernel_rfl) ?_ _
          clear f0 f1 f2 f3 f4
          go_wp2_with fail
          go_meet
          exact ⟨kb, Am, cm, Bm, bm, rfl, rfl, hs3, hN.set _ _, figW_set hG hN _ _, (hf.2.setCell (p := ⟨kb, 0, none⟩) hs3 _).setCell (p := ⟨kb, 1, none⟩) hs3 _⟩
      · skip
        refine wpOp_hand (oi := ?oi73) ?hi73 (fun K hK => ?hh73)
        case hi73 => (simp only [List.getElem?_toArray, List.getElem?_cons_succ, List.getElem?_cons_zero]; rfl)
        go_simp
        have hN := FgBox.new wq (.slice none 0 0) (.slice none 0 0)
        obtain ⟨kb, hkb⟩ : ∃ b, b = wq.heap.size := ⟨_, rfl⟩
        obtain ⟨Y, hY⟩ : ∃ Y, Y = wq.alloc (.cells #[.slice none 0 0, .slice none 0 0] 27) := ⟨_, rfl⟩
        have bY : Below wq.heap.size wq Y := by rw [hY]; exact (Below.refl _ _).alloc (Nat.le_refl _) _
        have hs3 : V.heap.size ≤ kb := by rw [hkb]; exact hf.2.size
        rw [← hY, ← hkb] at hN ⊢
        have hfn : FgBox Y kf (.slice A N cA) (.slice B m bc) ∧ Below V.heap.size V Y := ⟨hf.1.below bY, hf.2.trans (bY.mono hf.2.size)⟩
        clear hf
        have hf := hfn
        clear hfn
        clear bY hY hkb
        refine hK.out _ _ (heldC_two (fun _ => hf.1) (fun _ => trivial)) (fun hF => ?_)
        clear hK K
        try simp only [Act.put, List.setIfInBounds_toArray, List.set_cons_zero, List.set_cons_succ]
        refine wpG_ready (rs := [3]) (by kernel_rfl) (by simp) ?_
        refine all_one ?_
        refine wpOp_hand (oi := ?oi74) ?hi74 (fun K hK => ?hh74)
        case hi74 => (simp only [List.getElem?_toArray, List.getElem?_cons_succ, List.getElem?_cons_zero]; rfl)
        go_simp
        refine Calls.mono (whole_ok _ _) ?_
        rintro e wq ⟨rfl, hb⟩
        have hfn : FgBox wq kf (.slice A N cA) (.slice B m bc) ∧ Below V.heap.size V wq := ⟨hf.1.below hb, hf.2.trans (hb.mono hf.2.size)⟩
        have hNn := hN.below hb
        clear hN
        have hN := hNn
        clear hNn
        clear hf
        have hf := hfn
        clear hfn
        clear hb
        refine hK.out _ _ (heldC_two (fun _ => hf.1) (fun _ => trivial)) (fun hF => ?_)
        clear hK K
        try simp only [Act.put, List.setIfInBounds_toArray, List.set_cons_zero, List.set_cons_succ]
        refine wpG_ready (rs := [5]) (by kernel_rfl) (by simp) ?_
        refine all_one ?_
        refine wpOp_hand (oi := ?oi75) ?hi75 (fun K hK => ?hh75)
        case hi75 => (simp only [List.getElem?_toArray, List.getElem?_cons_succ, List.getElem?_cons_zero]; rfl)
        go_simp
        refine Calls.mono (whole_ok _ _) ?_
        rintro e wq ⟨rfl, hb⟩
        have hfn : FgBox wq kf (.slice A N cA) (.slice B m bc) ∧ Below V.heap.size V wq := ⟨hf.1.below hb, hf.2.trans (hb.mono hf.2.size)⟩
        have hNn := hN.below hb
        clear hN
        have hN := hNn
        clear hNn
        clear hf
        have hf := hfn
        clear hfn
        clear hb
        refine hK.out _ _ (heldC_two (fun _ => hf.1) (fun _ => trivial)) (fun hF => ?_)
        clear hK K
        try simp only [Act.put, List.setIfInBounds_toArray, List.set_cons_zero, List.set_cons_succ]
        refine wpG_ready (rs := [7]) (by kernel_rfl) (by simp) ?_
        refine all_one ?_
        refine wpOp_hand (oi := ?oi76) ?hi76 (fun K hK => ?hh76)
        case hi76 => (simp only [List.getElem?_toArray, List.getElem?_cons_succ, List.getElem?_cons_zero]; rfl)
        go_simp
        refine Calls.mono (whole_ok _ _) ?_
        rintro e wq ⟨rfl, hb⟩
        have hfn : FgBox wq kf (.slice A N cA) (.slice B m bc) ∧ Below V.heap.size V wq := ⟨hf.1.below hb, hf.2.trans (hb.mono hf.2.size)⟩
        have hNn := hN.below hb
        clear hN
        have hN := hNn
        clear hNn
        clear hf
        have hf := hfn
        clear hfn
        clear hb
        refine hK.out _ _ (heldC_two (fun _ => hf.1) (fun _ => trivial)) (fun hF => ?_)
        clear hK K
        try simp only [Act.put, List.setIfInBounds_toArray, List.set_cons_zero, List.set_cons_succ]
        refine wpG_ready (rs := [12]) (by kernel_rfl) (by simp) ?_
        refine all_one ?_
        refine wpOp_hand (oi := ?oi77) ?hi77 (fun K hK => ?hh77)
        case hi77 => (simp only [List.getElem?_toArray, List.getElem?_cons_succ, List.getElem?_cons_zero]; rfl)
        go_simp
        refine Calls.mono (whole_ok _ _) ?_
        rintro e wq ⟨rfl, hb⟩
        have hfn : FgBox wq kf (.slice A N cA) (.slice B m bc) ∧ Below V.heap.size V wq := ⟨hf.1.below hb, hf.2.trans (hb.mono hf.2.size)⟩
        have hNn := hN.below hb
        clear hN
        have hN := hNn
        clear hNn
        clear hf
        have hf := hfn
        clear hfn
        clear hb
        refine hK.out _ _ (heldC_two (fun _ => hf.1) (fun _ => trivial)) (fun hF => ?_)
        clear hK K
        try simp only [Act.put, List.setIfInBounds_toArray, List.set_cons_zero, List.set_cons_succ]
        refine wpG_ready (rs := [14]) (by kernel_rfl) (by simp) ?_
        refine all_one ?_
        refine wpOp_hand (oi := ?oi78) ?hi78 (fun K hK => ?hh78)
        case hi78 => (simp only [List.getElem?_toArray, List.getElem?_cons_succ, List.getElem?_cons_zero]; rfl)
        go_simp
        refine Calls.mono (whole_ok _ _) ?_
        rintro e wq ⟨rfl, hb⟩
        have hfn : FgBox wq kf (.slice A N cA) (.slice B m bc) ∧ Below V.heap.size V wq := ⟨hf.1.below hb, hf.2.trans (hb.mono hf.2.size)⟩
        have hNn := hN.below hb
        clear hN
        have hN := hNn
        clear hNn
        clear hf
        have hf := hfn
        clear hfn
        clear hb
        refine hK.out _ _ (heldC_two (fun _ => hf.1) (fun _ => trivial)) (fun hF => ?_)
        clear hK K
        try simp only [Act.put, List.setIfInBounds_toArray, List.set_cons_zero, List.set_cons_succ]
        refine wpG_take (oi := ?oi79) (v := ?vv79) 15 _ ?hi79 (List.Mem.head _) ?hc79 ?hQ79 hF ?hw79 ?hy79 (fun hF => ?hh79)
        case hi79 => (simp only [List.getElem?_toArray, List.getElem?_cons_succ, List.getElem?_cons_zero]; rfl)
        case hc79 => kernel_rfl
        case hQ79 => exact fun _ _ _ h => h
        case hw79 => rfl
        case hy79 => (intro wz hz; skip; go_simp; try (with_reducible rfl))
        try simp only [Act.put, List.setIfInBounds_toArray, List.set_cons_zero, List.set_cons_succ]
        refine wpG_ready (rs := [16]) (by kernel_rfl) (by simp) ?_
        refine all_one ?_
        refine wpOp_hand (oi := ?oi80) ?hi80 (fun K hK => ?hh80)
        case hi80 => (simp only [List.getElem?_toArray, List.getElem?_cons_succ, List.getElem?_cons_zero]; rfl)
        go_simp
        refine Calls.mono (HMAP.out _ (HFV.out.below hf.2)) ?_
        rintro e wq ⟨Am, cm, Bm, bm, rfl, hG, hb⟩
        have hfn : FgBox wq kf (.slice A N cA) (.slice B m bc) ∧ Below V.heap.size V wq := ⟨hf.1.below hb, hf.2.trans (hb.mono hf.2.size)⟩
        have hNn := hN.below hb
        clear hN
        have hN := hNn
        clear hNn
        clear hf
        have hf := hfn
        clear hfn
        clear hb
        refine hK.out _ _ (heldC_two (fun h => absurd h (by simp)) (fun _ => trivial)) (fun hF => ?_)
        clear hK K
        try simp only [Act.put, List.setIfInBounds_toArray, List.set_cons_zero, List.set_cons_succ]
        refine wpG_take (oi := ?oi81) (v := ?vv81) 17 _ ?hi81 (List.Mem.tail _ (List.Mem.head _)) ?hc81 ?hQ81 hF ?hw81 ?hy81 (fun hF => ?hh81)
        case hi81 => (simp only [List.getElem?_toArray, List.getElem?_cons_succ, List.getElem?_cons_zero]; rfl)
        case hc81 => kernel_rfl
        case hQ81 => exact fun _ _ _ h => h
        case hw81 => rfl
        case hy81 => (intro wz hz; skip; go_simp; try (with_reducible rfl))
        try simp only [Act.put, List.setIfInBounds_toArray, List.set_cons_zero, List.set_cons_succ]
        refine wpG_take (oi := ?oi82) (v := ?vv82) 18 _ ?hi82 (List.Mem.tail _ (List.Mem.head _)) ?hc82 ?hQ82 hF ?hw82 ?hy82 (fun hF => ?hh82)
        case hi82 => (simp only [List.getElem?_toArray, List.getElem?_cons_succ, List.getElem?_cons_zero]; rfl)
        case hc82 => kernel_rfl
        case hQ82 => exact fun _ _ _ h => h
        case hw82 => rfl
        case hy82 => (intro wz hz; skip; go_simp; try (with_reducible rfl))
        try simp only [Act.put, List.setIfInBounds_toArray, List.set_cons_zero, List.set_cons_succ]
        refine wpG_take (oi := ?oi83) (v := ?vv83) 19 _ ?hi83 (List.Mem.tail _ (List.Mem.head _)) ?hc83 ?hQ83 hF ?hw83 ?hy83 (fun hF => ?hh83)
        case hi83 => (simp only [List.getElem?_toArray, List.getElem?_cons_succ, List.getElem?_cons_zero]; rfl)
        case hc83 => kernel_rfl
        case hQ83 => exact fun _ _ _ h => h
        case hw83 => rfl
        case hy83 => (intro wz hz; skip; go_simp; try (with_reducible rfl))
        try simp only [Act.put, List.setIfInBounds_toArray, List.set_cons_zero, List.set_cons_succ]
        refine wpG_ready (rs := [21]) (by kernel_rfl) (by simp) ?_
        refine all_one ?_
        have f0 := hN.c0; have f1 := hN.c1; have f2 := hN.free 0; have f3 := hN.free 1; have f4 := hN.lt
        refine wpOp_hand (oi := ?oi84) ?hi84 (fun K hK => ?hh84)
        case hi84 => (simp only [List.getElem?_toArray, List.getElem?_cons_succ, List.getElem?_cons_zero]; rfl)
        go_simp
        refine hK.out _ _ (heldC_two (fun h => absurd h (by simp)) (fun _ => trivial)) (fun hF => ?_)
        clear hK K
        try simp only [Act.put, List.setIfInBounds_toArray, List.set_cons_zero, List.set_cons_succ]
        refine wpG_ready (rs := [22]) (by kernel_rfl) (by simp) ?_
        refine all_one ?_
        refine wpOp_hand (oi := ?oi85) ?hi85 (fun K hK => ?hh85)
        case hi85 => (simp only [List.getElem?_toArray, List.getElem?_cons_succ, List.getElem?_cons_zero]; rfl)
        go_simp
        refine hK.out _ _ (heldC_two (fun h => absurd h (by simp)) (fun h => absurd h (by simp))) (fun hF => ?_)
        clear hK K
        try simp only [Act.put, List.setIfInBounds_toArray, List.set_cons_zero, List.set_cons_succ]
        refine wpG_done (by kernel_rfl) ?_ _
        clear f0 f1 f2 f3 f4
        go_wp2_with fail
        go_meet
        exact ⟨kb, Am, cm, Bm, bm, rfl, rfl, hs3, hN.set _ _, figW_set hG hN _ _, (hf.2.setCell (p := ⟨kb, 0, none⟩) hs3 _).setCell (p := ⟨kb, 1, none⟩) hs3 _⟩
    · skip
      refine wpOp_hand (oi := ?oi86) ?hi86 (fun K hK => ?hh86)
      case hi86 => (simp only [List.getElem?_toArray, List.getElem?_cons_succ, List.getElem?_cons_zero]; rfl)
      go_simp
      have hN := FgBox.new X (.slice none 0 0) (.slice none 0 0)
      obtain ⟨kb, hkb⟩ : ∃ b, b = X.heap.size := ⟨_, rfl⟩
      obtain ⟨Y, hY⟩ : ∃ Y, Y = X.alloc (.cells #[.slice none 0 0, .slice none 0 0] 27) := ⟨_, rfl⟩
      have bY : Below X.heap.size X Y := by rw [hY]; exact (Below.refl _ _).alloc (Nat.le_refl _) _
      have hs3 : V.heap.size ≤ kb := by rw [hkb]; exact hf.2.size
      rw [← hY, ← hkb] at hN ⊢
      have hfn : FgBox Y kf (.slice A N cA) (.slice B m bc) ∧ Below V.heap.size V Y := ⟨hf.1.below bY, hf.2.trans (bY.mono hf.2.size)⟩
      clear hf
      have hf := hfn
      clear hfn
      clear bY hY hkb
      refine hK.out _ _ (heldC_two (fun _ => hf.1) (fun _ => trivial)) (fun hF => ?_)
      clear hK K
      try simp only [Act.put, List.setIfInBounds_toArray, List.set_cons_zero, List.set_cons_succ]
      refine wpG_ready (rs := [1]) (by kernel_rfl) (by simp) ?_
      refine all_one ?_
      refine wpOp_hand (oi := ?oi87) ?hi87 (fun K hK => ?hh87)
      case hi87 => (simp only [List.getElem?_toArray, List.getElem?_cons_succ, List.getElem?_cons_zero]; rfl)
      go_simp
      refine Calls.mono (whole_ok _ _) ?_
      rintro e wq ⟨rfl, hb⟩
      have hfn : FgBox wq kf (.slice A N cA) (.slice B m bc) ∧ Below V.heap.size V wq := ⟨hf.1.below hb, hf.2.trans (hb.mono hf.2.size)⟩
      have hNn := hN.below hb
      clear hN
      have hN := hNn
      clear hNn
      clear hf
      have hf := hfn
      clear hfn
      clear hb
      refine hK.out _ _ (heldC_two (fun _ => hf.1) (fun _ => trivial)) (fun hF => ?_)
      clear hK K
      try simp only [Act.put, List.setIfInBounds_toArray, List.set_cons_zero, List.set_cons_succ]
      refine wpG_ready (rs := [3]) (by kernel_rfl) (by simp) ?_
      refine all_one ?_
      refine wpOp_hand (oi := ?oi88) ?hi88 (fun K hK => ?hh88)
      case hi88 => (simp only [List.getElem?_toArray, List.getElem?_cons_succ, List.getElem?_cons_zero]; rfl)
      go_simp
      refine Calls.mono (whole_ok _ _) ?_
      rintro e wq ⟨rfl, hb⟩
      have hfn : FgBox wq kf (.slice A N cA) (.slice B m bc) ∧ Below V.heap.size V wq := ⟨hf.1.below hb, hf.2.trans (hb.mono hf.2.size)⟩
      have hNn := hN.below hb
      clear hN
      have hN := hNn
      clear hNn
      clear hf
      have hf := hfn
      clear hfn
      clear hb
      refine hK.out _ _ (heldC_two (fun _ => hf.1) (fun _ => trivial)) (fun hF => ?_)
      clear hK K
      try simp only [Act.put, List.setIfInBounds_toArray, List.set_cons_zero, List.set_cons_succ]
      refine wpG_ready (rs := [5]) (by kernel_rfl) (by simp) ?_
      refine all_one ?_
      refine wpOp_hand (oi := ?oi89) ?hi89 (fun K hK => ?hh89)
      case hi89 => (simp only [List.getElem?_toArray, List.getElem?_cons_succ, List.getElem?_cons_zero]; rfl)
      go_simp
      refine Calls.mono (whole_ok _ _) ?_
      rintro e wq ⟨rfl, hb⟩
      have hfn : FgBox wq kf (.slice A N cA) (.slice B m bc) ∧ Below V.heap.size V wq := ⟨hf.1.below hb, hf.2.trans (hb.mono hf.2.size)⟩
      have hNn := hN.below hb
      clear hN
      have hN := hNn
      clear hNn
      clear hf
      have hf := hfn
      clear hfn
      clear hb
      refine hK.out _ _ (heldC_two (fun _ => hf.1) (fun _ => trivial)) (fun hF => ?_)
      clear hK K
      try simp only [Act.put, List.setIfInBounds_toArray, List.set_cons_zero, List.set_cons_succ]
      refine wpG_ready (rs := [7]) (by kernel_rfl) (by simp) ?_
      refine all_one ?_
      refine wpOp_hand (oi := ?oi90) ?hi90 (fun K hK => ?hh90)
      case hi90 => (simp only [List.getElem?_toArray, List.getElem?_cons_succ, List.getElem?_cons_zero]; rfl)
      go_simp
      refine Calls.mono (whole_ok _ _) ?_
      rintro e wq ⟨rfl, hb⟩
      have hfn : FgBox wq kf (.slice A N cA) (.slice B m bc) ∧ Below V.heap.size V wq := ⟨hf.1.below hb, hf.2.trans (hb.mono hf.2.size)⟩
      have hNn := hN.below hb
      clear hN
      have hN := hNn
      clear hNn
      clear hf
      have hf := hfn
      clear hfn
      clear hb
      refine hK.out _ _ (heldC_two (fun _ => hf.1) (fun _ => trivial)) (fun hF => ?_)
      clear hK K
      try simp only [Act.put, List.setIfInBounds_toArray, List.set_cons_zero, List.set_cons_succ]
      refine wpG_ready (rs := [12]) (by kernel_rfl) (by simp) ?_
      refine all_one ?_
      refine wpOp_hand (oi := ?oi91) ?hi91 (fun K hK => ?hh91)
      case hi91 => (simp only [List.getElem?_toArray, List.getElem?_cons_succ, List.getElem?_cons_zero]; rfl)
      go_simp
      refine Calls.mono (whole_ok _ _) ?_
      rintro e wq ⟨rfl, hb⟩
      have hfn : FgBox wq kf (.slice A N cA) (.slice B m bc) ∧ Below V.heap.size V wq := ⟨hf.1.below hb, hf.2.trans (hb.mono hf.2.size)⟩
      have hNn := hN.below hb
      clear hN
      have hN := hNn
      clear hNn
      clear hf
      have hf := hfn
      clear hfn
      clear hb
      refine hK.out _ _ (heldC_two (fun _ => hf.1) (fun _ => trivial)) (fun hF => ?_)
      clear hK K
      try simp only [Act.put, List.setIfInBounds_toArray, List.set_cons_zero, List.set_cons_succ]
      refine wpG_ready (rs := [14]) (by kernel_rfl) (by simp) ?_
      refine all_one ?_
      refine wpOp_hand (oi := ?oi92) ?hi92 (fun K hK => ?hh92)
      case hi92 => (simp only [List.getElem?_toArray, List.getElem?_cons_succ, List.getElem?_cons_zero]; rfl)
      go_simp
      refine Calls.mono (whole_ok _ _) ?_
      rintro e wq ⟨rfl, hb⟩
      have hfn : FgBox wq kf (.slice A N cA) (.slice B m bc) ∧ Below V.heap.size V wq := ⟨hf.1.below hb, hf.2.trans (hb.mono hf.2.size)⟩
      have hNn := hN.below hb
      clear hN
      have hN := hNn
      clear hNn
      clear hf
      have hf := hfn
      clear hfn
      clear hb
      refine hK.out _ _ (heldC_two (fun _ => hf.1) (fun _ => trivial)) (fun hF => ?_)
      clear hK K
      try simp only [Act.put, List.setIfInBounds_toArray, List.set_cons_zero, List.set_cons_succ]
      refine wpG_take (oi := ?oi93) (v := ?vv93) 15 _ ?hi93 (List.Mem.head _) ?hc93 ?hQ93 hF ?hw93 ?hy93 (fun hF => ?hh93)
      case hi93 => (simp only [List.getElem?_toArray, List.getElem?_cons_succ, List.getElem?_cons_zero]; rfl)
      case hc93 => kernel_rfl
      case hQ93 => exact fun _ _ _ h => h
      case hw93 => rfl
      case hy93 => (intro wz hz; skip; go_simp; try (with_reducible rfl))
      try simp only [Act.put, List.setIfInBounds_toArray, List.set_cons_zero, List.set_cons_succ]
      refine wpG_ready (rs := [16]) (by kernel_rfl) (by simp) ?_
      refine all_one ?_
      refine wpOp_hand (oi := ?oi94) ?hi94 (fun K hK => ?hh94)
      case hi94 => (simp only [List.getElem?_toArray, List.getElem?_cons_succ, List.getElem?_cons_zero]; rfl)
      go_simp
      refine Calls.mono (HMAP.out _ (HFV.out.below hf.2)) ?_
      rintro e wq ⟨Am, cm, Bm, bm, rfl, hG, hb⟩
      have hfn : FgBox wq kf (.slice A N cA) (.slice B m bc) ∧ Below V.heap.size V wq := ⟨hf.1.below hb, hf.2.trans (hb.mono hf.2.size)⟩
      have hNn := hN.below hb
      clear hN
      have hN := hNn
      clear hNn
      clear hf
      have hf := hfn
      clear hfn
      clear hb
      refine hK.out _ _ (heldC_two (fun h => absurd h (by simp)) (fun _ => trivial)) (fun hF => ?_)
      clear hK K
      try simp only [Act.put, List.setIfInBounds_toArray, List.set_cons_zero, List.set_cons_succ]
      refine wpG_take (oi := ?oi95) (v := ?vv95) 17 _ ?hi95 (List.Mem.tail _ (List.Mem.head _)) ?hc95 ?hQ95 hF ?hw95 ?hy95 (fun hF => ?hh95)
      case hi95 => (simp only [List.getElem?_toArray, List.getElem?_cons_succ, List.getElem?_cons_zero]; rfl)
      case hc95 => kernel_rfl
      case hQ95 => exact fun _ _ _ h => h
      case hw95 => rfl
      case hy95 => (intro wz hz; skip; go_simp; try (with_reducible rfl))
      try simp only [Act.put, List.setIfInBounds_toArray, List.set_cons_zero, List.set_cons_succ]
      refine wpG_take (oi := ?oi96) (v := ?vv96) 18 _ ?hi96 (List.Mem.tail _ (List.Mem.head _)) ?hc96 ?hQ96 hF ?hw96 ?hy96 (fun hF => ?hh96)
      case hi96 => (simp only [List.getElem?_toArray, List.getElem?_cons_succ, List.getElem?_cons_zero]; rfl)
      case hc96 => kernel_rfl
      case hQ96 => exact fun _ _ _ h => h
      case hw96 => rfl
      case hy96 => (intro wz hz; skip; go_simp; try (with_reducible rfl))
      try simp only [Act.put, List.setIfInBounds_toArray, List.set_cons_zero, List.set_cons_succ]
      refine wpG_take (oi := ?oi97) (v := ?vv97) 19 _ ?hi97 (List.Mem.tail _ (List.Mem.head _)) ?hc97 ?hQ97 hF ?hw97 ?hy97 (fun hF => ?hh97)
      case hi97 => (simp only [List.getElem?_toArray, List.getElem?_cons_succ, List.getElem?_cons_zero]; rfl)
      case hc97 => kernel_rfl
      case hQ97 => exact fun _ _ _ h => h
      case hw97 => rfl
      case hy97 => (intro wz hz; skip; go_simp; try (with_reducible rfl))
      try simp only [Act.put, List.setIfInBounds_toArray, List.set_cons_zero, List.set_cons_succ]
      refine wpG_ready (rs := [21]) (by kernel_rfl) (by simp) ?_
      refine all_one ?_
      have f0 := hN.c0; have f1 := hN.c1; have f2 := hN.free 0; have f3 := hN.free 1; have f4 := hN.lt
      refine wpOp_hand (oi := ?oi98) ?hi98 (fun K hK => ?hh98)
      case hi98 => (simp only [List.getElem?_toArray, List.getElem?_cons_succ, List.getElem?_cons_zero]; rfl)
      go_simp
      refine hK.out _ _ (heldC_two (fun h => absurd h (by simp)) (fun _ => trivial)) (fun hF => ?_)
      clear hK K
      try simp only [Act.put, List.setIfInBounds_toArray, List.set_cons_zero, List.set_cons_succ]
      refine wpG_ready (rs := [22]) (by kernel_rfl) (by simp) ?_
      refine all_one ?_
      refine wpOp_hand (oi := ?oi99) ?hi99 (fun K hK => ?hh99)
      case hi99 => (simp only [List.getElem?_toArray, List.getElem?_cons_succ, List.getElem?_cons_zero]; rfl)
      go_simp
      refine hK.out _ _ (heldC_two (fun h => absurd h (by simp)) (fun h => absurd h (by simp))) (fun hF => ?_)
      clear hK K
      try simp only [Act.put, List.setIfInBounds_toArray, List.set_cons_zero, List.set_cons_succ]
      refine wpG_done (by kernel_rfl) ?_ _
      clear f0 f1 f2 f3 f4
      go_wp2_with fail
      go_meet
      exact ⟨kb, Am, cm, Bm, bm, rfl, rfl, hs3, hN.set _ _, figW_set hG hN _ _, (hf.2.setCell (p := ⟨kb, 0, none⟩) hs3 _).setCell (p := ⟨kb, 1, none⟩) hs3 _⟩
  case rest =>
    obtain ⟨kg, A', c', B', bc', rfl, rfl, hkg, hG, hFg, hb⟩ := hcut
    have HGG := Lib.hid hG; have HFG := Lib.hid hFg; have HGf := Lib.hid (HG.out.below hb); have HFf := Lib.hid (HFV.out.below hb); have Hbw := Lib.hid (HbV.out.trans (hb.mono HbV.out.size))
    clear hG hFg hb HG HFV HbV HMAP HhX bX
    go_upto_region 6 with fail
    obtain ⟨V2, hV2⟩ : ∃ V, V = wc := ⟨_, rfl⟩
    rw [← hV2] at HGG HFG HGf HFf Hbw ⊢
    clear hV2
    obtain ⟨X, hX⟩ : ∃ X, X = V2.drew := ⟨_, rfl⟩
    have bX := Lib.hid (show Below V2.heap.size V2 X by rw [hX]; exact (Below.refl _ _).drew)
    have HhX := Lib.hid hX
    have HMAR := Lib.hid (HMAQ.out A' c' B' bc')
    clear hX
    go_cut [16, 17] (fun p e wx => ∃ b A' c' B' bc', p = .pointer (some ⟨b, 0, none⟩) ∧ e = .int .i64 0 ∧ V2.heap.size ≤ b ∧ FgBox wx b (.slice A' N c') (.slice B' m bc') ∧ FigW wx A' N c' (shNums xs ys N) B' m bc' ∧ Below V2.heap.size V2 wx)
    case first =>
      have hf : FgBox X kg (.slice A' N c') (.slice B' m bc') ∧ Below V2.heap.size V2 X := ⟨HGG.out.below bX.out, bX.out⟩
      refine wp_region_G [(31, fun w' => FgBox w' kg (.slice A' N c') (.slice B' m bc')), (37, fun _ => True)] (by kernel_rfl) (heldC_two (fun _ => by rw [← HhX.out]; exact hf.1) (fun _ => trivial)) (fun hF => ?_)
      rw [← HhX.out] at hF ⊢
      refine wpG_take (oi := ?oi100) (v := ?vv100) 0 _ ?hi100 (List.Mem.head _) ?hc100 ?hQ100 hF ?hw100 ?hy100 (fun hF => ?hh100)
      case hi100 => (simp only [List.getElem?_toArray, List.getElem?_cons_succ, List.getElem?_cons_zero]; rfl)
      case hc100 => kernel_rfl
      case hQ100 => exact fun _ _ _ h => h
      case hw100 => rfl
      case hy100 => (intro wz hz; have z0 := hz.c0; have z1 := hz.c1; go_simp; try (with_reducible rfl))
      try simp only [Act.put, List.setIfInBounds_toArray, List.set_cons_zero, List.set_cons_succ]
      refine wpG_takeC (oi := ?oi101) (v := ?vv101) 1 _ [30,5,4,3] ?hi101 (List.Mem.head _) ?hc101 ?hQ101 hF ?hw101 ?hy101 (fun hF => ?hh101)
      case hi101 => (simp only [List.getElem?_toArray, List.getElem?_cons_succ, List.getElem?_cons_zero]; rfl)
      case hc101 => kernel_rfl
      case hQ101 => exact fun _ _ _ h => h
      case hw101 => rfl
      case hy101 => (intro wz hz; skip; go_simp; try (with_reducible rfl))
      try simp only [Act.put, List.setIfInBounds_toArray, List.set_cons_zero, List.set_cons_succ]
      refine wpG_takeC (oi := ?oi102) (v := ?vv102) 2 _ [30,5,4,3] ?hi102 (List.Mem.head _) ?hc102 ?hQ102 hF ?hw102 ?hy102 (fun hF => ?hh102)
      case hi102 => (simp only [List.getElem?_toArray, List.getElem?_cons_succ, List.getElem?_cons_zero]; rfl)
      case hc102 => kernel_rfl
      case hQ102 => exact fun _ _ _ h => h
      case hw102 => rfl
      case hy102 => (intro wz hz; skip; go_simp; try (with_reducible rfl))
      try simp only [Act.put, List.setIfInBounds_toArray, List.set_cons_zero, List.set_cons_succ]
      refine wpG_takeC (oi := ?oi103) (v := ?vv103) 3 _ [30,5,4] ?hi103 (List.Mem.head _) ?hc103 ?hQ103 hF ?hw103 ?hy103 (fun hF => ?hh103)
      case hi103 => (simp only [List.getElem?_toArray, List.getElem?_cons_succ, List.getElem?_cons_zero]; rfl)
      case hc103 => kernel_rfl
      case hQ103 => exact fun _ _ _ h => h
      case hw103 => rfl
      case hy103 => (intro wz hz; skip; go_simp; try (with_reducible rfl))
      try simp only [Act.put, List.setIfInBounds_toArray, List.set_cons_zero, List.set_cons_succ]
      refine wpG_takeC (oi := ?oi104) (v := ?vv104) 4 _ [30,5] ?hi104 (List.Mem.head _) ?hc104 ?hQ104 hF ?hw104 ?hy104 (fun hF => ?hh104)
      case hi104 => (simp only [List.getElem?_toArray, List.getElem?_cons_succ, List.getElem?_cons_zero]; rfl)
      case hc104 => kernel_rfl
      case hQ104 => exact fun _ _ _ h => h
      case hw104 => rfl
      case hy104 => (intro wz hz; skip; go_simp; try (with_reducible rfl))
      try simp only [Act.put, List.setIfInBounds_toArray, List.set_cons_zero, List.set_cons_succ]
      refine wpG_takeC (oi := ?oi105) (v := ?vv105) 6 _ [30,8,7] ?hi105 (List.Mem.head _) ?hc105 ?hQ105 hF ?hw105 ?hy105 (fun hF => ?hh105)
      case hi105 => (simp only [List.getElem?_toArray, List.getElem?_cons_succ, List.getElem?_cons_zero]; rfl)
      case hc105 => kernel_rfl
      case hQ105 => exact fun _ _ _ h => h
      case hw105 => rfl
      case hy105 => (intro wz hz; skip; go_simp; try (with_reducible rfl))
      try simp only [Act.put, List.setIfInBounds_toArray, List.set_cons_zero, List.set_cons_succ]
      refine wpG_takeC (oi := ?oi106) (v := ?vv106) 7 _ [30,8] ?hi106 (List.Mem.head _) ?hc106 ?hQ106 hF ?hw106 ?hy106 (fun hF => ?hh106)
      case hi106 => (simp only [List.getElem?_toArray, List.getElem?_cons_succ, List.getElem?_cons_zero]; rfl)
      case hc106 => kernel_rfl
      case hQ106 => exact fun _ _ _ h => h
      case hw106 => rfl
      case hy106 => (intro wz hz; skip; go_simp; try (with_reducible rfl))
      try simp only [Act.put, List.setIfInBounds_toArray, List.set_cons_zero, List.set_cons_succ]
      refine wpG_takeC (oi := ?oi107) (v := ?vv107) 9 _ [30,19,18,11] ?hi107 (List.Mem.head _) ?hc107 ?hQ107 hF ?hw107 ?hy107 (fun hF => ?hh107)
      case hi107 => (simp only [List.getElem?_toArray, List.getElem?_cons_succ, List.getElem?_cons_zero]; rfl)
      case hc107 => kernel_rfl
      case hQ107 => exact fun _ _ _ h => h
      case hw107 => rfl
      case hy107 => (intro wz hz; skip; go_simp; try (with_reducible rfl))
      try simp only [Act.put, List.setIfInBounds_toArray, List.set_cons_zero, List.set_cons_succ]
      refine wpG_takeC (oi := ?oi108) (v := ?vv108) 10 _ [30,19,18,11] ?hi108 (List.Mem.head _) ?hc108 ?hQ108 hF ?hw108 ?hy108 (fun hF => ?hh108)
      case hi108 => (simp only [List.getElem?_toArray, List.getElem?_cons_succ, List.getElem?_cons_zero]; rfl)
      case hc108 => kernel_rfl
      case hQ108 => exact fun _ _ _ h => h
      case hw108 => rfl
      case hy108 => (intro wz hz; skip; go_simp; try (with_reducible rfl))
      try simp only [Act.put, List.setIfInBounds_toArray, List.set_cons_zero, List.set_cons_succ]
      refine wpG_takeC (oi := ?oi109) (v := ?vv109) 11 _ [30,19,18] ?hi109 (List.Mem.head _) ?hc109 ?hQ109 hF ?hw109 ?hy109 (fun hF => ?hh109)
      case hi109 => (simp only [List.getElem?_toArray, List.getElem?_cons_succ, List.getElem?_cons_zero]; rfl)
      case hc109 => kernel_rfl
      case hQ109 => exact fun _ _ _ h => h
      case hw109 => rfl
      case hy109 => (intro wz hz; skip; go_simp; try (with_reducible rfl))
      try simp only [Act.put, List.setIfInBounds_toArray, List.set_cons_zero, List.set_cons_succ]
      refine wpG_takeC (oi := ?oi110) (v := ?vv110) 12 _ [30,19,18,17,15,14] ?hi110 (List.Mem.head _) ?hc110 ?hQ110 hF ?hw110 ?hy110 (fun hF => ?hh110)
      case hi110 => (simp only [List.getElem?_toArray, List.getElem?_cons_succ, List.getElem?_cons_zero]; rfl)
      case hc110 => kernel_rfl
      case hQ110 => exact fun _ _ _ h => h
      case hw110 => rfl
      case hy110 => (intro wz hz; skip; go_simp; try (with_reducible rfl))
      try simp only [Act.put, List.setIfInBounds_toArray, List.set_cons_zero, List.set_cons_succ]
      refine wpG_takeC (oi := ?oi111) (v := ?vv111) 13 _ [30,19,18,17,15,14] ?hi111 (List.Mem.head _) ?hc111 ?hQ111 hF ?hw111 ?hy111 (fun hF => ?hh111)
      case hi111 => (simp only [List.getElem?_toArray, List.getElem?_cons_succ, List.getElem?_cons_zero]; rfl)
      case hc111 => kernel_rfl
      case hQ111 => exact fun _ _ _ h => h
      case hw111 => rfl
      case hy111 => (intro wz hz; skip; go_simp; try (with_reducible rfl))
      try simp only [Act.put, List.setIfInBounds_toArray, List.set_cons_zero, List.set_cons_succ]
      refine wpG_takeC (oi := ?oi112) (v := ?vv112) 14 _ [30,19,18,17,15] ?hi112 (List.Mem.head _) ?hc112 ?hQ112 hF ?hw112 ?hy112 (fun hF => ?hh112)
      case hi112 => (simp only [List.getElem?_toArray, List.getElem?_cons_succ, List.getElem?_cons_zero]; rfl)
      case hc112 => kernel_rfl
      case hQ112 => exact fun _ _ _ h => h
      case hw112 => rfl
      case hy112 => (intro wz hz; skip; go_simp; try (with_reducible rfl))
      try simp only [Act.put, List.setIfInBounds_toArray, List.set_cons_zero, List.set_cons_succ]
      refine wpG_takeC (oi := ?oi113) (v := ?vv113) 15 _ [30,19,18,17] ?hi113 (List.Mem.head _) ?hc113 ?hQ113 hF ?hw113 ?hy113 (fun hF => ?hh113)
      case hi113 => (simp only [List.getElem?_toArray, List.getElem?_cons_succ, List.getElem?_cons_zero]; rfl)
      case hc113 => kernel_rfl
      case hQ113 => exact fun _ _ _ h => h
      case hw113 => rfl
      case hy113 => (intro wz hz; skip; go_simp; try (with_reducible rfl))
      try simp only [Act.put, List.setIfInBounds_toArray, List.set_cons_zero, List.set_cons_succ]
      refine wpG_takeC (oi := ?oi114) (v := ?vv114) 16 _ [30,19,18,17] ?hi114 (List.Mem.head _) ?hc114 ?hQ114 hF ?hw114 ?hy114 (fun hF => ?hh114)
      case hi114 => (simp only [List.getElem?_toArray, List.getElem?_cons_succ, List.getElem?_cons_zero]; rfl)
      case hc114 => kernel_rfl
      case hQ114 => exact fun _ _ _ h => h
      case hw114 => rfl
      case hy114 => (intro wz hz; skip; go_simp; try (with_reducible rfl))
      try simp only [Act.put, List.setIfInBounds_toArray, List.set_cons_zero, List.set_cons_succ]
      refine wpG_takeC (oi := ?oi115) (v := ?vv115) 17 _ [30,19,18] ?hi115 (List.Mem.head _) ?hc115 ?hQ115 hF ?hw115 ?hy115 (fun hF => ?hh115)
      case hi115 => (simp only [List.getElem?_toArray, List.getElem?_cons_succ, List.getElem?_cons_zero]; rfl)
      case hc115 => kernel_rfl
      case hQ115 => exact fun _ _ _ h => h
      case hw115 => rfl
      case hy115 => (intro wz hz; skip; go_simp; try (with_reducible rfl))
      try simp only [Act.put, List.setIfInBounds_toArray, List.set_cons_zero, List.set_cons_succ]
      refine wpG_takeC (oi := ?oi116) (v := ?vv116) 18 _ [30,19] ?hi116 (List.Mem.head _) ?hc116 ?hQ116 hF ?hw116 ?hy116 (fun hF => ?hh116)
      case hi116 => (simp only [List.getElem?_toArray, List.getElem?_cons_succ, List.getElem?_cons_zero]; rfl)
      case hc116 => kernel_rfl
      case hQ116 => exact fun _ _ _ h => h
      case hw116 => rfl
      case hy116 => (intro wz hz; skip; go_simp; try (with_reducible rfl))
      try simp only [Act.put, List.setIfInBounds_toArray, List.set_cons_zero, List.set_cons_succ]
      refine wpG_takeC (oi := ?oi117) (v := ?vv117) 20 _ [30,22,21] ?hi117 (List.Mem.head _) ?hc117 ?hQ117 hF ?hw117 ?hy117 (fun hF => ?hh117)
      case hi117 => (simp only [List.getElem?_toArray, List.getElem?_cons_succ, List.getElem?_cons_zero]; rfl)
      case hc117 => kernel_rfl
      case hQ117 => exact fun _ _ _ h => h
      case hw117 => rfl
      case hy117 => (intro wz hz; skip; go_simp; try (with_reducible rfl))
      try simp only [Act.put, List.setIfInBounds_toArray, List.set_cons_zero, List.set_cons_succ]
      refine wpG_takeC (oi := ?oi118) (v := ?vv118) 21 _ [30,22] ?hi118 (List.Mem.head _) ?hc118 ?hQ118 hF ?hw118 ?hy118 (fun hF => ?hh118)
      case hi118 => (simp only [List.getElem?_toArray, List.getElem?_cons_succ, List.getElem?_cons_zero]; rfl)
      case hc118 => kernel_rfl
      case hQ118 => exact fun _ _ _ h => h
      case hw118 => rfl
      case hy118 => (intro wz hz; skip; go_simp; try (with_reducible rfl))
      try simp only [Act.put, List.setIfInBounds_toArray, List.set_cons_zero, List.set_cons_succ]
      refine wpG_takeC (oi := ?oi119) (v := ?vv119) 24 _ [29,28,26] ?hi119 (List.Mem.head _) ?hc119 ?hQ119 hF ?hw119 ?hy119 (fun hF => ?hh119)
      case hi119 => (simp only [List.getElem?_toArray, List.getElem?_cons_succ, List.getElem?_cons_zero]; rfl)
      case hc119 => kernel_rfl
      case hQ119 => exact fun _ _ _ h => h
      case hw119 => rfl
      case hy119 => (intro wz hz; skip; go_simp; try (with_reducible rfl))
      try simp only [Act.put, List.setIfInBounds_toArray, List.set_cons_zero, List.set_cons_succ]
      refine wpG_takeC (oi := ?oi120) (v := ?vv120) 25 _ [29,28,26] ?hi120 (List.Mem.head _) ?hc120 ?hQ120 hF ?hw120 ?hy120 (fun hF => ?hh120)
      case hi120 => (simp only [List.getElem?_toArray, List.getElem?_cons_succ, List.getElem?_cons_zero]; rfl)
      case hc120 => kernel_rfl
      case hQ120 => exact fun _ _ _ h => h
      case hw120 => rfl
      case hy120 => (intro wz hz; skip; go_simp; try (with_reducible rfl))
      try simp only [Act.put, List.setIfInBounds_toArray, List.set_cons_zero, List.set_cons_succ]
      refine wpG_takeC (oi := ?oi121) (v := ?vv121) 26 _ [29,28] ?hi121 (List.Mem.head _) ?hc121 ?hQ121 hF ?hw121 ?hy121 (fun hF => ?hh121)
      case hi121 => (simp only [List.getElem?_toArray, List.getElem?_cons_succ, List.getElem?_cons_zero]; rfl)
      case hc121 => kernel_rfl
      case hQ121 => exact fun _ _ _ h => h
      case hw121 => rfl
      case hy121 => (intro wz hz; skip; go_simp; try (with_reducible rfl))
      try simp only [Act.put, List.setIfInBounds_toArray, List.set_cons_zero, List.set_cons_succ]
      refine wpG_takeC (oi := ?oi122) (v := ?vv122) 27 _ [29,28] ?hi122 (List.Mem.head _) ?hc122 ?hQ122 hF ?hw122 ?hy122 (fun hF => ?hh122)
      case hi122 => (simp only [List.getElem?_toArray, List.getElem?_cons_succ, List.getElem?_cons_zero]; rfl)
      case hc122 => kernel_rfl
      case hQ122 => exact fun _ _ _ h => h
      case hw122 => rfl
      case hy122 => (intro wz hz; skip; go_simp; try (with_reducible rfl))
      try simp only [Act.put, List.setIfInBounds_toArray, List.set_cons_zero, List.set_cons_succ]
      refine wpG_takeC (oi := ?oi123) (v := ?vv123) 28 _ [29] ?hi123 (List.Mem.head _) ?hc123 ?hQ123 hF ?hw123 ?hy123 (fun hF => ?hh123)
      case hi123 => (simp only [List.getElem?_toArray, List.getElem?_cons_succ, List.getElem?_cons_zero]; rfl)
      case hc123 => kernel_rfl
      case hQ123 => exact fun _ _ _ h => h
      case hw123 => rfl
      case hy123 => (intro wz hz; skip; go_simp; try (with_reducible rfl))
      try simp only [Act.put, List.setIfInBounds_toArray, List.set_cons_zero, List.set_cons_succ]
      refine wpG_ready (rs := [5, 35]) (by kernel_rfl) (by simp) ?_
      refine all_two ?_ ?_
      · skip
        refine wpOp_hand (oi := ?oi124) ?hi124 (fun K hK => ?hh124)
        case hi124 => (simp only [List.getElem?_toArray, List.getElem?_cons_succ, List.getElem?_cons_zero]; rfl)
        go_simp
        refine Calls.mono (whole_ok _ _) ?_
        rintro e wq ⟨rfl, hb⟩
        have hfn : FgBox wq kg (.slice A' N c') (.slice B' m bc') ∧ Below V2.heap.size V2 wq := ⟨hf.1.below hb, hf.2.trans (hb.mono hf.2.size)⟩
        clear hf
        have hf := hfn
        clear hfn
        clear hb
        refine hK.out _ _ (heldC_two (fun _ => hf.1) (fun _ => trivial)) (fun hF => ?_)
        clear hK K
        try simp only [Act.put, List.setIfInBounds_toArray, List.set_cons_zero, List.set_cons_succ]
        refine wpG_ready (rs := [8, 35]) (by kernel_rfl) (by simp) ?_
        refine all_two ?_ ?_
        · skip
          refine wpOp_hand (oi := ?oi125) ?hi125 (fun K hK => ?hh125)
          case hi125 => (simp only [List.getElem?_toArray, List.getElem?_cons_succ, List.getElem?_cons_zero]; rfl)
          go_simp
          refine Calls.mono (whole_ok _ _) ?_
          rintro e wq ⟨rfl, hb⟩
          have hfn : FgBox wq kg (.slice A' N c') (.slice B' m bc') ∧ Below V2.heap.size V2 wq := ⟨hf.1.below hb, hf.2.trans (hb.mono hf.2.size)⟩
          clear hf
          have hf := hfn
          clear hfn
          clear hb
          refine hK.out _ _ (heldC_two (fun _ => hf.1) (fun _ => trivial)) (fun hF => ?_)
          clear hK K
          try simp only [Act.put, List.setIfInBounds_toArray, List.set_cons_zero, List.set_cons_succ]
          refine wpG_ready (rs := [19, 35]) (by kernel_rfl) (by simp) ?_
          refine all_two ?_ ?_
          · skip
            refine wpOp_hand (oi := ?oi126) ?hi126 (fun K hK => ?hh126)
            case hi126 => (simp only [List.getElem?_toArray, List.getElem?_cons_succ, List.getElem?_cons_zero]; rfl)
            go_simp
            refine Calls.mono (whole_ok _ _) ?_
            rintro e wq ⟨rfl, hb⟩
            have hfn : FgBox wq kg (.slice A' N c') (.slice B' m bc') ∧ Below V2.heap.size V2 wq := ⟨hf.1.below hb, hf.2.trans (hb.mono hf.2.size)⟩
            clear hf
            have hf := hfn
            clear hfn
            clear hb
            refine hK.out _ _ (heldC_two (fun _ => hf.1) (fun _ => trivial)) (fun hF => ?_)
            clear hK K
            try simp only [Act.put, List.setIfInBounds_toArray, List.set_cons_zero, List.set_cons_succ]
            refine wpG_ready (rs := [22, 35]) (by kernel_rfl) (by simp) ?_
            refine all_two ?_ ?_
            · skip
              refine wpOp_hand (oi := ?oi127) ?hi127 (fun K hK => ?hh127)
              case hi127 => (simp only [List.getElem?_toArray, List.getElem?_cons_succ, List.getElem?_cons_zero]; rfl)
              go_simp
              refine Calls.mono (whole_ok _ _) ?_
              rintro e wq ⟨rfl, hb⟩
              have hfn : FgBox wq kg (.slice A' N c') (.slice B' m bc') ∧ Below V2.heap.size V2 wq := ⟨hf.1.below hb, hf.2.trans (hb.mono hf.2.size)⟩
              clear hf
              have hf := hfn
              clear hfn
              clear hb
              refine hK.out _ _ (heldC_two (fun _ => hf.1) (fun _ => trivial)) (fun hF => ?_)
              clear hK K
              try simp only [Act.put, List.setIfInBounds_toArray, List.set_cons_zero, List.set_cons_succ]
              refine wpG_ready (rs := [23, 35]) (by kernel_rfl) (by simp) ?_
              refine all_two ?_ ?_
              · skip
                refine wpOp_hand (oi := ?oi128) ?hi128 (fun K hK => ?hh128)
                case hi128 => (simp only [List.getElem?_toArray, List.getElem?_cons_succ, List.getElem?_cons_zero]; rfl)
                go_simp
                refine Calls.mono (whole_ok _ _) ?_
                rintro e wq ⟨rfl, hb⟩
                have hfn : FgBox wq kg (.slice A' N c') (.slice B' m bc') ∧ Below V2.heap.size V2 wq := ⟨hf.1.below hb, hf.2.trans (hb.mono hf.2.size)⟩
                clear hf
                have hf := hfn
                clear hfn
                clear hb
                refine hK.out _ _ (heldC_two (fun _ => hf.1) (fun _ => trivial)) (fun hF => ?_)
                clear hK K
                try simp only [Act.put, List.setIfInBounds_toArray, List.set_cons_zero, List.set_cons_succ]
                refine wpG_ready (rs := [29, 35]) (by kernel_rfl) (by simp) ?_
                refine all_two ?_ ?_
                · skip
                  refine wpOp_hand (oi := ?oi129) ?hi129 (fun K hK => ?hh129)
                  case hi129 => (simp only [List.getElem?_toArray, List.getElem?_cons_succ, List.getElem?_cons_zero]; rfl)
                  go_simp
                  refine Calls.mono (whole_ok _ _) ?_
                  rintro e wq ⟨rfl, hb⟩
                  have hfn : FgBox wq kg (.slice A' N c') (.slice B' m bc') ∧ Below V2.heap.size V2 wq := ⟨hf.1.below hb, hf.2.trans (hb.mono hf.2.size)⟩
                  clear hf
                  have hf := hfn
                  clear hfn
                  clear hb
                  refine hK.out _ _ (heldC_two (fun _ => hf.1) (fun _ => trivial)) (fun hF => ?_)
                  clear hK K
                  try simp only [Act.put, List.setIfInBounds_toArray, List.set_cons_zero, List.set_cons_succ]
                  refine wpG_take (oi := ?oi130) (v := ?vv130) 30 _ ?hi130 (List.Mem.head _) ?hc130 ?hQ130 hF ?hw130 ?hy130 (fun hF => ?hh130)
                  case hi130 => (simp only [List.getElem?_toArray, List.getElem?_cons_succ, List.getElem?_cons_zero]; rfl)
                  case hc130 => kernel_rfl
                  case hQ130 => exact fun _ _ _ h => h
                  case hw130 => rfl
                  case hy130 => (intro wz hz; skip; go_simp; try (with_reducible rfl))
                  try simp only [Act.put, List.setIfInBounds_toArray, List.set_cons_zero, List.set_cons_succ]
                  refine wpG_ready (rs := [31, 35]) (by kernel_rfl) (by simp) ?_
                  refine all_two ?_ ?_
                  · skip
                    refine wpOp_hand (oi := ?oi131) ?hi131 (fun K hK => ?hh131)
                    case hi131 => (simp only [List.getElem?_toArray, List.getElem?_cons_succ, List.getElem?_cons_zero]; rfl)
                    go_simp
                    refine Calls.mono (HMAR.out _ (HFG.out.below hf.2)) ?_
                    rintro e wq ⟨Am, cm, Bm, bm, rfl, hG, hb⟩
                    have hfn : FgBox wq kg (.slice A' N c') (.slice B' m bc') ∧ Below V2.heap.size V2 wq := ⟨hf.1.below hb, hf.2.trans (hb.mono hf.2.size)⟩
                    clear hf
                    have hf := hfn
                    clear hfn
                    clear hb
                    refine hK.out _ _ (heldC_two (fun h => absurd h (by simp)) (fun _ => trivial)) (fun hF => ?_)
                    clear hK K
                    try simp only [Act.put, List.setIfInBounds_toArray, List.set_cons_zero, List.set_cons_succ]
                    refine wpG_take (oi := ?oi132) (v := ?vv132) 32 _ ?hi132 (List.Mem.tail _ (List.Mem.head _)) ?hc132 ?hQ132 hF ?hw132 ?hy132 (fun hF => ?hh132)
                    case hi132 => (simp only [List.getElem?_toArray, List.getElem?_cons_succ, List.getElem?_cons_zero]; rfl)
                    case hc132 => kernel_rfl
                    case hQ132 => exact fun _ _ _ h => h
                    case hw132 => rfl
                    case hy132 => (intro wz hz; skip; go_simp; try (with_reducible rfl))
                    try simp only [Act.put, List.setIfInBounds_toArray, List.set_cons_zero, List.set_cons_succ]
                    refine wpG_take (oi := ?oi133) (v := ?vv133) 33 _ ?hi133 (List.Mem.tail _ (List.Mem.head _)) ?hc133 ?hQ133 hF ?hw133 ?hy133 (fun hF => ?hh133)
                    case hi133 => (simp only [List.getElem?_toArray, List.getElem?_cons_succ, List.getElem?_cons_zero]; rfl)
                    case hc133 => kernel_rfl
                    case hQ133 => exact fun _ _ _ h => h
                    case hw133 => rfl
                    case hy133 => (intro wz hz; skip; go_simp; try (with_reducible rfl))
                    try simp only [Act.put, List.setIfInBounds_toArray, List.set_cons_zero, List.set_cons_succ]
                    refine wpG_take (oi := ?oi134) (v := ?vv134) 34 _ ?hi134 (List.Mem.tail _ (List.Mem.head _)) ?hc134 ?hQ134 hF ?hw134 ?hy134 (fun hF => ?hh134)
                    case hi134 => (simp only [List.getElem?_toArray, List.getElem?_cons_succ, List.getElem?_cons_zero]; rfl)
                    case hc134 => kernel_rfl
                    case hQ134 => exact fun _ _ _ h => h
                    case hw134 => rfl
                    case hy134 => (intro wz hz; skip; go_simp; try (with_reducible rfl))
                    try simp only [Act.put, List.setIfInBounds_toArray, List.set_cons_zero, List.set_cons_succ]
                    refine wpG_ready (rs := [35]) (by kernel_rfl) (by simp) ?_
                    refine all_one ?_
                    refine wpOp_hand (oi := ?oi135) ?hi135 (fun K hK => ?hh135)
                    case hi135 => (simp only [List.getElem?_toArray, List.getElem?_cons_succ, List.getElem?_cons_zero]; rfl)
                    go_simp
                    have hN := FgBox.new wq (.slice none 0 0) (.slice none 0 0)
                    obtain ⟨kb, hkb⟩ : ∃ b, b = wq.heap.size := ⟨_, rfl⟩
                    obtain ⟨Y, hY⟩ : ∃ Y, Y = wq.alloc (.cells #[.slice none 0 0, .slice none 0 0] 27) := ⟨_, rfl⟩
                    have bY : Below wq.heap.size wq Y := by rw [hY]; exact (Below.refl _ _).alloc (Nat.le_refl _) _
                    have hs3 : V2.heap.size ≤ kb := by rw [hkb]; exact hf.2.size
                    rw [← hY, ← hkb] at hN ⊢
                    have hfn : FgBox Y kg (.slice A' N c') (.slice B' m bc') ∧ Below V2.heap.size V2 Y := ⟨hf.1.below bY, hf.2.trans (bY.mono hf.2.size)⟩
                    have hGn := hG.below bY
                    clear hG
                    have hG := hGn
                    clear hGn
                    clear hf
                    have hf := hfn
                    clear hfn
                    clear bY hY hkb
                    refine hK.out _ _ (heldC_two (fun h => absurd h (by simp)) (fun _ => trivial)) (fun hF => ?_)
                    clear hK K
                    try simp only [Act.put, List.setIfInBounds_toArray, List.set_cons_zero, List.set_cons_succ]
                    refine wpG_ready (rs := [36]) (by kernel_rfl) (by simp) ?_
                    refine all_one ?_
                    have f0 := hN.c0; have f1 := hN.c1; have f2 := hN.free 0; have f3 := hN.free 1; have f4 := hN.lt
                    refine wpOp_hand (oi := ?oi136) ?hi136 (fun K hK => ?hh136)
                    case hi136 => (simp only [List.getElem?_toArray, List.getElem?_cons_succ, List.getElem?_cons_zero]; rfl)
                    go_simp
                    refine hK.out _ _ (heldC_two (fun h => absurd h (by simp)) (fun _ => trivial)) (fun hF => ?_)
                    clear hK K
                    try simp only [Act.put, List.setIfInBounds_toArray, List.set_cons_zero, List.set_cons_succ]
                    refine wpG_ready (rs := [37]) (by kernel_rfl) (by simp) ?_
                    refine all_one ?_
                    refine wpOp_hand (oi := ?oi137) ?hi137 (fun K hK => ?hh137)
                    case hi137 => (simp only [List.getElem?_toArray, List.getElem?_cons_succ, List.getElem?_cons_zero]; rfl)
                    go_simp
                    refine hK.out _ _ (heldC_two (fun h => absurd h (by simp)) (fun h => absurd h (by simp))) (fun hF => ?_)
                    clear hK K
                    try simp only [Act.put, List.setIfInBounds_toArray, List.set_cons_zero, List.set_cons_succ]
                    refine wpG_done (by kernel_rfl) ?_ _
                    clear f0 f1 f2 f3 f4
                    go_wp2_with fail
                    go_meet
                    exact ⟨kb, Am, cm, Bm, bm, rfl, rfl, hs3, hN.set _ _, figW_set hG hN _ _, (hf.2.setCell (p := ⟨kb, 0, none⟩) hs3 _).setCell (p := ⟨kb, 1, none⟩) hs3 _⟩
                  · skip
                    refine wpOp_hand (oi := ?oi138) ?hi138 (fun K hK => ?hh138)
                    case hi138 => (simp only [List.getElem?_toArray, List.getElem?_cons_succ, List.getElem?_cons_zero]; rfl)
                    go_simp
                    have hN := FgBox.new wq (.slice none 0 0) (.slice none 0 0)
                    obtain ⟨kb, hkb⟩ : ∃ b, b = wq.heap.size := ⟨_, rfl⟩
                    obtain ⟨Y, hY⟩ : ∃ Y, Y = wq.alloc (.cells #[.slice none 0 0, .slice none 0 0] 27) := ⟨_, rfl⟩
                    have bY : Below wq.heap.size wq Y := by rw [hY]; exact (Below.refl _ _).alloc (Nat.le_refl _) _
                    have hs3 : V2.heap.size ≤ kb := by rw [hkb]; exact hf.2.size
                    rw [← hY, ← hkb] at hN ⊢
                    have hfn : FgBox Y kg (.slice A' N c') (.slice B' m bc') ∧ Below V2.heap.size V2 Y := ⟨hf.1.below bY, hf.2.trans (bY.mono hf.2.size)⟩
                    clear hf
                    have hf := hfn
                    clear hfn
                    clear bY hY hkb
                    refine hK.out _ _ (heldC_two (fun _ => hf.1) (fun _ => trivial)) (fun hF => ?_)
                    clear hK K
                    try simp only [Act.put, List.setIfInBounds_toArray, List.set_cons_zero, List.set_cons_succ]
                    refine wpG_ready (rs := [31]) (by kernel_rfl) (by simp) ?_
                    refine all_one ?_
                    refine wpOp_hand (oi := ?oi139) ?hi139 (fun K hK => ?hh139)
                    case hi139 => (simp only [List.getElem?_toArray, List.getElem?_cons_succ, List.getElem?_cons_zero]; rfl)
                    go_simp
                    refine Calls.mono (HMAR.out _ (HFG.out.below hf.2)) ?_
                    rintro e wq ⟨Am, cm, Bm, bm, rfl, hG, hb⟩
                    have hfn : FgBox wq kg (.slice A' N c') (.slice B' m bc') ∧ Below V2.heap.size V2 wq := ⟨hf.1.below hb, hf.2.trans (hb.mono hf.2.size)⟩
                    have hNn := hN.below hb
                    clear hN
                    have hN := hNn
                    clear hNn
                    clear hf
                    have hf := hfn
                    clear hfn
                    clear hb
                    refine hK.out _ _ (heldC_two (fun h => absurd h (by simp)) (fun _ => trivial)) (fun hF => ?_)
                    clear hK K
                    try simp only [Act.put, List.setIfInBounds_toArray, List.set_cons_zero, List.set_cons_succ]
                    refine wpG_take (oi := ?oi140) (v := ?vv140) 32 _ ?hi140 (List.Mem.tail _ (List.Mem.head _)) ?hc140 ?hQ140 hF ?hw140 ?hy140 (fun hF => ?hh140)
                    case hi140 => (simp only [List.getElem?_toArray, List.getElem?_cons_succ, List.getElem?_cons_zero]; rfl)
                    case hc140 => kernel_rfl
                    case hQ140 => exact fun _ _ _ h => h
                    case hw140 => rfl
                    case hy140 => (intro wz hz; skip; go_simp; try (with_reducible rfl))
                    try simp only [Act.put, List.setIfInBounds_toArray, List.set_cons_zero, List.set_cons_succ]
                    refine wpG_take (oi := ?oi141) (v := ?vv141) 33 _ ?hi141 (List.Mem.tail _ (List.Mem.head _)) ?hc141 ?hQ141 hF ?hw141 ?hy141 (fun hF => ?hh141)
                    case hi141 => (simp only [List.getElem?_toArray, List.getElem?_cons_succ, List.getElem?_cons_zero]; rfl)
                    case hc141 => kernel_rfl
                    case hQ141 => exact fun _ _ _ h => h
                    case hw141 => rfl
                    case hy141 => (intro wz hz; skip; go_simp; try (with_reducible rfl))
                    try simp only [Act.put, List.setIfInBounds_toArray, List.set_cons_zero, List.set_cons_succ]
                    refine wpG_take (oi := ?oi142) (v := ?vv142) 34 _ ?hi142 (List.Mem.tail _ (List.Mem.head _)) ?hc142 ?hQ142 hF ?hw142 ?hy142 (fun hF => ?hh142)
                    case hi142 => (simp only [List.getElem?_toArray, List.getElem?_cons_succ, List.getElem?_cons_zero]; rfl)
                    case hc142 => kernel_rfl
                    case hQ142 => exact fun _ _ _ h => h
                    case hw142 => rfl
                    case hy142 => (intro wz hz; skip; go_simp; try (with_reducible rfl))
                    try simp only [Act.put, List.setIfInBounds_toArray, List.set_cons_zero, List.set_cons_succ]
                    refine wpG_ready (rs := [36]) (by kernel_rfl) (by simp) ?_
                    refine all_one ?_
                    have f0 := hN.c0; have f1 := hN.c1; have f2 := hN.free 0; have f3 := hN.free 1; have f4 := hN.lt
                    refine wpOp_hand (oi := ?oi143) ?hi143 (fun K hK => ?hh143)
                    case hi143 => (simp only [List.getElem?_toArray, List.getElem?_cons_succ, List.getElem?_cons_zero]; rfl)
                    go_simp
                    refine hK.out _ _ (heldC_two (fun h => absurd h (by simp)) (fun _ => trivial)) (fun hF => ?_)
                    clear hK K
                    try simp only [Act.put, List.setIfInBounds_toArray, List.set_cons_zero, List.set_cons_succ]
                    refine wpG_ready (rs := [37]) (by kernel_rfl) (by simp) ?_
                    refine all_one ?_
                    refine wpOp_hand (oi := ?oi144) ?hi144 (fun K hK => ?hh144)
                    case hi144 => (simp only [List.getElem?_toArray, List.getElem?_cons_succ, List.getElem?_cons_zero]; rfl)
                    go_simp
                    refine hK.out _ _ (heldC_two (fun h => absurd h (by simp)) (fun h => absurd h (by simp))) (fun hF => ?_)
                    clear hK K
                    try simp only [Act.put, List.setIfInBounds_toArray, List.set_cons_zero, List.set_cons_succ]
                    refine wpG_done (by kernel_rfl) ?_ _
                    clear f0 f1 f2 f3 f4
                    go_wp2_with fail
                    go_meet
                    exact ⟨kb, Am, cm, Bm, bm, rfl, rfl, hs3, hN.set _ _, figW_set hG hN _ _, (hf.2.setCell (p := ⟨kb, 0, none⟩) hs3 _).setCell (p := ⟨kb, 1, none⟩) hs3 _⟩
                · skip
                  refine wpOp_hand (oi := ?oi145) ?hi145 (fun K hK => ?hh145)
                  case hi145 => (simp only [List.getElem?_toArray, List.getElem?_cons_succ, List.getElem?_cons_zero]; rfl)
                  go_simp
                  have hN := FgBox.new wq (.slice none 0 0) (.slice none 0 0)
                  obtain ⟨kb, hkb⟩ : ∃ b, b = wq.heap.size := ⟨_, rfl⟩
                  obtain ⟨Y, hY⟩ : ∃ Y, Y = wq.alloc (.cells #[.slice none 0 0, .slice none 0 0] 27) := ⟨_, rfl⟩
                  have bY : Below wq.heap.size wq Y := by rw [hY]; exact (Below.refl _ _).alloc (Nat.le_refl _) _
                  have hs3 : V2.heap.size ≤ kb := by rw [hkb]; exact hf.2.size
                  rw [← hY, ← hkb] at hN ⊢
                  have hfn : FgBox Y kg (.slice A' N c') (.slice B' m bc') ∧ Below V2.heap.size V2 Y := ⟨hf.1.below bY, hf.2.trans (bY.mono hf.2.size)⟩
                  clear hf
                  have hf := hfn
                  clear hfn
                  clear bY hY hkb
                  refine hK.out _ _ (heldC_two (fun _ => hf.1) (fun _ => trivial)) (fun hF => ?_)
                  clear hK K
                  try simp only [Act.put, List.setIfInBounds_toArray, List.set_cons_zero, List.set_cons_succ]
                  refine wpG_ready (rs := [29]) (by kernel_rfl) (by simp) ?_
                  refine all_one ?_
                  refine wpOp_hand (oi := ?oi146) ?hi146 (fun K hK => ?hh146)
                  case hi146 => (simp only [List.getElem?_toArray, List.getElem?_cons_succ, List.getElem?_cons_zero]; rfl)
                  go_simp
                  refine Calls.mono (whole_ok _ _) ?_
                  rintro e wq ⟨rfl, hb⟩
                  have hfn : FgBox wq kg (.slice A' N c') (.slice B' m bc') ∧ Below V2.heap.size V2 wq := ⟨hf.1.below hb, hf.2.trans (hb.mono hf.2.size)⟩
                  have hNn := hN.below hb
                  clear hN
                  have hN := hNn
                  clear hNn
                  clear hf
                  have hf := hfn
                  clear hfn
                  clear hb
                  refine hK.out _ _ (heldC_two (fun _ => hf.1) (fun _ => trivial)) (fun hF => ?_)
                  clear hK K
                  try simp only [Act.put, List.setIfInBounds_toArray, List.set_cons_zero, List.set_cons_succ]
                  refine wpG_take (oi := ?oi147) (v := ?vv147) 30 _ ?hi147 (List.Mem.head _) ?hc147 ?hQ147 hF ?hw147 ?hy147 (fun hF => ?hh147)
                  case hi147 => (simp only [List.getElem?_toArray, List.getElem?_cons_succ, List.getElem?_cons_zero]; rfl)
                  case hc147 => kernel_rfl
                  case hQ147 => exact fun _ _ _ h => h
                  case hw147 => rfl
                  case hy147 => (intro wz hz; skip; go_simp; try (with_reducible rfl))
                  try simp only [Act.put, List.setIfInBounds_toArray, List.set_cons_zero, List.set_cons_succ]
                  refine wpG_ready (rs := [31]) (by kernel_rfl) (by simp) ?_
                  refine all_one ?_
                  refine wpOp_hand (oi := ?oi148) ?hi148 (fun K hK => ?hh148)
                  case hi148 => (simp only [List.getElem?_toArray, List.getElem?_cons_succ, List.getElem?_cons_zero]; rfl)
                  go_simp
                  refine Calls.mono (HMAR.out _ (HFG.out.below hf.2)) ?_
                  rintro e wq ⟨Am, cm, Bm, bm, rfl, hG, hb⟩
                  have hfn : FgBox wq kg (.slice A' N c') (.slice B' m bc') ∧ Below V2.heap.size V2 wq := ⟨hf.1.below hb, hf.2.trans (hb.mono hf.2.size)⟩
                  have hNn := hN.below hb
                  clear hN
                  have hN := hNn
                  clear hNn
                  clear hf
                  have hf := hfn
                  clear hfn
                  clear hb
                  refine hK.out _ _ (heldC_two (fun h => absurd h (by simp)) (fun _ => trivial)) (fun hF => ?_)
                  clear hK K
                  try simp only [Act.put, List.setIfInBounds_toArray, List.set_cons_zero, List.set_cons_succ]
                  refine wpG_take (oi := ?oi149) (v := ?vv149) 32 _ ?hi149 (List.Mem.tail _ (List.Mem.head _)) ?hc149 ?hQ149 hF ?hw149 ?hy149 (fun hF => ?hh149)
                  case hi149 => (simp only [List.getElem?_toArray, List.getElem?_cons_succ, List.getElem?_cons_zero]; rfl)
                  case hc149 => kernel_rfl
                  case hQ149 => exact fun _ _ _ h => h
                  case hw149 => rfl
                  case hy149 => (intro wz hz; skip; go_simp; try (with_reducible rfl))
                  try simp only [Act.put, List.setIfInBounds_toArray, List.set_cons_zero, List.set_cons_succ]
                  refine wpG_take (oi := ?oi150) (v := ?vv150) 33 _ ?hi150 (List.Mem.tail _ (List.Mem.head _)) ?hc150 ?hQ150 hF ?hw150 ?hy150 (fun hF => ?hh150)
                  case hi150 => (simp only [List.getElem?_toArray, List.getElem?_cons_succ, List.getElem?_cons_zero]; rfl)
                  case hc150 => kernel_rfl
                  case hQ150 => exact fun _ _ _ h => h
                  case hw150 => rfl
                  case hy150 => (intro wz hz; skip; go_simp; try (with_reducible rfl))
                  try simp only [Act.put, List.setIfInBounds_toArray, List.set_cons_zero, List.set_cons_succ]
                  refine wpG_take (oi := ?oi151) (v := ?vv151) 34 _ ?hi151 (List.Mem.tail _ (List.Mem.head _)) ?hc151 ?hQ151 hF ?hw151 ?hy151 (fun hF => ?hh151)
                  case hi151 => (simp only [List.getElem?_toArray, List.getElem?_cons_succ, List.getElem?_cons_zero]; rfl)
                  case hc151 => kernel_rfl
                  case hQ151 => exact fun _ _ _ h => h
                  case hw151 => rfl
                  case hy151 => (intro wz hz; skip; go_simp; try (with_reducible rfl))
                  try simp only [Act.put, List.setIfInBounds_toArray, List.set_cons_zero, List.set_cons_succ]
                  refine wpG_ready (rs := [36]) (by kernel_rfl) (by simp) ?_
                  refine all_one ?_
                  have f0 := hN.c0; have f1 := hN.c1; have f2 := hN.free 0; have f3 := hN.free 1; have f4 := hN.lt
                  refine wpOp_hand (oi := ?oi152) ?hi152 (fun K hK => ?hh152)
                  case hi152 => (simp only [List.getElem?_toArray, List.getElem?_cons_succ, List.getElem?_cons_zero]; rfl)
                  go_simp
                  refine hK.out _ _ (heldC_two (fun h => absurd h (by simp)) (fun _ => trivial)) (fun hF => ?_)
                  clear hK K
                  try simp only [Act.put, List.setIfInBounds_toArray, List.set_cons_zero, List.set_cons_succ]
                  refine wpG_ready (rs := [37]) (by kernel_rfl) (by simp) ?_
                  refine all_one ?_
                  refine wpOp_hand (oi := ?oi153) ?hi153 (fun K hK => ?hh153)
                  case hi153 => (simp only [List.getElem?_toArray, List.getElem?_cons_succ, List.getElem?_cons_zero]; rfl)
                  go_simp
                  refine hK.out _ _ (heldC_two (fun h => absurd h (by simp)) (fun h => absurd h (by simp))) (fun hF => ?_)
                  clear hK K
                  try simp only [Act.put, List.setIfInBounds_toArray, List.set_cons_zero, List.set_cons_succ]
                  refine wpG_done (by kernel_rfl) ?_ _
                  clear f0 f1 f2 f3 f4
                  go_wp2_with fail
                  go_meet
                  exact ⟨kb, Am, cm, Bm, bm, rfl, rfl, hs3, hN.set _ _, figW_set hG hN _ _, (hf.2.setCell (p := ⟨kb, 0, none⟩) hs3 _).setCell (p := ⟨kb, 1, none⟩) hs3 _⟩
              · skip
                refine wpOp_hand (oi := ?oi154) ?hi154 (fun K hK => ?hh154)
                case hi154 => (simp only [List.getElem?_toArray, List.getElem?_cons_succ, List.getElem?_cons_zero]; rfl)
                go_simp
                have hN := FgBox.new wq (.slice none 0 0) (.slice none 0 0)
                obtain ⟨kb, hkb⟩ : ∃ b, b = wq.heap.size := ⟨_, rfl⟩
                obtain ⟨Y, hY⟩ : ∃ Y, Y = wq.alloc (.cells #[.slice none 0 0, .slice none 0 0] 27) := ⟨_, rfl⟩
                have bY : Below wq.heap.size wq Y := by rw [hY]; exact (Below.refl _ _).alloc (Nat.le_refl _) _
                have hs3 : V2.heap.size ≤ kb := by rw [hkb]; exact hf.2.size
                rw [← hY, ← hkb] at hN ⊢
                have hfn : FgBox Y kg (.slice A' N c') (.slice B' m bc') ∧ Below V2.heap.size V2 Y := ⟨hf.1.below bY, hf.2.trans (bY.mono hf.2.size)⟩
                clear hf
                have hf := hfn
                clear hfn
                clear bY hY hkb
                refine hK.out _ _ (heldC_two (fun _ => hf.1) (fun _ => trivial)) (fun hF => ?_)
                clear hK K
                try simp only [Act.put, List.setIfInBounds_toArray, List.set_cons_zero, List.set_cons_succ]
                refine wpG_ready (rs := [23]) (by kernel_rfl) (by simp) ?_
                refine all_one ?_
                refine wpOp_hand (oi := ?oi155) ?hi155 (fun K hK => ?hh155)
                case hi155 => (simp only [List.getElem?_toArray, List.getElem?_cons_succ, List.getElem?_cons_zero]; rfl)
                go_simp
                refine Calls.mono (whole_ok _ _) ?_
                rintro e wq ⟨rfl, hb⟩
                have hfn : FgBox wq kg (.slice A' N c') (.slice B' m bc') ∧ Below V2.heap.size V2 wq := ⟨hf.1.below hb, hf.2.trans (hb.mono hf.2.size)⟩
                have hNn := hN.below hb
                clear hN
                have hN := hNn
                clear hNn
                clear hf
                have hf := hfn
                clear hfn
                clear hb
                refine hK.out _ _ (heldC_two (fun _ => hf.1) (fun _ => trivial)) (fun hF => ?_)
                clear hK K
                try simp only [Act.put, List.setIfInBounds_toArray, List.set_cons_zero, List.set_cons_succ]
                refine wpG_ready (rs := [29]) (by kernel_rfl) (by simp) ?_
                refine all_one ?_
                refine wpOp_hand (oi := ?oi156) ?hi156 (fun K hK => ?hh156)
                case hi156 => (simp only [List.getElem?_toArray, List.getElem?_cons_succ, List.getElem?_cons_zero]; rfl)
                go_simp
                refine Calls.mono (whole_ok _ _) ?_
                rintro e wq ⟨rfl, hb⟩
                have hfn : FgBox wq kg (.slice A' N c') (.slice B' m bc') ∧ Below V2.heap.size V2 wq := ⟨hf.1.below hb, hf.2.trans (hb.mono hf.2.size)⟩
                have hNn := hN.below hb
                clear hN
                have hN := hNn
                clear hNn
                clear hf
                have hf := hfn
                clear hfn
                clear hb
                refine hK.out _ _ (heldC_two (fun _ => hf.1) (fun _ => trivial)) (fun hF => ?_)
                clear hK K
                try simp only [Act.put, List.setIfInBounds_toArray, List.set_cons_zero, List.set_cons_succ]
                refine wpG_take (oi := ?oi157) (v := ?vv157) 30 _ ?hi157 (List.Mem.head _) ?hc157 ?hQ157 hF ?hw157 ?hy157 (fun hF => ?hh157)
                case hi157 => (simp only [List.getElem?_toArray, List.getElem?_cons_succ, List.getElem?_cons_zero]; rfl)
                case hc157 => kernel_rfl
                case hQ157 => exact fun _ _ _ h => h
                case hw157 => rfl
                case hy157 => (intro wz hz; skip; go_simp; try (with_reducible rfl))
                try simp only [Act.put, List.setIfInBounds_toArray, List.set_cons_zero, List.set_cons_succ]
                refine wpG_ready (rs := [31]) (by kernel_rfl) (by simp) ?_
                refine all_one ?_
                refine wpOp_hand (oi := ?oi158) ?hi158 (fun K hK => ?hh158)
                case hi158 => (simp only [List.getElem?_toArray, List.getElem?_cons_succ, List.getElem?_cons_zero]; rfl)
                go_simp
                refine Calls.mono (HMAR.out _ (HFG.out.below hf.2)) ?_
                rintro e wq ⟨Am, cm, Bm, bm, rfl, hG, hb⟩
                have hfn : FgBox wq kg (.slice A' N c') (.slice B' m bc') ∧ Below V2.heap.size V2 wq := ⟨hf.1.below hb, hf.2.trans (hb.mono hf.2.size)⟩
                have hNn := hN.below hb
                clear hN
                have hN := hNn
                clear hNn
                clear hf
                have hf := hfn
                clear hfn
                clear hb
                refine hK.out _ _ (heldC_two (fun h => absurd h (by simp)) (fun _ => trivial)) (fun hF => ?_)
                clear hK K
                try simp only [Act.put, List.setIfInBounds_toArray, List.set_cons_zero, List.set_cons_succ]
                refine wpG_take (oi := ?oi159) (v := ?vv159) 32 _ ?hi159 (List.Mem.tail _ (List.Mem.head _)) ?hc159 ?hQ159 hF ?hw159 ?hy159 (fun hF => ?hh159)
                case hi159 => (simp only [List.getElem?_toArray, List.getElem?_cons_succ, List.getElem?_cons_zero]; rfl)
                case hc159 => kernel_rfl
                case hQ159 => exact fun _ _ _ h => h
                case hw159 => rfl
                case hy159 => (intro wz hz; skip; go_simp; try (with_reducible rfl))
                try simp only [Act.put, List.setIfInBounds_toArray, List.set_cons_zero, List.set_cons_succ]
                refine wpG_take (oi := ?oi160) (v := ?vv160) 33 _ ?hi160 (List.Mem.tail _ (List.Mem.head _)) ?hc160 ?hQ160 hF ?hw160 ?hy160 (fun hF => ?hh160)
                case hi160 => (simp only [List.getElem?_toArray, List.getElem?_cons_succ, List.getElem?_cons_zero]; rfl)
                case hc160 => kernel_rfl
                case hQ160 => exact fun _ _ _ h => h
                case hw160 => rfl
                case hy160 => (intro wz hz; skip; go_simp; try (with_reducible rfl))
                try simp only [Act.put, List.setIfInBounds_toArray, List.set_cons_zero, List.set_cons_succ]
                refine wpG_take (oi := ?oi161) (v := ?vv161) 34 _ ?hi161 (List.Mem.tail _ (List.Mem.head _)) ?hc161 ?hQ161 hF ?hw161 ?hy161 (fun hF => ?hh161)
                case hi161 => (simp only [List.getElem?_toArray, List.getElem?_cons_succ, List.getElem?_cons_zero]; rfl)
                case hc161 => kernel_rfl
                case hQ161 => exact fun _ _ _ h => h
                case hw161 => rfl
                case hy161 => (intro wz hz; skip; go_simp; try (with_reducible rfl))
                try simp only [Act.put, List.setIfInBounds_toArray, List.set_cons_zero, List.set_cons_succ]
                refine wpG_ready (rs := [36]) (by kernel_rfl) (by simp) ?_
                refine all_one ?_
                have f0 := hN.c0; have f1 := hN.c1; have f2 := hN.free 0; have f3 := hN.free 1; have f4 := hN.lt
                refine wpOp_hand (oi := ?oi162) ?hi162 (fun K hK => ?hh162)
                case hi162 => (simp only [List.getElem?_toArray, List.getElem?_cons_succ, List.getElem?_cons_zero]; rfl)
                go_simp
                refine hK.out _ _ (heldC_two (fun h => absurd h (by simp)) (fun _ => trivial)) (fun hF => ?_)
                clear hK K
                try simp only [Act.put, List.setIfInBounds_toArray, List.set_cons_zero, List.set_cons_succ]
                refine wpG_ready (rs := [37]) (by kernel_rfl) (by simp) ?_
                refine all_one ?_
                refine wpOp_hand (oi := ?oi163) ?hi163 (fun K hK => ?hh163)
                case hi163 => (simp only [List.getElem?_toArray, List.getElem?_cons_succ, List.getElem?_cons_zero]; rfl)
                go_simp
                refine hK.out _ _ (heldC_two (fun h => absurd h (by simp)) (fun h => absurd h (by simp))) (fun hF => ?_)
                clear hK K
                try simp only [Act.put, List.setIfInBounds_toArray, List.set_cons_zero, List.set_cons_succ]
                refine wpG_done (by kernel_rfl) ?_ _
                clear f0 f1 f2 f3 f4
                go_wp2_with fail
                go_meet
                exact ⟨kb, Am, cm, Bm, bm, rfl, rfl, hs3, hN.set _ _, figW_set hG hN _ _, (hf.2.setCell (p := ⟨kb, 0, none⟩) hs3 _).setCell (p := ⟨kb, 1, none⟩) hs3 _⟩
            · skip
              refine wpOp_hand (oi := ?oi164) ?hi164 (fun K hK => ?hh164)
              case hi164 => (simp only [List.getElem?_toArray, List.getElem?_cons_succ, List.getElem?_cons_zero]; rfl)
              go_simp
              have hN := FgBox.new wq (.slice none 0 0) (.slice none 0 0)
              obtain ⟨kb, hkb⟩ : ∃ b, b = wq.heap.size := ⟨_, rfl⟩
              obtain ⟨Y, hY⟩ : ∃ Y, Y = wq.alloc (.cells #[.slice none 0 0, .slice none 0 0] 27) := ⟨_, rfl⟩
              have bY : Below wq.heap.size wq Y := by rw [hY]; exact (Below.refl _ _).alloc (Nat.le_refl _) _
              have hs3 : V2.heap.size ≤ kb := by rw [hkb]; exact hf.2.size
              rw [← hY, ← hkb] at hN ⊢
              have hfn : FgBox Y kg (.slice A' N c') (.slice B' m bc') ∧ Below V2.heap.size V2 Y := ⟨hf.1.below bY, hf.2.trans (bY.mono hf.2.size)⟩
              clear hf
              have hf := hfn
              clear hfn
              clear bY hY hkb
              refine hK.out _ _ (heldC_two (fun _ => hf.1) (fun _ => trivial)) (fun hF => ?_)
              clear hK K
              try simp only [Act.put, List.setIfInBounds_toArray, List.set_cons_zero, List.set_cons_succ]
              refine wpG_ready (rs := [22]) (by kernel_rfl) (by simp) ?_
              refine all_one ?_
              refine wpOp_hand (oi := ?oi165) ?hi165 (fun K hK => ?hh165)
              case hi165 => (simp only [List.getElem?_toArray, List.getElem?_cons_succ, List.getElem?_cons_zero]; rfl)
              go_simp
              refine Calls.mono (whole_ok _ _) ?_
              rintro e wq ⟨rfl, hb⟩
              have hfn : FgBox wq kg (.slice A' N c') (.slice B' m bc') ∧ Below V2.heap.size V2 wq := ⟨hf.1.below hb, hf.2.trans (hb.mono hf.2.size)⟩
              have hNn := hN.below hb
              clear hN
              have hN := hNn
              clear hNn
              clear hf
              have hf := hfn
              clear hfn
              clear hb
              refine hK.out _ _ (heldC_two (fun _ => hf.1) (fun _ => trivial)) (fun hF => ?_)
              clear hK K
              try simp only [Act.put, List.setIfInBounds_toArray, List.set_cons_zero, List.set_cons_succ]
              refine wpG_ready (rs := [23]) (by kernel_rfl) (by simp) ?_
              refine all_one ?_
              refine wpOp_hand (oi := ?oi166) ?hi166 (fun K hK => ?hh166)
              case hi166 => (simp only [List.getElem?_toArray, List.getElem?_cons_succ, List.getElem?_cons_zero]; rfl)
              go_simp
              refine Calls.mono (whole_ok _ _) ?_
              rintro e wq ⟨rfl, hb⟩
              have hfn : FgBox wq kg (.slice A' N c') (.slice B' m bc') ∧ Below V2.heap.size V2 wq := ⟨hf.1.below hb, hf.2.trans (hb.mono hf.2.size)⟩
              have hNn := hN.below hb
              clear hN
              have hN := hNn
              clear hNn
              clear hf
              have hf := hfn
              clear hfn
              clear hb
              refine hK.out _ _ (heldC_two (fun _ => hf.1) (fun _ => trivial)) (fun hF => ?_)
              clear hK K
              try simp only [Act.put, List.setIfInBounds_toArray, List.set_cons_zero, List.set_cons_succ]
              refine wpG_ready (rs := [29]) (by kernel_rfl) (by simp) ?_
              refine all_one ?_
              refine wpOp_hand (oi := ?oi167) ?hi167 (fun K hK => ?hh167)
              case hi167 => (simp only [List.getElem?_toArray, List.getElem?_cons_succ, List.getElem?_cons_zero]; rfl)
              go_simp
              refine Calls.mono (whole_ok _ _) ?_
              rintro e wq ⟨rfl, hb⟩
              have hfn : FgBox wq kg (.slice A' N c') (.slice B' m bc') ∧ Below V2.heap.size V2 wq := ⟨hf.1.below hb, hf.2.trans (hb.mono hf.2.size)⟩
              have hNn := hN.below hb
              clear hN
              have hN := hNn
              clear hNn
              clear hf
              have hf := hfn
              clear hfn
              clear hb
              refine hK.out _ _ (heldC_two (fun _ => hf.1) (fun _ => trivial)) (fun hF => ?_)
              clear hK K
              try simp only [Act.put, List.setIfInBounds_toArray, List.set_cons_zero, List.set_cons_succ]
              refine wpG_take (oi := ?oi168) (v := ?vv168) 30 _ ?hi168 (List.Mem.head _) ?hc168 ?hQ168 hF ?hw168 ?hy168 (fun hF => ?hh168)
              case hi168 => (simp only [List.getElem?_toArray, List.getElem?_cons_succ, List.getElem?_cons_zero]; rfl)
              case hc168 => kernel_rfl
              case hQ168 => exact fun _ _ _ h => h
              case hw168 => rfl
              case hy168 => (intro wz hz; skip; go_simp; try (with_reducible rfl))
              try simp only [Act.put, List.setIfInBounds_toArray, List.set_cons_zero, List.set_cons_succ]
              refine wpG_ready (rs := [31]) (by kernel_rfl) (by simp) ?_
              refine all_one ?_
              refine wpOp_hand (oi := ?oi169) ?hi169 (fun K hK => ?hh169)
              case hi169 => (simp only [List.getElem?_toArray, List.getElem?_cons_succ, List.getElem?_cons_zero]; rfl)
              go_simp
              refine Calls.mono (HMAR.out _ (HFG.out.below hf.2)) ?_
              rintro e wq ⟨Am, cm, Bm, bm, rfl, hG, hb⟩
              have hfn : FgBox wq kg (.slice A' N c') (.slice B' m bc') ∧ Below V2.heap.size V2 wq := ⟨hf.1.below hb, hf.2.trans (hb.mono hf.2.size)⟩
              have hNn := hN.below hb
              clear hN
              have hN := hNn
              clear hNn
              clear hf
              have hf := hfn
              clear hfn
              clear hb
              refine hK.out _ _ (heldC_two (fun h => absurd h (by simp)) (fun _ => trivial)) (fun hF => ?_)
              clear hK K
              try simp only [Act.put, List.setIfInBounds_toArray, List.set_cons_zero, List.set_cons_succ]
              refine wpG_take (oi := ?oi170) (v := ?vv170) 32 _ ?hi170 (List.Mem.tail _ (List.Mem.head _)) ?hc170 ?hQ170 hF ?hw170 ?hy170 (fun hF => ?hh170)
              case hi170 => (simp only [List.getElem?_toArray, List.getElem?_cons_succ, List.getElem?_cons_zero]; rfl)
              case hc170 => kernel_rfl
              case hQ170 => exact fun _ _ _ h => h
              case hw170 => rfl
              case hy170 => (intro wz hz; skip; go_simp; try (with_reducible rfl))
              try simp only [Act.put, List.setIfInBounds_toArray, List.set_cons_zero, List.set_cons_succ]
              refine wpG_take (oi := ?oi171) (v := ?vv171) 33 _ ?hi171 (List.Mem.tail _ (List.Mem.head _)) ?hc171 ?hQ171 hF ?hw171 ?hy171 (fun hF => ?hh171)
              case hi171 => (simp only [List.getElem?_toArray, List.getElem?_cons_succ, List.getElem?_cons_zero]; rfl)
              case hc171 => kernel_rfl
              case hQ171 => exact fun _ _ _ h => h
              case hw171 => rfl
              case hy171 => (intro wz hz; skip; go_simp; try (with_reducible rfl))
              try simp only [Act.put, List.setIfInBounds_toArray, List.set_cons_zero, List.set_cons_succ]
              refine wpG_take (oi := ?oi172) (v := ?vv172) 34 _ ?hi172 (List.Mem.tail _ (List.Mem.head _)) ?hc172 ?hQ172 hF ?hw172 ?hy172 (fun hF => ?hh172)
              case hi172 => (simp only [List.getElem?_toArray, List.getElem?_cons_succ, List.getElem?_cons_zero]; rfl)
              case hc172 => kernel_rfl
              case hQ172 => exact fun _ _ _ h => h
              case hw172 => rfl
              case hy172 => (intro wz hz; skip; go_simp; try (with_reducible rfl))
              try simp only [Act.put, List.setIfInBounds_toArray, List.set_cons_zero, List.set_cons_succ]
              refine wpG_ready (rs := [36]) (by kernel_rfl) (by simp) ?_
              refine all_one ?_
              have f0 := hN.c0; have f1 := hN.c1; have f2 := hN.free 0; have f3 := hN.free 1; have f4 := hN.lt
              refine wpOp_hand (oi := ?oi173) ?hi173 (fun K hK => ?hh173)
              case hi173 => (simp only [List.getElem?_toArray, List.getElem?_cons_succ, List.getElem?_cons_zero]; rfl)
              go_simp
              refine hK.out _ _ (heldC_two (fun h => absurd h (by simp)) (fun _ => trivial)) (fun hF => ?_)
              clear hK K
              try simp only [Act.put, List.setIfInBounds_toArray, List.set_cons_zero, List.set_cons_succ]
              refine wpG_ready (rs := [37]) (by kernel_rfl) (by simp) ?_
              refine all_one ?_
              refine wpOp_hand (oi := ?oi174) ?hi174 (fun K hK => ?hh174)
              case hi174 => (simp only [List.getElem?_toArray, List.getElem?_cons_succ, List.getElem?_cons_zero]; rfl)
              go_simp
              refine hK.out _ _ (heldC_two (fun h => absurd h (by simp)) (fun h => absurd h (by simp))) (fun hF => ?_)
              clear hK K
              try simp only [Act.put, List.setIfInBounds_toArray, List.set_cons_zero, List.set_cons_succ]
              refine wpG_done (by kernel_rfl) ?_ _
              clear f0 f1 f2 f3 f4
              go_wp2_with fail
              go_meet
              exact ⟨kb, Am, cm, Bm, bm, rfl, rfl, hs3, hN.set _ _, figW_set hG hN _ _, (hf.2.setCell (p := ⟨kb, 0, none⟩) hs3 _).setCell (p := ⟨kb, 1, none⟩) hs3 _⟩
          · skip
            refine wpOp_hand (oi := ?oi175) ?hi175 (fun K hK => ?hh175)
            case hi175 => (simp only [List.getElem?_toArray, List.getElem?_cons_succ, List.getElem?_cons_zero]; rfl)
            go_simp
            have hN := FgBox.new wq (.slice none 0 0) (.slice none 0 0)
            obtain ⟨kb, hkb⟩ : ∃ b, b = wq.heap.size := ⟨_, rfl⟩
            obtain ⟨Y, hY⟩ : ∃ Y, Y = wq.alloc (.cells #[.slice none 0 0, .slice none 0 0] 27) := ⟨_, rfl⟩
            have bY : Below wq.heap.size wq Y := by rw [hY]; exact (Below.refl _ _).alloc (Nat.le_refl _) _
            have hs3 : V2.heap.size ≤ kb := by rw [hkb]; exact hf.2.size
            rw [← hY, ← hkb] at hN ⊢
            have hfn : FgBox Y kg (.slice A' N c') (.slice B' m bc') ∧ Below V2.heap.size V2 Y := ⟨hf.1.below bY, hf.2.trans (bY.mono hf.2.size)⟩
            clear hf
            have hf := hfn
            clear hfn
            clear bY hY hkb
            refine hK.out _ _ (heldC_two (fun _ => hf.1) (fun _ => trivial)) (fun hF => ?_)
            clear hK K
            try simp only [Act.put, List.setIfInBounds_toArray, List.set_cons_zero, List.set_cons_succ]
            refine wpG_ready (rs := [19]) (by kernel_rfl) (by simp) ?_
            refine all_one ?_
            refine wpOp_hand (oi := ?oi176) ?hi176 (fun K hK => ?hh176)
            case hi176 => (simp only [List.getElem?_toArray, List.getElem?_cons_succ, List.getElem?_cons_zero]; rfl)
            go_simp
            refine Calls.mono (whole_ok _ _) ?_
            rintro e wq ⟨rfl, hb⟩
            have hfn : FgBox wq kg (.slice A' N c') (.slice B' m bc') ∧ Below V2.heap.size V2 wq := ⟨hf.1.below hb, hf.2.trans (hb.mono hf.2.size)⟩
            have hNn := hN.below hb
            clear hN
            have hN := hNn
            clear hNn
            clear hf
            have hf := hfn
            clear hfn
            clear hb
            refine hK.out _ _ (heldC_two (fun _ => hf.1) (fun _ => trivial)) (fun hF => ?_)
            clear hK K
            try simp only [Act.put, List.setIfInBounds_toArray, List.set_cons_zero, List.set_cons_succ]
            refine wpG_ready (rs := [22]) (by kernel_rfl) (by simp) ?_
            refine all_one ?_
            refine wpOp_hand (oi := ?oi177) ?hi177 (fun K hK => ?hh177)
            case hi177 => (simp only [List.getElem?_toArray, List.getElem?_cons_succ, List.getElem?_cons_zero]; rfl)
            go_simp
            refine Calls.mono (whole_ok _ _) ?_
            rintro e wq ⟨rfl, hb⟩
            have hfn : FgBox wq kg (.slice A' N c') (.slice B' m bc') ∧ Below V2.heap.size V2 wq := ⟨hf.1.below hb, hf.2.trans (hb.mono hf.2.size)⟩
            have hNn := hN.below hb
            clear hN
            have hN := hNn
            clear hNn
            clear hf
            have hf := hfn
            clear hfn
            clear hb
            refine hK.out _ _ (heldC_two (fun _ => hf.1) (fun _ => trivial)) (fun hF => ?_)
            clear hK K
            try simp only [Act.put, List.setIfInBounds_toArray, List.set_cons_zero, List.set_cons_succ]
            refine wpG_ready (rs := [23]) (by kernel_rfl) (by simp) ?_
            refine all_one ?_
            refine wpOp_hand (oi := ?oi178) ?hi178 (fun K hK => ?hh178)
            case hi178 => (simp only [List.getElem?_toArray, List.getElem?_cons_succ, List.getElem?_cons_zero]; rfl)
            go_simp
            refine Calls.mono (whole_ok _ _) ?_
            rintro e wq ⟨rfl, hb⟩
            have hfn : FgBox wq kg (.slice A' N c') (.slice B' m bc') ∧ Below V2.heap.size V2 wq := ⟨hf.1.below hb, hf.2.trans (hb.mono hf.2.size)⟩
            have hNn := hN.below hb
            clear hN
            have hN := hNn
            clear hNn
            clear hf
            have hf := hfn
            clear hfn
            clear hb
            refine hK.out _ _ (heldC_two (fun _ => hf.1) (fun _ => trivial)) (fun hF => ?_)
            clear hK K
            try simp only [Act.put, List.setIfInBounds_toArray, List.set_cons_zero, List.set_cons_succ]
            refine wpG_ready (rs := [29]) (by kernel_rfl) (by simp) ?_
            refine all_one ?_
            refine wpOp_hand (oi := ?oi179) ?hi179 (fun K hK => ?hh179)
            case hi179 => (simp only [List.getElem?_toArray, List.getElem?_cons_succ, List.getElem?_cons_zero]; rfl)
            go_simp
            refine Calls.mono (whole_ok _ _) ?_
            rintro e wq ⟨rfl, hb⟩
            have hfn : FgBox wq kg (.slice A' N c') (.slice B' m bc') ∧ Below V2.heap.size V2 wq := ⟨hf.1.below hb, hf.2.trans (hb.mono hf.2.size)⟩
            have hNn := hN.below hb
            clear hN
            have hN := hNn
            clear hNn
            clear hf
            have hf := hfn
            clear hfn
            clear hb
            refine hK.out _ _ (heldC_two (fun _ => hf.1) (fun _ => trivial)) (fun hF => ?_)
            clear hK K
            try simp only [Act.put, List.setIfInBounds_toArray, List.set_cons_zero, List.set_cons_succ]
            refine wpG_take (oi := ?oi180) (v := ?vv180) 30 _ ?hi180 (List.Mem.head _) ?hc180 ?hQ180 hF ?hw180 ?hy180 (fun hF => ?hh180)
            case hi180 => (simp only [List.getElem?_toArray, List.getElem?_cons_succ, List.getElem?_cons_zero]; rfl)
            case hc180 => kernel_rfl
            case hQ180 => exact fun _ _ _ h => h
            case hw180 => rfl
            case hy180 => (intro wz hz; skip; go_simp; try (with_reducible rfl))
            try simp only [Act.put, List.setIfInBounds_toArray, List.set_cons_zero, List.set_cons_succ]
            refine wpG_ready (rs := [31]) (by kernel_rfl) (by simp) ?_
            refine all_one ?_
            refine wpOp_hand (oi := ?oi181) ?hi181 (fun K hK => ?hh181)
            case hi181 => (simp only [List.getElem?_toArray, List.getElem?_cons_succ, List.getElem?_cons_zero]; rfl)
            go_simp
            refine Calls.mono (HMAR.out _ (HFG.out.below hf.2)) ?_
            rintro e wq ⟨Am, cm, Bm, bm, rfl, hG, hb⟩
            have hfn : FgBox wq kg (.slice A' N c') (.slice B' m bc') ∧ Below V2.heap.size V2 wq := ⟨hf.1.below hb, hf.2.trans (hb.mono hf.2.size)⟩
            have hNn := hN.below hb
            clear hN
            have hN := hNn
            clear hNn
            clear hf
            have hf := hfn
            clear hfn
            clear hb
            refine hK.out _ _ (heldC_two (fun h => absurd h (by simp)) (fun _ => trivial)) (fun hF => ?_)
            clear hK K
            try simp only [Act.put, List.setIfInBounds_toArray, List.set_cons_zero, List.set_cons_succ]
            refine wpG_take (oi := ?oi182) (v := ?vv182) 32 _ ?hi182 (List.Mem.tail _ (List.Mem.head _)) ?hc182 ?hQ182 hF ?hw182 ?hy182 (fun hF => ?hh182)
            case hi182 => (simp only [List.getElem?_toArray, List.getElem?_cons_succ, List.getElem?_cons_zero]; rfl)
            case hc182 => kernel_rfl
            case hQ182 => exact fun _ _ _ h => h
            case hw182 => rfl
            case hy182 => (intro wz hz; skip; go_simp; try (with_reducible rfl))
            try simp only [Act.put, List.setIfInBounds_toArray, List.set_cons_zero, List.set_cons_succ]
            refine wpG_take (oi := ?oi183) (v := ?vv183) 33 _ ?hi183 (List.Mem.tail _ (List.Mem.head _)) ?hc183 ?hQ183 hF ?hw183 ?hy183 (fun hF => ?hh183)
            case hi183 => (simp only [List.getElem?_toArray, List.getElem?_cons_succ, List.getElem?_cons_zero]; rfl)
            case hc183 => kernel_rfl
            case hQ183 => exact fun _ _ _ h => h
            case hw183 => rfl
            case hy183 => (intro wz hz; skip; go_simp; try (with_reducible rfl))
            try simp only [Act.put, List.setIfInBounds_toArray, List.set_cons_zero, List.set_cons_succ]
            refine wpG_take (oi := ?oi184) (v := ?vv184) 34 _ ?hi184 (List.Mem.tail _ (List.Mem.head _)) ?hc184 ?hQ184 hF ?hw184 ?hy184 (fun hF => ?hh184)
            case hi184 => (simp only [List.getElem?_toArray, List.getElem?_cons_succ, List.getElem?_cons_zero]; rfl)
            case hc184 => kernel_rfl
            case hQ184 => exact fun _ _ _ h => h
            case hw184 => rfl
            case hy184 => (intro wz hz; skip; go_simp; try (with_reducible rfl))
            try simp only [Act.put, List.setIfInBounds_toArray, List.set_cons_zero, List.set_cons_succ]
            refine wpG_ready (rs := [36]) (by kernel_rfl) (by simp) ?_
            refine all_one ?_
            have f0 := hN.c0; have f1 := hN.c1; have f2 := hN.free 0; have f3 := hN.free 1; have f4 := hN.lt
            refine wpOp_hand (oi := ?oi185) ?hi185 (fun K hK => ?hh185)
            case hi185 => (simp only [List.getElem?_toArray, List.getElem?_cons_succ, List.getElem?_cons_zero]; rfl)
            go_simp
            refine hK.out _ _ (heldC_two (fun h => absurd h (by simp)) (fun _ => trivial)) (fun hF => ?_)
            clear hK K
            try simp only [Act.put, List.setIfInBounds_toArray, List.set_cons_zero, List.set_cons_succ]
            refine wpG_ready (rs := [37]) (by kernel_rfl) (by simp) ?_
            refine all_one ?_
            refine wpOp_hand (oi := ?oi186) ?hi186 (fun K hK => ?hh186)
            case hi186 => (simp only [List.getElem?_toArray, List.getElem?_cons_succ, List.getElem?_cons_zero]; rfl)
            go_simp
            refine hK.out _ _ (heldC_two (fun h => absurd h (by simp)) (fun h => absurd h (by simp))) (fun hF => ?_)
            clear hK K
            try simp only [Act.put, List.setIfInBounds_toArray, List.set_cons_zero, List.set_cons_succ]
            refine wpG_done (by kernel_rfl) ?_ _
            clear f0 f1 f2 f3 f4
            go_wp2_with fail
            go_meet
            exact ⟨kb, Am, cm, Bm, bm, rfl, rfl, hs3, hN.set _ _, figW_set hG hN _ _, (hf.2.setCell (p := ⟨kb, 0, none⟩) hs3 _).setCell (p := ⟨kb, 1, none⟩) hs3 _⟩
        · skip
          refine wpOp_hand (oi := ?oi187) ?hi187 (fun K hK => ?hh187)
          case hi187 => (simp only [List.getElem?_toArray, List.getElem?_cons_succ, List.getElem?_cons_zero]; rfl)
          go_simp
          have hN := FgBox.new wq (.slice none 0 0) (.slice none 0 0)
          obtain ⟨kb, hkb⟩ : ∃ b, b = wq.heap.size := ⟨_, rfl⟩
          obtain ⟨Y, hY⟩ : ∃ Y, Y = wq.alloc (.cells #[.slice none 0 0, .slice none 0 0] 27) := ⟨_, rfl⟩
          have bY : Below wq.heap.size wq Y := by rw [hY]; exact (Below.refl _ _).alloc (Nat.le_refl _) _
          have hs3 : V2.heap.size ≤ kb := by rw [hkb]; exact hf.2.size
          rw [← hY, ← hkb] at hN ⊢
          have hfn : FgBox Y kg (.slice A' N c') (.slice B' m bc') ∧ Below V2.heap.size V2 Y := ⟨hf.1.below bY, hf.2.trans (bY.mono hf.2.size)⟩
          clear hf
          have hf := hfn
          clear hfn
          clear bY hY hkb
          refine hK.out _ _ (heldC_two (fun _ => hf.1) (fun _ => trivial)) (fun hF => ?_)
          clear hK K
          try simp only [Act.put, List.setIfInBounds_toArray, List.set_cons_zero, List.set_cons_succ]
          refine wpG_ready (rs := [8]) (by kernel_rfl) (by simp) ?_
          refine all_one ?_
          refine wpOp_hand (oi := ?oi188) ?hi188 (fun K hK => ?hh188)
          case hi188 => (simp only [List.getElem?_toArray, List.getElem?_cons_succ, List.getElem?_cons_zero]; rfl)
          go_simp
          refine Calls.mono (whole_ok _ _) ?_
          rintro e wq ⟨rfl, hb⟩
          have hfn : FgBox wq kg (.slice A' N c') (.slice B' m bc') ∧ Below V2.heap.size V2 wq := ⟨hf.1.below hb, hf.2.trans (hb.mono hf.2.size)⟩
          have hNn := hN.below hb
          clear hN
          have hN := hNn
          clear hNn
          clear hf
          have hf := hfn
          clear hfn
          clear hb
          refine hK.out _ _ (heldC_two (fun _ => hf.1) (fun _ => trivial)) (fun hF => ?_)
          clear hK K
          try simp only [Act.put, List.setIfInBounds_toArray, List.set_cons_zero, List.set_cons_succ]
          refine wpG_ready (rs := [19]) (by kernel_rfl) (by simp) ?_
          refine all_one ?_
          refine wpOp_hand (oi := ?oi189) ?hi189 (fun K hK => ?hh189)
          case hi189 => (simp only [List.getElem?_toArray, List.getElem?_cons_succ, List.getElem?_cons_zero]; rfl)
          go_simp
          refine Calls.mono (whole_ok _ _) ?_
          rintro e wq ⟨rfl, hb⟩
          have hfn : FgBox wq kg (.slice A' N c') (.slice B' m bc') ∧ Below V2.heap.size V2 wq := ⟨hf.1.below hb, hf.2.trans (hb.mono hf.2.size)⟩
          have hNn := hN.below hb
          clear hN
          have hN := hNn
          clear hNn
          clear hf
          have hf := hfn
          clear hfn
          clear hb
          refine hK.out _ _ (heldC_two (fun _ => hf.1) (fun _ => trivial)) (fun hF => ?_)
          clear hK K
          try simp only [Act.put, List.setIfInBounds_toArray, List.set_cons_zero, List.set_cons_succ]
          refine wpG_ready (rs := [22]) (by kernel_rfl) (by simp) ?_
          refine all_one ?_
          refine wpOp_hand (oi := ?oi190) ?hi190 (fun K hK => ?hh190)
          case hi190 => (simp only [List.getElem?_toArray, List.getElem?_cons_succ, List.getElem?_cons_zero]; rfl)
          go_simp
          refine Calls.mono (whole_ok _ _) ?_
          rintro e wq ⟨rfl, hb⟩
          have hfn : FgBox wq kg (.slice A' N c') (.slice B' m bc') ∧ Below V2.heap.size V2 wq := ⟨hf.1.below hb, hf.2.trans (hb.mono hf.2.size)⟩
          have hNn := hN.below hb
          clear hN
          have hN := hNn
          clear hNn
          clear hf
          have hf := hfn
          clear hfn
          clear hb
          refine hK.out _ _ (heldC_two (fun _ => hf.1) (fun _ => trivial)) (fun hF => ?_)
          clear hK K
          try simp only [Act.put, List.setIfInBounds_toArray, List.set_cons_zero, List.set_cons_succ]
          refine wpG_ready (rs := [23]) (by kernel_rfl) (by simp) ?_
          refine all_one ?_
          refine wpOp_hand (oi := ?oi191) ?hi191 (fun K hK => ?hh191)
          case hi191 => (simp only [List.getElem?_toArray, List.getElem?_cons_succ, List.getElem?_cons_zero]; rfl)
          go_simp
          refine Calls.mono (whole_ok _ _) ?_
          rintro e wq ⟨rfl, hb⟩
          have hfn : FgBox wq kg (.slice A' N c') (.slice B' m bc') ∧ Below V2.heap.size V2 wq := ⟨hf.1.below hb, hf.2.trans (hb.mono hf.2.size)⟩
          have hNn := hN.below hb
          clear hN
          have hN := hNn
          clear hNn
          clear hf
          have hf := hfn
          clear hfn
          clear hb
          refine hK.out _ _ (heldC_two (fun _ => hf.1) (fun _ => trivial)) (fun hF => ?_)
          clear hK K
          try simp only [Act.put, List.setIfInBounds_toArray, List.set_cons_zero, List.set_cons_succ]
          refine wpG_ready (rs := [29]) (by kernel_rfl) (by simp) ?_
          refine all_one ?_
          refine wpOp_hand (oi := ?oi192) ?hi192 (fun K hK => ?hh192)
          case hi192 => (simp only [List.getElem?_toArray, List.getElem?_cons_succ, List.getElem?_cons_zero]; rfl)
          go_simp
          refine Calls.mono (whole_ok _ _) ?_
          rintro e wq ⟨rfl, hb⟩
          have hfn : FgBox wq kg (.slice A' N c') (.slice B' m bc') ∧ Below V2.heap.size V2 wq := ⟨hf.1.below hb, hf.2.trans (hb.mono hf.2.size)⟩
          have hNn := hN.below hb
          clear hN
          have hN := hNn
          clear hNn
          clear hf
          have hf := hfn
          clear hfn
          clear hb
          refine hK.out _ _ (heldC_two (fun _ => hf.1) (fun _ => trivial)) (fun hF => ?_)
          clear hK K
          try simp only [Act.put, List.setIfInBounds_toArray, List.set_cons_zero, List.set_cons_succ]
          refine wpG_take (oi := ?oi193) (v := ?vv193) 30 _ ?hi193 (List.Mem.head _) ?hc193 ?hQ193 hF ?hw193 ?hy193 (fun hF => ?hh193)
          case hi193 => (simp only [List.getElem?_toArray, List.getElem?_cons_succ, List.getElem?_cons_zero]; rfl)
          case hc193 => kernel_rfl
          case hQ193 => exact fun _ _ _ h => h
          case hw193 => rfl
          case hy193 => (intro wz hz; skip; go_simp; try (with_reducible rfl))
          try simp only [Act.put, List.setIfInBounds_toArray, List.set_cons_zero, List.set_cons_succ]
          refine wpG_ready (rs := [31]) (by kernel_rfl) (by simp) ?_
          refine all_one ?_
          refine wpOp_hand (oi := ?oi194) ?hi194 (fun K hK => ?hh194)
          case hi194 => (simp only [List.getElem?_toArray, List.getElem?_cons_succ, List.getElem?_cons_zero]; rfl)
          go_simp
          refine Calls.mono (HMAR.out _ (HFG.out.below hf.2)) ?_
          rintro e wq ⟨Am, cm, Bm, bm, rfl, hG, hb⟩
          have hfn : FgBox wq kg (.slice A' N c') (.slice B' m bc') ∧ Below V2.heap.size V2 wq := ⟨hf.1.below hb, hf.2.trans (hb.mono hf.2.size)⟩
          have hNn := hN.below hb
          clear hN
          have hN := hNn
          clear hNn
          clear hf
          have hf := hfn
          clear hfn
          clear hb
          refine hK.out _ _ (heldC_two (fun h => absurd h (by simp)) (fun _ => trivial)) (fun hF => ?_)
          clear hK K
          try simp only [Act.put, List.setIfInBounds_toArray, List.set_cons_zero, List.set_cons_succ]
          refine wpG_take (oi := ?oi195) (v := ?vv195) 32 _ ?hi195 (List.Mem.tail _ (List.Mem.head _)) ?hc195 ?hQ195 hF ?hw195 ?hy195 (fun hF => ?hh195)
          case hi195 => (simp only [List.getElem?_toArray, List.getElem?_cons_succ, List.getElem?_cons_zero]; rfl)
          case hc195 => kernel_rfl
          case hQ195 => exact fun _ _ _ h => h
          case hw195 => rfl
          case hy195 => (intro wz hz; skip; go_simp; try (with_reducible rfl))
          try simp only [Act.put, List.setIfInBounds_toArray, List.set_cons_zero, List.set_cons_succ]
          refine wpG_take (oi := ?oi196) (v := ?vv196) 33 _ ?hi196 (List.Mem.tail _ (List.Mem.head _)) ?hc196 ?hQ196 hF ?hw196 ?hy196 (fun hF => ?hh196)
          case hi196 => (simp only [List.getElem?_toArray, List.getElem?_cons_succ, List.getElem?_cons_zero]; rfl)
          case hc196 => kernel_rfl
          case hQ196 => exact fun _ _ _ h => h
          case hw196 => rfl
          case hy196 => (intro wz hz; skip; go_simp; try (with_reducible rfl))
          try simp only [Act.put, List.setIfInBounds_toArray, List.set_cons_zero, List.set_cons_succ]
          refine wpG_take (oi := ?oi197) (v := ?vv197) 34 _ ?hi197 (List.Mem.tail _ (List.Mem.head _)) ?hc197 ?hQ197 hF ?hw197 ?hy197 (fun hF => ?hh197)
          case hi197 => (simp only [List.getElem?_toArray, List.getElem?_cons_succ, List.getElem?_cons_zero]; rfl)
          case hc197 => kernel_rfl
          case hQ197 => exact fun _ _ _ h => h
          case hw197 => rfl
          case hy197 => (intro wz hz; skip; go_simp; try (with_reducible rfl))
          try simp only [Act.put, List.setIfInBounds_toArray, List.set_cons_zero, List.set_cons_succ]
          refine wpG_ready (rs := [36]) (by kernel_rfl) (by simp) ?_
          refine all_one ?_
          have f0 := hN.c0; have f1 := hN.c1; have f2 := hN.free 0; have f3 := hN.free 1; have f4 := hN.lt
          refine wpOp_hand (oi := ?oi198) ?hi198 (fun K hK => ?hh198)
          case hi198 => (simp only [List.getElem?_toArray, List.getElem?_cons_succ, List.getElem?_cons_zero]; rfl)
          go_simp
          refine hK.out _ _ (heldC_two (fun h => absurd h (by simp)) (fun _ => trivial)) (fun hF => ?_)
          clear hK K
          try simp only [Act.put, List.setIfInBounds_toArray, List.set_cons_zero, List.set_cons_succ]
          refine wpG_ready (rs := [37]) (by kernel_rfl) (by simp) ?_
          refine all_one ?_
          refine wpOp_hand (oi := ?oi199) ?hi199 (fun K hK => ?hh199)
          case hi199 => (simp only [List.getElem?_toArray, List.getElem?_cons_succ, List.getElem?_cons_zero]; rfl)
          go_simp
          refine hK.out _ _ (heldC_two (fun h => absurd h (by simp)) (fun h => absurd h (by simp))) (fun hF => ?_)
          clear hK K
          try simp only [Act.put, List.setIfInBounds_toArray, List.set_cons_zero, List.set_cons_succ]
          refine wpG_done (by kernel_rfl) ?_ _
          clear f0 f1 f2 f3 f4
          go_wp2_with fail
          go_meet
          exact ⟨kb, Am, cm, Bm, bm, rfl, rfl, hs3, hN.set _ _, figW_set hG hN _ _, (hf.2.setCell (p := ⟨kb, 0, none⟩) hs3 _).setCell (p := ⟨kb, 1, none⟩) hs3 _⟩
      · skip
        refine wpOp_hand (oi := ?oi200) ?hi200 (fun K hK => ?hh200)
        case hi200 => (simp only [List.getElem?_toArray, List.getElem?_cons_succ, List.getElem?_cons_zero]; rfl)
        go_simp
        have hN := FgBox.new X (.slice none 0 0) (.slice none 0 0)
        obtain ⟨kb, hkb⟩ : ∃ b, b = X.heap.size := ⟨_, rfl⟩
        obtain ⟨Y, hY⟩ : ∃ Y, Y = X.alloc (.cells #[.slice none 0 0, .slice none 0 0] 27) := ⟨_, rfl⟩
        have bY : Below X.heap.size X Y := by rw [hY]; exact (Below.refl _ _).alloc (Nat.le_refl _) _
        have hs3 : V2.heap.size ≤ kb := by rw [hkb]; exact hf.2.size
        rw [← hY, ← hkb] at hN ⊢
        have hfn : FgBox Y kg (.slice A' N c') (.slice B' m bc') ∧ Below V2.heap.size V2 Y := ⟨hf.1.below bY, hf.2.trans (bY.mono hf.2.size)⟩
        clear hf
        have hf := hfn
        clear hfn
        clear bY hY hkb
        refine hK.out _ _ (heldC_two (fun _ => hf.1) (fun _ => trivial)) (fun hF => ?_)
        clear hK K
        try simp only [Act.put, List.setIfInBounds_toArray, List.set_cons_zero, List.set_cons_succ]
        refine wpG_ready (rs := [5]) (by kernel_rfl) (by simp) ?_
        refine all_one ?_
        refine wpOp_hand (oi := ?oi201) ?hi201 (fun K hK => ?hh201)
        case hi201 => (simp only [List.getElem?_toArray, List.getElem?_cons_succ, List.getElem?_cons_zero]; rfl)
        go_simp
        refine Calls.mono (whole_ok _ _) ?_
        rintro e wq ⟨rfl, hb⟩
        have hfn : FgBox wq kg (.slice A' N c') (.slice B' m bc') ∧ Below V2.heap.size V2 wq := ⟨hf.1.below hb, hf.2.trans (hb.mono hf.2.size)⟩
        have hNn := hN.below hb
        clear hN
        have hN := hNn
        clear hNn
        clear hf
        have hf := hfn
        clear hfn
        clear hb
        refine hK.out _ _ (heldC_two (fun _ => hf.1) (fun _ => trivial)) (fun hF => ?_)
        clear hK K
        try simp only [Act.put, List.setIfInBounds_toArray, List.set_cons_zero, List.set_cons_succ]
        refine wpG_ready (rs := [8]) (by kernel_rfl) (by simp) ?_
        refine all_one ?_
        refine wpOp_hand (oi := ?oi202) ?hi202 (fun K hK => ?hh202)
        case hi202 => (simp only [List.getElem?_toArray, List.getElem?_cons_succ, List.getElem?_cons_zero]; rfl)
        go_simp
        refine Calls.mono (whole_ok _ _) ?_
        rintro e wq ⟨rfl, hb⟩
        have hfn : FgBox wq kg (.slice A' N c') (.slice B' m bc') ∧ Below V2.heap.size V2 wq := ⟨hf.1.below hb, hf.2.trans (hb.mono hf.2.size)⟩
        have hNn := hN.below hb
        clear hN
        have hN := hNn
        clear hNn
        clear hf
        have hf := hfn
        clear hfn
        clear hb
        refine hK.out _ _ (heldC_two (fun _ => hf.1) (fun _ => trivial)) (fun hF => ?_)
        clear hK K
        try simp only [Act.put, List.setIfInBounds_toArray, List.set_cons_zero, List.set_cons_succ]
        refine wpG_ready (rs := [19]) (by kernel_rfl) (by simp) ?_
        refine all_one ?_
        refine wpOp_hand (oi := ?oi203) ?hi203 (fun K hK => ?hh203)
        case hi203 => (simp only [List.getElem?_toArray, List.getElem?_cons_succ, List.getElem?_cons_zero]; rfl)
        go_simp
        refine Calls.mono (whole_ok _ _) ?_
        rintro e wq ⟨rfl, hb⟩
        have hfn : FgBox wq kg (.slice A' N c') (.slice B' m bc') ∧ Below V2.heap.size V2 wq := ⟨hf.1.below hb, hf.2.trans (hb.mono hf.2.size)⟩
        have hNn := hN.below hb
        clear hN
        have hN := hNn
        clear hNn
        clear hf
        have hf := hfn
        clear hfn
        clear hb
        refine hK.out _ _ (heldC_two (fun _ => hf.1) (fun _ => trivial)) (fun hF => ?_)
        clear hK K
        try simp only [Act.put, List.setIfInBounds_toArray, List.set_cons_zero, List.set_cons_succ]
        refine wpG_ready (rs := [22]) (by kernel_rfl) (by simp) ?_
        refine all_one ?_
        refine wpOp_hand (oi := ?oi204) ?hi204 (fun K hK => ?hh204)
        case hi204 => (simp only [List.getElem?_toArray, List.getElem?_cons_succ, List.getElem?_cons_zero]; rfl)
        go_simp
        refine Calls.mono (whole_ok _ _) ?_
        rintro e wq ⟨rfl, hb⟩
        have hfn : FgBox wq kg (.slice A' N c') (.slice B' m bc') ∧ Below V2.heap.size V2 wq := ⟨hf.1.below hb, hf.2.trans (hb.mono hf.2.size)⟩
        have hNn := hN.below hb
        clear hN
        have hN := hNn
        clear hNn
        clear hf
        have hf := hfn
        clear hfn
        clear hb
        refine hK.out _ _ (heldC_two (fun _ => hf.1) (fun _ => trivial)) (fun hF => ?_)
        clear hK K
        try simp only [Act.put, List.setIfInBounds_toArray, List.set_cons_zero, List.set_cons_succ]
        refine wpG_ready (rs := [23]) (by kernel_rfl) (by simp) ?_
        refine all_one ?_
        refine wpOp_hand (oi := ?oi205) ?hi205 (fun K hK => ?hh205)
        case hi205 => (simp only [List.getElem?_toArray, List.getElem?_cons_succ, List.getElem?_cons_zero]; rfl)
        go_simp
        refine Calls.mono (whole_ok _ _) ?_
        rintro e wq ⟨rfl, hb⟩
        have hfn : FgBox wq kg (.slice A' N c') (.slice B' m bc') ∧ Below V2.heap.size V2 wq := ⟨hf.1.below hb, hf.2.trans (hb.mono hf.2.size)⟩
        have hNn := hN.below hb
        clear hN
        have hN := hNn
        clear hNn
        clear hf
        have hf := hfn
        clear hfn
        clear hb
        refine hK.out _ _ (heldC_two (fun _ => hf.1) (fun _ => trivial)) (fun hF => ?_)
        clear hK K
        try simp only [Act.put, List.setIfInBounds_toArray, List.set_cons_zero, List.set_cons_succ]
        refine wpG_ready (rs := [29]) (by kernel_rfl) (by simp) ?_
        refine all_one ?_
        refine wpOp_hand (oi := ?oi206) ?hi206 (fun K hK => ?hh206)
        case hi206 => (simp only [List.getElem?_toArray, List.getElem?_cons_succ, List.getElem?_cons_zero]; rfl)
        go_simp
        refine Calls.mono (whole_ok _ _) ?_
        rintro e wq ⟨rfl, hb⟩
        have hfn : FgBox wq kg (.slice A' N c') (.slice B' m bc') ∧ Below V2.heap.size V2 wq := ⟨hf.1.below hb, hf.2.trans (hb.mono hf.2.size)⟩
        have hNn := hN.below hb
        clear hN
        have hN := hNn
        clear hNn
        clear hf
        have hf := hfn
        clear hfn
        clear hb
        refine hK.out _ _ (heldC_two (fun _ => hf.1) (fun _ => trivial)) (fun hF => ?_)
        clear hK K
        try simp only [Act.put, List.setIfInBounds_toArray, List.set_cons_zero, List.set_cons_succ]
        refine wpG_take (oi := ?oi207) (v := ?vv207) 30 _ ?hi207 (List.Mem.head _) ?hc207 ?hQ207 hF ?hw207 ?hy207 (fun hF => ?hh207)
        case hi207 => (simp only [List.getElem?_toArray, List.getElem?_cons_succ, List.getElem?_cons_zero]; rfl)
        case hc207 => kernel_rfl
        case hQ207 => exact fun _ _ _ h => h
        case hw207 => rfl
        case hy207 => (intro wz hz; skip; go_simp; try (with_reducible rfl))
        try simp only [Act.put, List.setIfInBounds_toArray, List.set_cons_zero, List.set_cons_succ]
        refine wpG_ready (rs := [31]) (by kernel_rfl) (by simp) ?_
        refine all_one ?_
        refine wpOp_hand (oi := ?oi208) ?hi208 (fun K hK => ?hh208)
        case hi208 => (simp only [List.getElem?_toArray, List.getElem?_cons_succ, List.getElem?_cons_zero]; rfl)
        go_simp
        refine Calls.mono (HMAR.out _ (HFG.out.below hf.2)) ?_
        rintro e wq ⟨Am, cm, Bm, bm, rfl, hG, hb⟩
        have hfn : FgBox wq kg (.slice A' N c') (.slice B' m bc') ∧ Below V2.heap.size V2 wq := ⟨hf.1.below hb, hf.2.trans (hb.mono hf.2.size)⟩
        have hNn := hN.below hb
        clear hN
        have hN := hNn
        clear hNn
        clear hf
        have hf := hfn
        clear hfn
        clear hb
        refine hK.out _ _ (heldC_two (fun h => absurd h (by simp)) (fun _ => trivial)) (fun hF => ?_)
        clear hK K
        try simp only [Act.put, List.setIfInBounds_toArray, List.set_cons_zero, List.set_cons_succ]
        refine wpG_take (oi := ?oi209) (v := ?vv209) 32 _ ?hi209 (List.Mem.tail _ (List.Mem.head _)) ?hc209 ?hQ209 hF ?hw209 ?hy209 (fun hF => ?hh209)
        case hi209 => (simp only [List.getElem?_toArray, List.getElem?_cons_succ, List.getElem?_cons_zero]; rfl)
        case hc209 => kernel_rfl
        case hQ209 => exact fun _ _ _ h => h
        case hw209 => rfl
        case hy209 => (intro wz hz; skip; go_simp; try (with_reducible rfl))
        try simp only [Act.put, List.setIfInBounds_toArray, List.set_cons_zero, List.set_cons_succ]
        refine wpG_take (oi := ?oi210) (v := ?vv210) 33 _ ?hi210 (List.Mem.tail _ (List.Mem.head _)) ?hc210 ?hQ210 hF ?hw210 ?hy210 (fun hF => ?hh210)
        case hi210 => (simp only [List.getElem?_toArray, List.getElem?_cons_succ, List.getElem?_cons_zero]; rfl)
        case hc210 => kernel_rfl
        case hQ210 => exact fun _ _ _ h => h
        case hw210 => rfl
        case hy210 => (intro wz hz; skip; go_simp; try (with_reducible rfl))
        try simp only [Act.put, List.setIfInBounds_toArray, List.set_cons_zero, List.set_cons_succ]
        refine wpG_take (oi := ?oi211) (v := ?vv211) 34 _ ?hi211 (List.Mem.tail _ (List.Mem.head _)) ?hc211 ?hQ211 hF ?hw211 ?hy211 (fun hF => ?hh211)
        case hi211 => (simp only [List.getElem?_toArray, List.getElem?_cons_succ, List.getElem?_cons_zero]; rfl)
        case hc211 => kernel_rfl
        case hQ211 => exact fun _ _ _ h => h
        case hw211 => rfl
        case hy211 => (intro wz hz; skip; go_simp; try (with_reducible rfl))
        try simp only [Act.put, List.setIfInBounds_toArray, List.set_cons_zero, List.set_cons_succ]
        refine wpG_ready (rs := [36]) (by kernel_rfl) (by simp) ?_
        refine all_one ?_
        have f0 := hN.c0; have f1 := hN.c1; have f2 := hN.free 0; have f3 := hN.free 1; have f4 := hN.lt
        refine wpOp_hand (oi := ?oi212) ?hi212 (fun K hK => ?hh212)
        case hi212 => (simp only [List.getElem?_toArray, List.getElem?_cons_succ, List.getElem?_cons_zero]; rfl)
        go_simp
        refine hK.out _ _ (heldC_two (fun h => absurd h (by simp)) (fun _ => trivial)) (fun hF => ?_)
        clear hK K
        try simp only [Act.put, List.setIfInBounds_toArray, List.set_cons_zero, List.set_cons_succ]
        refine wpG_ready (rs := [37]) (by kernel_rfl) (by simp) ?_
        refine all_one ?_
        refine wpOp_hand (oi := ?oi213) ?hi213 (fun K hK => ?hh213)
        case hi213 => (simp only [List.getElem?_toArray, List.getElem?_cons_succ, List.getElem?_cons_zero]; rfl)
        go_simp
        refine hK.out _ _ (heldC_two (fun h => absurd h (by simp)) (fun h => absurd h (by simp))) (fun hF => ?_)
        clear hK K
        try simp only [Act.put, List.setIfInBounds_toArray, List.set_cons_zero, List.set_cons_succ]
        refine wpG_done (by kernel_rfl) ?_ _
        clear f0 f1 f2 f3 f4
        go_wp2_with fail
        go_meet
        exact ⟨kb, Am, cm, Bm, bm, rfl, rfl, hs3, hN.set _ _, figW_set hG hN _ _, (hf.2.setCell (p := ⟨kb, 0, none⟩) hs3 _).setCell (p := ⟨kb, 1, none⟩) hs3 _⟩
    case rest =>
      obtain ⟨kh, A3, c3, B3, bc3, rfl, rfl, hkh, hG, hFg, hb⟩ := hcut
      have HH3 := Lib.hid hG; have HF3 := Lib.hid hFg; have HGf3 := Lib.hid (HGf.out.below hb); have HFf3 := Lib.hid (HFf.out.below hb); have Hb3 := Lib.hid (Hbw.out.trans (hb.mono Hbw.out.size))
      clear hG hFg hb HGG HFG HGf HFf Hbw HMAQ HMAR HhX bX p1 p2 p3 p4 p5 p6 p7 p8 p9
      obtain ⟨T, hT⟩ : ∃ T, T = figT (shNums xs ys N) N m := ⟨_, rfl⟩
      have t1 := fun W h1 h2 => text_ok A N cA (shNums xs ys N) B m bc W h1 h2
      have t2 := fun W h1 h2 => text_ok A3 N c3 (shNums xs ys N) B3 m bc3 W h1 h2
      rw [← hT] at t1 t2
      have T1 := Lib.hid t1; have T2 := Lib.hid t2
      clear t1 t2 hT
      have x0 := HGf3.out.c0; have x1 := HGf3.out.c1; have xl := HGf3.out.lt
      go_wp2_with fail
      refine Calls.mono (T1.out _ (HR.out.t.below Hb3.out) HFf3.out) ?_
      rintro er w4 ⟨rfl, hb⟩
      have HH4 := Lib.hid (HH3.out.below hb); have HF4 := Lib.hid (HF3.out.below hb); have Hb4 := Lib.hid (Hb3.out.trans (hb.mono Hb3.out.size))
      clear hb HH3 HF3 HGf3 HFf3 Hb3 x0 x1 xl
      have x0 := HH4.out.c0; have x1 := HH4.out.c1; have xl := HH4.out.lt
      go_wp2_with fail
      refine Calls.mono (T2.out _ (HR.out.t.below Hb4.out) HF4.out) ?_
      rintro er w5 ⟨rfl, hb⟩
      have Hb5 := Lib.hid (Hb4.out.trans (hb.mono Hb4.out.size))
      clear hb HH4 HF4 Hb4 x0 x1 xl
      go_wp2_with fail
      go_ret
      exact ⟨rfl, Hb5.out⟩
end Go.Proofs.YtbehickhaidliaaDoor
