/- PlaceParts: the parts of a direction are those of a vector of length 1. -/
import Derived.Test.YtdeoahgcppbmkaaDoorPartsP
import Derived.Test.YtdeoahgcppbmkaaDoorAsinR
import Derived.Test.YtdeoahgcppbmkaaDoorPlaceWorks
namespace Go.Proofs.YtdeoahgcppbmkaaDoor
open Go.RowKit
set_option linter.unusedSimpArgs false
set_option linter.unusedVariables false
theorem arc_order {a b c d : Int} (H : ArcIn a b c d) : arcLo a b c d ≤ arcHi a b c d := by
  have hf : Md (dirW a c) 1200000001 := by obtain ⟨x, y, z⟩ := dir_fin H.sa H.sc'; exact ⟨x, y, z⟩
  have q0 := arcD_md hf H.sa H.sd
  have q1 := arcD_md hf H.sb H.sc'
  have q2 := arcD_md hf H.sb H.sd
  have l1 := md_min md_zero q0; have l2 := md_min l1 q1; have l3 := md_min l2 q2
  have g1 := md_max md_zero q0; have g2 := md_max g1 q1; have g3 := md_max g2 q2
  have v1 := (fmin_ok md_zero.fin q0.fin).2; have v2 := (fmin_ok l1.fin q1.fin).2; have v3 := (fmin_ok l2.fin q2.fin).2
  have u1 := (fmax_ok md_zero.fin q0.fin).2; have u2 := (fmax_ok g1.fin q1.fin).2; have u3 := (fmax_ok g2.fin q2.fin).2
  rw [fin_zero.2] at v1 u1
  obtain ⟨-, a1⟩ := arc_sum hf l3
  obtain ⟨-, a2⟩ := arc_sum hf g3
  have lo1 := a1.lo1; have hi1 := a2.hi1
  have eL : arcLo a b c d = aLo (fadd (dirW a c) (fminW (fminW (fminW 0 (arcD (dirW a c) a d)) (arcD (dirW a c) b c)) (arcD (dirW a c) b d))) := rfl
  have eH : arcHi a b c d = aHi (fadd (dirW a c) (fmaxW (fmaxW (fmaxW 0 (arcD (dirW a c) a d)) (arcD (dirW a c) b c)) (arcD (dirW a c) b d))) := rfl
  rw [← eL] at lo1
  rw [← eH] at hi1
  clear a1 a2 eL eH l1 l2 l3 g1 g2 g3 q0 q1 q2
  have ks : kSl - 2 / 10000 ≥ 7 / 10000 := by unfold kSl; grind
  generalize fv (fminW (fminW (fminW 0 (arcD (dirW a c) a d)) (arcD (dirW a c) b c)) (arcD (dirW a c) b d)) = L at *
  generalize fv (fmaxW (fmaxW (fmaxW 0 (arcD (dirW a c) a d)) (arcD (dirW a c) b c)) (arcD (dirW a c) b d)) = G at *
  generalize fv (fminW (fminW 0 (arcD (dirW a c) a d)) (arcD (dirW a c) b c)) = L2 at *
  generalize fv (fmaxW (fmaxW 0 (arcD (dirW a c) a d)) (arcD (dirW a c) b c)) = G2 at *
  generalize fv (fminW 0 (arcD (dirW a c) a d)) = L1 at *
  generalize fv (fmaxW 0 (arcD (dirW a c) a d)) = G1 at *
  generalize fv (arcD (dirW a c) a d) = D0 at *
  generalize fv (arcD (dirW a c) b c) = D1 at *
  generalize fv (arcD (dirW a c) b d) = D2 at *
  apply int_le_of_rat
  grind
/-- What Equator hands back may be looked at. -/
theorem eq_lk {l1 l2 b1 b2 : Int} (il : IvOk l1 l2) (hlw : l2 - l1 ≤ 40010) (hb : b1 ≤ b2) (hbw : b2 - b1 ≤ 40010) (h1 : -15900000 ≤ b1) (h2 : b2 ≤ 15900000) :
    0 ≤ raLo l1 l2 b1 b2 ∧ raLo l1 l2 b1 b2 ≤ raHi l1 l2 b1 b2 ∧ raHi l1 l2 b1 b2 ≤ 3000000000 ∧ -250000000 ≤ dcLo l1 l2 b1 b2 ∧ dcLo l1 l2 b1 b2 ≤ dcHi l1 l2 b1 b2 ∧ dcHi l1 l2 b1 b2 ≤ 250000000 := by
  have O := eq_ok il hlw hb hbw h1 h2
  obtain ⟨-, -, -, -, zl, zh⟩ := eq_near il.m hlw hb hbw (Int.le_refl l1) il.m (Int.le_refl b1) hb
  have zb := dZ_bd (la := l1) (be := b1) ⟨h1, by omega⟩
  have Z := eqZ_bd l1 l2 b1 b2; have X := eqX_bd l1 l2 b1 b2; have Y := eqY_bd l1 l2 b1 b2
  have ao := arc_order (a := eqYL l1 l2 b1 b2) (b := eqYH l1 l2 b1 b2) (c := eqXL l1 l2 b1 b2) (d := eqXH l1 l2 b1 b2) ⟨⟨by omega, by omega⟩, ⟨by omega, by omega⟩, ⟨by omega, by omega⟩, ⟨by omega, by omega⟩, Y.2.1, X.2.1, O.no⟩
  have nw := O.nw
  unfold Near at zl zh
  have H : eqZH l1 l2 b1 b2 ≤ 490800000 := by
    apply int_le_of_rat; rw [show ((490800000 : Int) : Rat) = 490800000 from rfl]; grind
  have L : -490800000 ≤ eqZL l1 l2 b1 b2 := by
    apply int_le_of_rat; rw [show ((-490800000 : Int) : Rat) = -490800000 from rfl]; grind
  unfold raLo raHi dcLo dcHi
  clear O zl zh zb X Y
  generalize eqZL l1 l2 b1 b2 = zL at *
  generalize eqZH l1 l2 b1 b2 = zH at *
  generalize arcLo (eqYL l1 l2 b1 b2) (eqYH l1 l2 b1 b2) (eqXL l1 l2 b1 b2) (eqXH l1 l2 b1 b2) = p at *
  generalize arcHi (eqYL l1 l2 b1 b2) (eqYH l1 l2 b1 b2) (eqXL l1 l2 b1 b2) (eqXH l1 l2 b1 b2) = q at *
  have a := as_order (m := clT zL) (n := clT zH) (by unfold clT; omega) (by unfold clT; omega) (by unfold clT; omega)
  refine ⟨by omega, by omega, by omega, a.1, a.2.1, a.2.2⟩
theorem sun_lk (t : Int) {lon lat : Int} (h : PlOk lon lat) (ht : instOk t = true) : LkOk lon lat (sRL t) (sRH t) (sDL t) (sDH t) t := by
  have a : 0 ≤ slLo t ∧ slLo t < 1000000000 ∧ slLo t ≤ slHi t ∧ slHi t ≤ 130000000000 := an_bd sun_in
  have b := sl_width t
  unfold sRL sRH sDL sDH
  generalize slLo t = x at *
  generalize slHi t = y at *
  obtain ⟨p1, p2, p3, p4, p5, p6⟩ := eq_lk (l1 := x) (l2 := y) (b1 := 0) (b2 := 0) ⟨by omega, by omega, by omega⟩ (by omega) (by omega) (by omega) (by omega) (by omega)
  exact ⟨h, Int.le_trans (by decide) p1, p2, p3, p4, p5, p6, ht⟩
theorem moon_lk (t : Int) {lon lat : Int} (h : PlOk lon lat) (ht : instOk t = true) : LkOk lon lat (mRL t) (mRH t) (mDL t) (mDH t) t := by
  have a : 0 ≤ mlLo t ∧ mlLo t < 1000000000 ∧ mlLo t ≤ mlHi t ∧ mlHi t ≤ 130000000000 := an_bd moonL_in
  have b := ml_width t
  have c := mb_width t
  have d := mb_bd t
  unfold mRL mRH mDL mDH
  generalize mlLo t = x at *
  generalize mlHi t = y at *
  generalize mbLo t = x' at *
  generalize mbHi t = y' at *
  obtain ⟨p1, p2, p3, p4, p5, p6⟩ := eq_lk (l1 := x) (l2 := y) (b1 := x') (b2 := y') ⟨by omega, by omega, by omega⟩ (by omega) (by omega) (by omega) (by omega) (by omega)
  exact ⟨h, Int.le_trans (by decide) p1, p2, p3, p4, p5, p6, ht⟩
/-- Sums over three. -/
theorem PlBox.put {w : World} {b : Nat} {x y : Int} (h : PlBox w b x y) (u v : Int) : PlBox ((w.setCell ⟨b, 0, none⟩ (.int .i64 u)).setCell ⟨b, 1, none⟩ (.int .i64 v)) b u v :=
  ((World.rowIs.set h 0 (.int .i64 u)).set 1 (.int .i64 v)).congr (fun i hi => by
    match i, hi with
    | 0, _ => rfl
    | 1, _ => rfl)
def acc3 (a b c : Int) (j : Nat) : Int := if j = 0 then 0 else if j = 1 then a else if j = 2 then a + b else a + b + c
theorem cl_bd (a : Int) : (-1000000000 ≤ clLo a ∧ clLo a ≤ 1000000000) ∧ (-1000000000 ≤ clHi a ∧ clHi a ≤ 1000000000) := by unfold clLo clHi; omega
theorem sq_bd9 {x : Int} (h : -1000000000 ≤ x ∧ x ≤ 1000000000) : 0 ≤ x * x ∧ x * x ≤ 1000000000000000000 := by
  have m := mul_bound h.1 h.2 h.1 h.2
  have : 0 ≤ x * x := by
    rcases (by omega : 0 ≤ x ∨ x ≤ 0) with c | c
    · exact Int.mul_nonneg c c
    · exact Int.mul_nonneg_of_nonpos_of_nonpos c c
  omega
/-- What a round of the sums reckons. -/
def RdF (l u x y x' y' : Int) : Prop := wrap64 (l * l) = l * l ∧ wrap64 (u * u) = u * u ∧ wrap64 (y + max (l * l) (u * u)) = y' ∧ y' = y + max (l * l) (u * u) ∧ True ∧ (0 < l ∨ u < 0 → wrap64 (x + min (l * l) (u * u)) = x') ∧ (¬ 0 < l → ¬ u < 0 → x = x')
structure PartsFin (ul uh el eh nl nh : Int) (L H : Nat → Int) : Prop where
  l0 : L 0 = 0
  h0 : H 0 = 0
  r0 : RdF ul uh (L 0) (H 0) (L 1) (H 1)
  r1 : RdF el eh (L 1) (H 1) (L 2) (H 2)
  r2 : RdF nl nh (L 2) (H 2) (L 3) (H 3)
  lo : L 3 ≤ 1000000000000000000
  hi : 1000000000000000000 ≤ H 3
theorem rdF {l u x y : Int} (hl : -1000000000 ≤ l ∧ l ≤ 1000000000) (hu : -1000000000 ≤ u ∧ u ≤ 1000000000) (hx : 0 ≤ x ∧ x ≤ 2000000000000000000) (hy : 0 ≤ y ∧ y ≤ 2000000000000000000) : RdF l u x y (x + sqL l u) (y + sqH l u) := by
  have a := sq_bd9 hl; have b := sq_bd9 hu
  unfold RdF sqL sqH
  generalize l * l = A at *
  generalize u * u = B at *
  refine ⟨IntWalk.wrap64_in _ (by omega), IntWalk.wrap64_in _ (by omega), IntWalk.wrap64_in _ (by omega), rfl, trivial, fun h => ?_, fun h1 h2 => ?_⟩
  · rw [if_pos h]; exact IntWalk.wrap64_in _ (by omega)
  · rw [if_neg (by omega)]; omega
theorem sq_bd8 {l u : Int} (hl : -1000000000 ≤ l ∧ l ≤ 1000000000) (hu : -1000000000 ≤ u ∧ u ≤ 1000000000) : (0 ≤ sqL l u ∧ sqL l u ≤ 1000000000000000000) ∧ (0 ≤ sqH l u ∧ sqH l u ≤ 1000000000000000000) := by
  have a := sq_bd9 hl; have b := sq_bd9 hu
  unfold sqL sqH
  generalize l * l = A at *
  generalize u * u = B at *
  split <;> omega
theorem parts_fin {ul uh el eh nl nh : Int} (h : sqL ul uh + sqL el eh + sqL nl nh ≤ 1000000000000000000 ∧ 1000000000000000000 ≤ sqH ul uh + sqH el eh + sqH nl nh) (ub : (-1000000000 ≤ ul ∧ ul ≤ 1000000000) ∧ (-1000000000 ≤ uh ∧ uh ≤ 1000000000)) (eb : (-1000000000 ≤ el ∧ el ≤ 1000000000) ∧ (-1000000000 ≤ eh ∧ eh ≤ 1000000000)) (nb : (-1000000000 ≤ nl ∧ nl ≤ 1000000000) ∧ (-1000000000 ≤ nh ∧ nh ≤ 1000000000)) :
    PartsFin ul uh el eh nl nh (acc3 (sqL ul uh) (sqL el eh) (sqL nl nh)) (acc3 (sqH ul uh) (sqH el eh) (sqH nl nh)) := by
  have a := sq_bd8 ub.1 ub.2; have b := sq_bd8 eb.1 eb.2; have c := sq_bd8 nb.1 nb.2
  refine ⟨rfl, rfl, ?_, ?_, ?_, h.1, h.2⟩
  · have r := rdF ub.1 ub.2 (x := 0) (y := 0) (by omega) (by omega)
    rw [Int.zero_add, Int.zero_add] at r
    exact r
  · exact rdF eb.1 eb.2 (x := sqL ul uh) (y := sqH ul uh) (by omega) (by omega)
  · exact rdF nb.1 nb.2 (x := sqL ul uh + sqL el eh) (y := sqH ul uh + sqH el eh) (by omega) (by omega)
set_option maxRecDepth 100000 in
set_option maxHeartbeats 16000000 in
theorem placeParts_walk (p1 p2 t bd : Int) (w : World) (hT : SinT w) : Calls Tryd.prog 9 #[.agg #[.int .i64 p1, .int .i64 p2], .int .i64 t, .int .i64 bd] w fun e w' => e = .returned (.bool true) ∧ Below w.heap.size w w' := by
  have HW := Lib.hid (fun w ht => placeWorks_ok w ht)
  have HT := Lib.hid hT
  have S1 := Lib.hid (fun w => site_ok p1 p2 w)
  have IN := Lib.hid (fun w => instant_ok t w)
  have BD := Lib.hid (fun w => at_any bd 2 w (by omega) (by omega))
  have hbd : 0 ≤ bd % 2 ∧ bd % 2 < 2 := by omega
  have ti := instant_in t
  have o1 := site_pl p1 p2
  generalize p1.tmod 500000001 = x1 at *
  generalize p2.tmod 220000001 = x2 at *
  generalize t % 604800000000000 - 302400000000000 = tt at *
  generalize bd % 2 = m at *
  have SU := Lib.hid (fun W (hT : SinT W) => sunAt_ok tt W hT ti)
  have MO := Lib.hid (fun W (hT : SinT W) => moonAt_ok tt W hT ti)
  have ls := sun_lk tt o1 ti
  have lm := moon_lk tt o1 ti
  generalize sRL tt = rl at *
  generalize sRH tt = rh at *
  generalize sDL tt = dl at *
  generalize sDH tt = dh at *
  generalize mRL tt = rl' at *
  generalize mRH tt = rh' at *
  generalize mDL tt = dl' at *
  generalize mDH tt = dh' at *
  have HB0 := Lib.hid (Below.refl w.heap.size w)
  have s1a := PlBox.new w p1 p2
  obtain ⟨k1, hk1⟩ : ∃ b, b = w.heap.size := ⟨_, rfl⟩
  rw [← hk1] at s1a
  have s1 := Lib.hid s1a
  have HB := Lib.hid (show Below w.heap.size w (w.alloc (.cells #[.int .i64 p1, .int .i64 p2] 55)) from (by repeat' (first | (with_reducible refine below_drewN ?_ _) | go_grown)))
  have Hkl1 := Lib.hid (show w.heap.size ≤ k1 by omega)
  have HK1 := Lib.hid hk1
  clear s1a HB0 hT o1
  go_enter Tryd.func9, Tryd.ntmps9
  go_upto_region 1 with fail
  rw [← hk1]
  clear hk1
  obtain ⟨X1, hX1⟩ : ∃ W, W = w.alloc (.cells #[.int .i64 p1, .int .i64 p2] 55) := ⟨_, rfl⟩
  rw [← hX1] at s1 HB ⊢
  clear hX1
  go_wp2_with fail
  refine Calls.mono (HW.out _ (HT.out.below HB.out)) ?_
  rintro e wc1 ⟨rfl, hb⟩
  replace s1 := Lib.hid (s1.out.below hb)
  replace HB := Lib.hid (HB.out.trans (hb.mono HB.out.size))
  clear hb
  have sc1_0 := s1.out.c0; have sc1_1 := s1.out.c1; have sc1_l := s1.out.lt
  go_wp2_with fail
  refine Calls.mono (S1.out _) ?_
  rintro e wc2 ⟨rfl, hb⟩
  replace s1 := Lib.hid (s1.out.below hb)
  replace HB := Lib.hid (HB.out.trans (hb.mono HB.out.size))
  clear sc1_0 sc1_1 sc1_l
  clear hb
  go_wp2_with fail
  refine Calls.mono (IN.out _) ?_
  rintro e wq ⟨rfl, hq⟩
  (first | rw [hq] | rw [← hq])
  clear hq
  have sc1_0 := s1.out.c0; have sc1_1 := s1.out.c1; have sc1_l := s1.out.lt
  have f0 := s1.out.free 0; have f1 := s1.out.free 1
  go_upto_region 4 with fail
  clear sc1_0 sc1_1 sc1_l
  clear f0 f1
  obtain ⟨Y1, hY1⟩ : ∃ W, W = (wc2.setCell ⟨k1, 0, none⟩ (.int .i64 x1)).setCell ⟨k1, 1, none⟩ (.int .i64 x2) := ⟨_, rfl⟩
  have s1b : Hid (PlBox Y1 k1 x1 x2) := Lib.hid (by rw [hY1]; exact PlBox.put s1.out x1 x2)
  have HBb : Hid (Below w.heap.size w Y1) := Lib.hid (by rw [hY1]; exact (HB.out.setCell (p := ⟨k1, 0, none⟩) Hkl1.out _).setCell (p := ⟨k1, 1, none⟩) Hkl1.out _)
  rw [← hY1]
  clear hY1 s1 HB S1 IN HW
  have s1 := s1b; have HB := HBb
  clear s1b HBb
  go_wp2_with fail
  refine Calls.mono (SU.out _ (HT.out.below HB.out)) ?_
  rintro e wn2 ⟨rfl, hb⟩
  have Hd2_1 := Lib.hid (s1.out.below hb).lt
  replace s1 := Lib.hid (((s1.out.below hb).alloc (.cells #[.int .i64 (rl), .int .i64 (rh)] 24)).alloc (.cells #[.int .i64 (dl), .int .i64 (dh)] 24))
  have HB2 := HB.out.trans (hb.mono HB.out.size)
  clear hb
  have Hkl2 := Lib.hid HB2.size; have HBq := HB2.alloc HB2.size (.cells #[.int .i64 (rl), .int .i64 (rh)] 24); replace HB := Lib.hid (HBq.alloc HBq.size (.cells #[.int .i64 (dl), .int .i64 (dh)] 24)); clear HB2 HBq
  obtain ⟨k2, hk2⟩ : ∃ x, x = wn2.heap.size := ⟨_, rfl⟩
  have hk3 : (wn2.alloc (.cells #[.int .i64 (rl), .int .i64 (rh)] 24)).heap.size = k2 + 1 := by simp [hk2]
  have s2 := Lib.hid ((SpBox.new wn2 (rl) (rh)).alloc (.cells #[.int .i64 (dl), .int .i64 (dh)] 24))
  have s30 := SpBox.new (wn2.alloc (.cells #[.int .i64 (rl), .int .i64 (rh)] 24)) (dl) (dh)
  rw [hk3] at s30
  have s3 := Lib.hid s30; clear s30
  rw [← hk2] at s2 Hkl2 Hd2_1
  have Hkl3 := Lib.hid (Nat.le_trans Hkl2.out (Nat.le_succ k2))
  have Hd3_1 := Lib.hid (Nat.lt_trans Hd2_1.out (Nat.lt_succ_self k2))
  have Hd3_2 := Lib.hid (Nat.lt_succ_self k2)
  go_upto_region 5 with fail
  (try rw [hk3])
  rw [← hk2]
  obtain ⟨X3, hX3⟩ : ∃ X, X = (wn2.alloc (.cells #[.int .i64 (rl), .int .i64 (rh)] 24)).alloc (.cells #[.int .i64 (dl), .int .i64 (dh)] 24) := ⟨_, rfl⟩
  rw [← hX3] at s1 s2 s3 HB ⊢
  clear hk3 hk2 hX3
  go_wp2_with fail
  refine Calls.mono (BD.out _) ?_
  rintro e wq ⟨rfl, hq⟩
  (first | rw [hq] | rw [← hq])
  clear hq
  obtain rfl | rfl : m = 0 ∨ m = 1 := by omega
  · skip
    have LK := ls
    have LAW := parts_law x2 (hhLo x1 tt rh) (hhHi x1 tt rl) dl dh
    have HE := Lib.hid (fun W (hT : SinT W) => Height_ok x1 x2 rl rh dl dh tt W hT LK)
    have GR := Lib.hid (fun W (hT : SinT W) => Ground_ok x1 x2 rl rh dl dh tt W hT LK)
    generalize hhLo x1 tt rh = hl at *
    generalize hhHi x1 tt rl = hh at *
    have ub : (-1000000000 ≤ upLo x2 hl hh dl dh ∧ upLo x2 hl hh dl dh ≤ 1000000000) ∧ (-1000000000 ≤ upHi x2 hl hh dl dh ∧ upHi x2 hl hh dl dh ≤ 1000000000) := ⟨(cl_bd _).1, (cl_bd _).2⟩
    have eb : (-1000000000 ≤ eaLo hl hh dl dh ∧ eaLo hl hh dl dh ≤ 1000000000) ∧ (-1000000000 ≤ eaHi hl hh dl dh ∧ eaHi hl hh dl dh ≤ 1000000000) := ⟨(cl_bd _).1, (cl_bd _).2⟩
    have nb : (-1000000000 ≤ noLo x2 hl hh dl dh ∧ noLo x2 hl hh dl dh ≤ 1000000000) ∧ (-1000000000 ≤ noHi x2 hl hh dl dh ∧ noHi x2 hl hh dl dh ≤ 1000000000) := ⟨(cl_bd _).1, (cl_bd _).2⟩
    generalize upLo x2 hl hh dl dh = ul at *
    generalize upHi x2 hl hh dl dh = uh at *
    generalize eaLo hl hh dl dh = el at *
    generalize eaHi hl hh dl dh = eh at *
    generalize noLo x2 hl hh dl dh = nl at *
    generalize noHi x2 hl hh dl dh = nh at *
    have TAIL := parts_fin LAW ub eb nb
    clear LAW ub eb nb ls lm
    have sc1_0 := s1.out.c0; have sc1_1 := s1.out.c1; have sc1_l := s1.out.lt
    have sc2_0 := s2.out.c0; have sc2_1 := s2.out.c1; have sc2_l := s2.out.lt
    have sc3_0 := s3.out.c0; have sc3_1 := s3.out.c1; have sc3_l := s3.out.lt
    go_wp2_with fail
    refine Calls.mono (HE.out _ (HT.out.below HB.out)) ?_
    rintro e wn4 ⟨rfl, hb⟩
    have Hd4_1 := Lib.hid (s1.out.below hb).lt
    have Hd4_2 := Lib.hid (s2.out.below hb).lt
    have Hd4_3 := Lib.hid (s3.out.below hb).lt
    replace s1 := Lib.hid ((s1.out.below hb).alloc (.cells #[.int .i64 (ul), .int .i64 (uh)] 24))
    replace s2 := Lib.hid ((s2.out.below hb).alloc (.cells #[.int .i64 (ul), .int .i64 (uh)] 24))
    replace s3 := Lib.hid ((s3.out.below hb).alloc (.cells #[.int .i64 (ul), .int .i64 (uh)] 24))
    have HB4 := HB.out.trans (hb.mono HB.out.size)
    clear sc1_0 sc1_1 sc1_l sc2_0 sc2_1 sc2_l sc3_0 sc3_1 sc3_l
    clear hb
    have Hkl4 := Lib.hid HB4.size; replace HB := Lib.hid (HB4.alloc HB4.size (.cells #[.int .i64 (ul), .int .i64 (uh)] 24))
    clear HB4
    have s4 := Lib.hid (SpBox.new wn4 (ul) (uh))
    obtain ⟨k4, hk4⟩ : ∃ x, x = wn4.heap.size := ⟨_, rfl⟩
    rw [← hk4] at s4 Hkl4 Hd4_1 Hd4_2 Hd4_3
    go_upto_region 8 with fail
    rw [← hk4]
    obtain ⟨X4, hX4⟩ : ∃ X, X = wn4.alloc (.cells #[.int .i64 (ul), .int .i64 (uh)] 24) := ⟨_, rfl⟩
    rw [← hX4] at s1 s2 s3 s4 HB ⊢
    clear hk4 hX4
    have sc1_0 := s1.out.c0; have sc1_1 := s1.out.c1; have sc1_l := s1.out.lt
    have sc2_0 := s2.out.c0; have sc2_1 := s2.out.c1; have sc2_l := s2.out.lt
    have sc3_0 := s3.out.c0; have sc3_1 := s3.out.c1; have sc3_l := s3.out.lt
    go_wp2_with fail
    refine Calls.mono (GR.out _ (HT.out.below HB.out)) ?_
    rintro e wn5 ⟨rfl, hb⟩
    have Hd5_1 := Lib.hid (s1.out.below hb).lt
    have Hd5_2 := Lib.hid (s2.out.below hb).lt
    have Hd5_3 := Lib.hid (s3.out.below hb).lt
    have Hd5_4 := Lib.hid (s4.out.below hb).lt
    replace s1 := Lib.hid (((s1.out.below hb).alloc (.cells #[.int .i64 (el), .int .i64 (eh)] 24)).alloc (.cells #[.int .i64 (nl), .int .i64 (nh)] 24))
    replace s2 := Lib.hid (((s2.out.below hb).alloc (.cells #[.int .i64 (el), .int .i64 (eh)] 24)).alloc (.cells #[.int .i64 (nl), .int .i64 (nh)] 24))
    replace s3 := Lib.hid (((s3.out.below hb).alloc (.cells #[.int .i64 (el), .int .i64 (eh)] 24)).alloc (.cells #[.int .i64 (nl), .int .i64 (nh)] 24))
    replace s4 := Lib.hid (((s4.out.below hb).alloc (.cells #[.int .i64 (el), .int .i64 (eh)] 24)).alloc (.cells #[.int .i64 (nl), .int .i64 (nh)] 24))
    have HB5 := HB.out.trans (hb.mono HB.out.size)
    clear sc1_0 sc1_1 sc1_l sc2_0 sc2_1 sc2_l sc3_0 sc3_1 sc3_l
    clear hb
    have Hkl5 := Lib.hid HB5.size; have HBq := HB5.alloc HB5.size (.cells #[.int .i64 (el), .int .i64 (eh)] 24); replace HB := Lib.hid (HBq.alloc HBq.size (.cells #[.int .i64 (nl), .int .i64 (nh)] 24)); clear HB5 HBq
    obtain ⟨k5, hk5⟩ : ∃ x, x = wn5.heap.size := ⟨_, rfl⟩
    have hk6 : (wn5.alloc (.cells #[.int .i64 (el), .int .i64 (eh)] 24)).heap.size = k5 + 1 := by simp [hk5]
    have s5 := Lib.hid ((SpBox.new wn5 (el) (eh)).alloc (.cells #[.int .i64 (nl), .int .i64 (nh)] 24))
    have s60 := SpBox.new (wn5.alloc (.cells #[.int .i64 (el), .int .i64 (eh)] 24)) (nl) (nh)
    rw [hk6] at s60
    have s6 := Lib.hid s60; clear s60
    rw [← hk5] at s5 Hkl5 Hd5_1 Hd5_2 Hd5_3 Hd5_4
    have Hkl6 := Lib.hid (Nat.le_trans Hkl5.out (Nat.le_succ k5))
    have Hd6_1 := Lib.hid (Nat.lt_trans Hd5_1.out (Nat.lt_succ_self k5))
    have Hd6_2 := Lib.hid (Nat.lt_trans Hd5_2.out (Nat.lt_succ_self k5))
    have Hd6_3 := Lib.hid (Nat.lt_trans Hd5_3.out (Nat.lt_succ_self k5))
    have Hd6_4 := Lib.hid (Nat.lt_trans Hd5_4.out (Nat.lt_succ_self k5))
    have Hd6_5 := Lib.hid (Nat.lt_succ_self k5)
    go_upto_region 9 with fail
    (try rw [hk6])
    rw [← hk5]
    obtain ⟨X6, hX6⟩ : ∃ X, X = (wn5.alloc (.cells #[.int .i64 (el), .int .i64 (eh)] 24)).alloc (.cells #[.int .i64 (nl), .int .i64 (nh)] 24) := ⟨_, rfl⟩
    rw [← hX6] at s1 s2 s3 s4 s5 s6 HB ⊢
    clear hk6 hk5 hX6
    have II : Hid ((∀ w, (Instr.index 61 (.agg #[.int .i64 ul, .int .i64 uh, .int .i64 el, .int .i64 eh, .int .i64 nl, .int .i64 nh]) (.int .i64 0)).run Tryd.prog w = .ok (.agg #[.int .i64 ul, .int .i64 uh]) w) ∧ (∀ w, (Instr.index 61 (.agg #[.int .i64 ul, .int .i64 uh, .int .i64 el, .int .i64 eh, .int .i64 nl, .int .i64 nh]) (.int .i64 1)).run Tryd.prog w = .ok (.agg #[.int .i64 el, .int .i64 eh]) w) ∧ (∀ w, (Instr.index 61 (.agg #[.int .i64 ul, .int .i64 uh, .int .i64 el, .int .i64 eh, .int .i64 nl, .int .i64 nh]) (.int .i64 2)).run Tryd.prog w = .ok (.agg #[.int .i64 nl, .int .i64 nh]) w)) := Lib.hid ⟨fun _ => by kernel_rfl, fun _ => by kernel_rfl, fun _ => by kernel_rfl⟩
    obtain ⟨L, hL⟩ : ∃ f, f = acc3 (sqL ul uh) (sqL el eh) (sqL nl nh) := ⟨_, rfl⟩
    obtain ⟨H, hH⟩ : ∃ f, f = acc3 (sqH ul uh) (sqH el eh) (sqH nl nh) := ⟨_, rfl⟩
    rw [← hL, ← hH] at TAIL
    have HTL := Lib.hid TAIL
    clear hL hH TAIL HE GR SU MO BD HT
    have sc4_0 := s4.out.c0; have sc4_1 := s4.out.c1; have sc4_l := s4.out.lt
    have sc5_0 := s5.out.c0; have sc5_1 := s5.out.c1; have sc5_l := s5.out.lt
    have sc6_0 := s6.out.c0; have sc6_1 := s6.out.c1; have sc6_l := s6.out.lt
    go_wp2_with fail
    clear sc4_0 sc4_1 sc4_l sc5_0 sc5_1 sc5_l sc6_0 sc6_1 sc6_l
    (try clear s1)
    (try clear s2)
    (try clear s3)
    (try clear s4)
    (try clear s5)
    (try clear s6)
    (try clear s7)
    (try clear Hkl1)
    (try clear Hd2_1)
    (try clear Hkl2)
    (try clear Hkl3)
    (try clear Hd3_1)
    (try clear Hd3_2)
    (try clear Hd4_1)
    (try clear Hd4_2)
    (try clear Hd4_3)
    (try clear Hkl4)
    (try clear Hd5_1)
    (try clear Hd5_2)
    (try clear Hd5_3)
    (try clear Hd5_4)
    (try clear Hkl5)
    (try clear Hkl6)
    (try clear Hd6_1)
    (try clear Hd6_2)
    (try clear Hd6_3)
    (try clear Hd6_4)
    (try clear Hd6_5)
    go_loopw [15, 16, 72] (fun lo hi i wr => ∃ j : Nat, j ≤ 3 ∧ i = .int .i64 j ∧ lo = .int .i64 (L j) ∧ hi = .int .i64 (H j) ∧ Hid (Below w.heap.size w wr)) (fun _ _ i _ => 3 - (intOf i).toNat)
    case atStart => exact ⟨0, by omega, rfl, by rw [HTL.out.l0], by rw [HTL.out.h0], HB⟩
    case round =>
      clear HB
      obtain ⟨j, hj, rfl, rfl, rfl, HB⟩ := hrel
      obtain rfl | rfl | rfl | rfl : j = 0 ∨ j = 1 ∨ j = 2 ∨ j = 3 := by omega
      · skip
        obtain ⟨x, hx⟩ : ∃ x, x = L 0 := ⟨_, rfl⟩
        obtain ⟨y, hy⟩ : ∃ x, x = H 0 := ⟨_, rfl⟩
        obtain ⟨x2n, hx2⟩ : ∃ x, x = L 1 := ⟨_, rfl⟩
        obtain ⟨y2n, hy2⟩ : ∃ x, x = H 1 := ⟨_, rfl⟩
        have R := HTL.out.r0
        rw [← hx, ← hy, ← hx2, ← hy2] at R
        rw [← hx, ← hy]
        have HX := Lib.hid hx2; have HY := Lib.hid hy2
        clear hx hy hx2 hy2
        have j0 := II.out.1
        obtain ⟨a1, a2, a3, a4, -, a6, a7⟩ := R
        obtain ⟨A, hA⟩ : ∃ x, x = ul * ul := ⟨_, rfl⟩
        obtain ⟨B, hB⟩ : ∃ x, x = uh * uh := ⟨_, rfl⟩
        rw [← hA] at a1 a3 a4 a6; rw [← hB] at a2 a3 a4 a6
        obtain ⟨M, hM⟩ : ∃ x, x = max A B := ⟨_, rfl⟩
        obtain ⟨N, hN⟩ : ∃ x, x = min A B := ⟨_, rfl⟩
        rw [← hM] at a3; rw [← hN] at a6
        have b1 : wrap64 (ul * ul) = A := by rw [hA, ← hA]; exact hA ▸ a1
        have b2 : wrap64 (uh * uh) = B := by rw [hB, ← hB]; exact hB ▸ a2
        have m1 : max A B = M := hM.symm
        have m2 : min A B = N := hN.symm
        clear a1 a2 a4 hM hN
        by_cases g1 : 0 < ul
        · have g2 : decide (0 < ul) = true := decide_eq_true g1
          have y1 := a6 (.inl g1)
          clear a6 a7
          clear hA hB
          have bl := Lib.hid (HB.out.alloc HB.out.size (.cells #[.int .i64 ul, .int .i64 uh] 24))
          go_wp2_with fail
          go_roundw
          case rel => exact ⟨1, by omega, by go_num, by rw [y1, HX.out], by rw [a3, HY.out], bl⟩
          case measure => simp [intOf]
        · by_cases g3 : uh < 0
          · have g2 : decide (0 < ul) = false := decide_eq_false g1
            have g4 : decide (uh < 0) = true := decide_eq_true g3
            have y1 := a6 (.inr g3)
            clear a6 a7
            clear hA hB
            have bl := Lib.hid (HB.out.alloc HB.out.size (.cells #[.int .i64 ul, .int .i64 uh] 24))
            go_wp2_with fail
            go_roundw
            case rel => exact ⟨1, by omega, by go_num, by rw [y1, HX.out], by rw [a3, HY.out], bl⟩
            case measure => simp [intOf]
          · have g2 : decide (0 < ul) = false := decide_eq_false g1
            have g4 : decide (uh < 0) = false := decide_eq_false g3
            have y1 := a7 g1 g3
            clear a6 a7
            clear hA hB
            have bl := Lib.hid (HB.out.alloc HB.out.size (.cells #[.int .i64 ul, .int .i64 uh] 24))
            go_wp2_with fail
            go_roundw
            case rel => exact ⟨1, by omega, by go_num, by rw [y1, HX.out], by rw [a3, HY.out], bl⟩
            case measure => simp [intOf]
      · skip
        obtain ⟨x, hx⟩ : ∃ x, x = L 1 := ⟨_, rfl⟩
        obtain ⟨y, hy⟩ : ∃ x, x = H 1 := ⟨_, rfl⟩
        obtain ⟨x2n, hx2⟩ : ∃ x, x = L 2 := ⟨_, rfl⟩
        obtain ⟨y2n, hy2⟩ : ∃ x, x = H 2 := ⟨_, rfl⟩
        have R := HTL.out.r1
        rw [← hx, ← hy, ← hx2, ← hy2] at R
        rw [← hx, ← hy]
        have HX := Lib.hid hx2; have HY := Lib.hid hy2
        clear hx hy hx2 hy2
        have j0 := II.out.2.1
        obtain ⟨a1, a2, a3, a4, -, a6, a7⟩ := R
        obtain ⟨A, hA⟩ : ∃ x, x = el * el := ⟨_, rfl⟩
        obtain ⟨B, hB⟩ : ∃ x, x = eh * eh := ⟨_, rfl⟩
        rw [← hA] at a1 a3 a4 a6; rw [← hB] at a2 a3 a4 a6
        obtain ⟨M, hM⟩ : ∃ x, x = max A B := ⟨_, rfl⟩
        obtain ⟨N, hN⟩ : ∃ x, x = min A B := ⟨_, rfl⟩
        rw [← hM] at a3; rw [← hN] at a6
        have b1 : wrap64 (el * el) = A := by rw [hA, ← hA]; exact hA ▸ a1
        have b2 : wrap64 (eh * eh) = B := by rw [hB, ← hB]; exact hB ▸ a2
        have m1 : max A B = M := hM.symm
        have m2 : min A B = N := hN.symm
        clear a1 a2 a4 hM hN
        by_cases g1 : 0 < el
        · have g2 : decide (0 < el) = true := decide_eq_true g1
          have y1 := a6 (.inl g1)
          clear a6 a7
          clear hA hB
          have bl := Lib.hid (HB.out.alloc HB.out.size (.cells #[.int .i64 el, .int .i64 eh] 24))
          go_wp2_with fail
          go_roundw
          case rel => exact ⟨2, by omega, by go_num, by rw [y1, HX.out], by rw [a3, HY.out], bl⟩
          case measure => simp [intOf]
        · by_cases g3 : eh < 0
          · have g2 : decide (0 < el) = false := decide_eq_false g1
            have g4 : decide (eh < 0) = true := decide_eq_true g3
            have y1 := a6 (.inr g3)
            clear a6 a7
            clear hA hB
            have bl := Lib.hid (HB.out.alloc HB.out.size (.cells #[.int .i64 el, .int .i64 eh] 24))
            go_wp2_with fail
            go_roundw
            case rel => exact ⟨2, by omega, by go_num, by rw [y1, HX.out], by rw [a3, HY.out], bl⟩
            case measure => simp [intOf]
          · have g2 : decide (0 < el) = false := decide_eq_false g1
            have g4 : decide (eh < 0) = false := decide_eq_false g3
            have y1 := a7 g1 g3
            clear a6 a7
            clear hA hB
            have bl := Lib.hid (HB.out.alloc HB.out.size (.cells #[.int .i64 el, .int .i64 eh] 24))
            go_wp2_with fail
            go_roundw
            case rel => exact ⟨2, by omega, by go_num, by rw [y1, HX.out], by rw [a3, HY.out], bl⟩
            case measure => simp [intOf]
      · skip
        obtain ⟨x, hx⟩ : ∃ x, x = L 2 := ⟨_, rfl⟩
        obtain ⟨y, hy⟩ : ∃ x, x = H 2 := ⟨_, rfl⟩
        obtain ⟨x2n, hx2⟩ : ∃ x, x = L 3 := ⟨_, rfl⟩
        obtain ⟨y2n, hy2⟩ : ∃ x, x = H 3 := ⟨_, rfl⟩
        have R := HTL.out.r2
        rw [← hx, ← hy, ← hx2, ← hy2] at R
        rw [← hx, ← hy]
        have HX := Lib.hid hx2; have HY := Lib.hid hy2
        clear hx hy hx2 hy2
        have j0 := II.out.2.2
        obtain ⟨a1, a2, a3, a4, -, a6, a7⟩ := R
        obtain ⟨A, hA⟩ : ∃ x, x = nl * nl := ⟨_, rfl⟩
        obtain ⟨B, hB⟩ : ∃ x, x = nh * nh := ⟨_, rfl⟩
        rw [← hA] at a1 a3 a4 a6; rw [← hB] at a2 a3 a4 a6
        obtain ⟨M, hM⟩ : ∃ x, x = max A B := ⟨_, rfl⟩
        obtain ⟨N, hN⟩ : ∃ x, x = min A B := ⟨_, rfl⟩
        rw [← hM] at a3; rw [← hN] at a6
        have b1 : wrap64 (nl * nl) = A := by rw [hA, ← hA]; exact hA ▸ a1
        have b2 : wrap64 (nh * nh) = B := by rw [hB, ← hB]; exact hB ▸ a2
        have m1 : max A B = M := hM.symm
        have m2 : min A B = N := hN.symm
        clear a1 a2 a4 hM hN
        by_cases g1 : 0 < nl
        · have g2 : decide (0 < nl) = true := decide_eq_true g1
          have y1 := a6 (.inl g1)
          clear a6 a7
          clear hA hB
          have bl := Lib.hid (HB.out.alloc HB.out.size (.cells #[.int .i64 nl, .int .i64 nh] 24))
          go_wp2_with fail
          go_roundw
          case rel => exact ⟨3, by omega, by go_num, by rw [y1, HX.out], by rw [a3, HY.out], bl⟩
          case measure => simp [intOf]
        · by_cases g3 : nh < 0
          · have g2 : decide (0 < nl) = false := decide_eq_false g1
            have g4 : decide (nh < 0) = true := decide_eq_true g3
            have y1 := a6 (.inr g3)
            clear a6 a7
            clear hA hB
            have bl := Lib.hid (HB.out.alloc HB.out.size (.cells #[.int .i64 nl, .int .i64 nh] 24))
            go_wp2_with fail
            go_roundw
            case rel => exact ⟨3, by omega, by go_num, by rw [y1, HX.out], by rw [a3, HY.out], bl⟩
            case measure => simp [intOf]
          · have g2 : decide (0 < nl) = false := decide_eq_false g1
            have g4 : decide (nh < 0) = false := decide_eq_false g3
            have y1 := a7 g1 g3
            clear a6 a7
            clear hA hB
            have bl := Lib.hid (HB.out.alloc HB.out.size (.cells #[.int .i64 nl, .int .i64 nh] 24))
            go_wp2_with fail
            go_roundw
            case rel => exact ⟨3, by omega, by go_num, by rw [y1, HX.out], by rw [a3, HY.out], bl⟩
            case measure => simp [intOf]
      · have e1 := HTL.out.lo; have e2 := HTL.out.hi
        obtain ⟨x, hx⟩ : ∃ x, x = L 3 := ⟨_, rfl⟩
        obtain ⟨y, hy⟩ : ∃ x, x = H 3 := ⟨_, rfl⟩
        rw [← hx] at e1; rw [← hy] at e2
        rw [← hx, ← hy]
        clear hx hy
        have d1 : decide (x ≤ 1000000000000000000) = true := decide_eq_true e1
        have d2 : decide (1000000000000000000 ≤ y) = true := decide_eq_true e2
        go_wp2_with fail
        go_ret
        exact ⟨rfl, HB.out⟩
  · skip
    have sc2_0 := s2.out.c0; have sc2_1 := s2.out.c1; have sc2_l := s2.out.lt
    have sc3_0 := s3.out.c0; have sc3_1 := s3.out.c1; have sc3_l := s3.out.lt
    clear sc2_0 sc2_1 sc2_l sc3_0 sc3_1 sc3_l
    go_wp2_with fail
    refine Calls.mono (MO.out _ (HT.out.below HB.out)) ?_
    rintro e wc3 ⟨rfl, hb⟩
    replace s1 := Lib.hid (s1.out.below hb)
    replace s2 := Lib.hid (s2.out.below hb)
    replace s3 := Lib.hid (s3.out.below hb)
    replace HB := Lib.hid (HB.out.trans (hb.mono HB.out.size))
    clear hb
    have c2_0 := s2.out.c0; have c2_1 := s2.out.c1; have c2_f := s2.out.free 0; have c2_g := s2.out.free 1; have c2_l := s2.out.lt; have c2_k := Hkl2.out
    have c3_0 := s3.out.c0; have c3_1 := s3.out.c1; have c3_f := s3.out.free 0; have c3_g := s3.out.free 1; have c3_l := s3.out.lt; have c3_k := Hkl3.out
    have ne1_2 := Nat.ne_of_lt Hd2_1.out; have ne2_1 := Nat.ne_of_gt Hd2_1.out
    have ne1_3 := Nat.ne_of_lt Hd3_1.out; have ne3_1 := Nat.ne_of_gt Hd3_1.out
    have ne2_3 := Nat.ne_of_lt Hd3_2.out; have ne3_2 := Nat.ne_of_gt Hd3_2.out
    go_upto_region 7 with fail
    obtain ⟨Y2, hY2⟩ : ∃ W, W = (((wc3.setCell ⟨k2, 0, none⟩ (.int .i64 rl')).setCell ⟨k2, 1, none⟩ (.int .i64 rh')).setCell ⟨k2 + 1, 0, none⟩ (.int .i64 dl')).setCell ⟨k2 + 1, 1, none⟩ (.int .i64 dh') := ⟨_, rfl⟩
    have t1 : Hid (PlBox Y2 k1 x1 x2) := Lib.hid (by rw [hY2]; exact (((s1.out.other ne1_2 _).other ne1_2 _).other ne1_3 _).other ne1_3 _)
    have t2 : Hid (SpBox Y2 k2 rl' rh') := Lib.hid (by rw [hY2]; exact ((s2.out.set rl' rh').other ne2_3 _).other ne2_3 _)
    have t3 : Hid (SpBox Y2 (k2 + 1) dl' dh') := Lib.hid (by rw [hY2]; exact ((s3.out.other ne3_2 _).other ne3_2 _).set dl' dh')
    have tb : Hid (Below w.heap.size w Y2) := Lib.hid (by rw [hY2]; exact (((HB.out.setCell (p := ⟨k2, 0, none⟩) c2_k _).setCell (p := ⟨k2, 1, none⟩) c2_k _).setCell (p := ⟨k2 + 1, 0, none⟩) c3_k _).setCell (p := ⟨k2 + 1, 1, none⟩) c3_k _)
    rw [← hY2]
    clear hY2 s1 s2 s3 HB c2_0 c2_1 c2_f c2_g c2_l c2_k c3_0 c3_1 c3_f c3_g c3_l c3_k ne1_2 ne2_1 ne1_3 ne3_1 ne2_3 ne3_2
    have s1 := t1; have s2 := t2; have s3 := t3; have HB := tb
    clear t1 t2 t3 tb
    have LK := lm
    have LAW := parts_law x2 (hhLo x1 tt rh') (hhHi x1 tt rl') dl' dh'
    have HE := Lib.hid (fun W (hT : SinT W) => Height_ok x1 x2 rl' rh' dl' dh' tt W hT LK)
    have GR := Lib.hid (fun W (hT : SinT W) => Ground_ok x1 x2 rl' rh' dl' dh' tt W hT LK)
    generalize hhLo x1 tt rh' = hl at *
    generalize hhHi x1 tt rl' = hh at *
    have ub : (-1000000000 ≤ upLo x2 hl hh dl' dh' ∧ upLo x2 hl hh dl' dh' ≤ 1000000000) ∧ (-1000000000 ≤ upHi x2 hl hh dl' dh' ∧ upHi x2 hl hh dl' dh' ≤ 1000000000) := ⟨(cl_bd _).1, (cl_bd _).2⟩
    have eb : (-1000000000 ≤ eaLo hl hh dl' dh' ∧ eaLo hl hh dl' dh' ≤ 1000000000) ∧ (-1000000000 ≤ eaHi hl hh dl' dh' ∧ eaHi hl hh dl' dh' ≤ 1000000000) := ⟨(cl_bd _).1, (cl_bd _).2⟩
    have nb : (-1000000000 ≤ noLo x2 hl hh dl' dh' ∧ noLo x2 hl hh dl' dh' ≤ 1000000000) ∧ (-1000000000 ≤ noHi x2 hl hh dl' dh' ∧ noHi x2 hl hh dl' dh' ≤ 1000000000) := ⟨(cl_bd _).1, (cl_bd _).2⟩
    generalize upLo x2 hl hh dl' dh' = ul at *
    generalize upHi x2 hl hh dl' dh' = uh at *
    generalize eaLo hl hh dl' dh' = el at *
    generalize eaHi hl hh dl' dh' = eh at *
    generalize noLo x2 hl hh dl' dh' = nl at *
    generalize noHi x2 hl hh dl' dh' = nh at *
    have TAIL := parts_fin LAW ub eb nb
    clear LAW ub eb nb ls lm
    have sc1_0 := s1.out.c0; have sc1_1 := s1.out.c1; have sc1_l := s1.out.lt
    have sc2_0 := s2.out.c0; have sc2_1 := s2.out.c1; have sc2_l := s2.out.lt
    have sc3_0 := s3.out.c0; have sc3_1 := s3.out.c1; have sc3_l := s3.out.lt
    go_wp2_with fail
    refine Calls.mono (HE.out _ (HT.out.below HB.out)) ?_
    rintro e wn4 ⟨rfl, hb⟩
    have Hd4_1 := Lib.hid (s1.out.below hb).lt
    have Hd4_2 := Lib.hid (s2.out.below hb).lt
    have Hd4_3 := Lib.hid (s3.out.below hb).lt
    replace s1 := Lib.hid ((s1.out.below hb).alloc (.cells #[.int .i64 (ul), .int .i64 (uh)] 24))
    replace s2 := Lib.hid ((s2.out.below hb).alloc (.cells #[.int .i64 (ul), .int .i64 (uh)] 24))
    replace s3 := Lib.hid ((s3.out.below hb).alloc (.cells #[.int .i64 (ul), .int .i64 (uh)] 24))
    have HB4 := HB.out.trans (hb.mono HB.out.size)
    clear sc1_0 sc1_1 sc1_l sc2_0 sc2_1 sc2_l sc3_0 sc3_1 sc3_l
    clear hb
    have Hkl4 := Lib.hid HB4.size; replace HB := Lib.hid (HB4.alloc HB4.size (.cells #[.int .i64 (ul), .int .i64 (uh)] 24))
    clear HB4
    have s4 := Lib.hid (SpBox.new wn4 (ul) (uh))
    obtain ⟨k4, hk4⟩ : ∃ x, x = wn4.heap.size := ⟨_, rfl⟩
    rw [← hk4] at s4 Hkl4 Hd4_1 Hd4_2 Hd4_3
    go_upto_region 8 with fail
    rw [← hk4]
    obtain ⟨X4, hX4⟩ : ∃ X, X = wn4.alloc (.cells #[.int .i64 (ul), .int .i64 (uh)] 24) := ⟨_, rfl⟩
    rw [← hX4] at s1 s2 s3 s4 HB ⊢
    clear hk4 hX4
    have sc1_0 := s1.out.c0; have sc1_1 := s1.out.c1; have sc1_l := s1.out.lt
    have sc2_0 := s2.out.c0; have sc2_1 := s2.out.c1; have sc2_l := s2.out.lt
    have sc3_0 := s3.out.c0; have sc3_1 := s3.out.c1; have sc3_l := s3.out.lt
    go_wp2_with fail
    refine Calls.mono (GR.out _ (HT.out.below HB.out)) ?_
    rintro e wn5 ⟨rfl, hb⟩
    have Hd5_1 := Lib.hid (s1.out.below hb).lt
    have Hd5_2 := Lib.hid (s2.out.below hb).lt
    have Hd5_3 := Lib.hid (s3.out.below hb).lt
    have Hd5_4 := Lib.hid (s4.out.below hb).lt
    replace s1 := Lib.hid (((s1.out.below hb).alloc (.cells #[.int .i64 (el), .int .i64 (eh)] 24)).alloc (.cells #[.int .i64 (nl), .int .i64 (nh)] 24))
    replace s2 := Lib.hid (((s2.out.below hb).alloc (.cells #[.int .i64 (el), .int .i64 (eh)] 24)).alloc (.cells #[.int .i64 (nl), .int .i64 (nh)] 24))
    replace s3 := Lib.hid (((s3.out.below hb).alloc (.cells #[.int .i64 (el), .int .i64 (eh)] 24)).alloc (.cells #[.int .i64 (nl), .int .i64 (nh)] 24))
    replace s4 := Lib.hid (((s4.out.below hb).alloc (.cells #[.int .i64 (el), .int .i64 (eh)] 24)).alloc (.cells #[.int .i64 (nl), .int .i64 (nh)] 24))
    have HB5 := HB.out.trans (hb.mono HB.out.size)
    clear sc1_0 sc1_1 sc1_l sc2_0 sc2_1 sc2_l sc3_0 sc3_1 sc3_l
    clear hb
    have Hkl5 := Lib.hid HB5.size; have HBq := HB5.alloc HB5.size (.cells #[.int .i64 (el), .int .i64 (eh)] 24); replace HB := Lib.hid (HBq.alloc HBq.size (.cells #[.int .i64 (nl), .int .i64 (nh)] 24)); clear HB5 HBq
    obtain ⟨k5, hk5⟩ : ∃ x, x = wn5.heap.size := ⟨_, rfl⟩
    have hk6 : (wn5.alloc (.cells #[.int .i64 (el), .int .i64 (eh)] 24)).heap.size = k5 + 1 := by simp [hk5]
    have s5 := Lib.hid ((SpBox.new wn5 (el) (eh)).alloc (.cells #[.int .i64 (nl), .int .i64 (nh)] 24))
    have s60 := SpBox.new (wn5.alloc (.cells #[.int .i64 (el), .int .i64 (eh)] 24)) (nl) (nh)
    rw [hk6] at s60
    have s6 := Lib.hid s60; clear s60
    rw [← hk5] at s5 Hkl5 Hd5_1 Hd5_2 Hd5_3 Hd5_4
    have Hkl6 := Lib.hid (Nat.le_trans Hkl5.out (Nat.le_succ k5))
    have Hd6_1 := Lib.hid (Nat.lt_trans Hd5_1.out (Nat.lt_succ_self k5))
    have Hd6_2 := Lib.hid (Nat.lt_trans Hd5_2.out (Nat.lt_succ_self k5))
    have Hd6_3 := Lib.hid (Nat.lt_trans Hd5_3.out (Nat.lt_succ_self k5))
    have Hd6_4 := Lib.hid (Nat.lt_trans Hd5_4.out (Nat.lt_succ_self k5))
    have Hd6_5 := Lib.hid (Nat.lt_succ_self k5)
    go_upto_region 9 with fail
    (try rw [hk6])
    rw [← hk5]
    obtain ⟨X6, hX6⟩ : ∃ X, X = (wn5.alloc (.cells #[.int .i64 (el), .int .i64 (eh)] 24)).alloc (.cells #[.int .i64 (nl), .int .i64 (nh)] 24) := ⟨_, rfl⟩
    rw [← hX6] at s1 s2 s3 s4 s5 s6 HB ⊢
    clear hk6 hk5 hX6
    have II : Hid ((∀ w, (Instr.index 61 (.agg #[.int .i64 ul, .int .i64 uh, .int .i64 el, .int .i64 eh, .int .i64 nl, .int .i64 nh]) (.int .i64 0)).run Tryd.prog w = .ok (.agg #[.int .i64 ul, .int .i64 uh]) w) ∧ (∀ w, (Instr.index 61 (.agg #[.int .i64 ul, .int .i64 uh, .int .i64 el, .int .i64 eh, .int .i64 nl, .int .i64 nh]) (.int .i64 1)).run Tryd.prog w = .ok (.agg #[.int .i64 el, .int .i64 eh]) w) ∧ (∀ w, (Instr.index 61 (.agg #[.int .i64 ul, .int .i64 uh, .int .i64 el, .int .i64 eh, .int .i64 nl, .int .i64 nh]) (.int .i64 2)).run Tryd.prog w = .ok (.agg #[.int .i64 nl, .int .i64 nh]) w)) := Lib.hid ⟨fun _ => by kernel_rfl, fun _ => by kernel_rfl, fun _ => by kernel_rfl⟩
    obtain ⟨L, hL⟩ : ∃ f, f = acc3 (sqL ul uh) (sqL el eh) (sqL nl nh) := ⟨_, rfl⟩
    obtain ⟨H, hH⟩ : ∃ f, f = acc3 (sqH ul uh) (sqH el eh) (sqH nl nh) := ⟨_, rfl⟩
    rw [← hL, ← hH] at TAIL
    have HTL := Lib.hid TAIL
    clear hL hH TAIL HE GR SU MO BD HT
    have sc4_0 := s4.out.c0; have sc4_1 := s4.out.c1; have sc4_l := s4.out.lt
    have sc5_0 := s5.out.c0; have sc5_1 := s5.out.c1; have sc5_l := s5.out.lt
    have sc6_0 := s6.out.c0; have sc6_1 := s6.out.c1; have sc6_l := s6.out.lt
    go_wp2_with fail
    clear sc4_0 sc4_1 sc4_l sc5_0 sc5_1 sc5_l sc6_0 sc6_1 sc6_l
    (try clear s1)
    (try clear s2)
    (try clear s3)
    (try clear s4)
    (try clear s5)
    (try clear s6)
    (try clear s7)
    (try clear Hkl1)
    (try clear Hd2_1)
    (try clear Hkl2)
    (try clear Hkl3)
    (try clear Hd3_1)
    (try clear Hd3_2)
    (try clear Hd4_1)
    (try clear Hd4_2)
    (try clear Hd4_3)
    (try clear Hkl4)
    (try clear Hd5_1)
    (try clear Hd5_2)
    (try clear Hd5_3)
    (try clear Hd5_4)
    (try clear Hkl5)
    (try clear Hkl6)
    (try clear Hd6_1)
    (try clear Hd6_2)
    (try clear Hd6_3)
    (try clear Hd6_4)
    (try clear Hd6_5)
    go_loopw [15, 16, 72] (fun lo hi i wr => ∃ j : Nat, j ≤ 3 ∧ i = .int .i64 j ∧ lo = .int .i64 (L j) ∧ hi = .int .i64 (H j) ∧ Hid (Below w.heap.size w wr)) (fun _ _ i _ => 3 - (intOf i).toNat)
    case atStart => exact ⟨0, by omega, rfl, by rw [HTL.out.l0], by rw [HTL.out.h0], HB⟩
    case round =>
      clear HB
      obtain ⟨j, hj, rfl, rfl, rfl, HB⟩ := hrel
      obtain rfl | rfl | rfl | rfl : j = 0 ∨ j = 1 ∨ j = 2 ∨ j = 3 := by omega
      · skip
        obtain ⟨x, hx⟩ : ∃ x, x = L 0 := ⟨_, rfl⟩
        obtain ⟨y, hy⟩ : ∃ x, x = H 0 := ⟨_, rfl⟩
        obtain ⟨x2n, hx2⟩ : ∃ x, x = L 1 := ⟨_, rfl⟩
        obtain ⟨y2n, hy2⟩ : ∃ x, x = H 1 := ⟨_, rfl⟩
        have R := HTL.out.r0
        rw [← hx, ← hy, ← hx2, ← hy2] at R
        rw [← hx, ← hy]
        have HX := Lib.hid hx2; have HY := Lib.hid hy2
        clear hx hy hx2 hy2
        have j0 := II.out.1
        obtain ⟨a1, a2, a3, a4, -, a6, a7⟩ := R
        obtain ⟨A, hA⟩ : ∃ x, x = ul * ul := ⟨_, rfl⟩
        obtain ⟨B, hB⟩ : ∃ x, x = uh * uh := ⟨_, rfl⟩
        rw [← hA] at a1 a3 a4 a6; rw [← hB] at a2 a3 a4 a6
        obtain ⟨M, hM⟩ : ∃ x, x = max A B := ⟨_, rfl⟩
        obtain ⟨N, hN⟩ : ∃ x, x = min A B := ⟨_, rfl⟩
        rw [← hM] at a3; rw [← hN] at a6
        have b1 : wrap64 (ul * ul) = A := by rw [hA, ← hA]; exact hA ▸ a1
        have b2 : wrap64 (uh * uh) = B := by rw [hB, ← hB]; exact hB ▸ a2
        have m1 : max A B = M := hM.symm
        have m2 : min A B = N := hN.symm
        clear a1 a2 a4 hM hN
        by_cases g1 : 0 < ul
        · have g2 : decide (0 < ul) = true := decide_eq_true g1
          have y1 := a6 (.inl g1)
          clear a6 a7
          clear hA hB
          have bl := Lib.hid (HB.out.alloc HB.out.size (.cells #[.int .i64 ul, .int .i64 uh] 24))
          go_wp2_with fail
          go_roundw
          case rel => exact ⟨1, by omega, by go_num, by rw [y1, HX.out], by rw [a3, HY.out], bl⟩
          case measure => simp [intOf]
        · by_cases g3 : uh < 0
          · have g2 : decide (0 < ul) = false := decide_eq_false g1
            have g4 : decide (uh < 0) = true := decide_eq_true g3
            have y1 := a6 (.inr g3)
            clear a6 a7
            clear hA hB
            have bl := Lib.hid (HB.out.alloc HB.out.size (.cells #[.int .i64 ul, .int .i64 uh] 24))
            go_wp2_with fail
            go_roundw
            case rel => exact ⟨1, by omega, by go_num, by rw [y1, HX.out], by rw [a3, HY.out], bl⟩
            case measure => simp [intOf]
          · have g2 : decide (0 < ul) = false := decide_eq_false g1
            have g4 : decide (uh < 0) = false := decide_eq_false g3
            have y1 := a7 g1 g3
            clear a6 a7
            clear hA hB
            have bl := Lib.hid (HB.out.alloc HB.out.size (.cells #[.int .i64 ul, .int .i64 uh] 24))
            go_wp2_with fail
            go_roundw
            case rel => exact ⟨1, by omega, by go_num, by rw [y1, HX.out], by rw [a3, HY.out], bl⟩
            case measure => simp [intOf]
      · skip
        obtain ⟨x, hx⟩ : ∃ x, x = L 1 := ⟨_, rfl⟩
        obtain ⟨y, hy⟩ : ∃ x, x = H 1 := ⟨_, rfl⟩
        obtain ⟨x2n, hx2⟩ : ∃ x, x = L 2 := ⟨_, rfl⟩
        obtain ⟨y2n, hy2⟩ : ∃ x, x = H 2 := ⟨_, rfl⟩
        have R := HTL.out.r1
        rw [← hx, ← hy, ← hx2, ← hy2] at R
        rw [← hx, ← hy]
        have HX := Lib.hid hx2; have HY := Lib.hid hy2
        clear hx hy hx2 hy2
        have j0 := II.out.2.1
        obtain ⟨a1, a2, a3, a4, -, a6, a7⟩ := R
        obtain ⟨A, hA⟩ : ∃ x, x = el * el := ⟨_, rfl⟩
        obtain ⟨B, hB⟩ : ∃ x, x = eh * eh := ⟨_, rfl⟩
        rw [← hA] at a1 a3 a4 a6; rw [← hB] at a2 a3 a4 a6
        obtain ⟨M, hM⟩ : ∃ x, x = max A B := ⟨_, rfl⟩
        obtain ⟨N, hN⟩ : ∃ x, x = min A B := ⟨_, rfl⟩
        rw [← hM] at a3; rw [← hN] at a6
        have b1 : wrap64 (el * el) = A := by rw [hA, ← hA]; exact hA ▸ a1
        have b2 : wrap64 (eh * eh) = B := by rw [hB, ← hB]; exact hB ▸ a2
        have m1 : max A B = M := hM.symm
        have m2 : min A B = N := hN.symm
        clear a1 a2 a4 hM hN
        by_cases g1 : 0 < el
        · have g2 : decide (0 < el) = true := decide_eq_true g1
          have y1 := a6 (.inl g1)
          clear a6 a7
          clear hA hB
          have bl := Lib.hid (HB.out.alloc HB.out.size (.cells #[.int .i64 el, .int .i64 eh] 24))
          go_wp2_with fail
          go_roundw
          case rel => exact ⟨2, by omega, by go_num, by rw [y1, HX.out], by rw [a3, HY.out], bl⟩
          case measure => simp [intOf]
        · by_cases g3 : eh < 0
          · have g2 : decide (0 < el) = false := decide_eq_false g1
            have g4 : decide (eh < 0) = true := decide_eq_true g3
            have y1 := a6 (.inr g3)
            clear a6 a7
            clear hA hB
            have bl := Lib.hid (HB.out.alloc HB.out.size (.cells #[.int .i64 el, .int .i64 eh] 24))
            go_wp2_with fail
            go_roundw
            case rel => exact ⟨2, by omega, by go_num, by rw [y1, HX.out], by rw [a3, HY.out], bl⟩
            case measure => simp [intOf]
          · have g2 : decide (0 < el) = false := decide_eq_false g1
            have g4 : decide (eh < 0) = false := decide_eq_false g3
            have y1 := a7 g1 g3
            clear a6 a7
            clear hA hB
            have bl := Lib.hid (HB.out.alloc HB.out.size (.cells #[.int .i64 el, .int .i64 eh] 24))
            go_wp2_with fail
            go_roundw
            case rel => exact ⟨2, by omega, by go_num, by rw [y1, HX.out], by rw [a3, HY.out], bl⟩
            case measure => simp [intOf]
      · skip
        obtain ⟨x, hx⟩ : ∃ x, x = L 2 := ⟨_, rfl⟩
        obtain ⟨y, hy⟩ : ∃ x, x = H 2 := ⟨_, rfl⟩
        obtain ⟨x2n, hx2⟩ : ∃ x, x = L 3 := ⟨_, rfl⟩
        obtain ⟨y2n, hy2⟩ : ∃ x, x = H 3 := ⟨_, rfl⟩
        have R := HTL.out.r2
        rw [← hx, ← hy, ← hx2, ← hy2] at R
        rw [← hx, ← hy]
        have HX := Lib.hid hx2; have HY := Lib.hid hy2
        clear hx hy hx2 hy2
        have j0 := II.out.2.2
        obtain ⟨a1, a2, a3, a4, -, a6, a7⟩ := R
        obtain ⟨A, hA⟩ : ∃ x, x = nl * nl := ⟨_, rfl⟩
        obtain ⟨B, hB⟩ : ∃ x, x = nh * nh := ⟨_, rfl⟩
        rw [← hA] at a1 a3 a4 a6; rw [← hB] at a2 a3 a4 a6
        obtain ⟨M, hM⟩ : ∃ x, x = max A B := ⟨_, rfl⟩
        obtain ⟨N, hN⟩ : ∃ x, x = min A B := ⟨_, rfl⟩
        rw [← hM] at a3; rw [← hN] at a6
        have b1 : wrap64 (nl * nl) = A := by rw [hA, ← hA]; exact hA ▸ a1
        have b2 : wrap64 (nh * nh) = B := by rw [hB, ← hB]; exact hB ▸ a2
        have m1 : max A B = M := hM.symm
        have m2 : min A B = N := hN.symm
        clear a1 a2 a4 hM hN
        by_cases g1 : 0 < nl
        · have g2 : decide (0 < nl) = true := decide_eq_true g1
          have y1 := a6 (.inl g1)
          clear a6 a7
          clear hA hB
          have bl := Lib.hid (HB.out.alloc HB.out.size (.cells #[.int .i64 nl, .int .i64 nh] 24))
          go_wp2_with fail
          go_roundw
          case rel => exact ⟨3, by omega, by go_num, by rw [y1, HX.out], by rw [a3, HY.out], bl⟩
          case measure => simp [intOf]
        · by_cases g3 : nh < 0
          · have g2 : decide (0 < nl) = false := decide_eq_false g1
            have g4 : decide (nh < 0) = true := decide_eq_true g3
            have y1 := a6 (.inr g3)
            clear a6 a7
            clear hA hB
            have bl := Lib.hid (HB.out.alloc HB.out.size (.cells #[.int .i64 nl, .int .i64 nh] 24))
            go_wp2_with fail
            go_roundw
            case rel => exact ⟨3, by omega, by go_num, by rw [y1, HX.out], by rw [a3, HY.out], bl⟩
            case measure => simp [intOf]
          · have g2 : decide (0 < nl) = false := decide_eq_false g1
            have g4 : decide (nh < 0) = false := decide_eq_false g3
            have y1 := a7 g1 g3
            clear a6 a7
            clear hA hB
            have bl := Lib.hid (HB.out.alloc HB.out.size (.cells #[.int .i64 nl, .int .i64 nh] 24))
            go_wp2_with fail
            go_roundw
            case rel => exact ⟨3, by omega, by go_num, by rw [y1, HX.out], by rw [a3, HY.out], bl⟩
            case measure => simp [intOf]
      · have e1 := HTL.out.lo; have e2 := HTL.out.hi
        obtain ⟨x, hx⟩ : ∃ x, x = L 3 := ⟨_, rfl⟩
        obtain ⟨y, hy⟩ : ∃ x, x = H 3 := ⟨_, rfl⟩
        rw [← hx] at e1; rw [← hy] at e2
        rw [← hx, ← hy]
        clear hx hy
        have d1 : decide (x ≤ 1000000000000000000) = true := decide_eq_true e1
        have d2 : decide (1000000000000000000 ≤ y) = true := decide_eq_true e2
        go_wp2_with fail
        go_ret
        exact ⟨rfl, HB.out⟩
end Go.Proofs.YtdeoahgcppbmkaaDoor
