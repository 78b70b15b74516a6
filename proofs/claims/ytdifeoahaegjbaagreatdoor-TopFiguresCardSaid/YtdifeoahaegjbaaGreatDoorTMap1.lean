/- figure.mapped at fractions, by what Mul, Add make of them. -/
import Derived.Test.YtdifeoahaegjbaaGreatDoorTFig
import Derived.Deep.DeepCutAuto
namespace Go.Proofs.YtdifeoahaegjbaaGreatDoor
open Go.RowKit
set_option linter.unusedSimpArgs false
set_option linter.unusedVariables false

def MulIs (x d y c r b : Int) : Prop := ∀ W, Calls Tryz.prog 37 #[.agg #[.int .i64 x, .int .i64 d], .agg #[.int .i64 y, .int .i64 c]] W fun e w' => e = .returned (.tuple #[.agg #[.int .i64 r, .int .i64 b], .int .i64 0]) ∧ Below W.heap.size W w'
def AddIs (x d y c r b : Int) : Prop := ∀ W, Calls Tryz.prog 38 #[.agg #[.int .i64 x, .int .i64 d], .agg #[.int .i64 y, .int .i64 c]] W fun e w' => e = .returned (.tuple #[.agg #[.int .i64 r, .int .i64 b], .int .i64 0]) ∧ Below W.heap.size W w'

/-- The boxes of 'mapped'. -/
structure MpG (w : World) (k : Nat) (px pd py qd a b c : Int) : Prop where
  p : PtBox w k px pd py qd
  a : FrBox w (k + 1) a 1
  b : FrBox w (k + 1 + 1) b 1
  c : FrBox w (k + 1 + 1 + 1) c 1
  r : FrBox w (k + 1 + 1 + 1 + 1) 0 0
theorem MpG.below {w w' : World} {k : Nat} {px pd py qd a b c : Int} (h : MpG w k px pd py qd a b c) (hb : Below w.heap.size w w') : MpG w' k px pd py qd a b c :=
  ⟨h.p.below hb, h.a.below hb, h.b.below hb, h.c.below hb, h.r.below hb⟩
def mgW (w : World) (px pd py qd a b c : Int) : World :=
  ((((w.alloc (.cells #[.int .i64 px, .int .i64 pd, .int .i64 py, .int .i64 qd] 33)).alloc (.cells #[.int .i64 a, .int .i64 1] 30)).alloc (.cells #[.int .i64 b, .int .i64 1] 30)).alloc (.cells #[.int .i64 c, .int .i64 1] 30)).alloc (.cells #[.int .i64 0, .int .i64 0] 30)
theorem mgW_box (w : World) (px pd py qd a b c : Int) : MpG (mgW w px pd py qd a b c) w.heap.size px pd py qd a b c := by
  have h1 := (((((PtBox.new w px pd py qd).alloc (.cells #[.int .i64 a, .int .i64 1] 30)).alloc (.cells #[.int .i64 b, .int .i64 1] 30)).alloc (.cells #[.int .i64 c, .int .i64 1] 30)).alloc (.cells #[.int .i64 0, .int .i64 0] 30))
  have h2 := ((((FrBox.new (w.alloc (.cells #[.int .i64 px, .int .i64 pd, .int .i64 py, .int .i64 qd] 33)) a 1).alloc (.cells #[.int .i64 b, .int .i64 1] 30)).alloc (.cells #[.int .i64 c, .int .i64 1] 30)).alloc (.cells #[.int .i64 0, .int .i64 0] 30))
  have h3 := (((FrBox.new ((w.alloc (.cells #[.int .i64 px, .int .i64 pd, .int .i64 py, .int .i64 qd] 33)).alloc (.cells #[.int .i64 a, .int .i64 1] 30)) b 1).alloc (.cells #[.int .i64 c, .int .i64 1] 30)).alloc (.cells #[.int .i64 0, .int .i64 0] 30))
  have h4 := ((FrBox.new (((w.alloc (.cells #[.int .i64 px, .int .i64 pd, .int .i64 py, .int .i64 qd] 33)).alloc (.cells #[.int .i64 a, .int .i64 1] 30)).alloc (.cells #[.int .i64 b, .int .i64 1] 30)) c 1).alloc (.cells #[.int .i64 0, .int .i64 0] 30))
  have h5 := (FrBox.new ((((w.alloc (.cells #[.int .i64 px, .int .i64 pd, .int .i64 py, .int .i64 qd] 33)).alloc (.cells #[.int .i64 a, .int .i64 1] 30)).alloc (.cells #[.int .i64 b, .int .i64 1] 30)).alloc (.cells #[.int .i64 c, .int .i64 1] 30)) 0 0)
  simp only [World.size_alloc] at h2 h3 h4 h5
  exact ⟨h1, h2, h3, h4, h5⟩
theorem mgW_below (w : World) (px pd py qd a b c : Int) : Below w.heap.size w (mgW w px pd py qd a b c) :=
  (((((Below.refl w.heap.size w).alloc (Nat.le_refl _) _).alloc (by simp) _).alloc (by simp; omega) _).alloc (by simp; omega) _).alloc (by simp; omega) _

set_option maxRecDepth 100000 in
set_option maxHeartbeats 8000000 in
theorem mapped_gen (px pd py qd a b c u ud v vd s sd r rd : Int) (w : World) (h1 : MulIs a 1 px pd u ud) (h2 : MulIs b 1 py qd v vd) (h3 : AddIs u ud v vd s sd) (h4 : AddIs s sd c 1 r rd) :
    Calls Tryz.prog 21 #[.agg #[.int .i64 px, .int .i64 pd, .int .i64 py, .int .i64 qd], .agg #[.int .i64 a, .int .i64 1], .agg #[.int .i64 b, .int .i64 1], .agg #[.int .i64 c, .int .i64 1]] w fun e w' => e = .returned (.tuple #[.agg #[.int .i64 r, .int .i64 rd], .int .i64 0]) ∧ Below w.heap.size w w' := by
  have H1 := Lib.hid h1; have H2 := Lib.hid h2; have H3 := Lib.hid h3; have H4 := Lib.hid h4
  have HB := Lib.hid (mgW_box w px pd py qd a b c)
  have Hb := Lib.hid (mgW_below w px pd py qd a b c)
  have hW : (((((w.alloc (.cells #[.int .i64 px, .int .i64 pd, .int .i64 py, .int .i64 qd] 33)).alloc (.cells #[.int .i64 a, .int .i64 1] 30)).alloc (.cells #[.int .i64 b, .int .i64 1] 30)).alloc (.cells #[.int .i64 c, .int .i64 1] 30)).alloc (.cells #[.int .i64 0, .int .i64 0] 30)) = mgW w px pd py qd a b c := rfl
  clear h1 h2 h3 h4
  have HW := Lib.hid hW
  clear hW
  go_enter Tryz.func21, Tryz.ntmps21
  go_upto_region 1 with fail
  rw [HW.out]
  obtain ⟨W, hW⟩ : ∃ W, W = mgW w px pd py qd a b c := ⟨_, rfl⟩
  rw [← hW] at HB Hb ⊢
  obtain ⟨k, hk⟩ : ∃ k, k = w.heap.size := ⟨_, rfl⟩
  rw [← hk] at HB ⊢
  have HK := Lib.hid hk
  clear hW HW hk
  have x0 := HB.out.p.c0; have x1 := HB.out.p.c1; have x2 := HB.out.a.c0; have x3 := HB.out.a.c1; have xl := HB.out.p.lt; have yl := HB.out.a.lt
  go_wp2_with fail
  refine Calls.mono (H1.out _) ?_
  rintro e w1 ⟨rfl, hb⟩
  have HB1 := Lib.hid ((HB.out.below hb).below ((Below.refl w1.heap.size w1).alloc (Nat.le_refl _) (.cells #[.int .i64 u, .int .i64 ud] 30)))
  have bb1 := Hb.out.trans (hb.mono Hb.out.size)
  have Hb1 := Lib.hid (bb1.alloc bb1.size (.cells #[.int .i64 u, .int .i64 ud] 30))
  have HU1 := Lib.hid (FrBox.new w1 u ud)
  obtain ⟨ku, hku⟩ : ∃ k, k = w1.heap.size := ⟨_, rfl⟩
  rw [← hku] at HU1
  have HKU := Lib.hid hku
  obtain ⟨Y, hY⟩ : ∃ Y, Y = w1.alloc (.cells #[.int .i64 u, .int .i64 ud] 30) := ⟨_, rfl⟩
  rw [← hY] at HB1 Hb1 HU1
  have HY := Lib.hid hY
  clear hb bb1 x0 x1 x2 x3 xl yl HB Hb H1 hku hY
  go_upto_region 4 with fail
  rw [← HY.out, ← HKU.out]
  clear HY HKU
  have x0 := HB1.out.p.c2; have x1 := HB1.out.p.c3; have x2 := HB1.out.b.c0; have x3 := HB1.out.b.c1; have xl := HB1.out.p.lt; have yl := HB1.out.b.lt
  go_wp2_with fail
  refine Calls.mono (H2.out _) ?_
  rintro e w2 ⟨rfl, hb⟩
  have HB2 := Lib.hid ((HB1.out.below hb).below ((Below.refl w2.heap.size w2).alloc (Nat.le_refl _) (.cells #[.int .i64 v, .int .i64 vd] 30)))
  have bb1 := Hb1.out.trans (hb.mono Hb1.out.size)
  have Hb2 := Lib.hid (bb1.alloc bb1.size (.cells #[.int .i64 v, .int .i64 vd] 30))
  have HU2 := Lib.hid ((HU1.out.below hb).alloc (.cells #[.int .i64 v, .int .i64 vd] 30))
  have HV2 := Lib.hid (FrBox.new w2 v vd)
  obtain ⟨kv, hkv⟩ : ∃ k, k = w2.heap.size := ⟨_, rfl⟩
  rw [← hkv] at HV2
  have HKV := Lib.hid hkv
  obtain ⟨Z, hZ⟩ : ∃ Y, Y = w2.alloc (.cells #[.int .i64 v, .int .i64 vd] 30) := ⟨_, rfl⟩
  rw [← hZ] at HB2 Hb2 HU2 HV2
  have HZ := Lib.hid hZ
  clear hb bb1 x0 x1 x2 x3 xl yl HB1 Hb1 HU1 H2 hkv hZ
  go_upto_region 7 with fail
  rw [← HZ.out, ← HKV.out]
  clear HZ HKV
  have x0 := HU2.out.c0; have x1 := HU2.out.c1; have x2 := HV2.out.c0; have x3 := HV2.out.c1; have xl := HU2.out.lt; have yl := HV2.out.lt
  go_wp2_with fail
  refine Calls.mono (H3.out _) ?_
  rintro e w3 ⟨rfl, hb⟩
  have HB3 := Lib.hid ((HB2.out.below hb).below ((Below.refl w3.heap.size w3).alloc (Nat.le_refl _) (.cells #[.int .i64 s, .int .i64 sd] 30)))
  have bb1 := Hb2.out.trans (hb.mono Hb2.out.size)
  have Hb3 := Lib.hid (bb1.alloc bb1.size (.cells #[.int .i64 s, .int .i64 sd] 30))
  have HS3 := Lib.hid (FrBox.new w3 s sd)
  obtain ⟨ks, hks⟩ : ∃ k, k = w3.heap.size := ⟨_, rfl⟩
  rw [← hks] at HS3
  have HKS := Lib.hid hks
  obtain ⟨U, hU⟩ : ∃ Y, Y = w3.alloc (.cells #[.int .i64 s, .int .i64 sd] 30) := ⟨_, rfl⟩
  rw [← hU] at HB3 Hb3 HS3
  have HUU := Lib.hid hU
  clear hb bb1 x0 x1 x2 x3 xl yl HB2 Hb2 HU2 HV2 H3 hks hU
  go_upto_region 10 with fail
  rw [← HUU.out, ← HKS.out]
  clear HUU HKS
  have x0 := HS3.out.c0; have x1 := HS3.out.c1; have x2 := HB3.out.c.c0; have x3 := HB3.out.c.c1; have xl := HS3.out.lt; have yl := HB3.out.c.lt
  go_wp2_with fail
  refine Calls.mono (H4.out _) ?_
  rintro e w4 ⟨rfl, hb⟩
  have hbl := Hb3.out.trans (hb.mono Hb3.out.size)
  have P4 := HB3.out.r.below hb
  have y0 := P4.c0; have y1 := P4.c1; have yl4 := P4.lt; have yf0 := P4.free 0; have yf1 := P4.free 1
  clear hb x0 x1 x2 x3 xl yl
  go_wp2_with fail
  refine bodyPost_ret (v := .tuple #[.agg #[.int .i64 r, .int .i64 rd], .int .i64 0]) ?_ rfl ⟨rfl, ?_⟩
  · simp [results, Tryz.results21, go_sem, *]
  · have k1 : w.heap.size ≤ k + 1 + 1 + 1 + 1 := by have := HK.out; omega
    exact (hbl.setCell (p := ⟨k + 1 + 1 + 1 + 1, 0, none⟩) k1 _).setCell (p := ⟨k + 1 + 1 + 1 + 1, 1, none⟩) k1 _

/-- The first coordinate of a point that is turned by a quarter. -/
theorem turn_x (px pd py qd : Int) (w : World) (hx : FrP px pd) (hy : FrP py qd) :
    Calls Tryz.prog 21 #[.agg #[.int .i64 px, .int .i64 pd, .int .i64 py, .int .i64 qd], .agg #[.int .i64 0, .int .i64 1], .agg #[.int .i64 (-1), .int .i64 1], .agg #[.int .i64 0, .int .i64 1]] w fun e w' => e = .returned (.tuple #[.agg #[.int .i64 (-py), .int .i64 qd], .int .i64 0]) ∧ Below w.heap.size w w' :=
  mapped_gen px pd py qd 0 (-1) 0 0 1 (-py) qd (-py) qd (-py) qd w (fun W => mul_zero hx.s W) (fun W => mul_minus hy.s W) (fun W => add_zero_l hy.neg.s W) (fun W => add_zero_r hy.neg.s W)
theorem turn_y (px pd py qd : Int) (w : World) (hx : FrP px pd) (hy : FrP py qd) :
    Calls Tryz.prog 21 #[.agg #[.int .i64 px, .int .i64 pd, .int .i64 py, .int .i64 qd], .agg #[.int .i64 1, .int .i64 1], .agg #[.int .i64 0, .int .i64 1], .agg #[.int .i64 0, .int .i64 1]] w fun e w' => e = .returned (.tuple #[.agg #[.int .i64 px, .int .i64 pd], .int .i64 0]) ∧ Below w.heap.size w w' :=
  mapped_gen px pd py qd 1 0 0 px pd 0 1 px pd px pd w (fun W => mul_one hx.s W) (fun W => mul_zero hy.s W) (fun W => add_zero_r hx.s W) (fun W => add_zero_r hx.s W)
end Go.Proofs.YtdifeoahaegjbaaGreatDoor
