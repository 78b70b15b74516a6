/- figure.mapped: a coordinate of a point, at whole numbers. -/
import Derived.Test.YtdifeoahaegjbaaGreatDoorFig
import Derived.Deep.DeepCutAuto
namespace Go.Proofs.YtdifeoahaegjbaaGreatDoor
open Go.RowKit
set_option linter.unusedSimpArgs false
set_option linter.unusedVariables false

/-- Four boxes: a point and three fractions. -/
def ptF (a b c d : Int) : Nat → Value := fun i => if i = 0 then .int .i64 a else if i = 1 then .int .i64 b else if i = 2 then .int .i64 c else .int .i64 d
def PtBox (w : World) (k : Nat) (a b c d : Int) : Prop := w.rowIs k 33 4 (ptF a b c d)
section
variable {w w' : World} {k : Nat} {a b c d : Int}
theorem PtBox.c0 (h : PtBox w k a b c d) : w.cell? ⟨k, 0, none⟩ = some (.int .i64 a) := World.rowIs.cell h (i := 0) (by omega)
theorem PtBox.c1 (h : PtBox w k a b c d) : w.cell? ⟨k, 1, none⟩ = some (.int .i64 b) := World.rowIs.cell h (i := 1) (by omega)
theorem PtBox.c2 (h : PtBox w k a b c d) : w.cell? ⟨k, 2, none⟩ = some (.int .i64 c) := World.rowIs.cell h (i := 2) (by omega)
theorem PtBox.c3 (h : PtBox w k a b c d) : w.cell? ⟨k, 3, none⟩ = some (.int .i64 d) := World.rowIs.cell h (i := 3) (by omega)
theorem PtBox.free (h : PtBox w k a b c d) (i : Nat) : w.frozen? ⟨k, i, none⟩ = false := World.rowIs.frozen h i
theorem PtBox.lt (h : PtBox w k a b c d) : k < w.heap.size := World.rowIs.lt h
theorem PtBox.alloc (h : PtBox w k a b c d) (o : Obj) : PtBox (w.alloc o) k a b c d := World.rowIs.alloc h o
theorem PtBox.below (h : PtBox w k a b c d) (hb : Below w.heap.size w w') : PtBox w' k a b c d := World.rowIs.of_block h (hb.block k (World.rowIs.lt h))
theorem PtBox.other (h : PtBox w k a b c d) {p : Addr} (hp : k ≠ p.block) (v : Value) : PtBox (w.setCell p v) k a b c d := World.rowIs.setOther h hp v
theorem PtBox.new (w : World) (a b c d : Int) : PtBox (w.alloc (.cells #[.int .i64 a, .int .i64 b, .int .i64 c, .int .i64 d] 33)) w.heap.size a b c d :=
  World.rowIs_alloc w #[.int .i64 a, .int .i64 b, .int .i64 c, .int .i64 d] 33 (ptF a b c d) (fun i hi => by
    match i, hi with
    | 0, _ => rfl
    | 1, _ => rfl
    | 2, _ => rfl
    | 3, _ => rfl)
end

/-- The boxes of 'mapped'. -/
structure MpB (w : World) (k : Nat) (px py a b c : Int) : Prop where
  p : PtBox w k px 1 py 1
  a : FrBox w (k + 1) a 1
  b : FrBox w (k + 1 + 1) b 1
  c : FrBox w (k + 1 + 1 + 1) c 1
  r : FrBox w (k + 1 + 1 + 1 + 1) 0 0
theorem MpB.below {w w' : World} {k : Nat} {px py a b c : Int} (h : MpB w k px py a b c) (hb : Below w.heap.size w w') : MpB w' k px py a b c :=
  ⟨h.p.below hb, h.a.below hb, h.b.below hb, h.c.below hb, h.r.below hb⟩
def mpW (w : World) (px py a b c : Int) : World :=
  ((((w.alloc (.cells #[.int .i64 px, .int .i64 1, .int .i64 py, .int .i64 1] 33)).alloc (.cells #[.int .i64 a, .int .i64 1] 30)).alloc (.cells #[.int .i64 b, .int .i64 1] 30)).alloc (.cells #[.int .i64 c, .int .i64 1] 30)).alloc (.cells #[.int .i64 0, .int .i64 0] 30)
theorem mpW_box (w : World) (px py a b c : Int) : MpB (mpW w px py a b c) w.heap.size px py a b c := by
  have h1 := (((((PtBox.new w px 1 py 1).alloc (.cells #[.int .i64 a, .int .i64 1] 30)).alloc (.cells #[.int .i64 b, .int .i64 1] 30)).alloc (.cells #[.int .i64 c, .int .i64 1] 30)).alloc (.cells #[.int .i64 0, .int .i64 0] 30))
  have h2 := ((((FrBox.new (w.alloc (.cells #[.int .i64 px, .int .i64 1, .int .i64 py, .int .i64 1] 33)) a 1).alloc (.cells #[.int .i64 b, .int .i64 1] 30)).alloc (.cells #[.int .i64 c, .int .i64 1] 30)).alloc (.cells #[.int .i64 0, .int .i64 0] 30))
  have h3 := (((FrBox.new ((w.alloc (.cells #[.int .i64 px, .int .i64 1, .int .i64 py, .int .i64 1] 33)).alloc (.cells #[.int .i64 a, .int .i64 1] 30)) b 1).alloc (.cells #[.int .i64 c, .int .i64 1] 30)).alloc (.cells #[.int .i64 0, .int .i64 0] 30))
  have h4 := ((FrBox.new (((w.alloc (.cells #[.int .i64 px, .int .i64 1, .int .i64 py, .int .i64 1] 33)).alloc (.cells #[.int .i64 a, .int .i64 1] 30)).alloc (.cells #[.int .i64 b, .int .i64 1] 30)) c 1).alloc (.cells #[.int .i64 0, .int .i64 0] 30))
  have h5 := (FrBox.new ((((w.alloc (.cells #[.int .i64 px, .int .i64 1, .int .i64 py, .int .i64 1] 33)).alloc (.cells #[.int .i64 a, .int .i64 1] 30)).alloc (.cells #[.int .i64 b, .int .i64 1] 30)).alloc (.cells #[.int .i64 c, .int .i64 1] 30)) 0 0)
  simp only [World.size_alloc] at h2 h3 h4 h5
  exact ⟨h1, h2, h3, h4, h5⟩
theorem mpW_below (w : World) (px py a b c : Int) : Below w.heap.size w (mpW w px py a b c) :=
  (((((Below.refl w.heap.size w).alloc (Nat.le_refl _) _).alloc (by simp) _).alloc (by simp; omega) _).alloc (by simp; omega) _).alloc (by simp; omega) _

set_option maxRecDepth 100000 in
set_option maxHeartbeats 8000000 in
theorem mapped_one (px py a b c u v s r : Int) (w : World) (hp : FrOk px 1) (hq : FrOk py 1) (ha : FrOk a 1) (hb' : FrOk b 1) (hc : FrOk c 1) (hu : FrOk (a * px) 1) (hv : FrOk (b * py) 1) (hs : FrOk (a * px + b * py) 1) (hr : FrOk (a * px + b * py + c) 1) (er : r = a * px + b * py + c) :
    Calls Tryz.prog 21 #[.agg #[.int .i64 px, .int .i64 1, .int .i64 py, .int .i64 1], .agg #[.int .i64 a, .int .i64 1], .agg #[.int .i64 b, .int .i64 1], .agg #[.int .i64 c, .int .i64 1]] w fun e w' => e = .returned (.tuple #[.agg #[.int .i64 r, .int .i64 1], .int .i64 0]) ∧ Below w.heap.size w w' := by
  have H1 := Lib.hid (fun W => fmul_one a px W ha hp hu)
  have H2 := Lib.hid (fun W => fmul_one b py W hb' hq hv)
  have H3 := Lib.hid (fun W => fadd_one (a * px) (b * py) W hu hv hs)
  have H4 := Lib.hid (fun W => fadd_one (a * px + b * py) c W hs hc hr)
  obtain ⟨u, hu⟩ : ∃ u, u = a * px := ⟨_, rfl⟩
  obtain ⟨v, hv⟩ : ∃ u, u = b * py := ⟨_, rfl⟩
  rw [← hu, ← hv] at er H3 H4
  rw [← hu] at H1; rw [← hv] at H2
  obtain ⟨s, hs⟩ : ∃ s, s = u + v := ⟨_, rfl⟩
  rw [← hs] at er H3 H4
  rw [← er] at H4
  have HB := Lib.hid (mpW_box w px py a b c)
  have Hb := Lib.hid (mpW_below w px py a b c)
  have hW : (((((w.alloc (.cells #[.int .i64 px, .int .i64 1, .int .i64 py, .int .i64 1] 33)).alloc (.cells #[.int .i64 a, .int .i64 1] 30)).alloc (.cells #[.int .i64 b, .int .i64 1] 30)).alloc (.cells #[.int .i64 c, .int .i64 1] 30)).alloc (.cells #[.int .i64 0, .int .i64 0] 30)) = mpW w px py a b c := rfl
  clear hp hq ha hb' hc hr er hu hv hs
  have HW := Lib.hid hW
  clear hW
  go_enter Tryz.func21, Tryz.ntmps21
  go_upto_region 1 with fail
  rw [HW.out]
  obtain ⟨W, hW⟩ : ∃ W, W = mpW w px py a b c := ⟨_, rfl⟩
  rw [← hW] at HB Hb ⊢
  obtain ⟨k, hk⟩ : ∃ k, k = w.heap.size := ⟨_, rfl⟩
  rw [← hk] at HB ⊢
  have HK := Lib.hid hk
  clear hW HW hk
  have x0 := HB.out.p.c0; have x1 := HB.out.p.c1; have x2 := HB.out.a.c0; have x3 := HB.out.a.c1; have xl := HB.out.p.lt; have yl := HB.out.a.lt
  go_wp2_with fail
  refine Calls.mono (H1.out _) ?_
  rintro e w1 ⟨rfl, hb⟩
  have HB1 := Lib.hid ((HB.out.below hb).below ((Below.refl w1.heap.size w1).alloc (Nat.le_refl _) (.cells #[.int .i64 u, .int .i64 1] 30)))
  have bb1 := Hb.out.trans (hb.mono Hb.out.size)
  have Hb1 := Lib.hid (bb1.alloc bb1.size (.cells #[.int .i64 u, .int .i64 1] 30))
  have HU1 := Lib.hid (FrBox.new w1 u 1)
  obtain ⟨ku, hku⟩ : ∃ k, k = w1.heap.size := ⟨_, rfl⟩
  rw [← hku] at HU1
  have HKU := Lib.hid hku
  obtain ⟨Y, hY⟩ : ∃ Y, Y = w1.alloc (.cells #[.int .i64 u, .int .i64 1] 30) := ⟨_, rfl⟩
  rw [← hY] at HB1 Hb1 HU1
  have HY := Lib.hid hY
  clear hb bb1 x0 x1 x2 x3 xl yl HB Hb H1 hku hY
  go_upto_region 4 with fail
  rw [← HY.out, ← HKU.out]
  clear HY HKU
  have x0 := HB1.out.p.c2; have x1 := HB1.out.p.c3; have x2 := HB1.out.b.c0; have x3 := HB1.out.b.c1; have xl := HB1.out.p.lt; have yl := HB1.out.b.lt
  go_wp2_with fail
  refine Calls.mono (H2.out _) ?_
  rintro e w2 ⟨rfl, hb⟩
  have HB2 := Lib.hid ((HB1.out.below hb).below ((Below.refl w2.heap.size w2).alloc (Nat.le_refl _) (.cells #[.int .i64 v, .int .i64 1] 30)))
  have bb1 := Hb1.out.trans (hb.mono Hb1.out.size)
  have Hb2 := Lib.hid (bb1.alloc bb1.size (.cells #[.int .i64 v, .int .i64 1] 30))
  have HU2 := Lib.hid ((HU1.out.below hb).alloc (.cells #[.int .i64 v, .int .i64 1] 30))
  have HV2 := Lib.hid (FrBox.new w2 v 1)
  obtain ⟨kv, hkv⟩ : ∃ k, k = w2.heap.size := ⟨_, rfl⟩
  rw [← hkv] at HV2
  have HKV := Lib.hid hkv
  obtain ⟨Z, hZ⟩ : ∃ Y, Y = w2.alloc (.cells #[.int .i64 v, .int .i64 1] 30) := ⟨_, rfl⟩
  rw [← hZ] at HB2 Hb2 HU2 HV2
  have HZ := Lib.hid hZ
  clear hb bb1 x0 x1 x2 x3 xl yl HB1 Hb1 HU1 H2 hkv hZ
  go_upto_region 7 with fail
  rw [← HZ.out, ← HKV.out]
  clear HZ HKV
  have x0 := HU2.out.c0; have x1 := HU2.out.c1; have x2 := HV2.out.c0; have x3 := HV2.out.c1; have xl := HU2.out.lt; have yl := HV2.out.lt
  go_wp2_with fail
  refine Calls.mono (H3.out _) ?_
  rintro e w3 ⟨rfl, hb⟩
  have HB3 := Lib.hid ((HB2.out.below hb).below ((Below.refl w3.heap.size w3).alloc (Nat.le_refl _) (.cells #[.int .i64 s, .int .i64 1] 30)))
  have bb1 := Hb2.out.trans (hb.mono Hb2.out.size)
  have Hb3 := Lib.hid (bb1.alloc bb1.size (.cells #[.int .i64 s, .int .i64 1] 30))
  have HS3 := Lib.hid (FrBox.new w3 s 1)
  obtain ⟨ks, hks⟩ : ∃ k, k = w3.heap.size := ⟨_, rfl⟩
  rw [← hks] at HS3
  have HKS := Lib.hid hks
  obtain ⟨U, hU⟩ : ∃ Y, Y = w3.alloc (.cells #[.int .i64 s, .int .i64 1] 30) := ⟨_, rfl⟩
  rw [← hU] at HB3 Hb3 HS3
  have HUU := Lib.hid hU
  clear hb bb1 x0 x1 x2 x3 xl yl HB2 Hb2 HU2 HV2 H3 hks hU
  go_upto_region 10 with fail
  rw [← HUU.out, ← HKS.out]
  clear HUU HKS
  have x0 := HS3.out.c0; have x1 := HS3.out.c1; have x2 := HB3.out.c.c0; have x3 := HB3.out.c.c1; have xl := HS3.out.lt; have yl := HB3.out.c.lt
  go_wp2_with fail
  refine Calls.mono (H4.out _) ?_
  rintro e w4 ⟨rfl, hb⟩
  have hbl := Hb3.out.trans (hb.mono Hb3.out.size)
  have P4 := HB3.out.r.below hb
  have y0 := P4.c0; have y1 := P4.c1; have yl4 := P4.lt; have yf0 := P4.free 0; have yf1 := P4.free 1
  clear hb x0 x1 x2 x3 xl yl
  go_wp2_with fail
  refine bodyPost_ret (v := .tuple #[.agg #[.int .i64 r, .int .i64 1], .int .i64 0]) ?_ rfl ⟨rfl, ?_⟩
  · simp [results, Tryz.results21, go_sem, *]
  · have k1 : w.heap.size ≤ k + 1 + 1 + 1 + 1 := by have := HK.out; omega
    exact (hbl.setCell (p := ⟨k + 1 + 1 + 1 + 1, 0, none⟩) k1 _).setCell (p := ⟨k + 1 + 1 + 1 + 1, 1, none⟩) k1 _
end Go.Proofs.YtdifeoahaegjbaaGreatDoor
