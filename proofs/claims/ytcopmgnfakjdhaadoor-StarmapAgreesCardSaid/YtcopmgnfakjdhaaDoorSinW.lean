/- math.sin and math.cos at this program. -/
import Derived.Test.YtcopmgnfakjdhaaDoorFBase
namespace Go.Proofs.YtcopmgnfakjdhaaDoor
open Go.RowKit
set_option linter.unusedSimpArgs false
set_option linter.unusedVariables false

theorem cell_below {w : World} {a : Addr} {v : Value} (h : w.cell? a = some v) : a.block < w.heap.size := by
  rcases Nat.lt_or_ge a.block w.heap.size with h' | h'
  · exact h'
  · simp [World.cell?, Array.getElem?_eq_none h'] at h
/-- The tables of math's sine and cosine stand. -/
structure SinT (w : World) : Prop where
  s0 : w.cell? ⟨3, 0, none⟩ = some (.float .f64 4460209587652500685)
  s1 : w.cell? ⟨3, 1, none⟩ = some (.float .f64 13716528389658582877)
  s2 : w.cell? ⟨3, 2, none⟩ = some (.float .f64 4523617212962785441)
  s3 : w.cell? ⟨3, 3, none⟩ = some (.float .f64 13774824197404483331)
  s4 : w.cell? ⟨3, 4, none⟩ = some (.float .f64 4575957461383575504)
  s5 : w.cell? ⟨3, 5, none⟩ = some (.float .f64 13818544856648471880)
  c0 : w.cell? ⟨2, 0, none⟩ = some (.float .f64 13666448263388469915)
  c1 : w.cell? ⟨2, 1, none⟩ = some (.float .f64 4477121864728985349)
  c2 : w.cell? ⟨2, 2, none⟩ = some (.float .f64 13732177093698800582)
  c3 : w.cell? ⟨2, 3, none⟩ = some (.float .f64 4537941361668146421)
  c4 : w.cell? ⟨2, 4, none⟩ = some (.float .f64 13787419979223748497)
  c5 : w.cell? ⟨2, 5, none⟩ = some (.float .f64 4586165620538955083)
theorem SinT.below {w w' : World} (h : SinT w) (hb : Below w.heap.size w w') : SinT w' :=
  ⟨(hb.cell (cell_below h.s0)).trans h.s0, (hb.cell (cell_below h.s1)).trans h.s1, (hb.cell (cell_below h.s2)).trans h.s2, (hb.cell (cell_below h.s3)).trans h.s3, (hb.cell (cell_below h.s4)).trans h.s4, (hb.cell (cell_below h.s5)).trans h.s5,
   (hb.cell (cell_below h.c0)).trans h.c0, (hb.cell (cell_below h.c1)).trans h.c1, (hb.cell (cell_below h.c2)).trans h.c2, (hb.cell (cell_below h.c3)).trans h.c3, (hb.cell (cell_below h.c4)).trans h.c4, (hb.cell (cell_below h.c5)).trans h.c5⟩

theorem fop {op : BinOp} {x y r : Nat} (h : floatBits op .f64 x y = some r) : ∀ w : World, (binOp op 51 (.float .f64 x) (.float .f64 y)).run Tryd.prog w = .ok (.float .f64 r) w := fun w => run_float_arith w op 51 .f64 x y r h
theorem fconv {x : Nat} {n : Int} (h : floatToIntVal .f64 x .u64 = some n) : ∀ w : World, (convert 51 72 (.float .f64 x)).run Tryd.prog w = .ok (.int .u64 n) w := fun w => run_convert_float_int w 51 72 .f64 .u64 x n (by kernel_rfl) Tryd.underlying72 h
theorem fin_zero : Fin 0 ∧ fv 0 = 0 := by
  have hr : Ieee.double.read 0 = .number false 0 (-1074) := by decide
  refine ⟨⟨_, _, _, hr⟩, ?_⟩
  rw [fv_fin hr]
  show _ * (0 : Rat) * _ = 0
  grind
theorem fin_thr : Fin 4737786807993761792 ∧ fv 4737786807993761792 = 536870912 := by
  have hr : Ieee.double.read 4737786807993761792 = .number false 4503599627370496 (-23) := by decide
  obtain ⟨f, v⟩ := fv_lit (w := 4737786807993761792) (s := false) (m := 4503599627370496) (k := 23) hr
  refine ⟨f, v.trans ?_⟩
  have e : ((2 ^ 23 : Nat) : Rat) = 8388608 := rfl
  have e2 : ((4503599627370496 : Nat) : Rat) = 4503599627370496 := rfl
  rw [sg_f, e]; (try rw [e2]); grind

@[go_sem] theorem run_neg_f64 (x : Nat) (w : World) : (Op.unary .neg (.float .f64 x)).run Tryd.prog w = .ok (.float .f64 (fneg x)) w := rfl
set_option maxRecDepth 100000 in
set_option maxHeartbeats 4000000 in
theorem sin_j0 (x : Nat) (hf : Fin x) (h0 : 0 < fv x) (h7 : fv x ≤ 7) (h : OctJ x (fv x) 0) (w : World) (ht : SinT w) : Calls Tryd.prog 34 #[.float .f64 x] w fun e w' => e = .returned (.float .f64 (sinB x)) ∧ w' = w := by
  obtain ⟨z, hz⟩ := octZ_ok hf (Rat.le_of_lt h0) h7 h
  obtain ⟨r1, r2, r3, r4, r5, i1, i2, i3, i4, i5, i6⟩ := hz.steps
  obtain ⟨p1, p2, p3, p4, p5, p6, p7, p8, p9, p10, p11, p12, p13, p14, k1, k2, k3, k4, k5, k6, k7, k8, k9, k10, k11, k12, k13, k14, kr, -⟩ := wS_ok (hz.ap.weak (by grind) (by grind))
  have hres : sinB x = p14 := by
    have ho : Ieee.double.order x 0 = some .gt := ford_gt hf fin_zero.1 (by rw [fin_zero.2]; exact h0)
    unfold sinB
    rw [if_neg (by rw [ho]; decide), h.eq, ← hz.eq, kr]
    rfl
  have HR := Lib.hid hres
  have ho : FloatKind.f64.format.order x 0 = some .gt := ford_gt hf fin_zero.1 (by rw [fin_zero.2]; exact h0)
  have ho2 : FloatKind.f64.format.order x 4737786807993761792 = some .lt := ford_lt hf fin_thr.1 (by rw [fin_thr.2]; grind)
  have hn := Lib.hid (isNaN_ok x hf)
  have hi := Lib.hid (isInf_ok x hf (by grind) (by grind))
  obtain ⟨m, hm⟩ : ∃ m, m = fmul x 4608412980311869571 := ⟨_, rfl⟩
  have e1 := h.mul; have e2 := h.int
  rw [← hm] at e1 e2
  have q1 := fop e1; have q2 := fconv e2
  obtain ⟨yb, hya⟩ : ∃ y, floatOfInt .f64 0 = y := ⟨_, rfl⟩
  have hyb : yb = floatOfInt .f64 ((evJ 0 : Nat) : Int) := hya.symm
  have i0 := trivial
  rw [← hyb] at i1 i3 i5
  have q4 := fop i1; have q5 := fop i2; have q6 := fop i3; have q7 := fop i4; have q8 := fop i5; have q9 := fop i6
  have g1 := fop k1; have g2 := fop k2; have g3 := fop k3; have g4 := fop k4; have g5 := fop k5; have g6 := fop k6; have g7 := fop k7; have g8 := fop k8; have g9 := fop k9; have g10 := fop k10; have g11 := fop k11; have g12 := fop k12; have g13 := fop k13; have g14 := fop k14
  obtain ⟨s0, s1, s2, s3, s4, s5, c0, c1, c2, c3, c4, c5⟩ := ht
  clear hres hm e1 e2 hyb i0 i1 i2 i3 i4 i5 i6 k1 k2 k3 k4 k5 k6 k7 k8 k9 k10 k11 k12 k13 k14 kr hz h hf h0 h7
  go_enter Tryd.func34, Tryd.ntmps34
  go_wp2_with fail
  refine Calls.mono (hn.out _) ?_
  rintro e _ ⟨rfl, rfl⟩
  go_wp2_with fail
  refine Calls.mono (hi.out _) ?_
  rintro e _ ⟨rfl, rfl⟩
  go_wp2_with fail
  go_ret
  exact ⟨by rw [HR.out]; rfl, rfl⟩
set_option maxRecDepth 100000 in
set_option maxHeartbeats 4000000 in
theorem sin_j1 (x : Nat) (hf : Fin x) (h0 : 0 < fv x) (h7 : fv x ≤ 7) (h : OctJ x (fv x) 1) (w : World) (ht : SinT w) : Calls Tryd.prog 34 #[.float .f64 x] w fun e w' => e = .returned (.float .f64 (sinB x)) ∧ w' = w := by
  obtain ⟨z, hz⟩ := octZ_ok hf (Rat.le_of_lt h0) h7 h
  obtain ⟨r1, r2, r3, r4, r5, i1, i2, i3, i4, i5, i6⟩ := hz.steps
  obtain ⟨p1, p2, p3, p4, p5, p6, p7, p8, p9, p10, p11, p12, p13, p14, p15, p16, k1, k2, k3, k4, k5, k6, k7, k8, k9, k10, k11, k12, k13, k14, k15, k16, kr, -⟩ := wC_ok (hz.ap.weak (by grind) (by grind))
  have hres : sinB x = p16 := by
    have ho : Ieee.double.order x 0 = some .gt := ford_gt hf fin_zero.1 (by rw [fin_zero.2]; exact h0)
    unfold sinB
    rw [if_neg (by rw [ho]; decide), h.eq, ← hz.eq, kr]
    rfl
  have HR := Lib.hid hres
  have ho : FloatKind.f64.format.order x 0 = some .gt := ford_gt hf fin_zero.1 (by rw [fin_zero.2]; exact h0)
  have ho2 : FloatKind.f64.format.order x 4737786807993761792 = some .lt := ford_lt hf fin_thr.1 (by rw [fin_thr.2]; grind)
  have hn := Lib.hid (isNaN_ok x hf)
  have hi := Lib.hid (isInf_ok x hf (by grind) (by grind))
  obtain ⟨m, hm⟩ : ∃ m, m = fmul x 4608412980311869571 := ⟨_, rfl⟩
  have e1 := h.mul; have e2 := h.int
  rw [← hm] at e1 e2
  have q1 := fop e1; have q2 := fconv e2
  obtain ⟨ya, hya⟩ : ∃ y, floatOfInt .f64 1 = y := ⟨_, rfl⟩
  obtain ⟨yb, hyb⟩ : ∃ y, y = floatOfInt .f64 ((evJ 1 : Nat) : Int) := ⟨_, rfl⟩
  have i0 : floatBits .add .f64 ya 4607182418800017408 = some yb := by rw [← hya, hyb]; decide
  have q3 := fop i0
  rw [← hyb] at i1 i3 i5
  have q4 := fop i1; have q5 := fop i2; have q6 := fop i3; have q7 := fop i4; have q8 := fop i5; have q9 := fop i6
  have g1 := fop k1; have g2 := fop k2; have g3 := fop k3; have g4 := fop k4; have g5 := fop k5; have g6 := fop k6; have g7 := fop k7; have g8 := fop k8; have g9 := fop k9; have g10 := fop k10; have g11 := fop k11; have g12 := fop k12; have g13 := fop k13; have g14 := fop k14; have g15 := fop k15; have g16 := fop k16
  obtain ⟨s0, s1, s2, s3, s4, s5, c0, c1, c2, c3, c4, c5⟩ := ht
  clear hres hm e1 e2 hyb i0 i1 i2 i3 i4 i5 i6 k1 k2 k3 k4 k5 k6 k7 k8 k9 k10 k11 k12 k13 k14 k15 k16 kr hz h hf h0 h7
  go_enter Tryd.func34, Tryd.ntmps34
  go_wp2_with fail
  refine Calls.mono (hn.out _) ?_
  rintro e _ ⟨rfl, rfl⟩
  go_wp2_with fail
  refine Calls.mono (hi.out _) ?_
  rintro e _ ⟨rfl, rfl⟩
  go_wp2_with fail
  go_ret
  exact ⟨by rw [HR.out]; rfl, rfl⟩
set_option maxRecDepth 100000 in
set_option maxHeartbeats 4000000 in
theorem sin_j2 (x : Nat) (hf : Fin x) (h0 : 0 < fv x) (h7 : fv x ≤ 7) (h : OctJ x (fv x) 2) (w : World) (ht : SinT w) : Calls Tryd.prog 34 #[.float .f64 x] w fun e w' => e = .returned (.float .f64 (sinB x)) ∧ w' = w := by
  obtain ⟨z, hz⟩ := octZ_ok hf (Rat.le_of_lt h0) h7 h
  obtain ⟨r1, r2, r3, r4, r5, i1, i2, i3, i4, i5, i6⟩ := hz.steps
  obtain ⟨p1, p2, p3, p4, p5, p6, p7, p8, p9, p10, p11, p12, p13, p14, p15, p16, k1, k2, k3, k4, k5, k6, k7, k8, k9, k10, k11, k12, k13, k14, k15, k16, kr, -⟩ := wC_ok (hz.ap.weak (by grind) (by grind))
  have hres : sinB x = p16 := by
    have ho : Ieee.double.order x 0 = some .gt := ford_gt hf fin_zero.1 (by rw [fin_zero.2]; exact h0)
    unfold sinB
    rw [if_neg (by rw [ho]; decide), h.eq, ← hz.eq, kr]
    rfl
  have HR := Lib.hid hres
  have ho : FloatKind.f64.format.order x 0 = some .gt := ford_gt hf fin_zero.1 (by rw [fin_zero.2]; exact h0)
  have ho2 : FloatKind.f64.format.order x 4737786807993761792 = some .lt := ford_lt hf fin_thr.1 (by rw [fin_thr.2]; grind)
  have hn := Lib.hid (isNaN_ok x hf)
  have hi := Lib.hid (isInf_ok x hf (by grind) (by grind))
  obtain ⟨m, hm⟩ : ∃ m, m = fmul x 4608412980311869571 := ⟨_, rfl⟩
  have e1 := h.mul; have e2 := h.int
  rw [← hm] at e1 e2
  have q1 := fop e1; have q2 := fconv e2
  obtain ⟨yb, hya⟩ : ∃ y, floatOfInt .f64 2 = y := ⟨_, rfl⟩
  have hyb : yb = floatOfInt .f64 ((evJ 2 : Nat) : Int) := hya.symm
  have i0 := trivial
  rw [← hyb] at i1 i3 i5
  have q4 := fop i1; have q5 := fop i2; have q6 := fop i3; have q7 := fop i4; have q8 := fop i5; have q9 := fop i6
  have g1 := fop k1; have g2 := fop k2; have g3 := fop k3; have g4 := fop k4; have g5 := fop k5; have g6 := fop k6; have g7 := fop k7; have g8 := fop k8; have g9 := fop k9; have g10 := fop k10; have g11 := fop k11; have g12 := fop k12; have g13 := fop k13; have g14 := fop k14; have g15 := fop k15; have g16 := fop k16
  obtain ⟨s0, s1, s2, s3, s4, s5, c0, c1, c2, c3, c4, c5⟩ := ht
  clear hres hm e1 e2 hyb i0 i1 i2 i3 i4 i5 i6 k1 k2 k3 k4 k5 k6 k7 k8 k9 k10 k11 k12 k13 k14 k15 k16 kr hz h hf h0 h7
  go_enter Tryd.func34, Tryd.ntmps34
  go_wp2_with fail
  refine Calls.mono (hn.out _) ?_
  rintro e _ ⟨rfl, rfl⟩
  go_wp2_with fail
  refine Calls.mono (hi.out _) ?_
  rintro e _ ⟨rfl, rfl⟩
  go_wp2_with fail
  go_ret
  exact ⟨by rw [HR.out]; rfl, rfl⟩
set_option maxRecDepth 100000 in
set_option maxHeartbeats 4000000 in
theorem sin_j3 (x : Nat) (hf : Fin x) (h0 : 0 < fv x) (h7 : fv x ≤ 7) (h : OctJ x (fv x) 3) (w : World) (ht : SinT w) : Calls Tryd.prog 34 #[.float .f64 x] w fun e w' => e = .returned (.float .f64 (sinB x)) ∧ w' = w := by
  obtain ⟨z, hz⟩ := octZ_ok hf (Rat.le_of_lt h0) h7 h
  obtain ⟨r1, r2, r3, r4, r5, i1, i2, i3, i4, i5, i6⟩ := hz.steps
  obtain ⟨p1, p2, p3, p4, p5, p6, p7, p8, p9, p10, p11, p12, p13, p14, k1, k2, k3, k4, k5, k6, k7, k8, k9, k10, k11, k12, k13, k14, kr, -⟩ := wS_ok (hz.ap.weak (by grind) (by grind))
  have hres : sinB x = fneg p14 := by
    have ho : Ieee.double.order x 0 = some .gt := ford_gt hf fin_zero.1 (by rw [fin_zero.2]; exact h0)
    unfold sinB
    rw [if_neg (by rw [ho]; decide), h.eq, ← hz.eq, kr]
    rfl
  have HR := Lib.hid hres
  have ho : FloatKind.f64.format.order x 0 = some .gt := ford_gt hf fin_zero.1 (by rw [fin_zero.2]; exact h0)
  have ho2 : FloatKind.f64.format.order x 4737786807993761792 = some .lt := ford_lt hf fin_thr.1 (by rw [fin_thr.2]; grind)
  have hn := Lib.hid (isNaN_ok x hf)
  have hi := Lib.hid (isInf_ok x hf (by grind) (by grind))
  obtain ⟨m, hm⟩ : ∃ m, m = fmul x 4608412980311869571 := ⟨_, rfl⟩
  have e1 := h.mul; have e2 := h.int
  rw [← hm] at e1 e2
  have q1 := fop e1; have q2 := fconv e2
  obtain ⟨ya, hya⟩ : ∃ y, floatOfInt .f64 3 = y := ⟨_, rfl⟩
  obtain ⟨yb, hyb⟩ : ∃ y, y = floatOfInt .f64 ((evJ 3 : Nat) : Int) := ⟨_, rfl⟩
  have i0 : floatBits .add .f64 ya 4607182418800017408 = some yb := by rw [← hya, hyb]; decide
  have q3 := fop i0
  rw [← hyb] at i1 i3 i5
  have q4 := fop i1; have q5 := fop i2; have q6 := fop i3; have q7 := fop i4; have q8 := fop i5; have q9 := fop i6
  have g1 := fop k1; have g2 := fop k2; have g3 := fop k3; have g4 := fop k4; have g5 := fop k5; have g6 := fop k6; have g7 := fop k7; have g8 := fop k8; have g9 := fop k9; have g10 := fop k10; have g11 := fop k11; have g12 := fop k12; have g13 := fop k13; have g14 := fop k14
  obtain ⟨s0, s1, s2, s3, s4, s5, c0, c1, c2, c3, c4, c5⟩ := ht
  clear hres hm e1 e2 hyb i0 i1 i2 i3 i4 i5 i6 k1 k2 k3 k4 k5 k6 k7 k8 k9 k10 k11 k12 k13 k14 kr hz h hf h0 h7
  go_enter Tryd.func34, Tryd.ntmps34
  go_wp2_with fail
  refine Calls.mono (hn.out _) ?_
  rintro e _ ⟨rfl, rfl⟩
  go_wp2_with fail
  refine Calls.mono (hi.out _) ?_
  rintro e _ ⟨rfl, rfl⟩
  go_wp2_with fail
  go_ret
  exact ⟨by rw [HR.out]; rfl, rfl⟩
set_option maxRecDepth 100000 in
set_option maxHeartbeats 4000000 in
theorem sin_j4 (x : Nat) (hf : Fin x) (h0 : 0 < fv x) (h7 : fv x ≤ 7) (h : OctJ x (fv x) 4) (w : World) (ht : SinT w) : Calls Tryd.prog 34 #[.float .f64 x] w fun e w' => e = .returned (.float .f64 (sinB x)) ∧ w' = w := by
  obtain ⟨z, hz⟩ := octZ_ok hf (Rat.le_of_lt h0) h7 h
  obtain ⟨r1, r2, r3, r4, r5, i1, i2, i3, i4, i5, i6⟩ := hz.steps
  obtain ⟨p1, p2, p3, p4, p5, p6, p7, p8, p9, p10, p11, p12, p13, p14, k1, k2, k3, k4, k5, k6, k7, k8, k9, k10, k11, k12, k13, k14, kr, -⟩ := wS_ok (hz.ap.weak (by grind) (by grind))
  have hres : sinB x = fneg p14 := by
    have ho : Ieee.double.order x 0 = some .gt := ford_gt hf fin_zero.1 (by rw [fin_zero.2]; exact h0)
    unfold sinB
    rw [if_neg (by rw [ho]; decide), h.eq, ← hz.eq, kr]
    rfl
  have HR := Lib.hid hres
  have ho : FloatKind.f64.format.order x 0 = some .gt := ford_gt hf fin_zero.1 (by rw [fin_zero.2]; exact h0)
  have ho2 : FloatKind.f64.format.order x 4737786807993761792 = some .lt := ford_lt hf fin_thr.1 (by rw [fin_thr.2]; grind)
  have hn := Lib.hid (isNaN_ok x hf)
  have hi := Lib.hid (isInf_ok x hf (by grind) (by grind))
  obtain ⟨m, hm⟩ : ∃ m, m = fmul x 4608412980311869571 := ⟨_, rfl⟩
  have e1 := h.mul; have e2 := h.int
  rw [← hm] at e1 e2
  have q1 := fop e1; have q2 := fconv e2
  obtain ⟨yb, hya⟩ : ∃ y, floatOfInt .f64 4 = y := ⟨_, rfl⟩
  have hyb : yb = floatOfInt .f64 ((evJ 4 : Nat) : Int) := hya.symm
  have i0 := trivial
  rw [← hyb] at i1 i3 i5
  have q4 := fop i1; have q5 := fop i2; have q6 := fop i3; have q7 := fop i4; have q8 := fop i5; have q9 := fop i6
  have g1 := fop k1; have g2 := fop k2; have g3 := fop k3; have g4 := fop k4; have g5 := fop k5; have g6 := fop k6; have g7 := fop k7; have g8 := fop k8; have g9 := fop k9; have g10 := fop k10; have g11 := fop k11; have g12 := fop k12; have g13 := fop k13; have g14 := fop k14
  obtain ⟨s0, s1, s2, s3, s4, s5, c0, c1, c2, c3, c4, c5⟩ := ht
  clear hres hm e1 e2 hyb i0 i1 i2 i3 i4 i5 i6 k1 k2 k3 k4 k5 k6 k7 k8 k9 k10 k11 k12 k13 k14 kr hz h hf h0 h7
  go_enter Tryd.func34, Tryd.ntmps34
  go_wp2_with fail
  refine Calls.mono (hn.out _) ?_
  rintro e _ ⟨rfl, rfl⟩
  go_wp2_with fail
  refine Calls.mono (hi.out _) ?_
  rintro e _ ⟨rfl, rfl⟩
  go_wp2_with fail
  go_ret
  exact ⟨by rw [HR.out]; rfl, rfl⟩
set_option maxRecDepth 100000 in
set_option maxHeartbeats 4000000 in
theorem sin_j5 (x : Nat) (hf : Fin x) (h0 : 0 < fv x) (h7 : fv x ≤ 7) (h : OctJ x (fv x) 5) (w : World) (ht : SinT w) : Calls Tryd.prog 34 #[.float .f64 x] w fun e w' => e = .returned (.float .f64 (sinB x)) ∧ w' = w := by
  obtain ⟨z, hz⟩ := octZ_ok hf (Rat.le_of_lt h0) h7 h
  obtain ⟨r1, r2, r3, r4, r5, i1, i2, i3, i4, i5, i6⟩ := hz.steps
  obtain ⟨p1, p2, p3, p4, p5, p6, p7, p8, p9, p10, p11, p12, p13, p14, p15, p16, k1, k2, k3, k4, k5, k6, k7, k8, k9, k10, k11, k12, k13, k14, k15, k16, kr, -⟩ := wC_ok (hz.ap.weak (by grind) (by grind))
  have hres : sinB x = fneg p16 := by
    have ho : Ieee.double.order x 0 = some .gt := ford_gt hf fin_zero.1 (by rw [fin_zero.2]; exact h0)
    unfold sinB
    rw [if_neg (by rw [ho]; decide), h.eq, ← hz.eq, kr]
    rfl
  have HR := Lib.hid hres
  have ho : FloatKind.f64.format.order x 0 = some .gt := ford_gt hf fin_zero.1 (by rw [fin_zero.2]; exact h0)
  have ho2 : FloatKind.f64.format.order x 4737786807993761792 = some .lt := ford_lt hf fin_thr.1 (by rw [fin_thr.2]; grind)
  have hn := Lib.hid (isNaN_ok x hf)
  have hi := Lib.hid (isInf_ok x hf (by grind) (by grind))
  obtain ⟨m, hm⟩ : ∃ m, m = fmul x 4608412980311869571 := ⟨_, rfl⟩
  have e1 := h.mul; have e2 := h.int
  rw [← hm] at e1 e2
  have q1 := fop e1; have q2 := fconv e2
  obtain ⟨ya, hya⟩ : ∃ y, floatOfInt .f64 5 = y := ⟨_, rfl⟩
  obtain ⟨yb, hyb⟩ : ∃ y, y = floatOfInt .f64 ((evJ 5 : Nat) : Int) := ⟨_, rfl⟩
  have i0 : floatBits .add .f64 ya 4607182418800017408 = some yb := by rw [← hya, hyb]; decide
  have q3 := fop i0
  rw [← hyb] at i1 i3 i5
  have q4 := fop i1; have q5 := fop i2; have q6 := fop i3; have q7 := fop i4; have q8 := fop i5; have q9 := fop i6
  have g1 := fop k1; have g2 := fop k2; have g3 := fop k3; have g4 := fop k4; have g5 := fop k5; have g6 := fop k6; have g7 := fop k7; have g8 := fop k8; have g9 := fop k9; have g10 := fop k10; have g11 := fop k11; have g12 := fop k12; have g13 := fop k13; have g14 := fop k14; have g15 := fop k15; have g16 := fop k16
  obtain ⟨s0, s1, s2, s3, s4, s5, c0, c1, c2, c3, c4, c5⟩ := ht
  clear hres hm e1 e2 hyb i0 i1 i2 i3 i4 i5 i6 k1 k2 k3 k4 k5 k6 k7 k8 k9 k10 k11 k12 k13 k14 k15 k16 kr hz h hf h0 h7
  go_enter Tryd.func34, Tryd.ntmps34
  go_wp2_with fail
  refine Calls.mono (hn.out _) ?_
  rintro e _ ⟨rfl, rfl⟩
  go_wp2_with fail
  refine Calls.mono (hi.out _) ?_
  rintro e _ ⟨rfl, rfl⟩
  go_wp2_with fail
  go_ret
  exact ⟨by rw [HR.out]; rfl, rfl⟩
set_option maxRecDepth 100000 in
set_option maxHeartbeats 4000000 in
theorem sin_j6 (x : Nat) (hf : Fin x) (h0 : 0 < fv x) (h7 : fv x ≤ 7) (h : OctJ x (fv x) 6) (w : World) (ht : SinT w) : Calls Tryd.prog 34 #[.float .f64 x] w fun e w' => e = .returned (.float .f64 (sinB x)) ∧ w' = w := by
  obtain ⟨z, hz⟩ := octZ_ok hf (Rat.le_of_lt h0) h7 h
  obtain ⟨r1, r2, r3, r4, r5, i1, i2, i3, i4, i5, i6⟩ := hz.steps
  obtain ⟨p1, p2, p3, p4, p5, p6, p7, p8, p9, p10, p11, p12, p13, p14, p15, p16, k1, k2, k3, k4, k5, k6, k7, k8, k9, k10, k11, k12, k13, k14, k15, k16, kr, -⟩ := wC_ok (hz.ap.weak (by grind) (by grind))
  have hres : sinB x = fneg p16 := by
    have ho : Ieee.double.order x 0 = some .gt := ford_gt hf fin_zero.1 (by rw [fin_zero.2]; exact h0)
    unfold sinB
    rw [if_neg (by rw [ho]; decide), h.eq, ← hz.eq, kr]
    rfl
  have HR := Lib.hid hres
  have ho : FloatKind.f64.format.order x 0 = some .gt := ford_gt hf fin_zero.1 (by rw [fin_zero.2]; exact h0)
  have ho2 : FloatKind.f64.format.order x 4737786807993761792 = some .lt := ford_lt hf fin_thr.1 (by rw [fin_thr.2]; grind)
  have hn := Lib.hid (isNaN_ok x hf)
  have hi := Lib.hid (isInf_ok x hf (by grind) (by grind))
  obtain ⟨m, hm⟩ : ∃ m, m = fmul x 4608412980311869571 := ⟨_, rfl⟩
  have e1 := h.mul; have e2 := h.int
  rw [← hm] at e1 e2
  have q1 := fop e1; have q2 := fconv e2
  obtain ⟨yb, hya⟩ : ∃ y, floatOfInt .f64 6 = y := ⟨_, rfl⟩
  have hyb : yb = floatOfInt .f64 ((evJ 6 : Nat) : Int) := hya.symm
  have i0 := trivial
  rw [← hyb] at i1 i3 i5
  have q4 := fop i1; have q5 := fop i2; have q6 := fop i3; have q7 := fop i4; have q8 := fop i5; have q9 := fop i6
  have g1 := fop k1; have g2 := fop k2; have g3 := fop k3; have g4 := fop k4; have g5 := fop k5; have g6 := fop k6; have g7 := fop k7; have g8 := fop k8; have g9 := fop k9; have g10 := fop k10; have g11 := fop k11; have g12 := fop k12; have g13 := fop k13; have g14 := fop k14; have g15 := fop k15; have g16 := fop k16
  obtain ⟨s0, s1, s2, s3, s4, s5, c0, c1, c2, c3, c4, c5⟩ := ht
  clear hres hm e1 e2 hyb i0 i1 i2 i3 i4 i5 i6 k1 k2 k3 k4 k5 k6 k7 k8 k9 k10 k11 k12 k13 k14 k15 k16 kr hz h hf h0 h7
  go_enter Tryd.func34, Tryd.ntmps34
  go_wp2_with fail
  refine Calls.mono (hn.out _) ?_
  rintro e _ ⟨rfl, rfl⟩
  go_wp2_with fail
  refine Calls.mono (hi.out _) ?_
  rintro e _ ⟨rfl, rfl⟩
  go_wp2_with fail
  go_ret
  exact ⟨by rw [HR.out]; rfl, rfl⟩
set_option maxRecDepth 100000 in
set_option maxHeartbeats 4000000 in
theorem sin_j7 (x : Nat) (hf : Fin x) (h0 : 0 < fv x) (h7 : fv x ≤ 7) (h : OctJ x (fv x) 7) (w : World) (ht : SinT w) : Calls Tryd.prog 34 #[.float .f64 x] w fun e w' => e = .returned (.float .f64 (sinB x)) ∧ w' = w := by
  obtain ⟨z, hz⟩ := octZ_ok hf (Rat.le_of_lt h0) h7 h
  obtain ⟨r1, r2, r3, r4, r5, i1, i2, i3, i4, i5, i6⟩ := hz.steps
  obtain ⟨p1, p2, p3, p4, p5, p6, p7, p8, p9, p10, p11, p12, p13, p14, k1, k2, k3, k4, k5, k6, k7, k8, k9, k10, k11, k12, k13, k14, kr, -⟩ := wS_ok (hz.ap.weak (by grind) (by grind))
  have hres : sinB x = p14 := by
    have ho : Ieee.double.order x 0 = some .gt := ford_gt hf fin_zero.1 (by rw [fin_zero.2]; exact h0)
    unfold sinB
    rw [if_neg (by rw [ho]; decide), h.eq, ← hz.eq, kr]
    rfl
  have HR := Lib.hid hres
  have ho : FloatKind.f64.format.order x 0 = some .gt := ford_gt hf fin_zero.1 (by rw [fin_zero.2]; exact h0)
  have ho2 : FloatKind.f64.format.order x 4737786807993761792 = some .lt := ford_lt hf fin_thr.1 (by rw [fin_thr.2]; grind)
  have hn := Lib.hid (isNaN_ok x hf)
  have hi := Lib.hid (isInf_ok x hf (by grind) (by grind))
  obtain ⟨m, hm⟩ : ∃ m, m = fmul x 4608412980311869571 := ⟨_, rfl⟩
  have e1 := h.mul; have e2 := h.int
  rw [← hm] at e1 e2
  have q1 := fop e1; have q2 := fconv e2
  obtain ⟨ya, hya⟩ : ∃ y, floatOfInt .f64 7 = y := ⟨_, rfl⟩
  obtain ⟨yb, hyb⟩ : ∃ y, y = floatOfInt .f64 ((evJ 7 : Nat) : Int) := ⟨_, rfl⟩
  have i0 : floatBits .add .f64 ya 4607182418800017408 = some yb := by rw [← hya, hyb]; decide
  have q3 := fop i0
  rw [← hyb] at i1 i3 i5
  have q4 := fop i1; have q5 := fop i2; have q6 := fop i3; have q7 := fop i4; have q8 := fop i5; have q9 := fop i6
  have g1 := fop k1; have g2 := fop k2; have g3 := fop k3; have g4 := fop k4; have g5 := fop k5; have g6 := fop k6; have g7 := fop k7; have g8 := fop k8; have g9 := fop k9; have g10 := fop k10; have g11 := fop k11; have g12 := fop k12; have g13 := fop k13; have g14 := fop k14
  obtain ⟨s0, s1, s2, s3, s4, s5, c0, c1, c2, c3, c4, c5⟩ := ht
  clear hres hm e1 e2 hyb i0 i1 i2 i3 i4 i5 i6 k1 k2 k3 k4 k5 k6 k7 k8 k9 k10 k11 k12 k13 k14 kr hz h hf h0 h7
  go_enter Tryd.func34, Tryd.ntmps34
  go_wp2_with fail
  refine Calls.mono (hn.out _) ?_
  rintro e _ ⟨rfl, rfl⟩
  go_wp2_with fail
  refine Calls.mono (hi.out _) ?_
  rintro e _ ⟨rfl, rfl⟩
  go_wp2_with fail
  go_ret
  exact ⟨by rw [HR.out]; rfl, rfl⟩
set_option maxRecDepth 100000 in
set_option maxHeartbeats 4000000 in
theorem sin_j8 (x : Nat) (hf : Fin x) (h0 : 0 < fv x) (h7 : fv x ≤ 7) (h : OctJ x (fv x) 8) (w : World) (ht : SinT w) : Calls Tryd.prog 34 #[.float .f64 x] w fun e w' => e = .returned (.float .f64 (sinB x)) ∧ w' = w := by
  obtain ⟨z, hz⟩ := octZ_ok hf (Rat.le_of_lt h0) h7 h
  obtain ⟨r1, r2, r3, r4, r5, i1, i2, i3, i4, i5, i6⟩ := hz.steps
  obtain ⟨p1, p2, p3, p4, p5, p6, p7, p8, p9, p10, p11, p12, p13, p14, k1, k2, k3, k4, k5, k6, k7, k8, k9, k10, k11, k12, k13, k14, kr, -⟩ := wS_ok (hz.ap.weak (by grind) (by grind))
  have hres : sinB x = p14 := by
    have ho : Ieee.double.order x 0 = some .gt := ford_gt hf fin_zero.1 (by rw [fin_zero.2]; exact h0)
    unfold sinB
    rw [if_neg (by rw [ho]; decide), h.eq, ← hz.eq, kr]
    rfl
  have HR := Lib.hid hres
  have ho : FloatKind.f64.format.order x 0 = some .gt := ford_gt hf fin_zero.1 (by rw [fin_zero.2]; exact h0)
  have ho2 : FloatKind.f64.format.order x 4737786807993761792 = some .lt := ford_lt hf fin_thr.1 (by rw [fin_thr.2]; grind)
  have hn := Lib.hid (isNaN_ok x hf)
  have hi := Lib.hid (isInf_ok x hf (by grind) (by grind))
  obtain ⟨m, hm⟩ : ∃ m, m = fmul x 4608412980311869571 := ⟨_, rfl⟩
  have e1 := h.mul; have e2 := h.int
  rw [← hm] at e1 e2
  have q1 := fop e1; have q2 := fconv e2
  obtain ⟨yb, hya⟩ : ∃ y, floatOfInt .f64 8 = y := ⟨_, rfl⟩
  have hyb : yb = floatOfInt .f64 ((evJ 8 : Nat) : Int) := hya.symm
  have i0 := trivial
  rw [← hyb] at i1 i3 i5
  have q4 := fop i1; have q5 := fop i2; have q6 := fop i3; have q7 := fop i4; have q8 := fop i5; have q9 := fop i6
  have g1 := fop k1; have g2 := fop k2; have g3 := fop k3; have g4 := fop k4; have g5 := fop k5; have g6 := fop k6; have g7 := fop k7; have g8 := fop k8; have g9 := fop k9; have g10 := fop k10; have g11 := fop k11; have g12 := fop k12; have g13 := fop k13; have g14 := fop k14
  obtain ⟨s0, s1, s2, s3, s4, s5, c0, c1, c2, c3, c4, c5⟩ := ht
  clear hres hm e1 e2 hyb i0 i1 i2 i3 i4 i5 i6 k1 k2 k3 k4 k5 k6 k7 k8 k9 k10 k11 k12 k13 k14 kr hz h hf h0 h7
  go_enter Tryd.func34, Tryd.ntmps34
  go_wp2_with fail
  refine Calls.mono (hn.out _) ?_
  rintro e _ ⟨rfl, rfl⟩
  go_wp2_with fail
  refine Calls.mono (hi.out _) ?_
  rintro e _ ⟨rfl, rfl⟩
  go_wp2_with fail
  go_ret
  exact ⟨by rw [HR.out]; rfl, rfl⟩
set_option maxRecDepth 100000 in
set_option maxHeartbeats 4000000 in
theorem cos_j0 (x : Nat) (hf : Fin x) (h0 : 0 ≤ fv x) (ha : fabs x = x) (h7 : fv x ≤ 7) (h : OctJ x (fv x) 0) (w : World) (ht : SinT w) : Calls Tryd.prog 36 #[.float .f64 x] w fun e w' => e = .returned (.float .f64 (cosB x)) ∧ w' = w := by
  obtain ⟨z, hz⟩ := octZ_ok hf h0 h7 h
  obtain ⟨r1, r2, r3, r4, r5, i1, i2, i3, i4, i5, i6⟩ := hz.steps
  obtain ⟨p1, p2, p3, p4, p5, p6, p7, p8, p9, p10, p11, p12, p13, p14, p15, p16, k1, k2, k3, k4, k5, k6, k7, k8, k9, k10, k11, k12, k13, k14, k15, k16, kr, -⟩ := wC_ok (hz.ap.weak (by grind) (by grind))
  have hres : cosB x = p16 := by
    unfold cosB
    rw [h.eq, ← hz.eq, kr]
    rfl
  have HR := Lib.hid hres
  have ho2 : FloatKind.f64.format.order x 4737786807993761792 = some .lt := ford_lt hf fin_thr.1 (by rw [fin_thr.2]; grind)
  have hn := Lib.hid (isNaN_ok x hf)
  have hi := Lib.hid (isInf_ok x hf (by grind) (by grind))
  have hab := Lib.hid (fun w => ha ▸ abs_ok x w)
  obtain ⟨m, hm⟩ : ∃ m, m = fmul x 4608412980311869571 := ⟨_, rfl⟩
  have e1 := h.mul; have e2 := h.int
  rw [← hm] at e1 e2
  have q1 := fop e1; have q2 := fconv e2
  obtain ⟨yb, hya⟩ : ∃ y, floatOfInt .f64 0 = y := ⟨_, rfl⟩
  have hyb : yb = floatOfInt .f64 ((evJ 0 : Nat) : Int) := hya.symm
  have i0 := trivial
  rw [← hyb] at i1 i3 i5
  have q4 := fop i1; have q5 := fop i2; have q6 := fop i3; have q7 := fop i4; have q8 := fop i5; have q9 := fop i6
  have g1 := fop k1; have g2 := fop k2; have g3 := fop k3; have g4 := fop k4; have g5 := fop k5; have g6 := fop k6; have g7 := fop k7; have g8 := fop k8; have g9 := fop k9; have g10 := fop k10; have g11 := fop k11; have g12 := fop k12; have g13 := fop k13; have g14 := fop k14; have g15 := fop k15; have g16 := fop k16
  obtain ⟨s0, s1, s2, s3, s4, s5, c0, c1, c2, c3, c4, c5⟩ := ht
  clear hres hm e1 e2 hyb i0 i1 i2 i3 i4 i5 i6 k1 k2 k3 k4 k5 k6 k7 k8 k9 k10 k11 k12 k13 k14 k15 k16 kr hz h hf h0 h7 ha
  go_enter Tryd.func36, Tryd.ntmps36
  go_wp2_with fail
  refine Calls.mono (hn.out _) ?_
  rintro e _ ⟨rfl, rfl⟩
  go_wp2_with fail
  refine Calls.mono (hi.out _) ?_
  rintro e _ ⟨rfl, rfl⟩
  go_wp2_with fail
  refine Calls.mono (hab.out _) ?_
  rintro e _ ⟨rfl, rfl⟩
  go_wp2_with fail
  go_ret
  exact ⟨by rw [HR.out]; rfl, rfl⟩
set_option maxRecDepth 100000 in
set_option maxHeartbeats 4000000 in
theorem cos_j1 (x : Nat) (hf : Fin x) (h0 : 0 ≤ fv x) (ha : fabs x = x) (h7 : fv x ≤ 7) (h : OctJ x (fv x) 1) (w : World) (ht : SinT w) : Calls Tryd.prog 36 #[.float .f64 x] w fun e w' => e = .returned (.float .f64 (cosB x)) ∧ w' = w := by
  obtain ⟨z, hz⟩ := octZ_ok hf h0 h7 h
  obtain ⟨r1, r2, r3, r4, r5, i1, i2, i3, i4, i5, i6⟩ := hz.steps
  obtain ⟨p1, p2, p3, p4, p5, p6, p7, p8, p9, p10, p11, p12, p13, p14, k1, k2, k3, k4, k5, k6, k7, k8, k9, k10, k11, k12, k13, k14, kr, -⟩ := wS_ok (hz.ap.weak (by grind) (by grind))
  have hres : cosB x = fneg p14 := by
    unfold cosB
    rw [h.eq, ← hz.eq, kr]
    rfl
  have HR := Lib.hid hres
  have ho2 : FloatKind.f64.format.order x 4737786807993761792 = some .lt := ford_lt hf fin_thr.1 (by rw [fin_thr.2]; grind)
  have hn := Lib.hid (isNaN_ok x hf)
  have hi := Lib.hid (isInf_ok x hf (by grind) (by grind))
  have hab := Lib.hid (fun w => ha ▸ abs_ok x w)
  obtain ⟨m, hm⟩ : ∃ m, m = fmul x 4608412980311869571 := ⟨_, rfl⟩
  have e1 := h.mul; have e2 := h.int
  rw [← hm] at e1 e2
  have q1 := fop e1; have q2 := fconv e2
  obtain ⟨ya, hya⟩ : ∃ y, floatOfInt .f64 1 = y := ⟨_, rfl⟩
  obtain ⟨yb, hyb⟩ : ∃ y, y = floatOfInt .f64 ((evJ 1 : Nat) : Int) := ⟨_, rfl⟩
  have i0 : floatBits .add .f64 ya 4607182418800017408 = some yb := by rw [← hya, hyb]; decide
  have q3 := fop i0
  rw [← hyb] at i1 i3 i5
  have q4 := fop i1; have q5 := fop i2; have q6 := fop i3; have q7 := fop i4; have q8 := fop i5; have q9 := fop i6
  have g1 := fop k1; have g2 := fop k2; have g3 := fop k3; have g4 := fop k4; have g5 := fop k5; have g6 := fop k6; have g7 := fop k7; have g8 := fop k8; have g9 := fop k9; have g10 := fop k10; have g11 := fop k11; have g12 := fop k12; have g13 := fop k13; have g14 := fop k14
  obtain ⟨s0, s1, s2, s3, s4, s5, c0, c1, c2, c3, c4, c5⟩ := ht
  clear hres hm e1 e2 hyb i0 i1 i2 i3 i4 i5 i6 k1 k2 k3 k4 k5 k6 k7 k8 k9 k10 k11 k12 k13 k14 kr hz h hf h0 h7 ha
  go_enter Tryd.func36, Tryd.ntmps36
  go_wp2_with fail
  refine Calls.mono (hn.out _) ?_
  rintro e _ ⟨rfl, rfl⟩
  go_wp2_with fail
  refine Calls.mono (hi.out _) ?_
  rintro e _ ⟨rfl, rfl⟩
  go_wp2_with fail
  refine Calls.mono (hab.out _) ?_
  rintro e _ ⟨rfl, rfl⟩
  go_wp2_with fail
  go_ret
  exact ⟨by rw [HR.out]; rfl, rfl⟩
set_option maxRecDepth 100000 in
set_option maxHeartbeats 4000000 in
theorem cos_j2 (x : Nat) (hf : Fin x) (h0 : 0 ≤ fv x) (ha : fabs x = x) (h7 : fv x ≤ 7) (h : OctJ x (fv x) 2) (w : World) (ht : SinT w) : Calls Tryd.prog 36 #[.float .f64 x] w fun e w' => e = .returned (.float .f64 (cosB x)) ∧ w' = w := by
  obtain ⟨z, hz⟩ := octZ_ok hf h0 h7 h
  obtain ⟨r1, r2, r3, r4, r5, i1, i2, i3, i4, i5, i6⟩ := hz.steps
  obtain ⟨p1, p2, p3, p4, p5, p6, p7, p8, p9, p10, p11, p12, p13, p14, k1, k2, k3, k4, k5, k6, k7, k8, k9, k10, k11, k12, k13, k14, kr, -⟩ := wS_ok (hz.ap.weak (by grind) (by grind))
  have hres : cosB x = fneg p14 := by
    unfold cosB
    rw [h.eq, ← hz.eq, kr]
    rfl
  have HR := Lib.hid hres
  have ho2 : FloatKind.f64.format.order x 4737786807993761792 = some .lt := ford_lt hf fin_thr.1 (by rw [fin_thr.2]; grind)
  have hn := Lib.hid (isNaN_ok x hf)
  have hi := Lib.hid (isInf_ok x hf (by grind) (by grind))
  have hab := Lib.hid (fun w => ha ▸ abs_ok x w)
  obtain ⟨m, hm⟩ : ∃ m, m = fmul x 4608412980311869571 := ⟨_, rfl⟩
  have e1 := h.mul; have e2 := h.int
  rw [← hm] at e1 e2
  have q1 := fop e1; have q2 := fconv e2
  obtain ⟨yb, hya⟩ : ∃ y, floatOfInt .f64 2 = y := ⟨_, rfl⟩
  have hyb : yb = floatOfInt .f64 ((evJ 2 : Nat) : Int) := hya.symm
  have i0 := trivial
  rw [← hyb] at i1 i3 i5
  have q4 := fop i1; have q5 := fop i2; have q6 := fop i3; have q7 := fop i4; have q8 := fop i5; have q9 := fop i6
  have g1 := fop k1; have g2 := fop k2; have g3 := fop k3; have g4 := fop k4; have g5 := fop k5; have g6 := fop k6; have g7 := fop k7; have g8 := fop k8; have g9 := fop k9; have g10 := fop k10; have g11 := fop k11; have g12 := fop k12; have g13 := fop k13; have g14 := fop k14
  obtain ⟨s0, s1, s2, s3, s4, s5, c0, c1, c2, c3, c4, c5⟩ := ht
  clear hres hm e1 e2 hyb i0 i1 i2 i3 i4 i5 i6 k1 k2 k3 k4 k5 k6 k7 k8 k9 k10 k11 k12 k13 k14 kr hz h hf h0 h7 ha
  go_enter Tryd.func36, Tryd.ntmps36
  go_wp2_with fail
  refine Calls.mono (hn.out _) ?_
  rintro e _ ⟨rfl, rfl⟩
  go_wp2_with fail
  refine Calls.mono (hi.out _) ?_
  rintro e _ ⟨rfl, rfl⟩
  go_wp2_with fail
  refine Calls.mono (hab.out _) ?_
  rintro e _ ⟨rfl, rfl⟩
  go_wp2_with fail
  go_ret
  exact ⟨by rw [HR.out]; rfl, rfl⟩
set_option maxRecDepth 100000 in
set_option maxHeartbeats 4000000 in
theorem cos_j3 (x : Nat) (hf : Fin x) (h0 : 0 ≤ fv x) (ha : fabs x = x) (h7 : fv x ≤ 7) (h : OctJ x (fv x) 3) (w : World) (ht : SinT w) : Calls Tryd.prog 36 #[.float .f64 x] w fun e w' => e = .returned (.float .f64 (cosB x)) ∧ w' = w := by
  obtain ⟨z, hz⟩ := octZ_ok hf h0 h7 h
  obtain ⟨r1, r2, r3, r4, r5, i1, i2, i3, i4, i5, i6⟩ := hz.steps
  obtain ⟨p1, p2, p3, p4, p5, p6, p7, p8, p9, p10, p11, p12, p13, p14, p15, p16, k1, k2, k3, k4, k5, k6, k7, k8, k9, k10, k11, k12, k13, k14, k15, k16, kr, -⟩ := wC_ok (hz.ap.weak (by grind) (by grind))
  have hres : cosB x = fneg p16 := by
    unfold cosB
    rw [h.eq, ← hz.eq, kr]
    rfl
  have HR := Lib.hid hres
  have ho2 : FloatKind.f64.format.order x 4737786807993761792 = some .lt := ford_lt hf fin_thr.1 (by rw [fin_thr.2]; grind)
  have hn := Lib.hid (isNaN_ok x hf)
  have hi := Lib.hid (isInf_ok x hf (by grind) (by grind))
  have hab := Lib.hid (fun w => ha ▸ abs_ok x w)
  obtain ⟨m, hm⟩ : ∃ m, m = fmul x 4608412980311869571 := ⟨_, rfl⟩
  have e1 := h.mul; have e2 := h.int
  rw [← hm] at e1 e2
  have q1 := fop e1; have q2 := fconv e2
  obtain ⟨ya, hya⟩ : ∃ y, floatOfInt .f64 3 = y := ⟨_, rfl⟩
  obtain ⟨yb, hyb⟩ : ∃ y, y = floatOfInt .f64 ((evJ 3 : Nat) : Int) := ⟨_, rfl⟩
  have i0 : floatBits .add .f64 ya 4607182418800017408 = some yb := by rw [← hya, hyb]; decide
  have q3 := fop i0
  rw [← hyb] at i1 i3 i5
  have q4 := fop i1; have q5 := fop i2; have q6 := fop i3; have q7 := fop i4; have q8 := fop i5; have q9 := fop i6
  have g1 := fop k1; have g2 := fop k2; have g3 := fop k3; have g4 := fop k4; have g5 := fop k5; have g6 := fop k6; have g7 := fop k7; have g8 := fop k8; have g9 := fop k9; have g10 := fop k10; have g11 := fop k11; have g12 := fop k12; have g13 := fop k13; have g14 := fop k14; have g15 := fop k15; have g16 := fop k16
  obtain ⟨s0, s1, s2, s3, s4, s5, c0, c1, c2, c3, c4, c5⟩ := ht
  clear hres hm e1 e2 hyb i0 i1 i2 i3 i4 i5 i6 k1 k2 k3 k4 k5 k6 k7 k8 k9 k10 k11 k12 k13 k14 k15 k16 kr hz h hf h0 h7 ha
  go_enter Tryd.func36, Tryd.ntmps36
  go_wp2_with fail
  refine Calls.mono (hn.out _) ?_
  rintro e _ ⟨rfl, rfl⟩
  go_wp2_with fail
  refine Calls.mono (hi.out _) ?_
  rintro e _ ⟨rfl, rfl⟩
  go_wp2_with fail
  refine Calls.mono (hab.out _) ?_
  rintro e _ ⟨rfl, rfl⟩
  go_wp2_with fail
  go_ret
  exact ⟨by rw [HR.out]; rfl, rfl⟩
set_option maxRecDepth 100000 in
set_option maxHeartbeats 4000000 in
theorem cos_j4 (x : Nat) (hf : Fin x) (h0 : 0 ≤ fv x) (ha : fabs x = x) (h7 : fv x ≤ 7) (h : OctJ x (fv x) 4) (w : World) (ht : SinT w) : Calls Tryd.prog 36 #[.float .f64 x] w fun e w' => e = .returned (.float .f64 (cosB x)) ∧ w' = w := by
  obtain ⟨z, hz⟩ := octZ_ok hf h0 h7 h
  obtain ⟨r1, r2, r3, r4, r5, i1, i2, i3, i4, i5, i6⟩ := hz.steps
  obtain ⟨p1, p2, p3, p4, p5, p6, p7, p8, p9, p10, p11, p12, p13, p14, p15, p16, k1, k2, k3, k4, k5, k6, k7, k8, k9, k10, k11, k12, k13, k14, k15, k16, kr, -⟩ := wC_ok (hz.ap.weak (by grind) (by grind))
  have hres : cosB x = fneg p16 := by
    unfold cosB
    rw [h.eq, ← hz.eq, kr]
    rfl
  have HR := Lib.hid hres
  have ho2 : FloatKind.f64.format.order x 4737786807993761792 = some .lt := ford_lt hf fin_thr.1 (by rw [fin_thr.2]; grind)
  have hn := Lib.hid (isNaN_ok x hf)
  have hi := Lib.hid (isInf_ok x hf (by grind) (by grind))
  have hab := Lib.hid (fun w => ha ▸ abs_ok x w)
  obtain ⟨m, hm⟩ : ∃ m, m = fmul x 4608412980311869571 := ⟨_, rfl⟩
  have e1 := h.mul; have e2 := h.int
  rw [← hm] at e1 e2
  have q1 := fop e1; have q2 := fconv e2
  obtain ⟨yb, hya⟩ : ∃ y, floatOfInt .f64 4 = y := ⟨_, rfl⟩
  have hyb : yb = floatOfInt .f64 ((evJ 4 : Nat) : Int) := hya.symm
  have i0 := trivial
  rw [← hyb] at i1 i3 i5
  have q4 := fop i1; have q5 := fop i2; have q6 := fop i3; have q7 := fop i4; have q8 := fop i5; have q9 := fop i6
  have g1 := fop k1; have g2 := fop k2; have g3 := fop k3; have g4 := fop k4; have g5 := fop k5; have g6 := fop k6; have g7 := fop k7; have g8 := fop k8; have g9 := fop k9; have g10 := fop k10; have g11 := fop k11; have g12 := fop k12; have g13 := fop k13; have g14 := fop k14; have g15 := fop k15; have g16 := fop k16
  obtain ⟨s0, s1, s2, s3, s4, s5, c0, c1, c2, c3, c4, c5⟩ := ht
  clear hres hm e1 e2 hyb i0 i1 i2 i3 i4 i5 i6 k1 k2 k3 k4 k5 k6 k7 k8 k9 k10 k11 k12 k13 k14 k15 k16 kr hz h hf h0 h7 ha
  go_enter Tryd.func36, Tryd.ntmps36
  go_wp2_with fail
  refine Calls.mono (hn.out _) ?_
  rintro e _ ⟨rfl, rfl⟩
  go_wp2_with fail
  refine Calls.mono (hi.out _) ?_
  rintro e _ ⟨rfl, rfl⟩
  go_wp2_with fail
  refine Calls.mono (hab.out _) ?_
  rintro e _ ⟨rfl, rfl⟩
  go_wp2_with fail
  go_ret
  exact ⟨by rw [HR.out]; rfl, rfl⟩
set_option maxRecDepth 100000 in
set_option maxHeartbeats 4000000 in
theorem cos_j5 (x : Nat) (hf : Fin x) (h0 : 0 ≤ fv x) (ha : fabs x = x) (h7 : fv x ≤ 7) (h : OctJ x (fv x) 5) (w : World) (ht : SinT w) : Calls Tryd.prog 36 #[.float .f64 x] w fun e w' => e = .returned (.float .f64 (cosB x)) ∧ w' = w := by
  obtain ⟨z, hz⟩ := octZ_ok hf h0 h7 h
  obtain ⟨r1, r2, r3, r4, r5, i1, i2, i3, i4, i5, i6⟩ := hz.steps
  obtain ⟨p1, p2, p3, p4, p5, p6, p7, p8, p9, p10, p11, p12, p13, p14, k1, k2, k3, k4, k5, k6, k7, k8, k9, k10, k11, k12, k13, k14, kr, -⟩ := wS_ok (hz.ap.weak (by grind) (by grind))
  have hres : cosB x = p14 := by
    unfold cosB
    rw [h.eq, ← hz.eq, kr]
    rfl
  have HR := Lib.hid hres
  have ho2 : FloatKind.f64.format.order x 4737786807993761792 = some .lt := ford_lt hf fin_thr.1 (by rw [fin_thr.2]; grind)
  have hn := Lib.hid (isNaN_ok x hf)
  have hi := Lib.hid (isInf_ok x hf (by grind) (by grind))
  have hab := Lib.hid (fun w => ha ▸ abs_ok x w)
  obtain ⟨m, hm⟩ : ∃ m, m = fmul x 4608412980311869571 := ⟨_, rfl⟩
  have e1 := h.mul; have e2 := h.int
  rw [← hm] at e1 e2
  have q1 := fop e1; have q2 := fconv e2
  obtain ⟨ya, hya⟩ : ∃ y, floatOfInt .f64 5 = y := ⟨_, rfl⟩
  obtain ⟨yb, hyb⟩ : ∃ y, y = floatOfInt .f64 ((evJ 5 : Nat) : Int) := ⟨_, rfl⟩
  have i0 : floatBits .add .f64 ya 4607182418800017408 = some yb := by rw [← hya, hyb]; decide
  have q3 := fop i0
  rw [← hyb] at i1 i3 i5
  have q4 := fop i1; have q5 := fop i2; have q6 := fop i3; have q7 := fop i4; have q8 := fop i5; have q9 := fop i6
  have g1 := fop k1; have g2 := fop k2; have g3 := fop k3; have g4 := fop k4; have g5 := fop k5; have g6 := fop k6; have g7 := fop k7; have g8 := fop k8; have g9 := fop k9; have g10 := fop k10; have g11 := fop k11; have g12 := fop k12; have g13 := fop k13; have g14 := fop k14
  obtain ⟨s0, s1, s2, s3, s4, s5, c0, c1, c2, c3, c4, c5⟩ := ht
  clear hres hm e1 e2 hyb i0 i1 i2 i3 i4 i5 i6 k1 k2 k3 k4 k5 k6 k7 k8 k9 k10 k11 k12 k13 k14 kr hz h hf h0 h7 ha
  go_enter Tryd.func36, Tryd.ntmps36
  go_wp2_with fail
  refine Calls.mono (hn.out _) ?_
  rintro e _ ⟨rfl, rfl⟩
  go_wp2_with fail
  refine Calls.mono (hi.out _) ?_
  rintro e _ ⟨rfl, rfl⟩
  go_wp2_with fail
  refine Calls.mono (hab.out _) ?_
  rintro e _ ⟨rfl, rfl⟩
  go_wp2_with fail
  go_ret
  exact ⟨by rw [HR.out]; rfl, rfl⟩
set_option maxRecDepth 100000 in
set_option maxHeartbeats 4000000 in
theorem cos_j6 (x : Nat) (hf : Fin x) (h0 : 0 ≤ fv x) (ha : fabs x = x) (h7 : fv x ≤ 7) (h : OctJ x (fv x) 6) (w : World) (ht : SinT w) : Calls Tryd.prog 36 #[.float .f64 x] w fun e w' => e = .returned (.float .f64 (cosB x)) ∧ w' = w := by
  obtain ⟨z, hz⟩ := octZ_ok hf h0 h7 h
  obtain ⟨r1, r2, r3, r4, r5, i1, i2, i3, i4, i5, i6⟩ := hz.steps
  obtain ⟨p1, p2, p3, p4, p5, p6, p7, p8, p9, p10, p11, p12, p13, p14, k1, k2, k3, k4, k5, k6, k7, k8, k9, k10, k11, k12, k13, k14, kr, -⟩ := wS_ok (hz.ap.weak (by grind) (by grind))
  have hres : cosB x = p14 := by
    unfold cosB
    rw [h.eq, ← hz.eq, kr]
    rfl
  have HR := Lib.hid hres
  have ho2 : FloatKind.f64.format.order x 4737786807993761792 = some .lt := ford_lt hf fin_thr.1 (by rw [fin_thr.2]; grind)
  have hn := Lib.hid (isNaN_ok x hf)
  have hi := Lib.hid (isInf_ok x hf (by grind) (by grind))
  have hab := Lib.hid (fun w => ha ▸ abs_ok x w)
  obtain ⟨m, hm⟩ : ∃ m, m = fmul x 4608412980311869571 := ⟨_, rfl⟩
  have e1 := h.mul; have e2 := h.int
  rw [← hm] at e1 e2
  have q1 := fop e1; have q2 := fconv e2
  obtain ⟨yb, hya⟩ : ∃ y, floatOfInt .f64 6 = y := ⟨_, rfl⟩
  have hyb : yb = floatOfInt .f64 ((evJ 6 : Nat) : Int) := hya.symm
  have i0 := trivial
  rw [← hyb] at i1 i3 i5
  have q4 := fop i1; have q5 := fop i2; have q6 := fop i3; have q7 := fop i4; have q8 := fop i5; have q9 := fop i6
  have g1 := fop k1; have g2 := fop k2; have g3 := fop k3; have g4 := fop k4; have g5 := fop k5; have g6 := fop k6; have g7 := fop k7; have g8 := fop k8; have g9 := fop k9; have g10 := fop k10; have g11 := fop k11; have g12 := fop k12; have g13 := fop k13; have g14 := fop k14
  obtain ⟨s0, s1, s2, s3, s4, s5, c0, c1, c2, c3, c4, c5⟩ := ht
  clear hres hm e1 e2 hyb i0 i1 i2 i3 i4 i5 i6 k1 k2 k3 k4 k5 k6 k7 k8 k9 k10 k11 k12 k13 k14 kr hz h hf h0 h7 ha
  go_enter Tryd.func36, Tryd.ntmps36
  go_wp2_with fail
  refine Calls.mono (hn.out _) ?_
  rintro e _ ⟨rfl, rfl⟩
  go_wp2_with fail
  refine Calls.mono (hi.out _) ?_
  rintro e _ ⟨rfl, rfl⟩
  go_wp2_with fail
  refine Calls.mono (hab.out _) ?_
  rintro e _ ⟨rfl, rfl⟩
  go_wp2_with fail
  go_ret
  exact ⟨by rw [HR.out]; rfl, rfl⟩
set_option maxRecDepth 100000 in
set_option maxHeartbeats 4000000 in
theorem cos_j7 (x : Nat) (hf : Fin x) (h0 : 0 ≤ fv x) (ha : fabs x = x) (h7 : fv x ≤ 7) (h : OctJ x (fv x) 7) (w : World) (ht : SinT w) : Calls Tryd.prog 36 #[.float .f64 x] w fun e w' => e = .returned (.float .f64 (cosB x)) ∧ w' = w := by
  obtain ⟨z, hz⟩ := octZ_ok hf h0 h7 h
  obtain ⟨r1, r2, r3, r4, r5, i1, i2, i3, i4, i5, i6⟩ := hz.steps
  obtain ⟨p1, p2, p3, p4, p5, p6, p7, p8, p9, p10, p11, p12, p13, p14, p15, p16, k1, k2, k3, k4, k5, k6, k7, k8, k9, k10, k11, k12, k13, k14, k15, k16, kr, -⟩ := wC_ok (hz.ap.weak (by grind) (by grind))
  have hres : cosB x = p16 := by
    unfold cosB
    rw [h.eq, ← hz.eq, kr]
    rfl
  have HR := Lib.hid hres
  have ho2 : FloatKind.f64.format.order x 4737786807993761792 = some .lt := ford_lt hf fin_thr.1 (by rw [fin_thr.2]; grind)
  have hn := Lib.hid (isNaN_ok x hf)
  have hi := Lib.hid (isInf_ok x hf (by grind) (by grind))
  have hab := Lib.hid (fun w => ha ▸ abs_ok x w)
  obtain ⟨m, hm⟩ : ∃ m, m = fmul x 4608412980311869571 := ⟨_, rfl⟩
  have e1 := h.mul; have e2 := h.int
  rw [← hm] at e1 e2
  have q1 := fop e1; have q2 := fconv e2
  obtain ⟨ya, hya⟩ : ∃ y, floatOfInt .f64 7 = y := ⟨_, rfl⟩
  obtain ⟨yb, hyb⟩ : ∃ y, y = floatOfInt .f64 ((evJ 7 : Nat) : Int) := ⟨_, rfl⟩
  have i0 : floatBits .add .f64 ya 4607182418800017408 = some yb := by rw [← hya, hyb]; decide
  have q3 := fop i0
  rw [← hyb] at i1 i3 i5
  have q4 := fop i1; have q5 := fop i2; have q6 := fop i3; have q7 := fop i4; have q8 := fop i5; have q9 := fop i6
  have g1 := fop k1; have g2 := fop k2; have g3 := fop k3; have g4 := fop k4; have g5 := fop k5; have g6 := fop k6; have g7 := fop k7; have g8 := fop k8; have g9 := fop k9; have g10 := fop k10; have g11 := fop k11; have g12 := fop k12; have g13 := fop k13; have g14 := fop k14; have g15 := fop k15; have g16 := fop k16
  obtain ⟨s0, s1, s2, s3, s4, s5, c0, c1, c2, c3, c4, c5⟩ := ht
  clear hres hm e1 e2 hyb i0 i1 i2 i3 i4 i5 i6 k1 k2 k3 k4 k5 k6 k7 k8 k9 k10 k11 k12 k13 k14 k15 k16 kr hz h hf h0 h7 ha
  go_enter Tryd.func36, Tryd.ntmps36
  go_wp2_with fail
  refine Calls.mono (hn.out _) ?_
  rintro e _ ⟨rfl, rfl⟩
  go_wp2_with fail
  refine Calls.mono (hi.out _) ?_
  rintro e _ ⟨rfl, rfl⟩
  go_wp2_with fail
  refine Calls.mono (hab.out _) ?_
  rintro e _ ⟨rfl, rfl⟩
  go_wp2_with fail
  go_ret
  exact ⟨by rw [HR.out]; rfl, rfl⟩
set_option maxRecDepth 100000 in
set_option maxHeartbeats 4000000 in
theorem cos_j8 (x : Nat) (hf : Fin x) (h0 : 0 ≤ fv x) (ha : fabs x = x) (h7 : fv x ≤ 7) (h : OctJ x (fv x) 8) (w : World) (ht : SinT w) : Calls Tryd.prog 36 #[.float .f64 x] w fun e w' => e = .returned (.float .f64 (cosB x)) ∧ w' = w := by
  obtain ⟨z, hz⟩ := octZ_ok hf h0 h7 h
  obtain ⟨r1, r2, r3, r4, r5, i1, i2, i3, i4, i5, i6⟩ := hz.steps
  obtain ⟨p1, p2, p3, p4, p5, p6, p7, p8, p9, p10, p11, p12, p13, p14, p15, p16, k1, k2, k3, k4, k5, k6, k7, k8, k9, k10, k11, k12, k13, k14, k15, k16, kr, -⟩ := wC_ok (hz.ap.weak (by grind) (by grind))
  have hres : cosB x = p16 := by
    unfold cosB
    rw [h.eq, ← hz.eq, kr]
    rfl
  have HR := Lib.hid hres
  have ho2 : FloatKind.f64.format.order x 4737786807993761792 = some .lt := ford_lt hf fin_thr.1 (by rw [fin_thr.2]; grind)
  have hn := Lib.hid (isNaN_ok x hf)
  have hi := Lib.hid (isInf_ok x hf (by grind) (by grind))
  have hab := Lib.hid (fun w => ha ▸ abs_ok x w)
  obtain ⟨m, hm⟩ : ∃ m, m = fmul x 4608412980311869571 := ⟨_, rfl⟩
  have e1 := h.mul; have e2 := h.int
  rw [← hm] at e1 e2
  have q1 := fop e1; have q2 := fconv e2
  obtain ⟨yb, hya⟩ : ∃ y, floatOfInt .f64 8 = y := ⟨_, rfl⟩
  have hyb : yb = floatOfInt .f64 ((evJ 8 : Nat) : Int) := hya.symm
  have i0 := trivial
  rw [← hyb] at i1 i3 i5
  have q4 := fop i1; have q5 := fop i2; have q6 := fop i3; have q7 := fop i4; have q8 := fop i5; have q9 := fop i6
  have g1 := fop k1; have g2 := fop k2; have g3 := fop k3; have g4 := fop k4; have g5 := fop k5; have g6 := fop k6; have g7 := fop k7; have g8 := fop k8; have g9 := fop k9; have g10 := fop k10; have g11 := fop k11; have g12 := fop k12; have g13 := fop k13; have g14 := fop k14; have g15 := fop k15; have g16 := fop k16
  obtain ⟨s0, s1, s2, s3, s4, s5, c0, c1, c2, c3, c4, c5⟩ := ht
  clear hres hm e1 e2 hyb i0 i1 i2 i3 i4 i5 i6 k1 k2 k3 k4 k5 k6 k7 k8 k9 k10 k11 k12 k13 k14 k15 k16 kr hz h hf h0 h7 ha
  go_enter Tryd.func36, Tryd.ntmps36
  go_wp2_with fail
  refine Calls.mono (hn.out _) ?_
  rintro e _ ⟨rfl, rfl⟩
  go_wp2_with fail
  refine Calls.mono (hi.out _) ?_
  rintro e _ ⟨rfl, rfl⟩
  go_wp2_with fail
  refine Calls.mono (hab.out _) ?_
  rintro e _ ⟨rfl, rfl⟩
  go_wp2_with fail
  go_ret
  exact ⟨by rw [HR.out]; rfl, rfl⟩
theorem sin_pos (x : Nat) (hf : Fin x) (h0 : 0 < fv x) (h7 : fv x ≤ 7) (w : World) (ht : SinT w) : Calls Tryd.prog 34 #[.float .f64 x] w fun e w' => e = .returned (.float .f64 (sinB x)) ∧ w' = w := by
  obtain ⟨j, h⟩ := octJ_ok hf (Rat.le_of_lt h0) h7
  have hj := h.le
  rcases (by omega : j = 0 ∨ j = 1 ∨ j = 2 ∨ j = 3 ∨ j = 4 ∨ j = 5 ∨ j = 6 ∨ j = 7 ∨ j = 8) with rfl | rfl | rfl | rfl | rfl | rfl | rfl | rfl | rfl
  · exact sin_j0 x hf h0 h7 h w ht
  · exact sin_j1 x hf h0 h7 h w ht
  · exact sin_j2 x hf h0 h7 h w ht
  · exact sin_j3 x hf h0 h7 h w ht
  · exact sin_j4 x hf h0 h7 h w ht
  · exact sin_j5 x hf h0 h7 h w ht
  · exact sin_j6 x hf h0 h7 h w ht
  · exact sin_j7 x hf h0 h7 h w ht
  · exact sin_j8 x hf h0 h7 h w ht
theorem cos_pos (x : Nat) (hf : Fin x) (h0 : 0 ≤ fv x) (ha : fabs x = x) (h7 : fv x ≤ 7) (w : World) (ht : SinT w) : Calls Tryd.prog 36 #[.float .f64 x] w fun e w' => e = .returned (.float .f64 (cosB x)) ∧ w' = w := by
  obtain ⟨j, h⟩ := octJ_ok hf h0 h7
  have hj := h.le
  rcases (by omega : j = 0 ∨ j = 1 ∨ j = 2 ∨ j = 3 ∨ j = 4 ∨ j = 5 ∨ j = 6 ∨ j = 7 ∨ j = 8) with rfl | rfl | rfl | rfl | rfl | rfl | rfl | rfl | rfl
  · exact cos_j0 x hf h0 ha h7 h w ht
  · exact cos_j1 x hf h0 ha h7 h w ht
  · exact cos_j2 x hf h0 ha h7 h w ht
  · exact cos_j3 x hf h0 ha h7 h w ht
  · exact cos_j4 x hf h0 ha h7 h w ht
  · exact cos_j5 x hf h0 ha h7 h w ht
  · exact cos_j6 x hf h0 ha h7 h w ht
  · exact cos_j7 x hf h0 ha h7 h w ht
  · exact cos_j8 x hf h0 ha h7 h w ht
theorem sin_zero (x : Nat) (hf : Fin x) (h0 : fv x = 0) (w : World) : Calls Tryd.prog 34 #[.float .f64 x] w fun e w' => e = .returned (.float .f64 x) ∧ w' = w := by
  have ho : FloatKind.f64.format.order x 0 = some .eq := ford_eq hf fin_zero.1 (by rw [fin_zero.2]; exact h0)
  clear h0
  go_enter Tryd.func34, Tryd.ntmps34
  go_wp2_with fail
  go_ret
  exact ⟨rfl, rfl⟩
/-- math.Sin from 0 to 7. -/
theorem Sin_ok (x : Nat) (hf : Fin x) (h0 : 0 ≤ fv x) (h7 : fv x ≤ 7) (w : World) (ht : SinT w) : Calls Tryd.prog 23 #[.float .f64 x] w fun e w' => e = .returned (.float .f64 (sinB x)) ∧ w' = w := by
  have H : Calls Tryd.prog 34 #[.float .f64 x] w fun e w' => e = .returned (.float .f64 (sinB x)) ∧ w' = w := by
    by_cases hz : fv x = 0
    · have ho : Ieee.double.order x 0 = some .eq := ford_eq hf fin_zero.1 (by rw [fin_zero.2]; exact hz)
      have : sinB x = x := by unfold sinB; rw [if_pos ho]
      rw [this]
      exact sin_zero x hf hz w
    · exact sin_pos x hf (by grind) h7 w ht
  have HH := Lib.hid H
  clear H h0 h7 hf
  go_enter Tryd.func23, Tryd.ntmps23
  go_wp2_with fail
  refine Calls.mono HH.out ?_
  rintro e _ ⟨rfl, rfl⟩
  go_wp2_with fail
  go_ret
  exact ⟨rfl, rfl⟩
theorem Cos_ok (x : Nat) (hf : Fin x) (h0 : 0 ≤ fv x) (ha : fabs x = x) (h7 : fv x ≤ 7) (w : World) (ht : SinT w) : Calls Tryd.prog 25 #[.float .f64 x] w fun e w' => e = .returned (.float .f64 (cosB x)) ∧ w' = w := by
  have HH := Lib.hid (cos_pos x hf h0 ha h7 w ht)
  clear h0 h7 hf ha
  go_enter Tryd.func25, Tryd.ntmps25
  go_wp2_with fail
  refine Calls.mono HH.out ?_
  rintro e _ ⟨rfl, rfl⟩
  go_wp2_with fail
  go_ret
  exact ⟨rfl, rfl⟩
end Go.Proofs.YtcopmgnfakjdhaaDoor
