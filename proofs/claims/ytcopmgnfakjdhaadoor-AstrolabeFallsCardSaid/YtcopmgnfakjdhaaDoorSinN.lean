/- math.Sin, math.Cos at negative words down to -2 (printed by wip/tools/gen-sinn.py out of XSinW). -/
import Derived.Test.YtcopmgnfakjdhaaDoorSinW
namespace Go.Proofs.YtcopmgnfakjdhaaDoor
open Go.RowKit
open Ieee
set_option linter.unusedSimpArgs false
set_option linter.unusedVariables false
set_option maxRecDepth 100000 in
set_option maxHeartbeats 4000000 in
theorem sinN_j0 (x0 x : Nat) (hf0 : Fin x0) (hl0 : fv x0 < 0) (hm0 : -7 ≤ fv x0) (hx : fneg x0 = x) (hf : Fin x) (h0 : 0 < fv x) (h7 : fv x ≤ 7) (h : OctJ x (fv x) 0) (w : World) (ht : SinT w) : Calls Tryd.prog 34 #[.float .f64 x0] w fun e w' => e = .returned (.float .f64 (fneg (sinB x))) ∧ w' = w := by
  obtain ⟨z, hz⟩ := octZ_ok hf (Rat.le_of_lt h0) h7 h
  obtain ⟨r1, r2, r3, r4, r5, i1, i2, i3, i4, i5, i6⟩ := hz.steps
  obtain ⟨p1, p2, p3, p4, p5, p6, p7, p8, p9, p10, p11, p12, p13, p14, k1, k2, k3, k4, k5, k6, k7, k8, k9, k10, k11, k12, k13, k14, kr, -⟩ := wS_ok (hz.ap.weak (by grind) (by grind))
  have hres : sinB x = p14 := by
    have ho : Ieee.double.order x 0 = some .gt := ford_gt hf fin_zero.1 (by rw [fin_zero.2]; exact h0)
    unfold sinB
    rw [if_neg (by rw [ho]; decide), h.eq, ← hz.eq, kr]
    rfl
  have HR := Lib.hid hres
  have ho : FloatKind.f64.format.order x0 0 = some .lt := ford_lt hf0 fin_zero.1 (by rw [fin_zero.2]; exact hl0)
  have ho2 : FloatKind.f64.format.order x 4737786807993761792 = some .lt := ford_lt hf fin_thr.1 (by rw [fin_thr.2]; grind)
  have hn := Lib.hid (isNaN_ok x0 hf0)
  have hi := Lib.hid (isInf_ok x0 hf0 (by grind) (by grind))
  obtain ⟨m, hm⟩ : ∃ m, m = fmul x 4608412980311869571 := ⟨_, rfl⟩
  have e1 := h.mul; have e2 := h.int
  rw [← hm] at e1 e2
  have q1 := fop e1; have q2 := fconv e2
  obtain ⟨yb, hya⟩ : ∃ y, floatOfInt .f64 0 = y := ⟨_, rfl⟩
  have hyb : yb = floatOfInt .f64 ((evJ 0 : Nat) : Int) := hya.symm
  have i0 := trivial
  rw [← hyb] at i1 i3 i5
  have q4 := fop i1; have q5 := fop i2; have q6 := fop i3; have q7 := fop i4; have q8 := fop i5; have q9 := fop i6
  have g1 := fop k1; have g2 := fop k2; have g3 := fop k3; have g4 := fop k4; have g5 := fop k5; have g6 := fop k6; have g7 := fop k7; have g8 := fop k8; have g9 := fop k9; have g10 := fop k10; have g11 := fop k11; have g12 := fop k12; have g13 := fop k13; have g14 := fop k14
  obtain ⟨s0, s1, s2, s3, s4, s5, c0, c1, c2, c3, c4, c5⟩ := ht
  clear hres hm e1 e2 hyb i0 i1 i2 i3 i4 i5 i6 k1 k2 k3 k4 k5 k6 k7 k8 k9 k10 k11 k12 k13 k14 kr hz h hf h0 h7 hf0 hl0 hm0
  go_enter Tryd.func34, Tryd.ntmps34
  go_wp2_with fail
  refine Calls.mono (hn.out _) ?_
  rintro e _ ⟨rfl, rfl⟩
  go_wp2_with fail
  refine Calls.mono (hi.out _) ?_
  rintro e _ ⟨rfl, rfl⟩
  go_wp2_with fail
  go_ret
  exact ⟨by rw [HR.out]; rfl, rfl⟩
set_option maxRecDepth 100000 in
set_option maxHeartbeats 4000000 in
theorem sinN_j1 (x0 x : Nat) (hf0 : Fin x0) (hl0 : fv x0 < 0) (hm0 : -7 ≤ fv x0) (hx : fneg x0 = x) (hf : Fin x) (h0 : 0 < fv x) (h7 : fv x ≤ 7) (h : OctJ x (fv x) 1) (w : World) (ht : SinT w) : Calls Tryd.prog 34 #[.float .f64 x0] w fun e w' => e = .returned (.float .f64 (fneg (sinB x))) ∧ w' = w := by
  obtain ⟨z, hz⟩ := octZ_ok hf (Rat.le_of_lt h0) h7 h
  obtain ⟨r1, r2, r3, r4, r5, i1, i2, i3, i4, i5, i6⟩ := hz.steps
  obtain ⟨p1, p2, p3, p4, p5, p6, p7, p8, p9, p10, p11, p12, p13, p14, p15, p16, k1, k2, k3, k4, k5, k6, k7, k8, k9, k10, k11, k12, k13, k14, k15, k16, kr, -⟩ := wC_ok (hz.ap.weak (by grind) (by grind))
  have hres : sinB x = p16 := by
    have ho : Ieee.double.order x 0 = some .gt := ford_gt hf fin_zero.1 (by rw [fin_zero.2]; exact h0)
    unfold sinB
    rw [if_neg (by rw [ho]; decide), h.eq, ← hz.eq, kr]
    rfl
  have HR := Lib.hid hres
  have ho : FloatKind.f64.format.order x0 0 = some .lt := ford_lt hf0 fin_zero.1 (by rw [fin_zero.2]; exact hl0)
  have ho2 : FloatKind.f64.format.order x 4737786807993761792 = some .lt := ford_lt hf fin_thr.1 (by rw [fin_thr.2]; grind)
  have hn := Lib.hid (isNaN_ok x0 hf0)
  have hi := Lib.hid (isInf_ok x0 hf0 (by grind) (by grind))
  obtain ⟨m, hm⟩ : ∃ m, m = fmul x 4608412980311869571 := ⟨_, rfl⟩
  have e1 := h.mul; have e2 := h.int
  rw [← hm] at e1 e2
  have q1 := fop e1; have q2 := fconv e2
  obtain ⟨ya, hya⟩ : ∃ y, floatOfInt .f64 1 = y := ⟨_, rfl⟩
  obtain ⟨yb, hyb⟩ : ∃ y, y = floatOfInt .f64 ((evJ 1 : Nat) : Int) := ⟨_, rfl⟩
  have i0 : floatBits .add .f64 ya 4607182418800017408 = some yb := by rw [← hya, hyb]; decide
  have q3 := fop i0
  rw [← hyb] at i1 i3 i5
  have q4 := fop i1; have q5 := fop i2; have q6 := fop i3; have q7 := fop i4; have q8 := fop i5; have q9 := fop i6
  have g1 := fop k1; have g2 := fop k2; have g3 := fop k3; have g4 := fop k4; have g5 := fop k5; have g6 := fop k6; have g7 := fop k7; have g8 := fop k8; have g9 := fop k9; have g10 := fop k10; have g11 := fop k11; have g12 := fop k12; have g13 := fop k13; have g14 := fop k14; have g15 := fop k15; have g16 := fop k16
  obtain ⟨s0, s1, s2, s3, s4, s5, c0, c1, c2, c3, c4, c5⟩ := ht
  clear hres hm e1 e2 hyb i0 i1 i2 i3 i4 i5 i6 k1 k2 k3 k4 k5 k6 k7 k8 k9 k10 k11 k12 k13 k14 k15 k16 kr hz h hf h0 h7 hf0 hl0 hm0
  go_enter Tryd.func34, Tryd.ntmps34
  go_wp2_with fail
  refine Calls.mono (hn.out _) ?_
  rintro e _ ⟨rfl, rfl⟩
  go_wp2_with fail
  refine Calls.mono (hi.out _) ?_
  rintro e _ ⟨rfl, rfl⟩
  go_wp2_with fail
  go_ret
  exact ⟨by rw [HR.out]; rfl, rfl⟩
set_option maxRecDepth 100000 in
set_option maxHeartbeats 4000000 in
theorem sinN_j2 (x0 x : Nat) (hf0 : Fin x0) (hl0 : fv x0 < 0) (hm0 : -7 ≤ fv x0) (hx : fneg x0 = x) (hf : Fin x) (h0 : 0 < fv x) (h7 : fv x ≤ 7) (h : OctJ x (fv x) 2) (w : World) (ht : SinT w) : Calls Tryd.prog 34 #[.float .f64 x0] w fun e w' => e = .returned (.float .f64 (fneg (sinB x))) ∧ w' = w := by
  obtain ⟨z, hz⟩ := octZ_ok hf (Rat.le_of_lt h0) h7 h
  obtain ⟨r1, r2, r3, r4, r5, i1, i2, i3, i4, i5, i6⟩ := hz.steps
  obtain ⟨p1, p2, p3, p4, p5, p6, p7, p8, p9, p10, p11, p12, p13, p14, p15, p16, k1, k2, k3, k4, k5, k6, k7, k8, k9, k10, k11, k12, k13, k14, k15, k16, kr, -⟩ := wC_ok (hz.ap.weak (by grind) (by grind))
  have hres : sinB x = p16 := by
    have ho : Ieee.double.order x 0 = some .gt := ford_gt hf fin_zero.1 (by rw [fin_zero.2]; exact h0)
    unfold sinB
    rw [if_neg (by rw [ho]; decide), h.eq, ← hz.eq, kr]
    rfl
  have HR := Lib.hid hres
  have ho : FloatKind.f64.format.order x0 0 = some .lt := ford_lt hf0 fin_zero.1 (by rw [fin_zero.2]; exact hl0)
  have ho2 : FloatKind.f64.format.order x 4737786807993761792 = some .lt := ford_lt hf fin_thr.1 (by rw [fin_thr.2]; grind)
  have hn := Lib.hid (isNaN_ok x0 hf0)
  have hi := Lib.hid (isInf_ok x0 hf0 (by grind) (by grind))
  obtain ⟨m, hm⟩ : ∃ m, m = fmul x 4608412980311869571 := ⟨_, rfl⟩
  have e1 := h.mul; have e2 := h.int
  rw [← hm] at e1 e2
  have q1 := fop e1; have q2 := fconv e2
  obtain ⟨yb, hya⟩ : ∃ y, floatOfInt .f64 2 = y := ⟨_, rfl⟩
  have hyb : yb = floatOfInt .f64 ((evJ 2 : Nat) : Int) := hya.symm
  have i0 := trivial
  rw [← hyb] at i1 i3 i5
  have q4 := fop i1; have q5 := fop i2; have q6 := fop i3; have q7 := fop i4; have q8 := fop i5; have q9 := fop i6
  have g1 := fop k1; have g2 := fop k2; have g3 := fop k3; have g4 := fop k4; have g5 := fop k5; have g6 := fop k6; have g7 := fop k7; have g8 := fop k8; have g9 := fop k9; have g10 := fop k10; have g11 := fop k11; have g12 := fop k12; have g13 := fop k13; have g14 := fop k14; have g15 := fop k15; have g16 := fop k16
  obtain ⟨s0, s1, s2, s3, s4, s5, c0, c1, c2, c3, c4, c5⟩ := ht
  clear hres hm e1 e2 hyb i0 i1 i2 i3 i4 i5 i6 k1 k2 k3 k4 k5 k6 k7 k8 k9 k10 k11 k12 k13 k14 k15 k16 kr hz h hf h0 h7 hf0 hl0 hm0
  go_enter Tryd.func34, Tryd.ntmps34
  go_wp2_with fail
  refine Calls.mono (hn.out _) ?_
  rintro e _ ⟨rfl, rfl⟩
  go_wp2_with fail
  refine Calls.mono (hi.out _) ?_
  rintro e _ ⟨rfl, rfl⟩
  go_wp2_with fail
  go_ret
  exact ⟨by rw [HR.out]; rfl, rfl⟩
set_option maxRecDepth 100000 in
set_option maxHeartbeats 4000000 in
theorem cosN_j0 (x0 x : Nat) (hf0 : Fin x0) (hl0 : fv x0 ≤ 7) (hm0 : -7 ≤ fv x0) (hf : Fin x) (h0 : 0 ≤ fv x) (ha : fabs x0 = x) (h7 : fv x ≤ 7) (h : OctJ x (fv x) 0) (w : World) (ht : SinT w) : Calls Tryd.prog 36 #[.float .f64 x0] w fun e w' => e = .returned (.float .f64 (cosB x)) ∧ w' = w := by
  obtain ⟨z, hz⟩ := octZ_ok hf h0 h7 h
  obtain ⟨r1, r2, r3, r4, r5, i1, i2, i3, i4, i5, i6⟩ := hz.steps
  obtain ⟨p1, p2, p3, p4, p5, p6, p7, p8, p9, p10, p11, p12, p13, p14, p15, p16, k1, k2, k3, k4, k5, k6, k7, k8, k9, k10, k11, k12, k13, k14, k15, k16, kr, -⟩ := wC_ok (hz.ap.weak (by grind) (by grind))
  have hres : cosB x = p16 := by
    unfold cosB
    rw [h.eq, ← hz.eq, kr]
    rfl
  have HR := Lib.hid hres
  have ho2 : FloatKind.f64.format.order x 4737786807993761792 = some .lt := ford_lt hf fin_thr.1 (by rw [fin_thr.2]; grind)
  have hn := Lib.hid (isNaN_ok x0 hf0)
  have hi := Lib.hid (isInf_ok x0 hf0 (by grind) (by grind))
  have hab := Lib.hid (fun w => ha ▸ abs_ok x0 w)
  obtain ⟨m, hm⟩ : ∃ m, m = fmul x 4608412980311869571 := ⟨_, rfl⟩
  have e1 := h.mul; have e2 := h.int
  rw [← hm] at e1 e2
  have q1 := fop e1; have q2 := fconv e2
  obtain ⟨yb, hya⟩ : ∃ y, floatOfInt .f64 0 = y := ⟨_, rfl⟩
  have hyb : yb = floatOfInt .f64 ((evJ 0 : Nat) : Int) := hya.symm
  have i0 := trivial
  rw [← hyb] at i1 i3 i5
  have q4 := fop i1; have q5 := fop i2; have q6 := fop i3; have q7 := fop i4; have q8 := fop i5; have q9 := fop i6
  have g1 := fop k1; have g2 := fop k2; have g3 := fop k3; have g4 := fop k4; have g5 := fop k5; have g6 := fop k6; have g7 := fop k7; have g8 := fop k8; have g9 := fop k9; have g10 := fop k10; have g11 := fop k11; have g12 := fop k12; have g13 := fop k13; have g14 := fop k14; have g15 := fop k15; have g16 := fop k16
  obtain ⟨s0, s1, s2, s3, s4, s5, c0, c1, c2, c3, c4, c5⟩ := ht
  clear hres hm e1 e2 hyb i0 i1 i2 i3 i4 i5 i6 k1 k2 k3 k4 k5 k6 k7 k8 k9 k10 k11 k12 k13 k14 k15 k16 kr hz h hf h0 h7 ha hf0 hl0 hm0
  go_enter Tryd.func36, Tryd.ntmps36
  go_wp2_with fail
  refine Calls.mono (hn.out _) ?_
  rintro e _ ⟨rfl, rfl⟩
  go_wp2_with fail
  refine Calls.mono (hi.out _) ?_
  rintro e _ ⟨rfl, rfl⟩
  go_wp2_with fail
  refine Calls.mono (hab.out _) ?_
  rintro e _ ⟨rfl, rfl⟩
  go_wp2_with fail
  go_ret
  exact ⟨by rw [HR.out]; rfl, rfl⟩
set_option maxRecDepth 100000 in
set_option maxHeartbeats 4000000 in
theorem cosN_j1 (x0 x : Nat) (hf0 : Fin x0) (hl0 : fv x0 ≤ 7) (hm0 : -7 ≤ fv x0) (hf : Fin x) (h0 : 0 ≤ fv x) (ha : fabs x0 = x) (h7 : fv x ≤ 7) (h : OctJ x (fv x) 1) (w : World) (ht : SinT w) : Calls Tryd.prog 36 #[.float .f64 x0] w fun e w' => e = .returned (.float .f64 (cosB x)) ∧ w' = w := by
  obtain ⟨z, hz⟩ := octZ_ok hf h0 h7 h
  obtain ⟨r1, r2, r3, r4, r5, i1, i2, i3, i4, i5, i6⟩ := hz.steps
  obtain ⟨p1, p2, p3, p4, p5, p6, p7, p8, p9, p10, p11, p12, p13, p14, k1, k2, k3, k4, k5, k6, k7, k8, k9, k10, k11, k12, k13, k14, kr, -⟩ := wS_ok (hz.ap.weak (by grind) (by grind))
  have hres : cosB x = fneg p14 := by
    unfold cosB
    rw [h.eq, ← hz.eq, kr]
    rfl
  have HR := Lib.hid hres
  have ho2 : FloatKind.f64.format.order x 4737786807993761792 = some .lt := ford_lt hf fin_thr.1 (by rw [fin_thr.2]; grind)
  have hn := Lib.hid (isNaN_ok x0 hf0)
  have hi := Lib.hid (isInf_ok x0 hf0 (by grind) (by grind))
  have hab := Lib.hid (fun w => ha ▸ abs_ok x0 w)
  obtain ⟨m, hm⟩ : ∃ m, m = fmul x 4608412980311869571 := ⟨_, rfl⟩
  have e1 := h.mul; have e2 := h.int
  rw [← hm] at e1 e2
  have q1 := fop e1; have q2 := fconv e2
  obtain ⟨ya, hya⟩ : ∃ y, floatOfInt .f64 1 = y := ⟨_, rfl⟩
  obtain ⟨yb, hyb⟩ : ∃ y, y = floatOfInt .f64 ((evJ 1 : Nat) : Int) := ⟨_, rfl⟩
  have i0 : floatBits .add .f64 ya 4607182418800017408 = some yb := by rw [← hya, hyb]; decide
  have q3 := fop i0
  rw [← hyb] at i1 i3 i5
  have q4 := fop i1; have q5 := fop i2; have q6 := fop i3; have q7 := fop i4; have q8 := fop i5; have q9 := fop i6
  have g1 := fop k1; have g2 := fop k2; have g3 := fop k3; have g4 := fop k4; have g5 := fop k5; have g6 := fop k6; have g7 := fop k7; have g8 := fop k8; have g9 := fop k9; have g10 := fop k10; have g11 := fop k11; have g12 := fop k12; have g13 := fop k13; have g14 := fop k14
  obtain ⟨s0, s1, s2, s3, s4, s5, c0, c1, c2, c3, c4, c5⟩ := ht
  clear hres hm e1 e2 hyb i0 i1 i2 i3 i4 i5 i6 k1 k2 k3 k4 k5 k6 k7 k8 k9 k10 k11 k12 k13 k14 kr hz h hf h0 h7 ha hf0 hl0 hm0
  go_enter Tryd.func36, Tryd.ntmps36
  go_wp2_with fail
  refine Calls.mono (hn.out _) ?_
  rintro e _ ⟨rfl, rfl⟩
  go_wp2_with fail
  refine Calls.mono (hi.out _) ?_
  rintro e _ ⟨rfl, rfl⟩
  go_wp2_with fail
  refine Calls.mono (hab.out _) ?_
  rintro e _ ⟨rfl, rfl⟩
  go_wp2_with fail
  go_ret
  exact ⟨by rw [HR.out]; rfl, rfl⟩
set_option maxRecDepth 100000 in
set_option maxHeartbeats 4000000 in
theorem cosN_j2 (x0 x : Nat) (hf0 : Fin x0) (hl0 : fv x0 ≤ 7) (hm0 : -7 ≤ fv x0) (hf : Fin x) (h0 : 0 ≤ fv x) (ha : fabs x0 = x) (h7 : fv x ≤ 7) (h : OctJ x (fv x) 2) (w : World) (ht : SinT w) : Calls Tryd.prog 36 #[.float .f64 x0] w fun e w' => e = .returned (.float .f64 (cosB x)) ∧ w' = w := by
  obtain ⟨z, hz⟩ := octZ_ok hf h0 h7 h
  obtain ⟨r1, r2, r3, r4, r5, i1, i2, i3, i4, i5, i6⟩ := hz.steps
  obtain ⟨p1, p2, p3, p4, p5, p6, p7, p8, p9, p10, p11, p12, p13, p14, k1, k2, k3, k4, k5, k6, k7, k8, k9, k10, k11, k12, k13, k14, kr, -⟩ := wS_ok (hz.ap.weak (by grind) (by grind))
  have hres : cosB x = fneg p14 := by
    unfold cosB
    rw [h.eq, ← hz.eq, kr]
    rfl
  have HR := Lib.hid hres
  have ho2 : FloatKind.f64.format.order x 4737786807993761792 = some .lt := ford_lt hf fin_thr.1 (by rw [fin_thr.2]; grind)
  have hn := Lib.hid (isNaN_ok x0 hf0)
  have hi := Lib.hid (isInf_ok x0 hf0 (by grind) (by grind))
  have hab := Lib.hid (fun w => ha ▸ abs_ok x0 w)
  obtain ⟨m, hm⟩ : ∃ m, m = fmul x 4608412980311869571 := ⟨_, rfl⟩
  have e1 := h.mul; have e2 := h.int
  rw [← hm] at e1 e2
  have q1 := fop e1; have q2 := fconv e2
  obtain ⟨yb, hya⟩ : ∃ y, floatOfInt .f64 2 = y := ⟨_, rfl⟩
  have hyb : yb = floatOfInt .f64 ((evJ 2 : Nat) : Int) := hya.symm
  have i0 := trivial
  rw [← hyb] at i1 i3 i5
  have q4 := fop i1; have q5 := fop i2; have q6 := fop i3; have q7 := fop i4; have q8 := fop i5; have q9 := fop i6
  have g1 := fop k1; have g2 := fop k2; have g3 := fop k3; have g4 := fop k4; have g5 := fop k5; have g6 := fop k6; have g7 := fop k7; have g8 := fop k8; have g9 := fop k9; have g10 := fop k10; have g11 := fop k11; have g12 := fop k12; have g13 := fop k13; have g14 := fop k14
  obtain ⟨s0, s1, s2, s3, s4, s5, c0, c1, c2, c3, c4, c5⟩ := ht
  clear hres hm e1 e2 hyb i0 i1 i2 i3 i4 i5 i6 k1 k2 k3 k4 k5 k6 k7 k8 k9 k10 k11 k12 k13 k14 kr hz h hf h0 h7 ha hf0 hl0 hm0
  go_enter Tryd.func36, Tryd.ntmps36
  go_wp2_with fail
  refine Calls.mono (hn.out _) ?_
  rintro e _ ⟨rfl, rfl⟩
  go_wp2_with fail
  refine Calls.mono (hi.out _) ?_
  rintro e _ ⟨rfl, rfl⟩
  go_wp2_with fail
  refine Calls.mono (hab.out _) ?_
  rintro e _ ⟨rfl, rfl⟩
  go_wp2_with fail
  go_ret
  exact ⟨by rw [HR.out]; rfl, rfl⟩
theorem oct_small {x : Nat} {X : Rat} {j : Nat} (h : OctJ x X j) (hX : X ≤ 2) : j = 0 ∨ j = 1 ∨ j = 2 := by
  have l := h.lo
  have k : X * kP ≤ 26 / 10 := by
    have := Rat.mul_le_mul_of_nonneg_right hX (show 0 ≤ kP by unfold kP; grind)
    unfold kP at *
    grind
  have : (j : Rat) < 3 := by grind
  have : j < 3 := by
    apply Nat.lt_of_not_le
    intro c
    have g : ((3 : Nat) : Rat) ≤ (j : Rat) := Rat.natCast_le_natCast.2 c
    rw [show ((3 : Nat) : Rat) = 3 from rfl] at g
    grind
  omega
theorem Sin_neg (x : Nat) (hf : Fin x) (h0 : fv x < 0) (h2 : -2 ≤ fv x) (w : World) (ht : SinT w) : Calls Tryd.prog 23 #[.float .f64 x] w fun e w' => e = .returned (.float .f64 (fneg (sinB (fneg x)))) ∧ w' = w := by
  have H : Calls Tryd.prog 34 #[.float .f64 x] w fun e w' => e = .returned (.float .f64 (fneg (sinB (fneg x)))) ∧ w' = w := by
    obtain ⟨nf, nv⟩ := fneg_ok hf
    obtain ⟨j, h⟩ := octJ_ok nf (by grind) (by grind)
    rcases oct_small h (by grind) with rfl | rfl | rfl
    · exact sinN_j0 x (fneg x) hf h0 (by grind) rfl nf (by grind) (by grind) h w ht
    · exact sinN_j1 x (fneg x) hf h0 (by grind) rfl nf (by grind) (by grind) h w ht
    · exact sinN_j2 x (fneg x) hf h0 (by grind) rfl nf (by grind) (by grind) h w ht
  have HH := Lib.hid H
  clear H h0 h2 hf
  go_enter Tryd.func23, Tryd.ntmps23
  go_wp2_with fail
  refine Calls.mono HH.out ?_
  rintro e _ ⟨rfl, rfl⟩
  go_wp2_with fail
  go_ret
  exact ⟨rfl, rfl⟩
theorem Cos_any (x : Nat) (hf : Fin x) (h0 : fv x ≤ 2) (h2 : -2 ≤ fv x) (w : World) (ht : SinT w) : Calls Tryd.prog 25 #[.float .f64 x] w fun e w' => e = .returned (.float .f64 (cosB (fabs x))) ∧ w' = w := by
  have H : Calls Tryd.prog 36 #[.float .f64 x] w fun e w' => e = .returned (.float .f64 (cosB (fabs x))) ∧ w' = w := by
    obtain ⟨nf, -, n1, n2⟩ := fabs_ok hf
    have nv : 0 ≤ fv (fabs x) ∧ fv (fabs x) ≤ 2 := by
      by_cases c : 0 ≤ fv x
      · have := n1 c; constructor <;> grind
      · have := n2 (by grind); constructor <;> grind
    obtain ⟨j, h⟩ := octJ_ok nf nv.1 (by grind)
    rcases oct_small h nv.2 with rfl | rfl | rfl
    · exact cosN_j0 x (fabs x) hf (by grind) (by grind) nf nv.1 rfl (by grind) h w ht
    · exact cosN_j1 x (fabs x) hf (by grind) (by grind) nf nv.1 rfl (by grind) h w ht
    · exact cosN_j2 x (fabs x) hf (by grind) (by grind) nf nv.1 rfl (by grind) h w ht
  have HH := Lib.hid H
  clear H h0 h2 hf
  go_enter Tryd.func25, Tryd.ntmps25
  go_wp2_with fail
  refine Calls.mono HH.out ?_
  rintro e _ ⟨rfl, rfl⟩
  go_wp2_with fail
  go_ret
  exact ⟨rfl, rfl⟩
end Go.Proofs.YtcopmgnfakjdhaaDoor
