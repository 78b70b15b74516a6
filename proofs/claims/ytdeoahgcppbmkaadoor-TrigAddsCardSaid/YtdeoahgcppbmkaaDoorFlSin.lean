/- The sine of Go's math package in plain Lean: what its operations give, exact polynomials, and how far the words are from them. Printed by wip/tools/gen-sin.py. -/
import Derived.Test.YtdeoahgcppbmkaaDoorFl
set_option linter.unusedSimpArgs false
set_option linter.unusedVariables false
namespace Go.Proofs.YtdeoahgcppbmkaaDoor
open Ieee

def kP : Rat := 5734161139222659 / 4503599627370496
theorem ap_kP : Ap 4608412980311869571 kP 0 (31831 / 25000) := by
  obtain ⟨f, v⟩ := fv_lit (w := 4608412980311869571) (s := false) (m := 5734161139222659) (k := 52) (by decide)
  have e : ((2 ^ 52 : Nat) : Rat) = 4503599627370496 := rfl
  have e2 : ((5734161139222659 : Nat) : Rat) = 5734161139222659 := rfl
  have v2 : fv 4608412980311869571 = kP := by rw [v, e]; (try rw [e2]); unfold kP; rw [sg_f]; grind
  rw [← v2]; exact Ap.exact f (by rw [v2]; unfold kP; grind) (by rw [v2]; unfold kP; grind)
def kA : Rat := 7074237412016128 / 9007199254740992
theorem ap_kA : Ap 4605249456957292544 kA 0 (785399 / 1000000) := by
  obtain ⟨f, v⟩ := fv_lit (w := 4605249456957292544) (s := false) (m := 7074237412016128) (k := 53) (by decide)
  have e : ((2 ^ 53 : Nat) : Rat) = 9007199254740992 := rfl
  have e2 : ((7074237412016128 : Nat) : Rat) = 7074237412016128 := rfl
  have v2 : fv 4605249456957292544 = kA := by rw [v, e]; (try rw [e2]); unfold kA; rw [sg_f]; grind
  rw [← v2]; exact Ap.exact f (by rw [v2]; unfold kA; grind) (by rw [v2]; unfold kA; grind)
def kB : Rat := 5704459598430208 / 151115727451828646838272
theorem ap_kB : Ap 4495793288086814720 kB 0 (37749 / 1000000000000) := by
  obtain ⟨f, v⟩ := fv_lit (w := 4495793288086814720) (s := false) (m := 5704459598430208) (k := 77) (by decide)
  have e : ((2 ^ 77 : Nat) : Rat) = 151115727451828646838272 := rfl
  have e2 : ((5704459598430208 : Nat) : Rat) = 5704459598430208 := rfl
  have v2 : fv 4495793288086814720 = kB := by rw [v, e]; (try rw [e2]); unfold kB; rw [sg_f]; grind
  rw [← v2]; exact Ap.exact f (by rw [v2]; unfold kB; grind) (by rw [v2]; unfold kB; grind)
def kC : Rat := 6833020653556080 / 2535301200456458802993406410752
theorem ap_kC : Ap 4388835458085048688 kC 0 (67379 / 25000000000000000000) := by
  obtain ⟨f, v⟩ := fv_lit (w := 4388835458085048688) (s := false) (m := 6833020653556080) (k := 101) (by decide)
  have e : ((2 ^ 101 : Nat) : Rat) = 2535301200456458802993406410752 := rfl
  have e2 : ((6833020653556080 : Nat) : Rat) = 6833020653556080 := rfl
  have v2 : fv 4388835458085048688 = kC := by rw [v, e]; (try rw [e2]); unfold kC; rw [sg_f]; grind
  rw [← v2]; exact Ap.exact f (by rw [v2]; unfold kC; grind) (by rw [v2]; unfold kC; grind)
def kH : Rat := 4503599627370496 / 9007199254740992
theorem ap_kH : Ap 4602678819172646912 kH 0 (1 / 2) := by
  obtain ⟨f, v⟩ := fv_lit (w := 4602678819172646912) (s := false) (m := 4503599627370496) (k := 53) (by decide)
  have e : ((2 ^ 53 : Nat) : Rat) = 9007199254740992 := rfl
  have e2 : ((4503599627370496 : Nat) : Rat) = 4503599627370496 := rfl
  have v2 : fv 4602678819172646912 = kH := by rw [v, e]; (try rw [e2]); unfold kH; rw [sg_f]; grind
  rw [← v2]; exact Ap.exact f (by rw [v2]; unfold kH; grind) (by rw [v2]; unfold kH; grind)
def kO : Rat := 4503599627370496 / 4503599627370496
theorem ap_kO : Ap 4607182418800017408 kO 0 (1) := by
  obtain ⟨f, v⟩ := fv_lit (w := 4607182418800017408) (s := false) (m := 4503599627370496) (k := 52) (by decide)
  have e : ((2 ^ 52 : Nat) : Rat) = 4503599627370496 := rfl
  have e2 : ((4503599627370496 : Nat) : Rat) = 4503599627370496 := rfl
  have v2 : fv 4607182418800017408 = kO := by rw [v, e]; (try rw [e2]); unfold kO; rw [sg_f]; grind
  rw [← v2]; exact Ap.exact f (by rw [v2]; unfold kO; grind) (by rw [v2]; unfold kO; grind)
def kS0 : Rat := 6149556183080141 / 38685626227668133590597632
theorem ap_kS0 : Ap 4460209587652500685 kS0 0 (158963 / 1000000000000000) := by
  obtain ⟨f, v⟩ := fv_lit (w := 4460209587652500685) (s := false) (m := 6149556183080141) (k := 85) (by decide)
  have e : ((2 ^ 85 : Nat) : Rat) = 38685626227668133590597632 := rfl
  have e2 : ((6149556183080141 : Nat) : Rat) = 6149556183080141 := rfl
  have v2 : fv 4460209587652500685 = kS0 := by rw [v, e]; (try rw [e2]); unfold kS0; rw [sg_f]; grind
  rw [← v2]; exact Ap.exact f (by rw [v2]; unfold kS0; grind) (by rw [v2]; unfold kS0; grind)
def kC0 : Rat := -7030593573755547 / 618970019642690137449562112
theorem ap_kC0 : Ap 13666448263388469915 kC0 0 (56793 / 5000000000000000) := by
  obtain ⟨f, v⟩ := fv_lit (w := 13666448263388469915) (s := true) (m := 7030593573755547) (k := 89) (by decide)
  have e : ((2 ^ 89 : Nat) : Rat) = 618970019642690137449562112 := rfl
  have e2 : ((7030593573755547 : Nat) : Rat) = 7030593573755547 := rfl
  have v2 : fv 13666448263388469915 = kC0 := by rw [v, e]; (try rw [e2]); unfold kC0; rw [sg_t]; grind
  rw [← v2]; exact Ap.exact f (by rw [v2]; unfold kC0; grind) (by rw [v2]; unfold kC0; grind)
def kS1 : Rat := -7571123942793053 / 302231454903657293676544
theorem ap_kS1 : Ap 13716528389658582877 kS1 0 (62627 / 2500000000000) := by
  obtain ⟨f, v⟩ := fv_lit (w := 13716528389658582877) (s := true) (m := 7571123942793053) (k := 78) (by decide)
  have e : ((2 ^ 78 : Nat) : Rat) = 302231454903657293676544 := rfl
  have e2 : ((7571123942793053 : Nat) : Rat) = 7571123942793053 := rfl
  have v2 : fv 13716528389658582877 = kS1 := by rw [v, e]; (try rw [e2]); unfold kS1; rw [sg_t]; grind
  rw [← v2]; exact Ap.exact f (by rw [v2]; unfold kS1; grind) (by rw [v2]; unfold kS1; grind)
def kC1 : Rat := 5047434750082821 / 2417851639229258349412352
theorem ap_kC1 : Ap 4477121864728985349 kC1 0 (104379 / 50000000000000) := by
  obtain ⟨f, v⟩ := fv_lit (w := 4477121864728985349) (s := false) (m := 5047434750082821) (k := 81) (by decide)
  have e : ((2 ^ 81 : Nat) : Rat) = 2417851639229258349412352 := rfl
  have e2 : ((5047434750082821 : Nat) : Rat) = 5047434750082821 := rfl
  have v2 : fv 4477121864728985349 = kC1 := by rw [v, e]; (try rw [e2]); unfold kC1; rw [sg_f]; grind
  rw [← v2]; exact Ap.exact f (by rw [v2]; unfold kC1; grind) (by rw [v2]; unfold kC1; grind)
def kS2 : Rat := 6506786710177953 / 2361183241434822606848
theorem ap_kS2 : Ap 4523617212962785441 kS2 0 (137787 / 50000000000) := by
  obtain ⟨f, v⟩ := fv_lit (w := 4523617212962785441) (s := false) (m := 6506786710177953) (k := 71) (by decide)
  have e : ((2 ^ 71 : Nat) : Rat) = 2361183241434822606848 := rfl
  have e2 : ((6506786710177953 : Nat) : Rat) = 6506786710177953 := rfl
  have v2 : fv 4523617212962785441 = kS2 := by rw [v, e]; (try rw [e2]); unfold kS2; rw [sg_f]; grind
  rw [← v2]; exact Ap.exact f (by rw [v2]; unfold kS2; grind) (by rw [v2]; unfold kS2; grind)
def kC2 : Rat := -5205429473528774 / 18889465931478580854784
theorem ap_kC2 : Ap 13732177093698800582 kC2 0 (137787 / 500000000000) := by
  obtain ⟨f, v⟩ := fv_lit (w := 13732177093698800582) (s := true) (m := 5205429473528774) (k := 74) (by decide)
  have e : ((2 ^ 74 : Nat) : Rat) = 18889465931478580854784 := rfl
  have e2 : ((5205429473528774 : Nat) : Rat) = 5205429473528774 := rfl
  have v2 : fv 13732177093698800582 = kC2 := by rw [v, e]; (try rw [e2]); unfold kC2; rw [sg_t]; grind
  rw [← v2]; exact Ap.exact f (by rw [v2]; unfold kC2; grind) (by rw [v2]; unfold kC2; grind)
def kS3 : Rat := -7320136532877059 / 36893488147419103232
theorem ap_kS3 : Ap 13774824197404483331 kS3 0 (198413 / 1000000000) := by
  obtain ⟨f, v⟩ := fv_lit (w := 13774824197404483331) (s := true) (m := 7320136532877059) (k := 65) (by decide)
  have e : ((2 ^ 65 : Nat) : Rat) = 36893488147419103232 := rfl
  have e2 : ((7320136532877059 : Nat) : Rat) = 7320136532877059 := rfl
  have v2 : fv 13774824197404483331 = kS3 := by rw [v, e]; (try rw [e2]); unfold kS3; rw [sg_t]; grind
  rw [← v2]; exact Ap.exact f (by rw [v2]; unfold kS3; grind) (by rw [v2]; unfold kS3; grind)
def kC3 : Rat := 7320136533427445 / 295147905179352825856
theorem ap_kC3 : Ap 4537941361668146421 kC3 0 (15501 / 625000000) := by
  obtain ⟨f, v⟩ := fv_lit (w := 4537941361668146421) (s := false) (m := 7320136533427445) (k := 68) (by decide)
  have e : ((2 ^ 68 : Nat) : Rat) = 295147905179352825856 := rfl
  have e2 : ((7320136533427445 : Nat) : Rat) = 7320136533427445 := rfl
  have v2 : fv 4537941361668146421 = kC3 := by rw [v, e]; (try rw [e2]); unfold kC3; rw [sg_f]; grind
  rw [← v2]; exact Ap.exact f (by rw [v2]; unfold kC3; grind) (by rw [v2]; unfold kC3; grind)
def kS4 : Rat := 4803839602522064 / 576460752303423488
theorem ap_kS4 : Ap 4575957461383575504 kS4 0 (416667 / 50000000) := by
  obtain ⟨f, v⟩ := fv_lit (w := 4575957461383575504) (s := false) (m := 4803839602522064) (k := 59) (by decide)
  have e : ((2 ^ 59 : Nat) : Rat) = 576460752303423488 := rfl
  have e2 : ((4803839602522064 : Nat) : Rat) = 4803839602522064 := rfl
  have v2 : fv 4575957461383575504 = kS4 := by rw [v, e]; (try rw [e2]); unfold kS4; rw [sg_f]; grind
  rw [← v2]; exact Ap.exact f (by rw [v2]; unfold kS4; grind) (by rw [v2]; unfold kS4; grind)
def kC4 : Rat := -6405119470030737 / 4611686018427387904
theorem ap_kC4 : Ap 13787419979223748497 kC4 0 (138889 / 100000000) := by
  obtain ⟨f, v⟩ := fv_lit (w := 13787419979223748497) (s := true) (m := 6405119470030737) (k := 62) (by decide)
  have e : ((2 ^ 62 : Nat) : Rat) = 4611686018427387904 := rfl
  have e2 : ((6405119470030737 : Nat) : Rat) = 6405119470030737 := rfl
  have v2 : fv 13787419979223748497 = kC4 := by rw [v, e]; (try rw [e2]); unfold kC4; rw [sg_t]; grind
  rw [← v2]; exact Ap.exact f (by rw [v2]; unfold kC4; grind) (by rw [v2]; unfold kC4; grind)
def kS5 : Rat := -6004799503160648 / 36028797018963968
theorem ap_kS5 : Ap 13818544856648471880 kS5 0 (166667 / 1000000) := by
  obtain ⟨f, v⟩ := fv_lit (w := 13818544856648471880) (s := true) (m := 6004799503160648) (k := 55) (by decide)
  have e : ((2 ^ 55 : Nat) : Rat) = 36028797018963968 := rfl
  have e2 : ((6004799503160648 : Nat) : Rat) = 6004799503160648 := rfl
  have v2 : fv 13818544856648471880 = kS5 := by rw [v, e]; (try rw [e2]); unfold kS5; rw [sg_t]; grind
  rw [← v2]; exact Ap.exact f (by rw [v2]; unfold kS5; grind) (by rw [v2]; unfold kS5; grind)
def kC5 : Rat := 6004799503160651 / 144115188075855872
theorem ap_kC5 : Ap 4586165620538955083 kC5 0 (416667 / 10000000) := by
  obtain ⟨f, v⟩ := fv_lit (w := 4586165620538955083) (s := false) (m := 6004799503160651) (k := 57) (by decide)
  have e : ((2 ^ 57 : Nat) : Rat) = 144115188075855872 := rfl
  have e2 : ((6004799503160651 : Nat) : Rat) = 6004799503160651 := rfl
  have v2 : fv 4586165620538955083 = kC5 := by rw [v, e]; (try rw [e2]); unfold kC5; rw [sg_f]; grind
  rw [← v2]; exact Ap.exact f (by rw [v2]; unfold kC5; grind) (by rw [v2]; unfold kC5; grind)

/-- The polynomials of the sine and of the cosine. -/
def PS (Z : Rat) : Rat := Z + Z * (Z * Z) * (((((kS0 * (Z * Z) + kS1) * (Z * Z) + kS2) * (Z * Z) + kS3) * (Z * Z) + kS4) * (Z * Z) + kS5)
def PC (Z : Rat) : Rat := kO - kH * (Z * Z) + Z * Z * (Z * Z) * (((((kC0 * (Z * Z) + kC1) * (Z * Z) + kC2) * (Z * Z) + kC3) * (Z * Z) + kC4) * (Z * Z) + kC5)
def wS' (z zz : Nat) : Nat := fadd z (fmul (fmul z zz) (fadd (fmul (fadd (fmul (fadd (fmul (fadd (fmul (fadd (fmul 4460209587652500685 zz) 13716528389658582877) zz) 4523617212962785441) zz) 13774824197404483331) zz) 4575957461383575504) zz) 13818544856648471880))
def wC' (zz : Nat) : Nat := fadd (fsub 4607182418800017408 (fmul 4602678819172646912 zz)) (fmul (fmul zz zz) (fadd (fmul (fadd (fmul (fadd (fmul (fadd (fmul (fadd (fmul 13666448263388469915 zz) 4477121864728985349) zz) 13732177093698800582) zz) 4537941361668146421) zz) 13787419979223748497) zz) 4586165620538955083))
def wS (z : Nat) : Nat := wS' z (fmul z z)
def wC (z : Nat) : Nat := wC' (fmul z z)
theorem wS_ok {z : Nat} {Z : Rat} (hz : Ap z Z (1 / 100000000000000) (393 / 500)) : ∃ r1 r2 r3 r4 r5 r6 r7 r8 r9 r10 r11 r12 r13 r14 : Nat, (floatBits .mul .f64 z z = some r1) ∧ (floatBits .mul .f64 z r1 = some r2) ∧ (floatBits .mul .f64 4460209587652500685 r1 = some r3) ∧ (floatBits .add .f64 r3 13716528389658582877 = some r4) ∧ (floatBits .mul .f64 r4 r1 = some r5) ∧ (floatBits .add .f64 r5 4523617212962785441 = some r6) ∧ (floatBits .mul .f64 r6 r1 = some r7) ∧ (floatBits .add .f64 r7 13774824197404483331 = some r8) ∧ (floatBits .mul .f64 r8 r1 = some r9) ∧ (floatBits .add .f64 r9 4575957461383575504 = some r10) ∧ (floatBits .mul .f64 r10 r1 = some r11) ∧ (floatBits .add .f64 r11 13818544856648471880 = some r12) ∧ (floatBits .mul .f64 r2 r12 = some r13) ∧ (floatBits .add .f64 z r13 = some r14) ∧ r14 = wS z ∧ Ap r14 (PS Z) (27 / 2000000000000000) (87 / 100) := by
  obtain ⟨is1, s1⟩ := Ap.mul hz hz (79 / 5000000000000000) (309 / 500) (309 / 500) (mid_of (by grind) (by grind)) (by grind) (by grind) (by grind)
  obtain ⟨is2, s2⟩ := Ap.mul hz s1 (187 / 10000000000000000) (243 / 500) (243 / 500) (mid_of (by grind) (by grind)) (by grind) (by grind) (by grind)
  obtain ⟨is3, s3⟩ := Ap.mul ap_kS0 s1 (253 / 100000000000000000000000000) (983 / 10000000000000) (983 / 10000000000000) (mid_of (by grind) (by grind)) (by grind) (by grind) (by grind)
  obtain ⟨is4, s4⟩ := Ap.add s3 ap_kS1 (267 / 50000000000000000000000000) (63 / 2500000000) (253 / 10000000000) (mid_of (by grind) (by grind)) (by grind) (by grind) (by grind)
  obtain ⟨is5, s5⟩ := Ap.mul s4 s1 (101 / 250000000000000000000000) (39 / 2500000000) (39 / 2500000000) (mid_of (by grind) (by grind)) (by grind) (by grind) (by grind)
  obtain ⟨is6, s6⟩ := Ap.add s5 ap_kS2 (357 / 500000000000000000000000) (139 / 50000000) (279 / 100000000) (mid_of (by grind) (by grind)) (by grind) (by grind) (by grind)
  obtain ⟨is7, s7⟩ := Ap.mul s6 s1 (223 / 5000000000000000000000) (43 / 25000000) (43 / 25000000) (mid_of (by grind) (by grind)) (by grind) (by grind) (by grind)
  obtain ⟨is8, s8⟩ := Ap.add s7 ap_kS3 (671 / 10000000000000000000000) (201 / 1000000) (101 / 500000) (mid_of (by grind) (by grind)) (by grind) (by grind) (by grind)
  obtain ⟨is9, s9⟩ := Ap.mul s8 s1 (81 / 25000000000000000000) (1 / 8000) (1 / 8000) (mid_of (by grind) (by grind)) (by grind) (by grind) (by grind)
  obtain ⟨is10, s10⟩ := Ap.add s9 ap_kS4 (419 / 100000000000000000000) (423 / 50000) (847 / 100000) (mid_of (by grind) (by grind)) (by grind) (by grind) (by grind)
  obtain ⟨is11, s11⟩ := Ap.mul s10 s1 (137 / 1000000000000000000) (523 / 100000) (523 / 100000) (mid_of (by grind) (by grind)) (by grind) (by grind) (by grind)
  obtain ⟨is12, s12⟩ := Ap.add s11 ap_kS5 (157 / 1000000000000000000) (43 / 250) (173 / 1000) (mid_of (by grind) (by grind)) (by grind) (by grind) (by grind)
  obtain ⟨is13, s13⟩ := Ap.mul s2 s12 (331 / 100000000000000000) (209 / 2500) (209 / 2500) (mid_of (by grind) (by grind)) (by grind) (by grind) (by grind)
  obtain ⟨is14, s14⟩ := Ap.add hz s13 (27 / 2000000000000000) (87 / 100) (871 / 1000) (mid_of (by grind) (by grind)) (by grind) (by grind) (by grind)
  exact ⟨_, _, _, _, _, _, _, _, _, _, _, _, _, _, is1, is2, is3, is4, is5, is6, is7, is8, is9, is10, is11, is12, is13, is14, rfl, s14⟩
theorem wC_ok {z : Nat} {Z : Rat} (hz : Ap z Z (1 / 100000000000000) (393 / 500)) : ∃ r1 r2 r3 r4 r5 r6 r7 r8 r9 r10 r11 r12 r13 r14 r15 r16 : Nat, (floatBits .mul .f64 z z = some r1) ∧ (floatBits .mul .f64 4602678819172646912 r1 = some r2) ∧ (floatBits .sub .f64 4607182418800017408 r2 = some r3) ∧ (floatBits .mul .f64 r1 r1 = some r4) ∧ (floatBits .mul .f64 13666448263388469915 r1 = some r5) ∧ (floatBits .add .f64 r5 4477121864728985349 = some r6) ∧ (floatBits .mul .f64 r6 r1 = some r7) ∧ (floatBits .add .f64 r7 13732177093698800582 = some r8) ∧ (floatBits .mul .f64 r8 r1 = some r9) ∧ (floatBits .add .f64 r9 4537941361668146421 = some r10) ∧ (floatBits .mul .f64 r10 r1 = some r11) ∧ (floatBits .add .f64 r11 13787419979223748497 = some r12) ∧ (floatBits .mul .f64 r12 r1 = some r13) ∧ (floatBits .add .f64 r13 4586165620538955083 = some r14) ∧ (floatBits .mul .f64 r4 r14 = some r15) ∧ (floatBits .add .f64 r3 r15 = some r16) ∧ r16 = wC z ∧ Ap r16 (PC Z) (909 / 100000000000000000) (133 / 100) := by
  obtain ⟨is1, s1⟩ := Ap.mul hz hz (79 / 5000000000000000) (309 / 500) (309 / 500) (mid_of (by grind) (by grind)) (by grind) (by grind) (by grind)
  obtain ⟨is2, s2⟩ := Ap.mul ap_kH s1 (397 / 50000000000000000) (309 / 1000) (31 / 100) (mid_of (by grind) (by grind)) (by grind) (by grind) (by grind)
  obtain ⟨is3, s3⟩ := Ap.sub ap_kO s2 (809 / 100000000000000000) (131 / 100) (33 / 25) (mid_of (by grind) (by grind)) (by grind) (by grind) (by grind)
  obtain ⟨is4, s4⟩ := Ap.mul s1 s1 (49 / 2500000000000000) (191 / 500) (191 / 500) (mid_of (by grind) (by grind)) (by grind) (by grind) (by grind)
  obtain ⟨is5, s5⟩ := Ap.mul ap_kC0 s1 (181 / 1000000000000000000000000000) (351 / 50000000000000) (351 / 50000000000000) (mid_of (by grind) (by grind)) (by grind) (by grind) (by grind)
  obtain ⟨is6, s6⟩ := Ap.add s5 ap_kC1 (13 / 31250000000000000000000000) (21 / 10000000000) (211 / 100000000000) (mid_of (by grind) (by grind)) (by grind) (by grind) (by grind)
  obtain ⟨is7, s7⟩ := Ap.mul s6 s1 (21 / 625000000000000000000000) (13 / 10000000000) (13 / 10000000000) (mid_of (by grind) (by grind)) (by grind) (by grind) (by grind)
  obtain ⟨is8, s8⟩ := Ap.add s7 ap_kC2 (129 / 2000000000000000000000000) (277 / 1000000000) (139 / 500000000) (mid_of (by grind) (by grind)) (by grind) (by grind) (by grind)
  obtain ⟨is9, s9⟩ := Ap.mul s8 s1 (111 / 25000000000000000000000) (43 / 250000000) (43 / 250000000) (mid_of (by grind) (by grind)) (by grind) (by grind) (by grind)
  obtain ⟨is10, s10⟩ := Ap.add s9 ap_kC3 (723 / 100000000000000000000000) (1 / 40000) (251 / 10000000) (mid_of (by grind) (by grind)) (by grind) (by grind) (by grind)
  obtain ⟨is11, s11⟩ := Ap.mul s10 s1 (201 / 500000000000000000000) (31 / 2000000) (31 / 2000000) (mid_of (by grind) (by grind)) (by grind) (by grind) (by grind)
  obtain ⟨is12, s12⟩ := Ap.add s11 ap_kC4 (7 / 12500000000000000000) (141 / 100000) (71 / 50000) (mid_of (by grind) (by grind)) (by grind) (by grind) (by grind)
  obtain ⟨is13, s13⟩ := Ap.mul s12 s1 (57 / 2500000000000000000) (109 / 125000) (109 / 125000) (mid_of (by grind) (by grind)) (by grind) (by grind) (by grind)
  obtain ⟨is14, s14⟩ := Ap.add s13 ap_kC5 (69 / 2500000000000000000) (213 / 5000) (427 / 10000) (mid_of (by grind) (by grind)) (by grind) (by grind) (by grind)
  obtain ⟨is15, s15⟩ := Ap.mul s4 s14 (53 / 62500000000000000) (163 / 10000) (163 / 10000) (mid_of (by grind) (by grind)) (by grind) (by grind) (by grind)
  obtain ⟨is16, s16⟩ := Ap.add s3 s15 (909 / 100000000000000000) (133 / 100) (67 / 50) (mid_of (by grind) (by grind)) (by grind) (by grind) (by grind)
  exact ⟨_, _, _, _, _, _, _, _, _, _, _, _, _, _, _, _, is1, is2, is3, is4, is5, is6, is7, is8, is9, is10, is11, is12, is13, is14, is15, is16, rfl, s16⟩
/-- The quarter of pi that the reduction takes away, y times. -/
def qq : Rat := kA + kB + kC
def octz (x y : Nat) : Nat := fsub (fsub (fsub x (fmul y 4605249456957292544)) (fmul y 4495793288086814720)) (fmul y 4388835458085048688)
theorem octz_ok {x y : Nat} {X Y : Rat} (hx : Ap x X 0 7) (hy : Ap y Y 0 8) (h1 : -(1571 / 2000) ≤ X - Y * kA ∧ X - Y * kA ≤ 1571 / 2000) (h2 : -(1571 / 2000) ≤ X - Y * kA - Y * kB ∧ X - Y * kA - Y * kB ≤ 1571 / 2000) (h3 : -(1571 / 2000) ≤ X - Y * kA - Y * kB - Y * kC ∧ X - Y * kA - Y * kB - Y * kC ≤ 1571 / 2000) : ∃ r1 r2 r3 r4 r5 r6 : Nat, (floatBits .mul .f64 y 4605249456957292544 = some r1) ∧ (floatBits .sub .f64 x r1 = some r2) ∧ (floatBits .mul .f64 y 4495793288086814720 = some r3) ∧ (floatBits .sub .f64 r2 r3 = some r4) ∧ (floatBits .mul .f64 y 4388835458085048688 = some r5) ∧ (floatBits .sub .f64 r4 r5 = some r6) ∧ r6 = octz x y ∧ Ap r6 (X - Y * kA - Y * kB - Y * kC) (963 / 1000000000000000000) (1571 / 2000) := by
  obtain ⟨is1, s1⟩ := Ap.mul hy ap_kA (699 / 1000000000000000000) (629 / 100) (629 / 100) (mid_of (by grind) (by grind)) (by grind) (by grind) (by grind)
  obtain ⟨is2, s2⟩ := Ap.sub' hx s1 (787 / 1000000000000000000) (1571 / 2000) (393 / 500) (mid_of (by grind) (by grind)) (by grind) (by grind) h1
  obtain ⟨is3, s3⟩ := Ap.mul hy ap_kB (21 / 625000000000000000000000) (151 / 500000000) (151 / 500000000) (mid_of (by grind) (by grind)) (by grind) (by grind) (by grind)
  obtain ⟨is4, s4⟩ := Ap.sub' s2 s3 (7 / 8000000000000000) (1571 / 2000) (393 / 500) (mid_of (by grind) (by grind)) (by grind) (by grind) h2
  obtain ⟨is5, s5⟩ := Ap.mul hy ap_kC (3 / 1250000000000000000000000000000) (27 / 1250000000000000) (27 / 1250000000000000) (mid_of (by grind) (by grind)) (by grind) (by grind) (by grind)
  obtain ⟨is6, s6⟩ := Ap.sub' s4 s5 (963 / 1000000000000000000) (1571 / 2000) (393 / 500) (mid_of (by grind) (by grind)) (by grind) (by grind) h3
  exact ⟨_, _, _, _, _, _, is1, is2, is3, is4, is5, is6, rfl, s6⟩
end Go.Proofs.YtdeoahgcppbmkaaDoor
