/- Go's xatan in plain Lean: what its operations give, the exact rational function, and how far the word is from it. Printed by wip/tools/gen-atan.py. -/
import Derived.Test.YtdeoahgcppbmkaaDoorFlDiv
set_option linter.unusedSimpArgs false
set_option linter.unusedVariables false
namespace Go.Proofs.YtdeoahgcppbmkaaDoor
open Ieee

def aP0 : Rat := -7881847526073748 / 9007199254740992
theorem ap_aP0 : Ap 13829429103926125972 aP0 0 (875061 / 1000000) := by
  obtain ⟨f, v⟩ := fv_lit (w := 13829429103926125972) (s := true) (m := 7881847526073748) (k := 53) (by decide)
  have e : ((2 ^ 53 : Nat) : Rat) = 9007199254740992 := rfl
  have e2 : ((7881847526073748 : Nat) : Rat) = 7881847526073748 := rfl
  have v2 : fv 13829429103926125972 = aP0 := by rw [v, e]; (try rw [e2]); unfold aP0; rw [sg_t]; grind
  rw [← v2]; exact Ap.exact f (by rw [v2]; unfold aP0; grind) (by rw [v2]; unfold aP0; grind)
theorem bd_aP0 : -875060861 / 1000000000 ≤ aP0 ∧ aP0 ≤ -43753043 / 50000000 := by unfold aP0; constructor <;> grind
def aP1 : Rat := -4547942403506298 / 281474976710656
theorem ap_aP1 : Ap 13848613196940411002 aP1 0 (20197 / 1250) := by
  obtain ⟨f, v⟩ := fv_lit (w := 13848613196940411002) (s := true) (m := 4547942403506298) (k := 48) (by decide)
  have e : ((2 ^ 48 : Nat) : Rat) = 281474976710656 := rfl
  have e2 : ((4547942403506298 : Nat) : Rat) = 4547942403506298 := rfl
  have v2 : fv 13848613196940411002 = aP1 := by rw [v, e]; (try rw [e2]); unfold aP1; rw [sg_t]; grind
  rw [← v2]; exact Ap.exact f (by rw [v2]; unfold aP1; grind) (by rw [v2]; unfold aP1; grind)
theorem bd_aP1 : -40393843 / 2500000 ≤ aP1 ∧ aP1 ≤ -161575371 / 10000000 := by unfold aP1; constructor <;> grind
def aP2 : Rat := -5278258023629427 / 70368744177664
theorem ap_aP2 : Ap 13858350711815275123 aP2 0 (375043 / 5000) := by
  obtain ⟨f, v⟩ := fv_lit (w := 13858350711815275123) (s := true) (m := 5278258023629427) (k := 46) (by decide)
  have e : ((2 ^ 46 : Nat) : Rat) = 70368744177664 := rfl
  have e2 : ((5278258023629427 : Nat) : Rat) = 5278258023629427 := rfl
  have v2 : fv 13858350711815275123 = aP2 := by rw [v, e]; (try rw [e2]); unfold aP2; rw [sg_t]; grind
  rw [← v2]; exact Ap.exact f (by rw [v2]; unfold aP2; grind) (by rw [v2]; unfold aP2; grind)
theorem bd_aP2 : -37504279 / 500000 ≤ aP2 ∧ aP2 ≤ -750085579 / 10000000 := by unfold aP2; constructor <;> grind
def aP3 : Rat := -8647380534934053 / 70368744177664
theorem ap_aP3 : Ap 13861719834326579749 aP3 0 (122887 / 1000) := by
  obtain ⟨f, v⟩ := fv_lit (w := 13861719834326579749) (s := true) (m := 8647380534934053) (k := 46) (by decide)
  have e : ((2 ^ 46 : Nat) : Rat) = 70368744177664 := rfl
  have e2 : ((8647380534934053 : Nat) : Rat) = 8647380534934053 := rfl
  have v2 : fv 13861719834326579749 = aP3 := by rw [v, e]; (try rw [e2]); unfold aP3; rw [sg_t]; grind
  rw [← v2]; exact Ap.exact f (by rw [v2]; unfold aP3; grind) (by rw [v2]; unfold aP3; grind)
theorem bd_aP3 : -122886669 / 1000000 ≤ aP3 ∧ aP3 ≤ -30721667 / 250000 := by unfold aP3; constructor <;> grind
def aP4 : Rat := -4563428474154126 / 70368744177664
theorem ap_aP4 : Ap 13857635882265799822 aP4 0 (648503 / 10000) := by
  obtain ⟨f, v⟩ := fv_lit (w := 13857635882265799822) (s := true) (m := 4563428474154126) (k := 46) (by decide)
  have e : ((2 ^ 46 : Nat) : Rat) = 70368744177664 := rfl
  have e2 : ((4563428474154126 : Nat) : Rat) = 4563428474154126 := rfl
  have v2 : fv 13857635882265799822 = aP4 := by rw [v, e]; (try rw [e2]); unfold aP4; rw [sg_t]; grind
  rw [← v2]; exact Ap.exact f (by rw [v2]; unfold aP4; grind) (by rw [v2]; unfold aP4; grind)
theorem bd_aP4 : -648502191 / 10000000 ≤ aP4 ∧ aP4 ≤ -64850219 / 1000000 := by unfold aP4; constructor <;> grind
def aQ0 : Rat := 6997035829190716 / 281474976710656
theorem ap_aQ0 : Ap 4627690253511319612 aQ0 0 (49717 / 2000) := by
  obtain ⟨f, v⟩ := fv_lit (w := 4627690253511319612) (s := false) (m := 6997035829190716) (k := 48) (by decide)
  have e : ((2 ^ 48 : Nat) : Rat) = 281474976710656 := rfl
  have e2 : ((6997035829190716 : Nat) : Rat) = 6997035829190716 := rfl
  have v2 : fv 4627690253511319612 = aQ0 := by rw [v, e]; (try rw [e2]); unfold aQ0; rw [sg_f]; grind
  rw [← v2]; exact Ap.exact f (by rw [v2]; unfold aQ0; grind) (by rw [v2]; unfold aQ0; grind)
theorem bd_aQ0 : 248584649 / 10000000 ≤ aQ0 ∧ aQ0 ≤ 4971693 / 200000 := by unfold aQ0; constructor <;> grind
def aQ1 : Rat := 5806371718625829 / 35184372088832
theorem ap_aQ1 : Ap 4640010388282866213 aQ1 0 (41257 / 250) := by
  obtain ⟨f, v⟩ := fv_lit (w := 4640010388282866213) (s := false) (m := 5806371718625829) (k := 45) (by decide)
  have e : ((2 ^ 45 : Nat) : Rat) = 35184372088832 := rfl
  have e2 : ((5806371718625829 : Nat) : Rat) = 5806371718625829 := rfl
  have v2 : fv 4640010388282866213 = aQ1 := by rw [v, e]; (try rw [e2]); unfold aQ1; rw [sg_f]; grind
  rw [← v2]; exact Ap.exact f (by rw [v2]; unfold aQ1; grind) (by rw [v2]; unfold aQ1; grind)
theorem bd_aQ1 : 165027009 / 1000000 ≤ aQ1 ∧ aQ1 ≤ 16502701 / 100000 := by unfold aQ1; constructor <;> grind
def aQ2 : Rat := 7615324151266875 / 17592186044416
theorem ap_aQ2 : Ap 4646322940342877755 aQ2 0 (216441 / 500) := by
  obtain ⟨f, v⟩ := fv_lit (w := 4646322940342877755) (s := false) (m := 7615324151266875) (k := 44) (by decide)
  have e : ((2 ^ 44 : Nat) : Rat) = 17592186044416 := rfl
  have e2 : ((7615324151266875 : Nat) : Rat) = 7615324151266875 := rfl
  have v2 : fv 4646322940342877755 = aQ2 := by rw [v, e]; (try rw [e2]); unfold aQ2; rw [sg_f]; grind
  rw [← v2]; exact Ap.exact f (by rw [v2]; unfold aQ2; grind) (by rw [v2]; unfold aQ2; grind)
theorem bd_aQ2 : 21644053 / 50000 ≤ aQ2 ∧ aQ2 ≤ 432881061 / 1000000 := by unfold aQ2; constructor <;> grind
def aQ3 : Rat := 8539078214568426 / 17592186044416
theorem ap_aQ3 : Ap 4647246694406179306 aQ3 0 (485391 / 1000) := by
  obtain ⟨f, v⟩ := fv_lit (w := 4647246694406179306) (s := false) (m := 8539078214568426) (k := 44) (by decide)
  have e : ((2 ^ 44 : Nat) : Rat) = 17592186044416 := rfl
  have e2 : ((8539078214568426 : Nat) : Rat) = 8539078214568426 := rfl
  have v2 : fv 4647246694406179306 = aQ3 := by rw [v, e]; (try rw [e2]); unfold aQ3; rw [sg_f]; grind
  rw [← v2]; exact Ap.exact f (by rw [v2]; unfold aQ3; grind) (by rw [v2]; unfold aQ3; grind)
theorem bd_aQ3 : 485390399 / 1000000 ≤ aQ3 ∧ aQ3 ≤ 303369 / 625 := by unfold aQ3; constructor <;> grind
def aQ4 : Rat := 6845142711231212 / 35184372088832
theorem ap_aQ4 : Ap 4641049159275471596 aQ4 0 (194551 / 1000) := by
  obtain ⟨f, v⟩ := fv_lit (w := 4641049159275471596) (s := false) (m := 6845142711231212) (k := 45) (by decide)
  have e : ((2 ^ 45 : Nat) : Rat) = 35184372088832 := rfl
  have e2 : ((6845142711231212 : Nat) : Rat) = 6845142711231212 := rfl
  have v2 : fv 4641049159275471596 = aQ4 := by rw [v, e]; (try rw [e2]); unfold aQ4; rw [sg_f]; grind
  rw [← v2]; exact Ap.exact f (by rw [v2]; unfold aQ4; grind) (by rw [v2]; unfold aQ4; grind)
theorem bd_aQ4 : 194550657 / 1000000 ≤ aQ4 ∧ aQ4 ≤ 97275329 / 500000 := by unfold aQ4; constructor <;> grind
def aH : Rat := 7074237752028440 / 4503599627370496
theorem ap_aH : Ap 4609753056924675352 aH 0 (3927 / 2500) := by
  obtain ⟨f, v⟩ := fv_lit (w := 4609753056924675352) (s := false) (m := 7074237752028440) (k := 52) (by decide)
  have e : ((2 ^ 52 : Nat) : Rat) = 4503599627370496 := rfl
  have e2 : ((7074237752028440 : Nat) : Rat) = 7074237752028440 := rfl
  have v2 : fv 4609753056924675352 = aH := by rw [v, e]; (try rw [e2]); unfold aH; rw [sg_f]; grind
  rw [← v2]; exact Ap.exact f (by rw [v2]; unfold aH; grind) (by rw [v2]; unfold aH; grind)
theorem bd_aH : 9817477 / 6250000 ≤ aH ∧ aH ≤ 157079633 / 100000000 := by unfold aH; constructor <;> grind
def aF : Rat := 7074237752028440 / 9007199254740992
theorem ap_aF : Ap 4605249457297304856 aF 0 (785399 / 1000000) := by
  obtain ⟨f, v⟩ := fv_lit (w := 4605249457297304856) (s := false) (m := 7074237752028440) (k := 53) (by decide)
  have e : ((2 ^ 53 : Nat) : Rat) = 9007199254740992 := rfl
  have e2 : ((7074237752028440 : Nat) : Rat) = 7074237752028440 := rfl
  have v2 : fv 4605249457297304856 = aF := by rw [v, e]; (try rw [e2]); unfold aF; rw [sg_f]; grind
  rw [← v2]; exact Ap.exact f (by rw [v2]; unfold aF; grind) (by rw [v2]; unfold aF; grind)
theorem bd_aF : 785398163 / 1000000000 ≤ aF ∧ aF ≤ 196349541 / 250000000 := by unfold aF; constructor <;> grind
def aM : Rat := 4967757600021511 / 81129638414606681695789005144064
theorem ap_aM : Ap 4364452196894661639 aM 0 (153081 / 2500000000000000000000) := by
  obtain ⟨f, v⟩ := fv_lit (w := 4364452196894661639) (s := false) (m := 4967757600021511) (k := 106) (by decide)
  have e : ((2 ^ 106 : Nat) : Rat) = 81129638414606681695789005144064 := rfl
  have e2 : ((4967757600021511 : Nat) : Rat) = 4967757600021511 := rfl
  have v2 : fv 4364452196894661639 = aM := by rw [v, e]; (try rw [e2]); unfold aM; rw [sg_f]; grind
  rw [← v2]; exact Ap.exact f (by rw [v2]; unfold aM; grind) (by rw [v2]; unfold aM; grind)
theorem bd_aM : 612323399 / 10000000000000000000000000 ≤ aM ∧ aM ≤ 3061617 / 50000000000000000000000 := by unfold aM; constructor <;> grind
def aN : Rat := 4967757600021511 / 162259276829213363391578010288128
theorem ap_aN : Ap 4359948597267291143 aN 0 (153081 / 5000000000000000000000) := by
  obtain ⟨f, v⟩ := fv_lit (w := 4359948597267291143) (s := false) (m := 4967757600021511) (k := 107) (by decide)
  have e : ((2 ^ 107 : Nat) : Rat) = 162259276829213363391578010288128 := rfl
  have e2 : ((4967757600021511 : Nat) : Rat) = 4967757600021511 := rfl
  have v2 : fv 4359948597267291143 = aN := by rw [v, e]; (try rw [e2]); unfold aN; rw [sg_f]; grind
  rw [← v2]; exact Ap.exact f (by rw [v2]; unfold aN; grind) (by rw [v2]; unfold aN; grind)
theorem bd_aN : 306161699 / 10000000000000000000000000 ≤ aN ∧ aN ≤ 3061617 / 100000000000000000000000 := by unfold aN; constructor <;> grind
def aT : Rat := 5436325649948134 / 2251799813685248
theorem ap_aT : Ap 4612618744449965542 aT 0 (120711 / 50000) := by
  obtain ⟨f, v⟩ := fv_lit (w := 4612618744449965542) (s := false) (m := 5436325649948134) (k := 51) (by decide)
  have e : ((2 ^ 51 : Nat) : Rat) = 2251799813685248 := rfl
  have e2 : ((5436325649948134 : Nat) : Rat) = 5436325649948134 := rfl
  have v2 : fv 4612618744449965542 = aT := by rw [v, e]; (try rw [e2]); unfold aT; rw [sg_f]; grind
  rw [← v2]; exact Ap.exact f (by rw [v2]; unfold aT; grind) (by rw [v2]; unfold aT; grind)
theorem bd_aT : 60355339 / 25000000 ≤ aT ∧ aT ≤ 241421357 / 100000000 := by unfold aT; constructor <;> grind
def aL : Rat := 5944751508129055 / 9007199254740992
theorem ap_aL : Ap 4604119971053405471 aL 0 (660001 / 1000000) := by
  obtain ⟨f, v⟩ := fv_lit (w := 4604119971053405471) (s := false) (m := 5944751508129055) (k := 53) (by decide)
  have e : ((2 ^ 53 : Nat) : Rat) = 9007199254740992 := rfl
  have e2 : ((5944751508129055 : Nat) : Rat) = 5944751508129055 := rfl
  have v2 : fv 4604119971053405471 = aL := by rw [v, e]; (try rw [e2]); unfold aL; rw [sg_f]; grind
  rw [← v2]; exact Ap.exact f (by rw [v2]; unfold aL; grind) (by rw [v2]; unfold aL; grind)
theorem bd_aL : 33 / 50 ≤ aL ∧ aL ≤ 660000001 / 1000000000 := by unfold aL; constructor <;> grind
def aPi : Rat := 7074237752028440 / 2251799813685248
theorem ap_aPi : Ap 4614256656552045848 aPi 0 (3927 / 1250) := by
  obtain ⟨f, v⟩ := fv_lit (w := 4614256656552045848) (s := false) (m := 7074237752028440) (k := 51) (by decide)
  have e : ((2 ^ 51 : Nat) : Rat) = 2251799813685248 := rfl
  have e2 : ((7074237752028440 : Nat) : Rat) = 7074237752028440 := rfl
  have v2 : fv 4614256656552045848 = aPi := by rw [v, e]; (try rw [e2]); unfold aPi; rw [sg_f]; grind
  rw [← v2]; exact Ap.exact f (by rw [v2]; unfold aPi; grind) (by rw [v2]; unfold aPi; grind)
theorem bd_aPi : 62831853 / 20000000 ≤ aPi ∧ aPi ≤ 157079633 / 50000000 := by unfold aPi; constructor <;> grind
def a2Pi : Rat := 7074237752028440 / 1125899906842624
theorem ap_a2Pi : Ap 4618760256179416344 a2Pi 0 (628319 / 100000) := by
  obtain ⟨f, v⟩ := fv_lit (w := 4618760256179416344) (s := false) (m := 7074237752028440) (k := 50) (by decide)
  have e : ((2 ^ 50 : Nat) : Rat) = 1125899906842624 := rfl
  have e2 : ((7074237752028440 : Nat) : Rat) = 7074237752028440 := rfl
  have v2 : fv 4618760256179416344 = a2Pi := by rw [v, e]; (try rw [e2]); unfold a2Pi; rw [sg_f]; grind
  rw [← v2]; exact Ap.exact f (by rw [v2]; unfold a2Pi; grind) (by rw [v2]; unfold a2Pi; grind)
theorem bd_a2Pi : 62831853 / 10000000 ≤ a2Pi ∧ a2Pi ≤ 628318531 / 100000000 := by unfold a2Pi; constructor <;> grind

/-- Numerator and denominator, at the square. -/
def PA (u : Rat) : Rat := (((aP0 * u + aP1) * u + aP2) * u + aP3) * u + aP4
def QA (u : Rat) : Rat := ((((u + aQ0) * u + aQ1) * u + aQ2) * u + aQ3) * u + aQ4
/-- The rational function. -/
def XA (Z : Rat) : Rat := Z * (Z * Z * PA (Z * Z) / QA (Z * Z)) + Z
def xatW (z : Nat) : Nat := let zz := fmul z z; fadd (fmul z (fdiv (fmul zz (fadd (fmul (fadd (fmul (fadd (fmul (fadd (fmul 13829429103926125972 zz) 13848613196940411002) zz) 13858350711815275123) zz) 13861719834326579749) zz) 13857635882265799822)) (fadd (fmul (fadd (fmul (fadd (fmul (fadd (fmul (fadd zz 4627690253511319612) zz) 4640010388282866213) zz) 4646322940342877755) zz) 4647246694406179306) zz) 4641049159275471596))) z
theorem zsq (Z : Rat) : 0 ≤ Z * Z := by
  rcases (Rat.le_total : (0 : Rat) ≤ Z ∨ Z ≤ 0) with p | p
  · exact Rat.mul_nonneg p p
  · have := Rat.mul_nonneg (show 0 ≤ -Z by grind) (show 0 ≤ -Z by grind)
    grind
theorem zsq_le {Z : Rat} (h1 : -(67 / 100) ≤ Z) (h2 : Z ≤ 67 / 100) : Z * Z ≤ 449 / 1000 := by
  have := prod_bd h1 h2 h1 h2
  grind
theorem step_lo {u a b c : Rat} (hu : 0 ≤ u) (ha : 0 ≤ a) (hb : c ≤ b) : c ≤ a * u + b := by
  have := Rat.mul_nonneg ha hu
  grind
theorem qa_lo {u q0 q1 q2 q3 q4 : Rat} (hu : 0 ≤ u) (h0 : 248584649 / 10000000 ≤ q0) (h1 : 165027009 / 1000000 ≤ q1) (h2 : 21644053 / 50000 ≤ q2) (h3 : 485390399 / 1000000 ≤ q3) (h4 : 194550657 / 1000000 ≤ q4) : 194 ≤ ((((u + q0) * u + q1) * u + q2) * u + q3) * u + q4 := by
  have a1 : 0 ≤ u + q0 := by grind
  have a2 : 0 ≤ (u + q0) * u + q1 := step_lo hu a1 (by grind)
  have a3 : 0 ≤ ((u + q0) * u + q1) * u + q2 := step_lo hu a2 (by grind)
  have a4 : 0 ≤ (((u + q0) * u + q1) * u + q2) * u + q3 := step_lo hu a3 (by grind)
  exact step_lo hu a4 (by grind)
theorem div_bd {a b B : Rat} (hb : 0 < b) (h1 : -(B * b) ≤ a) (h2 : a ≤ B * b) : -B ≤ a / b ∧ a / b ≤ B := by
  have e : a = a / b * b := by grind
  generalize a / b = q at *
  subst e
  constructor
  · apply Rat.not_lt.1
    intro h
    have := Rat.mul_lt_mul_of_pos_right (show q + B < 0 by grind) hb
    grind
  · apply Rat.not_lt.1
    intro h
    have := Rat.mul_lt_mul_of_pos_right (show 0 < q - B by grind) hb
    grind
theorem step_bd {u a b A B : Rat} (hu : 0 ≤ u) (hu2 : u ≤ 449 / 1000) (ha : -A ≤ a ∧ a ≤ A) (hb : -B ≤ b ∧ b ≤ B) : -(A * (449 / 1000) + B) ≤ a * u + b ∧ a * u + b ≤ A * (449 / 1000) + B := by
  have := prod_bd ha.1 ha.2 (show -(449 / 1000) ≤ u by grind) hu2
  grind

theorem pq_bd {u p0 p1 p2 p3 p4 q : Rat} (hu : 0 ≤ u) (hu2 : u ≤ 449 / 1000) (h0 : -875060861 / 1000000000 ≤ p0 ∧ p0 ≤ -43753043 / 50000000) (h1 : -40393843 / 2500000 ≤ p1 ∧ p1 ≤ -161575371 / 10000000) (h2 : -37504279 / 500000 ≤ p2 ∧ p2 ≤ -750085579 / 10000000) (h3 : -122886669 / 1000000 ≤ p3 ∧ p3 ≤ -30721667 / 250000) (h4 : -648502191 / 10000000 ≤ p4 ∧ p4 ≤ -64850219 / 1000000) (hq : 194 ≤ q) : -(8 / 25) ≤ u * ((((p0 * u + p1) * u + p2) * u + p3) * u + p4) / q ∧ u * ((((p0 * u + p1) * u + p2) * u + p3) * u + p4) / q ≤ 8 / 25 := by
  have s1 := step_bd (a := p0) (A := 875061 / 1000000) (B := 20197 / 1250) hu hu2 (by grind) (show -(20197 / 1250) ≤ p1 ∧ p1 ≤ 20197 / 1250 by grind)
  have s2 := step_bd (B := 375043 / 5000) hu hu2 s1 (show -(375043 / 5000) ≤ p2 ∧ p2 ≤ 375043 / 5000 by grind)
  have s3 := step_bd (B := 122887 / 1000) hu hu2 s2 (show -(122887 / 1000) ≤ p3 ∧ p3 ≤ 122887 / 1000 by grind)
  have s4 := step_bd (B := 648503 / 10000) hu hu2 s3 (show -(648503 / 10000) ≤ p4 ∧ p4 ≤ 648503 / 10000 by grind)
  have s5 := prod_bd (show -(449 / 1000) ≤ u by grind) hu2 s4.1 s4.2
  apply div_bd (by grind) <;> grind
theorem xat_ok {z : Nat} {Z : Rat} (hz : Ap z Z (1 / 1000000000000000) (67 / 100)) : ∃ r1 r2 r3 r4 r5 r6 r7 r8 r9 r10 r11 r12 r13 r14 r15 r16 r17 r18 r19 r20 r21 r22 : Nat, (floatBits .mul .f64 z z = some r1) ∧ (floatBits .mul .f64 13829429103926125972 r1 = some r2) ∧ (floatBits .add .f64 r2 13848613196940411002 = some r3) ∧ (floatBits .mul .f64 r3 r1 = some r4) ∧ (floatBits .add .f64 r4 13858350711815275123 = some r5) ∧ (floatBits .mul .f64 r5 r1 = some r6) ∧ (floatBits .add .f64 r6 13861719834326579749 = some r7) ∧ (floatBits .mul .f64 r7 r1 = some r8) ∧ (floatBits .add .f64 r8 13857635882265799822 = some r9) ∧ (floatBits .mul .f64 r1 r9 = some r10) ∧ (floatBits .add .f64 r1 4627690253511319612 = some r11) ∧ (floatBits .mul .f64 r11 r1 = some r12) ∧ (floatBits .add .f64 r12 4640010388282866213 = some r13) ∧ (floatBits .mul .f64 r13 r1 = some r14) ∧ (floatBits .add .f64 r14 4646322940342877755 = some r15) ∧ (floatBits .mul .f64 r15 r1 = some r16) ∧ (floatBits .add .f64 r16 4647246694406179306 = some r17) ∧ (floatBits .mul .f64 r17 r1 = some r18) ∧ (floatBits .add .f64 r18 4641049159275471596 = some r19) ∧ (floatBits .quo .f64 r10 r19 = some r20) ∧ (floatBits .mul .f64 z r20 = some r21) ∧ (floatBits .add .f64 r21 z = some r22) ∧ (Fin r20 ∧ -(33 / 100) ≤ fv r20 ∧ fv r20 ≤ 33 / 100) ∧ r22 = xatW z ∧ Ap r22 (XA Z) (91 / 12500000000000000) (177 / 200) := by
  obtain ⟨is1, s1⟩ := Ap.mul hz hz (139 / 100000000000000000) (449 / 1000) (449 / 1000) (mid_of (by grind) (by grind)) (by grind) (by grind) (by grind)
  obtain ⟨is2, s2⟩ := Ap.mul ap_aP0 s1 (63 / 50000000000000000) (393 / 1000) (393 / 1000) (mid_of (by grind) (by grind)) (by grind) (by grind) (by grind)
  obtain ⟨is3, s3⟩ := Ap.add s2 ap_aP1 (39 / 12500000000000000) (83 / 5) (167 / 10) (mid_of (by grind) (by grind)) (by grind) (by grind) (by grind)
  obtain ⟨is4, s4⟩ := Ap.mul s3 s1 (127 / 5000000000000000) (373 / 50) (373 / 50) (mid_of (by grind) (by grind)) (by grind) (by grind) (by grind)
  obtain ⟨is5, s5⟩ := Ap.add s4 ap_aP2 (173 / 5000000000000000) (165 / 2) (413 / 5) (mid_of (by grind) (by grind)) (by grind) (by grind) (by grind)
  obtain ⟨is6, s6⟩ := Ap.mul s5 s1 (27 / 200000000000000) (371 / 10) (371 / 10) (mid_of (by grind) (by grind)) (by grind) (by grind) (by grind)
  obtain ⟨is7, s7⟩ := Ap.add s6 ap_aP3 (153 / 1000000000000000) (160) (161) (mid_of (by grind) (by grind)) (by grind) (by grind) (by grind)
  obtain ⟨is8, s8⟩ := Ap.mul s7 s1 (3 / 10000000000000) (719 / 10) (719 / 10) (mid_of (by grind) (by grind)) (by grind) (by grind) (by grind)
  obtain ⟨is9, s9⟩ := Ap.add s8 ap_aP4 (79 / 250000000000000) (137) (138) (mid_of (by grind) (by grind)) (by grind) (by grind) (by grind)
  obtain ⟨is10, s10⟩ := Ap.mul s1 s9 (17 / 50000000000000) (308 / 5) (308 / 5) (mid_of (by grind) (by grind)) (by grind) (by grind) (by grind)
  obtain ⟨is11, s11⟩ := Ap.add s1 ap_aQ0 (423 / 100000000000000000) (127 / 5) (51 / 2) (mid_of (by grind) (by grind)) (by grind) (by grind) (by grind)
  obtain ⟨is12, s12⟩ := Ap.mul s11 s1 (77 / 2000000000000000) (23 / 2) (23 / 2) (mid_of (by grind) (by grind)) (by grind) (by grind) (by grind)
  obtain ⟨is13, s13⟩ := Ap.add s12 ap_aQ1 (583 / 10000000000000000) (177) (178) (mid_of (by grind) (by grind)) (by grind) (by grind) (by grind)
  obtain ⟨is14, s14⟩ := Ap.mul s13 s1 (141 / 500000000000000) (159 / 2) (159 / 2) (mid_of (by grind) (by grind)) (by grind) (by grind) (by grind)
  obtain ⟨is15, s15⟩ := Ap.add s14 ap_aQ2 (17 / 50000000000000) (513) (514) (mid_of (by grind) (by grind)) (by grind) (by grind) (by grind)
  obtain ⟨is16, s16⟩ := Ap.mul s15 s1 (223 / 250000000000000) (231) (231) (mid_of (by grind) (by grind)) (by grind) (by grind) (by grind)
  obtain ⟨is17, s17⟩ := Ap.add s16 ap_aQ3 (243 / 250000000000000) (717) (718) (mid_of (by grind) (by grind)) (by grind) (by grind) (by grind)
  obtain ⟨is18, s18⟩ := Ap.mul s17 s1 (147 / 100000000000000) (322) (322) (mid_of (by grind) (by grind)) (by grind) (by grind) (by grind)
  obtain ⟨is19, s19⟩ := Ap.add s18 ap_aQ4 (153 / 100000000000000) (517) (518) (mid_of (by grind) (by grind)) (by grind) (by grind) (by grind)
  have hq0 : 194 ≤ ((((((((((Z * Z) + aQ0) * (Z * Z)) + aQ1) * (Z * Z)) + aQ2) * (Z * Z)) + aQ3) * (Z * Z)) + aQ4) := by
    have hz2 : 0 ≤ Z * Z := zsq Z
    have b0 := bd_aQ0; have b1 := bd_aQ1; have b2 := bd_aQ2; have b3 := bd_aQ3; have b4 := bd_aQ4
    clear s1 is1 s2 is2 s3 is3 s4 is4 s5 is5 s6 is6 s7 is7 s8 is8 s9 is9 s10 is10 s11 is11 s12 is12 s13 is13 s14 is14 s15 is15 s16 is16 s17 is17 s18 is18 s19 is19
    generalize Z * Z = u at *
    exact qa_lo hz2 b0.1 b1.1 b2.1 b3.1 b4.1
  have hq1 : -(8 / 25) ≤ ((Z * Z) * ((((((((aP0 * (Z * Z)) + aP1) * (Z * Z)) + aP2) * (Z * Z)) + aP3) * (Z * Z)) + aP4)) / ((((((((((Z * Z) + aQ0) * (Z * Z)) + aQ1) * (Z * Z)) + aQ2) * (Z * Z)) + aQ3) * (Z * Z)) + aQ4) ∧ ((Z * Z) * ((((((((aP0 * (Z * Z)) + aP1) * (Z * Z)) + aP2) * (Z * Z)) + aP3) * (Z * Z)) + aP4)) / ((((((((((Z * Z) + aQ0) * (Z * Z)) + aQ1) * (Z * Z)) + aQ2) * (Z * Z)) + aQ3) * (Z * Z)) + aQ4) ≤ 8 / 25 := by
    have hz2 : 0 ≤ Z * Z := zsq Z
    have hz3 : Z * Z ≤ 449 / 1000 := zsq_le hz.bl hz.bh
    have b0 := bd_aP0; have b1 := bd_aP1; have b2 := bd_aP2; have b3 := bd_aP3; have b4 := bd_aP4; have c0 := bd_aQ0; have c1 := bd_aQ1; have c2 := bd_aQ2; have c3 := bd_aQ3; have c4 := bd_aQ4
    clear s1 is1 s2 is2 s3 is3 s4 is4 s5 is5 s6 is6 s7 is7 s8 is8 s9 is9 s10 is10 s11 is11 s12 is12 s13 is13 s14 is14 s15 is15 s16 is16 s17 is17 s18 is18 s19 is19 hz
    generalize Z * Z = u at *
    exact pq_bd hz2 hz3 b0 b1 b2 b3 b4 hq0
  obtain ⟨isq, sq⟩ := Ap.div s10 s19 (194) (87 / 10000000000000000) (8 / 25) (321 / 1000) (mid_of (by grind) (by grind)) (by grind) hq0 (by grind) hq1 (by grind) (by grind)
  obtain ⟨is20, s20⟩ := Ap.mul hz sq (309 / 50000000000000000) (43 / 200) (43 / 200) (mid_of (by grind) (by grind)) (by grind) (by grind) (by grind)
  obtain ⟨is21, s21⟩ := Ap.add s20 hz (91 / 12500000000000000) (177 / 200) (443 / 500) (mid_of (by grind) (by grind)) (by grind) (by grind) (by grind)
  have rb : Fin (fdiv (fmul (fmul z z) (fadd (fmul (fadd (fmul (fadd (fmul (fadd (fmul 13829429103926125972 (fmul z z)) 13848613196940411002) (fmul z z)) 13858350711815275123) (fmul z z)) 13861719834326579749) (fmul z z)) 13857635882265799822)) (fadd (fmul (fadd (fmul (fadd (fmul (fadd (fmul (fadd (fmul z z) 4627690253511319612) (fmul z z)) 4640010388282866213) (fmul z z)) 4646322940342877755) (fmul z z)) 4647246694406179306) (fmul z z)) 4641049159275471596)) ∧ -(33 / 100) ≤ fv (fdiv (fmul (fmul z z) (fadd (fmul (fadd (fmul (fadd (fmul (fadd (fmul 13829429103926125972 (fmul z z)) 13848613196940411002) (fmul z z)) 13858350711815275123) (fmul z z)) 13861719834326579749) (fmul z z)) 13857635882265799822)) (fadd (fmul (fadd (fmul (fadd (fmul (fadd (fmul (fadd (fmul z z) 4627690253511319612) (fmul z z)) 4640010388282866213) (fmul z z)) 4646322940342877755) (fmul z z)) 4647246694406179306) (fmul z z)) 4641049159275471596)) ∧ fv (fdiv (fmul (fmul z z) (fadd (fmul (fadd (fmul (fadd (fmul (fadd (fmul 13829429103926125972 (fmul z z)) 13848613196940411002) (fmul z z)) 13858350711815275123) (fmul z z)) 13861719834326579749) (fmul z z)) 13857635882265799822)) (fadd (fmul (fadd (fmul (fadd (fmul (fadd (fmul (fadd (fmul z z) 4627690253511319612) (fmul z z)) 4640010388282866213) (fmul z z)) 4646322940342877755) (fmul z z)) 4647246694406179306) (fmul z z)) 4641049159275471596)) ≤ 33 / 100 := ⟨sq.fin, by have := sq.lo; have := sq.bl; grind, by have := sq.hi; have := sq.bh; grind⟩
  exact ⟨_, _, _, _, _, _, _, _, _, _, _, _, _, _, _, _, _, _, _, _, _, _, is1, is2, is3, is4, is5, is6, is7, is8, is9, is10, is11, is12, is13, is14, is15, is16, is17, is18, is19, isq, is20, is21, rb, rfl, s21⟩
end Go.Proofs.YtdeoahgcppbmkaaDoor
