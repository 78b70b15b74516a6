/- math.xatan, satan, atan at this program. -/
import Derived.Test.YtcopmgnfakjdhaaDoorFloat
import Derived.Test.YtcopmgnfakjdhaaDoorSinW
namespace Go.Proofs.YtcopmgnfakjdhaaDoor
open Go.RowKit
set_option linter.unusedSimpArgs false
set_option linter.unusedVariables false

theorem fop_eq {op : BinOp} {x y r s : Nat} (h : floatBits op .f64 x y = some r) (h2 : floatBits op .f64 x y = some s) : r = s := Option.some.inj (h.symm.trans h2)
theorem ap_one : Ap 4607182418800017408 1 0 1 := by
  have h := ap_kO
  have e : kO = 1 := by unfold kO; grind
  rw [e] at h
  exact h
/-- A small number's own arc is not less than half of it. -/
theorem xat_pos {x : Nat} {X : Rat} (hx : Ap x X (1 / 1000000000000000) (67 / 100)) (h0 : 1 / 100000000000000000 ≤ fv x) : fv x / 2 ≤ fv (xatW x) := by
  obtain ⟨r1, r2, r3, r4, r5, r6, r7, r8, r9, r10, r11, r12, r13, r14, r15, r16, r17, r18, r19, r20, r21, r22, h1, h2, h3, h4, h5, h6, h7, h8, h9, h10, h11, h12, h13, h14, h15, h16, h17, h18, h19, h20, h21, h22, rb, kr, -⟩ := xat_ok hx
  have fx := hx.fin
  have x1 : fv x ≤ 68 / 100 := by have := hx.hi; have := hx.bh; grind
  clear hx h1 h2 h3 h4 h5 h6 h7 h8 h9 h10 h11 h12 h13 h14 h15 h16 h17 h18 h19
  rw [← kr]
  clear kr
  obtain ⟨fr, rb1, rb2⟩ := rb
  have m := prod_bd (s := fv x) (t := fv r20) (S := fv x) (T := 33 / 100) (by grind) (by grind) rb1 rb2
  have o := fmul_ok fx fr (fv x * (33 / 100)) (mid_of (by grind) (by grind)) m.1 m.2
  have e21 : r21 = Go.Proofs.YtcopmgnfakjdhaaDoor.fmul x r20 := fop_eq h21 o.is
  have n21 := o.near; have f21 := o.fin
  rw [← e21] at n21 f21
  unfold Near at n21
  have o2 := fadd_ok f21 fx (fv x * 2) (mid_of (by grind) (by grind)) (by grind) (by grind)
  have e22 : r22 = Go.Proofs.YtcopmgnfakjdhaaDoor.fadd r21 x := fop_eq h22 o2.is
  have n22 := o2.near
  rw [← e22] at n22
  unfold Near at n22
  grind
/-- The arc of a positive number, by words. -/
def satW (x : Nat) : Nat :=
  if fv x ≤ aL then xatW x
  else if aT < fv x then fadd (fsub 4609753056924675352 (xatW (fdiv 4607182418800017408 x))) 4364452196894661639
  else fadd (fadd 4605249457297304856 (xatW (fdiv (fsub x 4607182418800017408) (fadd x 4607182418800017408)))) 4359948597267291143
def satV (X : Rat) : Rat := if X ≤ aL then XA X else if aT < X then aH - XA (1 / X) + aM else aF + XA ((X - 1) / (X + 1)) + aN
theorem ap_word {w : Nat} {v B : Rat} (h : Ap w v 0 B) : fv w = v := by have := h.lo; have := h.hi; grind
theorem fin_of {w : Nat} {v e B : Rat} (h : Ap w v e B) : Fin w := h.fin
theorem mid_le : aL ≤ 67 / 100 ∧ 65 / 100 ≤ aL ∧ 24 / 10 ≤ aT ∧ aT ≤ 242 / 100 := by have := bd_aL; have := bd_aT; grind
/-- The steps of the second case. -/
theorem sat_high {x : Nat} (hf : Fin x) (h1 : aT < fv x) (h2 : fv x ≤ 1000000000000000000) : floatBits .quo .f64 4607182418800017408 x = some (fdiv 4607182418800017408 x) ∧ Ap (fdiv 4607182418800017408 x) (1 / fv x) (1 / 1000000000000000) (67 / 100) := by
  have b := mid_le
  have hx : Ap x (fv x) 0 1000000000000000000 := Ap.exact hf (by grind) h2
  have q := div_bd (a := 1) (b := fv x) (B := 42 / 100) (by grind) (by grind) (by grind)
  obtain ⟨i, a⟩ := Ap.div ap_one hx 2 (1 / 1000000000000000) (42 / 100) (42 / 100) (mid_of (by grind) (by grind)) (by grind) (by grind) (by grind) q (by grind) (by grind)
  exact ⟨i, a.weak Rat.le_refl (by grind)⟩
theorem sat_mid {x : Nat} (hf : Fin x) (h1 : aL < fv x) (h2 : fv x ≤ aT) : floatBits .sub .f64 x 4607182418800017408 = some (fsub x 4607182418800017408) ∧ floatBits .add .f64 x 4607182418800017408 = some (fadd x 4607182418800017408) ∧
    floatBits .quo .f64 (fsub x 4607182418800017408) (fadd x 4607182418800017408) = some (fdiv (fsub x 4607182418800017408) (fadd x 4607182418800017408)) ∧ Ap (fdiv (fsub x 4607182418800017408) (fadd x 4607182418800017408)) ((fv x - 1) / (fv x + 1)) (1 / 1000000000000000) (67 / 100) := by
  have b := mid_le
  have hx : Ap x (fv x) 0 (242 / 100) := Ap.exact hf (by grind) (by grind)
  obtain ⟨i1, a1⟩ := Ap.sub' hx ap_one (2 / 10000000000000000) (142 / 100) (142 / 100) (mid_of (by grind) (by grind)) (by grind) (by grind) (by grind)
  obtain ⟨i2, a2⟩ := Ap.add' hx ap_one (4 / 10000000000000000) (342 / 100) (342 / 100) (mid_of (by grind) (by grind)) (by grind) (by grind) (by grind)
  have q := div_bd (a := fv x - 1) (b := fv x + 1) (B := 42 / 100) (by grind) (by grind) (by grind)
  obtain ⟨i, a⟩ := Ap.div a1 a2 (165 / 100) (1 / 1000000000000000) (42 / 100) (43 / 100) (mid_of (by grind) (by grind)) (by grind) (by grind) (by grind) q (by grind) (by grind)
  exact ⟨i1, i2, i, a.weak Rat.le_refl (by grind)⟩
theorem sat_high2 {x : Nat} (hf : Fin x) (h1 : aT < fv x) (h2 : fv x ≤ 1000000000000000000) : floatBits .sub .f64 4609753056924675352 (xatW (fdiv 4607182418800017408 x)) = some (fsub 4609753056924675352 (xatW (fdiv 4607182418800017408 x))) ∧
    floatBits .add .f64 (fsub 4609753056924675352 (xatW (fdiv 4607182418800017408 x))) 4364452196894661639 = some (fadd (fsub 4609753056924675352 (xatW (fdiv 4607182418800017408 x))) 4364452196894661639) ∧
    Ap (fadd (fsub 4609753056924675352 (xatW (fdiv 4607182418800017408 x))) 4364452196894661639) (aH - XA (1 / fv x) + aM) (1 / 100000000000000) 3 := by
  obtain ⟨-, a⟩ := sat_high hf h1 h2
  obtain ⟨_, _, _, _, _, _, _, _, _, _, _, _, _, _, _, _, _, _, _, _, _, r22, -, -, -, -, -, -, -, -, -, -, -, -, -, -, -, -, -, -, -, -, -, -, -, kr, ax⟩ := xat_ok a
  rw [kr] at ax
  obtain ⟨i1, a1⟩ := Ap.sub ap_aH ax (8 / 1000000000000000) (248 / 100) (249 / 100) (mid_of (by grind) (by grind)) (by grind) (by grind) (by grind)
  obtain ⟨i2, a2⟩ := Ap.add a1 ap_aM (1 / 100000000000000) (249 / 100) (250 / 100) (mid_of (by grind) (by grind)) (by grind) (by grind) (by grind)
  exact ⟨i1, i2, a2.weak Rat.le_refl (by grind)⟩
theorem sat_mid2 {x : Nat} (hf : Fin x) (h1 : aL < fv x) (h2 : fv x ≤ aT) : floatBits .add .f64 4605249457297304856 (xatW (fdiv (fsub x 4607182418800017408) (fadd x 4607182418800017408))) = some (fadd 4605249457297304856 (xatW (fdiv (fsub x 4607182418800017408) (fadd x 4607182418800017408)))) ∧
    floatBits .add .f64 (fadd 4605249457297304856 (xatW (fdiv (fsub x 4607182418800017408) (fadd x 4607182418800017408)))) 4359948597267291143 = some (fadd (fadd 4605249457297304856 (xatW (fdiv (fsub x 4607182418800017408) (fadd x 4607182418800017408)))) 4359948597267291143) ∧
    Ap (fadd (fadd 4605249457297304856 (xatW (fdiv (fsub x 4607182418800017408) (fadd x 4607182418800017408)))) 4359948597267291143) (aF + XA ((fv x - 1) / (fv x + 1)) + aN) (1 / 100000000000000) 3 := by
  obtain ⟨-, -, -, a⟩ := sat_mid hf h1 h2
  obtain ⟨_, _, _, _, _, _, _, _, _, _, _, _, _, _, _, _, _, _, _, _, _, r22, -, -, -, -, -, -, -, -, -, -, -, -, -, -, -, -, -, -, -, -, -, -, -, kr, ax⟩ := xat_ok a
  rw [kr] at ax
  obtain ⟨i1, a1⟩ := Ap.add ap_aF ax (8 / 1000000000000000) (168 / 100) (169 / 100) (mid_of (by grind) (by grind)) (by grind) (by grind) (by grind)
  obtain ⟨i2, a2⟩ := Ap.add a1 ap_aN (1 / 100000000000000) (169 / 100) (170 / 100) (mid_of (by grind) (by grind)) (by grind) (by grind) (by grind)
  exact ⟨i1, i2, a2.weak Rat.le_refl (by grind)⟩
theorem sat_ap {x : Nat} (hf : Fin x) (h0 : 0 < fv x) (h2 : fv x ≤ 1000000000000000000) : Ap (satW x) (satV (fv x)) (1 / 100000000000000) 3 := by
  unfold satW satV
  have b := mid_le
  by_cases c1 : fv x ≤ aL
  · rw [if_pos c1, if_pos c1]
    have hx : Ap x (fv x) (1 / 1000000000000000) (67 / 100) := (Ap.exact hf (by grind) (by grind)).weak (by grind) Rat.le_refl
    obtain ⟨_, _, _, _, _, _, _, _, _, _, _, _, _, _, _, _, _, _, _, _, _, r22, -, -, -, -, -, -, -, -, -, -, -, -, -, -, -, -, -, -, -, -, -, -, -, kr, ax⟩ := xat_ok hx
    rw [kr] at ax
    exact ax.weak (by grind) (by grind)
  · rw [if_neg c1, if_neg c1]
    by_cases c2 : aT < fv x
    · rw [if_pos c2, if_pos c2]; exact (sat_high2 hf c2 h2).2.2
    · rw [if_neg c2, if_neg c2]; exact (sat_mid2 hf (by grind) (by grind)).2.2
theorem fv_aL : fv 4604119971053405471 = aL := ap_word ap_aL
theorem fv_aT : fv 4612618744449965542 = aT := ap_word ap_aT
theorem leq_ord {x y : Nat} (hx : Fin x) (hy : Fin y) : (FloatKind.f64.format.order x y = some .lt ∧ fv x < fv y) ∨ (FloatKind.f64.format.order x y = some .eq ∧ fv x = fv y) ∨ (FloatKind.f64.format.order x y = some .gt ∧ fv y < fv x) := by
  by_cases c : fv x < fv y
  · exact .inl ⟨ford_lt hx hy c, c⟩
  · by_cases d : fv x = fv y
    · exact .inr (.inl ⟨ford_eq hx hy d, d⟩)
    · have e : fv y < fv x := by grind
      exact .inr (.inr ⟨ford_gt hx hy e, e⟩)
/-- The arc of a number. -/
def atW (x : Nat) : Nat := if fv x = 0 then x else if 0 < fv x then satW x else fneg (satW (fneg x))
end Go.Proofs.YtcopmgnfakjdhaaDoor
