/- TopEclipse, plain: where the offsets of the shadow are small, path.Center finds the point. -/
import Derived.Test.YtcopmgnfakjdhaaGreatDoorYPaD
import Derived.Test.YtcopmgnfakjdhaaGreatDoorYArcB
namespace Go.Proofs.YtcopmgnfakjdhaaGreatDoor
set_option linter.unusedSimpArgs false
set_option linter.unusedVariables false
set_option maxHeartbeats 1000000 in
theorem te_fl {u v : Int} {X Y e f N g : Rat} (hu : Near (u : Rat) X e) (hv : Near (v : Rat) Y f) (hX : -1200000000 ≤ X ∧ X ≤ 1200000000) (hY : -(1000000000 * N) ≤ Y ∧ Y ≤ 1000000000 * N) (he : 0 ≤ e) (hf : 0 ≤ f) (hg : e * N + 12 / 10 * f + e * f / 1000000000 + 1 ≤ g) :
    Near ((u * v / 1000000000 : Int) : Rat) (X * Y / 1000000000) g ∧ Near (upQ (u * v) 1000000000 : Rat) (X * Y / 1000000000) g := by
  have m1 := rmul_bd (a := (u : Rat) - X) (b := Y) (A := e) (B := 1000000000 * N) (by unfold Near at hu; grind) hY
  have m2 := rmul_bd (a := X) (b := (v : Rat) - Y) (A := 1200000000) (B := f) hX (by unfold Near at hv; grind)
  have m3 := rmul_bd (a := (u : Rat) - X) (b := (v : Rat) - Y) (A := e) (B := f) (by unfold Near at hu; grind) (by unfold Near at hv; grind)
  have ex : (u : Rat) * (v : Rat) = X * Y + ((u : Rat) - X) * Y + X * ((v : Rat) - Y) + ((u : Rat) - X) * ((v : Rat) - Y) := by grind
  have d1 : u * v - 1000000000 < u * v / 1000000000 * 1000000000 ∧ u * v / 1000000000 * 1000000000 ≤ u * v := by omega
  have d2 : u * v ≤ upQ (u * v) 1000000000 * 1000000000 ∧ upQ (u * v) 1000000000 * 1000000000 < u * v + 1000000000 := by unfold upQ; omega
  obtain ⟨d11, d12⟩ := d1
  obtain ⟨d21, d22⟩ := d2
  replace d11 := Rat.intCast_lt_intCast.2 d11
  replace d12 := Rat.intCast_le_intCast.2 d12
  replace d21 := Rat.intCast_le_intCast.2 d21
  replace d22 := Rat.intCast_lt_intCast.2 d22
  rw [Rat.intCast_sub, Rat.intCast_mul, Rat.intCast_mul, show ((1000000000 : Int) : Rat) = 1000000000 from rfl] at d11
  rw [Rat.intCast_mul, Rat.intCast_mul, show ((1000000000 : Int) : Rat) = 1000000000 from rfl] at d12 d21
  rw [Rat.intCast_mul, Rat.intCast_add, Rat.intCast_mul, show ((1000000000 : Int) : Rat) = 1000000000 from rfl] at d22
  rw [ex] at d11 d12 d21 d22
  rw [show e * (1000000000 * N) = 1000000000 * (e * N) by grind] at m1
  clear ex hu hv hX hY
  unfold Near
  generalize e * N = eN at *
  generalize ((u * v / 1000000000 : Int) : Rat) = p at *
  generalize (upQ (u * v) 1000000000 : Rat) = q at *
  generalize ((u : Rat) - X) * Y = x1 at *
  generalize X * ((v : Rat) - Y) = x2 at *
  generalize ((u : Rat) - X) * ((v : Rat) - Y) = x3 at *
  generalize X * Y = x4 at *
  generalize e * f = x5 at *
  constructor <;> constructor <;> grind
theorem te_tm {a b c d : Int} {X Y e f N g : Rat} (ha : Near (a : Rat) X e) (hb : Near (b : Rat) X e) (hc : Near (c : Rat) Y f) (hd : Near (d : Rat) Y f) (hX : -1200000000 ≤ X ∧ X ≤ 1200000000) (hY : -(1000000000 * N) ≤ Y ∧ Y ≤ 1000000000 * N) (he : 0 ≤ e) (hf : 0 ≤ f) (hg : e * N + 12 / 10 * f + e * f / 1000000000 + 1 ≤ g) :
    Near (tmLo a b c d : Rat) (X * Y / 1000000000) g ∧ Near (tmHi a b c d : Rat) (X * Y / 1000000000) g := by
  obtain ⟨p1, q1⟩ := te_fl ha hc hX hY he hf hg
  obtain ⟨p2, q2⟩ := te_fl ha hd hX hY he hf hg
  obtain ⟨p3, q3⟩ := te_fl hb hc hX hY he hf hg
  obtain ⟨p4, q4⟩ := te_fl hb hd hX hY he hf hg
  unfold tmLo tmHi pLo pHi
  constructor
  · generalize a * c / 1000000000 = y1 at *
    generalize a * d / 1000000000 = y2 at *
    generalize b * c / 1000000000 = y3 at *
    generalize b * d / 1000000000 = y4 at *
    rcases (by omega : min (min (min (min y1 y1) y2) y3) y4 = y1 ∨ min (min (min (min y1 y1) y2) y3) y4 = y2 ∨ min (min (min (min y1 y1) y2) y3) y4 = y3 ∨ min (min (min (min y1 y1) y2) y3) y4 = y4) with h | h | h | h <;> (rw [h]; assumption)
  · generalize upQ (a * c) 1000000000 = y1 at *
    generalize upQ (a * d) 1000000000 = y2 at *
    generalize upQ (b * c) 1000000000 = y3 at *
    generalize upQ (b * d) 1000000000 = y4 at *
    rcases (by omega : max (max (max (max y1 y1) y2) y3) y4 = y1 ∨ max (max (max (max y1 y1) y2) y3) y4 = y2 ∨ max (max (max (max y1 y1) y2) y3) y4 = y3 ∨ max (max (max (max y1 y1) y2) y3) y4 = y4) with h | h | h | h <;> (rw [h]; assumption)
theorem te_sq {a b M : Int} (h : a ≤ b) (h1 : -M ≤ a) (h2 : b ≤ M) : sqrHi a b * 1000000000 ≤ sqrLo a b * 1000000000 + 2 * (M * (b - a)) + 2000000000 ∧ sqrHi a b * 1000000000 ≤ M * M + 1000000000 := by
  obtain ⟨p, hp⟩ : ∃ p, p = b - a := ⟨_, rfl⟩
  have hb : b = a + p := by omega
  rw [← hp]
  have p0 : 0 ≤ p := by omega
  have a1 := Int.mul_le_mul_of_nonneg_right h1 p0
  have a2 := Int.mul_le_mul_of_nonneg_right (show a ≤ M by omega) p0
  have b1 := Int.mul_le_mul_of_nonneg_right (show -M ≤ b by omega) p0
  have b2 := Int.mul_le_mul_of_nonneg_right h2 p0
  rw [Int.neg_mul] at a1 b1
  have eab : a * b = a * a + a * p := by rw [hb, Int.mul_add]
  have eba : b * a = a * a + a * p := by rw [Int.mul_comm]; exact eab
  have ebb : b * b = a * a + a * p + b * p := by
    have : b * b = b * (a + p) := by rw [← hb]
    rw [this, Int.mul_add, eba]
  have pp := sq_nonneg_i a; have qq' := sq_nonneg_i b
  have ab2 : 2 * (a * b) ≤ a * a + b * b := by
    have u := sq_nonneg_i (a - b)
    rw [Int.sub_mul, Int.mul_sub, Int.mul_sub, Int.mul_comm b a] at u
    omega
  have aM : a * a ≤ M * M := by
    have u := Int.mul_nonneg (show 0 ≤ M - a by omega) (show 0 ≤ M + a by omega)
    rw [Int.sub_mul, Int.mul_add, Int.mul_add, Int.mul_comm M a] at u
    omega
  have bM : b * b ≤ M * M := by
    have u := Int.mul_nonneg (show 0 ≤ M - b by omega) (show 0 ≤ M + b by omega)
    rw [Int.sub_mul, Int.mul_add, Int.mul_add, Int.mul_comm M b] at u
    omega
  have cz : a ≤ 0 ∧ 0 ≤ b → a * a ≤ M * p ∧ b * b ≤ M * p := by
    intro ⟨z1, z2⟩
    constructor
    · have u := Int.mul_le_mul (show -a ≤ M by omega) (show -a ≤ p by omega) (by omega) (by omega)
      rw [Int.neg_mul_neg] at u
      exact u
    · exact Int.mul_le_mul (show b ≤ M by omega) (show b ≤ p by omega) (by omega) (by omega)
  have u1 : ∀ x : Int, upQ x 1000000000 * 1000000000 ≤ x + 1000000000 := fun x => by unfold upQ; omega
  have w1 : ∀ x : Int, x - 1000000000 ≤ x / 1000000000 * 1000000000 := fun x => by omega
  have uA := u1 (a * a); have uB := u1 (a * b); have uC := u1 (b * a); have uD := u1 (b * b)
  have wA := w1 (a * a); have wB := w1 (a * b); have wC := w1 (b * a); have wD := w1 (b * b)
  unfold sqrLo
  unfold sqrHi tmHi tmLo pHi pLo
  generalize upQ (a * a) 1000000000 = x1 at *
  generalize upQ (a * b) 1000000000 = x2 at *
  generalize upQ (b * a) 1000000000 = x3 at *
  generalize upQ (b * b) 1000000000 = x4 at *
  generalize a * a / 1000000000 = y1 at *
  generalize a * b / 1000000000 = y2 at *
  generalize b * a / 1000000000 = y3 at *
  generalize b * b / 1000000000 = y4 at *
  clear u1 w1
  split
  · rename_i z
    obtain ⟨c1, c2⟩ := cz z
    generalize a * a = k1 at *
    generalize a * b = k2 at *
    generalize b * a = k3 at *
    generalize b * b = k4 at *
    generalize a * p = k5 at *
    generalize b * p = k6 at *
    generalize M * p = k7 at *
    generalize M * M = k8 at *
    omega
  · clear cz
    generalize a * a = k1 at *
    generalize a * b = k2 at *
    generalize b * a = k3 at *
    generalize b * b = k4 at *
    generalize a * p = k5 at *
    generalize b * p = k6 at *
    generalize M * p = k7 at *
    generalize M * M = k8 at *
    omega
theorem kW_4 : 0 ≤ kW 4004 ∧ kW 4004 ≤ 25170 := by
  have q := qq_b9
  unfold kW ra
  rw [show ((4004 : Int) : Rat) = 4004 from rfl]
  generalize qq = p at *
  constructor <;> grind
end Go.Proofs.YtcopmgnfakjdhaaGreatDoor
