/- TopEclipse, plain: where the offsets of the shadow are small, path.Center finds the point. -/
import Derived.Test.YtcopmgnfakjdhaaGreatDoorZPaD
import Derived.Test.YtcopmgnfakjdhaaGreatDoorZArcB
namespace Go.Proofs.YtcopmgnfakjdhaaGreatDoor
set_option linter.unusedSimpArgs false
set_option linter.unusedVariables false
set_option maxHeartbeats 1000000 in
theorem te_fl {u v : Int} {X Y e f N g : Rat} (hu : Near (u : Rat) X e) (hv : Near (v : Rat) Y f) (hX : -1200000000 ≤ X ∧ X ≤ 1200000000) (hY : -(1000000000 * N) ≤ Y ∧ Y ≤ 1000000000 * N) (he : 0 ≤ e) (hf : 0 ≤ f) (hg : e * N + 12 / 10 * f + e * f / 1000000000 + 1 ≤ g) :
    Near ((u * v / 1000000000 : Int) : Rat) (X * Y / 1000000000) g ∧ Near (upQ (u * v) 1000000000 : Rat) (X * Y / 1000000000) g := by
  have m1 := rmul_bd (a := (u : Rat) - X) (b := Y) (A := e) (B := 1000000000 * N) (by unfold Near at hu; grind) hY
  have m2 := rmul_bd (a := X) (b := (v : Rat) - Y) (A := 1200000000) (B := f) hX (by unfold Near at hv; grind)
  have m3 := rmul_bd (a := (u : Rat) - X) (b := (v : Rat) - Y) (A := e) (B := f) (by unfold Near at hu; grind) (by unfold Near at hv; grind)
  have ex : (u : Rat) * (v : Rat) = X * Y + ((u : Rat) - X) * Y + X * ((v : Rat) - Y) + ((u : Rat) - X) * ((v : Rat) - Y) := by grind
  have d1 : u * v - 1000000000 < u * v / 1000000000 * 1000000000 ∧ u * v / 1000000000 * 1000000000 ≤ u * v := by omega
  have d2 : u * v ≤ upQ (u * v) 1000000000 * 1000000000 ∧ upQ (u * v) 1000000000 * 1000000000 < u * v + 1000000000 := by unfold upQ; omega
  obtain ⟨d11, d12⟩ := d1
  obtain ⟨d21, d22⟩ := d2
  replace d11 := Rat.intCast_lt_intCast.2 d11
  replace d12 := Rat.intCast_le_intCast.2 d12
  replace d21 := Rat.intCast_le_intCast.2 d21
  replace d22 := Rat.intCast_lt_intCast.2 d22
  rw [Rat.intCast_sub, Rat.intCast_mul, Rat.intCast_mul, show ((1000000000 : Int) : Rat) = 1000000000 from rfl] at d11
  rw [Rat.intCast_mul, Rat.intCast_mul, show ((1000000000 : Int) : Rat) = 1000000000 from rfl] at d12 d21
  rw [Rat.intCast_mul, Rat.intCast_add, Rat.intCast_mul, show ((1000000000 : Int) : Rat) = 1000000000 from rfl] at d22
  rw [ex] at d11 d12 d21 d22
  rw [show e * (1000000000 * N) = 1000000000 * (e * N) by grind] at m1
  clear ex hu hv hX hY
  unfold Near
  generalize e * N = eN at *
  generalize ((u * v / 1000000000 : Int) : Rat) = p at *
  generalize (upQ (u * v) 1000000000 : Rat) = q at *
  generalize ((u : Rat) - X) * Y = x1 at *
  generalize X * ((v : Rat) - Y) = x2 at *
  generalize ((u : Rat) - X) * ((v : Rat) - Y) = x3 at *
  generalize X * Y = x4 at *
  generalize e * f = x5 at *
  constructor <;> constructor <;> grind
theorem te_tm {a b c d : Int} {X Y e f N g : Rat} (ha : Near (a : Rat) X e) (hb : Near (b : Rat) X e) (hc : Near (c : Rat) Y f) (hd : Near (d : Rat) Y f) (hX : -1200000000 ≤ X ∧ X ≤ 1200000000) (hY : -(1000000000 * N) ≤ Y ∧ Y ≤ 1000000000 * N) (he : 0 ≤ e) (hf : 0 ≤ f) (hg : e * N + 12 / 10 * f + e * f / 1000000000 + 1 ≤ g) :
    Near (tmLo a b c d : Rat) (X * Y / 1000000000) g ∧ Near (tmHi a b c d : Rat) (X * Y / 1000000000) g := by
  obtain ⟨p1, q1⟩ := te_fl ha hc hX hY he hf hg
  obtain ⟨p2, q2⟩ := te_fl ha hd hX hY he hf hg
  obtain ⟨p3, q3⟩ := te_fl hb hc hX hY he hf hg
  obtain ⟨p4, q4⟩ := te_fl hb hd hX hY he hf hg
  unfold tmLo tmHi pLo pHi
  constructor
  · generalize a * c / 1000000000 = y1 at *
    generalize a * d / 1000000000 = y2 at *
    generalize b * c / 1000000000 = y3 at *
    generalize b * d / 1000000000 = y4 at *
    rcases (by omega : min (min (min (min y1 y1) y2) y3) y4 = y1 ∨ min (min (min (min y1 y1) y2) y3) y4 = y2 ∨ min (min (min (min y1 y1) y2) y3) y4 = y3 ∨ min (min (min (min y1 y1) y2) y3) y4 = y4) with h | h | h | h <;> (rw [h]; assumption)
  · generalize upQ (a * c) 1000000000 = y1 at *
    generalize upQ (a * d) 1000000000 = y2 at *
    generalize upQ (b * c) 1000000000 = y3 at *
    generalize upQ (b * d) 1000000000 = y4 at *
    rcases (by omega : max (max (max (max y1 y1) y2) y3) y4 = y1 ∨ max (max (max (max y1 y1) y2) y3) y4 = y2 ∨ max (max (max (max y1 y1) y2) y3) y4 = y3 ∨ max (max (max (max y1 y1) y2) y3) y4 = y4) with h | h | h | h <;> (rw [h]; assumption)
theorem te_abs (x : Rat) : ∃ a : Rat, 0 ≤ a ∧ -a ≤ x ∧ x ≤ a ∧ a * a = x * x := by
  by_cases h : 0 ≤ x
  · exact ⟨x, h, by grind, by grind, rfl⟩
  · exact ⟨-x, by grind, by grind, by grind, by grind⟩
theorem te_far {z x y s c S C A B : Rat} (n1 : 979 / 1000 ≤ z * z + x * x + y * y) (n2 : z * z + x * x + y * y ≤ 1021 / 1000) (p : Near (c * c + s * s) 1 ep) (q : Near (C * C + S * S) 1 ep)
    (hy : -(5655 / 10000) ≤ y ∧ y ≤ 5655 / 10000) (S0 : 0 ≤ S) (S1 : S ≤ 3979 / 10000) (C0 : 0 ≤ C) (C1 : C ≤ 9176 / 10000)
    (hA : -A ≤ z * c - x * s ∧ z * c - x * s ≤ A) (hB : -B ≤ (z * s + x * c) * C - y * S ∧ (z * s + x * c) * C - y * S ≤ B) : 49 / 100 ≤ A + B := by
  have zz := sq_nonneg z; have xx := sq_nonneg x; have yy := sq_nonneg y
  have id1 : (z * s + x * c) * (z * s + x * c) + (z * c - x * s) * (z * c - x * s) = (z * z + x * x) + (z * z + x * x) * (c * c + s * s - 1) := by grind
  have m1 := rmul_bd (a := z * z + x * x) (b := c * c + s * s - 1) (A := 2) (B := ep) (by grind) (by unfold Near at p; grind)
  obtain ⟨v, hv⟩ : ∃ v, v = z * s + x * c := ⟨_, rfl⟩
  obtain ⟨F, hF⟩ : ∃ F, F = z * c - x * s := ⟨_, rfl⟩
  rw [← hv, ← hF] at id1
  rw [← hv] at hB
  rw [← hF] at hA
  have FF := sq_nonneg F
  have v2 : v * v + y * y ≤ 10211 / 10000 := by
    clear hA hB p q hv hF hy
    generalize (z * z + x * x) * (c * c + s * s - 1) = w1 at *
    unfold ep at m1
    grind
  have vv := sq_nonneg v
  have id2 : (v * C - y * S) * (v * C - y * S) + (v * S + y * C) * (v * S + y * C) = (v * v + y * y) + (v * v + y * y) * (C * C + S * S - 1) := by grind
  have m2 := rmul_bd (a := v * v + y * y) (b := C * C + S * S - 1) (A := 2) (B := ep) (by grind) (by unfold Near at q; grind)
  obtain ⟨G, hG⟩ : ∃ G, G = v * C - y * S := ⟨_, rfl⟩
  obtain ⟨T, hT⟩ : ∃ T, T = v * S + y * C := ⟨_, rfl⟩
  rw [← hG, ← hT] at id2
  rw [← hG] at hB
  apply Rat.not_lt.1
  intro l
  have a := sq_le hA; have b := sq_le hB
  have A0 : 0 ≤ A := by grind
  have B0 : 0 ≤ B := by grind
  have ab := Rat.mul_nonneg A0 B0
  have m := sq_le (x := A + B) (A := 49 / 100) (by grind)
  have e : (A + B) * (A + B) = A * A + B * B + 2 * (A * B) := by grind
  rw [e] at m
  have TT : 7388 / 10000 ≤ T * T := by
    clear hA hB p q hv hF hy hG hT v2 vv e l
    generalize (z * z + x * x) * (c * c + s * s - 1) = w1 at *
    generalize (v * v + y * y) * (C * C + S * S - 1) = w2 at *
    unfold ep at m1 m2
    generalize A * B = w3 at *
    generalize A * A = w4 at *
    generalize B * B = w5 at *
    generalize z * z = w6 at *
    generalize x * x = w7 at *
    generalize y * y = w8 at *
    generalize v * v = w9 at *
    generalize F * F = w10 at *
    generalize G * G = w11 at *
    generalize T * T = w12 at *
    grind
  obtain ⟨V, V0, V1, V2, VV⟩ := te_abs v
  obtain ⟨Y, Y0, Y1, Y2, YY⟩ := te_abs y
  have Y3 : Y ≤ 5655 / 10000 := by
    apply Rat.not_lt.1
    intro h
    have m := rmul_bd hy hy
    have m' := Rat.mul_lt_mul_of_pos_left h (show 0 < Y by grind)
    have m'' := Rat.mul_lt_mul_of_pos_left h (show (0 : Rat) < 5655 / 10000 by grind)
    rw [← YY] at m
    clear hA hB p q hv hF hG hT id1 id2 m1 m2 e l TT a b ab
    grind
  have s1 := sq_nonneg (V - 8247 / 10000)
  have s2 := sq_nonneg (Y - 5656 / 10000)
  have cv : 8247 / 10000 * V + 5656 / 10000 * Y ≤ 10106 / 10000 := by
    rw [show (V - 8247 / 10000) * (V - 8247 / 10000) = V * V - 2 * (8247 / 10000 * V) + 8247 / 10000 * (8247 / 10000) by grind] at s1
    rw [show (Y - 5656 / 10000) * (Y - 5656 / 10000) = Y * Y - 2 * (5656 / 10000 * Y) + 5656 / 10000 * (5656 / 10000) by grind] at s2
    rw [← VV, ← YY] at v2
    clear hA hB p q hv hF hG hT id1 id2 m1 m2 e l TT a b ab m
    generalize V * V = w1 at *
    generalize Y * Y = w2 at *
    grind
  have r1 := rmul_bd (a := v) (b := S) (A := V) (B := 3979 / 10000) ⟨V1, V2⟩ (by constructor <;> grind)
  have r2 := rmul_bd (a := y) (b := C) (A := Y) (B := 9176 / 10000) ⟨Y1, Y2⟩ (by constructor <;> grind)
  have tb : -(8523 / 10000) ≤ T ∧ T ≤ 8523 / 10000 := by
    rw [hT]
    clear hA hB p q hv hF hG hT id1 id2 m1 m2 e l TT a b ab m s1 s2 VV YY v2 vv
    generalize v * S = w1 at *
    generalize y * C = w2 at *
    constructor <;> grind
  have := sq_le tb
  clear hA hB p q hv hF hG hT id1 id2 m1 m2 e l a b ab m s1 s2 VV YY v2 vv
  grind
theorem te_sq {a b M : Int} (h : a ≤ b) (h1 : -M ≤ a) (h2 : b ≤ M) : sqrHi a b * 1000000000 ≤ sqrLo a b * 1000000000 + 2 * (M * (b - a)) + 2000000000 ∧ sqrHi a b * 1000000000 ≤ M * M + 1000000000 := by
  obtain ⟨p, hp⟩ : ∃ p, p = b - a := ⟨_, rfl⟩
  have hb : b = a + p := by omega
  rw [← hp]
  have p0 : 0 ≤ p := by omega
  have a1 := Int.mul_le_mul_of_nonneg_right h1 p0
  have a2 := Int.mul_le_mul_of_nonneg_right (show a ≤ M by omega) p0
  have b1 := Int.mul_le_mul_of_nonneg_right (show -M ≤ b by omega) p0
  have b2 := Int.mul_le_mul_of_nonneg_right h2 p0
  rw [Int.neg_mul] at a1 b1
  have eab : a * b = a * a + a * p := by rw [hb, Int.mul_add]
  have eba : b * a = a * a + a * p := by rw [Int.mul_comm]; exact eab
  have ebb : b * b = a * a + a * p + b * p := by
    have : b * b = b * (a + p) := by rw [← hb]
    rw [this, Int.mul_add, eba]
  have pp := sq_nonneg_i a; have qq' := sq_nonneg_i b
  have ab2 : 2 * (a * b) ≤ a * a + b * b := by
    have u := sq_nonneg_i (a - b)
    rw [Int.sub_mul, Int.mul_sub, Int.mul_sub, Int.mul_comm b a] at u
    omega
  have aM : a * a ≤ M * M := by
    have u := Int.mul_nonneg (show 0 ≤ M - a by omega) (show 0 ≤ M + a by omega)
    rw [Int.sub_mul, Int.mul_add, Int.mul_add, Int.mul_comm M a] at u
    omega
  have bM : b * b ≤ M * M := by
    have u := Int.mul_nonneg (show 0 ≤ M - b by omega) (show 0 ≤ M + b by omega)
    rw [Int.sub_mul, Int.mul_add, Int.mul_add, Int.mul_comm M b] at u
    omega
  have cz : a ≤ 0 ∧ 0 ≤ b → a * a ≤ M * p ∧ b * b ≤ M * p := by
    intro ⟨z1, z2⟩
    constructor
    · have u := Int.mul_le_mul (show -a ≤ M by omega) (show -a ≤ p by omega) (by omega) (by omega)
      rw [Int.neg_mul_neg] at u
      exact u
    · exact Int.mul_le_mul (show b ≤ M by omega) (show b ≤ p by omega) (by omega) (by omega)
  have u1 : ∀ x : Int, upQ x 1000000000 * 1000000000 ≤ x + 1000000000 := fun x => by unfold upQ; omega
  have w1 : ∀ x : Int, x - 1000000000 ≤ x / 1000000000 * 1000000000 := fun x => by omega
  have uA := u1 (a * a); have uB := u1 (a * b); have uC := u1 (b * a); have uD := u1 (b * b)
  have wA := w1 (a * a); have wB := w1 (a * b); have wC := w1 (b * a); have wD := w1 (b * b)
  unfold sqrLo
  unfold sqrHi tmHi tmLo pHi pLo
  generalize upQ (a * a) 1000000000 = x1 at *
  generalize upQ (a * b) 1000000000 = x2 at *
  generalize upQ (b * a) 1000000000 = x3 at *
  generalize upQ (b * b) 1000000000 = x4 at *
  generalize a * a / 1000000000 = y1 at *
  generalize a * b / 1000000000 = y2 at *
  generalize b * a / 1000000000 = y3 at *
  generalize b * b / 1000000000 = y4 at *
  clear u1 w1
  split
  · rename_i z
    obtain ⟨c1, c2⟩ := cz z
    generalize a * a = k1 at *
    generalize a * b = k2 at *
    generalize b * a = k3 at *
    generalize b * b = k4 at *
    generalize a * p = k5 at *
    generalize b * p = k6 at *
    generalize M * p = k7 at *
    generalize M * M = k8 at *
    omega
  · clear cz
    generalize a * a = k1 at *
    generalize a * b = k2 at *
    generalize b * a = k3 at *
    generalize b * b = k4 at *
    generalize a * p = k5 at *
    generalize b * p = k6 at *
    generalize M * p = k7 at *
    generalize M * M = k8 at *
    omega
theorem te_mid {a b : Int} (h : a ≤ b) : sqrLo a b * 4000000000 ≤ (a + b) * (a + b) ∧ (a + b) * (a + b) ≤ sqrHi a b * 4000000000 := by
  have s := sqr_bd h
  have e : (a + b) * (a + b) = a * a + 2 * (a * b) + b * b := by rw [Int.add_mul, Int.mul_add, Int.mul_add, Int.mul_comm b a]; omega
  have d : 2 * (a * b) ≤ a * a + b * b := by
    have u := sq_nonneg_i (a - b)
    rw [Int.sub_mul, Int.mul_sub, Int.mul_sub, Int.mul_comm b a] at u
    omega
  have n := sq_nonneg_i (a + b)
  rw [e] at n ⊢
  refine ⟨?_, by omega⟩
  unfold sqrLo
  split
  · omega
  · have w1 : ∀ x : Int, x / 1000000000 * 1000000000 ≤ x := fun x => by omega
    have wA := w1 (a * a); have wB := w1 (a * b); have wD := w1 (b * b)
    unfold tmLo pLo
    rw [Int.mul_comm b a]
    clear s d n w1
    generalize a * a / 1000000000 = y1 at *
    generalize a * b / 1000000000 = y2 at *
    generalize b * b / 1000000000 = y4 at *
    omega
theorem te_zz {a b p q : Int} (a0 : 0 ≤ a) (z1 : a ≤ b) (z2 : b ≤ 1000000000) (r2 : (1000000000 - p) * 1000000000 < (a + 1) * (a + 1)) (s3 : (b - 1) * (b - 1) < (1000000000 - q) * 1000000000) : (1000000000 - p) * 4000000000 - 10000000000 ≤ (a + b) * (a + b) ∧ (a + b) * (a + b) ≤ (1000000000 - q) * 4000000000 + 10000000000 := by
  have ea : (a + 1) * (a + 1) = a * a + 2 * a + 1 := by rw [Int.add_mul, Int.mul_add]; omega
  have eb : (b - 1) * (b - 1) = b * b - 2 * b + 1 := by rw [Int.sub_mul, Int.mul_sub]; omega
  have eab : (a + b) * (a + b) = a * a + 2 * (a * b) + b * b := by rw [Int.add_mul, Int.mul_add, Int.mul_add, Int.mul_comm b a]; omega
  have m1 := Int.mul_le_mul_of_nonneg_left z1 a0
  have m2 := Int.mul_le_mul_of_nonneg_right z1 (show 0 ≤ b by omega)
  omega
theorem te_core {p q a b h1 h2 h3 h4 k4 k5 : Int} (sH : p ≤ 332800000) (sL : 0 ≤ q) (sW : p - q ≤ 20840000) (eH : h1 + h2 = p) (eL : h3 + h4 = q) (mx : h3 * 4000000000 ≤ k4 ∧ k4 ≤ h1 * 4000000000) (my : h4 * 4000000000 ≤ k5 ∧ k5 ≤ h2 * 4000000000)
    (z0 : 0 ≤ a) (z1 : a ≤ b) (z2 : b ≤ 1000000000) (r2 : (1000000000 - p) * 1000000000 < (a + 1) * (a + 1)) (s2 : b = 0 ∨ (b - 1) * (b - 1) < (1000000000 - q) * 1000000000) :
    816000000 ≤ a ∧ b - a ≤ 12770000 ∧ 3916000000000000000 ≤ (a + b) * (a + b) + k4 + k5 ∧ (a + b) * (a + b) + k4 + k5 ≤ 4084000000000000000 := by
  have ga : 816000000 ≤ a := by
    apply Int.not_lt.1
    intro l
    have m := Int.mul_le_mul (show a + 1 ≤ 816000000 by omega) (show a + 1 ≤ 816000000 by omega) (by omega) (by omega)
    omega
  have ea : (a + 1) * (a + 1) = a * a + 2 * a + 1 := by rw [Int.add_mul, Int.mul_add]; omega
  have eb : (b - 1) * (b - 1) = b * b - 2 * b + 1 := by rw [Int.sub_mul, Int.mul_sub]; omega
  have s3 : (b - 1) * (b - 1) < (1000000000 - q) * 1000000000 := by
    rcases s2 with s2 | s2
    · omega
    · exact s2
  have gw : b - a ≤ 12770000 := by
    apply Int.not_lt.1
    intro l
    have m := Int.mul_le_mul (show 12769999 ≤ b - a - 2 by omega) (show 1632000000 ≤ b + a by omega) (by omega) (by omega)
    have e : (b - a - 2) * (b + a) = (b - 1) * (b - 1) - (a + 1) * (a + 1) := by
      rw [ea, eb, Int.sub_mul, Int.sub_mul, Int.mul_add, Int.mul_add, Int.mul_comm a b]; omega
    rw [e] at m
    omega
  obtain ⟨w1, w2⟩ := te_zz z0 z1 z2 r2 s3
  exact ⟨ga, gw, by omega, by omega⟩
structure TeNum (t : Int) : Prop where
  sH : smHi t ≤ 332800000
  sL : 0 ≤ smLo t
  sm : smLo t ≤ smHi t
  sW : smHi t - smLo t ≤ 20840000
  z0 : 816000000 ≤ zzLo t
  z1 : zzLo t ≤ zzHi t
  z2 : zzHi t ≤ 1000000000
  zW : zzHi t - zzLo t ≤ 12770000
  n1 : 3916000000000000000 ≤ (zzLo t + zzHi t) * (zzLo t + zzHi t) + (oxLo t + oxHi t) * (oxLo t + oxHi t) + (oyLo t + oyHi t) * (oyLo t + oyHi t)
  n2 : (zzLo t + zzHi t) * (zzLo t + zzHi t) + (oxLo t + oxHi t) * (oxLo t + oxHi t) + (oyLo t + oyHi t) * (oyLo t + oyHi t) ≤ 4084000000000000000
theorem te_num {t : Int} (x1 : -114000000 ≤ oxLo t) (x2 : oxHi t ≤ 114000000) (y1 : -565500000 ≤ oyLo t) (y2 : oyHi t ≤ 565500000) : TeNum t := by
  have x := ox_bd t; have y := oy_bd t
  obtain ⟨qx1, qx2⟩ := te_sq x.1 x1 x2
  obtain ⟨qy1, qy2⟩ := te_sq y.1 y1 y2
  have sH : smHi t ≤ 332800000 := by unfold smHi; omega
  have B := ce_bd (t := t) (by omega)
  have sW : smHi t - smLo t ≤ 20840000 := by unfold smHi smLo; omega
  have R := B.root
  obtain ⟨g1, g2, g3, g4⟩ := te_core sH B.i.s0 sW (show sqrHi (oxLo t) (oxHi t) + sqrHi (oyLo t) (oyHi t) = smHi t from rfl) (show sqrLo (oxLo t) (oxHi t) + sqrLo (oyLo t) (oyHi t) = smLo t from rfl) (te_mid x.1) (te_mid y.1) B.z0 B.z1 B.z2 R.r2 R.s2
  exact ⟨sH, B.i.s0, B.i.s1, sW, g1, B.z1, B.z2, g2, g3, g4⟩
theorem kW_4 : 0 ≤ kW 4004 ∧ kW 4004 ≤ 25170 := by
  have q := qq_b9
  unfold kW ra
  rw [show ((4004 : Int) : Rat) = 4004 from rfl]
  generalize qq = p at *
  constructor <;> grind
theorem te_near {a b W : Int} (h : a ≤ b) (hw : b - a ≤ 2 * W) : Near (a : Rat) (((a + b : Int) : Rat) / 2) (W : Rat) ∧ Near (b : Rat) (((a + b : Int) : Rat) / 2) (W : Rat) := by
  have g1 := Rat.intCast_le_intCast.2 h
  have g2 := Rat.intCast_le_intCast.2 hw
  rw [Rat.intCast_sub, Rat.intCast_mul, show ((2 : Int) : Rat) = 2 from rfl] at g2
  rw [Rat.intCast_add]
  unfold Near
  constructor <;> constructor <;> grind
structure TeBox (t : Int) (F G : Rat) : Prop where
  f1 : Near (c1Lo t : Rat) F 11800000
  f2 : Near (c1Hi t : Rat) F 11800000
  g1 : Near (c2Lo t : Rat) G 13830000
  g2 : Near (c2Hi t : Rat) G 13830000
  far : ∀ {A B : Rat}, (-A ≤ F ∧ F ≤ A) → (-B ≤ G ∧ G ≤ B) → 490000000 ≤ A + B
theorem te_c1 : ((3916000000000000000 : Int) : Rat) = 3916000000000000000 := by rw [show (3916000000000000000 : Int) = 3916000000 * 1000000000 from rfl, Rat.intCast_mul, show ((3916000000 : Int) : Rat) = 3916000000 from rfl, show ((1000000000 : Int) : Rat) = 1000000000 from rfl]; grind
theorem te_c2 : ((4084000000000000000 : Int) : Rat) = 4084000000000000000 := by rw [show (4084000000000000000 : Int) = 4084000000 * 1000000000 from rfl, Rat.intCast_mul, show ((4084000000 : Int) : Rat) = 4084000000 from rfl, show ((1000000000 : Int) : Rat) = 1000000000 from rfl]; grind
set_option maxHeartbeats 1000000 in
theorem te_box {t : Int} (x1 : -114000000 ≤ oxLo t) (x2 : oxHi t ≤ 114000000) (y1 : -565500000 ≤ oyLo t) (y2 : oyHi t ≤ 565500000) : ∃ F G, TeBox t F G := by
  have N := te_num x1 x2 y1 y2
  have x := ox_bd t; have y := oy_bd t
  have il : 0 ≤ slLo t ∧ slLo t < 1000000000 ∧ slLo t ≤ slHi t ∧ slHi t ≤ 130000000000 := an_bd sun_in
  have lw := sl_width t
  obtain ⟨s1, s2⟩ := so_near (W := 4004) il.2.2.1 lw (by omega) (Int.le_refl _) il.2.2.1
  obtain ⟨c1, c2⟩ := co_near (W := 4004) il.2.2.1 lw (by omega) (Int.le_refl _) il.2.2.1
  have kb := kW_4
  have n1 := Rat.intCast_le_intCast.2 N.n1
  have n2 := Rat.intCast_le_intCast.2 N.n2
  rw [Rat.intCast_add, Rat.intCast_add, Rat.intCast_mul, Rat.intCast_mul, Rat.intCast_mul, te_c1] at n1
  rw [Rat.intCast_add, Rat.intCast_add, Rat.intCast_mul, Rat.intCast_mul, Rat.intCast_mul, te_c2] at n2
  obtain ⟨za, zb⟩ := te_near (W := 8295508) N.z1 (by have := N.zW; omega)
  obtain ⟨xa, xb⟩ := te_near (W := 8295508) x.1 (by omega)
  obtain ⟨ya, yb⟩ := te_near (W := 7540377) y.1 (by omega)
  have bz : -1000000000 ≤ ((zzLo t + zzHi t : Int) : Rat) / 2 ∧ ((zzLo t + zzHi t : Int) : Rat) / 2 ≤ 1000000000 := by
    have := N.z0; have := N.z1; have := N.z2
    have u := Rat.intCast_le_intCast.2 (show -2000000000 ≤ zzLo t + zzHi t by omega)
    have v := Rat.intCast_le_intCast.2 (show zzLo t + zzHi t ≤ 2000000000 by omega)
    rw [show ((-2000000000 : Int) : Rat) = -2000000000 from rfl] at u
    rw [show ((2000000000 : Int) : Rat) = 2000000000 from rfl] at v
    generalize ((zzLo t + zzHi t : Int) : Rat) = k at *
    clear n1 n2
    constructor <;> grind
  have bx : -114000000 ≤ ((oxLo t + oxHi t : Int) : Rat) / 2 ∧ ((oxLo t + oxHi t : Int) : Rat) / 2 ≤ 114000000 := by
    have u := Rat.intCast_le_intCast.2 (show -228000000 ≤ oxLo t + oxHi t by omega)
    have v := Rat.intCast_le_intCast.2 (show oxLo t + oxHi t ≤ 228000000 by omega)
    rw [show ((-228000000 : Int) : Rat) = -228000000 from rfl] at u
    rw [show ((228000000 : Int) : Rat) = 228000000 from rfl] at v
    generalize ((oxLo t + oxHi t : Int) : Rat) = k at *
    clear n1 n2
    constructor <;> grind
  have by' : -565500000 ≤ ((oyLo t + oyHi t : Int) : Rat) / 2 ∧ ((oyLo t + oyHi t : Int) : Rat) / 2 ≤ 565500000 := by
    have u := Rat.intCast_le_intCast.2 (show -1131000000 ≤ oyLo t + oyHi t by omega)
    have v := Rat.intCast_le_intCast.2 (show oyLo t + oyHi t ≤ 1131000000 by omega)
    rw [show ((-1131000000 : Int) : Rat) = -1131000000 from rfl] at u
    rw [show ((1131000000 : Int) : Rat) = 1131000000 from rfl] at v
    generalize ((oyLo t + oyHi t : Int) : Rat) = k at *
    clear n1 n2
    constructor <;> grind
  rw [show ((8295508 : Int) : Rat) = 8295508 from rfl] at za zb xa xb
  rw [show ((7540377 : Int) : Rat) = 7540377 from rfl] at ya yb
  have pl := SN_pyth (slLo t); have pe := SN_pyth 65109000
  have ls := SN_le (slLo t); have lc := CN_le (slLo t)
  obtain ⟨t1, t2, t3, t4⟩ := tilt_sc
  have se := sin_span 65109000; have ce := cos_span 65109000
  have se1 : Near (sLo 65109000 : Rat) (1000000000 * SN 65109000) (103 / 100) := by have := se.lo; have := se.lo2; unfold Near; grind
  have se2 : Near (sHi 65109000 : Rat) (1000000000 * SN 65109000) (103 / 100) := by have := se.hi; have := se.hi2; unfold Near; grind
  have ce1 : Near (cLo 65109000 : Rat) (1000000000 * CN 65109000) (103 / 100) := by have := ce.lo; have := ce.lo2; unfold Near; grind
  have ce2 : Near (cHi 65109000 : Rat) (1000000000 * CN 65109000) (103 / 100) := by have := ce.hi; have := ce.hi2; unfold Near; grind
  clear se ce
  have s1' : Near (sS1 t : Rat) (1000000000 * SN (slLo t)) 25172 := near_weak s1 (by grind)
  have s2' : Near (sS2 t : Rat) (1000000000 * SN (slLo t)) 25172 := near_weak s2 (by grind)
  have c1' : Near (sC1 t : Rat) (1000000000 * CN (slLo t)) 25172 := near_weak c1 (by grind)
  have c2' : Near (sC2 t : Rat) (1000000000 * CN (slLo t)) 25172 := near_weak c2 (by grind)
  clear s1 s2 c1 c2 kb N
  obtain ⟨ns, ns0, ns1, ns2, ns3⟩ := te_abs (SN (slLo t))
  obtain ⟨nc, nc0, nc1, nc2, nc3⟩ := te_abs (CN (slLo t))
  have nb : ns + nc ≤ 14143 / 10000 := by
    apply Rat.not_lt.1
    intro l
    have u := Rat.mul_lt_mul_of_pos_left l (show 0 < ns + nc by grind)
    have v := Rat.mul_lt_mul_of_pos_left l (show (0 : Rat) < 14143 / 10000 by grind)
    have w := sq_nonneg (ns - nc)
    rw [show (ns - nc) * (ns - nc) = ns * ns - 2 * (ns * nc) + nc * nc by grind] at w
    rw [show (ns + nc) * (ns + nc) = ns * ns + 2 * (ns * nc) + nc * nc by grind] at u
    unfold Near ep at pl
    rw [← ns3, ← nc3] at pl
    clear n1 n2 bz bx by' za zb xa xb ya yb ls lc pe
    generalize ns * ns = w1 at *
    generalize nc * nc = w2 at *
    generalize ns * nc = w3 at *
    grind
  have hs : -(1000000000 * ns) ≤ 1000000000 * SN (slLo t) ∧ 1000000000 * SN (slLo t) ≤ 1000000000 * ns := by constructor <;> grind
  have hc : -(1000000000 * nc) ≤ 1000000000 * CN (slLo t) ∧ 1000000000 * CN (slLo t) ≤ 1000000000 * nc := by constructor <;> grind
  have zs := te_tm (g := 8295508 * ns + 31470) za zb s1' s2' (by constructor <;> grind) hs (by grind) (by grind) (by grind)
  have zc := te_tm (g := 8295508 * nc + 31470) za zb c1' c2' (by constructor <;> grind) hc (by grind) (by grind) (by grind)
  have xs := te_tm (g := 8295508 * ns + 31470) xa xb s1' s2' (by constructor <;> grind) hs (by grind) (by grind) (by grind)
  have xc := te_tm (g := 8295508 * nc + 31470) xa xb c1' c2' (by constructor <;> grind) hc (by grind) (by grind) (by grind)
  have eL : (vvLo t : Rat) = (tmLo (zzLo t) (zzHi t) (sS1 t) (sS2 t) : Rat) + (tmLo (oxLo t) (oxHi t) (sC1 t) (sC2 t) : Rat) := by unfold vvLo; exact Rat.intCast_add _ _
  have eH : (vvHi t : Rat) = (tmHi (zzLo t) (zzHi t) (sS1 t) (sS2 t) : Rat) + (tmHi (oxLo t) (oxHi t) (sC1 t) (sC2 t) : Rat) := by unfold vvHi; exact Rat.intCast_add _ _
  have fL : (c1Lo t : Rat) = (tmLo (zzLo t) (zzHi t) (sC1 t) (sC2 t) : Rat) - (tmHi (oxLo t) (oxHi t) (sS1 t) (sS2 t) : Rat) := by unfold c1Lo; exact Rat.intCast_sub _ _
  have fH : (c1Hi t : Rat) = (tmHi (zzLo t) (zzHi t) (sC1 t) (sC2 t) : Rat) - (tmLo (oxLo t) (oxHi t) (sS1 t) (sS2 t) : Rat) := by unfold c1Hi; exact Rat.intCast_sub _ _
  have gL : (c2Lo t : Rat) = (tmLo (vvLo t) (vvHi t) (cLo 65109000) (cHi 65109000) : Rat) - (tmHi (oyLo t) (oyHi t) (sLo 65109000) (sHi 65109000) : Rat) := by unfold c2Lo; exact Rat.intCast_sub _ _
  have gH : (c2Hi t : Rat) = (tmHi (vvLo t) (vvHi t) (cLo 65109000) (cHi 65109000) : Rat) - (tmLo (oyLo t) (oyHi t) (sLo 65109000) (sHi 65109000) : Rat) := by unfold c2Hi; exact Rat.intCast_sub _ _
  have ys := te_tm (g := 3000320) (N := 3979 / 10000) ya yb se1 se2 (by constructor <;> grind) (by constructor <;> grind) (by grind) (by grind) (by grind)
  clear s1' s2' c1' c2' za zb xa xb ya yb hs hc se1 se2
  generalize ((zzLo t + zzHi t : Int) : Rat) = Z2 at *
  generalize ((oxLo t + oxHi t : Int) : Rat) = X2 at *
  generalize ((oyLo t + oyHi t : Int) : Rat) = Y2 at *
  generalize SN (slLo t) = s at *
  generalize CN (slLo t) = c at *
  obtain ⟨V, hV⟩ : ∃ V, V = Z2 / 2 * s + X2 / 2 * c := ⟨_, rfl⟩
  have vb : -1200000000 ≤ V ∧ V ≤ 1200000000 := by
    have a1 := rmul_bd (a := Z2 / 2) (b := s) (A := 1000000000) (B := 1 + ep) bz ls
    have a2 := rmul_bd (a := X2 / 2) (b := c) (A := 114000000) (B := 1 + ep) bx lc
    unfold ep at a1 a2
    rw [hV]
    clear zs zc xs xc ys n1 n2 eL eH fL fH gL gH hV pl pe
    generalize Z2 / 2 * s = w1 at *
    generalize X2 / 2 * c = w2 at *
    constructor <;> grind
  have v1 : Near (vvLo t : Rat) V 11800000 := by
    rw [eL, hV]
    obtain ⟨p, -⟩ := zs; obtain ⟨q, -⟩ := xc
    rw [show Z2 / 2 * (1000000000 * s) / 1000000000 = Z2 / 2 * s by grind] at p
    rw [show X2 / 2 * (1000000000 * c) / 1000000000 = X2 / 2 * c by grind] at q
    clear zc xs ys n1 n2 eL eH fL fH gL gH hV pl pe vb ns3 nc3
    unfold Near at *
    generalize Z2 / 2 * s = w1 at *
    generalize X2 / 2 * c = w2 at *
    constructor <;> grind
  have v2 : Near (vvHi t : Rat) V 11800000 := by
    rw [eH, hV]
    obtain ⟨-, p⟩ := zs; obtain ⟨-, q⟩ := xc
    rw [show Z2 / 2 * (1000000000 * s) / 1000000000 = Z2 / 2 * s by grind] at p
    rw [show X2 / 2 * (1000000000 * c) / 1000000000 = X2 / 2 * c by grind] at q
    clear zc xs ys n1 n2 eL eH fL fH gL gH hV pl pe vb ns3 nc3 v1
    unfold Near at *
    generalize Z2 / 2 * s = w1 at *
    generalize X2 / 2 * c = w2 at *
    constructor <;> grind
  have f1 : Near (c1Lo t : Rat) (Z2 / 2 * c - X2 / 2 * s) 11800000 := by
    rw [fL]
    obtain ⟨p, -⟩ := zc; obtain ⟨-, q⟩ := xs
    rw [show Z2 / 2 * (1000000000 * c) / 1000000000 = Z2 / 2 * c by grind] at p
    rw [show X2 / 2 * (1000000000 * s) / 1000000000 = X2 / 2 * s by grind] at q
    clear zs xc ys n1 n2 eL eH fL fH gL gH hV pl pe vb ns3 nc3 v1 v2
    unfold Near at *
    generalize Z2 / 2 * c = w1 at *
    generalize X2 / 2 * s = w2 at *
    constructor <;> grind
  have f2 : Near (c1Hi t : Rat) (Z2 / 2 * c - X2 / 2 * s) 11800000 := by
    rw [fH]
    obtain ⟨-, p⟩ := zc; obtain ⟨q, -⟩ := xs
    rw [show Z2 / 2 * (1000000000 * c) / 1000000000 = Z2 / 2 * c by grind] at p
    rw [show X2 / 2 * (1000000000 * s) / 1000000000 = X2 / 2 * s by grind] at q
    clear zs xc ys n1 n2 eL eH fL fH gL gH hV pl pe vb ns3 nc3 v1 v2 f1
    unfold Near at *
    generalize Z2 / 2 * c = w1 at *
    generalize X2 / 2 * s = w2 at *
    constructor <;> grind
  have vc := te_tm (g := 10827690) (N := 9176 / 10000) v1 v2 ce1 ce2 vb (by constructor <;> grind) (by grind) (by grind) (by grind)
  have g1 : Near (c2Lo t : Rat) (V * CN 65109000 - Y2 / 2 * SN 65109000) 13830000 := by
    rw [gL]
    obtain ⟨p, -⟩ := vc; obtain ⟨-, q⟩ := ys
    rw [show V * (1000000000 * CN 65109000) / 1000000000 = V * CN 65109000 by grind] at p
    rw [show Y2 / 2 * (1000000000 * SN 65109000) / 1000000000 = Y2 / 2 * SN 65109000 by grind] at q
    clear zs xc zc xs n1 n2 eL eH fL fH gL gH hV pl pe vb ns3 nc3 v1 v2 f1 f2 ce1 ce2
    unfold Near at *
    generalize V * CN 65109000 = w1 at *
    generalize Y2 / 2 * SN 65109000 = w2 at *
    constructor <;> grind
  have g2 : Near (c2Hi t : Rat) (V * CN 65109000 - Y2 / 2 * SN 65109000) 13830000 := by
    rw [gH]
    obtain ⟨-, p⟩ := vc; obtain ⟨q, -⟩ := ys
    rw [show V * (1000000000 * CN 65109000) / 1000000000 = V * CN 65109000 by grind] at p
    rw [show Y2 / 2 * (1000000000 * SN 65109000) / 1000000000 = Y2 / 2 * SN 65109000 by grind] at q
    clear zs xc zc xs n1 n2 eL eH fL fH gL gH hV pl pe vb ns3 nc3 v1 v2 f1 f2 ce1 ce2 g1
    unfold Near at *
    generalize V * CN 65109000 = w1 at *
    generalize Y2 / 2 * SN 65109000 = w2 at *
    constructor <;> grind
  clear vc zs zc xs xc ys eL eH fL fH gL gH v1 v2 ce1 ce2 vb
  refine ⟨_, _, f1, f2, g1, g2, ?_⟩
  intro A B hA hB
  clear f1 f2 g1 g2
  rw [hV] at hB
  have k := te_far (z := Z2 / 2000000000) (x := X2 / 2000000000) (y := Y2 / 2000000000) (s := s) (c := c) (S := SN 65109000) (C := CN 65109000) (A := A / 1000000000) (B := B / 1000000000)
    (by
      rw [show Z2 / 2000000000 * (Z2 / 2000000000) + X2 / 2000000000 * (X2 / 2000000000) + Y2 / 2000000000 * (Y2 / 2000000000) = (Z2 * Z2 + X2 * X2 + Y2 * Y2) / 4000000000000000000 by grind]
      clear hA hB hV pl pe
      generalize Z2 * Z2 + X2 * X2 + Y2 * Y2 = w at *
      grind)
    (by
      rw [show Z2 / 2000000000 * (Z2 / 2000000000) + X2 / 2000000000 * (X2 / 2000000000) + Y2 / 2000000000 * (Y2 / 2000000000) = (Z2 * Z2 + X2 * X2 + Y2 * Y2) / 4000000000000000000 by grind]
      clear hA hB hV pl pe
      generalize Z2 * Z2 + X2 * X2 + Y2 * Y2 = w at *
      grind)
    pl pe (by constructor <;> grind) (by grind) (by grind) (by grind) (by grind)
    (by
      rw [show Z2 / 2000000000 * c - X2 / 2000000000 * s = (Z2 / 2 * c - X2 / 2 * s) / 1000000000 by grind]
      clear hB hV pl pe n1 n2
      generalize Z2 / 2 * c - X2 / 2 * s = w at *
      constructor <;> grind)
    (by
      rw [show (Z2 / 2000000000 * s + X2 / 2000000000 * c) * CN 65109000 - Y2 / 2000000000 * SN 65109000 = ((Z2 / 2 * s + X2 / 2 * c) * CN 65109000 - Y2 / 2 * SN 65109000) / 1000000000 by grind]
      clear hA hV pl pe n1 n2
      generalize (Z2 / 2 * s + X2 / 2 * c) * CN 65109000 - Y2 / 2 * SN 65109000 = w at *
      constructor <;> grind)
  clear hA hB hV pl pe n1 n2
  grind
theorem te_ok {t : Int} (x1 : -114000000 ≤ oxLo t) (x2 : oxHi t ≤ 114000000) (y1 : -565500000 ≤ oyLo t) (y2 : oyHi t ≤ 565500000) : (ceF t).e = 0 := by
  have N := te_num x1 x2 y1 y2
  have sH := N.sH; have sL := N.sL
  obtain ⟨F, G, B⟩ := te_box x1 x2 y1 y2
  have x := ox_bd t; have y := oy_bd t
  have f1 := B.f1; have f2 := B.f2; have g1 := B.g1; have g2 := B.g2
  have nx := nab_bd' (c1Lo t); have ny := nab_bd' (c2Lo t)
  have f := B.far (A := ((c1Lo t).natAbs : Rat) + 11800000) (B := ((c2Lo t).natAbs : Rat) + 13830000) (by unfold Near at f1; grind) (by unfold Near at g1; grind)
  have E1 : c2Hi t - c2Lo t ≤ 27660000 := by
    apply int_le_of_rat
    rw [Rat.intCast_sub, show ((27660000 : Int) : Rat) = 27660000 from rfl]
    unfold Near at g1 g2
    grind
  have E2 : c1Hi t - c1Lo t ≤ 27660000 := by
    apply int_le_of_rat
    rw [Rat.intCast_sub, show ((27660000 : Int) : Rat) = 27660000 from rfl]
    unfold Near at f1 f2
    grind
  have E3 : 464000000 ≤ ((c1Lo t).natAbs + (c2Lo t).natAbs : Nat) := by
    have : (464000000 : Int) ≤ ((c1Lo t).natAbs + (c2Lo t).natAbs : Nat) := by
      apply int_le_of_rat
      rw [Rat.intCast_natCast, Rat.natCast_add, show ((464000000 : Int) : Rat) = 464000000 from rfl]
      grind
    omega
  clear f nx ny f1 f2 g1 g2 B
  have D := ce_bd (t := t) (by omega)
  have d1 := D.f1; have d2 := D.f2
  clear D
  have no : ¬ ceNo t := by
    unfold ceNo
    generalize c2Lo t = a at *
    generalize c2Hi t = b at *
    generalize c1Lo t = c at *
    generalize c1Hi t = d at *
    omega
  have AI := ce_arc (t := t) (by omega) no
  have nr := arc_narrowB (E := 27660000) AI (by omega) E1 E2 (by omega)
  have far : ¬ ceFar t := by unfold ceFar; omega
  have sm := N.sW
  have sl := N.sm
  unfold ceF
  rw [if_neg far, if_neg (by omega), if_neg (by omega), if_neg no, if_neg (by
    have e1 : caHi t = arcHi (c2Lo t) (c2Hi t) (c1Lo t) (c1Hi t) := rfl
    have e2 : caLo t = arcLo (c2Lo t) (c2Hi t) (c1Lo t) (c1Hi t) := rfl
    rw [e1, e2]
    omega)]
theorem te_el {k : Int} (k0 : -100002 ≤ k) (k1 : k ≤ 100002) : -114000000 ≤ oxLo (phF k 0).1 ∧ oxHi (phF k 0).1 ≤ 114000000 := by
  obtain ⟨c, C⟩ := ph_in (k := k) (q := 0) k0 k1 (by omega) (by omega)
  have cb := C.x.b; have ca := C.x.a; have lc := C.b; have ch := C.c; have w := C.w
  clear C
  generalize (phF k 0).1 = T at *
  obtain ⟨m, a1, a2, a3, a4⟩ := el_at T
  have bd := el_bd T; have wd := el_width T
  rw [show ((0 : Int) : Rat) = 0 from rfl] at cb ca
  have h1 := Rat.intCast_le_intCast.2 (show T ≤ c - 1 by omega)
  have h2 := Rat.intCast_le_intCast.2 (show c ≤ T + 600000 by omega)
  rw [Rat.intCast_add, show ((600000 : Int) : Rat) = 600000 from rfl] at h2
  have m1 := el_move (T : Rat) (d := ((c - 1 : Int) : Rat) - (T : Rat)) (by grind)
  have m2 := el_move (T : Rat) (d := (c : Rat) - (T : Rat)) (by rw [Rat.intCast_sub] at h1; grind)
  rw [show (T : Rat) + (((c - 1 : Int) : Rat) - (T : Rat)) = ((c - 1 : Int) : Rat) by grind] at m1
  rw [show (T : Rat) + ((c : Rat) - (T : Rat)) = (c : Rat) by grind] at m2
  have E1 : elT (T : Rat) ≤ 1000000000 * (k : Rat) + 1 := by clear a1 a2 a3 a4 m2 ca; grind
  have E2 : 1000000000 * (k : Rat) - 277100 ≤ elT (T : Rat) := by clear a1 a2 a3 a4 m1 cb; grind
  clear m1 m2 cb ca h1 h2
  have i1 : elLo T + 1000000000 * m ≤ 1000000000 * k + 1 := by
    apply int_le_of_rat
    rw [Rat.intCast_add, Rat.intCast_add, Rat.intCast_mul, Rat.intCast_mul, show ((1000000000 : Int) : Rat) = 1000000000 from rfl, show ((1 : Int) : Rat) = 1 from rfl]
    grind
  have i2 : 1000000000 * k - 299110 ≤ elLo T + 1000000000 * m := by
    apply int_le_of_rat
    rw [Rat.intCast_add, Rat.intCast_sub, Rat.intCast_mul, Rat.intCast_mul, show ((1000000000 : Int) : Rat) = 1000000000 from rfl, show ((299110 : Int) : Rat) = 299110 from rfl]
    grind
  clear a1 a2 a3 a4 E1 E2
  unfold oxLo oxHi oxO
  generalize elLo T = x at *
  generalize elHi T = y at *
  have mk : m = k ∨ m = k - 1 := by omega
  rcases mk with rfl | rfl
  · split <;> omega
  · split <;> omega
theorem te_track {k : Int} (hk : -100000 ≤ k ∧ k ≤ 100000) (l1 : -1500000 ≤ laLo (phF k 0).1 (phF k 0).2) (l2 : laHi (phF k 0).1 (phF k 0).2 ≤ 1500000) (hw : 0 ≤ moI ((phF k 0).2 - (phF k 0).1)) : (ceF (phF k 0).1).e = 0 := by
  obtain ⟨x1, x2⟩ := te_el (k := k) (by omega) (by omega)
  have f1 : laLo (phF k 0).1 (phF k 0).2 ≤ mbLo (phF k 0).1 := by unfold laLo; omega
  have f2 : mbHi (phF k 0).1 ≤ laHi (phF k 0).1 (phF k 0).2 := by unfold laHi; omega
  generalize (phF k 0).1 = T at *
  refine te_ok x1 x2 ?_ ?_
  · unfold oyLo; omega
  · unfold oyHi; omega
end Go.Proofs.YtcopmgnfakjdhaaGreatDoor
