/- How wide the arc of a wider box is. Plain. -/
import Derived.Test.YtcopmgnfakjdhaaGreatDoorZDecs
namespace Go.Proofs.YtcopmgnfakjdhaaGreatDoor
set_option linter.unusedSimpArgs false
set_option linter.unusedVariables false
theorem corner_tightB {t Y X R A rho e : Rat} (D : DirOk t Y X R) (hX : -R ≤ X ∧ X ≤ R) (hY : -R ≤ Y ∧ Y ≤ R) (hR : R ≤ 4 * rho) (r0 : 0 < rho) (hA : -(34 / 10) ≤ A ∧ A ≤ 34 / 10) (he : e ≤ rho / 7) (nx : Near X (rho * cs A) e) (ny : Near Y (rho * sn A) e) :
    ∃ k : Int, (k = 0 ∨ k = 1 ∨ k = -1) ∧ Near (t - A + 8 * qq * (k : Rat)) 0 (7 * (e / rho) + 1 / 10000000000000) := by
  have t8 : -8 ≤ t ∧ t ≤ 8 := by have := D.lo; have := D.hi; grind
  have A8 : -8 ≤ A ∧ A ≤ 8 := by grind
  have q := qq_b9
  have se := seen_of' (near_weak D.near (by grind)) (by have := D.pos; grind) t8 hX hY A8
  obtain ⟨k, hk, k1, k2, ks, kc⟩ := to_half8 (z := t - A) (by have := D.lo; have := D.hi; grind)
  refine ⟨k, hk, ?_⟩
  have sA := sn_le A8; have cA := cs_le A8; have py := pyth A8
  have e0 : 0 ≤ e := by unfold Near at nx; grind
  have p1 := rmul_bd (a := X - rho * cs A) (b := sn A) (A := e) (B := 101 / 100) (by unfold Near at nx; grind) (by unfold ep at sA; grind)
  have p2 := rmul_bd (a := X - rho * cs A) (b := cs A) (A := e) (B := 101 / 100) (by unfold Near at nx; grind) (by unfold ep at cA; grind)
  have p3 := rmul_bd (a := Y - rho * sn A) (b := sn A) (A := e) (B := 101 / 100) (by unfold Near at ny; grind) (by unfold ep at sA; grind)
  have p4 := rmul_bd (a := Y - rho * sn A) (b := cs A) (A := e) (B := 101 / 100) (by unfold Near at ny; grind) (by unfold ep at cA; grind)
  have pr := near_mulR py (Rat.le_of_lt r0)
  have S1 : -(203 / 100 * e) ≤ Y * cs A - X * sn A ∧ Y * cs A - X * sn A ≤ 203 / 100 * e := by
    clear p2 p3 pr sA cA py se ks kc
    generalize sn A = s at *
    generalize cs A = c at *
    constructor <;> grind
  have C1 : 70 / 100 * rho ≤ X * cs A + Y * sn A := by
    clear p1 p4 sA cA py se ks kc
    unfold Near ep at pr
    generalize sn A = s at *
    generalize cs A = c at *
    grind
  clear p1 p2 p3 p4 pr sA cA py nx ny
  obtain ⟨s, c, r1, r2⟩ := se
  generalize Y * cs A - X * sn A = S at *
  generalize X * cs A + Y * sn A = C at *
  generalize X * cs t + Y * sn t = r at *
  have zb : -8 ≤ t - A + 8 * qq * (k : Rat) ∧ t - A + 8 * qq * (k : Rat) ≤ 8 := ⟨Rat.le_trans (show (-8 : Rat) ≤ -(4 * qq) by clear k1 k2 ks kc; grind) k1, Rat.le_trans k2 (show 4 * qq ≤ 8 by clear k1 k2 ks kc; grind)⟩
  obtain ⟨z, hz⟩ : ∃ z, z = t - A + 8 * qq * (k : Rat) := ⟨_, rfl⟩
  rw [← hz] at ks kc k1 k2 zb ⊢
  have cz := cs_le zb
  have rp : 0 < r := by
    apply Rat.not_le.1
    intro l
    have z0 : r = 0 := by grind
    rw [z0] at c
    unfold Near at c
    grind
  have n1 := near_mulR ks (Rat.le_of_lt rp)
  have n2 := near_mulR kc (Rat.le_of_lt rp)
  have m := rmul_bd (a := r) (b := cs z) (A := r) (B := 101 / 100) (by grind) (by unfold ep at cz; grind)
  have rb : 68 / 100 * rho ≤ r := by
    unfold Near eq1 at *
    clear n1 ks kc s cz
    grind
  have c0 : -(1 / 1000) ≤ cs z := by
    apply Rat.not_lt.1
    intro l
    have := Rat.mul_lt_mul_of_pos_left l rp
    unfold Near eq1 at *
    clear n1 ks kc s cz m
    grind
  have qz := quarter_of ⟨k1, k2⟩ (show (0 : Rat) ≤ 1 / 1000 by grind) c0
  unfold eq1 at qz
  have ee : e / rho * rho = e := by grind
  obtain ⟨g, hg⟩ : ∃ g, g = e / rho := ⟨_, rfl⟩
  rw [← hg] at ee ⊢
  clear hg n2 kc c C1 m c0 cz
  have up : ∀ u : Rat, 0 ≤ u → u ≤ 8 / 5 → r * sn u ≤ 204 / 100 * e + 15 / 1000000000000000 * rho → u ≤ 7 * g + 1 / 10000000000000 := fun u u0 u1 hu => by
    have h := sn_half u0 u1
    have a := Rat.mul_le_mul_of_nonneg_left h (Rat.le_of_lt rp)
    have b := Rat.mul_le_mul_of_nonneg_right rb (show 0 ≤ u / 2 by grind)
    apply Rat.not_lt.1
    intro l
    have d := Rat.mul_lt_mul_of_pos_left l r0
    clear s n1 ks qz zb k1 k2 hz S1
    generalize sn u = su at *
    grind
  have tiny : r * (40 * eq1) ≤ 1 / 1000000000000000 * rho := by unfold eq1; grind
  unfold Near at s n1
  unfold Near
  by_cases z0 : 0 ≤ z
  · have := up z z0 (by grind) (by grind)
    grind
  · have := up (-z) (by grind) (by grind) (by rw [sn_neg]; grind)
    grind
theorem tight_oneB {f t1 t w D A eta : Rat} {k1 k j : Int} (hf : Near (ka * f) t1 (5 / 100000000000000)) (hw : Near (ka * w) t (5 / 100000000000000)) (hD : Near D (w - f - 1000000000 * (j : Rat)) (3 / 1000000)) (hb : -500000001 ≤ D ∧ D ≤ 500000001)
    (z1 : Near (t1 - A + 8 * qq * (k1 : Rat)) 0 eta) (z : Near (t - A + 8 * qq * (k : Rat)) 0 eta) (he : eta ≤ 11 / 10) : Near (ka * (f + D)) (A - 8 * qq * (k1 : Rat)) (eta + 1 / 10000000000000) := by
  have q := qq_b9; have kb := ka_bd
  have kj : ka * (1000000000 * (j : Rat)) = 8 * qq * (j : Rat) := by unfold ka; grind
  unfold Near at *
  have p1 := Rat.mul_le_mul_of_nonneg_left hD.1 (show 0 ≤ ka by grind)
  have p2 := Rat.mul_le_mul_of_nonneg_left hD.2 (show 0 ≤ ka by grind)
  have p3 := Rat.mul_le_mul_of_nonneg_left hb.1 (show 0 ≤ ka by grind)
  have p4 := Rat.mul_le_mul_of_nonneg_left hb.2 (show 0 ≤ ka by grind)
  rw [show ka * -500000001 = -(ka * 500000001) by grind] at p3
  have kq : ka * 500000001 ≤ 4 * qq + 1 / 100000000 := by unfold ka; grind
  have ks : ka * (3 / 1000000) ≤ 2 / 100000000000000 := by grind
  have em : ((k + j - k1 : Int) : Rat) = (k : Rat) + (j : Rat) - (k1 : Rat) := by rw [Rat.intCast_sub, Rat.intCast_add]
  have e1 : ka * (w - f - 1000000000 * (j : Rat) - 3 / 1000000) = ka * w - ka * f - 8 * qq * (j : Rat) - ka * (3 / 1000000) := by rw [← kj]; grind
  have e2 : ka * (w - f - 1000000000 * (j : Rat) + 3 / 1000000) = ka * w - ka * f - 8 * qq * (j : Rat) + ka * (3 / 1000000) := by rw [← kj]; grind
  rw [e1] at p1; rw [e2] at p2
  have m0 : k + j - k1 = 0 := by
    rcases (by omega : k + j - k1 = 0 ∨ 1 ≤ k + j - k1 ∨ k + j - k1 ≤ -1) with h | h | h
    · exact h
    · exfalso
      have r := int_pos (show 0 < k + j - k1 by omega)
      rw [em] at r
      have m := Rat.mul_le_mul_of_nonneg_left r (show 0 ≤ 8 * qq by grind)
      rw [show 8 * qq * ((k : Rat) + (j : Rat) - (k1 : Rat)) = 8 * qq * (k : Rat) + 8 * qq * (j : Rat) - 8 * qq * (k1 : Rat) by grind] at m
      clear kj em e1 e2 hD r kb
      generalize 8 * qq * (k : Rat) = a1 at *
      generalize 8 * qq * (j : Rat) = a2 at *
      generalize 8 * qq * (k1 : Rat) = a3 at *
      generalize ka * D = kd at *
      generalize ka * f = kf at *
      generalize ka * w = kw at *
      generalize ka * (3 / 1000000) = kk at *
      generalize ka * 500000001 = kl at *
      grind
    · exfalso
      have r := int_neg (show k + j - k1 < 0 by omega)
      rw [em] at r
      have m := Rat.mul_le_mul_of_nonneg_left r (show 0 ≤ 8 * qq by grind)
      rw [show 8 * qq * ((k : Rat) + (j : Rat) - (k1 : Rat)) = 8 * qq * (k : Rat) + 8 * qq * (j : Rat) - 8 * qq * (k1 : Rat) by grind] at m
      clear kj em e1 e2 hD r kb
      generalize 8 * qq * (k : Rat) = a1 at *
      generalize 8 * qq * (j : Rat) = a2 at *
      generalize 8 * qq * (k1 : Rat) = a3 at *
      generalize ka * D = kd at *
      generalize ka * f = kf at *
      generalize ka * w = kw at *
      generalize ka * (3 / 1000000) = kk at *
      generalize ka * 500000001 = kl at *
      grind
  have m1 : (k : Rat) + (j : Rat) - (k1 : Rat) = 0 := by rw [← em, m0]; rfl
  have m2 : 8 * qq * (k : Rat) + 8 * qq * (j : Rat) = 8 * qq * (k1 : Rat) := by
    have : 8 * qq * ((k : Rat) + (j : Rat) - (k1 : Rat)) = 0 := by rw [m1]; grind
    grind
  clear m0 m1 em kj e1 e2 hD p3 p4 kq
  have e3 : ka * (f + D) = ka * f + ka * D := by grind
  rw [e3]
  generalize 8 * qq * (k : Rat) = a1 at *
  generalize 8 * qq * (j : Rat) = a2 at *
  generalize 8 * qq * (k1 : Rat) = a3 at *
  generalize ka * D = kd at *
  generalize ka * f = kf at *
  generalize ka * w = kw at *
  constructor <;> grind
theorem arc_tightB {a b c d : Int} (H : ArcIn a b c d) {A rho e : Rat} (r0 : 0 < rho) (hA : -(34 / 10) ≤ A ∧ A ≤ 34 / 10) (he : e ≤ rho / 7) (na : Near (a : Rat) (rho * sn A) e) (nb : Near (b : Rat) (rho * sn A) e) (nc : Near (c : Rat) (rho * cs A) e) (nd : Near (d : Rat) (rho * cs A) e)
    (r1 : szR a c ≤ 4 * rho) (r2 : szR a d ≤ 4 * rho) (r3 : szR b c ≤ 4 * rho) (r4 : szR b d ≤ 4 * rho) :
    ∃ K : Int, A - 8 * qq * (K : Rat) - (7 * (e / rho) + 2 / 10000000000000) ≤ ka * ((arcLo a b c d : Rat) + 2) ∧ ka * ((arcHi a b c d : Rat) - 2) ≤ A - 8 * qq * (K : Rat) + (7 * (e / rho) + 2 / 10000000000000) := by
  obtain ⟨n1, n2, n3, n4⟩ := H.ne
  have k := ka_bd
  have hd : ∀ {Y X : Int}, Sml Y → Sml X → (Y ≠ 0 ∨ X ≠ 0) → -540000000 ≤ fv (dirW Y X) ∧ fv (dirW Y X) ≤ 540000000 := fun hY hX h0 => by
    have dr := dir_rad hY hX h0
    have dm := (dir_main hY hX h0).1
    have l := dm.lo; have u := dm.hi
    unfold Near at dr
    clear dm
    constructor
    · apply Rat.not_lt.1
      intro h
      have := Rat.mul_lt_mul_of_pos_left h (show 0 < ka by grind)
      grind
    · apply Rat.not_lt.1
      intro h
      have := Rat.mul_lt_mul_of_pos_left h (show 0 < ka by grind)
      grind
  have d0 := hd H.sa H.sc' n1
  have hf : Md (dirW a c) 1200000001 := by obtain ⟨x, y, z⟩ := dir_fin H.sa H.sc'; exact ⟨x, y, z⟩
  have hf5 : Md (dirW a c) 540000000 := ⟨hf.fin, d0.1, d0.2⟩
  have q0 := arcD_md hf H.sa H.sd
  have q1 := arcD_md hf H.sb H.sc'
  have q2 := arcD_md hf H.sb H.sd
  obtain ⟨j0, -, e0⟩ := arcD_near hf H.sa H.sd
  obtain ⟨j1, -, e1⟩ := arcD_near hf H.sb H.sc'
  obtain ⟨j2, -, e2⟩ := arcD_near hf H.sb H.sd
  have b0 := arcD_half hf5 (hd H.sa H.sd n2) H.sa H.sd
  have b1 := arcD_half hf5 (hd H.sb H.sc' n3) H.sb H.sc'
  have b2 := arcD_half hf5 (hd H.sb H.sd n4) H.sb H.sd
  have w1 := dir_rad H.sa H.sc' n1; have w2 := dir_rad H.sa H.sd n2; have w3 := dir_rad H.sb H.sc' n3; have w4 := dir_rad H.sb H.sd n4
  obtain ⟨k1, -, z1⟩ := corner_tightB (dir_main H.sa H.sc' n1).1 (sz_bd a c).1 (sz_bd a c).2 r1 r0 hA he nc na
  obtain ⟨k2, -, z2⟩ := corner_tightB (dir_main H.sa H.sd n2).1 (sz_bd a d).1 (sz_bd a d).2 r2 r0 hA he nd na
  obtain ⟨k3, -, z3⟩ := corner_tightB (dir_main H.sb H.sc' n3).1 (sz_bd b c).1 (sz_bd b c).2 r3 r0 hA he nc nb
  obtain ⟨k4, -, z4⟩ := corner_tightB (dir_main H.sb H.sd n4).1 (sz_bd b d).1 (sz_bd b d).2 r4 r0 hA he nd nb
  have ee : 7 * (e / rho) + 1 / 10000000000000 ≤ 11 / 10 := by
    have x : e / rho * rho = e := by grind
    have : e / rho ≤ 1 / 7 := by
      apply Rat.not_lt.1
      intro h
      have := Rat.mul_lt_mul_of_pos_right h r0
      grind
    grind
  have o2 := tight_oneB w1 w2 e0 b0 z1 z2 ee
  have o3 := tight_oneB w1 w3 e1 b1 z1 z3 ee
  have o4 := tight_oneB w1 w4 e2 b2 z1 z4 ee
  have o1 := tight_oneB (j := 0) (D := 0) w1 w1 (by rw [zero_cast]; unfold Near; constructor <;> grind) (by constructor <;> grind) z1 z1 ee
  have l1 := md_min md_zero q0; have l2 := md_min l1 q1; have l3 := md_min l2 q2
  have g1 := md_max md_zero q0; have g2 := md_max g1 q1; have g3 := md_max g2 q2
  have v1 := (fmin_ok md_zero.fin q0.fin).2; have v2 := (fmin_ok l1.fin q1.fin).2; have v3 := (fmin_ok l2.fin q2.fin).2
  have u1 := (fmax_ok md_zero.fin q0.fin).2; have u2 := (fmax_ok g1.fin q1.fin).2; have u3 := (fmax_ok g2.fin q2.fin).2
  rw [fin_zero.2] at v1 u1
  obtain ⟨-, a1⟩ := arc_sum hf l3
  obtain ⟨-, a2⟩ := arc_sum hf g3
  have lo2 := a1.lo2; have hi2 := a2.hi2
  have eL : arcLo a b c d = aLo (fadd (dirW a c) (fminW (fminW (fminW 0 (arcD (dirW a c) a d)) (arcD (dirW a c) b c)) (arcD (dirW a c) b d))) := rfl
  have eH : arcHi a b c d = aHi (fadd (dirW a c) (fmaxW (fmaxW (fmaxW 0 (arcD (dirW a c) a d)) (arcD (dirW a c) b c)) (arcD (dirW a c) b d))) := rfl
  rw [← eL] at lo2
  rw [← eH] at hi2
  have ks : kSl ≤ 2 / 1000 := by unfold kSl; grind
  clear a1 a2 eL eH l1 l2 l3 g1 g2 g3 q0 q1 q2 z1 z2 z3 z4 w1 w2 w3 w4 e0 e1 e2 b0 b1 b2 hf hf5 d0 hd n1 n2 n3 n4 na nb nc nd r1 r2 r3 r4
  refine ⟨k1, ?_⟩
  generalize (arcLo a b c d : Rat) = lo at *
  generalize (arcHi a b c d : Rat) = hi at *
  generalize fv (fminW (fminW (fminW 0 (arcD (dirW a c) a d)) (arcD (dirW a c) b c)) (arcD (dirW a c) b d)) = L at *
  generalize fv (fmaxW (fmaxW (fmaxW 0 (arcD (dirW a c) a d)) (arcD (dirW a c) b c)) (arcD (dirW a c) b d)) = G at *
  generalize fv (fminW (fminW 0 (arcD (dirW a c) a d)) (arcD (dirW a c) b c)) = L2 at *
  generalize fv (fmaxW (fmaxW 0 (arcD (dirW a c) a d)) (arcD (dirW a c) b c)) = G2 at *
  generalize fv (fminW 0 (arcD (dirW a c) a d)) = L1 at *
  generalize fv (fmaxW 0 (arcD (dirW a c) a d)) = G1 at *
  generalize fv (arcD (dirW a c) a d) = D0 at *
  generalize fv (arcD (dirW a c) b c) = D1 at *
  generalize fv (arcD (dirW a c) b d) = D2 at *
  generalize fv (dirW a c) = f at *
  have hL : L = 0 ∨ L = D0 ∨ L = D1 ∨ L = D2 := by clear o1 o2 o3 o4 lo2 hi2; grind
  have hG : G = 0 ∨ G = D0 ∨ G = D1 ∨ G = D2 := by clear o1 o2 o3 o4 lo2 hi2; grind
  clear v1 v2 v3 u1 u2 u3
  have oL : Near (ka * (f + L)) (A - 8 * qq * (k1 : Rat)) (7 * (e / rho) + 1 / 10000000000000 + 1 / 10000000000000) := by
    rcases hL with rfl | rfl | rfl | rfl
    · exact o1
    · exact o2
    · exact o3
    · exact o4
  have oG : Near (ka * (f + G)) (A - 8 * qq * (k1 : Rat)) (7 * (e / rho) + 1 / 10000000000000 + 1 / 10000000000000) := by
    rcases hG with rfl | rfl | rfl | rfl
    · exact o1
    · exact o2
    · exact o3
    · exact o4
  clear o1 o2 o3 o4 hL hG
  have m1 := Rat.mul_le_mul_of_nonneg_left (show f + L ≤ lo + 2 by grind) (show 0 ≤ ka by grind)
  have m2 := Rat.mul_le_mul_of_nonneg_left (show hi - 2 ≤ f + G by grind) (show 0 ≤ ka by grind)
  unfold Near at oL oG
  clear lo2 hi2 ks ee k
  generalize ka * (f + L) = x1 at *
  generalize ka * (f + G) = x2 at *
  generalize ka * (lo + 2) = x3 at *
  generalize ka * (hi - 2) = x4 at *
  generalize 8 * qq * (k1 : Rat) = x5 at *
  generalize e / rho = g at *
  constructor <;> grind
theorem arc_narrowB {a b c d E : Int} (H : ArcIn a b c d) (hE : 0 ≤ E) (h1 : b - a ≤ E) (h2 : d - c ≤ E) (h3 : 15 * E ≤ (c.natAbs + a.natAbs : Nat)) : arcHi a b c d - arcLo a b c d ≤ 400000000 := by
  obtain ⟨n1, n2, n3, n4⟩ := H.ne
  obtain ⟨t, rho, t1, t2, r0, rs, nx, ny⟩ := polar H.sa H.sc' n1
  have ab := H.ab; have cd := H.cd
  have s2 := sz_le (Y := a) (X := c) (Y' := a) (X' := d) hE (by omega) (by omega)
  have s3 := sz_le (Y := a) (X := c) (Y' := b) (X' := c) hE (by omega) (by omega)
  have s4 := sz_le (Y := a) (X := c) (Y' := b) (X' := d) hE (by omega) (by omega)
  have e3 := Rat.intCast_le_intCast.2 h3
  rw [Rat.intCast_mul, Rat.intCast_natCast, Rat.natCast_add, show ((15 : Int) : Rat) = 15 from rfl] at e3
  have es : szR a c = (c.natAbs : Rat) + (a.natAbs : Rat) := rfl
  rw [← es] at e3
  have e0 : (0 : Rat) ≤ (E : Rat) := Rat.intCast_le_intCast.2 hE
  have f1 := Rat.intCast_le_intCast.2 (show b ≤ a + E by omega)
  have f2 := Rat.intCast_le_intCast.2 (show d ≤ c + E by omega)
  rw [Rat.intCast_add] at f1 f2
  have g1 := Rat.intCast_le_intCast.2 ab
  have g2 := Rat.intCast_le_intCast.2 cd
  have he : (E : Rat) + 1 / 100000000000000 * szR a c ≤ rho / 7 := by grind
  unfold Near at nx ny
  obtain ⟨K, k1, k2⟩ := arc_tightB H (A := t) (rho := rho) (e := (E : Rat) + 1 / 100000000000000 * szR a c) r0 (by grind) he (by unfold Near; grind) (by unfold Near; grind) (by unfold Near; grind) (by unfold Near; grind) (by grind) (by grind) (by grind) (by grind)
  have ee : ((E : Rat) + 1 / 100000000000000 * szR a c) / rho ≤ 1 / 7 := by
    have x : ((E : Rat) + 1 / 100000000000000 * szR a c) / rho * rho = (E : Rat) + 1 / 100000000000000 * szR a c := by grind
    apply Rat.not_lt.1
    intro h
    have := Rat.mul_lt_mul_of_pos_right h r0
    grind
  have kb := ka_bd
  generalize ((E : Rat) + 1 / 100000000000000 * szR a c) / rho = g at *
  generalize 8 * qq * (K : Rat) = z at *
  have k3 : ka * ((arcHi a b c d : Rat) - 2) - ka * ((arcLo a b c d : Rat) + 2) ≤ 21 / 10 := by grind
  have k4 : ka * ((arcHi a b c d : Rat) - (arcLo a b c d : Rat) - 4) ≤ 21 / 10 := by
    have : ka * ((arcHi a b c d : Rat) - (arcLo a b c d : Rat) - 4) = ka * ((arcHi a b c d : Rat) - 2) - ka * ((arcLo a b c d : Rat) + 2) := by grind
    rw [this]; exact k3
  apply int_le_of_rat
  rw [Rat.intCast_sub, show ((400000000 : Int) : Rat) = 400000000 from rfl]
  clear k1 k2 k3 ee he s2 s3 s4 e3 f1 f2 g1 g2 nx ny rs
  apply Rat.not_lt.1
  intro h
  have : 400000000 - 4 < (arcHi a b c d : Rat) - (arcLo a b c d : Rat) - 4 := by grind
  have := Rat.mul_lt_mul_of_pos_left this (show 0 < ka by grind)
  grind
end Go.Proofs.YtcopmgnfakjdhaaGreatDoor
