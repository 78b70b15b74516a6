/- astrolabeWorks; AstrolabeFalls: a greater declination has a lesser circle; AstrolabeMeridian: the circle of an altitude passes through the star in the south that has it. -/
import Derived.Test.YtcopmgnfakjdhaaDoorAstW
import Derived.Test.YtcopmgnfakjdhaaDoorSkyLaw
import Derived.Test.YtcopmgnfakjdhaaDoorSpan
namespace Go.Proofs.YtcopmgnfakjdhaaDoor
open Go.RowKit
set_option linter.unusedSimpArgs false
set_option linter.unusedVariables false
theorem ksl_b : 999 / 1000000 ≤ kSl ∧ kSl ≤ 1001 / 1000000 := by unfold kSl; constructor <;> grind
theorem aw_0 : (aLo (rW 0) ≤ 1000000 ∧ 1000000 ≤ aHi (rW 0) ∧ aHi (rW 0) - aLo (rW 0) ≤ 4) ∧ (aLo (alD 125000000 0) ≤ 1000000 ∧ 1000000 ≤ aHi (alD 125000000 0) ∧ aHi (alD 125000000 0) - aLo (alD 125000000 0) ≤ 10) := by decide +kernel
/-- Where the intervals lie. -/
structure RgOk (a : Int) : Prop where
  l1 : (aLo (rW a) : Rat) ≤ astV a + 3 / 1000
  l2 : astV a - 1005 / 1000 ≤ (aLo (rW a) : Rat)
  h1 : astV a - 3 / 1000 ≤ (aHi (rW a) : Rat)
  h2 : (aHi (rW a) : Rat) ≤ astV a + 1005 / 1000
theorem rg_ok {a : Int} (h0 : -195000000 ≤ a) (h1 : a ≤ 250000000) : RgOk a := by
  obtain ⟨-, -, -, -, -, -, p1, p2, p3, p4⟩ := (rw_ok h0 h1).ar
  have k := ksl_b
  exact ⟨by grind, by grind, by grind, by grind⟩
theorem fall_core {x1 x2 y1 y2 : Int} {va vb : Rat} {a b : Int} (a1 : (x1 : Rat) ≤ va + 3 / 1000) (a2 : va - 1005 / 1000 ≤ (x1 : Rat)) (a3 : va - 3 / 1000 ≤ (x2 : Rat)) (b1 : (y1 : Rat) ≤ vb + 3 / 1000) (b3 : vb - 3 / 1000 ≤ (y2 : Rat)) (b4 : (y2 : Rat) ≤ vb + 1005 / 1000) (f1 : vb ≤ va + 1 / 1000000) (f2 : 10000 ≤ b - a → vb + 31 ≤ va) (v0 : -(1 / 1000000) ≤ vb) : y1 ≤ x2 ∧ (10000 ≤ b - a → y2 < x1) ∧ 0 ≤ y2 := by
  refine ⟨?_, fun g => ?_, ?_⟩
  · have : y1 < x2 + 1 := by
      apply int_lt_of_rat
      rw [Rat.intCast_add, show ((1 : Int) : Rat) = 1 from rfl]
      clear f2; grind
    omega
  · have s := f2 g
    apply int_lt_of_rat
    clear f1 f2; grind
  · have : -1 < y2 := by
      apply int_lt_of_rat
      rw [show ((-1 : Int) : Rat) = -1 from rfl]
      clear f1 f2; grind
    omega
/-- What the law of falling circles asks. -/
theorem fall_ok {a b : Int} (h0 : -195000000 ≤ a) (h : a ≤ b) (h1 : b ≤ 250000000) : aLo (rW b) ≤ aHi (rW a) ∧ (10000 ≤ b - a → aHi (rW b) < aLo (rW a)) ∧ 0 ≤ aHi (rW b) := by
  obtain ⟨f1, f2⟩ := ast_falls h0 h h1
  obtain ⟨a1, a2, a3, a4⟩ := rg_ok h0 (show a ≤ 250000000 by omega)
  obtain ⟨b1, b2, b3, b4⟩ := rg_ok (show -195000000 ≤ b by omega) h1
  obtain ⟨-, v0, -, -⟩ := ast_v (show -195000000 ≤ b by omega) h1
  exact fall_core a1 a2 a3 b1 b3 b4 f1 f2 v0
theorem seven {n : Int} (h1 : -7000002 ≤ (n : Rat)) (h2 : (n : Rat) ≤ 7000002) : -8000000 ≤ n ∧ n ≤ 8000000 := by
  constructor
  · apply int_le_of_rat; rw [show ((-8000000 : Int) : Rat) = -8000000 from rfl]; grind
  · apply int_le_of_rat; rw [show ((8000000 : Int) : Rat) = 8000000 from rfl]; grind
theorem mer_core {x1 x2 y1 y2 z1 z2 : Int} {D R V : Rat} (p1 : (x1 : Rat) ≤ D - kSl + 3 / 1000) (p2 : D - kSl - 3 / 1000 < (x1 : Rat) + 1) (p3 : D + kSl - 3 / 1000 ≤ (x2 : Rat)) (p4 : (x2 : Rat) - 1 < D + kSl + 3 / 1000) (q1 : (y1 : Rat) ≤ R - kSl + 3 / 1000) (q2 : R - kSl - 3 / 1000 < (y1 : Rat) + 1) (q3 : R + kSl - 3 / 1000 ≤ (y2 : Rat)) (q4 : (y2 : Rat) - 1 < R + kSl + 3 / 1000)
    (c1 : (z1 : Rat) ≤ V + 3 / 1000) (c2 : V - 1005 / 1000 ≤ (z1 : Rat)) (c3 : V - 3 / 1000 ≤ (z2 : Rat)) (c4 : (z2 : Rat) ≤ V + 1005 / 1000) (m : Near (D + R) V (1 / 10000000)) (d0 : -7000000 ≤ D ∧ D ≤ 7000000) (r0 : -7000000 ≤ R ∧ R ≤ 7000000) (v0 : -(1 / 1000000) ≤ V) (v1 : V ≤ 7000000) :
    (x1 + y1 ≤ z2 + 1 ∧ z1 - 1 ≤ x2 + y2) ∧ ((-8000000 ≤ x1 ∧ x1 ≤ 8000000) ∧ (-8000000 ≤ x2 ∧ x2 ≤ 8000000)) ∧ ((-8000000 ≤ y1 ∧ y1 ≤ 8000000) ∧ (-8000000 ≤ y2 ∧ y2 ≤ 8000000)) ∧ ((-8000000 ≤ z1 ∧ z1 ≤ 8000000) ∧ (-8000000 ≤ z2 ∧ z2 ≤ 8000000)) := by
  have k := ksl_b
  unfold Near at m
  generalize kSl = s at *
  refine ⟨⟨?_, ?_⟩, ⟨seven (by grind) (by grind), seven (by grind) (by grind)⟩, ⟨seven (by grind) (by grind), seven (by grind) (by grind)⟩, seven (by grind) (by grind), seven (by grind) (by grind)⟩
  · apply int_le_of_rat
    rw [Rat.intCast_add, Rat.intCast_add, show ((1 : Int) : Rat) = 1 from rfl]
    grind
  · apply int_le_of_rat
    rw [Rat.intCast_add, Rat.intCast_sub, show ((1 : Int) : Rat) = 1 from rfl]
    grind
/-- What the law of the meridian asks. -/
def MerOk (x1 x2 y1 y2 z1 z2 : Int) : Prop := (x1 + y1 ≤ z2 + 1 ∧ z1 - 1 ≤ x2 + y2) ∧ ((-8000000 ≤ x1 ∧ x1 ≤ 8000000) ∧ (-8000000 ≤ x2 ∧ x2 ≤ 8000000)) ∧ ((-8000000 ≤ y1 ∧ y1 ≤ 8000000) ∧ (-8000000 ≤ y2 ∧ y2 ≤ 8000000)) ∧ ((-8000000 ≤ z1 ∧ z1 ≤ 8000000) ∧ (-8000000 ≤ z2 ∧ z2 ≤ 8000000))
theorem mer_ok {f l d : Int} (hd : d = f + l - 250000000) (f0 : 60000000 ≤ f) (f1 : f ≤ 160000000) (l0 : 0 ≤ l) (l1 : l ≤ 150000000) : MerOk (aLo (alD f l)) (aHi (alD f l)) (aLo (alR f l)) (aHi (alR f l)) (aLo (rW d)) (aHi (rW d)) := by
  obtain ⟨-, d0, r0, m⟩ := ast_m f0 f1 l0 l1
  obtain ⟨j, dq, rq⟩ := al_ok f0 f1 l0 l1
  have P : AroundOk (alD f l) (1000000 * CN f / (SN f + SN l)) (3 / 1000) := dq.ar
  have Q : AroundOk (alR f l) (1000000 * CN l / (SN f + SN l)) (3 / 1000) := rq.ar
  obtain ⟨c1, c2, c3, c4⟩ := rg_ok (a := d) (by omega) (by omega)
  obtain ⟨-, v0, v1, -⟩ := ast_v (a := d) (by omega) (by omega)
  rw [← hd] at m
  exact mer_core P.lo1 P.lo2 P.hi1 P.hi2 Q.lo1 Q.lo2 Q.hi1 Q.hi2 c1 c2 c3 c4 m d0 r0 v0 v1
set_option maxRecDepth 100000 in
set_option maxHeartbeats 4000000 in
theorem astrolabeWorks_ok (w : World) (hT : SinT w) : Calls Tryd.prog 7 #[] w fun e w' => e = .returned (.bool true) ∧ Below w.heap.size w w' := by
  obtain ⟨⟨p1, p2, p3⟩, q1, q2, q3⟩ := aw_0
  have R := Lib.hid (fun W hT => Ring_ok 0 (by omega) (by omega) W hT)
  have A := Lib.hid (fun W hT => Almucantar_ok 125000000 0 (by omega) (by omega) (by omega) (by omega) W hT)
  have HT := Lib.hid hT
  generalize aLo (rW 0) = a1 at *
  generalize aHi (rW 0) = a2 at *
  generalize aLo (alD 125000000 0) = b1 at *
  generalize aHi (alD 125000000 0) = b2 at *
  generalize aLo (alR 125000000 0) = c1 at *
  generalize aHi (alR 125000000 0) = c2 at *
  have H1 := Lib.hid (fun w => has_true a1 a2 1000000 4 w p1 p2 p3 ⟨by omega, by omega⟩)
  have H2 := Lib.hid (fun w => has_true b1 b2 1000000 10 w q1 q2 q3 ⟨by omega, by omega⟩)
  clear p1 p2 p3 q1 q2 q3 hT
  go_enter Tryd.func7, Tryd.ntmps7
  have HB := Lib.hid (Below.refl w.heap.size w)
  go_wp2_with fail
  refine Calls.mono (R.out _ (HT.out.below HB.out)) ?_
  rintro e wn1 ⟨rfl, hb⟩
  have HB1 := HB.out.trans (hb.mono HB.out.size)
  clear hb
  have Hkl1 := Lib.hid HB1.size; replace HB := Lib.hid (HB1.alloc HB1.size (.cells #[.int .i64 (a1), .int .i64 (a2)] 25))
  clear HB1
  have s1 := Lib.hid (SpBox.new wn1 (a1) (a2))
  obtain ⟨k1, hk1⟩ : ∃ x, x = wn1.heap.size := ⟨_, rfl⟩
  rw [← hk1] at s1 Hkl1
  go_upto_region 2 with fail
  rw [← hk1]
  obtain ⟨X1, hX1⟩ : ∃ X, X = wn1.alloc (.cells #[.int .i64 (a1), .int .i64 (a2)] 25) := ⟨_, rfl⟩
  rw [← hX1] at s1 HB ⊢
  clear hk1 hX1
  go_wp2_with fail
  refine Calls.mono (A.out _ (HT.out.below HB.out)) ?_
  rintro e wn2 ⟨rfl, hb⟩
  replace s1 := Lib.hid (((s1.out.below hb).alloc (.cells #[.int .i64 (b1), .int .i64 (b2)] 25)).alloc (.cells #[.int .i64 (c1), .int .i64 (c2)] 25))
  have HB2 := HB.out.trans (hb.mono HB.out.size)
  clear hb
  have Hkl2 := Lib.hid HB2.size; have HBq := HB2.alloc HB2.size (.cells #[.int .i64 (b1), .int .i64 (b2)] 25); replace HB := Lib.hid (HBq.alloc HBq.size (.cells #[.int .i64 (c1), .int .i64 (c2)] 25)); clear HB2 HBq
  obtain ⟨k2, hk2⟩ : ∃ x, x = wn2.heap.size := ⟨_, rfl⟩
  have hk3 : (wn2.alloc (.cells #[.int .i64 (b1), .int .i64 (b2)] 25)).heap.size = k2 + 1 := by simp [hk2]
  have s2 := Lib.hid ((SpBox.new wn2 (b1) (b2)).alloc (.cells #[.int .i64 (c1), .int .i64 (c2)] 25))
  have s30 := SpBox.new (wn2.alloc (.cells #[.int .i64 (b1), .int .i64 (b2)] 25)) (c1) (c2)
  rw [hk3] at s30
  have s3 := Lib.hid s30; clear s30
  rw [← hk2] at s2 Hkl2
  have Hkl3 := Lib.hid (Nat.le_trans Hkl2.out (Nat.le_succ k2))
  go_upto_region 3 with fail
  (try rw [hk3])
  rw [← hk2]
  obtain ⟨X3, hX3⟩ : ∃ X, X = (wn2.alloc (.cells #[.int .i64 (b1), .int .i64 (b2)] 25)).alloc (.cells #[.int .i64 (c1), .int .i64 (c2)] 25) := ⟨_, rfl⟩
  rw [← hX3] at s1 s2 s3 HB ⊢
  clear hk3 hk2 hX3
  have sc1_0 := s1.out.c0; have sc1_1 := s1.out.c1; have sc1_l := s1.out.lt
  go_wp2_with fail
  refine Calls.mono (H1.out _) ?_
  rintro e wc1 ⟨rfl, hb⟩
  replace s1 := Lib.hid (s1.out.below hb)
  replace s2 := Lib.hid (s2.out.below hb)
  replace s3 := Lib.hid (s3.out.below hb)
  replace HB := Lib.hid (HB.out.trans (hb.mono HB.out.size))
  clear sc1_0 sc1_1 sc1_l
  clear hb
  have sc2_0 := s2.out.c0; have sc2_1 := s2.out.c1; have sc2_l := s2.out.lt
  go_wp2_with fail
  refine Calls.mono (H2.out _) ?_
  rintro e wc2 ⟨rfl, hb⟩
  replace s1 := Lib.hid (s1.out.below hb)
  replace s2 := Lib.hid (s2.out.below hb)
  replace s3 := Lib.hid (s3.out.below hb)
  replace HB := Lib.hid (HB.out.trans (hb.mono HB.out.size))
  clear sc2_0 sc2_1 sc2_l
  clear hb
  go_wp2_with fail
  go_ret
  exact ⟨rfl, HB.out⟩
end Go.Proofs.YtcopmgnfakjdhaaDoor
