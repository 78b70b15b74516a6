/- AstrolabeMeridian: the circle of an altitude passes through the star in the south that has it. -/
import Derived.Test.YtcopmgnfakjdhaaDoorAstrolabe
import Derived.Test.YtcopmgnfakjdhaaDoorOwn
import Derived.Deep.RegionHeld3
namespace Go.Proofs.YtcopmgnfakjdhaaDoor
open Go.RowKit
set_option linter.unusedSimpArgs false
set_option linter.unusedVariables false
set_option maxRecDepth 100000 in
set_option maxHeartbeats 16000000 in
theorem astrolabeMeridian_walk (a0 b0 : Int) (w : World) (hT : SinT w) : Calls Tryd.prog 4 #[.int .i64 a0, .int .i64 b0] w fun e w' => e = .returned (.bool true) ∧ Below w.heap.size w w' := by
  have HW := Lib.hid (astrolabeWorks_ok w hT)
  have HT := Lib.hid hT
  have A := Lib.hid (fun w => at_any a0 100000000 w (by omega) (by omega))
  have B := Lib.hid (fun w => at_any b0 150000000 w (by omega) (by omega))
  have ar : 0 ≤ a0 % 100000000 ∧ a0 % 100000000 < 100000000 := by omega
  have br : 0 ≤ b0 % 150000000 ∧ b0 % 150000000 < 150000000 := by omega
  generalize a0 % 100000000 = y at *
  generalize b0 % 150000000 = l at *
  obtain ⟨f, hf⟩ : ∃ a, a = 60000000 + y := ⟨_, rfl⟩
  have ea : wrap64 (60000000 + y) = f := by rw [hf]; exact IntWalk.wrap64_in _ (by omega)
  have f0 : 60000000 ≤ f := by omega
  have f1 : f ≤ 160000000 := by omega
  obtain ⟨l0, l1⟩ := br
  obtain ⟨d, hd⟩ : ∃ d, d = f + l - 250000000 := ⟨_, rfl⟩
  have e1 : wrap64 (f + l) = f + l := IntWalk.wrap64_in _ (by omega)
  have e2' : wrap64 (f + l - 250000000) = d := by rw [hd]; exact IntWalk.wrap64_in _ (by omega)
  have R := Lib.hid (fun W hT => Ring_ok d (by omega) (by omega) W hT)
  have AL := Lib.hid (fun W hT => Almucantar_ok f l f0 f1 l0 (by omega) W hT)
  have MO := mer_ok hd f0 f1 l0 (show l ≤ 150000000 by omega)
  generalize aLo (rW d) = z1 at *
  generalize aHi (rW d) = z2 at *
  generalize aLo (alD f l) = x1 at *
  generalize aHi (alD f l) = x2 at *
  generalize aLo (alR f l) = y1 at *
  generalize aHi (alR f l) = y2 at *
  obtain ⟨⟨m1, m2⟩, ⟨⟨b1, b2⟩, b3, b4⟩, ⟨⟨b5, b6⟩, b7, b8⟩, ⟨b9, b10⟩, b11, b12⟩ := MO
  have PL := Lib.hid (fun w => plus_any x1 x2 y1 y2 w (by omega) (by omega) (by omega) (by omega))
  have M := Lib.hid (fun w => meets_true (x1 + y1) (x2 + y2) (z1 - 1) (z2 + 1) w (by omega) (by omega))
  have w1 : IntKind.i64.wrap (z1 - 1) = z1 - 1 := IntWalk.i64_in _ (by omega)
  have w2 : IntKind.i64.wrap (z2 + 1) = z2 + 1 := IntWalk.i64_in _ (by omega)
  clear m1 m2 b1 b2 b3 b4 b5 b6 b7 b8 b9 b10 b11 b12 ar l0 l1 f0 f1 hf hd hT
  go_enter Tryd.func4, Tryd.ntmps4
  have HB := Lib.hid (Below.refl w.heap.size w)
  go_wp2_with fail
  refine Calls.mono (HW.out) ?_
  rintro e wc1 ⟨rfl, hb⟩
  replace HB := Lib.hid (HB.out.trans (hb.mono HB.out.size))
  clear hb
  go_wp2_with fail
  refine Calls.mono (A.out _) ?_
  rintro e wq ⟨rfl, hq⟩
  (first | rw [hq] | rw [← hq])
  clear hq
  go_wp2_with fail
  refine Calls.mono (B.out _) ?_
  rintro e wq ⟨rfl, hq⟩
  (first | rw [hq] | rw [← hq])
  clear hq
  go_wp2_with fail
  refine Calls.mono (AL.out _ (HT.out.below HB.out)) ?_
  rintro e wn1 ⟨rfl, hb⟩
  have HB1 := HB.out.trans (hb.mono HB.out.size)
  clear hb
  have Hkl1 := Lib.hid HB1.size; have HBq := HB1.alloc HB1.size (.cells #[.int .i64 (x1), .int .i64 (x2)] 25); replace HB := Lib.hid (HBq.alloc HBq.size (.cells #[.int .i64 (y1), .int .i64 (y2)] 25)); clear HB1 HBq
  obtain ⟨k1, hk1⟩ : ∃ x, x = wn1.heap.size := ⟨_, rfl⟩
  have hk2 : (wn1.alloc (.cells #[.int .i64 (x1), .int .i64 (x2)] 25)).heap.size = k1 + 1 := by simp [hk1]
  have s1 := Lib.hid ((SpBox.new wn1 (x1) (x2)).alloc (.cells #[.int .i64 (y1), .int .i64 (y2)] 25))
  have s20 := SpBox.new (wn1.alloc (.cells #[.int .i64 (x1), .int .i64 (x2)] 25)) (y1) (y2)
  rw [hk2] at s20
  have s2 := Lib.hid s20; clear s20
  rw [← hk1] at s1 Hkl1
  have Hkl2 := Lib.hid (Nat.le_trans Hkl1.out (Nat.le_succ k1))
  go_upto_region 5 with fail
  (try rw [hk2])
  rw [← hk1]
  obtain ⟨X2, hX2⟩ : ∃ X, X = (wn1.alloc (.cells #[.int .i64 (x1), .int .i64 (x2)] 25)).alloc (.cells #[.int .i64 (y1), .int .i64 (y2)] 25) := ⟨_, rfl⟩
  rw [← hX2] at s1 s2 HB ⊢
  clear hk2 hk1 hX2
  go_wp2_with fail
  refine Calls.mono (R.out _ (HT.out.below HB.out)) ?_
  rintro e wn3 ⟨rfl, hb⟩
  replace s1 := Lib.hid ((s1.out.below hb).alloc (.cells #[.int .i64 (z1), .int .i64 (z2)] 25))
  replace s2 := Lib.hid ((s2.out.below hb).alloc (.cells #[.int .i64 (z1), .int .i64 (z2)] 25))
  have HB3 := HB.out.trans (hb.mono HB.out.size)
  clear hb
  have Hkl3 := Lib.hid HB3.size; replace HB := Lib.hid (HB3.alloc HB3.size (.cells #[.int .i64 (z1), .int .i64 (z2)] 25))
  clear HB3
  have s3 := Lib.hid (SpBox.new wn3 (z1) (z2))
  obtain ⟨k3, hk3⟩ : ∃ x, x = wn3.heap.size := ⟨_, rfl⟩
  rw [← hk3] at s3 Hkl3
  go_upto_region 6 with fail
  rw [← hk3]
  obtain ⟨X3, hX3⟩ : ∃ X, X = wn3.alloc (.cells #[.int .i64 (z1), .int .i64 (z2)] 25) := ⟨_, rfl⟩
  rw [← hX3] at s1 s2 s3 HB ⊢
  clear hk3 hX3
  obtain ⟨Q, hQ⟩ : ∃ Q, Q = (X3).drew := ⟨_, rfl⟩
  have xQ0 : Q.cell? ⟨k1, 0, none⟩ = some (.int .i64 x1) := by rw [hQ]; exact (s1.out.drew.c0)
  have xQ1 : Q.cell? ⟨k1, 1, none⟩ = some (.int .i64 x2) := by rw [hQ]; exact (s1.out.drew.c1)
  have xQ2 : Q.cell? ⟨k1 + 1, 0, none⟩ = some (.int .i64 y1) := by rw [hQ]; exact (s2.out.drew.c0)
  have xQ3 : Q.cell? ⟨k1 + 1, 1, none⟩ = some (.int .i64 y2) := by rw [hQ]; exact (s2.out.drew.c1)
  have xQ4 : Q.cell? ⟨k3, 0, none⟩ = some (.int .i64 z1) := by rw [hQ]; exact (s3.out.drew.c0)
  have xQ5 : Q.cell? ⟨k3, 1, none⟩ = some (.int .i64 z2) := by rw [hQ]; exact (s3.out.drew.c1)
  have lQ0 : k1 < Q.heap.size := by rw [hQ]; exact (s1.out.lt)
  have lQ1 : k1 + 1 < Q.heap.size := by rw [hQ]; exact (s2.out.lt)
  have lQ2 : k3 < Q.heap.size := by rw [hQ]; exact (s3.out.lt)
  have bQ : Below w.heap.size w Q := by rw [hQ]; exact (HB.out).drew
  have HxQ0 := Lib.hid xQ0
  have HxQ1 := Lib.hid xQ1
  have HxQ2 := Lib.hid xQ2
  have HxQ3 := Lib.hid xQ3
  have HxQ4 := Lib.hid xQ4
  have HxQ5 := Lib.hid xQ5
  have HlQ0 := Lib.hid lQ0
  have HlQ1 := Lib.hid lQ1
  have HlQ2 := Lib.hid lQ2
  have HbQ := Lib.hid bQ
  have HhQ := Lib.hid hQ
  clear xQ0 xQ1 xQ2 xQ3 xQ4 xQ5 lQ0 lQ1 lQ2 bQ hQ
  go_region_held3 (fun w' => w'.cell? ⟨k1, 0, none⟩ = some (.int .i64 x1) ∧ w'.cell? ⟨k1, 1, none⟩ = some (.int .i64 x2) ∧ w'.cell? ⟨k1 + 1, 0, none⟩ = some (.int .i64 y1) ∧ w'.cell? ⟨k1 + 1, 1, none⟩ = some (.int .i64 y2) ∧ w'.cell? ⟨k3, 0, none⟩ = some (.int .i64 z1) ∧ w'.cell? ⟨k3, 1, none⟩ = some (.int .i64 z2) ∧ Below Q.heap.size Q w')
    (((try dsimp only); repeat' apply And.intro) <;> (first | (with_reducible assumption) | (go_split_ands; (with_reducible assumption)) | (rw [← HhQ.out]; (first | exact Below.refl _ _ | exact HxQ0.out | exact HxQ1.out | exact HxQ2.out | exact HxQ3.out | exact HxQ4.out | exact HxQ5.out)) | go_keep))
    (first
      | ((try go_split_ands); go_at_call 12; refine Calls.mono (PL.out _) ?_; rintro e wq ⟨rfl, hb⟩; (try go_split_ands); have qB : Below Q.heap.size Q wq := (bX_more (by with_reducible assumption) hb); have m0 := bX_oldc qB HlQ0.out HxQ0.out; have m1 := bX_oldc qB HlQ0.out HxQ1.out; have m2 := bX_oldc qB HlQ1.out HxQ2.out; have m3 := bX_oldc qB HlQ1.out HxQ3.out; have m4 := bX_oldc qB HlQ2.out HxQ4.out; have m5 := bX_oldc qB HlQ2.out HxQ5.out; clear hb)
      | ((try go_split_ands); go_at_call 11; refine Calls.mono (M.out _) ?_; rintro e wq ⟨rfl, hb⟩; (try go_split_ands); have qB : Below Q.heap.size Q wq := (bX_more (by with_reducible assumption) hb); have m0 := bX_oldc qB HlQ0.out HxQ0.out; have m1 := bX_oldc qB HlQ0.out HxQ1.out; have m2 := bX_oldc qB HlQ1.out HxQ2.out; have m3 := bX_oldc qB HlQ1.out HxQ3.out; have m4 := bX_oldc qB HlQ2.out HxQ4.out; have m5 := bX_oldc qB HlQ2.out HxQ5.out; clear hb))
  go_wp2_with fail
  go_split_ands
  go_ret
  exact ⟨rfl, bX_back HbQ.out (by with_reducible assumption)⟩
end Go.Proofs.YtcopmgnfakjdhaaDoor
