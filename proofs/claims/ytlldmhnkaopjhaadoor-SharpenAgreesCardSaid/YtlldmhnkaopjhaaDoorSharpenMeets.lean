/- sharpenWorks; SharpenMeets: intervals of one season with several widths have a number in common. -/
import Derived.Test.YtlldmhnkaopjhaaDoorShE
import Derived.Test.YtlldmhnkaopjhaaDoorSpan
namespace Go.Proofs.YtlldmhnkaopjhaaDoor
open Go.RowKit
set_option linter.unusedSimpArgs false
set_option linter.unusedVariables false
theorem Cross.sub {sd : Int → Int} {lo hi c D lo' hi' : Int} (h : Cross sd lo hi c D) (h1 : lo ≤ lo') (h2 : hi' ≤ hi) : Cross sd lo' hi' c D :=
  ⟨fun x a b => h.a x (by omega) (by omega), fun x a b => h.b x (by omega) (by omega), fun x a b => h.a' x (by omega) (by omega), fun x a b => h.b' x (by omega) (by omega)⟩
theorem shY_in {q y v c : Int} (C : SeIn (250000000 * q) (newY y * 86400000) y c) (v0 : 132000 ≤ v) : (shY q y v).2.2 = 0 ∧ (seY q y).1 ≤ (shY q y v).1 ∧ (shY q y v).1 < c ∧ c ≤ (shY q y v).2.1 ∧ (shY q y v).2.1 ≤ (seY q y).2 ∧ (shY q y v).2.1 - (shY q y v).1 ≤ v := by
  have e1 : seF (250000000 * q) (newY y * 86400000) = seY q y := rfl
  have l := C.l; have i1 := C.i1; have i2 := C.i2; have u := C.u; have w := C.w
  rw [e1] at l i1 i2 u w
  have p64 : (1000000000000000000 : Int) ≤ ((2 ^ 64 : Nat) : Int) := by decide
  have Q := nrwF_in (C.cr.sub l u) (width := v) (by omega) (by omega) i1 i2 (by omega) 64 (by omega)
  have qa := Q.a; have qb := Q.b; have qc := Q.c; have qd := Q.d; have qw := Q.w
  have wv : (nrwF (seSd (250000000 * q)) v 64 (seY q y).1 (seY q y).2).2 - (nrwF (seSd (250000000 * q)) v 64 (seY q y).1 (seY q y).2).1 ≤ v := by omega
  have e : shY q y v = ((nrwF (seSd (250000000 * q)) v 64 (seY q y).1 (seY q y).2).1, (nrwF (seSd (250000000 * q)) v 64 (seY q y).1 (seY q y).2).2, 0) := by
    unfold shY shR; rw [if_pos (by omega)]
  rw [e]
  exact ⟨rfl, qa, qb, qc, qd, wv⟩
theorem shw0 : (shY 0 2000 500000).1 ≤ 63089219834394 ∧ 63089219834394 ≤ (shY 0 2000 500000).2.1 := by decide +kernel
set_option maxRecDepth 100000 in
set_option maxHeartbeats 4000000 in
theorem sharpenWorks_ok (w : World) (hT : SinT w) : Calls Tryd.prog 28 #[] w fun e w' => e = .returned (.bool true) ∧ Below w.heap.size w w' := by
  obtain ⟨-, c, C⟩ := se_find (q := 0) (y := 2000) (by omega) (by omega) (by omega) (by omega)
  obtain ⟨z0, -, z1, z2, -, z3⟩ := shY_in C (v := 500000) (by omega)
  obtain ⟨p1, p2⟩ := shw0
  have F := fun W (hT : SinT W) => ShSeason_ok 0 2000 500000 (by omega) (by omega) (by omega) W hT
  rw [z0] at F
  have F := Lib.hid F
  have eE : earF 1 2 3 4 = (-1, 0) := by decide
  have E := Lib.hid (fun w => eE ▸ Earlier_ok 1 2 3 4 w ⟨by omega, by omega, by omega⟩ ⟨by omega, by omega, by omega⟩)
  have HT := Lib.hid hT
  generalize (shY 0 2000 500000).1 = a at *
  generalize (shY 0 2000 500000).2.1 = b at *
  have H := Lib.hid (fun w => has_true a b 63089219834394 500000 w p1 p2 z3 ⟨by omega, by omega⟩)
  clear eE C z0 z1 z2 z3 p1 p2 hT
  go_enter Tryd.func28, Tryd.ntmps28
  have HB := Lib.hid (Below.refl w.heap.size w)
  go_wp2_with fail
  refine Calls.mono (F.out _ (HT.out.below HB.out)) ?_
  rintro e wn1 ⟨rfl, hb⟩
  have HB1 := HB.out.trans (hb.mono HB.out.size)
  clear hb
  have Hkl1 := Lib.hid HB1.size; replace HB := Lib.hid (HB1.alloc HB1.size (.cells #[.int .i64 (a), .int .i64 (b)] 24))
  clear HB1
  have s1 := Lib.hid (SpBox.new wn1 (a) (b))
  obtain ⟨k1, hk1⟩ : ∃ x, x = wn1.heap.size := ⟨_, rfl⟩
  rw [← hk1] at s1 Hkl1
  go_upto_region 2 with fail
  rw [← hk1]
  obtain ⟨X1, hX1⟩ : ∃ X, X = wn1.alloc (.cells #[.int .i64 (a), .int .i64 (b)] 24) := ⟨_, rfl⟩
  rw [← hX1] at s1 HB ⊢
  clear hk1 hX1
  go_wp2_with fail
  refine Calls.mono (E.out _) ?_
  rintro e wc1 ⟨rfl, hb⟩
  replace s1 := Lib.hid (s1.out.below hb)
  replace HB := Lib.hid (HB.out.trans (hb.mono HB.out.size))
  clear hb
  have sc1_0 := s1.out.c0; have sc1_1 := s1.out.c1; have sc1_l := s1.out.lt
  go_wp2_with fail
  refine Calls.mono (H.out _) ?_
  rintro e wc2 ⟨rfl, hb⟩
  replace s1 := Lib.hid (s1.out.below hb)
  replace HB := Lib.hid (HB.out.trans (hb.mono HB.out.size))
  clear sc1_0 sc1_1 sc1_l
  clear hb
  go_wp2_with fail
  go_ret
  exact ⟨rfl, HB.out⟩
set_option maxRecDepth 100000 in
set_option maxHeartbeats 16000000 in
theorem sharpenMeets_walk (q0 y0 v0 w0 : Int) (w : World) (hT : SinT w) : Calls Tryd.prog 12 #[.int .i64 q0, .int .i64 y0, .int .i64 v0, .int .i64 w0] w fun e w' => e = .returned (.bool true) ∧ Below w.heap.size w w' := by
  have HW := Lib.hid (sharpenWorks_ok w hT)
  have HT := Lib.hid hT
  have A := Lib.hid (fun w => at_any y0 18000 w (by omega) (by omega))
  have Aq := Lib.hid (fun w => at_any q0 4 w (by omega) (by omega))
  have Av := Lib.hid (fun w => at_any v0 400000 w (by omega) (by omega))
  have Aw := Lib.hid (fun w => at_any w0 400000 w (by omega) (by omega))
  have ab : 0 ≤ y0 % 18000 ∧ y0 % 18000 < 18000 := by omega
  have qb1 : 0 ≤ q0 % 4 := by omega
  have qb2 : q0 % 4 < 4 := by omega
  have vb : 0 ≤ v0 % 400000 ∧ v0 % 400000 < 400000 := by omega
  have wb : 0 ≤ w0 % 400000 ∧ w0 % 400000 < 400000 := by omega
  generalize y0 % 18000 = z at *
  generalize q0 % 4 = q at *
  generalize v0 % 400000 = v1 at *
  generalize w0 % 400000 = w1 at *
  obtain ⟨k, hk⟩ : ∃ k, k = z - 9000 := ⟨_, rfl⟩
  have ek : wrap64 (z - 9000) = k := by rw [hk]; exact IntWalk.wrap64_in _ (by omega)
  obtain ⟨v, hv⟩ : ∃ v, v = 200000 + v1 := ⟨_, rfl⟩
  have ev : wrap64 (200000 + v1) = v := by rw [hv]; exact IntWalk.wrap64_in _ (by omega)
  obtain ⟨u, hu⟩ : ∃ v, v = 200000 + w1 := ⟨_, rfl⟩
  have eu : wrap64 (200000 + w1) = u := by rw [hu]; exact IntWalk.wrap64_in _ (by omega)
  have kb1 : -9000 ≤ k := by omega
  have kb2 : k < 9000 := by omega
  obtain ⟨-, c, C⟩ := se_find (q := q) (y := k) qb1 (by omega) (by omega) (by omega)
  obtain ⟨z0, z1, z2, z3, z4, z5⟩ := shY_in C (v := v) (by omega)
  obtain ⟨x0, x1, x2, x3, x4, x5⟩ := shY_in C (v := u) (by omega)
  have bd := seY_bd (q := q) (y := k) qb1 (by omega) (by omega) (by omega)
  have F1 := fun W (hT : SinT W) => ShSeason_ok q k v (by omega) (by omega) (by omega) W hT
  have F2 := fun W (hT : SinT W) => ShSeason_ok q k u (by omega) (by omega) (by omega) W hT
  rw [z0] at F1
  rw [x0] at F2
  have F1 := Lib.hid F1
  have F2 := Lib.hid F2
  generalize (shY q k v).1 = a1 at *
  generalize (shY q k v).2.1 = a2 at *
  generalize (shY q k u).1 = b1 at *
  generalize (shY q k u).2.1 = b2 at *
  have M := Lib.hid (fun w => meets_true a1 a2 b1 b2 w (by omega) (by omega))
  have r1 : wrap64 (a2 - a1) = a2 - a1 := IntWalk.wrap64_in _ (by omega)
  have r2 : wrap64 (b2 - b1) = b2 - b1 := IntWalk.wrap64_in _ (by omega)
  have d1 : decide (a2 - a1 ≤ v) = true := decide_eq_true z5
  have d2 : decide (b2 - b1 ≤ u) = true := decide_eq_true x5
  clear C z0 z1 z2 z3 z4 x0 x1 x2 x3 x4 bd ab vb wb hv hu hk hT
  go_enter Tryd.func12, Tryd.ntmps12
  have HB := Lib.hid (Below.refl w.heap.size w)
  go_wp2_with fail
  refine Calls.mono (HW.out) ?_
  rintro e wc1 ⟨rfl, hb⟩
  replace HB := Lib.hid (HB.out.trans (hb.mono HB.out.size))
  clear hb
  go_wp2_with fail
  refine Calls.mono (Aq.out _) ?_
  rintro e wq ⟨rfl, hq⟩
  (first | rw [hq] | rw [← hq])
  clear hq
  go_wp2_with fail
  refine Calls.mono (A.out _) ?_
  rintro e wq ⟨rfl, hq⟩
  (first | rw [hq] | rw [← hq])
  clear hq
  go_wp2_with fail
  refine Calls.mono (Av.out _) ?_
  rintro e wq ⟨rfl, hq⟩
  (first | rw [hq] | rw [← hq])
  clear hq
  go_wp2_with fail
  refine Calls.mono (Aw.out _) ?_
  rintro e wq ⟨rfl, hq⟩
  (first | rw [hq] | rw [← hq])
  clear hq
  go_wp2_with fail
  refine Calls.mono (F1.out _ (HT.out.below HB.out)) ?_
  rintro e wn1 ⟨rfl, hb⟩
  have HB1 := HB.out.trans (hb.mono HB.out.size)
  clear hb
  have Hkl1 := Lib.hid HB1.size; replace HB := Lib.hid (HB1.alloc HB1.size (.cells #[.int .i64 (a1), .int .i64 (a2)] 24))
  clear HB1
  have s1 := Lib.hid (SpBox.new wn1 (a1) (a2))
  obtain ⟨k1, hk1⟩ : ∃ x, x = wn1.heap.size := ⟨_, rfl⟩
  rw [← hk1] at s1 Hkl1
  go_upto_region 5 with fail
  rw [← hk1]
  obtain ⟨X1, hX1⟩ : ∃ X, X = wn1.alloc (.cells #[.int .i64 (a1), .int .i64 (a2)] 24) := ⟨_, rfl⟩
  rw [← hX1] at s1 HB ⊢
  clear hk1 hX1
  go_wp2_with fail
  refine Calls.mono (F2.out _ (HT.out.below HB.out)) ?_
  rintro e wn2 ⟨rfl, hb⟩
  replace s1 := Lib.hid ((s1.out.below hb).alloc (.cells #[.int .i64 (b1), .int .i64 (b2)] 24))
  have HB2 := HB.out.trans (hb.mono HB.out.size)
  clear hb
  have Hkl2 := Lib.hid HB2.size; replace HB := Lib.hid (HB2.alloc HB2.size (.cells #[.int .i64 (b1), .int .i64 (b2)] 24))
  clear HB2
  have s2 := Lib.hid (SpBox.new wn2 (b1) (b2))
  obtain ⟨k2, hk2⟩ : ∃ x, x = wn2.heap.size := ⟨_, rfl⟩
  rw [← hk2] at s2 Hkl2
  go_upto_region 6 with fail
  rw [← hk2]
  obtain ⟨X2, hX2⟩ : ∃ X, X = wn2.alloc (.cells #[.int .i64 (b1), .int .i64 (b2)] 24) := ⟨_, rfl⟩
  rw [← hX2] at s1 s2 HB ⊢
  clear hk2 hX2
  have sc1_0 := s1.out.c0; have sc1_1 := s1.out.c1; have sc1_l := s1.out.lt
  have sc2_0 := s2.out.c0; have sc2_1 := s2.out.c1; have sc2_l := s2.out.lt
  go_wp2_with fail
  refine Calls.mono (M.out _) ?_
  rintro e wc2 ⟨rfl, hb⟩
  replace s1 := Lib.hid (s1.out.below hb)
  replace s2 := Lib.hid (s2.out.below hb)
  replace HB := Lib.hid (HB.out.trans (hb.mono HB.out.size))
  clear sc1_0 sc1_1 sc1_l sc2_0 sc2_1 sc2_l
  clear hb
  have sc1_0 := s1.out.c0; have sc1_1 := s1.out.c1; have sc1_l := s1.out.lt
  have sc2_0 := s2.out.c0; have sc2_1 := s2.out.c1; have sc2_l := s2.out.lt
  go_wp2_with fail
  go_ret
  exact ⟨rfl, HB.out⟩
end Go.Proofs.YtlldmhnkaopjhaaDoor
