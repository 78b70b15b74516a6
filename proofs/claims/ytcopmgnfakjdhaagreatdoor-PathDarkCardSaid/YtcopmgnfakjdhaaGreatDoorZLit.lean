/- phase.Lit. -/
import Derived.Test.YtcopmgnfakjdhaaGreatDoorZPhs
import Derived.Test.YtcopmgnfakjdhaaGreatDoorZTrigOs
import Derived.Test.YtcopmgnfakjdhaaGreatDoorZReg
import Derived.Test.YtcopmgnfakjdhaaGreatDoorZTrigA
namespace Go.Proofs.YtcopmgnfakjdhaaGreatDoor
open Go.RowKit
set_option linter.unusedSimpArgs false
set_option linter.unusedVariables false
set_option maxHeartbeats 1000000 in
theorem up_two (a : Int) (w : World) (h1 : -9000000000000000000 ≤ a) (h2 : a ≤ 9000000000000000000) : Calls Tryz.prog 49 #[.int .i64 a, .int .i64 2] w fun e w' => e = .returned (.int .i64 (-(-a / 2))) ∧ Below w.heap.size w w' := by
  have D := Lib.hid (fun w => down_all (-a) 2 w (by omega) (by omega) (by omega) (by omega))
  have b1 : -9000000000000000000 ≤ -a / 2 := by omega
  have b2 : -a / 2 ≤ 9000000000000000000 := by omega
  generalize hd : -a / 2 = d at *
  go_enter Tryz.func49, Tryz.ntmps49
  go_wp2_with fail
  refine Calls.mono (D.out _) ?_
  rintro e w1 ⟨rfl, hb⟩
  have HB := Lib.hid hb
  clear hb
  go_wp2_with fail
  go_ret
  exact ⟨rfl, HB.out⟩
set_option maxRecDepth 100000 in
set_option maxHeartbeats 8000000 in
theorem Lit_ok (x : Int) (w : World) (hT : SinT w) (hin : instOk x = true) : Calls Tryz.prog 19 #[.int .i64 x] w fun e w' => e = .returned (.tuple #[.agg #[.int .i64 (liLo x), .int .i64 (liHi x)], .int .i64 0]) ∧ Below w.heap.size w w' := by
  have E := Lib.hid (fun W (hT : SinT W) => elong_ok x W hT hin)
  have bd := el_bd x
  have C := Lib.hid (fun W (hT : SinT W) => CosOver_ok (elLo x) (elHi x) W hT ⟨by omega, by omega, by omega⟩)
  obtain ⟨t1, t2, t3⟩ := co_tms (elLo x) (elHi x)
  unfold liLo liHi
  generalize coLo (elLo x) (elHi x) = c1 at *
  generalize coHi (elLo x) (elHi x) = c2 at *
  have v1 : IntKind.i64.wrap (1000000000 - c2) = 1000000000 - c2 := IntWalk.i64_in _ (by omega)
  have v2 : IntKind.i64.wrap (1000000000 - c1) = 1000000000 - c1 := IntWalk.i64_in _ (by omega)
  have D := fun w => down_all (1000000000 - c2) 2 w (by omega) (by omega) (by omega) (by omega)
  have U := fun w => up_two (1000000000 - c1) w (by omega) (by omega)
  generalize (1000000000 - c2) / 2 = lo at *
  generalize -(-(1000000000 - c1) / 2) = hi at *
  rw [← v1] at D
  rw [← v2] at U
  have D := Lib.hid D
  have U := Lib.hid U
  clear v1 v2
  have HT := Lib.hid hT
  generalize elLo x = el at *
  generalize elHi x = eh at *
  clear hT hin bd
  go_enter Tryz.func19, Tryz.ntmps19
  have HB := Lib.hid (Below.refl w.heap.size w)
  obtain ⟨k1, hk1⟩ : ∃ x, x = w.heap.size := ⟨_, rfl⟩
  have s1 := SpBox.new w (0) (0)
  rw [← hk1] at s1
  have Hkl1 := Lib.hid (show w.heap.size ≤ k1 by rw [hk1]; omega)
  go_upto_region 1 with fail
  rw [← hk1]
  have HBn := show Below w.heap.size w (w.alloc (.cells #[.int .i64 (0), .int .i64 (0)] 28)) from (by repeat' (first | (with_reducible refine below_drewN ?_ _) | go_grown))
  obtain ⟨X1, hX1⟩ : ∃ X, X = (w.alloc (.cells #[.int .i64 (0), .int .i64 (0)] 28)) := ⟨_, rfl⟩
  rw [← hX1] at s1 HBn ⊢
  clear hX1  HB
  replace s1 := Lib.hid s1
  have HB := Lib.hid HBn; have HK1 := Lib.hid hk1; clear HBn hk1
  go_wp2_with fail
  refine Calls.mono (E.out _ (HT.out.below HB.out)) ?_
  rintro e wn2 ⟨rfl, hb⟩
  have Hd2_1 := Lib.hid (s1.out.below hb).lt
  replace s1 := Lib.hid ((s1.out.below hb).alloc (.cells #[.int .i64 (el), .int .i64 (eh)] 28))
  have HB2 := HB.out.trans (hb.mono HB.out.size)
  clear hb
  have Hkl2 := Lib.hid HB2.size; replace HB := Lib.hid (HB2.alloc HB2.size (.cells #[.int .i64 (el), .int .i64 (eh)] 28))
  clear HB2
  have s2 := Lib.hid (SpBox.new wn2 (el) (eh))
  obtain ⟨k2, hk2⟩ : ∃ x, x = wn2.heap.size := ⟨_, rfl⟩
  rw [← hk2] at s2 Hkl2 Hd2_1
  go_upto_region 2 with fail
  rw [← hk2]
  obtain ⟨X2, hX2⟩ : ∃ X, X = wn2.alloc (.cells #[.int .i64 (el), .int .i64 (eh)] 28) := ⟨_, rfl⟩
  rw [← hX2] at s1 s2 HB ⊢
  clear hk2 hX2
  go_upto_region 4 with fail
  have sc2_0 := s2.out.c0; have sc2_1 := s2.out.c1; have sc2_l := s2.out.lt
  go_wp2_with fail
  refine Calls.mono (C.out _ (HT.out.below HB.out)) ?_
  rintro e wn3 ⟨rfl, hb⟩
  have Hd3_1 := Lib.hid (s1.out.below hb).lt
  have Hd3_2 := Lib.hid (s2.out.below hb).lt
  replace s1 := Lib.hid ((s1.out.below hb).alloc (.cells #[.int .i64 (c1), .int .i64 (c2)] 28))
  replace s2 := Lib.hid ((s2.out.below hb).alloc (.cells #[.int .i64 (c1), .int .i64 (c2)] 28))
  have HB3 := HB.out.trans (hb.mono HB.out.size)
  clear sc2_0 sc2_1 sc2_l
  clear hb
  have Hkl3 := Lib.hid HB3.size; replace HB := Lib.hid (HB3.alloc HB3.size (.cells #[.int .i64 (c1), .int .i64 (c2)] 28))
  clear HB3
  have s3 := Lib.hid (SpBox.new wn3 (c1) (c2))
  obtain ⟨k3, hk3⟩ : ∃ x, x = wn3.heap.size := ⟨_, rfl⟩
  rw [← hk3] at s3 Hkl3 Hd3_1 Hd3_2
  go_upto_region 5 with fail
  rw [← hk3]
  obtain ⟨X3, hX3⟩ : ∃ X, X = wn3.alloc (.cells #[.int .i64 (c1), .int .i64 (c2)] 28) := ⟨_, rfl⟩
  rw [← hX3] at s1 s2 s3 HB ⊢
  clear hk3 hX3
  have n31 : k3 ≠ k1 := Nat.ne_of_gt Hd3_1.out
  obtain ⟨XD, hXD⟩ : ∃ x, x = X3.drew := ⟨_, rfl⟩
  have hf : SpBox XD k3 c1 c2 ∧ SpBox XD k1 0 0 ∧ Below w.heap.size w XD := by rw [hXD]; exact ⟨s3.out.drew, s1.out.drew, HB.out.drew⟩
  have HXD := Lib.hid hXD
  have KK := Lib.hid Hkl1.out
  clear hXD s1 s2 s3 HB
  refine wp_region_G [(9, fun w' => SpBox w' k3 c1 c2 ∧ SpBox w' k1 0 0 ∧ Below w.heap.size w w'), (10, fun _ => True)] (by kernel_rfl) (heldC_two (fun _ => by rw [← HXD.out]; exact hf) (fun _ => trivial)) (fun hF => ?_)
  rw [← HXD.out] at hF ⊢
  refine gT (oi := ?o299) (v := ?v299) 0 ?i299 ?Q299 hF ?w299 ?y299 (by kernel_rfl) (fun hF => ?h299)
  case i299 => (simp only [gA, gB, gC]; rfl)
  case Q299 => exact fun _ _ _ h => h
  case w299 => rfl
  case y299 => (intro wz hz; skip; go_simp; try (with_reducible rfl))
  try simp only [Act.put, uA, uB, uC]
  refine gT (oi := ?o300) (v := ?v300) 1 ?i300 ?Q300 hF ?w300 ?y300 (by kernel_rfl) (fun hF => ?h300)
  case i300 => (simp only [gA, gB, gC]; rfl)
  case Q300 => exact fun _ _ _ h => h
  case w300 => rfl
  case y300 => (intro wz hz; have z0 := hz.1.c1; go_simp; try (with_reducible rfl))
  try simp only [Act.put, uA, uB, uC]
  refine gT (oi := ?o301) (v := ?v301) 2 ?i301 ?Q301 hF ?w301 ?y301 (by kernel_rfl) (fun hF => ?h301)
  case i301 => (simp only [gA, gB, gC]; rfl)
  case Q301 => exact fun _ _ _ h => h
  case w301 => rfl
  case y301 => (intro wz hz; skip; go_simp; try (with_reducible rfl))
  try simp only [Act.put, uA, uB, uC]
  refine gT (oi := ?o302) (v := ?v302) 4 ?i302 ?Q302 hF ?w302 ?y302 (by kernel_rfl) (fun hF => ?h302)
  case i302 => (simp only [gA, gB, gC]; rfl)
  case Q302 => exact fun _ _ _ h => h
  case w302 => rfl
  case y302 => (intro wz hz; skip; go_simp; try (with_reducible rfl))
  try simp only [Act.put, uA, uB, uC]
  refine gT (oi := ?o303) (v := ?v303) 5 ?i303 ?Q303 hF ?w303 ?y303 (by kernel_rfl) (fun hF => ?h303)
  case i303 => (simp only [gA, gB, gC]; rfl)
  case Q303 => exact fun _ _ _ h => h
  case w303 => rfl
  case y303 => (intro wz hz; have z0 := hz.1.c0; go_simp; try (with_reducible rfl))
  try simp only [Act.put, uA, uB, uC]
  refine gT (oi := ?o304) (v := ?v304) 6 ?i304 ?Q304 hF ?w304 ?y304 (by kernel_rfl) (fun hF => ?h304)
  case i304 => (simp only [gA, gB, gC]; rfl)
  case Q304 => exact fun _ _ _ h => h
  case w304 => rfl
  case y304 => (intro wz hz; skip; go_simp; try (with_reducible rfl))
  try simp only [Act.put, uA, uB, uC]
  refine gR (i := 3) (by kernel_rfl) ?_
  refine wpOp_hand (oi := ?oi305) ?hi305 (fun K hK => ?hh305)
  case hi305 => (simp only [gA, gB, gC]; rfl)
  go_simp
  refine Calls.mono (D.out _) ?_
  rintro e V1 ⟨rfl, hb⟩
  have hfn : SpBox V1 k3 c1 c2 ∧ SpBox V1 k1 0 0 ∧ Below w.heap.size w V1 := ⟨hf.1.below hb, hf.2.1.below hb, hf.2.2.trans (hb.mono hf.2.2.size)⟩
  clear hf hb
  have hf := hfn
  clear hfn
  refine hK.out _ _ (heldC_two (fun _ => hf) (fun _ => trivial)) (fun hF => ?_)
  clear hK K
  try simp only [Act.put, uA, uB, uC]
  refine gR (i := 7) (by kernel_rfl) ?_
  refine wpOp_hand (oi := ?oi306) ?hi306 (fun K hK => ?hh306)
  case hi306 => (simp only [gA, gB, gC]; rfl)
  go_simp
  refine Calls.mono (U.out _) ?_
  rintro e V2 ⟨rfl, hb⟩
  have hfn : SpBox V2 k3 c1 c2 ∧ SpBox V2 k1 0 0 ∧ Below w.heap.size w V2 := ⟨hf.1.below hb, hf.2.1.below hb, hf.2.2.trans (hb.mono hf.2.2.size)⟩
  clear hf hb
  have hf := hfn
  clear hfn
  refine hK.out _ _ (heldC_two (fun _ => hf) (fun _ => trivial)) (fun hF => ?_)
  clear hK K
  try simp only [Act.put, uA, uB, uC]
  refine gT (oi := ?o307) (v := ?v307) 8 ?i307 ?Q307 hF ?w307 ?y307 (by kernel_rfl) (fun hF => ?h307)
  case i307 => (simp only [gA, gB, gC]; rfl)
  case Q307 => exact fun _ _ _ h => h
  case w307 => rfl
  case y307 => (intro wz hz; skip; go_simp; try (with_reducible rfl))
  try simp only [Act.put, uA, uB, uC]
  refine gR (i := 9) (by kernel_rfl) ?_
  have x0 := hf.2.1.c0; have x1 := hf.2.1.c1; have x2 := hf.2.1.free 0; have x3 := hf.2.1.free 1; have x4 := hf.2.1.lt
  refine wpOp_hand (oi := ?oi308) ?hi308 (fun K hK => ?hh308)
  case hi308 => (simp only [gA, gB, gC]; rfl)
  go_simp
  have y := hf.2.1.set lo hi
  have hbl := (hf.2.2.setCell (p := ⟨k1, 0, none⟩) KK.out (.int .i64 lo)).setCell (p := ⟨k1, 1, none⟩) KK.out (.int .i64 hi)
  refine hK.out _ _ (heldC_two (fun h => absurd h (by simp)) (fun _ => trivial)) (fun hF => ?_)
  clear hK K
  try simp only [Act.put, uA, uB, uC]
  refine gR (i := 10) (by kernel_rfl) ?_
  refine wpOp_hand (oi := ?oi309) ?hi309 (fun K hK => ?hh309)
  case hi309 => (simp only [gA, gB, gC]; rfl)
  go_simp
  refine hK.out _ _ (heldC_two (fun h => absurd h (by simp)) (fun h => absurd h (by simp))) (fun hF => ?_)
  clear hK K
  try simp only [Act.put, uA, uB, uC]
  refine wpG_done (by kernel_rfl) ?_ _
  clear hf x0 x1 x2 x3 x4
  obtain ⟨W4, hW4⟩ : ∃ x, x = (V2.setCell ⟨k1, 0, none⟩ (.int .i64 lo)).setCell ⟨k1, 1, none⟩ (.int .i64 hi) := ⟨_, rfl⟩
  rw [← hW4] at y hbl ⊢
  clear hW4
  have c30 := y.c0; have c31 := y.c1
  go_wp
  refine bodyPost_ret (v := .tuple #[.agg #[.int .i64 lo, .int .i64 hi], .int .i64 0]) ?_ rfl ⟨rfl, hbl⟩
  simp [results, Tryz.results19, go_sem, c30, c31]
end Go.Proofs.YtcopmgnfakjdhaaGreatDoor
