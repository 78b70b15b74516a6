/- TrigAdds: the sine of a sum is what the theorem of addition says. Region 9 printed by wip/tools/gen-adds.py. -/
import Derived.Test.YtdeoahgcppbmkaaDoorUnit
import Derived.Test.YtdeoahgcppbmkaaDoorAt
import Derived.Test.YtdeoahgcppbmkaaDoorRegH
namespace Go.Proofs.YtdeoahgcppbmkaaDoor
open Go.RowKit
set_option linter.unusedSimpArgs false
set_option linter.unusedVariables false
/-- What the last region reads. -/
structure AdF (w0 w : World) (k1 k2 k3 k4 k5 : Nat) (a1 a2 b1 b2 c1 c2 d1 d2 e1 e2 : Int) : Prop where
  q1 : SpBox w k1 a1 a2
  q2 : SpBox w k2 b1 b2
  q3 : SpBox w k3 c1 c2
  q4 : SpBox w k4 d1 d2
  q5 : SpBox w k5 e1 e2
  bl : Below w0.heap.size w0 w
theorem AdF.below {w0 w w' : World} {k1 k2 k3 k4 k5 : Nat} {a1 a2 b1 b2 c1 c2 d1 d2 e1 e2 : Int} (h : AdF w0 w k1 k2 k3 k4 k5 a1 a2 b1 b2 c1 c2 d1 d2 e1 e2) (hb : Below w.heap.size w w') : AdF w0 w' k1 k2 k3 k4 k5 a1 a2 b1 b2 c1 c2 d1 d2 e1 e2 :=
  ⟨h.q1.below hb, h.q2.below hb, h.q3.below hb, h.q4.below hb, h.q5.below hb, h.bl.trans (hb.mono h.bl.size)⟩
set_option maxRecDepth 100000 in
set_option maxHeartbeats 8000000 in
theorem trigAdds_walk (a b : Int) (w : World) (ht : SinT w) : Calls Tryd.prog 3 #[.int .i64 a, .int .i64 b] w fun e w' => e = .returned (.bool true) ∧ Below w.heap.size w w' := by
  have HW := Lib.hid (trigWorks_ok w ht)
  have HT := Lib.hid ht
  obtain ⟨x, hx⟩ : ∃ x, x = a.tmod 1000000000000 := ⟨_, rfl⟩
  obtain ⟨y, hy⟩ : ∃ y, y = b.tmod 1000000000000 := ⟨_, rfl⟩
  have x1 : -1000000000000 < x ∧ x < 1000000000000 := by rw [hx]; exact ⟨Int.lt_tmod_of_pos _ (by omega), Int.tmod_lt_of_pos _ (by omega)⟩
  have y1 : -1000000000000 < y ∧ y < 1000000000000 := by rw [hy]; exact ⟨Int.lt_tmod_of_pos _ (by omega), Int.tmod_lt_of_pos _ (by omega)⟩
  obtain ⟨z, hz⟩ : ∃ z, z = x + y := ⟨_, rfl⟩
  have wz : wrap64 (x + y) = z := by rw [hz]; exact IntWalk.wrap64_in _ (by omega)
  have C1 := Lib.hid (fun w ht => trSin_ok z w ht (by omega))
  have C2 := Lib.hid (fun w ht => trSin_ok x w ht (by omega))
  have C3 := Lib.hid (fun w ht => trSin_ok y w ht (by omega))
  have C4 := Lib.hid (fun w ht => trCos_ok x w ht (by omega))
  have C5 := Lib.hid (fun w ht => trCos_ok y w ht (by omega))
  obtain ⟨m1, v1, v2, l1, o1, u1⟩ := span_mulOk (sin_span x) (cos_span y)
  obtain ⟨m2, v3, v4, l2, o2, u2⟩ := span_mulOk (cos_span x) (sin_span y)
  have U1 := Lib.hid (fun w => unit_ok _ _ _ _ w v1 v2 m1 l1 o1 u1)
  have U2 := Lib.hid (fun w => unit_ok _ _ _ _ w v3 v4 m2 l2 o2 u2)
  obtain ⟨-, -, n1, n2, n3⟩ := un_rat (sin_span x) (cos_span y) (SN_9 x) (CN_9 y)
  obtain ⟨-, -, n4, n5, n6⟩ := un_rat (cos_span x) (sin_span y) (CN_9 x) (SN_9 y)
  have L := adds_law x y
  rw [← hz] at L
  have PL := Lib.hid (fun w => kPlus_ok (unLo (sLo x) (sHi x) (cLo y) (cHi y)) (unHi (sLo x) (sHi x) (cLo y) (cHi y)) (unLo (cLo x) (cHi x) (sLo y) (sHi y)) (unHi (cLo x) (cHi x) (sLo y) (sHi y)) w (by omega) (by omega))
  have ME := Lib.hid (fun w => meets_true (sLo z) (sHi z) (unLo (sLo x) (sHi x) (cLo y) (cHi y) + unLo (cLo x) (cHi x) (sLo y) (sHi y)) (unHi (sLo x) (sHi x) (cLo y) (cHi y) + unHi (cLo x) (cHi x) (sLo y) (sHi y)) w L.1 L.2)
  have ex : a.tmod 1000000000000 = x := hx.symm
  have ey : b.tmod 1000000000000 = y := hy.symm
  clear ht hx hy hz x1 y1 m1 m2 v1 v2 v3 v4 l1 l2 o1 o2 u1 u2 n1 n2 n3 n4 n5 n6 L
  generalize unLo (sLo x) (sHi x) (cLo y) (cHi y) = p1 at *
  generalize unHi (sLo x) (sHi x) (cLo y) (cHi y) = p2 at *
  generalize unLo (cLo x) (cHi x) (sLo y) (sHi y) = q1 at *
  generalize unHi (cLo x) (cHi x) (sLo y) (sHi y) = q2 at *
  generalize p1 + q1 = r1 at *
  generalize p2 + q2 = r2 at *
  generalize sLo z = zl at *
  generalize sHi z = zh at *
  generalize sLo x = xl at *
  generalize sHi x = xh at *
  generalize sLo y = yl at *
  generalize sHi y = yh at *
  generalize cLo x = cxl at *
  generalize cHi x = cxh at *
  generalize cLo y = cyl at *
  generalize cHi y = cyh at *
  go_enter Tryd.func3, Tryd.ntmps3
  have HB := Lib.hid (Below.refl w.heap.size w)
  go_wp2_with fail
  refine Calls.mono (HW.out) ?_
  rintro e wc1 ⟨rfl, hb⟩
  replace HB := Lib.hid (HB.out.trans (hb.mono HB.out.size))
  clear hb
  go_wp2_with fail
  refine Calls.mono (C1.out _ (HT.out.below HB.out)) ?_
  rintro e wn1 ⟨rfl, hb⟩
  have HB1 := HB.out.trans (hb.mono HB.out.size)
  clear hb
  replace HB := Lib.hid (HB1.alloc HB1.size (.cells #[.int .i64 (zl), .int .i64 (zh)] 24))
  clear HB1
  have s1 := Lib.hid (SpBox.new wn1 (zl) (zh))
  obtain ⟨k1, hk1⟩ : ∃ x, x = wn1.heap.size := ⟨_, rfl⟩
  rw [← hk1] at s1
  go_upto_region 5 with fail
  rw [← hk1]
  obtain ⟨X1, hX1⟩ : ∃ X, X = wn1.alloc (.cells #[.int .i64 (zl), .int .i64 (zh)] 24) := ⟨_, rfl⟩
  rw [← hX1] at s1 HB ⊢
  clear hk1 hX1
  go_wp2_with fail
  refine Calls.mono (C2.out _ (HT.out.below HB.out)) ?_
  rintro e wn2 ⟨rfl, hb⟩
  replace s1 := Lib.hid ((s1.out.below hb).alloc (.cells #[.int .i64 (xl), .int .i64 (xh)] 24))
  have HB2 := HB.out.trans (hb.mono HB.out.size)
  clear hb
  replace HB := Lib.hid (HB2.alloc HB2.size (.cells #[.int .i64 (xl), .int .i64 (xh)] 24))
  clear HB2
  have s2 := Lib.hid (SpBox.new wn2 (xl) (xh))
  obtain ⟨k2, hk2⟩ : ∃ x, x = wn2.heap.size := ⟨_, rfl⟩
  rw [← hk2] at s2
  go_upto_region 6 with fail
  rw [← hk2]
  obtain ⟨X2, hX2⟩ : ∃ X, X = wn2.alloc (.cells #[.int .i64 (xl), .int .i64 (xh)] 24) := ⟨_, rfl⟩
  rw [← hX2] at s1 s2 HB ⊢
  clear hk2 hX2
  go_wp2_with fail
  refine Calls.mono (C3.out _ (HT.out.below HB.out)) ?_
  rintro e wn3 ⟨rfl, hb⟩
  replace s1 := Lib.hid ((s1.out.below hb).alloc (.cells #[.int .i64 (yl), .int .i64 (yh)] 24))
  replace s2 := Lib.hid ((s2.out.below hb).alloc (.cells #[.int .i64 (yl), .int .i64 (yh)] 24))
  have HB3 := HB.out.trans (hb.mono HB.out.size)
  clear hb
  replace HB := Lib.hid (HB3.alloc HB3.size (.cells #[.int .i64 (yl), .int .i64 (yh)] 24))
  clear HB3
  have s3 := Lib.hid (SpBox.new wn3 (yl) (yh))
  obtain ⟨k3, hk3⟩ : ∃ x, x = wn3.heap.size := ⟨_, rfl⟩
  rw [← hk3] at s3
  go_upto_region 7 with fail
  rw [← hk3]
  obtain ⟨X3, hX3⟩ : ∃ X, X = wn3.alloc (.cells #[.int .i64 (yl), .int .i64 (yh)] 24) := ⟨_, rfl⟩
  rw [← hX3] at s1 s2 s3 HB ⊢
  clear hk3 hX3
  go_wp2_with fail
  refine Calls.mono (C4.out _ (HT.out.below HB.out)) ?_
  rintro e wn4 ⟨rfl, hb⟩
  replace s1 := Lib.hid ((s1.out.below hb).alloc (.cells #[.int .i64 (cxl), .int .i64 (cxh)] 24))
  replace s2 := Lib.hid ((s2.out.below hb).alloc (.cells #[.int .i64 (cxl), .int .i64 (cxh)] 24))
  replace s3 := Lib.hid ((s3.out.below hb).alloc (.cells #[.int .i64 (cxl), .int .i64 (cxh)] 24))
  have HB4 := HB.out.trans (hb.mono HB.out.size)
  clear hb
  replace HB := Lib.hid (HB4.alloc HB4.size (.cells #[.int .i64 (cxl), .int .i64 (cxh)] 24))
  clear HB4
  have s4 := Lib.hid (SpBox.new wn4 (cxl) (cxh))
  obtain ⟨k4, hk4⟩ : ∃ x, x = wn4.heap.size := ⟨_, rfl⟩
  rw [← hk4] at s4
  go_upto_region 8 with fail
  rw [← hk4]
  obtain ⟨X4, hX4⟩ : ∃ X, X = wn4.alloc (.cells #[.int .i64 (cxl), .int .i64 (cxh)] 24) := ⟨_, rfl⟩
  rw [← hX4] at s1 s2 s3 s4 HB ⊢
  clear hk4 hX4
  go_wp2_with fail
  refine Calls.mono (C5.out _ (HT.out.below HB.out)) ?_
  rintro e wn5 ⟨rfl, hb⟩
  replace s1 := Lib.hid ((s1.out.below hb).alloc (.cells #[.int .i64 (cyl), .int .i64 (cyh)] 24))
  replace s2 := Lib.hid ((s2.out.below hb).alloc (.cells #[.int .i64 (cyl), .int .i64 (cyh)] 24))
  replace s3 := Lib.hid ((s3.out.below hb).alloc (.cells #[.int .i64 (cyl), .int .i64 (cyh)] 24))
  replace s4 := Lib.hid ((s4.out.below hb).alloc (.cells #[.int .i64 (cyl), .int .i64 (cyh)] 24))
  have HB5 := HB.out.trans (hb.mono HB.out.size)
  clear hb
  replace HB := Lib.hid (HB5.alloc HB5.size (.cells #[.int .i64 (cyl), .int .i64 (cyh)] 24))
  clear HB5
  have s5 := Lib.hid (SpBox.new wn5 (cyl) (cyh))
  obtain ⟨k5, hk5⟩ : ∃ x, x = wn5.heap.size := ⟨_, rfl⟩
  rw [← hk5] at s5
  go_upto_region 9 with fail
  rw [← hk5]
  obtain ⟨X5, hX5⟩ : ∃ X, X = wn5.alloc (.cells #[.int .i64 (cyl), .int .i64 (cyh)] 24) := ⟨_, rfl⟩
  rw [← hX5] at s1 s2 s3 s4 s5 HB ⊢
  clear hk5 hX5
  have hf : AdF w X5.drew k1 k2 k3 k4 k5 zl zh xl xh yl yh cxl cxh cyl cyh := ⟨s1.out, s2.out, s3.out, s4.out, s5.out, HB.out.drew⟩
  clear s1 s2 s3 s4 s5 HB HT HW C1 C2 C3 C4 C5
  refine wp_region_G [(29, fun w' => AdF w w' k1 k2 k3 k4 k5 zl zh xl xh yl yh cxl cxh cyl cyh)] (by kernel_rfl) (heldC_one (fun _ => hf)) (fun hF => ?_)
  refine wpG_take (oi := ?oi1) (v := ?vv1) 0 _ ?hi1 (List.Mem.head _) ?hc1 ?hQ1 hF ?hw1 ?hy1 (fun hF => ?hh1)
  case hi1 => (simp only [List.getElem?_toArray, List.getElem?_cons_succ, List.getElem?_cons_zero]; rfl)
  case hc1 => kernel_rfl
  case hQ1 => exact fun _ _ _ h => h
  case hw1 => rfl
  case hy1 => (intro wz hz; skip; go_simp; try (with_reducible rfl))
  try simp only [Act.put, List.setIfInBounds_toArray, List.set_cons_zero, List.set_cons_succ]
  refine wpG_take (oi := ?oi2) (v := ?vv2) 1 _ ?hi2 (List.Mem.head _) ?hc2 ?hQ2 hF ?hw2 ?hy2 (fun hF => ?hh2)
  case hi2 => (simp only [List.getElem?_toArray, List.getElem?_cons_succ, List.getElem?_cons_zero]; rfl)
  case hc2 => kernel_rfl
  case hQ2 => exact fun _ _ _ h => h
  case hw2 => rfl
  case hy2 => (intro wz hz; skip; go_simp; try (with_reducible rfl))
  try simp only [Act.put, List.setIfInBounds_toArray, List.set_cons_zero, List.set_cons_succ]
  refine wpG_take (oi := ?oi3) (v := ?vv3) 2 _ ?hi3 (List.Mem.head _) ?hc3 ?hQ3 hF ?hw3 ?hy3 (fun hF => ?hh3)
  case hi3 => (simp only [List.getElem?_toArray, List.getElem?_cons_succ, List.getElem?_cons_zero]; rfl)
  case hc3 => kernel_rfl
  case hQ3 => exact fun _ _ _ h => h
  case hw3 => rfl
  case hy3 => (intro wz hz; skip; go_simp; try (with_reducible rfl))
  try simp only [Act.put, List.setIfInBounds_toArray, List.set_cons_zero, List.set_cons_succ]
  refine wpG_take (oi := ?oi4) (v := ?vv4) 3 _ ?hi4 (List.Mem.head _) ?hc4 ?hQ4 hF ?hw4 ?hy4 (fun hF => ?hh4)
  case hi4 => (simp only [List.getElem?_toArray, List.getElem?_cons_succ, List.getElem?_cons_zero]; rfl)
  case hc4 => kernel_rfl
  case hQ4 => exact fun _ _ _ h => h
  case hw4 => rfl
  case hy4 => (intro wz hz; skip; go_simp; try (with_reducible rfl))
  try simp only [Act.put, List.setIfInBounds_toArray, List.set_cons_zero, List.set_cons_succ]
  refine wpG_take (oi := ?oi5) (v := ?vv5) 4 _ ?hi5 (List.Mem.head _) ?hc5 ?hQ5 hF ?hw5 ?hy5 (fun hF => ?hh5)
  case hi5 => (simp only [List.getElem?_toArray, List.getElem?_cons_succ, List.getElem?_cons_zero]; rfl)
  case hc5 => kernel_rfl
  case hQ5 => exact fun _ _ _ h => h
  case hw5 => rfl
  case hy5 => (intro wz hz; skip; go_simp; try (with_reducible rfl))
  try simp only [Act.put, List.setIfInBounds_toArray, List.set_cons_zero, List.set_cons_succ]
  refine wpG_take (oi := ?oi6) (v := ?vv6) 5 _ ?hi6 (List.Mem.head _) ?hc6 ?hQ6 hF ?hw6 ?hy6 (fun hF => ?hh6)
  case hi6 => (simp only [List.getElem?_toArray, List.getElem?_cons_succ, List.getElem?_cons_zero]; rfl)
  case hc6 => kernel_rfl
  case hQ6 => exact fun _ _ _ h => h
  case hw6 => rfl
  case hy6 => (intro wz hz; skip; go_simp; try (with_reducible rfl))
  try simp only [Act.put, List.setIfInBounds_toArray, List.set_cons_zero, List.set_cons_succ]
  refine wpG_take (oi := ?oi7) (v := ?vv7) 6 _ ?hi7 (List.Mem.head _) ?hc7 ?hQ7 hF ?hw7 ?hy7 (fun hF => ?hh7)
  case hi7 => (simp only [List.getElem?_toArray, List.getElem?_cons_succ, List.getElem?_cons_zero]; rfl)
  case hc7 => kernel_rfl
  case hQ7 => exact fun _ _ _ h => h
  case hw7 => rfl
  case hy7 => (intro wz hz; skip; go_simp; try (with_reducible rfl))
  try simp only [Act.put, List.setIfInBounds_toArray, List.set_cons_zero, List.set_cons_succ]
  refine wpG_take (oi := ?oi8) (v := ?vv8) 7 _ ?hi8 (List.Mem.head _) ?hc8 ?hQ8 hF ?hw8 ?hy8 (fun hF => ?hh8)
  case hi8 => (simp only [List.getElem?_toArray, List.getElem?_cons_succ, List.getElem?_cons_zero]; rfl)
  case hc8 => kernel_rfl
  case hQ8 => exact fun _ _ _ h => h
  case hw8 => rfl
  case hy8 => (intro wz hz; skip; go_simp; try (with_reducible rfl))
  try simp only [Act.put, List.setIfInBounds_toArray, List.set_cons_zero, List.set_cons_succ]
  refine wpG_take (oi := ?oi9) (v := ?vv9) 8 _ ?hi9 (List.Mem.head _) ?hc9 ?hQ9 hF ?hw9 ?hy9 (fun hF => ?hh9)
  case hi9 => (simp only [List.getElem?_toArray, List.getElem?_cons_succ, List.getElem?_cons_zero]; rfl)
  case hc9 => kernel_rfl
  case hQ9 => exact fun _ _ _ h => h
  case hw9 => rfl
  case hy9 => (intro wz hz; skip; go_simp; try (with_reducible rfl))
  try simp only [Act.put, List.setIfInBounds_toArray, List.set_cons_zero, List.set_cons_succ]
  refine wpG_take (oi := ?oi10) (v := ?vv10) 9 _ ?hi10 (List.Mem.head _) ?hc10 ?hQ10 hF ?hw10 ?hy10 (fun hF => ?hh10)
  case hi10 => (simp only [List.getElem?_toArray, List.getElem?_cons_succ, List.getElem?_cons_zero]; rfl)
  case hc10 => kernel_rfl
  case hQ10 => exact fun _ _ _ h => h
  case hw10 => rfl
  case hy10 => (intro wz hz; skip; go_simp; try (with_reducible rfl))
  try simp only [Act.put, List.setIfInBounds_toArray, List.set_cons_zero, List.set_cons_succ]
  refine wpG_take (oi := ?oi11) (v := ?vv11) 10 _ ?hi11 (List.Mem.head _) ?hc11 ?hQ11 hF ?hw11 ?hy11 (fun hF => ?hh11)
  case hi11 => (simp only [List.getElem?_toArray, List.getElem?_cons_succ, List.getElem?_cons_zero]; rfl)
  case hc11 => kernel_rfl
  case hQ11 => exact fun _ _ _ h => h
  case hw11 => rfl
  case hy11 => (intro wz hz; skip; go_simp; try (with_reducible rfl))
  try simp only [Act.put, List.setIfInBounds_toArray, List.set_cons_zero, List.set_cons_succ]
  refine wpG_take (oi := ?oi12) (v := ?vv12) 11 _ ?hi12 (List.Mem.head _) ?hc12 ?hQ12 hF ?hw12 ?hy12 (fun hF => ?hh12)
  case hi12 => (simp only [List.getElem?_toArray, List.getElem?_cons_succ, List.getElem?_cons_zero]; rfl)
  case hc12 => kernel_rfl
  case hQ12 => exact fun _ _ _ h => h
  case hw12 => rfl
  case hy12 => (intro wz hz; skip; go_simp; try (with_reducible rfl))
  try simp only [Act.put, List.setIfInBounds_toArray, List.set_cons_zero, List.set_cons_succ]
  refine wpG_take (oi := ?oi13) (v := ?vv13) 12 _ ?hi13 (List.Mem.head _) ?hc13 ?hQ13 hF ?hw13 ?hy13 (fun hF => ?hh13)
  case hi13 => (simp only [List.getElem?_toArray, List.getElem?_cons_succ, List.getElem?_cons_zero]; rfl)
  case hc13 => kernel_rfl
  case hQ13 => exact fun _ _ _ h => h
  case hw13 => rfl
  case hy13 => (intro wz hz; skip; go_simp; try (with_reducible rfl))
  try simp only [Act.put, List.setIfInBounds_toArray, List.set_cons_zero, List.set_cons_succ]
  refine wpG_take (oi := ?oi14) (v := ?vv14) 13 _ ?hi14 (List.Mem.head _) ?hc14 ?hQ14 hF ?hw14 ?hy14 (fun hF => ?hh14)
  case hi14 => (simp only [List.getElem?_toArray, List.getElem?_cons_succ, List.getElem?_cons_zero]; rfl)
  case hc14 => kernel_rfl
  case hQ14 => exact fun _ _ _ h => h
  case hw14 => rfl
  case hy14 => (intro wz hz; skip; go_simp; try (with_reducible rfl))
  try simp only [Act.put, List.setIfInBounds_toArray, List.set_cons_zero, List.set_cons_succ]
  refine wpG_take (oi := ?oi15) (v := ?vv15) 14 _ ?hi15 (List.Mem.head _) ?hc15 ?hQ15 hF ?hw15 ?hy15 (fun hF => ?hh15)
  case hi15 => (simp only [List.getElem?_toArray, List.getElem?_cons_succ, List.getElem?_cons_zero]; rfl)
  case hc15 => kernel_rfl
  case hQ15 => exact fun _ _ _ h => h
  case hw15 => rfl
  case hy15 => (intro wz hz; skip; go_simp; try (with_reducible rfl))
  try simp only [Act.put, List.setIfInBounds_toArray, List.set_cons_zero, List.set_cons_succ]
  refine wpG_take (oi := ?oi16) (v := ?vv16) 15 _ ?hi16 (List.Mem.head _) ?hc16 ?hQ16 hF ?hw16 ?hy16 (fun hF => ?hh16)
  case hi16 => (simp only [List.getElem?_toArray, List.getElem?_cons_succ, List.getElem?_cons_zero]; rfl)
  case hc16 => kernel_rfl
  case hQ16 => exact fun _ _ _ h => h
  case hw16 => rfl
  case hy16 => (intro wz hz; skip; go_simp; try (with_reducible rfl))
  try simp only [Act.put, List.setIfInBounds_toArray, List.set_cons_zero, List.set_cons_succ]
  refine wpG_take (oi := ?oi17) (v := ?vv17) 16 _ ?hi17 (List.Mem.head _) ?hc17 ?hQ17 hF ?hw17 ?hy17 (fun hF => ?hh17)
  case hi17 => (simp only [List.getElem?_toArray, List.getElem?_cons_succ, List.getElem?_cons_zero]; rfl)
  case hc17 => kernel_rfl
  case hQ17 => exact fun _ _ _ h => h
  case hw17 => rfl
  case hy17 => (intro wz hz; skip; go_simp; try (with_reducible rfl))
  try simp only [Act.put, List.setIfInBounds_toArray, List.set_cons_zero, List.set_cons_succ]
  refine wpG_take (oi := ?oi18) (v := ?vv18) 17 _ ?hi18 (List.Mem.head _) ?hc18 ?hQ18 hF ?hw18 ?hy18 (fun hF => ?hh18)
  case hi18 => (simp only [List.getElem?_toArray, List.getElem?_cons_succ, List.getElem?_cons_zero]; rfl)
  case hc18 => kernel_rfl
  case hQ18 => exact fun _ _ _ h => h
  case hw18 => rfl
  case hy18 => (intro wz hz; skip; go_simp; try (with_reducible rfl))
  try simp only [Act.put, List.setIfInBounds_toArray, List.set_cons_zero, List.set_cons_succ]
  refine wpG_take (oi := ?oi19) (v := ?vv19) 18 _ ?hi19 (List.Mem.head _) ?hc19 ?hQ19 hF ?hw19 ?hy19 (fun hF => ?hh19)
  case hi19 => (simp only [List.getElem?_toArray, List.getElem?_cons_succ, List.getElem?_cons_zero]; rfl)
  case hc19 => kernel_rfl
  case hQ19 => exact fun _ _ _ h => h
  case hw19 => rfl
  case hy19 => (intro wz hz; skip; go_simp; try (with_reducible rfl))
  try simp only [Act.put, List.setIfInBounds_toArray, List.set_cons_zero, List.set_cons_succ]
  refine wpG_take (oi := ?oi20) (v := ?vv20) 19 _ ?hi20 (List.Mem.head _) ?hc20 ?hQ20 hF ?hw20 ?hy20 (fun hF => ?hh20)
  case hi20 => (simp only [List.getElem?_toArray, List.getElem?_cons_succ, List.getElem?_cons_zero]; rfl)
  case hc20 => kernel_rfl
  case hQ20 => exact fun _ _ _ h => h
  case hw20 => rfl
  case hy20 => (intro wz hz; have z0 := hz.q1.c0; have z1 := hz.q1.c1; go_simp; try (with_reducible rfl))
  try simp only [Act.put, List.setIfInBounds_toArray, List.set_cons_zero, List.set_cons_succ]
  refine wpG_take (oi := ?oi21) (v := ?vv21) 20 _ ?hi21 (List.Mem.head _) ?hc21 ?hQ21 hF ?hw21 ?hy21 (fun hF => ?hh21)
  case hi21 => (simp only [List.getElem?_toArray, List.getElem?_cons_succ, List.getElem?_cons_zero]; rfl)
  case hc21 => kernel_rfl
  case hQ21 => exact fun _ _ _ h => h
  case hw21 => rfl
  case hy21 => (intro wz hz; have z0 := hz.q2.c0; have z1 := hz.q2.c1; go_simp; try (with_reducible rfl))
  try simp only [Act.put, List.setIfInBounds_toArray, List.set_cons_zero, List.set_cons_succ]
  refine wpG_take (oi := ?oi22) (v := ?vv22) 21 _ ?hi22 (List.Mem.head _) ?hc22 ?hQ22 hF ?hw22 ?hy22 (fun hF => ?hh22)
  case hi22 => (simp only [List.getElem?_toArray, List.getElem?_cons_succ, List.getElem?_cons_zero]; rfl)
  case hc22 => kernel_rfl
  case hQ22 => exact fun _ _ _ h => h
  case hw22 => rfl
  case hy22 => (intro wz hz; have z0 := hz.q5.c0; have z1 := hz.q5.c1; go_simp; try (with_reducible rfl))
  try simp only [Act.put, List.setIfInBounds_toArray, List.set_cons_zero, List.set_cons_succ]
  refine wpG_take (oi := ?oi23) (v := ?vv23) 23 _ ?hi23 (List.Mem.head _) ?hc23 ?hQ23 hF ?hw23 ?hy23 (fun hF => ?hh23)
  case hi23 => (simp only [List.getElem?_toArray, List.getElem?_cons_succ, List.getElem?_cons_zero]; rfl)
  case hc23 => kernel_rfl
  case hQ23 => exact fun _ _ _ h => h
  case hw23 => rfl
  case hy23 => (intro wz hz; have z0 := hz.q4.c0; have z1 := hz.q4.c1; go_simp; try (with_reducible rfl))
  try simp only [Act.put, List.setIfInBounds_toArray, List.set_cons_zero, List.set_cons_succ]
  refine wpG_take (oi := ?oi24) (v := ?vv24) 24 _ ?hi24 (List.Mem.head _) ?hc24 ?hQ24 hF ?hw24 ?hy24 (fun hF => ?hh24)
  case hi24 => (simp only [List.getElem?_toArray, List.getElem?_cons_succ, List.getElem?_cons_zero]; rfl)
  case hc24 => kernel_rfl
  case hQ24 => exact fun _ _ _ h => h
  case hw24 => rfl
  case hy24 => (intro wz hz; have z0 := hz.q3.c0; have z1 := hz.q3.c1; go_simp; try (with_reducible rfl))
  try simp only [Act.put, List.setIfInBounds_toArray, List.set_cons_zero, List.set_cons_succ]
  refine wpG_ready (rs := [22]) (by kernel_rfl) (by simp) ?_
  refine all_one ?_
  refine wpOp_hand (oi := ?oi25) ?hi25 (fun K hK => ?hh25)
  case hi25 => (simp only [List.getElem?_toArray, List.getElem?_cons_succ, List.getElem?_cons_zero]; rfl)
  go_simp
  refine Calls.mono (U1.out _) ?_
  rintro e y22 ⟨rfl, hb⟩
  replace hf := hf.below hb
  clear hb
  refine hK.out _ _ (heldC_one (fun _ => hf)) (fun hF => ?_)
  clear hK K
  try simp only [Act.put, List.setIfInBounds_toArray, List.set_cons_zero, List.set_cons_succ]
  refine wpG_ready (rs := [25]) (by kernel_rfl) (by simp) ?_
  refine all_one ?_
  refine wpOp_hand (oi := ?oi26) ?hi26 (fun K hK => ?hh26)
  case hi26 => (simp only [List.getElem?_toArray, List.getElem?_cons_succ, List.getElem?_cons_zero]; rfl)
  go_simp
  refine Calls.mono (U2.out _) ?_
  rintro e y25 ⟨rfl, hb⟩
  replace hf := hf.below hb
  clear hb
  refine hK.out _ _ (heldC_one (fun _ => hf)) (fun hF => ?_)
  clear hK K
  try simp only [Act.put, List.setIfInBounds_toArray, List.set_cons_zero, List.set_cons_succ]
  refine wpG_ready (rs := [26]) (by kernel_rfl) (by simp) ?_
  refine all_one ?_
  refine wpOp_hand (oi := ?oi27) ?hi27 (fun K hK => ?hh27)
  case hi27 => (simp only [List.getElem?_toArray, List.getElem?_cons_succ, List.getElem?_cons_zero]; rfl)
  go_simp
  refine Calls.mono (PL.out _) ?_
  rintro e y26 ⟨rfl, hb⟩
  replace hf := hf.below hb
  clear hb
  refine hK.out _ _ (heldC_one (fun _ => hf)) (fun hF => ?_)
  clear hK K
  try simp only [Act.put, List.setIfInBounds_toArray, List.set_cons_zero, List.set_cons_succ]
  refine wpG_ready (rs := [27]) (by kernel_rfl) (by simp) ?_
  refine all_one ?_
  refine wpOp_hand (oi := ?oi28) ?hi28 (fun K hK => ?hh28)
  case hi28 => (simp only [List.getElem?_toArray, List.getElem?_cons_succ, List.getElem?_cons_zero]; rfl)
  go_simp
  refine Calls.mono (ME.out _) ?_
  rintro e y27 ⟨rfl, hb⟩
  replace hf := hf.below hb
  clear hb
  refine hK.out _ _ (heldC_one (fun _ => hf)) (fun hF => ?_)
  clear hK K
  try simp only [Act.put, List.setIfInBounds_toArray, List.set_cons_zero, List.set_cons_succ]
  refine wpG_take (oi := ?oi29) (v := ?vv29) 28 _ ?hi29 (List.Mem.head _) ?hc29 ?hQ29 hF ?hw29 ?hy29 (fun hF => ?hh29)
  case hi29 => (simp only [List.getElem?_toArray, List.getElem?_cons_succ, List.getElem?_cons_zero]; rfl)
  case hc29 => kernel_rfl
  case hQ29 => exact fun _ _ _ h => h
  case hw29 => rfl
  case hy29 => (intro wz hz; skip; go_simp; try (with_reducible rfl))
  try simp only [Act.put, List.setIfInBounds_toArray, List.set_cons_zero, List.set_cons_succ]
  refine wpG_ready (rs := [29]) (by kernel_rfl) (by simp) ?_
  refine all_one ?_
  refine wpOp_hand (oi := ?oi30) ?hi30 (fun K hK => ?hh30)
  case hi30 => (simp only [List.getElem?_toArray, List.getElem?_cons_succ, List.getElem?_cons_zero]; rfl)
  go_simp
  refine hK.out _ _ (heldC_one (fun h => absurd h (by simp))) (fun hF => ?_)
  clear hK K
  try simp only [Act.put, List.setIfInBounds_toArray, List.set_cons_zero, List.set_cons_succ]
  refine wpG_done (by kernel_rfl) ?_ _
  go_wp2_with fail
  go_ret
  exact ⟨rfl, hf.bl⟩
end Go.Proofs.YtdeoahgcppbmkaaDoor
