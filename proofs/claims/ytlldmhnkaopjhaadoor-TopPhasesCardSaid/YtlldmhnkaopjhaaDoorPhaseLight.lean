/- PhaseLight: nothing of a new moon is lit, half of a moon at its quarters, all of a full moon. -/
import Derived.Test.YtlldmhnkaopjhaaDoorLit
import Derived.Test.YtlldmhnkaopjhaaDoorPhasesInOrder
namespace Go.Proofs.YtlldmhnkaopjhaaDoor
open Go.RowKit
set_option linter.unusedSimpArgs false
set_option linter.unusedVariables false
theorem want_ix {q : Int} (h0 : 0 ≤ q) (h1 : q < 4) : ∀ w : World, (Instr.index 34 (.agg #[.int .i64 0, .int .i64 500000000, .int .i64 1000000000, .int .i64 500000000]) (.int .i64 q)).run Tryd.prog w = .ok (.int .i64 (phWant q)) w := fun w => by
  rcases (by omega : q = 0 ∨ q = 1 ∨ q = 2 ∨ q = 3) with rfl | rfl | rfl | rfl <;> kernel_rfl
theorem want_bd (q : Int) : 0 ≤ phWant q ∧ phWant q ≤ 1000000000 := by unfold phWant; split <;> (try split) <;> omega
theorem li_bd (x : Int) : -10 ≤ liLo x ∧ liLo x ≤ 1000000010 ∧ -10 ≤ liHi x ∧ liHi x ≤ 1000000010 := by
  have t := co_tms (elLo x) (elHi x)
  unfold liLo liHi
  generalize coLo (elLo x) (elHi x) = a at *
  generalize coHi (elLo x) (elHi x) = b at *
  omega
set_option maxRecDepth 100000 in
set_option maxHeartbeats 8000000 in
theorem phaseLight_walk (a0 t0 : Int) (w : World) (hT : SinT w) : Calls Tryd.prog 5 #[.int .i64 a0, .int .i64 t0] w fun e w' => e = .returned (.bool true) ∧ Below w.heap.size w w' := by
  have HW := Lib.hid (phaseWorks_ok w hT)
  have HT := Lib.hid hT
  obtain ⟨k, hk⟩ : ∃ k, k = a0.tmod 90000 := ⟨_, rfl⟩
  obtain ⟨kb1, kb2⟩ := rem_bd a0
  rw [← hk] at kb1 kb2
  have ek2 : a0.tmod 90000 = k := hk.symm
  have A := Lib.hid (fun w => at_any t0 4 w (by omega) (by omega))
  have q1 : 0 ≤ t0 % 4 := by omega
  have q2 : t0 % 4 < 4 := by omega
  generalize t0 % 4 = q at *
  have F1 := Lib.hid (fun W (hT : SinT W) => PFind_ok k q (by omega) (by omega) W hT)
  have ix := want_ix q1 q2
  have wb := want_bd q
  have fb := phF_bd (k := k) (q := q) (by omega) (by omega) q1 (by omega)
  have L := Lib.hid (fun W (hT : SinT W) => Lit_ok (phF k q).1 W hT (by unfold instOk dayOk; exact decide_eq_true (by omega)))
  obtain ⟨l1, l2, l3⟩ := light_law (k := k) (q := q) (by omega) (by omega) q1 (by omega)
  have lb := li_bd (phF k q).1
  generalize liLo (phF k q).1 = lo at *
  generalize liHi (phF k q).1 = hi at *
  generalize (phF k q).1 = x at *
  generalize (phF k q).2 = y at *
  generalize phWant q = wa at *
  have e1 : wrap64 (wa + 2000000) = wa + 2000000 := IntWalk.wrap64_in _ (by omega)
  have e2 : wrap64 (wa - 2000000) = wa - 2000000 := IntWalk.wrap64_in _ (by omega)
  have e3 : wrap64 (hi - lo) = hi - lo := IntWalk.wrap64_in _ (by omega)
  have g1 : decide (lo ≤ wa + 2000000) = true := decide_eq_true l1
  have g2 : decide (wa - 2000000 ≤ hi) = true := decide_eq_true l2
  have g3 : decide (hi - lo < 1000000) = true := decide_eq_true l3
  obtain ⟨lb1, lb2, lb3, lb4⟩ := lb
  obtain ⟨wb1, wb2⟩ := wb
  clear hT hk fb l1 l2 l3
  go_enter Tryd.func5, Tryd.ntmps5
  have HB := Lib.hid (Below.refl w.heap.size w)
  go_wp2_with fail
  refine Calls.mono (HW.out) ?_
  rintro e wc1 ⟨rfl, hb⟩
  replace HB := Lib.hid (HB.out.trans (hb.mono HB.out.size))
  clear hb
  go_wp2_with fail
  refine Calls.mono (A.out _) ?_
  rintro e wq ⟨rfl, hq⟩
  (first | rw [hq] | rw [← hq])
  clear hq
  go_wp2_with fail
  refine Calls.mono (F1.out _ (HT.out.below HB.out)) ?_
  rintro e wn1 ⟨rfl, hb⟩
  have HB1 := HB.out.trans (hb.mono HB.out.size)
  clear hb
  have Hkl1 := Lib.hid HB1.size; replace HB := Lib.hid (HB1.alloc HB1.size (.cells #[.int .i64 (x), .int .i64 (y)] 24))
  clear HB1
  have s1 := Lib.hid (SpBox.new wn1 (x) (y))
  obtain ⟨k1, hk1⟩ : ∃ x, x = wn1.heap.size := ⟨_, rfl⟩
  rw [← hk1] at s1 Hkl1
  go_upto_region 5 with fail
  rw [← hk1]
  obtain ⟨X1, hX1⟩ : ∃ X, X = wn1.alloc (.cells #[.int .i64 (x), .int .i64 (y)] 24) := ⟨_, rfl⟩
  rw [← hX1] at s1 HB ⊢
  clear hk1 hX1
  have sc1_0 := s1.out.c0; have sc1_1 := s1.out.c1; have sc1_l := s1.out.lt
  go_wp2_with fail
  refine Calls.mono (L.out _ (HT.out.below HB.out)) ?_
  rintro e wn2 ⟨rfl, hb⟩
  replace s1 := Lib.hid ((s1.out.below hb).alloc (.cells #[.int .i64 (lo), .int .i64 (hi)] 24))
  have HB2 := HB.out.trans (hb.mono HB.out.size)
  clear sc1_0 sc1_1 sc1_l
  clear hb
  have Hkl2 := Lib.hid HB2.size; replace HB := Lib.hid (HB2.alloc HB2.size (.cells #[.int .i64 (lo), .int .i64 (hi)] 24))
  clear HB2
  have s2 := Lib.hid (SpBox.new wn2 (lo) (hi))
  obtain ⟨k2, hk2⟩ : ∃ x, x = wn2.heap.size := ⟨_, rfl⟩
  rw [← hk2] at s2 Hkl2
  go_upto_region 6 with fail
  rw [← hk2]
  obtain ⟨X2, hX2⟩ : ∃ X, X = wn2.alloc (.cells #[.int .i64 (lo), .int .i64 (hi)] 24) := ⟨_, rfl⟩
  rw [← hX2] at s1 s2 HB ⊢
  clear hk2 hX2
  have sc2_0 := s2.out.c0; have sc2_1 := s2.out.c1; have sc2_l := s2.out.lt
  go_wp2_with fail
  go_ret
  exact ⟨rfl, HB.out⟩
end Go.Proofs.YtlldmhnkaopjhaaDoor
