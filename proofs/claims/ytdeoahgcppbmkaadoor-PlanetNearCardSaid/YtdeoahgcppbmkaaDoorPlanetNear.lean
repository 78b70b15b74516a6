/- PlanetNear: the inner planets are never far from the sun. -/
import Derived.Test.YtdeoahgcppbmkaaDoorPlanC
import Derived.Test.YtdeoahgcppbmkaaDoorSame
namespace Go.Proofs.YtdeoahgcppbmkaaDoor
open Go.RowKit
set_option linter.unusedSimpArgs false
set_option linter.unusedVariables false
theorem nr_num : 387100000 ≤ sLo 63270000 ∧ 723100000 ≤ sLo 128650000 := by decide +kernel
theorem near0 (t : Int) : ∃ j : Int, -(63270000 + 32700 + 2002) ≤ geLo 0 t - 1000000000 * j ∧ geLo 0 t - 1000000000 * j ≤ 63270000 ∧ -63270000 ≤ geHi 0 t - 1000000000 * j := by
  have n := Rat.intCast_le_intCast.2 nr_num.1
  rw [show ((387100000 : Int) : Rat) = 387100000 from rfl] at n
  have s := (sine_in 63270000).lo
  have er : ((pnRad 0 : Int) : Rat) = 387 := rfl
  refine el_law 0 (by omega) t (K := 3870001 / 10000000) (w := 32700) (gam := 41 / 1000000) (B := 63270000) (wi := 32700) (by decide) (by grind) (by grind) (by rw [er]; grind) (by omega) (by omega) ?_ (by rw [er]; grind) (by grind) (by grind) (by grind) (by rw [show ((32700 : Int) : Rat) = 32700 from rfl]; grind) (by omega) (by grind)
  rw [SA_int]
  generalize SN 63270000 = z at *
  grind
theorem near1 (t : Int) : ∃ j : Int, -(128650000 + 102300 + 2002) ≤ geLo 1 t - 1000000000 * j ∧ geLo 1 t - 1000000000 * j ≤ 128650000 ∧ -128650000 ≤ geHi 1 t - 1000000000 * j := by
  have n := Rat.intCast_le_intCast.2 nr_num.2
  rw [show ((723100000 : Int) : Rat) = 723100000 from rfl] at n
  have s := (sine_in 128650000).lo
  have er : ((pnRad 1 : Int) : Rat) = 723 := rfl
  refine el_law 1 (by omega) t (K := 7230001 / 10000000) (w := 102300) (gam := 1284 / 10000000) (B := 128650000) (wi := 102300) (by decide) (by grind) (by grind) (by rw [er]; grind) (by omega) (by omega) ?_ (by rw [er]; grind) (by grind) (by grind) (by grind) (by rw [show ((102300 : Int) : Rat) = 102300 from rfl]; grind) (by omega) (by grind)
  rw [SA_int]
  generalize SN 128650000 = z at *
  grind
theorem ge_bd (i : Nat) (hi : i < 5) (t : Int) : 0 ≤ geLo i t ∧ geLo i t < 1000000000 ∧ -200000000000 ≤ geHi i t ∧ geHi i t ≤ 200000000000 := by
  have a := pg_bd i hi t
  have b : 0 ≤ slLo t ∧ slLo t < 1000000000 ∧ slLo t ≤ slHi t ∧ slHi t ≤ 130000000000 := an_bd sun_in
  unfold geLo geHi lsLo lsHi
  generalize pgLo i t = x at *
  generalize pgHi i t = y at *
  generalize slLo t = z at *
  generalize slHi t = u at *
  omega
set_option maxRecDepth 100000 in
set_option maxHeartbeats 8000000 in
theorem planetNear_walk (t : Int) (w : World) (hT : SinT w ∧ PlanT w) : Calls Tryd.prog 13 #[.int .i64 t] w fun e w' => e = .returned (.bool true) ∧ Below w.heap.size w w' := by
  obtain ⟨hT, hP⟩ := hT
  have HW := Lib.hid (planetWorks_ok w hT hP)
  have HT := Lib.hid hT; have HP := Lib.hid hP
  have I := Lib.hid (fun w => instant_ok t w)
  have k1 := instant_in t
  generalize t % 604800000000000 - 302400000000000 = x at *
  have L0 := Lib.hid (fun W (hT : SinT W) (h : PlanT W) => pElong_ok 0 (by omega) x W hT h k1)
  have L1 := Lib.hid (fun W (hT : SinT W) (h : PlanT W) => pElong_ok 1 (by omega) x W hT h k1)
  have en0 : pnN 0 = ⟨#[109, 101, 114, 99, 117, 114, 121]⟩ := rfl
  have en1 : pnN 1 = ⟨#[118, 101, 110, 117, 115]⟩ := rfl
  rw [en0] at L0
  rw [en1] at L1
  obtain ⟨j0, a1, a2, a3⟩ := near0 x
  obtain ⟨j1, b1, b2, b3⟩ := near1 x
  have c0 := ge_bd 0 (by omega) x
  have c1 := ge_bd 1 (by omega) x
  clear hT hP k1 en0 en1
  generalize geLo 0 x = p at *
  generalize geHi 0 x = q at *
  generalize geLo 1 x = r at *
  generalize geHi 1 x = s at *
  have S0 := Lib.hid (fun w => same_any p q (-63300000) 63300000 w (by omega) (by omega) (by omega) (by omega) (same_pt (m := j0) (by omega) (by omega)))
  have S1 := Lib.hid (fun w => same_any r s (-128700000) 128700000 w (by omega) (by omega) (by omega) (by omega) (same_pt (m := j1) (by omega) (by omega)))
  have A0 := Lib.hid (fun w => at_any (p + 63400000) 1000000000 w (by omega) (by omega))
  have A1 := Lib.hid (fun w => at_any (r + 128800000) 1000000000 w (by omega) (by omega))
  have e0 : wrap64 (p + 63400000) = p + 63400000 := IntWalk.wrap64_in _ (by omega)
  have e1 : wrap64 (r + 128800000) = r + 128800000 := IntWalk.wrap64_in _ (by omega)
  have g0 : decide ((p + 63400000) % 1000000000 < 126900000) = true := decide_eq_true (by omega)
  have g1 : decide ((r + 128800000) % 1000000000 < 257600000) = true := decide_eq_true (by omega)
  generalize (p + 63400000) % 1000000000 = y0 at *
  generalize (r + 128800000) % 1000000000 = y1 at *
  clear a1 a2 a3 b1 b2 b3 c0 c1
  go_enter Tryd.func13, Tryd.ntmps13
  have HB := Lib.hid (Below.refl w.heap.size w)
  go_wp2_with fail
  refine Calls.mono (HW.out) ?_
  rintro e wc1 ⟨rfl, hb⟩
  replace HB := Lib.hid (HB.out.trans (hb.mono HB.out.size))
  clear hb
  go_wp2_with fail
  refine Calls.mono (I.out _) ?_
  rintro e wq ⟨rfl, hq⟩
  (first | rw [hq] | rw [← hq])
  clear hq
  go_wp2_with fail
  refine Calls.mono (L0.out _ (HT.out.below HB.out) (HP.out.below HB.out)) ?_
  rintro e wn1 ⟨rfl, hb⟩
  have HB1 := HB.out.trans (hb.mono HB.out.size)
  clear hb
  have Hkl1 := Lib.hid HB1.size; replace HB := Lib.hid (HB1.alloc HB1.size (.cells #[.int .i64 (p), .int .i64 (q)] 24))
  clear HB1
  have s1 := Lib.hid (SpBox.new wn1 (p) (q))
  obtain ⟨k1, hk1⟩ : ∃ x, x = wn1.heap.size := ⟨_, rfl⟩
  rw [← hk1] at s1 Hkl1
  go_upto_region 5 with fail
  rw [← hk1]
  obtain ⟨X1, hX1⟩ : ∃ X, X = wn1.alloc (.cells #[.int .i64 (p), .int .i64 (q)] 24) := ⟨_, rfl⟩
  rw [← hX1] at s1 HB ⊢
  clear hk1 hX1
  go_wp2_with fail
  refine Calls.mono (L1.out _ (HT.out.below HB.out) (HP.out.below HB.out)) ?_
  rintro e wn2 ⟨rfl, hb⟩
  replace s1 := Lib.hid ((s1.out.below hb).alloc (.cells #[.int .i64 (r), .int .i64 (s)] 24))
  have HB2 := HB.out.trans (hb.mono HB.out.size)
  clear hb
  have Hkl2 := Lib.hid HB2.size; replace HB := Lib.hid (HB2.alloc HB2.size (.cells #[.int .i64 (r), .int .i64 (s)] 24))
  clear HB2
  have s2 := Lib.hid (SpBox.new wn2 (r) (s))
  obtain ⟨k2, hk2⟩ : ∃ x, x = wn2.heap.size := ⟨_, rfl⟩
  rw [← hk2] at s2 Hkl2
  go_upto_region 6 with fail
  rw [← hk2]
  obtain ⟨X2, hX2⟩ : ∃ X, X = wn2.alloc (.cells #[.int .i64 (r), .int .i64 (s)] 24) := ⟨_, rfl⟩
  rw [← hX2] at s1 s2 HB ⊢
  clear hk2 hX2
  have sc1_0 := s1.out.c0; have sc1_1 := s1.out.c1; have sc1_l := s1.out.lt
  go_wp2_with fail
  refine Calls.mono (S0.out _) ?_
  rintro e wc2 ⟨rfl, hb⟩
  replace s1 := Lib.hid (s1.out.below hb)
  replace s2 := Lib.hid (s2.out.below hb)
  replace HB := Lib.hid (HB.out.trans (hb.mono HB.out.size))
  clear sc1_0 sc1_1 sc1_l
  clear hb
  have sc1_0 := s1.out.c0; have sc1_1 := s1.out.c1; have sc1_l := s1.out.lt
  go_wp2_with fail
  refine Calls.mono (A0.out _) ?_
  rintro e wq ⟨rfl, hq⟩
  (first | rw [hq] | rw [← hq])
  clear hq
  have sc2_0 := s2.out.c0; have sc2_1 := s2.out.c1; have sc2_l := s2.out.lt
  go_wp2_with fail
  refine Calls.mono (S1.out _) ?_
  rintro e wc3 ⟨rfl, hb⟩
  replace s1 := Lib.hid (s1.out.below hb)
  replace s2 := Lib.hid (s2.out.below hb)
  replace HB := Lib.hid (HB.out.trans (hb.mono HB.out.size))
  clear sc1_0 sc1_1 sc1_l sc2_0 sc2_1 sc2_l
  clear hb
  have sc2_0 := s2.out.c0; have sc2_1 := s2.out.c1; have sc2_l := s2.out.lt
  go_wp2_with fail
  refine Calls.mono (A1.out _) ?_
  rintro e wq ⟨rfl, hq⟩
  (first | rw [hq] | rw [← hq])
  clear hq
  go_wp2_with fail
  go_ret
  exact ⟨rfl, HB.out⟩
end Go.Proofs.YtdeoahgcppbmkaaDoor
