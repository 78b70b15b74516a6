/- SunYears: behind a year the sun is where it was, and its declination is never beyond the tilt. -/
import Derived.Test.YtdeoahgcppbmkaaDoorDec
import Derived.Test.YtdeoahgcppbmkaaDoorAt
namespace Go.Proofs.YtdeoahgcppbmkaaDoor
open Go.RowKit
set_option linter.unusedSimpArgs false
set_option linter.unusedVariables false
theorem sun_year (t : Rat) {k : Int} (h0 : 0 ≤ k) (h1 : k ≤ 49) : Near (sunT (t + 31556925000 * (k : Rat))) (sunT t + 1000000000 * (k : Rat)) 81000 := by
  obtain ⟨k0, k1⟩ := int_bd h0 h1
  rw [show ((0 : Int) : Rat) = 0 from rfl] at k0
  rw [show ((49 : Int) : Rat) = 49 from rfl] at k1
  have eS : ∀ t, sunT t = phT 775342092 2737909333333 t + (0 + tmV sunZ t 0 + tmV sunZ t 1) := fun _ => rfl
  have t0 : ∀ t, tmV sunZ t 0 = 5318339 * SA (phT 84888545 2737778555556 t) := fun _ => rfl
  have t1 : ∀ t, tmV sunZ t 1 = 55536 * SA (phT 169777090 5475557111112 t) := fun _ => rfl
  have e0 : phT 84888545 2737778555556 (t + 31556925000 * (k : Rat)) = phT 84888545 2737778555556 t + (k : Rat) * (2737778555556 * 31556925000 / 86400000000000 - 1000000000) + 1000000000 * (k : Rat) := by
    unfold phT; rw [show ((2737778555556 : Int) : Rat) = 2737778555556 from rfl]; grind
  have e1 : phT 169777090 5475557111112 (t + 31556925000 * (k : Rat)) = phT 169777090 5475557111112 t + ((2 * k : Int) : Rat) * ((5475557111112 * 31556925000 / 86400000000000 - 2000000000) / 2) + 1000000000 * ((2 * k : Int) : Rat) := by
    unfold phT; rw [show ((5475557111112 : Int) : Rat) = 5475557111112 from rfl, Rat.intCast_mul, show ((2 : Int) : Rat) = 2 from rfl]; grind
  have em : phT 775342092 2737909333333 (t + 31556925000 * (k : Rat)) = phT 775342092 2737909333333 t + (k : Rat) * (2737909333333 * 31556925000 / 86400000000000 - 1000000000) + 1000000000 * (k : Rat) := by
    unfold phT; rw [show ((2737909333333 : Int) : Rat) = 2737909333333 from rfl]; grind
  have q := qq_b9
  have n0 : Near (5318339 * SA (phT 84888545 2737778555556 (t + 31556925000 * (k : Rat)))) (5318339 * SA (phT 84888545 2737778555556 t)) 78500 := by
    rw [e0, SA_turn]
    have l := (SA_lipD (y := phT 84888545 2737778555556 t) (d := (k : Rat) * (2737778555556 * 31556925000 / 86400000000000 - 1000000000)) (D := 2341000) (by grind)).1
    unfold Near ra at *
    clear eS t0 t1 e0 e1 em
    generalize SA (phT 84888545 2737778555556 t + (k : Rat) * (2737778555556 * 31556925000 / 86400000000000 - 1000000000)) = s1 at *
    generalize SA (phT 84888545 2737778555556 t) = s2 at *
    generalize qq = p at *
    constructor <;> grind
  have n1 : Near (55536 * SA (phT 169777090 5475557111112 (t + 31556925000 * (k : Rat)))) (55536 * SA (phT 169777090 5475557111112 t)) 1700 := by
    rw [e1, SA_turn]
    have l := (SA_lipD (y := phT 169777090 5475557111112 t) (d := ((2 * k : Int) : Rat) * ((5475557111112 * 31556925000 / 86400000000000 - 2000000000) / 2)) (D := 4682000) (by rw [Rat.intCast_mul, show ((2 : Int) : Rat) = 2 from rfl]; grind)).1
    unfold Near ra at *
    clear eS t0 t1 e0 e1 em n0
    generalize SA (phT 169777090 5475557111112 t + ((2 * k : Int) : Rat) * ((5475557111112 * 31556925000 / 86400000000000 - 2000000000) / 2)) = s1 at *
    generalize SA (phT 169777090 5475557111112 t) = s2 at *
    generalize qq = p at *
    constructor <;> grind
  rw [eS, eS, t0, t0, t1, t1, em]
  clear eS t0 t1 e0 e1 em q
  unfold Near at *
  generalize 5318339 * SA (phT 84888545 2737778555556 (t + 31556925000 * (k : Rat))) = a1 at *
  generalize 5318339 * SA (phT 84888545 2737778555556 t) = a2 at *
  generalize 55536 * SA (phT 169777090 5475557111112 (t + 31556925000 * (k : Rat))) = a3 at *
  generalize 55536 * SA (phT 169777090 5475557111112 t) = a4 at *
  generalize phT 775342092 2737909333333 t = a5 at *
  constructor <;> grind
theorem year_law (t : Int) {k : Int} (h0 : 0 ≤ k) (h1 : k ≤ 49) : (slLo (t + k * 31556925000) - (slLo t - 100000)) % 1000000000 ≤ slHi t + 100000 - (slLo t - 100000) := by
  have e := sun_year (t : Rat) h0 h1
  obtain ⟨i, a1, a2, a3, a4⟩ := sun_at t
  obtain ⟨j, b1, b2, b3, b4⟩ := sun_at (t + k * 31556925000)
  have ec : ((t + k * 31556925000 : Int) : Rat) = (t : Rat) + 31556925000 * (k : Rat) := by rw [Rat.intCast_add, Rat.intCast_mul, show ((31556925000 : Int) : Rat) = 31556925000 from rfl]; grind
  rw [ec] at b1 b2 b3 b4
  unfold Near at e
  have w : slLo t ≤ slHi t := (show 0 ≤ slLo t ∧ slLo t < 1000000000 ∧ slLo t ≤ slHi t ∧ slHi t ≤ 130000000000 from an_bd sun_in).2.2.1
  generalize sunT ((t : Rat) + 31556925000 * (k : Rat)) = X at *
  generalize sunT (t : Rat) = Y at *
  generalize slLo (t + k * 31556925000) = lo at *
  generalize slHi t = hi at *
  generalize slLo t = l0 at *
  have f : ((lo - l0 + 1000000000 * (j - i - k) : Int) : Rat) = (lo : Rat) - (l0 : Rat) + 1000000000 * ((j : Rat) - (i : Rat) - (k : Rat)) := by
    rw [Rat.intCast_add, Rat.intCast_sub, Rat.intCast_mul, Rat.intCast_sub, Rat.intCast_sub, show ((1000000000 : Int) : Rat) = 1000000000 from rfl]
  have l : (-81005 : Int) ≤ lo - l0 + 1000000000 * (j - i - k) := by
    apply int_le_of_rat
    rw [f, show ((-81005 : Int) : Rat) = -81005 from rfl]
    grind
  have u : lo - l0 + 1000000000 * (j - i - k) ≤ 81005 := by
    apply int_le_of_rat
    rw [f, show ((81005 : Int) : Rat) = 81005 from rfl]
    grind
  clear a1 a2 a3 a4 b1 b2 b3 b4 e f ec
  omega
theorem swL : slLo 0 ≤ 778094769 ∧ 778094769 ≤ slHi 0 ∧ slHi 0 - slLo 0 ≤ 4010 ∧ 0 ≤ slLo 0 := by decide +kernel
theorem swR : sRL 0 ≤ 780562381 ∧ 780562381 ≤ sRH 0 ∧ sRH 0 - sRL 0 ≤ 10000 ∧ 0 ≤ sRL 0 := by decide +kernel
theorem swD : sDL 0 ≤ -64038259 ∧ -64038259 ≤ sDH 0 ∧ sDH 0 - sDL 0 ≤ 6000 ∧ -100000000 ≤ sDL 0 := by decide +kernel
set_option maxRecDepth 100000 in
set_option maxHeartbeats 4000000 in
theorem sunWorks_ok (w : World) (hT : SinT w) : Calls Tryd.prog 48 #[] w fun e w' => e = .returned (.bool true) ∧ Below w.heap.size w w' := by
  have L := Lib.hid (fun W (hT : SinT W) => sunLong_ok 0 W hT (by decide))
  have A := Lib.hid (fun W (hT : SinT W) => sunAt_ok 0 W hT (by decide))
  obtain ⟨a1, a2, a3, a4⟩ := swL
  obtain ⟨b1, b2, b3, b4⟩ := swR
  obtain ⟨c1, c2, c3, c4⟩ := swD
  have HT := Lib.hid hT
  generalize slLo 0 = ll at *
  generalize slHi 0 = lh at *
  generalize sRL 0 = rl at *
  generalize sRH 0 = rh at *
  generalize sDL 0 = dl at *
  generalize sDH 0 = dh at *
  have H1 := Lib.hid (fun w => has_true ll lh 778094769 4010 w a1 a2 a3 ⟨by omega, by omega⟩)
  have H2 := Lib.hid (fun w => has_true rl rh 780562381 10000 w b1 b2 b3 ⟨by omega, by omega⟩)
  have H3 := Lib.hid (fun w => has_true dl dh (-64038259) 6000 w c1 c2 c3 ⟨by omega, by omega⟩)
  clear a1 a2 a3 a4 b1 b2 b3 b4 c1 c2 c3 c4 hT
  go_enter Tryd.func48, Tryd.ntmps48
  have HB := Lib.hid (Below.refl w.heap.size w)
  go_wp2_with fail
  refine Calls.mono (L.out _ (HT.out.below HB.out)) ?_
  rintro e wn1 ⟨rfl, hb⟩
  have HB1 := HB.out.trans (hb.mono HB.out.size)
  clear hb
  have Hkl1 := Lib.hid HB1.size; replace HB := Lib.hid (HB1.alloc HB1.size (.cells #[.int .i64 (ll), .int .i64 (lh)] 24))
  clear HB1
  have s1 := Lib.hid (SpBox.new wn1 (ll) (lh))
  obtain ⟨k1, hk1⟩ : ∃ x, x = wn1.heap.size := ⟨_, rfl⟩
  rw [← hk1] at s1 Hkl1
  go_upto_region 2 with fail
  rw [← hk1]
  obtain ⟨X1, hX1⟩ : ∃ X, X = wn1.alloc (.cells #[.int .i64 (ll), .int .i64 (lh)] 24) := ⟨_, rfl⟩
  rw [← hX1] at s1 HB ⊢
  clear hk1 hX1
  go_wp2_with fail
  refine Calls.mono (A.out _ (HT.out.below HB.out)) ?_
  rintro e wn2 ⟨rfl, hb⟩
  replace s1 := Lib.hid (((s1.out.below hb).alloc (.cells #[.int .i64 (rl), .int .i64 (rh)] 24)).alloc (.cells #[.int .i64 (dl), .int .i64 (dh)] 24))
  have HB2 := HB.out.trans (hb.mono HB.out.size)
  clear hb
  have Hkl2 := Lib.hid HB2.size; have HBq := HB2.alloc HB2.size (.cells #[.int .i64 (rl), .int .i64 (rh)] 24); replace HB := Lib.hid (HBq.alloc HBq.size (.cells #[.int .i64 (dl), .int .i64 (dh)] 24)); clear HB2 HBq
  obtain ⟨k2, hk2⟩ : ∃ x, x = wn2.heap.size := ⟨_, rfl⟩
  have hk3 : (wn2.alloc (.cells #[.int .i64 (rl), .int .i64 (rh)] 24)).heap.size = k2 + 1 := by simp [hk2]
  have s2 := Lib.hid ((SpBox.new wn2 (rl) (rh)).alloc (.cells #[.int .i64 (dl), .int .i64 (dh)] 24))
  have s30 := SpBox.new (wn2.alloc (.cells #[.int .i64 (rl), .int .i64 (rh)] 24)) (dl) (dh)
  rw [hk3] at s30
  have s3 := Lib.hid s30; clear s30
  rw [← hk2] at s2 Hkl2
  have Hkl3 := Lib.hid (Nat.le_trans Hkl2.out (Nat.le_succ k2))
  go_upto_region 3 with fail
  (try rw [hk3])
  rw [← hk2]
  obtain ⟨X3, hX3⟩ : ∃ X, X = (wn2.alloc (.cells #[.int .i64 (rl), .int .i64 (rh)] 24)).alloc (.cells #[.int .i64 (dl), .int .i64 (dh)] 24) := ⟨_, rfl⟩
  rw [← hX3] at s1 s2 s3 HB ⊢
  clear hk3 hk2 hX3
  have sc1_0 := s1.out.c0; have sc1_1 := s1.out.c1; have sc1_l := s1.out.lt
  go_wp2_with fail
  refine Calls.mono (H1.out _) ?_
  rintro e wc1 ⟨rfl, hb⟩
  replace s1 := Lib.hid (s1.out.below hb)
  replace s2 := Lib.hid (s2.out.below hb)
  replace s3 := Lib.hid (s3.out.below hb)
  replace HB := Lib.hid (HB.out.trans (hb.mono HB.out.size))
  clear sc1_0 sc1_1 sc1_l
  clear hb
  have sc2_0 := s2.out.c0; have sc2_1 := s2.out.c1; have sc2_l := s2.out.lt
  go_wp2_with fail
  refine Calls.mono (H2.out _) ?_
  rintro e wc2 ⟨rfl, hb⟩
  replace s1 := Lib.hid (s1.out.below hb)
  replace s2 := Lib.hid (s2.out.below hb)
  replace s3 := Lib.hid (s3.out.below hb)
  replace HB := Lib.hid (HB.out.trans (hb.mono HB.out.size))
  clear sc2_0 sc2_1 sc2_l
  clear hb
  have sc3_0 := s3.out.c0; have sc3_1 := s3.out.c1; have sc3_l := s3.out.lt
  go_wp2_with fail
  refine Calls.mono (H3.out _) ?_
  rintro e wc3 ⟨rfl, hb⟩
  replace s1 := Lib.hid (s1.out.below hb)
  replace s2 := Lib.hid (s2.out.below hb)
  replace s3 := Lib.hid (s3.out.below hb)
  replace HB := Lib.hid (HB.out.trans (hb.mono HB.out.size))
  clear sc3_0 sc3_1 sc3_l
  clear hb
  go_wp2_with fail
  go_ret
  exact ⟨rfl, HB.out⟩
set_option maxRecDepth 100000 in
set_option maxHeartbeats 8000000 in
theorem sunYears_walk (t k : Int) (w : World) (hT : SinT w) : Calls Tryd.prog 10 #[.int .i64 t, .int .i64 k] w fun e w' => e = .returned (.bool true) ∧ Below w.heap.size w w' := by
  have HW := Lib.hid (sunWorks_ok w hT)
  have HT := Lib.hid hT
  have I := Lib.hid (fun w => instant_ok t w)
  have K := Lib.hid (fun w => at_any k 50 w (by omega) (by omega))
  have i1 : -302400000000000 ≤ t % 604800000000000 - 302400000000000 := by omega
  have i2 : t % 604800000000000 - 302400000000000 < 302400000000000 := by omega
  have k1 := instant_in t
  have j1 : 0 ≤ k % 50 := by omega
  have j2 : k % 50 ≤ 49 := by omega
  generalize t % 604800000000000 - 302400000000000 = x at *
  generalize k % 50 = n at *
  have Y := year_law x j1 j2
  obtain ⟨y, hy⟩ : ∃ y, y = x + n * 31556925000 := ⟨_, rfl⟩
  have k2 : instOk y = true := by rw [hy]; unfold instOk dayOk; exact decide_eq_true (by omega)
  have w0 : wrap64 (n * 31556925000) = n * 31556925000 := IntWalk.wrap64_in _ (by omega)
  have w1' : wrap64 (x + n * 31556925000) = y := by rw [hy]; exact IntWalk.wrap64_in _ (by omega)
  rw [← hy] at Y
  have L1 := Lib.hid (fun W (hT : SinT W) => sunLong_ok x W hT k1)
  have L2 := Lib.hid (fun W (hT : SinT W) => sunLong_ok y W hT k2)
  have A := Lib.hid (fun W (hT : SinT W) => sunAt_ok x W hT k1)
  have d := sun_dec x
  have bx : 0 ≤ slLo x ∧ slLo x < 1000000000 ∧ slLo x ≤ slHi x ∧ slHi x ≤ 130000000000 := an_bd sun_in
  have by' : 0 ≤ slLo y ∧ slLo y < 1000000000 ∧ slLo y ≤ slHi y ∧ slHi y ≤ 130000000000 := an_bd sun_in
  have HY := Lib.hid hy
  clear hy
  generalize slLo x = a at *
  generalize slHi x = b at *
  generalize slLo y = a' at *
  generalize slHi y = b' at *
  generalize sRL x = rl at *
  generalize sRH x = rh at *
  generalize sDL x = dl at *
  generalize sDH x = dh at *
  have SM := Lib.hid (fun w => same_true (a - 100000) (b + 100000) a' b' w (by omega) (by omega) (by omega) Y)
  have e1 : wrap64 (a - 100000) = a - 100000 := IntWalk.wrap64_in _ (by omega)
  have e2 : wrap64 (b + 100000) = b + 100000 := IntWalk.wrap64_in _ (by omega)
  have g3 : decide (-65116000 ≤ dl) = true := decide_eq_true (by omega)
  have g4 : decide (dh ≤ 65116000) = true := decide_eq_true (by omega)
  clear hT k1 k2 Y d bx by' i1 i2 j1 j2
  go_enter Tryd.func10, Tryd.ntmps10
  have HB := Lib.hid (Below.refl w.heap.size w)
  go_wp2_with fail
  refine Calls.mono (HW.out) ?_
  rintro e wc1 ⟨rfl, hb⟩
  replace HB := Lib.hid (HB.out.trans (hb.mono HB.out.size))
  clear hb
  go_wp2_with fail
  refine Calls.mono (I.out _) ?_
  rintro e wq ⟨rfl, hq⟩
  (first | rw [hq] | rw [← hq])
  clear hq
  go_wp2_with fail
  refine Calls.mono (K.out _) ?_
  rintro e wq ⟨rfl, hq⟩
  (first | rw [hq] | rw [← hq])
  clear hq
  go_wp2_with fail
  refine Calls.mono (L1.out _ (HT.out.below HB.out)) ?_
  rintro e wn1 ⟨rfl, hb⟩
  have HB1 := HB.out.trans (hb.mono HB.out.size)
  clear hb
  have Hkl1 := Lib.hid HB1.size; replace HB := Lib.hid (HB1.alloc HB1.size (.cells #[.int .i64 (a), .int .i64 (b)] 24))
  clear HB1
  have s1 := Lib.hid (SpBox.new wn1 (a) (b))
  obtain ⟨k1, hk1⟩ : ∃ x, x = wn1.heap.size := ⟨_, rfl⟩
  rw [← hk1] at s1 Hkl1
  go_upto_region 5 with fail
  rw [← hk1]
  obtain ⟨X1, hX1⟩ : ∃ X, X = wn1.alloc (.cells #[.int .i64 (a), .int .i64 (b)] 24) := ⟨_, rfl⟩
  rw [← hX1] at s1 HB ⊢
  clear hk1 hX1
  go_wp2_with fail
  refine Calls.mono (L2.out _ (HT.out.below HB.out)) ?_
  rintro e wn2 ⟨rfl, hb⟩
  replace s1 := Lib.hid ((s1.out.below hb).alloc (.cells #[.int .i64 (a'), .int .i64 (b')] 24))
  have HB2 := HB.out.trans (hb.mono HB.out.size)
  clear hb
  have Hkl2 := Lib.hid HB2.size; replace HB := Lib.hid (HB2.alloc HB2.size (.cells #[.int .i64 (a'), .int .i64 (b')] 24))
  clear HB2
  have s2 := Lib.hid (SpBox.new wn2 (a') (b'))
  obtain ⟨k2, hk2⟩ : ∃ x, x = wn2.heap.size := ⟨_, rfl⟩
  rw [← hk2] at s2 Hkl2
  go_upto_region 6 with fail
  rw [← hk2]
  obtain ⟨X2, hX2⟩ : ∃ X, X = wn2.alloc (.cells #[.int .i64 (a'), .int .i64 (b')] 24) := ⟨_, rfl⟩
  rw [← hX2] at s1 s2 HB ⊢
  clear hk2 hX2
  go_wp2_with fail
  refine Calls.mono (A.out _ (HT.out.below HB.out)) ?_
  rintro e wn3 ⟨rfl, hb⟩
  replace s1 := Lib.hid (((s1.out.below hb).alloc (.cells #[.int .i64 (rl), .int .i64 (rh)] 24)).alloc (.cells #[.int .i64 (dl), .int .i64 (dh)] 24))
  replace s2 := Lib.hid (((s2.out.below hb).alloc (.cells #[.int .i64 (rl), .int .i64 (rh)] 24)).alloc (.cells #[.int .i64 (dl), .int .i64 (dh)] 24))
  have HB3 := HB.out.trans (hb.mono HB.out.size)
  clear hb
  have Hkl3 := Lib.hid HB3.size; have HBq := HB3.alloc HB3.size (.cells #[.int .i64 (rl), .int .i64 (rh)] 24); replace HB := Lib.hid (HBq.alloc HBq.size (.cells #[.int .i64 (dl), .int .i64 (dh)] 24)); clear HB3 HBq
  obtain ⟨k3, hk3⟩ : ∃ x, x = wn3.heap.size := ⟨_, rfl⟩
  have hk4 : (wn3.alloc (.cells #[.int .i64 (rl), .int .i64 (rh)] 24)).heap.size = k3 + 1 := by simp [hk3]
  have s3 := Lib.hid ((SpBox.new wn3 (rl) (rh)).alloc (.cells #[.int .i64 (dl), .int .i64 (dh)] 24))
  have s40 := SpBox.new (wn3.alloc (.cells #[.int .i64 (rl), .int .i64 (rh)] 24)) (dl) (dh)
  rw [hk4] at s40
  have s4 := Lib.hid s40; clear s40
  rw [← hk3] at s3 Hkl3
  have Hkl4 := Lib.hid (Nat.le_trans Hkl3.out (Nat.le_succ k3))
  go_upto_region 7 with fail
  (try rw [hk4])
  rw [← hk3]
  obtain ⟨X4, hX4⟩ : ∃ X, X = (wn3.alloc (.cells #[.int .i64 (rl), .int .i64 (rh)] 24)).alloc (.cells #[.int .i64 (dl), .int .i64 (dh)] 24) := ⟨_, rfl⟩
  rw [← hX4] at s1 s2 s3 s4 HB ⊢
  clear hk4 hk3 hX4
  have sc1_0 := s1.out.c0; have sc1_1 := s1.out.c1; have sc1_l := s1.out.lt
  have sc2_0 := s2.out.c0; have sc2_1 := s2.out.c1; have sc2_l := s2.out.lt
  have sc4_0 := s4.out.c0; have sc4_1 := s4.out.c1; have sc4_l := s4.out.lt
  go_wp2_with fail
  refine Calls.mono (SM.out _) ?_
  rintro e wc2 ⟨rfl, hb⟩
  replace s1 := Lib.hid (s1.out.below hb)
  replace s2 := Lib.hid (s2.out.below hb)
  replace s3 := Lib.hid (s3.out.below hb)
  replace s4 := Lib.hid (s4.out.below hb)
  replace HB := Lib.hid (HB.out.trans (hb.mono HB.out.size))
  clear sc1_0 sc1_1 sc1_l sc2_0 sc2_1 sc2_l sc4_0 sc4_1 sc4_l
  clear hb
  have sc4_0 := s4.out.c0; have sc4_1 := s4.out.c1; have sc4_l := s4.out.lt
  go_wp2_with fail
  go_ret
  exact ⟨rfl, HB.out⟩
end Go.Proofs.YtdeoahgcppbmkaaDoor
