/- MoonGains: the elongation grows by 8 to 17 degrees in a day. -/
import Derived.Test.YtdeoahgcppbmkaaDoorElT
import Derived.Test.YtdeoahgcppbmkaaDoorAt
namespace Go.Proofs.YtdeoahgcppbmkaaDoor
open Go.RowKit
set_option linter.unusedSimpArgs false
set_option linter.unusedVariables false
theorem el_day (t : Rat) : 27000000 ≤ elT (t + 86400000) - elT t ∧ elT (t + 86400000) - elT t ≤ 41000000 := by
  have m := anT_move (mean := 392048814) (rate := 36601101305556) moonL_in.tm t (d := 86400000) (by grind)
  have s := anT_move (mean := 775342092) (rate := 2737909333333) sun_in.tm t (d := 86400000) (by grind)
  rw [sl_moon] at m
  rw [sl_sun] at s
  have q := qq_b9
  unfold elT moonT sunT
  unfold Near ra at *
  rw [show ((36601101305556 : Int) : Rat) = 36601101305556 from rfl, show ((6 : Nat) : Rat) = 6 from rfl] at m
  rw [show ((2737909333333 : Int) : Rat) = 2737909333333 from rfl, show ((2 : Nat) : Rat) = 2 from rfl] at s
  generalize anT 392048814 36601101305556 moonLZ 6 (t + 86400000) = x1 at *
  generalize anT 392048814 36601101305556 moonLZ 6 t = x2 at *
  generalize anT 775342092 2737909333333 sunZ 2 (t + 86400000) = x3 at *
  generalize anT 775342092 2737909333333 sunZ 2 t = x4 at *
  generalize qq = p at *
  constructor <;> grind
theorem gain_law (t : Int) : 22122222 < (elLo (t + 86400000) - elHi t) % 1000000000 ∧ (elLo (t + 86400000) - elHi t) % 1000000000 < 47222222 := by
  have e := el_day (t : Rat)
  obtain ⟨k, a1, a2, a3, a4⟩ := el_at t
  obtain ⟨j, b1, b2, b3, b4⟩ := el_at (t + 86400000)
  rw [Rat.intCast_add, show ((86400000 : Int) : Rat) = 86400000 from rfl] at b1 b2 b3 b4
  generalize elT ((t : Rat) + 86400000) = X at *
  generalize elT (t : Rat) = Y at *
  generalize elLo (t + 86400000) = lo at *
  generalize elHi t = hi at *
  have f : ((lo - hi + 1000000000 * (j - k) : Int) : Rat) = (lo : Rat) - (hi : Rat) + 1000000000 * ((j : Rat) - (k : Rat)) := by
    rw [Rat.intCast_add, Rat.intCast_sub, Rat.intCast_mul, Rat.intCast_sub, show ((1000000000 : Int) : Rat) = 1000000000 from rfl]
  have l : (22200000 : Int) ≤ lo - hi + 1000000000 * (j - k) := by
    apply int_le_of_rat
    rw [f, show ((22200000 : Int) : Rat) = 22200000 from rfl]
    grind
  have u : lo - hi + 1000000000 * (j - k) ≤ 47000000 := by
    apply int_le_of_rat
    rw [f, show ((47000000 : Int) : Rat) = 47000000 from rfl]
    grind
  clear a1 a2 a3 a4 b1 b2 b3 b4 e f
  omega
set_option maxRecDepth 100000 in
set_option maxHeartbeats 4000000 in
theorem moonGains_walk (t : Int) (w : World) (hT : SinT w) : Calls Tryd.prog 14 #[.int .i64 t] w fun e w' => e = .returned (.bool true) ∧ Below w.heap.size w w' := by
  have HW := Lib.hid (moonWorks_ok w hT)
  have HT := Lib.hid hT
  have I := Lib.hid (fun w => instant_ok t w)
  have i1 : -302400000000000 ≤ t % 604800000000000 - 302400000000000 := by omega
  have i2 : t % 604800000000000 - 302400000000000 < 302400000000000 := by omega
  have k1 := instant_in t
  have k2 : instOk (t % 604800000000000 - 302400000000000 + 86400000) = true := by unfold instOk dayOk; exact decide_eq_true (by omega)
  generalize t % 604800000000000 - 302400000000000 = x at *
  obtain ⟨y, hy⟩ : ∃ y, y = x + 86400000 := ⟨_, rfl⟩
  have G := gain_law x
  rw [← hy] at G k2
  have E1 := Lib.hid (fun W (hT : SinT W) => elong_ok x W hT k1)
  have E2 := Lib.hid (fun W (hT : SinT W) => elong_ok y W hT k2)
  have wy : wrap64 (x + 86400000) = y := by rw [hy]; exact IntWalk.wrap64_in _ (by omega)
  have b1 := el_bd x
  have b2 := el_bd y
  generalize elLo x = alo at *
  generalize elHi x = ahi at *
  generalize elLo y = blo at *
  generalize elHi y = bhi at *
  have A := Lib.hid (fun w => at_any (blo - ahi) 1000000000 w (by omega) (by omega))
  have wd0 : wrap64 (blo - ahi) = blo - ahi := IntWalk.wrap64_in _ (by omega)
  obtain ⟨g1, g2⟩ := G
  obtain ⟨d, hd⟩ : ∃ d, d = (blo - ahi) % 1000000000 := ⟨_, rfl⟩
  rw [← hd] at g1 g2 A
  have HD := Lib.hid hd; have HY := Lib.hid hy
  clear hT hd hy b1 b2 k1 k2 i1 i2
  obtain ⟨z, hz⟩ : ∃ z, z = blo - ahi := ⟨_, rfl⟩
  have wd : wrap64 (blo - ahi) = z := by rw [wd0, hz]
  rw [← hz] at A
  clear hz wd0
  go_enter Tryd.func14, Tryd.ntmps14
  have HB := Lib.hid (Below.refl w.heap.size w)
  go_wp2_with fail
  refine Calls.mono (HW.out) ?_
  rintro e wc1 ⟨rfl, hb⟩
  replace HB := Lib.hid (HB.out.trans (hb.mono HB.out.size))
  clear hb
  go_wp2_with fail
  refine Calls.mono (I.out _) ?_
  rintro e wq ⟨rfl, hq⟩
  (first | rw [hq] | rw [← hq])
  clear hq
  go_wp2_with fail
  refine Calls.mono (E1.out _ (HT.out.below HB.out)) ?_
  rintro e wn1 ⟨rfl, hb⟩
  have HB1 := HB.out.trans (hb.mono HB.out.size)
  clear hb
  have Hkl1 := Lib.hid HB1.size; replace HB := Lib.hid (HB1.alloc HB1.size (.cells #[.int .i64 (alo), .int .i64 (ahi)] 24))
  clear HB1
  have s1 := Lib.hid (SpBox.new wn1 (alo) (ahi))
  obtain ⟨k1, hk1⟩ : ∃ x, x = wn1.heap.size := ⟨_, rfl⟩
  rw [← hk1] at s1 Hkl1
  go_upto_region 5 with fail
  rw [← hk1]
  obtain ⟨X1, hX1⟩ : ∃ X, X = wn1.alloc (.cells #[.int .i64 (alo), .int .i64 (ahi)] 24) := ⟨_, rfl⟩
  rw [← hX1] at s1 HB ⊢
  clear hk1 hX1
  go_wp2_with fail
  refine Calls.mono (E2.out _ (HT.out.below HB.out)) ?_
  rintro e wn2 ⟨rfl, hb⟩
  replace s1 := Lib.hid ((s1.out.below hb).alloc (.cells #[.int .i64 (blo), .int .i64 (bhi)] 24))
  have HB2 := HB.out.trans (hb.mono HB.out.size)
  clear hb
  have Hkl2 := Lib.hid HB2.size; replace HB := Lib.hid (HB2.alloc HB2.size (.cells #[.int .i64 (blo), .int .i64 (bhi)] 24))
  clear HB2
  have s2 := Lib.hid (SpBox.new wn2 (blo) (bhi))
  obtain ⟨k2, hk2⟩ : ∃ x, x = wn2.heap.size := ⟨_, rfl⟩
  rw [← hk2] at s2 Hkl2
  go_upto_region 6 with fail
  rw [← hk2]
  obtain ⟨X2, hX2⟩ : ∃ X, X = wn2.alloc (.cells #[.int .i64 (blo), .int .i64 (bhi)] 24) := ⟨_, rfl⟩
  rw [← hX2] at s1 s2 HB ⊢
  clear hk2 hX2
  have sc1_0 := s1.out.c0; have sc1_1 := s1.out.c1; have sc1_l := s1.out.lt
  have sc2_0 := s2.out.c0; have sc2_1 := s2.out.c1; have sc2_l := s2.out.lt
  go_wp2_with fail
  refine Calls.mono (A.out _) ?_
  rintro e wq ⟨rfl, hq⟩
  (first | rw [hq] | rw [← hq])
  clear hq
  clear sc1_0 sc1_1 sc1_l sc2_0 sc2_1 sc2_l
  go_wp2_with fail
  go_ret
  exact ⟨rfl, HB.out⟩
end Go.Proofs.YtdeoahgcppbmkaaDoor
