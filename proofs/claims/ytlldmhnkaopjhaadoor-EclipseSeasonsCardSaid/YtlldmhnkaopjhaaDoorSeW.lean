/- season.Next. -/
import Derived.Test.YtlldmhnkaopjhaaDoorNarN
import Derived.Test.YtlldmhnkaopjhaaDoorPhW
import Derived.Test.YtlldmhnkaopjhaaDoorSeP
import Derived.Test.YtlldmhnkaopjhaaDoorSkyLaw
namespace Go.Proofs.YtlldmhnkaopjhaaDoor
open Go.RowKit
set_option linter.unusedSimpArgs false
set_option linter.unusedVariables false
theorem sl_w4 (t : Int) : slHi t - slLo t ≤ 4004 := by
  obtain ⟨k, a1, a2, a3, a4⟩ := sun_at t
  have : slHi t - slLo t < 4005 := by
    apply int_lt_of_rat
    rw [Rat.intCast_sub, show ((4005 : Int) : Rat) = 4005 from rfl]
    grind
  omega
theorem seSd_ne {L x : Int} (hb : 4004 < seB L x) : seSd L x ≠ 0 := by
  have w := sl_w4 x
  have e : (slLo x - L) % 1000000000 = 1000000000 - seB L x := by unfold seB at hb ⊢; omega
  have b1 : seB L x < 1000000000 := by unfold seB; omega
  unfold seSd sideF
  rw [e]
  generalize seB L x = b at *
  generalize slHi x = hi at *
  generalize slLo x = lo at *
  split
  · omega
  · split
    · omega
    · split <;> omega
theorem enS : ∀ args w, (callFunc 46 args).run Tryd.prog w = .ok (.enter 46 args) w := enters_of Tryd.func46 (by kernel_rfl) rfl
set_option maxRecDepth 100000 in
set_option maxHeartbeats 4000000 in
theorem seSide_ok (L : Int) (hL : 0 ≤ L ∧ L < 1000000000) (lo hi : Int) (b : Nat) (w : World) (hT : SinT w) (hin : ∀ x, lo ≤ x → x ≤ hi → instOk x = true) (hb : IntBox w b L) :
    FnAt 46 #[.pointer (some ⟨b, 0, none⟩)] (fun x => .int .i64 (seSd L x)) lo hi w := by
  intro W x h1 h2 hbl
  show Calls Tryd.prog 46 #[.int .i64 x, .pointer (some ⟨b, 0, none⟩)] W fun e w' => e = .returned (.int .i64 (seSd L x)) ∧ Below W.heap.size W w'
  have E := Lib.hid (sunLong_ok x W (hT.below hbl) (hin x h1 h2))
  have bd : 0 ≤ slLo x ∧ slLo x < 1000000000 ∧ slLo x ≤ slHi x ∧ slHi x ≤ 130000000000 := an_bd sun_in
  have S := Lib.hid (fun w => Side_ok (slLo x) (slHi x) L w bd.1 bd.2.1 bd.2.2.1 (by omega) hL.1 hL.2)
  have eS : sideF (slLo x) (slHi x) L = seSd L x := rfl
  rw [eS] at S
  have HI := Lib.hid (hb.below hbl)
  generalize seSd L x = sd at *
  clear eS bd hT hin hb hbl
  generalize slLo x = lo' at *
  generalize slHi x = hi' at *
  have c0 := HI.out.c0
  go_enter Tryd.func46, Tryd.ntmps46
  go_wp2_with fail
  refine Calls.mono E.out ?_
  rintro e w1 ⟨rfl, hb1⟩
  have I1 := HI.out.below hb1
  have HB := Lib.hid (hb1.alloc hb1.size (.cells #[.int .i64 lo', .int .i64 hi'] 24))
  have I2 := I1.alloc (.cells #[.int .i64 lo', .int .i64 hi'] 24)
  have S1 := SpBox.new w1 lo' hi'
  obtain ⟨k, hk⟩ : ∃ k, k = w1.heap.size := ⟨_, rfl⟩
  rw [← hk] at S1
  clear c0 hb1
  go_upto_region 2 with fail
  rw [← hk]
  obtain ⟨X, hX⟩ : ∃ X, X = w1.alloc (.cells #[.int .i64 lo', .int .i64 hi'] 24) := ⟨_, rfl⟩
  rw [← hX] at S1 I2 HB ⊢
  clear hX hk
  have c0 := I2.c0; have c1 := S1.c0; have c2 := S1.c1
  go_wp2_with fail
  refine Calls.mono (S.out _) ?_
  rintro e w2 ⟨rfl, hb2⟩
  have HB2 := Lib.hid (HB.out.trans (hb2.mono HB.out.size))
  clear hb2 c0 c1 c2 S1 I2
  go_wp2_with fail
  go_ret
  exact ⟨rfl, HB2.out⟩
set_option maxRecDepth 100000 in
set_option maxHeartbeats 16000000 in
theorem Next_ok (L x : Int) (hL : 0 ≤ L ∧ L < 1000000000) (hx : -310000000000000 ≤ x ∧ x ≤ 310000000000000) (hb : 4004 < seB L x) (w : World) (hT : SinT w) : Calls Tryd.prog 26 #[.int .i64 L, .int .i64 x] w fun e w' => e = .returned (.tuple #[.agg #[.int .i64 (seF L x).1, .int .i64 (seF L x).2], .int .i64 0]) ∧ Below w.heap.size w w' := by
  have ix : ∀ y : Int, -312000000000000 ≤ y → y ≤ 345000000000000 → instOk y = true := fun y h1 h2 => by unfold instOk dayOk; exact decide_eq_true (by omega)
  obtain ⟨N, c, SI⟩ := se_in hL.1 hL.2 (show 4000 < seB L x by omega)
  have sw := SI.w
  have b0 : 0 ≤ seB L x := by omega
  have b1 : seB L x < 1000000000 := by unfold seB; omega
  have WA := wa_ok b0 b1
  have n0 := WA.n0; have n1 := WA.n1
  have j1 := WA.i1; have j2 := WA.i2; have j3 := WA.iv
  have elo : seLo L x = max x (x + waI (seB L x) - 691200000) := rfl
  have ehi : seHi L x = x + waI (seB L x) + 691200000 := rfl
  have ne := seSd_ne hb
  have i1 := ix x (by omega) (by omega)
  have i2 := ix (x - 1728000000) (by omega) (by omega)
  have i3 := ix (x + 34560000000) (by omega) (by omega)
  have I1 := Lib.hid (fun w => i1 ▸ isInst_ok x w (by omega) (by omega))
  have I2 := Lib.hid (fun w => i2 ▸ isInst_ok (x - 1728000000) w (by omega) (by omega))
  have I3 := Lib.hid (fun w => i3 ▸ isInst_ok (x + 34560000000) w (by omega) (by omega))
  have SD := Lib.hid (fun W b (hT : SinT W) (hb : IntBox W b L) => show Calls Tryd.prog 46 #[.int .i64 x, .pointer (some ⟨b, 0, none⟩)] W fun e w' => e = .returned (.int .i64 (seSd L x)) ∧ Below W.heap.size W w' from seSide_ok L hL x x b W hT (fun y h1 h2 => ix y (by omega) (by omega)) hb W x (by omega) (by omega) (Below.refl _ _))
  have SL := Lib.hid (fun W (hT : SinT W) => sunLong_ok x W hT (ix x (by omega) (by omega)))
  have bl : 0 ≤ slLo x ∧ slLo x < 1000000000 ∧ slLo x ≤ slHi x ∧ slHi x ≤ 130000000000 := an_bd sun_in
  have eB : (L - slLo x) % 1000000000 = seB L x := rfl
  have M := Lib.hid (fun w => eB ▸ mod_all (L - slLo x) 1000000000 w (by omega) (by omega) (by omega) (by omega))
  have NR := Lib.hid (fun W b (hT : SinT W) (hb : IntBox W b L) => narrow_ok 46 #[.pointer (some ⟨b, 0, none⟩)] enS (seSd L) (seLo L x) (seHi L x) 600000 W (seSide_ok L hL _ _ b W hT (fun y h1 h2 => ix y (by rw [elo] at h1; omega) (by rw [ehi] at h2; omega)) hb) (by rw [elo]; omega) (by rw [elo, ehi]; omega) (by rw [ehi]; omega) (by omega) (by omega))
  have eF : seF L x = nrwF (seSd L) 600000 64 (seLo L x) (seHi L x) := rfl
  rw [← eF] at NR
  have dd : decide ((seF L x).2 - (seF L x).1 ≤ 600000) = true := decide_eq_true sw
  rw [dd] at NR
  rw [elo, ehi] at NR
  obtain ⟨L0, L1⟩ := hL
  obtain ⟨x0, x1⟩ := hx
  clear SI WA sw b0 b1 elo ehi eB eF dd ix hb i1 i2 i3
  generalize (seF L x).1 = r1 at *
  generalize (seF L x).2 = r2 at *
  generalize slHi x = sh at *
  generalize slLo x = sl at *
  generalize waI (seB L x) = wt at *
  generalize seSd L x = sb at *
  have nsb : (sb == 0) = false := by simp [ne]
  generalize seB L x = bb at *
  obtain ⟨fB, hfB⟩ : ∃ y, floatOfInt .f64 bb = y := ⟨_, rfl⟩
  rw [hfB] at j1 j2
  generalize fdiv fB 4703134026798884454 = f1 at *
  generalize waW bb = f2 at *
  have k1 := fop j1; have k2 := fop j2; have k3 := fconvI j3
  have HT := Lib.hid hT
  have B1 := IntBox.new w L
  obtain ⟨b, hb⟩ : ∃ b, b = w.heap.size := ⟨_, rfl⟩
  have e1 : (w.alloc (.cells #[.int .i64 L] 3)).heap.size = b + 1 := by simp [hb]
  have B2 := SpBox.new (w.alloc (.cells #[.int .i64 L] 3)) 0 0
  rw [e1] at B2
  rw [← hb] at B1
  have B1' := Lib.hid (B1.alloc (.cells #[.int .i64 0, .int .i64 0] 24))
  have B2' := Lib.hid B2
  have BW := Lib.hid (show Below w.heap.size w ((w.alloc (.cells #[.int .i64 L] 3)).alloc (.cells #[.int .i64 0, .int .i64 0] 24)) from (by repeat' (first | (with_reducible refine below_drewN ?_ _) | go_grown)))
  clear B1 B2 e1 hT j1 j2 j3 ne
  go_enter Tryd.func26, Tryd.ntmps26
  go_upto_region 1 with fail
  rw [← hb]
  have HBB := Lib.hid hb
  clear hb
  obtain ⟨X, hX⟩ : ∃ X, X = ((w.alloc (.cells #[.int .i64 L] 3)).alloc (.cells #[.int .i64 0, .int .i64 0] 24)) := ⟨_, rfl⟩
  rw [← hX] at B1' B2' BW ⊢
  clear hX
  have c0 := B1'.out.c0
  go_wp2_with fail
  have B0 := B1'; have S0 := B2'; have W0 := BW
  clear B1' B2' BW c0
  refine Calls.mono (I1.out _) ?_
  rintro e v1 ⟨rfl, hb⟩
  have B1 := Lib.hid (B0.out.below hb); have S1 := Lib.hid (S0.out.below hb); have W1 := Lib.hid (W0.out.trans (hb.mono W0.out.size))
  clear hb B0 S0 W0
  go_wp2_with fail
  refine Calls.mono (I2.out _) ?_
  rintro e v2 ⟨rfl, hb⟩
  have B2 := Lib.hid (B1.out.below hb); have S2 := Lib.hid (S1.out.below hb); have W2 := Lib.hid (W1.out.trans (hb.mono W1.out.size))
  clear hb B1 S1 W1
  go_wp2_with fail
  refine Calls.mono (I3.out _) ?_
  rintro e v3 ⟨rfl, hb⟩
  have B3 := Lib.hid (B2.out.below hb); have S3 := Lib.hid (S2.out.below hb); have W3 := Lib.hid (W2.out.trans (hb.mono W2.out.size))
  clear hb B2 S2 W2
  have c0 := B3.out.c0
  go_wp2_with fail
  refine Calls.mono (SD.out _ _ (HT.out.below W3.out) B3.out) ?_
  rintro e v4 ⟨rfl, hb⟩
  have B4 := Lib.hid (B3.out.below hb); have S4 := Lib.hid (S3.out.below hb); have W4 := Lib.hid (W3.out.trans (hb.mono W3.out.size))
  clear c0 hb B3 S3 W3
  go_wp2_with fail
  refine Calls.mono (SL.out _ (HT.out.below W4.out)) ?_
  rintro e v5 ⟨rfl, hb⟩
  have V := W4.out.trans (hb.mono W4.out.size)
  have W5 := Lib.hid (V.alloc V.size (.cells #[.int .i64 sl, .int .i64 sh] 24))
  have B5 := Lib.hid ((B4.out.below hb).alloc (.cells #[.int .i64 sl, .int .i64 sh] 24))
  have S5 := Lib.hid ((S4.out.below hb).alloc (.cells #[.int .i64 sl, .int .i64 sh] 24))
  have T5 := SpBox.new v5 sl sh
  obtain ⟨kk, hkk⟩ : ∃ k, k = v5.heap.size := ⟨_, rfl⟩
  rw [← hkk] at T5
  clear hb V B4 S4 W4
  go_upto_region 9 with fail
  rw [← hkk]
  obtain ⟨Y, hY⟩ : ∃ Y, Y = v5.alloc (.cells #[.int .i64 sl, .int .i64 sh] 24) := ⟨_, rfl⟩
  rw [← hY] at B5 S5 W5 T5 ⊢
  clear hY hkk
  have c0 := B5.out.c0; have c1 := T5.c0
  go_wp2_with fail
  refine Calls.mono (M.out _) ?_
  rintro e v6 ⟨rfl, hb⟩
  have B6 := Lib.hid (B5.out.below hb); have S6 := Lib.hid (S5.out.below hb); have W6 := Lib.hid (W5.out.trans (hb.mono W5.out.size))
  clear c0 c1 T5 hb B5 S5 W5
  go_wp2_with fail
  refine Calls.mono (NR.out _ _ (HT.out.below W6.out) B6.out) ?_
  rintro e v7 ⟨rfl, hb⟩
  have V := W6.out.trans (hb.mono W6.out.size)
  have W7 := Lib.hid (V.alloc V.size (.cells #[.int .i64 r1, .int .i64 r2] 24))
  have S7 := Lib.hid ((S6.out.below hb).alloc (.cells #[.int .i64 r1, .int .i64 r2] 24))
  have T7 := Lib.hid (SpBox.new v7 r1 r2)
  obtain ⟨kk, hkk⟩ : ∃ k, k = v7.heap.size := ⟨_, rfl⟩
  rw [← hkk] at T7
  clear hb V B6 S6 W6
  go_upto_region 13 with fail
  rw [← hkk]
  obtain ⟨Z, hZ⟩ : ∃ Z, Z = v7.alloc (.cells #[.int .i64 r1, .int .i64 r2] 24) := ⟨_, rfl⟩
  rw [← hZ] at S7 W7 T7 ⊢
  clear hZ hkk
  have u0 := T7.out.c0; have u1 := T7.out.c1
  have z0 := S7.out.c0; have z1 := S7.out.c1; have zf0 := S7.out.free 0; have zf1 := S7.out.free 1; have zl := S7.out.lt
  go_wp2_with fail
  refine bodyPost_ret (v := .tuple #[.agg #[.int .i64 r1, .int .i64 r2], .int .i64 0]) ?_ rfl ⟨rfl, ?_⟩
  · simp [results, Tryd.results26, go_sem, *]
  · have hB := HBB.out
    refine Below.setCell (Below.setCell W7.out ?_ _) ?_ _
    all_goals (first | (simp only [World.size_setCell]; omega) | (dsimp only; omega))
end Go.Proofs.YtlldmhnkaopjhaaDoor
