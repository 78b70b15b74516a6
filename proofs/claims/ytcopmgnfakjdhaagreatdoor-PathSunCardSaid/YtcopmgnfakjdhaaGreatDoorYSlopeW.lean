/- series.slope and Slope. -/
import Derived.Test.YtcopmgnfakjdhaaGreatDoorYSlopeP
import Derived.Test.YtcopmgnfakjdhaaGreatDoorYMoons
namespace Go.Proofs.YtcopmgnfakjdhaaGreatDoor
open Go.RowKit
set_option linter.unusedSimpArgs false
set_option linter.unusedVariables false
set_option maxRecDepth 100000 in
set_option maxHeartbeats 8000000 in
theorem slope_ok (mean rate rest : Int) (A : Option Addr) (n cap : Nat) (zs : List Int) (w : World) (hF : FlatSl w 3 A n cap zs) (hs : SumIn mean rate rest n zs) (hn : n ≤ 6) :
    Calls Tryz.prog 131 #[.agg #[.int .i64 mean, .int .i64 rate, .slice A n cap, .int .i64 rest]] w fun e w' => e = .returned (.agg #[.int .i64 (spLo rate zs n), .int .i64 (spHi rate zs n)]) ∧ Below w.heap.size w w' := by
  have SL := slope_law hn ⟨hs.r1, hs.r2⟩ hs.tm
  obtain ⟨V1, A1⟩ := SL.a1
  obtain ⟨V2, A2⟩ := SL.a2
  have HA1 := Lib.hid (fun w => Around_ok A1 w)
  have HA2 := Lib.hid (fun w => Around_ok A2 w)
  have e1 : spLo rate zs n = aLo (fsub (slM rate) (slW zs n)) := rfl
  have e2 : spHi rate zs n = aHi (fadd (slM rate) (slW zs n)) := rfl
  rw [← e1] at HA1
  rw [← e2] at HA2
  have j1 := SL.i1; have j2 := SL.i2; have j3 := SL.i3; have j4 := SL.i4
  have HSS := Lib.hid (fun k (hk : k < n) => (slSum_step (zs := zs) (k := k) (by omega) (hs.tm k hk) (slSum_ok hn hs.tm k (by omega))).1)
  have HTT := Lib.hid (fun k (hk : k < n) => slT_ok (a := ix zs (k * 3)) (r := ix zs (k * 3 + 2)) ⟨(hs.tm k hk).a1, (hs.tm k hk).a2⟩ ⟨(hs.tm k hk).r1, (hs.tm k hk).r2⟩)
  obtain ⟨fs, hfs⟩ : ∃ fs, fs = fsum (slF zs) := ⟨_, rfl⟩
  rw [← hfs] at j1 HSS
  have f0 : fs 0 = 0 := by rw [hfs]; rfl
  have HF0 := Lib.hid f0
  generalize aLo (fsub (slM rate) (slW zs n)) = lo0 at *
  generalize aHi (fadd (slM rate) (slW zs n)) = hi0 at *
  generalize spLo rate zs n = lo at *
  generalize spHi rate zs n = hi at *
  obtain ⟨x1, h1⟩ : ∃ x, x = fsub (slM rate) (slW zs n) := ⟨_, rfl⟩
  obtain ⟨x2, h2⟩ : ∃ x, x = fadd (slM rate) (slW zs n) := ⟨_, rfl⟩
  rw [← h1] at HA1 j3
  rw [← h2] at HA2 j4
  clear h1 h2
  generalize slM rate = mw at *
  generalize slW zs n = sw at *
  obtain ⟨fr, hfr⟩ : ∃ y, floatOfInt .f64 rate = y := ⟨_, rfl⟩
  rw [hfr] at j2
  have k1 := fop j1; have k2 := fop j2; have k3 := fop j3; have k4 := fop j4
  have HK1 := Lib.hid k1
  have HF := Lib.hid hF
  have hcap := hF.le
  have HB0 := Lib.hid (SmBox.new w (.int .i64 mean) (.int .i64 rate) (.slice A n cap) (.int .i64 rest))
  obtain ⟨b, hb⟩ : ∃ b, b = w.heap.size := ⟨_, rfl⟩
  have e5 : (w.alloc (.cells #[.int .i64 mean, .int .i64 rate, .slice A n cap, .int .i64 rest] 82)).heap.size = b + 1 := by simp [hb]
  have B4 := SpBox.new (w.alloc (.cells #[.int .i64 mean, .int .i64 rate, .slice A n cap, .int .i64 rest] 82)) 0 0
  rw [e5] at B4
  have B4' := Lib.hid B4
  have B2' := Lib.hid (HB0.out.alloc (.cells #[.int .i64 0, .int .i64 0] 28))
  rw [← hb] at B2'
  have BW := Lib.hid (show Below w.heap.size w ((w.alloc (.cells #[.int .i64 mean, .int .i64 rate, .slice A n cap, .int .i64 rest] 82)).alloc (.cells #[.int .i64 0, .int .i64 0] 28)) from (by repeat' (first | (with_reducible refine below_drewN ?_ _) | go_grown)))
  clear HB0 B4 e5 A1 A2 SL hF hs f0 hfs j1 j2 j3 j4 k1 e1 e2
  go_enter Tryz.func131, Tryz.ntmps131
  go_wp2_with fail
  rw [← hb]
  have HBB := Lib.hid hb
  clear hb
  go_loopw [3, 10] (fun v i wr => ∃ k : Nat, k ≤ n ∧ i = .int .i64 k ∧ v = .float .f64 (fs k) ∧ SmBox wr b (.int .i64 mean) (.int .i64 rate) (.slice A n cap) (.int .i64 rest) ∧ SpBox wr (b + 1) 0 0 ∧ Below w.heap.size w wr) (fun _ i _ => n - (intOf i).toNat)
  case atStart => exact ⟨0, by omega, rfl, by rw [HF0.out], B2'.out, B4'.out, BW.out⟩
  case round =>
    clear B2' B4' BW
    obtain ⟨k, hk, rfl, rfl, hB2, hB4, hbl⟩ := hrel
    have hsz := hbl.size
    by_cases hlt : k < n
    · have i0 : (0 : Int) ≤ (k : Int) := by omega
      have i1 : (k : Int) < (n : Int) := by omega
      have i2 : (k : Int) < (cap : Int) := by omega
      obtain ⟨q, o, hA, hc⟩ := HF.out.at' (by omega)
      have x0 := (hbl.cell (p := ⟨q, o + k * 3, none⟩) (cell_below (hc (k * 3) (by omega)))).trans (hc (k * 3) (by omega))
      have x1' := (hbl.cell (p := ⟨q, o + (k * 3 + 1), none⟩) (cell_below (hc (k * 3 + 1) (by omega)))).trans (hc (k * 3 + 1) (by omega))
      have x2' := (hbl.cell (p := ⟨q, o + (k * 3 + 2), none⟩) (cell_below (hc (k * 3 + 2) (by omega)))).trans (hc (k * 3 + 2) (by omega))
      rw [← Nat.add_assoc] at x1' x2'
      subst hA
      obtain ⟨r1, r2, r3, r4, T⟩ := HTT.out k hlt
      have hs := HSS.out k hlt
      have hw : slF zs k = slTW (ix zs (k * 3)) (ix zs (k * 3 + 2)) := rfl
      rw [hw] at hs
      have t1 := T.i1; have t2 := T.i2; have t3 := T.i3; have t4 := T.i4; have t5 := T.i5
      generalize slTW (ix zs (k * 3)) (ix zs (k * 3 + 2)) = pw at *
      generalize ix zs (k * 3) = ta at *
      generalize ix zs (k * 3 + 1) = tp at *
      generalize ix zs (k * 3 + 2) = tr at *
      obtain ⟨v', hv'⟩ : ∃ v', v' = fs (k + 1) := ⟨_, rfl⟩
      rw [← hv'] at hs
      have HV := Lib.hid hv'
      obtain ⟨fA, hfA⟩ : ∃ y, floatOfInt .f64 ta = y := ⟨_, rfl⟩
      obtain ⟨fR, hfR⟩ : ∃ y, floatOfInt .f64 tr = y := ⟨_, rfl⟩
      rw [hfA] at t1
      rw [hfR] at t2
      have Q1 := Lib.hid (fun w => abs_ok fA w)
      have Q2 := Lib.hid (fun w => abs_ok fR w)
      generalize fabs fA = aA at *
      generalize fabs fR = aR at *
      have m1 := fop t1; have m2 := fop t2; have m3 := fop t3; have m4 := fop t4; have m5 := fop t5
      have hop := fop hs
      have bw := hbl.alloc hsz (.cells #[.int .i64 ta, .int .i64 tp, .int .i64 tr] 105)
      have g2 := Lib.hid (hB2.alloc (.cells #[.int .i64 ta, .int .i64 tp, .int .i64 tr] 105))
      have g4 := Lib.hid (hB4.alloc (.cells #[.int .i64 ta, .int .i64 tp, .int .i64 tr] 105))
      have gb := Lib.hid bw
      clear hc hw hs hv' bw hB2 hB4 hbl T t1 t2 t3 t4 t5
      go_wp2_with fail
      go_quiet ((first | (go_at_call 142; exact Calls.quiet_of_same (Q1.out _)) | (go_at_call 142; exact Calls.quiet_of_same (Q2.out _))))
      go_wp2_with fail
      go_roundw
      case rel => exact ⟨k + 1, by omega, by go_num, by rw [HV.out], g2.out.below (below_drewN (Below.refl _ _) _), g4.out.below (below_drewN (Below.refl _ _) _), below_drewN gb.out _⟩
      case measure => simp [intOf]; omega
    · obtain rfl : k = n := by omega
      have y0 := hB2.c0; have y1 := hB2.c1; have y2 := hB2.c2; have y3 := hB2.c3; have yl := hB2.lt
      have u0 := hB4.c0; have u1 := hB4.c1; have uf0 := hB4.free 0; have uf1 := hB4.free 1; have ul := hB4.lt
      have k1 := HK1.out
      obtain ⟨ql, hql⟩ : ∃ y, y = aLo x2 := ⟨_, rfl⟩
      obtain ⟨qh, hqh⟩ : ∃ y, y = aHi x1 := ⟨_, rfl⟩
      rw [← hqh] at HA1
      rw [← hql] at HA2
      have fd0 : ∀ w, (Instr.field 28 (.agg #[.int .i64 lo, .int .i64 qh]) 0).run Tryz.prog w = .ok (.int .i64 lo) w := fun _ => by kernel_rfl
      have fd1 : ∀ w, (Instr.field 28 (.agg #[.int .i64 ql, .int .i64 hi]) 1).run Tryz.prog w = .ok (.int .i64 hi) w := fun _ => by kernel_rfl
      clear hql hqh
      have kb := Lib.hid hbl
      clear hB2 hB4 hbl
      go_wp2_with fail
      refine Calls.mono (HA1.out _) ?_
      rintro e w3 ⟨rfl, hb⟩
      obtain ⟨hc3, hf3⟩ := bcell hb
      have hz3 := hb.size
      have hbw3 := kb.out.trans (hb.mono kb.out.size)
      have z1 : b < w3.heap.size := by omega
      have z2 : b + 1 < w3.heap.size := by omega
      have HBW3 := Lib.hid hbw3
      clear hb hz3 hbw3
      go_wp2_with fail
      refine Calls.mono (HA2.out _) ?_
      rintro e w4 ⟨rfl, hb⟩
      obtain ⟨hc4, hf4⟩ := bcell hb
      have hz4 := hb.size
      have hbw4 := HBW3.out.trans (hb.mono HBW3.out.size)
      have y1' : b < w4.heap.size := by omega
      have y2' : b + 1 < w4.heap.size := by omega
      have HBW4 := Lib.hid hbw4
      clear hb hz4 hbw4
      go_wp2_with fail
      refine bodyPost_ret (v := .agg #[.int .i64 lo, .int .i64 hi]) ?_ rfl ⟨rfl, ?_⟩
      · simp [results, Tryz.results131, go_sem, *]
      · have hB := HBB.out
        have := HBW4.out.size
        refine Below.setCell (Below.setCell HBW4.out ?_ _) ?_ _
        all_goals (first | (simp only [World.size_setCell]; omega) | (dsimp only; omega))
set_option maxRecDepth 100000 in
set_option maxHeartbeats 4000000 in
theorem Slope_ok (mean rate rest : Int) (A : Option Addr) (n cap : Nat) (zs : List Int) (w : World) (hF : FlatSl w 3 A n cap zs) (hs : SumIn mean rate rest n zs) (hn : n ≤ 6) :
    Calls Tryz.prog 114 #[.agg #[.int .i64 mean, .int .i64 rate, .slice A n cap, .int .i64 rest]] w fun e w' => e = .returned (.tuple #[.agg #[.int .i64 (spLo rate zs n), .int .i64 (spHi rate zs n)], .int .i64 0]) ∧ Below w.heap.size w w' := by
  have HC := Lib.hid (fun W (h : FlatSl W 3 A n cap zs) => sCheck_ok mean rate rest A n cap zs W h hs)
  have HS := Lib.hid (fun W (h : FlatSl W 3 A n cap zs) => slope_ok mean rate rest A n cap zs W h hs hn)
  generalize spLo rate zs n = lo at *
  generalize spHi rate zs n = hi at *
  have HF := Lib.hid hF
  have HB0 := Lib.hid (SmBox.new w (.int .i64 mean) (.int .i64 rate) (.slice A n cap) (.int .i64 rest))
  obtain ⟨b, hb⟩ : ∃ b, b = w.heap.size := ⟨_, rfl⟩
  have e5 : (w.alloc (.cells #[.int .i64 mean, .int .i64 rate, .slice A n cap, .int .i64 rest] 82)).heap.size = b + 1 := by simp [hb]
  have B4 := SpBox.new (w.alloc (.cells #[.int .i64 mean, .int .i64 rate, .slice A n cap, .int .i64 rest] 82)) 0 0
  rw [e5] at B4
  have B4' := Lib.hid B4
  have B2' := Lib.hid (HB0.out.alloc (.cells #[.int .i64 0, .int .i64 0] 28))
  rw [← hb] at B2'
  have BW := Lib.hid (show Below w.heap.size w ((w.alloc (.cells #[.int .i64 mean, .int .i64 rate, .slice A n cap, .int .i64 rest] 82)).alloc (.cells #[.int .i64 0, .int .i64 0] 28)) from (by repeat' (first | (with_reducible refine below_drewN ?_ _) | go_grown)))
  clear HB0 B4 e5 hF hs
  go_enter Tryz.func114, Tryz.ntmps114
  go_upto_region 1 with fail
  obtain ⟨X, hX⟩ : ∃ X, X = ((w.alloc (.cells #[.int .i64 mean, .int .i64 rate, .slice A n cap, .int .i64 rest] 82)).alloc (.cells #[.int .i64 0, .int .i64 0] 28)) := ⟨_, rfl⟩
  rw [← hX] at B4' B2' BW ⊢
  rw [← hb]
  clear hX
  have HBB := Lib.hid hb
  clear hb
  have FL := Lib.hid (flat_below HF.out BW.out)
  have c0 := B2'.out.c0; have c1 := B2'.out.c1; have c2 := B2'.out.c2; have c3 := B2'.out.c3; have cl := B2'.out.lt
  go_wp2_with fail
  refine Calls.mono (HC.out _ FL.out) ?_
  rintro e w1 ⟨rfl, hb⟩
  have B1 := Lib.hid (B2'.out.below hb); have S1 := Lib.hid (B4'.out.below hb); have W1 := Lib.hid (BW.out.trans (hb.mono BW.out.size)); have F1 := Lib.hid (flat_below FL.out hb)
  clear hb c0 c1 c2 c3 cl B2' B4' BW FL
  have c0 := B1.out.c0; have c1 := B1.out.c1; have c2 := B1.out.c2; have c3 := B1.out.c3; have cl := B1.out.lt
  go_wp2_with fail
  refine Calls.mono (HS.out _ F1.out) ?_
  rintro e w2 ⟨rfl, hb⟩
  have S2 := Lib.hid (S1.out.below hb); have W2 := Lib.hid (W1.out.trans (hb.mono W1.out.size))
  have u0 := S2.out.c0; have u1 := S2.out.c1; have uf0 := S2.out.free 0; have uf1 := S2.out.free 1; have ul := S2.out.lt
  clear hb c0 c1 c2 c3 cl B1 S1 W1 F1
  go_wp2_with fail
  refine bodyPost_ret (v := .tuple #[.agg #[.int .i64 lo, .int .i64 hi], .int .i64 0]) ?_ rfl ⟨rfl, ?_⟩
  · simp [results, Tryz.results114, go_sem, *]
  · have hB := HBB.out
    refine Below.setCell (Below.setCell W2.out ?_ _) ?_ _
    all_goals (first | (simp only [World.size_setCell]; omega) | (dsimp only; omega))
end Go.Proofs.YtcopmgnfakjdhaaGreatDoor
