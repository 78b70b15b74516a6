/- trig.direction, trig.Arc: the walk. Printed by wip/tools/gen-arc.py. -/
import Derived.Test.YtcopmgnfakjdhaaGreatDoorVArcsP
import Derived.Test.YtcopmgnfakjdhaaGreatDoorVTrigA
import Derived.Test.YtcopmgnfakjdhaaGreatDoorVGrow
import Derived.Test.YtcopmgnfakjdhaaGreatDoorVIval
import Derived.Test.YtcopmgnfakjdhaaGreatDoorVBasic
namespace Go.Proofs.YtcopmgnfakjdhaaGreatDoor
open Go.RowKit
set_option linter.unusedSimpArgs false
set_option linter.unusedVariables false
set_option maxHeartbeats 2000000 in
theorem direction_ok {Y X : Int} (hY : Sml Y) (hX : Sml X) (h0 : Y ≠ 0 ∨ X ≠ 0) (w : World) : Calls Tryz.prog 92 #[.int .i64 Y, .int .i64 X] w fun e w' => e = .returned (.float .f64 (dirW Y X)) ∧ w' = w := by
  obtain ⟨i1, i2, -⟩ := dir_ok hY hX
  have H : ∀ w, Calls Tryz.prog 110 #[.float .f64 (floatOfInt .f64 Y), .float .f64 (floatOfInt .f64 X)] w fun e w' => e = .returned (.float .f64 (at2W Y X)) ∧ w' = w := Atan2_ok Y X hY hX h0
  have HH := Lib.hid H
  have g1 := fop i1; have g2 := fop i2
  clear i1 i2 H hY hX h0
  generalize dirW Y X = r at *
  generalize at2W Y X = u at *
  go_enter Tryz.func92, Tryz.ntmps92
  go_wp2_with fail
  refine Calls.mono (HH.out _) ?_
  rintro e _ ⟨rfl, rfl⟩
  go_wp2_with fail
  go_ret
  exact ⟨rfl, rfl⟩
structure ArcIn (a b c d : Int) : Prop where
  sa : Sml a
  sb : Sml b
  sc' : Sml c
  sd : Sml d
  ab : a ≤ b
  cd : c ≤ d
  no : ¬ (a ≤ 0 ∧ 0 ≤ b ∧ c ≤ 0 ∧ 0 ≤ d)
theorem ArcIn.ne {a b c d : Int} (h : ArcIn a b c d) : (a ≠ 0 ∨ c ≠ 0) ∧ (a ≠ 0 ∨ d ≠ 0) ∧ (b ≠ 0 ∨ c ≠ 0) ∧ (b ≠ 0 ∨ d ≠ 0) := by
  have := h.no; have := h.ab; have := h.cd
  omega
def arcOut (a b c d : Int) : Value := if 400000000 < arcHi a b c d - arcLo a b c d then .tuple #[.agg #[.int .i64 0, .int .i64 0], .int .i64 11] else .tuple #[.agg #[.int .i64 (arcLo a b c d % 1000000000), .int .i64 (arcLo a b c d % 1000000000 + arcHi a b c d - arcLo a b c d)], .int .i64 0]
set_option maxRecDepth 100000 in
set_option maxHeartbeats 16000000 in
theorem Arc_ok (a b c d : Int) (h : ArcIn a b c d) (w : World) : Calls Tryz.prog 59 #[.agg #[.int .i64 a, .int .i64 b], .agg #[.int .i64 c, .int .i64 d]] w fun e w' => e = .returned (arcOut a b c d) ∧ Below w.heap.size w w' := by
  obtain ⟨n1, n2, n3, n4⟩ := h.ne
  obtain ⟨ha1, ha2⟩ := h.sa; obtain ⟨hb1, hb2⟩ := h.sb; obtain ⟨hc1, hc2⟩ := h.sc'; obtain ⟨hd1, hd2⟩ := h.sd
  have j0 : ∀ w, (Instr.index 95 (.agg #[.int .i64 a, .int .i64 b, .int .i64 c, .int .i64 d]) (.int .i64 0)).run Tryz.prog w = .ok (.agg #[.int .i64 a, .int .i64 b]) w := fun _ => by kernel_rfl
  have j1 : ∀ w, (Instr.index 95 (.agg #[.int .i64 a, .int .i64 b, .int .i64 c, .int .i64 d]) (.int .i64 1)).run Tryz.prog w = .ok (.agg #[.int .i64 c, .int .i64 d]) w := fun _ => by kernel_rfl
  have i0 : ∀ w, (Instr.index 98 (.agg #[.int .i64 a, .int .i64 d, .int .i64 b, .int .i64 c, .int .i64 b, .int .i64 d]) (.int .i64 0)).run Tryz.prog w = .ok (.agg #[.int .i64 a, .int .i64 d]) w := fun _ => by kernel_rfl
  have i1 : ∀ w, (Instr.index 98 (.agg #[.int .i64 a, .int .i64 d, .int .i64 b, .int .i64 c, .int .i64 b, .int .i64 d]) (.int .i64 1)).run Tryz.prog w = .ok (.agg #[.int .i64 b, .int .i64 c]) w := fun _ => by kernel_rfl
  have i2 : ∀ w, (Instr.index 98 (.agg #[.int .i64 a, .int .i64 d, .int .i64 b, .int .i64 c, .int .i64 b, .int .i64 d]) (.int .i64 2)).run Tryz.prog w = .ok (.agg #[.int .i64 b, .int .i64 d]) w := fun _ => by kernel_rfl
  have C1 := Lib.hid (fun w => check_ok a b w ⟨by omega, h.ab, by omega⟩)
  have C2 := Lib.hid (fun w => check_ok c d w ⟨by omega, h.cd, by omega⟩)
  have NO := Lib.hid h.no
  have F0 := Lib.hid (fun w => direction_ok h.sa h.sc' n1 w)
  have D0 := Lib.hid (fun w => direction_ok h.sa h.sd n2 w)
  have D1 := Lib.hid (fun w => direction_ok h.sb h.sc' n3 w)
  have D2 := Lib.hid (fun w => direction_ok h.sb h.sd n4 w)
  have hf : Md (dirW a c) 1200000001 := by obtain ⟨x, y, z⟩ := dir_fin h.sa h.sc'; exact ⟨x, y, z⟩
  obtain ⟨s0, m0⟩ := d0_ok hf h.sa h.sd
  obtain ⟨s1, m1⟩ := d0_ok hf h.sb h.sc'
  obtain ⟨s2, m2⟩ := d0_ok hf h.sb h.sd
  have t0 := (d1_ok m0).1; have t1 := (d1_ok m1).1; have t2 := (d1_ok m2).1
  have p0 := (d1_ok m0).2; have p1 := (d1_ok m1).2; have p2 := (d1_ok m2).2
  have u0 := (d2_ok p0).1; have u1 := (d2_ok p1).1; have u2 := (d2_ok p2).1
  have q0 := (d2_ok p0).2; have q1 := (d2_ok p1).2; have q2 := (d2_ok p2).2
  have O0 := Lib.hid (d1_ord m0); have O1 := Lib.hid (d1_ord m1); have O2 := Lib.hid (d1_ord m2)
  have U0 := Lib.hid (d2_ord p0); have U1 := Lib.hid (d2_ord p1); have U2 := Lib.hid (d2_ord p2)
  have l1 := md_min md_zero q0; have l2 := md_min l1 q1; have l3 := md_min l2 q2
  have g1 := md_max md_zero q0; have g2 := md_max g1 q1; have g3 := md_max g2 q2
  have R0 := Lib.hid (fun ts t w => run_fmin (P := Tryz.prog) ts t md_zero.fin q0.fin w); have R1 := Lib.hid (fun ts t w => run_fmin (P := Tryz.prog) ts t l1.fin q1.fin w); have R2 := Lib.hid (fun ts t w => run_fmin (P := Tryz.prog) ts t l2.fin q2.fin w)
  have V0 := Lib.hid (fun ts t w => run_fmax (P := Tryz.prog) ts t md_zero.fin q0.fin w); have V1 := Lib.hid (fun ts t w => run_fmax (P := Tryz.prog) ts t g1.fin q1.fin w); have V2 := Lib.hid (fun ts t w => run_fmax (P := Tryz.prog) ts t g2.fin q2.fin w)
  obtain ⟨x1, a1⟩ := arc_sum hf l3
  obtain ⟨x2, a2⟩ := arc_sum hf g3
  have yy1 := fop x1; have yy2 := fop x2
  have B1 := around_bd a1 (by grind) (by have := hf.lo; have := l3.lo; grind) (by have := hf.hi; have := l3.hi; grind)
  have B2 := around_bd a2 (by grind) (by have := hf.lo; have := g3.lo; grind) (by have := hf.hi; have := g3.hi; grind)
  have K1 := Lib.hid (fun w => Around_ok a1 w)
  have K2 := Lib.hid (fun w => Around_ok a2 w)
  have eo : arcOut a b c d = if 400000000 < arcHi a b c d - arcLo a b c d then .tuple #[.agg #[.int .i64 0, .int .i64 0], .int .i64 11] else .tuple #[.agg #[.int .i64 (arcLo a b c d % 1000000000), .int .i64 (arcLo a b c d % 1000000000 + arcHi a b c d - arcLo a b c d)], .int .i64 0] := rfl
  have el : arcLo a b c d = aLo (fadd (dirW a c) (fminW (fminW (fminW 0 (d2W (d1W (d0W (dirW a c) a d)))) (d2W (d1W (d0W (dirW a c) b c)))) (d2W (d1W (d0W (dirW a c) b d))))) := rfl
  have eh : arcHi a b c d = aHi (fadd (dirW a c) (fmaxW (fmaxW (fmaxW 0 (d2W (d1W (d0W (dirW a c) a d)))) (d2W (d1W (d0W (dirW a c) b c)))) (d2W (d1W (d0W (dirW a c) b d))))) := rfl
  have z0 := fop s0; have z1 := fop s1; have z2 := fop s2
  have z3 := fop t0; have z4 := fop t1; have z5 := fop t2
  have z6 := fop u0; have z7 := fop u1; have z8 := fop u2
  rw [← el] at B1 K1
  rw [← eh] at B2 K2
  have B := Lib.hid (And.intro B1 B2)
  clear h hf m0 m1 m2 p0 p1 p2 q0 q1 q2 l1 l2 l3 g1 g2 g3 s0 s1 s2 t0 t1 t2 u0 u1 u2 x1 x2 a1 a2 el eh B1 B2 n1 n2 n3 n4 ha1 ha2 hb1 hb2 hc1 hc2 hd1 hd2
  generalize arcOut a b c d = ov at *
  have HOV := Lib.hid eo
  clear eo
  generalize arcLo a b c d = lo at *
  generalize arcHi a b c d = hi at *
  generalize dirW a c = f at *
  generalize dirW a d = ad at *
  generalize dirW b c = bc at *
  generalize dirW b d = bd at *
  generalize d0W f a d = x0 at *
  generalize d0W f b c = x1 at *
  generalize d0W f b d = x2 at *
  generalize d1W x0 = y0 at *
  generalize d1W x1 = y1 at *
  generalize d1W x2 = y2 at *
  generalize d2W y0 = e0 at *
  generalize d2W y1 = e1 at *
  generalize d2W y2 = e2 at *
  generalize fminW 0 e0 = L1 at *
  generalize fminW L1 e1 = L2 at *
  generalize fminW L2 e2 = L3 at *
  generalize fmaxW 0 e0 = G1 at *
  generalize fmaxW G1 e1 = G2 at *
  generalize fmaxW G2 e2 = G3 at *
  generalize aHi (fadd f L3) = qh at *
  generalize aLo (fadd f G3) = ql at *
  have Z := Lib.hid (And.intro z0 (And.intro z1 (And.intro z2 (And.intro z3 (And.intro z4 (And.intro z5 (And.intro z6 (And.intro z7 z8))))))))
  have YY := Lib.hid (And.intro yy1 yy2)
  clear z0 z1 z2 z3 z4 z5 z6 z7 z8 yy1 yy2
  have b0 := SpBox.new w a b
  have b1 := SpBox.new (w.alloc (.cells #[.int .i64 a, .int .i64 b] 28)) c d
  have b2 := SpBox.new ((w.alloc (.cells #[.int .i64 a, .int .i64 b] 28)).alloc (.cells #[.int .i64 c, .int .i64 d] 28)) 0 0
  obtain ⟨k, hk⟩ : ∃ b, b = w.heap.size := ⟨_, rfl⟩
  have e5 : (w.alloc (.cells #[.int .i64 a, .int .i64 b] 28)).heap.size = k + 1 := by simp [hk]
  have e6 : ((w.alloc (.cells #[.int .i64 a, .int .i64 b] 28)).alloc (.cells #[.int .i64 c, .int .i64 d] 28)).heap.size = k + 1 + 1 := by simp [hk]
  rw [e5] at b1
  rw [e6] at b2
  have HB0 := Lib.hid ((b0.alloc (.cells #[.int .i64 c, .int .i64 d] 28)).alloc (.cells #[.int .i64 0, .int .i64 0] 28))
  rw [← hk] at HB0
  have HB1 := Lib.hid (b1.alloc (.cells #[.int .i64 0, .int .i64 0] 28))
  have HB2 := Lib.hid b2
  have HW := Lib.hid (show Below w.heap.size w (((w.alloc (.cells #[.int .i64 a, .int .i64 b] 28)).alloc (.cells #[.int .i64 c, .int .i64 d] 28)).alloc (.cells #[.int .i64 0, .int .i64 0] 28)) from (by repeat' (first | (with_reducible refine below_drewN ?_ _) | go_grown)))
  have HK := Lib.hid hk
  have HE5 := Lib.hid e5; have HE6 := Lib.hid e6
  clear b0 b1 b2 e5 e6
  go_enter Tryz.func59, Tryz.ntmps59
  go_upto_region 1 with fail
  (try rw [HE5.out])
  (try rw [HE6.out])
  rw [← hk]
  clear hk
  obtain ⟨W, hW⟩ : ∃ W, W = ((w.alloc (.cells #[.int .i64 a, .int .i64 b] 28)).alloc (.cells #[.int .i64 c, .int .i64 d] 28)).alloc (.cells #[.int .i64 0, .int .i64 0] 28) := ⟨_, rfl⟩
  rw [← hW] at HB0 HB1 HB2 HW ⊢
  clear hW
  have c00 := HB0.out.c0; have c01 := HB0.out.c1; have c0l := HB0.out.lt
  have c10 := HB1.out.c0; have c11 := HB1.out.c1; have c1l := HB1.out.lt
  go_wp2_with fail
  clear c00 c01 c0l c10 c11 c1l
  go_loopw [19] (fun i wr => ∃ j : Nat, j ≤ 2 ∧ i = .int .i64 j ∧ Hid (SpBox wr k a b) ∧ Hid (SpBox wr (k + 1) c d) ∧ Hid (SpBox wr (k + 1 + 1) 0 0) ∧ Hid (Below w.heap.size w wr)) (fun i _ => 2 - (intOf i).toNat)
  case atStart => exact ⟨0, by omega, rfl, HB0, HB1, HB2, HW⟩
  case round =>
    clear HB0 HB1 HB2 HW
    obtain ⟨j, hj, rfl, S0, S1, S2, BW⟩ := hrel
    obtain rfl | rfl | rfl : j = 0 ∨ j = 1 ∨ j = 2 := by omega
    · go_wp2_with fail
      refine Calls.mono (C1.out _) ?_
      rintro e w1 ⟨rfl, hb⟩
      have S0n := Lib.hid ((S0.out.alloc (.cells #[.int .i64 a, .int .i64 b] 28)).below hb)
      have S1n := Lib.hid ((S1.out.alloc (.cells #[.int .i64 a, .int .i64 b] 28)).below hb)
      have S2n := Lib.hid ((S2.out.alloc (.cells #[.int .i64 a, .int .i64 b] 28)).below hb)
      have al := BW.out.alloc BW.out.size (.cells #[.int .i64 a, .int .i64 b] 28)
      have BWn := Lib.hid (al.trans (hb.mono al.size))
      clear hb al S0 S1 S2 BW
      go_wp2_with fail
      go_roundw
      case rel => exact ⟨1, by omega, by go_num, S0n, S1n, S2n, BWn⟩
      case measure => simp [intOf]
    · go_wp2_with fail
      refine Calls.mono (C2.out _) ?_
      rintro e w1 ⟨rfl, hb⟩
      have S0n := Lib.hid ((S0.out.alloc (.cells #[.int .i64 c, .int .i64 d] 28)).below hb)
      have S1n := Lib.hid ((S1.out.alloc (.cells #[.int .i64 c, .int .i64 d] 28)).below hb)
      have S2n := Lib.hid ((S2.out.alloc (.cells #[.int .i64 c, .int .i64 d] 28)).below hb)
      have al := BW.out.alloc BW.out.size (.cells #[.int .i64 c, .int .i64 d] 28)
      have BWn := Lib.hid (al.trans (hb.mono al.size))
      clear hb al S0 S1 S2 BW
      go_wp2_with fail
      go_roundw
      case rel => exact ⟨2, by omega, by go_num, S0n, S1n, S2n, BWn⟩
      case measure => simp [intOf]
    · go_upto_region 8 with fail
      obtain ⟨W0, hW0⟩ : ∃ x, x = wr := ⟨_, rfl⟩
      have c00 := S0.out.c0; have c01 := S0.out.c1; have c0l := S0.out.lt
      have c10 := S1.out.c0; have c11 := S1.out.c1; have c1l := S1.out.lt
      have s0 := S0.out; have s1 := S1.out; have s2 := S2.out; have bw := BW.out
      rw [← hW0] at s0 s1 s2 bw
      go_cut [46] from 29 to 46 (fun s46 wx => s46 = .bool false ∧ wx = W0)
      case first =>
        subst hW0
        clear s0 s1 s2 bw
        by_cases q1 : a ≤ 0
        · by_cases q2 : 0 ≤ b
          · by_cases q3 : c ≤ 0
            · have q4 : ¬ 0 ≤ d := fun h => NO.out ⟨q1, q2, q3, h⟩
              go_wp2_with fail
              go_meet
              exact ⟨rfl, rfl⟩
            · go_wp2_with fail
              go_meet
              exact ⟨rfl, rfl⟩
          · go_wp2_with fail
            go_meet
            exact ⟨rfl, rfl⟩
        · go_wp2_with fail
          go_meet
          exact ⟨rfl, rfl⟩
      case rest =>
        obtain ⟨rfl, hwx⟩ := hcut
        clear hW0
        subst hwx
        have T0 := Lib.hid s0; have T1 := Lib.hid s1; have T2 := Lib.hid s2; have TW := Lib.hid bw
        clear c00 c01 c0l c10 c11 c1l s0 s1 s2 bw S0 S1 S2 BW
        have c00 := T0.out.c0; have c01 := T0.out.c1; have c0l := T0.out.lt
        have c10 := T1.out.c0; have c11 := T1.out.c1; have c1l := T1.out.lt
        go_wp2_with fail
        refine Calls.mono (F0.out _) ?_
        rintro e _ ⟨rfl, rfl⟩
        go_wp2_with fail
        clear c00 c01 c0l c10 c11 c1l
        go_loopw [10, 11, 69] (fun l h i wr => ∃ (j lv hv : Nat), j ≤ 3 ∧ i = .int .i64 j ∧ l = .float .f64 lv ∧ h = .float .f64 hv ∧ Hid (j = 0 ∧ lv = 0 ∧ hv = 0 ∨ j = 1 ∧ lv = L1 ∧ hv = G1 ∨ j = 2 ∧ lv = L2 ∧ hv = G2 ∨ j = 3 ∧ lv = L3 ∧ hv = G3) ∧ Hid (SpBox wr (k + 1 + 1) 0 0) ∧ Hid (Below w.heap.size w wr)) (fun _ _ i _ => 3 - (intOf i).toNat)
        case atStart => exact ⟨0, 0, 0, by omega, rfl, rfl, rfl, Lib.hid (.inl ⟨rfl, rfl, rfl⟩), T2, TW⟩
        case round =>
          clear T0 T1 T2 TW
          obtain ⟨j, lv, hv, hj, rfl, rfl, rfl, hlh, S2, BW⟩ := hrel
          rcases hlh.out with ⟨rfl, rfl, rfl⟩ | ⟨rfl, e1l, e1h⟩ | ⟨rfl, e1l, e1h⟩ | ⟨rfl, e1l, e1h⟩
          · skip
            clear hlh
            have rm := R0.out; have rx := V0.out
            have zz := Z.out.1; have zt := Z.out.2.2.2.1; have zu := Z.out.2.2.2.2.2.2.1
            have S2n := Lib.hid (S2.out.alloc (.cells #[.int .i64 a, .int .i64 d] 89))
            have BWn := Lib.hid (BW.out.alloc BW.out.size (.cells #[.int .i64 a, .int .i64 d] 89))
            rcases O0.out with ⟨-, o1, ey⟩ | ⟨o1, ey⟩
            · rw [← ey] at zt
              have u := U0.out
              rcases u with ⟨-, o2, ee⟩ | ⟨o2, ee⟩
              · rw [← ee] at zu
                (try have EY := Lib.hid ey); (try have EE := Lib.hid ee)
                (try clear ey); (try clear ee)
                clear S2 BW
                go_wp2_with fail
                refine Calls.mono (D0.out _) ?_
                rintro e _ ⟨rfl, rfl⟩
                go_wp2_with fail
                go_roundw
                case rel => exact ⟨1, _, _, by omega, by go_num, rfl, rfl, Lib.hid (by simp), S2n, BWn⟩
                case measure => simp [intOf]
              · subst ee
                (try have EY := Lib.hid ey); (try have EE := Lib.hid ee)
                (try clear ey); (try clear ee)
                clear S2 BW
                go_wp2_with fail
                refine Calls.mono (D0.out _) ?_
                rintro e _ ⟨rfl, rfl⟩
                go_wp2_with fail
                go_roundw
                case rel => exact ⟨1, _, _, by omega, by go_num, rfl, rfl, Lib.hid (by simp), S2n, BWn⟩
                case measure => simp [intOf]
            · subst ey
              have u := U0.out
              rcases u with ⟨-, o2, ee⟩ | ⟨o2, ee⟩
              · rw [← ee] at zu
                (try have EY := Lib.hid ey); (try have EE := Lib.hid ee)
                (try clear ey); (try clear ee)
                clear S2 BW
                go_wp2_with fail
                refine Calls.mono (D0.out _) ?_
                rintro e _ ⟨rfl, rfl⟩
                go_wp2_with fail
                go_roundw
                case rel => exact ⟨1, _, _, by omega, by go_num, rfl, rfl, Lib.hid (by simp), S2n, BWn⟩
                case measure => simp [intOf]
              · subst ee
                (try have EY := Lib.hid ey); (try have EE := Lib.hid ee)
                (try clear ey); (try clear ee)
                clear S2 BW
                go_wp2_with fail
                refine Calls.mono (D0.out _) ?_
                rintro e _ ⟨rfl, rfl⟩
                go_wp2_with fail
                go_roundw
                case rel => exact ⟨1, _, _, by omega, by go_num, rfl, rfl, Lib.hid (by simp), S2n, BWn⟩
                case measure => simp [intOf]
          · subst e1l; subst e1h
            clear hlh
            have rm := R1.out; have rx := V1.out
            have zz := Z.out.2.1; have zt := Z.out.2.2.2.2.1; have zu := Z.out.2.2.2.2.2.2.2.1
            have S2n := Lib.hid (S2.out.alloc (.cells #[.int .i64 b, .int .i64 c] 89))
            have BWn := Lib.hid (BW.out.alloc BW.out.size (.cells #[.int .i64 b, .int .i64 c] 89))
            rcases O1.out with ⟨-, o1, ey⟩ | ⟨o1, ey⟩
            · rw [← ey] at zt
              have u := U1.out
              rcases u with ⟨-, o2, ee⟩ | ⟨o2, ee⟩
              · rw [← ee] at zu
                (try have EY := Lib.hid ey); (try have EE := Lib.hid ee)
                (try clear ey); (try clear ee)
                clear S2 BW
                go_wp2_with fail
                refine Calls.mono (D1.out _) ?_
                rintro e _ ⟨rfl, rfl⟩
                go_wp2_with fail
                go_roundw
                case rel => exact ⟨2, _, _, by omega, by go_num, rfl, rfl, Lib.hid (by simp), S2n, BWn⟩
                case measure => simp [intOf]
              · subst ee
                (try have EY := Lib.hid ey); (try have EE := Lib.hid ee)
                (try clear ey); (try clear ee)
                clear S2 BW
                go_wp2_with fail
                refine Calls.mono (D1.out _) ?_
                rintro e _ ⟨rfl, rfl⟩
                go_wp2_with fail
                go_roundw
                case rel => exact ⟨2, _, _, by omega, by go_num, rfl, rfl, Lib.hid (by simp), S2n, BWn⟩
                case measure => simp [intOf]
            · subst ey
              have u := U1.out
              rcases u with ⟨-, o2, ee⟩ | ⟨o2, ee⟩
              · rw [← ee] at zu
                (try have EY := Lib.hid ey); (try have EE := Lib.hid ee)
                (try clear ey); (try clear ee)
                clear S2 BW
                go_wp2_with fail
                refine Calls.mono (D1.out _) ?_
                rintro e _ ⟨rfl, rfl⟩
                go_wp2_with fail
                go_roundw
                case rel => exact ⟨2, _, _, by omega, by go_num, rfl, rfl, Lib.hid (by simp), S2n, BWn⟩
                case measure => simp [intOf]
              · subst ee
                (try have EY := Lib.hid ey); (try have EE := Lib.hid ee)
                (try clear ey); (try clear ee)
                clear S2 BW
                go_wp2_with fail
                refine Calls.mono (D1.out _) ?_
                rintro e _ ⟨rfl, rfl⟩
                go_wp2_with fail
                go_roundw
                case rel => exact ⟨2, _, _, by omega, by go_num, rfl, rfl, Lib.hid (by simp), S2n, BWn⟩
                case measure => simp [intOf]
          · subst e1l; subst e1h
            clear hlh
            have rm := R2.out; have rx := V2.out
            have zz := Z.out.2.2.1; have zt := Z.out.2.2.2.2.2.1; have zu := Z.out.2.2.2.2.2.2.2.2
            have S2n := Lib.hid (S2.out.alloc (.cells #[.int .i64 b, .int .i64 d] 89))
            have BWn := Lib.hid (BW.out.alloc BW.out.size (.cells #[.int .i64 b, .int .i64 d] 89))
            rcases O2.out with ⟨-, o1, ey⟩ | ⟨o1, ey⟩
            · rw [← ey] at zt
              have u := U2.out
              rcases u with ⟨-, o2, ee⟩ | ⟨o2, ee⟩
              · rw [← ee] at zu
                (try have EY := Lib.hid ey); (try have EE := Lib.hid ee)
                (try clear ey); (try clear ee)
                clear S2 BW
                go_wp2_with fail
                refine Calls.mono (D2.out _) ?_
                rintro e _ ⟨rfl, rfl⟩
                go_wp2_with fail
                go_roundw
                case rel => exact ⟨3, _, _, by omega, by go_num, rfl, rfl, Lib.hid (by simp), S2n, BWn⟩
                case measure => simp [intOf]
              · subst ee
                (try have EY := Lib.hid ey); (try have EE := Lib.hid ee)
                (try clear ey); (try clear ee)
                clear S2 BW
                go_wp2_with fail
                refine Calls.mono (D2.out _) ?_
                rintro e _ ⟨rfl, rfl⟩
                go_wp2_with fail
                go_roundw
                case rel => exact ⟨3, _, _, by omega, by go_num, rfl, rfl, Lib.hid (by simp), S2n, BWn⟩
                case measure => simp [intOf]
            · subst ey
              have u := U2.out
              rcases u with ⟨-, o2, ee⟩ | ⟨o2, ee⟩
              · rw [← ee] at zu
                (try have EY := Lib.hid ey); (try have EE := Lib.hid ee)
                (try clear ey); (try clear ee)
                clear S2 BW
                go_wp2_with fail
                refine Calls.mono (D2.out _) ?_
                rintro e _ ⟨rfl, rfl⟩
                go_wp2_with fail
                go_roundw
                case rel => exact ⟨3, _, _, by omega, by go_num, rfl, rfl, Lib.hid (by simp), S2n, BWn⟩
                case measure => simp [intOf]
              · subst ee
                (try have EY := Lib.hid ey); (try have EE := Lib.hid ee)
                (try clear ey); (try clear ee)
                clear S2 BW
                go_wp2_with fail
                refine Calls.mono (D2.out _) ?_
                rintro e _ ⟨rfl, rfl⟩
                go_wp2_with fail
                go_roundw
                case rel => exact ⟨3, _, _, by omega, by go_num, rfl, rfl, Lib.hid (by simp), S2n, BWn⟩
                case measure => simp [intOf]
          · subst e1l; subst e1h
            clear hlh
            have y1 := YY.out.1; have y2 := YY.out.2
            have fd0 : ∀ w, (Instr.field 28 (.agg #[.int .i64 lo, .int .i64 qh]) 0).run Tryz.prog w = .ok (.int .i64 lo) w := fun _ => by kernel_rfl
            have fd1 : ∀ w, (Instr.field 28 (.agg #[.int .i64 ql, .int .i64 hi]) 1).run Tryz.prog w = .ok (.int .i64 hi) w := fun _ => by kernel_rfl
            obtain ⟨⟨v1, v2, v3, v4⟩, v5, v6, v7, v8⟩ := B.out
            clear R0 R1 R2 V0 V1 V2 O0 O1 O2 U0 U1 U2 D0 D1 D2 F0 Z C1 C2
            go_wp2_with fail
            refine Calls.mono (K1.out _) ?_
            rintro e w1 ⟨rfl, hb⟩
            have S3 := Lib.hid (S2.out.below hb)
            have B3 := Lib.hid (BW.out.trans (hb.mono BW.out.size))
            clear hb S2 BW
            go_wp2_with fail
            refine Calls.mono (K2.out _) ?_
            rintro e w2 ⟨rfl, hb⟩
            have S4 := Lib.hid ((S3.out.below hb).alloc (.cells #[.int .i64 lo, .int .i64 hi] 28))
            have B4 := Lib.hid (B3.out.trans (hb.mono B3.out.size))
            have B5 := Lib.hid (B4.out.alloc B4.out.size (.cells #[.int .i64 lo, .int .i64 hi] 28))
            have ew : IntKind.i64.wrap (hi - lo) = hi - lo := IntWalk.i64_in _ (by omega)
            have HN := Lib.hid (fun w => norm_ok lo hi w (by omega) (by omega))
            clear hb S3 B3 v1 v2 v3 v4 v5 v6 v7 v8
            obtain ⟨m, hm⟩ : ∃ m, m = w2.heap.size := ⟨_, rfl⟩
            by_cases hgt : 400000000 < hi - lo
            · have HG := Lib.hid hgt
              have r20 := S4.out.c0; have r21 := S4.out.c1; have r2l := S4.out.lt; have f20 := S4.out.free 0; have f21 := S4.out.free 1
              go_wp2_with fail
              refine bodyPost_ret (v := .tuple #[.agg #[.int .i64 0, .int .i64 0], .int .i64 11]) ?_ rfl ⟨?_, ?_⟩
              · simp [results, Tryz.results59, go_sem, r20, r21, r2l, f20, f21]
              · rw [HOV.out, if_pos HG.out]
              · have := HK.out
                refine Below.setCell (Below.setCell B5.out ?_ _) ?_ _
                all_goals (dsimp only; omega)
            · have HG := Lib.hid hgt
              have r20 := S4.out.c0; have r21 := S4.out.c1; have r2l := S4.out.lt; have f20 := S4.out.free 0; have f21 := S4.out.free 1
              go_wp2_with fail
              refine Calls.mono (HN.out _) ?_
              rintro e w3 ⟨rfl, hb⟩
              have S6 := S4.out.below hb
              have B6 := B5.out.trans (hb.mono B5.out.size)
              clear hb r20 r21 r2l f20 f21
              have r20 := S6.c0; have r21 := S6.c1; have r2l := S6.lt; have f20 := S6.free 0; have f21 := S6.free 1
              have B7 := Lib.hid B6
              obtain ⟨mm, hmm⟩ : ∃ mm, mm = lo % 1000000000 := ⟨_, rfl⟩
              have HMM := Lib.hid hmm
              rw [← hmm]
              clear hmm
              clear B6 S6
              go_wp2_with fail
              refine bodyPost_ret (v := .tuple #[.agg #[.int .i64 mm, .int .i64 (mm + hi - lo)], .int .i64 0]) ?_ rfl ⟨?_, ?_⟩
              · simp [results, Tryz.results59, go_sem, r20, r21, r2l, f20, f21]
              · rw [HOV.out, if_neg (Int.not_lt.2 HG.out), HMM.out]
              · have := HK.out
                refine Below.setCell (Below.setCell B7.out ?_ _) ?_ _
                all_goals (dsimp only; omega)
end Go.Proofs.YtcopmgnfakjdhaaGreatDoor
