/- riseset.Find. -/
import Derived.Test.YtcopmgnfakjdhaaGreatDoorVRsWs
namespace Go.Proofs.YtcopmgnfakjdhaaGreatDoor
open Go.RowKit
set_option linter.unusedSimpArgs false
set_option linter.unusedVariables false
theorem IntBox.set {w : World} {b : Nat} {q : Int} (h : IntBox w b q) (u : Int) : IntBox (w.setCell ⟨b, 0, none⟩ (.int .i64 u)) b u :=
  (World.rowIs.set h 0 (.int .i64 u)).congr (fun i hi => by
    match i, hi with
    | 0, _ => rfl)
theorem IntBox.free {w : World} {b : Nat} {x : Int} (h : IntBox w b x) (i : Nat) : w.frozen? ⟨b, i, none⟩ = false := World.rowIs.frozen h i
def RsInv (sd : Int → Int) (base : Int) (R : Int × Int × Int) (k : Nat) (op : Bool) (bf ws : Int) : Prop :=
  rfL sd base (97 - k) (k : Int) op bf ws = R ∧ (ws = -1 → base ≤ bf ∧ bf ≤ base + (k : Int) * 900000)
theorem rs_next {sd : Int → Int} {base : Int} {R : Int × Int × Int} {k : Nat} {op : Bool} {bf ws : Int} (hk : k < 97) (h : RsInv sd base R k op bf ws) :
    (sd (base + (k : Int) * 900000) = 0 → RsInv sd base R (k + 1) true bf ws) ∧
    (sd (base + (k : Int) * 900000) ≠ 0 → (ws = -1 ∧ sd (base + (k : Int) * 900000) = 1) → R = rsR (nrwF sd 120000 64 bf (base + (k : Int) * 900000)) ∧ base ≤ bf ∧ bf ≤ base + (k : Int) * 900000) ∧
    (sd (base + (k : Int) * 900000) ≠ 0 → ¬ (ws = -1 ∧ sd (base + (k : Int) * 900000) = 1) → RsInv sd base R (k + 1) op (base + (k : Int) * 900000) (sd (base + (k : Int) * 900000))) := by
  obtain ⟨h, hb⟩ := h
  have e : 97 - k = (97 - (k + 1)) + 1 := by omega
  rw [e] at h
  unfold rfL at h
  have c1 : ((k + 1 : Nat) : Int) = (k : Int) + 1 := by omega
  refine ⟨fun a => ?_, fun a b => ?_, fun a b => ?_⟩
  · rw [if_pos a] at h
    exact ⟨by rw [c1]; exact h, fun q => by have := hb q; rw [c1]; omega⟩
  · rw [if_neg a, if_pos b] at h
    exact ⟨h.symm, hb b.1⟩
  · rw [if_neg a, if_neg b] at h
    exact ⟨by rw [c1]; exact h, fun q => by rw [c1]; omega⟩
theorem rs_last {sd : Int → Int} {base : Int} {R : Int × Int × Int} {op : Bool} {bf ws : Int} (h : RsInv sd base R 97 op bf ws) : R = (0, 0, if op then 11 else 6) := by
  obtain ⟨h, -⟩ := h
  exact h.symm
set_option maxRecDepth 100000 in
set_option maxHeartbeats 16000000 in
theorem rsFind_ok (lon lat d b : Int) (rising : Bool) (hb : b = 0 ∨ b = 1) (hd : -3900000 ≤ d ∧ d ≤ 3900000) (pl : PlOk lon lat) (w : World) (hT : SinT w) (hL : LimT w) : Calls Tryz.prog 14 #[.agg #[.int .i64 lon, .int .i64 lat], .int .i64 d, .int .i64 b, .bool rising] w fun e w' => e = .returned (.tuple #[.agg #[.int .i64 (rsF lon lat b d (if rising then 1 else -1)).1, .int .i64 (rsF lon lat b d (if rising then 1 else -1)).2.1], .int .i64 (rsF lon lat b d (if rising then 1 else -1)).2.2]) ∧ Below w.heap.size w w' := by
  have CK := Lib.hid (fun w => rsCheck_ok lon lat b hb pl w)
  obtain ⟨sg, hsg⟩ : ∃ s : Int, s = if rising then 1 else -1 := ⟨_, rfl⟩
  rw [← hsg]
  have hs : sg = 1 ∨ sg = -1 := by rw [hsg]; cases rising <;> simp
  obtain ⟨sd, hsd⟩ : ∃ sd : Int → Int, sd = fun x => sg * abF lon lat b x := ⟨_, rfl⟩
  obtain ⟨base, hbase⟩ : ∃ x, x = d * 86400000 := ⟨_, rfl⟩
  have hin : ∀ x, base ≤ x → x ≤ base + 86400000 → instOk x = true := fun x h1 h2 => by unfold instOk dayOk; exact decide_eq_true (by omega)
  have SD := Lib.hid (fun W kS kP kB (hT : SinT W) (hL : LimT W) (hS : IntBox W kS sg) (hP : PlBox W kP lon lat) (hB : IntBox W kB b) => show FnAt 42 #[.pointer (some ⟨kS, 0, none⟩), .pointer (some ⟨kP, 0, none⟩), .pointer (some ⟨kB, 0, none⟩)] (fun x => .int .i64 (sd x)) base (base + 86400000) W by
    rw [hsd]; exact rsSide_ok lon lat b sg hb hs pl base (base + 86400000) hin kS kP kB W hT hL hS hP hB)
  obtain ⟨R, hR⟩ : ∃ R, R = rsF lon lat b d sg := ⟨_, rfl⟩
  have I0 : Hid (RsInv sd base R 0 false 0 0) := Lib.hid ⟨by rw [hR, hsd, hbase]; rfl, fun h => absurd h (by omega)⟩
  rw [← hR]
  have bb : -340000000000000 ≤ base ∧ base ≤ 340000000000000 := by omega
  have wb : wrap64 (d * 86400000) = base := by rw [hbase]; exact IntWalk.wrap64_in _ (by omega)
  have HT := Lib.hid hT
  have HL := Lib.hid hL
  obtain ⟨d1, d2⟩ := hd
  have HSG := Lib.hid hsg
  have HBA := Lib.hid hbase
  clear hT hL hb pl hin hsd hR hs hsg hbase wb
  have P1 := PlBox.new w lon lat
  have B1 := IntBox.new (w.alloc (.cells #[.int .i64 lon, .int .i64 lat] 23)) b
  have R1 := SpBox.new ((w.alloc (.cells #[.int .i64 lon, .int .i64 lat] 23)).alloc (.cells #[.int .i64 b] 3)) 0 0
  have P2 := (P1.alloc (.cells #[.int .i64 b] 3)).alloc (.cells #[.int .i64 0, .int .i64 0] 28)
  have B2 := B1.alloc (.cells #[.int .i64 0, .int .i64 0] 28)
  obtain ⟨k0, hk0⟩ : ∃ x, x = w.heap.size := ⟨_, rfl⟩
  have e1 : (w.alloc (.cells #[.int .i64 lon, .int .i64 lat] 23)).heap.size = k0 + 1 := by simp [hk0]
  have e2' : ((w.alloc (.cells #[.int .i64 lon, .int .i64 lat] 23)).alloc (.cells #[.int .i64 b] 3)).heap.size = k0 + 2 := by simp [hk0]
  rw [e1] at B2
  rw [e2'] at R1
  rw [← hk0] at P2
  have BW : Below w.heap.size w (((w.alloc (.cells #[.int .i64 lon, .int .i64 lat] 23)).alloc (.cells #[.int .i64 b] 3)).alloc (.cells #[.int .i64 0, .int .i64 0] 28)) := (by repeat' (first | (with_reducible refine below_drewN ?_ _) | go_grown))
  clear P1 B1 e1 e2'
  have HB := Lib.hid (Below.refl w.heap.size w)
  clear HB
  go_enter Tryz.func14, Tryz.ntmps14
  go_upto_region 1 with fail
  rw [← hk0]
  obtain ⟨k1, hk1⟩ : ∃ x, x = k0 + 1 := ⟨_, rfl⟩
  obtain ⟨k2, hk2⟩ : ∃ x, x = k1 + 1 := ⟨_, rfl⟩
  rw [show k0 + 2 = k1 + 1 from by omega, ← hk2] at R1
  rw [← hk1] at B2 ⊢
  rw [← hk2]
  have HK := Lib.hid (show w.heap.size ≤ k2 by omega)
  have KS := Lib.hid (show k2 ≠ k0 ∧ k2 ≠ k1 by omega)
  clear hk0 hk1 hk2
  obtain ⟨X, hX⟩ : ∃ X, X = (((w.alloc (.cells #[.int .i64 lon, .int .i64 lat] 23)).alloc (.cells #[.int .i64 b] 3)).alloc (.cells #[.int .i64 0, .int .i64 0] 28)) := ⟨_, rfl⟩
  rw [← hX] at P2 B2 R1 BW ⊢
  clear hX
  have c0 := P2.c0; have c1 := P2.c1; have c2 := B2.c0
  have P := Lib.hid P2; have B := Lib.hid B2; have R0 := Lib.hid R1; have W0 := Lib.hid BW
  clear P2 B2 R1 BW
  go_wp2_with fail
  refine Calls.mono (CK.out _) ?_
  rintro e v1 ⟨rfl, hb⟩
  have P1 := Lib.hid (P.out.below hb); have B1 := Lib.hid (B.out.below hb); have R1 := Lib.hid (R0.out.below hb); have W1 := Lib.hid (W0.out.trans (hb.mono W0.out.size))
  clear hb c0 c1 c2 P B R0 W0 CK
  go_upto_region 7 with fail
  have DD := Lib.hid d1
  have DE := Lib.hid d2
  obtain ⟨kS, hkS⟩ : ∃ x, x = v1.heap.size := ⟨_, rfl⟩
  have S2 := IntBox.new v1 1
  rw [← hkS] at S2 ⊢
  have P2 := P1.out.alloc (.cells #[.int .i64 1] 3)
  have B2 := B1.out.alloc (.cells #[.int .i64 1] 3)
  have R2 := R1.out.alloc (.cells #[.int .i64 1] 3)
  have W2 := W1.out.alloc W1.out.size (.cells #[.int .i64 1] 3)
  have l0 := P1.out.lt; have l1 := B1.out.lt; have l2 := R1.out.lt; have l3 := W1.out.size
  rw [← hkS] at l0 l1 l2 l3
  obtain ⟨Y, hY⟩ : ∃ Y, Y = v1.alloc (.cells #[.int .i64 1] 3) := ⟨_, rfl⟩
  rw [← hY] at S2 P2 B2 R2 W2 ⊢
  clear hY hkS P1 B1 R1 W1 d1 d2
  have NR := Lib.hid (fun W f a (hT : SinT W) (hL : LimT W) (hS : IntBox W kS sg) (hP : PlBox W k0 lon lat) (hB : IntBox W k1 b) (h1 : base ≤ f) (h2 : f ≤ a) (h3 : a ≤ base + 86400000) => narrow_ok 42 #[.pointer (some ⟨kS, 0, none⟩), .pointer (some ⟨k0, 0, none⟩), .pointer (some ⟨k1, 0, none⟩)] enRs sd f a 120000 W ((SD.out W kS k0 k1 hT hL hS hP hB).later h1 h3 (Below.refl _ _)) (by omega) h2 (by omega) (by omega) (by omega))
  have BB := Lib.hid bb
  clear bb
  have L := Lib.hid (show k0 < kS ∧ k1 < kS ∧ k2 < kS ∧ w.heap.size ≤ kS from ⟨l0, l1, l2, l3⟩)
  clear l0 l1 l2 l3
  cases rising
  case' false =>
    obtain rfl : sg = -1 := HSG.out
    have LL := L.out
    have HS2 := Lib.hid (show IntBox (Y.setCell ⟨kS, 0, none⟩ (.int .i64 (-1))) kS (-1) from IntBox.set S2 (-1))
    have HP2 := Lib.hid (P2.other (a := (⟨kS, 0, none⟩ : Addr)) (by dsimp only; omega) (.int .i64 (-1)))
    have HB2 := Lib.hid (B2.other (a := (⟨kS, 0, none⟩ : Addr)) (by dsimp only; omega) (.int .i64 (-1)))
    have HR2 := Lib.hid (R2.other (a := (⟨kS, 0, none⟩ : Addr)) (by dsimp only; omega) (.int .i64 (-1)))
    have HW2 := Lib.hid (show Below w.heap.size w (Y.setCell ⟨kS, 0, none⟩ (.int .i64 (-1))) from Below.setCell W2 (by dsimp only; omega) _)
    have z0 := S2.c0; have zf := S2.free 0; have zl := S2.lt
    clear S2 P2 B2 R2 W2 LL
    go_upto_region 10 with fail
    obtain ⟨Z, hZ⟩ : ∃ Z, Z = Y.setCell ⟨kS, 0, none⟩ (.int .i64 (-1)) := ⟨_, rfl⟩
    rw [← hZ] at HS2 HP2 HB2 HR2 HW2 ⊢
    clear hZ z0 zf zl Y
  case' true =>
    obtain rfl : sg = 1 := HSG.out
    have HS2 := Lib.hid S2; have HP2 := Lib.hid P2; have HB2 := Lib.hid B2; have HR2 := Lib.hid R2; have HW2 := Lib.hid W2
    clear S2 P2 B2 R2 W2
    go_upto_region 10 with fail
    obtain ⟨Z, hZ⟩ : ∃ Z, Z = Y := ⟨_, rfl⟩
    rw [← hZ] at HS2 HP2 HB2 HR2 HW2 ⊢
    clear hZ Y
  all_goals
    clear HSG
    go_upto_region 12 with fail
    go_loopw [13, 14, 15, 38] (fun o bf ws i wr => ∃ (k : Nat) (op : Bool) (f s : Int), k ≤ 97 ∧ o = .bool op ∧ bf = .int .i64 f ∧ ws = .int .i64 s ∧ i = .int .i64 k ∧ Hid (RsInv sd base R k op f s) ∧ Hid (Below Z.heap.size Z wr)) (fun _ _ _ i _ => 97 - (intOf i).toNat)
    case atStart => exact ⟨0, false, 0, 0, by omega, rfl, rfl, rfl, rfl, I0, Lib.hid (Below.refl _ _)⟩
    case round =>
      clear I0
      obtain ⟨k, op, f, s, hk, rfl, rfl, rfl, rfl, HI, HZ⟩ := hrel
      have PW := Lib.hid (HP2.out.below HZ.out); have BW := Lib.hid (HB2.out.below HZ.out); have RW := Lib.hid (HR2.out.below HZ.out); have SW := Lib.hid (HS2.out.below HZ.out)
      have WW := Lib.hid (HW2.out.trans (HZ.out.mono HW2.out.size))
      by_cases c : k < 97
      · obtain ⟨at', hat⟩ : ∃ a, a = base + (k : Int) * 900000 := ⟨_, rfl⟩
        have N := Lib.hid (rs_next c HI.out)
        rw [← hat] at N
        have wa : wrap64 (base + (k : Int) * 900000) = at' := by rw [hat]; exact IntWalk.wrap64_in _ (by have := BB.out; omega)
        have HA := Lib.hid (show base ≤ at' ∧ at' ≤ base + 86400000 by omega)
        have C := Lib.hid (show Calls Tryz.prog 42 #[.int .i64 at', .pointer (some ⟨kS, 0, none⟩), .pointer (some ⟨k0, 0, none⟩), .pointer (some ⟨k1, 0, none⟩)] wr fun e w' => e = .returned (.int .i64 (sd at')) ∧ Below wr.heap.size wr w' from SD.out wr kS k0 k1 (HT.out.below WW.out) (HL.out.below WW.out) SW.out PW.out BW.out wr at' HA.out.1 HA.out.2 (Below.refl _ _))
        clear HI SD
        generalize sd at' = nw at *
        have HAT := Lib.hid (show at' = d * 86400000 + (k : Int) * 900000 by rw [hat, HBA.out])
        clear hat wa
        rw [HAT.out] at C
        have d1 := DD.out; have d2 := DE.out
        go_wp2_with fail
        refine Calls.mono C.out ?_
        clear d1 d2
        rw [← HAT.out]
        rintro e v2 ⟨rfl, hb⟩
        have P2 := Lib.hid (PW.out.below hb); have B2 := Lib.hid (BW.out.below hb); have R2 := Lib.hid (RW.out.below hb); have S2 := Lib.hid (SW.out.below hb); have W2 := Lib.hid (WW.out.trans (hb.mono WW.out.size)); have Z2 := Lib.hid (HZ.out.trans (hb.mono HZ.out.size))
        clear hb C PW BW RW SW WW HZ
        by_cases n0 : nw = 0
        · subst n0
          clear NR
          have I2 := Lib.hid (N.out.1 rfl)
          clear N
          go_wp2_with fail
          go_roundw
          case rel => exact ⟨k + 1, true, f, s, by omega, rfl, rfl, rfl, by go_num, I2, Z2⟩
          case measure => simp [intOf]; omega
        · have nb : (nw == 0) = false := by simp [n0]
          have n0' := Lib.hid n0
          clear n0
          by_cases m : s = -1 ∧ nw = 1
          · have I2 := Lib.hid (N.out.2.1 n0'.out m)
            obtain ⟨rfl, rfl⟩ := m
            clear N n0' nb
            have NC := Lib.hid (NR.out v2 f at' (HT.out.below W2.out) (HL.out.below W2.out) S2.out P2.out B2.out I2.out.2.1 I2.out.2.2 HA.out.2)
            have RR := Lib.hid I2.out.1
            clear I2
            generalize nrwF sd 120000 64 f at' = q at *
            obtain ⟨r1, r2⟩ := q
            have RR := Lib.hid (show R = if r2 - r1 ≤ 120000 then (r1, r2, 0) else (0, 0, 11) from RR.out)
            dsimp only at NC
            by_cases cc : r2 - r1 ≤ 120000
            all_goals
              first
              | (have RR := Lib.hid (show R = (r1, r2, 0) by have := RR.out; rwa [if_pos cc] at this); rw [show decide (r2 - r1 ≤ 120000) = true from decide_eq_true cc] at NC)
              | (have RR := Lib.hid (show R = (0, 0, 11) by have := RR.out; rwa [if_neg cc] at this); rw [show decide (r2 - r1 ≤ 120000) = false from decide_eq_false cc] at NC)
              clear cc
              go_wp2_with fail
              refine Calls.mono NC.out ?_
              rintro e v3 ⟨rfl, hb⟩
              have V := W2.out.trans (hb.mono W2.out.size)
              have W3 := Lib.hid (V.alloc V.size (.cells #[.int .i64 r1, .int .i64 r2] 28))
              have R3 := Lib.hid ((R2.out.below hb).alloc (.cells #[.int .i64 r1, .int .i64 r2] 28))
              have T3 := Lib.hid (SpBox.new v3 r1 r2)
              obtain ⟨kk, hkk⟩ : ∃ k, k = v3.heap.size := ⟨_, rfl⟩
              rw [← hkk] at T3
              clear hb V NC P2 B2 R2 S2 W2 Z2
              go_upto_region 20 with fail
              rw [← hkk]
              obtain ⟨Z', hZ'⟩ : ∃ Z, Z = v3.alloc (.cells #[.int .i64 r1, .int .i64 r2] 28) := ⟨_, rfl⟩
              rw [← hZ'] at R3 W3 T3 ⊢
              clear hZ' hkk
              have u0 := T3.out.c0; have u1 := T3.out.c1
              have z0 := R3.out.c0; have z1 := R3.out.c1; have zf0 := R3.out.free 0; have zf1 := R3.out.free 1; have zl := R3.out.lt
              obtain rfl := RR.out
              go_wp2_with fail
              first
              | refine bodyPost_ret (v := .tuple #[.agg #[.int .i64 r1, .int .i64 r2], .int .i64 0]) ?_ rfl ⟨rfl, ?_⟩
              | refine bodyPost_ret (v := .tuple #[.agg #[.int .i64 0, .int .i64 0], .int .i64 11]) ?_ rfl ⟨rfl, ?_⟩
            all_goals
              first
              | (simp [results, Tryz.results14, go_sem, *]; done)
              | (have hB := HK.out
                 refine Below.setCell (Below.setCell W3.out ?_ _) ?_ _
                 all_goals (first | (simp only [World.size_setCell]; omega) | (dsimp only; omega)))
          · have I2 := Lib.hid (N.out.2.2 n0'.out m)
            clear N NR
            by_cases s1 : s = -1
            · subst s1
              have m' : ¬ nw = 1 := fun h => m ⟨rfl, h⟩
              have nb1 : (nw == 1) = false := by simp [m']
              clear m m'
              go_wp2_with fail
              go_roundw
              case rel => exact ⟨k + 1, op, at', nw, by omega, rfl, rfl, rfl, by go_num, I2, Z2⟩
              case measure => simp [intOf]; omega
            · have nb1 : (s == -1) = false := by simp [s1]
              clear m s1
              go_wp2_with fail
              go_roundw
              case rel => exact ⟨k + 1, op, at', nw, by omega, rfl, rfl, rfl, by go_num, I2, Z2⟩
              case measure => simp [intOf]; omega
      · obtain rfl : k = 97 := by omega
        have I1 := Lib.hid (rs_last HI.out)
        clear HI hk c NR SD
        have z0 := RW.out.c0; have z1 := RW.out.c1; have zf0 := RW.out.free 0; have zf1 := RW.out.free 1; have zl := RW.out.lt
        cases op
        · obtain rfl := I1.out
          go_wp2_with fail
          refine bodyPost_ret (v := .tuple #[.agg #[.int .i64 0, .int .i64 0], .int .i64 6]) ?_ rfl ⟨rfl, ?_⟩
          · simp [results, Tryz.results14, go_sem, *]
          · have hB := HK.out
            refine Below.setCell (Below.setCell WW.out ?_ _) ?_ _
            all_goals (first | (simp only [World.size_setCell]; omega) | (dsimp only; omega))
        · obtain rfl := I1.out
          go_wp2_with fail
          refine bodyPost_ret (v := .tuple #[.agg #[.int .i64 0, .int .i64 0], .int .i64 11]) ?_ rfl ⟨rfl, ?_⟩
          · simp [results, Tryz.results14, go_sem, *]
          · have hB := HK.out
            refine Below.setCell (Below.setCell WW.out ?_ _) ?_ _
            all_goals (first | (simp only [World.size_setCell]; omega) | (dsimp only; omega))
end Go.Proofs.YtcopmgnfakjdhaaGreatDoor
