/- Merged by wip/tools/pack.py out of XLook, XHeight, XPlaceWorks. -/
import Derived.Test.YtcopmgnfakjdhaaGreatDoorVLookPs
import Derived.Test.YtcopmgnfakjdhaaGreatDoorVTrigA
/- place.look: the walk. -/
namespace Go.Proofs.YtcopmgnfakjdhaaGreatDoor
open Go.RowKit
set_option linter.unusedSimpArgs false
set_option linter.unusedVariables false
def PaBox (w : World) (b : Nat) : Prop := w.rowIs b 75 6 (fun _ => .int .i64 0)
theorem PaBox.c {w : World} {b : Nat} (h : PaBox w b) {i : Nat} (hi : i < 6) : w.cell? ⟨b, i, none⟩ = some (.int .i64 0) := World.rowIs.cell h (i := i) hi
theorem PaBox.free {w : World} {b : Nat} (h : PaBox w b) (i : Nat) : w.frozen? ⟨b, i, none⟩ = false := World.rowIs.frozen h i
theorem PaBox.lt {w : World} {b : Nat} (h : PaBox w b) : b < w.heap.size := World.rowIs.lt h
theorem PaBox.alloc {w : World} {b : Nat} (h : PaBox w b) (o : Obj) : PaBox (w.alloc o) b := World.rowIs.alloc h o
theorem PaBox.below {w w' : World} {b : Nat} (h : PaBox w b) (hb : Below w.heap.size w w') : PaBox w' b := World.rowIs.of_block h (hb.block b (World.rowIs.lt h))
theorem PaBox.new (w : World) : PaBox (w.alloc (.cells #[.int .i64 0, .int .i64 0, .int .i64 0, .int .i64 0, .int .i64 0, .int .i64 0] 75)) w.heap.size :=
  World.rowIs_alloc w #[.int .i64 0, .int .i64 0, .int .i64 0, .int .i64 0, .int .i64 0, .int .i64 0] 75 (fun _ => .int .i64 0) (fun i hi => by
    match i, hi with
    | 0, _ => rfl
    | 1, _ => rfl
    | 2, _ => rfl
    | 3, _ => rfl
    | 4, _ => rfl
    | 5, _ => rfl)
structure LkF (w0 w : World) (a b c d e q : Nat) (fl fh sdl sdh gl gh nl nh el eh : Int) : Prop where
  b1 : SpBox w a fl fh
  b2 : SpBox w b sdl sdh
  b3 : SpBox w c gl gh
  b4 : SpBox w d nl nh
  b5 : SpBox w e el eh
  pa : PaBox w q
  bl : Below w0.heap.size w0 w
theorem LkF.below {w0 w w' : World} {a b c d e q : Nat} {fl fh sdl sdh gl gh nl nh el eh : Int} (h : LkF w0 w a b c d e q fl fh sdl sdh gl gh nl nh el eh) (hb : Below w.heap.size w w') : LkF w0 w' a b c d e q fl fh sdl sdh gl gh nl nh el eh :=
  ⟨h.b1.below hb, h.b2.below hb, h.b3.below hb, h.b4.below hb, h.b5.below hb, h.pa.below hb, h.bl.trans (hb.mono h.bl.size)⟩
set_option maxRecDepth 100000 in
set_option maxHeartbeats 16000000 in
theorem look_ok (lon lat rl rh dl dh t : Int) (w : World) (hT : SinT w) (h : LkOk lon lat rl rh dl dh t) :
    Calls Tryz.prog 65 #[.agg #[.int .i64 lon, .int .i64 lat], .agg #[.int .i64 rl, .int .i64 rh], .agg #[.int .i64 dl, .int .i64 dh], .int .i64 t] w fun e w' => e = .returned (lookV lat (hhLo lon t rh) (hhHi lon t rl) dl dh) ∧ Below w.heap.size w w' := by
  obtain ⟨pl, r1, r2, r3, d1, d2, d3, ti⟩ := h
  have i0 : ∀ w, (Instr.index 95 (.agg #[.int .i64 rl, .int .i64 rh, .int .i64 dl, .int .i64 dh]) (.int .i64 0)).run Tryz.prog w = .ok (.agg #[.int .i64 rl, .int .i64 rh]) w := fun _ => by kernel_rfl
  have i1 : ∀ w, (Instr.index 95 (.agg #[.int .i64 rl, .int .i64 rh, .int .i64 dl, .int .i64 dh]) (.int .i64 1)).run Tryz.prog w = .ok (.agg #[.int .i64 dl, .int .i64 dh]) w := fun _ => by kernel_rfl
  have HT := Lib.hid hT
  have SID := Lib.hid (fun w => Sidereal_ok lon lat t w pl ti)
  have K1 := Lib.hid (fun w => check_ok rl rh w ⟨by omega, by omega, by omega⟩)
  have K2 := Lib.hid (fun w => check_ok dl dh w ⟨by omega, by omega, by omega⟩)
  obtain ⟨sb1, sb2, sb3, sb4⟩ := sd_bd lon t
  have MI := Lib.hid (fun w => tMinus_ok (sdLo lon t) (sdHi lon t) rl rh w (by omega) (by omega))
  have SH := Lib.hid (fun w ht => SinOver_ok (sdLo lon t - rh) (sdHi lon t - rl) w ht ⟨by omega, by omega, by omega⟩)
  have CH := Lib.hid (fun w ht => CosOver_ok (sdLo lon t - rh) (sdHi lon t - rl) w ht ⟨by omega, by omega, by omega⟩)
  have SD := Lib.hid (fun w ht => SinOver_ok dl dh w ht ⟨by omega, by omega, by omega⟩)
  have CD := Lib.hid (fun w ht => CosOver_ok dl dh w ht ⟨by omega, by omega, by omega⟩)
  have SF := Lib.hid (fun w ht => trSin_ok lat w ht (by have := pl.a1; have := pl.a2; omega))
  have CF := Lib.hid (fun w ht => trCos_ok lat w ht (by have := pl.a1; have := pl.a2; omega))
  have eh1 : hhLo lon t rh = sdLo lon t - rh := rfl
  have eh2 : hhHi lon t rl = sdHi lon t - rl := rfl
  rw [← eh1, ← eh2] at MI SH CH
  generalize hhLo lon t rh = hl at *
  generalize hhHi lon t rl = hh at *
  have bD := co_tms dl dh; have bH := co_tms hl hh; have bSD := so_tms dl dh; have bSH := so_tms hl hh; have bF := s_tms lat; have bC := c_tms lat
  have bN := nr_tms hl hh dl dh; have bE := et_tms hl hh dl dh
  have tN := Lib.hid (fun w => Times_ok _ _ _ _ w (tms_of bD bH).mul (by omega) (by omega) (by omega) (by omega))
  have tE := Lib.hid (fun w => Times_ok _ _ _ _ w (tms_of bD bSH).mul (by omega) (by omega) (by omega) (by omega))
  have t1 := Lib.hid (fun w => Times_ok _ _ _ _ w (tms_of bF bSD).mul (by omega) (by omega) (by omega) (by omega))
  have t2 := Lib.hid (fun w => Times_ok _ _ _ _ w (tms_of bC bN).mul (by omega) (by omega) (by omega) (by omega))
  have t3 := Lib.hid (fun w => Times_ok _ _ _ _ w (tms_of bC bSD).mul (by omega) (by omega) (by omega) (by omega))
  have t4 := Lib.hid (fun w => Times_ok _ _ _ _ w (tms_of bF bN).mul (by omega) (by omega) (by omega) (by omega))
  have g1 := tm_tms (tms_of bF bSD); have g2 := tm_tms (tms_of bC bN); have g3 := tm_tms (tms_of bC bSD); have g4 := tm_tms (tms_of bF bN)
  have en1 : nrLo hl hh dl dh = tmLo (coLo dl dh) (coHi dl dh) (coLo hl hh) (coHi hl hh) := rfl
  have en2 : nrHi hl hh dl dh = tmHi (coLo dl dh) (coHi dl dh) (coLo hl hh) (coHi hl hh) := rfl
  have ee1 : etLo hl hh dl dh = tmLo (coLo dl dh) (coHi dl dh) (soLo hl hh) (soHi hl hh) := rfl
  have ee2 : etHi hl hh dl dh = tmHi (coLo dl dh) (coHi dl dh) (soLo hl hh) (soHi hl hh) := rfl
  rw [← en1, ← en2] at tN
  rw [← ee1, ← ee2] at tE
  unfold lookV upLo upHi eaLo eaHi noLo noHi
  clear en1 en2 ee1 ee2 bD bH bSD bSH bF bC
  generalize sdLo lon t = sl at *
  generalize sdHi lon t = sh at *
  generalize nrLo hl hh dl dh = nl at *
  generalize nrHi hl hh dl dh = nh at *
  generalize etLo hl hh dl dh = el at *
  generalize etHi hl hh dl dh = eh at *
  generalize soLo dl dh = sdl at *
  generalize soHi dl dh = sdh at *
  generalize coLo dl dh = cdl at *
  generalize coHi dl dh = cdh at *
  generalize soLo hl hh = shl at *
  generalize soHi hl hh = shh at *
  generalize coLo hl hh = chl at *
  generalize coHi hl hh = chh at *
  generalize sLo lat = fl at *
  generalize sHi lat = fh at *
  generalize cLo lat = gl at *
  generalize cHi lat = gh at *
  generalize tmLo fl fh sdl sdh = p1 at *
  generalize tmHi fl fh sdl sdh = q1 at *
  generalize tmLo gl gh nl nh = p2 at *
  generalize tmHi gl gh nl nh = q2 at *
  generalize tmLo gl gh sdl sdh = p3 at *
  generalize tmHi gl gh sdl sdh = q3 at *
  generalize tmLo fl fh nl nh = p4 at *
  generalize tmHi fl fh nl nh = q4 at *
  have PL := Lib.hid (fun w => tPlus_ok p1 q1 p2 q2 w (by omega) (by omega))
  have ML := Lib.hid (fun w => tMinus_ok p3 q3 p4 q4 w (by omega) (by omega))
  have X1 := Lib.hid (fun w => plClip_ok (p1 + p2) (q1 + q2) w)
  have X2 := Lib.hid (fun w => plClip_ok (-eh) (-el) w)
  have X3 := Lib.hid (fun w => plClip_ok (p3 - q4) (q3 - p4) w)
  have w1 : IntKind.i64.wrap (-eh) = -eh := IntWalk.i64_in _ (by omega)
  have w2 : IntKind.i64.wrap (-el) = -el := IntWalk.i64_in _ (by omega)
  generalize p1 + p2 = a1 at *
  generalize q1 + q2 = a2 at *
  generalize p3 - q4 = a3 at *
  generalize q3 - p4 = a4 at *
  generalize clLo a1 = u1 at *
  generalize clHi a2 = u2 at *
  generalize clLo (-eh) = u3 at *
  generalize clHi (-el) = u4 at *
  generalize clLo a3 = u5 at *
  generalize clHi a4 = u6 at *
  have HWW := Lib.hid (And.intro w1 w2)
  have HII := Lib.hid (And.intro i0 i1)
  have HD := Lib.hid (And.intro r1 (And.intro r3 (And.intro d1 d3)))
  clear g1 g2 g3 g4 bN bE w1 w2 sb1 sb2 sb3 sb4 eh1 eh2 r1 r2 r3 d1 d2 d3 pl ti hT i0 i1
  obtain ⟨k, hk⟩ : ∃ b, b = w.heap.size := ⟨_, rfl⟩
  have e5 : (w.alloc (.cells #[.int .i64 lon, .int .i64 lat] 23)).heap.size = k + 1 := by simp [hk]
  have e6 : ((w.alloc (.cells #[.int .i64 lon, .int .i64 lat] 23)).alloc (.cells #[.int .i64 rl, .int .i64 rh] 28)).heap.size = k + 1 + 1 := by simp [hk]
  have e7 : (((w.alloc (.cells #[.int .i64 lon, .int .i64 lat] 23)).alloc (.cells #[.int .i64 rl, .int .i64 rh] 28)).alloc (.cells #[.int .i64 dl, .int .i64 dh] 28)).heap.size = k + 1 + 1 + 1 := by simp [hk]
  have b1 := PlBox.new w lon lat
  have b2 := SpBox.new (w.alloc (.cells #[.int .i64 lon, .int .i64 lat] 23)) rl rh
  have b3 := SpBox.new ((w.alloc (.cells #[.int .i64 lon, .int .i64 lat] 23)).alloc (.cells #[.int .i64 rl, .int .i64 rh] 28)) dl dh
  have b4 := PaBox.new (((w.alloc (.cells #[.int .i64 lon, .int .i64 lat] 23)).alloc (.cells #[.int .i64 rl, .int .i64 rh] 28)).alloc (.cells #[.int .i64 dl, .int .i64 dh] 28))
  rw [← hk] at b1; rw [e5] at b2; rw [e6] at b3; rw [e7] at b4
  have s1 := Lib.hid (((b1.alloc (.cells #[.int .i64 rl, .int .i64 rh] 28)).alloc (.cells #[.int .i64 dl, .int .i64 dh] 28)).alloc (.cells #[.int .i64 0, .int .i64 0, .int .i64 0, .int .i64 0, .int .i64 0, .int .i64 0] 75))
  have s2 := Lib.hid ((b2.alloc (.cells #[.int .i64 dl, .int .i64 dh] 28)).alloc (.cells #[.int .i64 0, .int .i64 0, .int .i64 0, .int .i64 0, .int .i64 0, .int .i64 0] 75))
  have s3 := Lib.hid (b3.alloc (.cells #[.int .i64 0, .int .i64 0, .int .i64 0, .int .i64 0, .int .i64 0, .int .i64 0] 75))
  have s4 := Lib.hid b4
  have HB := Lib.hid (show Below w.heap.size w ((((w.alloc (.cells #[.int .i64 lon, .int .i64 lat] 23)).alloc (.cells #[.int .i64 rl, .int .i64 rh] 28)).alloc (.cells #[.int .i64 dl, .int .i64 dh] 28)).alloc (.cells #[.int .i64 0, .int .i64 0, .int .i64 0, .int .i64 0, .int .i64 0, .int .i64 0] 75)) from (by repeat' (first | (with_reducible refine below_drewN ?_ _) | go_grown)))
  have HE5 := Lib.hid e5; have HE6 := Lib.hid e6; have HE7 := Lib.hid e7; have HK := Lib.hid hk
  clear b1 b2 b3 b4 e5 e6 e7
  go_enter Tryz.func65, Tryz.ntmps65
  go_upto_region 1 with fail
  (try rw [HE5.out])
  (try rw [HE6.out])
  (try rw [HE7.out])
  rw [← hk]
  clear hk
  obtain ⟨W, hW⟩ : ∃ W, W = (((w.alloc (.cells #[.int .i64 lon, .int .i64 lat] 23)).alloc (.cells #[.int .i64 rl, .int .i64 rh] 28)).alloc (.cells #[.int .i64 dl, .int .i64 dh] 28)).alloc (.cells #[.int .i64 0, .int .i64 0, .int .i64 0, .int .i64 0, .int .i64 0, .int .i64 0] 75) := ⟨_, rfl⟩
  rw [← hW] at s1 s2 s3 s4 HB ⊢
  clear hW
  have sc1_0 := s1.out.c0; have sc1_1 := s1.out.c1; have sc1_l := s1.out.lt
  go_wp2_with fail
  refine Calls.mono (SID.out _) ?_
  rintro e wn5 ⟨rfl, hb⟩
  replace s1 := Lib.hid ((s1.out.below hb).alloc (.cells #[.int .i64 (sl), .int .i64 (sh)] 28))
  replace s2 := Lib.hid ((s2.out.below hb).alloc (.cells #[.int .i64 (sl), .int .i64 (sh)] 28))
  replace s3 := Lib.hid ((s3.out.below hb).alloc (.cells #[.int .i64 (sl), .int .i64 (sh)] 28))
  replace s4 := Lib.hid ((s4.out.below hb).alloc (.cells #[.int .i64 (sl), .int .i64 (sh)] 28))
  have HB5 := HB.out.trans (hb.mono HB.out.size)
  clear sc1_0 sc1_1 sc1_l
  clear hb
  have Hkl5 := Lib.hid HB5.size; replace HB := Lib.hid (HB5.alloc HB5.size (.cells #[.int .i64 (sl), .int .i64 (sh)] 28))
  clear HB5
  have s5 := Lib.hid (SpBox.new wn5 (sl) (sh))
  obtain ⟨k5, hk5⟩ : ∃ x, x = wn5.heap.size := ⟨_, rfl⟩
  rw [← hk5] at s5 Hkl5
  go_upto_region 4 with fail
  rw [← hk5]
  obtain ⟨X5, hX5⟩ : ∃ X, X = wn5.alloc (.cells #[.int .i64 (sl), .int .i64 (sh)] 28) := ⟨_, rfl⟩
  rw [← hX5] at s1 s2 s3 s4 s5 HB ⊢
  clear hk5 hX5
  have sc2_0 := s2.out.c0; have sc2_1 := s2.out.c1; have sc2_l := s2.out.lt
  have sc3_0 := s3.out.c0; have sc3_1 := s3.out.c1; have sc3_l := s3.out.lt
  have j0 := HII.out.1; have j1 := HII.out.2
  go_wp2_with fail
  clear sc2_0 sc2_1 sc2_l sc3_0 sc3_1 sc3_l
  go_loopw [43] (fun i wr => ∃ j : Nat, j ≤ 2 ∧ i = .int .i64 j ∧ Hid (PlBox wr k lon lat) ∧ Hid (SpBox wr (k + 1) rl rh) ∧ Hid (SpBox wr (k + 1 + 1) dl dh) ∧ Hid (PaBox wr (k + 1 + 1 + 1)) ∧ Hid (SpBox wr k5 sl sh) ∧ Hid (Below w.heap.size w wr)) (fun i _ => 2 - (intOf i).toNat)
  case atStart => exact ⟨0, by omega, rfl, s1, s2, s3, s4, s5, HB⟩
  case round =>
    clear s1 s2 s3 s4 s5 HB
    obtain ⟨j, hj, rfl, s1, s2, s3, s4, s5, HB⟩ := hrel
    obtain rfl | rfl | rfl : j = 0 ∨ j = 1 ∨ j = 2 := by omega
    · go_wp2_with fail
      refine Calls.mono (K1.out _) ?_
      rintro e wk ⟨rfl, hb⟩
      replace s1 := Lib.hid ((s1.out.alloc (.cells #[.int .i64 rl, .int .i64 rh] 28)).below hb)
      replace s2 := Lib.hid ((s2.out.alloc (.cells #[.int .i64 rl, .int .i64 rh] 28)).below hb)
      replace s3 := Lib.hid ((s3.out.alloc (.cells #[.int .i64 rl, .int .i64 rh] 28)).below hb)
      replace s4 := Lib.hid ((s4.out.alloc (.cells #[.int .i64 rl, .int .i64 rh] 28)).below hb)
      replace s5 := Lib.hid ((s5.out.alloc (.cells #[.int .i64 rl, .int .i64 rh] 28)).below hb)
      have al := HB.out.alloc HB.out.size (.cells #[.int .i64 rl, .int .i64 rh] 28)
      replace HB := Lib.hid (al.trans (hb.mono al.size))
      clear hb al
      go_wp2_with fail
      go_roundw
      case rel => exact ⟨1, by omega, by go_num, s1, s2, s3, s4, s5, HB⟩
      case measure => simp [intOf]
    · go_wp2_with fail
      refine Calls.mono (K2.out _) ?_
      rintro e wk ⟨rfl, hb⟩
      replace s1 := Lib.hid ((s1.out.alloc (.cells #[.int .i64 dl, .int .i64 dh] 28)).below hb)
      replace s2 := Lib.hid ((s2.out.alloc (.cells #[.int .i64 dl, .int .i64 dh] 28)).below hb)
      replace s3 := Lib.hid ((s3.out.alloc (.cells #[.int .i64 dl, .int .i64 dh] 28)).below hb)
      replace s4 := Lib.hid ((s4.out.alloc (.cells #[.int .i64 dl, .int .i64 dh] 28)).below hb)
      replace s5 := Lib.hid ((s5.out.alloc (.cells #[.int .i64 dl, .int .i64 dh] 28)).below hb)
      have al := HB.out.alloc HB.out.size (.cells #[.int .i64 dl, .int .i64 dh] 28)
      replace HB := Lib.hid (al.trans (hb.mono al.size))
      clear hb al
      go_wp2_with fail
      go_roundw
      case rel => exact ⟨2, by omega, by go_num, s1, s2, s3, s4, s5, HB⟩
      case measure => simp [intOf]
    · obtain ⟨d1, d2, d3, d4⟩ := HD.out
      clear K1 K2 SID j0 j1
      have sc2_0 := s2.out.c0; have sc2_1 := s2.out.c1; have sc2_l := s2.out.lt
      have sc3_0 := s3.out.c0; have sc3_1 := s3.out.c1; have sc3_l := s3.out.lt
      go_upto_region 13 with fail
      clear sc2_0 sc2_1 sc2_l sc3_0 sc3_1 sc3_l
      clear d1 d2 d3 d4
      have sc5_0 := s5.out.c0; have sc5_1 := s5.out.c1; have sc5_l := s5.out.lt
      have sc2_0 := s2.out.c0; have sc2_1 := s2.out.c1; have sc2_l := s2.out.lt
      go_wp2_with fail
      refine Calls.mono (MI.out _) ?_
      rintro e wn6 ⟨rfl, hb⟩
      replace s1 := Lib.hid ((s1.out.below hb).alloc (.cells #[.int .i64 (hl), .int .i64 (hh)] 28))
      replace s2 := Lib.hid ((s2.out.below hb).alloc (.cells #[.int .i64 (hl), .int .i64 (hh)] 28))
      replace s3 := Lib.hid ((s3.out.below hb).alloc (.cells #[.int .i64 (hl), .int .i64 (hh)] 28))
      replace s4 := Lib.hid ((s4.out.below hb).alloc (.cells #[.int .i64 (hl), .int .i64 (hh)] 28))
      replace s5 := Lib.hid ((s5.out.below hb).alloc (.cells #[.int .i64 (hl), .int .i64 (hh)] 28))
      have HB6 := HB.out.trans (hb.mono HB.out.size)
      clear sc5_0 sc5_1 sc5_l sc2_0 sc2_1 sc2_l
      clear hb
      have Hkl6 := Lib.hid HB6.size; replace HB := Lib.hid (HB6.alloc HB6.size (.cells #[.int .i64 (hl), .int .i64 (hh)] 28))
      clear HB6
      have s6 := Lib.hid (SpBox.new wn6 (hl) (hh))
      obtain ⟨k6, hk6⟩ : ∃ x, x = wn6.heap.size := ⟨_, rfl⟩
      rw [← hk6] at s6 Hkl6
      go_upto_region 14 with fail
      rw [← hk6]
      obtain ⟨X6, hX6⟩ : ∃ X, X = wn6.alloc (.cells #[.int .i64 (hl), .int .i64 (hh)] 28) := ⟨_, rfl⟩
      rw [← hX6] at s1 s2 s3 s4 s5 s6 HB ⊢
      clear hk6 hX6
      have sc6_0 := s6.out.c0; have sc6_1 := s6.out.c1; have sc6_l := s6.out.lt
      go_wp2_with fail
      refine Calls.mono (SH.out _ (HT.out.below HB.out)) ?_
      rintro e wn7 ⟨rfl, hb⟩
      replace s1 := Lib.hid ((s1.out.below hb).alloc (.cells #[.int .i64 (shl), .int .i64 (shh)] 28))
      replace s2 := Lib.hid ((s2.out.below hb).alloc (.cells #[.int .i64 (shl), .int .i64 (shh)] 28))
      replace s3 := Lib.hid ((s3.out.below hb).alloc (.cells #[.int .i64 (shl), .int .i64 (shh)] 28))
      replace s4 := Lib.hid ((s4.out.below hb).alloc (.cells #[.int .i64 (shl), .int .i64 (shh)] 28))
      replace s5 := Lib.hid ((s5.out.below hb).alloc (.cells #[.int .i64 (shl), .int .i64 (shh)] 28))
      replace s6 := Lib.hid ((s6.out.below hb).alloc (.cells #[.int .i64 (shl), .int .i64 (shh)] 28))
      have HB7 := HB.out.trans (hb.mono HB.out.size)
      clear sc6_0 sc6_1 sc6_l
      clear hb
      have Hkl7 := Lib.hid HB7.size; replace HB := Lib.hid (HB7.alloc HB7.size (.cells #[.int .i64 (shl), .int .i64 (shh)] 28))
      clear HB7
      have s7 := Lib.hid (SpBox.new wn7 (shl) (shh))
      obtain ⟨k7, hk7⟩ : ∃ x, x = wn7.heap.size := ⟨_, rfl⟩
      rw [← hk7] at s7 Hkl7
      go_upto_region 15 with fail
      rw [← hk7]
      obtain ⟨X7, hX7⟩ : ∃ X, X = wn7.alloc (.cells #[.int .i64 (shl), .int .i64 (shh)] 28) := ⟨_, rfl⟩
      rw [← hX7] at s1 s2 s3 s4 s5 s6 s7 HB ⊢
      clear hk7 hX7
      have sc6_0 := s6.out.c0; have sc6_1 := s6.out.c1; have sc6_l := s6.out.lt
      go_wp2_with fail
      refine Calls.mono (CH.out _ (HT.out.below HB.out)) ?_
      rintro e wn8 ⟨rfl, hb⟩
      replace s1 := Lib.hid ((s1.out.below hb).alloc (.cells #[.int .i64 (chl), .int .i64 (chh)] 28))
      replace s2 := Lib.hid ((s2.out.below hb).alloc (.cells #[.int .i64 (chl), .int .i64 (chh)] 28))
      replace s3 := Lib.hid ((s3.out.below hb).alloc (.cells #[.int .i64 (chl), .int .i64 (chh)] 28))
      replace s4 := Lib.hid ((s4.out.below hb).alloc (.cells #[.int .i64 (chl), .int .i64 (chh)] 28))
      replace s5 := Lib.hid ((s5.out.below hb).alloc (.cells #[.int .i64 (chl), .int .i64 (chh)] 28))
      replace s6 := Lib.hid ((s6.out.below hb).alloc (.cells #[.int .i64 (chl), .int .i64 (chh)] 28))
      replace s7 := Lib.hid ((s7.out.below hb).alloc (.cells #[.int .i64 (chl), .int .i64 (chh)] 28))
      have HB8 := HB.out.trans (hb.mono HB.out.size)
      clear sc6_0 sc6_1 sc6_l
      clear hb
      have Hkl8 := Lib.hid HB8.size; replace HB := Lib.hid (HB8.alloc HB8.size (.cells #[.int .i64 (chl), .int .i64 (chh)] 28))
      clear HB8
      have s8 := Lib.hid (SpBox.new wn8 (chl) (chh))
      obtain ⟨k8, hk8⟩ : ∃ x, x = wn8.heap.size := ⟨_, rfl⟩
      rw [← hk8] at s8 Hkl8
      go_upto_region 16 with fail
      rw [← hk8]
      obtain ⟨X8, hX8⟩ : ∃ X, X = wn8.alloc (.cells #[.int .i64 (chl), .int .i64 (chh)] 28) := ⟨_, rfl⟩
      rw [← hX8] at s1 s2 s3 s4 s5 s6 s7 s8 HB ⊢
      clear hk8 hX8
      have sc3_0 := s3.out.c0; have sc3_1 := s3.out.c1; have sc3_l := s3.out.lt
      go_wp2_with fail
      refine Calls.mono (SD.out _ (HT.out.below HB.out)) ?_
      rintro e wn9 ⟨rfl, hb⟩
      replace s1 := Lib.hid ((s1.out.below hb).alloc (.cells #[.int .i64 (sdl), .int .i64 (sdh)] 28))
      replace s2 := Lib.hid ((s2.out.below hb).alloc (.cells #[.int .i64 (sdl), .int .i64 (sdh)] 28))
      replace s3 := Lib.hid ((s3.out.below hb).alloc (.cells #[.int .i64 (sdl), .int .i64 (sdh)] 28))
      replace s4 := Lib.hid ((s4.out.below hb).alloc (.cells #[.int .i64 (sdl), .int .i64 (sdh)] 28))
      replace s5 := Lib.hid ((s5.out.below hb).alloc (.cells #[.int .i64 (sdl), .int .i64 (sdh)] 28))
      replace s6 := Lib.hid ((s6.out.below hb).alloc (.cells #[.int .i64 (sdl), .int .i64 (sdh)] 28))
      replace s7 := Lib.hid ((s7.out.below hb).alloc (.cells #[.int .i64 (sdl), .int .i64 (sdh)] 28))
      replace s8 := Lib.hid ((s8.out.below hb).alloc (.cells #[.int .i64 (sdl), .int .i64 (sdh)] 28))
      have HB9 := HB.out.trans (hb.mono HB.out.size)
      clear sc3_0 sc3_1 sc3_l
      clear hb
      have Hkl9 := Lib.hid HB9.size; replace HB := Lib.hid (HB9.alloc HB9.size (.cells #[.int .i64 (sdl), .int .i64 (sdh)] 28))
      clear HB9
      have s9 := Lib.hid (SpBox.new wn9 (sdl) (sdh))
      obtain ⟨k9, hk9⟩ : ∃ x, x = wn9.heap.size := ⟨_, rfl⟩
      rw [← hk9] at s9 Hkl9
      go_upto_region 17 with fail
      rw [← hk9]
      obtain ⟨X9, hX9⟩ : ∃ X, X = wn9.alloc (.cells #[.int .i64 (sdl), .int .i64 (sdh)] 28) := ⟨_, rfl⟩
      rw [← hX9] at s1 s2 s3 s4 s5 s6 s7 s8 s9 HB ⊢
      clear hk9 hX9
      have sc3_0 := s3.out.c0; have sc3_1 := s3.out.c1; have sc3_l := s3.out.lt
      go_wp2_with fail
      refine Calls.mono (CD.out _ (HT.out.below HB.out)) ?_
      rintro e wn10 ⟨rfl, hb⟩
      replace s1 := Lib.hid ((s1.out.below hb).alloc (.cells #[.int .i64 (cdl), .int .i64 (cdh)] 28))
      replace s2 := Lib.hid ((s2.out.below hb).alloc (.cells #[.int .i64 (cdl), .int .i64 (cdh)] 28))
      replace s3 := Lib.hid ((s3.out.below hb).alloc (.cells #[.int .i64 (cdl), .int .i64 (cdh)] 28))
      replace s4 := Lib.hid ((s4.out.below hb).alloc (.cells #[.int .i64 (cdl), .int .i64 (cdh)] 28))
      replace s5 := Lib.hid ((s5.out.below hb).alloc (.cells #[.int .i64 (cdl), .int .i64 (cdh)] 28))
      replace s6 := Lib.hid ((s6.out.below hb).alloc (.cells #[.int .i64 (cdl), .int .i64 (cdh)] 28))
      replace s7 := Lib.hid ((s7.out.below hb).alloc (.cells #[.int .i64 (cdl), .int .i64 (cdh)] 28))
      replace s8 := Lib.hid ((s8.out.below hb).alloc (.cells #[.int .i64 (cdl), .int .i64 (cdh)] 28))
      replace s9 := Lib.hid ((s9.out.below hb).alloc (.cells #[.int .i64 (cdl), .int .i64 (cdh)] 28))
      have HB10 := HB.out.trans (hb.mono HB.out.size)
      clear sc3_0 sc3_1 sc3_l
      clear hb
      have Hkl10 := Lib.hid HB10.size; replace HB := Lib.hid (HB10.alloc HB10.size (.cells #[.int .i64 (cdl), .int .i64 (cdh)] 28))
      clear HB10
      have s10 := Lib.hid (SpBox.new wn10 (cdl) (cdh))
      obtain ⟨k10, hk10⟩ : ∃ x, x = wn10.heap.size := ⟨_, rfl⟩
      rw [← hk10] at s10 Hkl10
      go_upto_region 18 with fail
      rw [← hk10]
      obtain ⟨X10, hX10⟩ : ∃ X, X = wn10.alloc (.cells #[.int .i64 (cdl), .int .i64 (cdh)] 28) := ⟨_, rfl⟩
      rw [← hX10] at s1 s2 s3 s4 s5 s6 s7 s8 s9 s10 HB ⊢
      clear hk10 hX10
      have sc1_0 := s1.out.c0; have sc1_1 := s1.out.c1; have sc1_l := s1.out.lt
      go_wp2_with fail
      refine Calls.mono (SF.out _ (HT.out.below HB.out)) ?_
      rintro e wn11 ⟨rfl, hb⟩
      replace s1 := Lib.hid ((s1.out.below hb).alloc (.cells #[.int .i64 (fl), .int .i64 (fh)] 28))
      replace s2 := Lib.hid ((s2.out.below hb).alloc (.cells #[.int .i64 (fl), .int .i64 (fh)] 28))
      replace s3 := Lib.hid ((s3.out.below hb).alloc (.cells #[.int .i64 (fl), .int .i64 (fh)] 28))
      replace s4 := Lib.hid ((s4.out.below hb).alloc (.cells #[.int .i64 (fl), .int .i64 (fh)] 28))
      replace s5 := Lib.hid ((s5.out.below hb).alloc (.cells #[.int .i64 (fl), .int .i64 (fh)] 28))
      replace s6 := Lib.hid ((s6.out.below hb).alloc (.cells #[.int .i64 (fl), .int .i64 (fh)] 28))
      replace s7 := Lib.hid ((s7.out.below hb).alloc (.cells #[.int .i64 (fl), .int .i64 (fh)] 28))
      replace s8 := Lib.hid ((s8.out.below hb).alloc (.cells #[.int .i64 (fl), .int .i64 (fh)] 28))
      replace s9 := Lib.hid ((s9.out.below hb).alloc (.cells #[.int .i64 (fl), .int .i64 (fh)] 28))
      replace s10 := Lib.hid ((s10.out.below hb).alloc (.cells #[.int .i64 (fl), .int .i64 (fh)] 28))
      have HB11 := HB.out.trans (hb.mono HB.out.size)
      clear sc1_0 sc1_1 sc1_l
      clear hb
      have Hkl11 := Lib.hid HB11.size; replace HB := Lib.hid (HB11.alloc HB11.size (.cells #[.int .i64 (fl), .int .i64 (fh)] 28))
      clear HB11
      have s11 := Lib.hid (SpBox.new wn11 (fl) (fh))
      obtain ⟨k11, hk11⟩ : ∃ x, x = wn11.heap.size := ⟨_, rfl⟩
      rw [← hk11] at s11 Hkl11
      go_upto_region 19 with fail
      rw [← hk11]
      obtain ⟨X11, hX11⟩ : ∃ X, X = wn11.alloc (.cells #[.int .i64 (fl), .int .i64 (fh)] 28) := ⟨_, rfl⟩
      rw [← hX11] at s1 s2 s3 s4 s5 s6 s7 s8 s9 s10 s11 HB ⊢
      clear hk11 hX11
      have sc1_0 := s1.out.c0; have sc1_1 := s1.out.c1; have sc1_l := s1.out.lt
      go_wp2_with fail
      refine Calls.mono (CF.out _ (HT.out.below HB.out)) ?_
      rintro e wn12 ⟨rfl, hb⟩
      replace s1 := Lib.hid ((s1.out.below hb).alloc (.cells #[.int .i64 (gl), .int .i64 (gh)] 28))
      replace s2 := Lib.hid ((s2.out.below hb).alloc (.cells #[.int .i64 (gl), .int .i64 (gh)] 28))
      replace s3 := Lib.hid ((s3.out.below hb).alloc (.cells #[.int .i64 (gl), .int .i64 (gh)] 28))
      replace s4 := Lib.hid ((s4.out.below hb).alloc (.cells #[.int .i64 (gl), .int .i64 (gh)] 28))
      replace s5 := Lib.hid ((s5.out.below hb).alloc (.cells #[.int .i64 (gl), .int .i64 (gh)] 28))
      replace s6 := Lib.hid ((s6.out.below hb).alloc (.cells #[.int .i64 (gl), .int .i64 (gh)] 28))
      replace s7 := Lib.hid ((s7.out.below hb).alloc (.cells #[.int .i64 (gl), .int .i64 (gh)] 28))
      replace s8 := Lib.hid ((s8.out.below hb).alloc (.cells #[.int .i64 (gl), .int .i64 (gh)] 28))
      replace s9 := Lib.hid ((s9.out.below hb).alloc (.cells #[.int .i64 (gl), .int .i64 (gh)] 28))
      replace s10 := Lib.hid ((s10.out.below hb).alloc (.cells #[.int .i64 (gl), .int .i64 (gh)] 28))
      replace s11 := Lib.hid ((s11.out.below hb).alloc (.cells #[.int .i64 (gl), .int .i64 (gh)] 28))
      have HB12 := HB.out.trans (hb.mono HB.out.size)
      clear sc1_0 sc1_1 sc1_l
      clear hb
      have Hkl12 := Lib.hid HB12.size; replace HB := Lib.hid (HB12.alloc HB12.size (.cells #[.int .i64 (gl), .int .i64 (gh)] 28))
      clear HB12
      have s12 := Lib.hid (SpBox.new wn12 (gl) (gh))
      obtain ⟨k12, hk12⟩ : ∃ x, x = wn12.heap.size := ⟨_, rfl⟩
      rw [← hk12] at s12 Hkl12
      go_upto_region 20 with fail
      rw [← hk12]
      obtain ⟨X12, hX12⟩ : ∃ X, X = wn12.alloc (.cells #[.int .i64 (gl), .int .i64 (gh)] 28) := ⟨_, rfl⟩
      rw [← hX12] at s1 s2 s3 s4 s5 s6 s7 s8 s9 s10 s11 s12 HB ⊢
      clear hk12 hX12
      have sc10_0 := s10.out.c0; have sc10_1 := s10.out.c1; have sc10_l := s10.out.lt
      have sc8_0 := s8.out.c0; have sc8_1 := s8.out.c1; have sc8_l := s8.out.lt
      go_wp2_with fail
      refine Calls.mono (tN.out _) ?_
      rintro e wn13 ⟨rfl, hb⟩
      replace s1 := Lib.hid ((s1.out.below hb).alloc (.cells #[.int .i64 (nl), .int .i64 (nh)] 28))
      replace s2 := Lib.hid ((s2.out.below hb).alloc (.cells #[.int .i64 (nl), .int .i64 (nh)] 28))
      replace s3 := Lib.hid ((s3.out.below hb).alloc (.cells #[.int .i64 (nl), .int .i64 (nh)] 28))
      replace s4 := Lib.hid ((s4.out.below hb).alloc (.cells #[.int .i64 (nl), .int .i64 (nh)] 28))
      replace s5 := Lib.hid ((s5.out.below hb).alloc (.cells #[.int .i64 (nl), .int .i64 (nh)] 28))
      replace s6 := Lib.hid ((s6.out.below hb).alloc (.cells #[.int .i64 (nl), .int .i64 (nh)] 28))
      replace s7 := Lib.hid ((s7.out.below hb).alloc (.cells #[.int .i64 (nl), .int .i64 (nh)] 28))
      replace s8 := Lib.hid ((s8.out.below hb).alloc (.cells #[.int .i64 (nl), .int .i64 (nh)] 28))
      replace s9 := Lib.hid ((s9.out.below hb).alloc (.cells #[.int .i64 (nl), .int .i64 (nh)] 28))
      replace s10 := Lib.hid ((s10.out.below hb).alloc (.cells #[.int .i64 (nl), .int .i64 (nh)] 28))
      replace s11 := Lib.hid ((s11.out.below hb).alloc (.cells #[.int .i64 (nl), .int .i64 (nh)] 28))
      replace s12 := Lib.hid ((s12.out.below hb).alloc (.cells #[.int .i64 (nl), .int .i64 (nh)] 28))
      have HB13 := HB.out.trans (hb.mono HB.out.size)
      clear sc10_0 sc10_1 sc10_l sc8_0 sc8_1 sc8_l
      clear hb
      have Hkl13 := Lib.hid HB13.size; replace HB := Lib.hid (HB13.alloc HB13.size (.cells #[.int .i64 (nl), .int .i64 (nh)] 28))
      clear HB13
      have s13 := Lib.hid (SpBox.new wn13 (nl) (nh))
      obtain ⟨k13, hk13⟩ : ∃ x, x = wn13.heap.size := ⟨_, rfl⟩
      rw [← hk13] at s13 Hkl13
      go_upto_region 21 with fail
      rw [← hk13]
      obtain ⟨X13, hX13⟩ : ∃ X, X = wn13.alloc (.cells #[.int .i64 (nl), .int .i64 (nh)] 28) := ⟨_, rfl⟩
      rw [← hX13] at s1 s2 s3 s4 s5 s6 s7 s8 s9 s10 s11 s12 s13 HB ⊢
      clear hk13 hX13
      have sc10_0 := s10.out.c0; have sc10_1 := s10.out.c1; have sc10_l := s10.out.lt
      have sc7_0 := s7.out.c0; have sc7_1 := s7.out.c1; have sc7_l := s7.out.lt
      go_wp2_with fail
      refine Calls.mono (tE.out _) ?_
      rintro e wn14 ⟨rfl, hb⟩
      replace s1 := Lib.hid ((s1.out.below hb).alloc (.cells #[.int .i64 (el), .int .i64 (eh)] 28))
      replace s2 := Lib.hid ((s2.out.below hb).alloc (.cells #[.int .i64 (el), .int .i64 (eh)] 28))
      replace s3 := Lib.hid ((s3.out.below hb).alloc (.cells #[.int .i64 (el), .int .i64 (eh)] 28))
      replace s4 := Lib.hid ((s4.out.below hb).alloc (.cells #[.int .i64 (el), .int .i64 (eh)] 28))
      replace s5 := Lib.hid ((s5.out.below hb).alloc (.cells #[.int .i64 (el), .int .i64 (eh)] 28))
      replace s6 := Lib.hid ((s6.out.below hb).alloc (.cells #[.int .i64 (el), .int .i64 (eh)] 28))
      replace s7 := Lib.hid ((s7.out.below hb).alloc (.cells #[.int .i64 (el), .int .i64 (eh)] 28))
      replace s8 := Lib.hid ((s8.out.below hb).alloc (.cells #[.int .i64 (el), .int .i64 (eh)] 28))
      replace s9 := Lib.hid ((s9.out.below hb).alloc (.cells #[.int .i64 (el), .int .i64 (eh)] 28))
      replace s10 := Lib.hid ((s10.out.below hb).alloc (.cells #[.int .i64 (el), .int .i64 (eh)] 28))
      replace s11 := Lib.hid ((s11.out.below hb).alloc (.cells #[.int .i64 (el), .int .i64 (eh)] 28))
      replace s12 := Lib.hid ((s12.out.below hb).alloc (.cells #[.int .i64 (el), .int .i64 (eh)] 28))
      replace s13 := Lib.hid ((s13.out.below hb).alloc (.cells #[.int .i64 (el), .int .i64 (eh)] 28))
      have HB14 := HB.out.trans (hb.mono HB.out.size)
      clear sc10_0 sc10_1 sc10_l sc7_0 sc7_1 sc7_l
      clear hb
      have Hkl14 := Lib.hid HB14.size; replace HB := Lib.hid (HB14.alloc HB14.size (.cells #[.int .i64 (el), .int .i64 (eh)] 28))
      clear HB14
      have s14 := Lib.hid (SpBox.new wn14 (el) (eh))
      obtain ⟨k14, hk14⟩ : ∃ x, x = wn14.heap.size := ⟨_, rfl⟩
      rw [← hk14] at s14 Hkl14
      go_upto_region 22 with fail
      rw [← hk14]
      obtain ⟨X14, hX14⟩ : ∃ X, X = wn14.alloc (.cells #[.int .i64 (el), .int .i64 (eh)] 28) := ⟨_, rfl⟩
      rw [← hX14] at s1 s2 s3 s4 s5 s6 s7 s8 s9 s10 s11 s12 s13 s14 HB ⊢
      clear hk14 hX14
      clear MI SH CH SD CD SF CF tN tE HII HD HT
      obtain ⟨v1, v2⟩ := HWW.out
      clear HWW
      have hf : LkF w X14.drew k11 k9 k12 k13 k14 (k + 1 + 1 + 1) fl fh sdl sdh gl gh nl nh el eh := ⟨s11.out, s9.out, s12.out, s13.out, s14.out, s4.out, HB.out.drew⟩
      clear s1 s2 s3 s5 s6 s7 s8 s10 s11 s9 s12 s13 s14 s4 HB HE5 HE6 HE7
      refine wp_region_G [(25, fun w' => LkF w w' k11 k9 k12 k13 k14 (k + 1 + 1 + 1) fl fh sdl sdh gl gh nl nh el eh)] (by kernel_rfl) (heldC_one (fun _ => hf)) (fun hF => ?_)
      refine gT (oi := ?o145) (v := ?v145) 0 ?i145 ?Q145 hF ?w145 ?y145 (by kernel_rfl) (fun hF => ?h145)
      case i145 => (simp only [gA, gB, gC]; rfl)
      case Q145 => exact fun _ _ _ h => h
      case w145 => rfl
      case y145 => (intro wz hz; have z0 := hz.b1.c0; have z1 := hz.b1.c1; go_simp; try (with_reducible rfl))
      try simp only [Act.put, uA, uB, uC]
      refine gT (oi := ?o146) (v := ?v146) 1 ?i146 ?Q146 hF ?w146 ?y146 (by kernel_rfl) (fun hF => ?h146)
      case i146 => (simp only [gA, gB, gC]; rfl)
      case Q146 => exact fun _ _ _ h => h
      case w146 => rfl
      case y146 => (intro wz hz; have z0 := hz.b2.c0; have z1 := hz.b2.c1; go_simp; try (with_reducible rfl))
      try simp only [Act.put, uA, uB, uC]
      refine gT (oi := ?o147) (v := ?v147) 3 ?i147 ?Q147 hF ?w147 ?y147 (by kernel_rfl) (fun hF => ?h147)
      case i147 => (simp only [gA, gB, gC]; rfl)
      case Q147 => exact fun _ _ _ h => h
      case w147 => rfl
      case y147 => (intro wz hz; have z0 := hz.b3.c0; have z1 := hz.b3.c1; go_simp; try (with_reducible rfl))
      try simp only [Act.put, uA, uB, uC]
      refine gT (oi := ?o148) (v := ?v148) 4 ?i148 ?Q148 hF ?w148 ?y148 (by kernel_rfl) (fun hF => ?h148)
      case i148 => (simp only [gA, gB, gC]; rfl)
      case Q148 => exact fun _ _ _ h => h
      case w148 => rfl
      case y148 => (intro wz hz; have z0 := hz.b4.c0; have z1 := hz.b4.c1; go_simp; try (with_reducible rfl))
      try simp only [Act.put, uA, uB, uC]
      refine gT (oi := ?o149) (v := ?v149) 8 ?i149 ?Q149 hF ?w149 ?y149 (by kernel_rfl) (fun hF => ?h149)
      case i149 => (simp only [gA, gB, gC]; rfl)
      case Q149 => exact fun _ _ _ h => h
      case w149 => rfl
      case y149 => (intro wz hz; skip; go_simp; try (with_reducible rfl))
      try simp only [Act.put, uA, uB, uC]
      refine gT (oi := ?o150) (v := ?v150) 9 ?i150 ?Q150 hF ?w150 ?y150 (by kernel_rfl) (fun hF => ?h150)
      case i150 => (simp only [gA, gB, gC]; rfl)
      case Q150 => exact fun _ _ _ h => h
      case w150 => rfl
      case y150 => (intro wz hz; have z0 := hz.b5.c0; have z1 := hz.b5.c1; go_simp; try (with_reducible rfl))
      try simp only [Act.put, uA, uB, uC]
      refine gT (oi := ?o151) (v := ?v151) 10 ?i151 ?Q151 hF ?w151 ?y151 (by kernel_rfl) (fun hF => ?h151)
      case i151 => (simp only [gA, gB, gC]; rfl)
      case Q151 => exact fun _ _ _ h => h
      case w151 => rfl
      case y151 => (intro wz hz; skip; go_simp; try (with_reducible rfl))
      try simp only [Act.put, uA, uB, uC]
      refine gT (oi := ?o152) (v := ?v152) 11 ?i152 ?Q152 hF ?w152 ?y152 (by kernel_rfl) (fun hF => ?h152)
      case i152 => (simp only [gA, gB, gC]; rfl)
      case Q152 => exact fun _ _ _ h => h
      case w152 => rfl
      case y152 => (intro wz hz; skip; go_simp; try (with_reducible rfl))
      try simp only [Act.put, uA, uB, uC]
      refine gT (oi := ?o153) (v := ?v153) 12 ?i153 ?Q153 hF ?w153 ?y153 (by kernel_rfl) (fun hF => ?h153)
      case i153 => (simp only [gA, gB, gC]; rfl)
      case Q153 => exact fun _ _ _ h => h
      case w153 => rfl
      case y153 => (intro wz hz; have z0 := hz.b5.c0; have z1 := hz.b5.c1; go_simp; try (with_reducible rfl))
      try simp only [Act.put, uA, uB, uC]
      refine gT (oi := ?o154) (v := ?v154) 13 ?i154 ?Q154 hF ?w154 ?y154 (by kernel_rfl) (fun hF => ?h154)
      case i154 => (simp only [gA, gB, gC]; rfl)
      case Q154 => exact fun _ _ _ h => h
      case w154 => rfl
      case y154 => (intro wz hz; skip; go_simp; try (with_reducible rfl))
      try simp only [Act.put, uA, uB, uC]
      refine gT (oi := ?o155) (v := ?v155) 14 ?i155 ?Q155 hF ?w155 ?y155 (by kernel_rfl) (fun hF => ?h155)
      case i155 => (simp only [gA, gB, gC]; rfl)
      case Q155 => exact fun _ _ _ h => h
      case w155 => rfl
      case y155 => (intro wz hz; skip; go_simp; try (with_reducible rfl))
      try simp only [Act.put, uA, uB, uC]
      refine gT (oi := ?o156) (v := ?v156) 16 ?i156 ?Q156 hF ?w156 ?y156 (by kernel_rfl) (fun hF => ?h156)
      case i156 => (simp only [gA, gB, gC]; rfl)
      case Q156 => exact fun _ _ _ h => h
      case w156 => rfl
      case y156 => (intro wz hz; have z0 := hz.b3.c0; have z1 := hz.b3.c1; go_simp; try (with_reducible rfl))
      try simp only [Act.put, uA, uB, uC]
      refine gT (oi := ?o157) (v := ?v157) 17 ?i157 ?Q157 hF ?w157 ?y157 (by kernel_rfl) (fun hF => ?h157)
      case i157 => (simp only [gA, gB, gC]; rfl)
      case Q157 => exact fun _ _ _ h => h
      case w157 => rfl
      case y157 => (intro wz hz; have z0 := hz.b2.c0; have z1 := hz.b2.c1; go_simp; try (with_reducible rfl))
      try simp only [Act.put, uA, uB, uC]
      refine gT (oi := ?o158) (v := ?v158) 19 ?i158 ?Q158 hF ?w158 ?y158 (by kernel_rfl) (fun hF => ?h158)
      case i158 => (simp only [gA, gB, gC]; rfl)
      case Q158 => exact fun _ _ _ h => h
      case w158 => rfl
      case y158 => (intro wz hz; have z0 := hz.b1.c0; have z1 := hz.b1.c1; go_simp; try (with_reducible rfl))
      try simp only [Act.put, uA, uB, uC]
      refine gT (oi := ?o159) (v := ?v159) 20 ?i159 ?Q159 hF ?w159 ?y159 (by kernel_rfl) (fun hF => ?h159)
      case i159 => (simp only [gA, gB, gC]; rfl)
      case Q159 => exact fun _ _ _ h => h
      case w159 => rfl
      case y159 => (intro wz hz; have z0 := hz.b4.c0; have z1 := hz.b4.c1; go_simp; try (with_reducible rfl))
      try simp only [Act.put, uA, uB, uC]
      refine gR (i := 2) (by kernel_rfl) ?_
      refine wpOp_hand (oi := ?oi160) ?hi160 (fun K hK => ?hh160)
      case hi160 => (simp only [gA, gB, gC]; rfl)
      go_simp
      refine Calls.mono (t1.out _) ?_
      rintro e y1 ⟨rfl, hb⟩
      replace hf := hf.below hb
      clear hb
      refine hK.out _ _ (heldC_one (fun _ => hf)) (fun hF => ?_)
      clear hK K
      try simp only [Act.put, uA, uB, uC]
      refine gR (i := 5) (by kernel_rfl) ?_
      refine wpOp_hand (oi := ?oi161) ?hi161 (fun K hK => ?hh161)
      case hi161 => (simp only [gA, gB, gC]; rfl)
      go_simp
      refine Calls.mono (t2.out _) ?_
      rintro e y2 ⟨rfl, hb⟩
      replace hf := hf.below hb
      clear hb
      refine hK.out _ _ (heldC_one (fun _ => hf)) (fun hF => ?_)
      clear hK K
      try simp only [Act.put, uA, uB, uC]
      refine gR (i := 6) (by kernel_rfl) ?_
      refine wpOp_hand (oi := ?oi162) ?hi162 (fun K hK => ?hh162)
      case hi162 => (simp only [gA, gB, gC]; rfl)
      go_simp
      refine Calls.mono (PL.out _) ?_
      rintro e y3 ⟨rfl, hb⟩
      replace hf := hf.below hb
      clear hb
      refine hK.out _ _ (heldC_one (fun _ => hf)) (fun hF => ?_)
      clear hK K
      try simp only [Act.put, uA, uB, uC]
      refine gR (i := 7) (by kernel_rfl) ?_
      refine wpOp_hand (oi := ?oi163) ?hi163 (fun K hK => ?hh163)
      case hi163 => (simp only [gA, gB, gC]; rfl)
      go_simp
      refine Calls.mono (X1.out _) ?_
      rintro e y4 ⟨rfl, hb⟩
      replace hf := hf.below hb
      clear hb
      refine hK.out _ _ (heldC_one (fun _ => hf)) (fun hF => ?_)
      clear hK K
      try simp only [Act.put, uA, uB, uC]
      refine gR (i := 15) (by kernel_rfl) ?_
      refine wpOp_hand (oi := ?oi164) ?hi164 (fun K hK => ?hh164)
      case hi164 => (simp only [gA, gB, gC]; rfl)
      go_simp
      refine Calls.mono (X2.out _) ?_
      rintro e y5 ⟨rfl, hb⟩
      replace hf := hf.below hb
      clear hb
      refine hK.out _ _ (heldC_one (fun _ => hf)) (fun hF => ?_)
      clear hK K
      try simp only [Act.put, uA, uB, uC]
      refine gR (i := 18) (by kernel_rfl) ?_
      refine wpOp_hand (oi := ?oi165) ?hi165 (fun K hK => ?hh165)
      case hi165 => (simp only [gA, gB, gC]; rfl)
      go_simp
      refine Calls.mono (t3.out _) ?_
      rintro e y6 ⟨rfl, hb⟩
      replace hf := hf.below hb
      clear hb
      refine hK.out _ _ (heldC_one (fun _ => hf)) (fun hF => ?_)
      clear hK K
      try simp only [Act.put, uA, uB, uC]
      refine gR (i := 21) (by kernel_rfl) ?_
      refine wpOp_hand (oi := ?oi166) ?hi166 (fun K hK => ?hh166)
      case hi166 => (simp only [gA, gB, gC]; rfl)
      go_simp
      refine Calls.mono (t4.out _) ?_
      rintro e y7 ⟨rfl, hb⟩
      replace hf := hf.below hb
      clear hb
      refine hK.out _ _ (heldC_one (fun _ => hf)) (fun hF => ?_)
      clear hK K
      try simp only [Act.put, uA, uB, uC]
      refine gR (i := 22) (by kernel_rfl) ?_
      refine wpOp_hand (oi := ?oi167) ?hi167 (fun K hK => ?hh167)
      case hi167 => (simp only [gA, gB, gC]; rfl)
      go_simp
      refine Calls.mono (ML.out _) ?_
      rintro e y8 ⟨rfl, hb⟩
      replace hf := hf.below hb
      clear hb
      refine hK.out _ _ (heldC_one (fun _ => hf)) (fun hF => ?_)
      clear hK K
      try simp only [Act.put, uA, uB, uC]
      refine gR (i := 23) (by kernel_rfl) ?_
      refine wpOp_hand (oi := ?oi168) ?hi168 (fun K hK => ?hh168)
      case hi168 => (simp only [gA, gB, gC]; rfl)
      go_simp
      refine Calls.mono (X3.out _) ?_
      rintro e y9 ⟨rfl, hb⟩
      replace hf := hf.below hb
      clear hb
      refine hK.out _ _ (heldC_one (fun _ => hf)) (fun hF => ?_)
      clear hK K
      try simp only [Act.put, uA, uB, uC]
      refine gT (oi := ?o169) (v := ?v169) 24 ?i169 ?Q169 hF ?w169 ?y169 (by kernel_rfl) (fun hF => ?h169)
      case i169 => (simp only [gA, gB, gC]; rfl)
      case Q169 => exact fun _ _ _ h => h
      case w169 => rfl
      case y169 => (intro wz hz; skip; go_simp; try (with_reducible rfl))
      try simp only [Act.put, uA, uB, uC]
      refine gR (i := 25) (by kernel_rfl) ?_
      have z0 := hf.pa.c (show 0 < 6 by omega); have z1 := hf.pa.c (show 1 < 6 by omega); have z2 := hf.pa.c (show 2 < 6 by omega); have z3 := hf.pa.c (show 3 < 6 by omega); have z4 := hf.pa.c (show 4 < 6 by omega); have z5 := hf.pa.c (show 5 < 6 by omega)
      have f0 := hf.pa.free 0; have f1 := hf.pa.free 1; have f2 := hf.pa.free 2; have f3 := hf.pa.free 3; have f4 := hf.pa.free 4; have f5 := hf.pa.free 5
      have zl := hf.pa.lt
      refine wpOp_hand (oi := ?oi170) ?hi170 (fun K hK => ?hh170)
      case hi170 => (simp only [gA, gB, gC]; rfl)
      go_simp
      refine hK.out _ _ (heldC_one (fun h => absurd h (by simp))) (fun hF => ?_)
      clear hK K
      try simp only [Act.put, uA, uB, uC]
      refine gR (i := 26) (by kernel_rfl) ?_
      refine wpOp_hand (oi := ?oi171) ?hi171 (fun K hK => ?hh171)
      case hi171 => (simp only [gA, gB, gC]; rfl)
      go_simp
      refine hK.out _ _ (heldC_one (fun h => absurd h (by simp))) (fun hF => ?_)
      clear hK K
      try simp only [Act.put, uA, uB, uC]
      refine wpG_done (by kernel_rfl) ?_ _
      go_wp2_with fail
      refine bodyPost_ret (v := .tuple #[.agg #[.int .i64 u1, .int .i64 u2, .int .i64 u3, .int .i64 u4, .int .i64 u5, .int .i64 u6], .int .i64 0]) ?_ rfl ⟨rfl, ?_⟩
      · simp [results, Tryz.results65, go_sem, *]
      · have lk : w.heap.size ≤ k + 1 + 1 + 1 := by have := HK.out; omega
        exact (((((hf.bl.setCell (p := ⟨k + 1 + 1 + 1, 0, none⟩) lk _).setCell (p := ⟨k + 1 + 1 + 1, 1, none⟩) lk _).setCell (p := ⟨k + 1 + 1 + 1, 2, none⟩) lk _).setCell (p := ⟨k + 1 + 1 + 1, 3, none⟩) lk _).setCell (p := ⟨k + 1 + 1 + 1, 4, none⟩) lk _).setCell (p := ⟨k + 1 + 1 + 1, 5, none⟩) lk _
end Go.Proofs.YtcopmgnfakjdhaaGreatDoor
/- place.Height, place.Ground. -/
namespace Go.Proofs.YtcopmgnfakjdhaaGreatDoor
open Go.RowKit
set_option linter.unusedSimpArgs false
set_option linter.unusedVariables false
set_option maxHeartbeats 4000000 in
theorem Height_ok (lon lat rl rh dl dh t : Int) (w : World) (hT : SinT w) (h : LkOk lon lat rl rh dl dh t) :
    Calls Tryz.prog 25 #[.agg #[.int .i64 lon, .int .i64 lat], .agg #[.int .i64 rl, .int .i64 rh], .agg #[.int .i64 dl, .int .i64 dh], .int .i64 t] w fun e w' => e = .returned (.tuple #[.agg #[.int .i64 (upLo lat (hhLo lon t rh) (hhHi lon t rl) dl dh), .int .i64 (upHi lat (hhLo lon t rh) (hhHi lon t rl) dl dh)], .int .i64 0]) ∧ Below w.heap.size w w' := by
  have L := Lib.hid (fun w ht => look_ok lon lat rl rh dl dh t w ht h)
  have HT := Lib.hid hT
  unfold lookV at L
  clear h hT
  generalize hhLo lon t rh = hl at *
  generalize hhHi lon t rl = hh at *
  generalize upLo lat hl hh dl dh = u1 at *
  generalize upHi lat hl hh dl dh = u2 at *
  generalize eaLo hl hh dl dh = u3 at *
  generalize eaHi hl hh dl dh = u4 at *
  generalize noLo lat hl hh dl dh = u5 at *
  generalize noHi lat hl hh dl dh = u6 at *
  go_enter Tryz.func25, Tryz.ntmps25
  go_wp2_with fail
  refine Calls.mono (L.out _ (HT.out.below (by repeat' (first | (with_reducible refine below_drewN ?_ _) | go_grown)))) ?_
  rintro e w1 ⟨rfl, hb⟩
  obtain ⟨hb1, hz1, hc1, hf1⟩ := took (w := w) (by repeat' (first | (with_reducible refine below_drewN ?_ _) | go_grown)) (by first | (simp only [vA, vB, vC, vD]; done) | (simp only [vA, vB, vC, vD]; rfl) | rfl) hb; clear hb
  have z1 : w.heap.size < w1.heap.size := by omega
  have z2 : w.heap.size + 1 < w1.heap.size := by omega
  have z3 : w.heap.size + 1 + 1 < w1.heap.size := by omega
  have z4 : w.heap.size + 1 + 1 + 1 < w1.heap.size := by omega
  go_wp2_with fail
  refine bodyPost_ret (v := .tuple #[.agg #[.int .i64 u1, .int .i64 u2], .int .i64 0]) ?_ rfl ⟨rfl, (by repeat' (first | (with_reducible refine below_drewN ?_ _) | go_grown))⟩
  simp [results, Tryz.results25, go_sem, *]
end Go.Proofs.YtcopmgnfakjdhaaGreatDoor
/- placeWorks, site. -/
namespace Go.Proofs.YtcopmgnfakjdhaaGreatDoor
open Go.RowKit
set_option linter.unusedSimpArgs false
set_option linter.unusedVariables false
set_option maxHeartbeats 1000000 in
theorem site_ok (x y : Int) (w : World) : Calls Tryz.prog 12 #[.agg #[.int .i64 x, .int .i64 y]] w fun e w' => e = .returned (.agg #[.int .i64 (x.tmod 500000001), .int .i64 (y.tmod 220000001)]) ∧ Below w.heap.size w w' := by
  go_enter Tryz.func12, Tryz.ntmps12
  go_wp2_with fail
  refine bodyPost_ret (v := .agg #[.int .i64 (x.tmod 500000001), .int .i64 (y.tmod 220000001)]) ?_ rfl ⟨rfl, (by repeat' (first | (with_reducible refine below_drewN ?_ _) | go_grown))⟩
  simp [results, Tryz.results12, go_sem, *]
theorem site_pl (x y : Int) : PlOk (x.tmod 500000001) (y.tmod 220000001) := by
  have h1 := Int.lt_tmod_of_pos x (show (0 : Int) < 500000001 by omega)
  have h2 := Int.tmod_lt_of_pos x (show (0 : Int) < 500000001 by omega)
  have h3 := Int.lt_tmod_of_pos y (show (0 : Int) < 220000001 by omega)
  have h4 := Int.tmod_lt_of_pos y (show (0 : Int) < 220000001 by omega)
  exact ⟨by omega, by omega, by omega, by omega⟩
end Go.Proofs.YtcopmgnfakjdhaaGreatDoor
