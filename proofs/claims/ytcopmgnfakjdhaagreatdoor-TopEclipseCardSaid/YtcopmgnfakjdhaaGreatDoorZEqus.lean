/- Merged by wip/tools/pack.py out of XAsinS, XEqu. -/
import Derived.Test.YtcopmgnfakjdhaaGreatDoorZArcAs
import Derived.Test.YtcopmgnfakjdhaaGreatDoorZReg
import Derived.Test.YtcopmgnfakjdhaaGreatDoorZTrigOs
import Derived.Test.YtcopmgnfakjdhaaGreatDoorZArcW
/- trig.arcSine, trig.ArcSin: the walks. ArcSin's region printed by wip/tools/gen-asin.py. -/
namespace Go.Proofs.YtcopmgnfakjdhaaGreatDoor
open Go.RowKit
set_option linter.unusedSimpArgs false
set_option linter.unusedVariables false
theorem rt_top : rtW 1000000000 = 0 ∧ rtW (-1000000000) = 0 ∧ rtW 0 = iw 1000000000 := by decide +kernel
theorem rt_sqrt {c : Int} (h : -1000000000 ≤ c ∧ c ≤ 1000000000) : Ieee.double.sqrt (floatOfInt .f64 (rx c)) = some (rtW c) := by
  by_cases c1 : c = 1000000000
  · subst c1; decide +kernel
  · by_cases c2 : c = -1000000000
    · subst c2; decide +kernel
    · exact (rt_ok (by omega) (by omega)).1
theorem atan2_as {c : Int} (h : -1000000000 ≤ c ∧ c ≤ 1000000000) (w : World) : Calls Tryz.prog 110 #[.float .f64 (iw c), .float .f64 (rtW c)] w fun e w' => e = .returned (.float .f64 (asW c)) ∧ w' = w := by
  have z : iw 0 = 0 := iw_zero
  by_cases c1 : c = 1000000000
  · subst c1
    rw [rt_top.1, ← z]
    exact Atan2_ok 1000000000 0 ⟨by omega, by omega⟩ ⟨by omega, by omega⟩ (.inl (by omega)) w
  · by_cases c2 : c = -1000000000
    · subst c2
      rw [rt_top.2.1, ← z]
      exact Atan2_ok (-1000000000) 0 ⟨by omega, by omega⟩ ⟨by omega, by omega⟩ (.inl (by omega)) w
    · by_cases c3 : c = 0
      · subst c3
        rw [rt_top.2.2]
        exact Atan2_ok 0 1000000000 ⟨by omega, by omega⟩ ⟨by omega, by omega⟩ (.inr (by omega)) w
      · have I : AsIn c := ⟨by omega, by omega, c3⟩
        obtain ⟨-, f, v, D, rt⟩ := rt_ok I.lo I.hi
        have X1 := rt_range rt
        rw [I.v.2]
        exact Atan2_word c (rtW c) ⟨by omega, by omega⟩ c3 f (by grind) (by grind) w
def clT (n : Int) : Int := min (max n (-1000000000)) 1000000000
theorem clT_bd (n : Int) : -1000000000 ≤ clT n ∧ clT n ≤ 1000000000 := by unfold clT; omega
set_option maxHeartbeats 2000000 in
theorem arcSine_ok (n : Int) (w : World) : Calls Tryz.prog 94 #[.int .i64 n] w fun e w' => e = .returned (.float .f64 (asU (clT n))) ∧ w' = w := by
  have b := clT_bd n
  have ec : min (max n (-1000000000)) 1000000000 = clT n := rfl
  obtain ⟨i1, i2, -⟩ := asU_ok b
  have g1 := fop i1; have g2 := fop i2
  have S := Lib.hid (fun w => Sqrt_ok (x := floatOfInt .f64 (rx (clT n))) (rt_sqrt b) w)
  have A := Lib.hid (fun w => atan2_as b w)
  have er : fsqrt (floatOfInt .f64 (rx (clT n))) = rtW (clT n) := rfl
  rw [er] at S
  have x0 : 0 ≤ rx (clT n) ∧ rx (clT n) ≤ 1000000000000000000 := by
    by_cases c1 : clT n = 1000000000
    · rw [c1]; decide
    · by_cases c2 : clT n = -1000000000
      · rw [c2]; decide
      · have := rx_bd (n := clT n) (by omega) (by omega); omega
  have w1 : wrap64 (1000000000 - clT n) = 1000000000 - clT n := IntWalk.wrap64_in _ (by omega)
  have w2 : wrap64 (1000000000 + clT n) = 1000000000 + clT n := IntWalk.wrap64_in _ (by omega)
  have w3 : wrap64 ((1000000000 - clT n) * (1000000000 + clT n)) = rx (clT n) := by
    have : (1000000000 - clT n) * (1000000000 + clT n) = rx (clT n) := rfl
    rw [this]; exact IntWalk.wrap64_in _ (by omega)
  have ei : iw (clT n) = floatOfInt .f64 (clT n) := rfl
  rw [ei] at A
  clear i1 i2 b x0 er ei
  generalize asU (clT n) = u at *
  generalize asW (clT n) = v at *
  generalize rtW (clT n) = r at *
  obtain ⟨x, hx⟩ : ∃ x, x = rx (clT n) := ⟨_, rfl⟩
  rw [← hx] at S w3
  clear hx
  generalize clT n = c at *
  go_enter Tryz.func94, Tryz.ntmps94
  go_wp2_with fail
  refine Calls.mono (S.out _) ?_
  rintro e _ ⟨rfl, rfl⟩
  go_wp2_with fail
  refine Calls.mono (A.out _) ?_
  rintro e _ ⟨rfl, rfl⟩
  go_wp2_with fail
  go_ret
  exact ⟨rfl, rfl⟩
structure AsF (w0 w : World) (k q : Nat) (a b : Int) : Prop where
  q1 : SpBox w k a b
  q2 : SpBox w q 0 0
  bl : Below w0.heap.size w0 w
theorem AsF.below {w0 w w' : World} {k q : Nat} {a b : Int} (h : AsF w0 w k q a b) (hb : Below w.heap.size w w') : AsF w0 w' k q a b :=
  ⟨h.q1.below hb, h.q2.below hb, h.bl.trans (hb.mono h.bl.size)⟩
set_option maxRecDepth 100000 in
set_option maxHeartbeats 4000000 in
theorem ArcSin_ok (a b : Int) (w : World) (h : IvOk a b) : Calls Tryz.prog 60 #[.agg #[.int .i64 a, .int .i64 b]] w fun e w' => e = .returned (.tuple #[.agg #[.int .i64 (asLo (clT a)), .int .i64 (asHi (clT b))], .int .i64 0]) ∧ Below w.heap.size w w' := by
  have C := Lib.hid (fun w => check_ok a b w h)
  have S1 := Lib.hid (fun w => arcSine_ok a w)
  have S2 := Lib.hid (fun w => arcSine_ok b w)
  have A1 := Lib.hid (fun w => Around_ok (asU_around (clT_bd a)) w)
  have A2 := Lib.hid (fun w => Around_ok (asU_around (clT_bd b)) w)
  unfold asLo asHi
  clear h
  generalize asU (clT a) = ua at *
  generalize asU (clT b) = ub at *
  generalize aLo ua = p1 at *
  generalize aHi ua = p2 at *
  generalize aLo ub = q1 at *
  generalize aHi ub = q2 at *
  have fd0 : ∀ w, (Instr.field 28 (.agg #[.int .i64 p1, .int .i64 p2]) 0).run Tryz.prog w = .ok (.int .i64 p1) w := fun _ => by kernel_rfl
  have fd1 : ∀ w, (Instr.field 28 (.agg #[.int .i64 q1, .int .i64 q2]) 1).run Tryz.prog w = .ok (.int .i64 q2) w := fun _ => by kernel_rfl
  obtain ⟨lo, hlo⟩ : ∃ x, x = max p1 (-250000000) := ⟨_, rfl⟩
  obtain ⟨hi, hhi⟩ : ∃ x, x = min q2 250000000 := ⟨_, rfl⟩
  have e1 : max p1 (-250000000) = lo := hlo.symm
  have e2 : min q2 250000000 = hi := hhi.symm
  rw [← hlo, ← hhi]
  clear hlo hhi
  have b0 := SpBox.new w a b
  have b1 := SpBox.new (w.alloc (.cells #[.int .i64 a, .int .i64 b] 28)) 0 0
  obtain ⟨k, hk⟩ : ∃ b, b = w.heap.size := ⟨_, rfl⟩
  have e5 : (w.alloc (.cells #[.int .i64 a, .int .i64 b] 28)).heap.size = k + 1 := by simp [hk]
  rw [e5] at b1
  have HB0 := b0.alloc (.cells #[.int .i64 0, .int .i64 0] 28)
  rw [← hk] at HB0
  have hf := Lib.hid (show AsF w ((w.alloc (.cells #[.int .i64 a, .int .i64 b] 28)).alloc (.cells #[.int .i64 0, .int .i64 0] 28)) k (k + 1) a b from ⟨HB0, b1, (by repeat' (first | (with_reducible refine below_drewN ?_ _) | go_grown))⟩)
  have HK := Lib.hid hk
  have HE5 := Lib.hid e5
  clear b0 b1 e5 HB0
  go_enter Tryz.func60, Tryz.ntmps60
  go_upto_region 1 with fail
  (try rw [HE5.out])
  rw [← hk]
  clear hk
  obtain ⟨W, hW⟩ : ∃ W, W = (w.alloc (.cells #[.int .i64 a, .int .i64 b] 28)).alloc (.cells #[.int .i64 0, .int .i64 0] 28) := ⟨_, rfl⟩
  rw [← hW] at hf ⊢
  clear hW
  have c0 := hf.out.q1.c0; have c1 := hf.out.q1.c1; have cl := hf.out.q1.lt
  go_wp2_with fail
  refine Calls.mono (C.out _) ?_
  rintro e w1 ⟨rfl, hb⟩
  have hf1 := hf.out.below hb
  clear hb hf c0 c1 cl
  go_upto_region 4 with fail
  have hf : AsF w w1.drew k (k + 1) a b := ⟨hf1.q1, hf1.q2, hf1.bl.drew⟩
  clear hf1
  refine wp_region_G [(13, fun w' => AsF w w' k (k + 1) a b)] (by kernel_rfl) (heldC_one (fun _ => hf)) (fun hF => ?_)
  refine gT (oi := ?o27) (v := ?v27) 0 ?i27 ?Q27 hF ?w27 ?y27 (by kernel_rfl) (fun hF => ?h27)
  case i27 => (simp only [gA, gB, gC]; rfl)
  case Q27 => exact fun _ _ _ h => h
  case w27 => rfl
  case y27 => (intro wz hz; skip; go_simp; try (with_reducible rfl))
  try simp only [Act.put, uA, uB, uC]
  refine gT (oi := ?o28) (v := ?v28) 1 ?i28 ?Q28 hF ?w28 ?y28 (by kernel_rfl) (fun hF => ?h28)
  case i28 => (simp only [gA, gB, gC]; rfl)
  case Q28 => exact fun _ _ _ h => h
  case w28 => rfl
  case y28 => (intro wz hz; have z0 := hz.q1.c0; go_simp; try (with_reducible rfl))
  try simp only [Act.put, uA, uB, uC]
  refine gT (oi := ?o29) (v := ?v29) 6 ?i29 ?Q29 hF ?w29 ?y29 (by kernel_rfl) (fun hF => ?h29)
  case i29 => (simp only [gA, gB, gC]; rfl)
  case Q29 => exact fun _ _ _ h => h
  case w29 => rfl
  case y29 => (intro wz hz; skip; go_simp; try (with_reducible rfl))
  try simp only [Act.put, uA, uB, uC]
  refine gT (oi := ?o30) (v := ?v30) 7 ?i30 ?Q30 hF ?w30 ?y30 (by kernel_rfl) (fun hF => ?h30)
  case i30 => (simp only [gA, gB, gC]; rfl)
  case Q30 => exact fun _ _ _ h => h
  case w30 => rfl
  case y30 => (intro wz hz; have z0 := hz.q1.c1; go_simp; try (with_reducible rfl))
  try simp only [Act.put, uA, uB, uC]
  refine gR (i := 2) (by kernel_rfl) ?_
  refine wpOp_hand (oi := ?oi31) ?hi31 (fun K hK => ?hh31)
  case hi31 => (simp only [gA, gB, gC]; rfl)
  go_simp
  refine Calls.mono (S1.out _) ?_
  rintro e yq2 ⟨rfl, hq⟩
  rw [hq]
  clear hq
  refine hK.out _ _ (heldC_one (fun _ => hf)) (fun hF => ?_)
  clear hK K
  try simp only [Act.put, uA, uB, uC]
  refine gR (i := 3) (by kernel_rfl) ?_
  refine wpOp_hand (oi := ?oi32) ?hi32 (fun K hK => ?hh32)
  case hi32 => (simp only [gA, gB, gC]; rfl)
  go_simp
  refine Calls.mono (A1.out _) ?_
  rintro e y3 ⟨rfl, hb⟩
  replace hf := hf.below hb
  clear hb
  refine hK.out _ _ (heldC_one (fun _ => hf)) (fun hF => ?_)
  clear hK K
  try simp only [Act.put, uA, uB, uC]
  refine gT (oi := ?o33) (v := ?v33) 4 ?i33 ?Q33 hF ?w33 ?y33 (by kernel_rfl) (fun hF => ?h33)
  case i33 => (simp only [gA, gB, gC]; rfl)
  case Q33 => exact fun _ _ _ h => h
  case w33 => rfl
  case y33 => (intro wz hz; skip; go_simp; try (with_reducible rfl))
  try simp only [Act.put, uA, uB, uC]
  refine gT (oi := ?o34) (v := ?v34) 5 ?i34 ?Q34 hF ?w34 ?y34 (by kernel_rfl) (fun hF => ?h34)
  case i34 => (simp only [gA, gB, gC]; rfl)
  case Q34 => exact fun _ _ _ h => h
  case w34 => rfl
  case y34 => (intro wz hz; skip; go_simp; try (with_reducible rfl))
  try simp only [Act.put, uA, uB, uC]
  refine gR (i := 8) (by kernel_rfl) ?_
  refine wpOp_hand (oi := ?oi35) ?hi35 (fun K hK => ?hh35)
  case hi35 => (simp only [gA, gB, gC]; rfl)
  go_simp
  refine Calls.mono (S2.out _) ?_
  rintro e yq8 ⟨rfl, hq⟩
  rw [hq]
  clear hq
  refine hK.out _ _ (heldC_one (fun _ => hf)) (fun hF => ?_)
  clear hK K
  try simp only [Act.put, uA, uB, uC]
  refine gR (i := 9) (by kernel_rfl) ?_
  refine wpOp_hand (oi := ?oi36) ?hi36 (fun K hK => ?hh36)
  case hi36 => (simp only [gA, gB, gC]; rfl)
  go_simp
  refine Calls.mono (A2.out _) ?_
  rintro e y9 ⟨rfl, hb⟩
  replace hf := hf.below hb
  clear hb
  refine hK.out _ _ (heldC_one (fun _ => hf)) (fun hF => ?_)
  clear hK K
  try simp only [Act.put, uA, uB, uC]
  refine gT (oi := ?o37) (v := ?v37) 10 ?i37 ?Q37 hF ?w37 ?y37 (by kernel_rfl) (fun hF => ?h37)
  case i37 => (simp only [gA, gB, gC]; rfl)
  case Q37 => exact fun _ _ _ h => h
  case w37 => rfl
  case y37 => (intro wz hz; skip; go_simp; try (with_reducible rfl))
  try simp only [Act.put, uA, uB, uC]
  refine gT (oi := ?o38) (v := ?v38) 11 ?i38 ?Q38 hF ?w38 ?y38 (by kernel_rfl) (fun hF => ?h38)
  case i38 => (simp only [gA, gB, gC]; rfl)
  case Q38 => exact fun _ _ _ h => h
  case w38 => rfl
  case y38 => (intro wz hz; skip; go_simp; try (with_reducible rfl))
  try simp only [Act.put, uA, uB, uC]
  refine gT (oi := ?o39) (v := ?v39) 12 ?i39 ?Q39 hF ?w39 ?y39 (by kernel_rfl) (fun hF => ?h39)
  case i39 => (simp only [gA, gB, gC]; rfl)
  case Q39 => exact fun _ _ _ h => h
  case w39 => rfl
  case y39 => (intro wz hz; skip; go_simp; try (with_reducible rfl))
  try simp only [Act.put, uA, uB, uC]
  refine gR (i := 13) (by kernel_rfl) ?_
  have x0 := hf.q2.c0; have x1 := hf.q2.c1; have f0 := hf.q2.free 0; have f1 := hf.q2.free 1; have xl := hf.q2.lt
  refine wpOp_hand (oi := ?oi40) ?hi40 (fun K hK => ?hh40)
  case hi40 => (simp only [gA, gB, gC]; rfl)
  go_simp
  refine hK.out _ _ (heldC_one (fun h => absurd h (by simp))) (fun hF => ?_)
  clear hK K
  try simp only [Act.put, uA, uB, uC]
  refine gR (i := 14) (by kernel_rfl) ?_
  refine wpOp_hand (oi := ?oi41) ?hi41 (fun K hK => ?hh41)
  case hi41 => (simp only [gA, gB, gC]; rfl)
  go_simp
  refine hK.out _ _ (heldC_one (fun h => absurd h (by simp))) (fun hF => ?_)
  clear hK K
  try simp only [Act.put, uA, uB, uC]
  refine wpG_done (by kernel_rfl) ?_ _
  go_wp2_with fail
  refine bodyPost_ret (v := .tuple #[.agg #[.int .i64 lo, .int .i64 hi], .int .i64 0]) ?_ rfl ⟨rfl, ?_⟩
  · simp [results, Tryz.results60, go_sem, *]
  · have := HK.out
    exact (hf.bl.setCell (p := ⟨k + 1, 0, none⟩) (by dsimp only; omega) _).setCell (p := ⟨k + 1, 1, none⟩) (by dsimp only; omega) _
end Go.Proofs.YtcopmgnfakjdhaaGreatDoor
/- sun.Tilt, sun.Equator: the walk. -/
namespace Go.Proofs.YtcopmgnfakjdhaaGreatDoor
open Go.RowKit
set_option linter.unusedSimpArgs false
set_option linter.unusedVariables false
set_option maxHeartbeats 4000000 in
theorem Tilt_ok (w : World) (hT : SinT w) : Calls Tryz.prog 56 #[] w fun e w' => e = .returned (.tuple #[.agg #[.int .i64 (sLo 65109000), .int .i64 (sHi 65109000)], .agg #[.int .i64 (cLo 65109000), .int .i64 (cHi 65109000)]]) ∧ Below w.heap.size w w' := by
  have S := Lib.hid (fun W (hT : SinT W) => trSin_ok 65109000 W hT (by omega))
  have C := Lib.hid (fun W (hT : SinT W) => trCos_ok 65109000 W hT (by omega))
  have HT := Lib.hid hT
  clear hT
  generalize sLo 65109000 = sl at *
  generalize sHi 65109000 = sh at *
  generalize cLo 65109000 = cl at *
  generalize cHi 65109000 = ch at *
  go_enter Tryz.func56, Tryz.ntmps56
  have HB := Lib.hid (Below.refl w.heap.size w)
  obtain ⟨k1, hk1⟩ : ∃ x, x = w.heap.size := ⟨_, rfl⟩
  have he2 : (w.alloc (.cells #[.int .i64 (0), .int .i64 (0)] 28)).heap.size = k1 + 1 := by simp [hk1]
  have s1 := (SpBox.new w (0) (0)).alloc (.cells #[.int .i64 (0), .int .i64 (0)] 28)
  rw [← hk1] at s1
  have Hkl1 := Lib.hid (show w.heap.size ≤ k1 by rw [hk1]; omega)
  have s2 := SpBox.new (w.alloc (.cells #[.int .i64 (0), .int .i64 (0)] 28)) (0) (0)
  rw [he2] at s2
  have Hkl2 := Lib.hid (show w.heap.size ≤ k1 + 1 by rw [hk1]; omega)
  go_upto_region 1 with fail
  (try rw [he2])
  rw [← hk1]
  obtain ⟨k2, hk2⟩ : ∃ x, x = k1 + 1 := ⟨_, rfl⟩
  rw [← hk2] at s2 Hkl2
  (try rw [← hk2])
  have Hd2_1 := Lib.hid (show k1 < k2 by omega)
  clear hk2
  have HBn := show Below w.heap.size w ((w.alloc (.cells #[.int .i64 (0), .int .i64 (0)] 28)).alloc (.cells #[.int .i64 (0), .int .i64 (0)] 28)) from (by repeat' (first | (with_reducible refine below_drewN ?_ _) | go_grown))
  obtain ⟨X2, hX2⟩ : ∃ X, X = ((w.alloc (.cells #[.int .i64 (0), .int .i64 (0)] 28)).alloc (.cells #[.int .i64 (0), .int .i64 (0)] 28)) := ⟨_, rfl⟩
  rw [← hX2] at s1 s2 HBn ⊢
  clear hX2 he2 HB
  replace s1 := Lib.hid s1
  replace s2 := Lib.hid s2
  have HB := Lib.hid HBn; have HK1 := Lib.hid hk1; clear HBn hk1
  go_wp2_with fail
  refine Calls.mono (S.out _ (HT.out.below HB.out)) ?_
  rintro e wn3 ⟨rfl, hb⟩
  have Hd3_1 := Lib.hid (s1.out.below hb).lt
  have Hd3_2 := Lib.hid (s2.out.below hb).lt
  replace s1 := Lib.hid ((s1.out.below hb).alloc (.cells #[.int .i64 (sl), .int .i64 (sh)] 28))
  replace s2 := Lib.hid ((s2.out.below hb).alloc (.cells #[.int .i64 (sl), .int .i64 (sh)] 28))
  have HB3 := HB.out.trans (hb.mono HB.out.size)
  clear hb
  have Hkl3 := Lib.hid HB3.size; replace HB := Lib.hid (HB3.alloc HB3.size (.cells #[.int .i64 (sl), .int .i64 (sh)] 28))
  clear HB3
  have s3 := Lib.hid (SpBox.new wn3 (sl) (sh))
  obtain ⟨k3, hk3⟩ : ∃ x, x = wn3.heap.size := ⟨_, rfl⟩
  rw [← hk3] at s3 Hkl3 Hd3_1 Hd3_2
  go_upto_region 2 with fail
  rw [← hk3]
  obtain ⟨X3, hX3⟩ : ∃ X, X = wn3.alloc (.cells #[.int .i64 (sl), .int .i64 (sh)] 28) := ⟨_, rfl⟩
  rw [← hX3] at s1 s2 s3 HB ⊢
  clear hk3 hX3
  go_wp2_with fail
  refine Calls.mono (C.out _ (HT.out.below HB.out)) ?_
  rintro e wn4 ⟨rfl, hb⟩
  have Hd4_1 := Lib.hid (s1.out.below hb).lt
  have Hd4_2 := Lib.hid (s2.out.below hb).lt
  have Hd4_3 := Lib.hid (s3.out.below hb).lt
  replace s1 := Lib.hid ((s1.out.below hb).alloc (.cells #[.int .i64 (cl), .int .i64 (ch)] 28))
  replace s2 := Lib.hid ((s2.out.below hb).alloc (.cells #[.int .i64 (cl), .int .i64 (ch)] 28))
  replace s3 := Lib.hid ((s3.out.below hb).alloc (.cells #[.int .i64 (cl), .int .i64 (ch)] 28))
  have HB4 := HB.out.trans (hb.mono HB.out.size)
  clear hb
  have Hkl4 := Lib.hid HB4.size; replace HB := Lib.hid (HB4.alloc HB4.size (.cells #[.int .i64 (cl), .int .i64 (ch)] 28))
  clear HB4
  have s4 := Lib.hid (SpBox.new wn4 (cl) (ch))
  obtain ⟨k4, hk4⟩ : ∃ x, x = wn4.heap.size := ⟨_, rfl⟩
  rw [← hk4] at s4 Hkl4 Hd4_1 Hd4_2 Hd4_3
  go_upto_region 3 with fail
  rw [← hk4]
  obtain ⟨X4, hX4⟩ : ∃ X, X = wn4.alloc (.cells #[.int .i64 (cl), .int .i64 (ch)] 28) := ⟨_, rfl⟩
  rw [← hX4] at s1 s2 s3 s4 HB ⊢
  clear hk4 hX4
  have c1_0 := s1.out.c0; have c1_1 := s1.out.c1; have c1_f := s1.out.free 0; have c1_g := s1.out.free 1; have c1_l := s1.out.lt; have c1_k := Hkl1.out
  have c2_0 := s2.out.c0; have c2_1 := s2.out.c1; have c2_f := s2.out.free 0; have c2_g := s2.out.free 1; have c2_l := s2.out.lt; have c2_k := Hkl2.out
  have c3_0 := s3.out.c0; have c3_1 := s3.out.c1; have c3_f := s3.out.free 0; have c3_g := s3.out.free 1; have c3_l := s3.out.lt; have c3_k := Hkl3.out
  have c4_0 := s4.out.c0; have c4_1 := s4.out.c1; have c4_f := s4.out.free 0; have c4_g := s4.out.free 1; have c4_l := s4.out.lt; have c4_k := Hkl4.out
  have ne1_2 := Nat.ne_of_lt Hd2_1.out; have ne2_1 := Nat.ne_of_gt Hd2_1.out
  have ne1_3 := Nat.ne_of_lt Hd3_1.out; have ne3_1 := Nat.ne_of_gt Hd3_1.out
  have ne1_4 := Nat.ne_of_lt Hd4_1.out; have ne4_1 := Nat.ne_of_gt Hd4_1.out
  have ne2_3 := Nat.ne_of_lt Hd3_2.out; have ne3_2 := Nat.ne_of_gt Hd3_2.out
  have ne2_4 := Nat.ne_of_lt Hd4_2.out; have ne4_2 := Nat.ne_of_gt Hd4_2.out
  have ne3_4 := Nat.ne_of_lt Hd4_3.out; have ne4_3 := Nat.ne_of_gt Hd4_3.out
  go_region
  go_wp2_with fail
  refine bodyPost_ret (v := .tuple #[.agg #[.int .i64 sl, .int .i64 sh], .agg #[.int .i64 cl, .int .i64 ch]]) ?_ rfl ⟨rfl, ?_⟩
  · simp [results, Tryz.results56, go_sem, *]
  · exact (((HB.out.drew.setCell (p := ⟨k1, 0, none⟩) c1_k _).setCell (p := ⟨k1, 1, none⟩) c1_k _).setCell (p := ⟨k2, 0, none⟩) c2_k _).setCell (p := ⟨k2, 1, none⟩) c2_k _
end Go.Proofs.YtcopmgnfakjdhaaGreatDoor
