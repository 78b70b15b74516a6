/- Merged by wip/tools/pack.py out of XAsinS, XEqu. -/
import Derived.Test.YtcopmgnfakjdhaaGreatDoorVArcAs
import Derived.Test.YtcopmgnfakjdhaaGreatDoorVReg
import Derived.Test.YtcopmgnfakjdhaaGreatDoorVTrigOs
import Derived.Test.YtcopmgnfakjdhaaGreatDoorVArcW
/- trig.arcSine, trig.ArcSin: the walks. ArcSin's region printed by wip/tools/gen-asin.py. -/
namespace Go.Proofs.YtcopmgnfakjdhaaGreatDoor
open Go.RowKit
set_option linter.unusedSimpArgs false
set_option linter.unusedVariables false
theorem rt_top : rtW 1000000000 = 0 ∧ rtW (-1000000000) = 0 ∧ rtW 0 = iw 1000000000 := by decide +kernel
theorem rt_sqrt {c : Int} (h : -1000000000 ≤ c ∧ c ≤ 1000000000) : Ieee.double.sqrt (floatOfInt .f64 (rx c)) = some (rtW c) := by
  by_cases c1 : c = 1000000000
  · subst c1; decide +kernel
  · by_cases c2 : c = -1000000000
    · subst c2; decide +kernel
    · exact (rt_ok (by omega) (by omega)).1
theorem atan2_as {c : Int} (h : -1000000000 ≤ c ∧ c ≤ 1000000000) (w : World) : Calls Tryz.prog 110 #[.float .f64 (iw c), .float .f64 (rtW c)] w fun e w' => e = .returned (.float .f64 (asW c)) ∧ w' = w := by
  have z : iw 0 = 0 := iw_zero
  by_cases c1 : c = 1000000000
  · subst c1
    rw [rt_top.1, ← z]
    exact Atan2_ok 1000000000 0 ⟨by omega, by omega⟩ ⟨by omega, by omega⟩ (.inl (by omega)) w
  · by_cases c2 : c = -1000000000
    · subst c2
      rw [rt_top.2.1, ← z]
      exact Atan2_ok (-1000000000) 0 ⟨by omega, by omega⟩ ⟨by omega, by omega⟩ (.inl (by omega)) w
    · by_cases c3 : c = 0
      · subst c3
        rw [rt_top.2.2]
        exact Atan2_ok 0 1000000000 ⟨by omega, by omega⟩ ⟨by omega, by omega⟩ (.inr (by omega)) w
      · have I : AsIn c := ⟨by omega, by omega, c3⟩
        obtain ⟨-, f, v, D, rt⟩ := rt_ok I.lo I.hi
        have X1 := rt_range rt
        rw [I.v.2]
        exact Atan2_word c (rtW c) ⟨by omega, by omega⟩ c3 f (by grind) (by grind) w
def clT (n : Int) : Int := min (max n (-1000000000)) 1000000000
theorem clT_bd (n : Int) : -1000000000 ≤ clT n ∧ clT n ≤ 1000000000 := by unfold clT; omega
set_option maxHeartbeats 2000000 in
theorem arcSine_ok (n : Int) (w : World) : Calls Tryz.prog 94 #[.int .i64 n] w fun e w' => e = .returned (.float .f64 (asU (clT n))) ∧ w' = w := by
  have b := clT_bd n
  have ec : min (max n (-1000000000)) 1000000000 = clT n := rfl
  obtain ⟨i1, i2, -⟩ := asU_ok b
  have g1 := fop i1; have g2 := fop i2
  have S := Lib.hid (fun w => Sqrt_ok (x := floatOfInt .f64 (rx (clT n))) (rt_sqrt b) w)
  have A := Lib.hid (fun w => atan2_as b w)
  have er : fsqrt (floatOfInt .f64 (rx (clT n))) = rtW (clT n) := rfl
  rw [er] at S
  have x0 : 0 ≤ rx (clT n) ∧ rx (clT n) ≤ 1000000000000000000 := by
    by_cases c1 : clT n = 1000000000
    · rw [c1]; decide
    · by_cases c2 : clT n = -1000000000
      · rw [c2]; decide
      · have := rx_bd (n := clT n) (by omega) (by omega); omega
  have w1 : wrap64 (1000000000 - clT n) = 1000000000 - clT n := IntWalk.wrap64_in _ (by omega)
  have w2 : wrap64 (1000000000 + clT n) = 1000000000 + clT n := IntWalk.wrap64_in _ (by omega)
  have w3 : wrap64 ((1000000000 - clT n) * (1000000000 + clT n)) = rx (clT n) := by
    have : (1000000000 - clT n) * (1000000000 + clT n) = rx (clT n) := rfl
    rw [this]; exact IntWalk.wrap64_in _ (by omega)
  have ei : iw (clT n) = floatOfInt .f64 (clT n) := rfl
  rw [ei] at A
  clear i1 i2 b x0 er ei
  generalize asU (clT n) = u at *
  generalize asW (clT n) = v at *
  generalize rtW (clT n) = r at *
  obtain ⟨x, hx⟩ : ∃ x, x = rx (clT n) := ⟨_, rfl⟩
  rw [← hx] at S w3
  clear hx
  generalize clT n = c at *
  go_enter Tryz.func94, Tryz.ntmps94
  go_wp2_with fail
  refine Calls.mono (S.out _) ?_
  rintro e _ ⟨rfl, rfl⟩
  go_wp2_with fail
  refine Calls.mono (A.out _) ?_
  rintro e _ ⟨rfl, rfl⟩
  go_wp2_with fail
  go_ret
  exact ⟨rfl, rfl⟩
structure AsF (w0 w : World) (k q : Nat) (a b : Int) : Prop where
  q1 : SpBox w k a b
  q2 : SpBox w q 0 0
  bl : Below w0.heap.size w0 w
theorem AsF.below {w0 w w' : World} {k q : Nat} {a b : Int} (h : AsF w0 w k q a b) (hb : Below w.heap.size w w') : AsF w0 w' k q a b :=
  ⟨h.q1.below hb, h.q2.below hb, h.bl.trans (hb.mono h.bl.size)⟩
set_option maxRecDepth 100000 in
set_option maxHeartbeats 4000000 in
theorem ArcSin_ok (a b : Int) (w : World) (h : IvOk a b) : Calls Tryz.prog 60 #[.agg #[.int .i64 a, .int .i64 b]] w fun e w' => e = .returned (.tuple #[.agg #[.int .i64 (asLo (clT a)), .int .i64 (asHi (clT b))], .int .i64 0]) ∧ Below w.heap.size w w' := by
  have C := Lib.hid (fun w => check_ok a b w h)
  have S1 := Lib.hid (fun w => arcSine_ok a w)
  have S2 := Lib.hid (fun w => arcSine_ok b w)
  have A1 := Lib.hid (fun w => Around_ok (asU_around (clT_bd a)) w)
  have A2 := Lib.hid (fun w => Around_ok (asU_around (clT_bd b)) w)
  unfold asLo asHi
  clear h
  generalize asU (clT a) = ua at *
  generalize asU (clT b) = ub at *
  generalize aLo ua = p1 at *
  generalize aHi ua = p2 at *
  generalize aLo ub = q1 at *
  generalize aHi ub = q2 at *
  have fd0 : ∀ w, (Instr.field 28 (.agg #[.int .i64 p1, .int .i64 p2]) 0).run Tryz.prog w = .ok (.int .i64 p1) w := fun _ => by kernel_rfl
  have fd1 : ∀ w, (Instr.field 28 (.agg #[.int .i64 q1, .int .i64 q2]) 1).run Tryz.prog w = .ok (.int .i64 q2) w := fun _ => by kernel_rfl
  obtain ⟨lo, hlo⟩ : ∃ x, x = max p1 (-250000000) := ⟨_, rfl⟩
  obtain ⟨hi, hhi⟩ : ∃ x, x = min q2 250000000 := ⟨_, rfl⟩
  have e1 : max p1 (-250000000) = lo := hlo.symm
  have e2 : min q2 250000000 = hi := hhi.symm
  rw [← hlo, ← hhi]
  clear hlo hhi
  have b0 := SpBox.new w a b
  have b1 := SpBox.new (w.alloc (.cells #[.int .i64 a, .int .i64 b] 28)) 0 0
  obtain ⟨k, hk⟩ : ∃ b, b = w.heap.size := ⟨_, rfl⟩
  have e5 : (w.alloc (.cells #[.int .i64 a, .int .i64 b] 28)).heap.size = k + 1 := by simp [hk]
  rw [e5] at b1
  have HB0 := b0.alloc (.cells #[.int .i64 0, .int .i64 0] 28)
  rw [← hk] at HB0
  have hf := Lib.hid (show AsF w ((w.alloc (.cells #[.int .i64 a, .int .i64 b] 28)).alloc (.cells #[.int .i64 0, .int .i64 0] 28)) k (k + 1) a b from ⟨HB0, b1, (by repeat' (first | (with_reducible refine below_drewN ?_ _) | go_grown))⟩)
  have HK := Lib.hid hk
  have HE5 := Lib.hid e5
  clear b0 b1 e5 HB0
  go_enter Tryz.func60, Tryz.ntmps60
  go_upto_region 1 with fail
  (try rw [HE5.out])
  rw [← hk]
  clear hk
  obtain ⟨W, hW⟩ : ∃ W, W = (w.alloc (.cells #[.int .i64 a, .int .i64 b] 28)).alloc (.cells #[.int .i64 0, .int .i64 0] 28) := ⟨_, rfl⟩
  rw [← hW] at hf ⊢
  clear hW
  have c0 := hf.out.q1.c0; have c1 := hf.out.q1.c1; have cl := hf.out.q1.lt
  go_wp2_with fail
  refine Calls.mono (C.out _) ?_
  rintro e w1 ⟨rfl, hb⟩
  have hf1 := hf.out.below hb
  clear hb hf c0 c1 cl
  go_upto_region 4 with fail
  have hf : AsF w w1.drew k (k + 1) a b := ⟨hf1.q1, hf1.q2, hf1.bl.drew⟩
  clear hf1
  refine wp_region_G [(13, fun w' => AsF w w' k (k + 1) a b)] (by kernel_rfl) (heldC_one (fun _ => hf)) (fun hF => ?_)
  refine gT (oi := ?o27) (v := ?v27) 0 ?i27 ?Q27 hF ?w27 ?y27 (by kernel_rfl) (fun hF => ?h27)
  case i27 => (simp only [gA, gB, gC]; rfl)
  case Q27 => exact fun _ _ _ h => h
  case w27 => rfl
  case y27 => (intro wz hz; skip; go_simp; try (with_reducible rfl))
  try simp only [Act.put, uA, uB, uC]
  refine gT (oi := ?o28) (v := ?v28) 1 ?i28 ?Q28 hF ?w28 ?y28 (by kernel_rfl) (fun hF => ?h28)
  case i28 => (simp only [gA, gB, gC]; rfl)
  case Q28 => exact fun _ _ _ h => h
  case w28 => rfl
  case y28 => (intro wz hz; have z0 := hz.q1.c0; go_simp; try (with_reducible rfl))
  try simp only [Act.put, uA, uB, uC]
  refine gT (oi := ?o29) (v := ?v29) 6 ?i29 ?Q29 hF ?w29 ?y29 (by kernel_rfl) (fun hF => ?h29)
  case i29 => (simp only [gA, gB, gC]; rfl)
  case Q29 => exact fun _ _ _ h => h
  case w29 => rfl
  case y29 => (intro wz hz; skip; go_simp; try (with_reducible rfl))
  try simp only [Act.put, uA, uB, uC]
  refine gT (oi := ?o30) (v := ?v30) 7 ?i30 ?Q30 hF ?w30 ?y30 (by kernel_rfl) (fun hF => ?h30)
  case i30 => (simp only [gA, gB, gC]; rfl)
  case Q30 => exact fun _ _ _ h => h
  case w30 => rfl
  case y30 => (intro wz hz; have z0 := hz.q1.c1; go_simp; try (with_reducible rfl))
  try simp only [Act.put, uA, uB, uC]
  refine gR (i := 2) (by kernel_rfl) ?_
  refine wpOp_hand (oi := ?oi31) ?hi31 (fun K hK => ?hh31)
  case hi31 => (simp only [gA, gB, gC]; rfl)
  go_simp
  refine Calls.mono (S1.out _) ?_
  rintro e yq2 ⟨rfl, hq⟩
  rw [hq]
  clear hq
  refine hK.out _ _ (heldC_one (fun _ => hf)) (fun hF => ?_)
  clear hK K
  try simp only [Act.put, uA, uB, uC]
  refine gR (i := 3) (by kernel_rfl) ?_
  refine wpOp_hand (oi := ?oi32) ?hi32 (fun K hK => ?hh32)
  case hi32 => (simp only [gA, gB, gC]; rfl)
  go_simp
  refine Calls.mono (A1.out _) ?_
  rintro e y3 ⟨rfl, hb⟩
  replace hf := hf.below hb
  clear hb
  refine hK.out _ _ (heldC_one (fun _ => hf)) (fun hF => ?_)
  clear hK K
  try simp only [Act.put, uA, uB, uC]
  refine gT (oi := ?o33) (v := ?v33) 4 ?i33 ?Q33 hF ?w33 ?y33 (by kernel_rfl) (fun hF => ?h33)
  case i33 => (simp only [gA, gB, gC]; rfl)
  case Q33 => exact fun _ _ _ h => h
  case w33 => rfl
  case y33 => (intro wz hz; skip; go_simp; try (with_reducible rfl))
  try simp only [Act.put, uA, uB, uC]
  refine gT (oi := ?o34) (v := ?v34) 5 ?i34 ?Q34 hF ?w34 ?y34 (by kernel_rfl) (fun hF => ?h34)
  case i34 => (simp only [gA, gB, gC]; rfl)
  case Q34 => exact fun _ _ _ h => h
  case w34 => rfl
  case y34 => (intro wz hz; skip; go_simp; try (with_reducible rfl))
  try simp only [Act.put, uA, uB, uC]
  refine gR (i := 8) (by kernel_rfl) ?_
  refine wpOp_hand (oi := ?oi35) ?hi35 (fun K hK => ?hh35)
  case hi35 => (simp only [gA, gB, gC]; rfl)
  go_simp
  refine Calls.mono (S2.out _) ?_
  rintro e yq8 ⟨rfl, hq⟩
  rw [hq]
  clear hq
  refine hK.out _ _ (heldC_one (fun _ => hf)) (fun hF => ?_)
  clear hK K
  try simp only [Act.put, uA, uB, uC]
  refine gR (i := 9) (by kernel_rfl) ?_
  refine wpOp_hand (oi := ?oi36) ?hi36 (fun K hK => ?hh36)
  case hi36 => (simp only [gA, gB, gC]; rfl)
  go_simp
  refine Calls.mono (A2.out _) ?_
  rintro e y9 ⟨rfl, hb⟩
  replace hf := hf.below hb
  clear hb
  refine hK.out _ _ (heldC_one (fun _ => hf)) (fun hF => ?_)
  clear hK K
  try simp only [Act.put, uA, uB, uC]
  refine gT (oi := ?o37) (v := ?v37) 10 ?i37 ?Q37 hF ?w37 ?y37 (by kernel_rfl) (fun hF => ?h37)
  case i37 => (simp only [gA, gB, gC]; rfl)
  case Q37 => exact fun _ _ _ h => h
  case w37 => rfl
  case y37 => (intro wz hz; skip; go_simp; try (with_reducible rfl))
  try simp only [Act.put, uA, uB, uC]
  refine gT (oi := ?o38) (v := ?v38) 11 ?i38 ?Q38 hF ?w38 ?y38 (by kernel_rfl) (fun hF => ?h38)
  case i38 => (simp only [gA, gB, gC]; rfl)
  case Q38 => exact fun _ _ _ h => h
  case w38 => rfl
  case y38 => (intro wz hz; skip; go_simp; try (with_reducible rfl))
  try simp only [Act.put, uA, uB, uC]
  refine gT (oi := ?o39) (v := ?v39) 12 ?i39 ?Q39 hF ?w39 ?y39 (by kernel_rfl) (fun hF => ?h39)
  case i39 => (simp only [gA, gB, gC]; rfl)
  case Q39 => exact fun _ _ _ h => h
  case w39 => rfl
  case y39 => (intro wz hz; skip; go_simp; try (with_reducible rfl))
  try simp only [Act.put, uA, uB, uC]
  refine gR (i := 13) (by kernel_rfl) ?_
  have x0 := hf.q2.c0; have x1 := hf.q2.c1; have f0 := hf.q2.free 0; have f1 := hf.q2.free 1; have xl := hf.q2.lt
  refine wpOp_hand (oi := ?oi40) ?hi40 (fun K hK => ?hh40)
  case hi40 => (simp only [gA, gB, gC]; rfl)
  go_simp
  refine hK.out _ _ (heldC_one (fun h => absurd h (by simp))) (fun hF => ?_)
  clear hK K
  try simp only [Act.put, uA, uB, uC]
  refine gR (i := 14) (by kernel_rfl) ?_
  refine wpOp_hand (oi := ?oi41) ?hi41 (fun K hK => ?hh41)
  case hi41 => (simp only [gA, gB, gC]; rfl)
  go_simp
  refine hK.out _ _ (heldC_one (fun h => absurd h (by simp))) (fun hF => ?_)
  clear hK K
  try simp only [Act.put, uA, uB, uC]
  refine wpG_done (by kernel_rfl) ?_ _
  go_wp2_with fail
  refine bodyPost_ret (v := .tuple #[.agg #[.int .i64 lo, .int .i64 hi], .int .i64 0]) ?_ rfl ⟨rfl, ?_⟩
  · simp [results, Tryz.results60, go_sem, *]
  · have := HK.out
    exact (hf.bl.setCell (p := ⟨k + 1, 0, none⟩) (by dsimp only; omega) _).setCell (p := ⟨k + 1, 1, none⟩) (by dsimp only; omega) _
end Go.Proofs.YtcopmgnfakjdhaaGreatDoor
/- sun.Tilt, sun.Equator: the walk. -/
namespace Go.Proofs.YtcopmgnfakjdhaaGreatDoor
open Go.RowKit
set_option linter.unusedSimpArgs false
set_option linter.unusedVariables false
theorem arcOut_nw {a b c d : Int} (h : ¬ 400000000 < arcHi a b c d - arcLo a b c d) : arcOut a b c d = .tuple #[.agg #[.int .i64 (arcLo a b c d % 1000000000), .int .i64 (arcLo a b c d % 1000000000 + arcHi a b c d - arcLo a b c d)], .int .i64 0] := if_neg h
def eqAL (l1 l2 b1 b2 : Int) : Int := tmLo (coLo b1 b2) (coHi b1 b2) (soLo l1 l2) (soHi l1 l2)
def eqAH (l1 l2 b1 b2 : Int) : Int := tmHi (coLo b1 b2) (coHi b1 b2) (soLo l1 l2) (soHi l1 l2)
def eqXL (l1 l2 b1 b2 : Int) : Int := tmLo (coLo b1 b2) (coHi b1 b2) (coLo l1 l2) (coHi l1 l2)
def eqXH (l1 l2 b1 b2 : Int) : Int := tmHi (coLo b1 b2) (coHi b1 b2) (coLo l1 l2) (coHi l1 l2)
def eqYL (l1 l2 b1 b2 : Int) : Int := tmLo (eqAL l1 l2 b1 b2) (eqAH l1 l2 b1 b2) (cLo 65109000) (cHi 65109000) - tmHi (soLo b1 b2) (soHi b1 b2) (sLo 65109000) (sHi 65109000)
def eqYH (l1 l2 b1 b2 : Int) : Int := tmHi (eqAL l1 l2 b1 b2) (eqAH l1 l2 b1 b2) (cLo 65109000) (cHi 65109000) - tmLo (soLo b1 b2) (soHi b1 b2) (sLo 65109000) (sHi 65109000)
def eqZL (l1 l2 b1 b2 : Int) : Int := tmLo (eqAL l1 l2 b1 b2) (eqAH l1 l2 b1 b2) (sLo 65109000) (sHi 65109000) + tmLo (soLo b1 b2) (soHi b1 b2) (cLo 65109000) (cHi 65109000)
def eqZH (l1 l2 b1 b2 : Int) : Int := tmHi (eqAL l1 l2 b1 b2) (eqAH l1 l2 b1 b2) (sLo 65109000) (sHi 65109000) + tmHi (soLo b1 b2) (soHi b1 b2) (cLo 65109000) (cHi 65109000)
def raLo (l1 l2 b1 b2 : Int) : Int := arcLo (eqYL l1 l2 b1 b2) (eqYH l1 l2 b1 b2) (eqXL l1 l2 b1 b2) (eqXH l1 l2 b1 b2) % 1000000000
def raHi (l1 l2 b1 b2 : Int) : Int := arcLo (eqYL l1 l2 b1 b2) (eqYH l1 l2 b1 b2) (eqXL l1 l2 b1 b2) (eqXH l1 l2 b1 b2) % 1000000000 + arcHi (eqYL l1 l2 b1 b2) (eqYH l1 l2 b1 b2) (eqXL l1 l2 b1 b2) (eqXH l1 l2 b1 b2) - arcLo (eqYL l1 l2 b1 b2) (eqYH l1 l2 b1 b2) (eqXL l1 l2 b1 b2) (eqXH l1 l2 b1 b2)
def dcLo (l1 l2 b1 b2 : Int) : Int := asLo (clT (eqZL l1 l2 b1 b2))
def dcHi (l1 l2 b1 b2 : Int) : Int := asHi (clT (eqZH l1 l2 b1 b2))
structure EqOk (l1 l2 b1 b2 : Int) : Prop where
  il : IvOk l1 l2
  p1 : -125000000 ≤ b1
  pp : b1 ≤ b2
  p2 : b2 ≤ 125000000
  no : ¬ (eqYL l1 l2 b1 b2 ≤ 0 ∧ 0 ≤ eqYH l1 l2 b1 b2 ∧ eqXL l1 l2 b1 b2 ≤ 0 ∧ 0 ≤ eqXH l1 l2 b1 b2)
  nw : ¬ 400000000 < arcHi (eqYL l1 l2 b1 b2) (eqYH l1 l2 b1 b2) (eqXL l1 l2 b1 b2) (eqXH l1 l2 b1 b2) - arcLo (eqYL l1 l2 b1 b2) (eqYH l1 l2 b1 b2) (eqXL l1 l2 b1 b2) (eqXH l1 l2 b1 b2)
theorem eqA_bd (l1 l2 b1 b2 : Int) : -1000000000 ≤ eqAL l1 l2 b1 b2 ∧ eqAL l1 l2 b1 b2 ≤ eqAH l1 l2 b1 b2 ∧ eqAH l1 l2 b1 b2 ≤ 1000000000 := by unfold eqAL eqAH; exact tm_tms (tms_of (co_tms b1 b2) (so_tms l1 l2))
theorem eqX_bd (l1 l2 b1 b2 : Int) : -1000000000 ≤ eqXL l1 l2 b1 b2 ∧ eqXL l1 l2 b1 b2 ≤ eqXH l1 l2 b1 b2 ∧ eqXH l1 l2 b1 b2 ≤ 1000000000 := by unfold eqXL eqXH; exact tm_tms (tms_of (co_tms b1 b2) (co_tms l1 l2))
theorem eqY_bd (l1 l2 b1 b2 : Int) : -2000000000 ≤ eqYL l1 l2 b1 b2 ∧ eqYL l1 l2 b1 b2 ≤ eqYH l1 l2 b1 b2 ∧ eqYH l1 l2 b1 b2 ≤ 2000000000 := by
  have h := tm_tms (tms_of (eqA_bd l1 l2 b1 b2) (c_tms 65109000))
  have g := tm_tms (tms_of (so_tms b1 b2) (s_tms 65109000))
  unfold eqYL eqYH
  generalize tmLo (eqAL l1 l2 b1 b2) (eqAH l1 l2 b1 b2) (cLo 65109000) (cHi 65109000) = x1 at *
  generalize tmHi (eqAL l1 l2 b1 b2) (eqAH l1 l2 b1 b2) (cLo 65109000) (cHi 65109000) = x2 at *
  generalize tmLo (soLo b1 b2) (soHi b1 b2) (sLo 65109000) (sHi 65109000) = x3 at *
  generalize tmHi (soLo b1 b2) (soHi b1 b2) (sLo 65109000) (sHi 65109000) = x4 at *
  omega
theorem eqZ_bd (l1 l2 b1 b2 : Int) : -2000000000 ≤ eqZL l1 l2 b1 b2 ∧ eqZL l1 l2 b1 b2 ≤ eqZH l1 l2 b1 b2 ∧ eqZH l1 l2 b1 b2 ≤ 2000000000 := by
  have h := tm_tms (tms_of (eqA_bd l1 l2 b1 b2) (s_tms 65109000))
  have g := tm_tms (tms_of (so_tms b1 b2) (c_tms 65109000))
  unfold eqZL eqZH
  generalize tmLo (eqAL l1 l2 b1 b2) (eqAH l1 l2 b1 b2) (sLo 65109000) (sHi 65109000) = x1 at *
  generalize tmHi (eqAL l1 l2 b1 b2) (eqAH l1 l2 b1 b2) (sLo 65109000) (sHi 65109000) = x2 at *
  generalize tmLo (soLo b1 b2) (soHi b1 b2) (cLo 65109000) (cHi 65109000) = x3 at *
  generalize tmHi (soLo b1 b2) (soHi b1 b2) (cLo 65109000) (cHi 65109000) = x4 at *
  omega
set_option maxHeartbeats 4000000 in
theorem Tilt_ok (w : World) (hT : SinT w) : Calls Tryz.prog 56 #[] w fun e w' => e = .returned (.tuple #[.agg #[.int .i64 (sLo 65109000), .int .i64 (sHi 65109000)], .agg #[.int .i64 (cLo 65109000), .int .i64 (cHi 65109000)]]) ∧ Below w.heap.size w w' := by
  have S := Lib.hid (fun W (hT : SinT W) => trSin_ok 65109000 W hT (by omega))
  have C := Lib.hid (fun W (hT : SinT W) => trCos_ok 65109000 W hT (by omega))
  have HT := Lib.hid hT
  clear hT
  generalize sLo 65109000 = sl at *
  generalize sHi 65109000 = sh at *
  generalize cLo 65109000 = cl at *
  generalize cHi 65109000 = ch at *
  go_enter Tryz.func56, Tryz.ntmps56
  have HB := Lib.hid (Below.refl w.heap.size w)
  obtain ⟨k1, hk1⟩ : ∃ x, x = w.heap.size := ⟨_, rfl⟩
  have he2 : (w.alloc (.cells #[.int .i64 (0), .int .i64 (0)] 28)).heap.size = k1 + 1 := by simp [hk1]
  have s1 := (SpBox.new w (0) (0)).alloc (.cells #[.int .i64 (0), .int .i64 (0)] 28)
  rw [← hk1] at s1
  have Hkl1 := Lib.hid (show w.heap.size ≤ k1 by rw [hk1]; omega)
  have s2 := SpBox.new (w.alloc (.cells #[.int .i64 (0), .int .i64 (0)] 28)) (0) (0)
  rw [he2] at s2
  have Hkl2 := Lib.hid (show w.heap.size ≤ k1 + 1 by rw [hk1]; omega)
  go_upto_region 1 with fail
  (try rw [he2])
  rw [← hk1]
  obtain ⟨k2, hk2⟩ : ∃ x, x = k1 + 1 := ⟨_, rfl⟩
  rw [← hk2] at s2 Hkl2
  (try rw [← hk2])
  have Hd2_1 := Lib.hid (show k1 < k2 by omega)
  clear hk2
  have HBn := show Below w.heap.size w ((w.alloc (.cells #[.int .i64 (0), .int .i64 (0)] 28)).alloc (.cells #[.int .i64 (0), .int .i64 (0)] 28)) from (by repeat' (first | (with_reducible refine below_drewN ?_ _) | go_grown))
  obtain ⟨X2, hX2⟩ : ∃ X, X = ((w.alloc (.cells #[.int .i64 (0), .int .i64 (0)] 28)).alloc (.cells #[.int .i64 (0), .int .i64 (0)] 28)) := ⟨_, rfl⟩
  rw [← hX2] at s1 s2 HBn ⊢
  clear hX2 he2 HB
  replace s1 := Lib.hid s1
  replace s2 := Lib.hid s2
  have HB := Lib.hid HBn; have HK1 := Lib.hid hk1; clear HBn hk1
  go_wp2_with fail
  refine Calls.mono (S.out _ (HT.out.below HB.out)) ?_
  rintro e wn3 ⟨rfl, hb⟩
  have Hd3_1 := Lib.hid (s1.out.below hb).lt
  have Hd3_2 := Lib.hid (s2.out.below hb).lt
  replace s1 := Lib.hid ((s1.out.below hb).alloc (.cells #[.int .i64 (sl), .int .i64 (sh)] 28))
  replace s2 := Lib.hid ((s2.out.below hb).alloc (.cells #[.int .i64 (sl), .int .i64 (sh)] 28))
  have HB3 := HB.out.trans (hb.mono HB.out.size)
  clear hb
  have Hkl3 := Lib.hid HB3.size; replace HB := Lib.hid (HB3.alloc HB3.size (.cells #[.int .i64 (sl), .int .i64 (sh)] 28))
  clear HB3
  have s3 := Lib.hid (SpBox.new wn3 (sl) (sh))
  obtain ⟨k3, hk3⟩ : ∃ x, x = wn3.heap.size := ⟨_, rfl⟩
  rw [← hk3] at s3 Hkl3 Hd3_1 Hd3_2
  go_upto_region 2 with fail
  rw [← hk3]
  obtain ⟨X3, hX3⟩ : ∃ X, X = wn3.alloc (.cells #[.int .i64 (sl), .int .i64 (sh)] 28) := ⟨_, rfl⟩
  rw [← hX3] at s1 s2 s3 HB ⊢
  clear hk3 hX3
  go_wp2_with fail
  refine Calls.mono (C.out _ (HT.out.below HB.out)) ?_
  rintro e wn4 ⟨rfl, hb⟩
  have Hd4_1 := Lib.hid (s1.out.below hb).lt
  have Hd4_2 := Lib.hid (s2.out.below hb).lt
  have Hd4_3 := Lib.hid (s3.out.below hb).lt
  replace s1 := Lib.hid ((s1.out.below hb).alloc (.cells #[.int .i64 (cl), .int .i64 (ch)] 28))
  replace s2 := Lib.hid ((s2.out.below hb).alloc (.cells #[.int .i64 (cl), .int .i64 (ch)] 28))
  replace s3 := Lib.hid ((s3.out.below hb).alloc (.cells #[.int .i64 (cl), .int .i64 (ch)] 28))
  have HB4 := HB.out.trans (hb.mono HB.out.size)
  clear hb
  have Hkl4 := Lib.hid HB4.size; replace HB := Lib.hid (HB4.alloc HB4.size (.cells #[.int .i64 (cl), .int .i64 (ch)] 28))
  clear HB4
  have s4 := Lib.hid (SpBox.new wn4 (cl) (ch))
  obtain ⟨k4, hk4⟩ : ∃ x, x = wn4.heap.size := ⟨_, rfl⟩
  rw [← hk4] at s4 Hkl4 Hd4_1 Hd4_2 Hd4_3
  go_upto_region 3 with fail
  rw [← hk4]
  obtain ⟨X4, hX4⟩ : ∃ X, X = wn4.alloc (.cells #[.int .i64 (cl), .int .i64 (ch)] 28) := ⟨_, rfl⟩
  rw [← hX4] at s1 s2 s3 s4 HB ⊢
  clear hk4 hX4
  have c1_0 := s1.out.c0; have c1_1 := s1.out.c1; have c1_f := s1.out.free 0; have c1_g := s1.out.free 1; have c1_l := s1.out.lt; have c1_k := Hkl1.out
  have c2_0 := s2.out.c0; have c2_1 := s2.out.c1; have c2_f := s2.out.free 0; have c2_g := s2.out.free 1; have c2_l := s2.out.lt; have c2_k := Hkl2.out
  have c3_0 := s3.out.c0; have c3_1 := s3.out.c1; have c3_f := s3.out.free 0; have c3_g := s3.out.free 1; have c3_l := s3.out.lt; have c3_k := Hkl3.out
  have c4_0 := s4.out.c0; have c4_1 := s4.out.c1; have c4_f := s4.out.free 0; have c4_g := s4.out.free 1; have c4_l := s4.out.lt; have c4_k := Hkl4.out
  have ne1_2 := Nat.ne_of_lt Hd2_1.out; have ne2_1 := Nat.ne_of_gt Hd2_1.out
  have ne1_3 := Nat.ne_of_lt Hd3_1.out; have ne3_1 := Nat.ne_of_gt Hd3_1.out
  have ne1_4 := Nat.ne_of_lt Hd4_1.out; have ne4_1 := Nat.ne_of_gt Hd4_1.out
  have ne2_3 := Nat.ne_of_lt Hd3_2.out; have ne3_2 := Nat.ne_of_gt Hd3_2.out
  have ne2_4 := Nat.ne_of_lt Hd4_2.out; have ne4_2 := Nat.ne_of_gt Hd4_2.out
  have ne3_4 := Nat.ne_of_lt Hd4_3.out; have ne4_3 := Nat.ne_of_gt Hd4_3.out
  go_region
  go_wp2_with fail
  refine bodyPost_ret (v := .tuple #[.agg #[.int .i64 sl, .int .i64 sh], .agg #[.int .i64 cl, .int .i64 ch]]) ?_ rfl ⟨rfl, ?_⟩
  · simp [results, Tryz.results56, go_sem, *]
  · exact (((HB.out.drew.setCell (p := ⟨k1, 0, none⟩) c1_k _).setCell (p := ⟨k1, 1, none⟩) c1_k _).setCell (p := ⟨k2, 0, none⟩) c2_k _).setCell (p := ⟨k2, 1, none⟩) c2_k _
set_option maxRecDepth 100000 in
set_option maxHeartbeats 16000000 in
theorem Equator_ok (l1 l2 b1 b2 : Int) (w : World) (hT : SinT w) (h : EqOk l1 l2 b1 b2) :
    Calls Tryz.prog 64 #[.agg #[.int .i64 l1, .int .i64 l2], .agg #[.int .i64 b1, .int .i64 b2]] w fun e w' => e = .returned (.tuple #[.agg #[.int .i64 (raLo l1 l2 b1 b2), .int .i64 (raHi l1 l2 b1 b2)], .agg #[.int .i64 (dcLo l1 l2 b1 b2), .int .i64 (dcHi l1 l2 b1 b2)], .int .i64 0]) ∧ Below w.heap.size w w' := by
  obtain ⟨il, hb1, hbb, hb2, no, nw⟩ := h
  have ib : IvOk b1 b2 := ⟨by omega, hbb, by omega⟩
  have i0 : ∀ w, (Instr.index 95 (.agg #[.int .i64 l1, .int .i64 l2, .int .i64 b1, .int .i64 b2]) (.int .i64 0)).run Tryz.prog w = .ok (.agg #[.int .i64 l1, .int .i64 l2]) w := fun _ => by kernel_rfl
  have i1 : ∀ w, (Instr.index 95 (.agg #[.int .i64 l1, .int .i64 l2, .int .i64 b1, .int .i64 b2]) (.int .i64 1)).run Tryz.prog w = .ok (.agg #[.int .i64 b1, .int .i64 b2]) w := fun _ => by kernel_rfl
  have HT := Lib.hid hT
  have K1 := Lib.hid (fun w => check_ok l1 l2 w il)
  have K2 := Lib.hid (fun w => check_ok b1 b2 w ib)
  have SL := Lib.hid (fun w ht => SinOver_ok l1 l2 w ht il)
  have CL := Lib.hid (fun w ht => CosOver_ok l1 l2 w ht il)
  have SB := Lib.hid (fun w ht => SinOver_ok b1 b2 w ht ib)
  have CB := Lib.hid (fun w ht => CosOver_ok b1 b2 w ht ib)
  have TI := Lib.hid (fun w ht => Tilt_ok w ht)
  have hA := eqA_bd l1 l2 b1 b2; have hX := eqX_bd l1 l2 b1 b2; have hY := eqY_bd l1 l2 b1 b2; have hZ := eqZ_bd l1 l2 b1 b2
  have bB := co_tms b1 b2; have bS := so_tms b1 b2; have bL := so_tms l1 l2; have bC := co_tms l1 l2; have bE := s_tms 65109000; have bF := c_tms 65109000
  have tA := Lib.hid (fun w => Times_ok _ _ _ _ w (tms_of bB bL).mul (by omega) (by omega) (by omega) (by omega))
  have tX := Lib.hid (fun w => Times_ok _ _ _ _ w (tms_of bB bC).mul (by omega) (by omega) (by omega) (by omega))
  have t1 := Lib.hid (fun w => Times_ok _ _ _ _ w (tms_of hA bF).mul (by omega) (by omega) (by omega) (by omega))
  have t2 := Lib.hid (fun w => Times_ok _ _ _ _ w (tms_of bS bE).mul (by omega) (by omega) (by omega) (by omega))
  have t3 := Lib.hid (fun w => Times_ok _ _ _ _ w (tms_of hA bE).mul (by omega) (by omega) (by omega) (by omega))
  have t4 := Lib.hid (fun w => Times_ok _ _ _ _ w (tms_of bS bF).mul (by omega) (by omega) (by omega) (by omega))
  have g1 := tm_tms (tms_of hA bF); have g2 := tm_tms (tms_of bS bE); have g3 := tm_tms (tms_of hA bE); have g4 := tm_tms (tms_of bS bF)
  have eA1 : eqAL l1 l2 b1 b2 = tmLo (coLo b1 b2) (coHi b1 b2) (soLo l1 l2) (soHi l1 l2) := rfl
  have eA2 : eqAH l1 l2 b1 b2 = tmHi (coLo b1 b2) (coHi b1 b2) (soLo l1 l2) (soHi l1 l2) := rfl
  have eX1 : eqXL l1 l2 b1 b2 = tmLo (coLo b1 b2) (coHi b1 b2) (coLo l1 l2) (coHi l1 l2) := rfl
  have eX2 : eqXH l1 l2 b1 b2 = tmHi (coLo b1 b2) (coHi b1 b2) (coLo l1 l2) (coHi l1 l2) := rfl
  rw [← eA1, ← eA2] at tA
  rw [← eX1, ← eX2] at tX
  have eY1 : eqYL l1 l2 b1 b2 = tmLo (eqAL l1 l2 b1 b2) (eqAH l1 l2 b1 b2) (cLo 65109000) (cHi 65109000) - tmHi (soLo b1 b2) (soHi b1 b2) (sLo 65109000) (sHi 65109000) := rfl
  have eY2 : eqYH l1 l2 b1 b2 = tmHi (eqAL l1 l2 b1 b2) (eqAH l1 l2 b1 b2) (cLo 65109000) (cHi 65109000) - tmLo (soLo b1 b2) (soHi b1 b2) (sLo 65109000) (sHi 65109000) := rfl
  have eZ1 : eqZL l1 l2 b1 b2 = tmLo (eqAL l1 l2 b1 b2) (eqAH l1 l2 b1 b2) (sLo 65109000) (sHi 65109000) + tmLo (soLo b1 b2) (soHi b1 b2) (cLo 65109000) (cHi 65109000) := rfl
  have eZ2 : eqZH l1 l2 b1 b2 = tmHi (eqAL l1 l2 b1 b2) (eqAH l1 l2 b1 b2) (sLo 65109000) (sHi 65109000) + tmHi (soLo b1 b2) (soHi b1 b2) (cLo 65109000) (cHi 65109000) := rfl
  have M := Lib.hid (fun w => tMinus_ok (tmLo (eqAL l1 l2 b1 b2) (eqAH l1 l2 b1 b2) (cLo 65109000) (cHi 65109000)) (tmHi (eqAL l1 l2 b1 b2) (eqAH l1 l2 b1 b2) (cLo 65109000) (cHi 65109000)) (tmLo (soLo b1 b2) (soHi b1 b2) (sLo 65109000) (sHi 65109000)) (tmHi (soLo b1 b2) (soHi b1 b2) (sLo 65109000) (sHi 65109000)) w (by rw [← eY1]; omega) (by rw [← eY2]; omega))
  have P := Lib.hid (fun w => tPlus_ok (tmLo (eqAL l1 l2 b1 b2) (eqAH l1 l2 b1 b2) (sLo 65109000) (sHi 65109000)) (tmHi (eqAL l1 l2 b1 b2) (eqAH l1 l2 b1 b2) (sLo 65109000) (sHi 65109000)) (tmLo (soLo b1 b2) (soHi b1 b2) (cLo 65109000) (cHi 65109000)) (tmHi (soLo b1 b2) (soHi b1 b2) (cLo 65109000) (cHi 65109000)) w (by rw [← eZ1]; omega) (by rw [← eZ2]; omega))
  rw [← eY1, ← eY2] at M
  rw [← eZ1, ← eZ2] at P
  have AR := Lib.hid (fun w => arcOut_nw nw ▸ Arc_ok (eqYL l1 l2 b1 b2) (eqYH l1 l2 b1 b2) (eqXL l1 l2 b1 b2) (eqXH l1 l2 b1 b2) ⟨⟨by omega, by omega⟩, ⟨by omega, by omega⟩, ⟨by omega, by omega⟩, ⟨by omega, by omega⟩, hY.2.1, hX.2.1, no⟩ w)
  have AS := Lib.hid (fun w => ArcSin_ok (eqZL l1 l2 b1 b2) (eqZH l1 l2 b1 b2) w ⟨by omega, hZ.2.1, by omega⟩)
  have eR1 : raLo l1 l2 b1 b2 = arcLo (eqYL l1 l2 b1 b2) (eqYH l1 l2 b1 b2) (eqXL l1 l2 b1 b2) (eqXH l1 l2 b1 b2) % 1000000000 := rfl
  have eR2 : raHi l1 l2 b1 b2 = arcLo (eqYL l1 l2 b1 b2) (eqYH l1 l2 b1 b2) (eqXL l1 l2 b1 b2) (eqXH l1 l2 b1 b2) % 1000000000 + arcHi (eqYL l1 l2 b1 b2) (eqYH l1 l2 b1 b2) (eqXL l1 l2 b1 b2) (eqXH l1 l2 b1 b2) - arcLo (eqYL l1 l2 b1 b2) (eqYH l1 l2 b1 b2) (eqXL l1 l2 b1 b2) (eqXH l1 l2 b1 b2) := rfl
  have eD1 : dcLo l1 l2 b1 b2 = asLo (clT (eqZL l1 l2 b1 b2)) := rfl
  have eD2 : dcHi l1 l2 b1 b2 = asHi (clT (eqZH l1 l2 b1 b2)) := rfl
  rw [← eR2, ← eR1] at AR
  rw [← eD1, ← eD2] at AS
  clear eA1 eA2 eX1 eX2 eY1 eY2 eZ1 eZ2 eR1 eR2 eD1 eD2 no nw g1 g2 g3 g4 hA hX hY hZ bB bS bL bC bE bF il ib hT
  generalize raLo l1 l2 b1 b2 = r1 at *
  generalize raHi l1 l2 b1 b2 = r2 at *
  generalize dcLo l1 l2 b1 b2 = d1 at *
  generalize dcHi l1 l2 b1 b2 = d2 at *
  generalize tmLo (eqAL l1 l2 b1 b2) (eqAH l1 l2 b1 b2) (cLo 65109000) (cHi 65109000) = p1 at *
  generalize tmHi (eqAL l1 l2 b1 b2) (eqAH l1 l2 b1 b2) (cLo 65109000) (cHi 65109000) = q1 at *
  generalize tmLo (soLo b1 b2) (soHi b1 b2) (sLo 65109000) (sHi 65109000) = p2 at *
  generalize tmHi (soLo b1 b2) (soHi b1 b2) (sLo 65109000) (sHi 65109000) = q2 at *
  generalize tmLo (eqAL l1 l2 b1 b2) (eqAH l1 l2 b1 b2) (sLo 65109000) (sHi 65109000) = p3 at *
  generalize tmHi (eqAL l1 l2 b1 b2) (eqAH l1 l2 b1 b2) (sLo 65109000) (sHi 65109000) = q3 at *
  generalize tmLo (soLo b1 b2) (soHi b1 b2) (cLo 65109000) (cHi 65109000) = p4 at *
  generalize tmHi (soLo b1 b2) (soHi b1 b2) (cLo 65109000) (cHi 65109000) = q4 at *
  generalize eqAL l1 l2 b1 b2 = al at *
  generalize eqAH l1 l2 b1 b2 = ah at *
  generalize eqXL l1 l2 b1 b2 = xl at *
  generalize eqXH l1 l2 b1 b2 = xh at *
  generalize eqYL l1 l2 b1 b2 = yl at *
  generalize eqYH l1 l2 b1 b2 = yh at *
  generalize eqZL l1 l2 b1 b2 = zl at *
  generalize eqZH l1 l2 b1 b2 = zh at *
  generalize soLo l1 l2 = sl at *
  generalize soHi l1 l2 = sh at *
  generalize coLo l1 l2 = cl at *
  generalize coHi l1 l2 = ch at *
  generalize soLo b1 b2 = ul at *
  generalize soHi b1 b2 = uh at *
  generalize coLo b1 b2 = vl at *
  generalize coHi b1 b2 = vh at *
  generalize sLo 65109000 = el at *
  generalize sHi 65109000 = eh at *
  generalize cLo 65109000 = fl at *
  generalize cHi 65109000 = fh at *
  have HII := Lib.hid (And.intro i0 i1)
  have HD := Lib.hid (And.intro hb1 hb2)
  clear i0 i1 hb1 hb2 hbb
  go_enter Tryz.func64, Tryz.ntmps64
  have HB := Lib.hid (Below.refl w.heap.size w)
  obtain ⟨k1, hk1⟩ : ∃ x, x = w.heap.size := ⟨_, rfl⟩
  have he2 : (w.alloc (.cells #[.int .i64 (l1), .int .i64 (l2)] 28)).heap.size = k1 + 1 := by simp [hk1]
  have he3 : ((w.alloc (.cells #[.int .i64 (l1), .int .i64 (l2)] 28)).alloc (.cells #[.int .i64 (b1), .int .i64 (b2)] 28)).heap.size = k1 + 1 + 1 := by simp [hk1]
  have he4 : (((w.alloc (.cells #[.int .i64 (l1), .int .i64 (l2)] 28)).alloc (.cells #[.int .i64 (b1), .int .i64 (b2)] 28)).alloc (.cells #[.int .i64 (0), .int .i64 (0)] 28)).heap.size = k1 + 1 + 1 + 1 := by simp [hk1]
  have s1 := (((SpBox.new w (l1) (l2)).alloc (.cells #[.int .i64 (b1), .int .i64 (b2)] 28)).alloc (.cells #[.int .i64 (0), .int .i64 (0)] 28)).alloc (.cells #[.int .i64 (0), .int .i64 (0)] 28)
  rw [← hk1] at s1
  have Hkl1 := Lib.hid (show w.heap.size ≤ k1 by rw [hk1]; omega)
  have s2 := ((SpBox.new (w.alloc (.cells #[.int .i64 (l1), .int .i64 (l2)] 28)) (b1) (b2)).alloc (.cells #[.int .i64 (0), .int .i64 (0)] 28)).alloc (.cells #[.int .i64 (0), .int .i64 (0)] 28)
  rw [he2] at s2
  have Hkl2 := Lib.hid (show w.heap.size ≤ k1 + 1 by rw [hk1]; omega)
  have s3 := (SpBox.new ((w.alloc (.cells #[.int .i64 (l1), .int .i64 (l2)] 28)).alloc (.cells #[.int .i64 (b1), .int .i64 (b2)] 28)) (0) (0)).alloc (.cells #[.int .i64 (0), .int .i64 (0)] 28)
  rw [he3] at s3
  have Hkl3 := Lib.hid (show w.heap.size ≤ k1 + 1 + 1 by rw [hk1]; omega)
  have s4 := SpBox.new (((w.alloc (.cells #[.int .i64 (l1), .int .i64 (l2)] 28)).alloc (.cells #[.int .i64 (b1), .int .i64 (b2)] 28)).alloc (.cells #[.int .i64 (0), .int .i64 (0)] 28)) (0) (0)
  rw [he4] at s4
  have Hkl4 := Lib.hid (show w.heap.size ≤ k1 + 1 + 1 + 1 by rw [hk1]; omega)
  go_upto_region 1 with fail
  (try rw [he2])
  (try rw [he3])
  (try rw [he4])
  rw [← hk1]
  obtain ⟨k4, hk4⟩ : ∃ x, x = k1 + 1 + 1 + 1 := ⟨_, rfl⟩
  rw [← hk4] at s4 Hkl4
  (try rw [← hk4])
  obtain ⟨k3, hk3⟩ : ∃ x, x = k1 + 1 + 1 := ⟨_, rfl⟩
  rw [← hk3] at s3 Hkl3
  (try rw [← hk3])
  obtain ⟨k2, hk2⟩ : ∃ x, x = k1 + 1 := ⟨_, rfl⟩
  rw [← hk2] at s2 Hkl2
  (try rw [← hk2])
  have Hd2_1 := Lib.hid (show k1 < k2 by omega)
  have Hd3_1 := Lib.hid (show k1 < k3 by omega)
  have Hd4_1 := Lib.hid (show k1 < k4 by omega)
  have Hd3_2 := Lib.hid (show k2 < k3 by omega)
  have Hd4_2 := Lib.hid (show k2 < k4 by omega)
  have Hd4_3 := Lib.hid (show k3 < k4 by omega)
  clear hk4
  clear hk3
  clear hk2
  have HBn := show Below w.heap.size w ((((w.alloc (.cells #[.int .i64 (l1), .int .i64 (l2)] 28)).alloc (.cells #[.int .i64 (b1), .int .i64 (b2)] 28)).alloc (.cells #[.int .i64 (0), .int .i64 (0)] 28)).alloc (.cells #[.int .i64 (0), .int .i64 (0)] 28)) from (by repeat' (first | (with_reducible refine below_drewN ?_ _) | go_grown))
  obtain ⟨X4, hX4⟩ : ∃ X, X = ((((w.alloc (.cells #[.int .i64 (l1), .int .i64 (l2)] 28)).alloc (.cells #[.int .i64 (b1), .int .i64 (b2)] 28)).alloc (.cells #[.int .i64 (0), .int .i64 (0)] 28)).alloc (.cells #[.int .i64 (0), .int .i64 (0)] 28)) := ⟨_, rfl⟩
  rw [← hX4] at s1 s2 s3 s4 HBn ⊢
  clear hX4 he2 he3 he4 HB
  replace s1 := Lib.hid s1
  replace s2 := Lib.hid s2
  replace s3 := Lib.hid s3
  replace s4 := Lib.hid s4
  have HB := Lib.hid HBn; have HK1 := Lib.hid hk1; clear HBn hk1
  have sc1_0 := s1.out.c0; have sc1_1 := s1.out.c1; have sc1_l := s1.out.lt
  have sc2_0 := s2.out.c0; have sc2_1 := s2.out.c1; have sc2_l := s2.out.lt
  have j0 := HII.out.1; have j1 := HII.out.2
  go_wp2_with fail
  clear sc1_0 sc1_1 sc1_l sc2_0 sc2_1 sc2_l
  go_loopw [31] (fun i wr => ∃ j : Nat, j ≤ 2 ∧ i = .int .i64 j ∧ Hid (SpBox wr k1 l1 l2) ∧ Hid (SpBox wr k2 b1 b2) ∧ Hid (SpBox wr (k3) 0 0) ∧ Hid (SpBox wr (k4) 0 0) ∧ Hid (Below w.heap.size w wr)) (fun i _ => 2 - (intOf i).toNat)
  case atStart => exact ⟨0, by omega, rfl, s1, s2, s3, s4, HB⟩
  case round =>
    clear s1 s2 s3 s4 HB
    obtain ⟨j, hj, rfl, s1, s2, s3, s4, HB⟩ := hrel
    obtain rfl | rfl | rfl : j = 0 ∨ j = 1 ∨ j = 2 := by omega
    · go_wp2_with fail
      refine Calls.mono (K1.out _) ?_
      rintro e wk ⟨rfl, hb⟩
      replace s1 := Lib.hid ((s1.out.alloc (.cells #[.int .i64 l1, .int .i64 l2] 28)).below hb)
      replace s2 := Lib.hid ((s2.out.alloc (.cells #[.int .i64 l1, .int .i64 l2] 28)).below hb)
      replace s3 := Lib.hid ((s3.out.alloc (.cells #[.int .i64 l1, .int .i64 l2] 28)).below hb)
      replace s4 := Lib.hid ((s4.out.alloc (.cells #[.int .i64 l1, .int .i64 l2] 28)).below hb)
      have al := HB.out.alloc HB.out.size (.cells #[.int .i64 l1, .int .i64 l2] 28)
      replace HB := Lib.hid (al.trans (hb.mono al.size))
      clear hb al
      go_wp2_with fail
      go_roundw
      case rel => exact ⟨1, by omega, by go_num, s1, s2, s3, s4, HB⟩
      case measure => simp [intOf]
    · go_wp2_with fail
      refine Calls.mono (K2.out _) ?_
      rintro e wk ⟨rfl, hb⟩
      replace s1 := Lib.hid ((s1.out.alloc (.cells #[.int .i64 b1, .int .i64 b2] 28)).below hb)
      replace s2 := Lib.hid ((s2.out.alloc (.cells #[.int .i64 b1, .int .i64 b2] 28)).below hb)
      replace s3 := Lib.hid ((s3.out.alloc (.cells #[.int .i64 b1, .int .i64 b2] 28)).below hb)
      replace s4 := Lib.hid ((s4.out.alloc (.cells #[.int .i64 b1, .int .i64 b2] 28)).below hb)
      have al := HB.out.alloc HB.out.size (.cells #[.int .i64 b1, .int .i64 b2] 28)
      replace HB := Lib.hid (al.trans (hb.mono al.size))
      clear hb al
      go_wp2_with fail
      go_roundw
      case rel => exact ⟨2, by omega, by go_num, s1, s2, s3, s4, HB⟩
      case measure => simp [intOf]
    · obtain ⟨d1', d2'⟩ := HD.out
      clear K1 K2 j0 j1
      have sc1_0 := s1.out.c0; have sc1_1 := s1.out.c1; have sc1_l := s1.out.lt
      have sc2_0 := s2.out.c0; have sc2_1 := s2.out.c1; have sc2_l := s2.out.lt
      go_upto_region 10 with fail
      clear sc1_0 sc1_1 sc1_l sc2_0 sc2_1 sc2_l
      clear d1' d2'
      have sc1_0 := s1.out.c0; have sc1_1 := s1.out.c1; have sc1_l := s1.out.lt
      go_wp2_with fail
      refine Calls.mono (SL.out _ (HT.out.below HB.out)) ?_
      rintro e wn5 ⟨rfl, hb⟩
      have Hd5_1 := Lib.hid (s1.out.below hb).lt
      have Hd5_2 := Lib.hid (s2.out.below hb).lt
      have Hd5_3 := Lib.hid (s3.out.below hb).lt
      have Hd5_4 := Lib.hid (s4.out.below hb).lt
      replace s1 := Lib.hid ((s1.out.below hb).alloc (.cells #[.int .i64 (sl), .int .i64 (sh)] 28))
      replace s2 := Lib.hid ((s2.out.below hb).alloc (.cells #[.int .i64 (sl), .int .i64 (sh)] 28))
      replace s3 := Lib.hid ((s3.out.below hb).alloc (.cells #[.int .i64 (sl), .int .i64 (sh)] 28))
      replace s4 := Lib.hid ((s4.out.below hb).alloc (.cells #[.int .i64 (sl), .int .i64 (sh)] 28))
      have HB5 := HB.out.trans (hb.mono HB.out.size)
      clear sc1_0 sc1_1 sc1_l
      clear hb
      have Hkl5 := Lib.hid HB5.size; replace HB := Lib.hid (HB5.alloc HB5.size (.cells #[.int .i64 (sl), .int .i64 (sh)] 28))
      clear HB5
      have s5 := Lib.hid (SpBox.new wn5 (sl) (sh))
      obtain ⟨k5, hk5⟩ : ∃ x, x = wn5.heap.size := ⟨_, rfl⟩
      rw [← hk5] at s5 Hkl5 Hd5_1 Hd5_2 Hd5_3 Hd5_4
      go_upto_region 11 with fail
      rw [← hk5]
      obtain ⟨X5, hX5⟩ : ∃ X, X = wn5.alloc (.cells #[.int .i64 (sl), .int .i64 (sh)] 28) := ⟨_, rfl⟩
      rw [← hX5] at s1 s2 s3 s4 s5 HB ⊢
      clear hk5 hX5
      have sc1_0 := s1.out.c0; have sc1_1 := s1.out.c1; have sc1_l := s1.out.lt
      go_wp2_with fail
      refine Calls.mono (CL.out _ (HT.out.below HB.out)) ?_
      rintro e wn6 ⟨rfl, hb⟩
      have Hd6_1 := Lib.hid (s1.out.below hb).lt
      have Hd6_2 := Lib.hid (s2.out.below hb).lt
      have Hd6_3 := Lib.hid (s3.out.below hb).lt
      have Hd6_4 := Lib.hid (s4.out.below hb).lt
      have Hd6_5 := Lib.hid (s5.out.below hb).lt
      replace s1 := Lib.hid ((s1.out.below hb).alloc (.cells #[.int .i64 (cl), .int .i64 (ch)] 28))
      replace s2 := Lib.hid ((s2.out.below hb).alloc (.cells #[.int .i64 (cl), .int .i64 (ch)] 28))
      replace s3 := Lib.hid ((s3.out.below hb).alloc (.cells #[.int .i64 (cl), .int .i64 (ch)] 28))
      replace s4 := Lib.hid ((s4.out.below hb).alloc (.cells #[.int .i64 (cl), .int .i64 (ch)] 28))
      replace s5 := Lib.hid ((s5.out.below hb).alloc (.cells #[.int .i64 (cl), .int .i64 (ch)] 28))
      have HB6 := HB.out.trans (hb.mono HB.out.size)
      clear sc1_0 sc1_1 sc1_l
      clear hb
      have Hkl6 := Lib.hid HB6.size; replace HB := Lib.hid (HB6.alloc HB6.size (.cells #[.int .i64 (cl), .int .i64 (ch)] 28))
      clear HB6
      have s6 := Lib.hid (SpBox.new wn6 (cl) (ch))
      obtain ⟨k6, hk6⟩ : ∃ x, x = wn6.heap.size := ⟨_, rfl⟩
      rw [← hk6] at s6 Hkl6 Hd6_1 Hd6_2 Hd6_3 Hd6_4 Hd6_5
      go_upto_region 12 with fail
      rw [← hk6]
      obtain ⟨X6, hX6⟩ : ∃ X, X = wn6.alloc (.cells #[.int .i64 (cl), .int .i64 (ch)] 28) := ⟨_, rfl⟩
      rw [← hX6] at s1 s2 s3 s4 s5 s6 HB ⊢
      clear hk6 hX6
      have sc2_0 := s2.out.c0; have sc2_1 := s2.out.c1; have sc2_l := s2.out.lt
      go_wp2_with fail
      refine Calls.mono (SB.out _ (HT.out.below HB.out)) ?_
      rintro e wn7 ⟨rfl, hb⟩
      have Hd7_1 := Lib.hid (s1.out.below hb).lt
      have Hd7_2 := Lib.hid (s2.out.below hb).lt
      have Hd7_3 := Lib.hid (s3.out.below hb).lt
      have Hd7_4 := Lib.hid (s4.out.below hb).lt
      have Hd7_5 := Lib.hid (s5.out.below hb).lt
      have Hd7_6 := Lib.hid (s6.out.below hb).lt
      replace s1 := Lib.hid ((s1.out.below hb).alloc (.cells #[.int .i64 (ul), .int .i64 (uh)] 28))
      replace s2 := Lib.hid ((s2.out.below hb).alloc (.cells #[.int .i64 (ul), .int .i64 (uh)] 28))
      replace s3 := Lib.hid ((s3.out.below hb).alloc (.cells #[.int .i64 (ul), .int .i64 (uh)] 28))
      replace s4 := Lib.hid ((s4.out.below hb).alloc (.cells #[.int .i64 (ul), .int .i64 (uh)] 28))
      replace s5 := Lib.hid ((s5.out.below hb).alloc (.cells #[.int .i64 (ul), .int .i64 (uh)] 28))
      replace s6 := Lib.hid ((s6.out.below hb).alloc (.cells #[.int .i64 (ul), .int .i64 (uh)] 28))
      have HB7 := HB.out.trans (hb.mono HB.out.size)
      clear sc2_0 sc2_1 sc2_l
      clear hb
      have Hkl7 := Lib.hid HB7.size; replace HB := Lib.hid (HB7.alloc HB7.size (.cells #[.int .i64 (ul), .int .i64 (uh)] 28))
      clear HB7
      have s7 := Lib.hid (SpBox.new wn7 (ul) (uh))
      obtain ⟨k7, hk7⟩ : ∃ x, x = wn7.heap.size := ⟨_, rfl⟩
      rw [← hk7] at s7 Hkl7 Hd7_1 Hd7_2 Hd7_3 Hd7_4 Hd7_5 Hd7_6
      go_upto_region 13 with fail
      rw [← hk7]
      obtain ⟨X7, hX7⟩ : ∃ X, X = wn7.alloc (.cells #[.int .i64 (ul), .int .i64 (uh)] 28) := ⟨_, rfl⟩
      rw [← hX7] at s1 s2 s3 s4 s5 s6 s7 HB ⊢
      clear hk7 hX7
      have sc2_0 := s2.out.c0; have sc2_1 := s2.out.c1; have sc2_l := s2.out.lt
      go_wp2_with fail
      refine Calls.mono (CB.out _ (HT.out.below HB.out)) ?_
      rintro e wn8 ⟨rfl, hb⟩
      have Hd8_1 := Lib.hid (s1.out.below hb).lt
      have Hd8_2 := Lib.hid (s2.out.below hb).lt
      have Hd8_3 := Lib.hid (s3.out.below hb).lt
      have Hd8_4 := Lib.hid (s4.out.below hb).lt
      have Hd8_5 := Lib.hid (s5.out.below hb).lt
      have Hd8_6 := Lib.hid (s6.out.below hb).lt
      have Hd8_7 := Lib.hid (s7.out.below hb).lt
      replace s1 := Lib.hid ((s1.out.below hb).alloc (.cells #[.int .i64 (vl), .int .i64 (vh)] 28))
      replace s2 := Lib.hid ((s2.out.below hb).alloc (.cells #[.int .i64 (vl), .int .i64 (vh)] 28))
      replace s3 := Lib.hid ((s3.out.below hb).alloc (.cells #[.int .i64 (vl), .int .i64 (vh)] 28))
      replace s4 := Lib.hid ((s4.out.below hb).alloc (.cells #[.int .i64 (vl), .int .i64 (vh)] 28))
      replace s5 := Lib.hid ((s5.out.below hb).alloc (.cells #[.int .i64 (vl), .int .i64 (vh)] 28))
      replace s6 := Lib.hid ((s6.out.below hb).alloc (.cells #[.int .i64 (vl), .int .i64 (vh)] 28))
      replace s7 := Lib.hid ((s7.out.below hb).alloc (.cells #[.int .i64 (vl), .int .i64 (vh)] 28))
      have HB8 := HB.out.trans (hb.mono HB.out.size)
      clear sc2_0 sc2_1 sc2_l
      clear hb
      have Hkl8 := Lib.hid HB8.size; replace HB := Lib.hid (HB8.alloc HB8.size (.cells #[.int .i64 (vl), .int .i64 (vh)] 28))
      clear HB8
      have s8 := Lib.hid (SpBox.new wn8 (vl) (vh))
      obtain ⟨k8, hk8⟩ : ∃ x, x = wn8.heap.size := ⟨_, rfl⟩
      rw [← hk8] at s8 Hkl8 Hd8_1 Hd8_2 Hd8_3 Hd8_4 Hd8_5 Hd8_6 Hd8_7
      go_upto_region 14 with fail
      rw [← hk8]
      obtain ⟨X8, hX8⟩ : ∃ X, X = wn8.alloc (.cells #[.int .i64 (vl), .int .i64 (vh)] 28) := ⟨_, rfl⟩
      rw [← hX8] at s1 s2 s3 s4 s5 s6 s7 s8 HB ⊢
      clear hk8 hX8
      go_wp2_with fail
      refine Calls.mono (TI.out _ (HT.out.below HB.out)) ?_
      rintro e wn9 ⟨rfl, hb⟩
      have Hd9_1 := Lib.hid (s1.out.below hb).lt
      have Hd9_2 := Lib.hid (s2.out.below hb).lt
      have Hd9_3 := Lib.hid (s3.out.below hb).lt
      have Hd9_4 := Lib.hid (s4.out.below hb).lt
      have Hd9_5 := Lib.hid (s5.out.below hb).lt
      have Hd9_6 := Lib.hid (s6.out.below hb).lt
      have Hd9_7 := Lib.hid (s7.out.below hb).lt
      have Hd9_8 := Lib.hid (s8.out.below hb).lt
      replace s1 := Lib.hid (((s1.out.below hb).alloc (.cells #[.int .i64 (el), .int .i64 (eh)] 28)).alloc (.cells #[.int .i64 (fl), .int .i64 (fh)] 28))
      replace s2 := Lib.hid (((s2.out.below hb).alloc (.cells #[.int .i64 (el), .int .i64 (eh)] 28)).alloc (.cells #[.int .i64 (fl), .int .i64 (fh)] 28))
      replace s3 := Lib.hid (((s3.out.below hb).alloc (.cells #[.int .i64 (el), .int .i64 (eh)] 28)).alloc (.cells #[.int .i64 (fl), .int .i64 (fh)] 28))
      replace s4 := Lib.hid (((s4.out.below hb).alloc (.cells #[.int .i64 (el), .int .i64 (eh)] 28)).alloc (.cells #[.int .i64 (fl), .int .i64 (fh)] 28))
      replace s5 := Lib.hid (((s5.out.below hb).alloc (.cells #[.int .i64 (el), .int .i64 (eh)] 28)).alloc (.cells #[.int .i64 (fl), .int .i64 (fh)] 28))
      replace s6 := Lib.hid (((s6.out.below hb).alloc (.cells #[.int .i64 (el), .int .i64 (eh)] 28)).alloc (.cells #[.int .i64 (fl), .int .i64 (fh)] 28))
      replace s7 := Lib.hid (((s7.out.below hb).alloc (.cells #[.int .i64 (el), .int .i64 (eh)] 28)).alloc (.cells #[.int .i64 (fl), .int .i64 (fh)] 28))
      replace s8 := Lib.hid (((s8.out.below hb).alloc (.cells #[.int .i64 (el), .int .i64 (eh)] 28)).alloc (.cells #[.int .i64 (fl), .int .i64 (fh)] 28))
      have HB9 := HB.out.trans (hb.mono HB.out.size)
      clear hb
      have Hkl9 := Lib.hid HB9.size; have HBq := HB9.alloc HB9.size (.cells #[.int .i64 (el), .int .i64 (eh)] 28); replace HB := Lib.hid (HBq.alloc HBq.size (.cells #[.int .i64 (fl), .int .i64 (fh)] 28)); clear HB9 HBq
      obtain ⟨k9, hk9⟩ : ∃ x, x = wn9.heap.size := ⟨_, rfl⟩
      have hk10 : (wn9.alloc (.cells #[.int .i64 (el), .int .i64 (eh)] 28)).heap.size = k9 + 1 := by simp [hk9]
      have s9 := Lib.hid ((SpBox.new wn9 (el) (eh)).alloc (.cells #[.int .i64 (fl), .int .i64 (fh)] 28))
      have s100 := SpBox.new (wn9.alloc (.cells #[.int .i64 (el), .int .i64 (eh)] 28)) (fl) (fh)
      rw [hk10] at s100
      have s10 := Lib.hid s100; clear s100
      rw [← hk9] at s9 Hkl9 Hd9_1 Hd9_2 Hd9_3 Hd9_4 Hd9_5 Hd9_6 Hd9_7 Hd9_8
      have Hkl10 := Lib.hid (Nat.le_trans Hkl9.out (Nat.le_succ k9))
      have Hd10_1 := Lib.hid (Nat.lt_trans Hd9_1.out (Nat.lt_succ_self k9))
      have Hd10_2 := Lib.hid (Nat.lt_trans Hd9_2.out (Nat.lt_succ_self k9))
      have Hd10_3 := Lib.hid (Nat.lt_trans Hd9_3.out (Nat.lt_succ_self k9))
      have Hd10_4 := Lib.hid (Nat.lt_trans Hd9_4.out (Nat.lt_succ_self k9))
      have Hd10_5 := Lib.hid (Nat.lt_trans Hd9_5.out (Nat.lt_succ_self k9))
      have Hd10_6 := Lib.hid (Nat.lt_trans Hd9_6.out (Nat.lt_succ_self k9))
      have Hd10_7 := Lib.hid (Nat.lt_trans Hd9_7.out (Nat.lt_succ_self k9))
      have Hd10_8 := Lib.hid (Nat.lt_trans Hd9_8.out (Nat.lt_succ_self k9))
      have Hd10_9 := Lib.hid (Nat.lt_succ_self k9)
      go_upto_region 15 with fail
      (try rw [hk10])
      rw [← hk9]
      obtain ⟨X10, hX10⟩ : ∃ X, X = (wn9.alloc (.cells #[.int .i64 (el), .int .i64 (eh)] 28)).alloc (.cells #[.int .i64 (fl), .int .i64 (fh)] 28) := ⟨_, rfl⟩
      rw [← hX10] at s1 s2 s3 s4 s5 s6 s7 s8 s9 s10 HB ⊢
      clear hk10 hk9 hX10
      clear s1
      clear s2
      have sc8_0 := s8.out.c0; have sc8_1 := s8.out.c1; have sc8_l := s8.out.lt
      have sc5_0 := s5.out.c0; have sc5_1 := s5.out.c1; have sc5_l := s5.out.lt
      go_wp2_with fail
      refine Calls.mono (tA.out _) ?_
      rintro e wn11 ⟨rfl, hb⟩
      have Hd11_3 := Lib.hid (s3.out.below hb).lt
      have Hd11_4 := Lib.hid (s4.out.below hb).lt
      have Hd11_5 := Lib.hid (s5.out.below hb).lt
      have Hd11_6 := Lib.hid (s6.out.below hb).lt
      have Hd11_7 := Lib.hid (s7.out.below hb).lt
      have Hd11_8 := Lib.hid (s8.out.below hb).lt
      have Hd11_9 := Lib.hid (s9.out.below hb).lt
      have Hd11_10 := Lib.hid (s10.out.below hb).lt
      replace s3 := Lib.hid ((s3.out.below hb).alloc (.cells #[.int .i64 (al), .int .i64 (ah)] 28))
      replace s4 := Lib.hid ((s4.out.below hb).alloc (.cells #[.int .i64 (al), .int .i64 (ah)] 28))
      replace s5 := Lib.hid ((s5.out.below hb).alloc (.cells #[.int .i64 (al), .int .i64 (ah)] 28))
      replace s6 := Lib.hid ((s6.out.below hb).alloc (.cells #[.int .i64 (al), .int .i64 (ah)] 28))
      replace s7 := Lib.hid ((s7.out.below hb).alloc (.cells #[.int .i64 (al), .int .i64 (ah)] 28))
      replace s8 := Lib.hid ((s8.out.below hb).alloc (.cells #[.int .i64 (al), .int .i64 (ah)] 28))
      replace s9 := Lib.hid ((s9.out.below hb).alloc (.cells #[.int .i64 (al), .int .i64 (ah)] 28))
      replace s10 := Lib.hid ((s10.out.below hb).alloc (.cells #[.int .i64 (al), .int .i64 (ah)] 28))
      have HB11 := HB.out.trans (hb.mono HB.out.size)
      clear sc8_0 sc8_1 sc8_l sc5_0 sc5_1 sc5_l
      clear hb
      have Hkl11 := Lib.hid HB11.size; replace HB := Lib.hid (HB11.alloc HB11.size (.cells #[.int .i64 (al), .int .i64 (ah)] 28))
      clear HB11
      have s11 := Lib.hid (SpBox.new wn11 (al) (ah))
      obtain ⟨k11, hk11⟩ : ∃ x, x = wn11.heap.size := ⟨_, rfl⟩
      rw [← hk11] at s11 Hkl11 Hd11_3 Hd11_4 Hd11_5 Hd11_6 Hd11_7 Hd11_8 Hd11_9 Hd11_10
      go_upto_region 16 with fail
      rw [← hk11]
      obtain ⟨X11, hX11⟩ : ∃ X, X = wn11.alloc (.cells #[.int .i64 (al), .int .i64 (ah)] 28) := ⟨_, rfl⟩
      rw [← hX11] at s3 s4 s5 s6 s7 s8 s9 s10 s11 HB ⊢
      clear hk11 hX11
      have sc8_0 := s8.out.c0; have sc8_1 := s8.out.c1; have sc8_l := s8.out.lt
      have sc6_0 := s6.out.c0; have sc6_1 := s6.out.c1; have sc6_l := s6.out.lt
      go_wp2_with fail
      refine Calls.mono (tX.out _) ?_
      rintro e wn12 ⟨rfl, hb⟩
      have Hd12_3 := Lib.hid (s3.out.below hb).lt
      have Hd12_4 := Lib.hid (s4.out.below hb).lt
      have Hd12_5 := Lib.hid (s5.out.below hb).lt
      have Hd12_6 := Lib.hid (s6.out.below hb).lt
      have Hd12_7 := Lib.hid (s7.out.below hb).lt
      have Hd12_8 := Lib.hid (s8.out.below hb).lt
      have Hd12_9 := Lib.hid (s9.out.below hb).lt
      have Hd12_10 := Lib.hid (s10.out.below hb).lt
      have Hd12_11 := Lib.hid (s11.out.below hb).lt
      replace s3 := Lib.hid ((s3.out.below hb).alloc (.cells #[.int .i64 (xl), .int .i64 (xh)] 28))
      replace s4 := Lib.hid ((s4.out.below hb).alloc (.cells #[.int .i64 (xl), .int .i64 (xh)] 28))
      replace s5 := Lib.hid ((s5.out.below hb).alloc (.cells #[.int .i64 (xl), .int .i64 (xh)] 28))
      replace s6 := Lib.hid ((s6.out.below hb).alloc (.cells #[.int .i64 (xl), .int .i64 (xh)] 28))
      replace s7 := Lib.hid ((s7.out.below hb).alloc (.cells #[.int .i64 (xl), .int .i64 (xh)] 28))
      replace s8 := Lib.hid ((s8.out.below hb).alloc (.cells #[.int .i64 (xl), .int .i64 (xh)] 28))
      replace s9 := Lib.hid ((s9.out.below hb).alloc (.cells #[.int .i64 (xl), .int .i64 (xh)] 28))
      replace s10 := Lib.hid ((s10.out.below hb).alloc (.cells #[.int .i64 (xl), .int .i64 (xh)] 28))
      replace s11 := Lib.hid ((s11.out.below hb).alloc (.cells #[.int .i64 (xl), .int .i64 (xh)] 28))
      have HB12 := HB.out.trans (hb.mono HB.out.size)
      clear sc8_0 sc8_1 sc8_l sc6_0 sc6_1 sc6_l
      clear hb
      have Hkl12 := Lib.hid HB12.size; replace HB := Lib.hid (HB12.alloc HB12.size (.cells #[.int .i64 (xl), .int .i64 (xh)] 28))
      clear HB12
      have s12 := Lib.hid (SpBox.new wn12 (xl) (xh))
      obtain ⟨k12, hk12⟩ : ∃ x, x = wn12.heap.size := ⟨_, rfl⟩
      rw [← hk12] at s12 Hkl12 Hd12_3 Hd12_4 Hd12_5 Hd12_6 Hd12_7 Hd12_8 Hd12_9 Hd12_10 Hd12_11
      go_upto_region 17 with fail
      rw [← hk12]
      obtain ⟨X12, hX12⟩ : ∃ X, X = wn12.alloc (.cells #[.int .i64 (xl), .int .i64 (xh)] 28) := ⟨_, rfl⟩
      rw [← hX12] at s3 s4 s5 s6 s7 s8 s9 s10 s11 s12 HB ⊢
      clear hk12 hX12
      clear s5
      clear s6
      clear s8
      obtain ⟨XD1, hXD1⟩ : ∃ x, x = X12.drew := ⟨_, rfl⟩
      have hbx3 : Hid (SpBox XD1 (k3) (0) (0)) := Lib.hid (by rw [hXD1]; exact s3.out.drew)
      have hbx4 : Hid (SpBox XD1 (k4) (0) (0)) := Lib.hid (by rw [hXD1]; exact s4.out.drew)
      have hbx7 : Hid (SpBox XD1 (k7) (ul) (uh)) := Lib.hid (by rw [hXD1]; exact s7.out.drew)
      have hbx9 : Hid (SpBox XD1 (k9) (el) (eh)) := Lib.hid (by rw [hXD1]; exact s9.out.drew)
      have hbx10 : Hid (SpBox XD1 (k9 + 1) (fl) (fh)) := Lib.hid (by rw [hXD1]; exact s10.out.drew)
      have hbx11 : Hid (SpBox XD1 (k11) (al) (ah)) := Lib.hid (by rw [hXD1]; exact s11.out.drew)
      have hbx12 : Hid (SpBox XD1 (k12) (xl) (xh)) := Lib.hid (by rw [hXD1]; exact s12.out.drew)
      have hbW : Hid (Below w.heap.size w XD1) := Lib.hid (by rw [hXD1]; exact HB.out.drew)
      have HXD1 := Lib.hid hXD1; clear hXD1 s3 s4 s7 s9 s10 s11 s12 HB
      have hf := Below.refl XD1.heap.size XD1
      go_cut [22] (fun sv wx => ∃ bn : Nat, sv = .pointer (some ⟨bn, 0, none⟩) ∧ Hid (w.heap.size ≤ bn) ∧ Hid (SpBox wx bn (yl) (yh)) ∧ Hid (SpBox wx (k3) (0) (0)) ∧ Hid (SpBox wx (k4) (0) (0)) ∧ Hid (SpBox wx (k7) (ul) (uh)) ∧ Hid (SpBox wx (k9) (el) (eh)) ∧ Hid (SpBox wx (k9 + 1) (fl) (fh)) ∧ Hid (SpBox wx (k11) (al) (ah)) ∧ Hid (SpBox wx (k12) (xl) (xh)) ∧ Hid (k3 < bn) ∧ Hid (k4 < bn) ∧ Hid (k7 < bn) ∧ Hid (k9 < bn) ∧ Hid (k9 + 1 < bn) ∧ Hid (k11 < bn) ∧ Hid (k12 < bn) ∧ Hid (Below w.heap.size w wx))
      case first =>
        refine wp_region_G [(8, fun w' => Below XD1.heap.size XD1 w')] (by kernel_rfl) (heldC_one (fun _ => by rw [← HXD1.out]; exact hf)) (fun hF => ?_)
        rw [← HXD1.out] at hF ⊢
        refine gT (oi := ?o42) (v := ?v42) 0 ?i42 ?Q42 hF ?w42 ?y42 (by kernel_rfl) (fun hF => ?h42)
        case i42 => (simp only [gA, gB, gC]; rfl)
        case Q42 => exact fun _ _ _ h => h
        case w42 => rfl
        case y42 => (intro wz hz; have zb := hbx11.out.below hz; have z0 := zb.c0; have z1 := zb.c1; go_simp; try (with_reducible rfl))
        try simp only [Act.put, uA, uB, uC]
        refine gT (oi := ?o43) (v := ?v43) 1 ?i43 ?Q43 hF ?w43 ?y43 (by kernel_rfl) (fun hF => ?h43)
        case i43 => (simp only [gA, gB, gC]; rfl)
        case Q43 => exact fun _ _ _ h => h
        case w43 => rfl
        case y43 => (intro wz hz; have zb := hbx10.out.below hz; have z0 := zb.c0; have z1 := zb.c1; go_simp; try (with_reducible rfl))
        try simp only [Act.put, uA, uB, uC]
        refine gT (oi := ?o44) (v := ?v44) 3 ?i44 ?Q44 hF ?w44 ?y44 (by kernel_rfl) (fun hF => ?h44)
        case i44 => (simp only [gA, gB, gC]; rfl)
        case Q44 => exact fun _ _ _ h => h
        case w44 => rfl
        case y44 => (intro wz hz; have zb := hbx7.out.below hz; have z0 := zb.c0; have z1 := zb.c1; go_simp; try (with_reducible rfl))
        try simp only [Act.put, uA, uB, uC]
        refine gT (oi := ?o45) (v := ?v45) 4 ?i45 ?Q45 hF ?w45 ?y45 (by kernel_rfl) (fun hF => ?h45)
        case i45 => (simp only [gA, gB, gC]; rfl)
        case Q45 => exact fun _ _ _ h => h
        case w45 => rfl
        case y45 => (intro wz hz; have zb := hbx9.out.below hz; have z0 := zb.c0; have z1 := zb.c1; go_simp; try (with_reducible rfl))
        try simp only [Act.put, uA, uB, uC]
        apply mergeWN (S := fun W bn => Below XD1.heap.size XD1 W ∧ (SpBox W bn 0 0 ∧ XD1.heap.size ≤ bn))
        intro k1_30
        apply mergeW (S := fun W => Below XD1.heap.size XD1 W)
        intro k1_3n
        apply mergeWN (S := fun W bn => Below XD1.heap.size XD1 W ∧ (SpBox W bn 0 0 ∧ XD1.heap.size ≤ bn))
        intro k1_20
        apply mergeW (S := fun W => Below XD1.heap.size XD1 W)
        intro k1_2n
        apply mergeWN (S := fun W bn => Below XD1.heap.size XD1 W ∧ (SpBox W bn 0 0 ∧ XD1.heap.size ≤ bn))
        intro k1_10
        apply mergeW (S := fun W => Below XD1.heap.size XD1 W)
        intro k1_1n
        apply mergeWN (S := fun W bn => Below XD1.heap.size XD1 W ∧ (SpBox W bn 0 0 ∧ XD1.heap.size ≤ bn))
        intro k1_00
        · have hf := hf
          refine gS (i := 2) (j := 7) (by kernel_rfl) ?_ ?_
          · skip
            refine wpOp_hand (oi := ?oi46) ?hi46 (fun K hK => ?hh46)
            case hi46 => (simp only [gA, gB, gC]; rfl)
            go_simp
            refine Calls.mono (t1.out _) ?_
            rintro e Va1_1 ⟨rfl, hb⟩
            replace hf := hf.trans (hb.mono hf.size)
            clear hb
            refine hK.out _ _ (heldC_one (fun _ => hf)) (fun hF => ?_)
            clear hK K
            try simp only [Act.put, uA, uB, uC]
            refine wpG_marks (l' := #[true, true, true, true, true, false, false, false, false]) (by kernel_rfl) ?_
            with_reducible exact k1_1n Va1_1 hf
          · skip
            refine wpOp_hand (oi := ?oi47) ?hi47 (fun K hK => ?hh47)
            case hi47 => (simp only [gA, gB, gC]; rfl)
            go_simp
            have hn := SpBox.new XD1 0 0
            have hfn := hf.alloc hf.size (.cells #[.int .i64 0, .int .i64 0] 28)
            obtain ⟨bn, hbn⟩ : ∃ b, b = XD1.heap.size := ⟨_, rfl⟩
            obtain ⟨Y, hY⟩ : ∃ Y, Y = XD1.alloc (.cells #[.int .i64 0, .int .i64 0] 28) := ⟨_, rfl⟩
            rw [← hY] at hfn hn ⊢
            have dn : XD1.heap.size ≤ bn := by rw [hbn]; exact hf.size
            rw [← hbn] at hn ⊢
            clear hf hY hbn
            have hf := hfn
            clear hfn
            refine hK.out _ _ (heldC_one (fun _ => hf)) (fun hF => ?_)
            clear hK K
            try simp only [Act.put, uA, uB, uC]
            refine wpG_marks (l' := #[true, true, false, true, true, false, false, true, false]) (by kernel_rfl) ?_
            with_reducible exact k1_00 Y bn ⟨hf, ⟨hn, dn⟩⟩
        · rintro W bn ⟨hf, ⟨hn, dn⟩⟩
          refine gR (i := 2) (by kernel_rfl) ?_
          refine wpOp_hand (oi := ?oi48) ?hi48 (fun K hK => ?hh48)
          case hi48 => (simp only [gA, gB, gC]; rfl)
          go_simp
          refine Calls.mono (t1.out _) ?_
          rintro e Va1_2 ⟨rfl, hb⟩
          have hnn := hn.below hb; clear hn; have hn := hnn; clear hnn
          replace hf := hf.trans (hb.mono hf.size)
          clear hb
          refine hK.out _ _ (heldC_one (fun _ => hf)) (fun hF => ?_)
          clear hK K
          try simp only [Act.put, uA, uB, uC]
          refine wpG_marks (l' := #[true, true, true, true, true, false, false, true, false]) (by kernel_rfl) ?_
          with_reducible exact k1_10 Va1_2 bn ⟨hf, ⟨hn, dn⟩⟩
        · rintro W hf
          refine gS (i := 5) (j := 7) (by kernel_rfl) ?_ ?_
          · skip
            refine wpOp_hand (oi := ?oi49) ?hi49 (fun K hK => ?hh49)
            case hi49 => (simp only [gA, gB, gC]; rfl)
            go_simp
            refine Calls.mono (t2.out _) ?_
            rintro e Va1_3 ⟨rfl, hb⟩
            replace hf := hf.trans (hb.mono hf.size)
            clear hb
            refine hK.out _ _ (heldC_one (fun _ => hf)) (fun hF => ?_)
            clear hK K
            try simp only [Act.put, uA, uB, uC]
            refine wpG_marks (l' := #[true, true, true, true, true, true, false, false, false]) (by kernel_rfl) ?_
            with_reducible exact k1_2n Va1_3 hf
          · skip
            refine wpOp_hand (oi := ?oi50) ?hi50 (fun K hK => ?hh50)
            case hi50 => (simp only [gA, gB, gC]; rfl)
            go_simp
            have hn := SpBox.new W 0 0
            have hfn := hf.alloc hf.size (.cells #[.int .i64 0, .int .i64 0] 28)
            obtain ⟨bn, hbn⟩ : ∃ b, b = W.heap.size := ⟨_, rfl⟩
            obtain ⟨Y, hY⟩ : ∃ Y, Y = W.alloc (.cells #[.int .i64 0, .int .i64 0] 28) := ⟨_, rfl⟩
            rw [← hY] at hfn hn ⊢
            have dn : XD1.heap.size ≤ bn := by rw [hbn]; exact hf.size
            rw [← hbn] at hn ⊢
            clear hf hY hbn
            have hf := hfn
            clear hfn
            refine hK.out _ _ (heldC_one (fun _ => hf)) (fun hF => ?_)
            clear hK K
            try simp only [Act.put, uA, uB, uC]
            refine wpG_marks (l' := #[true, true, true, true, true, false, false, true, false]) (by kernel_rfl) ?_
            with_reducible exact k1_10 Y bn ⟨hf, ⟨hn, dn⟩⟩
        · rintro W bn ⟨hf, ⟨hn, dn⟩⟩
          refine gR (i := 5) (by kernel_rfl) ?_
          refine wpOp_hand (oi := ?oi51) ?hi51 (fun K hK => ?hh51)
          case hi51 => (simp only [gA, gB, gC]; rfl)
          go_simp
          refine Calls.mono (t2.out _) ?_
          rintro e Va1_4 ⟨rfl, hb⟩
          have hnn := hn.below hb; clear hn; have hn := hnn; clear hnn
          replace hf := hf.trans (hb.mono hf.size)
          clear hb
          refine hK.out _ _ (heldC_one (fun _ => hf)) (fun hF => ?_)
          clear hK K
          try simp only [Act.put, uA, uB, uC]
          refine wpG_marks (l' := #[true, true, true, true, true, true, false, true, false]) (by kernel_rfl) ?_
          with_reducible exact k1_20 Va1_4 bn ⟨hf, ⟨hn, dn⟩⟩
        · rintro W hf
          refine gS (i := 6) (j := 7) (by kernel_rfl) ?_ ?_
          · skip
            refine wpOp_hand (oi := ?oi52) ?hi52 (fun K hK => ?hh52)
            case hi52 => (simp only [gA, gB, gC]; rfl)
            go_simp
            refine Calls.mono (M.out _) ?_
            rintro e Va1_5 ⟨rfl, hb⟩
            replace hf := hf.trans (hb.mono hf.size)
            clear hb
            refine hK.out _ _ (heldC_one (fun _ => hf)) (fun hF => ?_)
            clear hK K
            try simp only [Act.put, uA, uB, uC]
            refine wpG_marks (l' := #[true, true, true, true, true, true, true, false, false]) (by kernel_rfl) ?_
            with_reducible exact k1_3n Va1_5 hf
          · skip
            refine wpOp_hand (oi := ?oi53) ?hi53 (fun K hK => ?hh53)
            case hi53 => (simp only [gA, gB, gC]; rfl)
            go_simp
            have hn := SpBox.new W 0 0
            have hfn := hf.alloc hf.size (.cells #[.int .i64 0, .int .i64 0] 28)
            obtain ⟨bn, hbn⟩ : ∃ b, b = W.heap.size := ⟨_, rfl⟩
            obtain ⟨Y, hY⟩ : ∃ Y, Y = W.alloc (.cells #[.int .i64 0, .int .i64 0] 28) := ⟨_, rfl⟩
            rw [← hY] at hfn hn ⊢
            have dn : XD1.heap.size ≤ bn := by rw [hbn]; exact hf.size
            rw [← hbn] at hn ⊢
            clear hf hY hbn
            have hf := hfn
            clear hfn
            refine hK.out _ _ (heldC_one (fun _ => hf)) (fun hF => ?_)
            clear hK K
            try simp only [Act.put, uA, uB, uC]
            refine wpG_marks (l' := #[true, true, true, true, true, true, false, true, false]) (by kernel_rfl) ?_
            with_reducible exact k1_20 Y bn ⟨hf, ⟨hn, dn⟩⟩
        · rintro W bn ⟨hf, ⟨hn, dn⟩⟩
          refine gR (i := 6) (by kernel_rfl) ?_
          refine wpOp_hand (oi := ?oi54) ?hi54 (fun K hK => ?hh54)
          case hi54 => (simp only [gA, gB, gC]; rfl)
          go_simp
          refine Calls.mono (M.out _) ?_
          rintro e Va1_6 ⟨rfl, hb⟩
          have hnn := hn.below hb; clear hn; have hn := hnn; clear hnn
          replace hf := hf.trans (hb.mono hf.size)
          clear hb
          refine hK.out _ _ (heldC_one (fun _ => hf)) (fun hF => ?_)
          clear hK K
          try simp only [Act.put, uA, uB, uC]
          refine wpG_marks (l' := #[true, true, true, true, true, true, true, true, false]) (by kernel_rfl) ?_
          with_reducible exact k1_30 Va1_6 bn ⟨hf, ⟨hn, dn⟩⟩
        · rintro W hf
          refine gR (i := 7) (by kernel_rfl) ?_
          refine wpOp_hand (oi := ?oi55) ?hi55 (fun K hK => ?hh55)
          case hi55 => (simp only [gA, gB, gC]; rfl)
          go_simp
          have hn := SpBox.new W 0 0
          have hfn := hf.alloc hf.size (.cells #[.int .i64 0, .int .i64 0] 28)
          obtain ⟨bn, hbn⟩ : ∃ b, b = W.heap.size := ⟨_, rfl⟩
          obtain ⟨Y, hY⟩ : ∃ Y, Y = W.alloc (.cells #[.int .i64 0, .int .i64 0] 28) := ⟨_, rfl⟩
          rw [← hY] at hfn hn ⊢
          have dn : XD1.heap.size ≤ bn := by rw [hbn]; exact hf.size
          rw [← hbn] at hn ⊢
          clear hf hY hbn
          have hf := hfn
          clear hfn
          refine hK.out _ _ (heldC_one (fun _ => hf)) (fun hF => ?_)
          clear hK K
          try simp only [Act.put, uA, uB, uC]
          refine wpG_marks (l' := #[true, true, true, true, true, true, true, true, false]) (by kernel_rfl) ?_
          with_reducible exact k1_30 Y bn ⟨hf, ⟨hn, dn⟩⟩
        · rintro W bn ⟨hf, ⟨hn, dn⟩⟩
          refine gR (i := 8) (by kernel_rfl) ?_
          have zz0 := hn.c0; have zz0f := hn.free 0; have zz1 := hn.c1; have zz1f := hn.free 1; have zzl := hn.lt
          refine wpOp_hand (oi := ?oi56) ?hi56 (fun K hK => ?hh56)
          case hi56 => (simp only [gA, gB, gC]; rfl)
          go_simp
          have hnn := hn.set (yl) (yh)
          clear zz0 zz0f zz1 zz1f zzl hn
          have hn := hnn; clear hnn
          replace hf := (hf.setCell (p := ⟨bn, 0, none⟩) dn (.int .i64 (yl))).setCell (p := ⟨bn, 1, none⟩) dn (.int .i64 (yh))
          refine hK.out _ _ (heldC_one (fun h => absurd h (by simp))) (fun hF => ?_)
          clear hK K
          try simp only [Act.put, uA, uB, uC]
          refine wpG_done (by kernel_rfl) ?_ _
          go_wp2_with fail
          go_meet
          exact ⟨bn, rfl, Lib.hid (Nat.le_trans hbW.out.size dn), Lib.hid hn, Lib.hid (hbx3.out.below hf), Lib.hid (hbx4.out.below hf), Lib.hid (hbx7.out.below hf), Lib.hid (hbx9.out.below hf), Lib.hid (hbx10.out.below hf), Lib.hid (hbx11.out.below hf), Lib.hid (hbx12.out.below hf), Lib.hid (Nat.lt_of_lt_of_le hbx3.out.lt dn), Lib.hid (Nat.lt_of_lt_of_le hbx4.out.lt dn), Lib.hid (Nat.lt_of_lt_of_le hbx7.out.lt dn), Lib.hid (Nat.lt_of_lt_of_le hbx9.out.lt dn), Lib.hid (Nat.lt_of_lt_of_le hbx10.out.lt dn), Lib.hid (Nat.lt_of_lt_of_le hbx11.out.lt dn), Lib.hid (Nat.lt_of_lt_of_le hbx12.out.lt dn), Lib.hid (hbW.out.trans (hf.mono hbW.out.size))⟩
      case rest =>
      obtain ⟨k13, rfl, Hkl13, s13, s3, s4, s7, s9, s10, s11, s12, Hd13_3, Hd13_4, Hd13_7, Hd13_9, Hd13_10, Hd13_11, Hd13_12, HB⟩ := hcut
      obtain ⟨X13, hX13⟩ : ∃ X, X = wc := ⟨_, rfl⟩
      subst hX13
      clear HXD1 hf hbW hbx3 hbx4 hbx7 hbx9 hbx10 hbx11 hbx12
      go_upto_region 18 with fail
      obtain ⟨XD2, hXD2⟩ : ∃ x, x = X13.drew := ⟨_, rfl⟩
      have hbx3 : Hid (SpBox XD2 (k3) (0) (0)) := Lib.hid (by rw [hXD2]; exact s3.out.drew)
      have hbx4 : Hid (SpBox XD2 (k4) (0) (0)) := Lib.hid (by rw [hXD2]; exact s4.out.drew)
      have hbx7 : Hid (SpBox XD2 (k7) (ul) (uh)) := Lib.hid (by rw [hXD2]; exact s7.out.drew)
      have hbx9 : Hid (SpBox XD2 (k9) (el) (eh)) := Lib.hid (by rw [hXD2]; exact s9.out.drew)
      have hbx10 : Hid (SpBox XD2 (k9 + 1) (fl) (fh)) := Lib.hid (by rw [hXD2]; exact s10.out.drew)
      have hbx11 : Hid (SpBox XD2 (k11) (al) (ah)) := Lib.hid (by rw [hXD2]; exact s11.out.drew)
      have hbx12 : Hid (SpBox XD2 (k12) (xl) (xh)) := Lib.hid (by rw [hXD2]; exact s12.out.drew)
      have hbx13 : Hid (SpBox XD2 (k13) (yl) (yh)) := Lib.hid (by rw [hXD2]; exact s13.out.drew)
      have hbW : Hid (Below w.heap.size w XD2) := Lib.hid (by rw [hXD2]; exact HB.out.drew)
      have HXD2 := Lib.hid hXD2; clear hXD2 s3 s4 s7 s9 s10 s11 s12 s13 HB
      have hf := Below.refl XD2.heap.size XD2
      go_cut [23] (fun sv wx => ∃ bn : Nat, sv = .pointer (some ⟨bn, 0, none⟩) ∧ Hid (w.heap.size ≤ bn) ∧ Hid (SpBox wx bn (zl) (zh)) ∧ Hid (SpBox wx (k3) (0) (0)) ∧ Hid (SpBox wx (k4) (0) (0)) ∧ Hid (SpBox wx (k7) (ul) (uh)) ∧ Hid (SpBox wx (k9) (el) (eh)) ∧ Hid (SpBox wx (k9 + 1) (fl) (fh)) ∧ Hid (SpBox wx (k11) (al) (ah)) ∧ Hid (SpBox wx (k12) (xl) (xh)) ∧ Hid (SpBox wx (k13) (yl) (yh)) ∧ Hid (k3 < bn) ∧ Hid (k4 < bn) ∧ Hid (k7 < bn) ∧ Hid (k9 < bn) ∧ Hid (k9 + 1 < bn) ∧ Hid (k11 < bn) ∧ Hid (k12 < bn) ∧ Hid (k13 < bn) ∧ Hid (Below w.heap.size w wx))
      case first =>
        refine wp_region_G [(8, fun w' => Below XD2.heap.size XD2 w')] (by kernel_rfl) (heldC_one (fun _ => by rw [← HXD2.out]; exact hf)) (fun hF => ?_)
        rw [← HXD2.out] at hF ⊢
        refine gT (oi := ?o57) (v := ?v57) 0 ?i57 ?Q57 hF ?w57 ?y57 (by kernel_rfl) (fun hF => ?h57)
        case i57 => (simp only [gA, gB, gC]; rfl)
        case Q57 => exact fun _ _ _ h => h
        case w57 => rfl
        case y57 => (intro wz hz; have zb := hbx11.out.below hz; have z0 := zb.c0; have z1 := zb.c1; go_simp; try (with_reducible rfl))
        try simp only [Act.put, uA, uB, uC]
        refine gT (oi := ?o58) (v := ?v58) 1 ?i58 ?Q58 hF ?w58 ?y58 (by kernel_rfl) (fun hF => ?h58)
        case i58 => (simp only [gA, gB, gC]; rfl)
        case Q58 => exact fun _ _ _ h => h
        case w58 => rfl
        case y58 => (intro wz hz; have zb := hbx9.out.below hz; have z0 := zb.c0; have z1 := zb.c1; go_simp; try (with_reducible rfl))
        try simp only [Act.put, uA, uB, uC]
        refine gT (oi := ?o59) (v := ?v59) 3 ?i59 ?Q59 hF ?w59 ?y59 (by kernel_rfl) (fun hF => ?h59)
        case i59 => (simp only [gA, gB, gC]; rfl)
        case Q59 => exact fun _ _ _ h => h
        case w59 => rfl
        case y59 => (intro wz hz; have zb := hbx7.out.below hz; have z0 := zb.c0; have z1 := zb.c1; go_simp; try (with_reducible rfl))
        try simp only [Act.put, uA, uB, uC]
        refine gT (oi := ?o60) (v := ?v60) 4 ?i60 ?Q60 hF ?w60 ?y60 (by kernel_rfl) (fun hF => ?h60)
        case i60 => (simp only [gA, gB, gC]; rfl)
        case Q60 => exact fun _ _ _ h => h
        case w60 => rfl
        case y60 => (intro wz hz; have zb := hbx10.out.below hz; have z0 := zb.c0; have z1 := zb.c1; go_simp; try (with_reducible rfl))
        try simp only [Act.put, uA, uB, uC]
        apply mergeWN (S := fun W bn => Below XD2.heap.size XD2 W ∧ (SpBox W bn 0 0 ∧ XD2.heap.size ≤ bn))
        intro k2_30
        apply mergeW (S := fun W => Below XD2.heap.size XD2 W)
        intro k2_3n
        apply mergeWN (S := fun W bn => Below XD2.heap.size XD2 W ∧ (SpBox W bn 0 0 ∧ XD2.heap.size ≤ bn))
        intro k2_20
        apply mergeW (S := fun W => Below XD2.heap.size XD2 W)
        intro k2_2n
        apply mergeWN (S := fun W bn => Below XD2.heap.size XD2 W ∧ (SpBox W bn 0 0 ∧ XD2.heap.size ≤ bn))
        intro k2_10
        apply mergeW (S := fun W => Below XD2.heap.size XD2 W)
        intro k2_1n
        apply mergeWN (S := fun W bn => Below XD2.heap.size XD2 W ∧ (SpBox W bn 0 0 ∧ XD2.heap.size ≤ bn))
        intro k2_00
        · have hf := hf
          refine gS (i := 2) (j := 7) (by kernel_rfl) ?_ ?_
          · skip
            refine wpOp_hand (oi := ?oi61) ?hi61 (fun K hK => ?hh61)
            case hi61 => (simp only [gA, gB, gC]; rfl)
            go_simp
            refine Calls.mono (t3.out _) ?_
            rintro e Va2_1 ⟨rfl, hb⟩
            replace hf := hf.trans (hb.mono hf.size)
            clear hb
            refine hK.out _ _ (heldC_one (fun _ => hf)) (fun hF => ?_)
            clear hK K
            try simp only [Act.put, uA, uB, uC]
            refine wpG_marks (l' := #[true, true, true, true, true, false, false, false, false]) (by kernel_rfl) ?_
            with_reducible exact k2_1n Va2_1 hf
          · skip
            refine wpOp_hand (oi := ?oi62) ?hi62 (fun K hK => ?hh62)
            case hi62 => (simp only [gA, gB, gC]; rfl)
            go_simp
            have hn := SpBox.new XD2 0 0
            have hfn := hf.alloc hf.size (.cells #[.int .i64 0, .int .i64 0] 28)
            obtain ⟨bn, hbn⟩ : ∃ b, b = XD2.heap.size := ⟨_, rfl⟩
            obtain ⟨Y, hY⟩ : ∃ Y, Y = XD2.alloc (.cells #[.int .i64 0, .int .i64 0] 28) := ⟨_, rfl⟩
            rw [← hY] at hfn hn ⊢
            have dn : XD2.heap.size ≤ bn := by rw [hbn]; exact hf.size
            rw [← hbn] at hn ⊢
            clear hf hY hbn
            have hf := hfn
            clear hfn
            refine hK.out _ _ (heldC_one (fun _ => hf)) (fun hF => ?_)
            clear hK K
            try simp only [Act.put, uA, uB, uC]
            refine wpG_marks (l' := #[true, true, false, true, true, false, false, true, false]) (by kernel_rfl) ?_
            with_reducible exact k2_00 Y bn ⟨hf, ⟨hn, dn⟩⟩
        · rintro W bn ⟨hf, ⟨hn, dn⟩⟩
          refine gR (i := 2) (by kernel_rfl) ?_
          refine wpOp_hand (oi := ?oi63) ?hi63 (fun K hK => ?hh63)
          case hi63 => (simp only [gA, gB, gC]; rfl)
          go_simp
          refine Calls.mono (t3.out _) ?_
          rintro e Va2_2 ⟨rfl, hb⟩
          have hnn := hn.below hb; clear hn; have hn := hnn; clear hnn
          replace hf := hf.trans (hb.mono hf.size)
          clear hb
          refine hK.out _ _ (heldC_one (fun _ => hf)) (fun hF => ?_)
          clear hK K
          try simp only [Act.put, uA, uB, uC]
          refine wpG_marks (l' := #[true, true, true, true, true, false, false, true, false]) (by kernel_rfl) ?_
          with_reducible exact k2_10 Va2_2 bn ⟨hf, ⟨hn, dn⟩⟩
        · rintro W hf
          refine gS (i := 5) (j := 7) (by kernel_rfl) ?_ ?_
          · skip
            refine wpOp_hand (oi := ?oi64) ?hi64 (fun K hK => ?hh64)
            case hi64 => (simp only [gA, gB, gC]; rfl)
            go_simp
            refine Calls.mono (t4.out _) ?_
            rintro e Va2_3 ⟨rfl, hb⟩
            replace hf := hf.trans (hb.mono hf.size)
            clear hb
            refine hK.out _ _ (heldC_one (fun _ => hf)) (fun hF => ?_)
            clear hK K
            try simp only [Act.put, uA, uB, uC]
            refine wpG_marks (l' := #[true, true, true, true, true, true, false, false, false]) (by kernel_rfl) ?_
            with_reducible exact k2_2n Va2_3 hf
          · skip
            refine wpOp_hand (oi := ?oi65) ?hi65 (fun K hK => ?hh65)
            case hi65 => (simp only [gA, gB, gC]; rfl)
            go_simp
            have hn := SpBox.new W 0 0
            have hfn := hf.alloc hf.size (.cells #[.int .i64 0, .int .i64 0] 28)
            obtain ⟨bn, hbn⟩ : ∃ b, b = W.heap.size := ⟨_, rfl⟩
            obtain ⟨Y, hY⟩ : ∃ Y, Y = W.alloc (.cells #[.int .i64 0, .int .i64 0] 28) := ⟨_, rfl⟩
            rw [← hY] at hfn hn ⊢
            have dn : XD2.heap.size ≤ bn := by rw [hbn]; exact hf.size
            rw [← hbn] at hn ⊢
            clear hf hY hbn
            have hf := hfn
            clear hfn
            refine hK.out _ _ (heldC_one (fun _ => hf)) (fun hF => ?_)
            clear hK K
            try simp only [Act.put, uA, uB, uC]
            refine wpG_marks (l' := #[true, true, true, true, true, false, false, true, false]) (by kernel_rfl) ?_
            with_reducible exact k2_10 Y bn ⟨hf, ⟨hn, dn⟩⟩
        · rintro W bn ⟨hf, ⟨hn, dn⟩⟩
          refine gR (i := 5) (by kernel_rfl) ?_
          refine wpOp_hand (oi := ?oi66) ?hi66 (fun K hK => ?hh66)
          case hi66 => (simp only [gA, gB, gC]; rfl)
          go_simp
          refine Calls.mono (t4.out _) ?_
          rintro e Va2_4 ⟨rfl, hb⟩
          have hnn := hn.below hb; clear hn; have hn := hnn; clear hnn
          replace hf := hf.trans (hb.mono hf.size)
          clear hb
          refine hK.out _ _ (heldC_one (fun _ => hf)) (fun hF => ?_)
          clear hK K
          try simp only [Act.put, uA, uB, uC]
          refine wpG_marks (l' := #[true, true, true, true, true, true, false, true, false]) (by kernel_rfl) ?_
          with_reducible exact k2_20 Va2_4 bn ⟨hf, ⟨hn, dn⟩⟩
        · rintro W hf
          refine gS (i := 6) (j := 7) (by kernel_rfl) ?_ ?_
          · skip
            refine wpOp_hand (oi := ?oi67) ?hi67 (fun K hK => ?hh67)
            case hi67 => (simp only [gA, gB, gC]; rfl)
            go_simp
            refine Calls.mono (P.out _) ?_
            rintro e Va2_5 ⟨rfl, hb⟩
            replace hf := hf.trans (hb.mono hf.size)
            clear hb
            refine hK.out _ _ (heldC_one (fun _ => hf)) (fun hF => ?_)
            clear hK K
            try simp only [Act.put, uA, uB, uC]
            refine wpG_marks (l' := #[true, true, true, true, true, true, true, false, false]) (by kernel_rfl) ?_
            with_reducible exact k2_3n Va2_5 hf
          · skip
            refine wpOp_hand (oi := ?oi68) ?hi68 (fun K hK => ?hh68)
            case hi68 => (simp only [gA, gB, gC]; rfl)
            go_simp
            have hn := SpBox.new W 0 0
            have hfn := hf.alloc hf.size (.cells #[.int .i64 0, .int .i64 0] 28)
            obtain ⟨bn, hbn⟩ : ∃ b, b = W.heap.size := ⟨_, rfl⟩
            obtain ⟨Y, hY⟩ : ∃ Y, Y = W.alloc (.cells #[.int .i64 0, .int .i64 0] 28) := ⟨_, rfl⟩
            rw [← hY] at hfn hn ⊢
            have dn : XD2.heap.size ≤ bn := by rw [hbn]; exact hf.size
            rw [← hbn] at hn ⊢
            clear hf hY hbn
            have hf := hfn
            clear hfn
            refine hK.out _ _ (heldC_one (fun _ => hf)) (fun hF => ?_)
            clear hK K
            try simp only [Act.put, uA, uB, uC]
            refine wpG_marks (l' := #[true, true, true, true, true, true, false, true, false]) (by kernel_rfl) ?_
            with_reducible exact k2_20 Y bn ⟨hf, ⟨hn, dn⟩⟩
        · rintro W bn ⟨hf, ⟨hn, dn⟩⟩
          refine gR (i := 6) (by kernel_rfl) ?_
          refine wpOp_hand (oi := ?oi69) ?hi69 (fun K hK => ?hh69)
          case hi69 => (simp only [gA, gB, gC]; rfl)
          go_simp
          refine Calls.mono (P.out _) ?_
          rintro e Va2_6 ⟨rfl, hb⟩
          have hnn := hn.below hb; clear hn; have hn := hnn; clear hnn
          replace hf := hf.trans (hb.mono hf.size)
          clear hb
          refine hK.out _ _ (heldC_one (fun _ => hf)) (fun hF => ?_)
          clear hK K
          try simp only [Act.put, uA, uB, uC]
          refine wpG_marks (l' := #[true, true, true, true, true, true, true, true, false]) (by kernel_rfl) ?_
          with_reducible exact k2_30 Va2_6 bn ⟨hf, ⟨hn, dn⟩⟩
        · rintro W hf
          refine gR (i := 7) (by kernel_rfl) ?_
          refine wpOp_hand (oi := ?oi70) ?hi70 (fun K hK => ?hh70)
          case hi70 => (simp only [gA, gB, gC]; rfl)
          go_simp
          have hn := SpBox.new W 0 0
          have hfn := hf.alloc hf.size (.cells #[.int .i64 0, .int .i64 0] 28)
          obtain ⟨bn, hbn⟩ : ∃ b, b = W.heap.size := ⟨_, rfl⟩
          obtain ⟨Y, hY⟩ : ∃ Y, Y = W.alloc (.cells #[.int .i64 0, .int .i64 0] 28) := ⟨_, rfl⟩
          rw [← hY] at hfn hn ⊢
          have dn : XD2.heap.size ≤ bn := by rw [hbn]; exact hf.size
          rw [← hbn] at hn ⊢
          clear hf hY hbn
          have hf := hfn
          clear hfn
          refine hK.out _ _ (heldC_one (fun _ => hf)) (fun hF => ?_)
          clear hK K
          try simp only [Act.put, uA, uB, uC]
          refine wpG_marks (l' := #[true, true, true, true, true, true, true, true, false]) (by kernel_rfl) ?_
          with_reducible exact k2_30 Y bn ⟨hf, ⟨hn, dn⟩⟩
        · rintro W bn ⟨hf, ⟨hn, dn⟩⟩
          refine gR (i := 8) (by kernel_rfl) ?_
          have zz0 := hn.c0; have zz0f := hn.free 0; have zz1 := hn.c1; have zz1f := hn.free 1; have zzl := hn.lt
          refine wpOp_hand (oi := ?oi71) ?hi71 (fun K hK => ?hh71)
          case hi71 => (simp only [gA, gB, gC]; rfl)
          go_simp
          have hnn := hn.set (zl) (zh)
          clear zz0 zz0f zz1 zz1f zzl hn
          have hn := hnn; clear hnn
          replace hf := (hf.setCell (p := ⟨bn, 0, none⟩) dn (.int .i64 (zl))).setCell (p := ⟨bn, 1, none⟩) dn (.int .i64 (zh))
          refine hK.out _ _ (heldC_one (fun h => absurd h (by simp))) (fun hF => ?_)
          clear hK K
          try simp only [Act.put, uA, uB, uC]
          refine wpG_done (by kernel_rfl) ?_ _
          go_wp2_with fail
          go_meet
          exact ⟨bn, rfl, Lib.hid (Nat.le_trans hbW.out.size dn), Lib.hid hn, Lib.hid (hbx3.out.below hf), Lib.hid (hbx4.out.below hf), Lib.hid (hbx7.out.below hf), Lib.hid (hbx9.out.below hf), Lib.hid (hbx10.out.below hf), Lib.hid (hbx11.out.below hf), Lib.hid (hbx12.out.below hf), Lib.hid (hbx13.out.below hf), Lib.hid (Nat.lt_of_lt_of_le hbx3.out.lt dn), Lib.hid (Nat.lt_of_lt_of_le hbx4.out.lt dn), Lib.hid (Nat.lt_of_lt_of_le hbx7.out.lt dn), Lib.hid (Nat.lt_of_lt_of_le hbx9.out.lt dn), Lib.hid (Nat.lt_of_lt_of_le hbx10.out.lt dn), Lib.hid (Nat.lt_of_lt_of_le hbx11.out.lt dn), Lib.hid (Nat.lt_of_lt_of_le hbx12.out.lt dn), Lib.hid (Nat.lt_of_lt_of_le hbx13.out.lt dn), Lib.hid (hbW.out.trans (hf.mono hbW.out.size))⟩
      case rest =>
      obtain ⟨k14, rfl, Hkl14, s14, s3, s4, s7, s9, s10, s11, s12, s13, Hd14_3, Hd14_4, Hd14_7, Hd14_9, Hd14_10, Hd14_11, Hd14_12, Hd14_13, HB⟩ := hcut
      obtain ⟨X14, hX14⟩ : ∃ X, X = wc := ⟨_, rfl⟩
      subst hX14
      clear HXD2 hf hbW hbx3 hbx4 hbx7 hbx9 hbx10 hbx11 hbx12 hbx13
      clear s7
      clear s9
      clear s10
      clear s11
      have sc13_0 := s13.out.c0; have sc13_1 := s13.out.c1; have sc13_l := s13.out.lt
      have sc12_0 := s12.out.c0; have sc12_1 := s12.out.c1; have sc12_l := s12.out.lt
      go_wp2_with fail
      refine Calls.mono (AR.out _) ?_
      rintro e wn15 ⟨rfl, hb⟩
      have Hd15_3 := Lib.hid (s3.out.below hb).lt
      have Hd15_4 := Lib.hid (s4.out.below hb).lt
      have Hd15_12 := Lib.hid (s12.out.below hb).lt
      have Hd15_13 := Lib.hid (s13.out.below hb).lt
      have Hd15_14 := Lib.hid (s14.out.below hb).lt
      replace s3 := Lib.hid ((s3.out.below hb).alloc (.cells #[.int .i64 (r1), .int .i64 (r2)] 28))
      replace s4 := Lib.hid ((s4.out.below hb).alloc (.cells #[.int .i64 (r1), .int .i64 (r2)] 28))
      replace s12 := Lib.hid ((s12.out.below hb).alloc (.cells #[.int .i64 (r1), .int .i64 (r2)] 28))
      replace s13 := Lib.hid ((s13.out.below hb).alloc (.cells #[.int .i64 (r1), .int .i64 (r2)] 28))
      replace s14 := Lib.hid ((s14.out.below hb).alloc (.cells #[.int .i64 (r1), .int .i64 (r2)] 28))
      have HB15 := HB.out.trans (hb.mono HB.out.size)
      clear sc13_0 sc13_1 sc13_l sc12_0 sc12_1 sc12_l
      clear hb
      have Hkl15 := Lib.hid HB15.size; replace HB := Lib.hid (HB15.alloc HB15.size (.cells #[.int .i64 (r1), .int .i64 (r2)] 28))
      clear HB15
      have s15 := Lib.hid (SpBox.new wn15 (r1) (r2))
      obtain ⟨k15, hk15⟩ : ∃ x, x = wn15.heap.size := ⟨_, rfl⟩
      rw [← hk15] at s15 Hkl15 Hd15_3 Hd15_4 Hd15_12 Hd15_13 Hd15_14
      go_upto_region 20 with fail
      rw [← hk15]
      obtain ⟨X15, hX15⟩ : ∃ X, X = wn15.alloc (.cells #[.int .i64 (r1), .int .i64 (r2)] 28) := ⟨_, rfl⟩
      rw [← hX15] at s3 s4 s12 s13 s14 s15 HB ⊢
      clear hk15 hX15
      have sc14_0 := s14.out.c0; have sc14_1 := s14.out.c1; have sc14_l := s14.out.lt
      go_wp2_with fail
      refine Calls.mono (AS.out _) ?_
      rintro e wn16 ⟨rfl, hb⟩
      have Hd16_3 := Lib.hid (s3.out.below hb).lt
      have Hd16_4 := Lib.hid (s4.out.below hb).lt
      have Hd16_12 := Lib.hid (s12.out.below hb).lt
      have Hd16_13 := Lib.hid (s13.out.below hb).lt
      have Hd16_14 := Lib.hid (s14.out.below hb).lt
      have Hd16_15 := Lib.hid (s15.out.below hb).lt
      replace s3 := Lib.hid ((s3.out.below hb).alloc (.cells #[.int .i64 (d1), .int .i64 (d2)] 28))
      replace s4 := Lib.hid ((s4.out.below hb).alloc (.cells #[.int .i64 (d1), .int .i64 (d2)] 28))
      replace s12 := Lib.hid ((s12.out.below hb).alloc (.cells #[.int .i64 (d1), .int .i64 (d2)] 28))
      replace s13 := Lib.hid ((s13.out.below hb).alloc (.cells #[.int .i64 (d1), .int .i64 (d2)] 28))
      replace s14 := Lib.hid ((s14.out.below hb).alloc (.cells #[.int .i64 (d1), .int .i64 (d2)] 28))
      replace s15 := Lib.hid ((s15.out.below hb).alloc (.cells #[.int .i64 (d1), .int .i64 (d2)] 28))
      have HB16 := HB.out.trans (hb.mono HB.out.size)
      clear sc14_0 sc14_1 sc14_l
      clear hb
      have Hkl16 := Lib.hid HB16.size; replace HB := Lib.hid (HB16.alloc HB16.size (.cells #[.int .i64 (d1), .int .i64 (d2)] 28))
      clear HB16
      have s16 := Lib.hid (SpBox.new wn16 (d1) (d2))
      obtain ⟨k16, hk16⟩ : ∃ x, x = wn16.heap.size := ⟨_, rfl⟩
      rw [← hk16] at s16 Hkl16 Hd16_3 Hd16_4 Hd16_12 Hd16_13 Hd16_14 Hd16_15
      go_upto_region 23 with fail
      rw [← hk16]
      obtain ⟨X16, hX16⟩ : ∃ X, X = wn16.alloc (.cells #[.int .i64 (d1), .int .i64 (d2)] 28) := ⟨_, rfl⟩
      rw [← hX16] at s3 s4 s12 s13 s14 s15 s16 HB ⊢
      clear hk16 hX16
      have ne3_4 := Nat.ne_of_lt Hd4_3.out; have ne4_3 := Nat.ne_of_gt Hd4_3.out
      have ne3_15 := Nat.ne_of_lt Hd15_3.out; have ne15_3 := Nat.ne_of_gt Hd15_3.out
      have ne3_16 := Nat.ne_of_lt Hd16_3.out; have ne16_3 := Nat.ne_of_gt Hd16_3.out
      have ne4_15 := Nat.ne_of_lt Hd15_4.out; have ne15_4 := Nat.ne_of_gt Hd15_4.out
      have ne4_16 := Nat.ne_of_lt Hd16_4.out; have ne16_4 := Nat.ne_of_gt Hd16_4.out
      have ne15_16 := Nat.ne_of_lt Hd16_15.out; have ne16_15 := Nat.ne_of_gt Hd16_15.out
      obtain ⟨XD9, hXD9⟩ : ∃ x, x = X16.drew := ⟨_, rfl⟩
      have hf : SpBox XD9 k15 r1 r2 ∧ SpBox XD9 k16 d1 d2 ∧ SpBox XD9 k3 0 0 ∧ SpBox XD9 k4 0 0 := by rw [hXD9]; exact ⟨s15.out.drew, s16.out.drew, s3.out.drew, s4.out.drew⟩
      have HBF : Hid (Below w.heap.size w XD9) := Lib.hid (by rw [hXD9]; exact HB.out.drew)
      have HXD9 := Lib.hid hXD9
      clear hXD9
      have KK := Lib.hid (And.intro Hkl3.out Hkl4.out)
      (try clear SL)
      (try clear CL)
      (try clear SB)
      (try clear CB)
      (try clear TI)
      (try clear tA)
      (try clear tX)
      (try clear t1)
      (try clear t2)
      (try clear t3)
      (try clear t4)
      (try clear M)
      (try clear P)
      (try clear AR)
      (try clear AS)
      (try clear HII)
      (try clear HD)
      (try clear HT)
      (try clear HK1)
      (try clear s1)
      (try clear s2)
      (try clear s3)
      (try clear s4)
      (try clear s5)
      (try clear s6)
      (try clear s7)
      (try clear s8)
      (try clear s9)
      (try clear s10)
      (try clear s11)
      (try clear s12)
      (try clear s13)
      (try clear s14)
      (try clear s15)
      (try clear s16)
      (try clear HB)
      (try clear Hkl1)
      (try clear Hkl2)
      (try clear Hkl3)
      (try clear Hkl4)
      (try clear Hd2_1)
      (try clear Hd3_1)
      (try clear Hd4_1)
      (try clear Hd3_2)
      (try clear Hd4_2)
      (try clear Hd4_3)
      (try clear Hd5_1)
      (try clear Hd5_2)
      (try clear Hd5_3)
      (try clear Hd5_4)
      (try clear Hkl5)
      (try clear Hd6_1)
      (try clear Hd6_2)
      (try clear Hd6_3)
      (try clear Hd6_4)
      (try clear Hd6_5)
      (try clear Hkl6)
      (try clear Hd7_1)
      (try clear Hd7_2)
      (try clear Hd7_3)
      (try clear Hd7_4)
      (try clear Hd7_5)
      (try clear Hd7_6)
      (try clear Hkl7)
      (try clear Hd8_1)
      (try clear Hd8_2)
      (try clear Hd8_3)
      (try clear Hd8_4)
      (try clear Hd8_5)
      (try clear Hd8_6)
      (try clear Hd8_7)
      (try clear Hkl8)
      (try clear Hd9_1)
      (try clear Hd9_2)
      (try clear Hd9_3)
      (try clear Hd9_4)
      (try clear Hd9_5)
      (try clear Hd9_6)
      (try clear Hd9_7)
      (try clear Hd9_8)
      (try clear Hkl9)
      (try clear Hkl10)
      (try clear Hd10_1)
      (try clear Hd10_2)
      (try clear Hd10_3)
      (try clear Hd10_4)
      (try clear Hd10_5)
      (try clear Hd10_6)
      (try clear Hd10_7)
      (try clear Hd10_8)
      (try clear Hd10_9)
      (try clear Hd11_3)
      (try clear Hd11_4)
      (try clear Hd11_5)
      (try clear Hd11_6)
      (try clear Hd11_7)
      (try clear Hd11_8)
      (try clear Hd11_9)
      (try clear Hd11_10)
      (try clear Hkl11)
      (try clear Hd12_3)
      (try clear Hd12_4)
      (try clear Hd12_5)
      (try clear Hd12_6)
      (try clear Hd12_7)
      (try clear Hd12_8)
      (try clear Hd12_9)
      (try clear Hd12_10)
      (try clear Hd12_11)
      (try clear Hkl12)
      (try clear Hkl13)
      (try clear Hd13_3)
      (try clear Hd13_4)
      (try clear Hd13_7)
      (try clear Hd13_9)
      (try clear Hd13_10)
      (try clear Hd13_11)
      (try clear Hd13_12)
      (try clear Hkl14)
      (try clear Hd14_3)
      (try clear Hd14_4)
      (try clear Hd14_7)
      (try clear Hd14_9)
      (try clear Hd14_10)
      (try clear Hd14_11)
      (try clear Hd14_12)
      (try clear Hd14_13)
      (try clear Hd15_3)
      (try clear Hd15_4)
      (try clear Hd15_12)
      (try clear Hd15_13)
      (try clear Hd15_14)
      (try clear Hkl15)
      (try clear Hd16_3)
      (try clear Hd16_4)
      (try clear Hd16_12)
      (try clear Hd16_13)
      (try clear Hd16_14)
      (try clear Hd16_15)
      (try clear Hkl16)
      refine wp_region_G [(3, fun w' => SpBox w' k15 r1 r2 ∧ SpBox w' k16 d1 d2)] (by kernel_rfl) (heldC_one (fun _ => by rw [← HXD9.out]; exact ⟨hf.1, hf.2.1⟩)) (fun hF => ?_)
      rw [← HXD9.out] at hF ⊢
      refine gT (oi := ?o72) (v := ?v72) 0 ?i72 ?Q72 hF ?w72 ?y72 (by kernel_rfl) (fun hF => ?h72)
      case i72 => (simp only [gA, gB, gC]; rfl)
      case Q72 => exact fun _ _ _ h => h
      case w72 => rfl
      case y72 => (intro wz hz; have z0 := hz.1.c0; have z1 := hz.1.c1; go_simp; try (with_reducible rfl))
      try simp only [Act.put, uA, uB, uC]
      refine gT (oi := ?o73) (v := ?v73) 1 ?i73 ?Q73 hF ?w73 ?y73 (by kernel_rfl) (fun hF => ?h73)
      case i73 => (simp only [gA, gB, gC]; rfl)
      case Q73 => exact fun _ _ _ h => h
      case w73 => rfl
      case y73 => (intro wz hz; have z0 := hz.2.c0; have z1 := hz.2.c1; go_simp; try (with_reducible rfl))
      try simp only [Act.put, uA, uB, uC]
      refine gR (i := 2) (by kernel_rfl) ?_
      have x0 := hf.2.2.1.c0; have x1 := hf.2.2.1.c1; have x2 := hf.2.2.1.free 0; have x3 := hf.2.2.1.free 1; have x4 := hf.2.2.1.lt
      refine wpOp_hand (oi := ?oi74) ?hi74 (fun K hK => ?hh74)
      case hi74 => (simp only [gA, gB, gC]; rfl)
      go_simp
      refine hK.out _ _ (heldC_one (fun _ => ⟨(hf.1.other (a := ⟨k3, 0, none⟩) ne15_3 (.int .i64 r1)).other (a := ⟨k3, 1, none⟩) ne15_3 (.int .i64 r2), (hf.2.1.other (a := ⟨k3, 0, none⟩) ne16_3 (.int .i64 r1)).other (a := ⟨k3, 1, none⟩) ne16_3 (.int .i64 r2)⟩)) (fun hF => ?_)
      clear hK K
      try simp only [Act.put, uA, uB, uC]
      clear x0 x1 x2 x3 x4
      refine gR (i := 3) (by kernel_rfl) ?_
      have y := (hf.2.2.2.other (a := ⟨k3, 0, none⟩) ne4_3 (.int .i64 r1)).other (a := ⟨k3, 1, none⟩) ne4_3 (.int .i64 r2)
      have x0 := y.c0; have x1 := y.c1; have x2 := y.free 0; have x3 := y.free 1; have x4 := y.lt
      refine wpOp_hand (oi := ?oi75) ?hi75 (fun K hK => ?hh75)
      case hi75 => (simp only [gA, gB, gC]; rfl)
      go_simp
      refine hK.out _ _ (heldC_one (fun h => absurd h (by simp))) (fun hF => ?_)
      clear hK K
      try simp only [Act.put, uA, uB, uC]
      refine gR (i := 4) (by kernel_rfl) ?_
      refine wpOp_hand (oi := ?oi76) ?hi76 (fun K hK => ?hh76)
      case hi76 => (simp only [gA, gB, gC]; rfl)
      go_simp
      refine hK.out _ _ (heldC_one (fun h => absurd h (by simp))) (fun hF => ?_)
      clear hK K
      try simp only [Act.put, uA, uB, uC]
      refine wpG_done (by kernel_rfl) ?_ _
      have y3 := ((hf.2.2.1.set r1 r2).other (a := ⟨k4, 0, none⟩) ne3_4 (.int .i64 d1)).other (a := ⟨k4, 1, none⟩) ne3_4 (.int .i64 d2)
      have y4 := ((hf.2.2.2.other (a := ⟨k3, 0, none⟩) ne4_3 (.int .i64 r1)).other (a := ⟨k3, 1, none⟩) ne4_3 (.int .i64 r2)).set d1 d2
      have hbl := (((HBF.out.setCell (p := ⟨k3, 0, none⟩) KK.out.1 (.int .i64 r1)).setCell (p := ⟨k3, 1, none⟩) KK.out.1 (.int .i64 r2)).setCell (p := ⟨k4, 0, none⟩) KK.out.2 (.int .i64 d1)).setCell (p := ⟨k4, 1, none⟩) KK.out.2 (.int .i64 d2)
      obtain ⟨W4, hW4⟩ : ∃ x, x = (((XD9.setCell ⟨k3, 0, none⟩ (.int .i64 r1)).setCell ⟨k3, 1, none⟩ (.int .i64 r2)).setCell ⟨k4, 0, none⟩ (.int .i64 d1)).setCell ⟨k4, 1, none⟩ (.int .i64 d2) := ⟨_, rfl⟩
      rw [← hW4] at y3 y4 hbl ⊢
      repeat (clear hF)
      clear hW4 y hf KK HBF HXD9 ne3_4 ne4_3 ne15_3 ne3_15 ne16_3 ne3_16 ne4_15 ne15_4 ne4_16 ne16_4 ne15_16 ne16_15 x0 x1 x2 x3 x4
      have c30 := y3.c0; have c31 := y3.c1; have c40 := y4.c0; have c41 := y4.c1
      clear y3 y4
      go_wp
      refine bodyPost_ret (v := .tuple #[.agg #[.int .i64 r1, .int .i64 r2], .agg #[.int .i64 d1, .int .i64 d2], .int .i64 0]) ?_ rfl ⟨rfl, hbl⟩
      simp [results, Tryz.results64, go_sem, c30, c31, c40, c41]
end Go.Proofs.YtcopmgnfakjdhaaGreatDoor
