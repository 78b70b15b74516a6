/- trig.arcSine, trig.ArcSin: the walks. ArcSin's region printed by wip/tools/gen-asin.py. -/
import Derived.Test.YtdeoahgcppbmkaaDoorAsin
import Derived.Test.YtdeoahgcppbmkaaDoorReg
namespace Go.Proofs.YtdeoahgcppbmkaaDoor
open Go.RowKit
set_option linter.unusedSimpArgs false
set_option linter.unusedVariables false
theorem rt_top : rtW 1000000000 = 0 ∧ rtW (-1000000000) = 0 ∧ rtW 0 = iw 1000000000 := by decide +kernel
theorem rt_sqrt {c : Int} (h : -1000000000 ≤ c ∧ c ≤ 1000000000) : Ieee.double.sqrt (floatOfInt .f64 (rx c)) = some (rtW c) := by
  by_cases c1 : c = 1000000000
  · subst c1; decide +kernel
  · by_cases c2 : c = -1000000000
    · subst c2; decide +kernel
    · exact (rt_ok (by omega) (by omega)).1
theorem atan2_as {c : Int} (h : -1000000000 ≤ c ∧ c ≤ 1000000000) (w : World) : Calls Tryd.prog 104 #[.float .f64 (iw c), .float .f64 (rtW c)] w fun e w' => e = .returned (.float .f64 (asW c)) ∧ w' = w := by
  have z : iw 0 = 0 := iw_zero
  by_cases c1 : c = 1000000000
  · subst c1
    rw [rt_top.1, ← z]
    exact Atan2_ok 1000000000 0 ⟨by omega, by omega⟩ ⟨by omega, by omega⟩ (.inl (by omega)) w
  · by_cases c2 : c = -1000000000
    · subst c2
      rw [rt_top.2.1, ← z]
      exact Atan2_ok (-1000000000) 0 ⟨by omega, by omega⟩ ⟨by omega, by omega⟩ (.inl (by omega)) w
    · by_cases c3 : c = 0
      · subst c3
        rw [rt_top.2.2]
        exact Atan2_ok 0 1000000000 ⟨by omega, by omega⟩ ⟨by omega, by omega⟩ (.inr (by omega)) w
      · have I : AsIn c := ⟨by omega, by omega, c3⟩
        obtain ⟨-, f, v, D, rt⟩ := rt_ok I.lo I.hi
        have X1 := rt_range rt
        rw [I.v.2]
        exact Atan2_word c (rtW c) ⟨by omega, by omega⟩ c3 f (by grind) (by grind) w
/-- Brought into the range of sines. -/
def clT (n : Int) : Int := min (max n (-1000000000)) 1000000000
theorem clT_bd (n : Int) : -1000000000 ≤ clT n ∧ clT n ≤ 1000000000 := by unfold clT; omega
set_option maxHeartbeats 2000000 in
theorem arcSine_ok (n : Int) (w : World) : Calls Tryd.prog 68 #[.int .i64 n] w fun e w' => e = .returned (.float .f64 (asU (clT n))) ∧ w' = w := by
  have b := clT_bd n
  have ec : min (max n (-1000000000)) 1000000000 = clT n := rfl
  obtain ⟨i1, i2, -⟩ := asU_ok b
  have g1 := fop i1; have g2 := fop i2
  have S := Lib.hid (fun w => Sqrt_ok (x := floatOfInt .f64 (rx (clT n))) (rt_sqrt b) w)
  have A := Lib.hid (fun w => atan2_as b w)
  have er : fsqrt (floatOfInt .f64 (rx (clT n))) = rtW (clT n) := rfl
  rw [er] at S
  have x0 : 0 ≤ rx (clT n) ∧ rx (clT n) ≤ 1000000000000000000 := by
    by_cases c1 : clT n = 1000000000
    · rw [c1]; decide
    · by_cases c2 : clT n = -1000000000
      · rw [c2]; decide
      · have := rx_bd (n := clT n) (by omega) (by omega); omega
  have w1 : wrap64 (1000000000 - clT n) = 1000000000 - clT n := IntWalk.wrap64_in _ (by omega)
  have w2 : wrap64 (1000000000 + clT n) = 1000000000 + clT n := IntWalk.wrap64_in _ (by omega)
  have w3 : wrap64 ((1000000000 - clT n) * (1000000000 + clT n)) = rx (clT n) := by
    have : (1000000000 - clT n) * (1000000000 + clT n) = rx (clT n) := rfl
    rw [this]; exact IntWalk.wrap64_in _ (by omega)
  have ei : iw (clT n) = floatOfInt .f64 (clT n) := rfl
  rw [ei] at A
  clear i1 i2 b x0 er ei
  generalize asU (clT n) = u at *
  generalize asW (clT n) = v at *
  generalize rtW (clT n) = r at *
  obtain ⟨x, hx⟩ : ∃ x, x = rx (clT n) := ⟨_, rfl⟩
  rw [← hx] at S w3
  clear hx
  generalize clT n = c at *
  go_enter Tryd.func68, Tryd.ntmps68
  go_wp2_with fail
  refine Calls.mono (S.out _) ?_
  rintro e _ ⟨rfl, rfl⟩
  go_wp2_with fail
  refine Calls.mono (A.out _) ?_
  rintro e _ ⟨rfl, rfl⟩
  go_wp2_with fail
  go_ret
  exact ⟨rfl, rfl⟩
structure AsF (w0 w : World) (k q : Nat) (a b : Int) : Prop where
  q1 : SpBox w k a b
  q2 : SpBox w q 0 0
  bl : Below w0.heap.size w0 w
theorem AsF.below {w0 w w' : World} {k q : Nat} {a b : Int} (h : AsF w0 w k q a b) (hb : Below w.heap.size w w') : AsF w0 w' k q a b :=
  ⟨h.q1.below hb, h.q2.below hb, h.bl.trans (hb.mono h.bl.size)⟩
set_option maxRecDepth 100000 in
set_option maxHeartbeats 4000000 in
theorem ArcSin_ok (a b : Int) (w : World) (h : IvOk a b) : Calls Tryd.prog 24 #[.agg #[.int .i64 a, .int .i64 b]] w fun e w' => e = .returned (.tuple #[.agg #[.int .i64 (asLo (clT a)), .int .i64 (asHi (clT b))], .int .i64 0]) ∧ Below w.heap.size w w' := by
  have C := Lib.hid (fun w => check_ok a b w h)
  have S1 := Lib.hid (fun w => arcSine_ok a w)
  have S2 := Lib.hid (fun w => arcSine_ok b w)
  have A1 := Lib.hid (fun w => Around_ok (asU_around (clT_bd a)) w)
  have A2 := Lib.hid (fun w => Around_ok (asU_around (clT_bd b)) w)
  unfold asLo asHi
  clear h
  generalize asU (clT a) = ua at *
  generalize asU (clT b) = ub at *
  generalize aLo ua = p1 at *
  generalize aHi ua = p2 at *
  generalize aLo ub = q1 at *
  generalize aHi ub = q2 at *
  have fd0 : ∀ w, (Instr.field 24 (.agg #[.int .i64 p1, .int .i64 p2]) 0).run Tryd.prog w = .ok (.int .i64 p1) w := fun _ => by kernel_rfl
  have fd1 : ∀ w, (Instr.field 24 (.agg #[.int .i64 q1, .int .i64 q2]) 1).run Tryd.prog w = .ok (.int .i64 q2) w := fun _ => by kernel_rfl
  obtain ⟨lo, hlo⟩ : ∃ x, x = max p1 (-250000000) := ⟨_, rfl⟩
  obtain ⟨hi, hhi⟩ : ∃ x, x = min q2 250000000 := ⟨_, rfl⟩
  have e1 : max p1 (-250000000) = lo := hlo.symm
  have e2 : min q2 250000000 = hi := hhi.symm
  rw [← hlo, ← hhi]
  clear hlo hhi
  have b0 := SpBox.new w a b
  have b1 := SpBox.new (w.alloc (.cells #[.int .i64 a, .int .i64 b] 24)) 0 0
  obtain ⟨k, hk⟩ : ∃ b, b = w.heap.size := ⟨_, rfl⟩
  have e5 : (w.alloc (.cells #[.int .i64 a, .int .i64 b] 24)).heap.size = k + 1 := by simp [hk]
  rw [e5] at b1
  have HB0 := b0.alloc (.cells #[.int .i64 0, .int .i64 0] 24)
  rw [← hk] at HB0
  have hf := Lib.hid (show AsF w ((w.alloc (.cells #[.int .i64 a, .int .i64 b] 24)).alloc (.cells #[.int .i64 0, .int .i64 0] 24)) k (k + 1) a b from ⟨HB0, b1, (by repeat' (first | (with_reducible refine below_drewN ?_ _) | go_grown))⟩)
  have HK := Lib.hid hk
  have HE5 := Lib.hid e5
  clear b0 b1 e5 HB0
  go_enter Tryd.func24, Tryd.ntmps24
  go_upto_region 1 with fail
  (try rw [HE5.out])
  rw [← hk]
  clear hk
  obtain ⟨W, hW⟩ : ∃ W, W = (w.alloc (.cells #[.int .i64 a, .int .i64 b] 24)).alloc (.cells #[.int .i64 0, .int .i64 0] 24) := ⟨_, rfl⟩
  rw [← hW] at hf ⊢
  clear hW
  have c0 := hf.out.q1.c0; have c1 := hf.out.q1.c1; have cl := hf.out.q1.lt
  go_wp2_with fail
  refine Calls.mono (C.out _) ?_
  rintro e w1 ⟨rfl, hb⟩
  have hf1 := hf.out.below hb
  clear hb hf c0 c1 cl
  go_upto_region 4 with fail
  have hf : AsF w w1.drew k (k + 1) a b := ⟨hf1.q1, hf1.q2, hf1.bl.drew⟩
  clear hf1
  refine wp_region_G [(13, fun w' => AsF w w' k (k + 1) a b)] (by kernel_rfl) (heldC_one (fun _ => hf)) (fun hF => ?_)
  refine wpG_take (oi := ?oi63) (v := ?vv63) 0 _ ?hi63 (List.Mem.head _) ?hc63 ?hQ63 hF ?hw63 ?hy63 (fun hF => ?hh63)
  case hi63 => (simp only [List.getElem?_toArray, List.getElem?_cons_succ, List.getElem?_cons_zero]; rfl)
  case hc63 => kernel_rfl
  case hQ63 => exact fun _ _ _ h => h
  case hw63 => rfl
  case hy63 => (intro wz hz; skip; go_simp; try (with_reducible rfl))
  try simp only [Act.put, List.setIfInBounds_toArray, List.set_cons_zero, List.set_cons_succ]
  refine wpG_take (oi := ?oi64) (v := ?vv64) 1 _ ?hi64 (List.Mem.head _) ?hc64 ?hQ64 hF ?hw64 ?hy64 (fun hF => ?hh64)
  case hi64 => (simp only [List.getElem?_toArray, List.getElem?_cons_succ, List.getElem?_cons_zero]; rfl)
  case hc64 => kernel_rfl
  case hQ64 => exact fun _ _ _ h => h
  case hw64 => rfl
  case hy64 => (intro wz hz; have z0 := hz.q1.c0; go_simp; try (with_reducible rfl))
  try simp only [Act.put, List.setIfInBounds_toArray, List.set_cons_zero, List.set_cons_succ]
  refine wpG_take (oi := ?oi65) (v := ?vv65) 6 _ ?hi65 (List.Mem.head _) ?hc65 ?hQ65 hF ?hw65 ?hy65 (fun hF => ?hh65)
  case hi65 => (simp only [List.getElem?_toArray, List.getElem?_cons_succ, List.getElem?_cons_zero]; rfl)
  case hc65 => kernel_rfl
  case hQ65 => exact fun _ _ _ h => h
  case hw65 => rfl
  case hy65 => (intro wz hz; skip; go_simp; try (with_reducible rfl))
  try simp only [Act.put, List.setIfInBounds_toArray, List.set_cons_zero, List.set_cons_succ]
  refine wpG_take (oi := ?oi66) (v := ?vv66) 7 _ ?hi66 (List.Mem.head _) ?hc66 ?hQ66 hF ?hw66 ?hy66 (fun hF => ?hh66)
  case hi66 => (simp only [List.getElem?_toArray, List.getElem?_cons_succ, List.getElem?_cons_zero]; rfl)
  case hc66 => kernel_rfl
  case hQ66 => exact fun _ _ _ h => h
  case hw66 => rfl
  case hy66 => (intro wz hz; have z0 := hz.q1.c1; go_simp; try (with_reducible rfl))
  try simp only [Act.put, List.setIfInBounds_toArray, List.set_cons_zero, List.set_cons_succ]
  refine wpG_ready (rs := [2]) (by kernel_rfl) (by simp) ?_
  refine all_one ?_
  refine wpOp_hand (oi := ?oi67) ?hi67 (fun K hK => ?hh67)
  case hi67 => (simp only [List.getElem?_toArray, List.getElem?_cons_succ, List.getElem?_cons_zero]; rfl)
  go_simp
  refine Calls.mono (S1.out _) ?_
  rintro e yq2 ⟨rfl, hq⟩
  rw [hq]
  clear hq
  refine hK.out _ _ (heldC_one (fun _ => hf)) (fun hF => ?_)
  clear hK K
  try simp only [Act.put, List.setIfInBounds_toArray, List.set_cons_zero, List.set_cons_succ]
  refine wpG_ready (rs := [3]) (by kernel_rfl) (by simp) ?_
  refine all_one ?_
  refine wpOp_hand (oi := ?oi68) ?hi68 (fun K hK => ?hh68)
  case hi68 => (simp only [List.getElem?_toArray, List.getElem?_cons_succ, List.getElem?_cons_zero]; rfl)
  go_simp
  refine Calls.mono (A1.out _) ?_
  rintro e y3 ⟨rfl, hb⟩
  replace hf := hf.below hb
  clear hb
  refine hK.out _ _ (heldC_one (fun _ => hf)) (fun hF => ?_)
  clear hK K
  try simp only [Act.put, List.setIfInBounds_toArray, List.set_cons_zero, List.set_cons_succ]
  refine wpG_take (oi := ?oi69) (v := ?vv69) 4 _ ?hi69 (List.Mem.head _) ?hc69 ?hQ69 hF ?hw69 ?hy69 (fun hF => ?hh69)
  case hi69 => (simp only [List.getElem?_toArray, List.getElem?_cons_succ, List.getElem?_cons_zero]; rfl)
  case hc69 => kernel_rfl
  case hQ69 => exact fun _ _ _ h => h
  case hw69 => rfl
  case hy69 => (intro wz hz; skip; go_simp; try (with_reducible rfl))
  try simp only [Act.put, List.setIfInBounds_toArray, List.set_cons_zero, List.set_cons_succ]
  refine wpG_take (oi := ?oi70) (v := ?vv70) 5 _ ?hi70 (List.Mem.head _) ?hc70 ?hQ70 hF ?hw70 ?hy70 (fun hF => ?hh70)
  case hi70 => (simp only [List.getElem?_toArray, List.getElem?_cons_succ, List.getElem?_cons_zero]; rfl)
  case hc70 => kernel_rfl
  case hQ70 => exact fun _ _ _ h => h
  case hw70 => rfl
  case hy70 => (intro wz hz; skip; go_simp; try (with_reducible rfl))
  try simp only [Act.put, List.setIfInBounds_toArray, List.set_cons_zero, List.set_cons_succ]
  refine wpG_ready (rs := [8]) (by kernel_rfl) (by simp) ?_
  refine all_one ?_
  refine wpOp_hand (oi := ?oi71) ?hi71 (fun K hK => ?hh71)
  case hi71 => (simp only [List.getElem?_toArray, List.getElem?_cons_succ, List.getElem?_cons_zero]; rfl)
  go_simp
  refine Calls.mono (S2.out _) ?_
  rintro e yq8 ⟨rfl, hq⟩
  rw [hq]
  clear hq
  refine hK.out _ _ (heldC_one (fun _ => hf)) (fun hF => ?_)
  clear hK K
  try simp only [Act.put, List.setIfInBounds_toArray, List.set_cons_zero, List.set_cons_succ]
  refine wpG_ready (rs := [9]) (by kernel_rfl) (by simp) ?_
  refine all_one ?_
  refine wpOp_hand (oi := ?oi72) ?hi72 (fun K hK => ?hh72)
  case hi72 => (simp only [List.getElem?_toArray, List.getElem?_cons_succ, List.getElem?_cons_zero]; rfl)
  go_simp
  refine Calls.mono (A2.out _) ?_
  rintro e y9 ⟨rfl, hb⟩
  replace hf := hf.below hb
  clear hb
  refine hK.out _ _ (heldC_one (fun _ => hf)) (fun hF => ?_)
  clear hK K
  try simp only [Act.put, List.setIfInBounds_toArray, List.set_cons_zero, List.set_cons_succ]
  refine wpG_take (oi := ?oi73) (v := ?vv73) 10 _ ?hi73 (List.Mem.head _) ?hc73 ?hQ73 hF ?hw73 ?hy73 (fun hF => ?hh73)
  case hi73 => (simp only [List.getElem?_toArray, List.getElem?_cons_succ, List.getElem?_cons_zero]; rfl)
  case hc73 => kernel_rfl
  case hQ73 => exact fun _ _ _ h => h
  case hw73 => rfl
  case hy73 => (intro wz hz; skip; go_simp; try (with_reducible rfl))
  try simp only [Act.put, List.setIfInBounds_toArray, List.set_cons_zero, List.set_cons_succ]
  refine wpG_take (oi := ?oi74) (v := ?vv74) 11 _ ?hi74 (List.Mem.head _) ?hc74 ?hQ74 hF ?hw74 ?hy74 (fun hF => ?hh74)
  case hi74 => (simp only [List.getElem?_toArray, List.getElem?_cons_succ, List.getElem?_cons_zero]; rfl)
  case hc74 => kernel_rfl
  case hQ74 => exact fun _ _ _ h => h
  case hw74 => rfl
  case hy74 => (intro wz hz; skip; go_simp; try (with_reducible rfl))
  try simp only [Act.put, List.setIfInBounds_toArray, List.set_cons_zero, List.set_cons_succ]
  refine wpG_take (oi := ?oi75) (v := ?vv75) 12 _ ?hi75 (List.Mem.head _) ?hc75 ?hQ75 hF ?hw75 ?hy75 (fun hF => ?hh75)
  case hi75 => (simp only [List.getElem?_toArray, List.getElem?_cons_succ, List.getElem?_cons_zero]; rfl)
  case hc75 => kernel_rfl
  case hQ75 => exact fun _ _ _ h => h
  case hw75 => rfl
  case hy75 => (intro wz hz; skip; go_simp; try (with_reducible rfl))
  try simp only [Act.put, List.setIfInBounds_toArray, List.set_cons_zero, List.set_cons_succ]
  refine wpG_ready (rs := [13]) (by kernel_rfl) (by simp) ?_
  refine all_one ?_
  have x0 := hf.q2.c0; have x1 := hf.q2.c1; have f0 := hf.q2.free 0; have f1 := hf.q2.free 1; have xl := hf.q2.lt
  refine wpOp_hand (oi := ?oi76) ?hi76 (fun K hK => ?hh76)
  case hi76 => (simp only [List.getElem?_toArray, List.getElem?_cons_succ, List.getElem?_cons_zero]; rfl)
  go_simp
  refine hK.out _ _ (heldC_one (fun h => absurd h (by simp))) (fun hF => ?_)
  clear hK K
  try simp only [Act.put, List.setIfInBounds_toArray, List.set_cons_zero, List.set_cons_succ]
  refine wpG_ready (rs := [14]) (by kernel_rfl) (by simp) ?_
  refine all_one ?_
  refine wpOp_hand (oi := ?oi77) ?hi77 (fun K hK => ?hh77)
  case hi77 => (simp only [List.getElem?_toArray, List.getElem?_cons_succ, List.getElem?_cons_zero]; rfl)
  go_simp
  refine hK.out _ _ (heldC_one (fun h => absurd h (by simp))) (fun hF => ?_)
  clear hK K
  try simp only [Act.put, List.setIfInBounds_toArray, List.set_cons_zero, List.set_cons_succ]
  refine wpG_done (by kernel_rfl) ?_ _
  go_wp2_with fail
  refine bodyPost_ret (v := .tuple #[.agg #[.int .i64 lo, .int .i64 hi], .int .i64 0]) ?_ rfl ⟨rfl, ?_⟩
  · simp [results, Tryd.results24, go_sem, *]
  · have := HK.out
    exact (hf.bl.setCell (p := ⟨k + 1, 0, none⟩) (by dsimp only; omega) _).setCell (p := ⟨k + 1, 1, none⟩) (by dsimp only; omega) _
end Go.Proofs.YtdeoahgcppbmkaaDoor
