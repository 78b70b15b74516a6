/- sFrac: a fraction in lowest terms. -/
import Derived.Test.YtdifeoahaegjbaaGreatDoorTMul
import Derived.Test.YtdifeoahaegjbaaGreatDoorReg
namespace Go.Proofs.YtdifeoahaegjbaaGreatDoor
open Go.RowKit
set_option linter.unusedSimpArgs false
set_option linter.unusedVariables false

/-- A coordinate of a point of the statement's figures. -/
structure FrP (n d : Int) : Prop where
  s : FrS n d
  n : -500 ≤ n ∧ n ≤ 500
  d : d ≤ 9
theorem FrP.neg {n d : Int} (h : FrP n d) : FrP (-n) d := ⟨h.s.neg, by have := h.n; omega, h.d⟩

set_option maxRecDepth 100000 in
set_option maxHeartbeats 4000000 in
theorem sFrac_ok (n d : Int) (w : World) (hn : -500 ≤ n ∧ n ≤ 500) (hd : 1 ≤ d ∧ d ≤ 9) :
    Calls Tryz.prog 6 #[.int .i64 n, .int .i64 d] w fun e w' => ∃ a b : Int, e = .returned (.agg #[.int .i64 a, .int .i64 b]) ∧ FrP a b ∧ Below w.heap.size w w' := by
  obtain ⟨x, hx⟩ : ∃ x : Nat, x = n.natAbs := ⟨_, rfl⟩
  obtain ⟨y, hy⟩ : ∃ y : Nat, y = d.natAbs := ⟨_, rfl⟩
  obtain ⟨g, hg⟩ : ∃ g : Nat, Nat.gcd x y = g := ⟨_, rfl⟩
  have hyd : (y : Int) = d := by omega
  have hg1 : 0 < g := by rw [← hg]; exact Nat.gcd_pos_of_pos_right _ (by omega)
  have hgx : (g : Int) ∣ n := by
    rw [← Int.dvd_natAbs, ← hx, ← hg]; exact Int.natCast_dvd_natCast.2 (Nat.gcd_dvd_left x y)
  have hgy : (g : Int) ∣ d := by
    rw [← hyd, ← hg]; exact Int.natCast_dvd_natCast.2 (Nat.gcd_dvd_right x y)
  obtain ⟨a, ha⟩ := hgx
  obtain ⟨b, hb⟩ := hgy
  have q1 : n.tdiv (g : Int) = a := by rw [ha]; exact Int.mul_tdiv_cancel_left _ (by omega)
  have q2 : d.tdiv (g : Int) = b := by rw [hb]; exact Int.mul_tdiv_cancel_left _ (by omega)
  have hP : FrP a b := by
    have hb1 : 1 ≤ b := by
      rcases Int.lt_or_le 0 b with h | h
      · omega
      · have := Int.mul_nonpos_of_nonneg_of_nonpos (show (0 : Int) ≤ (g : Int) by omega) h; omega
    have hb9 : b ≤ d := by
      have h1 : b * 1 ≤ b * (g : Int) := Int.mul_le_mul_of_nonneg_left (by omega) (by omega)
      rw [Int.mul_comm b (g : Int)] at h1; omega
    have han : a.natAbs ≤ n.natAbs := by
      rw [ha, Int.natAbs_mul, Int.natAbs_natCast]; exact Nat.le_mul_of_pos_left _ hg1
    have hgc : Int.gcd a b = 1 := by
      have h1 : Int.gcd n d = g := by rw [← hg, hx, hy]; rfl
      rw [ha, hb, Int.gcd_mul_left, Int.natAbs_natCast] at h1
      exact Nat.eq_of_mul_eq_mul_left hg1 (by rw [h1, Nat.mul_one])
    exact ⟨⟨⟨hb1, by omega, by omega, by omega, hgc⟩, by omega, by omega⟩, by omega, by omega⟩
  have HP := Lib.hid hP; have HQ1 := Lib.hid q1; have HQ2 := Lib.hid q2; have HG := Lib.hid hg; have HG1 := Lib.hid hg1
  have HX := Lib.hid (show (x : Int) = max n (-n) ∧ x ≤ 500 by omega); have HY := Lib.hid (show (y : Int) = d ∧ y ≤ 9 by omega)
  have wn : IntKind.i64.wrap (-n) = -n := IntWalk.i64_in _ (by omega)
  have wn' : wrap64 (-n) = -n := IntWalk.wrap64_in _ (by omega)
  have mx : max n (-n) = (x : Int) := by omega
  clear hx hy hg hyd hg1 ha hb q1 q2 hP hn hd
  go_enter Tryz.func6, Tryz.ntmps6
  go_wp2_with fail
  have B0 := Lib.hid (FrBox.new w 0 0)
  have hb0 := Lib.hid ((Below.refl w.heap.size w).alloc (Nat.le_refl _) (.cells #[.int .i64 0, .int .i64 0] 30))
  go_loopw [5, 6] (fun u v wv => ∃ p q : Nat, u = .int .i64 p ∧ v = .int .i64 q ∧ p ≤ 500 ∧ q ≤ 500 ∧ Hid (Nat.gcd p q = g) ∧ FrBox wv w.heap.size 0 0 ∧ Below w.heap.size w wv) (fun _ v _ => (intOf v).toNat)
  case atStart => exact ⟨x, y, by first | rfl | (rw [mx]) | simp [mx], by rw [HY.out.1], HX.out.2, by have := HY.out.2; omega, HG, B0.out, hb0.out⟩
  case round =>
    clear B0 hb0
    obtain ⟨p, q, rfl, rfl, hp, hq, hpq, hB, hb⟩ := hrel
    have HB := Lib.hid hB; have Hb := Lib.hid hb
    clear hB hb
    by_cases h : q = 0
    · subst h
      obtain rfl : p = g := by have := hpq.out; rwa [Nat.gcd_zero_right] at this
      have g0 : ((p : Int) == 0) = false := by have := HG1.out; simp; omega
      have g00 : ¬ (p : Int) = 0 := by have := HG1.out; omega
      have g000 : ¬ p = 0 := by have := HG1.out; omega
      have q1 := HQ1.out; have q2 := HQ2.out
      have a1 := HP.out.n; have b1 := HP.out.d; have b2 := HP.out.s.ok.d1
      have wa : IntKind.i64.wrap a = a := IntWalk.i64_in _ (by omega)
      have wb : IntKind.i64.wrap b = b := IntWalk.i64_in _ (by omega)
      have wa' : wrap64 a = a := IntWalk.wrap64_in _ (by omega)
      have wb' : wrap64 b = b := IntWalk.wrap64_in _ (by omega)
      have x0 := HB.out.c0; have x1 := HB.out.c1; have xl := HB.out.lt; have xf0 := HB.out.free 0; have xf1 := HB.out.free 1
      go_wp2_with fail
      clear xl xf0 xf1 x0 x1
      obtain ⟨X, hX⟩ : ∃ X, X = wr.drew := ⟨_, rfl⟩
      have bX : Below wr.heap.size wr X := by rw [hX]; exact (Below.refl _ _).drew
      have BX := Lib.hid (HB.out.below bX); have HbX := Lib.hid (Hb.out.trans (bX.mono Hb.out.size))
      refine wp_region_G [(7, fun w' => FrBox w' w.heap.size 0 0)] (by kernel_rfl) (heldC_one (fun _ => by rw [← hX]; exact BX.out)) (fun hF => ?_)
      rw [← hX] at hF ⊢
      clear hX bX HB Hb
      refine wpG_takeC (oi := ?oi9) (v := ?vv9) 0 _ [6,2] ?hi9 (List.Mem.head _) ?hc9 ?hQ9 hF ?hw9 ?hy9 (fun hF => ?hh9)
      case hi9 => (simp only [List.getElem?_toArray, List.getElem?_cons_succ, List.getElem?_cons_zero]; rfl)
      case hc9 => kernel_rfl
      case hQ9 => exact fun _ _ _ h => h
      case hw9 => rfl
      case hy9 => (intro wz hz; skip; go_simp; try (with_reducible rfl))
      try simp only [Act.put, List.setIfInBounds_toArray, List.set_cons_zero, List.set_cons_succ]
      refine wpG_takeC (oi := ?oi10) (v := ?vv10) 1 _ [6,2] ?hi10 (List.Mem.head _) ?hc10 ?hQ10 hF ?hw10 ?hy10 (fun hF => ?hh10)
      case hi10 => (simp only [List.getElem?_toArray, List.getElem?_cons_succ, List.getElem?_cons_zero]; rfl)
      case hc10 => kernel_rfl
      case hQ10 => exact fun _ _ _ h => h
      case hw10 => rfl
      case hy10 => (intro wz hz; skip; go_simp; try (with_reducible rfl))
      try simp only [Act.put, List.setIfInBounds_toArray, List.set_cons_zero, List.set_cons_succ]
      refine wpG_takeC (oi := ?oi11) (v := ?vv11) 2 _ [6] ?hi11 (List.Mem.head _) ?hc11 ?hQ11 hF ?hw11 ?hy11 (fun hF => ?hh11)
      case hi11 => (simp only [List.getElem?_toArray, List.getElem?_cons_succ, List.getElem?_cons_zero]; rfl)
      case hc11 => kernel_rfl
      case hQ11 => exact fun _ _ _ h => h
      case hw11 => rfl
      case hy11 => (intro wz hz; skip; go_simp; try (with_reducible rfl))
      try simp only [Act.put, List.setIfInBounds_toArray, List.set_cons_zero, List.set_cons_succ]
      refine wpG_takeC (oi := ?oi12) (v := ?vv12) 3 _ [6,5] ?hi12 (List.Mem.head _) ?hc12 ?hQ12 hF ?hw12 ?hy12 (fun hF => ?hh12)
      case hi12 => (simp only [List.getElem?_toArray, List.getElem?_cons_succ, List.getElem?_cons_zero]; rfl)
      case hc12 => kernel_rfl
      case hQ12 => exact fun _ _ _ h => h
      case hw12 => rfl
      case hy12 => (intro wz hz; skip; go_simp; try (with_reducible rfl))
      try simp only [Act.put, List.setIfInBounds_toArray, List.set_cons_zero, List.set_cons_succ]
      refine wpG_takeC (oi := ?oi13) (v := ?vv13) 4 _ [6,5] ?hi13 (List.Mem.head _) ?hc13 ?hQ13 hF ?hw13 ?hy13 (fun hF => ?hh13)
      case hi13 => (simp only [List.getElem?_toArray, List.getElem?_cons_succ, List.getElem?_cons_zero]; rfl)
      case hc13 => kernel_rfl
      case hQ13 => exact fun _ _ _ h => h
      case hw13 => rfl
      case hy13 => (intro wz hz; skip; go_simp; try (with_reducible rfl))
      try simp only [Act.put, List.setIfInBounds_toArray, List.set_cons_zero, List.set_cons_succ]
      refine wpG_takeC (oi := ?oi14) (v := ?vv14) 5 _ [6] ?hi14 (List.Mem.head _) ?hc14 ?hQ14 hF ?hw14 ?hy14 (fun hF => ?hh14)
      case hi14 => (simp only [List.getElem?_toArray, List.getElem?_cons_succ, List.getElem?_cons_zero]; rfl)
      case hc14 => kernel_rfl
      case hQ14 => exact fun _ _ _ h => h
      case hw14 => rfl
      case hy14 => (intro wz hz; skip; go_simp; try (with_reducible rfl))
      try simp only [Act.put, List.setIfInBounds_toArray, List.set_cons_zero, List.set_cons_succ]
      refine wpG_take (oi := ?oi15) (v := ?vv15) 6 _ ?hi15 (List.Mem.head _) ?hc15 ?hQ15 hF ?hw15 ?hy15 (fun hF => ?hh15)
      case hi15 => (simp only [List.getElem?_toArray, List.getElem?_cons_succ, List.getElem?_cons_zero]; rfl)
      case hc15 => kernel_rfl
      case hQ15 => exact fun _ _ _ h => h
      case hw15 => rfl
      case hy15 => (intro wz hz; skip; go_simp; try (with_reducible rfl))
      try simp only [Act.put, List.setIfInBounds_toArray, List.set_cons_zero, List.set_cons_succ]
      refine wpG_ready (rs := [7]) (by kernel_rfl) (by simp) ?_
      refine all_one ?_
      have g0 := BX.out.c0; have g1 := BX.out.c1; have gl := BX.out.lt; have gf0 := BX.out.free 0; have gf1 := BX.out.free 1
      refine wpOp_hand (oi := ?oi16) ?hi16 (fun K hK => ?hh16)
      case hi16 => (simp only [List.getElem?_toArray, List.getElem?_cons_succ, List.getElem?_cons_zero]; rfl)
      go_simp
      refine hK.out _ _ (heldC_one (fun h => absurd h (by simp))) (fun hF => ?_)
      clear hK K
      try simp only [Act.put, List.setIfInBounds_toArray, List.set_cons_zero, List.set_cons_succ]
      refine wpG_done (by kernel_rfl) ?_ _
      clear hF
      have R := (BX.out.set a b)
      have hbl := (HbX.out.setCell (p := ⟨w.heap.size, 0, none⟩) (Nat.le_refl _) (.int .i64 a)).setCell (p := ⟨w.heap.size, 1, none⟩) (Nat.le_refl _) (.int .i64 b)
      have r0 := R.c0; have r1 := R.c1; have rl := R.lt
      clear g0 g1 gl gf0 gf1 BX HbX R
      go_wp2_with fail
      refine bodyPost_ret (v := .agg #[.int .i64 a, .int .i64 b]) ?_ rfl ⟨a, b, rfl, HP.out, hbl⟩
      simp [results, Tryz.results6, go_sem, *]
    · have q0 : ((q : Int) != 0) = true := by simp; omega
      have q1 : ((q : Int) == 0) = false := by simp; omega
      have hm : (p : Int).tmod (q : Int) = ((p % q : Nat) : Int) := by rw [Int.tmod_eq_emod_of_nonneg (by omega)]; rfl
      have hl := Nat.mod_lt p (show 0 < q by omega)
      have hs : Hid (Nat.gcd q (p % q) = g) := Lib.hid (by rw [← hpq.out, Nat.gcd_comm q, ← Nat.gcd_rec, Nat.gcd_comm])
      have hle := Nat.mod_le p q
      have HM := Lib.hid hm
      clear hm
      go_wp2_with fail
      go_quiet (fail)
      go_wp2_with fail
      refine ⟨⟨q, p % q, rfl, by rw [Int.natCast_emod], hq, by omega, hs, HB.out.below (below_drewN (Below.refl _ _) _), below_drewN Hb.out _⟩, ?_⟩
      have e1 : ((p : Int) % (q : Int)) = ((p % q : Nat) : Int) := rfl
      show ((p : Int) % (q : Int)).toNat < ((q : Nat) : Int).toNat
      rw [e1]
      omega
end Go.Proofs.YtdifeoahaegjbaaGreatDoor
