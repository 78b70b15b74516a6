/- TopFigures, the walk: a figure that is turned by four quarters has the same text, and its text is read as the figure. -/
import Derived.Test.YtdifeoahaegjbaaGreatDoorTReadF
import Derived.Test.YtdifeoahaegjbaaGreatDoorTopSky
import Derived.Deep.DeepCutAuto
namespace Go.Proofs.YtdifeoahaegjbaaGreatDoor
open Go.RowKit
set_option linter.unusedSimpArgs false
set_option linter.unusedVariables false

theorem ptsL_same {zs zs' : List Int} : ∀ n, (∀ i, i < n → ix zs (i * 4) = ix zs' (i * 4) ∧ ix zs (i * 4 + 1) = ix zs' (i * 4 + 1) ∧ ix zs (i * 4 + 2) = ix zs' (i * 4 + 2) ∧ ix zs (i * 4 + 3) = ix zs' (i * 4 + 3)) → ptsL zs n = ptsL zs' n
  | 0, _ => rfl
  | n + 1, h => by
    obtain ⟨a, b, c, d⟩ := h n (by omega)
    show ptsL zs n ++ ptL zs n = ptsL zs' n ++ ptL zs' n
    rw [ptsL_same n (fun i hi => h i (by omega))]
    unfold ptL
    rw [a, b, c, d]
def turnIt (zs : List Int) (n : Nat) : Nat → List Int
  | 0 => zs
  | i + 1 => turnZ (turnIt zs n i) n
theorem turn_at (zs : List Int) (n : Nat) {j : Nat} (h : j < n) : ix (turnZ zs n) (j * 4) = -(ix zs (j * 4 + 2)) ∧ ix (turnZ zs n) (j * 4 + 1) = ix zs (j * 4 + 3) ∧ ix (turnZ zs n) (j * 4 + 2) = ix zs (j * 4) ∧ ix (turnZ zs n) (j * 4 + 3) = ix zs (j * 4 + 1) := pt4_at _ _ _ _ n j h
theorem turn_four (zs : List Int) (n m : Nat) : figNT (turnIt zs n 4) n m = figNT zs n m := by
  unfold figNT figNL
  rw [ptsL_same (zs := turnIt zs n 4) (zs' := zs) n (fun j hj => ?_)]
  obtain ⟨a1, a2, a3, a4⟩ := turn_at zs n hj
  obtain ⟨b1, b2, b3, b4⟩ := turn_at (turnZ zs n) n hj
  obtain ⟨c1, c2, c3, c4⟩ := turn_at (turnZ (turnZ zs n) n) n hj
  obtain ⟨d1, d2, d3, d4⟩ := turn_at (turnZ (turnZ (turnZ zs n) n) n) n hj
  show ix (turnZ (turnZ (turnZ (turnZ zs n) n) n) n) (j * 4) = _ ∧ ix (turnZ (turnZ (turnZ (turnZ zs n) n) n) n) (j * 4 + 1) = _ ∧ ix (turnZ (turnZ (turnZ (turnZ zs n) n) n) n) (j * 4 + 2) = _ ∧ ix (turnZ (turnZ (turnZ (turnZ zs n) n) n) n) (j * 4 + 3) = _
  rw [d1, d2, d3, d4, c1, c2, c3, c4, b1, b2, b3, b4, a1, a2, a3, a4]
  simp
theorem copy_same (zs : List Int) (n m : Nat) : figNT (copyZ zs n) n m = figNT zs n m := by
  unfold figNT figNL
  rw [ptsL_same (zs := copyZ zs n) (zs' := zs) n (fun j hj => pt4_at _ _ _ _ n j hj)]
/-- The first p points. -/
def PtsOk (zs : List Int) (p : Nat) : Prop := zs.length = p * 4 ∧ ∀ i, i < p → FrP (ix zs (i * 4)) (ix zs (i * 4 + 1)) ∧ FrP (ix zs (i * 4 + 2)) (ix zs (i * 4 + 3))
theorem PtsOk.nil : PtsOk [] 0 := ⟨rfl, fun i hi => absurd hi (by omega)⟩
theorem PtsOk.add {zs : List Int} {p : Nat} {a b c d : Int} (h : PtsOk zs p) (h1 : FrP a b) (h2 : FrP c d) : PtsOk (zs ++ [a, b, c, d]) (p + 1) := by
  have hl := h.1
  refine ⟨by rw [List.length_append, hl]; simp; omega, fun i hi => ?_⟩
  by_cases e : i = p
  · subst e
    rw [ix_right (l := zs) 0 (by omega), ix_right (l := zs) 1 (by omega), ix_right (l := zs) 2 (by omega), ix_right (l := zs) 3 (by omega)]
    exact ⟨h1, h2⟩
  · rw [ix_left (l := zs) (by omega), ix_left (l := zs) (by omega), ix_left (l := zs) (by omega), ix_left (l := zs) (by omega)]
    exact h.2 i (by omega)

theorem maxLen_eq : maxLen = 9223372036854775807 := by kernel_rfl
theorem flat_cap {w : World} {sz : Nat} {A : Option Addr} {n c : Nat} {zs : List Int} (h : FlatSl w sz A n c zs) : n ≤ c ∧ n ≤ 9223372036854775807 := ⟨h.le, Nat.le_trans h.le (by rw [← maxLen_eq]; exact h.most)⟩
theorem fTurn_lit (A : Option Addr) (n c : Nat) (zs : List Int) (B : Option Addr) (m bc : Nat) (w : World) (h : FigN w A n c zs B m bc) :
    Calls Tryz.prog 8 #[.agg #[.slice A n c, .slice B m bc], .agg #[.int .i64 0, .int .i64 1, .int .i64 (-1), .int .i64 1, .int .i64 0, .int .i64 1, .int .i64 1, .int .i64 1, .int .i64 0, .int .i64 1, .int .i64 0, .int .i64 1]] w (TurnPost n m (turnZ zs n) w) :=
  fTurned_ok A n c zs B m bc turnM w h (fun _ _ => rfl)
theorem text_as (A : Option Addr) (n c : Nat) (zs : List Int) (B : Option Addr) (m bc : Nat) (S : ByteArray) (w : World) (ht : Tab w) (h : FigN w A n c zs B m bc) (hS : figNT zs n m = S) :
    Calls Tryz.prog 7 #[.agg #[.slice A n c, .slice B m bc]] w fun e w' => e = .returned (.tuple #[.string S, .int .i64 0]) ∧ Below w.heap.size w w' := by
  rw [← hS]; exact textN_ok A n c zs B m bc w ht h
set_option maxRecDepth 100000 in
set_option maxHeartbeats 16000000 in
theorem topFigures_walk (A1 : Option Addr) (n1 c1 : Nat) (xs : List Int) (A2 : Option Addr) (n2 c2 : Nat) (ys : List Int) (d0 : Int) (w : World) (hh : SinT w ∧ Rd w) (h1 : FlatSl w 1 A1 n1 c1 xs) (h2 : FlatSl w 1 A2 n2 c2 ys) :
    Calls Tryz.prog 3 #[.slice A1 n1 c1, .slice A2 n2 c2, .int .i64 d0] w fun e w' => e = .returned (.bool true) ∧ Below w.heap.size w w' := by
  obtain ⟨iP, hP0, hP1, hP2, hP3⟩ := info_parts infoPt
  obtain ⟨iR, hR0, hR1, hR2, hR3⟩ := info_parts infoRw
  have HSK := Lib.hid (sSky_ok w hh.1)
  have HR := Lib.hid hh.2; have H1 := Lib.hid h1; have H2 := Lib.hid h2
  have HN1 := Lib.hid (flat_cap h1); have HN2 := Lib.hid (flat_cap h2)
  have HAT := Lib.hid (fun W => sat_any d0 9 W (by omega) (by omega))
  obtain ⟨e, he⟩ : ∃ e, e = d0 % 9 := ⟨_, rfl⟩
  have e0 : 0 ≤ e ∧ e ≤ 8 := by omega
  rw [← he] at HAT
  have ew : wrap64 (1 + e) = 1 + e := IntWalk.wrap64_in _ (by omega)
  have ew' : IntKind.i64.wrap (1 + e) = 1 + e := IntWalk.i64_in _ (by omega)
  clear hh h1 h2 he
  go_enter Tryz.func3, Tryz.ntmps3
  go_wp2_with fail
  refine Calls.mono HSK.out ?_
  rintro er w1 ⟨rfl, hb⟩
  have Hb1 := Lib.hid hb
  clear hb HSK
  go_wp2_with fail
  refine Calls.mono (HAT.out _) ?_
  rintro er w1 ⟨rfl, rfl⟩
  go_upto_region 5 with fail
  obtain ⟨D, hD⟩ : ∃ D, D = 1 + e := ⟨_, rfl⟩
  have HD := Lib.hid (show 1 ≤ D ∧ D ≤ 9 by omega)
  obtain ⟨kf, hkf⟩ : ∃ b, b = w1.heap.size := ⟨_, rfl⟩
  have hF0 := FgBox.new w1 (.slice none 0 0) (.slice none 0 0)
  have hb0 := Hb1.out.alloc Hb1.out.size (.cells #[.slice none 0 0, .slice none 0 0] 28)
  have hsz0 : (w1.alloc (.cells #[.slice none 0 0, .slice none 0 0] 28)).heap.size = kf + 1 := by rw [hkf]; simp
  have hwk : w.heap.size ≤ kf := by rw [hkf]; exact Hb1.out.size
  obtain ⟨V, hV⟩ : ∃ V, V = w1.alloc (.cells #[.slice none 0 0, .slice none 0 0] 28) := ⟨_, rfl⟩
  rw [← hkf, ← hV] at hF0
  rw [← hV] at hb0 hsz0 ⊢
  rw [← hkf, ← hD]
  have HF0 := Lib.hid hF0; have HB0 := Lib.hid hb0; have HWK := Lib.hid hwk
  clear hD e0 ew ew' hkf hV hF0 hb0 Hb1 hwk HAT
  go_wp2_with fail
  go_loopw [33] (fun i' wv => ∃ (i p : Nat) (zs : List Int) (u : Value), i ≤ n1 ∧ i' = .int .i64 i ∧ p ≤ i ∧ p ≤ 12 ∧ Hid (PtsOk zs p) ∧ wv.ownsRow (kf + 1) 33 4 u p (zs.map (Value.int .i64)) ∧ FgBox wv kf u (.slice none 0 0) ∧ kf + 1 ≤ wv.heap.size ∧ Below w.heap.size w wv) (fun i' _ => n1 - (intOf i').toNat)
  case atStart => exact ⟨0, 0, [], .slice none 0 0, by omega, rfl, by omega, by omega, Lib.hid PtsOk.nil, World.ownsRow_nil _ _ _ _, HF0.out, by omega, HB0.out⟩
  case round =>
    clear HF0 HB0 hsz0
    obtain ⟨i, p, zs, u, hi, rfl, hpi, hp12, HPT, hown, hF, hsz, hb⟩ := hrel
    have HO := Lib.hid hown; have HF := Lib.hid hF; have Hb := Lib.hid hb; have HPI := Lib.hid (And.intro hpi hp12)
    clear hown hF hb hpi hp12
    by_cases hin : i < n1
    · have i0 : (0 : Int) ≤ (i : Int) := by omega
      have i1 : (i : Int) < (n1 : Int) := by omega
      have i2 : (i : Int) < (c1 : Int) := by have := HN1.out.1; omega
      obtain ⟨q, o, hA, hc⟩ := (H1.out.stay (by omega) Hb.out).at' (by omega)
      have x0 := hc i (by omega)
      obtain ⟨x, hx⟩ : ∃ x, x = ix xs i := ⟨_, rfl⟩
      rw [← hx] at x0
      have iw : IntKind.i64.wrap ((i : Int) + 1) = (i : Int) + 1 := IntWalk.i64_in _ (by have h := HN1.out.2; omega)
      subst hA
      clear hc hx
      by_cases h2 : i < n2
      · have j1 : (i : Int) < (n2 : Int) := by omega
        by_cases h12 : i < 12
        · have j2 : (i : Int) < (c2 : Int) := by have := HN2.out.1; omega
          have j3 : (i : Int) < 12 := by omega
          obtain ⟨q2, o2, hA2, hc2⟩ := (H2.out.stay (by omega) Hb.out).at' (by omega)
          have y0 := hc2 i (by omega)
          obtain ⟨y, hy⟩ : ∃ x, x = ix ys i := ⟨_, rfl⟩
          rw [← hy] at y0
          obtain ⟨a, ha⟩ : ∃ a, a = x.tmod 500 := ⟨_, rfl⟩
          obtain ⟨b, hbb⟩ : ∃ a, a = y.tmod 500 := ⟨_, rfl⟩
          have ab : -500 ≤ a ∧ a ≤ 500 := by have := Int.lt_tmod_of_pos x (show (0 : Int) < 500 by omega); have := Int.tmod_lt_of_pos x (show (0 : Int) < 500 by omega); omega
          have bb : -500 ≤ b ∧ b ≤ 500 := by have := Int.lt_tmod_of_pos y (show (0 : Int) < 500 by omega); have := Int.tmod_lt_of_pos y (show (0 : Int) < 500 by omega); omega
          have qa := ha.symm; have qb := hbb.symm
          have HSA := Lib.hid (fun W => sFrac_ok a D W ab HD.out); have HSB := Lib.hid (fun W => sFrac_ok b D W bb HD.out)
          subst hA2
          clear hc2 hy ha hbb ab bb
          go_wp2_with fail
          go_quiet (fail)
          obtain ⟨X, hX⟩ : ∃ X, X = wr.drewN nq := ⟨_, rfl⟩
          have bX : Below wr.heap.size wr X := by rw [hX]; exact below_drewN (Below.refl _ _) nq
          have FX := Lib.hid (HF.out.below bX); have OX := Lib.hid (own_below HO.out bX); have BX := Lib.hid (Hb.out.trans (bX.mono Hb.out.size))
          have sX := Nat.le_trans hsz bX.size
          rw [← hX]
          clear hX bX HF HO Hb hsz x0 y0 qa qb
          go_wp2_with fail
          obtain ⟨Y, hY⟩ : ∃ Y, Y = X.drew := ⟨_, rfl⟩
          have bY : Below X.heap.size X Y := by rw [hY]; exact (Below.refl _ _).drew
          have FY := Lib.hid (FX.out.below bY); have OY := Lib.hid (own_below OX.out bY); have BY := Lib.hid (BX.out.trans (bY.mono BX.out.size))
          have sY := Nat.le_trans sX bY.size
          refine wp_region_G [(12, fun w' => FgBox w' kf u (.slice none 0 0))] (by kernel_rfl) (heldC_one (fun _ => by rw [← hY]; exact FY.out)) (fun hF => ?_)
          rw [← hY] at hF ⊢
          clear hY bY FX OX BX sX
          refine wpG_take (oi := ?oi25) (v := ?vv25) 0 _ ?hi25 (List.Mem.head _) ?hc25 ?hQ25 hF ?hw25 ?hy25 (fun hF => ?hh25)
          case hi25 => (simp only [List.getElem?_toArray, List.getElem?_cons_succ, List.getElem?_cons_zero]; rfl)
          case hc25 => kernel_rfl
          case hQ25 => exact fun _ _ _ h => h
          case hw25 => rfl
          case hy25 => (intro wz hz; skip; go_simp; try (with_reducible rfl))
          try simp only [Act.put, List.setIfInBounds_toArray, List.set_cons_zero, List.set_cons_succ]
          refine wpG_take (oi := ?oi26) (v := ?vv26) 1 _ ?hi26 (List.Mem.head _) ?hc26 ?hQ26 hF ?hw26 ?hy26 (fun hF => ?hh26)
          case hi26 => (simp only [List.getElem?_toArray, List.getElem?_cons_succ, List.getElem?_cons_zero]; rfl)
          case hc26 => kernel_rfl
          case hQ26 => exact fun _ _ _ h => h
          case hw26 => rfl
          case hy26 => (intro wz hz; have zc := hz.c0; go_simp; try (with_reducible rfl))
          try simp only [Act.put, List.setIfInBounds_toArray, List.set_cons_zero, List.set_cons_succ]
          refine wpG_take (oi := ?oi27) (v := ?vv27) 2 _ ?hi27 (List.Mem.head _) ?hc27 ?hQ27 hF ?hw27 ?hy27 (fun hF => ?hh27)
          case hi27 => (simp only [List.getElem?_toArray, List.getElem?_cons_succ, List.getElem?_cons_zero]; rfl)
          case hc27 => kernel_rfl
          case hQ27 => exact fun _ _ _ h => h
          case hw27 => rfl
          case hy27 => (intro wz hz; skip; go_simp; try (with_reducible rfl))
          try simp only [Act.put, List.setIfInBounds_toArray, List.set_cons_zero, List.set_cons_succ]
          refine wpG_take (oi := ?oi28) (v := ?vv28) 3 _ ?hi28 (List.Mem.head _) ?hc28 ?hQ28 hF ?hw28 ?hy28 (fun hF => ?hh28)
          case hi28 => (simp only [List.getElem?_toArray, List.getElem?_cons_succ, List.getElem?_cons_zero]; rfl)
          case hc28 => kernel_rfl
          case hQ28 => exact fun _ _ _ h => h
          case hw28 => rfl
          case hy28 => (intro wz hz; skip; go_simp; try (with_reducible rfl))
          try simp only [Act.put, List.setIfInBounds_toArray, List.set_cons_zero, List.set_cons_succ]
          refine wpG_take (oi := ?oi29) (v := ?vv29) 5 _ ?hi29 (List.Mem.head _) ?hc29 ?hQ29 hF ?hw29 ?hy29 (fun hF => ?hh29)
          case hi29 => (simp only [List.getElem?_toArray, List.getElem?_cons_succ, List.getElem?_cons_zero]; rfl)
          case hc29 => kernel_rfl
          case hQ29 => exact fun _ _ _ h => h
          case hw29 => rfl
          case hy29 => (intro wz hz; skip; go_simp; try (with_reducible rfl))
          try simp only [Act.put, List.setIfInBounds_toArray, List.set_cons_zero, List.set_cons_succ]
          refine wpG_take (oi := ?oi30) (v := ?vv30) 6 _ ?hi30 (List.Mem.head _) ?hc30 ?hQ30 hF ?hw30 ?hy30 (fun hF => ?hh30)
          case hi30 => (simp only [List.getElem?_toArray, List.getElem?_cons_succ, List.getElem?_cons_zero]; rfl)
          case hc30 => kernel_rfl
          case hQ30 => exact fun _ _ _ h => h
          case hw30 => rfl
          case hy30 => (intro wz hz; skip; go_simp; try (with_reducible rfl))
          try simp only [Act.put, List.setIfInBounds_toArray, List.set_cons_zero, List.set_cons_succ]
          refine wpG_ready (rs := [4]) (by kernel_rfl) (by simp) ?_
          refine all_one ?_
          refine wpOp_hand (oi := ?oi31) ?hi31 (fun K hK => ?hh31)
          case hi31 => (simp only [List.getElem?_toArray, List.getElem?_cons_succ, List.getElem?_cons_zero]; rfl)
          go_simp
          go_at_call 6
          refine Calls.mono (HSA.out _) ?_
          rintro er w2 ⟨fa, fb, rfl, hfr, hb⟩
          have F2 := Lib.hid (FY.out.below hb); have O2 := Lib.hid (own_below OY.out hb); have B2 := Lib.hid (BY.out.trans (hb.mono BY.out.size))
          have s2 := Nat.le_trans sY hb.size
          have HFA := Lib.hid hfr
          clear hb hfr FY OY BY sY HSA
          go_simp
          refine hK.out _ _ (heldC_one (fun _ => F2.out)) (fun hF => ?_)
          clear hK K
          try simp only [Act.put, List.setIfInBounds_toArray, List.set_cons_zero, List.set_cons_succ]
          refine wpG_ready (rs := [7]) (by kernel_rfl) (by simp) ?_
          refine all_one ?_
          refine wpOp_hand (oi := ?oi32) ?hi32 (fun K hK => ?hh32)
          case hi32 => (simp only [List.getElem?_toArray, List.getElem?_cons_succ, List.getElem?_cons_zero]; rfl)
          go_simp
          go_at_call 6
          refine Calls.mono (HSB.out _) ?_
          rintro er w3 ⟨fc, fd, rfl, hfr, hb⟩
          have F3 := Lib.hid (F2.out.below hb); have O3 := Lib.hid (own_below O2.out hb); have B3 := Lib.hid (B2.out.trans (hb.mono B2.out.size))
          have s3 := Nat.le_trans s2 hb.size
          have HFB := Lib.hid hfr
          clear hb hfr F2 O2 B2 s2 HSB
          go_simp
          refine hK.out _ _ (heldC_one (fun _ => F3.out)) (fun hF => ?_)
          clear hK K
          try simp only [Act.put, List.setIfInBounds_toArray, List.set_cons_zero, List.set_cons_succ]
          refine wpG_take (oi := ?oi33) (v := ?vv33) 8 _ ?hi33 (List.Mem.head _) ?hc33 ?hQ33 hF ?hw33 ?hy33 (fun hF => ?hh33)
          case hi33 => (simp only [List.getElem?_toArray, List.getElem?_cons_succ, List.getElem?_cons_zero]; rfl)
          case hc33 => kernel_rfl
          case hQ33 => exact fun _ _ _ h => h
          case hw33 => rfl
          case hy33 => (intro wz hz; skip; go_simp; try (with_reducible rfl))
          try simp only [Act.put, List.setIfInBounds_toArray, List.set_cons_zero, List.set_cons_succ]
          refine wpG_ready (rs := [9]) (by kernel_rfl) (by simp) ?_
          refine all_one ?_
          refine wpOp_hand (oi := ?oi34) ?hi34 (fun K hK => ?hh34)
          case hi34 => (simp only [List.getElem?_toArray, List.getElem?_cons_succ, List.getElem?_cons_zero]; rfl)
          go_simp
          obtain ⟨Z, hZ⟩ : ∃ Z, Z = w3.alloc (.cells #[.int .i64 fa, .int .i64 fb, .int .i64 fc, .int .i64 fd] 33) := ⟨_, rfl⟩
          have bZ : Below w3.heap.size w3 Z := by rw [hZ]; exact (Below.refl _ _).alloc (Nat.le_refl _) _
          have hnews : ∀ j u, [Value.int .i64 fa, .int .i64 fb, .int .i64 fc, .int .i64 fd][j]? = some u → Z.cell? ((⟨w3.heap.size, 0, none⟩ : Addr).add j) = some u := by rw [hZ]; exact cells_four
          rw [← hZ]
          have FZ := Lib.hid (F3.out.below bZ); have OZ := Lib.hid (own_below O3.out bZ); have BZ := Lib.hid (B3.out.trans (bZ.mono B3.out.size))
          have sZ := Nat.le_trans s3 bZ.size
          clear hZ bZ F3 O3 B3 s3
          refine hK.out _ _ (heldC_one (fun _ => FZ.out)) (fun hF => ?_)
          clear hK K
          try simp only [Act.put, List.setIfInBounds_toArray, List.set_cons_zero, List.set_cons_succ]
          refine wpG_ready (rs := [10]) (by kernel_rfl) (by simp) ?_
          refine all_one ?_
          refine wpOp_hand (oi := ?oi35) ?hi35 (fun K hK => ?hh35)
          case hi35 => (simp only [List.getElem?_toArray, List.getElem?_cons_succ, List.getElem?_cons_zero]; rfl)
          refine step_append_any (by rfl) (.tmp 54) (.tmp 62) _ (by rfl) (kf + 1) 33 iP _ 4 32 Tryz.underlying25 hP0 hP1 hP2 hP3 rfl (by omega) u p (zs.map (Value.int .i64)) (by rfl) OZ.out ⟨w3.heap.size, 0, none⟩ 1 1 [.int .i64 fa, .int .i64 fb, .int .i64 fc, .int .i64 fd] (by rfl) rfl hnews (by simp [Value.oneCell']) (by have := HPI.out; unfold maxLen; omega) (by have := HPI.out; omega) sZ ?_
          intro v' U hown' hgr _
          obtain ⟨g, gc, hv', _, _⟩ := hown'.form (by omega)
          subst hv'
          have hlo : ∀ q, u.ownBlock = some q → kf + 1 ≤ q := fun q hq => (OZ.out.lt q hq).1
          have FU := Lib.hid (FZ.out.grown hgr (fun e => by have := hlo _ e.symm; omega))
          have BU := Lib.hid (below_grow BZ.out (Nat.le_refl _) hgr (fun q hq => by have := hlo q hq; have := HWK.out; omega))
          have sU := Nat.le_trans sZ hgr.size
          have OU := Lib.hid (show U.ownsRow (kf + 1) 33 4 (.slice (some ⟨g, 0, none⟩) (p + 1) gc) (p + 1) ((zs ++ [fa, fb, fc, fd]).map (Value.int .i64)) by rw [List.map_append]; exact hown')
          clear hown' hgr hlo hnews FZ OZ BZ sZ
          refine hK.out _ _ (heldC_one (fun _ => FU.out)) (fun hF => ?_)
          clear hK K
          try simp only [Act.put, List.setIfInBounds_toArray, List.set_cons_zero, List.set_cons_succ]
          refine wpG_take (oi := ?oi36) (v := ?vv36) 11 _ ?hi36 (List.Mem.head _) ?hc36 ?hQ36 hF ?hw36 ?hy36 (fun hF => ?hh36)
          case hi36 => (simp only [List.getElem?_toArray, List.getElem?_cons_succ, List.getElem?_cons_zero]; rfl)
          case hc36 => kernel_rfl
          case hQ36 => exact fun _ _ _ h => h
          case hw36 => rfl
          case hy36 => (intro wz hz; skip; go_simp; try (with_reducible rfl))
          try simp only [Act.put, List.setIfInBounds_toArray, List.set_cons_zero, List.set_cons_succ]
          refine wpG_ready (rs := [12]) (by kernel_rfl) (by simp) ?_
          refine all_one ?_
          have o0 := FU.out.c0; have of := FU.out.free 0; have ol := FU.out.lt
          refine wpOp_hand (oi := ?oi37) ?hi37 (fun K hK => ?hh37)
          case hi37 => (simp only [List.getElem?_toArray, List.getElem?_cons_succ, List.getElem?_cons_zero]; rfl)
          go_simp
          refine hK.out _ _ (heldC_one (fun h => absurd h (by simp))) (fun hF => ?_)
          clear hK K
          try simp only [Act.put, List.setIfInBounds_toArray, List.set_cons_zero, List.set_cons_succ]
          refine wpG_done (by kernel_rfl) ?_ _
          clear o0 of ol hF
          go_wp2_with fail
          go_roundw
          case rel => exact ⟨i + 1, p + 1, zs ++ [fa, fb, fc, fd], _, by omega, by rw [Int.natCast_add]; rfl, by have := HPI.out; omega, by have := HPI.out; omega, Lib.hid (HPT.out.add HFA.out HFB.out), own_set OU.out (by omega), FU.out.set0 _, by simpa using sU, BU.out.setCell (p := ⟨kf, 0, none⟩) (show w.heap.size ≤ kf from HWK.out) _⟩
          case measure => simp [intOf]; omega
        · have j3 : decide ((i : Int) < 12) = false := decide_eq_false (by omega)
          have j4 : decide (i < 12) = false := decide_eq_false h12
          go_wp2_with fail
          go_roundw
          case rel => exact ⟨i + 1, p, zs, u, by omega, by rw [Int.natCast_add]; rfl, by have := HPI.out; omega, HPI.out.2, HPT, HO.out, HF.out, hsz, Hb.out⟩
          case measure => simp [intOf]; omega
      · have j3 : decide ((i : Int) < (n2 : Int)) = false := decide_eq_false (by omega)
        have j4 : decide (i < n2) = false := decide_eq_false h2
        go_wp2_with fail
        go_roundw
        case rel => exact ⟨i + 1, p, zs, u, by omega, by rw [Int.natCast_add]; rfl, by have := HPI.out; omega, HPI.out.2, HPT, HO.out, HF.out, hsz, Hb.out⟩
        case measure => simp [intOf]; omega
    · obtain rfl : n1 = i := by omega
      have i1 : ¬ (n1 : Int) < (n1 : Int) := by omega
      obtain ⟨Au, cu, rfl, _⟩ := own_flat HO.out
      go_wp2_with fail
      go_loopw [12] (fun i' wv => ∃ (j : Nat) (v : Value), j ≤ p - 1 ∧ i' = .int .i64 ((j : Int) + 1) ∧ LinN wv (kf + 1) v j ∧ wv.ownsRow (kf + 1) 33 4 (.slice Au p cu) p (zs.map (Value.int .i64)) ∧ FgBox wv kf (.slice Au p cu) v ∧ kf + 1 ≤ wv.heap.size ∧ Below w.heap.size w wv) (fun i' _ => p - (intOf i').toNat)
      case atStart => exact ⟨0, .slice none 0 0, by omega, rfl, LinN.nil _ _, HO.out, HF.out, hsz, Hb.out⟩
      case round =>
        clear HO HF Hb hsz H1 H2 HN1 HN2
        obtain ⟨j, v, hj, rfl, hlin, hown, hF, hsz, hb⟩ := hrel
        have HL := Lib.hid hlin; have HO := Lib.hid hown; have HF := Lib.hid hF; have Hb := Lib.hid hb
        clear hlin hown hF hb
        obtain ⟨ii, hii⟩ : ∃ x, x = (j : Int) + 1 := ⟨_, rfl⟩
        rw [← hii]
        by_cases hjp : j + 1 < p
        · have t1 : ii < (p : Int) := by omega
          have s1 : IntKind.i64.wrap (ii - 1) = (j : Int) := by rw [show ii - 1 = (j : Int) by omega]; exact IntWalk.i64_in _ (by have := HPI.out; omega)
          have s2 : IntKind.i64.wrap (ii + 1) = ii + 1 := IntWalk.i64_in _ (by have := HPI.out; omega)
          have HII := Lib.hid hii
          have x0 := HF.out.c0; have x1 := HF.out.c1; have xl := HF.out.lt
          obtain ⟨W1, hW1⟩ : ∃ W, W = wr.alloc (.cells #[.int .i64 (j : Int), .int .i64 ii] 3) := ⟨_, rfl⟩
          have b1 : Below wr.heap.size wr W1 := by rw [hW1]; exact (Below.refl _ _).alloc (Nat.le_refl _) _
          have row1 : W1.rowIs wr.heap.size 3 2 (fun i => if i = 0 then .int .i64 (j : Int) else .int .i64 ii) := by
            rw [hW1]
            exact World.rowIs_alloc wr #[.int .i64 (j : Int), .int .i64 ii] 3 (fun i => if i = 0 then .int .i64 (j : Int) else .int .i64 ii) (fun i hi => by
              match i, hi with
              | 0, _ => rfl
              | 1, _ => rfl)
          obtain ⟨W2, hW2⟩ : ∃ W, W = W1.alloc (.cells #[.slice (some ⟨wr.heap.size, 0, none⟩) 2 2] 22) := ⟨_, rfl⟩
          have b2 : Below W1.heap.size W1 W2 := by rw [hW2]; exact (Below.refl _ _).alloc (Nat.le_refl _) _
          have b12 := b1.trans (b2.mono b1.size)
          have hs1 : W1.heap.size = wr.heap.size + 1 := by rw [hW1]; simp
          have hnews : ∀ j u, [Value.slice (some ⟨wr.heap.size, 0, none⟩) 2 2][j]? = some u → W2.cell? ((⟨wr.heap.size + 1, 0, none⟩ : Addr).add j) = some u := by rw [hW2, ← hs1]; exact cells_one
          have HLA := Lib.hid (show LineAt W2 (kf + 1) (.slice (some ⟨wr.heap.size, 0, none⟩) 2 2) j from ⟨wr.heap.size, 2, rfl, by omega, hsz, (b2.cell (p := ⟨wr.heap.size, 0, none⟩) (by rw [hs1]; exact Nat.lt_succ_self _)).trans (World.rowIs.cell row1 (i := 0) (by omega)), by rw [← HII.out]; exact (b2.cell (p := ⟨wr.heap.size, 1, none⟩) (by rw [hs1]; exact Nat.lt_succ_self _)).trans (World.rowIs.cell row1 (i := 1) (by omega))⟩)
          obtain ⟨vs, hv1, hv2⟩ := HL.out.below b12
          have hvb : ∀ q, v.ownBlock = some q → q < wr.heap.size := by
            obtain ⟨vs', h1, _⟩ := HL.out
            exact fun q hq => (h1.lt q hq).2
          have HNE := Lib.hid (show ∀ g gc, Value.slice (some ⟨wr.heap.size, 0, none⟩) 2 2 = .slice (some ⟨g, 0, none⟩) 2 gc → some g ≠ v.ownBlock from fun g gc e h => by
            injection e with e _ _; injection e with e; injection e with e
            have := hvb g h.symm; omega)
          have HV1 := Lib.hid hv1; have HV2 := Lib.hid hv2
          have F2 := Lib.hid (HF.out.below b12); have O2 := Lib.hid (own_below HO.out b12); have B2 := Lib.hid (Hb.out.trans (b12.mono Hb.out.size))
          have hs2 := Nat.le_trans hsz b12.size
          have hWW : W2 = (wr.alloc (.cells #[.int .i64 (j : Int), .int .i64 ii] 3)).alloc (.cells #[.slice (some ⟨wr.heap.size, 0, none⟩) 2 2] 22) := by rw [hW2, hW1]
          have j12 : j < 12 := by have := HPI.out; omega
          clear hv1 hv2 hvb row1 b1 b2 b12 hW1 hW2 hs1 HF HO Hb HL hii
          subst hWW
          go_wp2_with (at_builtin; refine wpList_append_own _ rfl _ _ 26 rfl (kf + 1) 22 iR _ 1 24 Tryz.underlying26 hR0 hR1 hR2 hR3 rfl (by decide) _ _ _ rfl HV1.out ⟨_, 0, none⟩ 1 1 [.slice (some ⟨wr.heap.size, 0, none⟩) 2 2] rfl rfl hnews ?c2 ?c3 ?c4 ?c5 ?_)
          case c2 => simp [Value.oneCell']
          case c3 => unfold maxLen; omega
          case c4 => omega
          case c5 => exact hs2
          intro v' Z hown' hgr hat
          obtain ⟨g, gc, hv', _, _⟩ := hown'.form (by omega)
          subst hv'
          have hlo : ∀ q, v.ownBlock = some q → kf + 1 ≤ q := fun q hq => (HV1.out.lt q hq).1
          have F3 := Lib.hid (F2.out.grown hgr (fun e => by have := hlo _ e.symm; omega))
          have O3 := Lib.hid (O2.out.kept hgr (own_ne O2.out HV1.out (by decide)))
          have B3 := Lib.hid (below_grow B2.out (Nat.le_refl _) hgr (fun q hq => by have := hlo q hq; have := HWK.out; omega))
          have hs3 := Nat.le_trans hs2 hgr.size
          have HL3 := Lib.hid (LinN.add HV1.out HV2.out HLA.out HNE.out hgr hown')
          clear hown' hgr hat hlo hnews HV1 HV2 HLA HNE F2 O2 B2 hs2 x0 x1 xl
          have f1 := F3.out.c1; have ff := F3.out.free 1; have fl := F3.out.lt
          go_wp2_with fail
          go_roundw
          case rel => exact ⟨j + 1, _, by omega, by rw [HII.out]; rfl, HL3.out.set (by omega), own_set O3.out (by omega), F3.out.set1 _, by simpa using hs3, B3.out.setCell (p := ⟨kf, 1, none⟩) (show w.heap.size ≤ kf from HWK.out) _⟩
          case measure => have := HII.out; simp [intOf]; omega
        · have t1 : decide (ii < (p : Int)) = false := decide_eq_false (by omega)
          obtain ⟨m, hm⟩ : ∃ m, m = p - 1 := ⟨_, rfl⟩
          obtain rfl : m = j := by omega
          obtain ⟨Bu, bu, rfl, hbm, _⟩ := HL.out.fig
          have HM := Lib.hid hm
          have HFG := Lib.hid (FigN.mk (own_flat_of HO.out) HPI.out.2 (fun i hi => (HPT.out.2 i hi).1) (fun i hi => (HPT.out.2 i hi).2) hm hbm HL.out.lines)
          have x0 := HF.out.c0; have x1 := HF.out.c1; have xl := HF.out.lt
          clear hm hbm HL HO hii hj hjp
          go_upto_region 17 with fail
          obtain ⟨kz, hkz⟩ : ∃ b, b = wr.heap.size := ⟨_, rfl⟩
          have hz0 := ((FrBox.new wr 0 1).alloc (.cells #[.int .i64 1, .int .i64 1] 30)).alloc (.cells #[.int .i64 (-1), .int .i64 1] 30)
          have hz1 := (FrBox.new (wr.alloc (.cells #[.int .i64 0, .int .i64 1] 30)) 1 1).alloc (.cells #[.int .i64 (-1), .int .i64 1] 30)
          have hz2 := FrBox.new ((wr.alloc (.cells #[.int .i64 0, .int .i64 1] 30)).alloc (.cells #[.int .i64 1, .int .i64 1] 30)) (-1) 1
          have bw := (((Below.refl wr.heap.size wr).alloc (Nat.le_refl _) (.cells #[.int .i64 0, .int .i64 1] 30)).alloc (by simp) (.cells #[.int .i64 1, .int .i64 1] 30)).alloc (by simp; omega) (.cells #[.int .i64 (-1), .int .i64 1] 30)
          simp only [World.size_alloc] at hz1 hz2
          obtain ⟨W3, hW3⟩ : ∃ W, W = (((wr.alloc (.cells #[.int .i64 0, .int .i64 1] 30)).alloc (.cells #[.int .i64 1, .int .i64 1] 30)).alloc (.cells #[.int .i64 (-1), .int .i64 1] 30)) := ⟨_, rfl⟩
          rw [← hW3] at hz0 hz1 hz2 bw ⊢
          rw [← hkz] at hz0 hz1 hz2 ⊢
          have G0 := Lib.hid (HFG.out.below bw); have F0 := Lib.hid (HF.out.below bw); have B0 := Lib.hid (Hb.out.trans (bw.mono Hb.out.size))
          have Q0 := Lib.hid hz0; have Q1 := Lib.hid hz1; have Q2 := Lib.hid hz2
          clear hkz hW3 hz0 hz1 hz2 bw HFG HF Hb hsz x0 x1 xl t1
          obtain ⟨S, hS⟩ : ∃ S, S = figNT zs p m := ⟨_, rfl⟩
          have HS := Lib.hid hS.symm
          have HRD := Lib.hid (fun W (h : Rd W) => show Calls Tryz.prog 9 #[.string S] W (ReadPost zs p m W) by rw [hS]; exact freadN_ok zs p m W h HPI.out.2 HM.out (fun i hi => (HPT.out.2 i hi).1) (fun i hi => (HPT.out.2 i hi).2))
          clear hS
          have x0 := F0.out.c0; have x1 := F0.out.c1; have xl := F0.out.lt
          go_wp2_with fail
          refine Calls.mono (text_as Au p cu zs Bu m bu S _ (HR.out.below B0.out).t G0.out HS.out) ?_
          rintro er w4 ⟨rfl, hb⟩
          have F4 := Lib.hid (F0.out.below hb); have G4 := Lib.hid (G0.out.below hb); have B4 := Lib.hid (B0.out.trans (hb.mono B0.out.size)); have R0 := Lib.hid (Q0.out.below hb); have R1 := Lib.hid (Q1.out.below hb); have R2 := Lib.hid (Q2.out.below hb)
          clear hb x0 x1 xl F0 G0 B0 Q0 Q1 Q2
          have x0 := F4.out.c0; have x1 := F4.out.c1; have xl := F4.out.lt
          go_upto_region 19 with fail
          obtain ⟨kg, hkg⟩ : ∃ b, b = w4.heap.size := ⟨_, rfl⟩
          have hg := FgBox.new w4 (.slice Au p cu) (.slice Bu m bu)
          have bw := (Below.refl w4.heap.size w4).alloc (Nat.le_refl _) (.cells #[.slice Au p cu, .slice Bu m bu] 28)
          obtain ⟨W5, hW5⟩ : ∃ W, W = w4.alloc (.cells #[.slice Au p cu, .slice Bu m bu] 28) := ⟨_, rfl⟩
          rw [← hW5] at hg bw ⊢
          rw [← hkg] at hg ⊢
          have G5 := Lib.hid (G4.out.below bw); have B5 := Lib.hid (B4.out.trans (bw.mono B4.out.size)); have Q0 := Lib.hid (R0.out.below bw); have Q1 := Lib.hid (R1.out.below bw); have Q2 := Lib.hid (R2.out.below bw)
          have HG5 := Lib.hid hg
          have kgz := Lib.hid (show kz + 1 + 1 < kg by rw [hkg]; exact R2.out.lt)
          have kgw := Lib.hid (show w.heap.size ≤ kg by rw [hkg]; exact B4.out.size)
          clear hkg hW5 hg bw x0 x1 xl F4 G4 B4 R0 R1 R2
          go_wp2_with fail
          go_loopw [91] (fun i' wv => ∃ (i : Nat) (A : Option Addr) (c : Nat) (B : Option Addr) (bc : Nat), i ≤ 4 ∧ i' = .int .i64 i ∧ FgBox wv kg (.slice A p c) (.slice B m bc) ∧ FigN wv A p c (turnIt zs p i) B m bc ∧ FrBox wv kz 0 1 ∧ FrBox wv (kz + 1) 1 1 ∧ FrBox wv (kz + 1 + 1) (-1) 1 ∧ Below w.heap.size w wv) (fun i' _ => 4 - (intOf i').toNat)
          case atStart => exact ⟨0, Au, cu, Bu, bu, by omega, rfl, HG5.out, G5.out, Q0.out, Q1.out, Q2.out, B5.out⟩
          case round =>
            clear HG5 G5 Q0 Q1 Q2 B5
            obtain ⟨i, A, c, B, bc, hi, rfl, hg, hf, h0, h1, h2, hb⟩ := hrel
            have HG := Lib.hid hg; have HFN := Lib.hid hf; have Q0 := Lib.hid h0; have Q1 := Lib.hid h1; have Q2 := Lib.hid h2; have Hb := Lib.hid hb
            clear hg hf h0 h1 h2 hb
            have g0 := HG.out.c0; have g1 := HG.out.c1; have gl := HG.out.lt
            by_cases hi4 : i < 4
            · have i1 : (i : Int) < 4 := by omega
              have iw : IntKind.i64.wrap ((i : Int) + 1) = (i : Int) + 1 := IntWalk.i64_in _ (by omega)
              have a0 := Q0.out.c0; have a1 := Q0.out.c1; have al := Q0.out.lt
              have b0 := Q1.out.c0; have b1 := Q1.out.c1; have bl := Q1.out.lt
              have c0 := Q2.out.c0; have c1 := Q2.out.c1; have cl := Q2.out.lt
              go_wp2_with fail
              refine Calls.mono (fTurn_lit A p c _ B m bc _ HFN.out) ?_
              rintro er w6 ⟨A', c', B', bc', lo, rfl, hlo, hfo, hb⟩
              have hkl : kg < lo := Nat.lt_of_lt_of_le gl hlo
              have HG2 := Lib.hid (HG.out.below hb); have Hb2 := Lib.hid (Hb.out.trans (hb.mono Hb.out.size)); have R0 := Lib.hid (Q0.out.below hb); have R1 := Lib.hid (Q1.out.below hb); have R2 := Lib.hid (Q2.out.below hb)
              have HFO := Lib.hid hfo
              clear hb hfo hlo g0 g1 gl a0 a1 al b0 b1 bl c0 c1 cl HG HFN Q0 Q1 Q2 Hb
              have g0 := HG2.out.c0; have g1 := HG2.out.c1; have gl := HG2.out.lt; have gf0 := HG2.out.free 0; have gf1 := HG2.out.free 1
              go_wp2_with fail
              go_roundw
              case rel =>
                have hk := kgz.out
                exact ⟨i + 1, A', c', B', bc', by omega, by rw [Int.natCast_add]; rfl, HG2.out.set _ _, ((HFO.out.set hkl _).set hkl _).fig, (R0.out.other (a := ⟨kg, 0, none⟩) (by show kz ≠ kg; omega) _).other (a := ⟨kg, 1, none⟩) (by show kz ≠ kg; omega) _,
                  (R1.out.other (a := ⟨kg, 0, none⟩) (by show kz + 1 ≠ kg; omega) _).other (a := ⟨kg, 1, none⟩) (by show kz + 1 ≠ kg; omega) _, (R2.out.other (a := ⟨kg, 0, none⟩) (by show kz + 1 + 1 ≠ kg; omega) _).other (a := ⟨kg, 1, none⟩) (by show kz + 1 + 1 ≠ kg; omega) _,
                  (Hb2.out.setCell (p := ⟨kg, 0, none⟩) kgw.out _).setCell (p := ⟨kg, 1, none⟩) kgw.out _⟩
              case measure => simp [intOf]; omega
            · obtain rfl : 4 = i := by omega
              go_wp2_with fail
              refine Calls.mono (text_as A p c _ B m bc S _ (HR.out.below Hb.out).t HFN.out (by rw [turn_four]; exact HS.out)) ?_
              rintro er w6 ⟨rfl, hb⟩
              have Hb2 := Lib.hid (Hb.out.trans (hb.mono Hb.out.size))
              clear hb g0 g1 gl HG HFN Q0 Q1 Q2 Hb
              go_wp2_with fail
              refine Calls.mono (HRD.out _ (HR.out.below Hb2.out)) ?_
              rintro er w7 ⟨A', c', B', bc', rfl, hf, hb⟩
              have Hb3 := Lib.hid (Hb2.out.trans (hb.mono Hb2.out.size))
              have bw := (Below.refl w7.heap.size w7).alloc (Nat.le_refl _) (.cells #[.slice A' p c', .slice B' m bc'] 28)
              have HF8 := Lib.hid (hf.below bw); have Hb8 := Lib.hid (Hb3.out.trans (bw.mono Hb3.out.size))
              have hx := FgBox.new w7 (.slice A' p c') (.slice B' m bc')
              have y0 := hx.c0; have y1 := hx.c1; have yl := hx.lt
              clear hb hf bw hx Hb2 Hb3
              go_wp2_with fail
              refine Calls.mono (text_as A' p c' _ B' m bc' S _ (HR.out.below Hb8.out).t HF8.out (by rw [copy_same]; exact HS.out)) ?_
              rintro er w9 ⟨rfl, hb⟩
              have Hb9 := Lib.hid (Hb8.out.trans (hb.mono Hb8.out.size))
              clear hb y0 y1 yl HF8 Hb8
              go_wp2_with fail
              go_returns
              exact ⟨by simp, Hb9.out⟩
end Go.Proofs.YtdifeoahaegjbaaGreatDoor
