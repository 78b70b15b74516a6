/- tide.find with Low's closure: the text of XFind, turned by a program. -/
import Derived.Test.YtdeoahgcppbmkaaDoorFind
namespace Go.Proofs.YtdeoahgcppbmkaaDoor
open Go.RowKit
set_option linter.unusedSimpArgs false
set_option linter.unusedVariables false
set_option maxHeartbeats 1000000 in
theorem low1_ok (a b c d : Int) (w : World) :
    Calls Tryd.prog 73 #[.agg #[.int .i64 a, .int .i64 b], .agg #[.int .i64 c, .int .i64 d]] w fun e w' => e = .returned (.bool (decide (b < c))) ∧ Below w.heap.size w w' := by
  go_enter Tryd.func73, Tryd.ntmps73
  go_wp2
  go_returns
  exact ⟨rfl, (by repeat' (first | (with_reducible refine below_drewN ?_ _) | go_grown))⟩
/-- Those below both neighbours. -/
def dnAt (zs : List Int) (n : Nat) (f : Int) (i : Nat) : Bool := decide (hHi zs n (f + (i : Int) * 3600000) < hLo zs n (f + ((i : Int) - 1) * 3600000)) && decide (hHi zs n (f + (i : Int) * 3600000) < hLo zs n (f + ((i : Int) + 1) * 3600000))
def FindPostL (zs : List Int) (n : Nat) (f : Int) (N : Nat) (w : World) (e : Ending) (w' : World) : Prop := ∃ (v : Value) (m : Nat), e = .returned (.tuple #[v, .int .i64 0]) ∧ w'.ownsRow w.heap.size 24 2 v m ((outs f (dnAt zs n f) (N - 2)).map (Value.int .i64)) ∧ Below w.heap.size w w'
set_option maxRecDepth 100000 in
set_option maxHeartbeats 16000000 in
theorem findL_ok (f g : Int) (N : Nat) (A : Option Addr) (n cap : Nat) (zs : List Int) (w : World) (ht : SinT w) (hF : FlatSl w 3 A n cap zs) (hn : n ≤ 12) (hz : ∀ i, i < n → TdOk zs i) (h1 : instOk f = true) (h2 : instOk g = true) (hfg : f ≤ g) (hg : g - f ≤ 1728000000) (hN : N = ((g - f) / 3600000).toNat + 1) :
    Calls Tryd.prog 71 #[.slice A n cap, .int .i64 f, .int .i64 g, .func (.func 73) #[] #[]] w (FindPostL zs n f N w) := by
  have htf : -345600000000000 ≤ f ∧ f ≤ 345686400000000 := by
    have h : dayOk (f / 86400000) = true := h1
    unfold dayOk at h
    have := of_decide_eq_true h
    omega
  have htg : -345600000000000 ≤ g ∧ g ≤ 345686400000000 := by
    have h : dayOk (g / 86400000) = true := h2
    unfold dayOk at h
    have := of_decide_eq_true h
    omega
  obtain ⟨tf1, tf2⟩ := htf
  obtain ⟨tg1, tg2⟩ := htg
  obtain ⟨iS, hi, hy0, hy1, hy2⟩ := info_parts infoSpanF
  have HC := Lib.hid (fun W (h : FlatSl W 3 A n cap zs) => tcheck_ok A n cap zs W h hn hz)
  have I1 := Lib.hid (fun w => h1 ▸ isInst_ok f w (by omega) (by omega))
  have I2 := Lib.hid (fun w => h2 ▸ isInst_ok g w (by omega) (by omega))
  have HV := Lib.hid (fun t W (hT : SinT W) (h : FlatSl W 3 A n cap zs) (hb : -350000000000000 ≤ t ∧ t ≤ 350000000000000) => theight_ok t A n cap zs W hT h hn hz hb)
  have HF := Lib.hid hF
  have HT := Lib.hid ht
  have d1 : ¬ g < f := by omega
  have d2 : ¬ 1728000000 < g - f := by omega
  have d3 : IntKind.i64.wrap (g - f) = g - f := IntWalk.i64_in _ (by omega)
  have HN := Lib.hid (show ∀ k : Nat, (f + (k : Int) * 3600000 ≤ g → k < N) ∧ (k < N → f + (k : Int) * 3600000 ≤ g) by intro k; omega)
  have hN500 : N ≤ 500 := by omega
  have HN5 := Lib.hid hN500
  clear hF ht hz h1 h2 hn hN hN500
  go_enter Tryd.func71, Tryd.ntmps71
  go_wp2_with fail
  refine Calls.mono (HC.out _ HF.out) ?_
  rintro e w1 ⟨rfl, hb⟩
  have W1 := Lib.hid hb
  clear hb
  go_wp2_with fail
  refine Calls.mono (I1.out _) ?_
  rintro e w2 ⟨rfl, hb⟩
  have W2 := Lib.hid (W1.out.trans (hb.mono W1.out.size))
  clear hb
  go_wp2_with fail
  refine Calls.mono (I2.out _) ?_
  rintro e w3 ⟨rfl, hb⟩
  have W3 := Lib.hid (W2.out.trans (hb.mono W2.out.size))
  clear hb
  go_wp2_with fail
  go_loopw [11, 12] (fun v i wr => ∃ k : Nat, k ≤ N ∧ i = .int .i64 (f + (k : Int) * 3600000) ∧ wr.ownsRow w.heap.size 24 2 v k ((hts zs n f k).map (Value.int .i64)) ∧ Below w.heap.size w wr) (fun _ i _ => (g + 1 - intOf i).toNat)
  case atStart => exact ⟨0, by omega, by simp, World.ownsRow_nil _ _ _ _, W3.out⟩
  case round =>
    obtain ⟨k, hk, rfl, hown, hbl⟩ := hrel
    have hsz := hbl.size
    by_cases hlt : k < N
    · have hle := (HN.out k).2 hlt
      have k500 : k < 500 := by have := HN5.out; omega
      obtain ⟨at', hat⟩ : ∃ x, x = f + (k : Int) * 3600000 := ⟨_, rfl⟩
      have hnx : at' + 3600000 = f + ((k + 1 : Nat) : Int) * 3600000 := by rw [hat]; omega
      rw [← hat] at hle
      have ab1 : -345600000000000 ≤ at' := by omega
      have ab2 : at' ≤ 345686400000000 := by omega
      have hv := Lib.hid (fun W hT h => HV.out at' W hT h (by omega))
      have HA := Lib.hid hat
      obtain ⟨lo, hlo⟩ : ∃ x, x = hLo zs n at' := ⟨_, rfl⟩
      obtain ⟨hi', hhi⟩ : ∃ x, x = hHi zs n at' := ⟨_, rfl⟩
      rw [← hlo, ← hhi] at hv
      have HLO := Lib.hid hlo; have HHI := Lib.hid hhi; have HNX := Lib.hid hnx
      have T1 := Lib.hid (HT.out.below hbl); have F1 := Lib.hid (flat_below HF.out hbl)
      have HO := Lib.hid hown; have HBL := Lib.hid hbl
      rw [← hat]
      clear hat hlo hhi hnx hown hbl
      go_wp2_with fail
      refine Calls.mono (hv.out _ T1.out F1.out) ?_
      rintro e w4 ⟨rfl, hb⟩
      have hb4 := HBL.out.trans (hb.mono HBL.out.size)
      have hs4 := hb4.size
      have ho4 := own_below HO.out hb
      clear hb
      go_wp2_with (at_builtin; refine wpList_append_own _ rfl _ _ 39 rfl w.heap.size 24 iS (.agg #[.int .i64 0, .int .i64 0]) 2 16 Tryd.underlying39 hi hy0 hy1 hy2 rfl (by decide) _ _ _ rfl (ho4.alloc _) ⟨w4.heap.size, 0, none⟩ 1 1 [.int .i64 lo, .int .i64 hi'] rfl rfl ?c1 ?c2 ?c3 ?c4 ?c5 ?_)
      case c1 => exact cells_two
      case c2 => intro u hu; simp at hu; rcases hu with rfl | rfl <;> rfl
      case c3 => unfold maxLen; omega
      case c4 => omega
      case c5 => simp; omega
      · intro v' w5 hown' hgrow _
        have R : w5.ownsRow w.heap.size 24 2 v' (k + 1) ((hts zs n f (k + 1)).map (Value.int .i64)) := by
          unfold hts
          rw [← HA.out]
          simpa only [List.map_append, List.map_cons, List.map_nil, ← HLO.out, ← HHI.out] using hown'
        have hb5 := below_grew (hb4.alloc hs4 _) hgrow (ho4.alloc _)
        have HR := Lib.hid R; have HB5 := Lib.hid hb5
        clear hown' hgrow ho4 R hb5 hb4
        go_wp2_with fail
        go_roundw
        case rel => exact ⟨k + 1, by omega, by rw [HNX.out], HR.out, HB5.out⟩
        case measure => simp [intOf]; omega
    · have ek : k = N := by omega
      have hgt : ¬ f + (N : Int) * 3600000 ≤ g := fun h => absurd ((HN.out N).1 h) (by omega)
      rw [ek] at hown ⊢
      obtain ⟨w0, hw0⟩ : ∃ x, x = wr := ⟨_, rfl⟩
      subst hw0
      obtain ⟨A', cap', hv, hF'⟩ := own_flat hown
      have HFH := Lib.hid hF'
      have HBL := Lib.hid hbl
      clear hown hbl hF' hsz hk hlt ek
      subst hv
      go_wp2_with fail
      clear hgt
      go_loopw [13, 14] (fun v i' ws => ∃ (j i m : Nat), i = j + 1 ∧ j ≤ N - 2 ∧ m ≤ j ∧ i' = .int .i64 (i : Int) ∧ Hid (ws.ownsRow w0.heap.size 24 2 v m ((outs f (dnAt zs n f) j).map (Value.int .i64))) ∧ Below w0.heap.size w0 ws) (fun _ i _ => N - (intOf i).toNat)
      case atStart => exact ⟨0, 1, 0, rfl, by omega, by omega, rfl, Lib.hid (World.ownsRow_nil _ _ _ _), Below.refl _ _⟩
      case round =>
        obtain ⟨j, i, m, hij, hj, hm, rfl, hown, hbl⟩ := hrel
        have hsz := hbl.size
        have HIJ := Lib.hid hij
        have j500 : i ≤ 501 := by have := HN5.out; omega
        by_cases hlt : j < N - 2
        · obtain ⟨s, hs⟩ : ∃ s, s = i + 1 := ⟨_, rfl⟩
          obtain ⟨q, o, hA, hc⟩ := HFH.out.at' (by omega)
          have hcap := HFH.out.le
          have hcm := HFH.out.most
          unfold maxLen at hcm
          subst hA
          have cell : ∀ x, x < N * 2 → wr.cell? ⟨q, o + x, none⟩ = some (.int .i64 (ix (hts zs n f N) x)) := fun x hx => (hbl.cell (p := ⟨q, o + x, none⟩) (cell_below (hc x hx))).trans (hc x hx)
          have r0 := cell (j * 2) (by omega); have r1 := cell (j * 2 + 1) (by omega)
          have i0 := cell (i * 2) (by omega); have i1 := cell (i * 2 + 1) (by omega)
          have s0 := cell (s * 2) (by omega); have s1 := cell (s * 2 + 1) (by omega)
          rw [hts_lo zs n f N j (by omega)] at r0
          rw [hts_hi zs n f N j (by omega)] at r1
          rw [hts_lo zs n f N i (by omega)] at i0
          rw [hts_hi zs n f N i (by omega)] at i1
          rw [hts_lo zs n f N s (by omega)] at s0
          rw [hts_hi zs n f N s (by omega)] at s1
          rw [← Nat.add_assoc] at r1 i1 s1
          have hup : dnAt zs n f i = (decide (hHi zs n (f + (i : Int) * 3600000) < hLo zs n (f + (j : Int) * 3600000)) && decide (hHi zs n (f + (i : Int) * 3600000) < hLo zs n (f + (s : Int) * 3600000))) := by
            unfold dnAt
            rw [show (i : Int) - 1 = (j : Int) by omega, show (i : Int) + 1 = (s : Int) by omega]
          generalize hLo zs n (f + (j : Int) * 3600000) = rL at *
          generalize hHi zs n (f + (j : Int) * 3600000) = rH at *
          generalize hLo zs n (f + (i : Int) * 3600000) = iL at *
          generalize hHi zs n (f + (i : Int) * 3600000) = iH at *
          generalize hLo zs n (f + (s : Int) * 3600000) = sL at *
          generalize hHi zs n (f + (s : Int) * 3600000) = sH at *
          have HUP := Lib.hid hup
          clear hup hc cell
          have e1 : (i : Int) - 1 = (j : Int) := by omega
          have e2 : (i : Int) + 1 = (s : Int) := by omega
          have b0 : (0 : Int) ≤ (j : Int) := by omega
          have b1 : (0 : Int) ≤ (i : Int) := by omega
          have b2 : (0 : Int) ≤ (s : Int) := by omega
          have b3 : (j : Int) < (N : Int) := by omega
          have b4 : (i : Int) < (N : Int) := by omega
          have b5 : (s : Int) < (N : Int) := by omega
          have b6 : (j : Int) < (cap' : Int) := by omega
          have b7 : (i : Int) < (cap' : Int) := by omega
          have b8 : (s : Int) < (cap' : Int) := by omega
          have w1' : IntKind.i64.wrap (j : Int) = (j : Int) := IntWalk.i64_in _ (by omega)
          have w2' : IntKind.i64.wrap (s : Int) = (s : Int) := IntWalk.i64_in _ (by omega)
          have HHS := Lib.hid hs
          clear hij hs
          go_upto_region 19 with fail
          have hql : q < wr.heap.size := World.block_lt_of_cell? wr _ i0
          have HBW := Lib.hid hbl
          have HOW := Lib.hid hown.out
          clear hbl hown
          have GX := Lib.hid (show Below wr.heap.size wr wr.drew from (Below.refl _ _).drew)
          have HOLD := Lib.hid (fun (wz : World) (p : Addr) (v : Value) (hb : Below wr.heap.size wr wz) (hc : wr.cell? p = some v) => (hb.cell (cell_below hc)).trans hc)
          have Hr0 := Lib.hid r0; have Hr1 := Lib.hid r1; have Hi0 := Lib.hid i0; have Hi1 := Lib.hid i1; have Hs0 := Lib.hid s0; have Hs1 := Lib.hid s1
          have Hm9 := Lib.hid hm
          have EQ1 := Lib.hid (show decide (iH < rL) = true ∨ decide (iH < rL) = false by cases decide (iH < rL) <;> simp)
          have EQ2 := Lib.hid (show decide (iH < sL) = true ∨ decide (iH < sL) = false by cases decide (iH < sL) <;> simp)
          clear r0 r1 i0 i1 s0 s1
          refine wp_region_held_drew (S := fun w' => Below wr.heap.size wr w') (by kernel_rfl) GX.out (fun hHeld => ?_)
          refine wpAnyH_take (i := 0) (oi := ?oi39) (v := ?vv39) ?hi39 (by kernel_rfl) ?hf39 ?hr39 ?hQ39 (Or.inl ⟨?hw39, ?hy39⟩) hHeld ?hh39
          case hi39 => (simp only [List.getElem?_toArray, List.getElem?_cons_succ, List.getElem?_cons_zero]; rfl)
          case hf39 => kernel_rfl
          case hr39 => kernel_rfl
          case hQ39 => exact fun _ _ _ h => h
          case hw39 => rfl
          case hy39 => (intro wz hz; (try dsimp only at hz); skip; go_simp; try (with_reducible rfl))
          try simp only [Act.put, List.setIfInBounds_toArray, List.set_cons_zero, List.set_cons_succ]
          refine wpAnyH_take (i := 1) (oi := ?oi40) (v := ?vv40) ?hi40 (by kernel_rfl) ?hf40 ?hr40 ?hQ40 (Or.inl ⟨?hw40, ?hy40⟩) hHeld ?hh40
          case hi40 => (simp only [List.getElem?_toArray, List.getElem?_cons_succ, List.getElem?_cons_zero]; rfl)
          case hf40 => kernel_rfl
          case hr40 => kernel_rfl
          case hQ40 => exact fun _ _ _ h => h
          case hw40 => rfl
          case hy40 => (intro wz hz; (try dsimp only at hz); skip; go_simp; try (with_reducible rfl))
          try simp only [Act.put, List.setIfInBounds_toArray, List.set_cons_zero, List.set_cons_succ]
          refine wpAnyH_take (i := 2) (oi := ?oi41) (v := ?vv41) ?hi41 (by kernel_rfl) ?hf41 ?hr41 ?hQ41 (Or.inl ⟨?hw41, ?hy41⟩) hHeld ?hh41
          case hi41 => (simp only [List.getElem?_toArray, List.getElem?_cons_succ, List.getElem?_cons_zero]; rfl)
          case hf41 => kernel_rfl
          case hr41 => kernel_rfl
          case hQ41 => exact fun _ _ _ h => h
          case hw41 => rfl
          case hy41 => (intro wz hz; (try dsimp only at hz); skip; go_simp; try (with_reducible rfl))
          try simp only [Act.put, List.setIfInBounds_toArray, List.set_cons_zero, List.set_cons_succ]
          refine wpAnyH_take (i := 3) (oi := ?oi42) (v := ?vv42) ?hi42 (by kernel_rfl) ?hf42 ?hr42 ?hQ42 (Or.inl ⟨?hw42, ?hy42⟩) hHeld ?hh42
          case hi42 => (simp only [List.getElem?_toArray, List.getElem?_cons_succ, List.getElem?_cons_zero]; rfl)
          case hf42 => kernel_rfl
          case hr42 => kernel_rfl
          case hQ42 => exact fun _ _ _ h => h
          case hw42 => rfl
          case hy42 => (intro wz hz; (try dsimp only at hz); skip; go_simp; try (with_reducible rfl))
          try simp only [Act.put, List.setIfInBounds_toArray, List.set_cons_zero, List.set_cons_succ]
          refine wpAnyH_take (i := 4) (oi := ?oi43) (v := ?vv43) ?hi43 (by kernel_rfl) ?hf43 ?hr43 ?hQ43 (Or.inl ⟨?hw43, ?hy43⟩) hHeld ?hh43
          case hi43 => (simp only [List.getElem?_toArray, List.getElem?_cons_succ, List.getElem?_cons_zero]; rfl)
          case hf43 => kernel_rfl
          case hr43 => kernel_rfl
          case hQ43 => exact fun _ _ _ h => h
          case hw43 => rfl
          case hy43 => (intro wz hz; (try dsimp only at hz); have z0 := HOLD.out _ _ _ hz Hi0.out; have z1 := HOLD.out _ _ _ hz Hi1.out; go_simp; try (with_reducible rfl))
          try simp only [Act.put, List.setIfInBounds_toArray, List.set_cons_zero, List.set_cons_succ]
          refine wpAnyH_take (i := 5) (oi := ?oi44) (v := ?vv44) ?hi44 (by kernel_rfl) ?hf44 ?hr44 ?hQ44 (Or.inl ⟨?hw44, ?hy44⟩) hHeld ?hh44
          case hi44 => (simp only [List.getElem?_toArray, List.getElem?_cons_succ, List.getElem?_cons_zero]; rfl)
          case hf44 => kernel_rfl
          case hr44 => kernel_rfl
          case hQ44 => exact fun _ _ _ h => h
          case hw44 => rfl
          case hy44 => (intro wz hz; (try dsimp only at hz); skip; go_simp; try (with_reducible rfl))
          try simp only [Act.put, List.setIfInBounds_toArray, List.set_cons_zero, List.set_cons_succ]
          refine wpAnyH_take (i := 6) (oi := ?oi45) (v := ?vv45) ?hi45 (by kernel_rfl) ?hf45 ?hr45 ?hQ45 (Or.inl ⟨?hw45, ?hy45⟩) hHeld ?hh45
          case hi45 => (simp only [List.getElem?_toArray, List.getElem?_cons_succ, List.getElem?_cons_zero]; rfl)
          case hf45 => kernel_rfl
          case hr45 => kernel_rfl
          case hQ45 => exact fun _ _ _ h => h
          case hw45 => rfl
          case hy45 => (intro wz hz; (try dsimp only at hz); skip; go_simp; try (with_reducible rfl))
          try simp only [Act.put, List.setIfInBounds_toArray, List.set_cons_zero, List.set_cons_succ]
          refine wpAnyH_take (i := 7) (oi := ?oi46) (v := ?vv46) ?hi46 (by kernel_rfl) ?hf46 ?hr46 ?hQ46 (Or.inl ⟨?hw46, ?hy46⟩) hHeld ?hh46
          case hi46 => (simp only [List.getElem?_toArray, List.getElem?_cons_succ, List.getElem?_cons_zero]; rfl)
          case hf46 => kernel_rfl
          case hr46 => kernel_rfl
          case hQ46 => exact fun _ _ _ h => h
          case hw46 => rfl
          case hy46 => (intro wz hz; (try dsimp only at hz); skip; go_simp; try (with_reducible rfl))
          try simp only [Act.put, List.setIfInBounds_toArray, List.set_cons_zero, List.set_cons_succ]
          refine wpAnyH_take (i := 8) (oi := ?oi47) (v := ?vv47) ?hi47 (by kernel_rfl) ?hf47 ?hr47 ?hQ47 (Or.inl ⟨?hw47, ?hy47⟩) hHeld ?hh47
          case hi47 => (simp only [List.getElem?_toArray, List.getElem?_cons_succ, List.getElem?_cons_zero]; rfl)
          case hf47 => kernel_rfl
          case hr47 => kernel_rfl
          case hQ47 => exact fun _ _ _ h => h
          case hw47 => rfl
          case hy47 => (intro wz hz; (try dsimp only at hz); skip; go_simp; try (with_reducible rfl))
          try simp only [Act.put, List.setIfInBounds_toArray, List.set_cons_zero, List.set_cons_succ]
          refine wpAnyH_take (i := 9) (oi := ?oi48) (v := ?vv48) ?hi48 (by kernel_rfl) ?hf48 ?hr48 ?hQ48 (Or.inl ⟨?hw48, ?hy48⟩) hHeld ?hh48
          case hi48 => (simp only [List.getElem?_toArray, List.getElem?_cons_succ, List.getElem?_cons_zero]; rfl)
          case hf48 => kernel_rfl
          case hr48 => kernel_rfl
          case hQ48 => exact fun _ _ _ h => h
          case hw48 => rfl
          case hy48 => (intro wz hz; (try dsimp only at hz); have z0 := HOLD.out _ _ _ hz Hr0.out; have z1 := HOLD.out _ _ _ hz Hr1.out; go_simp; try (with_reducible rfl))
          try simp only [Act.put, List.setIfInBounds_toArray, List.set_cons_zero, List.set_cons_succ]
          refine wpAnyH_ready (rs := [10]) (by kernel_rfl) (by simp) ?_
          refine AllReadyH.cons (o := ?oi49) ?hi49 (fun K hK => ?hh49) AllReadyH.nil
          case hi49 => (simp only [List.getElem?_toArray, List.getElem?_cons_succ, List.getElem?_cons_zero]; rfl)
          go_simp
          refine Calls.mono (low1_ok iL iH rL rH _) ?_
          rintro e wp ⟨rfl, hb⟩
          have hb2 := hHeld.trans (hb.mono hHeld.size)
          clear hb
          clear hHeld
          refine hK.out _ _ (hb2) (fun hHeld => ?_)
          clear hK K
          try simp only [Act.put, List.setIfInBounds_toArray, List.set_cons_zero, List.set_cons_succ]
          clear hb2
          rcases EQ1.out with G | G
          · rw [G]
            have G1 := Lib.hid G
            clear G
            refine wpAnyH_take (i := 11) (oi := ?oi50) (v := ?vv50) ?hi50 (by kernel_rfl) ?hf50 ?hr50 ?hQ50 (Or.inl ⟨?hw50, ?hy50⟩) hHeld ?hh50
            case hi50 => (simp only [List.getElem?_toArray, List.getElem?_cons_succ, List.getElem?_cons_zero]; rfl)
            case hf50 => kernel_rfl
            case hr50 => kernel_rfl
            case hQ50 => exact fun _ _ _ h => h
            case hw50 => rfl
            case hy50 => (intro wz hz; (try dsimp only at hz); skip; go_simp; try (with_reducible rfl))
            try simp only [Act.put, List.setIfInBounds_toArray, List.set_cons_zero, List.set_cons_succ]
            refine wpAnyH_take (i := 12) (oi := ?oi51) (v := ?vv51) ?hi51 (by kernel_rfl) ?hf51 ?hr51 ?hQ51 (Or.inl ⟨?hw51, ?hy51⟩) hHeld ?hh51
            case hi51 => (simp only [List.getElem?_toArray, List.getElem?_cons_succ, List.getElem?_cons_zero]; rfl)
            case hf51 => kernel_rfl
            case hr51 => kernel_rfl
            case hQ51 => exact fun _ _ _ h => h
            case hw51 => rfl
            case hy51 => (intro wz hz; (try dsimp only at hz); skip; go_simp; try (with_reducible rfl))
            try simp only [Act.put, List.setIfInBounds_toArray, List.set_cons_zero, List.set_cons_succ]
            refine wpAnyH_take (i := 13) (oi := ?oi52) (v := ?vv52) ?hi52 (by kernel_rfl) ?hf52 ?hr52 ?hQ52 (Or.inl ⟨?hw52, ?hy52⟩) hHeld ?hh52
            case hi52 => (simp only [List.getElem?_toArray, List.getElem?_cons_succ, List.getElem?_cons_zero]; rfl)
            case hf52 => kernel_rfl
            case hr52 => kernel_rfl
            case hQ52 => exact fun _ _ _ h => h
            case hw52 => rfl
            case hy52 => (intro wz hz; (try dsimp only at hz); skip; go_simp; try (with_reducible rfl))
            try simp only [Act.put, List.setIfInBounds_toArray, List.set_cons_zero, List.set_cons_succ]
            refine wpAnyH_take (i := 14) (oi := ?oi53) (v := ?vv53) ?hi53 (by kernel_rfl) ?hf53 ?hr53 ?hQ53 (Or.inl ⟨?hw53, ?hy53⟩) hHeld ?hh53
            case hi53 => (simp only [List.getElem?_toArray, List.getElem?_cons_succ, List.getElem?_cons_zero]; rfl)
            case hf53 => kernel_rfl
            case hr53 => kernel_rfl
            case hQ53 => exact fun _ _ _ h => h
            case hw53 => rfl
            case hy53 => (intro wz hz; (try dsimp only at hz); skip; go_simp; try (with_reducible rfl))
            try simp only [Act.put, List.setIfInBounds_toArray, List.set_cons_zero, List.set_cons_succ]
            refine wpAnyH_take (i := 15) (oi := ?oi54) (v := ?vv54) ?hi54 (by kernel_rfl) ?hf54 ?hr54 ?hQ54 (Or.inl ⟨?hw54, ?hy54⟩) hHeld ?hh54
            case hi54 => (simp only [List.getElem?_toArray, List.getElem?_cons_succ, List.getElem?_cons_zero]; rfl)
            case hf54 => kernel_rfl
            case hr54 => kernel_rfl
            case hQ54 => exact fun _ _ _ h => h
            case hw54 => rfl
            case hy54 => (intro wz hz; (try dsimp only at hz); skip; go_simp; try (with_reducible rfl))
            try simp only [Act.put, List.setIfInBounds_toArray, List.set_cons_zero, List.set_cons_succ]
            refine wpAnyH_take (i := 16) (oi := ?oi55) (v := ?vv55) ?hi55 (by kernel_rfl) ?hf55 ?hr55 ?hQ55 (Or.inl ⟨?hw55, ?hy55⟩) hHeld ?hh55
            case hi55 => (simp only [List.getElem?_toArray, List.getElem?_cons_succ, List.getElem?_cons_zero]; rfl)
            case hf55 => kernel_rfl
            case hr55 => kernel_rfl
            case hQ55 => exact fun _ _ _ h => h
            case hw55 => rfl
            case hy55 => (intro wz hz; (try dsimp only at hz); have z0 := HOLD.out _ _ _ hz Hi0.out; have z1 := HOLD.out _ _ _ hz Hi1.out; go_simp; try (with_reducible rfl))
            try simp only [Act.put, List.setIfInBounds_toArray, List.set_cons_zero, List.set_cons_succ]
            refine wpAnyH_take (i := 17) (oi := ?oi56) (v := ?vv56) ?hi56 (by kernel_rfl) ?hf56 ?hr56 ?hQ56 (Or.inl ⟨?hw56, ?hy56⟩) hHeld ?hh56
            case hi56 => (simp only [List.getElem?_toArray, List.getElem?_cons_succ, List.getElem?_cons_zero]; rfl)
            case hf56 => kernel_rfl
            case hr56 => kernel_rfl
            case hQ56 => exact fun _ _ _ h => h
            case hw56 => rfl
            case hy56 => (intro wz hz; (try dsimp only at hz); skip; go_simp; try (with_reducible rfl))
            try simp only [Act.put, List.setIfInBounds_toArray, List.set_cons_zero, List.set_cons_succ]
            refine wpAnyH_take (i := 18) (oi := ?oi57) (v := ?vv57) ?hi57 (by kernel_rfl) ?hf57 ?hr57 ?hQ57 (Or.inl ⟨?hw57, ?hy57⟩) hHeld ?hh57
            case hi57 => (simp only [List.getElem?_toArray, List.getElem?_cons_succ, List.getElem?_cons_zero]; rfl)
            case hf57 => kernel_rfl
            case hr57 => kernel_rfl
            case hQ57 => exact fun _ _ _ h => h
            case hw57 => rfl
            case hy57 => (intro wz hz; (try dsimp only at hz); skip; go_simp; try (with_reducible rfl))
            try simp only [Act.put, List.setIfInBounds_toArray, List.set_cons_zero, List.set_cons_succ]
            refine wpAnyH_take (i := 19) (oi := ?oi58) (v := ?vv58) ?hi58 (by kernel_rfl) ?hf58 ?hr58 ?hQ58 (Or.inl ⟨?hw58, ?hy58⟩) hHeld ?hh58
            case hi58 => (simp only [List.getElem?_toArray, List.getElem?_cons_succ, List.getElem?_cons_zero]; rfl)
            case hf58 => kernel_rfl
            case hr58 => kernel_rfl
            case hQ58 => exact fun _ _ _ h => h
            case hw58 => rfl
            case hy58 => (intro wz hz; (try dsimp only at hz); skip; go_simp; try (with_reducible rfl))
            try simp only [Act.put, List.setIfInBounds_toArray, List.set_cons_zero, List.set_cons_succ]
            refine wpAnyH_take (i := 20) (oi := ?oi59) (v := ?vv59) ?hi59 (by kernel_rfl) ?hf59 ?hr59 ?hQ59 (Or.inl ⟨?hw59, ?hy59⟩) hHeld ?hh59
            case hi59 => (simp only [List.getElem?_toArray, List.getElem?_cons_succ, List.getElem?_cons_zero]; rfl)
            case hf59 => kernel_rfl
            case hr59 => kernel_rfl
            case hQ59 => exact fun _ _ _ h => h
            case hw59 => rfl
            case hy59 => (intro wz hz; (try dsimp only at hz); skip; go_simp; try (with_reducible rfl))
            try simp only [Act.put, List.setIfInBounds_toArray, List.set_cons_zero, List.set_cons_succ]
            refine wpAnyH_take (i := 21) (oi := ?oi60) (v := ?vv60) ?hi60 (by kernel_rfl) ?hf60 ?hr60 ?hQ60 (Or.inl ⟨?hw60, ?hy60⟩) hHeld ?hh60
            case hi60 => (simp only [List.getElem?_toArray, List.getElem?_cons_succ, List.getElem?_cons_zero]; rfl)
            case hf60 => kernel_rfl
            case hr60 => kernel_rfl
            case hQ60 => exact fun _ _ _ h => h
            case hw60 => rfl
            case hy60 => (intro wz hz; (try dsimp only at hz); have z0 := HOLD.out _ _ _ hz Hs0.out; have z1 := HOLD.out _ _ _ hz Hs1.out; go_simp; try (with_reducible rfl))
            try simp only [Act.put, List.setIfInBounds_toArray, List.set_cons_zero, List.set_cons_succ]
            refine wpAnyH_ready (rs := [22]) (by kernel_rfl) (by simp) ?_
            refine AllReadyH.cons (o := ?oi61) ?hi61 (fun K hK => ?hh61) AllReadyH.nil
            case hi61 => (simp only [List.getElem?_toArray, List.getElem?_cons_succ, List.getElem?_cons_zero]; rfl)
            go_simp
            refine Calls.mono (low1_ok iL iH sL sH _) ?_
            rintro e wq ⟨rfl, hb⟩
            have hb2 := hHeld.trans (hb.mono hHeld.size)
            clear hb
            clear hHeld
            refine hK.out _ _ (hb2) (fun hHeld => ?_)
            clear hK K
            try simp only [Act.put, List.setIfInBounds_toArray, List.set_cons_zero, List.set_cons_succ]
            clear hb2
            rcases EQ2.out with G | G
            · rw [G]
              have G2 := Lib.hid G
              clear G
              refine wpAnyH_take (i := 23) (oi := ?oi62) (v := ?vv62) ?hi62 (by kernel_rfl) ?hf62 ?hr62 ?hQ62 (Or.inl ⟨?hw62, ?hy62⟩) hHeld ?hh62
              case hi62 => (simp only [List.getElem?_toArray, List.getElem?_cons_succ, List.getElem?_cons_zero]; rfl)
              case hf62 => kernel_rfl
              case hr62 => kernel_rfl
              case hQ62 => exact fun _ _ _ h => h
              case hw62 => rfl
              case hy62 => (intro wz hz; (try dsimp only at hz); skip; go_simp; try (with_reducible rfl))
              try simp only [Act.put, List.setIfInBounds_toArray, List.set_cons_zero, List.set_cons_succ]
              refine wpAnyH_done (by kernel_rfl) ?_ _
              have BX := HBW.out.trans (hHeld.mono HBW.out.size)
              have ho : wq.ownsRow w0.heap.size 24 2 u13 m ((outs f (dnAt zs n f) j).map (Value.int .i64)) := own_below HOW.out hHeld
              have hsq := BX.size
              have HUT' : Hid (dnAt zs n f i = true) := Lib.hid (by rw [HUP.out, G1.out, G2.out]; rfl)
              clear hHeld
              have w4 : IntKind.i64.wrap ((j : Int) * 3600000) = (j : Int) * 3600000 := IntWalk.i64_in _ (by omega)
              have w5 : IntKind.i64.wrap ((s : Int) * 3600000) = (s : Int) * 3600000 := IntWalk.i64_in _ (by omega)
              have w6 : IntKind.i64.wrap (f + (j : Int) * 3600000) = f + (j : Int) * 3600000 := IntWalk.i64_in _ (by omega)
              have w7 : IntKind.i64.wrap (f + (s : Int) * 3600000) = f + (s : Int) * 3600000 := IntWalk.i64_in _ (by omega)
              go_wp2_with (at_builtin; refine wpList_append_own _ rfl _ _ 39 rfl w0.heap.size 24 iS (.agg #[.int .i64 0, .int .i64 0]) 2 16 Tryd.underlying39 hi hy0 hy1 hy2 rfl (by decide) _ _ _ rfl (ho.alloc _) ⟨wq.heap.size, 0, none⟩ 1 1 [.int .i64 (f + (j : Int) * 3600000), .int .i64 (f + (s : Int) * 3600000)] rfl rfl ?c1 ?c2 ?c3 ?c4 ?c5 ?_)
              case c1 => exact cells_two
              case c2 => intro u hu; simp at hu; rcases hu with rfl | rfl <;> rfl
              case c3 => unfold maxLen; omega
              case c4 => omega
              case c5 => simp; omega
              · intro v' w5 hown' hgrow _
                have R : w5.ownsRow w0.heap.size 24 2 v' (m + 1) ((outs f (dnAt zs n f) (j + 1)).map (Value.int .i64)) := by
                  unfold outs
                  rw [← HIJ.out, HUT'.out, if_pos rfl, show (j : Int) + 2 = (s : Int) by have := HHS.out; have := HIJ.out; omega]
                  simpa only [List.map_append, List.map_cons, List.map_nil] using hown'
                have hb5 := below_grew (BX.alloc hsq _) hgrow (ho.alloc _)
                have HR := Lib.hid R; have HB5 := Lib.hid hb5
                clear hown' hgrow ho R hb5 BX
                go_wp2_with fail
                go_roundw
                case rel => exact ⟨j + 1, s, m + 1, by have := HHS.out; have := HIJ.out; omega, by omega, by omega, by go_num, HR, HB5.out⟩
                case measure => simp [intOf]; omega
            · rw [G]
              have G2 := Lib.hid G
              clear G
              refine wpAnyH_take (i := 23) (oi := ?oi63) (v := ?vv63) ?hi63 (by kernel_rfl) ?hf63 ?hr63 ?hQ63 (Or.inl ⟨?hw63, ?hy63⟩) hHeld ?hh63
              case hi63 => (simp only [List.getElem?_toArray, List.getElem?_cons_succ, List.getElem?_cons_zero]; rfl)
              case hf63 => kernel_rfl
              case hr63 => kernel_rfl
              case hQ63 => exact fun _ _ _ h => h
              case hw63 => rfl
              case hy63 => (intro wz hz; (try dsimp only at hz); skip; go_simp; try (with_reducible rfl))
              try simp only [Act.put, List.setIfInBounds_toArray, List.set_cons_zero, List.set_cons_succ]
              refine wpAnyH_done (by kernel_rfl) ?_ _
              have BX := Lib.hid (HBW.out.trans (hHeld.mono HBW.out.size))
              have ho : wq.ownsRow w0.heap.size 24 2 u13 m ((outs f (dnAt zs n f) j).map (Value.int .i64)) := own_below HOW.out hHeld
              have R : wq.ownsRow w0.heap.size 24 2 u13 m ((outs f (dnAt zs n f) (j + 1)).map (Value.int .i64)) := by
                unfold outs
                rw [← HIJ.out, HUP.out, G1.out, G2.out, Bool.and_false, if_neg (by simp)]
                simpa using ho
              have HR := Lib.hid R
              clear hHeld ho R
              go_wp2_with fail
              go_roundw
              case rel => exact ⟨j + 1, s, m, by have := HHS.out; have := HIJ.out; omega, by omega, by omega, by go_num, HR, BX.out⟩
              case measure => simp [intOf]; omega
          · rw [G]
            have G1 := Lib.hid G
            clear G
            refine wpAnyH_take (i := 11) (oi := ?oi64) (v := ?vv64) ?hi64 (by kernel_rfl) ?hf64 ?hr64 ?hQ64 (Or.inl ⟨?hw64, ?hy64⟩) hHeld ?hh64
            case hi64 => (simp only [List.getElem?_toArray, List.getElem?_cons_succ, List.getElem?_cons_zero]; rfl)
            case hf64 => kernel_rfl
            case hr64 => kernel_rfl
            case hQ64 => exact fun _ _ _ h => h
            case hw64 => rfl
            case hy64 => (intro wz hz; (try dsimp only at hz); skip; go_simp; try (with_reducible rfl))
            try simp only [Act.put, List.setIfInBounds_toArray, List.set_cons_zero, List.set_cons_succ]
            refine wpAnyH_take (i := 12) (oi := ?oi65) (v := undef) ?hi65 (by kernel_rfl) ?hf65 ?hr65 ?hQ65 (Or.inr ⟨?hw65, rfl⟩) hHeld ?hh65
            case hi65 => (simp only [List.getElem?_toArray, List.getElem?_cons_succ, List.getElem?_cons_zero]; rfl)
            case hf65 => kernel_rfl
            case hr65 => kernel_rfl
            case hQ65 => exact fun _ _ _ h => h
            case hw65 => rfl
            try simp only [Act.put, List.setIfInBounds_toArray, List.set_cons_zero, List.set_cons_succ]
            refine wpAnyH_take (i := 13) (oi := ?oi66) (v := undef) ?hi66 (by kernel_rfl) ?hf66 ?hr66 ?hQ66 (Or.inr ⟨?hw66, rfl⟩) hHeld ?hh66
            case hi66 => (simp only [List.getElem?_toArray, List.getElem?_cons_succ, List.getElem?_cons_zero]; rfl)
            case hf66 => kernel_rfl
            case hr66 => kernel_rfl
            case hQ66 => exact fun _ _ _ h => h
            case hw66 => rfl
            try simp only [Act.put, List.setIfInBounds_toArray, List.set_cons_zero, List.set_cons_succ]
            refine wpAnyH_take (i := 14) (oi := ?oi67) (v := undef) ?hi67 (by kernel_rfl) ?hf67 ?hr67 ?hQ67 (Or.inr ⟨?hw67, rfl⟩) hHeld ?hh67
            case hi67 => (simp only [List.getElem?_toArray, List.getElem?_cons_succ, List.getElem?_cons_zero]; rfl)
            case hf67 => kernel_rfl
            case hr67 => kernel_rfl
            case hQ67 => exact fun _ _ _ h => h
            case hw67 => rfl
            try simp only [Act.put, List.setIfInBounds_toArray, List.set_cons_zero, List.set_cons_succ]
            refine wpAnyH_take (i := 15) (oi := ?oi68) (v := undef) ?hi68 (by kernel_rfl) ?hf68 ?hr68 ?hQ68 (Or.inr ⟨?hw68, rfl⟩) hHeld ?hh68
            case hi68 => (simp only [List.getElem?_toArray, List.getElem?_cons_succ, List.getElem?_cons_zero]; rfl)
            case hf68 => kernel_rfl
            case hr68 => kernel_rfl
            case hQ68 => exact fun _ _ _ h => h
            case hw68 => rfl
            try simp only [Act.put, List.setIfInBounds_toArray, List.set_cons_zero, List.set_cons_succ]
            refine wpAnyH_take (i := 16) (oi := ?oi69) (v := undef) ?hi69 (by kernel_rfl) ?hf69 ?hr69 ?hQ69 (Or.inr ⟨?hw69, rfl⟩) hHeld ?hh69
            case hi69 => (simp only [List.getElem?_toArray, List.getElem?_cons_succ, List.getElem?_cons_zero]; rfl)
            case hf69 => kernel_rfl
            case hr69 => kernel_rfl
            case hQ69 => exact fun _ _ _ h => h
            case hw69 => rfl
            try simp only [Act.put, List.setIfInBounds_toArray, List.set_cons_zero, List.set_cons_succ]
            refine wpAnyH_take (i := 17) (oi := ?oi70) (v := undef) ?hi70 (by kernel_rfl) ?hf70 ?hr70 ?hQ70 (Or.inr ⟨?hw70, rfl⟩) hHeld ?hh70
            case hi70 => (simp only [List.getElem?_toArray, List.getElem?_cons_succ, List.getElem?_cons_zero]; rfl)
            case hf70 => kernel_rfl
            case hr70 => kernel_rfl
            case hQ70 => exact fun _ _ _ h => h
            case hw70 => rfl
            try simp only [Act.put, List.setIfInBounds_toArray, List.set_cons_zero, List.set_cons_succ]
            refine wpAnyH_take (i := 18) (oi := ?oi71) (v := undef) ?hi71 (by kernel_rfl) ?hf71 ?hr71 ?hQ71 (Or.inr ⟨?hw71, rfl⟩) hHeld ?hh71
            case hi71 => (simp only [List.getElem?_toArray, List.getElem?_cons_succ, List.getElem?_cons_zero]; rfl)
            case hf71 => kernel_rfl
            case hr71 => kernel_rfl
            case hQ71 => exact fun _ _ _ h => h
            case hw71 => rfl
            try simp only [Act.put, List.setIfInBounds_toArray, List.set_cons_zero, List.set_cons_succ]
            refine wpAnyH_take (i := 19) (oi := ?oi72) (v := undef) ?hi72 (by kernel_rfl) ?hf72 ?hr72 ?hQ72 (Or.inr ⟨?hw72, rfl⟩) hHeld ?hh72
            case hi72 => (simp only [List.getElem?_toArray, List.getElem?_cons_succ, List.getElem?_cons_zero]; rfl)
            case hf72 => kernel_rfl
            case hr72 => kernel_rfl
            case hQ72 => exact fun _ _ _ h => h
            case hw72 => rfl
            try simp only [Act.put, List.setIfInBounds_toArray, List.set_cons_zero, List.set_cons_succ]
            refine wpAnyH_take (i := 20) (oi := ?oi73) (v := undef) ?hi73 (by kernel_rfl) ?hf73 ?hr73 ?hQ73 (Or.inr ⟨?hw73, rfl⟩) hHeld ?hh73
            case hi73 => (simp only [List.getElem?_toArray, List.getElem?_cons_succ, List.getElem?_cons_zero]; rfl)
            case hf73 => kernel_rfl
            case hr73 => kernel_rfl
            case hQ73 => exact fun _ _ _ h => h
            case hw73 => rfl
            try simp only [Act.put, List.setIfInBounds_toArray, List.set_cons_zero, List.set_cons_succ]
            refine wpAnyH_take (i := 21) (oi := ?oi74) (v := undef) ?hi74 (by kernel_rfl) ?hf74 ?hr74 ?hQ74 (Or.inr ⟨?hw74, rfl⟩) hHeld ?hh74
            case hi74 => (simp only [List.getElem?_toArray, List.getElem?_cons_succ, List.getElem?_cons_zero]; rfl)
            case hf74 => kernel_rfl
            case hr74 => kernel_rfl
            case hQ74 => exact fun _ _ _ h => h
            case hw74 => rfl
            try simp only [Act.put, List.setIfInBounds_toArray, List.set_cons_zero, List.set_cons_succ]
            refine wpAnyH_take (i := 22) (oi := ?oi75) (v := undef) ?hi75 (by kernel_rfl) ?hf75 ?hr75 ?hQ75 (Or.inr ⟨?hw75, rfl⟩) hHeld ?hh75
            case hi75 => (simp only [List.getElem?_toArray, List.getElem?_cons_succ, List.getElem?_cons_zero]; rfl)
            case hf75 => kernel_rfl
            case hr75 => kernel_rfl
            case hQ75 => exact fun _ _ _ h => h
            case hw75 => rfl
            try simp only [Act.put, List.setIfInBounds_toArray, List.set_cons_zero, List.set_cons_succ]
            refine wpAnyH_take (i := 23) (oi := ?oi76) (v := ?vv76) ?hi76 (by kernel_rfl) ?hf76 ?hr76 ?hQ76 (Or.inl ⟨?hw76, ?hy76⟩) hHeld ?hh76
            case hi76 => (simp only [List.getElem?_toArray, List.getElem?_cons_succ, List.getElem?_cons_zero]; rfl)
            case hf76 => kernel_rfl
            case hr76 => kernel_rfl
            case hQ76 => exact fun _ _ _ h => h
            case hw76 => rfl
            case hy76 => (intro wz hz; (try dsimp only at hz); skip; go_simp; try (with_reducible rfl))
            try simp only [Act.put, List.setIfInBounds_toArray, List.set_cons_zero, List.set_cons_succ]
            refine wpAnyH_done (by kernel_rfl) ?_ _
            have BX := Lib.hid (HBW.out.trans (hHeld.mono HBW.out.size))
            have ho : wp.ownsRow w0.heap.size 24 2 u13 m ((outs f (dnAt zs n f) j).map (Value.int .i64)) := own_below HOW.out hHeld
            have R : wp.ownsRow w0.heap.size 24 2 u13 m ((outs f (dnAt zs n f) (j + 1)).map (Value.int .i64)) := by
              unfold outs
              rw [← HIJ.out, HUP.out, G1.out, Bool.false_and, if_neg (by simp)]
              simpa using ho
            have HR := Lib.hid R
            clear hHeld ho R
            go_wp2_with fail
            go_roundw
            case rel => exact ⟨j + 1, s, m, by have := HHS.out; have := HIJ.out; omega, by omega, by omega, by go_num, HR, BX.out⟩
            case measure => simp [intOf]; omega
        · have ej : ¬ ((i : Int) + 1 < (N : Int)) := by omega
          have HO := Lib.hid hown.out
          have HB2 := Lib.hid (HBL.out.trans (hbl.mono HBL.out.size))
          have hje : j = N - 2 := by omega
          have HJ := Lib.hid hje
          have HS := Lib.hid HBL.out.size
          clear hown hbl hsz hj hlt hm hje hij
          go_wp2_with fail
          go_ret2
          have HO2 := HO.out
          rw [HJ.out] at HO2
          obtain ⟨q1, q2⟩ := HO2
          refine ⟨_, m, rfl, ⟨q1, ?_⟩, HB2.out⟩
          rcases q2 with h | ⟨gg, c1, c2, e1, e2, e3⟩
          · exact Or.inl h
          · exact Or.inr ⟨gg, c1, c2, e1, Nat.le_trans HS.out e2, e3⟩
end Go.Proofs.YtdeoahgcppbmkaaDoor
