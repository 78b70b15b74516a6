/- tide.find with High's closure, for any permitted constituents. -/
import Derived.Test.YtdeoahgcppbmkaaDoorTideP
import Derived.Test.YtdeoahgcppbmkaaDoorApps
import Derived.Test.YtdeoahgcppbmkaaDoorSkyLaw
import Derived.Deep.RegionHeld3
namespace Go.Proofs.YtdeoahgcppbmkaaDoor
open Go.RowKit
set_option linter.unusedSimpArgs false
set_option linter.unusedVariables false

set_option maxHeartbeats 1000000 in
theorem high1_ok (a b c d : Int) (w : World) :
    Calls Tryd.prog 72 #[.agg #[.int .i64 a, .int .i64 b], .agg #[.int .i64 c, .int .i64 d]] w fun e w' => e = .returned (.bool (decide (d < a))) ∧ Below w.heap.size w w' := by
  go_enter Tryd.func72, Tryd.ntmps72
  go_wp2
  go_returns
  exact ⟨rfl, (by repeat' (first | (with_reducible refine below_drewN ?_ _) | go_grown))⟩
/-- The heights, one after another. -/
def hts (zs : List Int) (n : Nat) (f : Int) : Nat → List Int
  | 0 => []
  | k + 1 => hts zs n f k ++ [hLo zs n (f + (k : Int) * 3600000), hHi zs n (f + (k : Int) * 3600000)]
/-- Those above both neighbours. -/
def upAt (zs : List Int) (n : Nat) (f : Int) (i : Nat) : Bool := decide (hHi zs n (f + ((i : Int) - 1) * 3600000) < hLo zs n (f + (i : Int) * 3600000)) && decide (hHi zs n (f + ((i : Int) + 1) * 3600000) < hLo zs n (f + (i : Int) * 3600000))
def outs (f : Int) (up : Nat → Bool) : Nat → List Int
  | 0 => []
  | k + 1 => outs f up k ++ (if up (k + 1) then [f + (k : Int) * 3600000, f + ((k : Int) + 2) * 3600000] else [])
theorem hts_len (zs : List Int) (n : Nat) (f : Int) : ∀ k, (hts zs n f k).length = k * 2
  | 0 => rfl
  | k + 1 => by unfold hts; rw [List.length_append, hts_len zs n f k]; show k * 2 + 2 = _; omega
theorem hts_lo (zs : List Int) (n : Nat) (f : Int) : ∀ k i, i < k → ix (hts zs n f k) (i * 2) = hLo zs n (f + (i : Int) * 3600000)
  | 0, i, h => by omega
  | k + 1, i, h => by
    unfold hts
    have hl := hts_len zs n f k
    by_cases e : i < k
    · rw [ixP_lt (by omega)]; exact hts_lo zs n f k i e
    · obtain rfl : i = k := by omega
      have := ixP_at (xs := hts zs n f i) (ys := [hLo zs n (f + (i : Int) * 3600000), hHi zs n (f + (i : Int) * 3600000)]) 0
      rw [hl] at this
      exact this
theorem hts_hi (zs : List Int) (n : Nat) (f : Int) : ∀ k i, i < k → ix (hts zs n f k) (i * 2 + 1) = hHi zs n (f + (i : Int) * 3600000)
  | 0, i, h => by omega
  | k + 1, i, h => by
    unfold hts
    have hl := hts_len zs n f k
    by_cases e : i < k
    · rw [ixP_lt (by omega)]; exact hts_hi zs n f k i e
    · obtain rfl : i = k := by omega
      have := ixP_at (xs := hts zs n f i) (ys := [hLo zs n (f + (i : Int) * 3600000), hHi zs n (f + (i : Int) * 3600000)]) 1
      rw [hl] at this
      exact this
theorem infoSpanF : (Tryd.prog.info? 24).map (fun i => (i.zero, i.size, i.bytes)) = some (some (.agg #[.int .i64 0, .int .i64 0]), 2, 16) := by kernel_rfl
def FindPost (zs : List Int) (n : Nat) (f : Int) (N : Nat) (w : World) (e : Ending) (w' : World) : Prop := ∃ (v : Value) (m : Nat), e = .returned (.tuple #[v, .int .i64 0]) ∧ w'.ownsRow w.heap.size 24 2 v m ((outs f (upAt zs n f) (N - 2)).map (Value.int .i64)) ∧ Below w.heap.size w w'
set_option maxRecDepth 100000 in
set_option maxHeartbeats 16000000 in
theorem find_ok (f g : Int) (N : Nat) (A : Option Addr) (n cap : Nat) (zs : List Int) (w : World) (ht : SinT w) (hF : FlatSl w 3 A n cap zs) (hn : n ≤ 12) (hz : ∀ i, i < n → TdOk zs i) (h1 : instOk f = true) (h2 : instOk g = true) (hfg : f ≤ g) (hg : g - f ≤ 1728000000) (hN : N = ((g - f) / 3600000).toNat + 1) :
    Calls Tryd.prog 71 #[.slice A n cap, .int .i64 f, .int .i64 g, .func (.func 72) #[] #[]] w (FindPost zs n f N w) := by
  have htf : -345600000000000 ≤ f ∧ f ≤ 345686400000000 := by
    have h : dayOk (f / 86400000) = true := h1
    unfold dayOk at h
    have := of_decide_eq_true h
    omega
  have htg : -345600000000000 ≤ g ∧ g ≤ 345686400000000 := by
    have h : dayOk (g / 86400000) = true := h2
    unfold dayOk at h
    have := of_decide_eq_true h
    omega
  obtain ⟨tf1, tf2⟩ := htf
  obtain ⟨tg1, tg2⟩ := htg
  obtain ⟨iS, hi, hy0, hy1, hy2⟩ := info_parts infoSpanF
  have HC := Lib.hid (fun W (h : FlatSl W 3 A n cap zs) => tcheck_ok A n cap zs W h hn hz)
  have I1 := Lib.hid (fun w => h1 ▸ isInst_ok f w (by omega) (by omega))
  have I2 := Lib.hid (fun w => h2 ▸ isInst_ok g w (by omega) (by omega))
  have HV := Lib.hid (fun t W (hT : SinT W) (h : FlatSl W 3 A n cap zs) (hb : -350000000000000 ≤ t ∧ t ≤ 350000000000000) => theight_ok t A n cap zs W hT h hn hz hb)
  have HF := Lib.hid hF
  have HT := Lib.hid ht
  have d1 : ¬ g < f := by omega
  have d2 : ¬ 1728000000 < g - f := by omega
  have d3 : IntKind.i64.wrap (g - f) = g - f := IntWalk.i64_in _ (by omega)
  have HN := Lib.hid (show ∀ k : Nat, (f + (k : Int) * 3600000 ≤ g → k < N) ∧ (k < N → f + (k : Int) * 3600000 ≤ g) by intro k; omega)
  have hN500 : N ≤ 500 := by omega
  have HN5 := Lib.hid hN500
  clear hF ht hz h1 h2 hn hN hN500
  go_enter Tryd.func71, Tryd.ntmps71
  go_wp2_with fail
  refine Calls.mono (HC.out _ HF.out) ?_
  rintro e w1 ⟨rfl, hb⟩
  have W1 := Lib.hid hb
  clear hb
  go_wp2_with fail
  refine Calls.mono (I1.out _) ?_
  rintro e w2 ⟨rfl, hb⟩
  have W2 := Lib.hid (W1.out.trans (hb.mono W1.out.size))
  clear hb
  go_wp2_with fail
  refine Calls.mono (I2.out _) ?_
  rintro e w3 ⟨rfl, hb⟩
  have W3 := Lib.hid (W2.out.trans (hb.mono W2.out.size))
  clear hb
  go_wp2_with fail
  go_loopw [11, 12] (fun v i wr => ∃ k : Nat, k ≤ N ∧ i = .int .i64 (f + (k : Int) * 3600000) ∧ wr.ownsRow w.heap.size 24 2 v k ((hts zs n f k).map (Value.int .i64)) ∧ Below w.heap.size w wr) (fun _ i _ => (g + 1 - intOf i).toNat)
  case atStart => exact ⟨0, by omega, by simp, World.ownsRow_nil _ _ _ _, W3.out⟩
  case round =>
    obtain ⟨k, hk, rfl, hown, hbl⟩ := hrel
    have hsz := hbl.size
    by_cases hlt : k < N
    · have hle := (HN.out k).2 hlt
      have k500 : k < 500 := by have := HN5.out; omega
      obtain ⟨at', hat⟩ : ∃ x, x = f + (k : Int) * 3600000 := ⟨_, rfl⟩
      have hnx : at' + 3600000 = f + ((k + 1 : Nat) : Int) * 3600000 := by rw [hat]; omega
      rw [← hat] at hle
      have ab1 : -345600000000000 ≤ at' := by omega
      have ab2 : at' ≤ 345686400000000 := by omega
      have hv := Lib.hid (fun W hT h => HV.out at' W hT h (by omega))
      have HA := Lib.hid hat
      obtain ⟨lo, hlo⟩ : ∃ x, x = hLo zs n at' := ⟨_, rfl⟩
      obtain ⟨hi', hhi⟩ : ∃ x, x = hHi zs n at' := ⟨_, rfl⟩
      rw [← hlo, ← hhi] at hv
      have HLO := Lib.hid hlo; have HHI := Lib.hid hhi; have HNX := Lib.hid hnx
      have T1 := Lib.hid (HT.out.below hbl); have F1 := Lib.hid (flat_below HF.out hbl)
      have HO := Lib.hid hown; have HBL := Lib.hid hbl
      rw [← hat]
      clear hat hlo hhi hnx hown hbl
      go_wp2_with fail
      refine Calls.mono (hv.out _ T1.out F1.out) ?_
      rintro e w4 ⟨rfl, hb⟩
      have hb4 := HBL.out.trans (hb.mono HBL.out.size)
      have hs4 := hb4.size
      have ho4 := own_below HO.out hb
      clear hb
      go_wp2_with (at_builtin; refine wpList_append_own _ rfl _ _ 39 rfl w.heap.size 24 iS (.agg #[.int .i64 0, .int .i64 0]) 2 16 Tryd.underlying39 hi hy0 hy1 hy2 rfl (by decide) _ _ _ rfl (ho4.alloc _) ⟨w4.heap.size, 0, none⟩ 1 1 [.int .i64 lo, .int .i64 hi'] rfl rfl ?c1 ?c2 ?c3 ?c4 ?c5 ?_)
      case c1 => exact cells_two
      case c2 => intro u hu; simp at hu; rcases hu with rfl | rfl <;> rfl
      case c3 => unfold maxLen; omega
      case c4 => omega
      case c5 => simp; omega
      · intro v' w5 hown' hgrow _
        have R : w5.ownsRow w.heap.size 24 2 v' (k + 1) ((hts zs n f (k + 1)).map (Value.int .i64)) := by
          unfold hts
          rw [← HA.out]
          simpa only [List.map_append, List.map_cons, List.map_nil, ← HLO.out, ← HHI.out] using hown'
        have hb5 := below_grew (hb4.alloc hs4 _) hgrow (ho4.alloc _)
        have HR := Lib.hid R; have HB5 := Lib.hid hb5
        clear hown' hgrow ho4 R hb5 hb4
        go_wp2_with fail
        go_roundw
        case rel => exact ⟨k + 1, by omega, by rw [HNX.out], HR.out, HB5.out⟩
        case measure => simp [intOf]; omega
    · have ek : k = N := by omega
      have hgt : ¬ f + (N : Int) * 3600000 ≤ g := fun h => absurd ((HN.out N).1 h) (by omega)
      rw [ek] at hown ⊢
      obtain ⟨w0, hw0⟩ : ∃ x, x = wr := ⟨_, rfl⟩
      subst hw0
      obtain ⟨A', cap', hv, hF'⟩ := own_flat hown
      have HFH := Lib.hid hF'
      have HBL := Lib.hid hbl
      clear hown hbl hF' hsz hk hlt ek
      subst hv
      go_wp2_with fail
      clear hgt
      go_loopw [13, 14] (fun v i' ws => ∃ (j i m : Nat), i = j + 1 ∧ j ≤ N - 2 ∧ m ≤ j ∧ i' = .int .i64 (i : Int) ∧ Hid (ws.ownsRow w0.heap.size 24 2 v m ((outs f (upAt zs n f) j).map (Value.int .i64))) ∧ Below w0.heap.size w0 ws) (fun _ i _ => N - (intOf i).toNat)
      case atStart => exact ⟨0, 1, 0, rfl, by omega, by omega, rfl, Lib.hid (World.ownsRow_nil _ _ _ _), Below.refl _ _⟩
      case round =>
        obtain ⟨j, i, m, hij, hj, hm, rfl, hown, hbl⟩ := hrel
        have hsz := hbl.size
        have HIJ := Lib.hid hij
        have j500 : i ≤ 501 := by have := HN5.out; omega
        by_cases hlt : j < N - 2
        · obtain ⟨s, hs⟩ : ∃ s, s = i + 1 := ⟨_, rfl⟩
          obtain ⟨q, o, hA, hc⟩ := HFH.out.at' (by omega)
          have hcap := HFH.out.le
          have hcm := HFH.out.most
          unfold maxLen at hcm
          subst hA
          have cell : ∀ x, x < N * 2 → wr.cell? ⟨q, o + x, none⟩ = some (.int .i64 (ix (hts zs n f N) x)) := fun x hx => (hbl.cell (p := ⟨q, o + x, none⟩) (cell_below (hc x hx))).trans (hc x hx)
          have r0 := cell (j * 2) (by omega); have r1 := cell (j * 2 + 1) (by omega)
          have i0 := cell (i * 2) (by omega); have i1 := cell (i * 2 + 1) (by omega)
          have s0 := cell (s * 2) (by omega); have s1 := cell (s * 2 + 1) (by omega)
          rw [hts_lo zs n f N j (by omega)] at r0
          rw [hts_hi zs n f N j (by omega)] at r1
          rw [hts_lo zs n f N i (by omega)] at i0
          rw [hts_hi zs n f N i (by omega)] at i1
          rw [hts_lo zs n f N s (by omega)] at s0
          rw [hts_hi zs n f N s (by omega)] at s1
          rw [← Nat.add_assoc] at r1 i1 s1
          have hup : upAt zs n f i = (decide (hHi zs n (f + (j : Int) * 3600000) < hLo zs n (f + (i : Int) * 3600000)) && decide (hHi zs n (f + (s : Int) * 3600000) < hLo zs n (f + (i : Int) * 3600000))) := by
            unfold upAt
            rw [show (i : Int) - 1 = (j : Int) by omega, show (i : Int) + 1 = (s : Int) by omega]
          generalize hLo zs n (f + (j : Int) * 3600000) = rL at *
          generalize hHi zs n (f + (j : Int) * 3600000) = rH at *
          generalize hLo zs n (f + (i : Int) * 3600000) = iL at *
          generalize hHi zs n (f + (i : Int) * 3600000) = iH at *
          generalize hLo zs n (f + (s : Int) * 3600000) = sL at *
          generalize hHi zs n (f + (s : Int) * 3600000) = sH at *
          have HUP := Lib.hid hup
          clear hup hc cell
          have e1 : (i : Int) - 1 = (j : Int) := by omega
          have e2 : (i : Int) + 1 = (s : Int) := by omega
          have b0 : (0 : Int) ≤ (j : Int) := by omega
          have b1 : (0 : Int) ≤ (i : Int) := by omega
          have b2 : (0 : Int) ≤ (s : Int) := by omega
          have b3 : (j : Int) < (N : Int) := by omega
          have b4 : (i : Int) < (N : Int) := by omega
          have b5 : (s : Int) < (N : Int) := by omega
          have b6 : (j : Int) < (cap' : Int) := by omega
          have b7 : (i : Int) < (cap' : Int) := by omega
          have b8 : (s : Int) < (cap' : Int) := by omega
          have w1' : IntKind.i64.wrap (j : Int) = (j : Int) := IntWalk.i64_in _ (by omega)
          have w2' : IntKind.i64.wrap (s : Int) = (s : Int) := IntWalk.i64_in _ (by omega)
          have HHS := Lib.hid hs
          clear hij hs
          go_upto_region 19 with fail
          have hql : q < wr.heap.size := World.block_lt_of_cell? wr _ i0
          have HBW := Lib.hid hbl
          have HOW := Lib.hid hown.out
          clear hbl hown
          have GX := Lib.hid (show Below wr.heap.size wr wr.drew from (Below.refl _ _).drew)
          have HOLD := Lib.hid (fun (wz : World) (p : Addr) (v : Value) (hb : Below wr.heap.size wr wz) (hc : wr.cell? p = some v) => (hb.cell (cell_below hc)).trans hc)
          have Hr0 := Lib.hid r0; have Hr1 := Lib.hid r1; have Hi0 := Lib.hid i0; have Hi1 := Lib.hid i1; have Hs0 := Lib.hid s0; have Hs1 := Lib.hid s1
          have Hm9 := Lib.hid hm
          have EQ1 := Lib.hid (show decide (rH < iL) = true ∨ decide (rH < iL) = false by cases decide (rH < iL) <;> simp)
          have EQ2 := Lib.hid (show decide (sH < iL) = true ∨ decide (sH < iL) = false by cases decide (sH < iL) <;> simp)
          clear r0 r1 i0 i1 s0 s1
          refine wp_region_held_drew (S := fun w' => Below wr.heap.size wr w') (by kernel_rfl) GX.out (fun hHeld => ?_)
          refine wpAnyH_take (i := 0) (oi := ?oi1) (v := ?vv1) ?hi1 (by kernel_rfl) ?hf1 ?hr1 ?hQ1 (Or.inl ⟨?hw1, ?hy1⟩) hHeld ?hh1
          case hi1 => (simp only [List.getElem?_toArray, List.getElem?_cons_succ, List.getElem?_cons_zero]; rfl)
          case hf1 => kernel_rfl
          case hr1 => kernel_rfl
          case hQ1 => exact fun _ _ _ h => h
          case hw1 => rfl
          case hy1 => (intro wz hz; (try dsimp only at hz); skip; go_simp; try (with_reducible rfl))
          try simp only [Act.put, List.setIfInBounds_toArray, List.set_cons_zero, List.set_cons_succ]
          refine wpAnyH_take (i := 1) (oi := ?oi2) (v := ?vv2) ?hi2 (by kernel_rfl) ?hf2 ?hr2 ?hQ2 (Or.inl ⟨?hw2, ?hy2⟩) hHeld ?hh2
          case hi2 => (simp only [List.getElem?_toArray, List.getElem?_cons_succ, List.getElem?_cons_zero]; rfl)
          case hf2 => kernel_rfl
          case hr2 => kernel_rfl
          case hQ2 => exact fun _ _ _ h => h
          case hw2 => rfl
          case hy2 => (intro wz hz; (try dsimp only at hz); skip; go_simp; try (with_reducible rfl))
          try simp only [Act.put, List.setIfInBounds_toArray, List.set_cons_zero, List.set_cons_succ]
          refine wpAnyH_take (i := 2) (oi := ?oi3) (v := ?vv3) ?hi3 (by kernel_rfl) ?hf3 ?hr3 ?hQ3 (Or.inl ⟨?hw3, ?hy3⟩) hHeld ?hh3
          case hi3 => (simp only [List.getElem?_toArray, List.getElem?_cons_succ, List.getElem?_cons_zero]; rfl)
          case hf3 => kernel_rfl
          case hr3 => kernel_rfl
          case hQ3 => exact fun _ _ _ h => h
          case hw3 => rfl
          case hy3 => (intro wz hz; (try dsimp only at hz); skip; go_simp; try (with_reducible rfl))
          try simp only [Act.put, List.setIfInBounds_toArray, List.set_cons_zero, List.set_cons_succ]
          refine wpAnyH_take (i := 3) (oi := ?oi4) (v := ?vv4) ?hi4 (by kernel_rfl) ?hf4 ?hr4 ?hQ4 (Or.inl ⟨?hw4, ?hy4⟩) hHeld ?hh4
          case hi4 => (simp only [List.getElem?_toArray, List.getElem?_cons_succ, List.getElem?_cons_zero]; rfl)
          case hf4 => kernel_rfl
          case hr4 => kernel_rfl
          case hQ4 => exact fun _ _ _ h => h
          case hw4 => rfl
          case hy4 => (intro wz hz; (try dsimp only at hz); skip; go_simp; try (with_reducible rfl))
          try simp only [Act.put, List.setIfInBounds_toArray, List.set_cons_zero, List.set_cons_succ]
          refine wpAnyH_take (i := 4) (oi := ?oi5) (v := ?vv5) ?hi5 (by kernel_rfl) ?hf5 ?hr5 ?hQ5 (Or.inl ⟨?hw5, ?hy5⟩) hHeld ?hh5
          case hi5 => (simp only [List.getElem?_toArray, List.getElem?_cons_succ, List.getElem?_cons_zero]; rfl)
          case hf5 => kernel_rfl
          case hr5 => kernel_rfl
          case hQ5 => exact fun _ _ _ h => h
          case hw5 => rfl
          case hy5 => (intro wz hz; (try dsimp only at hz); have z0 := HOLD.out _ _ _ hz Hi0.out; have z1 := HOLD.out _ _ _ hz Hi1.out; go_simp; try (with_reducible rfl))
          try simp only [Act.put, List.setIfInBounds_toArray, List.set_cons_zero, List.set_cons_succ]
          refine wpAnyH_take (i := 5) (oi := ?oi6) (v := ?vv6) ?hi6 (by kernel_rfl) ?hf6 ?hr6 ?hQ6 (Or.inl ⟨?hw6, ?hy6⟩) hHeld ?hh6
          case hi6 => (simp only [List.getElem?_toArray, List.getElem?_cons_succ, List.getElem?_cons_zero]; rfl)
          case hf6 => kernel_rfl
          case hr6 => kernel_rfl
          case hQ6 => exact fun _ _ _ h => h
          case hw6 => rfl
          case hy6 => (intro wz hz; (try dsimp only at hz); skip; go_simp; try (with_reducible rfl))
          try simp only [Act.put, List.setIfInBounds_toArray, List.set_cons_zero, List.set_cons_succ]
          refine wpAnyH_take (i := 6) (oi := ?oi7) (v := ?vv7) ?hi7 (by kernel_rfl) ?hf7 ?hr7 ?hQ7 (Or.inl ⟨?hw7, ?hy7⟩) hHeld ?hh7
          case hi7 => (simp only [List.getElem?_toArray, List.getElem?_cons_succ, List.getElem?_cons_zero]; rfl)
          case hf7 => kernel_rfl
          case hr7 => kernel_rfl
          case hQ7 => exact fun _ _ _ h => h
          case hw7 => rfl
          case hy7 => (intro wz hz; (try dsimp only at hz); skip; go_simp; try (with_reducible rfl))
          try simp only [Act.put, List.setIfInBounds_toArray, List.set_cons_zero, List.set_cons_succ]
          refine wpAnyH_take (i := 7) (oi := ?oi8) (v := ?vv8) ?hi8 (by kernel_rfl) ?hf8 ?hr8 ?hQ8 (Or.inl ⟨?hw8, ?hy8⟩) hHeld ?hh8
          case hi8 => (simp only [List.getElem?_toArray, List.getElem?_cons_succ, List.getElem?_cons_zero]; rfl)
          case hf8 => kernel_rfl
          case hr8 => kernel_rfl
          case hQ8 => exact fun _ _ _ h => h
          case hw8 => rfl
          case hy8 => (intro wz hz; (try dsimp only at hz); skip; go_simp; try (with_reducible rfl))
          try simp only [Act.put, List.setIfInBounds_toArray, List.set_cons_zero, List.set_cons_succ]
          refine wpAnyH_take (i := 8) (oi := ?oi9) (v := ?vv9) ?hi9 (by kernel_rfl) ?hf9 ?hr9 ?hQ9 (Or.inl ⟨?hw9, ?hy9⟩) hHeld ?hh9
          case hi9 => (simp only [List.getElem?_toArray, List.getElem?_cons_succ, List.getElem?_cons_zero]; rfl)
          case hf9 => kernel_rfl
          case hr9 => kernel_rfl
          case hQ9 => exact fun _ _ _ h => h
          case hw9 => rfl
          case hy9 => (intro wz hz; (try dsimp only at hz); skip; go_simp; try (with_reducible rfl))
          try simp only [Act.put, List.setIfInBounds_toArray, List.set_cons_zero, List.set_cons_succ]
          refine wpAnyH_take (i := 9) (oi := ?oi10) (v := ?vv10) ?hi10 (by kernel_rfl) ?hf10 ?hr10 ?hQ10 (Or.inl ⟨?hw10, ?hy10⟩) hHeld ?hh10
          case hi10 => (simp only [List.getElem?_toArray, List.getElem?_cons_succ, List.getElem?_cons_zero]; rfl)
          case hf10 => kernel_rfl
          case hr10 => kernel_rfl
          case hQ10 => exact fun _ _ _ h => h
          case hw10 => rfl
          case hy10 => (intro wz hz; (try dsimp only at hz); have z0 := HOLD.out _ _ _ hz Hr0.out; have z1 := HOLD.out _ _ _ hz Hr1.out; go_simp; try (with_reducible rfl))
          try simp only [Act.put, List.setIfInBounds_toArray, List.set_cons_zero, List.set_cons_succ]
          refine wpAnyH_ready (rs := [10]) (by kernel_rfl) (by simp) ?_
          refine AllReadyH.cons (o := ?oi11) ?hi11 (fun K hK => ?hh11) AllReadyH.nil
          case hi11 => (simp only [List.getElem?_toArray, List.getElem?_cons_succ, List.getElem?_cons_zero]; rfl)
          go_simp
          refine Calls.mono (high1_ok iL iH rL rH _) ?_
          rintro e wp ⟨rfl, hb⟩
          have hb2 := hHeld.trans (hb.mono hHeld.size)
          clear hb
          clear hHeld
          refine hK.out _ _ (hb2) (fun hHeld => ?_)
          clear hK K
          try simp only [Act.put, List.setIfInBounds_toArray, List.set_cons_zero, List.set_cons_succ]
          clear hb2
          rcases EQ1.out with G | G
          · rw [G]
            have G1 := Lib.hid G
            clear G
            refine wpAnyH_take (i := 11) (oi := ?oi12) (v := ?vv12) ?hi12 (by kernel_rfl) ?hf12 ?hr12 ?hQ12 (Or.inl ⟨?hw12, ?hy12⟩) hHeld ?hh12
            case hi12 => (simp only [List.getElem?_toArray, List.getElem?_cons_succ, List.getElem?_cons_zero]; rfl)
            case hf12 => kernel_rfl
            case hr12 => kernel_rfl
            case hQ12 => exact fun _ _ _ h => h
            case hw12 => rfl
            case hy12 => (intro wz hz; (try dsimp only at hz); skip; go_simp; try (with_reducible rfl))
            try simp only [Act.put, List.setIfInBounds_toArray, List.set_cons_zero, List.set_cons_succ]
            refine wpAnyH_take (i := 12) (oi := ?oi13) (v := ?vv13) ?hi13 (by kernel_rfl) ?hf13 ?hr13 ?hQ13 (Or.inl ⟨?hw13, ?hy13⟩) hHeld ?hh13
            case hi13 => (simp only [List.getElem?_toArray, List.getElem?_cons_succ, List.getElem?_cons_zero]; rfl)
            case hf13 => kernel_rfl
            case hr13 => kernel_rfl
            case hQ13 => exact fun _ _ _ h => h
            case hw13 => rfl
            case hy13 => (intro wz hz; (try dsimp only at hz); skip; go_simp; try (with_reducible rfl))
            try simp only [Act.put, List.setIfInBounds_toArray, List.set_cons_zero, List.set_cons_succ]
            refine wpAnyH_take (i := 13) (oi := ?oi14) (v := ?vv14) ?hi14 (by kernel_rfl) ?hf14 ?hr14 ?hQ14 (Or.inl ⟨?hw14, ?hy14⟩) hHeld ?hh14
            case hi14 => (simp only [List.getElem?_toArray, List.getElem?_cons_succ, List.getElem?_cons_zero]; rfl)
            case hf14 => kernel_rfl
            case hr14 => kernel_rfl
            case hQ14 => exact fun _ _ _ h => h
            case hw14 => rfl
            case hy14 => (intro wz hz; (try dsimp only at hz); skip; go_simp; try (with_reducible rfl))
            try simp only [Act.put, List.setIfInBounds_toArray, List.set_cons_zero, List.set_cons_succ]
            refine wpAnyH_take (i := 14) (oi := ?oi15) (v := ?vv15) ?hi15 (by kernel_rfl) ?hf15 ?hr15 ?hQ15 (Or.inl ⟨?hw15, ?hy15⟩) hHeld ?hh15
            case hi15 => (simp only [List.getElem?_toArray, List.getElem?_cons_succ, List.getElem?_cons_zero]; rfl)
            case hf15 => kernel_rfl
            case hr15 => kernel_rfl
            case hQ15 => exact fun _ _ _ h => h
            case hw15 => rfl
            case hy15 => (intro wz hz; (try dsimp only at hz); skip; go_simp; try (with_reducible rfl))
            try simp only [Act.put, List.setIfInBounds_toArray, List.set_cons_zero, List.set_cons_succ]
            refine wpAnyH_take (i := 15) (oi := ?oi16) (v := ?vv16) ?hi16 (by kernel_rfl) ?hf16 ?hr16 ?hQ16 (Or.inl ⟨?hw16, ?hy16⟩) hHeld ?hh16
            case hi16 => (simp only [List.getElem?_toArray, List.getElem?_cons_succ, List.getElem?_cons_zero]; rfl)
            case hf16 => kernel_rfl
            case hr16 => kernel_rfl
            case hQ16 => exact fun _ _ _ h => h
            case hw16 => rfl
            case hy16 => (intro wz hz; (try dsimp only at hz); skip; go_simp; try (with_reducible rfl))
            try simp only [Act.put, List.setIfInBounds_toArray, List.set_cons_zero, List.set_cons_succ]
            refine wpAnyH_take (i := 16) (oi := ?oi17) (v := ?vv17) ?hi17 (by kernel_rfl) ?hf17 ?hr17 ?hQ17 (Or.inl ⟨?hw17, ?hy17⟩) hHeld ?hh17
            case hi17 => (simp only [List.getElem?_toArray, List.getElem?_cons_succ, List.getElem?_cons_zero]; rfl)
            case hf17 => kernel_rfl
            case hr17 => kernel_rfl
            case hQ17 => exact fun _ _ _ h => h
            case hw17 => rfl
            case hy17 => (intro wz hz; (try dsimp only at hz); have z0 := HOLD.out _ _ _ hz Hi0.out; have z1 := HOLD.out _ _ _ hz Hi1.out; go_simp; try (with_reducible rfl))
            try simp only [Act.put, List.setIfInBounds_toArray, List.set_cons_zero, List.set_cons_succ]
            refine wpAnyH_take (i := 17) (oi := ?oi18) (v := ?vv18) ?hi18 (by kernel_rfl) ?hf18 ?hr18 ?hQ18 (Or.inl ⟨?hw18, ?hy18⟩) hHeld ?hh18
            case hi18 => (simp only [List.getElem?_toArray, List.getElem?_cons_succ, List.getElem?_cons_zero]; rfl)
            case hf18 => kernel_rfl
            case hr18 => kernel_rfl
            case hQ18 => exact fun _ _ _ h => h
            case hw18 => rfl
            case hy18 => (intro wz hz; (try dsimp only at hz); skip; go_simp; try (with_reducible rfl))
            try simp only [Act.put, List.setIfInBounds_toArray, List.set_cons_zero, List.set_cons_succ]
            refine wpAnyH_take (i := 18) (oi := ?oi19) (v := ?vv19) ?hi19 (by kernel_rfl) ?hf19 ?hr19 ?hQ19 (Or.inl ⟨?hw19, ?hy19⟩) hHeld ?hh19
            case hi19 => (simp only [List.getElem?_toArray, List.getElem?_cons_succ, List.getElem?_cons_zero]; rfl)
            case hf19 => kernel_rfl
            case hr19 => kernel_rfl
            case hQ19 => exact fun _ _ _ h => h
            case hw19 => rfl
            case hy19 => (intro wz hz; (try dsimp only at hz); skip; go_simp; try (with_reducible rfl))
            try simp only [Act.put, List.setIfInBounds_toArray, List.set_cons_zero, List.set_cons_succ]
            refine wpAnyH_take (i := 19) (oi := ?oi20) (v := ?vv20) ?hi20 (by kernel_rfl) ?hf20 ?hr20 ?hQ20 (Or.inl ⟨?hw20, ?hy20⟩) hHeld ?hh20
            case hi20 => (simp only [List.getElem?_toArray, List.getElem?_cons_succ, List.getElem?_cons_zero]; rfl)
            case hf20 => kernel_rfl
            case hr20 => kernel_rfl
            case hQ20 => exact fun _ _ _ h => h
            case hw20 => rfl
            case hy20 => (intro wz hz; (try dsimp only at hz); skip; go_simp; try (with_reducible rfl))
            try simp only [Act.put, List.setIfInBounds_toArray, List.set_cons_zero, List.set_cons_succ]
            refine wpAnyH_take (i := 20) (oi := ?oi21) (v := ?vv21) ?hi21 (by kernel_rfl) ?hf21 ?hr21 ?hQ21 (Or.inl ⟨?hw21, ?hy21⟩) hHeld ?hh21
            case hi21 => (simp only [List.getElem?_toArray, List.getElem?_cons_succ, List.getElem?_cons_zero]; rfl)
            case hf21 => kernel_rfl
            case hr21 => kernel_rfl
            case hQ21 => exact fun _ _ _ h => h
            case hw21 => rfl
            case hy21 => (intro wz hz; (try dsimp only at hz); skip; go_simp; try (with_reducible rfl))
            try simp only [Act.put, List.setIfInBounds_toArray, List.set_cons_zero, List.set_cons_succ]
            refine wpAnyH_take (i := 21) (oi := ?oi22) (v := ?vv22) ?hi22 (by kernel_rfl) ?hf22 ?hr22 ?hQ22 (Or.inl ⟨?hw22, ?hy22⟩) hHeld ?hh22
            case hi22 => (simp only [List.getElem?_toArray, List.getElem?_cons_succ, List.getElem?_cons_zero]; rfl)
            case hf22 => kernel_rfl
            case hr22 => kernel_rfl
            case hQ22 => exact fun _ _ _ h => h
            case hw22 => rfl
            case hy22 => (intro wz hz; (try dsimp only at hz); have z0 := HOLD.out _ _ _ hz Hs0.out; have z1 := HOLD.out _ _ _ hz Hs1.out; go_simp; try (with_reducible rfl))
            try simp only [Act.put, List.setIfInBounds_toArray, List.set_cons_zero, List.set_cons_succ]
            refine wpAnyH_ready (rs := [22]) (by kernel_rfl) (by simp) ?_
            refine AllReadyH.cons (o := ?oi23) ?hi23 (fun K hK => ?hh23) AllReadyH.nil
            case hi23 => (simp only [List.getElem?_toArray, List.getElem?_cons_succ, List.getElem?_cons_zero]; rfl)
            go_simp
            refine Calls.mono (high1_ok iL iH sL sH _) ?_
            rintro e wq ⟨rfl, hb⟩
            have hb2 := hHeld.trans (hb.mono hHeld.size)
            clear hb
            clear hHeld
            refine hK.out _ _ (hb2) (fun hHeld => ?_)
            clear hK K
            try simp only [Act.put, List.setIfInBounds_toArray, List.set_cons_zero, List.set_cons_succ]
            clear hb2
            rcases EQ2.out with G | G
            · rw [G]
              have G2 := Lib.hid G
              clear G
              refine wpAnyH_take (i := 23) (oi := ?oi24) (v := ?vv24) ?hi24 (by kernel_rfl) ?hf24 ?hr24 ?hQ24 (Or.inl ⟨?hw24, ?hy24⟩) hHeld ?hh24
              case hi24 => (simp only [List.getElem?_toArray, List.getElem?_cons_succ, List.getElem?_cons_zero]; rfl)
              case hf24 => kernel_rfl
              case hr24 => kernel_rfl
              case hQ24 => exact fun _ _ _ h => h
              case hw24 => rfl
              case hy24 => (intro wz hz; (try dsimp only at hz); skip; go_simp; try (with_reducible rfl))
              try simp only [Act.put, List.setIfInBounds_toArray, List.set_cons_zero, List.set_cons_succ]
              refine wpAnyH_done (by kernel_rfl) ?_ _
              have BX := HBW.out.trans (hHeld.mono HBW.out.size)
              have ho : wq.ownsRow w0.heap.size 24 2 u13 m ((outs f (upAt zs n f) j).map (Value.int .i64)) := own_below HOW.out hHeld
              have hsq := BX.size
              have HUT' : Hid (upAt zs n f i = true) := Lib.hid (by rw [HUP.out, G1.out, G2.out]; rfl)
              clear hHeld
              have w4 : IntKind.i64.wrap ((j : Int) * 3600000) = (j : Int) * 3600000 := IntWalk.i64_in _ (by omega)
              have w5 : IntKind.i64.wrap ((s : Int) * 3600000) = (s : Int) * 3600000 := IntWalk.i64_in _ (by omega)
              have w6 : IntKind.i64.wrap (f + (j : Int) * 3600000) = f + (j : Int) * 3600000 := IntWalk.i64_in _ (by omega)
              have w7 : IntKind.i64.wrap (f + (s : Int) * 3600000) = f + (s : Int) * 3600000 := IntWalk.i64_in _ (by omega)
              go_wp2_with (at_builtin; refine wpList_append_own _ rfl _ _ 39 rfl w0.heap.size 24 iS (.agg #[.int .i64 0, .int .i64 0]) 2 16 Tryd.underlying39 hi hy0 hy1 hy2 rfl (by decide) _ _ _ rfl (ho.alloc _) ⟨wq.heap.size, 0, none⟩ 1 1 [.int .i64 (f + (j : Int) * 3600000), .int .i64 (f + (s : Int) * 3600000)] rfl rfl ?c1 ?c2 ?c3 ?c4 ?c5 ?_)
              case c1 => exact cells_two
              case c2 => intro u hu; simp at hu; rcases hu with rfl | rfl <;> rfl
              case c3 => unfold maxLen; omega
              case c4 => omega
              case c5 => simp; omega
              · intro v' w5 hown' hgrow _
                have R : w5.ownsRow w0.heap.size 24 2 v' (m + 1) ((outs f (upAt zs n f) (j + 1)).map (Value.int .i64)) := by
                  unfold outs
                  rw [← HIJ.out, HUT'.out, if_pos rfl, show (j : Int) + 2 = (s : Int) by have := HHS.out; have := HIJ.out; omega]
                  simpa only [List.map_append, List.map_cons, List.map_nil] using hown'
                have hb5 := below_grew (BX.alloc hsq _) hgrow (ho.alloc _)
                have HR := Lib.hid R; have HB5 := Lib.hid hb5
                clear hown' hgrow ho R hb5 BX
                go_wp2_with fail
                go_roundw
                case rel => exact ⟨j + 1, s, m + 1, by have := HHS.out; have := HIJ.out; omega, by omega, by omega, by go_num, HR, HB5.out⟩
                case measure => simp [intOf]; omega
            · rw [G]
              have G2 := Lib.hid G
              clear G
              refine wpAnyH_take (i := 23) (oi := ?oi25) (v := ?vv25) ?hi25 (by kernel_rfl) ?hf25 ?hr25 ?hQ25 (Or.inl ⟨?hw25, ?hy25⟩) hHeld ?hh25
              case hi25 => (simp only [List.getElem?_toArray, List.getElem?_cons_succ, List.getElem?_cons_zero]; rfl)
              case hf25 => kernel_rfl
              case hr25 => kernel_rfl
              case hQ25 => exact fun _ _ _ h => h
              case hw25 => rfl
              case hy25 => (intro wz hz; (try dsimp only at hz); skip; go_simp; try (with_reducible rfl))
              try simp only [Act.put, List.setIfInBounds_toArray, List.set_cons_zero, List.set_cons_succ]
              refine wpAnyH_done (by kernel_rfl) ?_ _
              have BX := Lib.hid (HBW.out.trans (hHeld.mono HBW.out.size))
              have ho : wq.ownsRow w0.heap.size 24 2 u13 m ((outs f (upAt zs n f) j).map (Value.int .i64)) := own_below HOW.out hHeld
              have R : wq.ownsRow w0.heap.size 24 2 u13 m ((outs f (upAt zs n f) (j + 1)).map (Value.int .i64)) := by
                unfold outs
                rw [← HIJ.out, HUP.out, G1.out, G2.out, Bool.and_false, if_neg (by simp)]
                simpa using ho
              have HR := Lib.hid R
              clear hHeld ho R
              go_wp2_with fail
              go_roundw
              case rel => exact ⟨j + 1, s, m, by have := HHS.out; have := HIJ.out; omega, by omega, by omega, by go_num, HR, BX.out⟩
              case measure => simp [intOf]; omega
          · rw [G]
            have G1 := Lib.hid G
            clear G
            refine wpAnyH_take (i := 11) (oi := ?oi26) (v := ?vv26) ?hi26 (by kernel_rfl) ?hf26 ?hr26 ?hQ26 (Or.inl ⟨?hw26, ?hy26⟩) hHeld ?hh26
            case hi26 => (simp only [List.getElem?_toArray, List.getElem?_cons_succ, List.getElem?_cons_zero]; rfl)
            case hf26 => kernel_rfl
            case hr26 => kernel_rfl
            case hQ26 => exact fun _ _ _ h => h
            case hw26 => rfl
            case hy26 => (intro wz hz; (try dsimp only at hz); skip; go_simp; try (with_reducible rfl))
            try simp only [Act.put, List.setIfInBounds_toArray, List.set_cons_zero, List.set_cons_succ]
            refine wpAnyH_take (i := 12) (oi := ?oi27) (v := undef) ?hi27 (by kernel_rfl) ?hf27 ?hr27 ?hQ27 (Or.inr ⟨?hw27, rfl⟩) hHeld ?hh27
            case hi27 => (simp only [List.getElem?_toArray, List.getElem?_cons_succ, List.getElem?_cons_zero]; rfl)
            case hf27 => kernel_rfl
            case hr27 => kernel_rfl
            case hQ27 => exact fun _ _ _ h => h
            case hw27 => rfl
            try simp only [Act.put, List.setIfInBounds_toArray, List.set_cons_zero, List.set_cons_succ]
            refine wpAnyH_take (i := 13) (oi := ?oi28) (v := undef) ?hi28 (by kernel_rfl) ?hf28 ?hr28 ?hQ28 (Or.inr ⟨?hw28, rfl⟩) hHeld ?hh28
            case hi28 => (simp only [List.getElem?_toArray, List.getElem?_cons_succ, List.getElem?_cons_zero]; rfl)
            case hf28 => kernel_rfl
            case hr28 => kernel_rfl
            case hQ28 => exact fun _ _ _ h => h
            case hw28 => rfl
            try simp only [Act.put, List.setIfInBounds_toArray, List.set_cons_zero, List.set_cons_succ]
            refine wpAnyH_take (i := 14) (oi := ?oi29) (v := undef) ?hi29 (by kernel_rfl) ?hf29 ?hr29 ?hQ29 (Or.inr ⟨?hw29, rfl⟩) hHeld ?hh29
            case hi29 => (simp only [List.getElem?_toArray, List.getElem?_cons_succ, List.getElem?_cons_zero]; rfl)
            case hf29 => kernel_rfl
            case hr29 => kernel_rfl
            case hQ29 => exact fun _ _ _ h => h
            case hw29 => rfl
            try simp only [Act.put, List.setIfInBounds_toArray, List.set_cons_zero, List.set_cons_succ]
            refine wpAnyH_take (i := 15) (oi := ?oi30) (v := undef) ?hi30 (by kernel_rfl) ?hf30 ?hr30 ?hQ30 (Or.inr ⟨?hw30, rfl⟩) hHeld ?hh30
            case hi30 => (simp only [List.getElem?_toArray, List.getElem?_cons_succ, List.getElem?_cons_zero]; rfl)
            case hf30 => kernel_rfl
            case hr30 => kernel_rfl
            case hQ30 => exact fun _ _ _ h => h
            case hw30 => rfl
            try simp only [Act.put, List.setIfInBounds_toArray, List.set_cons_zero, List.set_cons_succ]
            refine wpAnyH_take (i := 16) (oi := ?oi31) (v := undef) ?hi31 (by kernel_rfl) ?hf31 ?hr31 ?hQ31 (Or.inr ⟨?hw31, rfl⟩) hHeld ?hh31
            case hi31 => (simp only [List.getElem?_toArray, List.getElem?_cons_succ, List.getElem?_cons_zero]; rfl)
            case hf31 => kernel_rfl
            case hr31 => kernel_rfl
            case hQ31 => exact fun _ _ _ h => h
            case hw31 => rfl
            try simp only [Act.put, List.setIfInBounds_toArray, List.set_cons_zero, List.set_cons_succ]
            refine wpAnyH_take (i := 17) (oi := ?oi32) (v := undef) ?hi32 (by kernel_rfl) ?hf32 ?hr32 ?hQ32 (Or.inr ⟨?hw32, rfl⟩) hHeld ?hh32
            case hi32 => (simp only [List.getElem?_toArray, List.getElem?_cons_succ, List.getElem?_cons_zero]; rfl)
            case hf32 => kernel_rfl
            case hr32 => kernel_rfl
            case hQ32 => exact fun _ _ _ h => h
            case hw32 => rfl
            try simp only [Act.put, List.setIfInBounds_toArray, List.set_cons_zero, List.set_cons_succ]
            refine wpAnyH_take (i := 18) (oi := ?oi33) (v := undef) ?hi33 (by kernel_rfl) ?hf33 ?hr33 ?hQ33 (Or.inr ⟨?hw33, rfl⟩) hHeld ?hh33
            case hi33 => (simp only [List.getElem?_toArray, List.getElem?_cons_succ, List.getElem?_cons_zero]; rfl)
            case hf33 => kernel_rfl
            case hr33 => kernel_rfl
            case hQ33 => exact fun _ _ _ h => h
            case hw33 => rfl
            try simp only [Act.put, List.setIfInBounds_toArray, List.set_cons_zero, List.set_cons_succ]
            refine wpAnyH_take (i := 19) (oi := ?oi34) (v := undef) ?hi34 (by kernel_rfl) ?hf34 ?hr34 ?hQ34 (Or.inr ⟨?hw34, rfl⟩) hHeld ?hh34
            case hi34 => (simp only [List.getElem?_toArray, List.getElem?_cons_succ, List.getElem?_cons_zero]; rfl)
            case hf34 => kernel_rfl
            case hr34 => kernel_rfl
            case hQ34 => exact fun _ _ _ h => h
            case hw34 => rfl
            try simp only [Act.put, List.setIfInBounds_toArray, List.set_cons_zero, List.set_cons_succ]
            refine wpAnyH_take (i := 20) (oi := ?oi35) (v := undef) ?hi35 (by kernel_rfl) ?hf35 ?hr35 ?hQ35 (Or.inr ⟨?hw35, rfl⟩) hHeld ?hh35
            case hi35 => (simp only [List.getElem?_toArray, List.getElem?_cons_succ, List.getElem?_cons_zero]; rfl)
            case hf35 => kernel_rfl
            case hr35 => kernel_rfl
            case hQ35 => exact fun _ _ _ h => h
            case hw35 => rfl
            try simp only [Act.put, List.setIfInBounds_toArray, List.set_cons_zero, List.set_cons_succ]
            refine wpAnyH_take (i := 21) (oi := ?oi36) (v := undef) ?hi36 (by kernel_rfl) ?hf36 ?hr36 ?hQ36 (Or.inr ⟨?hw36, rfl⟩) hHeld ?hh36
            case hi36 => (simp only [List.getElem?_toArray, List.getElem?_cons_succ, List.getElem?_cons_zero]; rfl)
            case hf36 => kernel_rfl
            case hr36 => kernel_rfl
            case hQ36 => exact fun _ _ _ h => h
            case hw36 => rfl
            try simp only [Act.put, List.setIfInBounds_toArray, List.set_cons_zero, List.set_cons_succ]
            refine wpAnyH_take (i := 22) (oi := ?oi37) (v := undef) ?hi37 (by kernel_rfl) ?hf37 ?hr37 ?hQ37 (Or.inr ⟨?hw37, rfl⟩) hHeld ?hh37
            case hi37 => (simp only [List.getElem?_toArray, List.getElem?_cons_succ, List.getElem?_cons_zero]; rfl)
            case hf37 => kernel_rfl
            case hr37 => kernel_rfl
            case hQ37 => exact fun _ _ _ h => h
            case hw37 => rfl
            try simp only [Act.put, List.setIfInBounds_toArray, List.set_cons_zero, List.set_cons_succ]
            refine wpAnyH_take (i := 23) (oi := ?oi38) (v := ?vv38) ?hi38 (by kernel_rfl) ?hf38 ?hr38 ?hQ38 (Or.inl ⟨?hw38, ?hy38⟩) hHeld ?hh38
            case hi38 => (simp only [List.getElem?_toArray, List.getElem?_cons_succ, List.getElem?_cons_zero]; rfl)
            case hf38 => kernel_rfl
            case hr38 => kernel_rfl
            case hQ38 => exact fun _ _ _ h => h
            case hw38 => rfl
            case hy38 => (intro wz hz; (try dsimp only at hz); skip; go_simp; try (with_reducible rfl))
            try simp only [Act.put, List.setIfInBounds_toArray, List.set_cons_zero, List.set_cons_succ]
            refine wpAnyH_done (by kernel_rfl) ?_ _
            have BX := Lib.hid (HBW.out.trans (hHeld.mono HBW.out.size))
            have ho : wp.ownsRow w0.heap.size 24 2 u13 m ((outs f (upAt zs n f) j).map (Value.int .i64)) := own_below HOW.out hHeld
            have R : wp.ownsRow w0.heap.size 24 2 u13 m ((outs f (upAt zs n f) (j + 1)).map (Value.int .i64)) := by
              unfold outs
              rw [← HIJ.out, HUP.out, G1.out, Bool.false_and, if_neg (by simp)]
              simpa using ho
            have HR := Lib.hid R
            clear hHeld ho R
            go_wp2_with fail
            go_roundw
            case rel => exact ⟨j + 1, s, m, by have := HHS.out; have := HIJ.out; omega, by omega, by omega, by go_num, HR, BX.out⟩
            case measure => simp [intOf]; omega
        · have ej : ¬ ((i : Int) + 1 < (N : Int)) := by omega
          have HO := Lib.hid hown.out
          have HB2 := Lib.hid (HBL.out.trans (hbl.mono HBL.out.size))
          have hje : j = N - 2 := by omega
          have HJ := Lib.hid hje
          have HS := Lib.hid HBL.out.size
          clear hown hbl hsz hj hlt hm hje hij
          go_wp2_with fail
          go_ret2
          have HO2 := HO.out
          rw [HJ.out] at HO2
          obtain ⟨q1, q2⟩ := HO2
          refine ⟨_, m, rfl, ⟨q1, ?_⟩, HB2.out⟩
          rcases q2 with h | ⟨gg, c1, c2, e1, e2, e3⟩
          · exact Or.inl h
          · exact Or.inr ⟨gg, c1, c2, e1, Nat.le_trans HS.out e2, e3⟩
end Go.Proofs.YtdeoahgcppbmkaaDoor
