/- GaugeLeast, the walk: no other factors have a lesser sum of squares. -/
import Derived.Test.YtmeppcoekmoofaaGaugeWorks
import Derived.Test.YtmeppcoekmoofaaGaugeLaw
namespace Go.Proofs.Ytmeppcoekmoofaa
open Go.RowKit
set_option linter.unusedSimpArgs false
set_option linter.unusedVariables false

def htH (nh : Nat) (zh : List Int) (k : Nat) : Int := if k < nh then (ix zh k).tmod 1001 else 0
theorem htH_bound (nh : Nat) (zh : List Int) (k : Nat) : -1000 ≤ htH nh zh k ∧ htH nh zh k ≤ 1000 := by
  unfold htH
  split
  · have h1 := Int.lt_tmod_of_pos (ix zh k) (show 0 < 1001 by omega)
    have h2 := Int.tmod_lt_of_pos (ix zh k) (show 0 < 1001 by omega)
    omega
  · omega
theorem ix_seg (f : Nat → Int) (q k : Nat) (h : k < q) : ix (seg f 0 q) k = f k := by
  unfold ix seg
  rw [List.getD_eq_getElem?_getD, List.getElem?_map, List.getElem?_range h]
  simp
theorem row_flat {w : World} {g q : Nat} {f : Nat → Int} (h : w.rowIs g 3 q (fun j => .int .i64 (f j))) (hq : q ≤ maxLen) : FlatSl w 1 (some ⟨g, 0, none⟩) q q (seg f 0 q) :=
  ⟨Nat.le_refl _, hq, by rw [seg_len]; omega, fun _ => ⟨g, 0, rfl, fun j hj => by
    rw [Nat.zero_add, h.cell (show j < q by omega), ix_seg f q j (by omega)]⟩⟩

set_option maxRecDepth 100000 in
set_option maxHeartbeats 16000000 in
theorem gaugeLeast_walk (A : Option Addr) (n cap : Nat) (ra : Nat → Option Addr) (rn rcp : Nat → Nat) (Z : Nat → List Int) (Ah : Option Addr) (nh caph : Nat) (zh : List Int) (f0 f1 : Int) (w : World) (h : SlSl w A n cap ra rn rcp Z) (hh : FlatSl w 1 Ah nh caph zh) :
    Calls Try.prog 7 #[.slice A n cap, .slice Ah nh caph, .agg #[.int .i64 f0, .int .i64 f1]] w fun e w' => e = .returned (.bool true) ∧ Below w.heap.size w w' := by
  have HS := Lib.hid h; have HH := Lib.hid hh
  have hhle := hh.le
  have hhm : nh ≤ 9223372036854775807 := by have h1 := hh.most; unfold maxLen at h1; omega
  have hhat := hh.at'
  clear h hh
  obtain ⟨F0, hF0⟩ : ∃ F, F = f0.tmod 100 := ⟨_, rfl⟩
  obtain ⟨F1, hF1⟩ : ∃ F, F = f1.tmod 100 := ⟨_, rfl⟩
  have F0b : -99 ≤ F0 ∧ F0 ≤ 99 := by
    have h1 := Int.lt_tmod_of_pos f0 (show 0 < 100 by omega)
    have h2 := Int.tmod_lt_of_pos f0 (show 0 < 100 by omega)
    omega
  have F1b : -99 ≤ F1 ∧ F1 ≤ 99 := by
    have h1 := Int.lt_tmod_of_pos f1 (show 0 < 100 by omega)
    have h2 := Int.tmod_lt_of_pos f1 (show 0 < 100 by omega)
    omega
  have eF0 : f0.tmod 100 = F0 := hF0.symm
  have eF1 : f1.tmod 100 = F1 := hF1.symm
  have HF0 := Lib.hid eF0; have HF1 := Lib.hid eF1
  clear hF0 hF1 eF0 eF1
  go_enter Try.func7, Try.ntmps7
  go_wp2_with fail
  have b0 : Below w.heap.size w (w.alloc (.cells #[.int .i64 f0, .int .i64 f1] 51)) := (Below.refl _ _).alloc (Nat.le_refl _) _
  refine Calls.mono (gaugeWorks_ok _) ?_
  rintro e w1 ⟨rfl, hb⟩
  have hb1 := b0.trans (hb.mono b0.size)
  have x0 : w1.cell? ⟨w.heap.size, 0, none⟩ = some (.int .i64 f0) := (hb.cell (p := ⟨w.heap.size, 0, none⟩) (by simp)).trans (by simp [go_sem])
  have x1 : w1.cell? ⟨w.heap.size, 1, none⟩ = some (.int .i64 f1) := (hb.cell (p := ⟨w.heap.size, 1, none⟩) (by simp)).trans (by simp [go_sem])
  have z0 : w.heap.size < w1.heap.size := by have := hb.size; simp at this; omega
  clear hb b0
  go_wp2_with fail
  refine Calls.mono (readings_ok _ _ _ 2 _ _ _ _ _ (HS.out.below hb1) (by omega) (by omega)) ?_
  rintro e w2 ⟨v, rb, rc, rfl, hL, hb⟩
  obtain ⟨R, hR⟩ : ∃ R, R = rdR rn Z := ⟨_, rfl⟩
  have hRb : ∀ i c, -10 ≤ R i c ∧ R i c ≤ 10 := fun i c => by rw [hR]; exact rdR_bound rn Z i c
  rw [← hR] at hL
  have HRB := Lib.hid hRb
  obtain ⟨q, hq⟩ : ∃ q, q = min n 6 := ⟨_, rfl⟩
  rw [← hq] at hL
  have q6 : q ≤ 6 := by omega
  have hb2 := hb1.trans (hb.mono hb1.size)
  have y0 := (hb.cell (p := ⟨w.heap.size, 0, none⟩) z0).trans x0
  have y1 := (hb.cell (p := ⟨w.heap.size, 1, none⟩) z0).trans x1
  have z1 : w.heap.size < w2.heap.size := by have := hb.size; omega
  have hs2 := hb2.size
  clear hR hRb hb x0 x1 z0 hb1 hq
  rcases Nat.eq_zero_or_pos q with hq0 | hq0
  · subst hq0
    obtain ⟨A3, cap3, hv⟩ : ∃ A3 cap3, v = .slice A3 0 cap3 := by
      rcases hL.own.2 with ⟨h1, h2⟩ | ⟨g, cap, cur, h1, -⟩
      · exact ⟨none, 0, h1⟩
      · exact ⟨_, _, h1⟩
    subst hv
    have mk : ∀ w : World, (Instr.makeSlice 22 (.int .i64 0) (.int .i64 0)).run Try.prog w = .ok (.slice (some ⟨w.heap.size, 0, none⟩) 0 0) (w.alloc (.cells (madeCells #[.int .i64 0] 0) 3)) := mk_ints 0 (by omega)
    clear hL
    go_wp2_with fail
    go_loopw [8, 24] (fun s' i' wv => s' = .int .i64 0 ∧ i' = .int .i64 0 ∧ wv = w2.alloc (.cells (madeCells #[.int .i64 0] 0) 3)) (fun _ _ _ => 0)
    case atStart => exact ⟨rfl, rfl, rfl⟩
    case round =>
    obtain ⟨rfl, rfl, rfl⟩ := hrel
    go_wp2_with fail
    refine Calls.mono (resid_nil _ _ _ _ _ _) ?_
    rintro e w3 ⟨rfl, hb⟩
    have hb3 := (hb2.alloc hs2 (.cells (madeCells #[.int .i64 0] 0) 3)).trans (hb.mono (by simp; omega))
    clear hb hb2
    go_wp2_with fail
    go_ret
    exact ⟨rfl, hb3⟩
  · obtain ⟨g, gc, hv, hg1, hg2⟩ := hL.own.form hq0
    subst hv
    have hgc := own_cap hL.own
    have HM := Lib.hid hL.mat
    have mk : ∀ w : World, (Instr.makeSlice 22 (.int .i64 (q : Int)) (.int .i64 (q : Int))).run Try.prog w = .ok (.slice (some ⟨w.heap.size, 0, none⟩) q q) (w.alloc (.cells (madeCells #[.int .i64 0] q) 3)) := mk_ints q (by omega)
    obtain ⟨H, hH⟩ : ∃ H, H = ix (seg (htH nh zh) 0 q) := ⟨_, rfl⟩
    have hHk : ∀ k, k < q → H k = htH nh zh k := fun k hk => by rw [hH]; exact ix_seg _ q k hk
    have HHK := Lib.hid hHk; have HHH := Lib.hid hH
    have row0 := World.rowIs_made w2 (.int .i64 0) q 3
    have hb3 := hb2.alloc hs2 (.cells (madeCells #[.int .i64 0] q) 3)
    have B2 : Below w2.heap.size w2 (w2.alloc (.cells (madeCells #[.int .i64 0] q) 3)) := (Below.refl _ _).alloc (Nat.le_refl _) _
    have q60 : (q : Int) ≤ 6 := by omega
    clear hL hHk hH
    go_wp2_with fail
    obtain ⟨hb', hhb⟩ : ∃ b, b = w2.heap.size := ⟨_, rfl⟩
    rw [← hhb] at row0
    rw [← hhb]
    have HHB := Lib.hid hhb
    have hlow : w.heap.size < hb' := by omega
    clear hhb hs2 hb2
    go_loopw [8, 24] (fun s' i' wv => ∃ i : Nat, i ≤ q ∧ i' = .int .i64 i ∧ s' = .int .i64 (sumTo (fun k => (H k - R k 0 * F0 - R k 1 * F1) * (H k - R k 0 * F0 - R k 1 * F1)) i) ∧ wv.rowIs hb' 3 q (fun j => .int .i64 (if j < i then H j else 0)) ∧ Below w.heap.size w wv ∧ Below w2.heap.size w2 wv) (fun _ i' _ => q - (intOf i').toNat)
    case atStart => exact ⟨0, by omega, rfl, rfl, row0.congr (fun j hj => by simp), hb3, B2⟩
    case round =>
      clear row0 hb3 B2
      obtain ⟨i, hi, rfl, rfl, hrow, hbw, hbv⟩ := hrel
      obtain ⟨s, hs⟩ : ∃ s, s = sumTo (fun k => (H k - R k 0 * F0 - R k 1 * F1) * (H k - R k 0 * F0 - R k 1 * F1)) i := ⟨_, rfl⟩
      have hdb : ∀ k, k < q → -2980 ≤ H k - R k 0 * F0 - R k 1 * F1 ∧ H k - R k 0 * F0 - R k 1 * F1 ≤ 2980 := fun k hk => by
        have h1 := HHK.out k hk
        have h2 := htH_bound nh zh k
        rw [← h1] at h2
        have h3 := mul_abs (HRB.out k 0) F0b
        have h4 := mul_abs (HRB.out k 1) F1b
        omega
      have hsb : 0 ≤ s ∧ s ≤ 60000000 := by
        have h1 := sumTo_bound (f := fun k => (H k - R k 0 * F0 - R k 1 * F1) * (H k - R k 0 * F0 - R k 1 * F1)) (B := 8880400) i (fun k hk => by
          have := mul_abs (hdb k (by omega)) (hdb k (by omega))
          omega)
        have h2 : 0 ≤ sumTo (fun k => (H k - R k 0 * F0 - R k 1 * F1) * (H k - R k 0 * F0 - R k 1 * F1)) i := sumTo_nonneg i (fun k _ => sq_nonneg' _)
        rw [← hs] at h1 h2
        omega
      rw [← hs]
      have HSM := Lib.hid hs; have HDB := Lib.hid hdb
      clear hs hdb
      have l0 := hrow.lt
      have hMr := HM.out.below hbv
      have u0 := (hbv.cell (p := ⟨w.heap.size, 0, none⟩) z1).trans y0
      have u1 := (hbv.cell (p := ⟨w.heap.size, 1, none⟩) z1).trans y1
      have u2 : w.heap.size < wr.heap.size := by have := hbv.size; omega
      by_cases hiq : i < q
      · have i0 : (0 : Int) ≤ (i : Int) := by omega
        have i1 : (i : Int) < (q : Int) := by omega
        have v0 := hMr.out i hiq
        rw [Nat.zero_add] at v0
        have v1 := hMr.row i hiq 0 (by omega)
        have v2 := hMr.row i hiq 1 (by omega)
        have v3 := hMr.lt
        have v4 := hMr.ltR i hiq
        have v5 := hMr.cap i hiq
        obtain ⟨ri, hri⟩ : ∃ x, x = rb i := ⟨_, rfl⟩
        obtain ⟨ci, hci⟩ : ∃ x, x = rc i := ⟨_, rfl⟩
        rw [← hri, ← hci] at v0
        rw [← hri] at v1 v2 v4
        rw [← hci] at v5
        have ne2 : hb' ≠ ri := by
          have h1 := HHB.out
          have h2 := HM.out.ltR i hiq
          rw [← hri] at h2
          omega
        obtain ⟨r0, hr0⟩ : ∃ x, x = R i 0 := ⟨_, rfl⟩
        obtain ⟨r1, hr1⟩ : ∃ x, x = R i 1 := ⟨_, rfl⟩
        have r0b := HRB.out i 0
        have r1b := HRB.out i 1
        rw [← hr0] at v1 r0b
        rw [← hr1] at v2 r1b
        obtain ⟨t, ht⟩ : ∃ x, x = H i := ⟨_, rfl⟩
        have htv := HHK.out i hiq
        rw [← ht] at htv
        have htb := htH_bound nh zh i
        rw [← htv] at htb
        have m0 := mul_abs r0b F0b
        have m1 := mul_abs r1b F1b
        have dd := HDB.out i hiq
        rw [← ht, ← hr0, ← hr1] at dd
        have d2 := mul_abs dd dd
        have p1 : IntKind.i64.wrap (r0 * F0) = r0 * F0 := IntWalk.i64_in _ (by omega)
        have p2 : IntKind.i64.wrap (t - r0 * F0) = t - r0 * F0 := IntWalk.i64_in _ (by omega)
        have p3 : IntKind.i64.wrap (r1 * F1) = r1 * F1 := IntWalk.i64_in _ (by omega)
        have p4 : IntKind.i64.wrap (t - r0 * F0 - r1 * F1) = t - r0 * F0 - r1 * F1 := IntWalk.i64_in _ (by omega)
        have hnx : Hid (s + (t - r0 * F0 - r1 * F1) * (t - r0 * F0 - r1 * F1) = sumTo (fun k => (H k - R k 0 * F0 - R k 1 * F1) * (H k - R k 0 * F0 - R k 1 * F1)) (i + 1)) := Lib.hid (by rw [ht, hr0, hr1, HSM.out]; rfl)
        obtain ⟨D, hD⟩ : ∃ D, D = t - r0 * F0 - r1 * F1 := ⟨_, rfl⟩
        rw [← hD] at dd d2 hnx p4
        have eD : t - r0 * F0 - r1 * F1 = D := hD.symm
        have p5 : IntKind.i64.wrap (D * D) = D * D := IntWalk.i64_in _ (by omega)
        have p6 : IntKind.i64.wrap (s + D * D) = s + D * D := IntWalk.i64_in _ (by omega)
        have c1 : (1 : Int) < (ci : Int) := by omega
        have rw1 := hrow.cell hiq
        rw [if_neg (by omega)] at rw1
        have rf1 := hrow.frozen i
        have ez0 := HF0.out; have ez1 := HF1.out
        have M0 := Lib.hid m0; have M1 := Lib.hid m1; have D2 := Lib.hid d2; have HDe := Lib.hid hD
        have HTE := Lib.hid ht; have HTV := Lib.hid htv
        clear htv
        clear hMr hri hci hr0 hr1 ht m0 m1 d2 hD
        by_cases hin : i < nh
        · obtain ⟨ab, ao, rfl, hce⟩ := hhat (by omega)
          have hab := World.block_lt_of_cell? w _ (hce 0 (by omega))
          simp at hab
          have w0 := (hbw.cell (p := ⟨ab, ao + i, none⟩) hab).trans (hce i (by omega))
          have i2 : (i : Int) < (nh : Int) := by omega
          obtain ⟨y, hy⟩ : ∃ y, y = ix zh i := ⟨_, rfl⟩
          rw [← hy] at w0
          have hyt : y.tmod 1001 = t := by rw [HTV.out, hy]; unfold htH; rw [if_pos hin]
          have R1 := (hrow.set i (.int .i64 t)).congr (g := fun j => .int .i64 (if j < i + 1 then H j else 0)) (fun j hj => by
            by_cases e : j = i
            · subst e; rw [if_pos rfl, if_pos (by omega), HTE.out]
            · rw [if_neg e]
              by_cases e2 : j < i
              · rw [if_pos e2, if_pos (by omega)]
              · rw [if_neg e2, if_neg (by omega)])
          have hbw2 := hbw.setCell (show w.heap.size ≤ (⟨hb', i, none⟩ : Addr).block by show w.heap.size ≤ hb'; omega) (.int .i64 t)
          have hbv2 := hbv.setCell (show w2.heap.size ≤ (⟨hb', i, none⟩ : Addr).block by show w2.heap.size ≤ hb'; have := HHB.out; omega) (.int .i64 t)
          have ne1 : hb' ≠ w.heap.size := by omega
          have ne3 : hb' ≠ g := by have h1 := HHB.out; omega
          have hab2 : ab < wr.heap.size := by have := hbw.size; omega
          have HR1 := Lib.hid R1; have HY := Lib.hid hyt
          clear hce hrow hbw hbv hy R1
          go_wp2_with fail
          go_quiet (fail)
          go_wp2_with fail
          go_roundw
          case rel => exact ⟨i + 1, by omega, by go_num, by rw [hnx.out], HR1.out, below_drewN hbw2 _, below_drewN hbv2 _⟩
          case measure => simp [intOf]; omega
        · have i2 : ¬ (i : Int) < (nh : Int) := by omega
          have ht0 : t = 0 := by rw [HTV.out]; unfold htH; rw [if_neg hin]
          have R1 := hrow.congr (g := fun j => .int .i64 (if j < i + 1 then H j else 0)) (fun j hj => by
            by_cases e : j = i
            · subst e; rw [if_neg (by omega), if_pos (by omega), ← HTE.out, ht0]
            · by_cases e2 : j < i
              · rw [if_pos e2, if_pos (by omega)]
              · rw [if_neg e2, if_neg (by omega)])
          have rw2 : wr.cell? ⟨hb', i, none⟩ = some (.int .i64 t) := by rw [ht0]; exact rw1
          have HR1 := Lib.hid R1
          clear hrow R1 rw1 ht0
          go_wp2_with fail
          go_quiet (fail)
          go_wp2_with fail
          go_roundw
          case rel => exact ⟨i + 1, by omega, by go_num, by rw [hnx.out], HR1.out, below_drewN hbw _, below_drewN hbv _⟩
          case measure => simp [intOf]; omega
      · obtain rfl : i = q := by omega
        have hfl : FlatSl wr 1 (some ⟨hb', 0, none⟩) i i (seg (htH nh zh) 0 i) := row_flat (f := htH nh zh) (hrow.congr (fun j hj => by rw [if_pos hj, HHK.out j hj])) (by unfold maxLen; omega)
        have hG : GRead R (ix (seg (htH nh zh) 0 i)) i 2 := ⟨by omega, by omega, by omega, by omega, fun k c _ _ => HRB.out k c, fun k hk => by rw [ix_seg _ i k hk]; exact htH_bound nh zh k⟩
        have hres := resid_ok g 0 gc rb rc R i 2 (some ⟨hb', 0, none⟩) i (seg (htH nh zh) 0 i) wr (HM.out.below hbv) hfl hG hgc (by omega)
        rw [← HHH.out] at hres
        have HRES := Lib.hid hres
        clear hfl hG hres hrow hMr u0 u1 hbv
        have hbs := hbw.size
        go_wp2_with fail
        refine Calls.mono HRES.out ?_
        rintro e w4 ⟨hb, ⟨hz, rfl⟩ | ⟨hne, rfl⟩⟩
        · have hb4 := hbw.trans (hb.mono hbs)
          clear hb hbw hz
          go_wp2_with fail
          go_ret
          exact ⟨rfl, hb4⟩
        · have hb4 := hbw.trans (hb.mono hbs)
          obtain ⟨l1, l2, l3, l4⟩ := least_law hne F0 F1 rfl rfl rfl rfl
          obtain ⟨a, ha⟩ : ∃ a, a = (resN 2 (gm R i) (gr R H i) H i).tdiv (Int.gcd (resN 2 (gm R i) (gr R H i) H i) (fitD 2 (gm R i) (gr R H i))) := ⟨_, rfl⟩
          obtain ⟨b, hbb⟩ : ∃ a, a = (fitD 2 (gm R i) (gr R H i)).tdiv (Int.gcd (resN 2 (gm R i) (gr R H i) H i) (fitD 2 (gm R i) (gr R H i))) := ⟨_, rfl⟩
          rw [← ha, ← hbb] at l3 l4
          rw [← ha] at l1
          rw [← hbb] at l2
          rw [← ha, ← hbb]
          rw [← HSM.out] at l3 l4
          have b00 : (b == 0) = false := by simp; omega
          have b01 : ¬ b = 0 := by omega
          have q0 : 0 ≤ a.tdiv b := Int.tdiv_nonneg l1 (by omega)
          obtain ⟨Q, hQ⟩ : ∃ Q, Q = a.tdiv b := ⟨_, rfl⟩
          rw [← hQ] at l3 l4 q0
          have eQ : a.tdiv b = Q := hQ.symm
          have p1 : IntKind.i64.wrap Q = Q := IntWalk.i64_in _ (by omega)
          obtain ⟨Mm, hM⟩ : ∃ Q, Q = a.tmod b := ⟨_, rfl⟩
          have eM : a.tmod b = Mm := hM.symm
          rw [← hM] at l4
          clear hb hbw hne ha hbb hQ hM
          by_cases h4 : Mm = 0
          · have e4 : (Mm == 0) = true := by simpa using h4
            have l5 : Q ≤ s := l3
            clear h4 l4 l3
            go_wp2_with fail
            go_ret
            exact ⟨rfl, hb4⟩
          · have e4 : (Mm == 0) = false := by simpa using h4
            have l5 : Q < s := l4.resolve_left h4
            clear h4 l4 l3
            go_wp2_with fail
            go_ret
            exact ⟨rfl, hb4⟩

end Go.Proofs.Ytmeppcoekmoofaa
