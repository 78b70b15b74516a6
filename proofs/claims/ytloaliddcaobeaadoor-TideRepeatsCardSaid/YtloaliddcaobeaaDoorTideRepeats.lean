/- TideRepeats: a tide of constituents with whole numbers of turns in a day repeats each day. -/
import Derived.Test.YtloaliddcaobeaaDoorTideWorks
import Derived.Test.YtloaliddcaobeaaDoorTides
import Derived.Deep.RegionHeld3
namespace Go.Proofs.YtloaliddcaobeaaDoor
open Go.RowKit
set_option linter.unusedSimpArgs false
set_option linter.unusedVariables false
/-- The numbers when the first k rates have been turned into whole turns. -/
def rx (ys : List Int) (k j : Nat) : Int := if j % 3 = 2 ∧ j / 3 < k then (1 + ix ys j % 3) * 1000000000000000 else ix ys j
def RP (wr : World) (A : Option Addr) (m cap base : Nat) (ys : List Int) (k : Nat) : Prop :=
  m ≤ cap ∧ cap ≤ maxLen ∧ (0 < m → ∃ g f, A = some ⟨g, 0, none⟩ ∧ base ≤ g ∧ wr.rowIs g 40 (cap * 3) f ∧ ∀ j, j < m * 3 → f j = .int .i64 (rx ys k j))
theorem rp_of_own {w : World} {base : Nat} {v : Value} {m : Nat} {ys : List Int} (h : w.ownsRow base 40 3 v m (ys.map (Value.int .i64))) : ∃ A cap, v = .slice A m cap ∧ RP w A m cap base ys 0 := by
  have hl : ys.length = m * 3 := by simpa using h.1
  rcases h.2 with ⟨hv, h0⟩ | ⟨g, cap, cur, hv, hb, hg, hn, hc, hs, ht⟩
  · subst h0
    exact ⟨none, 0, hv, by omega, by unfold maxLen; omega, fun h => absurd h (by omega)⟩
  · refine ⟨_, cap, hv, hn, hc, fun _ => ⟨g, fun i => cur.getD i undef, rfl, hb, ⟨cur, hg, hs, fun i hi => ?_⟩, fun j hj => ?_⟩⟩
    · dsimp only
      rw [Array.getD_eq_getD_getElem?, Array.getElem?_eq_getElem (by omega)]; rfl
    · have hj2 : j < cur.size := by rw [hs]; omega
      have e1 : cur.toList.take (m * 3) = ys.map (Value.int .i64) := ht
      have e2 : (cur.toList.take (m * 3))[j]? = (ys.map (Value.int .i64))[j]? := by rw [e1]
      rw [List.getElem?_take_of_lt hj, List.getElem?_map, List.getElem?_eq_getElem (show j < ys.length by omega)] at e2
      have e3 : cur.toList[j]? = cur[j]? := by simp
      rw [e3] at e2
      dsimp only
      rw [Array.getD_eq_getD_getElem?, e2]
      have : rx ys 0 j = ix ys j := by unfold rx; rw [if_neg (by omega)]
      rw [this]
      simp [ix, List.getD, List.getElem?_eq_getElem (show j < ys.length by omega)]
/-- The numbers at the end. -/
def rz (ys : List Int) (m : Nat) : List Int := (List.range (m * 3)).map (rx ys m)
theorem rz_ix {ys : List Int} {m j : Nat} (h : j < m * 3) : ix (rz ys m) j = rx ys m j := by
  unfold ix rz
  simp [List.getD, List.getElem?_map, List.getElem?_range h]
theorem rp_flat {w : World} {A : Option Addr} {m cap base : Nat} {ys : List Int} (h : RP w A m cap base ys m) : FlatSl w 3 A m cap (rz ys m) := by
  obtain ⟨h1, h2, h3⟩ := h
  refine ⟨h1, h2, by unfold rz; simp, fun hn => ?_⟩
  obtain ⟨g, f, hA, hb, hr, hf⟩ := h3 hn
  refine ⟨g, 0, hA, fun j hj => ?_⟩
  rw [Nat.zero_add, hr.cell (show j < cap * 3 by omega), hf j hj, rz_ix hj]
theorem rz_ok {ys : List Int} {m : Nat} (h : ∀ i, i < m → TdOk ys i) : ∀ i, i < m → TdOk (rz ys m) i := by
  intro i hi
  obtain ⟨a1, a2, p1, p2, r1, r2⟩ := h i hi
  have e0 : ix (rz ys m) (i * 3) = ix ys (i * 3) := by rw [rz_ix (by omega)]; unfold rx; rw [if_neg (by omega)]
  have e1 : ix (rz ys m) (i * 3 + 1) = ix ys (i * 3 + 1) := by rw [rz_ix (by omega)]; unfold rx; rw [if_neg (by omega)]
  have e2 : ix (rz ys m) (i * 3 + 2) = (1 + ix ys (i * 3 + 2) % 3) * 1000000000000000 := by rw [rz_ix (by omega)]; unfold rx; rw [if_pos (by omega)]
  exact ⟨by rw [e0]; exact a1, by rw [e0]; exact a2, by rw [e1]; exact p1, by rw [e1]; exact p2, by rw [e2]; omega, by rw [e2]; omega⟩
theorem rz_same {ys : List Int} {m : Nat} (t d : Int) : hLo (rz ys m) m (t + d * 86400000) = hLo (rz ys m) m t ∧ hHi (rz ys m) m (t + d * 86400000) = hHi (rz ys m) m t := by
  have e : fsum (tdW (rz ys m) (t + d * 86400000)) m = fsum (tdW (rz ys m) t) m := fsum_congr m (fun i hi => by
    unfold tdW
    have e2 : ix (rz ys m) (i * 3 + 2) = (1 + ix ys (i * 3 + 2) % 3) * 1000000000000000 := by rw [rz_ix (by omega)]; unfold rx; rw [if_pos (by omega)]
    rw [e2, part_repeats])
  unfold hLo hHi
  rw [e]
  exact ⟨rfl, rfl⟩
set_option maxRecDepth 100000 in
set_option maxHeartbeats 16000000 in
theorem tideRepeats_walk (A0 : Option Addr) (n0 cap0 : Nat) (zs0 : List Int) (t0 d0 : Int) (w : World) (ht : SinT w) (hF0 : FlatSl w 3 A0 n0 cap0 zs0) :
    Calls Tryd.prog 6 #[.slice A0 n0 cap0, .int .i64 t0, .int .i64 d0] w fun e w' => e = .returned (.bool true) ∧ Below w.heap.size w w' := by
  obtain ⟨t, hte⟩ : ∃ t, t = t0 % 604800000000000 - 302400000000000 := ⟨_, rfl⟩
  obtain ⟨d, hde⟩ : ∃ d, d = d0 % 1000 := ⟨_, rfl⟩
  have HI := Lib.hid (fun w => hte ▸ instant_ok t0 w)
  have HIN := Lib.hid (show instOk t = true by rw [hte]; exact instant_in t0)
  have HD := Lib.hid (fun w => hde ▸ at_any d0 1000 w (by omega) (by omega))
  have d1 : 0 ≤ d := by omega
  have d2 : d < 1000 := by omega
  have t1 : -302400000000000 ≤ t := by omega
  have t2 : t < 302400000000000 := by omega
  have ed : IntKind.i64.wrap (d * 86400000) = d * 86400000 := IntWalk.i64_in _ (by omega)
  have et : IntKind.i64.wrap (t + d * 86400000) = t + d * 86400000 := IntWalk.i64_in _ (by omega)
  have HIN2 := Lib.hid (show instOk (t + d * 86400000) = true by unfold instOk dayOk; exact decide_eq_true (by omega))
  have HT := Lib.hid ht; have HF0 := Lib.hid hF0
  clear hte hde ht hF0 d1 d2 t1 t2
  go_enter Tryd.func6, Tryd.ntmps6
  go_upto_region 3 with (go_at_call 21; refine Calls.mono (tideWorks_ok _ HT.out) ?_; rintro e w1 ⟨rfl, hb⟩; have W1 := Lib.hid hb; clear hb)
  go_wp2_with fail
  refine Calls.mono (tides_ok A0 n0 cap0 zs0 _ (flat_below HF0.out W1.out)) ?_
  rintro e w2 ⟨v1, m, ys, rfl, ho1, hm, ht1, hb⟩
  obtain ⟨D1, c1, rfl, hrp⟩ := rp_of_own ho1
  have hW2 := W1.out.trans (hb.mono W1.out.size)
  have hbs : w.heap.size ≤ w1.heap.size := W1.out.size
  have W2 := Lib.hid hW2
  have R1 := Lib.hid hrp; have M1 := Lib.hid hm; have O1 := Lib.hid ht1
  have HBS := Lib.hid hbs
  clear hb hrp hm ht1 ho1 hW2 hbs
  go_wp2_with fail
  refine Calls.mono (HI.out _) ?_
  rintro e _ ⟨rfl, rfl⟩
  go_wp2_with fail
  refine Calls.mono (HD.out _) ?_
  rintro e _ ⟨rfl, rfl⟩
  go_wp2_with fail
  go_loopw [22] (fun i wr => ∃ k : Nat, k ≤ m ∧ i = .int .i64 (k : Int) ∧ Hid (RP wr D1 m c1 w1.heap.size ys k) ∧ Below w.heap.size w wr) (fun i _ => m - (intOf i).toNat)
  case atStart => exact ⟨0, by omega, rfl, R1, W2.out⟩
  case round =>
    obtain ⟨k, hk, rfl, hrp, hbl⟩ := hrel
    have HBL := Lib.hid hbl
    clear hbl
    by_cases hlt : k < m
    · obtain ⟨h1, h2, h3⟩ := hrp.out
      obtain ⟨g, f, rfl, hg, hr, hf⟩ := h3 (by omega)
      have i0 : (0 : Int) ≤ (k : Int) := by omega
      have i1 : (k : Int) < (m : Int) := by omega
      have i2 : (k : Int) < (c1 : Int) := by omega
      have m6 := M1.out
      have rk : rx ys k (k * 3 + 2) = ix ys (k * 3 + 2) := by unfold rx; rw [if_neg (by omega)]
      have hcell : wr.cell? ⟨g, k * 3 + 2, none⟩ = some (.int .i64 (ix ys (k * 3 + 2))) := by rw [hr.cell (show k * 3 + 2 < c1 * 3 by omega), hf _ (by omega), rk]
      have hfr := hr.frozen (k * 3 + 2)
      have hgl := hr.lt
      obtain ⟨-, -, -, -, r1, r2⟩ := O1.out k hlt
      obtain ⟨r, hre⟩ : ∃ r, r = ix ys (k * 3 + 2) := ⟨_, rfl⟩
      rw [← hre] at hcell r1 r2
      have eT : r.tmod 3 = r % 3 := Int.tmod_eq_emod_of_nonneg (by omega)
      obtain ⟨r3, hr3⟩ : ∃ x, x = (1 + r % 3) * 1000000000000000 := ⟨_, rfl⟩
      have ew : IntKind.i64.wrap ((1 + r % 3) * 1000000000000000) = r3 := by rw [hr3]; exact IntWalk.i64_in _ (by omega)
      have ew2 : IntKind.i64.wrap (1 + r % 3) = 1 + r % 3 := IntWalk.i64_in _ (by omega)
      have eN : (((k : Int) * 3 + 2).toNat) = k * 3 + 2 := by omega
      have hset := hr.set (k * 3 + 2) (.int .i64 r3)
      have R2 : Hid (RP (wr.setCell ⟨g, k * 3 + 2, none⟩ (.int .i64 r3)) (some ⟨g, 0, none⟩) m c1 w1.heap.size ys (k + 1)) := Lib.hid (by
        refine ⟨h1, h2, fun _ => ⟨g, _, rfl, hg, hset, fun j hj => ?_⟩⟩
        show (if j = k * 3 + 2 then _ else f j) = _
        by_cases e : j = k * 3 + 2
        · rw [if_pos e, e]
          have : rx ys (k + 1) (k * 3 + 2) = r3 := by unfold rx; rw [if_pos (by omega), ← hre, hr3]
          rw [this]
        · rw [if_neg e, hf j hj]
          have : rx ys (k + 1) j = rx ys k j := by
            unfold rx
            by_cases q : j % 3 = 2 ∧ j / 3 < k
            · rw [if_pos q, if_pos (by omega)]
            · rw [if_neg q, if_neg (by omega)]
          rw [this])
      have hg' : w.heap.size ≤ g := Nat.le_trans HBS.out hg
      have R4 := Lib.hid (show Below w.heap.size w (wr.setCell ⟨g, k * 3 + 2, none⟩ (.int .i64 r3)) from HBL.out.setCell hg' _)
      clear hrp hr hf hset h3 hr3 hre rk
      go_wp2_with fail
      go_roundw
      case rel => exact ⟨k + 1, by omega, by go_num, R2, R4.out⟩
      case measure => simp [intOf]; omega
    · obtain rfl : k = m := by omega
      have FL := Lib.hid (rp_flat hrp.out)
      have OK := Lib.hid (rz_ok O1.out)
      have hh := heights (by have := M1.out; omega) OK.out t
      have hs := rz_same (ys := ys) (m := k) t d
      have HV1 := Lib.hid (fun W (hT : SinT W) (h : FlatSl W 3 D1 k c1 (rz ys k)) => THeight_ok t D1 k c1 _ W hT h (by have := M1.out; omega) OK.out HIN.out)
      have HV2 := Lib.hid (fun W (hT : SinT W) (h : FlatSl W 3 D1 k c1 (rz ys k)) => hs.1 ▸ hs.2 ▸ THeight_ok (t + d * 86400000) D1 k c1 _ W hT h (by have := M1.out; omega) OK.out HIN2.out)
      generalize hLo (rz ys k) k t = lo at *
      generalize hHi (rz ys k) k t = hi at *
      obtain ⟨a1, a2, a3⟩ := hh
      have HM := Lib.hid (fun w => meets_true lo hi lo hi w a1 a1)
      clear a1 a2 a3 hs hrp hlt hk R1 W2
      go_wp2_with fail
      refine Calls.mono (HV1.out _ (HT.out.below HBL.out) FL.out) ?_
      rintro e u1 ⟨rfl, hb⟩
      have V := HBL.out.trans (hb.mono HBL.out.size)
      have al := (Below.refl u1.heap.size u1).alloc (Nat.le_refl _) (.cells #[.int .i64 lo, .int .i64 hi] 25)
      have X1 := Lib.hid (V.trans (al.mono V.size))
      have La := Lib.hid (flat_below (flat_below FL.out hb) al)
      have S1 := Lib.hid (SpBox.new u1 lo hi)
      obtain ⟨g1, hg1⟩ : ∃ x, x = u1.heap.size := ⟨_, rfl⟩
      rw [← hg1] at S1
      clear hb V al FL
      go_upto_region 10 with fail
      rw [← hg1]
      obtain ⟨U, hU⟩ : ∃ X, X = u1.alloc (.cells #[.int .i64 lo, .int .i64 hi] 25) := ⟨_, rfl⟩
      rw [← hU] at X1 La S1 ⊢
      clear hU hg1
      go_wp2_with fail
      refine Calls.mono (HV2.out _ (HT.out.below X1.out) La.out) ?_
      rintro e u2 ⟨rfl, hb⟩
      have V := X1.out.trans (hb.mono X1.out.size)
      have al := (Below.refl u2.heap.size u2).alloc (Nat.le_refl _) (.cells #[.int .i64 lo, .int .i64 hi] 25)
      have X2 := Lib.hid (V.trans (al.mono V.size))
      have S1a := Lib.hid ((S1.out.below hb).alloc (.cells #[.int .i64 lo, .int .i64 hi] 25))
      have S2 := Lib.hid (SpBox.new u2 lo hi)
      obtain ⟨g2, hg2⟩ : ∃ x, x = u2.heap.size := ⟨_, rfl⟩
      rw [← hg2] at S2
      clear hb V al La S1
      go_upto_region 11 with fail
      rw [← hg2]
      obtain ⟨U2, hU⟩ : ∃ X, X = u2.alloc (.cells #[.int .i64 lo, .int .i64 hi] 25) := ⟨_, rfl⟩
      rw [← hU] at X2 S2 S1a ⊢
      clear hU hg2
      have p0 := S1a.out.c0; have p1 := S1a.out.c1; have pl := S1a.out.lt
      have q0 := S2.out.c0; have q1 := S2.out.c1; have ql := S2.out.lt
      go_wp2_with fail
      refine Calls.mono (HM.out _) ?_
      rintro e u3 ⟨rfl, hb⟩
      have X3 := Lib.hid (X2.out.trans (hb.mono X2.out.size))
      clear hb p0 p1 pl q0 q1 ql
      go_wp2_with fail
      go_ret
      exact ⟨rfl, X3.out⟩
end Go.Proofs.YtloaliddcaobeaaDoor
