/- AgreeTurned, the walk: the order of the intervals makes no difference. -/
import Derived.Test.YtaemgglkdeklmaaAgreeWorks
import Derived.Test.YtaemgglkdeklmaaAppend
import Derived.Deep.RegionHeld3
namespace Go.Proofs.Ytaemgglkdeklmaa
open Go.RowKit
set_option linter.unusedSimpArgs false
set_option linter.unusedVariables false

theorem add_at (b o j : Nat) : (⟨b, o, none⟩ : Addr).add j = ⟨b, o + j, none⟩ := by unfold Addr.add; split <;> simp_all
def turned (ys : List Int) (k : Nat) : List Int := ys.drop (k * 2) ++ ys.take (k * 2)
theorem ix_turned_lo (ys : List Int) (k r j : Nat) (h : ys.length = (k + r) * 2) (hj : j < r * 2) : ix (turned ys k) j = ix ys (k * 2 + j) := by
  simp only [ix, turned, List.getD_eq_getElem?_getD]
  rw [List.getElem?_append_left (by rw [List.length_drop]; omega), List.getElem?_drop]
theorem ix_turned_hi (ys : List Int) (k r j : Nat) (h : ys.length = (k + r) * 2) (hj : j < k * 2) : ix (turned ys k) (r * 2 + j) = ix ys j := by
  simp only [ix, turned, List.getD_eq_getElem?_getD]
  rw [List.getElem?_append_right (by rw [List.length_drop]; omega), List.length_drop, show r * 2 + j - (ys.length - k * 2) = j by omega, List.getElem?_take, if_pos hj]
theorem dep_split (zs : List Int) (t : Int) (a b : Nat) (xs us : List Int) (h1 : ∀ j, j < a * 2 → ix zs j = ix xs j) (h2 : ∀ j, j < b * 2 → ix zs (a * 2 + j) = ix us j) : dep zs t (a + b) = dep xs t a + dep us t b := by
  have e1 : ∀ k, k ≤ a → dep zs t k = dep xs t k := by
    intro k
    induction k with
    | zero => intro _; rfl
    | succ k ih => intro hk; simp only [dep]; rw [ih (by omega), h1 (k * 2) (by omega), h1 (k * 2 + 1) (by omega)]
  have e2 : ∀ k, k ≤ b → dep zs t (a + k) = dep xs t a + dep us t k := by
    intro k
    induction k with
    | zero => intro _; simp only [dep, Nat.add_zero]; exact e1 a (Nat.le_refl _)
    | succ k ih =>
      intro hk
      rw [← Nat.add_assoc]
      simp only [dep]
      rw [ih (by omega), show (a + k) * 2 = a * 2 + k * 2 by omega, show a * 2 + k * 2 + 1 = a * 2 + (k * 2 + 1) by omega, h2 (k * 2) (by omega), h2 (k * 2 + 1) (by omega), Nat.add_assoc]
  exact e2 b (Nat.le_refl _)
theorem turned_same (ys : List Int) (k r : Nat) (h : ys.length = (k + r) * 2) : SameSp ys (turned ys k) (k + r) := by
  refine ⟨fun t => ?_, fun j hj => ?_, fun j hj => ?_⟩
  · have hl : ∀ j, ix (ys.drop (k * 2)) j = ix ys (k * 2 + j) := fun j => by simp only [ix, List.getD_eq_getElem?_getD, List.getElem?_drop]
    rw [dep_split ys t k r ys (ys.drop (k * 2)) (fun j _ => rfl) (fun j _ => (hl j).symm), Nat.add_comm k r, dep_split (turned ys k) t r k (ys.drop (k * 2)) ys (fun j hj => by rw [ix_turned_lo ys k r j h hj, hl]) (fun j hj => ix_turned_hi ys k r j h hj), Nat.add_comm]
  · by_cases hk : j < k
    · exact ⟨r + j, by omega, by rw [show (r + j) * 2 = r * 2 + j * 2 by omega, ix_turned_hi ys k r (j * 2) h (by omega)], by rw [show (r + j) * 2 + 1 = r * 2 + (j * 2 + 1) by omega, ix_turned_hi ys k r (j * 2 + 1) h (by omega)]⟩
    · exact ⟨j - k, by omega, by rw [ix_turned_lo ys k r ((j - k) * 2) h (by omega), show k * 2 + (j - k) * 2 = j * 2 by omega], by rw [ix_turned_lo ys k r ((j - k) * 2 + 1) h (by omega), show k * 2 + ((j - k) * 2 + 1) = j * 2 + 1 by omega]⟩
  · by_cases hr : j < r
    · exact ⟨k + j, by omega, by rw [ix_turned_lo ys k r (j * 2) h (by omega), show (k + j) * 2 = k * 2 + j * 2 by omega], by rw [ix_turned_lo ys k r (j * 2 + 1) h (by omega), show (k + j) * 2 + 1 = k * 2 + (j * 2 + 1) by omega]⟩
    · exact ⟨j - r, by omega, by rw [show j * 2 = r * 2 + (j - r) * 2 by omega, ix_turned_hi ys k r ((j - r) * 2) h (by omega)], by rw [show j * 2 + 1 = r * 2 + ((j - r) * 2 + 1) by omega, ix_turned_hi ys k r ((j - r) * 2 + 1) h (by omega)]⟩
theorem same_ok {zs ys : List Int} {n : Nat} (h : SameSp zs ys n) (hS : SpOk zs n) : SpOk ys n := ⟨hS.few, hS.some, fun j hj => by
  obtain ⟨i, hi, e1, e2⟩ := h.back j hj
  rw [e1, e2]; exact hS.each i hi⟩

set_option maxRecDepth 100000 in
set_option maxHeartbeats 8000000 in
theorem agreeTurned_walk (A : Option Addr) (n cap : Nat) (zs : List Int) (t0 : Int) (w : World) (hF : FlatSl w 2 A n cap zs) :
    Calls Try.prog 13 #[.slice A n cap, .int .i64 t0] w fun e w' => e = .returned (.bool true) ∧ Below w.heap.size w w' := by
  obtain ⟨iS, hS0, hS1, hS2, hS3⟩ := info_parts Try.infoSpan
  have H := Lib.hid hF; clear hF
  go_enter Try.func13, Try.ntmps13
  go_wp2_with fail
  refine Calls.mono (agreeWorks_ok _) ?_
  rintro e w1 ⟨rfl, hb⟩
  obtain ⟨hb1, hz1, hc1, hf1⟩ := took (w := w) (by repeat' (first | (with_reducible refine below_drewN ?_ _) | go_grown)) (by first | (simp only [World.size_alloc, World.size_setCell, World.size_drew, size_drewN]; done) | (simp only [World.size_alloc, World.size_setCell, World.size_drew, size_drewN]; rfl) | rfl) hb; clear hb
  have hs1 := hb1.size
  clear hc1 hf1
  go_wp2_with fail
  refine Calls.mono (spans_any _ _ _ _ _ (H.out.keep (by omega) hb1)) ?_
  rintro e w2 ⟨v, rfl, hown, hb⟩
  obtain ⟨A2, cap2, rfl, hF2⟩ := own_flat hown
  obtain ⟨m, hm⟩ : ∃ m, m = min n 20 := ⟨_, rfl⟩
  rw [← hm] at hF2
  rw [← hm]
  have hm20 : m ≤ 20 := by omega
  have HM := Lib.hid hm; clear hm
  obtain ⟨ys, hys⟩ : ∃ ys, ys = spanNums zs 1000 m := ⟨_, rfl⟩
  rw [← hys] at hF2
  have HY := Lib.hid hys; clear hys
  have hb2 := hb1.trans (hb.mono hs1)
  have hs2 := hb2.size
  clear hown hb hb1 hs1
  by_cases h0 : m = 0
  · subst h0
    go_wp2_with fail
    go_returns
    exact ⟨rfl, hb2⟩
  · have hS : SpOk ys m := by rw [HY.out]; exact spanNums_ok zs m (by omega) hm20
    have e0 : ((m : Int) == 0) = false := by simp; omega
    obtain ⟨k, hk⟩ : ∃ k : Nat, (k : Int) = t0 % (m : Int) := ⟨(t0 % (m : Int)).toNat, by have := Int.emod_nonneg t0 (show (m : Int) ≠ 0 by omega); omega⟩
    have hkm : k < m := by have := Int.emod_lt_of_pos t0 (show 0 < (m : Int) by omega); omega
    have HK := Lib.hid hk; clear hk h0
    obtain ⟨b, off, rfl, hcell⟩ := hF2.at' (by omega)
    have hle := hF2.le
    have k1 : (0 : Int) ≤ (k : Int) := by omega
    have k2 : (k : Int) ≤ (m : Int) := by omega
    have k3 : (k : Int) ≤ (cap2 : Int) := by omega
    have k4 : (m : Int) ≤ (cap2 : Int) := by omega
    have k5 : ¬ cap2 = k := by omega
    go_wp2_with fail
    refine Calls.mono (at_any _ _ _ (by omega) (by omega)) ?_
    rintro e _ ⟨rfl, rfl⟩
    rw [← HK.out]
    go_wp2_with fail
    have hlen := hF2.len
    have hrm : ∃ r, m = k + r := ⟨m - k, by omega⟩
    have HRM := Lib.hid hrm; clear hrm
    have n2 : ∀ j u, ((ys.take (k * 2)).map (Value.int .i64))[j]? = some u → w2.cell? ⟨b, off + j, none⟩ = some u := fun j u hu => by
      rw [List.getElem?_map, List.getElem?_take] at hu
      split at hu
      · rename_i hj
        have hj2 : j < ys.length := by omega
        rw [List.getElem?_eq_getElem hj2] at hu
        have := hcell j (by omega)
        rw [this]
        simp only [Option.map_some, Option.some.injEq] at hu
        rw [← hu, ix, List.getD_eq_getElem?_getD, List.getElem?_eq_getElem hj2]; rfl
      · simp at hu
    have n1 : ∀ j u, ((ys.drop (k * 2)).map (Value.int .i64))[j]? = some u → w2.cell? ⟨b, off + k * 2 + j, none⟩ = some u := fun j u hu => by
      rw [List.getElem?_map, List.getElem?_drop] at hu
      have hj2 : k * 2 + j < ys.length := by
        apply Classical.byContradiction
        intro hno
        rw [List.getElem?_eq_none (by omega)] at hu
        simp at hu
      rw [List.getElem?_eq_getElem hj2] at hu
      have := hcell (k * 2 + j) (by omega)
      rw [Nat.add_assoc, this]
      simp only [Option.map_some, Option.some.injEq] at hu
      rw [← hu, ix, List.getD_eq_getElem?_getD, List.getElem?_eq_getElem hj2]; rfl
    have hbl := World.block_lt_of_cell? w2 _ (hcell 0 (by omega))
    simp at hbl
    have hneb : some b ≠ (Value.slice (some ⟨w2.heap.size, 0, none⟩) 0 0).ownBlock := by
      intro e
      have : b = w2.heap.size := by simpa [Value.ownBlock] using e
      omega
    have HF2 := Lib.hid hF2; have HC := Lib.hid hcell; have HLE := Lib.hid hlen; have HN1 := Lib.hid n1; have HN2 := Lib.hid n2; clear hF2 hcell hlen n1 n2
    go_region_held3 (fun w' => True) (trivial) ((first
      | (refine step_append_any (by rfl) (.tmp 27) (.tmp 30) _ (by rfl) w2.heap.size 25 iS _ 2 16 Try.underlying60 hS0 hS1 hS2 hS3 rfl (by omega) (.slice (some ⟨w2.heap.size, 0, none⟩) 0 0) 0 [] (by rfl) (World.ownsRow_made w2 #[] 0 (Nat.le_refl _) (by unfold maxLen; omega) rfl).drew ⟨b, off + k * 2, none⟩ (m - k) (cap2 - k) ((ys.drop (k * 2)).map (Value.int .i64)) (by rfl) (by have := HLE.out; rw [List.length_map, List.length_drop]; omega) (fun j u hu => by have q1 := (((Below.refl w2.heap.size w2).alloc (Nat.le_refl _) (.cells #[] 25)).drew.cell (p := ⟨b, off + k * 2 + j, none⟩) hbl).trans (HN1.out j u hu); rw [add_at]; exact q1) (fun u hu => by obtain ⟨x, _, rfl⟩ := List.mem_map.1 hu; rfl) (by unfold maxLen; omega) (by omega) (by simp) ?_; intro v1 w3 hown1 hgrow1 hat1)
      | (refine step_append_any (by rfl) (.tmp 31) (.tmp 34) _ (by rfl) w2.heap.size 25 iS _ 2 16 Try.underlying60 hS0 hS1 hS2 hS3 rfl (by omega) v1 (0 + (m - k)) _ (by rfl) hown1 ⟨b, off, none⟩ k cap2 ((ys.take (k * 2)).map (Value.int .i64)) (by rfl) (by have := HLE.out; rw [List.length_map, List.length_take]; omega) (fun j u hu => by have q1 := (hgrow1.cell_far ⟨b, off + j, none⟩ (by simp; omega) hneb).trans ((((Below.refl w2.heap.size w2).alloc (Nat.le_refl _) (.cells #[] 25)).drew.cell (p := ⟨b, off + j, none⟩) hbl).trans (HN2.out j u hu)); rw [add_at]; exact q1) (fun u hu => by obtain ⟨x, _, rfl⟩ := List.mem_map.1 hu; rfl) (by unfold maxLen; omega) (by omega) (by have := hgrow1.size; simp at this; omega) ?_; intro v2 w4 hown2 hgrow2 hat2)))
    all_goals
      have hts : Hid (w4.ownsRow w2.heap.size 25 2 v2 m ((turned ys k).map (Value.int .i64))) := Lib.hid (by
        have e : 0 + (m - k) + k = m := by omega
        rw [e] at hown2
        simpa only [turned, List.map_append, List.nil_append] using hown2)
      have hv1 : Below w2.heap.size w2 w4 := (((Below.refl w2.heap.size w2).alloc (Nat.le_refl _) (.cells #[] 25)).drew.grown hgrow1 (by simp) (fun q hq => by simp [Value.ownBlock] at hq; omega)).grown hgrow2 (by have := hgrow1.size; simp at this; omega) (fun q hq => (hown1.lt q hq).1)
      obtain ⟨A3, cap3, hv, hF3⟩ := own_flat hts.out
      subst hv
      have hFa := HF2.out.keep (by omega) hv1
      have hbw := hb2.trans (hv1.mono hs2)
      have hsame : SameSp ys (turned ys k) m := by
        obtain ⟨r, hr⟩ := HRM.out
        rw [hr]
        exact turned_same ys k r (by rw [HLE.out, hr])
      have hS2 := same_ok hsame hS
      have hm1 := most_law hS
      obtain ⟨x1, x2, x3⟩ := same_most hsame hm1 (most_law hS2)
      have hmj := majority hS hm1.deep (by obtain ⟨j, hj, e⟩ := hm1.is; rw [hm1.deep]; exact dep_pos hj (by rw [e]; exact ⟨Int.le_refl _, (hS.each j hj).2.1⟩)) hm1
      clear hown1 hown2 hgrow1 hgrow2 hat1 hat2 hv1
      obtain ⟨lo, hlo⟩ : ∃ x, x = (mB ys m m).lo := ⟨_, rfl⟩
      obtain ⟨hi, hhi⟩ : ∃ x, x = mH ys (mB ys m m).lo (mB ys m m).hi m := ⟨_, rfl⟩
      obtain ⟨kk, hkk⟩ : ∃ x, x = (mB ys m m).k := ⟨_, rfl⟩
      have hkm2 : kk ≤ m := by rw [hkk, hm1.deep]; exact dep_le _ _ _
      have hk1 : 1 ≤ kk := by obtain ⟨j, hj, e⟩ := hm1.is; rw [hkk, hm1.deep]; exact dep_pos hj (by rw [e]; exact ⟨Int.le_refl _, (hS.each j hj).2.1⟩)
      rw [← hlo] at x1
      rw [← hhi] at x2
      rw [← hkk] at x3 hmj
      have hsh := same_hull (need := (kk : Int)) hsame
      obtain ⟨x, hx⟩ : ∃ x, x = wH ys m kk m := ⟨_, rfl⟩
      rw [← hx] at hsh hmj
      obtain ⟨xis, xlo, xhi⟩ := x
      have l1 := hmj.1
      simp only at l1
      subst l1
      have hva : withinV ys m kk = .tuple #[.agg #[.int .i64 xlo, .int .i64 xhi], .int .i64 0] := by unfold withinV; rw [← hx]; rfl
      have hvb : withinV (turned ys k) m kk = .tuple #[.agg #[.int .i64 xlo, .int .i64 xhi], .int .i64 0] := by unfold withinV; rw [← hsh]; rfl
      have VA := Lib.hid hva; have VB := Lib.hid hvb; have HLO := Lib.hid hlo; have HHI := Lib.hid hhi; have HKK := Lib.hid hkk
      have HS := Lib.hid hS; have HS2 := Lib.hid hS2; have Y1 := Lib.hid x1; have Y2 := Lib.hid x2; have Y3 := Lib.hid x3
      clear hva hvb hlo hhi hkk hS hS2 x1 x2 x3 hx hsh hmj hm1 hsame hts
      have hbs := hbw.size
      go_wp2_with fail
      refine Calls.mono (agreeMost_ok _ _ _ _ _ hFa HS.out) ?_
      rintro e w5 ⟨rfl, hb⟩
      rw [← HHI.out, ← HLO.out, ← HKK.out]
      have X1 := SpBox.new w5 lo hi
      have hFb := (hFa.keep (by omega) hb).atop (by omega) (.cells #[.int .i64 lo, .int .i64 hi] 25)
      have hFc := (hF3.keep (by omega) hb).atop (by omega) (.cells #[.int .i64 lo, .int .i64 hi] 25)
      have hb6 := (hbw.trans (hb.mono hbs)).alloc (hbw.trans (hb.mono hbs)).size (.cells #[.int .i64 lo, .int .i64 hi] 25)
      have hs6 := hb6.size
      clear hFa hF3 hb hbw hbs
      go_wp2_with fail
      refine Calls.mono (agreeMost_ok _ _ _ _ _ hFc HS2.out) ?_
      rintro e w6 ⟨rfl, hb⟩
      rw [← Y2.out, ← Y1.out, ← Y3.out]
      have X2 := (X1.below hb).alloc (.cells #[.int .i64 lo, .int .i64 hi] 25)
      have Z2 := SpBox.new w6 lo hi
      have hFd := (hFb.keep (by omega) hb).atop (by omega) (.cells #[.int .i64 lo, .int .i64 hi] 25)
      have hFe := (hFc.keep (by omega) hb).atop (by omega) (.cells #[.int .i64 lo, .int .i64 hi] 25)
      have hb7 := (hb6.trans (hb.mono hs6)).alloc (hb6.trans (hb.mono hs6)).size (.cells #[.int .i64 lo, .int .i64 hi] 25)
      have hs7 := hb7.size
      clear hFb hFc hb X1 hb6 hs6
      go_wp2_with fail
      refine Calls.mono (within_any _ _ _ _ _ _ hFd HS.out (by omega) (by omega)) ?_
      rintro e w7 ⟨rfl, hb⟩
      rw [VA.out]
      have X3 := (X2.below hb).alloc (.cells #[.int .i64 xlo, .int .i64 xhi] 25)
      have Z3 := (Z2.below hb).alloc (.cells #[.int .i64 xlo, .int .i64 xhi] 25)
      have U3 := SpBox.new w7 xlo xhi
      have hFf := (hFe.keep (by omega) hb).atop (by omega) (.cells #[.int .i64 xlo, .int .i64 xhi] 25)
      have hb8 := (hb7.trans (hb.mono hs7)).alloc (hb7.trans (hb.mono hs7)).size (.cells #[.int .i64 xlo, .int .i64 xhi] 25)
      have hs8 := hb8.size
      clear hFd hFe hb X2 Z2 hb7 hs7
      go_wp2_with fail
      refine Calls.mono (within_any _ _ _ _ _ _ hFf HS2.out (by omega) (by omega)) ?_
      rintro e w8 ⟨rfl, hb⟩
      rw [VB.out]
      have X4 := X3.below hb
      have Z4 := Z3.below hb
      have U4 := U3.below hb
      have hb9 := hb8.trans (hb.mono hs8)
      have f0 := X4.c0; have f1 := X4.c1; have f2 := X4.lt
      have g0 := Z4.c0; have g1 := Z4.c1; have g2 := Z4.lt
      have p0 := U4.c0; have p1 := U4.c1; have p2 := U4.lt
      clear X3 Z3 U3 X4 Z4 U4 hb hb8 hs8 hFf
      go_wp2_with fail
      go_returns
      exact ⟨rfl, hb9.alloc hb9.size _⟩

end Go.Proofs.Ytaemgglkdeklmaa
