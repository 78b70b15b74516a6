/- Put gives a notice to a node. -/
import Derived.Test.YtocdboopmfgkpaaDoorNetRows
namespace Go.Proofs.YtocdboopmfgkpaaDoor
open Go.RowKit
set_option linter.unusedSimpArgs false
set_option linter.unusedVariables false

set_option maxRecDepth 100000 in
set_option maxHeartbeats 8000000 in
theorem put_forged (D : NetD) (L : NetL) (base : Nat) (H : Nat → Nat → Int) (i a : Nat) (m z : Int) (t : ByteArray) (w : World) (ht : Tab w) (h : NetW D L base w H) (hi : i < D.n) (ha : a < D.K) (hK : D.K ≤ 8) (hk : 1 ≤ D.keys a ∧ D.keys a ≤ 1000000000) (hT : NtOk a m t z) (hz : z ≠ sumAll (D.keys a) (ntL a m t)) :
    Calls Tryd.prog 15 #[.pointer (some ⟨L.b, 0, none⟩), .int .i64 i, .agg #[.int .i64 a, .int .i64 m, .string t, .int .i64 z]] w fun e w' => e = .returned (.int .i64 13) ∧ Below w.heap.size w w' := by
  obtain ⟨k0, k1⟩ := hk
  have HN := Lib.hid h; have HT := Lib.hid ht; have HK := Lib.hid hT
  obtain ⟨kx, hkx⟩ : ∃ x, x = D.keys a := ⟨_, rfl⟩
  rw [← hkx] at k0 k1 hz
  have hrt : ∀ W, Tab W → Calls Tryd.prog 12 #[.int .i64 kx, .agg #[.int .i64 a, .int .i64 m, .string t, .int .i64 z]] W fun e w' => e = .returned (.tuple #[.bool false, .int .i64 0]) ∧ Below W.heap.size W w' := fun W hW =>
    (right_ok kx a m t z W hW hT k0 k1).mono fun e w' ⟨he, hb⟩ => ⟨by rw [he, beq_eq_false_iff_ne.2 hz], hb⟩
  have HR := Lib.hid hrt; have HKX := Lib.hid hkx
  clear ht h hT hz hrt hkx
  have a0 : (0 : Int) ≤ (a : Int) := by omega
  have a1 : (a : Int) < (D.K : Int) := by omega
  go_enter Tryd.func15, Tryd.ntmps15
  go_wp2_with fail
  refine Calls.mono (isNode_ok (HN.out.below ((Below.refl w.heap.size w).alloc (Nat.le_refl _) _)) i hi) ?_
  rintro e _ ⟨rfl, rfl⟩
  go_wp2_with fail
  refine Calls.mono (check_ok _ _ _ _ _ HK.out) ?_
  rintro e w1 ⟨rfl, hb⟩
  have B0 := (NtBox.new w a m t z).below hb
  have b0 := (Below.refl w.heap.size w).alloc (Nat.le_refl _) (.cells #[.int .i64 a, .int .i64 m, .string t, .int .i64 z] 23)
  have hb1 := b0.trans (hb.mono b0.size)
  have N1 := HN.out.below hb1
  have HN1 := Lib.hid N1
  clear hb b0 N1
  have x0 := B0.c0; have x1 := B0.c1; have x2 := B0.c2; have x3 := B0.c3; have xf0 := B0.free 0; have xf1 := B0.free 1; have xf2 := B0.free 2; have xf3 := B0.free 3; have xl := B0.lt
  go_wp2_with fail
  refine Calls.mono (isAuthor_ok HN1.out a ha) ?_
  rintro e _ ⟨rfl, rfl⟩
  go_wp2_with fail
  have y1 := HN1.out.key a ha
  rw [← HKX.out] at y1
  have HTX := Lib.hid ((HT.out.below hb1).drew)
  obtain ⟨X, hX⟩ : ∃ X, X = (w1).drew := ⟨_, rfl⟩
  have xX0 : X.cell? ⟨w.heap.size, 0, none⟩ = some (.int .i64 a) := by rw [hX]; exact (x0)
  have xX1 : X.cell? ⟨w.heap.size, 1, none⟩ = some (.int .i64 m) := by rw [hX]; exact (x1)
  have xX2 : X.cell? ⟨w.heap.size, 2, none⟩ = some (.string t) := by rw [hX]; exact (x2)
  have xX3 : X.cell? ⟨w.heap.size, 3, none⟩ = some (.int .i64 z) := by rw [hX]; exact (x3)
  have xX4 : X.cell? ⟨L.b, 0, none⟩ = some (.slice (some ⟨L.bk, 0, none⟩) D.K L.ck) := by rw [hX]; exact (HN1.out.c0)
  have xX5 : X.cell? ⟨L.bk, a, none⟩ = some (.int .i64 kx) := by rw [hX]; exact (y1)
  have lX0 : w.heap.size < X.heap.size := by rw [hX]; exact (xl)
  have lX1 : L.b < X.heap.size := by rw [hX]; exact (HN1.out.lb)
  have lX2 : L.bk < X.heap.size := by rw [hX]; exact (HN1.out.lk)
  have bX : Below w.heap.size w X := by rw [hX]; exact (hb1).drew
  have HxX0 := Lib.hid xX0
  have HxX1 := Lib.hid xX1
  have HxX2 := Lib.hid xX2
  have HxX3 := Lib.hid xX3
  have HxX4 := Lib.hid xX4
  have HxX5 := Lib.hid xX5
  have HlX0 := Lib.hid lX0
  have HlX1 := Lib.hid lX1
  have HlX2 := Lib.hid lX2
  have HbX := Lib.hid bX
  have HhX := Lib.hid hX
  clear xX0 xX1 xX2 xX3 xX4 xX5 lX0 lX1 lX2 bX hX
  go_region_held3 (fun w' => w'.cell? ⟨w.heap.size, 0, none⟩ = some (.int .i64 a) ∧ w'.cell? ⟨w.heap.size, 1, none⟩ = some (.int .i64 m) ∧ w'.cell? ⟨w.heap.size, 2, none⟩ = some (.string t) ∧ w'.cell? ⟨w.heap.size, 3, none⟩ = some (.int .i64 z) ∧ w'.cell? ⟨L.b, 0, none⟩ = some (.slice (some ⟨L.bk, 0, none⟩) D.K L.ck) ∧ w'.cell? ⟨L.bk, a, none⟩ = some (.int .i64 kx) ∧ Below X.heap.size X w')
    (((try dsimp only); repeat' apply And.intro) <;> (first | (with_reducible assumption) | (go_split_ands; (with_reducible assumption)) | (rw [← HhX.out]; (first | exact Below.refl _ _ | exact HxX0.out | exact HxX1.out | exact HxX2.out | exact HxX3.out | exact HxX4.out | exact HxX5.out)) | go_keep))
    (first
      | ((try go_split_ands); go_at_call 12; refine Calls.mono (HR.out _ (HTX.out.below (by rw [HhX.out] at *; with_reducible assumption))) ?_; rintro e wq ⟨rfl, hb⟩; (try go_split_ands); have qB : Below X.heap.size X wq := (bX_more (by with_reducible assumption) hb); have m0 := bX_oldc qB HlX0.out HxX0.out; have m1 := bX_oldc qB HlX0.out HxX1.out; have m2 := bX_oldc qB HlX0.out HxX2.out; have m3 := bX_oldc qB HlX0.out HxX3.out; have m4 := bX_oldc qB HlX1.out HxX4.out; have m5 := bX_oldc qB HlX2.out HxX5.out; clear hb))
  all_goals
    have hbq : Below w.heap.size w wq := bX_back HbX.out qB
    clear qB
    go_wp2_with fail
    go_ret
    exact ⟨rfl, hbq⟩

/-- The world with four cells turned. -/
def set4 (w : World) (b o : Nat) (v0 v1 v2 v3 : Value) : World := (((w.setCell ⟨b, o, none⟩ v0).setCell ⟨b, o + 1, none⟩ v1).setCell ⟨b, o + 2, none⟩ v2).setCell ⟨b, o + 3, none⟩ v3
theorem set4_grown (w : World) (b o : Nat) (v0 v1 v2 v3 : Value) : w.grownBy (set4 w b o v0 v1 v2 v3) (some b) :=
  (((setCell_grown w b o v0).trans (setCell_grown _ b (o + 1) v1)).trans (setCell_grown _ b (o + 2) v2)).trans (setCell_grown _ b (o + 3) v3)
/-- What Put leaves of a right notice. -/
def putH (H : Nat → Nat → Int) (i a : Nat) (m : Int) (x y : Nat) : Int := if x = i ∧ y = a ∧ H i a < m then m else H x y
theorem NetW.put {D : NetD} {L : NetL} {base : Nat} {w : World} {H : Nat → Nat → Int} (h : NetW D L base w H) (i a : Nat) (m : Int) (hi : i < D.n) (ha : a < D.K) (hm : H i a < m) :
    NetW D L base (set4 w (L.hb i) (a * 4) (.int .i64 (ntA a m)) (.int .i64 m) (.string (ntT D m)) (.int .i64 (ntS D a m))) (putH H i a m) := by
  have hg := set4_grown w (L.hb i) (a * 4) (.int .i64 (ntA a m)) (.int .i64 m) (.string (ntT D m)) (.int .i64 (ntS D a m))
  have ne : ∀ {x y : Nat}, x ≠ y → some y ≠ some x := fun h e => h (Option.some.inj e).symm
  exact { h with
    c0 := (hg.cell_far ⟨L.b, 0, none⟩ h.lb (ne (h.ab i hi))).trans h.c0
    c1 := (hg.cell_far ⟨L.b, 1, none⟩ h.lb (ne (h.ab i hi))).trans h.c1
    c2 := (hg.cell_far ⟨L.b, 2, none⟩ h.lb (ne (h.ab i hi))).trans h.c2
    f2 := (hg.frozen_far ⟨L.b, 2, none⟩ h.lb (ne (h.ab i hi))).trans h.f2
    key := fun y hy => (hg.cell_far ⟨L.bk, y, none⟩ h.lk (ne (h.ak i hi))).trans (h.key y hy)
    near := fun x hx => (hg.cell_far ⟨L.bn, x, none⟩ h.ln (ne (h.an i hi))).trans (h.near x hx)
    nears := fun x hx j hj => (hg.cell_far ⟨L.nb x, j, none⟩ (h.lnb x hx) (ne (h.anb i hi x hx))).trans (h.nears x hx j hj)
    held := fun x hx => (hg.cell_far ⟨L.bh, x, none⟩ h.lh (ne (h.ah i hi))).trans (h.held x hx)
    row := fun x hx => by
      by_cases e : x = i
      · subst e
        refine ((h.row x hx).set4 a ha _ _ _ _).congr (fun y hy => ?_)
        show _ = ntc D (y / 4) (putH H x a m x (y / 4)) (y % 4)
        unfold putH
        by_cases e2 : y / 4 = a
        · rw [if_pos e2, e2, show (if x = x ∧ a = a ∧ H x a < m then m else H x a) = m from if_pos ⟨rfl, rfl, hm⟩]; exact ntc_if D a m _
        · rw [if_neg e2, show (if x = x ∧ y / 4 = a ∧ H x a < m then m else H x (y / 4)) = H x (y / 4) from if_neg (fun h => e2 h.2.1)]; rfl
      · refine ((h.row x hx).grown hg (ne (h.inj i hi x hx (Ne.symm e)))).congr (fun y hy => ?_)
        show _ = ntc D (y / 4) (putH H i a m x (y / 4)) (y % 4)
        unfold putH
        rw [show (if x = i ∧ y / 4 = a ∧ H i a < m then m else H x (y / 4)) = H x (y / 4) from if_neg (fun h => e h.1)]; rfl
    lb := Nat.lt_of_lt_of_le h.lb hg.size
    lk := Nat.lt_of_lt_of_le h.lk hg.size
    ln := Nat.lt_of_lt_of_le h.ln hg.size
    lnb := fun x hx => Nat.lt_of_lt_of_le (h.lnb x hx) hg.size
    lh := Nat.lt_of_lt_of_le h.lh hg.size }
theorem putH_none {H : Nat → Nat → Int} {i a : Nat} {m : Int} (h : ¬ H i a < m) (x y : Nat) : putH H i a m x y = H x y := by
  unfold putH; rw [if_neg (fun e => h e.2.2)]
def PutPost (D : NetD) (L : NetL) (base : Nat) (H : Nat → Nat → Int) (i a : Nat) (m : Int) (w : World) (e : Ending) (w' : World) : Prop :=
  e = .returned (.int .i64 (if H i a < m then 0 else 9)) ∧ NetW D L base w' (putH H i a m) ∧ w.grownBy w' (some (L.hb i))

set_option maxRecDepth 100000 in
set_option maxHeartbeats 8000000 in
theorem put_right (D : NetD) (L : NetL) (base : Nat) (H : Nat → Nat → Int) (i a : Nat) (m z : Int) (w : World) (ht : Tab w) (h : NetW D L base w H) (hi : i < D.n) (ha : a < D.K) (hK : D.K ≤ 8) (hk : 1 ≤ D.keys a ∧ D.keys a ≤ 1000000000) (hT : NtOk a m D.T z) (hz : z = sumAll (D.keys a) (ntL a m D.T)) (hS : D.S a m = z) (hH : 0 ≤ H i a) :
    Calls Tryd.prog 15 #[.pointer (some ⟨L.b, 0, none⟩), .int .i64 i, .agg #[.int .i64 a, .int .i64 m, .string D.T, .int .i64 z]] w (PutPost D L base H i a m w) := by
  have hm1 := hT.n0
  obtain ⟨t, htt⟩ : ∃ t, t = D.T := ⟨_, rfl⟩
  rw [← htt] at hT hz ⊢
  have HTT := Lib.hid htt; have HS := Lib.hid hS
  clear htt hS
  obtain ⟨k0, k1⟩ := hk
  have HN := Lib.hid h; have HT := Lib.hid ht; have HK := Lib.hid hT
  obtain ⟨kx, hkx⟩ : ∃ x, x = D.keys a := ⟨_, rfl⟩
  rw [← hkx] at k0 k1 hz
  have hrt : ∀ W, Tab W → Calls Tryd.prog 12 #[.int .i64 kx, .agg #[.int .i64 a, .int .i64 m, .string t, .int .i64 z]] W fun e w' => e = .returned (.tuple #[.bool true, .int .i64 0]) ∧ Below W.heap.size W w' := fun W hW =>
    (right_ok kx a m t z W hW hT k0 k1).mono fun e w' ⟨he, hb⟩ => ⟨by rw [he, beq_iff_eq.2 hz], hb⟩
  have HR := Lib.hid hrt; have HKX := Lib.hid hkx
  clear ht h hT hz hrt hkx
  have a0 : (0 : Int) ≤ (a : Int) := by omega
  have a1 : (a : Int) < (D.K : Int) := by omega
  go_enter Tryd.func15, Tryd.ntmps15
  go_wp2_with fail
  refine Calls.mono (isNode_ok (HN.out.below ((Below.refl w.heap.size w).alloc (Nat.le_refl _) _)) i hi) ?_
  rintro e _ ⟨rfl, rfl⟩
  go_wp2_with fail
  refine Calls.mono (check_ok _ _ _ _ _ HK.out) ?_
  rintro e w1 ⟨rfl, hb⟩
  have B0 := (NtBox.new w a m t z).below hb
  have b0 := (Below.refl w.heap.size w).alloc (Nat.le_refl _) (.cells #[.int .i64 a, .int .i64 m, .string t, .int .i64 z] 23)
  have hb1 := b0.trans (hb.mono b0.size)
  have N1 := HN.out.below hb1
  have HN1 := Lib.hid N1
  clear hb b0 N1
  have x0 := B0.c0; have x1 := B0.c1; have x2 := B0.c2; have x3 := B0.c3; have xf0 := B0.free 0; have xf1 := B0.free 1; have xf2 := B0.free 2; have xf3 := B0.free 3; have xl := B0.lt
  go_wp2_with fail
  refine Calls.mono (isAuthor_ok HN1.out a ha) ?_
  rintro e _ ⟨rfl, rfl⟩
  go_wp2_with fail
  have HBX0 := Lib.hid (show NtBox w1.drew w.heap.size a m t z from B0)
  have y1 := HN1.out.key a ha
  rw [← HKX.out] at y1
  have HTX := Lib.hid ((HT.out.below hb1).drew)
  obtain ⟨X, hX⟩ : ∃ X, X = (w1).drew := ⟨_, rfl⟩
  have xX0 : X.cell? ⟨w.heap.size, 0, none⟩ = some (.int .i64 a) := by rw [hX]; exact (x0)
  have xX1 : X.cell? ⟨w.heap.size, 1, none⟩ = some (.int .i64 m) := by rw [hX]; exact (x1)
  have xX2 : X.cell? ⟨w.heap.size, 2, none⟩ = some (.string t) := by rw [hX]; exact (x2)
  have xX3 : X.cell? ⟨w.heap.size, 3, none⟩ = some (.int .i64 z) := by rw [hX]; exact (x3)
  have xX4 : X.cell? ⟨L.b, 0, none⟩ = some (.slice (some ⟨L.bk, 0, none⟩) D.K L.ck) := by rw [hX]; exact (HN1.out.c0)
  have xX5 : X.cell? ⟨L.bk, a, none⟩ = some (.int .i64 kx) := by rw [hX]; exact (y1)
  have lX0 : w.heap.size < X.heap.size := by rw [hX]; exact (xl)
  have lX1 : L.b < X.heap.size := by rw [hX]; exact (HN1.out.lb)
  have lX2 : L.bk < X.heap.size := by rw [hX]; exact (HN1.out.lk)
  have bX : Below w.heap.size w X := by rw [hX]; exact (hb1).drew
  have HxX0 := Lib.hid xX0
  have HxX1 := Lib.hid xX1
  have HxX2 := Lib.hid xX2
  have HxX3 := Lib.hid xX3
  have HxX4 := Lib.hid xX4
  have HxX5 := Lib.hid xX5
  have HlX0 := Lib.hid lX0
  have HlX1 := Lib.hid lX1
  have HlX2 := Lib.hid lX2
  have HbX := Lib.hid bX
  have HhX := Lib.hid hX
  clear xX0 xX1 xX2 xX3 xX4 xX5 lX0 lX1 lX2 bX hX
  go_region_held3 (fun w' => w'.cell? ⟨w.heap.size, 0, none⟩ = some (.int .i64 a) ∧ w'.cell? ⟨w.heap.size, 1, none⟩ = some (.int .i64 m) ∧ w'.cell? ⟨w.heap.size, 2, none⟩ = some (.string t) ∧ w'.cell? ⟨w.heap.size, 3, none⟩ = some (.int .i64 z) ∧ w'.cell? ⟨L.b, 0, none⟩ = some (.slice (some ⟨L.bk, 0, none⟩) D.K L.ck) ∧ w'.cell? ⟨L.bk, a, none⟩ = some (.int .i64 kx) ∧ Below X.heap.size X w')
    (((try dsimp only); repeat' apply And.intro) <;> (first | (with_reducible assumption) | (go_split_ands; (with_reducible assumption)) | (rw [← HhX.out]; (first | exact Below.refl _ _ | exact HxX0.out | exact HxX1.out | exact HxX2.out | exact HxX3.out | exact HxX4.out | exact HxX5.out)) | go_keep))
    (first
      | ((try go_split_ands); go_at_call 12; refine Calls.mono (HR.out _ (HTX.out.below (by rw [HhX.out] at *; with_reducible assumption))) ?_; rintro e wq ⟨rfl, hb⟩; (try go_split_ands); have qB : Below X.heap.size X wq := (bX_more (by with_reducible assumption) hb); have m0 := bX_oldc qB HlX0.out HxX0.out; have m1 := bX_oldc qB HlX0.out HxX1.out; have m2 := bX_oldc qB HlX0.out HxX2.out; have m3 := bX_oldc qB HlX0.out HxX3.out; have m4 := bX_oldc qB HlX1.out HxX4.out; have m5 := bX_oldc qB HlX2.out HxX5.out; clear hb))
  all_goals
    have hbq : Below w.heap.size w wq := bX_back HbX.out qB
    have HQ0 := Lib.hid qB
    clear qB
    have NQ := HN.out.below hbq
    have Bq : NtBox wq w.heap.size a m t z := by
      have h1 : NtBox X w.heap.size a m t z := by rw [HhX.out]; exact HBX0.out
      exact h1.below HQ0.out
    have HNQ := Lib.hid NQ; have HBQ := Lib.hid Bq
    have c2 := NQ.c2
    have c3 := NQ.held i hi
    have hrow := NQ.row i hi
    obtain ⟨q, hq⟩ : ∃ q, q = L.hb i := ⟨_, rfl⟩
    obtain ⟨qc, hqc⟩ : ∃ q, q = L.hc i := ⟨_, rfl⟩
    rw [← hq, ← hqc] at c3
    rw [← hq] at hrow
    have r0 := hrow.cell (a * 4) (by omega)
    have r1 := hrow.cell (a * 4 + 1) (by omega)
    have r2 := hrow.cell (a * 4 + 2) (by omega)
    have r3 := hrow.cell (a * 4 + 3) (by omega)
    rw [show a * 4 = a * 4 + 0 from rfl, rowF_at _ _ _ _ (by omega)] at r0
    rw [rowF_at _ _ _ _ (by omega)] at r1 r2 r3
    simp only [ntc, ntF] at r0 r1 r2 r3
    simp at r0 r1 r2 r3
    obtain ⟨Y, hY⟩ : ∃ z, z = H i a := ⟨_, rfl⟩
    rw [← hY] at r0 r1 r2 r3 hH
    obtain ⟨ay, hay⟩ : ∃ v, v = ntA a Y := ⟨_, rfl⟩
    obtain ⟨ty, hty⟩ : ∃ v, v = ntT D Y := ⟨_, rfl⟩
    obtain ⟨sy, hsy⟩ : ∃ v, v = ntS D a Y := ⟨_, rfl⟩
    rw [← hay] at r0; rw [← hty] at r2; rw [← hsy] at r3
    have hst : m = Y → t = ty := fun e => by
      rw [hty, ← e, HTT.out]; unfold ntT; rw [if_neg (by omega)]
    have HST := Lib.hid hst; have HY := Lib.hid hY; have HQ := Lib.hid hq; have HROW := Lib.hid hrow
    have ql := hrow.lt
    have i0 : (0 : Int) ≤ (i : Int) := by omega
    have i1 : (i : Int) < (D.n : Int) := by omega
    have x0 := Bq.c0; have x1 := Bq.c1; have x2 := Bq.c2; have x3 := Bq.c3; have xf0 := Bq.free 0; have xf1 := Bq.free 1; have xf2 := Bq.free 2; have xf3 := Bq.free 3; have xl := Bq.lt
    have hne : w.heap.size ≠ q := by rw [hq]; exact fun e => by have := (HN.out.row i hi).lt; omega
    have hgr0 : w.grownBy wq (some q) := ⟨hbq.os, hbq.tape, hbq.output, hbq.size, fun k hk _ => hbq.block k hk⟩
    have HGR := Lib.hid hgr0
    clear hst hY hq hqc hay hty hsy hrow Bq NQ hgr0 hbq
    go_wp2_with fail
    go_quiet (fail)
    obtain ⟨W, hW⟩ : ∃ W, W = wq.drewN nq := ⟨_, rfl⟩
    have bWq : Below wq.heap.size wq W := by rw [hW]; exact below_drewN (Below.refl _ _) _
    have NW := Lib.hid (HNQ.out.below bWq)
    have GW : w.grownBy W (some q) := HGR.out.trans ⟨bWq.os, bWq.tape, bWq.output, bWq.size, fun k hk _ => bWq.block k hk⟩
    have HGW := Lib.hid GW
    have hz2 : ¬ m = 0 := by omega
    have Ym : (if H i a < m then (0 : Int) else 9) = if Y < m then 0 else 9 := by rw [HY.out]
    have HYM := Lib.hid Ym
    -- the end that stores
    have fin : ∀ W', Below W.heap.size W W' → H i a < m → NetW D L base (set4 W' q (a * 4) (.int .i64 a) (.int .i64 m) (.string t) (.int .i64 z)) (putH H i a m) ∧ w.grownBy (set4 W' q (a * 4) (.int .i64 a) (.int .i64 m) (.string t) (.int .i64 z)) (some (L.hb i)) := fun W' hb' hlt => by
      have P := (NW.out.below hb').put i a m hi ha hlt
      have e1 : ntA a m = (a : Int) := by unfold ntA; rw [if_neg hz2]
      have e2 : ntT D m = t := by unfold ntT; rw [if_neg hz2, HTT.out]
      have e3 : ntS D a m = z := by unfold ntS; rw [if_neg hz2, HS.out]
      rw [e1, e2, e3, ← HQ.out] at P
      rw [← HQ.out]
      exact ⟨P, (HGW.out.trans ⟨hb'.os, hb'.tape, hb'.output, hb'.size, fun k hk _ => hb'.block k hk⟩).trans (set4_grown W' q (a * 4) _ _ _ _)⟩
    have FIN := Lib.hid fin
    rw [← hW]
    have w0 := (bWq.cell (p := ⟨w.heap.size, 0, none⟩) xl).trans x0
    have w1' := (bWq.cell (p := ⟨w.heap.size, 1, none⟩) xl).trans x1
    have w2' := (bWq.cell (p := ⟨w.heap.size, 2, none⟩) xl).trans x2
    have w3' := (bWq.cell (p := ⟨w.heap.size, 3, none⟩) xl).trans x3
    have s0 := (bWq.cell (p := ⟨q, a * 4, none⟩) ql).trans r0
    have s1 := (bWq.cell (p := ⟨q, a * 4 + 1, none⟩) ql).trans r1
    have s2 := (bWq.cell (p := ⟨q, a * 4 + 2, none⟩) ql).trans r2
    have s3 := (bWq.cell (p := ⟨q, a * 4 + 3, none⟩) ql).trans r3
    have g0 := (bWq.frozen (p := ⟨q, a * 4, none⟩) ql).trans (HROW.out.free (a * 4) (by omega))
    have g1 := (bWq.frozen (p := ⟨q, a * 4 + 1, none⟩) ql).trans (HROW.out.free (a * 4 + 1) (by omega))
    have g2 := (bWq.frozen (p := ⟨q, a * 4 + 2, none⟩) ql).trans (HROW.out.free (a * 4 + 2) (by omega))
    have g3 := (bWq.frozen (p := ⟨q, a * 4 + 3, none⟩) ql).trans (HROW.out.free (a * 4 + 3) (by omega))
    have ql2 : q < W.heap.size := Nat.lt_of_lt_of_le ql bWq.size
    have xl2 : w.heap.size < W.heap.size := Nat.lt_of_lt_of_le xl bWq.size
    clear x0 xf0 x1 xf1 x2 xf2 x3 xf3 xl
    clear hW bWq GW Ym fin r0 r1 r2 r3 c2 c3 ql
    by_cases hY0 : Y = 0
    · subst hY0
      have d1 : decide ((0 : Int) < 0) = false := rfl
      go_wp2_with fail
      go_quiet (fail)
      go_wp2_with fail
      go_ret
      obtain ⟨f1, f2⟩ := FIN.out (W.drewN nq) (below_drewN (Below.refl _ _) _) (by rw [← HY.out]; omega)
      exact ⟨by rw [HYM.out, if_pos (by omega)]; rfl, f1, f2⟩
    · have y1 : 0 < Y := by omega
      have d1 : decide ((0 : Int) < Y) = true := decide_eq_true y1
      have hn := fun (W' : World) => newer_num (a : Int) m z ay Y sy t ty W' HST.out
      obtain ⟨bN, hbN⟩ : ∃ b, b = decide (Y < m) := ⟨_, rfl⟩
      rw [← hbN] at hn
      have HNEW := Lib.hid hn; have HBN := Lib.hid hbN
      clear hn hY0 hbN
      go_wp2_with fail
      obtain ⟨X, hX⟩ : ∃ X, X = (W).drew := ⟨_, rfl⟩
      have xX0 : X.cell? ⟨w.heap.size, 0, none⟩ = some (.int .i64 a) := by rw [hX]; exact (w0)
      have xX1 : X.cell? ⟨w.heap.size, 1, none⟩ = some (.int .i64 m) := by rw [hX]; exact (w1')
      have xX2 : X.cell? ⟨w.heap.size, 2, none⟩ = some (.string t) := by rw [hX]; exact (w2')
      have xX3 : X.cell? ⟨w.heap.size, 3, none⟩ = some (.int .i64 z) := by rw [hX]; exact (w3')
      have xX4 : X.cell? ⟨q, a * 4, none⟩ = some (.int .i64 ay) := by rw [hX]; exact (s0)
      have xX5 : X.cell? ⟨q, a * 4 + 1, none⟩ = some (.int .i64 Y) := by rw [hX]; exact (s1)
      have xX6 : X.cell? ⟨q, a * 4 + 2, none⟩ = some (.string ty) := by rw [hX]; exact (s2)
      have xX7 : X.cell? ⟨q, a * 4 + 3, none⟩ = some (.int .i64 sy) := by rw [hX]; exact (s3)
      have lX0 : w.heap.size < X.heap.size := by rw [hX]; exact (xl2)
      have lX1 : q < X.heap.size := by rw [hX]; exact (ql2)
      have HxX0 := Lib.hid xX0
      have HxX1 := Lib.hid xX1
      have HxX2 := Lib.hid xX2
      have HxX3 := Lib.hid xX3
      have HxX4 := Lib.hid xX4
      have HxX5 := Lib.hid xX5
      have HxX6 := Lib.hid xX6
      have HxX7 := Lib.hid xX7
      have HlX0 := Lib.hid lX0
      have HlX1 := Lib.hid lX1
      have HhX := Lib.hid hX
      clear xX0 xX1 xX2 xX3 xX4 xX5 xX6 xX7 lX0 lX1 hX
      go_region_held3 (fun w' => w'.cell? ⟨w.heap.size, 0, none⟩ = some (.int .i64 a) ∧ w'.cell? ⟨w.heap.size, 1, none⟩ = some (.int .i64 m) ∧ w'.cell? ⟨w.heap.size, 2, none⟩ = some (.string t) ∧ w'.cell? ⟨w.heap.size, 3, none⟩ = some (.int .i64 z) ∧ w'.cell? ⟨q, a * 4, none⟩ = some (.int .i64 ay) ∧ w'.cell? ⟨q, a * 4 + 1, none⟩ = some (.int .i64 Y) ∧ w'.cell? ⟨q, a * 4 + 2, none⟩ = some (.string ty) ∧ w'.cell? ⟨q, a * 4 + 3, none⟩ = some (.int .i64 sy) ∧ Below X.heap.size X w')
        (((try dsimp only); repeat' apply And.intro) <;> (first | (with_reducible assumption) | (go_split_ands; (with_reducible assumption)) | (rw [← HhX.out]; (first | exact Below.refl _ _ | exact HxX0.out | exact HxX1.out | exact HxX2.out | exact HxX3.out | exact HxX4.out | exact HxX5.out | exact HxX6.out | exact HxX7.out)) | go_keep))
        (first
          | (go_at_call 30; refine Calls.mono (HNEW.out _) ?_; rintro e wq ⟨rfl, hb⟩; (try go_split_ands); have qB : Below X.heap.size X wq := (bX_more (by with_reducible assumption) hb); have m0 := bX_oldc qB HlX0.out HxX0.out; have m1 := bX_oldc qB HlX0.out HxX1.out; have m2 := bX_oldc qB HlX0.out HxX2.out; have m3 := bX_oldc qB HlX0.out HxX3.out; have m4 := bX_oldc qB HlX1.out HxX4.out; have m5 := bX_oldc qB HlX1.out HxX5.out; have m6 := bX_oldc qB HlX1.out HxX6.out; have m7 := bX_oldc qB HlX1.out HxX7.out; clear hb))
      all_goals
        have gX : ∀ o, W.frozen? ⟨q, o, none⟩ = false → wq.frozen? ⟨q, o, none⟩ = false := fun o ho => bX_oldf qB (by rw [HhX.out]; exact ql2) (by rw [HhX.out]; exact ho)
        have t0 := gX _ g0; have t1 := gX _ g1; have t2 := gX _ g2; have t3 := gX _ g3
        have bq : Below W.heap.size W wq := by
          have q1 : Below W.heap.size W X := by rw [HhX.out]; exact (Below.refl _ _).drew
          exact q1.trans (qB.mono q1.size)
        have HBQ2 := Lib.hid bq
        clear gX qB bq w0 w1' w2' w3' s0 s1 s2 s3 g0 g1 g2 g3
        cases bN
        · go_wp2_with fail
          go_ret
          have hlt : ¬ Y < m := of_decide_eq_false HBN.out.symm
          refine ⟨by rw [HYM.out, if_neg hlt]; rfl, ?_, ?_⟩
          · exact (NW.out.below HBQ2.out).congr (fun x _ y _ => (putH_none (by rw [← HY.out]; exact hlt) x y).symm)
          · rw [← HQ.out]
            exact HGW.out.trans ⟨HBQ2.out.os, HBQ2.out.tape, HBQ2.out.output, HBQ2.out.size, fun k hk _ => HBQ2.out.block k hk⟩
        · go_wp2_with fail
          go_ret
          have hlt : Y < m := of_decide_eq_true HBN.out.symm
          obtain ⟨f1, f2⟩ := FIN.out wq HBQ2.out (by rw [← HY.out]; exact hlt)
          exact ⟨by rw [HYM.out, if_pos hlt]; rfl, f1, f2⟩

end Go.Proofs.YtocdboopmfgkpaaDoor
