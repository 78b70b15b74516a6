/- figure.Mapped by a quarter turn. -/
import Derived.Test.YtdifeoahaegjbaaGreatDoorTMap1
import Derived.Deep.DeepCutAuto
namespace Go.Proofs.YtdifeoahaegjbaaGreatDoor
open Go.RowKit
set_option linter.unusedSimpArgs false
set_option linter.unusedVariables false

def turnM : Nat → Int
  | 1 => -1
  | 3 => 1
  | _ => 0
theorem turnM_ok (j : Nat) : FrOk (turnM j) 1 := by
  unfold turnM
  split <;> exact frOk_one (by omega) (by omega)
/-- The numbers of the turned points. -/
abbrev turnZ (zs : List Int) (n : Nat) : List Int := pt4 (fun i => -(ix zs (i * 4 + 2))) (fun i => ix zs (i * 4 + 3)) (fun i => ix zs (i * 4)) (fun i => ix zs (i * 4 + 1)) n
/-- A figure in rows of a call's own. -/
structure FigO (w : World) (lo : Nat) (A : Option Addr) (n c : Nat) (zs : List Int) (B : Option Addr) (m bc : Nat) : Prop where
  own : w.ownsRow lo 33 4 (.slice A n c) n (zs.map (Value.int .i64))
  lin : LinN w lo (.slice B m bc) m
  n12 : n ≤ 12
  fx : ∀ i, i < n → FrP (ix zs (i * 4)) (ix zs (i * 4 + 1))
  fy : ∀ i, i < n → FrP (ix zs (i * 4 + 2)) (ix zs (i * 4 + 3))
  mm : m = n - 1
theorem FigO.set {w : World} {lo : Nat} {A : Option Addr} {n c : Nat} {zs : List Int} {B : Option Addr} {m bc b o : Nat} (h : FigO w lo A n c zs B m bc) (hb : b < lo) (x : Value) : FigO (w.setCell ⟨b, o, none⟩ x) lo A n c zs B m bc :=
  ⟨own_set h.own hb, h.lin.set hb, h.n12, h.fx, h.fy, h.mm⟩
def TurnPost (n m : Nat) (zs : List Int) (w : World) (e : Ending) (w' : World) : Prop :=
  ∃ A c B bc lo, e = .returned (.tuple #[.agg #[.slice A n c, .slice B m bc], .int .i64 0]) ∧ w.heap.size ≤ lo ∧ FigO w' lo A n c zs B m bc ∧ Below w.heap.size w w'
theorem turn_fr {w : World} {A : Option Addr} {n c : Nat} {zs : List Int} {B : Option Addr} {m bc : Nat} (h : FigN w A n c zs B m bc) : ∀ t, t < n → FrP (ix (turnZ zs n) (t * 4)) (ix (turnZ zs n) (t * 4 + 1)) ∧ FrP (ix (turnZ zs n) (t * 4 + 2)) (ix (turnZ zs n) (t * 4 + 3)) := by
  intro t ht
  obtain ⟨e0, e1, e2, e3⟩ := pt4_at (fun i => -(ix zs (i * 4 + 2))) (fun i => ix zs (i * 4 + 3)) (fun i => ix zs (i * 4)) (fun i => ix zs (i * 4 + 1)) n t ht
  rw [e0, e1, e2, e3]
  exact ⟨(h.fy t ht).neg, h.fx t ht⟩
theorem own_ne {w : World} {lo lo' sz sz' n n' : Nat} {v v' : Value} {xs xs' : List Value} {e e' : TypeId} (h : w.ownsRow lo e sz v n xs) (h' : w.ownsRow lo' e' sz' v' n' xs') (hne : e ≠ e') : v.ownBlock = none ∨ v.ownBlock ≠ v'.ownBlock := by
  rcases h.2 with ⟨rfl, _⟩ | ⟨g, cap, cur, rfl, _, hg, _⟩
  · exact .inl rfl
  · refine .inr (fun e0 => ?_)
    rcases h'.2 with ⟨rfl, _⟩ | ⟨g', cap', cur', rfl, _, hg', _⟩
    · cases e0
    · have : g = g' := by simpa [Value.ownBlock] using e0
      rw [this, hg'] at hg
      injection hg with hg; injection hg with _ hg _
      exact hne hg.symm
theorem LinN.grownN {w w' : World} {lo m : Nat} {u : Value} (h : LinN w lo u m) (hg : w.grownBy w' none) : LinN w' lo u m := by
  obtain ⟨vs, h1, h2⟩ := h
  refine ⟨vs, h1.kept hg (by cases hv : u.ownBlock <;> simp), fun j hj => ?_⟩
  obtain ⟨v, h3, h4⟩ := h2 j hj
  refine ⟨v, h3, h4.of_block (fun g gc hgc => ?_)⟩
  obtain ⟨g', gc', e1, _, _, e4, _⟩ := h4
  rw [e1] at hgc; injection hgc with e5 _ _; injection e5 with e5; injection e5 with e6
  subst e6
  exact hg.block g' (cell_lt e4) (by simp)
theorem line_of {w : World} {lo g gc l : Nat} (h : w.ownsRow lo 3 1 (.slice (some ⟨g, 0, none⟩) 2 gc) 2 [.int .i64 (l : Int), .int .i64 ((l : Int) + 1)]) : LineAt w lo (.slice (some ⟨g, 0, none⟩) 2 gc) l :=
  ⟨g, gc, rfl, own_cap' h, (h.lt g rfl).1, by have := h.cellAt 0 (by simp); simpa using this, by have := h.cellAt 1 (by simp); simpa using this⟩
theorem LinN.lines {w : World} {lo m bc : Nat} {B : Option Addr} (h : LinN w lo (.slice B m bc) m) : 0 < m → ∃ b, B = some ⟨b, 0, none⟩ ∧ ∀ j, j < m → ∃ g gc, w.cell? ⟨b, j, none⟩ = some (.slice (some ⟨g, 0, none⟩) 2 gc) ∧ 2 ≤ gc ∧ w.cell? ⟨g, 0, none⟩ = some (.int .i64 (j : Int)) ∧ w.cell? ⟨g, 1, none⟩ = some (.int .i64 ((j : Int) + 1)) := by
  obtain ⟨B', bc', e, _, hl⟩ := h.fig
  injection e with e1 _ e3
  subst e1
  exact hl
theorem FigO.fig {w : World} {lo : Nat} {A : Option Addr} {n c : Nat} {zs : List Int} {B : Option Addr} {m bc : Nat} (h : FigO w lo A n c zs B m bc) : FigN w A n c zs B m bc := by
  obtain ⟨B', bc', e, hbm, _⟩ := h.lin.fig
  injection e with e1 _ e3
  exact ⟨own_flat_of h.own, h.n12, h.fx, h.fy, h.mm, by omega, h.lin.lines⟩

set_option maxRecDepth 100000 in
set_option maxHeartbeats 16000000 in
theorem fTurned_ok (A : Option Addr) (n c : Nat) (zs : List Int) (B : Option Addr) (m bc : Nat) (M : Nat → Int) (w : World) (h : FigN w A n c zs B m bc) (hM : ∀ j, j < 6 → M j = turnM j) :
    Calls Tryz.prog 8 #[.agg #[.slice A n c, .slice B m bc], mxV M] w (TurnPost n m (turnZ zs n) w) := by
  obtain ⟨iP, hP0, hP1, hP2, hP3⟩ := info_parts infoPt
  obtain ⟨iR, hR0, hR1, hR2, hR3⟩ := info_parts infoRw
  obtain ⟨iI, hI0, hI1, hI2, hI3⟩ := info_parts infoIn
  have n60 := h.n12; have m1 := Lib.hid h.mm
  have H := Lib.hid h; have HM0 := Lib.hid hM; have HM := Lib.hid (fun j hj => show FrOk (M j) 1 by rw [hM j hj]; exact turnM_ok j)
  have HI := Lib.hid (fun j (hj : j < 6) => index6 M j hj)
  have hB0 : MB (((w.alloc (.cells #[.slice A n c, .slice B m bc] 28)).alloc (.cells #[.int .i64 (M 0), .int .i64 1, .int .i64 (M 1), .int .i64 1, .int .i64 (M 2), .int .i64 1, .int .i64 (M 3), .int .i64 1, .int .i64 (M 4), .int .i64 1, .int .i64 (M 5), .int .i64 1] 39)).alloc (.cells #[.slice none 0 0, .slice none 0 0] 28)) w.heap.size (.slice A n c) (.slice B m bc) M := by
    have h1 := ((FgBox.new w (.slice A n c) (.slice B m bc)).alloc (.cells #[.int .i64 (M 0), .int .i64 1, .int .i64 (M 1), .int .i64 1, .int .i64 (M 2), .int .i64 1, .int .i64 (M 3), .int .i64 1, .int .i64 (M 4), .int .i64 1, .int .i64 (M 5), .int .i64 1] 39)).alloc (.cells #[.slice none 0 0, .slice none 0 0] 28)
    have h2 := (MxBox.new (w.alloc (.cells #[.slice A n c, .slice B m bc] 28)) M).alloc (.cells #[.slice none 0 0, .slice none 0 0] 28)
    have h3 := FgBox.new ((w.alloc (.cells #[.slice A n c, .slice B m bc] 28)).alloc (.cells #[.int .i64 (M 0), .int .i64 1, .int .i64 (M 1), .int .i64 1, .int .i64 (M 2), .int .i64 1, .int .i64 (M 3), .int .i64 1, .int .i64 (M 4), .int .i64 1, .int .i64 (M 5), .int .i64 1] 39)) (.slice none 0 0) (.slice none 0 0)
    simp only [World.size_alloc] at h2 h3
    exact ⟨h1, h2, h3⟩
  have hb0 := (((Below.refl w.heap.size w).alloc (Nat.le_refl _) (.cells #[.slice A n c, .slice B m bc] 28)).alloc (by simp) (.cells #[.int .i64 (M 0), .int .i64 1, .int .i64 (M 1), .int .i64 1, .int .i64 (M 2), .int .i64 1, .int .i64 (M 3), .int .i64 1, .int .i64 (M 4), .int .i64 1, .int .i64 (M 5), .int .i64 1] 39)).alloc (by simp; omega) (.cells #[.slice none 0 0, .slice none 0 0] 28)
  obtain ⟨W, hW⟩ : ∃ W, W = (((w.alloc (.cells #[.slice A n c, .slice B m bc] 28)).alloc (.cells #[.int .i64 (M 0), .int .i64 1, .int .i64 (M 1), .int .i64 1, .int .i64 (M 2), .int .i64 1, .int .i64 (M 3), .int .i64 1, .int .i64 (M 4), .int .i64 1, .int .i64 (M 5), .int .i64 1] 39)).alloc (.cells #[.slice none 0 0, .slice none 0 0] 28)) := ⟨_, rfl⟩
  rw [← hW] at hB0 hb0
  have HB0 := Lib.hid hB0; have Hb0 := Lib.hid hb0; have HW := Lib.hid hW
  clear h hM hB0 hb0 hW
  unfold mxV
  go_enter Tryz.func8, Tryz.ntmps8
  go_upto_region 1 with fail
  rw [← HW.out]
  clear HW
  obtain ⟨k, hk⟩ : ∃ k, k = w.heap.size := ⟨_, rfl⟩
  rw [← hk] at HB0 ⊢
  have HK := Lib.hid hk
  clear hk
  have x0 := HB0.out.f.c0; have x1 := HB0.out.f.c1; have xl := HB0.out.f.lt
  go_wp2_with fail
  refine Calls.mono (figCheckN_ok A n c zs B m bc _ (H.out.below Hb0.out)) ?_
  rintro e w1 ⟨rfl, hb⟩
  have HB1 := Lib.hid (HB0.out.below hb)
  have Hb1 := Lib.hid (Hb0.out.trans (hb.mono Hb0.out.size))
  clear hb x0 x1 xl HB0 Hb0
  have y0 := HB1.out.m.num 0 (by omega); have y1 := HB1.out.m.den 0 (by omega); have y2 := HB1.out.m.num 1 (by omega); have y3 := HB1.out.m.den 1 (by omega); have y4 := HB1.out.m.num 2 (by omega); have y5 := HB1.out.m.den 2 (by omega)
  have y6 := HB1.out.m.num 3 (by omega); have y7 := HB1.out.m.den 3 (by omega); have y8 := HB1.out.m.num 4 (by omega); have y9 := HB1.out.m.den 4 (by omega); have y10 := HB1.out.m.num 5 (by omega); have y11 := HB1.out.m.den 5 (by omega)
  simp only [Nat.zero_mul, Nat.zero_add, Nat.reduceMul, Nat.reduceAdd] at y0 y1 y2 y3 y4 y5 y6 y7 y8 y9 y10 y11
  go_wp2_with fail
  clear y0 y1 y2 y3 y4 y5 y6 y7 y8 y9 y10 y11
  go_loopw [25] (fun j' wv => ∃ j : Nat, j ≤ 6 ∧ j' = .int .i64 j ∧ MB wv k (.slice A n c) (.slice B m bc) M ∧ Below w.heap.size w wv) (fun j' _ => 6 - (intOf j').toNat)
  case atStart => exact ⟨0, by omega, rfl, HB1.out, Hb1.out⟩
  case round =>
    clear HB1 Hb1
    obtain ⟨j, hj, rfl, hB, hb⟩ := hrel
    have HB1 := Lib.hid hB; have Hb1 := Lib.hid hb
    clear hB hb
    by_cases hj6 : j < 6
    · have j0 : (0 : Int) ≤ (j : Int) := by omega
      have j1 : (j : Int) < 6 := by omega
      have hj0 := HI.out j hj6
      unfold mxV at hj0
      go_wp2_with fail
      refine Calls.mono (fcheck_ok (M j) 1 _ (HM.out j hj6)) ?_
      rintro e w2 ⟨rfl, hb⟩
      have HB2 := Lib.hid ((HB1.out.below ((Below.refl _ _).alloc (Nat.le_refl _) (.cells #[.int .i64 (M j), .int .i64 1] 30))).below hb)
      have hb1 := Hb1.out.alloc Hb1.out.size (.cells #[.int .i64 (M j), .int .i64 1] 30)
      have Hb2 := Lib.hid (hb1.trans (hb.mono hb1.size))
      clear hb hb1 hj0
      go_wp2_with fail
      go_roundw
      case rel => exact ⟨j + 1, by omega, by go_num, HB2.out, Hb2.out⟩
      case measure => simp [intOf]; omega
    · have j1 : ¬ (j : Int) < 6 := by omega
      have x0 := HB1.out.f.c0; have xl := HB1.out.f.lt
      have hsz := Hb1.out.size
      have kl := HB1.out.r.lt
      go_wp2_with fail
      obtain ⟨ko, hko⟩ : ∃ b, b = wr.heap.size := ⟨_, rfl⟩
      obtain ⟨V, hV⟩ : ∃ V, V = wr.alloc (.cells #[.slice none 0 0, .slice none 0 0] 28) := ⟨_, rfl⟩
      have bV : Below wr.heap.size wr V := by rw [hV]; exact (Below.refl _ _).alloc (Nat.le_refl _) _
      have hO := FgBox.new wr (.slice none 0 0) (.slice none 0 0)
      have szV : ko + 1 = V.heap.size := by rw [hV, hko]; simp
      rw [← hV, ← hko] at hO ⊢
      have HBV := Lib.hid (HB1.out.below bV)
      have HbV := Lib.hid (Hb1.out.trans (bV.mono Hb1.out.size))
      have HO := Lib.hid hO
      have kko : k + 1 + 1 < ko := by omega
      have kw : w.heap.size ≤ ko := by omega
      clear x0 xl hO bV hko hV HB1 Hb1 hsz kl
      go_loopw [38] (fun i' wv => ∃ (i : Nat) (v : Value), i ≤ n ∧ i' = .int .i64 i ∧ wv.ownsRow (ko + 1) 33 4 v i ((turnZ zs i).map (Value.int .i64)) ∧ MB wv k (.slice A n c) (.slice B m bc) M ∧ FgBox wv ko v (.slice none 0 0) ∧ ko + 1 ≤ wv.heap.size ∧ Below w.heap.size w wv) (fun i' _ => n - (intOf i').toNat)
      case atStart => exact ⟨0, .slice none 0 0, by omega, rfl, World.ownsRow_nil _ _ _ _, HBV.out, HO.out, by omega, HbV.out⟩
      case round =>
        clear HBV HbV HO szV
        obtain ⟨i, v, hi, rfl, hown, hB, hO, hsz, hb⟩ := hrel
        have HW := Lib.hid hown; have HB := Lib.hid hB; have HO := Lib.hid hO; have Hb := Lib.hid hb
        clear hown hB hO hb
        by_cases hin : i < n
        · have i0 : (0 : Int) ≤ (i : Int) := by omega
          have i1 : (i : Int) < (n : Int) := by omega
          obtain ⟨q, o, hA, hc⟩ := (H.out.below Hb.out).pts.at' (by omega)
          have x0 := hc (i * 4) (by omega)
          have x1 := hc (i * 4 + 1) (by omega)
          have x2 := hc (i * 4 + 2) (by omega)
          have x3 := hc (i * 4 + 3) (by omega)
          rw [← Nat.add_assoc] at x1 x2 x3
          subst hA
          have fx := H.out.fx i hin; have fy := H.out.fy i hin
          have htz : turnZ zs (i + 1) = turnZ zs i ++ [-(ix zs (i * 4 + 2)), ix zs (i * 4 + 3), ix zs (i * 4), ix zs (i * 4 + 1)] := rfl
          obtain ⟨px, ha⟩ : ∃ a, a = ix zs (i * 4) := ⟨_, rfl⟩
          obtain ⟨pd, hd⟩ : ∃ a, a = ix zs (i * 4 + 1) := ⟨_, rfl⟩
          obtain ⟨py, he⟩ : ∃ a, a = ix zs (i * 4 + 2) := ⟨_, rfl⟩
          obtain ⟨qd, hf⟩ : ∃ a, a = ix zs (i * 4 + 3) := ⟨_, rfl⟩
          rw [← ha] at x0 fx htz; rw [← hd] at x1 fx htz; rw [← he] at x2 fy htz; rw [← hf] at x3 fy htz
          have HFX := Lib.hid fx; have HFY := Lib.hid fy; have HTZ := Lib.hid htz
          clear hc ha hd he hf fx fy htz
          have HP := Lib.hid (PtBox.new wr px pd py qd)
          have HB2 := Lib.hid (HB.out.below ((Below.refl wr.heap.size wr).alloc (Nat.le_refl _) (.cells #[.int .i64 px, .int .i64 pd, .int .i64 py, .int .i64 qd] 33)))
          have HO2 := Lib.hid (HO.out.alloc (.cells #[.int .i64 px, .int .i64 pd, .int .i64 py, .int .i64 qd] 33))
          have Hb2 := Lib.hid (Hb.out.alloc Hb.out.size (.cells #[.int .i64 px, .int .i64 pd, .int .i64 py, .int .i64 qd] 33))
          have HW2 := Lib.hid (own_below HW.out ((Below.refl wr.heap.size wr).alloc (Nat.le_refl _) (.cells #[.int .i64 px, .int .i64 pd, .int .i64 py, .int .i64 qd] 33)))
          go_upto_region 15 with fail
          obtain ⟨kp, hkp⟩ : ∃ b, b = wr.heap.size := ⟨_, rfl⟩
          obtain ⟨U, hU⟩ : ∃ U, U = wr.alloc (.cells #[.int .i64 px, .int .i64 pd, .int .i64 py, .int .i64 qd] 33) := ⟨_, rfl⟩
          have szU : ko + 1 ≤ U.heap.size := by rw [hU]; simp; omega
          rw [← hU, ← hkp] at HP ⊢
          rw [← hU] at HB2 HO2 Hb2 HW2
          clear hkp hU x0 x1 x2 x3 HB HO Hb HW hsz
          have y0 := HB2.out.m.num 0 (by omega); have y1 := HB2.out.m.den 0 (by omega); have y2 := HB2.out.m.num 1 (by omega); have y3 := HB2.out.m.den 1 (by omega); have y4 := HB2.out.m.num 2 (by omega); have y5 := HB2.out.m.den 2 (by omega); have yl := HB2.out.m.lt
          simp only [Nat.zero_mul, Nat.zero_add, Nat.reduceMul, Nat.reduceAdd] at y0 y1 y2 y3 y4 y5
          have x0 := HP.out.c0; have x1 := HP.out.c1; have x2 := HP.out.c2; have x3 := HP.out.c3; have xl := HP.out.lt
          obtain ⟨rx, hrx⟩ : ∃ r, r = -py := ⟨_, rfl⟩
          have H1 := Lib.hid (fun W => show Calls Tryz.prog 21 #[.agg #[.int .i64 px, .int .i64 pd, .int .i64 py, .int .i64 qd], .agg #[.int .i64 (M 0), .int .i64 1], .agg #[.int .i64 (M 1), .int .i64 1], .agg #[.int .i64 (M 2), .int .i64 1]] W fun e w' => e = .returned (.tuple #[.agg #[.int .i64 rx, .int .i64 qd], .int .i64 0]) ∧ Below W.heap.size W w' by
            rw [HM0.out 0 (by omega), HM0.out 1 (by omega), HM0.out 2 (by omega), hrx]; exact turn_x px pd py qd W HFX.out HFY.out)
          have H2 := Lib.hid (fun W => show Calls Tryz.prog 21 #[.agg #[.int .i64 px, .int .i64 pd, .int .i64 py, .int .i64 qd], .agg #[.int .i64 (M 3), .int .i64 1], .agg #[.int .i64 (M 4), .int .i64 1], .agg #[.int .i64 (M 5), .int .i64 1]] W fun e w' => e = .returned (.tuple #[.agg #[.int .i64 px, .int .i64 pd], .int .i64 0]) ∧ Below W.heap.size W w' by
            rw [HM0.out 3 (by omega), HM0.out 4 (by omega), HM0.out 5 (by omega)]; exact turn_y px pd py qd W HFX.out HFY.out)
          have HRX := Lib.hid hrx
          clear hrx
          go_wp2_with fail
          refine Calls.mono (H1.out _) ?_
          rintro e w2 ⟨rfl, hb⟩
          clear x0 x1 x2 x3 xl y0 y1 y2 y3 y4 y5 yl
          have bf := (Below.refl w2.heap.size w2).alloc (Nat.le_refl _) (.cells #[.int .i64 rx, .int .i64 qd] 30)
          have hbf := hb.trans (bf.mono hb.size)
          have HP3 := Lib.hid (HP.out.below hbf)
          have HB3 := Lib.hid (HB2.out.below hbf)
          have HO3 := Lib.hid (HO2.out.below hbf)
          have Hb3 := Lib.hid (Hb2.out.trans (hbf.mono Hb2.out.size))
          have HW3 := Lib.hid (own_below HW2.out hbf)
          have HF3 := Lib.hid (FrBox.new w2 rx qd)
          have szw := hbf.size
          go_upto_region 18 with fail
          obtain ⟨kx, hkx⟩ : ∃ b, b = w2.heap.size := ⟨_, rfl⟩
          obtain ⟨U3, hU⟩ : ∃ U, U = w2.alloc (.cells #[.int .i64 rx, .int .i64 qd] 30) := ⟨_, rfl⟩
          rw [← hU] at szw
          have szU3 : ko + 1 ≤ U3.heap.size := Nat.le_trans szU szw
          rw [← hU, ← hkx] at HF3 ⊢
          rw [← hU] at HP3 HB3 HO3 Hb3 HW3
          clear hkx hU HP HB2 HO2 Hb2 HW2 hb bf hbf szw szU H1
          have y0 := HB3.out.m.num 3 (by omega); have y1 := HB3.out.m.den 3 (by omega); have y2 := HB3.out.m.num 4 (by omega); have y3 := HB3.out.m.den 4 (by omega); have y4 := HB3.out.m.num 5 (by omega); have y5 := HB3.out.m.den 5 (by omega); have yl := HB3.out.m.lt
          simp only [Nat.zero_mul, Nat.zero_add, Nat.reduceMul, Nat.reduceAdd] at y0 y1 y2 y3 y4 y5
          have x0 := HP3.out.c0; have x1 := HP3.out.c1; have x2 := HP3.out.c2; have x3 := HP3.out.c3; have xl := HP3.out.lt
          go_wp2_with fail
          refine Calls.mono (H2.out _) ?_
          rintro e w4 ⟨rfl, hb⟩
          clear x0 x1 x2 x3 xl y0 y1 y2 y3 y4 y5 yl
          have bf := (Below.refl w4.heap.size w4).alloc (Nat.le_refl _) (.cells #[.int .i64 px, .int .i64 pd] 30)
          have hbf := hb.trans (bf.mono hb.size)
          have HB4 := Lib.hid (HB3.out.below hbf)
          have HO4 := Lib.hid (HO3.out.below hbf)
          have Hb4 := Lib.hid (Hb3.out.trans (hbf.mono Hb3.out.size))
          have HW4 := Lib.hid (own_below HW3.out hbf)
          have HF4 := Lib.hid (HF3.out.below hbf)
          have HG4 := Lib.hid (FrBox.new w4 px pd)
          have szw := hbf.size
          go_upto_region 21 with fail
          obtain ⟨ky, hky⟩ : ∃ b, b = w4.heap.size := ⟨_, rfl⟩
          obtain ⟨U4, hU⟩ : ∃ U, U = w4.alloc (.cells #[.int .i64 px, .int .i64 pd] 30) := ⟨_, rfl⟩
          rw [← hU] at szw
          have szU4 : ko + 1 ≤ U4.heap.size := Nat.le_trans szU3 szw
          rw [← hU, ← hky] at HG4 ⊢
          rw [← hU] at HB4 HO4 Hb4 HW4 HF4
          clear hky hU HP3 HB3 HO3 Hb3 HW3 HF3 hb bf hbf szw szU3 H2
          have x0 := HF4.out.c0; have x1 := HF4.out.c1; have xl := HF4.out.lt; have y0 := HG4.out.c0; have y1 := HG4.out.c1; have yl := HG4.out.lt
          have o0 := HO4.out.c0; have ol := HO4.out.lt
          have hown := HW4.out
          go_wp2_with (at_builtin; refine wpList_append_own _ rfl _ _ 25 rfl (ko + 1) 33 iP _ 4 32 Tryz.underlying25 hP0 hP1 hP2 hP3 rfl (by decide) _ _ _ rfl (hown.alloc _) ⟨U4.heap.size, 0, none⟩ 1 1 [.int .i64 rx, .int .i64 qd, .int .i64 px, .int .i64 pd] rfl rfl ?c1 ?c2 ?c3 ?c4 ?c5 ?_)
          case c1 => exact cells_four
          case c2 => simp [Value.oneCell']
          case c3 => unfold maxLen; omega
          case c4 => omega
          case c5 => simp; omega
          · intro v' Z hown' hgr hat
            have hlo : ∀ q, v.ownBlock = some q → ko + 1 ≤ q := fun q hq => (hown.lt q hq).1
            obtain ⟨g, gc, hv', _, _⟩ := hown'.form (by omega)
            subst hv'
            have bf := (Below.refl U4.heap.size U4).alloc (Nat.le_refl _) (.cells #[.int .i64 rx, .int .i64 qd, .int .i64 px, .int .i64 pd] 33)
            have szf := bf.size
            have HB5 := Lib.hid ((HB4.out.below bf).grown hgr (fun q hq => by have := hlo q hq; omega))
            have ho5 := (HO4.out.below bf).grown hgr (fun e => by have := hlo _ e.symm; omega)
            have hb5 := Hb4.out.trans (bf.mono Hb4.out.size)
            have HO5 := Lib.hid ho5
            have Hb5 := Lib.hid (below_grow hb5 (Nat.le_refl _) hgr (fun q hq => by have := hlo q hq; omega))
            have szZ : ko + 1 ≤ Z.heap.size := Nat.le_trans (Nat.le_trans szU4 szf) hgr.size
            have HW5 := Lib.hid (show Z.ownsRow (ko + 1) 33 4 (.slice (some ⟨g, 0, none⟩) (i + 1) gc) (i + 1) ((turnZ zs (i + 1)).map (Value.int .i64)) from by
              rw [HTZ.out, ← HRX.out, List.map_append]
              exact hown')
            clear hown hown' hgr hat hlo bf szf ho5 hb5 x0 x1 xl y0 y1 yl o0 ol HB4 HO4 Hb4 HW4
            have o0 := HO5.out.c0; have of := HO5.out.free 0; have ol := HO5.out.lt
            go_wp2_with fail
            go_roundw
            case rel => exact ⟨i + 1, _, by omega, by go_num, own_set HW5.out (by omega), HB5.out.grown (setCell_grown _ _ _ _) (fun q hq => by have := Option.some.inj hq; omega), HO5.out.set0 _, by simpa using szZ, Hb5.out.setCell (p := ⟨ko, 0, none⟩) (by show w.heap.size ≤ ko; omega) _⟩
            case measure => simp [intOf]; omega
        · obtain rfl : i = n := by omega
          have x1 := HB.out.f.c1; have xl := HB.out.f.lt
          obtain ⟨A', c', rfl, hfl⟩ := own_flat HW.out
          clear hfl
          go_wp2_with fail
          clear x1 xl
          go_loopw [84] (fun j' wv => ∃ (j : Nat) (u : Value), j ≤ m ∧ j' = .int .i64 j ∧ LinN wv (ko + 1) u j ∧ wv.ownsRow (ko + 1) 33 4 (.slice A' i c') i ((turnZ zs i).map (Value.int .i64)) ∧ MB wv k (.slice A i c) (.slice B m bc) M ∧ FgBox wv ko (.slice A' i c') u ∧ ko + 1 ≤ wv.heap.size ∧ Below w.heap.size w wv) (fun j' _ => m - (intOf j').toNat)
          case atStart => exact ⟨0, .slice none 0 0, by omega, rfl, LinN.nil _ _, HW.out, HB.out, HO.out, hsz, Hb.out⟩
          case round =>
            clear HB HO Hb HW hsz
            obtain ⟨l, u, hl, rfl, hlin, hown, hB, hO, hsz, hb⟩ := hrel
            have HL := Lib.hid hlin; have HW := Lib.hid hown; have HB := Lib.hid hB; have HO := Lib.hid hO; have Hb := Lib.hid hb
            clear hlin hown hB hO hb
            by_cases hlm : l < m
            · have hmb := H.out.mb
              obtain ⟨b, hBB, hln⟩ := (H.out.below Hb.out).lin (by omega)
              obtain ⟨g, gc, y0, hgc, y1, y2⟩ := hln l hlm
              subst hBB
              have HY1 := Lib.hid y1; have HY2 := Lib.hid y2
              clear y1 y2 hln
              have b0 : (l : Int) < (m : Int) := by omega
              have b1 : (0 : Int) ≤ (l : Int) := by omega
              have b2 : (l : Int) < (bc : Int) := by omega
              have l12 : l < 12 := by have := m1.out; omega
              go_wp2_with fail
              obtain ⟨X0, hX⟩ : ∃ X, X = wr.drew := ⟨_, rfl⟩
              have bX : Below wr.heap.size wr X0 := by rw [hX]; exact (Below.refl _ _).drew
              have HOX := Lib.hid (HO.out.below bX)
              refine wp_region_G [(7, fun w' => w'.cell? ⟨ko, 1, none⟩ = some u)] (by kernel_rfl) (heldC_one (fun _ => by rw [← hX]; exact HOX.out.c1)) (fun hF => ?_)
              rw [← hX] at hF ⊢
              have HBX := Lib.hid (HB.out.below bX)
              have HbX := Lib.hid (Hb.out.trans (bX.mono Hb.out.size))
              have HWX := Lib.hid (own_below HW.out bX)
              have HLX := Lib.hid (HL.out.below bX)
              have hsX : ko + 1 ≤ X0.heap.size := Nat.le_trans hsz bX.size
              have hnews : ∀ j u, [Value.int .i64 (l : Int), .int .i64 ((l : Int) + 1)][j]? = some u → X0.cell? ((⟨g, 0, none⟩ : Addr).add j) = some u := by
                intro j u hj
                match j, hj with
                | 0, hj => simp at hj; subst hj; simp only [Addr.add]; exact (bX.cell (p := ⟨g, 0, none⟩) (cell_lt HY1.out)).trans HY1.out
                | 1, hj => simp at hj; subst hj; simp only [Addr.add]; exact (bX.cell (p := ⟨g, 1, none⟩) (cell_lt HY2.out)).trans HY2.out
              clear hX bX HO HB Hb HW y0 hsz HL
              refine wpG_take (oi := ?oi17) (v := ?vv17) 0 _ ?hi17 (List.Mem.head _) ?hc17 ?hQ17 hF ?hw17 ?hy17 (fun hF => ?hh17)
              case hi17 => (simp only [List.getElem?_toArray, List.getElem?_cons_succ, List.getElem?_cons_zero]; rfl)
              case hc17 => kernel_rfl
              case hQ17 => exact fun _ _ _ h => h
              case hw17 => rfl
              case hy17 => (intro wz hz; skip; go_simp; try (with_reducible rfl))
              try simp only [Act.put, List.setIfInBounds_toArray, List.set_cons_zero, List.set_cons_succ]
              refine wpG_take (oi := ?oi18) (v := ?vv18) 1 _ ?hi18 (List.Mem.head _) ?hc18 ?hQ18 hF ?hw18 ?hy18 (fun hF => ?hh18)
              case hi18 => (simp only [List.getElem?_toArray, List.getElem?_cons_succ, List.getElem?_cons_zero]; rfl)
              case hc18 => kernel_rfl
              case hQ18 => exact fun _ _ _ h => h
              case hw18 => rfl
              case hy18 => (intro wz hz; have zc := hz; go_simp; try (with_reducible rfl))
              try simp only [Act.put, List.setIfInBounds_toArray, List.set_cons_zero, List.set_cons_succ]
              refine wpG_take (oi := ?oi19) (v := ?vv19) 2 _ ?hi19 (List.Mem.head _) ?hc19 ?hQ19 hF ?hw19 ?hy19 (fun hF => ?hh19)
              case hi19 => (simp only [List.getElem?_toArray, List.getElem?_cons_succ, List.getElem?_cons_zero]; rfl)
              case hc19 => kernel_rfl
              case hQ19 => exact fun _ _ _ h => h
              case hw19 => rfl
              case hy19 => (intro wz hz; skip; go_simp; try (with_reducible rfl))
              try simp only [Act.put, List.setIfInBounds_toArray, List.set_cons_zero, List.set_cons_succ]
              refine wpG_ready (rs := [3]) (by kernel_rfl) (by simp) ?_
              refine all_one ?_
              refine wpOp_hand (oi := ?oi20) ?hi20 (fun K hK => ?hh20)
              case hi20 => (simp only [List.getElem?_toArray, List.getElem?_cons_succ, List.getElem?_cons_zero]; rfl)
              refine step_append_any (by rfl) (.const (.slice none 0 0)) (.tmp 90) _ (by rfl) (ko + 1) 3 iI _ 1 8 Tryz.underlying22 hI0 hI1 hI2 hI3 rfl (by omega) (.slice none 0 0) 0 [] (by rfl) (World.ownsRow_nil _ _ _ _) ⟨g, 0, none⟩ 2 gc [.int .i64 (l : Int), .int .i64 ((l : Int) + 1)] (by rfl) rfl hnews (by simp [Value.oneCell']) (by unfold maxLen; omega) (by omega) hsX ?_
              intro v1 Z1 hown1 hgr1 _
              obtain ⟨g1, gc1, hv1, hlo1, hlt1⟩ := hown1.form (by omega)
              subst hv1
              have hgr1' : X0.grownBy Z1 none := hgr1
              have HO1 := Lib.hid (HOX.out.grown hgr1' (by simp))
              have HB1 := Lib.hid (HBX.out.grown hgr1' (by simp))
              have Hb1 := Lib.hid (below_grow HbX.out (Nat.le_refl _) hgr1' (by simp))
              have HW1 := Lib.hid (HWX.out.kept hgr1' (by cases hv : (Value.slice A' i c').ownBlock <;> simp))
              have HL1 := Lib.hid (HLX.out.grownN hgr1')
              have hs1 : ko + 1 ≤ Z1.heap.size := Nat.le_trans hsX hgr1.size
              have HR1 := Lib.hid hown1
              clear hown1 hgr1 hgr1' HOX HBX HbX HWX HLX hsX hnews HY1 HY2
              refine hK.out _ _ (heldC_one (fun _ => HO1.out.c1)) (fun hF => ?_)
              clear hK K
              try simp only [Act.put, List.setIfInBounds_toArray, List.set_cons_zero, List.set_cons_succ]
              refine wpG_ready (rs := [4]) (by kernel_rfl) (by simp) ?_
              refine all_one ?_
              refine wpOp_hand (oi := ?oi21) ?hi21 (fun K hK => ?hh21)
              case hi21 => (simp only [List.getElem?_toArray, List.getElem?_cons_succ, List.getElem?_cons_zero]; rfl)
              go_simp
              obtain ⟨Z2, hZ2⟩ : ∃ Z, Z = Z1.alloc (.cells #[.slice (some ⟨g1, 0, none⟩) 2 gc1] 22) := ⟨_, rfl⟩
              have b2 : Below Z1.heap.size Z1 Z2 := by rw [hZ2]; exact (Below.refl _ _).alloc (Nat.le_refl _) _
              have hnews : ∀ j u, [Value.slice (some ⟨g1, 0, none⟩) 2 gc1][j]? = some u → Z2.cell? ((⟨Z1.heap.size, 0, none⟩ : Addr).add j) = some u := by rw [hZ2]; exact cells_one
              rw [← hZ2]
              have HO2 := Lib.hid (HO1.out.below b2)
              have HB2 := Lib.hid (HB1.out.below b2)
              have Hb2 := Lib.hid (Hb1.out.trans (b2.mono Hb1.out.size))
              have HW2 := Lib.hid (own_below HW1.out b2)
              have HR2 := Lib.hid (own_below HR1.out b2)
              have hs2 : ko + 1 ≤ Z2.heap.size := Nat.le_trans hs1 b2.size
              obtain ⟨vs, hv1, hv2⟩ := HL1.out.below b2
              clear hZ2 b2 HO1 HB1 Hb1 HW1 HR1 HL1 hs1
              refine hK.out _ _ (heldC_one (fun _ => HO2.out.c1)) (fun hF => ?_)
              clear hK K
              try simp only [Act.put, List.setIfInBounds_toArray, List.set_cons_zero, List.set_cons_succ]
              refine wpG_ready (rs := [5]) (by kernel_rfl) (by simp) ?_
              refine all_one ?_
              refine wpOp_hand (oi := ?oi22) ?hi22 (fun K hK => ?hh22)
              case hi22 => (simp only [List.getElem?_toArray, List.getElem?_cons_succ, List.getElem?_cons_zero]; rfl)
              refine step_append_any (by rfl) (.tmp 89) (.tmp 92) _ (by rfl) (ko + 1) 22 iR _ 1 24 Tryz.underlying26 hR0 hR1 hR2 hR3 rfl (by omega) u l vs (by rfl) hv1 ⟨Z1.heap.size, 0, none⟩ 1 1 [.slice (some ⟨g1, 0, none⟩) 2 gc1] (by rfl) rfl hnews (by simp [Value.oneCell']) (by unfold maxLen; omega) (by omega) hs2 ?_
              intro v3 Z3 hown3 hgr3 _
              obtain ⟨g3, gc3, hv3, _, _⟩ := hown3.form (by omega)
              subst hv3
              have hlo : ∀ q, u.ownBlock = some q → ko + 1 ≤ q := fun q hq => (hv1.lt q hq).1
              have HO3 := Lib.hid (HO2.out.grown hgr3 (fun e => by have := hlo _ e.symm; omega))
              have HB3 := Lib.hid (HB2.out.grown hgr3 (fun q hq => by have := hlo q hq; omega))
              have Hb3 := Lib.hid (below_grow Hb2.out (Nat.le_refl _) hgr3 (fun q hq => by have := hlo q hq; omega))
              have HW3 := Lib.hid (HW2.out.kept hgr3 (own_ne HW2.out hv1 (by decide)))
              have hs3 : ko + 1 ≤ Z3.heap.size := Nat.le_trans hs2 hgr3.size
              have HL3 := Lib.hid (LinN.add hv1 hv2 (line_of HR2.out) (fun q qc hq => by
                have h := own_ne HR2.out hv1 (by decide)
                injection hq with h1 _ _; injection h1 with h1; injection h1 with h1
                subst h1
                simpa [Value.ownBlock] using h) hgr3 hown3)
              clear hown3 hgr3 HO2 HB2 Hb2 HW2 HR2 hs2 hnews hv1 hv2 hlo
              refine hK.out _ _ (heldC_one (fun _ => HO3.out.c1)) (fun hF => ?_)
              clear hK K
              try simp only [Act.put, List.setIfInBounds_toArray, List.set_cons_zero, List.set_cons_succ]
              refine wpG_take (oi := ?oi23) (v := ?vv23) 6 _ ?hi23 (List.Mem.head _) ?hc23 ?hQ23 hF ?hw23 ?hy23 (fun hF => ?hh23)
              case hi23 => (simp only [List.getElem?_toArray, List.getElem?_cons_succ, List.getElem?_cons_zero]; rfl)
              case hc23 => kernel_rfl
              case hQ23 => exact fun _ _ _ h => h
              case hw23 => rfl
              case hy23 => (intro wz hz; skip; go_simp; try (with_reducible rfl))
              try simp only [Act.put, List.setIfInBounds_toArray, List.set_cons_zero, List.set_cons_succ]
              refine wpG_ready (rs := [7]) (by kernel_rfl) (by simp) ?_
              refine all_one ?_
              have o1 := HO3.out.c1; have of := HO3.out.free 1; have ol := HO3.out.lt
              refine wpOp_hand (oi := ?oi24) ?hi24 (fun K hK => ?hh24)
              case hi24 => (simp only [List.getElem?_toArray, List.getElem?_cons_succ, List.getElem?_cons_zero]; rfl)
              go_simp
              refine hK.out _ _ (heldC_one (fun h => absurd h (by simp))) (fun hF => ?_)
              clear hK K
              try simp only [Act.put, List.setIfInBounds_toArray, List.set_cons_zero, List.set_cons_succ]
              refine wpG_done (by kernel_rfl) ?_ _
              clear o1 of ol hF
              go_wp2_with fail
              go_roundw
              case rel => exact ⟨l + 1, _, by omega, by go_num, HL3.out.set (by omega), own_set HW3.out (by omega), HB3.out.grown (setCell_grown _ _ _ _) (fun q hq => by have := Option.some.inj hq; omega), HO3.out.set1 _, by simpa using hs3, Hb3.out.setCell (p := ⟨ko, 1, none⟩) (by show w.heap.size ≤ ko; omega) _⟩
              case measure => simp [intOf]; omega
            · obtain rfl : m = l := by omega
              obtain ⟨B', bc', rfl, hbm, _⟩ := HL.out.fig
              have o0 := HO.out.c0; have o1 := HO.out.c1; have ol := HO.out.lt
              have r0 := HB.out.r.c0; have r1 := HB.out.r.c1; have rf0 := HB.out.r.free 0; have rf1 := HB.out.r.free 1; have rl := HB.out.r.lt
              have n0 : (k + 1 + 1) ≠ ko := by omega
              have HLF := Lib.hid (fun x y => (show LinN ((wr.setCell ⟨k + 1 + 1, 0, none⟩ x).setCell ⟨k + 1 + 1, 1, none⟩ y) (ko + 1) (.slice B' m bc') m from (HL.out.set (by omega)).set (by omega)))
              have HWF := Lib.hid (fun x y => own_set (b := k + 1 + 1) (o := 1) (x := y) (own_set (b := k + 1 + 1) (o := 0) (x := x) HW.out (by omega)) (by omega))
              have HBF := Lib.hid (fun x y => (Hb.out.setCell (p := ⟨k + 1 + 1, 0, none⟩) (show w.heap.size ≤ k + 1 + 1 by have := HK.out; omega) x).setCell (p := ⟨k + 1 + 1, 1, none⟩) (show w.heap.size ≤ k + 1 + 1 by have := HK.out; omega) y)
              have HPT := Lib.hid (turn_fr H.out)
              go_wp2_with fail
              refine bodyPost_ret (v := .tuple #[.agg #[.slice A' i c', .slice B' m bc'], .int .i64 0]) ?_ rfl ⟨A', c', B', bc', ko + 1, rfl, by omega, FigO.mk (HWF.out _ _) (HLF.out _ _) n60 (fun t ht => (HPT.out t ht).1) (fun t ht => (HPT.out t ht).2) m1.out, HBF.out _ _⟩
              simp [results, Tryz.results8, go_sem, *]
end Go.Proofs.YtdifeoahaegjbaaGreatDoor
