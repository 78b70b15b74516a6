/- figure.Mapped at whole numbers. -/
import Derived.Test.YtdifeoahaegjbaaGreatDoorMapped
import Derived.Test.YtdifeoahaegjbaaGreatDoorShape
namespace Go.Proofs.YtdifeoahaegjbaaGreatDoor
open Go.RowKit
set_option linter.unusedSimpArgs false
set_option linter.unusedVariables false

def mxV (M : Nat → Int) : Value := .agg #[.int .i64 (M 0), .int .i64 1, .int .i64 (M 1), .int .i64 1, .int .i64 (M 2), .int .i64 1, .int .i64 (M 3), .int .i64 1, .int .i64 (M 4), .int .i64 1, .int .i64 (M 5), .int .i64 1]
def mxF (M : Nat → Int) : Nat → Value := fun i => .int .i64 (if i % 2 = 1 then 1 else M (i / 2))
/-- Block b holds the map M. -/
def MxBox (w : World) (b : Nat) (M : Nat → Int) : Prop := w.rowIs b 39 12 (mxF M)
section
variable {w w' : World} {b : Nat} {M : Nat → Int}
theorem MxBox.num (h : MxBox w b M) (j : Nat) (hj : j < 6) : w.cell? ⟨b, j * 2, none⟩ = some (.int .i64 (M j)) := by
  have := World.rowIs.cell h (i := j * 2) (by omega)
  rw [this]; unfold mxF; rw [if_neg (by omega), show j * 2 / 2 = j by omega]
theorem MxBox.den (h : MxBox w b M) (j : Nat) (hj : j < 6) : w.cell? ⟨b, j * 2 + 1, none⟩ = some (.int .i64 1) := by
  have := World.rowIs.cell h (i := j * 2 + 1) (by omega)
  rw [this]; unfold mxF; rw [if_pos (by omega)]
theorem MxBox.lt (h : MxBox w b M) : b < w.heap.size := World.rowIs.lt h
theorem MxBox.alloc (h : MxBox w b M) (o : Obj) : MxBox (w.alloc o) b M := World.rowIs.alloc h o
theorem MxBox.below (h : MxBox w b M) (hb : Below w.heap.size w w') : MxBox w' b M := World.rowIs.of_block h (hb.block b (World.rowIs.lt h))
theorem MxBox.grown {r : Option Nat} (h : MxBox w b M) (hg : w.grownBy w' r) (hr : some b ≠ r) : MxBox w' b M := World.rowIs.of_block h (hg.block b h.lt hr)
theorem MxBox.new (w : World) (M : Nat → Int) : MxBox (w.alloc (.cells #[.int .i64 (M 0), .int .i64 1, .int .i64 (M 1), .int .i64 1, .int .i64 (M 2), .int .i64 1, .int .i64 (M 3), .int .i64 1, .int .i64 (M 4), .int .i64 1, .int .i64 (M 5), .int .i64 1] 39)) w.heap.size M :=
  World.rowIs_alloc w #[.int .i64 (M 0), .int .i64 1, .int .i64 (M 1), .int .i64 1, .int .i64 (M 2), .int .i64 1, .int .i64 (M 3), .int .i64 1, .int .i64 (M 4), .int .i64 1, .int .i64 (M 5), .int .i64 1] 39 (mxF M) (fun i hi => by
    match i, hi with
    | 0, _ => rfl
    | 1, _ => rfl
    | 2, _ => rfl
    | 3, _ => rfl
    | 4, _ => rfl
    | 5, _ => rfl
    | 6, _ => rfl
    | 7, _ => rfl
    | 8, _ => rfl
    | 9, _ => rfl
    | 10, _ => rfl
    | 11, _ => rfl)
end
theorem index6_0 (M : Nat → Int) (w : World) : (Instr.index 39 (mxV M) (.int .i64 0)).run Tryz.prog w = .ok (.agg #[.int .i64 (M 0), .int .i64 1]) w := by kernel_rfl
theorem index6_1 (M : Nat → Int) (w : World) : (Instr.index 39 (mxV M) (.int .i64 1)).run Tryz.prog w = .ok (.agg #[.int .i64 (M 1), .int .i64 1]) w := by kernel_rfl
theorem index6_2 (M : Nat → Int) (w : World) : (Instr.index 39 (mxV M) (.int .i64 2)).run Tryz.prog w = .ok (.agg #[.int .i64 (M 2), .int .i64 1]) w := by kernel_rfl
theorem index6_3 (M : Nat → Int) (w : World) : (Instr.index 39 (mxV M) (.int .i64 3)).run Tryz.prog w = .ok (.agg #[.int .i64 (M 3), .int .i64 1]) w := by kernel_rfl
theorem index6_4 (M : Nat → Int) (w : World) : (Instr.index 39 (mxV M) (.int .i64 4)).run Tryz.prog w = .ok (.agg #[.int .i64 (M 4), .int .i64 1]) w := by kernel_rfl
theorem index6_5 (M : Nat → Int) (w : World) : (Instr.index 39 (mxV M) (.int .i64 5)).run Tryz.prog w = .ok (.agg #[.int .i64 (M 5), .int .i64 1]) w := by kernel_rfl
theorem index6 (M : Nat → Int) (j : Nat) (hj : j < 6) : ∀ w, (Instr.index 39 (mxV M) (.int .i64 (j : Int))).run Tryz.prog w = .ok (.agg #[.int .i64 (M j), .int .i64 1]) w := fun w => by
  rcases (by omega : j = 0 ∨ j = 1 ∨ j = 2 ∨ j = 3 ∨ j = 4 ∨ j = 5) with rfl | rfl | rfl | rfl | rfl | rfl
  · exact index6_0 M w
  · exact index6_1 M w
  · exact index6_2 M w
  · exact index6_3 M w
  · exact index6_4 M w
  · exact index6_5 M w

/-- The numbers that 'mapped' comes by. -/
structure MapOk (a b c px py : Int) : Prop where
  p : FrOk px 1
  q : FrOk py 1
  u : FrOk (a * px) 1
  v : FrOk (b * py) 1
  s : FrOk (a * px + b * py) 1
  r : FrOk (a * px + b * py + c) 1
def mapC (a b c px py : Int) : Int := a * px + b * py + c
/-- The boxes of 'Mapped'. -/
structure MB (w : World) (k : Nat) (u v : Value) (M : Nat → Int) : Prop where
  f : FgBox w k u v
  m : MxBox w (k + 1) M
  r : FgBox w (k + 1 + 1) (.slice none 0 0) (.slice none 0 0)
theorem MB.below {w w' : World} {k : Nat} {u v : Value} {M : Nat → Int} (h : MB w k u v M) (hb : Below w.heap.size w w') : MB w' k u v M := ⟨h.f.below hb, h.m.below hb, h.r.below hb⟩
theorem MB.grown {w w' : World} {k : Nat} {u v : Value} {M : Nat → Int} {r : Option Nat} (h : MB w k u v M) (hg : w.grownBy w' r) (hr : ∀ q, r = some q → k + 1 + 1 < q) : MB w' k u v M :=
  ⟨h.f.grown hg (fun e => by have := hr _ e.symm; omega), h.m.grown hg (fun e => by have := hr _ e.symm; omega), h.r.grown hg (fun e => by have := hr _ e.symm; omega)⟩
theorem infoRw : (Tryz.prog.info? 22).map (fun i => (i.zero, i.size, i.bytes)) = some (some (.slice none 0 0), 1, 24) := by kernel_rfl
theorem infoIn : (Tryz.prog.info? 3).map (fun i => (i.zero, i.size, i.bytes)) = some (some (.int .i64 0), 1, 8) := by kernel_rfl
theorem own_cap' {w : World} {base g n cap size : Nat} {e : TypeId} {xs : List Value} (h : w.ownsRow base e size (.slice (some ⟨g, 0, none⟩) n cap) n xs) : n ≤ cap := by
  rcases h.2 with ⟨h1, _⟩ | ⟨g', cap', cur, hv, _, _, hn, _⟩
  · cases h1
  · injection hv with _ _ h3; omega
/-- The lines that have been copied. -/
def LinR (w : World) (lo : Nat) (u : Value) (n j : Nat) : Prop :=
  (j = 0 ∧ u = .slice none 0 0) ∨ (j = 1 ∧ ∃ b bc g gc, u = .slice (some ⟨b, 0, none⟩) 1 bc ∧ 1 ≤ bc ∧ lo ≤ b ∧ lo ≤ g ∧ w.cell? ⟨b, 0, none⟩ = some (.slice (some ⟨g, 0, none⟩) 2 gc) ∧ 2 ≤ gc ∧ w.cell? ⟨g, 0, none⟩ = some (.int .i64 0) ∧ w.cell? ⟨g, 1, none⟩ = some (.int .i64 ((n : Int) - 1)))
theorem LinR.set {w : World} {lo n j b o : Nat} {u x : Value} (h : LinR w lo u n j) (hb : b < lo) : LinR (w.setCell ⟨b, o, none⟩ x) lo u n j := by
  rcases h with h | ⟨h0, b', bc, g, gc, h1, h2, h3, h4, h5, h6, h7, h8⟩
  · exact .inl h
  · exact .inr ⟨h0, b', bc, g, gc, h1, h2, h3, h4, (World.cell?_setCell_other w _ _ _ (by intro e; injection e with e; omega)).trans h5, h6, (World.cell?_setCell_other w _ _ _ (by intro e; injection e with e; omega)).trans h7, (World.cell?_setCell_other w _ _ _ (by intro e; injection e with e; omega)).trans h8⟩
def MapPost (n m : Nat) (X Y : Nat → Int) (w : World) (e : Ending) (w' : World) : Prop :=
  ∃ A c B bc, e = .returned (.tuple #[.agg #[.slice A n c, .slice B m bc], .int .i64 0]) ∧ FigW w' A n c (ptNums X Y n) B m bc ∧ Below w.heap.size w w'

set_option maxRecDepth 100000 in
set_option maxHeartbeats 16000000 in
theorem fMapped_ok (A : Option Addr) (n c : Nat) (zs : List Int) (B : Option Addr) (m bc : Nat) (X Y M : Nat → Int) (w : World) (h : FigW w A n c zs B m bc) (hz : WholeN zs n X Y) (hM : ∀ j, j < 6 → FrOk (M j) 1)
    (hX : ∀ i, i < n → MapOk (M 0) (M 1) (M 2) (X i) (Y i)) (hY : ∀ i, i < n → MapOk (M 3) (M 4) (M 5) (X i) (Y i)) :
    Calls Tryz.prog 8 #[.agg #[.slice A n c, .slice B m bc], mxV M] w (MapPost n m (fun i => mapC (M 0) (M 1) (M 2) (X i) (Y i)) (fun i => mapC (M 3) (M 4) (M 5) (X i) (Y i)) w) := by
  obtain ⟨iP, hP0, hP1, hP2, hP3⟩ := info_parts infoPt
  obtain ⟨iR, hR0, hR1, hR2, hR3⟩ := info_parts infoRw
  obtain ⟨iI, hI0, hI1, hI2, hI3⟩ := info_parts infoIn
  have n60 := h.n60; have m1 := h.m1
  have H := Lib.hid h; have HZ := Lib.hid hz; have HM := Lib.hid hM; have HX := Lib.hid hX; have HY := Lib.hid hY
  have HI := Lib.hid (fun j (hj : j < 6) => index6 M j hj)
  have hB0 : MB (((w.alloc (.cells #[.slice A n c, .slice B m bc] 28)).alloc (.cells #[.int .i64 (M 0), .int .i64 1, .int .i64 (M 1), .int .i64 1, .int .i64 (M 2), .int .i64 1, .int .i64 (M 3), .int .i64 1, .int .i64 (M 4), .int .i64 1, .int .i64 (M 5), .int .i64 1] 39)).alloc (.cells #[.slice none 0 0, .slice none 0 0] 28)) w.heap.size (.slice A n c) (.slice B m bc) M := by
    have h1 := ((FgBox.new w (.slice A n c) (.slice B m bc)).alloc (.cells #[.int .i64 (M 0), .int .i64 1, .int .i64 (M 1), .int .i64 1, .int .i64 (M 2), .int .i64 1, .int .i64 (M 3), .int .i64 1, .int .i64 (M 4), .int .i64 1, .int .i64 (M 5), .int .i64 1] 39)).alloc (.cells #[.slice none 0 0, .slice none 0 0] 28)
    have h2 := (MxBox.new (w.alloc (.cells #[.slice A n c, .slice B m bc] 28)) M).alloc (.cells #[.slice none 0 0, .slice none 0 0] 28)
    have h3 := FgBox.new ((w.alloc (.cells #[.slice A n c, .slice B m bc] 28)).alloc (.cells #[.int .i64 (M 0), .int .i64 1, .int .i64 (M 1), .int .i64 1, .int .i64 (M 2), .int .i64 1, .int .i64 (M 3), .int .i64 1, .int .i64 (M 4), .int .i64 1, .int .i64 (M 5), .int .i64 1] 39)) (.slice none 0 0) (.slice none 0 0)
    simp only [World.size_alloc] at h2 h3
    exact ⟨h1, h2, h3⟩
  have hb0 := (((Below.refl w.heap.size w).alloc (Nat.le_refl _) (.cells #[.slice A n c, .slice B m bc] 28)).alloc (by simp) (.cells #[.int .i64 (M 0), .int .i64 1, .int .i64 (M 1), .int .i64 1, .int .i64 (M 2), .int .i64 1, .int .i64 (M 3), .int .i64 1, .int .i64 (M 4), .int .i64 1, .int .i64 (M 5), .int .i64 1] 39)).alloc (by simp; omega) (.cells #[.slice none 0 0, .slice none 0 0] 28)
  obtain ⟨W, hW⟩ : ∃ W, W = (((w.alloc (.cells #[.slice A n c, .slice B m bc] 28)).alloc (.cells #[.int .i64 (M 0), .int .i64 1, .int .i64 (M 1), .int .i64 1, .int .i64 (M 2), .int .i64 1, .int .i64 (M 3), .int .i64 1, .int .i64 (M 4), .int .i64 1, .int .i64 (M 5), .int .i64 1] 39)).alloc (.cells #[.slice none 0 0, .slice none 0 0] 28)) := ⟨_, rfl⟩
  rw [← hW] at hB0 hb0
  have HB0 := Lib.hid hB0; have Hb0 := Lib.hid hb0; have HW := Lib.hid hW
  clear h hz hM hX hY hB0 hb0 hW
  unfold mxV
  go_enter Tryz.func8, Tryz.ntmps8
  go_upto_region 1 with fail
  rw [← HW.out]
  clear HW
  obtain ⟨k, hk⟩ : ∃ k, k = w.heap.size := ⟨_, rfl⟩
  rw [← hk] at HB0 ⊢
  have HK := Lib.hid hk
  clear hk
  have x0 := HB0.out.f.c0; have x1 := HB0.out.f.c1; have xl := HB0.out.f.lt
  go_wp2_with fail
  refine Calls.mono (figCheck_ok A n c zs B m bc _ (H.out.below Hb0.out)) ?_
  rintro e w1 ⟨rfl, hb⟩
  have HB1 := Lib.hid (HB0.out.below hb)
  have Hb1 := Lib.hid (Hb0.out.trans (hb.mono Hb0.out.size))
  clear hb x0 x1 xl HB0 Hb0
  have y0 := HB1.out.m.num 0 (by omega); have y1 := HB1.out.m.den 0 (by omega); have y2 := HB1.out.m.num 1 (by omega); have y3 := HB1.out.m.den 1 (by omega); have y4 := HB1.out.m.num 2 (by omega); have y5 := HB1.out.m.den 2 (by omega)
  have y6 := HB1.out.m.num 3 (by omega); have y7 := HB1.out.m.den 3 (by omega); have y8 := HB1.out.m.num 4 (by omega); have y9 := HB1.out.m.den 4 (by omega); have y10 := HB1.out.m.num 5 (by omega); have y11 := HB1.out.m.den 5 (by omega)
  simp only [Nat.zero_mul, Nat.zero_add, Nat.reduceMul, Nat.reduceAdd] at y0 y1 y2 y3 y4 y5 y6 y7 y8 y9 y10 y11
  go_wp2_with fail
  clear y0 y1 y2 y3 y4 y5 y6 y7 y8 y9 y10 y11
  go_loopw [25] (fun j' wv => ∃ j : Nat, j ≤ 6 ∧ j' = .int .i64 j ∧ MB wv k (.slice A n c) (.slice B m bc) M ∧ Below w.heap.size w wv) (fun j' _ => 6 - (intOf j').toNat)
  case atStart => exact ⟨0, by omega, rfl, HB1.out, Hb1.out⟩
  case round =>
    clear HB1 Hb1
    obtain ⟨j, hj, rfl, hB, hb⟩ := hrel
    have HB1 := Lib.hid hB; have Hb1 := Lib.hid hb
    clear hB hb
    by_cases hj6 : j < 6
    · have j0 : (0 : Int) ≤ (j : Int) := by omega
      have j1 : (j : Int) < 6 := by omega
      have hj0 := HI.out j hj6
      unfold mxV at hj0
      go_wp2_with fail
      refine Calls.mono (fcheck_ok (M j) 1 _ (HM.out j hj6)) ?_
      rintro e w2 ⟨rfl, hb⟩
      have HB2 := Lib.hid ((HB1.out.below ((Below.refl _ _).alloc (Nat.le_refl _) (.cells #[.int .i64 (M j), .int .i64 1] 30))).below hb)
      have hb1 := Hb1.out.alloc Hb1.out.size (.cells #[.int .i64 (M j), .int .i64 1] 30)
      have Hb2 := Lib.hid (hb1.trans (hb.mono hb1.size))
      clear hb hb1 hj0
      go_wp2_with fail
      go_roundw
      case rel => exact ⟨j + 1, by omega, by go_num, HB2.out, Hb2.out⟩
      case measure => simp [intOf]; omega
    · have j1 : ¬ (j : Int) < 6 := by omega
      have x0 := HB1.out.f.c0; have xl := HB1.out.f.lt
      have hsz := Hb1.out.size
      have kl := HB1.out.r.lt
      go_wp2_with fail
      obtain ⟨ko, hko⟩ : ∃ b, b = wr.heap.size := ⟨_, rfl⟩
      obtain ⟨V, hV⟩ : ∃ V, V = wr.alloc (.cells #[.slice none 0 0, .slice none 0 0] 28) := ⟨_, rfl⟩
      have bV : Below wr.heap.size wr V := by rw [hV]; exact (Below.refl _ _).alloc (Nat.le_refl _) _
      have hO := FgBox.new wr (.slice none 0 0) (.slice none 0 0)
      have szV : ko + 1 = V.heap.size := by rw [hV, hko]; simp
      rw [← hV, ← hko] at hO ⊢
      have HBV := Lib.hid (HB1.out.below bV)
      have HbV := Lib.hid (Hb1.out.trans (bV.mono Hb1.out.size))
      have HO := Lib.hid hO
      have kko : k + 1 + 1 < ko := by omega
      have kw : w.heap.size ≤ ko := by omega
      clear x0 xl hO bV hko hV HB1 Hb1 hsz kl
      go_loopw [38] (fun i' wv => ∃ (i : Nat) (v : Value), i ≤ n ∧ i' = .int .i64 i ∧ wv.ownsRow (ko + 1) 33 4 v i ((ptNums (fun i => mapC (M 0) (M 1) (M 2) (X i) (Y i)) (fun i => mapC (M 3) (M 4) (M 5) (X i) (Y i)) i).map (Value.int .i64)) ∧ MB wv k (.slice A n c) (.slice B m bc) M ∧ FgBox wv ko v (.slice none 0 0) ∧ ko + 1 ≤ wv.heap.size ∧ Below w.heap.size w wv) (fun i' _ => n - (intOf i').toNat)
      case atStart => exact ⟨0, .slice none 0 0, by omega, rfl, World.ownsRow_nil _ _ _ _, HBV.out, HO.out, by omega, HbV.out⟩
      case round =>
        clear HBV HbV HO szV
        obtain ⟨i, v, hi, rfl, hown, hB, hO, hsz, hb⟩ := hrel
        have HW := Lib.hid hown; have HB := Lib.hid hB; have HO := Lib.hid hO; have Hb := Lib.hid hb
        clear hown hB hO hb
        by_cases hin : i < n
        · have i0 : (0 : Int) ≤ (i : Int) := by omega
          have i1 : (i : Int) < (n : Int) := by omega
          obtain ⟨q, o, hA, hc⟩ := (H.out.below Hb.out).pts.at' (by omega)
          obtain ⟨z0, z1, z2, z3⟩ := HZ.out i hin
          have x0 := hc (i * 4) (by omega)
          have x1 := hc (i * 4 + 1) (by omega)
          have x2 := hc (i * 4 + 2) (by omega)
          have x3 := hc (i * 4 + 3) (by omega)
          rw [z0] at x0; rw [z1] at x1; rw [z2] at x2; rw [z3] at x3
          rw [← Nat.add_assoc] at x1 x2 x3
          subst hA
          have mX := HX.out i hin; have mY := HY.out i hin
          have HmX := Lib.hid mX; have HmY := Lib.hid mY
          clear hc z0 z1 z2 z3 mX mY
          have HP := Lib.hid (PtBox.new wr (X i) 1 (Y i) 1)
          have HB2 := Lib.hid (HB.out.below ((Below.refl wr.heap.size wr).alloc (Nat.le_refl _) (.cells #[.int .i64 (X i), .int .i64 1, .int .i64 (Y i), .int .i64 1] 33)))
          have HO2 := Lib.hid (HO.out.alloc (.cells #[.int .i64 (X i), .int .i64 1, .int .i64 (Y i), .int .i64 1] 33))
          have Hb2 := Lib.hid (Hb.out.alloc Hb.out.size (.cells #[.int .i64 (X i), .int .i64 1, .int .i64 (Y i), .int .i64 1] 33))
          have HW2 := Lib.hid (own_below HW.out ((Below.refl wr.heap.size wr).alloc (Nat.le_refl _) (.cells #[.int .i64 (X i), .int .i64 1, .int .i64 (Y i), .int .i64 1] 33)))
          go_upto_region 15 with fail
          obtain ⟨kp, hkp⟩ : ∃ b, b = wr.heap.size := ⟨_, rfl⟩
          obtain ⟨U, hU⟩ : ∃ U, U = wr.alloc (.cells #[.int .i64 (X i), .int .i64 1, .int .i64 (Y i), .int .i64 1] 33) := ⟨_, rfl⟩
          have szU : ko + 1 ≤ U.heap.size := by rw [hU]; simp; omega
          rw [← hU, ← hkp] at HP ⊢
          rw [← hU] at HB2 HO2 Hb2 HW2
          clear hkp hU x0 x1 x2 x3 HB HO Hb HW hsz
          have y0 := HB2.out.m.num 0 (by omega); have y1 := HB2.out.m.den 0 (by omega); have y2 := HB2.out.m.num 1 (by omega); have y3 := HB2.out.m.den 1 (by omega); have y4 := HB2.out.m.num 2 (by omega); have y5 := HB2.out.m.den 2 (by omega); have yl := HB2.out.m.lt
          simp only [Nat.zero_mul, Nat.zero_add, Nat.reduceMul, Nat.reduceAdd] at y0 y1 y2 y3 y4 y5
          have x0 := HP.out.c0; have x1 := HP.out.c1; have x2 := HP.out.c2; have x3 := HP.out.c3; have xl := HP.out.lt
          obtain ⟨rx, hrx⟩ : ∃ r, r = mapC (M 0) (M 1) (M 2) (X i) (Y i) := ⟨_, rfl⟩
          obtain ⟨ry, hry⟩ : ∃ r, r = mapC (M 3) (M 4) (M 5) (X i) (Y i) := ⟨_, rfl⟩
          have H1 := Lib.hid (fun W => mapped_one (X i) (Y i) (M 0) (M 1) (M 2) 0 0 0 rx W HmX.out.p HmX.out.q (HM.out 0 (by omega)) (HM.out 1 (by omega)) (HM.out 2 (by omega)) HmX.out.u HmX.out.v HmX.out.s HmX.out.r hrx)
          have H2 := Lib.hid (fun W => mapped_one (X i) (Y i) (M 3) (M 4) (M 5) 0 0 0 ry W HmY.out.p HmY.out.q (HM.out 3 (by omega)) (HM.out 4 (by omega)) (HM.out 5 (by omega)) HmY.out.u HmY.out.v HmY.out.s HmY.out.r hry)
          have HRX := Lib.hid hrx; have HRY := Lib.hid hry
          clear hrx hry
          go_wp2_with fail
          refine Calls.mono (H1.out _) ?_
          rintro e w2 ⟨rfl, hb⟩
          clear x0 x1 x2 x3 xl y0 y1 y2 y3 y4 y5 yl
          have bf := (Below.refl w2.heap.size w2).alloc (Nat.le_refl _) (.cells #[.int .i64 rx, .int .i64 1] 30)
          have hbf := hb.trans (bf.mono hb.size)
          have HP3 := Lib.hid (HP.out.below hbf)
          have HB3 := Lib.hid (HB2.out.below hbf)
          have HO3 := Lib.hid (HO2.out.below hbf)
          have Hb3 := Lib.hid (Hb2.out.trans (hbf.mono Hb2.out.size))
          have HW3 := Lib.hid (own_below HW2.out hbf)
          have HF3 := Lib.hid (FrBox.new w2 rx 1)
          have szw := hbf.size
          go_upto_region 18 with fail
          obtain ⟨kx, hkx⟩ : ∃ b, b = w2.heap.size := ⟨_, rfl⟩
          obtain ⟨U3, hU⟩ : ∃ U, U = w2.alloc (.cells #[.int .i64 rx, .int .i64 1] 30) := ⟨_, rfl⟩
          rw [← hU] at szw
          have szU3 : ko + 1 ≤ U3.heap.size := Nat.le_trans szU szw
          rw [← hU, ← hkx] at HF3 ⊢
          rw [← hU] at HP3 HB3 HO3 Hb3 HW3
          clear hkx hU HP HB2 HO2 Hb2 HW2 hb bf hbf szw szU H1
          have y0 := HB3.out.m.num 3 (by omega); have y1 := HB3.out.m.den 3 (by omega); have y2 := HB3.out.m.num 4 (by omega); have y3 := HB3.out.m.den 4 (by omega); have y4 := HB3.out.m.num 5 (by omega); have y5 := HB3.out.m.den 5 (by omega); have yl := HB3.out.m.lt
          simp only [Nat.zero_mul, Nat.zero_add, Nat.reduceMul, Nat.reduceAdd] at y0 y1 y2 y3 y4 y5
          have x0 := HP3.out.c0; have x1 := HP3.out.c1; have x2 := HP3.out.c2; have x3 := HP3.out.c3; have xl := HP3.out.lt
          go_wp2_with fail
          refine Calls.mono (H2.out _) ?_
          rintro e w4 ⟨rfl, hb⟩
          clear x0 x1 x2 x3 xl y0 y1 y2 y3 y4 y5 yl
          have bf := (Below.refl w4.heap.size w4).alloc (Nat.le_refl _) (.cells #[.int .i64 ry, .int .i64 1] 30)
          have hbf := hb.trans (bf.mono hb.size)
          have HB4 := Lib.hid (HB3.out.below hbf)
          have HO4 := Lib.hid (HO3.out.below hbf)
          have Hb4 := Lib.hid (Hb3.out.trans (hbf.mono Hb3.out.size))
          have HW4 := Lib.hid (own_below HW3.out hbf)
          have HF4 := Lib.hid (HF3.out.below hbf)
          have HG4 := Lib.hid (FrBox.new w4 ry 1)
          have szw := hbf.size
          go_upto_region 21 with fail
          obtain ⟨ky, hky⟩ : ∃ b, b = w4.heap.size := ⟨_, rfl⟩
          obtain ⟨U4, hU⟩ : ∃ U, U = w4.alloc (.cells #[.int .i64 ry, .int .i64 1] 30) := ⟨_, rfl⟩
          rw [← hU] at szw
          have szU4 : ko + 1 ≤ U4.heap.size := Nat.le_trans szU3 szw
          rw [← hU, ← hky] at HG4 ⊢
          rw [← hU] at HB4 HO4 Hb4 HW4 HF4
          clear hky hU HP3 HB3 HO3 Hb3 HW3 HF3 hb bf hbf szw szU3 H2
          have x0 := HF4.out.c0; have x1 := HF4.out.c1; have xl := HF4.out.lt; have y0 := HG4.out.c0; have y1 := HG4.out.c1; have yl := HG4.out.lt
          have o0 := HO4.out.c0; have ol := HO4.out.lt
          have hown := HW4.out
          go_wp2_with (at_builtin; refine wpList_append_own _ rfl _ _ 25 rfl (ko + 1) 33 iP _ 4 32 Tryz.underlying25 hP0 hP1 hP2 hP3 rfl (by decide) _ _ _ rfl (hown.alloc _) ⟨U4.heap.size, 0, none⟩ 1 1 [.int .i64 rx, .int .i64 1, .int .i64 ry, .int .i64 1] rfl rfl ?c1 ?c2 ?c3 ?c4 ?c5 ?_)
          case c1 => exact cells_four
          case c2 => simp [Value.oneCell']
          case c3 => unfold maxLen; omega
          case c4 => omega
          case c5 => simp; omega
          · intro v' Z hown' hgr hat
            have hlo : ∀ q, v.ownBlock = some q → ko + 1 ≤ q := fun q hq => (hown.lt q hq).1
            obtain ⟨g, gc, hv', _, _⟩ := hown'.form (by omega)
            subst hv'
            have bf := (Below.refl U4.heap.size U4).alloc (Nat.le_refl _) (.cells #[.int .i64 rx, .int .i64 1, .int .i64 ry, .int .i64 1] 33)
            have szf := bf.size
            have HB5 := Lib.hid ((HB4.out.below bf).grown hgr (fun q hq => by have := hlo q hq; omega))
            have ho5 := (HO4.out.below bf).grown hgr (fun e => by have := hlo _ e.symm; omega)
            have hb5 := Hb4.out.trans (bf.mono Hb4.out.size)
            have HO5 := Lib.hid ho5
            have Hb5 := Lib.hid (below_grow hb5 (Nat.le_refl _) hgr (fun q hq => by have := hlo q hq; omega))
            have szZ : ko + 1 ≤ Z.heap.size := Nat.le_trans (Nat.le_trans szU4 szf) hgr.size
            have HW5 := Lib.hid (show Z.ownsRow (ko + 1) 33 4 (.slice (some ⟨g, 0, none⟩) (i + 1) gc) (i + 1) ((ptNums (fun i => mapC (M 0) (M 1) (M 2) (X i) (Y i)) (fun i => mapC (M 3) (M 4) (M 5) (X i) (Y i)) (i + 1)).map (Value.int .i64)) from by
              show World.ownsRow _ _ _ _ _ _ ((ptNums _ _ i ++ [mapC (M 0) (M 1) (M 2) (X i) (Y i), 1, mapC (M 3) (M 4) (M 5) (X i) (Y i), 1]).map (Value.int .i64))
              rw [← HRX.out, ← HRY.out, List.map_append]
              exact hown')
            clear hown hown' hgr hat hlo bf szf ho5 hb5 x0 x1 xl y0 y1 yl o0 ol HB4 HO4 Hb4 HW4
            have o0 := HO5.out.c0; have of := HO5.out.free 0; have ol := HO5.out.lt
            go_wp2_with fail
            go_roundw
            case rel => exact ⟨i + 1, _, by omega, by go_num, own_set HW5.out (by omega), HB5.out.grown (setCell_grown _ _ _ _) (fun q hq => by have := Option.some.inj hq; omega), HO5.out.set0 _, by simpa using szZ, Hb5.out.setCell (p := ⟨ko, 0, none⟩) (by show w.heap.size ≤ ko; omega) _⟩
            case measure => simp [intOf]; omega
        · obtain rfl : i = n := by omega
          have x1 := HB.out.f.c1; have xl := HB.out.f.lt
          obtain ⟨A', c', rfl, hfl⟩ := own_flat HW.out
          clear hfl
          go_wp2_with fail
          clear x1 xl
          go_loopw [84] (fun j' wv => ∃ (j : Nat) (u : Value), j ≤ m ∧ j' = .int .i64 j ∧ LinR wv (ko + 1) u i j ∧ wv.ownsRow (ko + 1) 33 4 (.slice A' i c') i ((ptNums (fun i => mapC (M 0) (M 1) (M 2) (X i) (Y i)) (fun i => mapC (M 3) (M 4) (M 5) (X i) (Y i)) i).map (Value.int .i64)) ∧ MB wv k (.slice A i c) (.slice B m bc) M ∧ FgBox wv ko (.slice A' i c') u ∧ ko + 1 ≤ wv.heap.size ∧ Below w.heap.size w wv) (fun j' _ => m - (intOf j').toNat)
          case atStart => exact ⟨0, .slice none 0 0, by omega, rfl, .inl ⟨rfl, rfl⟩, HW.out, HB.out, HO.out, hsz, Hb.out⟩
          case round =>
            clear HB HO Hb HW hsz
            obtain ⟨l, u, hl, rfl, hlin, hown, hB, hO, hsz, hb⟩ := hrel
            have HL := Lib.hid hlin; have HW := Lib.hid hown; have HB := Lib.hid hB; have HO := Lib.hid hO; have Hb := Lib.hid hb
            clear hlin hown hB hO hb
            by_cases hlm : l < m
            · obtain rfl : l = 0 := by omega
              have n2 := H.out.n2 (by omega)
              have hmb := H.out.mb
              obtain ⟨b, g, gc, hBB, y0, hgc, y1, y2⟩ := (H.out.below Hb.out).lin (by omega)
              subst hBB
              have hu : u = .slice none 0 0 := by
                rcases HL.out with ⟨_, h⟩ | ⟨h, _⟩
                · exact h
                · omega
              subst hu
              have HY1 := Lib.hid y1; have HY2 := Lib.hid y2
              clear y1 y2
              have b0 : (0 : Int) < (m : Int) := by omega
              go_wp2_with fail
              obtain ⟨X0, hX⟩ : ∃ X, X = wr.drew := ⟨_, rfl⟩
              have bX : Below wr.heap.size wr X0 := by rw [hX]; exact (Below.refl _ _).drew
              have HOX := Lib.hid (HO.out.below bX)
              refine wp_region_G [(7, fun w' => w'.cell? ⟨ko, 1, none⟩ = some (.slice none 0 0))] (by kernel_rfl) (heldC_one (fun _ => by rw [← hX]; exact HOX.out.c1)) (fun hF => ?_)
              rw [← hX] at hF ⊢
              have HBX := Lib.hid (HB.out.below bX)
              have HbX := Lib.hid (Hb.out.trans (bX.mono Hb.out.size))
              have HWX := Lib.hid (own_below HW.out bX)
              have hsX : ko + 1 ≤ X0.heap.size := Nat.le_trans hsz bX.size
              have hnews : ∀ j u, [Value.int .i64 0, .int .i64 ((i : Int) - 1)][j]? = some u → X0.cell? ((⟨g, 0, none⟩ : Addr).add j) = some u := by
                intro j u hj
                match j, hj with
                | 0, hj => simp at hj; subst hj; simp only [Addr.add]; exact (bX.cell (p := ⟨g, 0, none⟩) (cell_lt HY1.out)).trans HY1.out
                | 1, hj => simp at hj; subst hj; simp only [Addr.add]; exact (bX.cell (p := ⟨g, 1, none⟩) (cell_lt HY2.out)).trans HY2.out
              clear hX bX HO HB Hb HW y0 hsz HL
              refine wpG_take (oi := ?oi1) (v := ?vv1) 0 _ ?hi1 (List.Mem.head _) ?hc1 ?hQ1 hF ?hw1 ?hy1 (fun hF => ?hh1)
              case hi1 => (simp only [List.getElem?_toArray, List.getElem?_cons_succ, List.getElem?_cons_zero]; rfl)
              case hc1 => kernel_rfl
              case hQ1 => exact fun _ _ _ h => h
              case hw1 => rfl
              case hy1 => (intro wz hz; skip; go_simp; try (with_reducible rfl))
              try simp only [Act.put, List.setIfInBounds_toArray, List.set_cons_zero, List.set_cons_succ]
              refine wpG_take (oi := ?oi2) (v := ?vv2) 1 _ ?hi2 (List.Mem.head _) ?hc2 ?hQ2 hF ?hw2 ?hy2 (fun hF => ?hh2)
              case hi2 => (simp only [List.getElem?_toArray, List.getElem?_cons_succ, List.getElem?_cons_zero]; rfl)
              case hc2 => kernel_rfl
              case hQ2 => exact fun _ _ _ h => h
              case hw2 => rfl
              case hy2 => (intro wz hz; have zc := hz; go_simp; try (with_reducible rfl))
              try simp only [Act.put, List.setIfInBounds_toArray, List.set_cons_zero, List.set_cons_succ]
              refine wpG_take (oi := ?oi3) (v := ?vv3) 2 _ ?hi3 (List.Mem.head _) ?hc3 ?hQ3 hF ?hw3 ?hy3 (fun hF => ?hh3)
              case hi3 => (simp only [List.getElem?_toArray, List.getElem?_cons_succ, List.getElem?_cons_zero]; rfl)
              case hc3 => kernel_rfl
              case hQ3 => exact fun _ _ _ h => h
              case hw3 => rfl
              case hy3 => (intro wz hz; skip; go_simp; try (with_reducible rfl))
              try simp only [Act.put, List.setIfInBounds_toArray, List.set_cons_zero, List.set_cons_succ]
              refine wpG_ready (rs := [3]) (by kernel_rfl) (by simp) ?_
              refine all_one ?_
              refine wpOp_hand (oi := ?oi4) ?hi4 (fun K hK => ?hh4)
              case hi4 => (simp only [List.getElem?_toArray, List.getElem?_cons_succ, List.getElem?_cons_zero]; rfl)
              refine step_append_any (by rfl) (.const (.slice none 0 0)) (.tmp 90) _ (by rfl) (ko + 1) 3 iI _ 1 8 Tryz.underlying22 hI0 hI1 hI2 hI3 rfl (by omega) (.slice none 0 0) 0 [] (by rfl) (World.ownsRow_nil _ _ _ _) ⟨g, 0, none⟩ 2 gc [.int .i64 0, .int .i64 ((i : Int) - 1)] (by rfl) rfl hnews (by simp [Value.oneCell']) (by unfold maxLen; omega) (by omega) hsX ?_
              intro v1 Z1 hown1 hgr1 _
              obtain ⟨g1, gc1, hv1, hlo1, hlt1⟩ := hown1.form (by omega)
              subst hv1
              have hgr1' : X0.grownBy Z1 none := hgr1
              have HO1 := Lib.hid (HOX.out.grown hgr1' (by simp))
              have HB1 := Lib.hid (HBX.out.grown hgr1' (by simp))
              have Hb1 := Lib.hid (below_grow HbX.out (Nat.le_refl _) hgr1' (by simp))
              have HW1 := Lib.hid (HWX.out.kept hgr1' (by cases hv : (Value.slice A' i c').ownBlock <;> simp))
              have hs1 : ko + 1 ≤ Z1.heap.size := Nat.le_trans hsX hgr1.size
              have HR1 := Lib.hid hown1
              clear hown1 hgr1 hgr1' HOX HBX HbX HWX hsX hnews HY1 HY2
              refine hK.out _ _ (heldC_one (fun _ => HO1.out.c1)) (fun hF => ?_)
              clear hK K
              try simp only [Act.put, List.setIfInBounds_toArray, List.set_cons_zero, List.set_cons_succ]
              refine wpG_ready (rs := [4]) (by kernel_rfl) (by simp) ?_
              refine all_one ?_
              refine wpOp_hand (oi := ?oi5) ?hi5 (fun K hK => ?hh5)
              case hi5 => (simp only [List.getElem?_toArray, List.getElem?_cons_succ, List.getElem?_cons_zero]; rfl)
              go_simp
              obtain ⟨Z2, hZ2⟩ : ∃ Z, Z = Z1.alloc (.cells #[.slice (some ⟨g1, 0, none⟩) 2 gc1] 22) := ⟨_, rfl⟩
              have b2 : Below Z1.heap.size Z1 Z2 := by rw [hZ2]; exact (Below.refl _ _).alloc (Nat.le_refl _) _
              have hnews : ∀ j u, [Value.slice (some ⟨g1, 0, none⟩) 2 gc1][j]? = some u → Z2.cell? ((⟨Z1.heap.size, 0, none⟩ : Addr).add j) = some u := by rw [hZ2]; exact cells_one
              rw [← hZ2]
              have HO2 := Lib.hid (HO1.out.below b2)
              have HB2 := Lib.hid (HB1.out.below b2)
              have Hb2 := Lib.hid (Hb1.out.trans (b2.mono Hb1.out.size))
              have HW2 := Lib.hid (own_below HW1.out b2)
              have HR2 := Lib.hid (own_below HR1.out b2)
              have hs2 : ko + 1 ≤ Z2.heap.size := Nat.le_trans hs1 b2.size
              clear hZ2 b2 HO1 HB1 Hb1 HW1 HR1 hs1
              refine hK.out _ _ (heldC_one (fun _ => HO2.out.c1)) (fun hF => ?_)
              clear hK K
              try simp only [Act.put, List.setIfInBounds_toArray, List.set_cons_zero, List.set_cons_succ]
              refine wpG_ready (rs := [5]) (by kernel_rfl) (by simp) ?_
              refine all_one ?_
              refine wpOp_hand (oi := ?oi6) ?hi6 (fun K hK => ?hh6)
              case hi6 => (simp only [List.getElem?_toArray, List.getElem?_cons_succ, List.getElem?_cons_zero]; rfl)
              refine step_append_any (by rfl) (.tmp 89) (.tmp 92) _ (by rfl) (ko + 1) 22 iR _ 1 24 Tryz.underlying26 hR0 hR1 hR2 hR3 rfl (by omega) (.slice none 0 0) 0 [] (by rfl) (World.ownsRow_nil _ _ _ _) ⟨Z1.heap.size, 0, none⟩ 1 1 [.slice (some ⟨g1, 0, none⟩) 2 gc1] (by rfl) rfl hnews (by simp [Value.oneCell']) (by unfold maxLen; omega) (by omega) hs2 ?_
              intro v3 Z3 hown3 hgr3 _
              obtain ⟨g3, gc3, hv3, hlo3, hlt3⟩ := hown3.form (by omega)
              subst hv3
              have hgr3' : Z2.grownBy Z3 none := hgr3
              have HO3 := Lib.hid (HO2.out.grown hgr3' (by simp))
              have HB3 := Lib.hid (HB2.out.grown hgr3' (by simp))
              have Hb3 := Lib.hid (below_grow Hb2.out (Nat.le_refl _) hgr3' (by simp))
              have HW3 := Lib.hid (HW2.out.kept hgr3' (by cases hv : (Value.slice A' i c').ownBlock <;> simp))
              have HR3 := Lib.hid (HR2.out.kept hgr3' (by cases hv : (Value.slice (some ⟨g1, 0, none⟩) 2 gc1).ownBlock <;> simp))
              have hs3 : ko + 1 ≤ Z3.heap.size := Nat.le_trans hs2 hgr3.size
              have HL3 := Lib.hid (show LinR Z3 (ko + 1) (.slice (some ⟨g3, 0, none⟩) 1 gc3) i 1 from .inr ⟨rfl, g3, gc3, g1, gc1, rfl, own_cap' hown3, hlo3, hlo1, by
                have := hown3.cellAt 0 (by omega); simpa using this, own_cap' HR3.out, by
                have := HR3.out.cellAt 0 (by omega); simpa using this, by
                have := HR3.out.cellAt 1 (by omega); simpa using this⟩)
              clear hown3 hgr3 hgr3' HO2 HB2 Hb2 HW2 HR2 hs2 hnews HR3
              refine hK.out _ _ (heldC_one (fun _ => HO3.out.c1)) (fun hF => ?_)
              clear hK K
              try simp only [Act.put, List.setIfInBounds_toArray, List.set_cons_zero, List.set_cons_succ]
              refine wpG_take (oi := ?oi7) (v := ?vv7) 6 _ ?hi7 (List.Mem.head _) ?hc7 ?hQ7 hF ?hw7 ?hy7 (fun hF => ?hh7)
              case hi7 => (simp only [List.getElem?_toArray, List.getElem?_cons_succ, List.getElem?_cons_zero]; rfl)
              case hc7 => kernel_rfl
              case hQ7 => exact fun _ _ _ h => h
              case hw7 => rfl
              case hy7 => (intro wz hz; skip; go_simp; try (with_reducible rfl))
              try simp only [Act.put, List.setIfInBounds_toArray, List.set_cons_zero, List.set_cons_succ]
              refine wpG_ready (rs := [7]) (by kernel_rfl) (by simp) ?_
              refine all_one ?_
              have o1 := HO3.out.c1; have of := HO3.out.free 1; have ol := HO3.out.lt
              refine wpOp_hand (oi := ?oi8) ?hi8 (fun K hK => ?hh8)
              case hi8 => (simp only [List.getElem?_toArray, List.getElem?_cons_succ, List.getElem?_cons_zero]; rfl)
              go_simp
              refine hK.out _ _ (heldC_one (fun h => absurd h (by simp))) (fun hF => ?_)
              clear hK K
              try simp only [Act.put, List.setIfInBounds_toArray, List.set_cons_zero, List.set_cons_succ]
              refine wpG_done (by kernel_rfl) ?_ _
              clear o1 of ol hF
              go_wp2_with fail
              go_roundw
              case rel => exact ⟨1, _, by omega, by go_num, HL3.out.set (by omega), own_set HW3.out (by omega), HB3.out.grown (setCell_grown _ _ _ _) (fun q hq => by have := Option.some.inj hq; omega), HO3.out.set1 _, by simpa using hs3, Hb3.out.setCell (p := ⟨ko, 1, none⟩) (by show w.heap.size ≤ ko; omega) _⟩
              case measure => simp [intOf]; omega
            · obtain rfl : l = m := by omega
              have o0 := HO.out.c0; have o1 := HO.out.c1; have ol := HO.out.lt
              have r0 := HB.out.r.c0; have r1 := HB.out.r.c1; have rf0 := HB.out.r.free 0; have rf1 := HB.out.r.free 1; have rl := HB.out.r.lt
              have n0 : (k + 1 + 1) ≠ ko := by omega
              have HLF := Lib.hid (fun x y => show LinR ((wr.setCell ⟨k + 1 + 1, 0, none⟩ x).setCell ⟨k + 1 + 1, 1, none⟩ y) (ko + 1) u i l from (HL.out.set (by omega)).set (by omega))
              have HWF := Lib.hid (fun x y => own_flat_of (own_set (b := k + 1 + 1) (o := 1) (x := y) (own_set (b := k + 1 + 1) (o := 0) (x := x) HW.out (by omega)) (by omega)))
              have HPT := Lib.hid (show ∀ t, t < i → FrOk (ix (ptNums (fun i => mapC (M 0) (M 1) (M 2) (X i) (Y i)) (fun i => mapC (M 3) (M 4) (M 5) (X i) (Y i)) i) (t * 4)) (ix (ptNums (fun i => mapC (M 0) (M 1) (M 2) (X i) (Y i)) (fun i => mapC (M 3) (M 4) (M 5) (X i) (Y i)) i) (t * 4 + 1)) ∧ FrOk (ix (ptNums (fun i => mapC (M 0) (M 1) (M 2) (X i) (Y i)) (fun i => mapC (M 3) (M 4) (M 5) (X i) (Y i)) i) (t * 4 + 2)) (ix (ptNums (fun i => mapC (M 0) (M 1) (M 2) (X i) (Y i)) (fun i => mapC (M 3) (M 4) (M 5) (X i) (Y i)) i) (t * 4 + 3)) from fun t ht => by
                obtain ⟨e0, e1, e2, e3⟩ := ptNums_at (fun i => mapC (M 0) (M 1) (M 2) (X i) (Y i)) (fun i => mapC (M 3) (M 4) (M 5) (X i) (Y i)) i t ht
                rw [e0, e1, e2, e3]
                exact ⟨(HX.out t ht).r, (HY.out t ht).r⟩)
              have HBF := Lib.hid (fun x y => (Hb.out.setCell (p := ⟨k + 1 + 1, 0, none⟩) (show w.heap.size ≤ k + 1 + 1 by have := HK.out; omega) x).setCell (p := ⟨k + 1 + 1, 1, none⟩) (show w.heap.size ≤ k + 1 + 1 by have := HK.out; omega) y)
              have n2 := Lib.hid H.out.n2
              rcases HL.out with ⟨h0, hu⟩ | ⟨h0, b', bc', g', gc', hu, _⟩
              · subst hu
                go_wp2_with fail
                refine bodyPost_ret (v := .tuple #[.agg #[.slice A' i c', .slice none 0 0], .int .i64 0]) ?_ rfl ⟨A', c', none, 0, by rw [h0], ⟨HWF.out _ _, by omega, fun t ht => (HPT.out t ht).1, fun t ht => (HPT.out t ht).2, by omega, by omega, by omega, fun h => absurd h (by omega)⟩, HBF.out _ _⟩
                simp [results, Tryz.results8, go_sem, *]
              · subst hu
                go_wp2_with fail
                refine bodyPost_ret (v := .tuple #[.agg #[.slice A' i c', .slice (some ⟨b', 0, none⟩) 1 bc'], .int .i64 0]) ?_ rfl ⟨A', c', some ⟨b', 0, none⟩, bc', by rw [h0], ?_, HBF.out _ _⟩
                · simp [results, Tryz.results8, go_sem, *]
                · rcases HLF.out (.slice A' i c') (.slice (some ⟨b', 0, none⟩) 1 bc') with ⟨q0, _⟩ | ⟨_, b2, bc2, g2, gc2, hu2, k1, k2, k3, k4, k5, k6, k7⟩
                  · omega
                  · injection hu2 with q1 _ q3
                    injection q1 with q1
                    injection q1 with q1 _ _
                    subst q1; subst q3
                    exact ⟨HWF.out _ _, by omega, fun t ht => (HPT.out t ht).1, fun t ht => (HPT.out t ht).2, by omega, by omega, n2.out, fun _ => ⟨b', g2, gc2, rfl, k4, k5, k6, k7⟩⟩
end Go.Proofs.YtdifeoahaegjbaaGreatDoor
