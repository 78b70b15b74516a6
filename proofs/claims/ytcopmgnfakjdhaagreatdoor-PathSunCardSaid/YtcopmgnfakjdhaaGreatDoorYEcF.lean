/- eclipse.Find. -/
import Derived.Test.YtcopmgnfakjdhaaGreatDoorYEcW
import Derived.Test.YtcopmgnfakjdhaaGreatDoorYPhasesInOrder
import Derived.Test.YtcopmgnfakjdhaaGreatDoorYReg
namespace Go.Proofs.YtcopmgnfakjdhaaGreatDoor
open Go.RowKit
set_option linter.unusedSimpArgs false
set_option linter.unusedVariables false
section
variable {P : Program} {w : World}
theorem run_max_max3 (ts : Array TypeId) (t : TypeId) (k k' k'' : IntKind) (x y z : Int) : (Builtin.max_ ts t #[.int k x, .int k' y, .int k'' z]).run P w = .ok (.int k (max (max x y) z)) w := by
  have e : ∀ x y : Int, (if x < y then y else x) = max x y := by
    intro x y
    rw [Int.max_def]; split <;> split <;> omega
  simp [Builtin.max_, Builtin.max2, e]
end
attribute [go_sem high] run_max_max3
def q7 (x0 x1 x2 x3 x4 x5 x6 : Value) : Nat → Value
  | 0 => x0 | 1 => x1 | 2 => x2 | 3 => x3 | 4 => x4 | 5 => x5 | _ => x6
def EcBox (w : World) (b : Nat) (x0 x1 x2 x3 x4 x5 x6 : Value) : Prop := w.rowIs b 44 7 (q7 x0 x1 x2 x3 x4 x5 x6)
section
variable {w w' : World} {b : Nat} {x0 x1 x2 x3 x4 x5 x6 : Value}
theorem EcBox.c0 (h : EcBox w b x0 x1 x2 x3 x4 x5 x6) : w.cell? ⟨b, 0, none⟩ = some x0 := World.rowIs.cell h (i := 0) (by omega)
theorem EcBox.c1 (h : EcBox w b x0 x1 x2 x3 x4 x5 x6) : w.cell? ⟨b, 1, none⟩ = some x1 := World.rowIs.cell h (i := 1) (by omega)
theorem EcBox.c2 (h : EcBox w b x0 x1 x2 x3 x4 x5 x6) : w.cell? ⟨b, 2, none⟩ = some x2 := World.rowIs.cell h (i := 2) (by omega)
theorem EcBox.c3 (h : EcBox w b x0 x1 x2 x3 x4 x5 x6) : w.cell? ⟨b, 3, none⟩ = some x3 := World.rowIs.cell h (i := 3) (by omega)
theorem EcBox.c4 (h : EcBox w b x0 x1 x2 x3 x4 x5 x6) : w.cell? ⟨b, 4, none⟩ = some x4 := World.rowIs.cell h (i := 4) (by omega)
theorem EcBox.c5 (h : EcBox w b x0 x1 x2 x3 x4 x5 x6) : w.cell? ⟨b, 5, none⟩ = some x5 := World.rowIs.cell h (i := 5) (by omega)
theorem EcBox.c6 (h : EcBox w b x0 x1 x2 x3 x4 x5 x6) : w.cell? ⟨b, 6, none⟩ = some x6 := World.rowIs.cell h (i := 6) (by omega)
theorem EcBox.free (h : EcBox w b x0 x1 x2 x3 x4 x5 x6) (i : Nat) : w.frozen? ⟨b, i, none⟩ = false := World.rowIs.frozen h i
theorem EcBox.lt (h : EcBox w b x0 x1 x2 x3 x4 x5 x6) : b < w.heap.size := World.rowIs.lt h
theorem EcBox.alloc (h : EcBox w b x0 x1 x2 x3 x4 x5 x6) (o : Obj) : EcBox (w.alloc o) b x0 x1 x2 x3 x4 x5 x6 := World.rowIs.alloc h o
theorem EcBox.drew (h : EcBox w b x0 x1 x2 x3 x4 x5 x6) : EcBox w.drew b x0 x1 x2 x3 x4 x5 x6 := h
theorem EcBox.below (h : EcBox w b x0 x1 x2 x3 x4 x5 x6) (hb : Below w.heap.size w w') : EcBox w' b x0 x1 x2 x3 x4 x5 x6 := World.rowIs.of_block h (hb.block b (World.rowIs.lt h))
theorem EcBox.other (h : EcBox w b x0 x1 x2 x3 x4 x5 x6) {a : Addr} (ha : b ≠ a.block) (v : Value) : EcBox (w.setCell a v) b x0 x1 x2 x3 x4 x5 x6 := World.rowIs.setOther h ha v
end
theorem EcBox.new (w : World) (x0 x1 x2 x3 x4 x5 x6 : Value) : EcBox (w.alloc (.cells #[x0, x1, x2, x3, x4, x5, x6] 44)) w.heap.size x0 x1 x2 x3 x4 x5 x6 :=
  World.rowIs_alloc w #[x0, x1, x2, x3, x4, x5, x6] 44 (q7 x0 x1 x2 x3 x4 x5 x6) (fun i hi => by
    match i, hi with
    | 0, _ => rfl
    | 1, _ => rfl
    | 2, _ => rfl
    | 3, _ => rfl
    | 4, _ => rfl
    | 5, _ => rfl
    | 6, _ => rfl)
theorem EcBox.put {w : World} {b : Nat} {x0 x1 x2 x3 x4 x5 x6 : Value} (h : EcBox w b x0 x1 x2 x3 x4 x5 x6) (y0 y1 y2 y3 y4 y5 y6 : Value) : EcBox (((((((w.setCell ⟨b, 0, none⟩ y0).setCell ⟨b, 1, none⟩ y1).setCell ⟨b, 2, none⟩ y2).setCell ⟨b, 3, none⟩ y3).setCell ⟨b, 4, none⟩ y4).setCell ⟨b, 5, none⟩ y5).setCell ⟨b, 6, none⟩ y6) b y0 y1 y2 y3 y4 y5 y6 :=
  (((((((World.rowIs.set h 0 y0).set 1 y1).set 2 y2).set 3 y3).set 4 y4).set 5 y5).set 6 y6).congr (fun i hi => by
    match i, hi with
    | 0, _ => rfl
    | 1, _ => rfl
    | 2, _ => rfl
    | 3, _ => rfl
    | 4, _ => rfl
    | 5, _ => rfl
    | 6, _ => rfl)
theorem EcBox.put0 {w : World} {b : Nat} {x0 x1 x2 x3 x4 x5 x6 : Value} (h : EcBox w b x0 x1 x2 x3 x4 x5 x6) (y0 : Value) : EcBox (w.setCell ⟨b, 0, none⟩ y0) b y0 x1 x2 x3 x4 x5 x6 :=
  (World.rowIs.set h 0 y0).congr (fun i hi => by
    match i, hi with
    | 0, _ => rfl
    | 1, _ => rfl
    | 2, _ => rfl
    | 3, _ => rfl
    | 4, _ => rfl
    | 5, _ => rfl
    | 6, _ => rfl)
set_option maxHeartbeats 1000000 in
theorem up_all (a b : Int) (w : World) (hb : 2 ≤ b) (h1 : -4000000000000000000 ≤ a) (h2 : a ≤ 4000000000000000000) (hb' : b ≤ 4000000000000000000) : Calls Tryz.prog 49 #[.int .i64 a, .int .i64 b] w fun e w' => e = .returned (.int .i64 (-(-a / b))) ∧ Below w.heap.size w w' := by
  have D := Lib.hid (fun w => down_all (-a) b w (by omega) (by omega) (by omega) (by omega))
  have bb := ediv_bounds (-a) b (by omega) (m := 4000000000000000000) (by omega) (by omega)
  obtain ⟨b1, b2⟩ := bb
  generalize hd : -a / b = d at *
  clear hd
  go_enter Tryz.func49, Tryz.ntmps49
  go_wp2_with fail
  refine Calls.mono (D.out _) ?_
  rintro e w1 ⟨rfl, hb⟩
  have HB := Lib.hid hb
  clear hb
  go_wp2_with fail
  go_ret
  exact ⟨rfl, HB.out⟩
set_option maxRecDepth 100000 in
set_option maxHeartbeats 16000000 in
theorem eFindA_ok (k q : Int) (hk : -100000 ≤ k ∧ k ≤ 100000) (hq : q = 0) (w : World) (hT : SinT w) : Calls Tryz.prog 23 #[.int .i64 k, .int .i64 q] w fun e w' => e = .returned (.tuple #[.agg #[.int .i64 (ecF k q).k, .int .i64 (ecF k q).a, .int .i64 (ecF k q).b, .int .i64 (ecF k q).l, .int .i64 (ecF k q).h, .int .i64 (ecF k q).p, .int .i64 (ecF k q).q], .int .i64 (ecF k q).e]) ∧ Below w.heap.size w w' := by
  have bd := phF_bd (k := k) (q := q) hk.1 hk.2 (by omega) (by omega)
  obtain ⟨c, C⟩ := ph_in (k := k) (q := q) (by omega) (by omega) (by omega) (by omega)
  have wd := C.w
  clear C
  have P := Lib.hid (fun W (hT : SinT W) => PFind_ok k q hk (by omega) W hT)
  have ix : ∀ x : Int, -300000000000001 ≤ x → x ≤ 300000000000001 → instOk x = true := fun x h1 h2 => by unfold instOk dayOk; exact decide_eq_true (by omega)
  have LT := Lib.hid (fun W (hT : SinT W) => latitudes_ok (phF k q).1 (phF k q).2 W hT (ix _ (by omega) (by omega)) (ix _ (by omega) (by omega)) bd.2.1 wd)
  have lb := la_bd bd.2.1 wd
  have EB := Lib.hid (fun w => ebounds_ok q w)
  have tp : 1300000 ≤ ecTot q ∧ ecTot q < ecPart q ∧ ecPart q ≤ 4100000 := by
    rw [hq]; decide
  unfold ecF
  generalize laLo (phF k q).1 (phF k q).2 = l at *
  generalize laHi (phF k q).1 (phF k q).2 = h at *
  generalize (phF k q).1 = a at *
  generalize (phF k q).2 = b at *
  generalize ecTot q = tot at *
  generalize ecPart q = part at *
  have HE := Lib.hid (show ecW a b l h tot part = if part ≤ max (max l (-h)) 0 then ⟨0, a, b, l, h, 0, 0, 0⟩
    else if max h (-l) < tot then ⟨2, a, b, l, h, ((part - max h (-l)) * 1000) / part, -(-((part - max (max l (-h)) 0) * 1000) / part), 0⟩
    else if tot ≤ max (max l (-h)) 0 ∧ max h (-l) < part then ⟨1, a, b, l, h, ((part - max h (-l)) * 1000) / part, -(-((part - max (max l (-h)) 0) * 1000) / part), 0⟩
    else ⟨0, 0, 0, 0, 0, 0, 0, 11⟩ from rfl)
  obtain ⟨r, hr⟩ : ∃ r, r = ecW a b l h tot part := ⟨_, rfl⟩
  rw [← hr] at HE ⊢
  clear hr
  have n1 : wrap64 (-l) = -l := IntWalk.wrap64_in _ (by omega)
  have n2 : wrap64 (-h) = -h := IntWalk.wrap64_in _ (by omega)
  have mb : -15821000 ≤ max h (-l) ∧ max h (-l) ≤ 15821000 := by omega
  have mc : 0 ≤ max (max l (-h)) 0 ∧ max (max l (-h)) 0 ≤ 15821000 := by omega
  obtain ⟨M, hM⟩ : ∃ M, max h (-l) = M := ⟨_, rfl⟩
  obtain ⟨L, hL⟩ : ∃ L, max (max l (-h)) 0 = L := ⟨_, rfl⟩
  rw [hM] at mb HE
  rw [hL] at mc HE
  have d1 : wrap64 (part - M) = part - M := IntWalk.wrap64_in _ (by omega)
  have d2 : wrap64 (part - L) = part - L := IntWalk.wrap64_in _ (by omega)
  have d3 : wrap64 ((part - M) * 1000) = (part - M) * 1000 := IntWalk.wrap64_in _ (by omega)
  have d4 : wrap64 ((part - L) * 1000) = (part - L) * 1000 := IntWalk.wrap64_in _ (by omega)
  have DN := Lib.hid (fun w => down_all ((part - M) * 1000) part w (by omega) (by omega) (by omega) (by omega))
  have UP := Lib.hid (fun w => up_all ((part - L) * 1000) part w (by omega) (by omega) (by omega) (by omega))
  generalize (part - M) * 1000 / part = g1 at *
  generalize -(-((part - L) * 1000) / part) = g2 at *
  have HR : Hid ((part ≤ L → 0 = r.k ∧ a = r.a ∧ b = r.b ∧ l = r.l ∧ h = r.h ∧ 0 = r.p ∧ 0 = r.q ∧ 0 = r.e)
      ∧ (¬ part ≤ L → M < tot → 2 = r.k ∧ a = r.a ∧ b = r.b ∧ l = r.l ∧ h = r.h ∧ g1 = r.p ∧ g2 = r.q ∧ 0 = r.e)
      ∧ (¬ part ≤ L → ¬ M < tot → tot ≤ L → M < part → 1 = r.k ∧ a = r.a ∧ b = r.b ∧ l = r.l ∧ h = r.h ∧ g1 = r.p ∧ g2 = r.q ∧ 0 = r.e)
      ∧ (¬ part ≤ L → ¬ M < tot → ¬ (tot ≤ L ∧ M < part) → 0 = r.k ∧ 0 = r.a ∧ 0 = r.b ∧ 0 = r.l ∧ 0 = r.h ∧ 0 = r.p ∧ 0 = r.q ∧ 11 = r.e)) := by
    have he := HE.out
    refine Lib.hid ⟨fun c => ?_, fun c d => ?_, fun c d e f => ?_, fun c d e => ?_⟩
    · rw [if_pos c] at he; rw [he]; exact ⟨rfl, rfl, rfl, rfl, rfl, rfl, rfl, rfl⟩
    · rw [if_neg c, if_pos d] at he; rw [he]; exact ⟨rfl, rfl, rfl, rfl, rfl, rfl, rfl, rfl⟩
    · rw [if_neg c, if_neg d, if_pos ⟨e, f⟩] at he; rw [he]; exact ⟨rfl, rfl, rfl, rfl, rfl, rfl, rfl, rfl⟩
    · rw [if_neg c, if_neg d, if_neg e] at he; rw [he]; exact ⟨rfl, rfl, rfl, rfl, rfl, rfl, rfl, rfl⟩
  clear HE
  generalize r.k = r0 at *
  generalize r.a = r1 at *
  generalize r.b = r2 at *
  generalize r.l = r3 at *
  generalize r.h = r4 at *
  generalize r.p = r5 at *
  generalize r.q = r6 at *
  generalize r.e = r7 at *
  clear r
  have HT := Lib.hid hT
  clear hT bd wd lb tp mb mc ix hk
  have S1 := EcBox.new w (.int .i64 0) (.int .i64 0) (.int .i64 0) (.int .i64 0) (.int .i64 0) (.int .i64 0) (.int .i64 0)
  have HB0 := (Below.refl w.heap.size w).alloc (Nat.le_refl _) (.cells #[.int .i64 0, .int .i64 0, .int .i64 0, .int .i64 0, .int .i64 0, .int .i64 0, .int .i64 0] 44)
  obtain ⟨k1, hk1⟩ : ∃ x, x = w.heap.size := ⟨_, rfl⟩
  rw [← hk1] at S1
  have Hkl1 := Lib.hid (Nat.le_of_eq hk1.symm)
  have HB := Lib.hid (Below.refl w.heap.size w)
  clear HB
  go_enter Tryz.func23, Tryz.ntmps23
  go_upto_region 1 with fail
  rw [← hk1]
  obtain ⟨X1, hX1⟩ : ∃ X, X = w.alloc (.cells #[.int .i64 0, .int .i64 0, .int .i64 0, .int .i64 0, .int .i64 0, .int .i64 0, .int .i64 0] 44) := ⟨_, rfl⟩
  rw [← hX1] at S1 HB0 ⊢
  have s1 := Lib.hid S1
  have HB := Lib.hid HB0
  clear hX1 hk1 S1 HB0
  subst hq
  go_wp2_with fail
  refine Calls.mono (P.out _ (HT.out.below HB.out)) ?_
  rintro e wn2 ⟨rfl, hb⟩
  have Hd2_1 := Lib.hid (s1.out.below hb).lt
  replace s1 := Lib.hid ((s1.out.below hb).alloc (.cells #[.int .i64 (a), .int .i64 (b)] 28))
  have HB2 := HB.out.trans (hb.mono HB.out.size)
  clear hb
  have Hkl2 := Lib.hid HB2.size; replace HB := Lib.hid (HB2.alloc HB2.size (.cells #[.int .i64 (a), .int .i64 (b)] 28))
  clear HB2
  have s2 := Lib.hid (SpBox.new wn2 (a) (b))
  obtain ⟨k2, hk2⟩ : ∃ x, x = wn2.heap.size := ⟨_, rfl⟩
  rw [← hk2] at s2 Hkl2 Hd2_1
  go_upto_region 4 with fail
  rw [← hk2]
  obtain ⟨X2, hX2⟩ : ∃ X, X = wn2.alloc (.cells #[.int .i64 (a), .int .i64 (b)] 28) := ⟨_, rfl⟩
  rw [← hX2] at s1 s2 HB ⊢
  clear hk2 hX2
  go_upto_region 6 with fail
  obtain ⟨XD1, hXD1⟩ : ∃ x, x = X2.drew := ⟨_, rfl⟩
  have hf : EcBox XD1 (k1) (.int .i64 0) (.int .i64 0) (.int .i64 0) (.int .i64 0) (.int .i64 0) (.int .i64 0) (.int .i64 0) ∧ SpBox XD1 (k2) (a) (b) ∧ Below w.heap.size w XD1 := by rw [hXD1]; exact ⟨s1.out.drew, s2.out.drew, HB.out.drew⟩
  have HXD1 := Lib.hid hXD1; clear hXD1 s1 s2 HB
  go_cut [8] (fun sv wx => ∃ bn : Nat, sv = .pointer (some ⟨bn, 0, none⟩) ∧ Hid (w.heap.size ≤ bn) ∧ Hid (EcBox wx bn (.int .i64 0) (.int .i64 a) (.int .i64 b) (.int .i64 l) (.int .i64 h) (.int .i64 0) (.int .i64 0)) ∧ Hid (EcBox wx (k1) (.int .i64 0) (.int .i64 0) (.int .i64 0) (.int .i64 0) (.int .i64 0) (.int .i64 0) (.int .i64 0)) ∧ Hid (SpBox wx (k2) (a) (b)) ∧ Hid (k1 < bn) ∧ Hid (k2 < bn) ∧ Hid (Below w.heap.size w wx))
  case first =>
    refine wp_region_G [(5, fun w' => EcBox w' (k1) (.int .i64 0) (.int .i64 0) (.int .i64 0) (.int .i64 0) (.int .i64 0) (.int .i64 0) (.int .i64 0) ∧ SpBox w' (k2) (a) (b) ∧ Below w.heap.size w w')] (by kernel_rfl) (heldC_one (fun _ => by rw [← HXD1.out]; exact hf)) (fun hF => ?_)
    rw [← HXD1.out] at hF ⊢
    refine gT (oi := ?o1) (v := ?v1) 0 ?i1 ?Q1 hF ?w1 ?y1 (by kernel_rfl) (fun hF => ?h1)
    case i1 => (simp only [gA, gB, gC]; rfl)
    case Q1 => exact fun _ _ _ h => h
    case w1 => rfl
    case y1 => (intro wz hz; have z0 := hz.2.1.c0; have z1 := hz.2.1.c1; go_simp; try (with_reducible rfl))
    try simp only [Act.put, uA, uB, uC]
    refine gT (oi := ?o2) (v := ?v2) 1 ?i2 ?Q2 hF ?w2 ?y2 (by kernel_rfl) (fun hF => ?h2)
    case i2 => (simp only [gA, gB, gC]; rfl)
    case Q2 => exact fun _ _ _ h => h
    case w2 => rfl
    case y2 => (intro wz hz; have z0 := hz.2.1.c0; have z1 := hz.2.1.c1; go_simp; try (with_reducible rfl))
    try simp only [Act.put, uA, uB, uC]
    refine gS (i := 2) (j := 4) (by kernel_rfl) ?_ ?_
    · skip
      refine wpOp_hand (oi := ?oi3) ?hi3 (fun K hK => ?hh3)
      case hi3 => (simp only [gA, gB, gC]; rfl)
      go_simp
      refine Calls.mono (LT.out _ (HT.out.below hf.2.2)) ?_
      rintro e Va1_1 ⟨rfl, hb⟩
      have hfn : EcBox Va1_1 (k1) (.int .i64 0) (.int .i64 0) (.int .i64 0) (.int .i64 0) (.int .i64 0) (.int .i64 0) (.int .i64 0) ∧ SpBox Va1_1 (k2) (a) (b) ∧ Below w.heap.size w Va1_1 := ⟨hf.1.below hb, hf.2.1.below hb, hf.2.2.trans (hb.mono hf.2.2.size)⟩
      clear hf hb
      have hf := hfn
      clear hfn
      refine hK.out _ _ (heldC_one (fun _ => hf)) (fun hF => ?_)
      clear hK K
      try simp only [Act.put, uA, uB, uC]
      refine gT (oi := ?o4) (v := ?v4) 3 ?i4 ?Q4 hF ?w4 ?y4 (by kernel_rfl) (fun hF => ?h4)
      case i4 => (simp only [gA, gB, gC]; rfl)
      case Q4 => exact fun _ _ _ h => h
      case w4 => rfl
      case y4 => (intro wz hz; skip; go_simp; try (with_reducible rfl))
      try simp only [Act.put, uA, uB, uC]
      refine gR (i := 4) (by kernel_rfl) ?_
      refine wpOp_hand (oi := ?oi5) ?hi5 (fun K hK => ?hh5)
      case hi5 => (simp only [gA, gB, gC]; rfl)
      go_simp
      have dl0 := hf.1.lt
      have dl1 := hf.2.1.lt
      have ds := hf.2.2.size
      have hn := EcBox.new Va1_1 (.int .i64 0) (.int .i64 0) (.int .i64 0) (.int .i64 0) (.int .i64 0) (.int .i64 0) (.int .i64 0)
      obtain ⟨bn, hbn⟩ : ∃ b, b = Va1_1.heap.size := ⟨_, rfl⟩
      obtain ⟨Ya1_2, hY⟩ : ∃ Y, Y = Va1_1.alloc (.cells #[.int .i64 0, .int .i64 0, .int .i64 0, .int .i64 0, .int .i64 0, .int .i64 0, .int .i64 0] 44) := ⟨_, rfl⟩
      have hfn : EcBox Ya1_2 (k1) (.int .i64 0) (.int .i64 0) (.int .i64 0) (.int .i64 0) (.int .i64 0) (.int .i64 0) (.int .i64 0) ∧ SpBox Ya1_2 (k2) (a) (b) ∧ Below w.heap.size w Ya1_2 := by rw [hY]; exact ⟨hf.1.alloc _, hf.2.1.alloc _, hf.2.2.alloc ds _⟩
      rw [← hY] at hn ⊢
      rw [← hbn] at hn ds dl0 dl1 ⊢
      clear hf
      have hf := hfn
      clear hfn hY hbn
      refine hK.out _ _ (heldC_one (fun _ => hf)) (fun hF => ?_)
      clear hK K
      try simp only [Act.put, uA, uB, uC]
      refine gR (i := 5) (by kernel_rfl) ?_
      have zz0 := hn.c0; have zz0f := hn.free 0; have zz1 := hn.c1; have zz1f := hn.free 1; have zz2 := hn.c2; have zz2f := hn.free 2; have zz3 := hn.c3; have zz3f := hn.free 3; have zz4 := hn.c4; have zz4f := hn.free 4; have zz5 := hn.c5; have zz5f := hn.free 5; have zz6 := hn.c6; have zz6f := hn.free 6; have zzl := hn.lt
      refine wpOp_hand (oi := ?oi6) ?hi6 (fun K hK => ?hh6)
      case hi6 => (simp only [gA, gB, gC]; rfl)
      go_simp
      have hnn := hn.put (.int .i64 0) (.int .i64 a) (.int .i64 b) (.int .i64 l) (.int .i64 h) (.int .i64 0) (.int .i64 0)
      have hfn : EcBox (((((((Ya1_2.setCell ⟨bn, 0, none⟩ (.int .i64 0)).setCell ⟨bn, 1, none⟩ (.int .i64 a)).setCell ⟨bn, 2, none⟩ (.int .i64 b)).setCell ⟨bn, 3, none⟩ (.int .i64 l)).setCell ⟨bn, 4, none⟩ (.int .i64 h)).setCell ⟨bn, 5, none⟩ (.int .i64 0)).setCell ⟨bn, 6, none⟩ (.int .i64 0)) (k1) (.int .i64 0) (.int .i64 0) (.int .i64 0) (.int .i64 0) (.int .i64 0) (.int .i64 0) (.int .i64 0) ∧ SpBox (((((((Ya1_2.setCell ⟨bn, 0, none⟩ (.int .i64 0)).setCell ⟨bn, 1, none⟩ (.int .i64 a)).setCell ⟨bn, 2, none⟩ (.int .i64 b)).setCell ⟨bn, 3, none⟩ (.int .i64 l)).setCell ⟨bn, 4, none⟩ (.int .i64 h)).setCell ⟨bn, 5, none⟩ (.int .i64 0)).setCell ⟨bn, 6, none⟩ (.int .i64 0)) (k2) (a) (b) ∧ Below w.heap.size w (((((((Ya1_2.setCell ⟨bn, 0, none⟩ (.int .i64 0)).setCell ⟨bn, 1, none⟩ (.int .i64 a)).setCell ⟨bn, 2, none⟩ (.int .i64 b)).setCell ⟨bn, 3, none⟩ (.int .i64 l)).setCell ⟨bn, 4, none⟩ (.int .i64 h)).setCell ⟨bn, 5, none⟩ (.int .i64 0)).setCell ⟨bn, 6, none⟩ (.int .i64 0)) := ⟨(((((((hf.1.other (by (try dsimp only); omega) _).other (by (try dsimp only); omega) _).other (by (try dsimp only); omega) _).other (by (try dsimp only); omega) _).other (by (try dsimp only); omega) _).other (by (try dsimp only); omega) _).other (by (try dsimp only); omega) _), (((((((hf.2.1.other (by (try dsimp only); omega) _).other (by (try dsimp only); omega) _).other (by (try dsimp only); omega) _).other (by (try dsimp only); omega) _).other (by (try dsimp only); omega) _).other (by (try dsimp only); omega) _).other (by (try dsimp only); omega) _), (((((((hf.2.2.setCell (p := ⟨bn, 0, none⟩) ds _).setCell (p := ⟨bn, 1, none⟩) ds _).setCell (p := ⟨bn, 2, none⟩) ds _).setCell (p := ⟨bn, 3, none⟩) ds _).setCell (p := ⟨bn, 4, none⟩) ds _).setCell (p := ⟨bn, 5, none⟩) ds _).setCell (p := ⟨bn, 6, none⟩) ds _)⟩
      refine hK.out _ _ (heldC_one (fun h => absurd h (by simp))) (fun hF => ?_)
      clear hK K
      try simp only [Act.put, uA, uB, uC]
      refine wpG_done (by kernel_rfl) ?_ _
      clear hf zz0 zz0f zz1 zz1f zz2 zz2f zz3 zz3f zz4 zz4f zz5 zz5f zz6 zz6f zzl hn
      go_wp2_with fail
      go_meet
      exact ⟨bn, rfl, Lib.hid ds, Lib.hid hnn, Lib.hid hfn.1, Lib.hid hfn.2.1, Lib.hid dl0, Lib.hid dl1, Lib.hid hfn.2.2⟩
    · skip
      refine wpOp_hand (oi := ?oi7) ?hi7 (fun K hK => ?hh7)
      case hi7 => (simp only [gA, gB, gC]; rfl)
      go_simp
      have dl0 := hf.1.lt
      have dl1 := hf.2.1.lt
      have ds := hf.2.2.size
      have hn := EcBox.new XD1 (.int .i64 0) (.int .i64 0) (.int .i64 0) (.int .i64 0) (.int .i64 0) (.int .i64 0) (.int .i64 0)
      obtain ⟨bn, hbn⟩ : ∃ b, b = XD1.heap.size := ⟨_, rfl⟩
      obtain ⟨Ya1_3, hY⟩ : ∃ Y, Y = XD1.alloc (.cells #[.int .i64 0, .int .i64 0, .int .i64 0, .int .i64 0, .int .i64 0, .int .i64 0, .int .i64 0] 44) := ⟨_, rfl⟩
      have hfn : EcBox Ya1_3 (k1) (.int .i64 0) (.int .i64 0) (.int .i64 0) (.int .i64 0) (.int .i64 0) (.int .i64 0) (.int .i64 0) ∧ SpBox Ya1_3 (k2) (a) (b) ∧ Below w.heap.size w Ya1_3 := by rw [hY]; exact ⟨hf.1.alloc _, hf.2.1.alloc _, hf.2.2.alloc ds _⟩
      rw [← hY] at hn ⊢
      rw [← hbn] at hn ds dl0 dl1 ⊢
      clear hf
      have hf := hfn
      clear hfn hY hbn
      refine hK.out _ _ (heldC_one (fun _ => hf)) (fun hF => ?_)
      clear hK K
      try simp only [Act.put, uA, uB, uC]
      refine gR (i := 2) (by kernel_rfl) ?_
      refine wpOp_hand (oi := ?oi8) ?hi8 (fun K hK => ?hh8)
      case hi8 => (simp only [gA, gB, gC]; rfl)
      go_simp
      refine Calls.mono (LT.out _ (HT.out.below hf.2.2)) ?_
      rintro e Va1_4 ⟨rfl, hb⟩
      have hnn := hn.below hb; clear hn; have hn := hnn; clear hnn
      have hfn : EcBox Va1_4 (k1) (.int .i64 0) (.int .i64 0) (.int .i64 0) (.int .i64 0) (.int .i64 0) (.int .i64 0) (.int .i64 0) ∧ SpBox Va1_4 (k2) (a) (b) ∧ Below w.heap.size w Va1_4 := ⟨hf.1.below hb, hf.2.1.below hb, hf.2.2.trans (hb.mono hf.2.2.size)⟩
      clear hf hb
      have hf := hfn
      clear hfn
      refine hK.out _ _ (heldC_one (fun _ => hf)) (fun hF => ?_)
      clear hK K
      try simp only [Act.put, uA, uB, uC]
      refine gT (oi := ?o9) (v := ?v9) 3 ?i9 ?Q9 hF ?w9 ?y9 (by kernel_rfl) (fun hF => ?h9)
      case i9 => (simp only [gA, gB, gC]; rfl)
      case Q9 => exact fun _ _ _ h => h
      case w9 => rfl
      case y9 => (intro wz hz; skip; go_simp; try (with_reducible rfl))
      try simp only [Act.put, uA, uB, uC]
      refine gR (i := 5) (by kernel_rfl) ?_
      have zz0 := hn.c0; have zz0f := hn.free 0; have zz1 := hn.c1; have zz1f := hn.free 1; have zz2 := hn.c2; have zz2f := hn.free 2; have zz3 := hn.c3; have zz3f := hn.free 3; have zz4 := hn.c4; have zz4f := hn.free 4; have zz5 := hn.c5; have zz5f := hn.free 5; have zz6 := hn.c6; have zz6f := hn.free 6; have zzl := hn.lt
      refine wpOp_hand (oi := ?oi10) ?hi10 (fun K hK => ?hh10)
      case hi10 => (simp only [gA, gB, gC]; rfl)
      go_simp
      have hnn := hn.put (.int .i64 0) (.int .i64 a) (.int .i64 b) (.int .i64 l) (.int .i64 h) (.int .i64 0) (.int .i64 0)
      have hfn : EcBox (((((((Va1_4.setCell ⟨bn, 0, none⟩ (.int .i64 0)).setCell ⟨bn, 1, none⟩ (.int .i64 a)).setCell ⟨bn, 2, none⟩ (.int .i64 b)).setCell ⟨bn, 3, none⟩ (.int .i64 l)).setCell ⟨bn, 4, none⟩ (.int .i64 h)).setCell ⟨bn, 5, none⟩ (.int .i64 0)).setCell ⟨bn, 6, none⟩ (.int .i64 0)) (k1) (.int .i64 0) (.int .i64 0) (.int .i64 0) (.int .i64 0) (.int .i64 0) (.int .i64 0) (.int .i64 0) ∧ SpBox (((((((Va1_4.setCell ⟨bn, 0, none⟩ (.int .i64 0)).setCell ⟨bn, 1, none⟩ (.int .i64 a)).setCell ⟨bn, 2, none⟩ (.int .i64 b)).setCell ⟨bn, 3, none⟩ (.int .i64 l)).setCell ⟨bn, 4, none⟩ (.int .i64 h)).setCell ⟨bn, 5, none⟩ (.int .i64 0)).setCell ⟨bn, 6, none⟩ (.int .i64 0)) (k2) (a) (b) ∧ Below w.heap.size w (((((((Va1_4.setCell ⟨bn, 0, none⟩ (.int .i64 0)).setCell ⟨bn, 1, none⟩ (.int .i64 a)).setCell ⟨bn, 2, none⟩ (.int .i64 b)).setCell ⟨bn, 3, none⟩ (.int .i64 l)).setCell ⟨bn, 4, none⟩ (.int .i64 h)).setCell ⟨bn, 5, none⟩ (.int .i64 0)).setCell ⟨bn, 6, none⟩ (.int .i64 0)) := ⟨(((((((hf.1.other (by (try dsimp only); omega) _).other (by (try dsimp only); omega) _).other (by (try dsimp only); omega) _).other (by (try dsimp only); omega) _).other (by (try dsimp only); omega) _).other (by (try dsimp only); omega) _).other (by (try dsimp only); omega) _), (((((((hf.2.1.other (by (try dsimp only); omega) _).other (by (try dsimp only); omega) _).other (by (try dsimp only); omega) _).other (by (try dsimp only); omega) _).other (by (try dsimp only); omega) _).other (by (try dsimp only); omega) _).other (by (try dsimp only); omega) _), (((((((hf.2.2.setCell (p := ⟨bn, 0, none⟩) ds _).setCell (p := ⟨bn, 1, none⟩) ds _).setCell (p := ⟨bn, 2, none⟩) ds _).setCell (p := ⟨bn, 3, none⟩) ds _).setCell (p := ⟨bn, 4, none⟩) ds _).setCell (p := ⟨bn, 5, none⟩) ds _).setCell (p := ⟨bn, 6, none⟩) ds _)⟩
      refine hK.out _ _ (heldC_one (fun h => absurd h (by simp))) (fun hF => ?_)
      clear hK K
      try simp only [Act.put, uA, uB, uC]
      refine wpG_done (by kernel_rfl) ?_ _
      clear hf zz0 zz0f zz1 zz1f zz2 zz2f zz3 zz3f zz4 zz4f zz5 zz5f zz6 zz6f zzl hn
      go_wp2_with fail
      go_meet
      exact ⟨bn, rfl, Lib.hid ds, Lib.hid hnn, Lib.hid hfn.1, Lib.hid hfn.2.1, Lib.hid dl0, Lib.hid dl1, Lib.hid hfn.2.2⟩
  case rest =>
  obtain ⟨k3, rfl, Hkl3, s3, s1, s2, Hd3_1, Hd3_2, HB⟩ := hcut
  obtain ⟨X3, hX3⟩ : ∃ X, X = wc := ⟨_, rfl⟩
  subst hX3
  clear HXD1 hf
  go_wp2_with fail
  refine Calls.mono (EB.out _) ?_
  rintro e wq ⟨rfl, hq⟩
  (first | rw [hq] | rw [← hq])
  clear hq
  have ne1_3 := Nat.ne_of_lt Hd3_1.out; have ne3_1 := Nat.ne_of_gt Hd3_1.out
  have ky := Hkl1.out
  by_cases c1 : part ≤ L
  · obtain ⟨rfl, rfl, rfl, rfl, rfl, rfl, rfl, rfl⟩ := HR.out.1 (by omega)
    clear HR
    have y1_0 := s1.out.c0; have f1_0 := s1.out.free 0; have y1_1 := s1.out.c1; have f1_1 := s1.out.free 1; have y1_2 := s1.out.c2; have f1_2 := s1.out.free 2; have y1_3 := s1.out.c3; have f1_3 := s1.out.free 3; have y1_4 := s1.out.c4; have f1_4 := s1.out.free 4; have y1_5 := s1.out.c5; have f1_5 := s1.out.free 5; have y1_6 := s1.out.c6; have f1_6 := s1.out.free 6; have l1 := s1.out.lt
    have y3_0 := s3.out.c0; have y3_1 := s3.out.c1; have y3_2 := s3.out.c2; have y3_3 := s3.out.c3; have y3_4 := s3.out.c4; have y3_5 := s3.out.c5; have y3_6 := s3.out.c6; have l3 := s3.out.lt
    go_wp2_with fail
    refine bodyPost_ret (v := _) ?_ rfl ⟨rfl, ?_⟩
    · simp [results, Tryz.results23, go_sem, *]
    · refine Below.setCell (Below.setCell (Below.setCell (Below.setCell (Below.setCell (Below.setCell (Below.setCell (HB.out) ?_ _) ?_ _) ?_ _) ?_ _) ?_ _) ?_ _) ?_ _
      all_goals (first | (simp only [World.size_setCell]; omega) | (dsimp only; omega))
  · by_cases c2 : M < tot
    · skip
      obtain ⟨rfl, rfl, rfl, rfl, rfl, rfl, rfl, rfl⟩ := HR.out.2.1 (by omega) (by omega)
      clear HR
      clear s2
      have y3_0 := s3.out.c0; have f3_0 := s3.out.free 0; have y3_1 := s3.out.c1; have f3_1 := s3.out.free 1; have y3_2 := s3.out.c2; have f3_2 := s3.out.free 2; have y3_3 := s3.out.c3; have f3_3 := s3.out.free 3; have y3_4 := s3.out.c4; have f3_4 := s3.out.free 4; have y3_5 := s3.out.c5; have f3_5 := s3.out.free 5; have y3_6 := s3.out.c6; have f3_6 := s3.out.free 6; have l3 := s3.out.lt
      go_upto_region 17 with fail
      clear y3_0 f3_0 y3_1 f3_1 y3_2 f3_2 y3_3 f3_3 y3_4 f3_4 y3_5 f3_5 y3_6 f3_6 l3
      have t3 := s3.out.put0 (.int .i64 2)
      have t1 := s1.out.other (a := ⟨k3, 0, none⟩) (by dsimp only; omega) (.int .i64 2)
      have tB := HB.out.setCell (p := ⟨k3, 0, none⟩) Hkl3.out (.int .i64 2)
      obtain ⟨Y, hY⟩ : ∃ Y, Y = X3.setCell ⟨k3, 0, none⟩ (.int .i64 2) := ⟨_, rfl⟩
      rw [← hY] at t1 t3 tB ⊢
      clear hY s1 s3 HB
      have s1 := Lib.hid t1; have s3 := Lib.hid t3; have HB := Lib.hid tB
      clear t1 t3 tB
      go_wp2_with fail
      refine Calls.mono (DN.out _) ?_
      rintro e wc1 ⟨rfl, hb⟩
      replace s1 := Lib.hid (s1.out.below hb)
      replace s3 := Lib.hid (s3.out.below hb)
      replace HB := Lib.hid (HB.out.trans (hb.mono HB.out.size))
      clear hb
      go_wp2_with fail
      refine Calls.mono (UP.out _) ?_
      rintro e wc2 ⟨rfl, hb⟩
      replace s1 := Lib.hid (s1.out.below hb)
      replace s3 := Lib.hid (s3.out.below hb)
      replace HB := Lib.hid (HB.out.trans (hb.mono HB.out.size))
      clear hb
      have y1_0 := s1.out.c0; have f1_0 := s1.out.free 0; have y1_1 := s1.out.c1; have f1_1 := s1.out.free 1; have y1_2 := s1.out.c2; have f1_2 := s1.out.free 2; have y1_3 := s1.out.c3; have f1_3 := s1.out.free 3; have y1_4 := s1.out.c4; have f1_4 := s1.out.free 4; have y1_5 := s1.out.c5; have f1_5 := s1.out.free 5; have y1_6 := s1.out.c6; have f1_6 := s1.out.free 6; have l1 := s1.out.lt
      have y3_0 := s3.out.c0; have f3_0 := s3.out.free 0; have y3_1 := s3.out.c1; have f3_1 := s3.out.free 1; have y3_2 := s3.out.c2; have f3_2 := s3.out.free 2; have y3_3 := s3.out.c3; have f3_3 := s3.out.free 3; have y3_4 := s3.out.c4; have f3_4 := s3.out.free 4; have y3_5 := s3.out.c5; have f3_5 := s3.out.free 5; have y3_6 := s3.out.c6; have f3_6 := s3.out.free 6; have l3 := s3.out.lt
      have k3' := Hkl3.out
      go_wp2_with fail
      refine bodyPost_ret (v := _) ?_ rfl ⟨rfl, ?_⟩
      · simp [results, Tryz.results23, go_sem, *]
      · refine Below.setCell (Below.setCell (Below.setCell (Below.setCell (Below.setCell (Below.setCell (Below.setCell (Below.setCell (Below.setCell (HB.out) ?_ _) ?_ _) ?_ _) ?_ _) ?_ _) ?_ _) ?_ _) ?_ _) ?_ _
        all_goals (first | (simp only [World.size_setCell]; omega) | (dsimp only; omega))
    · skip
      by_cases c3 : tot ≤ L
      · by_cases c4 : M < part
        · skip
          obtain ⟨rfl, rfl, rfl, rfl, rfl, rfl, rfl, rfl⟩ := HR.out.2.2.1 (by omega) (by omega) (by omega) (by omega)
          clear HR
          clear s2
          have y3_0 := s3.out.c0; have f3_0 := s3.out.free 0; have y3_1 := s3.out.c1; have f3_1 := s3.out.free 1; have y3_2 := s3.out.c2; have f3_2 := s3.out.free 2; have y3_3 := s3.out.c3; have f3_3 := s3.out.free 3; have y3_4 := s3.out.c4; have f3_4 := s3.out.free 4; have y3_5 := s3.out.c5; have f3_5 := s3.out.free 5; have y3_6 := s3.out.c6; have f3_6 := s3.out.free 6; have l3 := s3.out.lt
          go_upto_region 17 with fail
          clear y3_0 f3_0 y3_1 f3_1 y3_2 f3_2 y3_3 f3_3 y3_4 f3_4 y3_5 f3_5 y3_6 f3_6 l3
          have t3 := s3.out.put0 (.int .i64 1)
          have t1 := s1.out.other (a := ⟨k3, 0, none⟩) (by dsimp only; omega) (.int .i64 1)
          have tB := HB.out.setCell (p := ⟨k3, 0, none⟩) Hkl3.out (.int .i64 1)
          obtain ⟨Y, hY⟩ : ∃ Y, Y = X3.setCell ⟨k3, 0, none⟩ (.int .i64 1) := ⟨_, rfl⟩
          rw [← hY] at t1 t3 tB ⊢
          clear hY s1 s3 HB
          have s1 := Lib.hid t1; have s3 := Lib.hid t3; have HB := Lib.hid tB
          clear t1 t3 tB
          go_wp2_with fail
          refine Calls.mono (DN.out _) ?_
          rintro e wc1 ⟨rfl, hb⟩
          replace s1 := Lib.hid (s1.out.below hb)
          replace s3 := Lib.hid (s3.out.below hb)
          replace HB := Lib.hid (HB.out.trans (hb.mono HB.out.size))
          clear hb
          go_wp2_with fail
          refine Calls.mono (UP.out _) ?_
          rintro e wc2 ⟨rfl, hb⟩
          replace s1 := Lib.hid (s1.out.below hb)
          replace s3 := Lib.hid (s3.out.below hb)
          replace HB := Lib.hid (HB.out.trans (hb.mono HB.out.size))
          clear hb
          have y1_0 := s1.out.c0; have f1_0 := s1.out.free 0; have y1_1 := s1.out.c1; have f1_1 := s1.out.free 1; have y1_2 := s1.out.c2; have f1_2 := s1.out.free 2; have y1_3 := s1.out.c3; have f1_3 := s1.out.free 3; have y1_4 := s1.out.c4; have f1_4 := s1.out.free 4; have y1_5 := s1.out.c5; have f1_5 := s1.out.free 5; have y1_6 := s1.out.c6; have f1_6 := s1.out.free 6; have l1 := s1.out.lt
          have y3_0 := s3.out.c0; have f3_0 := s3.out.free 0; have y3_1 := s3.out.c1; have f3_1 := s3.out.free 1; have y3_2 := s3.out.c2; have f3_2 := s3.out.free 2; have y3_3 := s3.out.c3; have f3_3 := s3.out.free 3; have y3_4 := s3.out.c4; have f3_4 := s3.out.free 4; have y3_5 := s3.out.c5; have f3_5 := s3.out.free 5; have y3_6 := s3.out.c6; have f3_6 := s3.out.free 6; have l3 := s3.out.lt
          have k3' := Hkl3.out
          go_wp2_with fail
          refine bodyPost_ret (v := _) ?_ rfl ⟨rfl, ?_⟩
          · simp [results, Tryz.results23, go_sem, *]
          · refine Below.setCell (Below.setCell (Below.setCell (Below.setCell (Below.setCell (Below.setCell (Below.setCell (Below.setCell (Below.setCell (HB.out) ?_ _) ?_ _) ?_ _) ?_ _) ?_ _) ?_ _) ?_ _) ?_ _) ?_ _
            all_goals (first | (simp only [World.size_setCell]; omega) | (dsimp only; omega))
        · skip
          obtain ⟨rfl, rfl, rfl, rfl, rfl, rfl, rfl, rfl⟩ := HR.out.2.2.2 (by omega) (by omega) (by omega)
          clear HR
          have y1_0 := s1.out.c0; have f1_0 := s1.out.free 0; have y1_1 := s1.out.c1; have f1_1 := s1.out.free 1; have y1_2 := s1.out.c2; have f1_2 := s1.out.free 2; have y1_3 := s1.out.c3; have f1_3 := s1.out.free 3; have y1_4 := s1.out.c4; have f1_4 := s1.out.free 4; have y1_5 := s1.out.c5; have f1_5 := s1.out.free 5; have y1_6 := s1.out.c6; have f1_6 := s1.out.free 6; have l1 := s1.out.lt
          have y3_0 := s3.out.c0; have y3_1 := s3.out.c1; have y3_2 := s3.out.c2; have y3_3 := s3.out.c3; have y3_4 := s3.out.c4; have y3_5 := s3.out.c5; have y3_6 := s3.out.c6; have l3 := s3.out.lt
          go_wp2_with fail
          refine bodyPost_ret (v := _) ?_ rfl ⟨rfl, ?_⟩
          · simp [results, Tryz.results23, go_sem, *]
          · refine Below.setCell (Below.setCell (Below.setCell (Below.setCell (Below.setCell (Below.setCell (Below.setCell (HB.out) ?_ _) ?_ _) ?_ _) ?_ _) ?_ _) ?_ _) ?_ _
            all_goals (first | (simp only [World.size_setCell]; omega) | (dsimp only; omega))
      · skip
        obtain ⟨rfl, rfl, rfl, rfl, rfl, rfl, rfl, rfl⟩ := HR.out.2.2.2 (by omega) (by omega) (by omega)
        clear HR
        have y1_0 := s1.out.c0; have f1_0 := s1.out.free 0; have y1_1 := s1.out.c1; have f1_1 := s1.out.free 1; have y1_2 := s1.out.c2; have f1_2 := s1.out.free 2; have y1_3 := s1.out.c3; have f1_3 := s1.out.free 3; have y1_4 := s1.out.c4; have f1_4 := s1.out.free 4; have y1_5 := s1.out.c5; have f1_5 := s1.out.free 5; have y1_6 := s1.out.c6; have f1_6 := s1.out.free 6; have l1 := s1.out.lt
        have y3_0 := s3.out.c0; have y3_1 := s3.out.c1; have y3_2 := s3.out.c2; have y3_3 := s3.out.c3; have y3_4 := s3.out.c4; have y3_5 := s3.out.c5; have y3_6 := s3.out.c6; have l3 := s3.out.lt
        go_wp2_with fail
        refine bodyPost_ret (v := _) ?_ rfl ⟨rfl, ?_⟩
        · simp [results, Tryz.results23, go_sem, *]
        · refine Below.setCell (Below.setCell (Below.setCell (Below.setCell (Below.setCell (Below.setCell (Below.setCell (HB.out) ?_ _) ?_ _) ?_ _) ?_ _) ?_ _) ?_ _) ?_ _
          all_goals (first | (simp only [World.size_setCell]; omega) | (dsimp only; omega))
end Go.Proofs.YtcopmgnfakjdhaaGreatDoor
