/- Merged by wip/tools/pack.py out of XTrigO, XTrigO2, XTms. -/
import Derived.Test.YtcopmgnfakjdhaaGreatDoorVTrigA
import Derived.Test.YtcopmgnfakjdhaaGreatDoorVIval
import Derived.Test.YtcopmgnfakjdhaaGreatDoorVBasic
import Derived.Deep.RegionHeld3
import Derived.Test.YtcopmgnfakjdhaaGreatDoorVReg
import Derived.Deep.QuietTactic
import Derived.BigQuiet
/- trig.contains, SinOver, CosOver, Times, Plus, Minus. -/
namespace Go.Proofs.YtcopmgnfakjdhaaGreatDoor
open Go.RowKit
set_option linter.unusedSimpArgs false
section
set_option linter.unusedVariables false
theorem wpG_marks {P : Program} {ops : Array Oper} {Q C} {fuel : Nat} {l l' : Array Bool} {a : Act} {w : World} (h : l = l') (k : wpG P ops Q C fuel l' a w) : wpG P ops Q C fuel l a w := h ▸ k
theorem mergeW {G : Prop} {S H : World → Prop} (main : (∀ W, S W → H W) → G) (proof : ∀ W, S W → H W) : G := main proof
theorem mergeWN {G : Prop} {S H : World → Nat → Prop} (main : (∀ W b, S W b → H W b) → G) (proof : ∀ W b, S W b → H W b) : G := main proof
theorem mergeWNN {G : Prop} {S H : World → Nat → Nat → Prop} (main : (∀ W b c, S W b c → H W b c) → G) (proof : ∀ W b c, S W b c → H W b c) : G := main proof
end
set_option linter.unusedVariables false
def conB (a b t : Int) : Prop := 1000000000 ≤ b - a ∨ (t - a) % 1000000000 ≤ b - a
instance (a b t : Int) : Decidable (conB a b t) := by unfold conB; exact inferInstance
set_option maxHeartbeats 2000000 in
theorem contains_ok (a b t : Int) (w : World) (ha : -2000000000000000000 ≤ a ∧ a ≤ 2000000000000000000) (hb : -2000000000000000000 ≤ b ∧ b ≤ 2000000000000000000) (ht : -1000000000 ≤ t ∧ t ≤ 1000000000) :
    Calls Tryz.prog 75 #[.agg #[.int .i64 a, .int .i64 b], .int .i64 t] w fun e w' => e = .returned (.bool (decide (conB a b t))) ∧ Below w.heap.size w w' := by
  have e1 : IntKind.i64.wrap (b - a) = b - a := IntWalk.i64_in _ (by omega)
  have e2 : IntKind.i64.wrap (t - a) = t - a := IntWalk.i64_in _ (by omega)
  have M := Lib.hid (fun w => mod_all (t - a) 1000000000 w (by omega) (by omega) (by omega) (by omega))
  have B0 := (Below.refl w.heap.size w).alloc (Nat.le_refl _) (.cells #[.int .i64 a, .int .i64 b] 28)
  have S0 := SpBox.new w a b
  by_cases c : 1000000000 ≤ b - a
  · have e : decide (conB a b t) = true := decide_eq_true (Or.inl c)
    rw [e]
    have c' : decide (1000000000 ≤ b - a) = true := decide_eq_true c
    clear e c
    go_enter Tryz.func75, Tryz.ntmps75
    go_upto_region 1 with fail
    obtain ⟨X0, hX0⟩ : ∃ X, X = w.alloc (.cells #[.int .i64 a, .int .i64 b] 28) := ⟨_, rfl⟩
    rw [← hX0] at B0 S0 ⊢
    clear hX0
    have c0 := S0.c0; have c1 := S0.c1; have cl := S0.lt
    go_quiet (fail)
    go_wp2_with fail
    go_ret
    exact ⟨rfl, (by repeat' (first | (with_reducible refine below_drewN ?_ _) | go_grown))⟩
  · have e : decide (conB a b t) = decide ((t - a) % 1000000000 ≤ b - a) := by
      unfold conB
      exact decide_eq_decide.2 ⟨fun h => h.resolve_left c, .inr⟩
    rw [e]
    clear e
    have c' : decide (1000000000 ≤ b - a) = false := decide_eq_false c
    clear c
    generalize (t - a) % 1000000000 = m at *
    obtain ⟨v, hv⟩ : ∃ v, v = decide (m ≤ b - a) := ⟨_, rfl⟩
    rw [← hv]
    have HV := Lib.hid hv
    clear hv
    go_enter Tryz.func75, Tryz.ntmps75
    go_upto_region 1 with fail
    obtain ⟨X0, hX0⟩ : ∃ X, X = w.alloc (.cells #[.int .i64 a, .int .i64 b] 28) := ⟨_, rfl⟩
    rw [← hX0] at B0 S0 ⊢
    clear hX0
    obtain ⟨X, hX⟩ : ∃ X, X = (X0).drew := ⟨_, rfl⟩
    have xX0 : X.cell? ⟨w.heap.size, 0, none⟩ = some (.int .i64 a) := by rw [hX]; exact (S0.c0)
    have xX1 : X.cell? ⟨w.heap.size, 1, none⟩ = some (.int .i64 b) := by rw [hX]; exact (S0.c1)
    have lX0 : w.heap.size < X.heap.size := by rw [hX]; exact (S0.lt)
    have bX : Below w.heap.size w X := by rw [hX]; exact (B0).drew
    have HxX0 := Lib.hid xX0
    have HxX1 := Lib.hid xX1
    have HlX0 := Lib.hid lX0
    have HbX := Lib.hid bX
    have HhX := Lib.hid hX
    clear xX0 xX1 lX0 bX hX
    go_region_held3 (fun w' => w'.cell? ⟨w.heap.size, 0, none⟩ = some (.int .i64 a) ∧ w'.cell? ⟨w.heap.size, 1, none⟩ = some (.int .i64 b) ∧ Below X.heap.size X w')
      (((try dsimp only); repeat' apply And.intro) <;> (first | (with_reducible assumption) | (go_split_ands; (with_reducible assumption)) | (rw [← HhX.out]; (first | exact Below.refl _ _ | exact HxX0.out | exact HxX1.out)) | go_keep))
      (first
        | (go_at_call 76; refine Calls.mono (M.out _) ?_; rintro e wq ⟨rfl, hb⟩; (try go_split_ands); have qB : Below X.heap.size X wq := (bX_more (by with_reducible assumption) hb); have m0 := bX_oldc qB HlX0.out HxX0.out; have m1 := bX_oldc qB HlX0.out HxX1.out; clear hb))
    all_goals
      have hbq : Below w.heap.size w wq := bX_back HbX.out qB
      go_wp2_with fail
      go_ret
      exact ⟨by rw [HV.out]; rfl, hbq⟩
theorem SpBox.set0 {w : World} {b : Nat} {x y : Int} (h : SpBox w b x y) (v : Int) : SpBox (w.setCell ⟨b, 0, none⟩ (.int .i64 v)) b v y :=
  (World.rowIs.set h 0 (.int .i64 v)).congr (fun i hi => by
    match i, hi with
    | 0, _ => rfl
    | 1, _ => rfl)
theorem all_three {p : Nat → Prop} {a b c : Nat} (h : p a) (g : p b) (f : p c) : ∀ i, i ∈ [a, b, c] → p i := fun i hi => by
  rcases (by simpa using hi : i = a ∨ i = b ∨ i = c) with rfl | rfl | rfl
  · exact h
  · exact g
  · exact f
def soLo (a b : Int) : Int := if conB a b 750000000 then -1000000000 else min (sLo a) (sLo b)
def soHi (a b : Int) : Int := if conB a b 250000000 then 1000000000 else max (sHi a) (sHi b)
set_option maxRecDepth 100000 in
set_option maxHeartbeats 4000000 in
theorem SinOver_ok (a b : Int) (w : World) (ht : SinT w) (h : IvOk a b) : Calls Tryz.prog 31 #[.agg #[.int .i64 a, .int .i64 b]] w fun e w' => e = .returned (.tuple #[.agg #[.int .i64 (soLo a b), .int .i64 (soHi a b)], .int .i64 0]) ∧ Below w.heap.size w w' := by
  obtain ⟨h1, h2, h3⟩ := id h
  have C := Lib.hid (fun w => check_ok a b w h)
  have SA := Lib.hid (fun w ht => sine_ok a w ht (by omega))
  have SB := Lib.hid (fun w ht => sine_ok b w ht (by omega))
  have K1 := Lib.hid (fun w => contains_ok a b 250000000 w (by omega) (by omega) (by omega))
  have K2 := Lib.hid (fun w => contains_ok a b 750000000 w (by omega) (by omega) (by omega))
  have HT := Lib.hid ht
  obtain ⟨q1, hq1⟩ : ∃ q, q = decide (conB a b 250000000) := ⟨_, rfl⟩
  obtain ⟨q2, hq2⟩ : ∃ q, q = decide (conB a b 750000000) := ⟨_, rfl⟩
  have eLo : soLo a b = if q2 = true then -1000000000 else min (sLo a) (sLo b) := by rw [hq2]; unfold soLo; simp only [decide_eq_true_eq]
  have eHi : soHi a b = if q1 = true then 1000000000 else max (sHi a) (sHi b) := by rw [hq1]; unfold soHi; simp only [decide_eq_true_eq]
  rw [← hq1] at K1; rw [← hq2] at K2
  clear hq1 hq2
  generalize soLo a b = lo at *
  generalize soHi a b = hi at *
  generalize sLo a = al at *
  generalize sHi a = ah at *
  generalize sLo b = bl at *
  generalize sHi b = bh at *
  obtain ⟨ml, hml⟩ : ∃ m, m = min al bl := ⟨_, rfl⟩
  obtain ⟨mh, hmh⟩ : ∃ m, m = max ah bh := ⟨_, rfl⟩
  rw [← hml] at eLo; rw [← hmh] at eHi
  have HL := Lib.hid eLo; have HH := Lib.hid eHi
  have e1 := hml.symm; have e2 := hmh.symm
  have b0 := SpBox.new w a b
  have b1 := SpBox.new (w.alloc (.cells #[.int .i64 a, .int .i64 b] 28)) 0 0
  obtain ⟨k, hk⟩ : ∃ b, b = w.heap.size := ⟨_, rfl⟩
  have e5 : (w.alloc (.cells #[.int .i64 a, .int .i64 b] 28)).heap.size = k + 1 := by simp [hk]
  rw [e5] at b1
  have HB0 := Lib.hid (b0.alloc (.cells #[.int .i64 0, .int .i64 0] 28))
  rw [← hk] at HB0
  have HB1 := Lib.hid b1
  have HW := Lib.hid (show Below w.heap.size w ((w.alloc (.cells #[.int .i64 a, .int .i64 b] 28)).alloc (.cells #[.int .i64 0, .int .i64 0] 28)) from (by repeat' (first | (with_reducible refine below_drewN ?_ _) | go_grown)))
  have HK := Lib.hid hk
  have HE5 := Lib.hid e5
  clear b0 b1 e5 eLo eHi hml hmh ht h
  go_enter Tryz.func31, Tryz.ntmps31
  go_upto_region 1 with fail
  (try rw [HE5.out])
  rw [← hk]
  clear hk
  obtain ⟨W, hW⟩ : ∃ W, W = (w.alloc (.cells #[.int .i64 a, .int .i64 b] 28)).alloc (.cells #[.int .i64 0, .int .i64 0] 28) := ⟨_, rfl⟩
  rw [← hW] at HB0 HB1 HW ⊢
  clear hW
  have c0 := HB0.out.c0; have c1 := HB0.out.c1; have cl := HB0.out.lt
  go_wp2_with fail
  refine Calls.mono (C.out _) ?_
  rintro e w1 ⟨rfl, hb⟩
  have S0 := Lib.hid (HB0.out.below hb)
  have S1 := Lib.hid (HB1.out.below hb)
  have BW := Lib.hid (HW.out.trans (hb.mono HW.out.size))
  clear hb HB0 HB1 HW c0 c1 cl
  have c0 := S0.out.c0; have c1 := S0.out.c1; have cl := S0.out.lt
  go_upto_region 4 with fail
  clear c0 c1 cl C
  have s1 := S0; have s2 := S1; have HBs := BW
  clear S0 S1 BW
  have HB := Lib.hid (Below.refl w.heap.size w)
  clear HB
  have HB := HBs
  obtain ⟨XD1, hXD1⟩ : ∃ x, x = w1.drew := ⟨_, rfl⟩
  have hbx1 : Hid (SpBox XD1 (k) (a) (b)) := Lib.hid (by rw [hXD1]; exact s1.out.drew)
  have hbx2 : Hid (SpBox XD1 (k + 1) (0) (0)) := Lib.hid (by rw [hXD1]; exact s2.out.drew)
  have hbW : Hid (Below w.heap.size w XD1) := Lib.hid (by rw [hXD1]; exact HB.out.drew)
  have HXD1 := Lib.hid hXD1; clear hXD1 s1 s2 HB
  have hf := Below.refl XD1.heap.size XD1
  go_cut [5, 6] (fun sv se wx => ∃ bn bm : Nat, sv = .pointer (some ⟨bn, 0, none⟩) ∧ se = .pointer (some ⟨bm, 0, none⟩) ∧ Hid (w.heap.size ≤ bn) ∧ Hid (w.heap.size ≤ bm) ∧ Hid (SpBox wx bn (al) (ah)) ∧ Hid (SpBox wx bm (bl) (bh)) ∧ Hid (SpBox wx (k) (a) (b)) ∧ Hid (SpBox wx (k + 1) (0) (0)) ∧ Hid (Below w.heap.size w wx))
  case first =>
    refine wp_region_G [(9, fun w' => Below XD1.heap.size XD1 w')] (by kernel_rfl) (heldC_one (fun _ => by rw [← HXD1.out]; exact hf)) (fun hF => ?_)
    rw [← HXD1.out] at hF ⊢
    refine wpG_takeC (oi := ?oi1) (v := ?vv1) 0 _ [1] ?hi1 (List.Mem.head _) ?hc1 ?hQ1 hF ?hw1 ?hy1 (fun hF => ?hh1)
    case hi1 => (simp only [gA, gB, gC]; rfl)
    case hc1 => kernel_rfl
    case hQ1 => exact fun _ _ _ h => h
    case hw1 => rfl
    case hy1 => (intro wz hz; skip; go_simp; try (with_reducible rfl))
    try simp only [Act.put, uA, uB, uC]
    refine gT (oi := ?o2) (v := ?v2) 1 ?i2 ?Q2 hF ?w2 ?y2 (by kernel_rfl) (fun hF => ?h2)
    case i2 => (simp only [gA, gB, gC]; rfl)
    case Q2 => exact fun _ _ _ h => h
    case w2 => rfl
    case y2 => (intro wz hz; have zb := hbx1.out.below hz; have z0 := zb.c0; go_simp; try (with_reducible rfl))
    try simp only [Act.put, uA, uB, uC]
    refine wpG_takeC (oi := ?oi3) (v := ?vv3) 3 _ [4] ?hi3 (List.Mem.head _) ?hc3 ?hQ3 hF ?hw3 ?hy3 (fun hF => ?hh3)
    case hi3 => (simp only [gA, gB, gC]; rfl)
    case hc3 => kernel_rfl
    case hQ3 => exact fun _ _ _ h => h
    case hw3 => rfl
    case hy3 => (intro wz hz; skip; go_simp; try (with_reducible rfl))
    try simp only [Act.put, uA, uB, uC]
    refine gT (oi := ?o4) (v := ?v4) 4 ?i4 ?Q4 hF ?w4 ?y4 (by kernel_rfl) (fun hF => ?h4)
    case i4 => (simp only [gA, gB, gC]; rfl)
    case Q4 => exact fun _ _ _ h => h
    case w4 => rfl
    case y4 => (intro wz hz; have zb := hbx1.out.below hz; have z0 := zb.c1; go_simp; try (with_reducible rfl))
    try simp only [Act.put, uA, uB, uC]
    apply mergeWNN (S := fun W bn bm => Below XD1.heap.size XD1 W ∧ (SpBox W bn 0 0 ∧ XD1.heap.size ≤ bn) ∧ (SpBox W bm 0 0 ∧ XD1.heap.size ≤ bm) ∧ bn ≠ bm)
    intro k1_201
    apply mergeWN (S := fun W bm => Below XD1.heap.size XD1 W ∧ (SpBox W bm 0 0 ∧ XD1.heap.size ≤ bm))
    intro k1_21
    apply mergeWN (S := fun W bn => Below XD1.heap.size XD1 W ∧ (SpBox W bn 0 0 ∧ XD1.heap.size ≤ bn))
    intro k1_20
    apply mergeWNN (S := fun W bn bm => Below XD1.heap.size XD1 W ∧ (SpBox W bn 0 0 ∧ XD1.heap.size ≤ bn) ∧ (SpBox W bm 0 0 ∧ XD1.heap.size ≤ bm) ∧ bn ≠ bm)
    intro k1_101
    apply mergeW (S := fun W => Below XD1.heap.size XD1 W)
    intro k1_2n
    apply mergeWN (S := fun W bm => Below XD1.heap.size XD1 W ∧ (SpBox W bm 0 0 ∧ XD1.heap.size ≤ bm))
    intro k1_11
    apply mergeWN (S := fun W bn => Below XD1.heap.size XD1 W ∧ (SpBox W bn 0 0 ∧ XD1.heap.size ≤ bn))
    intro k1_10
    apply mergeWNN (S := fun W bn bm => Below XD1.heap.size XD1 W ∧ (SpBox W bn 0 0 ∧ XD1.heap.size ≤ bn) ∧ (SpBox W bm 0 0 ∧ XD1.heap.size ≤ bm) ∧ bn ≠ bm)
    intro k1_001
    apply mergeW (S := fun W => Below XD1.heap.size XD1 W)
    intro k1_1n
    apply mergeWN (S := fun W bm => Below XD1.heap.size XD1 W ∧ (SpBox W bm 0 0 ∧ XD1.heap.size ≤ bm))
    intro k1_01
    apply mergeWN (S := fun W bn => Below XD1.heap.size XD1 W ∧ (SpBox W bn 0 0 ∧ XD1.heap.size ≤ bn))
    intro k1_00
    · have hf := hf
      refine wpG_ready (rs := [2, 6, 7]) (by kernel_rfl) (by simp) ?_
      refine all_three ?_ ?_ ?_
      · skip
        refine wpOp_hand (oi := ?oi5) ?hi5 (fun K hK => ?hh5)
        case hi5 => (simp only [gA, gB, gC]; rfl)
        go_simp
        refine Calls.mono (SA.out _ (HT.out.below (hbW.out.trans (hf.mono hbW.out.size)))) ?_
        rintro e Va1_1 ⟨rfl, hb⟩
        replace hf := hf.trans (hb.mono hf.size)
        clear hb
        refine hK.out _ _ (heldC_one (fun _ => hf)) (fun hF => ?_)
        clear hK K
        try simp only [Act.put, uA, uB, uC]
        refine wpG_marks (l' := #[true, true, true, true, true, false, false, false, false, false]) (by kernel_rfl) ?_
        with_reducible exact k1_1n Va1_1 hf
      · skip
        refine wpOp_hand (oi := ?oi6) ?hi6 (fun K hK => ?hh6)
        case hi6 => (simp only [gA, gB, gC]; rfl)
        go_simp
        have hn := SpBox.new XD1 0 0
        have hfn := hf.alloc hf.size (.cells #[.int .i64 0, .int .i64 0] 28)
        obtain ⟨bn, hbn⟩ : ∃ b, b = XD1.heap.size := ⟨_, rfl⟩
        obtain ⟨Y, hY⟩ : ∃ Y, Y = XD1.alloc (.cells #[.int .i64 0, .int .i64 0] 28) := ⟨_, rfl⟩
        rw [← hY] at hfn hn ⊢
        have dn : XD1.heap.size ≤ bn := by rw [hbn]; exact hf.size
        rw [← hbn] at hn ⊢
        clear hf hY hbn
        have hf := hfn
        clear hfn
        refine hK.out _ _ (heldC_one (fun _ => hf)) (fun hF => ?_)
        clear hK K
        try simp only [Act.put, uA, uB, uC]
        refine wpG_marks (l' := #[true, true, false, true, true, false, true, false, false, false]) (by kernel_rfl) ?_
        with_reducible exact k1_00 Y bn ⟨hf, ⟨hn, dn⟩⟩
      · skip
        refine wpOp_hand (oi := ?oi7) ?hi7 (fun K hK => ?hh7)
        case hi7 => (simp only [gA, gB, gC]; rfl)
        go_simp
        have hm := SpBox.new XD1 0 0
        have hfn := hf.alloc hf.size (.cells #[.int .i64 0, .int .i64 0] 28)
        obtain ⟨bm, hbn⟩ : ∃ b, b = XD1.heap.size := ⟨_, rfl⟩
        obtain ⟨Y, hY⟩ : ∃ Y, Y = XD1.alloc (.cells #[.int .i64 0, .int .i64 0] 28) := ⟨_, rfl⟩
        rw [← hY] at hfn hm ⊢
        have dm : XD1.heap.size ≤ bm := by rw [hbn]; exact hf.size
        rw [← hbn] at hm ⊢
        clear hf hY hbn
        have hf := hfn
        clear hfn
        refine hK.out _ _ (heldC_one (fun _ => hf)) (fun hF => ?_)
        clear hK K
        try simp only [Act.put, uA, uB, uC]
        refine wpG_marks (l' := #[true, true, false, true, true, false, false, true, false, false]) (by kernel_rfl) ?_
        with_reducible exact k1_01 Y bm ⟨hf, ⟨hm, dm⟩⟩
    · rintro W bn ⟨hf, ⟨hn, dn⟩⟩
      refine gS (i := 2) (j := 7) (by kernel_rfl) ?_ ?_
      · skip
        refine wpOp_hand (oi := ?oi8) ?hi8 (fun K hK => ?hh8)
        case hi8 => (simp only [gA, gB, gC]; rfl)
        go_simp
        refine Calls.mono (SA.out _ (HT.out.below (hbW.out.trans (hf.mono hbW.out.size)))) ?_
        rintro e Va1_2 ⟨rfl, hb⟩
        have hnn := hn.below hb; clear hn; have hn := hnn; clear hnn
        replace hf := hf.trans (hb.mono hf.size)
        clear hb
        refine hK.out _ _ (heldC_one (fun _ => hf)) (fun hF => ?_)
        clear hK K
        try simp only [Act.put, uA, uB, uC]
        refine wpG_marks (l' := #[true, true, true, true, true, false, true, false, false, false]) (by kernel_rfl) ?_
        with_reducible exact k1_10 Va1_2 bn ⟨hf, ⟨hn, dn⟩⟩
      · skip
        refine wpOp_hand (oi := ?oi9) ?hi9 (fun K hK => ?hh9)
        case hi9 => (simp only [gA, gB, gC]; rfl)
        go_simp
        have dl := hn.lt
        have hm := SpBox.new W 0 0
        have hn' := hn.alloc (.cells #[.int .i64 0, .int .i64 0] 28); clear hn
        have hfn := hf.alloc hf.size (.cells #[.int .i64 0, .int .i64 0] 28)
        obtain ⟨bm, hbn⟩ : ∃ b, b = W.heap.size := ⟨_, rfl⟩
        obtain ⟨Y, hY⟩ : ∃ Y, Y = W.alloc (.cells #[.int .i64 0, .int .i64 0] 28) := ⟨_, rfl⟩
        rw [← hY] at hfn hm hn' ⊢
        have dm : XD1.heap.size ≤ bm := by rw [hbn]; exact hf.size
        rw [← hbn] at hm dl ⊢
        have hn := hn'; clear hn'
        have dnm : bn ≠ bm := by omega
        clear hf hY hbn
        have hf := hfn
        clear hfn
        refine hK.out _ _ (heldC_one (fun _ => hf)) (fun hF => ?_)
        clear hK K
        try simp only [Act.put, uA, uB, uC]
        refine wpG_marks (l' := #[true, true, false, true, true, false, true, true, false, false]) (by kernel_rfl) ?_
        with_reducible exact k1_001 Y bn bm ⟨hf, ⟨hn, dn⟩, ⟨hm, dm⟩, dnm⟩
    · rintro W bm ⟨hf, ⟨hm, dm⟩⟩
      refine gS (i := 2) (j := 6) (by kernel_rfl) ?_ ?_
      · skip
        refine wpOp_hand (oi := ?oi10) ?hi10 (fun K hK => ?hh10)
        case hi10 => (simp only [gA, gB, gC]; rfl)
        go_simp
        refine Calls.mono (SA.out _ (HT.out.below (hbW.out.trans (hf.mono hbW.out.size)))) ?_
        rintro e Va1_3 ⟨rfl, hb⟩
        have hnn := hm.below hb; clear hm; have hm := hnn; clear hnn
        replace hf := hf.trans (hb.mono hf.size)
        clear hb
        refine hK.out _ _ (heldC_one (fun _ => hf)) (fun hF => ?_)
        clear hK K
        try simp only [Act.put, uA, uB, uC]
        refine wpG_marks (l' := #[true, true, true, true, true, false, false, true, false, false]) (by kernel_rfl) ?_
        with_reducible exact k1_11 Va1_3 bm ⟨hf, ⟨hm, dm⟩⟩
      · skip
        refine wpOp_hand (oi := ?oi11) ?hi11 (fun K hK => ?hh11)
        case hi11 => (simp only [gA, gB, gC]; rfl)
        go_simp
        have dl := hm.lt
        have hn := SpBox.new W 0 0
        have hm' := hm.alloc (.cells #[.int .i64 0, .int .i64 0] 28); clear hm
        have hfn := hf.alloc hf.size (.cells #[.int .i64 0, .int .i64 0] 28)
        obtain ⟨bn, hbn⟩ : ∃ b, b = W.heap.size := ⟨_, rfl⟩
        obtain ⟨Y, hY⟩ : ∃ Y, Y = W.alloc (.cells #[.int .i64 0, .int .i64 0] 28) := ⟨_, rfl⟩
        rw [← hY] at hfn hn hm' ⊢
        have dn : XD1.heap.size ≤ bn := by rw [hbn]; exact hf.size
        rw [← hbn] at hn dl ⊢
        have hm := hm'; clear hm'
        have dnm : bn ≠ bm := by omega
        clear hf hY hbn
        have hf := hfn
        clear hfn
        refine hK.out _ _ (heldC_one (fun _ => hf)) (fun hF => ?_)
        clear hK K
        try simp only [Act.put, uA, uB, uC]
        refine wpG_marks (l' := #[true, true, false, true, true, false, true, true, false, false]) (by kernel_rfl) ?_
        with_reducible exact k1_001 Y bn bm ⟨hf, ⟨hn, dn⟩, ⟨hm, dm⟩, dnm⟩
    · rintro W hf
      refine wpG_ready (rs := [5, 6, 7]) (by kernel_rfl) (by simp) ?_
      refine all_three ?_ ?_ ?_
      · skip
        refine wpOp_hand (oi := ?oi12) ?hi12 (fun K hK => ?hh12)
        case hi12 => (simp only [gA, gB, gC]; rfl)
        go_simp
        refine Calls.mono (SB.out _ (HT.out.below (hbW.out.trans (hf.mono hbW.out.size)))) ?_
        rintro e Va1_4 ⟨rfl, hb⟩
        replace hf := hf.trans (hb.mono hf.size)
        clear hb
        refine hK.out _ _ (heldC_one (fun _ => hf)) (fun hF => ?_)
        clear hK K
        try simp only [Act.put, uA, uB, uC]
        refine wpG_marks (l' := #[true, true, true, true, true, true, false, false, false, false]) (by kernel_rfl) ?_
        with_reducible exact k1_2n Va1_4 hf
      · skip
        refine wpOp_hand (oi := ?oi13) ?hi13 (fun K hK => ?hh13)
        case hi13 => (simp only [gA, gB, gC]; rfl)
        go_simp
        have hn := SpBox.new W 0 0
        have hfn := hf.alloc hf.size (.cells #[.int .i64 0, .int .i64 0] 28)
        obtain ⟨bn, hbn⟩ : ∃ b, b = W.heap.size := ⟨_, rfl⟩
        obtain ⟨Y, hY⟩ : ∃ Y, Y = W.alloc (.cells #[.int .i64 0, .int .i64 0] 28) := ⟨_, rfl⟩
        rw [← hY] at hfn hn ⊢
        have dn : XD1.heap.size ≤ bn := by rw [hbn]; exact hf.size
        rw [← hbn] at hn ⊢
        clear hf hY hbn
        have hf := hfn
        clear hfn
        refine hK.out _ _ (heldC_one (fun _ => hf)) (fun hF => ?_)
        clear hK K
        try simp only [Act.put, uA, uB, uC]
        refine wpG_marks (l' := #[true, true, true, true, true, false, true, false, false, false]) (by kernel_rfl) ?_
        with_reducible exact k1_10 Y bn ⟨hf, ⟨hn, dn⟩⟩
      · skip
        refine wpOp_hand (oi := ?oi14) ?hi14 (fun K hK => ?hh14)
        case hi14 => (simp only [gA, gB, gC]; rfl)
        go_simp
        have hm := SpBox.new W 0 0
        have hfn := hf.alloc hf.size (.cells #[.int .i64 0, .int .i64 0] 28)
        obtain ⟨bm, hbn⟩ : ∃ b, b = W.heap.size := ⟨_, rfl⟩
        obtain ⟨Y, hY⟩ : ∃ Y, Y = W.alloc (.cells #[.int .i64 0, .int .i64 0] 28) := ⟨_, rfl⟩
        rw [← hY] at hfn hm ⊢
        have dm : XD1.heap.size ≤ bm := by rw [hbn]; exact hf.size
        rw [← hbn] at hm ⊢
        clear hf hY hbn
        have hf := hfn
        clear hfn
        refine hK.out _ _ (heldC_one (fun _ => hf)) (fun hF => ?_)
        clear hK K
        try simp only [Act.put, uA, uB, uC]
        refine wpG_marks (l' := #[true, true, true, true, true, false, false, true, false, false]) (by kernel_rfl) ?_
        with_reducible exact k1_11 Y bm ⟨hf, ⟨hm, dm⟩⟩
    · rintro W bn bm ⟨hf, ⟨hn, dn⟩, ⟨hm, dm⟩, dnm⟩
      refine gR (i := 2) (by kernel_rfl) ?_
      refine wpOp_hand (oi := ?oi15) ?hi15 (fun K hK => ?hh15)
      case hi15 => (simp only [gA, gB, gC]; rfl)
      go_simp
      refine Calls.mono (SA.out _ (HT.out.below (hbW.out.trans (hf.mono hbW.out.size)))) ?_
      rintro e Va1_5 ⟨rfl, hb⟩
      have hnn := hn.below hb; clear hn; have hn := hnn; clear hnn
      have hnn := hm.below hb; clear hm; have hm := hnn; clear hnn
      replace hf := hf.trans (hb.mono hf.size)
      clear hb
      refine hK.out _ _ (heldC_one (fun _ => hf)) (fun hF => ?_)
      clear hK K
      try simp only [Act.put, uA, uB, uC]
      refine wpG_marks (l' := #[true, true, true, true, true, false, true, true, false, false]) (by kernel_rfl) ?_
      with_reducible exact k1_101 Va1_5 bn bm ⟨hf, ⟨hn, dn⟩, ⟨hm, dm⟩, dnm⟩
    · rintro W bn ⟨hf, ⟨hn, dn⟩⟩
      refine gS (i := 5) (j := 7) (by kernel_rfl) ?_ ?_
      · skip
        refine wpOp_hand (oi := ?oi16) ?hi16 (fun K hK => ?hh16)
        case hi16 => (simp only [gA, gB, gC]; rfl)
        go_simp
        refine Calls.mono (SB.out _ (HT.out.below (hbW.out.trans (hf.mono hbW.out.size)))) ?_
        rintro e Va1_6 ⟨rfl, hb⟩
        have hnn := hn.below hb; clear hn; have hn := hnn; clear hnn
        replace hf := hf.trans (hb.mono hf.size)
        clear hb
        refine hK.out _ _ (heldC_one (fun _ => hf)) (fun hF => ?_)
        clear hK K
        try simp only [Act.put, uA, uB, uC]
        refine wpG_marks (l' := #[true, true, true, true, true, true, true, false, false, false]) (by kernel_rfl) ?_
        with_reducible exact k1_20 Va1_6 bn ⟨hf, ⟨hn, dn⟩⟩
      · skip
        refine wpOp_hand (oi := ?oi17) ?hi17 (fun K hK => ?hh17)
        case hi17 => (simp only [gA, gB, gC]; rfl)
        go_simp
        have dl := hn.lt
        have hm := SpBox.new W 0 0
        have hn' := hn.alloc (.cells #[.int .i64 0, .int .i64 0] 28); clear hn
        have hfn := hf.alloc hf.size (.cells #[.int .i64 0, .int .i64 0] 28)
        obtain ⟨bm, hbn⟩ : ∃ b, b = W.heap.size := ⟨_, rfl⟩
        obtain ⟨Y, hY⟩ : ∃ Y, Y = W.alloc (.cells #[.int .i64 0, .int .i64 0] 28) := ⟨_, rfl⟩
        rw [← hY] at hfn hm hn' ⊢
        have dm : XD1.heap.size ≤ bm := by rw [hbn]; exact hf.size
        rw [← hbn] at hm dl ⊢
        have hn := hn'; clear hn'
        have dnm : bn ≠ bm := by omega
        clear hf hY hbn
        have hf := hfn
        clear hfn
        refine hK.out _ _ (heldC_one (fun _ => hf)) (fun hF => ?_)
        clear hK K
        try simp only [Act.put, uA, uB, uC]
        refine wpG_marks (l' := #[true, true, true, true, true, false, true, true, false, false]) (by kernel_rfl) ?_
        with_reducible exact k1_101 Y bn bm ⟨hf, ⟨hn, dn⟩, ⟨hm, dm⟩, dnm⟩
    · rintro W bm ⟨hf, ⟨hm, dm⟩⟩
      refine gS (i := 5) (j := 6) (by kernel_rfl) ?_ ?_
      · skip
        refine wpOp_hand (oi := ?oi18) ?hi18 (fun K hK => ?hh18)
        case hi18 => (simp only [gA, gB, gC]; rfl)
        go_simp
        refine Calls.mono (SB.out _ (HT.out.below (hbW.out.trans (hf.mono hbW.out.size)))) ?_
        rintro e Va1_7 ⟨rfl, hb⟩
        have hnn := hm.below hb; clear hm; have hm := hnn; clear hnn
        replace hf := hf.trans (hb.mono hf.size)
        clear hb
        refine hK.out _ _ (heldC_one (fun _ => hf)) (fun hF => ?_)
        clear hK K
        try simp only [Act.put, uA, uB, uC]
        refine wpG_marks (l' := #[true, true, true, true, true, true, false, true, false, false]) (by kernel_rfl) ?_
        with_reducible exact k1_21 Va1_7 bm ⟨hf, ⟨hm, dm⟩⟩
      · skip
        refine wpOp_hand (oi := ?oi19) ?hi19 (fun K hK => ?hh19)
        case hi19 => (simp only [gA, gB, gC]; rfl)
        go_simp
        have dl := hm.lt
        have hn := SpBox.new W 0 0
        have hm' := hm.alloc (.cells #[.int .i64 0, .int .i64 0] 28); clear hm
        have hfn := hf.alloc hf.size (.cells #[.int .i64 0, .int .i64 0] 28)
        obtain ⟨bn, hbn⟩ : ∃ b, b = W.heap.size := ⟨_, rfl⟩
        obtain ⟨Y, hY⟩ : ∃ Y, Y = W.alloc (.cells #[.int .i64 0, .int .i64 0] 28) := ⟨_, rfl⟩
        rw [← hY] at hfn hn hm' ⊢
        have dn : XD1.heap.size ≤ bn := by rw [hbn]; exact hf.size
        rw [← hbn] at hn dl ⊢
        have hm := hm'; clear hm'
        have dnm : bn ≠ bm := by omega
        clear hf hY hbn
        have hf := hfn
        clear hfn
        refine hK.out _ _ (heldC_one (fun _ => hf)) (fun hF => ?_)
        clear hK K
        try simp only [Act.put, uA, uB, uC]
        refine wpG_marks (l' := #[true, true, true, true, true, false, true, true, false, false]) (by kernel_rfl) ?_
        with_reducible exact k1_101 Y bn bm ⟨hf, ⟨hn, dn⟩, ⟨hm, dm⟩, dnm⟩
    · rintro W hf
      refine gS (i := 6) (j := 7) (by kernel_rfl) ?_ ?_
      · skip
        refine wpOp_hand (oi := ?oi20) ?hi20 (fun K hK => ?hh20)
        case hi20 => (simp only [gA, gB, gC]; rfl)
        go_simp
        have hn := SpBox.new W 0 0
        have hfn := hf.alloc hf.size (.cells #[.int .i64 0, .int .i64 0] 28)
        obtain ⟨bn, hbn⟩ : ∃ b, b = W.heap.size := ⟨_, rfl⟩
        obtain ⟨Y, hY⟩ : ∃ Y, Y = W.alloc (.cells #[.int .i64 0, .int .i64 0] 28) := ⟨_, rfl⟩
        rw [← hY] at hfn hn ⊢
        have dn : XD1.heap.size ≤ bn := by rw [hbn]; exact hf.size
        rw [← hbn] at hn ⊢
        clear hf hY hbn
        have hf := hfn
        clear hfn
        refine hK.out _ _ (heldC_one (fun _ => hf)) (fun hF => ?_)
        clear hK K
        try simp only [Act.put, uA, uB, uC]
        refine wpG_marks (l' := #[true, true, true, true, true, true, true, false, false, false]) (by kernel_rfl) ?_
        with_reducible exact k1_20 Y bn ⟨hf, ⟨hn, dn⟩⟩
      · skip
        refine wpOp_hand (oi := ?oi21) ?hi21 (fun K hK => ?hh21)
        case hi21 => (simp only [gA, gB, gC]; rfl)
        go_simp
        have hm := SpBox.new W 0 0
        have hfn := hf.alloc hf.size (.cells #[.int .i64 0, .int .i64 0] 28)
        obtain ⟨bm, hbn⟩ : ∃ b, b = W.heap.size := ⟨_, rfl⟩
        obtain ⟨Y, hY⟩ : ∃ Y, Y = W.alloc (.cells #[.int .i64 0, .int .i64 0] 28) := ⟨_, rfl⟩
        rw [← hY] at hfn hm ⊢
        have dm : XD1.heap.size ≤ bm := by rw [hbn]; exact hf.size
        rw [← hbn] at hm ⊢
        clear hf hY hbn
        have hf := hfn
        clear hfn
        refine hK.out _ _ (heldC_one (fun _ => hf)) (fun hF => ?_)
        clear hK K
        try simp only [Act.put, uA, uB, uC]
        refine wpG_marks (l' := #[true, true, true, true, true, true, false, true, false, false]) (by kernel_rfl) ?_
        with_reducible exact k1_21 Y bm ⟨hf, ⟨hm, dm⟩⟩
    · rintro W bn bm ⟨hf, ⟨hn, dn⟩, ⟨hm, dm⟩, dnm⟩
      refine gR (i := 5) (by kernel_rfl) ?_
      refine wpOp_hand (oi := ?oi22) ?hi22 (fun K hK => ?hh22)
      case hi22 => (simp only [gA, gB, gC]; rfl)
      go_simp
      refine Calls.mono (SB.out _ (HT.out.below (hbW.out.trans (hf.mono hbW.out.size)))) ?_
      rintro e Va1_8 ⟨rfl, hb⟩
      have hnn := hn.below hb; clear hn; have hn := hnn; clear hnn
      have hnn := hm.below hb; clear hm; have hm := hnn; clear hnn
      replace hf := hf.trans (hb.mono hf.size)
      clear hb
      refine hK.out _ _ (heldC_one (fun _ => hf)) (fun hF => ?_)
      clear hK K
      try simp only [Act.put, uA, uB, uC]
      refine wpG_marks (l' := #[true, true, true, true, true, true, true, true, false, false]) (by kernel_rfl) ?_
      with_reducible exact k1_201 Va1_8 bn bm ⟨hf, ⟨hn, dn⟩, ⟨hm, dm⟩, dnm⟩
    · rintro W bn ⟨hf, ⟨hn, dn⟩⟩
      refine gR (i := 7) (by kernel_rfl) ?_
      refine wpOp_hand (oi := ?oi23) ?hi23 (fun K hK => ?hh23)
      case hi23 => (simp only [gA, gB, gC]; rfl)
      go_simp
      have dl := hn.lt
      have hm := SpBox.new W 0 0
      have hn' := hn.alloc (.cells #[.int .i64 0, .int .i64 0] 28); clear hn
      have hfn := hf.alloc hf.size (.cells #[.int .i64 0, .int .i64 0] 28)
      obtain ⟨bm, hbn⟩ : ∃ b, b = W.heap.size := ⟨_, rfl⟩
      obtain ⟨Y, hY⟩ : ∃ Y, Y = W.alloc (.cells #[.int .i64 0, .int .i64 0] 28) := ⟨_, rfl⟩
      rw [← hY] at hfn hm hn' ⊢
      have dm : XD1.heap.size ≤ bm := by rw [hbn]; exact hf.size
      rw [← hbn] at hm dl ⊢
      have hn := hn'; clear hn'
      have dnm : bn ≠ bm := by omega
      clear hf hY hbn
      have hf := hfn
      clear hfn
      refine hK.out _ _ (heldC_one (fun _ => hf)) (fun hF => ?_)
      clear hK K
      try simp only [Act.put, uA, uB, uC]
      refine wpG_marks (l' := #[true, true, true, true, true, true, true, true, false, false]) (by kernel_rfl) ?_
      with_reducible exact k1_201 Y bn bm ⟨hf, ⟨hn, dn⟩, ⟨hm, dm⟩, dnm⟩
    · rintro W bm ⟨hf, ⟨hm, dm⟩⟩
      refine gR (i := 6) (by kernel_rfl) ?_
      refine wpOp_hand (oi := ?oi24) ?hi24 (fun K hK => ?hh24)
      case hi24 => (simp only [gA, gB, gC]; rfl)
      go_simp
      have dl := hm.lt
      have hn := SpBox.new W 0 0
      have hm' := hm.alloc (.cells #[.int .i64 0, .int .i64 0] 28); clear hm
      have hfn := hf.alloc hf.size (.cells #[.int .i64 0, .int .i64 0] 28)
      obtain ⟨bn, hbn⟩ : ∃ b, b = W.heap.size := ⟨_, rfl⟩
      obtain ⟨Y, hY⟩ : ∃ Y, Y = W.alloc (.cells #[.int .i64 0, .int .i64 0] 28) := ⟨_, rfl⟩
      rw [← hY] at hfn hn hm' ⊢
      have dn : XD1.heap.size ≤ bn := by rw [hbn]; exact hf.size
      rw [← hbn] at hn dl ⊢
      have hm := hm'; clear hm'
      have dnm : bn ≠ bm := by omega
      clear hf hY hbn
      have hf := hfn
      clear hfn
      refine hK.out _ _ (heldC_one (fun _ => hf)) (fun hF => ?_)
      clear hK K
      try simp only [Act.put, uA, uB, uC]
      refine wpG_marks (l' := #[true, true, true, true, true, true, true, true, false, false]) (by kernel_rfl) ?_
      with_reducible exact k1_201 Y bn bm ⟨hf, ⟨hn, dn⟩, ⟨hm, dm⟩, dnm⟩
    · rintro W bn bm ⟨hf, ⟨hn, dn⟩, ⟨hm, dm⟩, dnm⟩
      refine gR (i := 8) (by kernel_rfl) ?_
      have zz0 := hn.c0; have zz0f := hn.free 0; have zz1 := hn.c1; have zz1f := hn.free 1; have zzl := hn.lt
      refine wpOp_hand (oi := ?oi25) ?hi25 (fun K hK => ?hh25)
      case hi25 => (simp only [gA, gB, gC]; rfl)
      go_simp
      have hnn := hn.set (al) (ah)
      have hmm := (hm.other (a := ⟨bn, 0, none⟩) (by (try dsimp only); omega) (.int .i64 (al))).other (a := ⟨bn, 1, none⟩) (by (try dsimp only); omega) (.int .i64 (ah))
      clear zz0 zz0f zz1 zz1f zzl hn
      have hn := hnn; clear hnn
      clear hm
      have hm := hmm; clear hmm
      replace hf := (hf.setCell (p := ⟨bn, 0, none⟩) dn (.int .i64 (al))).setCell (p := ⟨bn, 1, none⟩) dn (.int .i64 (ah))
      refine hK.out _ _ (heldC_one (fun _ => hf)) (fun hF => ?_)
      clear hK K
      try simp only [Act.put, uA, uB, uC]
      refine gR (i := 9) (by kernel_rfl) ?_
      have zz0 := hm.c0; have zz0f := hm.free 0; have zz1 := hm.c1; have zz1f := hm.free 1; have zzl := hm.lt
      refine wpOp_hand (oi := ?oi26) ?hi26 (fun K hK => ?hh26)
      case hi26 => (simp only [gA, gB, gC]; rfl)
      go_simp
      have hnn := hm.set (bl) (bh)
      have hmm := (hn.other (a := ⟨bm, 0, none⟩) (by (try dsimp only); omega) (.int .i64 (bl))).other (a := ⟨bm, 1, none⟩) (by (try dsimp only); omega) (.int .i64 (bh))
      clear zz0 zz0f zz1 zz1f zzl hm
      have hm := hnn; clear hnn
      clear hn
      have hn := hmm; clear hmm
      replace hf := (hf.setCell (p := ⟨bm, 0, none⟩) dm (.int .i64 (bl))).setCell (p := ⟨bm, 1, none⟩) dm (.int .i64 (bh))
      refine hK.out _ _ (heldC_one (fun h => absurd h (by simp))) (fun hF => ?_)
      clear hK K
      try simp only [Act.put, uA, uB, uC]
      refine wpG_done (by kernel_rfl) ?_ _
      go_wp2_with fail
      go_meet
      exact ⟨bn, bm, rfl, rfl, Lib.hid (Nat.le_trans hbW.out.size dn), Lib.hid (Nat.le_trans hbW.out.size dm), Lib.hid hn, Lib.hid hm, Lib.hid (hbx1.out.below hf), Lib.hid (hbx2.out.below hf), Lib.hid (hbW.out.trans (hf.mono hbW.out.size))⟩
  case rest =>
  obtain ⟨k3, k4, rfl, rfl, Hkl3, Hkl4, s3, s4, s1, s2, HB⟩ := hcut
  obtain ⟨X4, hX4⟩ : ∃ X, X = wc := ⟨_, rfl⟩
  subst hX4
  clear HXD1 hf hbW hbx1 hbx2
  have H6 := s3; have H7 := s4; have HA := s1; have HO := s2; have HBW := HB
  clear s1 s2 s3 s4 HB Hkl3 Hkl4
  have x0 := H6.out.c0; have x1 := H6.out.c1; have xl := H6.out.lt
  have y0 := H7.out.c0; have y1 := H7.out.c1; have yl := H7.out.lt
  clear SA SB HT
  obtain ⟨j, hj⟩ : ∃ x, x = X4.heap.size := ⟨_, rfl⟩
  go_upto_region 6 with fail
  rw [← hj]
  have D := SpBox.new X4 ml mh
  have A := HA.out.alloc (.cells #[.int .i64 ml, .int .i64 mh] 28)
  have O := HO.out.alloc (.cells #[.int .i64 ml, .int .i64 mh] 28)
  have B := HBW.out.alloc HBW.out.size (.cells #[.int .i64 ml, .int .i64 mh] 28)
  have lk : k + 1 < j := by have := HO.out.lt; omega
  have lw : w.heap.size ≤ j := by have := HK.out; omega
  have HLK := Lib.hid (And.intro lk lw)
  rw [← hj] at D
  obtain ⟨V, hV⟩ : ∃ V, V = X4.alloc (.cells #[.int .i64 ml, .int .i64 mh] 28) := ⟨_, rfl⟩
  rw [← hV] at D A O B ⊢
  clear hV hj x0 x1 xl y0 y1 yl H6 H7 HA HO HBW e1 e2 lk lw
  have c0 := A.c0; have c1 := A.c1; have cl := A.lt
  go_wp2_with fail
  refine Calls.mono (K1.out _) ?_
  rintro e w2 ⟨rfl, hb⟩
  replace D := Lib.hid (D.below hb)
  replace A := Lib.hid (A.below hb)
  replace O := Lib.hid (O.below hb)
  replace B := Lib.hid (B.trans (hb.mono B.size))
  clear hb c0 c1 cl K1
  have c0 := A.out.c0; have c1 := A.out.c1; have cl := A.out.lt
  cases q1
  · go_wp2_with fail
    refine Calls.mono (K2.out _) ?_
    rintro e w3 ⟨rfl, hb⟩
    cases q2
    · replace D := Lib.hid (D.out.below hb)
      replace O := Lib.hid (O.out.below hb)
      replace B := Lib.hid (B.out.trans (hb.mono B.out.size))
      clear hb c0 c1 cl K2 A
      have d0 := D.out.c0; have d1 := D.out.c1; have dl := D.out.lt
      have o0 := O.out.c0; have o1 := O.out.c1; have ol := O.out.lt; have of0 := O.out.free 0; have of1 := O.out.free 1
      have BB := Lib.hid B.out
      clear B
      go_wp2_with fail
      refine bodyPost_ret (v := .tuple #[.agg #[.int .i64 ml, .int .i64 mh], .int .i64 0]) ?_ rfl ⟨?_, ?_⟩
      · simp [results, Tryz.results31, go_sem, *]
      · rw [HL.out, HH.out]; rfl
      · have := HK.out
        exact (BB.out.setCell (p := ⟨k + 1, 0, none⟩) (by dsimp only; omega) _).setCell (p := ⟨k + 1, 1, none⟩) (by dsimp only; omega) _
    · replace D := Lib.hid (D.out.below hb)
      replace O := Lib.hid (O.out.below hb)
      replace B := Lib.hid (B.out.trans (hb.mono B.out.size))
      clear hb c0 c1 cl K2 A
      have d0 := D.out.c0; have d1 := D.out.c1; have dl := D.out.lt
      have df := D.out.free 0
      have o0 := O.out.c0; have o1 := O.out.c1; have ol := O.out.lt; have of0 := O.out.free 0; have of1 := O.out.free 1
      go_upto_region 10 with fail
      clear d0 d1 dl df o0 o1 ol of0 of1
      have D' := D.out.set0 (-1000000000)
      have O' := O.out.other (a := ⟨j, 0, none⟩) (by have := HLK.out; dsimp only; omega) (.int .i64 (-1000000000))
      have B' := B.out.setCell (p := ⟨j, 0, none⟩) HLK.out.2 (.int .i64 (-1000000000))
      obtain ⟨U, hU⟩ : ∃ U, U = w3.setCell ⟨j, 0, none⟩ (.int .i64 (-1000000000)) := ⟨_, rfl⟩
      rw [← hU] at D' O' B' ⊢
      clear hU D O B
      have d0 := D'.c0; have d1 := D'.c1; have dl := D'.lt
      have o0 := O'.c0; have o1 := O'.c1; have ol := O'.lt; have of0 := O'.free 0; have of1 := O'.free 1
      have BB := Lib.hid B'
      clear B' D' O'
      go_wp2_with fail
      refine bodyPost_ret (v := .tuple #[.agg #[.int .i64 (-1000000000), .int .i64 mh], .int .i64 0]) ?_ rfl ⟨?_, ?_⟩
      · simp [results, Tryz.results31, go_sem, *]
      · rw [HL.out, HH.out]; rfl
      · have := HK.out
        exact (BB.out.setCell (p := ⟨k + 1, 0, none⟩) (by dsimp only; omega) _).setCell (p := ⟨k + 1, 1, none⟩) (by dsimp only; omega) _
  · have d0 := D.out.c0; have d1 := D.out.c1; have dl := D.out.lt; have df := D.out.free 1
    go_upto_region 8 with fail
    clear d0 d1 dl df c0 c1 cl
    have D' := D.out.set1 1000000000
    have A' := A.out.other (a := ⟨j, 1, none⟩) (by have := HLK.out; dsimp only; omega) (.int .i64 1000000000)
    have O' := O.out.other (a := ⟨j, 1, none⟩) (by have := HLK.out; dsimp only; omega) (.int .i64 1000000000)
    have B' := B.out.setCell (p := ⟨j, 1, none⟩) HLK.out.2 (.int .i64 1000000000)
    clear D A O B
    obtain ⟨U, hU⟩ : ∃ U, U = w2.setCell ⟨j, 1, none⟩ (.int .i64 1000000000) := ⟨_, rfl⟩
    rw [← hU] at D' A' O' B' ⊢
    clear hU
    have D := Lib.hid D'; have A := Lib.hid A'; have O := Lib.hid O'; have B := Lib.hid B'
    clear D' A' O' B'
    have c0 := A.out.c0; have c1 := A.out.c1; have cl := A.out.lt
    go_wp2_with fail
    refine Calls.mono (K2.out _) ?_
    rintro e w3 ⟨rfl, hb⟩
    cases q2
    · replace D := Lib.hid (D.out.below hb)
      replace O := Lib.hid (O.out.below hb)
      replace B := Lib.hid (B.out.trans (hb.mono B.out.size))
      clear hb c0 c1 cl K2 A
      have d0 := D.out.c0; have d1 := D.out.c1; have dl := D.out.lt
      have o0 := O.out.c0; have o1 := O.out.c1; have ol := O.out.lt; have of0 := O.out.free 0; have of1 := O.out.free 1
      have BB := Lib.hid B.out
      clear B
      go_wp2_with fail
      refine bodyPost_ret (v := .tuple #[.agg #[.int .i64 ml, .int .i64 1000000000], .int .i64 0]) ?_ rfl ⟨?_, ?_⟩
      · simp [results, Tryz.results31, go_sem, *]
      · rw [HL.out, HH.out]; rfl
      · have := HK.out
        exact (BB.out.setCell (p := ⟨k + 1, 0, none⟩) (by dsimp only; omega) _).setCell (p := ⟨k + 1, 1, none⟩) (by dsimp only; omega) _
    · replace D := Lib.hid (D.out.below hb)
      replace O := Lib.hid (O.out.below hb)
      replace B := Lib.hid (B.out.trans (hb.mono B.out.size))
      clear hb c0 c1 cl K2 A
      have d0 := D.out.c0; have d1 := D.out.c1; have dl := D.out.lt
      have df := D.out.free 0
      have o0 := O.out.c0; have o1 := O.out.c1; have ol := O.out.lt; have of0 := O.out.free 0; have of1 := O.out.free 1
      go_upto_region 10 with fail
      clear d0 d1 dl df o0 o1 ol of0 of1
      have D' := D.out.set0 (-1000000000)
      have O' := O.out.other (a := ⟨j, 0, none⟩) (by have := HLK.out; dsimp only; omega) (.int .i64 (-1000000000))
      have B' := B.out.setCell (p := ⟨j, 0, none⟩) HLK.out.2 (.int .i64 (-1000000000))
      obtain ⟨U, hU⟩ : ∃ U, U = w3.setCell ⟨j, 0, none⟩ (.int .i64 (-1000000000)) := ⟨_, rfl⟩
      rw [← hU] at D' O' B' ⊢
      clear hU D O B
      have d0 := D'.c0; have d1 := D'.c1; have dl := D'.lt
      have o0 := O'.c0; have o1 := O'.c1; have ol := O'.lt; have of0 := O'.free 0; have of1 := O'.free 1
      have BB := Lib.hid B'
      clear B' D' O'
      go_wp2_with fail
      refine bodyPost_ret (v := .tuple #[.agg #[.int .i64 (-1000000000), .int .i64 1000000000], .int .i64 0]) ?_ rfl ⟨?_, ?_⟩
      · simp [results, Tryz.results31, go_sem, *]
      · rw [HL.out, HH.out]; rfl
      · have := HK.out
        exact (BB.out.setCell (p := ⟨k + 1, 0, none⟩) (by dsimp only; omega) _).setCell (p := ⟨k + 1, 1, none⟩) (by dsimp only; omega) _
end Go.Proofs.YtcopmgnfakjdhaaGreatDoor
/- trig.CosOver, Times, Plus, Minus; place.clip. -/
namespace Go.Proofs.YtcopmgnfakjdhaaGreatDoor
open Go.RowKit
set_option linter.unusedSimpArgs false
set_option linter.unusedVariables false
def coLo (a b : Int) : Int := soLo (a % 1000000000 + 250000000) (a % 1000000000 + 250000000 + min (b - a) 2000000000)
def coHi (a b : Int) : Int := soHi (a % 1000000000 + 250000000) (a % 1000000000 + 250000000 + min (b - a) 2000000000)
set_option maxHeartbeats 2000000 in
theorem CosOver_ok (a b : Int) (w : World) (ht : SinT w) (h : IvOk a b) : Calls Tryz.prog 32 #[.agg #[.int .i64 a, .int .i64 b]] w fun e w' => e = .returned (.tuple #[.agg #[.int .i64 (coLo a b), .int .i64 (coHi a b)], .int .i64 0]) ∧ Below w.heap.size w w' := by
  obtain ⟨h1, h2, h3⟩ := id h
  have C := Lib.hid (fun w => check_ok a b w h)
  have M := Lib.hid (fun w => mod_all a 1000000000 w (by omega) (by omega) (by omega) (by omega))
  have S := Lib.hid (fun w ht => SinOver_ok (a % 1000000000 + 250000000) (a % 1000000000 + 250000000 + min (b - a) 2000000000) w ht ⟨by omega, by omega, by omega⟩)
  have hm : 0 ≤ a % 1000000000 ∧ a % 1000000000 < 1000000000 := by omega
  have HT := Lib.hid ht
  unfold coLo coHi
  generalize a % 1000000000 = m at *
  obtain ⟨l, hl⟩ : ∃ l, l = m + 250000000 := ⟨_, rfl⟩
  obtain ⟨d, hd⟩ : ∃ d, d = min (b - a) 2000000000 := ⟨_, rfl⟩
  rw [← hl, ← hd] at S ⊢
  obtain ⟨r, hr⟩ : ∃ r, r = l + d := ⟨_, rfl⟩
  rw [← hr] at S ⊢
  generalize soLo l r = lo at *
  generalize soHi l r = hi at *
  have w1 : wrap64 (m + 250000000) = l := by rw [hl]; exact IntWalk.wrap64_in _ (by omega)
  have w2 : wrap64 (b - a) = b - a := IntWalk.wrap64_in _ (by omega)
  have w3 : wrap64 (l + d) = r := by rw [hr]; exact IntWalk.wrap64_in _ (by omega)
  have e1 : min (b - a) 2000000000 = d := hd.symm
  clear hm hl hd hr h1 h2 h3 h ht
  go_enter Tryz.func32, Tryz.ntmps32
  go_wp2_with fail
  refine Calls.mono (C.out _) ?_
  rintro e w1 ⟨rfl, hb⟩
  obtain ⟨hb1, hz1, hc1, hf1⟩ := took (w := w) (by repeat' (first | (with_reducible refine below_drewN ?_ _) | go_grown)) (by first | (simp only [vA, vB, vC, vD]; done) | (simp only [vA, vB, vC, vD]; rfl) | rfl) hb; clear hb
  have z1 : w.heap.size < w1.heap.size := by omega
  have z1b : w.heap.size + 1 < w1.heap.size := by omega
  go_wp2_with fail
  refine Calls.mono (M.out _) ?_
  rintro e w2 ⟨rfl, hb⟩
  obtain ⟨hb2, hz2, hc2, hf2⟩ := took (w := w) (by repeat' (first | (with_reducible refine below_drewN ?_ _) | go_grown)) (by first | (simp only [vA, vB, vC, vD]; done) | (simp only [vA, vB, vC, vD]; rfl) | rfl) hb; clear hb
  have z2 : w.heap.size < w2.heap.size := by omega
  have z2b : w.heap.size + 1 < w2.heap.size := by omega
  have HT2 := HT.out.below hb2
  go_wp2_with fail
  refine Calls.mono (S.out _ HT2) ?_
  rintro e w3 ⟨rfl, hb⟩
  obtain ⟨hb3, hz3, hc3, hf3⟩ := took (w := w) (by repeat' (first | (with_reducible refine below_drewN ?_ _) | go_grown)) (by first | (simp only [vA, vB, vC, vD]; done) | (simp only [vA, vB, vC, vD]; rfl) | rfl) hb; clear hb
  have z3 : w.heap.size < w3.heap.size := by omega
  have z3b : w.heap.size + 1 < w3.heap.size := by omega
  go_wp2_with fail
  refine bodyPost_ret (v := .tuple #[.agg #[.int .i64 lo, .int .i64 hi], .int .i64 0]) ?_ rfl ⟨rfl, (by repeat' (first | (with_reducible refine below_drewN ?_ _) | go_grown))⟩
  simp [results, Tryz.results32, go_sem, *]
structure TmsOk (a b c d : Int) : Prop where
  ab : a ≤ b
  cd : c ≤ d
  la : -1000000000 ≤ a
  lb : b ≤ 1000000000
  lc : -1000000000 ≤ c
  ld : d ≤ 1000000000
theorem TmsOk.mul {a b c d : Int} (h : TmsOk a b c d) : MulOk a b c d := mulOk_of h.la h.ab h.lb h.lc h.cd h.ld (by omega)
def tmLo (a b c d : Int) : Int := pLo a b c d 1000000000
def tmHi (a b c d : Int) : Int := pHi a b c d 1000000000
set_option maxHeartbeats 1000000 in
theorem Times_ok (a b c d : Int) (w : World) (h : MulOk a b c d) (h1 : -4000000000000000000 ≤ a ∧ a ≤ 4000000000000000000) (h2 : -4000000000000000000 ≤ b ∧ b ≤ 4000000000000000000) (h3 : -4000000000000000000 ≤ c ∧ c ≤ 4000000000000000000) (h4 : -4000000000000000000 ≤ d ∧ d ≤ 4000000000000000000) :
    Calls Tryz.prog 57 #[.agg #[.int .i64 a, .int .i64 b], .agg #[.int .i64 c, .int .i64 d]] w fun e w' => e = .returned (.agg #[.int .i64 (tmLo a b c d), .int .i64 (tmHi a b c d)]) ∧ Below w.heap.size w w' := by
  have P := Lib.hid (fun w => product_ok a b c d 1000000000 w (by omega) (by omega) h1 h2 h3 h4 h.p0 h.p1 h.p2 h.p3)
  have e1 : pLo a b c d ((1000000000 : Nat) : Int) = tmLo a b c d := rfl
  have e2 : pHi a b c d ((1000000000 : Nat) : Int) = tmHi a b c d := rfl
  rw [e1, e2] at P
  clear e1 e2
  generalize tmLo a b c d = lo at *
  generalize tmHi a b c d = hi at *
  have P' : Hid (∀ w, Calls Tryz.prog 91 #[.agg #[.int .i64 a, .int .i64 b], .agg #[.int .i64 c, .int .i64 d], .int .i64 1000000000] w fun e w' => e = .returned (.agg #[.int .i64 lo, .int .i64 hi]) ∧ Below w.heap.size w w') := P
  clear P h h1 h2 h3 h4
  go_enter Tryz.func57, Tryz.ntmps57
  go_wp2_with fail
  refine Calls.mono (P'.out _) ?_
  rintro e w1 ⟨rfl, hb⟩
  obtain ⟨hb1, hz1, hc1, hf1⟩ := took (w := w) (by repeat' (first | (with_reducible refine below_drewN ?_ _) | go_grown)) (by first | (simp only [vA, vB, vC, vD]; done) | (simp only [vA, vB, vC, vD]; rfl) | rfl) hb; clear hb
  have z1 : w.heap.size < w1.heap.size := by omega
  have z2 : w.heap.size + 1 < w1.heap.size := by omega
  have z3 : w.heap.size + 1 + 1 < w1.heap.size := by omega
  go_wp2_with fail
  refine bodyPost_ret (v := .agg #[.int .i64 lo, .int .i64 hi]) ?_ rfl ⟨rfl, (by repeat' (first | (with_reducible refine below_drewN ?_ _) | go_grown))⟩
  simp [results, Tryz.results57, go_sem, *]
set_option maxHeartbeats 1000000 in
theorem tPlus_ok (a b c d : Int) (w : World) (h1 : -4000000000000000000 ≤ a + c ∧ a + c ≤ 4000000000000000000) (h2 : -4000000000000000000 ≤ b + d ∧ b + d ≤ 4000000000000000000) :
    Calls Tryz.prog 53 #[.agg #[.int .i64 a, .int .i64 b], .agg #[.int .i64 c, .int .i64 d]] w fun e w' => e = .returned (.agg #[.int .i64 (a + c), .int .i64 (b + d)]) ∧ Below w.heap.size w w' := by
  have e1 : wrap64 (a + c) = a + c := IntWalk.wrap64_in _ (by omega)
  have e2 : wrap64 (b + d) = b + d := IntWalk.wrap64_in _ (by omega)
  clear h1 h2
  go_enter Tryz.func53, Tryz.ntmps53
  go_wp2_with fail
  refine bodyPost_ret (v := .agg #[.int .i64 (a + c), .int .i64 (b + d)]) ?_ rfl ⟨rfl, (by repeat' (first | (with_reducible refine below_drewN ?_ _) | go_grown))⟩
  simp [results, Tryz.results53, go_sem, *]
set_option maxHeartbeats 1000000 in
theorem tMinus_ok (a b c d : Int) (w : World) (h1 : -4000000000000000000 ≤ a - d ∧ a - d ≤ 4000000000000000000) (h2 : -4000000000000000000 ≤ b - c ∧ b - c ≤ 4000000000000000000) :
    Calls Tryz.prog 58 #[.agg #[.int .i64 a, .int .i64 b], .agg #[.int .i64 c, .int .i64 d]] w fun e w' => e = .returned (.agg #[.int .i64 (a - d), .int .i64 (b - c)]) ∧ Below w.heap.size w w' := by
  have e1 : wrap64 (a - d) = a - d := IntWalk.wrap64_in _ (by omega)
  have e2 : wrap64 (b - c) = b - c := IntWalk.wrap64_in _ (by omega)
  clear h1 h2
  go_enter Tryz.func58, Tryz.ntmps58
  go_wp2_with fail
  refine bodyPost_ret (v := .agg #[.int .i64 (a - d), .int .i64 (b - c)]) ?_ rfl ⟨rfl, (by repeat' (first | (with_reducible refine below_drewN ?_ _) | go_grown))⟩
  simp [results, Tryz.results58, go_sem, *]
end Go.Proofs.YtcopmgnfakjdhaaGreatDoor
/- Spans of sines, cosines and their products: bounds. Plain. -/
namespace Go.Proofs.YtcopmgnfakjdhaaGreatDoor
set_option linter.unusedSimpArgs false
set_option linter.unusedVariables false
theorem s_tms (a : Int) : -1000000000 ≤ sLo a ∧ sLo a ≤ sHi a ∧ sHi a ≤ 1000000000 := by
  have h := sine_in a; exact ⟨h.bl, h.le, h.bh⟩
theorem c_tms (a : Int) : -1000000000 ≤ cLo a ∧ cLo a ≤ cHi a ∧ cHi a ≤ 1000000000 := by unfold cLo cHi; exact s_tms _
theorem so_tms (a b : Int) : -1000000000 ≤ soLo a b ∧ soLo a b ≤ soHi a b ∧ soHi a b ≤ 1000000000 := by
  have h := s_tms a; have g := s_tms b
  unfold soLo soHi
  split <;> split <;> omega
theorem co_tms (a b : Int) : -1000000000 ≤ coLo a b ∧ coLo a b ≤ coHi a b ∧ coHi a b ≤ 1000000000 := by unfold coLo coHi; exact so_tms _ _
theorem tms_of {a b c d : Int} (h : -1000000000 ≤ a ∧ a ≤ b ∧ b ≤ 1000000000) (g : -1000000000 ≤ c ∧ c ≤ d ∧ d ≤ 1000000000) : TmsOk a b c d := ⟨h.2.1, g.2.1, h.1, h.2.2, g.1, g.2.2⟩
theorem div_bd9 {x : Int} (h1 : -1000000000000000000 ≤ x) (h2 : x ≤ 1000000000000000000) : -1000000000 ≤ x / 1000000000 ∧ x / 1000000000 ≤ upQ x 1000000000 ∧ upQ x 1000000000 ≤ 1000000000 := by unfold upQ; omega
theorem tm_tms {a b c d : Int} (h : TmsOk a b c d) : -1000000000 ≤ tmLo a b c d ∧ tmLo a b c d ≤ tmHi a b c d ∧ tmHi a b c d ≤ 1000000000 := by
  obtain ⟨h1, h2, h3, h4, h5, h6⟩ := h
  have p0 := mul_bound h3 (show a ≤ 1000000000 by omega) h5 (show c ≤ 1000000000 by omega)
  have p1 := mul_bound h3 (show a ≤ 1000000000 by omega) (show -1000000000 ≤ d by omega) h6
  have p2 := mul_bound (show -1000000000 ≤ b by omega) h4 h5 (show c ≤ 1000000000 by omega)
  have p3 := mul_bound (show -1000000000 ≤ b by omega) h4 (show -1000000000 ≤ d by omega) h6
  have q0 := div_bd9 (x := a * c) (by omega) (by omega)
  have q1 := div_bd9 (x := a * d) (by omega) (by omega)
  have q2 := div_bd9 (x := b * c) (by omega) (by omega)
  have q3 := div_bd9 (x := b * d) (by omega) (by omega)
  unfold tmLo tmHi pLo pHi
  generalize a * c / 1000000000 = x0 at *
  generalize a * d / 1000000000 = x1 at *
  generalize b * c / 1000000000 = x2 at *
  generalize b * d / 1000000000 = x3 at *
  generalize upQ (a * c) 1000000000 = y0 at *
  generalize upQ (a * d) 1000000000 = y1 at *
  generalize upQ (b * c) 1000000000 = y2 at *
  generalize upQ (b * d) 1000000000 = y3 at *
  omega
end Go.Proofs.YtcopmgnfakjdhaaGreatDoor
