/- Merged by wip/tools/pack.py out of XTrigO, XTrigO2, XTms. -/
import Derived.Test.YtcopmgnfakjdhaaGreatDoorTrigA
import Derived.Test.YtcopmgnfakjdhaaGreatDoorIval
import Derived.Test.YtcopmgnfakjdhaaGreatDoorBasic
import Derived.Deep.RegionHeld3
import Derived.Test.YtcopmgnfakjdhaaGreatDoorReg
import Derived.Deep.QuietTactic
import Derived.BigQuiet
/- trig.contains, SinOver, CosOver, Times, Plus, Minus. -/
namespace Go.Proofs.YtcopmgnfakjdhaaGreatDoor
open Go.RowKit
set_option linter.unusedSimpArgs false
set_option linter.unusedVariables false
/-- Whether a span of angles contains an angle, up to whole turns. -/
def conB (a b t : Int) : Prop := 1000000000 ≤ b - a ∨ (t - a) % 1000000000 ≤ b - a
instance (a b t : Int) : Decidable (conB a b t) := by unfold conB; exact inferInstance
set_option maxHeartbeats 2000000 in
theorem contains_ok (a b t : Int) (w : World) (ha : -2000000000000000000 ≤ a ∧ a ≤ 2000000000000000000) (hb : -2000000000000000000 ≤ b ∧ b ≤ 2000000000000000000) (ht : -1000000000 ≤ t ∧ t ≤ 1000000000) :
    Calls Tryz.prog 75 #[.agg #[.int .i64 a, .int .i64 b], .int .i64 t] w fun e w' => e = .returned (.bool (decide (conB a b t))) ∧ Below w.heap.size w w' := by
  have e1 : IntKind.i64.wrap (b - a) = b - a := IntWalk.i64_in _ (by omega)
  have e2 : IntKind.i64.wrap (t - a) = t - a := IntWalk.i64_in _ (by omega)
  have M := Lib.hid (fun w => mod_all (t - a) 1000000000 w (by omega) (by omega) (by omega) (by omega))
  have B0 := (Below.refl w.heap.size w).alloc (Nat.le_refl _) (.cells #[.int .i64 a, .int .i64 b] 28)
  have S0 := SpBox.new w a b
  by_cases c : 1000000000 ≤ b - a
  · have e : decide (conB a b t) = true := decide_eq_true (Or.inl c)
    rw [e]
    have c' : decide (1000000000 ≤ b - a) = true := decide_eq_true c
    clear e c
    go_enter Tryz.func75, Tryz.ntmps75
    go_upto_region 1 with fail
    obtain ⟨X0, hX0⟩ : ∃ X, X = w.alloc (.cells #[.int .i64 a, .int .i64 b] 28) := ⟨_, rfl⟩
    rw [← hX0] at B0 S0 ⊢
    clear hX0
    have c0 := S0.c0; have c1 := S0.c1; have cl := S0.lt
    go_quiet (fail)
    go_wp2_with fail
    go_ret
    exact ⟨rfl, (by repeat' (first | (with_reducible refine below_drewN ?_ _) | go_grown))⟩
  · have e : decide (conB a b t) = decide ((t - a) % 1000000000 ≤ b - a) := by
      unfold conB
      exact decide_eq_decide.2 ⟨fun h => h.resolve_left c, .inr⟩
    rw [e]
    clear e
    have c' : decide (1000000000 ≤ b - a) = false := decide_eq_false c
    clear c
    generalize (t - a) % 1000000000 = m at *
    obtain ⟨v, hv⟩ : ∃ v, v = decide (m ≤ b - a) := ⟨_, rfl⟩
    rw [← hv]
    have HV := Lib.hid hv
    clear hv
    go_enter Tryz.func75, Tryz.ntmps75
    go_upto_region 1 with fail
    obtain ⟨X0, hX0⟩ : ∃ X, X = w.alloc (.cells #[.int .i64 a, .int .i64 b] 28) := ⟨_, rfl⟩
    rw [← hX0] at B0 S0 ⊢
    clear hX0
    obtain ⟨X, hX⟩ : ∃ X, X = (X0).drew := ⟨_, rfl⟩
    have xX0 : X.cell? ⟨w.heap.size, 0, none⟩ = some (.int .i64 a) := by rw [hX]; exact (S0.c0)
    have xX1 : X.cell? ⟨w.heap.size, 1, none⟩ = some (.int .i64 b) := by rw [hX]; exact (S0.c1)
    have lX0 : w.heap.size < X.heap.size := by rw [hX]; exact (S0.lt)
    have bX : Below w.heap.size w X := by rw [hX]; exact (B0).drew
    have HxX0 := Lib.hid xX0
    have HxX1 := Lib.hid xX1
    have HlX0 := Lib.hid lX0
    have HbX := Lib.hid bX
    have HhX := Lib.hid hX
    clear xX0 xX1 lX0 bX hX
    go_region_held3 (fun w' => w'.cell? ⟨w.heap.size, 0, none⟩ = some (.int .i64 a) ∧ w'.cell? ⟨w.heap.size, 1, none⟩ = some (.int .i64 b) ∧ Below X.heap.size X w')
      (((try dsimp only); repeat' apply And.intro) <;> (first | (with_reducible assumption) | (go_split_ands; (with_reducible assumption)) | (rw [← HhX.out]; (first | exact Below.refl _ _ | exact HxX0.out | exact HxX1.out)) | go_keep))
      (first
        | (go_at_call 76; refine Calls.mono (M.out _) ?_; rintro e wq ⟨rfl, hb⟩; (try go_split_ands); have qB : Below X.heap.size X wq := (bX_more (by with_reducible assumption) hb); have m0 := bX_oldc qB HlX0.out HxX0.out; have m1 := bX_oldc qB HlX0.out HxX1.out; clear hb))
    all_goals
      have hbq : Below w.heap.size w wq := bX_back HbX.out qB
      go_wp2_with fail
      go_ret
      exact ⟨by rw [HV.out]; rfl, hbq⟩
theorem SpBox.set0 {w : World} {b : Nat} {x y : Int} (h : SpBox w b x y) (v : Int) : SpBox (w.setCell ⟨b, 0, none⟩ (.int .i64 v)) b v y :=
  (World.rowIs.set h 0 (.int .i64 v)).congr (fun i hi => by
    match i, hi with
    | 0, _ => rfl
    | 1, _ => rfl)
theorem all_three {p : Nat → Prop} {a b c : Nat} (h : p a) (g : p b) (f : p c) : ∀ i, i ∈ [a, b, c] → p i := fun i hi => by
  rcases (by simpa using hi : i = a ∨ i = b ∨ i = c) with rfl | rfl | rfl
  · exact h
  · exact g
  · exact f
/-- The span of the sines over a span of angles. -/
def soLo (a b : Int) : Int := if conB a b 750000000 then -1000000000 else min (sLo a) (sLo b)
def soHi (a b : Int) : Int := if conB a b 250000000 then 1000000000 else max (sHi a) (sHi b)
set_option maxRecDepth 100000 in
set_option maxHeartbeats 4000000 in
theorem SinOver_ok (a b : Int) (w : World) (ht : SinT w) (h : IvOk a b) : Calls Tryz.prog 31 #[.agg #[.int .i64 a, .int .i64 b]] w fun e w' => e = .returned (.tuple #[.agg #[.int .i64 (soLo a b), .int .i64 (soHi a b)], .int .i64 0]) ∧ Below w.heap.size w w' := by
  obtain ⟨h1, h2, h3⟩ := id h
  have C := Lib.hid (fun w => check_ok a b w h)
  have SA := Lib.hid (fun w ht => sine_ok a w ht (by omega))
  have SB := Lib.hid (fun w ht => sine_ok b w ht (by omega))
  have K1 := Lib.hid (fun w => contains_ok a b 250000000 w (by omega) (by omega) (by omega))
  have K2 := Lib.hid (fun w => contains_ok a b 750000000 w (by omega) (by omega) (by omega))
  have HT := Lib.hid ht
  obtain ⟨q1, hq1⟩ : ∃ q, q = decide (conB a b 250000000) := ⟨_, rfl⟩
  obtain ⟨q2, hq2⟩ : ∃ q, q = decide (conB a b 750000000) := ⟨_, rfl⟩
  have eLo : soLo a b = if q2 = true then -1000000000 else min (sLo a) (sLo b) := by rw [hq2]; unfold soLo; simp only [decide_eq_true_eq]
  have eHi : soHi a b = if q1 = true then 1000000000 else max (sHi a) (sHi b) := by rw [hq1]; unfold soHi; simp only [decide_eq_true_eq]
  rw [← hq1] at K1; rw [← hq2] at K2
  clear hq1 hq2
  generalize soLo a b = lo at *
  generalize soHi a b = hi at *
  generalize sLo a = al at *
  generalize sHi a = ah at *
  generalize sLo b = bl at *
  generalize sHi b = bh at *
  obtain ⟨ml, hml⟩ : ∃ m, m = min al bl := ⟨_, rfl⟩
  obtain ⟨mh, hmh⟩ : ∃ m, m = max ah bh := ⟨_, rfl⟩
  rw [← hml] at eLo; rw [← hmh] at eHi
  have HL := Lib.hid eLo; have HH := Lib.hid eHi
  have e1 := hml.symm; have e2 := hmh.symm
  have b0 := SpBox.new w a b
  have b1 := SpBox.new (w.alloc (.cells #[.int .i64 a, .int .i64 b] 28)) 0 0
  obtain ⟨k, hk⟩ : ∃ b, b = w.heap.size := ⟨_, rfl⟩
  have e5 : (w.alloc (.cells #[.int .i64 a, .int .i64 b] 28)).heap.size = k + 1 := by simp [hk]
  rw [e5] at b1
  have HB0 := Lib.hid (b0.alloc (.cells #[.int .i64 0, .int .i64 0] 28))
  rw [← hk] at HB0
  have HB1 := Lib.hid b1
  have HW := Lib.hid (show Below w.heap.size w ((w.alloc (.cells #[.int .i64 a, .int .i64 b] 28)).alloc (.cells #[.int .i64 0, .int .i64 0] 28)) from (by repeat' (first | (with_reducible refine below_drewN ?_ _) | go_grown)))
  have HK := Lib.hid hk
  have HE5 := Lib.hid e5
  clear b0 b1 e5 eLo eHi hml hmh ht h
  go_enter Tryz.func31, Tryz.ntmps31
  go_upto_region 1 with fail
  (try rw [HE5.out])
  rw [← hk]
  clear hk
  obtain ⟨W, hW⟩ : ∃ W, W = (w.alloc (.cells #[.int .i64 a, .int .i64 b] 28)).alloc (.cells #[.int .i64 0, .int .i64 0] 28) := ⟨_, rfl⟩
  rw [← hW] at HB0 HB1 HW ⊢
  clear hW
  have c0 := HB0.out.c0; have c1 := HB0.out.c1; have cl := HB0.out.lt
  go_wp2_with fail
  refine Calls.mono (C.out _) ?_
  rintro e w1 ⟨rfl, hb⟩
  have S0 := Lib.hid (HB0.out.below hb)
  have S1 := Lib.hid (HB1.out.below hb)
  have BW := Lib.hid (HW.out.trans (hb.mono HW.out.size))
  clear hb HB0 HB1 HW c0 c1 cl
  have c0 := S0.out.c0; have c1 := S0.out.c1; have cl := S0.out.lt
  go_upto_region 4 with fail
  clear c0 c1 cl C
  obtain ⟨X, hX⟩ : ∃ X, X = w1.drew := ⟨_, rfl⟩
  have hf : SpBox X k a b ∧ SpBox X (k + 1) 0 0 ∧ Below w.heap.size w X := by rw [hX]; exact ⟨S0.out, S1.out, BW.out.drew⟩
  have HhX := Lib.hid hX
  clear hX S0 S1 BW
  go_cut [5, 6] (fun s5 s6 wx => ∃ m n : Nat, s5 = .pointer (some ⟨m, 0, none⟩) ∧ s6 = .pointer (some ⟨n, 0, none⟩) ∧ Hid (SpBox wx m al ah) ∧ Hid (SpBox wx n bl bh) ∧ Hid (SpBox wx k a b) ∧ Hid (SpBox wx (k + 1) 0 0) ∧ Hid (Below w.heap.size w wx))
  case first =>
    refine wp_region_G [(5, fun w' => SpBox w' k a b ∧ SpBox w' (k + 1) 0 0 ∧ Below w.heap.size w w'), (9, fun _ => True)] (by kernel_rfl) (heldC_two (fun _ => by rw [← HhX.out]; exact hf) (fun _ => trivial)) (fun hF => ?_)
    rw [← HhX.out] at hF ⊢
    refine wpG_takeC (oi := ?oi1) (v := ?vv1) 0 _ [2,1] ?hi1 (List.Mem.head _) ?hc1 ?hQ1 hF ?hw1 ?hy1 (fun hF => ?hh1)
    case hi1 => (simp only [List.getElem?_toArray, List.getElem?_cons_succ, List.getElem?_cons_zero]; rfl)
    case hc1 => kernel_rfl
    case hQ1 => exact fun _ _ _ h => h
    case hw1 => rfl
    case hy1 => (intro wz hz; skip; go_simp; try (with_reducible rfl))
    try simp only [Act.put, List.setIfInBounds_toArray, List.set_cons_zero, List.set_cons_succ]
    refine wpG_takeC (oi := ?oi2) (v := ?vv2) 1 _ [2] ?hi2 (List.Mem.head _) ?hc2 ?hQ2 hF ?hw2 ?hy2 (fun hF => ?hh2)
    case hi2 => (simp only [List.getElem?_toArray, List.getElem?_cons_succ, List.getElem?_cons_zero]; rfl)
    case hc2 => kernel_rfl
    case hQ2 => exact fun _ _ _ h => h
    case hw2 => rfl
    case hy2 => (intro wz hz; have zc := hz.1.c0; go_simp; try (with_reducible rfl))
    try simp only [Act.put, List.setIfInBounds_toArray, List.set_cons_zero, List.set_cons_succ]
    refine wpG_takeC (oi := ?oi3) (v := ?vv3) 3 _ [4] ?hi3 (List.Mem.head _) ?hc3 ?hQ3 hF ?hw3 ?hy3 (fun hF => ?hh3)
    case hi3 => (simp only [List.getElem?_toArray, List.getElem?_cons_succ, List.getElem?_cons_zero]; rfl)
    case hc3 => kernel_rfl
    case hQ3 => exact fun _ _ _ h => h
    case hw3 => rfl
    case hy3 => (intro wz hz; skip; go_simp; try (with_reducible rfl))
    try simp only [Act.put, List.setIfInBounds_toArray, List.set_cons_zero, List.set_cons_succ]
    refine wpG_take (oi := ?oi4) (v := ?vv4) 4 _ ?hi4 (List.Mem.head _) ?hc4 ?hQ4 hF ?hw4 ?hy4 (fun hF => ?hh4)
    case hi4 => (simp only [List.getElem?_toArray, List.getElem?_cons_succ, List.getElem?_cons_zero]; rfl)
    case hc4 => kernel_rfl
    case hQ4 => exact fun _ _ _ h => h
    case hw4 => rfl
    case hy4 => (intro wz hz; have zc := hz.1.c1; go_simp; try (with_reducible rfl))
    try simp only [Act.put, List.setIfInBounds_toArray, List.set_cons_zero, List.set_cons_succ]
    refine wpG_ready (rs := [2, 6, 7]) (by kernel_rfl) (by simp) ?_
    refine all_three ?_ ?_ ?_
    · skip
      refine wpOp_hand (oi := ?oi5) ?hi5 (fun K hK => ?hh5)
      case hi5 => (simp only [List.getElem?_toArray, List.getElem?_cons_succ, List.getElem?_cons_zero]; rfl)
      go_simp
      refine Calls.mono (SA.out _ (HT.out.below hf.2.2)) ?_
      rintro e V1 ⟨rfl, hb⟩
      have hfn : SpBox V1 k a b ∧ SpBox V1 (k + 1) 0 0 ∧ Below w.heap.size w V1 := ⟨hf.1.below hb, hf.2.1.below hb, hf.2.2.trans (hb.mono hf.2.2.size)⟩
      clear hf hb
      have hf := hfn
      clear hfn
      refine hK.out _ _ (heldC_two (fun _ => hf) (fun _ => trivial)) (fun hF => ?_)
      clear hK K
      try simp only [Act.put, List.setIfInBounds_toArray, List.set_cons_zero, List.set_cons_succ]
      refine wpG_ready (rs := [5, 6, 7]) (by kernel_rfl) (by simp) ?_
      refine all_three ?_ ?_ ?_
      · skip
        refine wpOp_hand (oi := ?oi6) ?hi6 (fun K hK => ?hh6)
        case hi6 => (simp only [List.getElem?_toArray, List.getElem?_cons_succ, List.getElem?_cons_zero]; rfl)
        go_simp
        refine Calls.mono (SB.out _ (HT.out.below hf.2.2)) ?_
        rintro e V2 ⟨rfl, hb⟩
        have hfn : SpBox V2 k a b ∧ SpBox V2 (k + 1) 0 0 ∧ Below w.heap.size w V2 := ⟨hf.1.below hb, hf.2.1.below hb, hf.2.2.trans (hb.mono hf.2.2.size)⟩
        clear hf hb
        have hf := hfn
        clear hfn
        refine hK.out _ _ (heldC_two (fun h => absurd h (by simp)) (fun _ => trivial)) (fun hF => ?_)
        clear hK K
        try simp only [Act.put, List.setIfInBounds_toArray, List.set_cons_zero, List.set_cons_succ]
        refine wpG_ready (rs := [6, 7]) (by kernel_rfl) (by simp) ?_
        refine all_two ?_ ?_
        · skip
          refine wpOp_hand (oi := ?oi7) ?hi7 (fun K hK => ?hh7)
          case hi7 => (simp only [List.getElem?_toArray, List.getElem?_cons_succ, List.getElem?_cons_zero]; rfl)
          go_simp
          have d6k := hf.1.lt
          have d6l := hf.2.1.lt
          have d6s := hf.2.2.size
          have h6 := SpBox.new V2 0 0
          obtain ⟨b6, hb6⟩ : ∃ b, b = V2.heap.size := ⟨_, rfl⟩
          obtain ⟨Y3, hY⟩ : ∃ Y, Y = V2.alloc (.cells #[.int .i64 0, .int .i64 0] 28) := ⟨_, rfl⟩
          have hfn : SpBox Y3 k a b ∧ SpBox Y3 (k + 1) 0 0 ∧ Below w.heap.size w Y3 := by rw [hY]; exact ⟨hf.1.alloc _, hf.2.1.alloc _, hf.2.2.alloc d6s _⟩
          rw [← hY] at h6 ⊢
          rw [← hb6] at h6 d6k d6l d6s ⊢
          clear hf
          have hf := hfn
          clear hfn hY hb6
          refine hK.out _ _ (heldC_two (fun h => absurd h (by simp)) (fun _ => trivial)) (fun hF => ?_)
          clear hK K
          try simp only [Act.put, List.setIfInBounds_toArray, List.set_cons_zero, List.set_cons_succ]
          refine wpG_ready (rs := [7]) (by kernel_rfl) (by simp) ?_
          refine all_one ?_
          refine wpOp_hand (oi := ?oi8) ?hi8 (fun K hK => ?hh8)
          case hi8 => (simp only [List.getElem?_toArray, List.getElem?_cons_succ, List.getElem?_cons_zero]; rfl)
          go_simp
          have d7k := hf.1.lt
          have d7l := hf.2.1.lt
          have d7s := hf.2.2.size
          have d7j := h6.lt
          have h7 := SpBox.new Y3 0 0
          obtain ⟨b7, hb7⟩ : ∃ b, b = Y3.heap.size := ⟨_, rfl⟩
          obtain ⟨Y4, hY⟩ : ∃ Y, Y = Y3.alloc (.cells #[.int .i64 0, .int .i64 0] 28) := ⟨_, rfl⟩
          have hfn : SpBox Y4 k a b ∧ SpBox Y4 (k + 1) 0 0 ∧ Below w.heap.size w Y4 := by rw [hY]; exact ⟨hf.1.alloc _, hf.2.1.alloc _, hf.2.2.alloc d7s _⟩
          replace h6 := h6.alloc (.cells #[.int .i64 0, .int .i64 0] 28)
          rw [← hY] at h7 h6 ⊢
          rw [← hb7] at h7 d7k d7l d7s d7j ⊢
          clear hf
          have hf := hfn
          clear hfn hY hb7
          refine hK.out _ _ (heldC_two (fun h => absurd h (by simp)) (fun _ => trivial)) (fun hF => ?_)
          clear hK K
          try simp only [Act.put, List.setIfInBounds_toArray, List.set_cons_zero, List.set_cons_succ]
          refine wpG_ready (rs := [8]) (by kernel_rfl) (by simp) ?_
          refine all_one ?_
          have x0 := h6.c0; have x1 := h6.c1; have x0f := h6.free 0; have x1f := h6.free 1; have xl := h6.lt
          refine wpOp_hand (oi := ?oi9) ?hi9 (fun K hK => ?hh9)
          case hi9 => (simp only [List.getElem?_toArray, List.getElem?_cons_succ, List.getElem?_cons_zero]; rfl)
          go_simp
          have hfn : SpBox ((Y4.setCell ⟨b6, 0, none⟩ (.int .i64 al)).setCell ⟨b6, 1, none⟩ (.int .i64 ah)) k a b ∧ SpBox ((Y4.setCell ⟨b6, 0, none⟩ (.int .i64 al)).setCell ⟨b6, 1, none⟩ (.int .i64 ah)) (k + 1) 0 0 ∧ Below w.heap.size w ((Y4.setCell ⟨b6, 0, none⟩ (.int .i64 al)).setCell ⟨b6, 1, none⟩ (.int .i64 ah)) := ⟨(hf.1.other (by dsimp only; omega) _).other (by dsimp only; omega) _, (hf.2.1.other (by dsimp only; omega) _).other (by dsimp only; omega) _, (hf.2.2.setCell (p := ⟨b6, 0, none⟩) d6s _).setCell (p := ⟨b6, 1, none⟩) d6s _⟩
          replace h7 := (h7.other (a := ⟨b6, 0, none⟩) (by dsimp only; omega) (.int .i64 al)).other (a := ⟨b6, 1, none⟩) (by dsimp only; omega) (.int .i64 ah)
          replace h6 := h6.set al ah
          obtain ⟨Z5, hY⟩ : ∃ Y, Y = (Y4.setCell ⟨b6, 0, none⟩ (.int .i64 al)).setCell ⟨b6, 1, none⟩ (.int .i64 ah) := ⟨_, rfl⟩
          rw [← hY] at hfn h6 h7 ⊢
          clear hf x0 x1 x0f x1f xl
          have hf := hfn
          clear hfn hY
          refine hK.out _ _ (heldC_two (fun h => absurd h (by simp)) (fun _ => trivial)) (fun hF => ?_)
          clear hK K
          try simp only [Act.put, List.setIfInBounds_toArray, List.set_cons_zero, List.set_cons_succ]
          refine wpG_ready (rs := [9]) (by kernel_rfl) (by simp) ?_
          refine all_one ?_
          have x0 := h7.c0; have x1 := h7.c1; have x0f := h7.free 0; have x1f := h7.free 1; have xl := h7.lt
          refine wpOp_hand (oi := ?oi10) ?hi10 (fun K hK => ?hh10)
          case hi10 => (simp only [List.getElem?_toArray, List.getElem?_cons_succ, List.getElem?_cons_zero]; rfl)
          go_simp
          have hfn : SpBox ((Z5.setCell ⟨b7, 0, none⟩ (.int .i64 bl)).setCell ⟨b7, 1, none⟩ (.int .i64 bh)) k a b ∧ SpBox ((Z5.setCell ⟨b7, 0, none⟩ (.int .i64 bl)).setCell ⟨b7, 1, none⟩ (.int .i64 bh)) (k + 1) 0 0 ∧ Below w.heap.size w ((Z5.setCell ⟨b7, 0, none⟩ (.int .i64 bl)).setCell ⟨b7, 1, none⟩ (.int .i64 bh)) := ⟨(hf.1.other (by dsimp only; omega) _).other (by dsimp only; omega) _, (hf.2.1.other (by dsimp only; omega) _).other (by dsimp only; omega) _, (hf.2.2.setCell (p := ⟨b7, 0, none⟩) d7s _).setCell (p := ⟨b7, 1, none⟩) d7s _⟩
          replace h6 := (h6.other (a := ⟨b7, 0, none⟩) (by dsimp only; omega) (.int .i64 bl)).other (a := ⟨b7, 1, none⟩) (by dsimp only; omega) (.int .i64 bh)
          replace h7 := h7.set bl bh
          obtain ⟨Z6, hY⟩ : ∃ Y, Y = (Z5.setCell ⟨b7, 0, none⟩ (.int .i64 bl)).setCell ⟨b7, 1, none⟩ (.int .i64 bh) := ⟨_, rfl⟩
          rw [← hY] at hfn h6 h7 ⊢
          clear hf x0 x1 x0f x1f xl
          have hf := hfn
          clear hfn hY
          refine hK.out _ _ (heldC_two (fun h => absurd h (by simp)) (fun h => absurd h (by simp))) (fun hF => ?_)
          clear hK K
          try simp only [Act.put, List.setIfInBounds_toArray, List.set_cons_zero, List.set_cons_succ]
          refine wpG_done (by kernel_rfl) ?_ _
          go_wp2_with fail
          go_meet
          exact ⟨b6, b7, rfl, rfl, Lib.hid h6, Lib.hid h7, Lib.hid hf.1, Lib.hid hf.2.1, Lib.hid hf.2.2⟩
        · skip
          refine wpOp_hand (oi := ?oi11) ?hi11 (fun K hK => ?hh11)
          case hi11 => (simp only [List.getElem?_toArray, List.getElem?_cons_succ, List.getElem?_cons_zero]; rfl)
          go_simp
          have d7k := hf.1.lt
          have d7l := hf.2.1.lt
          have d7s := hf.2.2.size
          have h7 := SpBox.new V2 0 0
          obtain ⟨b7, hb7⟩ : ∃ b, b = V2.heap.size := ⟨_, rfl⟩
          obtain ⟨Y7, hY⟩ : ∃ Y, Y = V2.alloc (.cells #[.int .i64 0, .int .i64 0] 28) := ⟨_, rfl⟩
          have hfn : SpBox Y7 k a b ∧ SpBox Y7 (k + 1) 0 0 ∧ Below w.heap.size w Y7 := by rw [hY]; exact ⟨hf.1.alloc _, hf.2.1.alloc _, hf.2.2.alloc d7s _⟩
          rw [← hY] at h7 ⊢
          rw [← hb7] at h7 d7k d7l d7s ⊢
          clear hf
          have hf := hfn
          clear hfn hY hb7
          refine hK.out _ _ (heldC_two (fun h => absurd h (by simp)) (fun _ => trivial)) (fun hF => ?_)
          clear hK K
          try simp only [Act.put, List.setIfInBounds_toArray, List.set_cons_zero, List.set_cons_succ]
          refine wpG_ready (rs := [6]) (by kernel_rfl) (by simp) ?_
          refine all_one ?_
          refine wpOp_hand (oi := ?oi12) ?hi12 (fun K hK => ?hh12)
          case hi12 => (simp only [List.getElem?_toArray, List.getElem?_cons_succ, List.getElem?_cons_zero]; rfl)
          go_simp
          have d6k := hf.1.lt
          have d6l := hf.2.1.lt
          have d6s := hf.2.2.size
          have d6j := h7.lt
          have h6 := SpBox.new Y7 0 0
          obtain ⟨b6, hb6⟩ : ∃ b, b = Y7.heap.size := ⟨_, rfl⟩
          obtain ⟨Y8, hY⟩ : ∃ Y, Y = Y7.alloc (.cells #[.int .i64 0, .int .i64 0] 28) := ⟨_, rfl⟩
          have hfn : SpBox Y8 k a b ∧ SpBox Y8 (k + 1) 0 0 ∧ Below w.heap.size w Y8 := by rw [hY]; exact ⟨hf.1.alloc _, hf.2.1.alloc _, hf.2.2.alloc d6s _⟩
          replace h7 := h7.alloc (.cells #[.int .i64 0, .int .i64 0] 28)
          rw [← hY] at h6 h7 ⊢
          rw [← hb6] at h6 d6k d6l d6s d6j ⊢
          clear hf
          have hf := hfn
          clear hfn hY hb6
          refine hK.out _ _ (heldC_two (fun h => absurd h (by simp)) (fun _ => trivial)) (fun hF => ?_)
          clear hK K
          try simp only [Act.put, List.setIfInBounds_toArray, List.set_cons_zero, List.set_cons_succ]
          refine wpG_ready (rs := [8]) (by kernel_rfl) (by simp) ?_
          refine all_one ?_
          have x0 := h6.c0; have x1 := h6.c1; have x0f := h6.free 0; have x1f := h6.free 1; have xl := h6.lt
          refine wpOp_hand (oi := ?oi13) ?hi13 (fun K hK => ?hh13)
          case hi13 => (simp only [List.getElem?_toArray, List.getElem?_cons_succ, List.getElem?_cons_zero]; rfl)
          go_simp
          have hfn : SpBox ((Y8.setCell ⟨b6, 0, none⟩ (.int .i64 al)).setCell ⟨b6, 1, none⟩ (.int .i64 ah)) k a b ∧ SpBox ((Y8.setCell ⟨b6, 0, none⟩ (.int .i64 al)).setCell ⟨b6, 1, none⟩ (.int .i64 ah)) (k + 1) 0 0 ∧ Below w.heap.size w ((Y8.setCell ⟨b6, 0, none⟩ (.int .i64 al)).setCell ⟨b6, 1, none⟩ (.int .i64 ah)) := ⟨(hf.1.other (by dsimp only; omega) _).other (by dsimp only; omega) _, (hf.2.1.other (by dsimp only; omega) _).other (by dsimp only; omega) _, (hf.2.2.setCell (p := ⟨b6, 0, none⟩) d6s _).setCell (p := ⟨b6, 1, none⟩) d6s _⟩
          replace h7 := (h7.other (a := ⟨b6, 0, none⟩) (by dsimp only; omega) (.int .i64 al)).other (a := ⟨b6, 1, none⟩) (by dsimp only; omega) (.int .i64 ah)
          replace h6 := h6.set al ah
          obtain ⟨Z9, hY⟩ : ∃ Y, Y = (Y8.setCell ⟨b6, 0, none⟩ (.int .i64 al)).setCell ⟨b6, 1, none⟩ (.int .i64 ah) := ⟨_, rfl⟩
          rw [← hY] at hfn h6 h7 ⊢
          clear hf x0 x1 x0f x1f xl
          have hf := hfn
          clear hfn hY
          refine hK.out _ _ (heldC_two (fun h => absurd h (by simp)) (fun _ => trivial)) (fun hF => ?_)
          clear hK K
          try simp only [Act.put, List.setIfInBounds_toArray, List.set_cons_zero, List.set_cons_succ]
          refine wpG_ready (rs := [9]) (by kernel_rfl) (by simp) ?_
          refine all_one ?_
          have x0 := h7.c0; have x1 := h7.c1; have x0f := h7.free 0; have x1f := h7.free 1; have xl := h7.lt
          refine wpOp_hand (oi := ?oi14) ?hi14 (fun K hK => ?hh14)
          case hi14 => (simp only [List.getElem?_toArray, List.getElem?_cons_succ, List.getElem?_cons_zero]; rfl)
          go_simp
          have hfn : SpBox ((Z9.setCell ⟨b7, 0, none⟩ (.int .i64 bl)).setCell ⟨b7, 1, none⟩ (.int .i64 bh)) k a b ∧ SpBox ((Z9.setCell ⟨b7, 0, none⟩ (.int .i64 bl)).setCell ⟨b7, 1, none⟩ (.int .i64 bh)) (k + 1) 0 0 ∧ Below w.heap.size w ((Z9.setCell ⟨b7, 0, none⟩ (.int .i64 bl)).setCell ⟨b7, 1, none⟩ (.int .i64 bh)) := ⟨(hf.1.other (by dsimp only; omega) _).other (by dsimp only; omega) _, (hf.2.1.other (by dsimp only; omega) _).other (by dsimp only; omega) _, (hf.2.2.setCell (p := ⟨b7, 0, none⟩) d7s _).setCell (p := ⟨b7, 1, none⟩) d7s _⟩
          replace h6 := (h6.other (a := ⟨b7, 0, none⟩) (by dsimp only; omega) (.int .i64 bl)).other (a := ⟨b7, 1, none⟩) (by dsimp only; omega) (.int .i64 bh)
          replace h7 := h7.set bl bh
          obtain ⟨Z10, hY⟩ : ∃ Y, Y = (Z9.setCell ⟨b7, 0, none⟩ (.int .i64 bl)).setCell ⟨b7, 1, none⟩ (.int .i64 bh) := ⟨_, rfl⟩
          rw [← hY] at hfn h6 h7 ⊢
          clear hf x0 x1 x0f x1f xl
          have hf := hfn
          clear hfn hY
          refine hK.out _ _ (heldC_two (fun h => absurd h (by simp)) (fun h => absurd h (by simp))) (fun hF => ?_)
          clear hK K
          try simp only [Act.put, List.setIfInBounds_toArray, List.set_cons_zero, List.set_cons_succ]
          refine wpG_done (by kernel_rfl) ?_ _
          go_wp2_with fail
          go_meet
          exact ⟨b6, b7, rfl, rfl, Lib.hid h6, Lib.hid h7, Lib.hid hf.1, Lib.hid hf.2.1, Lib.hid hf.2.2⟩
      · skip
        refine wpOp_hand (oi := ?oi15) ?hi15 (fun K hK => ?hh15)
        case hi15 => (simp only [List.getElem?_toArray, List.getElem?_cons_succ, List.getElem?_cons_zero]; rfl)
        go_simp
        have d6k := hf.1.lt
        have d6l := hf.2.1.lt
        have d6s := hf.2.2.size
        have h6 := SpBox.new V1 0 0
        obtain ⟨b6, hb6⟩ : ∃ b, b = V1.heap.size := ⟨_, rfl⟩
        obtain ⟨Y11, hY⟩ : ∃ Y, Y = V1.alloc (.cells #[.int .i64 0, .int .i64 0] 28) := ⟨_, rfl⟩
        have hfn : SpBox Y11 k a b ∧ SpBox Y11 (k + 1) 0 0 ∧ Below w.heap.size w Y11 := by rw [hY]; exact ⟨hf.1.alloc _, hf.2.1.alloc _, hf.2.2.alloc d6s _⟩
        rw [← hY] at h6 ⊢
        rw [← hb6] at h6 d6k d6l d6s ⊢
        clear hf
        have hf := hfn
        clear hfn hY hb6
        refine hK.out _ _ (heldC_two (fun _ => hf) (fun _ => trivial)) (fun hF => ?_)
        clear hK K
        try simp only [Act.put, List.setIfInBounds_toArray, List.set_cons_zero, List.set_cons_succ]
        refine wpG_ready (rs := [5, 7]) (by kernel_rfl) (by simp) ?_
        refine all_two ?_ ?_
        · skip
          refine wpOp_hand (oi := ?oi16) ?hi16 (fun K hK => ?hh16)
          case hi16 => (simp only [List.getElem?_toArray, List.getElem?_cons_succ, List.getElem?_cons_zero]; rfl)
          go_simp
          refine Calls.mono (SB.out _ (HT.out.below hf.2.2)) ?_
          rintro e V12 ⟨rfl, hb⟩
          replace h6 := h6.below hb
          have hfn : SpBox V12 k a b ∧ SpBox V12 (k + 1) 0 0 ∧ Below w.heap.size w V12 := ⟨hf.1.below hb, hf.2.1.below hb, hf.2.2.trans (hb.mono hf.2.2.size)⟩
          clear hf hb
          have hf := hfn
          clear hfn
          refine hK.out _ _ (heldC_two (fun h => absurd h (by simp)) (fun _ => trivial)) (fun hF => ?_)
          clear hK K
          try simp only [Act.put, List.setIfInBounds_toArray, List.set_cons_zero, List.set_cons_succ]
          refine wpG_ready (rs := [7]) (by kernel_rfl) (by simp) ?_
          refine all_one ?_
          refine wpOp_hand (oi := ?oi17) ?hi17 (fun K hK => ?hh17)
          case hi17 => (simp only [List.getElem?_toArray, List.getElem?_cons_succ, List.getElem?_cons_zero]; rfl)
          go_simp
          have d7k := hf.1.lt
          have d7l := hf.2.1.lt
          have d7s := hf.2.2.size
          have d7j := h6.lt
          have h7 := SpBox.new V12 0 0
          obtain ⟨b7, hb7⟩ : ∃ b, b = V12.heap.size := ⟨_, rfl⟩
          obtain ⟨Y13, hY⟩ : ∃ Y, Y = V12.alloc (.cells #[.int .i64 0, .int .i64 0] 28) := ⟨_, rfl⟩
          have hfn : SpBox Y13 k a b ∧ SpBox Y13 (k + 1) 0 0 ∧ Below w.heap.size w Y13 := by rw [hY]; exact ⟨hf.1.alloc _, hf.2.1.alloc _, hf.2.2.alloc d7s _⟩
          replace h6 := h6.alloc (.cells #[.int .i64 0, .int .i64 0] 28)
          rw [← hY] at h7 h6 ⊢
          rw [← hb7] at h7 d7k d7l d7s d7j ⊢
          clear hf
          have hf := hfn
          clear hfn hY hb7
          refine hK.out _ _ (heldC_two (fun h => absurd h (by simp)) (fun _ => trivial)) (fun hF => ?_)
          clear hK K
          try simp only [Act.put, List.setIfInBounds_toArray, List.set_cons_zero, List.set_cons_succ]
          refine wpG_ready (rs := [8]) (by kernel_rfl) (by simp) ?_
          refine all_one ?_
          have x0 := h6.c0; have x1 := h6.c1; have x0f := h6.free 0; have x1f := h6.free 1; have xl := h6.lt
          refine wpOp_hand (oi := ?oi18) ?hi18 (fun K hK => ?hh18)
          case hi18 => (simp only [List.getElem?_toArray, List.getElem?_cons_succ, List.getElem?_cons_zero]; rfl)
          go_simp
          have hfn : SpBox ((Y13.setCell ⟨b6, 0, none⟩ (.int .i64 al)).setCell ⟨b6, 1, none⟩ (.int .i64 ah)) k a b ∧ SpBox ((Y13.setCell ⟨b6, 0, none⟩ (.int .i64 al)).setCell ⟨b6, 1, none⟩ (.int .i64 ah)) (k + 1) 0 0 ∧ Below w.heap.size w ((Y13.setCell ⟨b6, 0, none⟩ (.int .i64 al)).setCell ⟨b6, 1, none⟩ (.int .i64 ah)) := ⟨(hf.1.other (by dsimp only; omega) _).other (by dsimp only; omega) _, (hf.2.1.other (by dsimp only; omega) _).other (by dsimp only; omega) _, (hf.2.2.setCell (p := ⟨b6, 0, none⟩) d6s _).setCell (p := ⟨b6, 1, none⟩) d6s _⟩
          replace h7 := (h7.other (a := ⟨b6, 0, none⟩) (by dsimp only; omega) (.int .i64 al)).other (a := ⟨b6, 1, none⟩) (by dsimp only; omega) (.int .i64 ah)
          replace h6 := h6.set al ah
          obtain ⟨Z14, hY⟩ : ∃ Y, Y = (Y13.setCell ⟨b6, 0, none⟩ (.int .i64 al)).setCell ⟨b6, 1, none⟩ (.int .i64 ah) := ⟨_, rfl⟩
          rw [← hY] at hfn h6 h7 ⊢
          clear hf x0 x1 x0f x1f xl
          have hf := hfn
          clear hfn hY
          refine hK.out _ _ (heldC_two (fun h => absurd h (by simp)) (fun _ => trivial)) (fun hF => ?_)
          clear hK K
          try simp only [Act.put, List.setIfInBounds_toArray, List.set_cons_zero, List.set_cons_succ]
          refine wpG_ready (rs := [9]) (by kernel_rfl) (by simp) ?_
          refine all_one ?_
          have x0 := h7.c0; have x1 := h7.c1; have x0f := h7.free 0; have x1f := h7.free 1; have xl := h7.lt
          refine wpOp_hand (oi := ?oi19) ?hi19 (fun K hK => ?hh19)
          case hi19 => (simp only [List.getElem?_toArray, List.getElem?_cons_succ, List.getElem?_cons_zero]; rfl)
          go_simp
          have hfn : SpBox ((Z14.setCell ⟨b7, 0, none⟩ (.int .i64 bl)).setCell ⟨b7, 1, none⟩ (.int .i64 bh)) k a b ∧ SpBox ((Z14.setCell ⟨b7, 0, none⟩ (.int .i64 bl)).setCell ⟨b7, 1, none⟩ (.int .i64 bh)) (k + 1) 0 0 ∧ Below w.heap.size w ((Z14.setCell ⟨b7, 0, none⟩ (.int .i64 bl)).setCell ⟨b7, 1, none⟩ (.int .i64 bh)) := ⟨(hf.1.other (by dsimp only; omega) _).other (by dsimp only; omega) _, (hf.2.1.other (by dsimp only; omega) _).other (by dsimp only; omega) _, (hf.2.2.setCell (p := ⟨b7, 0, none⟩) d7s _).setCell (p := ⟨b7, 1, none⟩) d7s _⟩
          replace h6 := (h6.other (a := ⟨b7, 0, none⟩) (by dsimp only; omega) (.int .i64 bl)).other (a := ⟨b7, 1, none⟩) (by dsimp only; omega) (.int .i64 bh)
          replace h7 := h7.set bl bh
          obtain ⟨Z15, hY⟩ : ∃ Y, Y = (Z14.setCell ⟨b7, 0, none⟩ (.int .i64 bl)).setCell ⟨b7, 1, none⟩ (.int .i64 bh) := ⟨_, rfl⟩
          rw [← hY] at hfn h6 h7 ⊢
          clear hf x0 x1 x0f x1f xl
          have hf := hfn
          clear hfn hY
          refine hK.out _ _ (heldC_two (fun h => absurd h (by simp)) (fun h => absurd h (by simp))) (fun hF => ?_)
          clear hK K
          try simp only [Act.put, List.setIfInBounds_toArray, List.set_cons_zero, List.set_cons_succ]
          refine wpG_done (by kernel_rfl) ?_ _
          go_wp2_with fail
          go_meet
          exact ⟨b6, b7, rfl, rfl, Lib.hid h6, Lib.hid h7, Lib.hid hf.1, Lib.hid hf.2.1, Lib.hid hf.2.2⟩
        · skip
          refine wpOp_hand (oi := ?oi20) ?hi20 (fun K hK => ?hh20)
          case hi20 => (simp only [List.getElem?_toArray, List.getElem?_cons_succ, List.getElem?_cons_zero]; rfl)
          go_simp
          have d7k := hf.1.lt
          have d7l := hf.2.1.lt
          have d7s := hf.2.2.size
          have d7j := h6.lt
          have h7 := SpBox.new Y11 0 0
          obtain ⟨b7, hb7⟩ : ∃ b, b = Y11.heap.size := ⟨_, rfl⟩
          obtain ⟨Y16, hY⟩ : ∃ Y, Y = Y11.alloc (.cells #[.int .i64 0, .int .i64 0] 28) := ⟨_, rfl⟩
          have hfn : SpBox Y16 k a b ∧ SpBox Y16 (k + 1) 0 0 ∧ Below w.heap.size w Y16 := by rw [hY]; exact ⟨hf.1.alloc _, hf.2.1.alloc _, hf.2.2.alloc d7s _⟩
          replace h6 := h6.alloc (.cells #[.int .i64 0, .int .i64 0] 28)
          rw [← hY] at h7 h6 ⊢
          rw [← hb7] at h7 d7k d7l d7s d7j ⊢
          clear hf
          have hf := hfn
          clear hfn hY hb7
          refine hK.out _ _ (heldC_two (fun _ => hf) (fun _ => trivial)) (fun hF => ?_)
          clear hK K
          try simp only [Act.put, List.setIfInBounds_toArray, List.set_cons_zero, List.set_cons_succ]
          refine wpG_ready (rs := [5]) (by kernel_rfl) (by simp) ?_
          refine all_one ?_
          refine wpOp_hand (oi := ?oi21) ?hi21 (fun K hK => ?hh21)
          case hi21 => (simp only [List.getElem?_toArray, List.getElem?_cons_succ, List.getElem?_cons_zero]; rfl)
          go_simp
          refine Calls.mono (SB.out _ (HT.out.below hf.2.2)) ?_
          rintro e V17 ⟨rfl, hb⟩
          replace h6 := h6.below hb
          replace h7 := h7.below hb
          have hfn : SpBox V17 k a b ∧ SpBox V17 (k + 1) 0 0 ∧ Below w.heap.size w V17 := ⟨hf.1.below hb, hf.2.1.below hb, hf.2.2.trans (hb.mono hf.2.2.size)⟩
          clear hf hb
          have hf := hfn
          clear hfn
          refine hK.out _ _ (heldC_two (fun h => absurd h (by simp)) (fun _ => trivial)) (fun hF => ?_)
          clear hK K
          try simp only [Act.put, List.setIfInBounds_toArray, List.set_cons_zero, List.set_cons_succ]
          refine wpG_ready (rs := [8]) (by kernel_rfl) (by simp) ?_
          refine all_one ?_
          have x0 := h6.c0; have x1 := h6.c1; have x0f := h6.free 0; have x1f := h6.free 1; have xl := h6.lt
          refine wpOp_hand (oi := ?oi22) ?hi22 (fun K hK => ?hh22)
          case hi22 => (simp only [List.getElem?_toArray, List.getElem?_cons_succ, List.getElem?_cons_zero]; rfl)
          go_simp
          have hfn : SpBox ((V17.setCell ⟨b6, 0, none⟩ (.int .i64 al)).setCell ⟨b6, 1, none⟩ (.int .i64 ah)) k a b ∧ SpBox ((V17.setCell ⟨b6, 0, none⟩ (.int .i64 al)).setCell ⟨b6, 1, none⟩ (.int .i64 ah)) (k + 1) 0 0 ∧ Below w.heap.size w ((V17.setCell ⟨b6, 0, none⟩ (.int .i64 al)).setCell ⟨b6, 1, none⟩ (.int .i64 ah)) := ⟨(hf.1.other (by dsimp only; omega) _).other (by dsimp only; omega) _, (hf.2.1.other (by dsimp only; omega) _).other (by dsimp only; omega) _, (hf.2.2.setCell (p := ⟨b6, 0, none⟩) d6s _).setCell (p := ⟨b6, 1, none⟩) d6s _⟩
          replace h7 := (h7.other (a := ⟨b6, 0, none⟩) (by dsimp only; omega) (.int .i64 al)).other (a := ⟨b6, 1, none⟩) (by dsimp only; omega) (.int .i64 ah)
          replace h6 := h6.set al ah
          obtain ⟨Z18, hY⟩ : ∃ Y, Y = (V17.setCell ⟨b6, 0, none⟩ (.int .i64 al)).setCell ⟨b6, 1, none⟩ (.int .i64 ah) := ⟨_, rfl⟩
          rw [← hY] at hfn h6 h7 ⊢
          clear hf x0 x1 x0f x1f xl
          have hf := hfn
          clear hfn hY
          refine hK.out _ _ (heldC_two (fun h => absurd h (by simp)) (fun _ => trivial)) (fun hF => ?_)
          clear hK K
          try simp only [Act.put, List.setIfInBounds_toArray, List.set_cons_zero, List.set_cons_succ]
          refine wpG_ready (rs := [9]) (by kernel_rfl) (by simp) ?_
          refine all_one ?_
          have x0 := h7.c0; have x1 := h7.c1; have x0f := h7.free 0; have x1f := h7.free 1; have xl := h7.lt
          refine wpOp_hand (oi := ?oi23) ?hi23 (fun K hK => ?hh23)
          case hi23 => (simp only [List.getElem?_toArray, List.getElem?_cons_succ, List.getElem?_cons_zero]; rfl)
          go_simp
          have hfn : SpBox ((Z18.setCell ⟨b7, 0, none⟩ (.int .i64 bl)).setCell ⟨b7, 1, none⟩ (.int .i64 bh)) k a b ∧ SpBox ((Z18.setCell ⟨b7, 0, none⟩ (.int .i64 bl)).setCell ⟨b7, 1, none⟩ (.int .i64 bh)) (k + 1) 0 0 ∧ Below w.heap.size w ((Z18.setCell ⟨b7, 0, none⟩ (.int .i64 bl)).setCell ⟨b7, 1, none⟩ (.int .i64 bh)) := ⟨(hf.1.other (by dsimp only; omega) _).other (by dsimp only; omega) _, (hf.2.1.other (by dsimp only; omega) _).other (by dsimp only; omega) _, (hf.2.2.setCell (p := ⟨b7, 0, none⟩) d7s _).setCell (p := ⟨b7, 1, none⟩) d7s _⟩
          replace h6 := (h6.other (a := ⟨b7, 0, none⟩) (by dsimp only; omega) (.int .i64 bl)).other (a := ⟨b7, 1, none⟩) (by dsimp only; omega) (.int .i64 bh)
          replace h7 := h7.set bl bh
          obtain ⟨Z19, hY⟩ : ∃ Y, Y = (Z18.setCell ⟨b7, 0, none⟩ (.int .i64 bl)).setCell ⟨b7, 1, none⟩ (.int .i64 bh) := ⟨_, rfl⟩
          rw [← hY] at hfn h6 h7 ⊢
          clear hf x0 x1 x0f x1f xl
          have hf := hfn
          clear hfn hY
          refine hK.out _ _ (heldC_two (fun h => absurd h (by simp)) (fun h => absurd h (by simp))) (fun hF => ?_)
          clear hK K
          try simp only [Act.put, List.setIfInBounds_toArray, List.set_cons_zero, List.set_cons_succ]
          refine wpG_done (by kernel_rfl) ?_ _
          go_wp2_with fail
          go_meet
          exact ⟨b6, b7, rfl, rfl, Lib.hid h6, Lib.hid h7, Lib.hid hf.1, Lib.hid hf.2.1, Lib.hid hf.2.2⟩
      · skip
        refine wpOp_hand (oi := ?oi24) ?hi24 (fun K hK => ?hh24)
        case hi24 => (simp only [List.getElem?_toArray, List.getElem?_cons_succ, List.getElem?_cons_zero]; rfl)
        go_simp
        have d7k := hf.1.lt
        have d7l := hf.2.1.lt
        have d7s := hf.2.2.size
        have h7 := SpBox.new V1 0 0
        obtain ⟨b7, hb7⟩ : ∃ b, b = V1.heap.size := ⟨_, rfl⟩
        obtain ⟨Y20, hY⟩ : ∃ Y, Y = V1.alloc (.cells #[.int .i64 0, .int .i64 0] 28) := ⟨_, rfl⟩
        have hfn : SpBox Y20 k a b ∧ SpBox Y20 (k + 1) 0 0 ∧ Below w.heap.size w Y20 := by rw [hY]; exact ⟨hf.1.alloc _, hf.2.1.alloc _, hf.2.2.alloc d7s _⟩
        rw [← hY] at h7 ⊢
        rw [← hb7] at h7 d7k d7l d7s ⊢
        clear hf
        have hf := hfn
        clear hfn hY hb7
        refine hK.out _ _ (heldC_two (fun _ => hf) (fun _ => trivial)) (fun hF => ?_)
        clear hK K
        try simp only [Act.put, List.setIfInBounds_toArray, List.set_cons_zero, List.set_cons_succ]
        refine wpG_ready (rs := [5, 6]) (by kernel_rfl) (by simp) ?_
        refine all_two ?_ ?_
        · skip
          refine wpOp_hand (oi := ?oi25) ?hi25 (fun K hK => ?hh25)
          case hi25 => (simp only [List.getElem?_toArray, List.getElem?_cons_succ, List.getElem?_cons_zero]; rfl)
          go_simp
          refine Calls.mono (SB.out _ (HT.out.below hf.2.2)) ?_
          rintro e V21 ⟨rfl, hb⟩
          replace h7 := h7.below hb
          have hfn : SpBox V21 k a b ∧ SpBox V21 (k + 1) 0 0 ∧ Below w.heap.size w V21 := ⟨hf.1.below hb, hf.2.1.below hb, hf.2.2.trans (hb.mono hf.2.2.size)⟩
          clear hf hb
          have hf := hfn
          clear hfn
          refine hK.out _ _ (heldC_two (fun h => absurd h (by simp)) (fun _ => trivial)) (fun hF => ?_)
          clear hK K
          try simp only [Act.put, List.setIfInBounds_toArray, List.set_cons_zero, List.set_cons_succ]
          refine wpG_ready (rs := [6]) (by kernel_rfl) (by simp) ?_
          refine all_one ?_
          refine wpOp_hand (oi := ?oi26) ?hi26 (fun K hK => ?hh26)
          case hi26 => (simp only [List.getElem?_toArray, List.getElem?_cons_succ, List.getElem?_cons_zero]; rfl)
          go_simp
          have d6k := hf.1.lt
          have d6l := hf.2.1.lt
          have d6s := hf.2.2.size
          have d6j := h7.lt
          have h6 := SpBox.new V21 0 0
          obtain ⟨b6, hb6⟩ : ∃ b, b = V21.heap.size := ⟨_, rfl⟩
          obtain ⟨Y22, hY⟩ : ∃ Y, Y = V21.alloc (.cells #[.int .i64 0, .int .i64 0] 28) := ⟨_, rfl⟩
          have hfn : SpBox Y22 k a b ∧ SpBox Y22 (k + 1) 0 0 ∧ Below w.heap.size w Y22 := by rw [hY]; exact ⟨hf.1.alloc _, hf.2.1.alloc _, hf.2.2.alloc d6s _⟩
          replace h7 := h7.alloc (.cells #[.int .i64 0, .int .i64 0] 28)
          rw [← hY] at h6 h7 ⊢
          rw [← hb6] at h6 d6k d6l d6s d6j ⊢
          clear hf
          have hf := hfn
          clear hfn hY hb6
          refine hK.out _ _ (heldC_two (fun h => absurd h (by simp)) (fun _ => trivial)) (fun hF => ?_)
          clear hK K
          try simp only [Act.put, List.setIfInBounds_toArray, List.set_cons_zero, List.set_cons_succ]
          refine wpG_ready (rs := [8]) (by kernel_rfl) (by simp) ?_
          refine all_one ?_
          have x0 := h6.c0; have x1 := h6.c1; have x0f := h6.free 0; have x1f := h6.free 1; have xl := h6.lt
          refine wpOp_hand (oi := ?oi27) ?hi27 (fun K hK => ?hh27)
          case hi27 => (simp only [List.getElem?_toArray, List.getElem?_cons_succ, List.getElem?_cons_zero]; rfl)
          go_simp
          have hfn : SpBox ((Y22.setCell ⟨b6, 0, none⟩ (.int .i64 al)).setCell ⟨b6, 1, none⟩ (.int .i64 ah)) k a b ∧ SpBox ((Y22.setCell ⟨b6, 0, none⟩ (.int .i64 al)).setCell ⟨b6, 1, none⟩ (.int .i64 ah)) (k + 1) 0 0 ∧ Below w.heap.size w ((Y22.setCell ⟨b6, 0, none⟩ (.int .i64 al)).setCell ⟨b6, 1, none⟩ (.int .i64 ah)) := ⟨(hf.1.other (by dsimp only; omega) _).other (by dsimp only; omega) _, (hf.2.1.other (by dsimp only; omega) _).other (by dsimp only; omega) _, (hf.2.2.setCell (p := ⟨b6, 0, none⟩) d6s _).setCell (p := ⟨b6, 1, none⟩) d6s _⟩
          replace h7 := (h7.other (a := ⟨b6, 0, none⟩) (by dsimp only; omega) (.int .i64 al)).other (a := ⟨b6, 1, none⟩) (by dsimp only; omega) (.int .i64 ah)
          replace h6 := h6.set al ah
          obtain ⟨Z23, hY⟩ : ∃ Y, Y = (Y22.setCell ⟨b6, 0, none⟩ (.int .i64 al)).setCell ⟨b6, 1, none⟩ (.int .i64 ah) := ⟨_, rfl⟩
          rw [← hY] at hfn h6 h7 ⊢
          clear hf x0 x1 x0f x1f xl
          have hf := hfn
          clear hfn hY
          refine hK.out _ _ (heldC_two (fun h => absurd h (by simp)) (fun _ => trivial)) (fun hF => ?_)
          clear hK K
          try simp only [Act.put, List.setIfInBounds_toArray, List.set_cons_zero, List.set_cons_succ]
          refine wpG_ready (rs := [9]) (by kernel_rfl) (by simp) ?_
          refine all_one ?_
          have x0 := h7.c0; have x1 := h7.c1; have x0f := h7.free 0; have x1f := h7.free 1; have xl := h7.lt
          refine wpOp_hand (oi := ?oi28) ?hi28 (fun K hK => ?hh28)
          case hi28 => (simp only [List.getElem?_toArray, List.getElem?_cons_succ, List.getElem?_cons_zero]; rfl)
          go_simp
          have hfn : SpBox ((Z23.setCell ⟨b7, 0, none⟩ (.int .i64 bl)).setCell ⟨b7, 1, none⟩ (.int .i64 bh)) k a b ∧ SpBox ((Z23.setCell ⟨b7, 0, none⟩ (.int .i64 bl)).setCell ⟨b7, 1, none⟩ (.int .i64 bh)) (k + 1) 0 0 ∧ Below w.heap.size w ((Z23.setCell ⟨b7, 0, none⟩ (.int .i64 bl)).setCell ⟨b7, 1, none⟩ (.int .i64 bh)) := ⟨(hf.1.other (by dsimp only; omega) _).other (by dsimp only; omega) _, (hf.2.1.other (by dsimp only; omega) _).other (by dsimp only; omega) _, (hf.2.2.setCell (p := ⟨b7, 0, none⟩) d7s _).setCell (p := ⟨b7, 1, none⟩) d7s _⟩
          replace h6 := (h6.other (a := ⟨b7, 0, none⟩) (by dsimp only; omega) (.int .i64 bl)).other (a := ⟨b7, 1, none⟩) (by dsimp only; omega) (.int .i64 bh)
          replace h7 := h7.set bl bh
          obtain ⟨Z24, hY⟩ : ∃ Y, Y = (Z23.setCell ⟨b7, 0, none⟩ (.int .i64 bl)).setCell ⟨b7, 1, none⟩ (.int .i64 bh) := ⟨_, rfl⟩
          rw [← hY] at hfn h6 h7 ⊢
          clear hf x0 x1 x0f x1f xl
          have hf := hfn
          clear hfn hY
          refine hK.out _ _ (heldC_two (fun h => absurd h (by simp)) (fun h => absurd h (by simp))) (fun hF => ?_)
          clear hK K
          try simp only [Act.put, List.setIfInBounds_toArray, List.set_cons_zero, List.set_cons_succ]
          refine wpG_done (by kernel_rfl) ?_ _
          go_wp2_with fail
          go_meet
          exact ⟨b6, b7, rfl, rfl, Lib.hid h6, Lib.hid h7, Lib.hid hf.1, Lib.hid hf.2.1, Lib.hid hf.2.2⟩
        · skip
          refine wpOp_hand (oi := ?oi29) ?hi29 (fun K hK => ?hh29)
          case hi29 => (simp only [List.getElem?_toArray, List.getElem?_cons_succ, List.getElem?_cons_zero]; rfl)
          go_simp
          have d6k := hf.1.lt
          have d6l := hf.2.1.lt
          have d6s := hf.2.2.size
          have d6j := h7.lt
          have h6 := SpBox.new Y20 0 0
          obtain ⟨b6, hb6⟩ : ∃ b, b = Y20.heap.size := ⟨_, rfl⟩
          obtain ⟨Y25, hY⟩ : ∃ Y, Y = Y20.alloc (.cells #[.int .i64 0, .int .i64 0] 28) := ⟨_, rfl⟩
          have hfn : SpBox Y25 k a b ∧ SpBox Y25 (k + 1) 0 0 ∧ Below w.heap.size w Y25 := by rw [hY]; exact ⟨hf.1.alloc _, hf.2.1.alloc _, hf.2.2.alloc d6s _⟩
          replace h7 := h7.alloc (.cells #[.int .i64 0, .int .i64 0] 28)
          rw [← hY] at h6 h7 ⊢
          rw [← hb6] at h6 d6k d6l d6s d6j ⊢
          clear hf
          have hf := hfn
          clear hfn hY hb6
          refine hK.out _ _ (heldC_two (fun _ => hf) (fun _ => trivial)) (fun hF => ?_)
          clear hK K
          try simp only [Act.put, List.setIfInBounds_toArray, List.set_cons_zero, List.set_cons_succ]
          refine wpG_ready (rs := [5]) (by kernel_rfl) (by simp) ?_
          refine all_one ?_
          refine wpOp_hand (oi := ?oi30) ?hi30 (fun K hK => ?hh30)
          case hi30 => (simp only [List.getElem?_toArray, List.getElem?_cons_succ, List.getElem?_cons_zero]; rfl)
          go_simp
          refine Calls.mono (SB.out _ (HT.out.below hf.2.2)) ?_
          rintro e V26 ⟨rfl, hb⟩
          replace h6 := h6.below hb
          replace h7 := h7.below hb
          have hfn : SpBox V26 k a b ∧ SpBox V26 (k + 1) 0 0 ∧ Below w.heap.size w V26 := ⟨hf.1.below hb, hf.2.1.below hb, hf.2.2.trans (hb.mono hf.2.2.size)⟩
          clear hf hb
          have hf := hfn
          clear hfn
          refine hK.out _ _ (heldC_two (fun h => absurd h (by simp)) (fun _ => trivial)) (fun hF => ?_)
          clear hK K
          try simp only [Act.put, List.setIfInBounds_toArray, List.set_cons_zero, List.set_cons_succ]
          refine wpG_ready (rs := [8]) (by kernel_rfl) (by simp) ?_
          refine all_one ?_
          have x0 := h6.c0; have x1 := h6.c1; have x0f := h6.free 0; have x1f := h6.free 1; have xl := h6.lt
          refine wpOp_hand (oi := ?oi31) ?hi31 (fun K hK => ?hh31)
          case hi31 => (simp only [List.getElem?_toArray, List.getElem?_cons_succ, List.getElem?_cons_zero]; rfl)
          go_simp
          have hfn : SpBox ((V26.setCell ⟨b6, 0, none⟩ (.int .i64 al)).setCell ⟨b6, 1, none⟩ (.int .i64 ah)) k a b ∧ SpBox ((V26.setCell ⟨b6, 0, none⟩ (.int .i64 al)).setCell ⟨b6, 1, none⟩ (.int .i64 ah)) (k + 1) 0 0 ∧ Below w.heap.size w ((V26.setCell ⟨b6, 0, none⟩ (.int .i64 al)).setCell ⟨b6, 1, none⟩ (.int .i64 ah)) := ⟨(hf.1.other (by dsimp only; omega) _).other (by dsimp only; omega) _, (hf.2.1.other (by dsimp only; omega) _).other (by dsimp only; omega) _, (hf.2.2.setCell (p := ⟨b6, 0, none⟩) d6s _).setCell (p := ⟨b6, 1, none⟩) d6s _⟩
          replace h7 := (h7.other (a := ⟨b6, 0, none⟩) (by dsimp only; omega) (.int .i64 al)).other (a := ⟨b6, 1, none⟩) (by dsimp only; omega) (.int .i64 ah)
          replace h6 := h6.set al ah
          obtain ⟨Z27, hY⟩ : ∃ Y, Y = (V26.setCell ⟨b6, 0, none⟩ (.int .i64 al)).setCell ⟨b6, 1, none⟩ (.int .i64 ah) := ⟨_, rfl⟩
          rw [← hY] at hfn h6 h7 ⊢
          clear hf x0 x1 x0f x1f xl
          have hf := hfn
          clear hfn hY
          refine hK.out _ _ (heldC_two (fun h => absurd h (by simp)) (fun _ => trivial)) (fun hF => ?_)
          clear hK K
          try simp only [Act.put, List.setIfInBounds_toArray, List.set_cons_zero, List.set_cons_succ]
          refine wpG_ready (rs := [9]) (by kernel_rfl) (by simp) ?_
          refine all_one ?_
          have x0 := h7.c0; have x1 := h7.c1; have x0f := h7.free 0; have x1f := h7.free 1; have xl := h7.lt
          refine wpOp_hand (oi := ?oi32) ?hi32 (fun K hK => ?hh32)
          case hi32 => (simp only [List.getElem?_toArray, List.getElem?_cons_succ, List.getElem?_cons_zero]; rfl)
          go_simp
          have hfn : SpBox ((Z27.setCell ⟨b7, 0, none⟩ (.int .i64 bl)).setCell ⟨b7, 1, none⟩ (.int .i64 bh)) k a b ∧ SpBox ((Z27.setCell ⟨b7, 0, none⟩ (.int .i64 bl)).setCell ⟨b7, 1, none⟩ (.int .i64 bh)) (k + 1) 0 0 ∧ Below w.heap.size w ((Z27.setCell ⟨b7, 0, none⟩ (.int .i64 bl)).setCell ⟨b7, 1, none⟩ (.int .i64 bh)) := ⟨(hf.1.other (by dsimp only; omega) _).other (by dsimp only; omega) _, (hf.2.1.other (by dsimp only; omega) _).other (by dsimp only; omega) _, (hf.2.2.setCell (p := ⟨b7, 0, none⟩) d7s _).setCell (p := ⟨b7, 1, none⟩) d7s _⟩
          replace h6 := (h6.other (a := ⟨b7, 0, none⟩) (by dsimp only; omega) (.int .i64 bl)).other (a := ⟨b7, 1, none⟩) (by dsimp only; omega) (.int .i64 bh)
          replace h7 := h7.set bl bh
          obtain ⟨Z28, hY⟩ : ∃ Y, Y = (Z27.setCell ⟨b7, 0, none⟩ (.int .i64 bl)).setCell ⟨b7, 1, none⟩ (.int .i64 bh) := ⟨_, rfl⟩
          rw [← hY] at hfn h6 h7 ⊢
          clear hf x0 x1 x0f x1f xl
          have hf := hfn
          clear hfn hY
          refine hK.out _ _ (heldC_two (fun h => absurd h (by simp)) (fun h => absurd h (by simp))) (fun hF => ?_)
          clear hK K
          try simp only [Act.put, List.setIfInBounds_toArray, List.set_cons_zero, List.set_cons_succ]
          refine wpG_done (by kernel_rfl) ?_ _
          go_wp2_with fail
          go_meet
          exact ⟨b6, b7, rfl, rfl, Lib.hid h6, Lib.hid h7, Lib.hid hf.1, Lib.hid hf.2.1, Lib.hid hf.2.2⟩
    · skip
      refine wpOp_hand (oi := ?oi33) ?hi33 (fun K hK => ?hh33)
      case hi33 => (simp only [List.getElem?_toArray, List.getElem?_cons_succ, List.getElem?_cons_zero]; rfl)
      go_simp
      have d6k := hf.1.lt
      have d6l := hf.2.1.lt
      have d6s := hf.2.2.size
      have h6 := SpBox.new X 0 0
      obtain ⟨b6, hb6⟩ : ∃ b, b = X.heap.size := ⟨_, rfl⟩
      obtain ⟨Y29, hY⟩ : ∃ Y, Y = X.alloc (.cells #[.int .i64 0, .int .i64 0] 28) := ⟨_, rfl⟩
      have hfn : SpBox Y29 k a b ∧ SpBox Y29 (k + 1) 0 0 ∧ Below w.heap.size w Y29 := by rw [hY]; exact ⟨hf.1.alloc _, hf.2.1.alloc _, hf.2.2.alloc d6s _⟩
      rw [← hY] at h6 ⊢
      rw [← hb6] at h6 d6k d6l d6s ⊢
      clear hf
      have hf := hfn
      clear hfn hY hb6
      refine hK.out _ _ (heldC_two (fun _ => hf) (fun _ => trivial)) (fun hF => ?_)
      clear hK K
      try simp only [Act.put, List.setIfInBounds_toArray, List.set_cons_zero, List.set_cons_succ]
      refine wpG_ready (rs := [2, 7]) (by kernel_rfl) (by simp) ?_
      refine all_two ?_ ?_
      · skip
        refine wpOp_hand (oi := ?oi34) ?hi34 (fun K hK => ?hh34)
        case hi34 => (simp only [List.getElem?_toArray, List.getElem?_cons_succ, List.getElem?_cons_zero]; rfl)
        go_simp
        refine Calls.mono (SA.out _ (HT.out.below hf.2.2)) ?_
        rintro e V30 ⟨rfl, hb⟩
        replace h6 := h6.below hb
        have hfn : SpBox V30 k a b ∧ SpBox V30 (k + 1) 0 0 ∧ Below w.heap.size w V30 := ⟨hf.1.below hb, hf.2.1.below hb, hf.2.2.trans (hb.mono hf.2.2.size)⟩
        clear hf hb
        have hf := hfn
        clear hfn
        refine hK.out _ _ (heldC_two (fun _ => hf) (fun _ => trivial)) (fun hF => ?_)
        clear hK K
        try simp only [Act.put, List.setIfInBounds_toArray, List.set_cons_zero, List.set_cons_succ]
        refine wpG_ready (rs := [5, 7]) (by kernel_rfl) (by simp) ?_
        refine all_two ?_ ?_
        · skip
          refine wpOp_hand (oi := ?oi35) ?hi35 (fun K hK => ?hh35)
          case hi35 => (simp only [List.getElem?_toArray, List.getElem?_cons_succ, List.getElem?_cons_zero]; rfl)
          go_simp
          refine Calls.mono (SB.out _ (HT.out.below hf.2.2)) ?_
          rintro e V31 ⟨rfl, hb⟩
          replace h6 := h6.below hb
          have hfn : SpBox V31 k a b ∧ SpBox V31 (k + 1) 0 0 ∧ Below w.heap.size w V31 := ⟨hf.1.below hb, hf.2.1.below hb, hf.2.2.trans (hb.mono hf.2.2.size)⟩
          clear hf hb
          have hf := hfn
          clear hfn
          refine hK.out _ _ (heldC_two (fun h => absurd h (by simp)) (fun _ => trivial)) (fun hF => ?_)
          clear hK K
          try simp only [Act.put, List.setIfInBounds_toArray, List.set_cons_zero, List.set_cons_succ]
          refine wpG_ready (rs := [7]) (by kernel_rfl) (by simp) ?_
          refine all_one ?_
          refine wpOp_hand (oi := ?oi36) ?hi36 (fun K hK => ?hh36)
          case hi36 => (simp only [List.getElem?_toArray, List.getElem?_cons_succ, List.getElem?_cons_zero]; rfl)
          go_simp
          have d7k := hf.1.lt
          have d7l := hf.2.1.lt
          have d7s := hf.2.2.size
          have d7j := h6.lt
          have h7 := SpBox.new V31 0 0
          obtain ⟨b7, hb7⟩ : ∃ b, b = V31.heap.size := ⟨_, rfl⟩
          obtain ⟨Y32, hY⟩ : ∃ Y, Y = V31.alloc (.cells #[.int .i64 0, .int .i64 0] 28) := ⟨_, rfl⟩
          have hfn : SpBox Y32 k a b ∧ SpBox Y32 (k + 1) 0 0 ∧ Below w.heap.size w Y32 := by rw [hY]; exact ⟨hf.1.alloc _, hf.2.1.alloc _, hf.2.2.alloc d7s _⟩
          replace h6 := h6.alloc (.cells #[.int .i64 0, .int .i64 0] 28)
          rw [← hY] at h7 h6 ⊢
          rw [← hb7] at h7 d7k d7l d7s d7j ⊢
          clear hf
          have hf := hfn
          clear hfn hY hb7
          refine hK.out _ _ (heldC_two (fun h => absurd h (by simp)) (fun _ => trivial)) (fun hF => ?_)
          clear hK K
          try simp only [Act.put, List.setIfInBounds_toArray, List.set_cons_zero, List.set_cons_succ]
          refine wpG_ready (rs := [8]) (by kernel_rfl) (by simp) ?_
          refine all_one ?_
          have x0 := h6.c0; have x1 := h6.c1; have x0f := h6.free 0; have x1f := h6.free 1; have xl := h6.lt
          refine wpOp_hand (oi := ?oi37) ?hi37 (fun K hK => ?hh37)
          case hi37 => (simp only [List.getElem?_toArray, List.getElem?_cons_succ, List.getElem?_cons_zero]; rfl)
          go_simp
          have hfn : SpBox ((Y32.setCell ⟨b6, 0, none⟩ (.int .i64 al)).setCell ⟨b6, 1, none⟩ (.int .i64 ah)) k a b ∧ SpBox ((Y32.setCell ⟨b6, 0, none⟩ (.int .i64 al)).setCell ⟨b6, 1, none⟩ (.int .i64 ah)) (k + 1) 0 0 ∧ Below w.heap.size w ((Y32.setCell ⟨b6, 0, none⟩ (.int .i64 al)).setCell ⟨b6, 1, none⟩ (.int .i64 ah)) := ⟨(hf.1.other (by dsimp only; omega) _).other (by dsimp only; omega) _, (hf.2.1.other (by dsimp only; omega) _).other (by dsimp only; omega) _, (hf.2.2.setCell (p := ⟨b6, 0, none⟩) d6s _).setCell (p := ⟨b6, 1, none⟩) d6s _⟩
          replace h7 := (h7.other (a := ⟨b6, 0, none⟩) (by dsimp only; omega) (.int .i64 al)).other (a := ⟨b6, 1, none⟩) (by dsimp only; omega) (.int .i64 ah)
          replace h6 := h6.set al ah
          obtain ⟨Z33, hY⟩ : ∃ Y, Y = (Y32.setCell ⟨b6, 0, none⟩ (.int .i64 al)).setCell ⟨b6, 1, none⟩ (.int .i64 ah) := ⟨_, rfl⟩
          rw [← hY] at hfn h6 h7 ⊢
          clear hf x0 x1 x0f x1f xl
          have hf := hfn
          clear hfn hY
          refine hK.out _ _ (heldC_two (fun h => absurd h (by simp)) (fun _ => trivial)) (fun hF => ?_)
          clear hK K
          try simp only [Act.put, List.setIfInBounds_toArray, List.set_cons_zero, List.set_cons_succ]
          refine wpG_ready (rs := [9]) (by kernel_rfl) (by simp) ?_
          refine all_one ?_
          have x0 := h7.c0; have x1 := h7.c1; have x0f := h7.free 0; have x1f := h7.free 1; have xl := h7.lt
          refine wpOp_hand (oi := ?oi38) ?hi38 (fun K hK => ?hh38)
          case hi38 => (simp only [List.getElem?_toArray, List.getElem?_cons_succ, List.getElem?_cons_zero]; rfl)
          go_simp
          have hfn : SpBox ((Z33.setCell ⟨b7, 0, none⟩ (.int .i64 bl)).setCell ⟨b7, 1, none⟩ (.int .i64 bh)) k a b ∧ SpBox ((Z33.setCell ⟨b7, 0, none⟩ (.int .i64 bl)).setCell ⟨b7, 1, none⟩ (.int .i64 bh)) (k + 1) 0 0 ∧ Below w.heap.size w ((Z33.setCell ⟨b7, 0, none⟩ (.int .i64 bl)).setCell ⟨b7, 1, none⟩ (.int .i64 bh)) := ⟨(hf.1.other (by dsimp only; omega) _).other (by dsimp only; omega) _, (hf.2.1.other (by dsimp only; omega) _).other (by dsimp only; omega) _, (hf.2.2.setCell (p := ⟨b7, 0, none⟩) d7s _).setCell (p := ⟨b7, 1, none⟩) d7s _⟩
          replace h6 := (h6.other (a := ⟨b7, 0, none⟩) (by dsimp only; omega) (.int .i64 bl)).other (a := ⟨b7, 1, none⟩) (by dsimp only; omega) (.int .i64 bh)
          replace h7 := h7.set bl bh
          obtain ⟨Z34, hY⟩ : ∃ Y, Y = (Z33.setCell ⟨b7, 0, none⟩ (.int .i64 bl)).setCell ⟨b7, 1, none⟩ (.int .i64 bh) := ⟨_, rfl⟩
          rw [← hY] at hfn h6 h7 ⊢
          clear hf x0 x1 x0f x1f xl
          have hf := hfn
          clear hfn hY
          refine hK.out _ _ (heldC_two (fun h => absurd h (by simp)) (fun h => absurd h (by simp))) (fun hF => ?_)
          clear hK K
          try simp only [Act.put, List.setIfInBounds_toArray, List.set_cons_zero, List.set_cons_succ]
          refine wpG_done (by kernel_rfl) ?_ _
          go_wp2_with fail
          go_meet
          exact ⟨b6, b7, rfl, rfl, Lib.hid h6, Lib.hid h7, Lib.hid hf.1, Lib.hid hf.2.1, Lib.hid hf.2.2⟩
        · skip
          refine wpOp_hand (oi := ?oi39) ?hi39 (fun K hK => ?hh39)
          case hi39 => (simp only [List.getElem?_toArray, List.getElem?_cons_succ, List.getElem?_cons_zero]; rfl)
          go_simp
          have d7k := hf.1.lt
          have d7l := hf.2.1.lt
          have d7s := hf.2.2.size
          have d7j := h6.lt
          have h7 := SpBox.new V30 0 0
          obtain ⟨b7, hb7⟩ : ∃ b, b = V30.heap.size := ⟨_, rfl⟩
          obtain ⟨Y35, hY⟩ : ∃ Y, Y = V30.alloc (.cells #[.int .i64 0, .int .i64 0] 28) := ⟨_, rfl⟩
          have hfn : SpBox Y35 k a b ∧ SpBox Y35 (k + 1) 0 0 ∧ Below w.heap.size w Y35 := by rw [hY]; exact ⟨hf.1.alloc _, hf.2.1.alloc _, hf.2.2.alloc d7s _⟩
          replace h6 := h6.alloc (.cells #[.int .i64 0, .int .i64 0] 28)
          rw [← hY] at h7 h6 ⊢
          rw [← hb7] at h7 d7k d7l d7s d7j ⊢
          clear hf
          have hf := hfn
          clear hfn hY hb7
          refine hK.out _ _ (heldC_two (fun _ => hf) (fun _ => trivial)) (fun hF => ?_)
          clear hK K
          try simp only [Act.put, List.setIfInBounds_toArray, List.set_cons_zero, List.set_cons_succ]
          refine wpG_ready (rs := [5]) (by kernel_rfl) (by simp) ?_
          refine all_one ?_
          refine wpOp_hand (oi := ?oi40) ?hi40 (fun K hK => ?hh40)
          case hi40 => (simp only [List.getElem?_toArray, List.getElem?_cons_succ, List.getElem?_cons_zero]; rfl)
          go_simp
          refine Calls.mono (SB.out _ (HT.out.below hf.2.2)) ?_
          rintro e V36 ⟨rfl, hb⟩
          replace h6 := h6.below hb
          replace h7 := h7.below hb
          have hfn : SpBox V36 k a b ∧ SpBox V36 (k + 1) 0 0 ∧ Below w.heap.size w V36 := ⟨hf.1.below hb, hf.2.1.below hb, hf.2.2.trans (hb.mono hf.2.2.size)⟩
          clear hf hb
          have hf := hfn
          clear hfn
          refine hK.out _ _ (heldC_two (fun h => absurd h (by simp)) (fun _ => trivial)) (fun hF => ?_)
          clear hK K
          try simp only [Act.put, List.setIfInBounds_toArray, List.set_cons_zero, List.set_cons_succ]
          refine wpG_ready (rs := [8]) (by kernel_rfl) (by simp) ?_
          refine all_one ?_
          have x0 := h6.c0; have x1 := h6.c1; have x0f := h6.free 0; have x1f := h6.free 1; have xl := h6.lt
          refine wpOp_hand (oi := ?oi41) ?hi41 (fun K hK => ?hh41)
          case hi41 => (simp only [List.getElem?_toArray, List.getElem?_cons_succ, List.getElem?_cons_zero]; rfl)
          go_simp
          have hfn : SpBox ((V36.setCell ⟨b6, 0, none⟩ (.int .i64 al)).setCell ⟨b6, 1, none⟩ (.int .i64 ah)) k a b ∧ SpBox ((V36.setCell ⟨b6, 0, none⟩ (.int .i64 al)).setCell ⟨b6, 1, none⟩ (.int .i64 ah)) (k + 1) 0 0 ∧ Below w.heap.size w ((V36.setCell ⟨b6, 0, none⟩ (.int .i64 al)).setCell ⟨b6, 1, none⟩ (.int .i64 ah)) := ⟨(hf.1.other (by dsimp only; omega) _).other (by dsimp only; omega) _, (hf.2.1.other (by dsimp only; omega) _).other (by dsimp only; omega) _, (hf.2.2.setCell (p := ⟨b6, 0, none⟩) d6s _).setCell (p := ⟨b6, 1, none⟩) d6s _⟩
          replace h7 := (h7.other (a := ⟨b6, 0, none⟩) (by dsimp only; omega) (.int .i64 al)).other (a := ⟨b6, 1, none⟩) (by dsimp only; omega) (.int .i64 ah)
          replace h6 := h6.set al ah
          obtain ⟨Z37, hY⟩ : ∃ Y, Y = (V36.setCell ⟨b6, 0, none⟩ (.int .i64 al)).setCell ⟨b6, 1, none⟩ (.int .i64 ah) := ⟨_, rfl⟩
          rw [← hY] at hfn h6 h7 ⊢
          clear hf x0 x1 x0f x1f xl
          have hf := hfn
          clear hfn hY
          refine hK.out _ _ (heldC_two (fun h => absurd h (by simp)) (fun _ => trivial)) (fun hF => ?_)
          clear hK K
          try simp only [Act.put, List.setIfInBounds_toArray, List.set_cons_zero, List.set_cons_succ]
          refine wpG_ready (rs := [9]) (by kernel_rfl) (by simp) ?_
          refine all_one ?_
          have x0 := h7.c0; have x1 := h7.c1; have x0f := h7.free 0; have x1f := h7.free 1; have xl := h7.lt
          refine wpOp_hand (oi := ?oi42) ?hi42 (fun K hK => ?hh42)
          case hi42 => (simp only [List.getElem?_toArray, List.getElem?_cons_succ, List.getElem?_cons_zero]; rfl)
          go_simp
          have hfn : SpBox ((Z37.setCell ⟨b7, 0, none⟩ (.int .i64 bl)).setCell ⟨b7, 1, none⟩ (.int .i64 bh)) k a b ∧ SpBox ((Z37.setCell ⟨b7, 0, none⟩ (.int .i64 bl)).setCell ⟨b7, 1, none⟩ (.int .i64 bh)) (k + 1) 0 0 ∧ Below w.heap.size w ((Z37.setCell ⟨b7, 0, none⟩ (.int .i64 bl)).setCell ⟨b7, 1, none⟩ (.int .i64 bh)) := ⟨(hf.1.other (by dsimp only; omega) _).other (by dsimp only; omega) _, (hf.2.1.other (by dsimp only; omega) _).other (by dsimp only; omega) _, (hf.2.2.setCell (p := ⟨b7, 0, none⟩) d7s _).setCell (p := ⟨b7, 1, none⟩) d7s _⟩
          replace h6 := (h6.other (a := ⟨b7, 0, none⟩) (by dsimp only; omega) (.int .i64 bl)).other (a := ⟨b7, 1, none⟩) (by dsimp only; omega) (.int .i64 bh)
          replace h7 := h7.set bl bh
          obtain ⟨Z38, hY⟩ : ∃ Y, Y = (Z37.setCell ⟨b7, 0, none⟩ (.int .i64 bl)).setCell ⟨b7, 1, none⟩ (.int .i64 bh) := ⟨_, rfl⟩
          rw [← hY] at hfn h6 h7 ⊢
          clear hf x0 x1 x0f x1f xl
          have hf := hfn
          clear hfn hY
          refine hK.out _ _ (heldC_two (fun h => absurd h (by simp)) (fun h => absurd h (by simp))) (fun hF => ?_)
          clear hK K
          try simp only [Act.put, List.setIfInBounds_toArray, List.set_cons_zero, List.set_cons_succ]
          refine wpG_done (by kernel_rfl) ?_ _
          go_wp2_with fail
          go_meet
          exact ⟨b6, b7, rfl, rfl, Lib.hid h6, Lib.hid h7, Lib.hid hf.1, Lib.hid hf.2.1, Lib.hid hf.2.2⟩
      · skip
        refine wpOp_hand (oi := ?oi43) ?hi43 (fun K hK => ?hh43)
        case hi43 => (simp only [List.getElem?_toArray, List.getElem?_cons_succ, List.getElem?_cons_zero]; rfl)
        go_simp
        have d7k := hf.1.lt
        have d7l := hf.2.1.lt
        have d7s := hf.2.2.size
        have d7j := h6.lt
        have h7 := SpBox.new Y29 0 0
        obtain ⟨b7, hb7⟩ : ∃ b, b = Y29.heap.size := ⟨_, rfl⟩
        obtain ⟨Y39, hY⟩ : ∃ Y, Y = Y29.alloc (.cells #[.int .i64 0, .int .i64 0] 28) := ⟨_, rfl⟩
        have hfn : SpBox Y39 k a b ∧ SpBox Y39 (k + 1) 0 0 ∧ Below w.heap.size w Y39 := by rw [hY]; exact ⟨hf.1.alloc _, hf.2.1.alloc _, hf.2.2.alloc d7s _⟩
        replace h6 := h6.alloc (.cells #[.int .i64 0, .int .i64 0] 28)
        rw [← hY] at h7 h6 ⊢
        rw [← hb7] at h7 d7k d7l d7s d7j ⊢
        clear hf
        have hf := hfn
        clear hfn hY hb7
        refine hK.out _ _ (heldC_two (fun _ => hf) (fun _ => trivial)) (fun hF => ?_)
        clear hK K
        try simp only [Act.put, List.setIfInBounds_toArray, List.set_cons_zero, List.set_cons_succ]
        refine wpG_ready (rs := [2]) (by kernel_rfl) (by simp) ?_
        refine all_one ?_
        refine wpOp_hand (oi := ?oi44) ?hi44 (fun K hK => ?hh44)
        case hi44 => (simp only [List.getElem?_toArray, List.getElem?_cons_succ, List.getElem?_cons_zero]; rfl)
        go_simp
        refine Calls.mono (SA.out _ (HT.out.below hf.2.2)) ?_
        rintro e V40 ⟨rfl, hb⟩
        replace h6 := h6.below hb
        replace h7 := h7.below hb
        have hfn : SpBox V40 k a b ∧ SpBox V40 (k + 1) 0 0 ∧ Below w.heap.size w V40 := ⟨hf.1.below hb, hf.2.1.below hb, hf.2.2.trans (hb.mono hf.2.2.size)⟩
        clear hf hb
        have hf := hfn
        clear hfn
        refine hK.out _ _ (heldC_two (fun _ => hf) (fun _ => trivial)) (fun hF => ?_)
        clear hK K
        try simp only [Act.put, List.setIfInBounds_toArray, List.set_cons_zero, List.set_cons_succ]
        refine wpG_ready (rs := [5]) (by kernel_rfl) (by simp) ?_
        refine all_one ?_
        refine wpOp_hand (oi := ?oi45) ?hi45 (fun K hK => ?hh45)
        case hi45 => (simp only [List.getElem?_toArray, List.getElem?_cons_succ, List.getElem?_cons_zero]; rfl)
        go_simp
        refine Calls.mono (SB.out _ (HT.out.below hf.2.2)) ?_
        rintro e V41 ⟨rfl, hb⟩
        replace h6 := h6.below hb
        replace h7 := h7.below hb
        have hfn : SpBox V41 k a b ∧ SpBox V41 (k + 1) 0 0 ∧ Below w.heap.size w V41 := ⟨hf.1.below hb, hf.2.1.below hb, hf.2.2.trans (hb.mono hf.2.2.size)⟩
        clear hf hb
        have hf := hfn
        clear hfn
        refine hK.out _ _ (heldC_two (fun h => absurd h (by simp)) (fun _ => trivial)) (fun hF => ?_)
        clear hK K
        try simp only [Act.put, List.setIfInBounds_toArray, List.set_cons_zero, List.set_cons_succ]
        refine wpG_ready (rs := [8]) (by kernel_rfl) (by simp) ?_
        refine all_one ?_
        have x0 := h6.c0; have x1 := h6.c1; have x0f := h6.free 0; have x1f := h6.free 1; have xl := h6.lt
        refine wpOp_hand (oi := ?oi46) ?hi46 (fun K hK => ?hh46)
        case hi46 => (simp only [List.getElem?_toArray, List.getElem?_cons_succ, List.getElem?_cons_zero]; rfl)
        go_simp
        have hfn : SpBox ((V41.setCell ⟨b6, 0, none⟩ (.int .i64 al)).setCell ⟨b6, 1, none⟩ (.int .i64 ah)) k a b ∧ SpBox ((V41.setCell ⟨b6, 0, none⟩ (.int .i64 al)).setCell ⟨b6, 1, none⟩ (.int .i64 ah)) (k + 1) 0 0 ∧ Below w.heap.size w ((V41.setCell ⟨b6, 0, none⟩ (.int .i64 al)).setCell ⟨b6, 1, none⟩ (.int .i64 ah)) := ⟨(hf.1.other (by dsimp only; omega) _).other (by dsimp only; omega) _, (hf.2.1.other (by dsimp only; omega) _).other (by dsimp only; omega) _, (hf.2.2.setCell (p := ⟨b6, 0, none⟩) d6s _).setCell (p := ⟨b6, 1, none⟩) d6s _⟩
        replace h7 := (h7.other (a := ⟨b6, 0, none⟩) (by dsimp only; omega) (.int .i64 al)).other (a := ⟨b6, 1, none⟩) (by dsimp only; omega) (.int .i64 ah)
        replace h6 := h6.set al ah
        obtain ⟨Z42, hY⟩ : ∃ Y, Y = (V41.setCell ⟨b6, 0, none⟩ (.int .i64 al)).setCell ⟨b6, 1, none⟩ (.int .i64 ah) := ⟨_, rfl⟩
        rw [← hY] at hfn h6 h7 ⊢
        clear hf x0 x1 x0f x1f xl
        have hf := hfn
        clear hfn hY
        refine hK.out _ _ (heldC_two (fun h => absurd h (by simp)) (fun _ => trivial)) (fun hF => ?_)
        clear hK K
        try simp only [Act.put, List.setIfInBounds_toArray, List.set_cons_zero, List.set_cons_succ]
        refine wpG_ready (rs := [9]) (by kernel_rfl) (by simp) ?_
        refine all_one ?_
        have x0 := h7.c0; have x1 := h7.c1; have x0f := h7.free 0; have x1f := h7.free 1; have xl := h7.lt
        refine wpOp_hand (oi := ?oi47) ?hi47 (fun K hK => ?hh47)
        case hi47 => (simp only [List.getElem?_toArray, List.getElem?_cons_succ, List.getElem?_cons_zero]; rfl)
        go_simp
        have hfn : SpBox ((Z42.setCell ⟨b7, 0, none⟩ (.int .i64 bl)).setCell ⟨b7, 1, none⟩ (.int .i64 bh)) k a b ∧ SpBox ((Z42.setCell ⟨b7, 0, none⟩ (.int .i64 bl)).setCell ⟨b7, 1, none⟩ (.int .i64 bh)) (k + 1) 0 0 ∧ Below w.heap.size w ((Z42.setCell ⟨b7, 0, none⟩ (.int .i64 bl)).setCell ⟨b7, 1, none⟩ (.int .i64 bh)) := ⟨(hf.1.other (by dsimp only; omega) _).other (by dsimp only; omega) _, (hf.2.1.other (by dsimp only; omega) _).other (by dsimp only; omega) _, (hf.2.2.setCell (p := ⟨b7, 0, none⟩) d7s _).setCell (p := ⟨b7, 1, none⟩) d7s _⟩
        replace h6 := (h6.other (a := ⟨b7, 0, none⟩) (by dsimp only; omega) (.int .i64 bl)).other (a := ⟨b7, 1, none⟩) (by dsimp only; omega) (.int .i64 bh)
        replace h7 := h7.set bl bh
        obtain ⟨Z43, hY⟩ : ∃ Y, Y = (Z42.setCell ⟨b7, 0, none⟩ (.int .i64 bl)).setCell ⟨b7, 1, none⟩ (.int .i64 bh) := ⟨_, rfl⟩
        rw [← hY] at hfn h6 h7 ⊢
        clear hf x0 x1 x0f x1f xl
        have hf := hfn
        clear hfn hY
        refine hK.out _ _ (heldC_two (fun h => absurd h (by simp)) (fun h => absurd h (by simp))) (fun hF => ?_)
        clear hK K
        try simp only [Act.put, List.setIfInBounds_toArray, List.set_cons_zero, List.set_cons_succ]
        refine wpG_done (by kernel_rfl) ?_ _
        go_wp2_with fail
        go_meet
        exact ⟨b6, b7, rfl, rfl, Lib.hid h6, Lib.hid h7, Lib.hid hf.1, Lib.hid hf.2.1, Lib.hid hf.2.2⟩
    · skip
      refine wpOp_hand (oi := ?oi48) ?hi48 (fun K hK => ?hh48)
      case hi48 => (simp only [List.getElem?_toArray, List.getElem?_cons_succ, List.getElem?_cons_zero]; rfl)
      go_simp
      have d7k := hf.1.lt
      have d7l := hf.2.1.lt
      have d7s := hf.2.2.size
      have h7 := SpBox.new X 0 0
      obtain ⟨b7, hb7⟩ : ∃ b, b = X.heap.size := ⟨_, rfl⟩
      obtain ⟨Y44, hY⟩ : ∃ Y, Y = X.alloc (.cells #[.int .i64 0, .int .i64 0] 28) := ⟨_, rfl⟩
      have hfn : SpBox Y44 k a b ∧ SpBox Y44 (k + 1) 0 0 ∧ Below w.heap.size w Y44 := by rw [hY]; exact ⟨hf.1.alloc _, hf.2.1.alloc _, hf.2.2.alloc d7s _⟩
      rw [← hY] at h7 ⊢
      rw [← hb7] at h7 d7k d7l d7s ⊢
      clear hf
      have hf := hfn
      clear hfn hY hb7
      refine hK.out _ _ (heldC_two (fun _ => hf) (fun _ => trivial)) (fun hF => ?_)
      clear hK K
      try simp only [Act.put, List.setIfInBounds_toArray, List.set_cons_zero, List.set_cons_succ]
      refine wpG_ready (rs := [2, 6]) (by kernel_rfl) (by simp) ?_
      refine all_two ?_ ?_
      · skip
        refine wpOp_hand (oi := ?oi49) ?hi49 (fun K hK => ?hh49)
        case hi49 => (simp only [List.getElem?_toArray, List.getElem?_cons_succ, List.getElem?_cons_zero]; rfl)
        go_simp
        refine Calls.mono (SA.out _ (HT.out.below hf.2.2)) ?_
        rintro e V45 ⟨rfl, hb⟩
        replace h7 := h7.below hb
        have hfn : SpBox V45 k a b ∧ SpBox V45 (k + 1) 0 0 ∧ Below w.heap.size w V45 := ⟨hf.1.below hb, hf.2.1.below hb, hf.2.2.trans (hb.mono hf.2.2.size)⟩
        clear hf hb
        have hf := hfn
        clear hfn
        refine hK.out _ _ (heldC_two (fun _ => hf) (fun _ => trivial)) (fun hF => ?_)
        clear hK K
        try simp only [Act.put, List.setIfInBounds_toArray, List.set_cons_zero, List.set_cons_succ]
        refine wpG_ready (rs := [5, 6]) (by kernel_rfl) (by simp) ?_
        refine all_two ?_ ?_
        · skip
          refine wpOp_hand (oi := ?oi50) ?hi50 (fun K hK => ?hh50)
          case hi50 => (simp only [List.getElem?_toArray, List.getElem?_cons_succ, List.getElem?_cons_zero]; rfl)
          go_simp
          refine Calls.mono (SB.out _ (HT.out.below hf.2.2)) ?_
          rintro e V46 ⟨rfl, hb⟩
          replace h7 := h7.below hb
          have hfn : SpBox V46 k a b ∧ SpBox V46 (k + 1) 0 0 ∧ Below w.heap.size w V46 := ⟨hf.1.below hb, hf.2.1.below hb, hf.2.2.trans (hb.mono hf.2.2.size)⟩
          clear hf hb
          have hf := hfn
          clear hfn
          refine hK.out _ _ (heldC_two (fun h => absurd h (by simp)) (fun _ => trivial)) (fun hF => ?_)
          clear hK K
          try simp only [Act.put, List.setIfInBounds_toArray, List.set_cons_zero, List.set_cons_succ]
          refine wpG_ready (rs := [6]) (by kernel_rfl) (by simp) ?_
          refine all_one ?_
          refine wpOp_hand (oi := ?oi51) ?hi51 (fun K hK => ?hh51)
          case hi51 => (simp only [List.getElem?_toArray, List.getElem?_cons_succ, List.getElem?_cons_zero]; rfl)
          go_simp
          have d6k := hf.1.lt
          have d6l := hf.2.1.lt
          have d6s := hf.2.2.size
          have d6j := h7.lt
          have h6 := SpBox.new V46 0 0
          obtain ⟨b6, hb6⟩ : ∃ b, b = V46.heap.size := ⟨_, rfl⟩
          obtain ⟨Y47, hY⟩ : ∃ Y, Y = V46.alloc (.cells #[.int .i64 0, .int .i64 0] 28) := ⟨_, rfl⟩
          have hfn : SpBox Y47 k a b ∧ SpBox Y47 (k + 1) 0 0 ∧ Below w.heap.size w Y47 := by rw [hY]; exact ⟨hf.1.alloc _, hf.2.1.alloc _, hf.2.2.alloc d6s _⟩
          replace h7 := h7.alloc (.cells #[.int .i64 0, .int .i64 0] 28)
          rw [← hY] at h6 h7 ⊢
          rw [← hb6] at h6 d6k d6l d6s d6j ⊢
          clear hf
          have hf := hfn
          clear hfn hY hb6
          refine hK.out _ _ (heldC_two (fun h => absurd h (by simp)) (fun _ => trivial)) (fun hF => ?_)
          clear hK K
          try simp only [Act.put, List.setIfInBounds_toArray, List.set_cons_zero, List.set_cons_succ]
          refine wpG_ready (rs := [8]) (by kernel_rfl) (by simp) ?_
          refine all_one ?_
          have x0 := h6.c0; have x1 := h6.c1; have x0f := h6.free 0; have x1f := h6.free 1; have xl := h6.lt
          refine wpOp_hand (oi := ?oi52) ?hi52 (fun K hK => ?hh52)
          case hi52 => (simp only [List.getElem?_toArray, List.getElem?_cons_succ, List.getElem?_cons_zero]; rfl)
          go_simp
          have hfn : SpBox ((Y47.setCell ⟨b6, 0, none⟩ (.int .i64 al)).setCell ⟨b6, 1, none⟩ (.int .i64 ah)) k a b ∧ SpBox ((Y47.setCell ⟨b6, 0, none⟩ (.int .i64 al)).setCell ⟨b6, 1, none⟩ (.int .i64 ah)) (k + 1) 0 0 ∧ Below w.heap.size w ((Y47.setCell ⟨b6, 0, none⟩ (.int .i64 al)).setCell ⟨b6, 1, none⟩ (.int .i64 ah)) := ⟨(hf.1.other (by dsimp only; omega) _).other (by dsimp only; omega) _, (hf.2.1.other (by dsimp only; omega) _).other (by dsimp only; omega) _, (hf.2.2.setCell (p := ⟨b6, 0, none⟩) d6s _).setCell (p := ⟨b6, 1, none⟩) d6s _⟩
          replace h7 := (h7.other (a := ⟨b6, 0, none⟩) (by dsimp only; omega) (.int .i64 al)).other (a := ⟨b6, 1, none⟩) (by dsimp only; omega) (.int .i64 ah)
          replace h6 := h6.set al ah
          obtain ⟨Z48, hY⟩ : ∃ Y, Y = (Y47.setCell ⟨b6, 0, none⟩ (.int .i64 al)).setCell ⟨b6, 1, none⟩ (.int .i64 ah) := ⟨_, rfl⟩
          rw [← hY] at hfn h6 h7 ⊢
          clear hf x0 x1 x0f x1f xl
          have hf := hfn
          clear hfn hY
          refine hK.out _ _ (heldC_two (fun h => absurd h (by simp)) (fun _ => trivial)) (fun hF => ?_)
          clear hK K
          try simp only [Act.put, List.setIfInBounds_toArray, List.set_cons_zero, List.set_cons_succ]
          refine wpG_ready (rs := [9]) (by kernel_rfl) (by simp) ?_
          refine all_one ?_
          have x0 := h7.c0; have x1 := h7.c1; have x0f := h7.free 0; have x1f := h7.free 1; have xl := h7.lt
          refine wpOp_hand (oi := ?oi53) ?hi53 (fun K hK => ?hh53)
          case hi53 => (simp only [List.getElem?_toArray, List.getElem?_cons_succ, List.getElem?_cons_zero]; rfl)
          go_simp
          have hfn : SpBox ((Z48.setCell ⟨b7, 0, none⟩ (.int .i64 bl)).setCell ⟨b7, 1, none⟩ (.int .i64 bh)) k a b ∧ SpBox ((Z48.setCell ⟨b7, 0, none⟩ (.int .i64 bl)).setCell ⟨b7, 1, none⟩ (.int .i64 bh)) (k + 1) 0 0 ∧ Below w.heap.size w ((Z48.setCell ⟨b7, 0, none⟩ (.int .i64 bl)).setCell ⟨b7, 1, none⟩ (.int .i64 bh)) := ⟨(hf.1.other (by dsimp only; omega) _).other (by dsimp only; omega) _, (hf.2.1.other (by dsimp only; omega) _).other (by dsimp only; omega) _, (hf.2.2.setCell (p := ⟨b7, 0, none⟩) d7s _).setCell (p := ⟨b7, 1, none⟩) d7s _⟩
          replace h6 := (h6.other (a := ⟨b7, 0, none⟩) (by dsimp only; omega) (.int .i64 bl)).other (a := ⟨b7, 1, none⟩) (by dsimp only; omega) (.int .i64 bh)
          replace h7 := h7.set bl bh
          obtain ⟨Z49, hY⟩ : ∃ Y, Y = (Z48.setCell ⟨b7, 0, none⟩ (.int .i64 bl)).setCell ⟨b7, 1, none⟩ (.int .i64 bh) := ⟨_, rfl⟩
          rw [← hY] at hfn h6 h7 ⊢
          clear hf x0 x1 x0f x1f xl
          have hf := hfn
          clear hfn hY
          refine hK.out _ _ (heldC_two (fun h => absurd h (by simp)) (fun h => absurd h (by simp))) (fun hF => ?_)
          clear hK K
          try simp only [Act.put, List.setIfInBounds_toArray, List.set_cons_zero, List.set_cons_succ]
          refine wpG_done (by kernel_rfl) ?_ _
          go_wp2_with fail
          go_meet
          exact ⟨b6, b7, rfl, rfl, Lib.hid h6, Lib.hid h7, Lib.hid hf.1, Lib.hid hf.2.1, Lib.hid hf.2.2⟩
        · skip
          refine wpOp_hand (oi := ?oi54) ?hi54 (fun K hK => ?hh54)
          case hi54 => (simp only [List.getElem?_toArray, List.getElem?_cons_succ, List.getElem?_cons_zero]; rfl)
          go_simp
          have d6k := hf.1.lt
          have d6l := hf.2.1.lt
          have d6s := hf.2.2.size
          have d6j := h7.lt
          have h6 := SpBox.new V45 0 0
          obtain ⟨b6, hb6⟩ : ∃ b, b = V45.heap.size := ⟨_, rfl⟩
          obtain ⟨Y50, hY⟩ : ∃ Y, Y = V45.alloc (.cells #[.int .i64 0, .int .i64 0] 28) := ⟨_, rfl⟩
          have hfn : SpBox Y50 k a b ∧ SpBox Y50 (k + 1) 0 0 ∧ Below w.heap.size w Y50 := by rw [hY]; exact ⟨hf.1.alloc _, hf.2.1.alloc _, hf.2.2.alloc d6s _⟩
          replace h7 := h7.alloc (.cells #[.int .i64 0, .int .i64 0] 28)
          rw [← hY] at h6 h7 ⊢
          rw [← hb6] at h6 d6k d6l d6s d6j ⊢
          clear hf
          have hf := hfn
          clear hfn hY hb6
          refine hK.out _ _ (heldC_two (fun _ => hf) (fun _ => trivial)) (fun hF => ?_)
          clear hK K
          try simp only [Act.put, List.setIfInBounds_toArray, List.set_cons_zero, List.set_cons_succ]
          refine wpG_ready (rs := [5]) (by kernel_rfl) (by simp) ?_
          refine all_one ?_
          refine wpOp_hand (oi := ?oi55) ?hi55 (fun K hK => ?hh55)
          case hi55 => (simp only [List.getElem?_toArray, List.getElem?_cons_succ, List.getElem?_cons_zero]; rfl)
          go_simp
          refine Calls.mono (SB.out _ (HT.out.below hf.2.2)) ?_
          rintro e V51 ⟨rfl, hb⟩
          replace h6 := h6.below hb
          replace h7 := h7.below hb
          have hfn : SpBox V51 k a b ∧ SpBox V51 (k + 1) 0 0 ∧ Below w.heap.size w V51 := ⟨hf.1.below hb, hf.2.1.below hb, hf.2.2.trans (hb.mono hf.2.2.size)⟩
          clear hf hb
          have hf := hfn
          clear hfn
          refine hK.out _ _ (heldC_two (fun h => absurd h (by simp)) (fun _ => trivial)) (fun hF => ?_)
          clear hK K
          try simp only [Act.put, List.setIfInBounds_toArray, List.set_cons_zero, List.set_cons_succ]
          refine wpG_ready (rs := [8]) (by kernel_rfl) (by simp) ?_
          refine all_one ?_
          have x0 := h6.c0; have x1 := h6.c1; have x0f := h6.free 0; have x1f := h6.free 1; have xl := h6.lt
          refine wpOp_hand (oi := ?oi56) ?hi56 (fun K hK => ?hh56)
          case hi56 => (simp only [List.getElem?_toArray, List.getElem?_cons_succ, List.getElem?_cons_zero]; rfl)
          go_simp
          have hfn : SpBox ((V51.setCell ⟨b6, 0, none⟩ (.int .i64 al)).setCell ⟨b6, 1, none⟩ (.int .i64 ah)) k a b ∧ SpBox ((V51.setCell ⟨b6, 0, none⟩ (.int .i64 al)).setCell ⟨b6, 1, none⟩ (.int .i64 ah)) (k + 1) 0 0 ∧ Below w.heap.size w ((V51.setCell ⟨b6, 0, none⟩ (.int .i64 al)).setCell ⟨b6, 1, none⟩ (.int .i64 ah)) := ⟨(hf.1.other (by dsimp only; omega) _).other (by dsimp only; omega) _, (hf.2.1.other (by dsimp only; omega) _).other (by dsimp only; omega) _, (hf.2.2.setCell (p := ⟨b6, 0, none⟩) d6s _).setCell (p := ⟨b6, 1, none⟩) d6s _⟩
          replace h7 := (h7.other (a := ⟨b6, 0, none⟩) (by dsimp only; omega) (.int .i64 al)).other (a := ⟨b6, 1, none⟩) (by dsimp only; omega) (.int .i64 ah)
          replace h6 := h6.set al ah
          obtain ⟨Z52, hY⟩ : ∃ Y, Y = (V51.setCell ⟨b6, 0, none⟩ (.int .i64 al)).setCell ⟨b6, 1, none⟩ (.int .i64 ah) := ⟨_, rfl⟩
          rw [← hY] at hfn h6 h7 ⊢
          clear hf x0 x1 x0f x1f xl
          have hf := hfn
          clear hfn hY
          refine hK.out _ _ (heldC_two (fun h => absurd h (by simp)) (fun _ => trivial)) (fun hF => ?_)
          clear hK K
          try simp only [Act.put, List.setIfInBounds_toArray, List.set_cons_zero, List.set_cons_succ]
          refine wpG_ready (rs := [9]) (by kernel_rfl) (by simp) ?_
          refine all_one ?_
          have x0 := h7.c0; have x1 := h7.c1; have x0f := h7.free 0; have x1f := h7.free 1; have xl := h7.lt
          refine wpOp_hand (oi := ?oi57) ?hi57 (fun K hK => ?hh57)
          case hi57 => (simp only [List.getElem?_toArray, List.getElem?_cons_succ, List.getElem?_cons_zero]; rfl)
          go_simp
          have hfn : SpBox ((Z52.setCell ⟨b7, 0, none⟩ (.int .i64 bl)).setCell ⟨b7, 1, none⟩ (.int .i64 bh)) k a b ∧ SpBox ((Z52.setCell ⟨b7, 0, none⟩ (.int .i64 bl)).setCell ⟨b7, 1, none⟩ (.int .i64 bh)) (k + 1) 0 0 ∧ Below w.heap.size w ((Z52.setCell ⟨b7, 0, none⟩ (.int .i64 bl)).setCell ⟨b7, 1, none⟩ (.int .i64 bh)) := ⟨(hf.1.other (by dsimp only; omega) _).other (by dsimp only; omega) _, (hf.2.1.other (by dsimp only; omega) _).other (by dsimp only; omega) _, (hf.2.2.setCell (p := ⟨b7, 0, none⟩) d7s _).setCell (p := ⟨b7, 1, none⟩) d7s _⟩
          replace h6 := (h6.other (a := ⟨b7, 0, none⟩) (by dsimp only; omega) (.int .i64 bl)).other (a := ⟨b7, 1, none⟩) (by dsimp only; omega) (.int .i64 bh)
          replace h7 := h7.set bl bh
          obtain ⟨Z53, hY⟩ : ∃ Y, Y = (Z52.setCell ⟨b7, 0, none⟩ (.int .i64 bl)).setCell ⟨b7, 1, none⟩ (.int .i64 bh) := ⟨_, rfl⟩
          rw [← hY] at hfn h6 h7 ⊢
          clear hf x0 x1 x0f x1f xl
          have hf := hfn
          clear hfn hY
          refine hK.out _ _ (heldC_two (fun h => absurd h (by simp)) (fun h => absurd h (by simp))) (fun hF => ?_)
          clear hK K
          try simp only [Act.put, List.setIfInBounds_toArray, List.set_cons_zero, List.set_cons_succ]
          refine wpG_done (by kernel_rfl) ?_ _
          go_wp2_with fail
          go_meet
          exact ⟨b6, b7, rfl, rfl, Lib.hid h6, Lib.hid h7, Lib.hid hf.1, Lib.hid hf.2.1, Lib.hid hf.2.2⟩
      · skip
        refine wpOp_hand (oi := ?oi58) ?hi58 (fun K hK => ?hh58)
        case hi58 => (simp only [List.getElem?_toArray, List.getElem?_cons_succ, List.getElem?_cons_zero]; rfl)
        go_simp
        have d6k := hf.1.lt
        have d6l := hf.2.1.lt
        have d6s := hf.2.2.size
        have d6j := h7.lt
        have h6 := SpBox.new Y44 0 0
        obtain ⟨b6, hb6⟩ : ∃ b, b = Y44.heap.size := ⟨_, rfl⟩
        obtain ⟨Y54, hY⟩ : ∃ Y, Y = Y44.alloc (.cells #[.int .i64 0, .int .i64 0] 28) := ⟨_, rfl⟩
        have hfn : SpBox Y54 k a b ∧ SpBox Y54 (k + 1) 0 0 ∧ Below w.heap.size w Y54 := by rw [hY]; exact ⟨hf.1.alloc _, hf.2.1.alloc _, hf.2.2.alloc d6s _⟩
        replace h7 := h7.alloc (.cells #[.int .i64 0, .int .i64 0] 28)
        rw [← hY] at h6 h7 ⊢
        rw [← hb6] at h6 d6k d6l d6s d6j ⊢
        clear hf
        have hf := hfn
        clear hfn hY hb6
        refine hK.out _ _ (heldC_two (fun _ => hf) (fun _ => trivial)) (fun hF => ?_)
        clear hK K
        try simp only [Act.put, List.setIfInBounds_toArray, List.set_cons_zero, List.set_cons_succ]
        refine wpG_ready (rs := [2]) (by kernel_rfl) (by simp) ?_
        refine all_one ?_
        refine wpOp_hand (oi := ?oi59) ?hi59 (fun K hK => ?hh59)
        case hi59 => (simp only [List.getElem?_toArray, List.getElem?_cons_succ, List.getElem?_cons_zero]; rfl)
        go_simp
        refine Calls.mono (SA.out _ (HT.out.below hf.2.2)) ?_
        rintro e V55 ⟨rfl, hb⟩
        replace h6 := h6.below hb
        replace h7 := h7.below hb
        have hfn : SpBox V55 k a b ∧ SpBox V55 (k + 1) 0 0 ∧ Below w.heap.size w V55 := ⟨hf.1.below hb, hf.2.1.below hb, hf.2.2.trans (hb.mono hf.2.2.size)⟩
        clear hf hb
        have hf := hfn
        clear hfn
        refine hK.out _ _ (heldC_two (fun _ => hf) (fun _ => trivial)) (fun hF => ?_)
        clear hK K
        try simp only [Act.put, List.setIfInBounds_toArray, List.set_cons_zero, List.set_cons_succ]
        refine wpG_ready (rs := [5]) (by kernel_rfl) (by simp) ?_
        refine all_one ?_
        refine wpOp_hand (oi := ?oi60) ?hi60 (fun K hK => ?hh60)
        case hi60 => (simp only [List.getElem?_toArray, List.getElem?_cons_succ, List.getElem?_cons_zero]; rfl)
        go_simp
        refine Calls.mono (SB.out _ (HT.out.below hf.2.2)) ?_
        rintro e V56 ⟨rfl, hb⟩
        replace h6 := h6.below hb
        replace h7 := h7.below hb
        have hfn : SpBox V56 k a b ∧ SpBox V56 (k + 1) 0 0 ∧ Below w.heap.size w V56 := ⟨hf.1.below hb, hf.2.1.below hb, hf.2.2.trans (hb.mono hf.2.2.size)⟩
        clear hf hb
        have hf := hfn
        clear hfn
        refine hK.out _ _ (heldC_two (fun h => absurd h (by simp)) (fun _ => trivial)) (fun hF => ?_)
        clear hK K
        try simp only [Act.put, List.setIfInBounds_toArray, List.set_cons_zero, List.set_cons_succ]
        refine wpG_ready (rs := [8]) (by kernel_rfl) (by simp) ?_
        refine all_one ?_
        have x0 := h6.c0; have x1 := h6.c1; have x0f := h6.free 0; have x1f := h6.free 1; have xl := h6.lt
        refine wpOp_hand (oi := ?oi61) ?hi61 (fun K hK => ?hh61)
        case hi61 => (simp only [List.getElem?_toArray, List.getElem?_cons_succ, List.getElem?_cons_zero]; rfl)
        go_simp
        have hfn : SpBox ((V56.setCell ⟨b6, 0, none⟩ (.int .i64 al)).setCell ⟨b6, 1, none⟩ (.int .i64 ah)) k a b ∧ SpBox ((V56.setCell ⟨b6, 0, none⟩ (.int .i64 al)).setCell ⟨b6, 1, none⟩ (.int .i64 ah)) (k + 1) 0 0 ∧ Below w.heap.size w ((V56.setCell ⟨b6, 0, none⟩ (.int .i64 al)).setCell ⟨b6, 1, none⟩ (.int .i64 ah)) := ⟨(hf.1.other (by dsimp only; omega) _).other (by dsimp only; omega) _, (hf.2.1.other (by dsimp only; omega) _).other (by dsimp only; omega) _, (hf.2.2.setCell (p := ⟨b6, 0, none⟩) d6s _).setCell (p := ⟨b6, 1, none⟩) d6s _⟩
        replace h7 := (h7.other (a := ⟨b6, 0, none⟩) (by dsimp only; omega) (.int .i64 al)).other (a := ⟨b6, 1, none⟩) (by dsimp only; omega) (.int .i64 ah)
        replace h6 := h6.set al ah
        obtain ⟨Z57, hY⟩ : ∃ Y, Y = (V56.setCell ⟨b6, 0, none⟩ (.int .i64 al)).setCell ⟨b6, 1, none⟩ (.int .i64 ah) := ⟨_, rfl⟩
        rw [← hY] at hfn h6 h7 ⊢
        clear hf x0 x1 x0f x1f xl
        have hf := hfn
        clear hfn hY
        refine hK.out _ _ (heldC_two (fun h => absurd h (by simp)) (fun _ => trivial)) (fun hF => ?_)
        clear hK K
        try simp only [Act.put, List.setIfInBounds_toArray, List.set_cons_zero, List.set_cons_succ]
        refine wpG_ready (rs := [9]) (by kernel_rfl) (by simp) ?_
        refine all_one ?_
        have x0 := h7.c0; have x1 := h7.c1; have x0f := h7.free 0; have x1f := h7.free 1; have xl := h7.lt
        refine wpOp_hand (oi := ?oi62) ?hi62 (fun K hK => ?hh62)
        case hi62 => (simp only [List.getElem?_toArray, List.getElem?_cons_succ, List.getElem?_cons_zero]; rfl)
        go_simp
        have hfn : SpBox ((Z57.setCell ⟨b7, 0, none⟩ (.int .i64 bl)).setCell ⟨b7, 1, none⟩ (.int .i64 bh)) k a b ∧ SpBox ((Z57.setCell ⟨b7, 0, none⟩ (.int .i64 bl)).setCell ⟨b7, 1, none⟩ (.int .i64 bh)) (k + 1) 0 0 ∧ Below w.heap.size w ((Z57.setCell ⟨b7, 0, none⟩ (.int .i64 bl)).setCell ⟨b7, 1, none⟩ (.int .i64 bh)) := ⟨(hf.1.other (by dsimp only; omega) _).other (by dsimp only; omega) _, (hf.2.1.other (by dsimp only; omega) _).other (by dsimp only; omega) _, (hf.2.2.setCell (p := ⟨b7, 0, none⟩) d7s _).setCell (p := ⟨b7, 1, none⟩) d7s _⟩
        replace h6 := (h6.other (a := ⟨b7, 0, none⟩) (by dsimp only; omega) (.int .i64 bl)).other (a := ⟨b7, 1, none⟩) (by dsimp only; omega) (.int .i64 bh)
        replace h7 := h7.set bl bh
        obtain ⟨Z58, hY⟩ : ∃ Y, Y = (Z57.setCell ⟨b7, 0, none⟩ (.int .i64 bl)).setCell ⟨b7, 1, none⟩ (.int .i64 bh) := ⟨_, rfl⟩
        rw [← hY] at hfn h6 h7 ⊢
        clear hf x0 x1 x0f x1f xl
        have hf := hfn
        clear hfn hY
        refine hK.out _ _ (heldC_two (fun h => absurd h (by simp)) (fun h => absurd h (by simp))) (fun hF => ?_)
        clear hK K
        try simp only [Act.put, List.setIfInBounds_toArray, List.set_cons_zero, List.set_cons_succ]
        refine wpG_done (by kernel_rfl) ?_ _
        go_wp2_with fail
        go_meet
        exact ⟨b6, b7, rfl, rfl, Lib.hid h6, Lib.hid h7, Lib.hid hf.1, Lib.hid hf.2.1, Lib.hid hf.2.2⟩
  case rest =>
    obtain ⟨m, n, rfl, rfl, H6, H7, HA, HO, HBW⟩ := hcut
    have x0 := H6.out.c0; have x1 := H6.out.c1; have xl := H6.out.lt
    have y0 := H7.out.c0; have y1 := H7.out.c1; have yl := H7.out.lt
    clear SA SB HT
    obtain ⟨j, hj⟩ : ∃ x, x = wc.heap.size := ⟨_, rfl⟩
    go_upto_region 6 with fail
    rw [← hj]
    have D := SpBox.new wc ml mh
    have A := HA.out.alloc (.cells #[.int .i64 ml, .int .i64 mh] 28)
    have O := HO.out.alloc (.cells #[.int .i64 ml, .int .i64 mh] 28)
    have B := HBW.out.alloc HBW.out.size (.cells #[.int .i64 ml, .int .i64 mh] 28)
    have lk : k + 1 < j := by have := HO.out.lt; omega
    have lw : w.heap.size ≤ j := by have := HK.out; omega
    have HLK := Lib.hid (And.intro lk lw)
    rw [← hj] at D
    obtain ⟨V, hV⟩ : ∃ V, V = wc.alloc (.cells #[.int .i64 ml, .int .i64 mh] 28) := ⟨_, rfl⟩
    rw [← hV] at D A O B ⊢
    clear hV hj x0 x1 xl y0 y1 yl H6 H7 HA HO HBW e1 e2 lk lw
    have c0 := A.c0; have c1 := A.c1; have cl := A.lt
    go_wp2_with fail
    refine Calls.mono (K1.out _) ?_
    rintro e w2 ⟨rfl, hb⟩
    replace D := Lib.hid (D.below hb)
    replace A := Lib.hid (A.below hb)
    replace O := Lib.hid (O.below hb)
    replace B := Lib.hid (B.trans (hb.mono B.size))
    clear hb c0 c1 cl K1
    have c0 := A.out.c0; have c1 := A.out.c1; have cl := A.out.lt
    cases q1
    · go_wp2_with fail
      refine Calls.mono (K2.out _) ?_
      rintro e w3 ⟨rfl, hb⟩
      cases q2
      · replace D := Lib.hid (D.out.below hb)
        replace O := Lib.hid (O.out.below hb)
        replace B := Lib.hid (B.out.trans (hb.mono B.out.size))
        clear hb c0 c1 cl K2 A
        have d0 := D.out.c0; have d1 := D.out.c1; have dl := D.out.lt
        have o0 := O.out.c0; have o1 := O.out.c1; have ol := O.out.lt; have of0 := O.out.free 0; have of1 := O.out.free 1
        have BB := Lib.hid B.out
        clear B
        go_wp2_with fail
        refine bodyPost_ret (v := .tuple #[.agg #[.int .i64 ml, .int .i64 mh], .int .i64 0]) ?_ rfl ⟨?_, ?_⟩
        · simp [results, Tryz.results31, go_sem, *]
        · rw [HL.out, HH.out]; rfl
        · have := HK.out
          exact (BB.out.setCell (p := ⟨k + 1, 0, none⟩) (by dsimp only; omega) _).setCell (p := ⟨k + 1, 1, none⟩) (by dsimp only; omega) _
      · replace D := Lib.hid (D.out.below hb)
        replace O := Lib.hid (O.out.below hb)
        replace B := Lib.hid (B.out.trans (hb.mono B.out.size))
        clear hb c0 c1 cl K2 A
        have d0 := D.out.c0; have d1 := D.out.c1; have dl := D.out.lt
        have df := D.out.free 0
        have o0 := O.out.c0; have o1 := O.out.c1; have ol := O.out.lt; have of0 := O.out.free 0; have of1 := O.out.free 1
        go_upto_region 10 with fail
        clear d0 d1 dl df o0 o1 ol of0 of1
        have D' := D.out.set0 (-1000000000)
        have O' := O.out.other (a := ⟨j, 0, none⟩) (by have := HLK.out; dsimp only; omega) (.int .i64 (-1000000000))
        have B' := B.out.setCell (p := ⟨j, 0, none⟩) HLK.out.2 (.int .i64 (-1000000000))
        obtain ⟨U, hU⟩ : ∃ U, U = w3.setCell ⟨j, 0, none⟩ (.int .i64 (-1000000000)) := ⟨_, rfl⟩
        rw [← hU] at D' O' B' ⊢
        clear hU D O B
        have d0 := D'.c0; have d1 := D'.c1; have dl := D'.lt
        have o0 := O'.c0; have o1 := O'.c1; have ol := O'.lt; have of0 := O'.free 0; have of1 := O'.free 1
        have BB := Lib.hid B'
        clear B' D' O'
        go_wp2_with fail
        refine bodyPost_ret (v := .tuple #[.agg #[.int .i64 (-1000000000), .int .i64 mh], .int .i64 0]) ?_ rfl ⟨?_, ?_⟩
        · simp [results, Tryz.results31, go_sem, *]
        · rw [HL.out, HH.out]; rfl
        · have := HK.out
          exact (BB.out.setCell (p := ⟨k + 1, 0, none⟩) (by dsimp only; omega) _).setCell (p := ⟨k + 1, 1, none⟩) (by dsimp only; omega) _
    · have d0 := D.out.c0; have d1 := D.out.c1; have dl := D.out.lt; have df := D.out.free 1
      go_upto_region 8 with fail
      clear d0 d1 dl df c0 c1 cl
      have D' := D.out.set1 1000000000
      have A' := A.out.other (a := ⟨j, 1, none⟩) (by have := HLK.out; dsimp only; omega) (.int .i64 1000000000)
      have O' := O.out.other (a := ⟨j, 1, none⟩) (by have := HLK.out; dsimp only; omega) (.int .i64 1000000000)
      have B' := B.out.setCell (p := ⟨j, 1, none⟩) HLK.out.2 (.int .i64 1000000000)
      clear D A O B
      obtain ⟨U, hU⟩ : ∃ U, U = w2.setCell ⟨j, 1, none⟩ (.int .i64 1000000000) := ⟨_, rfl⟩
      rw [← hU] at D' A' O' B' ⊢
      clear hU
      have D := Lib.hid D'; have A := Lib.hid A'; have O := Lib.hid O'; have B := Lib.hid B'
      clear D' A' O' B'
      have c0 := A.out.c0; have c1 := A.out.c1; have cl := A.out.lt
      go_wp2_with fail
      refine Calls.mono (K2.out _) ?_
      rintro e w3 ⟨rfl, hb⟩
      cases q2
      · replace D := Lib.hid (D.out.below hb)
        replace O := Lib.hid (O.out.below hb)
        replace B := Lib.hid (B.out.trans (hb.mono B.out.size))
        clear hb c0 c1 cl K2 A
        have d0 := D.out.c0; have d1 := D.out.c1; have dl := D.out.lt
        have o0 := O.out.c0; have o1 := O.out.c1; have ol := O.out.lt; have of0 := O.out.free 0; have of1 := O.out.free 1
        have BB := Lib.hid B.out
        clear B
        go_wp2_with fail
        refine bodyPost_ret (v := .tuple #[.agg #[.int .i64 ml, .int .i64 1000000000], .int .i64 0]) ?_ rfl ⟨?_, ?_⟩
        · simp [results, Tryz.results31, go_sem, *]
        · rw [HL.out, HH.out]; rfl
        · have := HK.out
          exact (BB.out.setCell (p := ⟨k + 1, 0, none⟩) (by dsimp only; omega) _).setCell (p := ⟨k + 1, 1, none⟩) (by dsimp only; omega) _
      · replace D := Lib.hid (D.out.below hb)
        replace O := Lib.hid (O.out.below hb)
        replace B := Lib.hid (B.out.trans (hb.mono B.out.size))
        clear hb c0 c1 cl K2 A
        have d0 := D.out.c0; have d1 := D.out.c1; have dl := D.out.lt
        have df := D.out.free 0
        have o0 := O.out.c0; have o1 := O.out.c1; have ol := O.out.lt; have of0 := O.out.free 0; have of1 := O.out.free 1
        go_upto_region 10 with fail
        clear d0 d1 dl df o0 o1 ol of0 of1
        have D' := D.out.set0 (-1000000000)
        have O' := O.out.other (a := ⟨j, 0, none⟩) (by have := HLK.out; dsimp only; omega) (.int .i64 (-1000000000))
        have B' := B.out.setCell (p := ⟨j, 0, none⟩) HLK.out.2 (.int .i64 (-1000000000))
        obtain ⟨U, hU⟩ : ∃ U, U = w3.setCell ⟨j, 0, none⟩ (.int .i64 (-1000000000)) := ⟨_, rfl⟩
        rw [← hU] at D' O' B' ⊢
        clear hU D O B
        have d0 := D'.c0; have d1 := D'.c1; have dl := D'.lt
        have o0 := O'.c0; have o1 := O'.c1; have ol := O'.lt; have of0 := O'.free 0; have of1 := O'.free 1
        have BB := Lib.hid B'
        clear B' D' O'
        go_wp2_with fail
        refine bodyPost_ret (v := .tuple #[.agg #[.int .i64 (-1000000000), .int .i64 1000000000], .int .i64 0]) ?_ rfl ⟨?_, ?_⟩
        · simp [results, Tryz.results31, go_sem, *]
        · rw [HL.out, HH.out]; rfl
        · have := HK.out
          exact (BB.out.setCell (p := ⟨k + 1, 0, none⟩) (by dsimp only; omega) _).setCell (p := ⟨k + 1, 1, none⟩) (by dsimp only; omega) _
end Go.Proofs.YtcopmgnfakjdhaaGreatDoor
/- trig.CosOver, Times, Plus, Minus; place.clip. -/
namespace Go.Proofs.YtcopmgnfakjdhaaGreatDoor
open Go.RowKit
set_option linter.unusedSimpArgs false
set_option linter.unusedVariables false
/-- The span of the cosines over a span of angles. -/
def coLo (a b : Int) : Int := soLo (a % 1000000000 + 250000000) (a % 1000000000 + 250000000 + min (b - a) 2000000000)
def coHi (a b : Int) : Int := soHi (a % 1000000000 + 250000000) (a % 1000000000 + 250000000 + min (b - a) 2000000000)
set_option maxHeartbeats 2000000 in
theorem CosOver_ok (a b : Int) (w : World) (ht : SinT w) (h : IvOk a b) : Calls Tryz.prog 32 #[.agg #[.int .i64 a, .int .i64 b]] w fun e w' => e = .returned (.tuple #[.agg #[.int .i64 (coLo a b), .int .i64 (coHi a b)], .int .i64 0]) ∧ Below w.heap.size w w' := by
  obtain ⟨h1, h2, h3⟩ := id h
  have C := Lib.hid (fun w => check_ok a b w h)
  have M := Lib.hid (fun w => mod_all a 1000000000 w (by omega) (by omega) (by omega) (by omega))
  have S := Lib.hid (fun w ht => SinOver_ok (a % 1000000000 + 250000000) (a % 1000000000 + 250000000 + min (b - a) 2000000000) w ht ⟨by omega, by omega, by omega⟩)
  have hm : 0 ≤ a % 1000000000 ∧ a % 1000000000 < 1000000000 := by omega
  have HT := Lib.hid ht
  unfold coLo coHi
  generalize a % 1000000000 = m at *
  obtain ⟨l, hl⟩ : ∃ l, l = m + 250000000 := ⟨_, rfl⟩
  obtain ⟨d, hd⟩ : ∃ d, d = min (b - a) 2000000000 := ⟨_, rfl⟩
  rw [← hl, ← hd] at S ⊢
  obtain ⟨r, hr⟩ : ∃ r, r = l + d := ⟨_, rfl⟩
  rw [← hr] at S ⊢
  generalize soLo l r = lo at *
  generalize soHi l r = hi at *
  have w1 : wrap64 (m + 250000000) = l := by rw [hl]; exact IntWalk.wrap64_in _ (by omega)
  have w2 : wrap64 (b - a) = b - a := IntWalk.wrap64_in _ (by omega)
  have w3 : wrap64 (l + d) = r := by rw [hr]; exact IntWalk.wrap64_in _ (by omega)
  have e1 : min (b - a) 2000000000 = d := hd.symm
  clear hm hl hd hr h1 h2 h3 h ht
  go_enter Tryz.func32, Tryz.ntmps32
  go_wp2_with fail
  refine Calls.mono (C.out _) ?_
  rintro e w1 ⟨rfl, hb⟩
  obtain ⟨hb1, hz1, hc1, hf1⟩ := took (w := w) (by repeat' (first | (with_reducible refine below_drewN ?_ _) | go_grown)) (by first | (simp only [World.size_alloc, World.size_setCell, World.size_drew, size_drewN]; done) | (simp only [World.size_alloc, World.size_setCell, World.size_drew, size_drewN]; rfl) | rfl) hb; clear hb
  have z1 : w.heap.size < w1.heap.size := by omega
  have z1b : w.heap.size + 1 < w1.heap.size := by omega
  go_wp2_with fail
  refine Calls.mono (M.out _) ?_
  rintro e w2 ⟨rfl, hb⟩
  obtain ⟨hb2, hz2, hc2, hf2⟩ := took (w := w) (by repeat' (first | (with_reducible refine below_drewN ?_ _) | go_grown)) (by first | (simp only [World.size_alloc, World.size_setCell, World.size_drew, size_drewN]; done) | (simp only [World.size_alloc, World.size_setCell, World.size_drew, size_drewN]; rfl) | rfl) hb; clear hb
  have z2 : w.heap.size < w2.heap.size := by omega
  have z2b : w.heap.size + 1 < w2.heap.size := by omega
  have HT2 := HT.out.below hb2
  go_wp2_with fail
  refine Calls.mono (S.out _ HT2) ?_
  rintro e w3 ⟨rfl, hb⟩
  obtain ⟨hb3, hz3, hc3, hf3⟩ := took (w := w) (by repeat' (first | (with_reducible refine below_drewN ?_ _) | go_grown)) (by first | (simp only [World.size_alloc, World.size_setCell, World.size_drew, size_drewN]; done) | (simp only [World.size_alloc, World.size_setCell, World.size_drew, size_drewN]; rfl) | rfl) hb; clear hb
  have z3 : w.heap.size < w3.heap.size := by omega
  have z3b : w.heap.size + 1 < w3.heap.size := by omega
  go_wp2_with fail
  refine bodyPost_ret (v := .tuple #[.agg #[.int .i64 lo, .int .i64 hi], .int .i64 0]) ?_ rfl ⟨rfl, (by repeat' (first | (with_reducible refine below_drewN ?_ _) | go_grown))⟩
  simp [results, Tryz.results32, go_sem, *]
/-- Bounds for a product in the unit 1 / Turn. -/
structure TmsOk (a b c d : Int) : Prop where
  ab : a ≤ b
  cd : c ≤ d
  la : -1000000000 ≤ a
  lb : b ≤ 1000000000
  lc : -1000000000 ≤ c
  ld : d ≤ 1000000000
theorem TmsOk.mul {a b c d : Int} (h : TmsOk a b c d) : MulOk a b c d := mulOk_of h.la h.ab h.lb h.lc h.cd h.ld (by omega)
def tmLo (a b c d : Int) : Int := pLo a b c d 1000000000
def tmHi (a b c d : Int) : Int := pHi a b c d 1000000000
set_option maxHeartbeats 1000000 in
theorem Times_ok (a b c d : Int) (w : World) (h : MulOk a b c d) (h1 : -4000000000000000000 ≤ a ∧ a ≤ 4000000000000000000) (h2 : -4000000000000000000 ≤ b ∧ b ≤ 4000000000000000000) (h3 : -4000000000000000000 ≤ c ∧ c ≤ 4000000000000000000) (h4 : -4000000000000000000 ≤ d ∧ d ≤ 4000000000000000000) :
    Calls Tryz.prog 57 #[.agg #[.int .i64 a, .int .i64 b], .agg #[.int .i64 c, .int .i64 d]] w fun e w' => e = .returned (.agg #[.int .i64 (tmLo a b c d), .int .i64 (tmHi a b c d)]) ∧ Below w.heap.size w w' := by
  have P := Lib.hid (fun w => product_ok a b c d 1000000000 w (by omega) (by omega) h1 h2 h3 h4 h.p0 h.p1 h.p2 h.p3)
  have e1 : pLo a b c d ((1000000000 : Nat) : Int) = tmLo a b c d := rfl
  have e2 : pHi a b c d ((1000000000 : Nat) : Int) = tmHi a b c d := rfl
  rw [e1, e2] at P
  clear e1 e2
  generalize tmLo a b c d = lo at *
  generalize tmHi a b c d = hi at *
  have P' : Hid (∀ w, Calls Tryz.prog 91 #[.agg #[.int .i64 a, .int .i64 b], .agg #[.int .i64 c, .int .i64 d], .int .i64 1000000000] w fun e w' => e = .returned (.agg #[.int .i64 lo, .int .i64 hi]) ∧ Below w.heap.size w w') := P
  clear P h h1 h2 h3 h4
  go_enter Tryz.func57, Tryz.ntmps57
  go_wp2_with fail
  refine Calls.mono (P'.out _) ?_
  rintro e w1 ⟨rfl, hb⟩
  obtain ⟨hb1, hz1, hc1, hf1⟩ := took (w := w) (by repeat' (first | (with_reducible refine below_drewN ?_ _) | go_grown)) (by first | (simp only [World.size_alloc, World.size_setCell, World.size_drew, size_drewN]; done) | (simp only [World.size_alloc, World.size_setCell, World.size_drew, size_drewN]; rfl) | rfl) hb; clear hb
  have z1 : w.heap.size < w1.heap.size := by omega
  have z2 : w.heap.size + 1 < w1.heap.size := by omega
  have z3 : w.heap.size + 1 + 1 < w1.heap.size := by omega
  go_wp2_with fail
  refine bodyPost_ret (v := .agg #[.int .i64 lo, .int .i64 hi]) ?_ rfl ⟨rfl, (by repeat' (first | (with_reducible refine below_drewN ?_ _) | go_grown))⟩
  simp [results, Tryz.results57, go_sem, *]
set_option maxHeartbeats 1000000 in
theorem tPlus_ok (a b c d : Int) (w : World) (h1 : -4000000000000000000 ≤ a + c ∧ a + c ≤ 4000000000000000000) (h2 : -4000000000000000000 ≤ b + d ∧ b + d ≤ 4000000000000000000) :
    Calls Tryz.prog 53 #[.agg #[.int .i64 a, .int .i64 b], .agg #[.int .i64 c, .int .i64 d]] w fun e w' => e = .returned (.agg #[.int .i64 (a + c), .int .i64 (b + d)]) ∧ Below w.heap.size w w' := by
  have e1 : wrap64 (a + c) = a + c := IntWalk.wrap64_in _ (by omega)
  have e2 : wrap64 (b + d) = b + d := IntWalk.wrap64_in _ (by omega)
  clear h1 h2
  go_enter Tryz.func53, Tryz.ntmps53
  go_wp2_with fail
  refine bodyPost_ret (v := .agg #[.int .i64 (a + c), .int .i64 (b + d)]) ?_ rfl ⟨rfl, (by repeat' (first | (with_reducible refine below_drewN ?_ _) | go_grown))⟩
  simp [results, Tryz.results53, go_sem, *]
set_option maxHeartbeats 1000000 in
theorem tMinus_ok (a b c d : Int) (w : World) (h1 : -4000000000000000000 ≤ a - d ∧ a - d ≤ 4000000000000000000) (h2 : -4000000000000000000 ≤ b - c ∧ b - c ≤ 4000000000000000000) :
    Calls Tryz.prog 58 #[.agg #[.int .i64 a, .int .i64 b], .agg #[.int .i64 c, .int .i64 d]] w fun e w' => e = .returned (.agg #[.int .i64 (a - d), .int .i64 (b - c)]) ∧ Below w.heap.size w w' := by
  have e1 : wrap64 (a - d) = a - d := IntWalk.wrap64_in _ (by omega)
  have e2 : wrap64 (b - c) = b - c := IntWalk.wrap64_in _ (by omega)
  clear h1 h2
  go_enter Tryz.func58, Tryz.ntmps58
  go_wp2_with fail
  refine bodyPost_ret (v := .agg #[.int .i64 (a - d), .int .i64 (b - c)]) ?_ rfl ⟨rfl, (by repeat' (first | (with_reducible refine below_drewN ?_ _) | go_grown))⟩
  simp [results, Tryz.results58, go_sem, *]
end Go.Proofs.YtcopmgnfakjdhaaGreatDoor
/- Spans of sines, cosines and their products: bounds. Plain. -/
namespace Go.Proofs.YtcopmgnfakjdhaaGreatDoor
set_option linter.unusedSimpArgs false
set_option linter.unusedVariables false
theorem s_tms (a : Int) : -1000000000 ≤ sLo a ∧ sLo a ≤ sHi a ∧ sHi a ≤ 1000000000 := by
  have h := sine_in a; exact ⟨h.bl, h.le, h.bh⟩
theorem c_tms (a : Int) : -1000000000 ≤ cLo a ∧ cLo a ≤ cHi a ∧ cHi a ≤ 1000000000 := by unfold cLo cHi; exact s_tms _
theorem so_tms (a b : Int) : -1000000000 ≤ soLo a b ∧ soLo a b ≤ soHi a b ∧ soHi a b ≤ 1000000000 := by
  have h := s_tms a; have g := s_tms b
  unfold soLo soHi
  split <;> split <;> omega
theorem co_tms (a b : Int) : -1000000000 ≤ coLo a b ∧ coLo a b ≤ coHi a b ∧ coHi a b ≤ 1000000000 := by unfold coLo coHi; exact so_tms _ _
theorem tms_of {a b c d : Int} (h : -1000000000 ≤ a ∧ a ≤ b ∧ b ≤ 1000000000) (g : -1000000000 ≤ c ∧ c ≤ d ∧ d ≤ 1000000000) : TmsOk a b c d := ⟨h.2.1, g.2.1, h.1, h.2.2, g.1, g.2.2⟩
theorem div_bd9 {x : Int} (h1 : -1000000000000000000 ≤ x) (h2 : x ≤ 1000000000000000000) : -1000000000 ≤ x / 1000000000 ∧ x / 1000000000 ≤ upQ x 1000000000 ∧ upQ x 1000000000 ≤ 1000000000 := by unfold upQ; omega
theorem tm_tms {a b c d : Int} (h : TmsOk a b c d) : -1000000000 ≤ tmLo a b c d ∧ tmLo a b c d ≤ tmHi a b c d ∧ tmHi a b c d ≤ 1000000000 := by
  obtain ⟨h1, h2, h3, h4, h5, h6⟩ := h
  have p0 := mul_bound h3 (show a ≤ 1000000000 by omega) h5 (show c ≤ 1000000000 by omega)
  have p1 := mul_bound h3 (show a ≤ 1000000000 by omega) (show -1000000000 ≤ d by omega) h6
  have p2 := mul_bound (show -1000000000 ≤ b by omega) h4 h5 (show c ≤ 1000000000 by omega)
  have p3 := mul_bound (show -1000000000 ≤ b by omega) h4 (show -1000000000 ≤ d by omega) h6
  have q0 := div_bd9 (x := a * c) (by omega) (by omega)
  have q1 := div_bd9 (x := a * d) (by omega) (by omega)
  have q2 := div_bd9 (x := b * c) (by omega) (by omega)
  have q3 := div_bd9 (x := b * d) (by omega) (by omega)
  unfold tmLo tmHi pLo pHi
  generalize a * c / 1000000000 = x0 at *
  generalize a * d / 1000000000 = x1 at *
  generalize b * c / 1000000000 = x2 at *
  generalize b * d / 1000000000 = x3 at *
  generalize upQ (a * c) 1000000000 = y0 at *
  generalize upQ (a * d) 1000000000 = y1 at *
  generalize upQ (b * c) 1000000000 = y2 at *
  generalize upQ (b * d) 1000000000 = y3 at *
  omega
end Go.Proofs.YtcopmgnfakjdhaaGreatDoor
