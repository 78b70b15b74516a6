/- FigureShifts, the walk: the corners of the rectangle move with the figure. (Printed by tools/gen-shifts.py out of XFigureShifts.head.) -/
import Derived.Test.YtbehickhaidliaaDoorFigWorks
import Derived.Test.YtbehickhaidliaaDoorBoxN
import Derived.Test.YtbehickhaidliaaDoorShiftLaw
import Derived.Deep.DeepCutAuto
import Derived.Deep.CutRange
namespace Go.Proofs.YtbehickhaidliaaDoor
open Go.RowKit
set_option linter.unusedSimpArgs false
set_option linter.unusedVariables false

def shM (c d : Int) : Nat → Int := fun j => match j with | 0 => 1 | 1 => 0 | 2 => c | 3 => 0 | 4 => 1 | _ => d
set_option maxRecDepth 100000 in
set_option maxHeartbeats 40000000 in
theorem figureShifts_walk (A1 : Option Addr) (n1 c1 : Nat) (xs : List Int) (A2 : Option Addr) (n2 c2 : Nat) (ys : List Int) (c0 d0 : Int) (w : World) (hr : Rd w) (h1 : FlatSl w 1 A1 n1 c1 xs) (h2 : FlatSl w 1 A2 n2 c2 ys) :
    Calls Tryd.prog 4 #[.slice A1 n1 c1, .slice A2 n2 c2, .int .i64 c0, .int .i64 d0] w fun e w' => e = .returned (.bool true) ∧ Below w.heap.size w w' := by
  have HR := Lib.hid hr; have H1 := Lib.hid h1; have H2 := Lib.hid h2
  obtain ⟨N, hN⟩ : ∃ N, N = shN n1 n2 := ⟨_, rfl⟩
  have HN := Lib.hid hN
  have hs : ∀ W, Below w.heap.size w W → Calls Tryd.prog 7 #[.slice A1 n1 c1, .slice A2 n2 c2] W (ShapePost xs ys N W) := fun W hb => by rw [hN]; exact shape_ok A1 n1 c1 xs A2 n2 c2 ys W (H1.out.stay (by omega) hb) (H2.out.stay (by omega) hb)
  have HSH := Lib.hid hs
  obtain ⟨c, hc⟩ : ∃ c, c = c0.tmod 1000 := ⟨_, rfl⟩
  obtain ⟨d, hd⟩ : ∃ c, c = d0.tmod 1000 := ⟨_, rfl⟩
  have cb : -999 ≤ c ∧ c ≤ 999 := by rw [hc]; have := tmod_lim c0; omega
  have db : -999 ≤ d ∧ d ≤ 999 := by rw [hd]; have := tmod_lim d0; omega
  have CB := Lib.hid cb; have DB := Lib.hid db
  clear hr h1 h2 hN hs cb db
  go_enter Tryd.func4, Tryd.ntmps4
  go_wp2_with fail
  refine Calls.mono (figureWorks_ok _ HR.out) ?_
  rintro er w1 ⟨rfl, hb⟩
  have Hb1 := Lib.hid hb
  clear hb
  go_wp2_with fail
  refine Calls.mono (HSH.out _ Hb1.out) ?_
  rintro er w2 ⟨A, cA, B, m, bc, rfl, hF, hm, hb⟩
  have HF := Lib.hid hF; have Hb2 := Lib.hid (Hb1.out.trans (hb.mono Hb1.out.size)); have HM := Lib.hid hm
  clear hF hb Hb1 hm
  go_upto_region 5 with fail
  rw [← hc, ← hd]
  have HCD := Lib.hid (And.intro hc hd)
  clear hc hd
  obtain ⟨kf, hkf⟩ : ∃ b, b = w2.heap.size := ⟨_, rfl⟩
  obtain ⟨V, hV⟩ : ∃ V, V = w2.alloc (.cells #[.slice A N cA, .slice B m bc] 27) := ⟨_, rfl⟩
  have bV : Below w2.heap.size w2 V := by rw [hV]; exact (Below.refl _ _).alloc (Nat.le_refl _) _
  have hG := FgBox.new w2 (.slice A N cA) (.slice B m bc)
  rw [← hV, ← hkf] at hG ⊢
  have HG := Lib.hid hG; have HFV := Lib.hid (HF.out.below bV); have HbV := Lib.hid (Hb2.out.trans (bV.mono Hb2.out.size))
  clear hG hV hkf bV HF Hb2
  have hmap : ∀ W, FigW W A N cA (shNums xs ys N) B m bc → Calls Tryd.prog 8 #[.agg #[.slice A N cA, .slice B m bc], .agg #[.int .i64 1, .int .i64 1, .int .i64 0, .int .i64 1, .int .i64 c, .int .i64 1, .int .i64 0, .int .i64 1, .int .i64 1, .int .i64 1, .int .i64 d, .int .i64 1]] W (MapPost N m (fun i => shX xs i + c) (fun i => shX ys i + d) W) := fun W hW => by
    have h := fMapped_ok A N cA (shNums xs ys N) B m bc (shX xs) (shX ys) (shM c d) W hW (ptNums_at _ _ _) (fun j hj => by
      match j, hj with
      | 0, _ => exact frOk_one (n := 1) (by decide) (by decide)
      | 1, _ => exact frOk_one (n := 0) (by decide) (by decide)
      | 2, _ => exact frOk_one (n := c) (by have := CB.out; omega) (by have := CB.out; omega)
      | 3, _ => exact frOk_one (n := 0) (by decide) (by decide)
      | 4, _ => exact frOk_one (n := 1) (by decide) (by decide)
      | 5, _ => exact frOk_one (n := d) (by have := DB.out; omega) (by have := DB.out; omega))
      (fun i _ => mapOk_of (A := 1) (B := 1) (P := 999) (Q := 999) (by show -1 ≤ (1 : Int) ∧ (1 : Int) ≤ 1; omega) (by show -1 ≤ (0 : Int) ∧ (0 : Int) ≤ 1; omega) (by show _ ≤ c ∧ c ≤ _; have := CB.out; omega) (shX_bnd xs i) (shX_bnd ys i) (by omega) (by omega) (by omega) (by omega))
      (fun i _ => mapOk_of (A := 1) (B := 1) (P := 999) (Q := 999) (by show -1 ≤ (0 : Int) ∧ (0 : Int) ≤ 1; omega) (by show -1 ≤ (1 : Int) ∧ (1 : Int) ≤ 1; omega) (by show _ ≤ d ∧ d ≤ _; have := DB.out; omega) (shX_bnd xs i) (shX_bnd ys i) (by omega) (by omega) (by omega) (by omega))
    have e1 : (fun i => mapC (shM c d 0) (shM c d 1) (shM c d 2) (shX xs i) (shX ys i)) = fun i => shX xs i + c := funext fun i => by show 1 * shX xs i + 0 * shX ys i + c = _; omega
    have e2 : (fun i => mapC (shM c d 3) (shM c d 4) (shM c d 5) (shX xs i) (shX ys i)) = fun i => shX ys i + d := funext fun i => by show 0 * shX xs i + 1 * shX ys i + d = _; omega
    rw [e1, e2] at h
    exact h
  have HMAP := Lib.hid hmap
  clear hmap
  obtain ⟨X, hX⟩ : ∃ X, X = V.drew := ⟨_, rfl⟩
  have bX := Lib.hid (show Below V.heap.size V X by rw [hX]; exact (Below.refl _ _).drew)
  have HhX := Lib.hid hX
  clear hX
  go_cut [10, 11] (fun p e wx => ∃ b A' c' B' bc', p = .pointer (some ⟨b, 0, none⟩) ∧ e = .int .i64 0 ∧ V.heap.size ≤ b ∧ FgBox wx b (.slice A' N c') (.slice B' m bc') ∧ FigW wx A' N c' (ptNums (fun i => shX xs i + c) (fun i => shX ys i + d) N) B' m bc' ∧ Below V.heap.size V wx)
  case first =>
    have hf : FgBox X kf (.slice A N cA) (.slice B m bc) ∧ Below V.heap.size V X := ⟨HG.out.below bX.out, bX.out⟩
    refine wp_region_G [(10, fun w' => FgBox w' kf (.slice A N cA) (.slice B m bc)), (16, fun _ => True)] (by kernel_rfl) (heldC_two (fun _ => by rw [← HhX.out]; exact hf.1) (fun _ => trivial)) (fun hF => ?_)
    rw [← HhX.out] at hF ⊢
    refine wpG_take (oi := ?oi25) (v := ?vv25) 0 _ ?hi25 (List.Mem.head _) ?hc25 ?hQ25 hF ?hw25 ?hy25 (fun hF => ?hh25)
    case hi25 => (simp only [List.getElem?_toArray, List.getElem?_cons_succ, List.getElem?_cons_zero]; rfl)
    case hc25 => kernel_rfl
    case hQ25 => exact fun _ _ _ h => h
    case hw25 => rfl
    case hy25 => (intro wz hz; have z0 := hz.c0; have z1 := hz.c1; go_simp; try (with_reducible rfl))
    try simp only [Act.put, List.setIfInBounds_toArray, List.set_cons_zero, List.set_cons_succ]
    refine wpG_takeC (oi := ?oi26) (v := ?vv26) 3 _ [9,4] ?hi26 (List.Mem.head _) ?hc26 ?hQ26 hF ?hw26 ?hy26 (fun hF => ?hh26)
    case hi26 => (simp only [List.getElem?_toArray, List.getElem?_cons_succ, List.getElem?_cons_zero]; rfl)
    case hc26 => kernel_rfl
    case hQ26 => exact fun _ _ _ h => h
    case hw26 => rfl
    case hy26 => (intro wz hz; skip; go_simp; try (with_reducible rfl))
    try simp only [Act.put, List.setIfInBounds_toArray, List.set_cons_zero, List.set_cons_succ]
    refine wpG_takeC (oi := ?oi27) (v := ?vv27) 7 _ [8] ?hi27 (List.Mem.head _) ?hc27 ?hQ27 hF ?hw27 ?hy27 (fun hF => ?hh27)
    case hi27 => (simp only [List.getElem?_toArray, List.getElem?_cons_succ, List.getElem?_cons_zero]; rfl)
    case hc27 => kernel_rfl
    case hQ27 => exact fun _ _ _ h => h
    case hw27 => rfl
    case hy27 => (intro wz hz; skip; go_simp; try (with_reducible rfl))
    try simp only [Act.put, List.setIfInBounds_toArray, List.set_cons_zero, List.set_cons_succ]
    refine wpG_ready (rs := [1, 14]) (by kernel_rfl) (by simp) ?_
    refine all_two ?_ ?_
    · skip
      refine wpOp_hand (oi := ?oi28) ?hi28 (fun K hK => ?hh28)
      case hi28 => (simp only [List.getElem?_toArray, List.getElem?_cons_succ, List.getElem?_cons_zero]; rfl)
      go_simp
      refine Calls.mono (whole_ok _ _) ?_
      rintro e wq ⟨rfl, hb⟩
      have hfn : FgBox wq kf (.slice A N cA) (.slice B m bc) ∧ Below V.heap.size V wq := ⟨hf.1.below hb, hf.2.trans (hb.mono hf.2.size)⟩
      clear hf
      have hf := hfn
      clear hfn
      clear hb
      refine hK.out _ _ (heldC_two (fun _ => hf.1) (fun _ => trivial)) (fun hF => ?_)
      clear hK K
      try simp only [Act.put, List.setIfInBounds_toArray, List.set_cons_zero, List.set_cons_succ]
      refine wpG_ready (rs := [2, 14]) (by kernel_rfl) (by simp) ?_
      refine all_two ?_ ?_
      · skip
        refine wpOp_hand (oi := ?oi29) ?hi29 (fun K hK => ?hh29)
        case hi29 => (simp only [List.getElem?_toArray, List.getElem?_cons_succ, List.getElem?_cons_zero]; rfl)
        go_simp
        refine Calls.mono (whole_ok _ _) ?_
        rintro e wq ⟨rfl, hb⟩
        have hfn : FgBox wq kf (.slice A N cA) (.slice B m bc) ∧ Below V.heap.size V wq := ⟨hf.1.below hb, hf.2.trans (hb.mono hf.2.size)⟩
        clear hf
        have hf := hfn
        clear hfn
        clear hb
        refine hK.out _ _ (heldC_two (fun _ => hf.1) (fun _ => trivial)) (fun hF => ?_)
        clear hK K
        try simp only [Act.put, List.setIfInBounds_toArray, List.set_cons_zero, List.set_cons_succ]
        refine wpG_ready (rs := [4, 14]) (by kernel_rfl) (by simp) ?_
        refine all_two ?_ ?_
        · skip
          refine wpOp_hand (oi := ?oi30) ?hi30 (fun K hK => ?hh30)
          case hi30 => (simp only [List.getElem?_toArray, List.getElem?_cons_succ, List.getElem?_cons_zero]; rfl)
          go_simp
          refine Calls.mono (whole_ok _ _) ?_
          rintro e wq ⟨rfl, hb⟩
          have hfn : FgBox wq kf (.slice A N cA) (.slice B m bc) ∧ Below V.heap.size V wq := ⟨hf.1.below hb, hf.2.trans (hb.mono hf.2.size)⟩
          clear hf
          have hf := hfn
          clear hfn
          clear hb
          refine hK.out _ _ (heldC_two (fun _ => hf.1) (fun _ => trivial)) (fun hF => ?_)
          clear hK K
          try simp only [Act.put, List.setIfInBounds_toArray, List.set_cons_zero, List.set_cons_succ]
          refine wpG_ready (rs := [5, 14]) (by kernel_rfl) (by simp) ?_
          refine all_two ?_ ?_
          · skip
            refine wpOp_hand (oi := ?oi31) ?hi31 (fun K hK => ?hh31)
            case hi31 => (simp only [List.getElem?_toArray, List.getElem?_cons_succ, List.getElem?_cons_zero]; rfl)
            go_simp
            refine Calls.mono (whole_ok _ _) ?_
            rintro e wq ⟨rfl, hb⟩
            have hfn : FgBox wq kf (.slice A N cA) (.slice B m bc) ∧ Below V.heap.size V wq := ⟨hf.1.below hb, hf.2.trans (hb.mono hf.2.size)⟩
            clear hf
            have hf := hfn
            clear hfn
            clear hb
            refine hK.out _ _ (heldC_two (fun _ => hf.1) (fun _ => trivial)) (fun hF => ?_)
            clear hK K
            try simp only [Act.put, List.setIfInBounds_toArray, List.set_cons_zero, List.set_cons_succ]
            refine wpG_ready (rs := [6, 14]) (by kernel_rfl) (by simp) ?_
            refine all_two ?_ ?_
            · skip
              refine wpOp_hand (oi := ?oi32) ?hi32 (fun K hK => ?hh32)
              case hi32 => (simp only [List.getElem?_toArray, List.getElem?_cons_succ, List.getElem?_cons_zero]; rfl)
              go_simp
              refine Calls.mono (whole_ok _ _) ?_
              rintro e wq ⟨rfl, hb⟩
              have hfn : FgBox wq kf (.slice A N cA) (.slice B m bc) ∧ Below V.heap.size V wq := ⟨hf.1.below hb, hf.2.trans (hb.mono hf.2.size)⟩
              clear hf
              have hf := hfn
              clear hfn
              clear hb
              refine hK.out _ _ (heldC_two (fun _ => hf.1) (fun _ => trivial)) (fun hF => ?_)
              clear hK K
              try simp only [Act.put, List.setIfInBounds_toArray, List.set_cons_zero, List.set_cons_succ]
              refine wpG_ready (rs := [8, 14]) (by kernel_rfl) (by simp) ?_
              refine all_two ?_ ?_
              · skip
                refine wpOp_hand (oi := ?oi33) ?hi33 (fun K hK => ?hh33)
                case hi33 => (simp only [List.getElem?_toArray, List.getElem?_cons_succ, List.getElem?_cons_zero]; rfl)
                go_simp
                refine Calls.mono (whole_ok _ _) ?_
                rintro e wq ⟨rfl, hb⟩
                have hfn : FgBox wq kf (.slice A N cA) (.slice B m bc) ∧ Below V.heap.size V wq := ⟨hf.1.below hb, hf.2.trans (hb.mono hf.2.size)⟩
                clear hf
                have hf := hfn
                clear hfn
                clear hb
                refine hK.out _ _ (heldC_two (fun _ => hf.1) (fun _ => trivial)) (fun hF => ?_)
                clear hK K
                try simp only [Act.put, List.setIfInBounds_toArray, List.set_cons_zero, List.set_cons_succ]
                refine wpG_take (oi := ?oi34) (v := ?vv34) 9 _ ?hi34 (List.Mem.head _) ?hc34 ?hQ34 hF ?hw34 ?hy34 (fun hF => ?hh34)
                case hi34 => (simp only [List.getElem?_toArray, List.getElem?_cons_succ, List.getElem?_cons_zero]; rfl)
                case hc34 => kernel_rfl
                case hQ34 => exact fun _ _ _ h => h
                case hw34 => rfl
                case hy34 => (intro wz hz; skip; go_simp; try (with_reducible rfl))
                try simp only [Act.put, List.setIfInBounds_toArray, List.set_cons_zero, List.set_cons_succ]
                refine wpG_ready (rs := [10, 14]) (by kernel_rfl) (by simp) ?_
                refine all_two ?_ ?_
                · skip
                  refine wpOp_hand (oi := ?oi35) ?hi35 (fun K hK => ?hh35)
                  case hi35 => (simp only [List.getElem?_toArray, List.getElem?_cons_succ, List.getElem?_cons_zero]; rfl)
                  go_simp
                  refine Calls.mono (HMAP.out _ (HFV.out.below hf.2)) ?_
                  rintro e wq ⟨Am, cm, Bm, bm, rfl, hG, hb⟩
                  have hfn : FgBox wq kf (.slice A N cA) (.slice B m bc) ∧ Below V.heap.size V wq := ⟨hf.1.below hb, hf.2.trans (hb.mono hf.2.size)⟩
                  clear hf
                  have hf := hfn
                  clear hfn
                  clear hb
                  refine hK.out _ _ (heldC_two (fun h => absurd h (by simp)) (fun _ => trivial)) (fun hF => ?_)
                  clear hK K
                  try simp only [Act.put, List.setIfInBounds_toArray, List.set_cons_zero, List.set_cons_succ]
                  refine wpG_take (oi := ?oi36) (v := ?vv36) 11 _ ?hi36 (List.Mem.tail _ (List.Mem.head _)) ?hc36 ?hQ36 hF ?hw36 ?hy36 (fun hF => ?hh36)
                  case hi36 => (simp only [List.getElem?_toArray, List.getElem?_cons_succ, List.getElem?_cons_zero]; rfl)
                  case hc36 => kernel_rfl
                  case hQ36 => exact fun _ _ _ h => h
                  case hw36 => rfl
                  case hy36 => (intro wz hz; skip; go_simp; try (with_reducible rfl))
                  try simp only [Act.put, List.setIfInBounds_toArray, List.set_cons_zero, List.set_cons_succ]
                  refine wpG_take (oi := ?oi37) (v := ?vv37) 12 _ ?hi37 (List.Mem.tail _ (List.Mem.head _)) ?hc37 ?hQ37 hF ?hw37 ?hy37 (fun hF => ?hh37)
                  case hi37 => (simp only [List.getElem?_toArray, List.getElem?_cons_succ, List.getElem?_cons_zero]; rfl)
                  case hc37 => kernel_rfl
                  case hQ37 => exact fun _ _ _ h => h
                  case hw37 => rfl
                  case hy37 => (intro wz hz; skip; go_simp; try (with_reducible rfl))
                  try simp only [Act.put, List.setIfInBounds_toArray, List.set_cons_zero, List.set_cons_succ]
                  refine wpG_take (oi := ?oi38) (v := ?vv38) 13 _ ?hi38 (List.Mem.tail _ (List.Mem.head _)) ?hc38 ?hQ38 hF ?hw38 ?hy38 (fun hF => ?hh38)
                  case hi38 => (simp only [List.getElem?_toArray, List.getElem?_cons_succ, List.getElem?_cons_zero]; rfl)
                  case hc38 => kernel_rfl
                  case hQ38 => exact fun _ _ _ h => h
                  case hw38 => rfl
                  case hy38 => (intro wz hz; skip; go_simp; try (with_reducible rfl))
                  try simp only [Act.put, List.setIfInBounds_toArray, List.set_cons_zero, List.set_cons_succ]
                  refine wpG_ready (rs := [14]) (by kernel_rfl) (by simp) ?_
                  refine all_one ?_
                  refine wpOp_hand (oi := ?oi39) ?hi39 (fun K hK => ?hh39)
                  case hi39 => (simp only [List.getElem?_toArray, List.getElem?_cons_succ, List.getElem?_cons_zero]; rfl)
                  go_simp
                  have hN := FgBox.new wq (.slice none 0 0) (.slice none 0 0)
                  obtain ⟨kb, hkb⟩ : ∃ b, b = wq.heap.size := ⟨_, rfl⟩
                  obtain ⟨Y, hY⟩ : ∃ Y, Y = wq.alloc (.cells #[.slice none 0 0, .slice none 0 0] 27) := ⟨_, rfl⟩
                  have bY : Below wq.heap.size wq Y := by rw [hY]; exact (Below.refl _ _).alloc (Nat.le_refl _) _
                  have hs3 : V.heap.size ≤ kb := by rw [hkb]; exact hf.2.size
                  rw [← hY, ← hkb] at hN ⊢
                  have hfn : FgBox Y kf (.slice A N cA) (.slice B m bc) ∧ Below V.heap.size V Y := ⟨hf.1.below bY, hf.2.trans (bY.mono hf.2.size)⟩
                  have hGn := hG.below bY
                  clear hG
                  have hG := hGn
                  clear hGn
                  clear hf
                  have hf := hfn
                  clear hfn
                  clear bY hY hkb
                  refine hK.out _ _ (heldC_two (fun h => absurd h (by simp)) (fun _ => trivial)) (fun hF => ?_)
                  clear hK K
                  try simp only [Act.put, List.setIfInBounds_toArray, List.set_cons_zero, List.set_cons_succ]
                  refine wpG_ready (rs := [15]) (by kernel_rfl) (by simp) ?_
                  refine all_one ?_
                  have f0 := hN.c0; have f1 := hN.c1; have f2 := hN.free 0; have f3 := hN.free 1; have f4 := hN.lt
                  refine wpOp_hand (oi := ?oi40) ?hi40 (fun K hK => ?hh40)
                  case hi40 => (simp only [List.getElem?_toArray, List.getElem?_cons_succ, List.getElem?_cons_zero]; rfl)
                  go_simp
                  refine hK.out _ _ (heldC_two (fun h => absurd h (by simp)) (fun _ => trivial)) (fun hF => ?_)
                  clear hK K
                  try simp only [Act.put, List.setIfInBounds_toArray, List.set_cons_zero, List.set_cons_succ]
                  refine wpG_ready (rs := [16]) (by kernel_rfl) (by simp) ?_
                  refine all_one ?_
                  refine wpOp_hand (oi := ?oi41) ?hi41 (fun K hK => ?hh41)
                  case hi41 => (simp only [List.getElem?_toArray, List.getElem?_cons_succ, List.getElem?_cons_zero]; rfl)
                  go_simp
                  refine hK.out _ _ (heldC_two (fun h => absurd h (by simp)) (fun h => absurd h (by simp))) (fun hF => ?_)
                  clear hK K
                  try simp only [Act.put, List.setIfInBounds_toArray, List.set_cons_zero, List.set_cons_succ]
                  refine wpG_done (by kernel_rfl) ?_ _
                  clear f0 f1 f2 f3 f4
                  go_wp2_with fail
                  go_meet
                  exact ⟨kb, Am, cm, Bm, bm, rfl, rfl, hs3, hN.set _ _, figW_set hG hN _ _, (hf.2.setCell (p := ⟨kb, 0, none⟩) hs3 _).setCell (p := ⟨kb, 1, none⟩) hs3 _⟩
                · skip
                  refine wpOp_hand (oi := ?oi42) ?hi42 (fun K hK => ?hh42)
                  case hi42 => (simp only [List.getElem?_toArray, List.getElem?_cons_succ, List.getElem?_cons_zero]; rfl)
                  go_simp
                  have hN := FgBox.new wq (.slice none 0 0) (.slice none 0 0)
                  obtain ⟨kb, hkb⟩ : ∃ b, b = wq.heap.size := ⟨_, rfl⟩
                  obtain ⟨Y, hY⟩ : ∃ Y, Y = wq.alloc (.cells #[.slice none 0 0, .slice none 0 0] 27) := ⟨_, rfl⟩
                  have bY : Below wq.heap.size wq Y := by rw [hY]; exact (Below.refl _ _).alloc (Nat.le_refl _) _
                  have hs3 : V.heap.size ≤ kb := by rw [hkb]; exact hf.2.size
                  rw [← hY, ← hkb] at hN ⊢
                  have hfn : FgBox Y kf (.slice A N cA) (.slice B m bc) ∧ Below V.heap.size V Y := ⟨hf.1.below bY, hf.2.trans (bY.mono hf.2.size)⟩
                  clear hf
                  have hf := hfn
                  clear hfn
                  clear bY hY hkb
                  refine hK.out _ _ (heldC_two (fun _ => hf.1) (fun _ => trivial)) (fun hF => ?_)
                  clear hK K
                  try simp only [Act.put, List.setIfInBounds_toArray, List.set_cons_zero, List.set_cons_succ]
                  refine wpG_ready (rs := [10]) (by kernel_rfl) (by simp) ?_
                  refine all_one ?_
                  refine wpOp_hand (oi := ?oi43) ?hi43 (fun K hK => ?hh43)
                  case hi43 => (simp only [List.getElem?_toArray, List.getElem?_cons_succ, List.getElem?_cons_zero]; rfl)
                  go_simp
                  refine Calls.mono (HMAP.out _ (HFV.out.below hf.2)) ?_
                  rintro e wq ⟨Am, cm, Bm, bm, rfl, hG, hb⟩
                  have hfn : FgBox wq kf (.slice A N cA) (.slice B m bc) ∧ Below V.heap.size V wq := ⟨hf.1.below hb, hf.2.trans (hb.mono hf.2.size)⟩
                  have hNn := hN.below hb
                  clear hN
                  have hN := hNn
                  clear hNn
                  clear hf
                  have hf := hfn
                  clear hfn
                  clear hb
                  refine hK.out _ _ (heldC_two (fun h => absurd h (by simp)) (fun _ => trivial)) (fun hF => ?_)
                  clear hK K
                  try simp only [Act.put, List.setIfInBounds_toArray, List.set_cons_zero, List.set_cons_succ]
                  refine wpG_take (oi := ?oi44) (v := ?vv44) 11 _ ?hi44 (List.Mem.tail _ (List.Mem.head _)) ?hc44 ?hQ44 hF ?hw44 ?hy44 (fun hF => ?hh44)
                  case hi44 => (simp only [List.getElem?_toArray, List.getElem?_cons_succ, List.getElem?_cons_zero]; rfl)
                  case hc44 => kernel_rfl
                  case hQ44 => exact fun _ _ _ h => h
                  case hw44 => rfl
                  case hy44 => (intro wz hz; skip; go_simp; try (with_reducible rfl))
                  try simp only [Act.put, List.setIfInBounds_toArray, List.set_cons_zero, List.set_cons_succ]
                  refine wpG_take (oi := ?oi45) (v := ?vv45) 12 _ ?hi45 (List.Mem.tail _ (List.Mem.head _)) ?hc45 ?hQ45 hF ?hw45 ?hy45 (fun hF => ?hh45)
                  case hi45 => (simp only [List.getElem?_toArray, List.getElem?_cons_succ, List.getElem?_cons_zero]; rfl)
                  case hc45 => kernel_rfl
                  case hQ45 => exact fun _ _ _ h => h
                  case hw45 => rfl
                  case hy45 => (intro wz hz; skip; go_simp; try (with_reducible rfl))
                  try simp only [Act.put, List.setIfInBounds_toArray, List.set_cons_zero, List.set_cons_succ]
                  refine wpG_take (oi := ?oi46) (v := ?vv46) 13 _ ?hi46 (List.Mem.tail _ (List.Mem.head _)) ?hc46 ?hQ46 hF ?hw46 ?hy46 (fun hF => ?hh46)
                  case hi46 => (simp only [List.getElem?_toArray, List.getElem?_cons_succ, List.getElem?_cons_zero]; rfl)
                  case hc46 => kernel_rfl
                  case hQ46 => exact fun _ _ _ h => h
                  case hw46 => rfl
                  case hy46 => (intro wz hz; skip; go_simp; try (with_reducible rfl))
                  try simp only [Act.put, List.setIfInBounds_toArray, List.set_cons_zero, List.set_cons_succ]
                  refine wpG_ready (rs := [15]) (by kernel_rfl) (by simp) ?_
                  refine all_one ?_
                  have f0 := hN.c0; have f1 := hN.c1; have f2 := hN.free 0; have f3 := hN.free 1; have f4 := hN.lt
                  refine wpOp_hand (oi := ?oi47) ?hi47 (fun K hK => ?hh47)
                  case hi47 => (simp only [List.getElem?_toArray, List.getElem?_cons_succ, List.getElem?_cons_zero]; rfl)
                  go_simp
                  refine hK.out _ _ (heldC_two (fun h => absurd h (by simp)) (fun _ => trivial)) (fun hF => ?_)
                  clear hK K
                  try simp only [Act.put, List.setIfInBounds_toArray, List.set_cons_zero, List.set_cons_succ]
                  refine wpG_ready (rs := [16]) (by kernel_rfl) (by simp) ?_
                  refine all_one ?_
                  refine wpOp_hand (oi := ?oi48) ?hi48 (fun K hK => ?hh48)
                  case hi48 => (simp only [List.getElem?_toArray, List.getElem?_cons_succ, List.getElem?_cons_zero]; rfl)
                  go_simp
                  refine hK.out _ _ (heldC_two (fun h => absurd h (by simp)) (fun h => absurd h (by simp))) (fun hF => ?_)
                  clear hK K
                  try simp only [Act.put, List.setIfInBounds_toArray, List.set_cons_zero, List.set_cons_succ]
                  refine wpG_done (by kernel_rfl) ?_ _
                  clear f0 f1 f2 f3 f4
                  go_wp2_with fail
                  go_meet
                  exact ⟨kb, Am, cm, Bm, bm, rfl, rfl, hs3, hN.set _ _, figW_set hG hN _ _, (hf.2.setCell (p := ⟨kb, 0, none⟩) hs3 _).setCell (p := ⟨kb, 1, none⟩) hs3 _⟩
              · skip
                refine wpOp_hand (oi := ?oi49) ?hi49 (fun K hK => ?hh49)
                case hi49 => (simp only [List.getElem?_toArray, List.getElem?_cons_succ, List.getElem?_cons_zero]; rfl)
                go_simp
                have hN := FgBox.new wq (.slice none 0 0) (.slice none 0 0)
                obtain ⟨kb, hkb⟩ : ∃ b, b = wq.heap.size := ⟨_, rfl⟩
                obtain ⟨Y, hY⟩ : ∃ Y, Y = wq.alloc (.cells #[.slice none 0 0, .slice none 0 0] 27) := ⟨_, rfl⟩
                have bY : Below wq.heap.size wq Y := by rw [hY]; exact (Below.refl _ _).alloc (Nat.le_refl _) _
                have hs3 : V.heap.size ≤ kb := by rw [hkb]; exact hf.2.size
                rw [← hY, ← hkb] at hN ⊢
                have hfn : FgBox Y kf (.slice A N cA) (.slice B m bc) ∧ Below V.heap.size V Y := ⟨hf.1.below bY, hf.2.trans (bY.mono hf.2.size)⟩
                clear hf
                have hf := hfn
                clear hfn
                clear bY hY hkb
                refine hK.out _ _ (heldC_two (fun _ => hf.1) (fun _ => trivial)) (fun hF => ?_)
                clear hK K
                try simp only [Act.put, List.setIfInBounds_toArray, List.set_cons_zero, List.set_cons_succ]
                refine wpG_ready (rs := [8]) (by kernel_rfl) (by simp) ?_
                refine all_one ?_
                refine wpOp_hand (oi := ?oi50) ?hi50 (fun K hK => ?hh50)
                case hi50 => (simp only [List.getElem?_toArray, List.getElem?_cons_succ, List.getElem?_cons_zero]; rfl)
                go_simp
                refine Calls.mono (whole_ok _ _) ?_
                rintro e wq ⟨rfl, hb⟩
                have hfn : FgBox wq kf (.slice A N cA) (.slice B m bc) ∧ Below V.heap.size V wq := ⟨hf.1.below hb, hf.2.trans (hb.mono hf.2.size)⟩
                have hNn := hN.below hb
                clear hN
                have hN := hNn
                clear hNn
                clear hf
                have hf := hfn
                clear hfn
                clear hb
                refine hK.out _ _ (heldC_two (fun _ => hf.1) (fun _ => trivial)) (fun hF => ?_)
                clear hK K
                try simp only [Act.put, List.setIfInBounds_toArray, List.set_cons_zero, List.set_cons_succ]
                refine wpG_take (oi := ?oi51) (v := ?vv51) 9 _ ?hi51 (List.Mem.head _) ?hc51 ?hQ51 hF ?hw51 ?hy51 (fun hF => ?hh51)
                case hi51 => (simp only [List.getElem?_toArray, List.getElem?_cons_succ, List.getElem?_cons_zero]; rfl)
                case hc51 => kernel_rfl
                case hQ51 => exact fun _ _ _ h => h
                case hw51 => rfl
                case hy51 => (intro wz hz; skip; go_simp; try (with_reducible rfl))
                try simp only [Act.put, List.setIfInBounds_toArray, List.set_cons_zero, List.set_cons_succ]
                refine wpG_ready (rs := [10]) (by kernel_rfl) (by simp) ?_
                refine all_one ?_
                refine wpOp_hand (oi := ?oi52) ?hi52 (fun K hK => ?hh52)
                case hi52 => (simp only [List.getElem?_toArray, List.getElem?_cons_succ, List.getElem?_cons_zero]; rfl)
                go_simp
                refine Calls.mono (HMAP.out _ (HFV.out.below hf.2)) ?_
                rintro e wq ⟨Am, cm, Bm, bm, rfl, hG, hb⟩
                have hfn : FgBox wq kf (.slice A N cA) (.slice B m bc) ∧ Below V.heap.size V wq := ⟨hf.1.below hb, hf.2.trans (hb.mono hf.2.size)⟩
                have hNn := hN.below hb
                clear hN
                have hN := hNn
                clear hNn
                clear hf
                have hf := hfn
                clear hfn
                clear hb
                refine hK.out _ _ (heldC_two (fun h => absurd h (by simp)) (fun _ => trivial)) (fun hF => ?_)
                clear hK K
                try simp only [Act.put, List.setIfInBounds_toArray, List.set_cons_zero, List.set_cons_succ]
                refine wpG_take (oi := ?oi53) (v := ?vv53) 11 _ ?hi53 (List.Mem.tail _ (List.Mem.head _)) ?hc53 ?hQ53 hF ?hw53 ?hy53 (fun hF => ?hh53)
                case hi53 => (simp only [List.getElem?_toArray, List.getElem?_cons_succ, List.getElem?_cons_zero]; rfl)
                case hc53 => kernel_rfl
                case hQ53 => exact fun _ _ _ h => h
                case hw53 => rfl
                case hy53 => (intro wz hz; skip; go_simp; try (with_reducible rfl))
                try simp only [Act.put, List.setIfInBounds_toArray, List.set_cons_zero, List.set_cons_succ]
                refine wpG_take (oi := ?oi54) (v := ?vv54) 12 _ ?hi54 (List.Mem.tail _ (List.Mem.head _)) ?hc54 ?hQ54 hF ?hw54 ?hy54 (fun hF => ?hh54)
                case hi54 => (simp only [List.getElem?_toArray, List.getElem?_cons_succ, List.getElem?_cons_zero]; rfl)
                case hc54 => kernel_rfl
                case hQ54 => exact fun _ _ _ h => h
                case hw54 => rfl
                case hy54 => (intro wz hz; skip; go_simp; try (with_reducible rfl))
                try simp only [Act.put, List.setIfInBounds_toArray, List.set_cons_zero, List.set_cons_succ]
                refine wpG_take (oi := ?oi55) (v := ?vv55) 13 _ ?hi55 (List.Mem.tail _ (List.Mem.head _)) ?hc55 ?hQ55 hF ?hw55 ?hy55 (fun hF => ?hh55)
                case hi55 => (simp only [List.getElem?_toArray, List.getElem?_cons_succ, List.getElem?_cons_zero]; rfl)
                case hc55 => kernel_rfl
                case hQ55 => exact fun _ _ _ h => h
                case hw55 => rfl
                case hy55 => (intro wz hz; skip; go_simp; try (with_reducible rfl))
                try simp only [Act.put, List.setIfInBounds_toArray, List.set_cons_zero, List.set_cons_succ]
                refine wpG_ready (rs := [15]) (by kernel_rfl) (by simp) ?_
                refine all_one ?_
                have f0 := hN.c0; have f1 := hN.c1; have f2 := hN.free 0; have f3 := hN.free 1; have f4 := hN.lt
                refine wpOp_hand (oi := ?oi56) ?hi56 (fun K hK => ?hh56)
                case hi56 => (simp only [List.getElem?_toArray, List.getElem?_cons_succ, List.getElem?_cons_zero]; rfl)
                go_simp
                refine hK.out _ _ (heldC_two (fun h => absurd h (by simp)) (fun _ => trivial)) (fun hF => ?_)
                clear hK K
                try simp only [Act.put, List.setIfInBounds_toArray, List.set_cons_zero, List.set_cons_succ]
                refine wpG_ready (rs := [16]) (by kernel_rfl) (by simp) ?_
                refine all_one ?_
                refine wpOp_hand (oi := ?oi57) ?hi57 (fun K hK => ?hh57)
                case hi57 => (simp only [List.getElem?_toArray, List.getElem?_cons_succ, List.getElem?_cons_zero]; rfl)
                go_simp
                refine hK.out _ _ (heldC_two (fun h => absurd h (by simp)) (fun h => absurd h (by simp))) (fun hF => ?_)
                clear hK K
                try simp only [Act.put, List.setIfInBounds_toArray, List.set_cons_zero, List.set_cons_succ]
                refine wpG_done (by kernel_rfl) ?_ _
                clear f0 f1 f2 f3 f4
                go_wp2_with fail
                go_meet
                exact ⟨kb, Am, cm, Bm, bm, rfl, rfl, hs3, hN.set _ _, figW_set hG hN _ _, (hf.2.setCell (p := ⟨kb, 0, none⟩) hs3 _).setCell (p := ⟨kb, 1, none⟩) hs3 _⟩
            · skip
              refine wpOp_hand (oi := ?oi58) ?hi58 (fun K hK => ?hh58)
              case hi58 => (simp only [List.getElem?_toArray, List.getElem?_cons_succ, List.getElem?_cons_zero]; rfl)
              go_simp
              have hN := FgBox.new wq (.slice none 0 0) (.slice none 0 0)
              obtain ⟨kb, hkb⟩ : ∃ b, b = wq.heap.size := ⟨_, rfl⟩
              obtain ⟨Y, hY⟩ : ∃ Y, Y = wq.alloc (.cells #[.slice none 0 0, .slice none 0 0] 27) := ⟨_, rfl⟩
              have bY : Below wq.heap.size wq Y := by rw [hY]; exact (Below.refl _ _).alloc (Nat.le_refl _) _
              have hs3 : V.heap.size ≤ kb := by rw [hkb]; exact hf.2.size
              rw [← hY, ← hkb] at hN ⊢
              have hfn : FgBox Y kf (.slice A N cA) (.slice B m bc) ∧ Below V.heap.size V Y := ⟨hf.1.below bY, hf.2.trans (bY.mono hf.2.size)⟩
              clear hf
              have hf := hfn
              clear hfn
              clear bY hY hkb
              refine hK.out _ _ (heldC_two (fun _ => hf.1) (fun _ => trivial)) (fun hF => ?_)
              clear hK K
              try simp only [Act.put, List.setIfInBounds_toArray, List.set_cons_zero, List.set_cons_succ]
              refine wpG_ready (rs := [6]) (by kernel_rfl) (by simp) ?_
              refine all_one ?_
              refine wpOp_hand (oi := ?oi59) ?hi59 (fun K hK => ?hh59)
              case hi59 => (simp only [List.getElem?_toArray, List.getElem?_cons_succ, List.getElem?_cons_zero]; rfl)
              go_simp
              refine Calls.mono (whole_ok _ _) ?_
              rintro e wq ⟨rfl, hb⟩
              have hfn : FgBox wq kf (.slice A N cA) (.slice B m bc) ∧ Below V.heap.size V wq := ⟨hf.1.below hb, hf.2.trans (hb.mono hf.2.size)⟩
              have hNn := hN.below hb
              clear hN
              have hN := hNn
              clear hNn
              clear hf
              have hf := hfn
              clear hfn
              clear hb
              refine hK.out _ _ (heldC_two (fun _ => hf.1) (fun _ => trivial)) (fun hF => ?_)
              clear hK K
              try simp only [Act.put, List.setIfInBounds_toArray, List.set_cons_zero, List.set_cons_succ]
              refine wpG_ready (rs := [8]) (by kernel_rfl) (by simp) ?_
              refine all_one ?_
              refine wpOp_hand (oi := ?oi60) ?hi60 (fun K hK => ?hh60)
              case hi60 => (simp only [List.getElem?_toArray, List.getElem?_cons_succ, List.getElem?_cons_zero]; rfl)
              go_simp
              refine Calls.mono (whole_ok _ _) ?_
              rintro e wq ⟨rfl, hb⟩
              have hfn : FgBox wq kf (.slice A N cA) (.slice B m bc) ∧ Below V.heap.size V wq := ⟨hf.1.below hb, hf.2.trans (hb.mono hf.2.size)⟩
              have hNn := hN.below hb
              clear hN
              have hN := hNn
              clear hNn
              clear hf
              have hf := hfn
              clear hfn
              clear hb
              refine hK.out _ _ (heldC_two (fun _ => hf.1) (fun _ => trivial)) (fun hF => ?_)
              clear hK K
              try simp only [Act.put, List.setIfInBounds_toArray, List.set_cons_zero, List.set_cons_succ]
              refine wpG_take (oi := ?oi61) (v := ?vv61) 9 _ ?hi61 (List.Mem.head _) ?hc61 ?hQ61 hF ?hw61 ?hy61 (fun hF => ?hh61)
              case hi61 => (simp only [List.getElem?_toArray, List.getElem?_cons_succ, List.getElem?_cons_zero]; rfl)
              case hc61 => kernel_rfl
              case hQ61 => exact fun _ _ _ h => h
              case hw61 => rfl
              case hy61 => (intro wz hz; skip; go_simp; try (with_reducible rfl))
              try simp only [Act.put, List.setIfInBounds_toArray, List.set_cons_zero, List.set_cons_succ]
              refine wpG_ready (rs := [10]) (by kernel_rfl) (by simp) ?_
              refine all_one ?_
              refine wpOp_hand (oi := ?oi62) ?hi62 (fun K hK => ?hh62)
              case hi62 => (simp only [List.getElem?_toArray, List.getElem?_cons_succ, List.getElem?_cons_zero]; rfl)
              go_simp
              refine Calls.mono (HMAP.out _ (HFV.out.below hf.2)) ?_
              rintro e wq ⟨Am, cm, Bm, bm, rfl, hG, hb⟩
              have hfn : FgBox wq kf (.slice A N cA) (.slice B m bc) ∧ Below V.heap.size V wq := ⟨hf.1.below hb, hf.2.trans (hb.mono hf.2.size)⟩
              have hNn := hN.below hb
              clear hN
              have hN := hNn
              clear hNn
              clear hf
              have hf := hfn
              clear hfn
              clear hb
              refine hK.out _ _ (heldC_two (fun h => absurd h (by simp)) (fun _ => trivial)) (fun hF => ?_)
              clear hK K
              try simp only [Act.put, List.setIfInBounds_toArray, List.set_cons_zero, List.set_cons_succ]
              refine wpG_take (oi := ?oi63) (v := ?vv63) 11 _ ?hi63 (List.Mem.tail _ (List.Mem.head _)) ?hc63 ?hQ63 hF ?hw63 ?hy63 (fun hF => ?hh63)
              case hi63 => (simp only [List.getElem?_toArray, List.getElem?_cons_succ, List.getElem?_cons_zero]; rfl)
              case hc63 => kernel_rfl
              case hQ63 => exact fun _ _ _ h => h
              case hw63 => rfl
              case hy63 => (intro wz hz; skip; go_simp; try (with_reducible rfl))
              try simp only [Act.put, List.setIfInBounds_toArray, List.set_cons_zero, List.set_cons_succ]
              refine wpG_take (oi := ?oi64) (v := ?vv64) 12 _ ?hi64 (List.Mem.tail _ (List.Mem.head _)) ?hc64 ?hQ64 hF ?hw64 ?hy64 (fun hF => ?hh64)
              case hi64 => (simp only [List.getElem?_toArray, List.getElem?_cons_succ, List.getElem?_cons_zero]; rfl)
              case hc64 => kernel_rfl
              case hQ64 => exact fun _ _ _ h => h
              case hw64 => rfl
              case hy64 => (intro wz hz; skip; go_simp; try (with_reducible rfl))
              try simp only [Act.put, List.setIfInBounds_toArray, List.set_cons_zero, List.set_cons_succ]
              refine wpG_take (oi := ?oi65) (v := ?vv65) 13 _ ?hi65 (List.Mem.tail _ (List.Mem.head _)) ?hc65 ?hQ65 hF ?hw65 ?hy65 (fun hF => ?hh65)
              case hi65 => (simp only [List.getElem?_toArray, List.getElem?_cons_succ, List.getElem?_cons_zero]; rfl)
              case hc65 => kernel_rfl
              case hQ65 => exact fun _ _ _ h => h
              case hw65 => rfl
              case hy65 => (intro wz hz; skip; go_simp; try (with_reducible rfl))
              try simp only [Act.put, List.setIfInBounds_toArray, List.set_cons_zero, List.set_cons_succ]
              refine wpG_ready (rs := [15]) (by kernel_rfl) (by simp) ?_
              refine all_one ?_
              have f0 := hN.c0; have f1 := hN.c1; have f2 := hN.free 0; have f3 := hN.free 1; have f4 := hN.lt
              refine wpOp_hand (oi := ?oi66) ?hi66 (fun K hK => ?hh66)
              case hi66 => (simp only [List.getElem?_toArray, List.getElem?_cons_succ, List.getElem?_cons_zero]; rfl)
              go_simp
              refine hK.out _ _ (heldC_two (fun h => absurd h (by simp)) (fun _ => trivial)) (fun hF => ?_)
              clear hK K
              try simp only [Act.put, List.setIfInBounds_toArray, List.set_cons_zero, List.set_cons_succ]
              refine wpG_ready (rs := [16]) (by kernel_rfl) (by simp) ?_
              refine all_one ?_
              refine wpOp_hand (oi := ?oi67) ?hi67 (fun K hK => ?hh67)
              case hi67 => (simp only [List.getElem?_toArray, List.getElem?_cons_succ, List.getElem?_cons_zero]; rfl)
              go_simp
              refine hK.out _ _ (heldC_two (fun h => absurd h (by simp)) (fun h => absurd h (by simp))) (fun hF => ?_)
              clear hK K
              try simp only [Act.put, List.setIfInBounds_toArray, List.set_cons_zero, List.set_cons_succ]
              refine wpG_done (by kernel_rfl) ?_ _
              clear f0 f1 f2 f3 f4
              go_wp2_with fail
              go_meet
              exact ⟨kb, Am, cm, Bm, bm, rfl, rfl, hs3, hN.set _ _, figW_set hG hN _ _, (hf.2.setCell (p := ⟨kb, 0, none⟩) hs3 _).setCell (p := ⟨kb, 1, none⟩) hs3 _⟩
          · skip
            refine wpOp_hand (oi := ?oi68) ?hi68 (fun K hK => ?hh68)
            case hi68 => (simp only [List.getElem?_toArray, List.getElem?_cons_succ, List.getElem?_cons_zero]; rfl)
            go_simp
            have hN := FgBox.new wq (.slice none 0 0) (.slice none 0 0)
            obtain ⟨kb, hkb⟩ : ∃ b, b = wq.heap.size := ⟨_, rfl⟩
            obtain ⟨Y, hY⟩ : ∃ Y, Y = wq.alloc (.cells #[.slice none 0 0, .slice none 0 0] 27) := ⟨_, rfl⟩
            have bY : Below wq.heap.size wq Y := by rw [hY]; exact (Below.refl _ _).alloc (Nat.le_refl _) _
            have hs3 : V.heap.size ≤ kb := by rw [hkb]; exact hf.2.size
            rw [← hY, ← hkb] at hN ⊢
            have hfn : FgBox Y kf (.slice A N cA) (.slice B m bc) ∧ Below V.heap.size V Y := ⟨hf.1.below bY, hf.2.trans (bY.mono hf.2.size)⟩
            clear hf
            have hf := hfn
            clear hfn
            clear bY hY hkb
            refine hK.out _ _ (heldC_two (fun _ => hf.1) (fun _ => trivial)) (fun hF => ?_)
            clear hK K
            try simp only [Act.put, List.setIfInBounds_toArray, List.set_cons_zero, List.set_cons_succ]
            refine wpG_ready (rs := [5]) (by kernel_rfl) (by simp) ?_
            refine all_one ?_
            refine wpOp_hand (oi := ?oi69) ?hi69 (fun K hK => ?hh69)
            case hi69 => (simp only [List.getElem?_toArray, List.getElem?_cons_succ, List.getElem?_cons_zero]; rfl)
            go_simp
            refine Calls.mono (whole_ok _ _) ?_
            rintro e wq ⟨rfl, hb⟩
            have hfn : FgBox wq kf (.slice A N cA) (.slice B m bc) ∧ Below V.heap.size V wq := ⟨hf.1.below hb, hf.2.trans (hb.mono hf.2.size)⟩
            have hNn := hN.below hb
            clear hN
            have hN := hNn
            clear hNn
            clear hf
            have hf := hfn
            clear hfn
            clear hb
            refine hK.out _ _ (heldC_two (fun _ => hf.1) (fun _ => trivial)) (fun hF => ?_)
            clear hK K
            try simp only [Act.put, List.setIfInBounds_toArray, List.set_cons_zero, List.set_cons_succ]
            refine wpG_ready (rs := [6]) (by kernel_rfl) (by simp) ?_
            refine all_one ?_
            refine wpOp_hand (oi := ?oi70) ?hi70 (fun K hK => ?hh70)
            case hi70 => (simp only [List.getElem?_toArray, List.getElem?_cons_succ, List.getElem?_cons_zero]; rfl)
            go_simp
            refine Calls.mono (whole_ok _ _) ?_
            rintro e wq ⟨rfl, hb⟩
            have hfn : FgBox wq kf (.slice A N cA) (.slice B m bc) ∧ Below V.heap.size V wq := ⟨hf.1.below hb, hf.2.trans (hb.mono hf.2.size)⟩
            have hNn := hN.below hb
            clear hN
            have hN := hNn
            clear hNn
            clear hf
            have hf := hfn
            clear hfn
            clear hb
            refine hK.out _ _ (heldC_two (fun _ => hf.1) (fun _ => trivial)) (fun hF => ?_)
            clear hK K
            try simp only [Act.put, List.setIfInBounds_toArray, List.set_cons_zero, List.set_cons_succ]
            refine wpG_ready (rs := [8]) (by kernel_rfl) (by simp) ?_
            refine all_one ?_
            refine wpOp_hand (oi := ?oi71) ?hi71 (fun K hK => ?hh71)
            case hi71 => (simp only [List.getElem?_toArray, List.getElem?_cons_succ, List.getElem?_cons_zero]; rfl)
            go_simp
            refine Calls.mono (whole_ok _ _) ?_
            rintro e wq ⟨rfl, hb⟩
            have hfn : FgBox wq kf (.slice A N cA) (.slice B m bc) ∧ Below V.heap.size V wq := ⟨hf.1.below hb, hf.2.trans (hb.mono hf.2.size)⟩
            have hNn := hN.below hb
            clear hN
            have hN := hNn
            clear hNn
            clear hf
            have hf := hfn
            clear hfn
            clear hb
            refine hK.out _ _ (heldC_two (fun _ => hf.1) (fun _ => trivial)) (fun hF => ?_)
            clear hK K
            try simp only [Act.put, List.setIfInBounds_toArray, List.set_cons_zero, List.set_cons_succ]
            refine wpG_take (oi := ?oi72) (v := ?vv72) 9 _ ?hi72 (List.Mem.head _) ?hc72 ?hQ72 hF ?hw72 ?hy72 (fun hF => ?hh72)
            case hi72 => (simp only [List.getElem?_toArray, List.getElem?_cons_succ, List.getElem?_cons_zero]; rfl)
            case hc72 => kernel_rfl
            case hQ72 => exact fun _ _ _ h => h
            case hw72 => rfl
            case hy72 => (intro wz hz; skip; go_simp; try (with_reducible rfl))
            try simp only [Act.put, List.setIfInBounds_toArray, List.set_cons_zero, List.set_cons_succ]
            refine wpG_ready (rs := [10]) (by kernel_rfl) (by simp) ?_
            refine all_one ?_
            refine wpOp_hand (oi := ?oi73) ?hi73 (fun K hK => ?hh73)
            case hi73 => (simp only [List.getElem?_toArray, List.getElem?_cons_succ, List.getElem?_cons_zero]; rfl)
            go_simp
            refine Calls.mono (HMAP.out _ (HFV.out.below hf.2)) ?_
            rintro e wq ⟨Am, cm, Bm, bm, rfl, hG, hb⟩
            have hfn : FgBox wq kf (.slice A N cA) (.slice B m bc) ∧ Below V.heap.size V wq := ⟨hf.1.below hb, hf.2.trans (hb.mono hf.2.size)⟩
            have hNn := hN.below hb
            clear hN
            have hN := hNn
            clear hNn
            clear hf
            have hf := hfn
            clear hfn
            clear hb
            refine hK.out _ _ (heldC_two (fun h => absurd h (by simp)) (fun _ => trivial)) (fun hF => ?_)
            clear hK K
            try simp only [Act.put, List.setIfInBounds_toArray, List.set_cons_zero, List.set_cons_succ]
            refine wpG_take (oi := ?oi74) (v := ?vv74) 11 _ ?hi74 (List.Mem.tail _ (List.Mem.head _)) ?hc74 ?hQ74 hF ?hw74 ?hy74 (fun hF => ?hh74)
            case hi74 => (simp only [List.getElem?_toArray, List.getElem?_cons_succ, List.getElem?_cons_zero]; rfl)
            case hc74 => kernel_rfl
            case hQ74 => exact fun _ _ _ h => h
            case hw74 => rfl
            case hy74 => (intro wz hz; skip; go_simp; try (with_reducible rfl))
            try simp only [Act.put, List.setIfInBounds_toArray, List.set_cons_zero, List.set_cons_succ]
            refine wpG_take (oi := ?oi75) (v := ?vv75) 12 _ ?hi75 (List.Mem.tail _ (List.Mem.head _)) ?hc75 ?hQ75 hF ?hw75 ?hy75 (fun hF => ?hh75)
            case hi75 => (simp only [List.getElem?_toArray, List.getElem?_cons_succ, List.getElem?_cons_zero]; rfl)
            case hc75 => kernel_rfl
            case hQ75 => exact fun _ _ _ h => h
            case hw75 => rfl
            case hy75 => (intro wz hz; skip; go_simp; try (with_reducible rfl))
            try simp only [Act.put, List.setIfInBounds_toArray, List.set_cons_zero, List.set_cons_succ]
            refine wpG_take (oi := ?oi76) (v := ?vv76) 13 _ ?hi76 (List.Mem.tail _ (List.Mem.head _)) ?hc76 ?hQ76 hF ?hw76 ?hy76 (fun hF => ?hh76)
            case hi76 => (simp only [List.getElem?_toArray, List.getElem?_cons_succ, List.getElem?_cons_zero]; rfl)
            case hc76 => kernel_rfl
            case hQ76 => exact fun _ _ _ h => h
            case hw76 => rfl
            case hy76 => (intro wz hz; skip; go_simp; try (with_reducible rfl))
            try simp only [Act.put, List.setIfInBounds_toArray, List.set_cons_zero, List.set_cons_succ]
            refine wpG_ready (rs := [15]) (by kernel_rfl) (by simp) ?_
            refine all_one ?_
            have f0 := hN.c0; have f1 := hN.c1; have f2 := hN.free 0; have f3 := hN.free 1; have f4 := hN.lt
            refine wpOp_hand (oi := ?oi77) ?hi77 (fun K hK => ?hh77)
            case hi77 => (simp only [List.getElem?_toArray, List.getElem?_cons_succ, List.getElem?_cons_zero]; rfl)
            go_simp
            refine hK.out _ _ (heldC_two (fun h => absurd h (by simp)) (fun _ => trivial)) (fun hF => ?_)
            clear hK K
            try simp only [Act.put, List.setIfInBounds_toArray, List.set_cons_zero, List.set_cons_succ]
            refine wpG_ready (rs := [16]) (by kernel_rfl) (by simp) ?_
            refine all_one ?_
            refine wpOp_hand (oi := ?oi78) ?hi78 (fun K hK => ?hh78)
            case hi78 => (simp only [List.getElem?_toArray, List.getElem?_cons_succ, List.getElem?_cons_zero]; rfl)
            go_simp
            refine hK.out _ _ (heldC_two (fun h => absurd h (by simp)) (fun h => absurd h (by simp))) (fun hF => ?_)
            clear hK K
            try simp only [Act.put, List.setIfInBounds_toArray, List.set_cons_zero, List.set_cons_succ]
            refine wpG_done (by kernel_rfl) ?_ _
            clear f0 f1 f2 f3 f4
            go_wp2_with fail
            go_meet
            exact ⟨kb, Am, cm, Bm, bm, rfl, rfl, hs3, hN.set _ _, figW_set hG hN _ _, (hf.2.setCell (p := ⟨kb, 0, none⟩) hs3 _).setCell (p := ⟨kb, 1, none⟩) hs3 _⟩
        · skip
          refine wpOp_hand (oi := ?oi79) ?hi79 (fun K hK => ?hh79)
          case hi79 => (simp only [List.getElem?_toArray, List.getElem?_cons_succ, List.getElem?_cons_zero]; rfl)
          go_simp
          have hN := FgBox.new wq (.slice none 0 0) (.slice none 0 0)
          obtain ⟨kb, hkb⟩ : ∃ b, b = wq.heap.size := ⟨_, rfl⟩
          obtain ⟨Y, hY⟩ : ∃ Y, Y = wq.alloc (.cells #[.slice none 0 0, .slice none 0 0] 27) := ⟨_, rfl⟩
          have bY : Below wq.heap.size wq Y := by rw [hY]; exact (Below.refl _ _).alloc (Nat.le_refl _) _
          have hs3 : V.heap.size ≤ kb := by rw [hkb]; exact hf.2.size
          rw [← hY, ← hkb] at hN ⊢
          have hfn : FgBox Y kf (.slice A N cA) (.slice B m bc) ∧ Below V.heap.size V Y := ⟨hf.1.below bY, hf.2.trans (bY.mono hf.2.size)⟩
          clear hf
          have hf := hfn
          clear hfn
          clear bY hY hkb
          refine hK.out _ _ (heldC_two (fun _ => hf.1) (fun _ => trivial)) (fun hF => ?_)
          clear hK K
          try simp only [Act.put, List.setIfInBounds_toArray, List.set_cons_zero, List.set_cons_succ]
          refine wpG_ready (rs := [4]) (by kernel_rfl) (by simp) ?_
          refine all_one ?_
          refine wpOp_hand (oi := ?oi80) ?hi80 (fun K hK => ?hh80)
          case hi80 => (simp only [List.getElem?_toArray, List.getElem?_cons_succ, List.getElem?_cons_zero]; rfl)
          go_simp
          refine Calls.mono (whole_ok _ _) ?_
          rintro e wq ⟨rfl, hb⟩
          have hfn : FgBox wq kf (.slice A N cA) (.slice B m bc) ∧ Below V.heap.size V wq := ⟨hf.1.below hb, hf.2.trans (hb.mono hf.2.size)⟩
          have hNn := hN.below hb
          clear hN
          have hN := hNn
          clear hNn
          clear hf
          have hf := hfn
          clear hfn
          clear hb
          refine hK.out _ _ (heldC_two (fun _ => hf.1) (fun _ => trivial)) (fun hF => ?_)
          clear hK K
          try simp only [Act.put, List.setIfInBounds_toArray, List.set_cons_zero, List.set_cons_succ]
          refine wpG_ready (rs := [5]) (by kernel_rfl) (by simp) ?_
          refine all_one ?_
          refine wpOp_hand (oi := ?oi81) ?hi81 (fun K hK => ?hh81)
          case hi81 => (simp only [List.getElem?_toArray, List.getElem?_cons_succ, List.getElem?_cons_zero]; rfl)
          go_simp
          refine Calls.mono (whole_ok _ _) ?_
          rintro e wq ⟨rfl, hb⟩
          have hfn : FgBox wq kf (.slice A N cA) (.slice B m bc) ∧ Below V.heap.size V wq := ⟨hf.1.below hb, hf.2.trans (hb.mono hf.2.size)⟩
          have hNn := hN.below hb
          clear hN
          have hN := hNn
          clear hNn
          clear hf
          have hf := hfn
          clear hfn
          clear hb
          refine hK.out _ _ (heldC_two (fun _ => hf.1) (fun _ => trivial)) (fun hF => ?_)
          clear hK K
          try simp only [Act.put, List.setIfInBounds_toArray, List.set_cons_zero, List.set_cons_succ]
          refine wpG_ready (rs := [6]) (by kernel_rfl) (by simp) ?_
          refine all_one ?_
          refine wpOp_hand (oi := ?oi82) ?hi82 (fun K hK => ?hh82)
          case hi82 => (simp only [List.getElem?_toArray, List.getElem?_cons_succ, List.getElem?_cons_zero]; rfl)
          go_simp
          refine Calls.mono (whole_ok _ _) ?_
          rintro e wq ⟨rfl, hb⟩
          have hfn : FgBox wq kf (.slice A N cA) (.slice B m bc) ∧ Below V.heap.size V wq := ⟨hf.1.below hb, hf.2.trans (hb.mono hf.2.size)⟩
          have hNn := hN.below hb
          clear hN
          have hN := hNn
          clear hNn
          clear hf
          have hf := hfn
          clear hfn
          clear hb
          refine hK.out _ _ (heldC_two (fun _ => hf.1) (fun _ => trivial)) (fun hF => ?_)
          clear hK K
          try simp only [Act.put, List.setIfInBounds_toArray, List.set_cons_zero, List.set_cons_succ]
          refine wpG_ready (rs := [8]) (by kernel_rfl) (by simp) ?_
          refine all_one ?_
          refine wpOp_hand (oi := ?oi83) ?hi83 (fun K hK => ?hh83)
          case hi83 => (simp only [List.getElem?_toArray, List.getElem?_cons_succ, List.getElem?_cons_zero]; rfl)
          go_simp
          refine Calls.mono (whole_ok _ _) ?_
          rintro e wq ⟨rfl, hb⟩
          have hfn : FgBox wq kf (.slice A N cA) (.slice B m bc) ∧ Below V.heap.size V wq := ⟨hf.1.below hb, hf.2.trans (hb.mono hf.2.size)⟩
          have hNn := hN.below hb
          clear hN
          have hN := hNn
          clear hNn
          clear hf
          have hf := hfn
          clear hfn
          clear hb
          refine hK.out _ _ (heldC_two (fun _ => hf.1) (fun _ => trivial)) (fun hF => ?_)
          clear hK K
          try simp only [Act.put, List.setIfInBounds_toArray, List.set_cons_zero, List.set_cons_succ]
          refine wpG_take (oi := ?oi84) (v := ?vv84) 9 _ ?hi84 (List.Mem.head _) ?hc84 ?hQ84 hF ?hw84 ?hy84 (fun hF => ?hh84)
          case hi84 => (simp only [List.getElem?_toArray, List.getElem?_cons_succ, List.getElem?_cons_zero]; rfl)
          case hc84 => kernel_rfl
          case hQ84 => exact fun _ _ _ h => h
          case hw84 => rfl
          case hy84 => (intro wz hz; skip; go_simp; try (with_reducible rfl))
          try simp only [Act.put, List.setIfInBounds_toArray, List.set_cons_zero, List.set_cons_succ]
          refine wpG_ready (rs := [10]) (by kernel_rfl) (by simp) ?_
          refine all_one ?_
          refine wpOp_hand (oi := ?oi85) ?hi85 (fun K hK => ?hh85)
          case hi85 => (simp only [List.getElem?_toArray, List.getElem?_cons_succ, List.getElem?_cons_zero]; rfl)
          go_simp
          refine Calls.mono (HMAP.out _ (HFV.out.below hf.2)) ?_
          rintro e wq ⟨Am, cm, Bm, bm, rfl, hG, hb⟩
          have hfn : FgBox wq kf (.slice A N cA) (.slice B m bc) ∧ Below V.heap.size V wq := ⟨hf.1.below hb, hf.2.trans (hb.mono hf.2.size)⟩
          have hNn := hN.below hb
          clear hN
          have hN := hNn
          clear hNn
          clear hf
          have hf := hfn
          clear hfn
          clear hb
          refine hK.out _ _ (heldC_two (fun h => absurd h (by simp)) (fun _ => trivial)) (fun hF => ?_)
          clear hK K
          try simp only [Act.put, List.setIfInBounds_toArray, List.set_cons_zero, List.set_cons_succ]
          refine wpG_take (oi := ?oi86) (v := ?vv86) 11 _ ?hi86 (List.Mem.tail _ (List.Mem.head _)) ?hc86 ?hQ86 hF ?hw86 ?hy86 (fun hF => ?hh86)
          case hi86 => (simp only [List.getElem?_toArray, List.getElem?_cons_succ, List.getElem?_cons_zero]; rfl)
          case hc86 => kernel_rfl
          case hQ86 => exact fun _ _ _ h => h
          case hw86 => rfl
          case hy86 => (intro wz hz; skip; go_simp; try (with_reducible rfl))
          try simp only [Act.put, List.setIfInBounds_toArray, List.set_cons_zero, List.set_cons_succ]
          refine wpG_take (oi := ?oi87) (v := ?vv87) 12 _ ?hi87 (List.Mem.tail _ (List.Mem.head _)) ?hc87 ?hQ87 hF ?hw87 ?hy87 (fun hF => ?hh87)
          case hi87 => (simp only [List.getElem?_toArray, List.getElem?_cons_succ, List.getElem?_cons_zero]; rfl)
          case hc87 => kernel_rfl
          case hQ87 => exact fun _ _ _ h => h
          case hw87 => rfl
          case hy87 => (intro wz hz; skip; go_simp; try (with_reducible rfl))
          try simp only [Act.put, List.setIfInBounds_toArray, List.set_cons_zero, List.set_cons_succ]
          refine wpG_take (oi := ?oi88) (v := ?vv88) 13 _ ?hi88 (List.Mem.tail _ (List.Mem.head _)) ?hc88 ?hQ88 hF ?hw88 ?hy88 (fun hF => ?hh88)
          case hi88 => (simp only [List.getElem?_toArray, List.getElem?_cons_succ, List.getElem?_cons_zero]; rfl)
          case hc88 => kernel_rfl
          case hQ88 => exact fun _ _ _ h => h
          case hw88 => rfl
          case hy88 => (intro wz hz; skip; go_simp; try (with_reducible rfl))
          try simp only [Act.put, List.setIfInBounds_toArray, List.set_cons_zero, List.set_cons_succ]
          refine wpG_ready (rs := [15]) (by kernel_rfl) (by simp) ?_
          refine all_one ?_
          have f0 := hN.c0; have f1 := hN.c1; have f2 := hN.free 0; have f3 := hN.free 1; have f4 := hN.lt
          refine wpOp_hand (oi := ?oi89) ?hi89 (fun K hK => ?hh89)
          case hi89 => (simp only [List.getElem?_toArray, List.getElem?_cons_succ, List.getElem?_cons_zero]; rfl)
          go_simp
          refine hK.out _ _ (heldC_two (fun h => absurd h (by simp)) (fun _ => trivial)) (fun hF => ?_)
          clear hK K
          try simp only [Act.put, List.setIfInBounds_toArray, List.set_cons_zero, List.set_cons_succ]
          refine wpG_ready (rs := [16]) (by kernel_rfl) (by simp) ?_
          refine all_one ?_
          refine wpOp_hand (oi := ?oi90) ?hi90 (fun K hK => ?hh90)
          case hi90 => (simp only [List.getElem?_toArray, List.getElem?_cons_succ, List.getElem?_cons_zero]; rfl)
          go_simp
          refine hK.out _ _ (heldC_two (fun h => absurd h (by simp)) (fun h => absurd h (by simp))) (fun hF => ?_)
          clear hK K
          try simp only [Act.put, List.setIfInBounds_toArray, List.set_cons_zero, List.set_cons_succ]
          refine wpG_done (by kernel_rfl) ?_ _
          clear f0 f1 f2 f3 f4
          go_wp2_with fail
          go_meet
          exact ⟨kb, Am, cm, Bm, bm, rfl, rfl, hs3, hN.set _ _, figW_set hG hN _ _, (hf.2.setCell (p := ⟨kb, 0, none⟩) hs3 _).setCell (p := ⟨kb, 1, none⟩) hs3 _⟩
      · skip
        refine wpOp_hand (oi := ?oi91) ?hi91 (fun K hK => ?hh91)
        case hi91 => (simp only [List.getElem?_toArray, List.getElem?_cons_succ, List.getElem?_cons_zero]; rfl)
        go_simp
        have hN := FgBox.new wq (.slice none 0 0) (.slice none 0 0)
        obtain ⟨kb, hkb⟩ : ∃ b, b = wq.heap.size := ⟨_, rfl⟩
        obtain ⟨Y, hY⟩ : ∃ Y, Y = wq.alloc (.cells #[.slice none 0 0, .slice none 0 0] 27) := ⟨_, rfl⟩
        have bY : Below wq.heap.size wq Y := by rw [hY]; exact (Below.refl _ _).alloc (Nat.le_refl _) _
        have hs3 : V.heap.size ≤ kb := by rw [hkb]; exact hf.2.size
        rw [← hY, ← hkb] at hN ⊢
        have hfn : FgBox Y kf (.slice A N cA) (.slice B m bc) ∧ Below V.heap.size V Y := ⟨hf.1.below bY, hf.2.trans (bY.mono hf.2.size)⟩
        clear hf
        have hf := hfn
        clear hfn
        clear bY hY hkb
        refine hK.out _ _ (heldC_two (fun _ => hf.1) (fun _ => trivial)) (fun hF => ?_)
        clear hK K
        try simp only [Act.put, List.setIfInBounds_toArray, List.set_cons_zero, List.set_cons_succ]
        refine wpG_ready (rs := [2]) (by kernel_rfl) (by simp) ?_
        refine all_one ?_
        refine wpOp_hand (oi := ?oi92) ?hi92 (fun K hK => ?hh92)
        case hi92 => (simp only [List.getElem?_toArray, List.getElem?_cons_succ, List.getElem?_cons_zero]; rfl)
        go_simp
        refine Calls.mono (whole_ok _ _) ?_
        rintro e wq ⟨rfl, hb⟩
        have hfn : FgBox wq kf (.slice A N cA) (.slice B m bc) ∧ Below V.heap.size V wq := ⟨hf.1.below hb, hf.2.trans (hb.mono hf.2.size)⟩
        have hNn := hN.below hb
        clear hN
        have hN := hNn
        clear hNn
        clear hf
        have hf := hfn
        clear hfn
        clear hb
        refine hK.out _ _ (heldC_two (fun _ => hf.1) (fun _ => trivial)) (fun hF => ?_)
        clear hK K
        try simp only [Act.put, List.setIfInBounds_toArray, List.set_cons_zero, List.set_cons_succ]
        refine wpG_ready (rs := [4]) (by kernel_rfl) (by simp) ?_
        refine all_one ?_
        refine wpOp_hand (oi := ?oi93) ?hi93 (fun K hK => ?hh93)
        case hi93 => (simp only [List.getElem?_toArray, List.getElem?_cons_succ, List.getElem?_cons_zero]; rfl)
        go_simp
        refine Calls.mono (whole_ok _ _) ?_
        rintro e wq ⟨rfl, hb⟩
        have hfn : FgBox wq kf (.slice A N cA) (.slice B m bc) ∧ Below V.heap.size V wq := ⟨hf.1.below hb, hf.2.trans (hb.mono hf.2.size)⟩
        have hNn := hN.below hb
        clear hN
        have hN := hNn
        clear hNn
        clear hf
        have hf := hfn
        clear hfn
        clear hb
        refine hK.out _ _ (heldC_two (fun _ => hf.1) (fun _ => trivial)) (fun hF => ?_)
        clear hK K
        try simp only [Act.put, List.setIfInBounds_toArray, List.set_cons_zero, List.set_cons_succ]
        refine wpG_ready (rs := [5]) (by kernel_rfl) (by simp) ?_
        refine all_one ?_
        refine wpOp_hand (oi := ?oi94) ?hi94 (fun K hK => ?hh94)
        case hi94 => (simp only [List.getElem?_toArray, List.getElem?_cons_succ, List.getElem?_cons_zero]; rfl)
        go_simp
        refine Calls.mono (whole_ok _ _) ?_
        rintro e wq ⟨rfl, hb⟩
        have hfn : FgBox wq kf (.slice A N cA) (.slice B m bc) ∧ Below V.heap.size V wq := ⟨hf.1.below hb, hf.2.trans (hb.mono hf.2.size)⟩
        have hNn := hN.below hb
        clear hN
        have hN := hNn
        clear hNn
        clear hf
        have hf := hfn
        clear hfn
        clear hb
        refine hK.out _ _ (heldC_two (fun _ => hf.1) (fun _ => trivial)) (fun hF => ?_)
        clear hK K
        try simp only [Act.put, List.setIfInBounds_toArray, List.set_cons_zero, List.set_cons_succ]
        refine wpG_ready (rs := [6]) (by kernel_rfl) (by simp) ?_
        refine all_one ?_
        refine wpOp_hand (oi := ?oi95) ?hi95 (fun K hK => ?hh95)
        case hi95 => (simp only [List.getElem?_toArray, List.getElem?_cons_succ, List.getElem?_cons_zero]; rfl)
        go_simp
        refine Calls.mono (whole_ok _ _) ?_
        rintro e wq ⟨rfl, hb⟩
        have hfn : FgBox wq kf (.slice A N cA) (.slice B m bc) ∧ Below V.heap.size V wq := ⟨hf.1.below hb, hf.2.trans (hb.mono hf.2.size)⟩
        have hNn := hN.below hb
        clear hN
        have hN := hNn
        clear hNn
        clear hf
        have hf := hfn
        clear hfn
        clear hb
        refine hK.out _ _ (heldC_two (fun _ => hf.1) (fun _ => trivial)) (fun hF => ?_)
        clear hK K
        try simp only [Act.put, List.setIfInBounds_toArray, List.set_cons_zero, List.set_cons_succ]
        refine wpG_ready (rs := [8]) (by kernel_rfl) (by simp) ?_
        refine all_one ?_
        refine wpOp_hand (oi := ?oi96) ?hi96 (fun K hK => ?hh96)
        case hi96 => (simp only [List.getElem?_toArray, List.getElem?_cons_succ, List.getElem?_cons_zero]; rfl)
        go_simp
        refine Calls.mono (whole_ok _ _) ?_
        rintro e wq ⟨rfl, hb⟩
        have hfn : FgBox wq kf (.slice A N cA) (.slice B m bc) ∧ Below V.heap.size V wq := ⟨hf.1.below hb, hf.2.trans (hb.mono hf.2.size)⟩
        have hNn := hN.below hb
        clear hN
        have hN := hNn
        clear hNn
        clear hf
        have hf := hfn
        clear hfn
        clear hb
        refine hK.out _ _ (heldC_two (fun _ => hf.1) (fun _ => trivial)) (fun hF => ?_)
        clear hK K
        try simp only [Act.put, List.setIfInBounds_toArray, List.set_cons_zero, List.set_cons_succ]
        refine wpG_take (oi := ?oi97) (v := ?vv97) 9 _ ?hi97 (List.Mem.head _) ?hc97 ?hQ97 hF ?hw97 ?hy97 (fun hF => ?hh97)
        case hi97 => (simp only [List.getElem?_toArray, List.getElem?_cons_succ, List.getElem?_cons_zero]; rfl)
        case hc97 => kernel_rfl
        case hQ97 => exact fun _ _ _ h => h
        case hw97 => rfl
        case hy97 => (intro wz hz; skip; go_simp; try (with_reducible rfl))
        try simp only [Act.put, List.setIfInBounds_toArray, List.set_cons_zero, List.set_cons_succ]
        refine wpG_ready (rs := [10]) (by kernel_rfl) (by simp) ?_
        refine all_one ?_
        refine wpOp_hand (oi := ?oi98) ?hi98 (fun K hK => ?hh98)
        case hi98 => (simp only [List.getElem?_toArray, List.getElem?_cons_succ, List.getElem?_cons_zero]; rfl)
        go_simp
        refine Calls.mono (HMAP.out _ (HFV.out.below hf.2)) ?_
        rintro e wq ⟨Am, cm, Bm, bm, rfl, hG, hb⟩
        have hfn : FgBox wq kf (.slice A N cA) (.slice B m bc) ∧ Below V.heap.size V wq := ⟨hf.1.below hb, hf.2.trans (hb.mono hf.2.size)⟩
        have hNn := hN.below hb
        clear hN
        have hN := hNn
        clear hNn
        clear hf
        have hf := hfn
        clear hfn
        clear hb
        refine hK.out _ _ (heldC_two (fun h => absurd h (by simp)) (fun _ => trivial)) (fun hF => ?_)
        clear hK K
        try simp only [Act.put, List.setIfInBounds_toArray, List.set_cons_zero, List.set_cons_succ]
        refine wpG_take (oi := ?oi99) (v := ?vv99) 11 _ ?hi99 (List.Mem.tail _ (List.Mem.head _)) ?hc99 ?hQ99 hF ?hw99 ?hy99 (fun hF => ?hh99)
        case hi99 => (simp only [List.getElem?_toArray, List.getElem?_cons_succ, List.getElem?_cons_zero]; rfl)
        case hc99 => kernel_rfl
        case hQ99 => exact fun _ _ _ h => h
        case hw99 => rfl
        case hy99 => (intro wz hz; skip; go_simp; try (with_reducible rfl))
        try simp only [Act.put, List.setIfInBounds_toArray, List.set_cons_zero, List.set_cons_succ]
        refine wpG_take (oi := ?oi100) (v := ?vv100) 12 _ ?hi100 (List.Mem.tail _ (List.Mem.head _)) ?hc100 ?hQ100 hF ?hw100 ?hy100 (fun hF => ?hh100)
        case hi100 => (simp only [List.getElem?_toArray, List.getElem?_cons_succ, List.getElem?_cons_zero]; rfl)
        case hc100 => kernel_rfl
        case hQ100 => exact fun _ _ _ h => h
        case hw100 => rfl
        case hy100 => (intro wz hz; skip; go_simp; try (with_reducible rfl))
        try simp only [Act.put, List.setIfInBounds_toArray, List.set_cons_zero, List.set_cons_succ]
        refine wpG_take (oi := ?oi101) (v := ?vv101) 13 _ ?hi101 (List.Mem.tail _ (List.Mem.head _)) ?hc101 ?hQ101 hF ?hw101 ?hy101 (fun hF => ?hh101)
        case hi101 => (simp only [List.getElem?_toArray, List.getElem?_cons_succ, List.getElem?_cons_zero]; rfl)
        case hc101 => kernel_rfl
        case hQ101 => exact fun _ _ _ h => h
        case hw101 => rfl
        case hy101 => (intro wz hz; skip; go_simp; try (with_reducible rfl))
        try simp only [Act.put, List.setIfInBounds_toArray, List.set_cons_zero, List.set_cons_succ]
        refine wpG_ready (rs := [15]) (by kernel_rfl) (by simp) ?_
        refine all_one ?_
        have f0 := hN.c0; have f1 := hN.c1; have f2 := hN.free 0; have f3 := hN.free 1; have f4 := hN.lt
        refine wpOp_hand (oi := ?oi102) ?hi102 (fun K hK => ?hh102)
        case hi102 => (simp only [List.getElem?_toArray, List.getElem?_cons_succ, List.getElem?_cons_zero]; rfl)
        go_simp
        refine hK.out _ _ (heldC_two (fun h => absurd h (by simp)) (fun _ => trivial)) (fun hF => ?_)
        clear hK K
        try simp only [Act.put, List.setIfInBounds_toArray, List.set_cons_zero, List.set_cons_succ]
        refine wpG_ready (rs := [16]) (by kernel_rfl) (by simp) ?_
        refine all_one ?_
        refine wpOp_hand (oi := ?oi103) ?hi103 (fun K hK => ?hh103)
        case hi103 => (simp only [List.getElem?_toArray, List.getElem?_cons_succ, List.getElem?_cons_zero]; rfl)
        go_simp
        refine hK.out _ _ (heldC_two (fun h => absurd h (by simp)) (fun h => absurd h (by simp))) (fun hF => ?_)
        clear hK K
        try simp only [Act.put, List.setIfInBounds_toArray, List.set_cons_zero, List.set_cons_succ]
        refine wpG_done (by kernel_rfl) ?_ _
        clear f0 f1 f2 f3 f4
        go_wp2_with fail
        go_meet
        exact ⟨kb, Am, cm, Bm, bm, rfl, rfl, hs3, hN.set _ _, figW_set hG hN _ _, (hf.2.setCell (p := ⟨kb, 0, none⟩) hs3 _).setCell (p := ⟨kb, 1, none⟩) hs3 _⟩
    · skip
      refine wpOp_hand (oi := ?oi104) ?hi104 (fun K hK => ?hh104)
      case hi104 => (simp only [List.getElem?_toArray, List.getElem?_cons_succ, List.getElem?_cons_zero]; rfl)
      go_simp
      have hN := FgBox.new X (.slice none 0 0) (.slice none 0 0)
      obtain ⟨kb, hkb⟩ : ∃ b, b = X.heap.size := ⟨_, rfl⟩
      obtain ⟨Y, hY⟩ : ∃ Y, Y = X.alloc (.cells #[.slice none 0 0, .slice none 0 0] 27) := ⟨_, rfl⟩
      have bY : Below X.heap.size X Y := by rw [hY]; exact (Below.refl _ _).alloc (Nat.le_refl _) _
      have hs3 : V.heap.size ≤ kb := by rw [hkb]; exact hf.2.size
      rw [← hY, ← hkb] at hN ⊢
      have hfn : FgBox Y kf (.slice A N cA) (.slice B m bc) ∧ Below V.heap.size V Y := ⟨hf.1.below bY, hf.2.trans (bY.mono hf.2.size)⟩
      clear hf
      have hf := hfn
      clear hfn
      clear bY hY hkb
      refine hK.out _ _ (heldC_two (fun _ => hf.1) (fun _ => trivial)) (fun hF => ?_)
      clear hK K
      try simp only [Act.put, List.setIfInBounds_toArray, List.set_cons_zero, List.set_cons_succ]
      refine wpG_ready (rs := [1]) (by kernel_rfl) (by simp) ?_
      refine all_one ?_
      refine wpOp_hand (oi := ?oi105) ?hi105 (fun K hK => ?hh105)
      case hi105 => (simp only [List.getElem?_toArray, List.getElem?_cons_succ, List.getElem?_cons_zero]; rfl)
      go_simp
      refine Calls.mono (whole_ok _ _) ?_
      rintro e wq ⟨rfl, hb⟩
      have hfn : FgBox wq kf (.slice A N cA) (.slice B m bc) ∧ Below V.heap.size V wq := ⟨hf.1.below hb, hf.2.trans (hb.mono hf.2.size)⟩
      have hNn := hN.below hb
      clear hN
      have hN := hNn
      clear hNn
      clear hf
      have hf := hfn
      clear hfn
      clear hb
      refine hK.out _ _ (heldC_two (fun _ => hf.1) (fun _ => trivial)) (fun hF => ?_)
      clear hK K
      try simp only [Act.put, List.setIfInBounds_toArray, List.set_cons_zero, List.set_cons_succ]
      refine wpG_ready (rs := [2]) (by kernel_rfl) (by simp) ?_
      refine all_one ?_
      refine wpOp_hand (oi := ?oi106) ?hi106 (fun K hK => ?hh106)
      case hi106 => (simp only [List.getElem?_toArray, List.getElem?_cons_succ, List.getElem?_cons_zero]; rfl)
      go_simp
      refine Calls.mono (whole_ok _ _) ?_
      rintro e wq ⟨rfl, hb⟩
      have hfn : FgBox wq kf (.slice A N cA) (.slice B m bc) ∧ Below V.heap.size V wq := ⟨hf.1.below hb, hf.2.trans (hb.mono hf.2.size)⟩
      have hNn := hN.below hb
      clear hN
      have hN := hNn
      clear hNn
      clear hf
      have hf := hfn
      clear hfn
      clear hb
      refine hK.out _ _ (heldC_two (fun _ => hf.1) (fun _ => trivial)) (fun hF => ?_)
      clear hK K
      try simp only [Act.put, List.setIfInBounds_toArray, List.set_cons_zero, List.set_cons_succ]
      refine wpG_ready (rs := [4]) (by kernel_rfl) (by simp) ?_
      refine all_one ?_
      refine wpOp_hand (oi := ?oi107) ?hi107 (fun K hK => ?hh107)
      case hi107 => (simp only [List.getElem?_toArray, List.getElem?_cons_succ, List.getElem?_cons_zero]; rfl)
      go_simp
      refine Calls.mono (whole_ok _ _) ?_
      rintro e wq ⟨rfl, hb⟩
      have hfn : FgBox wq kf (.slice A N cA) (.slice B m bc) ∧ Below V.heap.size V wq := ⟨hf.1.below hb, hf.2.trans (hb.mono hf.2.size)⟩
      have hNn := hN.below hb
      clear hN
      have hN := hNn
      clear hNn
      clear hf
      have hf := hfn
      clear hfn
      clear hb
      refine hK.out _ _ (heldC_two (fun _ => hf.1) (fun _ => trivial)) (fun hF => ?_)
      clear hK K
      try simp only [Act.put, List.setIfInBounds_toArray, List.set_cons_zero, List.set_cons_succ]
      refine wpG_ready (rs := [5]) (by kernel_rfl) (by simp) ?_
      refine all_one ?_
      refine wpOp_hand (oi := ?oi108) ?hi108 (fun K hK => ?hh108)
      case hi108 => (simp only [List.getElem?_toArray, List.getElem?_cons_succ, List.getElem?_cons_zero]; rfl)
      go_simp
      refine Calls.mono (whole_ok _ _) ?_
      rintro e wq ⟨rfl, hb⟩
      have hfn : FgBox wq kf (.slice A N cA) (.slice B m bc) ∧ Below V.heap.size V wq := ⟨hf.1.below hb, hf.2.trans (hb.mono hf.2.size)⟩
      have hNn := hN.below hb
      clear hN
      have hN := hNn
      clear hNn
      clear hf
      have hf := hfn
      clear hfn
      clear hb
      refine hK.out _ _ (heldC_two (fun _ => hf.1) (fun _ => trivial)) (fun hF => ?_)
      clear hK K
      try simp only [Act.put, List.setIfInBounds_toArray, List.set_cons_zero, List.set_cons_succ]
      refine wpG_ready (rs := [6]) (by kernel_rfl) (by simp) ?_
      refine all_one ?_
      refine wpOp_hand (oi := ?oi109) ?hi109 (fun K hK => ?hh109)
      case hi109 => (simp only [List.getElem?_toArray, List.getElem?_cons_succ, List.getElem?_cons_zero]; rfl)
      go_simp
      refine Calls.mono (whole_ok _ _) ?_
      rintro e wq ⟨rfl, hb⟩
      have hfn : FgBox wq kf (.slice A N cA) (.slice B m bc) ∧ Below V.heap.size V wq := ⟨hf.1.below hb, hf.2.trans (hb.mono hf.2.size)⟩
      have hNn := hN.below hb
      clear hN
      have hN := hNn
      clear hNn
      clear hf
      have hf := hfn
      clear hfn
      clear hb
      refine hK.out _ _ (heldC_two (fun _ => hf.1) (fun _ => trivial)) (fun hF => ?_)
      clear hK K
      try simp only [Act.put, List.setIfInBounds_toArray, List.set_cons_zero, List.set_cons_succ]
      refine wpG_ready (rs := [8]) (by kernel_rfl) (by simp) ?_
      refine all_one ?_
      refine wpOp_hand (oi := ?oi110) ?hi110 (fun K hK => ?hh110)
      case hi110 => (simp only [List.getElem?_toArray, List.getElem?_cons_succ, List.getElem?_cons_zero]; rfl)
      go_simp
      refine Calls.mono (whole_ok _ _) ?_
      rintro e wq ⟨rfl, hb⟩
      have hfn : FgBox wq kf (.slice A N cA) (.slice B m bc) ∧ Below V.heap.size V wq := ⟨hf.1.below hb, hf.2.trans (hb.mono hf.2.size)⟩
      have hNn := hN.below hb
      clear hN
      have hN := hNn
      clear hNn
      clear hf
      have hf := hfn
      clear hfn
      clear hb
      refine hK.out _ _ (heldC_two (fun _ => hf.1) (fun _ => trivial)) (fun hF => ?_)
      clear hK K
      try simp only [Act.put, List.setIfInBounds_toArray, List.set_cons_zero, List.set_cons_succ]
      refine wpG_take (oi := ?oi111) (v := ?vv111) 9 _ ?hi111 (List.Mem.head _) ?hc111 ?hQ111 hF ?hw111 ?hy111 (fun hF => ?hh111)
      case hi111 => (simp only [List.getElem?_toArray, List.getElem?_cons_succ, List.getElem?_cons_zero]; rfl)
      case hc111 => kernel_rfl
      case hQ111 => exact fun _ _ _ h => h
      case hw111 => rfl
      case hy111 => (intro wz hz; skip; go_simp; try (with_reducible rfl))
      try simp only [Act.put, List.setIfInBounds_toArray, List.set_cons_zero, List.set_cons_succ]
      refine wpG_ready (rs := [10]) (by kernel_rfl) (by simp) ?_
      refine all_one ?_
      refine wpOp_hand (oi := ?oi112) ?hi112 (fun K hK => ?hh112)
      case hi112 => (simp only [List.getElem?_toArray, List.getElem?_cons_succ, List.getElem?_cons_zero]; rfl)
      go_simp
      refine Calls.mono (HMAP.out _ (HFV.out.below hf.2)) ?_
      rintro e wq ⟨Am, cm, Bm, bm, rfl, hG, hb⟩
      have hfn : FgBox wq kf (.slice A N cA) (.slice B m bc) ∧ Below V.heap.size V wq := ⟨hf.1.below hb, hf.2.trans (hb.mono hf.2.size)⟩
      have hNn := hN.below hb
      clear hN
      have hN := hNn
      clear hNn
      clear hf
      have hf := hfn
      clear hfn
      clear hb
      refine hK.out _ _ (heldC_two (fun h => absurd h (by simp)) (fun _ => trivial)) (fun hF => ?_)
      clear hK K
      try simp only [Act.put, List.setIfInBounds_toArray, List.set_cons_zero, List.set_cons_succ]
      refine wpG_take (oi := ?oi113) (v := ?vv113) 11 _ ?hi113 (List.Mem.tail _ (List.Mem.head _)) ?hc113 ?hQ113 hF ?hw113 ?hy113 (fun hF => ?hh113)
      case hi113 => (simp only [List.getElem?_toArray, List.getElem?_cons_succ, List.getElem?_cons_zero]; rfl)
      case hc113 => kernel_rfl
      case hQ113 => exact fun _ _ _ h => h
      case hw113 => rfl
      case hy113 => (intro wz hz; skip; go_simp; try (with_reducible rfl))
      try simp only [Act.put, List.setIfInBounds_toArray, List.set_cons_zero, List.set_cons_succ]
      refine wpG_take (oi := ?oi114) (v := ?vv114) 12 _ ?hi114 (List.Mem.tail _ (List.Mem.head _)) ?hc114 ?hQ114 hF ?hw114 ?hy114 (fun hF => ?hh114)
      case hi114 => (simp only [List.getElem?_toArray, List.getElem?_cons_succ, List.getElem?_cons_zero]; rfl)
      case hc114 => kernel_rfl
      case hQ114 => exact fun _ _ _ h => h
      case hw114 => rfl
      case hy114 => (intro wz hz; skip; go_simp; try (with_reducible rfl))
      try simp only [Act.put, List.setIfInBounds_toArray, List.set_cons_zero, List.set_cons_succ]
      refine wpG_take (oi := ?oi115) (v := ?vv115) 13 _ ?hi115 (List.Mem.tail _ (List.Mem.head _)) ?hc115 ?hQ115 hF ?hw115 ?hy115 (fun hF => ?hh115)
      case hi115 => (simp only [List.getElem?_toArray, List.getElem?_cons_succ, List.getElem?_cons_zero]; rfl)
      case hc115 => kernel_rfl
      case hQ115 => exact fun _ _ _ h => h
      case hw115 => rfl
      case hy115 => (intro wz hz; skip; go_simp; try (with_reducible rfl))
      try simp only [Act.put, List.setIfInBounds_toArray, List.set_cons_zero, List.set_cons_succ]
      refine wpG_ready (rs := [15]) (by kernel_rfl) (by simp) ?_
      refine all_one ?_
      have f0 := hN.c0; have f1 := hN.c1; have f2 := hN.free 0; have f3 := hN.free 1; have f4 := hN.lt
      refine wpOp_hand (oi := ?oi116) ?hi116 (fun K hK => ?hh116)
      case hi116 => (simp only [List.getElem?_toArray, List.getElem?_cons_succ, List.getElem?_cons_zero]; rfl)
      go_simp
      refine hK.out _ _ (heldC_two (fun h => absurd h (by simp)) (fun _ => trivial)) (fun hF => ?_)
      clear hK K
      try simp only [Act.put, List.setIfInBounds_toArray, List.set_cons_zero, List.set_cons_succ]
      refine wpG_ready (rs := [16]) (by kernel_rfl) (by simp) ?_
      refine all_one ?_
      refine wpOp_hand (oi := ?oi117) ?hi117 (fun K hK => ?hh117)
      case hi117 => (simp only [List.getElem?_toArray, List.getElem?_cons_succ, List.getElem?_cons_zero]; rfl)
      go_simp
      refine hK.out _ _ (heldC_two (fun h => absurd h (by simp)) (fun h => absurd h (by simp))) (fun hF => ?_)
      clear hK K
      try simp only [Act.put, List.setIfInBounds_toArray, List.set_cons_zero, List.set_cons_succ]
      refine wpG_done (by kernel_rfl) ?_ _
      clear f0 f1 f2 f3 f4
      go_wp2_with fail
      go_meet
      exact ⟨kb, Am, cm, Bm, bm, rfl, rfl, hs3, hN.set _ _, figW_set hG hN _ _, (hf.2.setCell (p := ⟨kb, 0, none⟩) hs3 _).setCell (p := ⟨kb, 1, none⟩) hs3 _⟩
  case rest =>
    obtain ⟨kg, A', c', B', bc', rfl, rfl, hkg, hG, hFg, hb⟩ := hcut
    have HGG := Lib.hid hG; have HFG := Lib.hid hFg; have HGf := Lib.hid (HG.out.below hb); have HFf := Lib.hid (HFV.out.below hb); have Hbw := Lib.hid (HbV.out.trans (hb.mono HbV.out.size))
    clear hG hFg hb HG HFV HbV HMAP HhX bX
    have e0 : 0 < N → ∀ k, k ≤ N → lowF (ptNums (shX xs) (shX ys) N) 0 k = (mnF (shX xs) k, 1) ∧ lowF (ptNums (shX xs) (shX ys) N) 2 k = (mnF (shX ys) k, 1) := fun h => lowF_whole _ N _ _ h (ptNums_at _ _ _)
    have e1 : 0 < N → ∀ k, k ≤ N → highF (ptNums (shX xs) (shX ys) N) 0 k = (mgF (shX xs) k, 1) ∧ highF (ptNums (shX xs) (shX ys) N) 2 k = (mgF (shX ys) k, 1) := fun h => highF_whole _ N _ _ h (ptNums_at _ _ _)
    have e2 : 0 < N → ∀ k, k ≤ N → lowF (ptNums (fun i => shX xs i + c) (fun i => shX ys i + d) N) 0 k = (mnF (shX xs) k + c, 1) ∧ lowF (ptNums (fun i => shX xs i + c) (fun i => shX ys i + d) N) 2 k = (mnF (shX ys) k + d, 1) := fun h k hk => by
      have := lowF_whole _ N _ _ h (ptNums_at (fun i => shX xs i + c) (fun i => shX ys i + d) N) k hk
      rwa [mnF_shift, mnF_shift] at this
    have e3 : 0 < N → ∀ k, k ≤ N → highF (ptNums (fun i => shX xs i + c) (fun i => shX ys i + d) N) 0 k = (mgF (shX xs) k + c, 1) ∧ highF (ptNums (fun i => shX xs i + c) (fun i => shX ys i + d) N) 2 k = (mgF (shX ys) k + d, 1) := fun h k hk => by
      have := highF_whole _ N _ _ h (ptNums_at (fun i => shX xs i + c) (fun i => shX ys i + d) N) k hk
      rwa [mgF_shift, mgF_shift] at this
    have E0 := Lib.hid e0; have E1 := Lib.hid e1; have E2 := Lib.hid e2; have E3 := Lib.hid e3
    clear e0 e1 e2 e3
    rcases Nat.eq_zero_or_pos N with hz | hpos
    · subst hz
      have x0 := HGf.out.c0; have x1 := HGf.out.c1; have xl := HGf.out.lt
      go_wp2_with fail
      refine Calls.mono (fbox_nil A cA _ B m bc _ HFf.out) ?_
      rintro er w4 ⟨rfl, hb⟩
      clear x0 x1 xl
      go_upto_region 7 with fail
      have P4 := (PtBox.new w4 0 0 0 0).alloc (.cells #[.int .i64 0, .int .i64 0, .int .i64 0, .int .i64 0] 40)
      have Q4 := PtBox.new (w4.alloc (.cells #[.int .i64 0, .int .i64 0, .int .i64 0, .int .i64 0] 40)) 0 0 0 0
      simp only [World.size_alloc] at Q4
      have bf := hb.trans ((((Below.refl w4.heap.size w4).alloc (Nat.le_refl _) (.cells #[.int .i64 0, .int .i64 0, .int .i64 0, .int .i64 0] 40)).alloc (by simp) (.cells #[.int .i64 0, .int .i64 0, .int .i64 0, .int .i64 0] 40)).mono hb.size)
      obtain ⟨k4, hk4⟩ : ∃ b, b = w4.heap.size := ⟨_, rfl⟩
      obtain ⟨U4, hU4⟩ : ∃ U, U = (w4.alloc (.cells #[.int .i64 0, .int .i64 0, .int .i64 0, .int .i64 0] 40)).alloc (.cells #[.int .i64 0, .int .i64 0, .int .i64 0, .int .i64 0] 40) := ⟨_, rfl⟩
      rw [← hU4, ← hk4] at P4 Q4 ⊢
      rw [← hU4] at bf
      have HP4 := Lib.hid P4; have HQ4 := Lib.hid Q4
      have HG4 := Lib.hid (HGf.out.below bf); have HK4 := Lib.hid (HGG.out.below bf); have HF4 := Lib.hid (HFG.out.below bf); have Hb4 := Lib.hid (Hbw.out.trans (bf.mono Hbw.out.size))
      clear hb bf hU4 hk4 P4 Q4 HGf HGG HFf HFG Hbw
      have x0 := HK4.out.c0; have x1 := HK4.out.c1; have xl := HK4.out.lt
      go_wp2_with fail
      refine Calls.mono (fbox_nil A' c' _ B' m bc' _ HF4.out) ?_
      rintro er w5 ⟨rfl, hb⟩
      clear x0 x1 xl
      go_upto_region 8 with fail
      have P5 := (PtBox.new w5 0 0 0 0).alloc (.cells #[.int .i64 0, .int .i64 0, .int .i64 0, .int .i64 0] 40)
      have Q5 := PtBox.new (w5.alloc (.cells #[.int .i64 0, .int .i64 0, .int .i64 0, .int .i64 0] 40)) 0 0 0 0
      simp only [World.size_alloc] at Q5
      have bf := hb.trans ((((Below.refl w5.heap.size w5).alloc (Nat.le_refl _) (.cells #[.int .i64 0, .int .i64 0, .int .i64 0, .int .i64 0] 40)).alloc (by simp) (.cells #[.int .i64 0, .int .i64 0, .int .i64 0, .int .i64 0] 40)).mono hb.size)
      obtain ⟨k5, hk5⟩ : ∃ b, b = w5.heap.size := ⟨_, rfl⟩
      obtain ⟨U5, hU5⟩ : ∃ U, U = (w5.alloc (.cells #[.int .i64 0, .int .i64 0, .int .i64 0, .int .i64 0] 40)).alloc (.cells #[.int .i64 0, .int .i64 0, .int .i64 0, .int .i64 0] 40) := ⟨_, rfl⟩
      rw [← hU5, ← hk5] at P5 Q5 ⊢
      rw [← hU5] at bf
      have HP5 := Lib.hid P5; have HQ5 := Lib.hid Q5
      have HG5 := Lib.hid (HG4.out.below bf); have HP4' := Lib.hid (HP4.out.below bf); have HQ4' := Lib.hid (HQ4.out.below bf); have Hb5 := Lib.hid (Hb4.out.trans (bf.mono Hb4.out.size))
      clear hb bf hU5 hk5 P5 Q5 HG4 HK4 HF4 Hb4 HP4 HQ4
      have x0 := HG5.out.c0; have xl := HG5.out.lt
      go_wp2_with fail
      go_ret
      exact ⟨rfl, Hb5.out⟩
    · obtain ⟨la, hla⟩ : ∃ x, x = mnF (shX xs) N := ⟨_, rfl⟩
      obtain ⟨le, hle⟩ : ∃ x, x = mnF (shX ys) N := ⟨_, rfl⟩
      obtain ⟨ha, hha⟩ : ∃ x, x = mgF (shX xs) N := ⟨_, rfl⟩
      obtain ⟨he, hhe⟩ : ∃ x, x = mgF (shX ys) N := ⟨_, rfl⟩
      obtain ⟨sa, hsa⟩ : ∃ x, x = la + c := ⟨_, rfl⟩
      obtain ⟨se, hse⟩ : ∃ x, x = le + d := ⟨_, rfl⟩
      obtain ⟨ta, hta⟩ : ∃ x, x = ha + c := ⟨_, rfl⟩
      obtain ⟨te, hte⟩ : ∃ x, x = he + d := ⟨_, rfl⟩
      have b1 := mnF_bnd (shX xs) N 999 hpos (fun i _ => shX_bnd xs i) N (Nat.le_refl _)
      have b2 := mnF_bnd (shX ys) N 999 hpos (fun i _ => shX_bnd ys i) N (Nat.le_refl _)
      have b3 := mgF_bnd (shX xs) N 999 hpos (fun i _ => shX_bnd xs i) N (Nat.le_refl _)
      have b4 := mgF_bnd (shX ys) N 999 hpos (fun i _ => shX_bnd ys i) N (Nat.le_refl _)
      have hcb := CB.out; have hdb := DB.out
      rw [← hla] at b1; rw [← hle] at b2; rw [← hha] at b3; rw [← hhe] at b4
      have p1 : IntKind.i64.wrap (la + c) = sa := by rw [hsa]; exact IntWalk.i64_in _ (by omega)
      have p2 : IntKind.i64.wrap (le + d) = se := by rw [hse]; exact IntWalk.i64_in _ (by omega)
      have p3 : IntKind.i64.wrap (ha + c) = ta := by rw [hta]; exact IntWalk.i64_in _ (by omega)
      have p4 : IntKind.i64.wrap (he + d) = te := by rw [hte]; exact IntWalk.i64_in _ (by omega)
      have bxf := fun W (hW : FigW W A N cA (shNums xs ys N) B m bc) => fbox_ok A N cA _ B m bc W hW hpos
      have bxg := fun W (hW : FigW W A' N c' (ptNums (fun i => shX xs i + c) (fun i => shX ys i + d) N) B' m bc') => fbox_ok A' N c' _ B' m bc' W hW hpos
      rw [(E0.out hpos N (Nat.le_refl _)).1, (E0.out hpos N (Nat.le_refl _)).2, (E1.out hpos N (Nat.le_refl _)).1, (E1.out hpos N (Nat.le_refl _)).2, ← hla, ← hle, ← hha, ← hhe] at bxf
      rw [(E2.out hpos N (Nat.le_refl _)).1, (E2.out hpos N (Nat.le_refl _)).2, (E3.out hpos N (Nat.le_refl _)).1, (E3.out hpos N (Nat.le_refl _)).2, ← hla, ← hle, ← hha, ← hhe, ← hsa, ← hse, ← hta, ← hte] at bxg
      unfold lhV at bxf bxg
      have BXF := Lib.hid bxf; have BXG := Lib.hid bxg
      clear bxf bxg b1 b2 b3 b4 hcb hdb hla hle hha hhe hsa hse hta hte E0 E1 E2 E3
      have x0 := HGf.out.c0; have x1 := HGf.out.c1; have xl := HGf.out.lt
      go_wp2_with fail
      refine Calls.mono (BXF.out _ HFf.out) ?_
      rintro er w4 ⟨rfl, hb⟩
      clear x0 x1 xl
      go_upto_region 7 with fail
      have P4 := (PtBox.new w4 la 1 le 1).alloc (.cells #[.int .i64 ha, .int .i64 1, .int .i64 he, .int .i64 1] 40)
      have Q4 := PtBox.new (w4.alloc (.cells #[.int .i64 la, .int .i64 1, .int .i64 le, .int .i64 1] 40)) ha 1 he 1
      simp only [World.size_alloc] at Q4
      have bf := hb.trans ((((Below.refl w4.heap.size w4).alloc (Nat.le_refl _) (.cells #[.int .i64 la, .int .i64 1, .int .i64 le, .int .i64 1] 40)).alloc (by simp) (.cells #[.int .i64 ha, .int .i64 1, .int .i64 he, .int .i64 1] 40)).mono hb.size)
      obtain ⟨k4, hk4⟩ : ∃ b, b = w4.heap.size := ⟨_, rfl⟩
      obtain ⟨U4, hU4⟩ : ∃ U, U = (w4.alloc (.cells #[.int .i64 la, .int .i64 1, .int .i64 le, .int .i64 1] 40)).alloc (.cells #[.int .i64 ha, .int .i64 1, .int .i64 he, .int .i64 1] 40) := ⟨_, rfl⟩
      rw [← hU4, ← hk4] at P4 Q4 ⊢
      rw [← hU4] at bf
      have HP4 := Lib.hid P4; have HQ4 := Lib.hid Q4
      have HG4 := Lib.hid (HGf.out.below bf); have HK4 := Lib.hid (HGG.out.below bf); have HF4 := Lib.hid (HFG.out.below bf); have Hb4 := Lib.hid (Hbw.out.trans (bf.mono Hbw.out.size))
      clear hb bf hU4 hk4 P4 Q4 HGf HGG HFf HFG Hbw
      have x0 := HK4.out.c0; have x1 := HK4.out.c1; have xl := HK4.out.lt
      go_wp2_with fail
      refine Calls.mono (BXG.out _ HF4.out) ?_
      rintro er w5 ⟨rfl, hb⟩
      clear x0 x1 xl
      go_upto_region 8 with fail
      have P5 := (PtBox.new w5 sa 1 se 1).alloc (.cells #[.int .i64 ta, .int .i64 1, .int .i64 te, .int .i64 1] 40)
      have Q5 := PtBox.new (w5.alloc (.cells #[.int .i64 sa, .int .i64 1, .int .i64 se, .int .i64 1] 40)) ta 1 te 1
      simp only [World.size_alloc] at Q5
      have bf := hb.trans ((((Below.refl w5.heap.size w5).alloc (Nat.le_refl _) (.cells #[.int .i64 sa, .int .i64 1, .int .i64 se, .int .i64 1] 40)).alloc (by simp) (.cells #[.int .i64 ta, .int .i64 1, .int .i64 te, .int .i64 1] 40)).mono hb.size)
      obtain ⟨k5, hk5⟩ : ∃ b, b = w5.heap.size := ⟨_, rfl⟩
      obtain ⟨U5, hU5⟩ : ∃ U, U = (w5.alloc (.cells #[.int .i64 sa, .int .i64 1, .int .i64 se, .int .i64 1] 40)).alloc (.cells #[.int .i64 ta, .int .i64 1, .int .i64 te, .int .i64 1] 40) := ⟨_, rfl⟩
      rw [← hU5, ← hk5] at P5 Q5 ⊢
      rw [← hU5] at bf
      have HP5 := Lib.hid P5; have HQ5 := Lib.hid Q5
      have HG5 := Lib.hid (HG4.out.below bf); have HP4' := Lib.hid (HP4.out.below bf); have HQ4' := Lib.hid (HQ4.out.below bf); have Hb5 := Lib.hid (Hb4.out.trans (bf.mono Hb4.out.size))
      clear hb bf hU5 hk5 P5 Q5 HG4 HK4 HF4 Hb4 HP4 HQ4
      have x0 := HG5.out.c0; have xl := HG5.out.lt
      have n0 : ¬ (N : Int) = 0 := by omega
      have y0 := HP4'.out.c0; have y2 := HP4'.out.c2; have yl := HP4'.out.lt
      have z0 := HQ4'.out.c0; have z2 := HQ4'.out.c2; have zl := HQ4'.out.lt
      have u0 := HP5.out.c0; have u2 := HP5.out.c2; have ul := HP5.out.lt
      have v0 := HQ5.out.c0; have v2 := HQ5.out.c2; have vl := HQ5.out.lt
      go_wp2_with fail
      go_ret
      exact ⟨rfl, Hb5.out⟩
end Go.Proofs.YtbehickhaidliaaDoor
