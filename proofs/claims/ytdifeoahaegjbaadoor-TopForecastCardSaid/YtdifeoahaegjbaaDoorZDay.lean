/- line.Day, forecast.day: bounds. -/
import Derived.Test.YtdifeoahaegjbaaDoorZLine
import Derived.Test.YtdifeoahaegjbaaDoorZRules
import Derived.Deep.RegionHeld3
namespace Go.Proofs.YtdifeoahaegjbaaDoor
open Go.RowKit
set_option linter.unusedSimpArgs false
set_option linter.unusedVariables false

def dtF (y m d : Int) : Nat → Value := fun i => if i = 0 then .int .i64 y else if i = 1 then .int .i64 m else .int .i64 d
/-- Block b holds a date. -/
def DtBox (w : World) (b : Nat) (y m d : Int) : Prop := w.rowIs b 85 3 (dtF y m d)
section
variable {w w' : World} {b : Nat} {y m d : Int}
theorem DtBox.c0 (h : DtBox w b y m d) : w.cell? ⟨b, 0, none⟩ = some (.int .i64 y) := World.rowIs.cell h (i := 0) (by omega)
theorem DtBox.c1 (h : DtBox w b y m d) : w.cell? ⟨b, 1, none⟩ = some (.int .i64 m) := World.rowIs.cell h (i := 1) (by omega)
theorem DtBox.c2 (h : DtBox w b y m d) : w.cell? ⟨b, 2, none⟩ = some (.int .i64 d) := World.rowIs.cell h (i := 2) (by omega)
theorem DtBox.lt (h : DtBox w b y m d) : b < w.heap.size := World.rowIs.lt h
theorem DtBox.alloc (h : DtBox w b y m d) (o : Obj) : DtBox (w.alloc o) b y m d := World.rowIs.alloc h o
theorem DtBox.below (h : DtBox w b y m d) (hb : Below w.heap.size w w') : DtBox w' b y m d := World.rowIs.of_block h (hb.block b (World.rowIs.lt h))
theorem DtBox.new (w : World) (y m d : Int) : DtBox (w.alloc (.cells #[.int .i64 y, .int .i64 m, .int .i64 d] 85)) w.heap.size y m d :=
  World.rowIs_alloc w #[.int .i64 y, .int .i64 m, .int .i64 d] 85 (dtF y m d) (fun i hi => by
    match i, hi with
    | 0, _ => rfl
    | 1, _ => rfl
    | 2, _ => rfl)
end

set_option maxRecDepth 100000 in
set_option maxHeartbeats 4000000 in
theorem day_ok (y m : Int) (w : World) (hy : -10000 ≤ y ∧ y ≤ 10000) (hm : 1 ≤ m ∧ m ≤ 12) :
    Calls Tryd.prog 43 #[.agg #[.int .i64 y, .int .i64 m, .int .i64 1]] w fun e w' => ∃ r, (-3750000 ≤ r ∧ r ≤ 3750000) ∧ e = .returned (.tuple #[.int .i64 r, .int .i64 0]) ∧ Below w.heap.size w w' := by
  have hnb := newF_bd y hy
  have HN := Lib.hid (fun W => newYear_ok y W hy)
  obtain ⟨N, hN⟩ : ∃ N, N = newF y := ⟨_, rfl⟩
  rw [← hN] at HN hnb
  have NB := Lib.hid hnb
  obtain ⟨f, hfe⟩ : ∃ f, f = febF y := ⟨_, rfl⟩
  have hf := febF_bd y
  have HL := Lib.hid (fun W => lengths_ok y W)
  rw [← hfe] at hf HL
  have HF := Lib.hid hf
  clear hfe hf
  have M0 := Lib.hid hm
  have HD := Lib.hid (DtBox.new w y m 1)
  have Hb := Lib.hid ((Below.refl w.heap.size w).alloc (Nat.le_refl _) (.cells #[.int .i64 y, .int .i64 m, .int .i64 1] 85))
  have t1 : decide (y < -10000) = false := decide_eq_false (by omega)
  have t2 : decide (10000 < y) = false := decide_eq_false (by omega)
  have t3 : decide (m < 1) = false := decide_eq_false (by omega)
  have t4 : decide (12 < m) = false := decide_eq_false (by omega)
  obtain ⟨k, hk⟩ : ∃ k, k = w.heap.size := ⟨_, rfl⟩
  have HK := Lib.hid hk
  rw [← hk] at HD
  clear hy hm hN hnb
  go_enter Tryd.func43, Tryd.ntmps43
  go_upto_region 1 with fail
  obtain ⟨V, hV⟩ : ∃ V, V = w.alloc (.cells #[.int .i64 y, .int .i64 m, .int .i64 1] 85) := ⟨_, rfl⟩
  rw [← hV] at HD Hb ⊢
  rw [← hk]
  clear hV hk
  have x0 := HD.out.c0; have x1 := HD.out.c1; have x2 := HD.out.c2; have xl := HD.out.lt
  go_wp2_with fail
  refine Calls.mono (HL.out _) ?_
  rintro e w1 ⟨rfl, hb⟩
  have HD1 := Lib.hid ((HD.out.below hb).alloc (.cells (lenC f) 86))
  have HL1 := Lib.hid (LnBox.new w1 f)
  have Hb1 := Lib.hid ((Hb.out.trans (hb.mono Hb.out.size)).alloc (by have := Hb.out.size; have := hb.size; omega) (.cells (lenC f) 86))
  clear hb x0 x1 x2 xl HD Hb
  rw [show lenC f = #[.int .i64 31, .int .i64 f, .int .i64 31, .int .i64 30, .int .i64 31, .int .i64 30, .int .i64 31, .int .i64 31, .int .i64 30, .int .i64 31, .int .i64 30, .int .i64 31] from rfl]
  go_upto_region 4 with fail
  obtain ⟨j, hj⟩ : ∃ j : Nat, m = (j : Int) + 1 := ⟨(m - 1).toNat, by have := M0.out; omega⟩
  have hj12 : j < 12 := by have := M0.out; omega
  have hsub : m - 1 = (j : Int) := by omega
  have cl := HL1.out.cell j hj12
  have hL := mLen_bnd HF.out j
  obtain ⟨L, hLL⟩ : ∃ L, L = mLen f j := ⟨_, rfl⟩
  rw [← hLL] at cl hL
  have HLB := Lib.hid hL
  obtain ⟨k1, hk1⟩ : ∃ k1, k1 = w1.heap.size := ⟨_, rfl⟩
  obtain ⟨X, hX⟩ : ∃ X, X = w1.alloc (.cells #[.int .i64 31, .int .i64 f, .int .i64 31, .int .i64 30, .int .i64 31, .int .i64 30, .int .i64 31, .int .i64 31, .int .i64 30, .int .i64 31, .int .i64 30, .int .i64 31] 86) := ⟨_, rfl⟩
  have hX' : w1.alloc (.cells (lenC f) 86) = X := hX.symm
  rw [hX'] at HD1 HL1 Hb1 cl
  rw [← hk1] at HL1 cl
  rw [← hX, ← hk1]
  clear hX hX' hLL hL hk1
  have x0 := HD1.out.c0; have x1 := HD1.out.c1; have x2 := HD1.out.c2; have xl := HD1.out.lt
  have yl := HL1.out.lt
  have t5 : decide (L < 1) = false := decide_eq_false (by have := HLB.out; omega)
  have j0 : (0 : Int) ≤ (j : Int) := by omega
  have j1 : (j : Int) < 12 := by omega
  have HJ := Lib.hid hj
  clear hj
  go_quiet (fail)
  obtain ⟨Y, hY⟩ : ∃ Y, Y = X.drewN nq := ⟨_, rfl⟩
  have hXY : Below X.heap.size X Y := by rw [hY]; exact below_drewN (Below.refl _ _) nq
  have HD2 := Lib.hid (HD1.out.below hXY); have HL2 := Lib.hid (HL1.out.below hXY); have Hb2 := Lib.hid (Hb1.out.trans (hXY.mono Hb1.out.size))
  rw [← hY]
  clear hY hXY HD1 HL1 Hb1 x0 x1 x2 xl yl cl t1 t2 t3 t4 t5 j0 j1 hsub
  go_wp2_with fail
  have p1 : IntKind.i64.wrap (N + 1) = N + 1 := IntWalk.i64_in _ (by have := NB.out; omega)
  have p2 : IntKind.i64.wrap N = N := IntWalk.i64_in _ (by have := NB.out; omega)
  obtain ⟨Q, hQ⟩ : ∃ Q, Q = (Y).drew := ⟨_, rfl⟩
  have xQ0 : Q.cell? ⟨k, 0, none⟩ = some (.int .i64 y) := by rw [hQ]; exact (HD2.out.c0)
  have xQ1 : Q.cell? ⟨k, 2, none⟩ = some (.int .i64 1) := by rw [hQ]; exact (HD2.out.c2)
  have lQ0 : k < Q.heap.size := by rw [hQ]; exact (HD2.out.lt)
  have bQ : Below w.heap.size w Q := by rw [hQ]; exact (Hb2.out).drew
  have HxQ0 := Lib.hid xQ0
  have HxQ1 := Lib.hid xQ1
  have HlQ0 := Lib.hid lQ0
  have HbQ := Lib.hid bQ
  have HhQ := Lib.hid hQ
  clear xQ0 xQ1 lQ0 bQ hQ
  go_region_held3 (fun w' => w'.cell? ⟨k, 0, none⟩ = some (.int .i64 y) ∧ w'.cell? ⟨k, 2, none⟩ = some (.int .i64 1) ∧ Below Q.heap.size Q w')
    (((try dsimp only); repeat' apply And.intro) <;> (first | (with_reducible assumption) | (go_split_ands; (with_reducible assumption)) | (rw [← HhQ.out]; (first | exact Below.refl _ _ | exact HxQ0.out | exact HxQ1.out)) | go_keep))
    (first
      | ((try go_split_ands); go_at_call 52; refine Calls.mono (HN.out _) ?_; rintro e wq ⟨rfl, hb⟩; (try go_split_ands); have qB : Below Q.heap.size Q wq := (bX_more (by with_reducible assumption) hb); have m0 := bX_oldc qB HlQ0.out HxQ0.out; have m1 := bX_oldc qB HlQ0.out HxQ1.out; clear hb))
  have hYq : Below Y.heap.size Y wq := bX_back (by rw [HhQ.out]; exact (Below.refl _ _).drew) qB
  have HD3 := Lib.hid (HD2.out.below hYq); have HL3 := Lib.hid (HL2.out.below hYq); have Hb3 := Lib.hid (Hb2.out.trans (hYq.mono Hb2.out.size))
  go_split_ands
  clear p1 p2 hYq qB HD2 HL2 Hb2 HN
  have x1 := HD3.out.c1; have xl := HD3.out.lt; have yl := HL3.out.lt
  have hj := HJ.out
  have hsub : m - 1 = (j : Int) := by omega
  have j0 : (0 : Int) ≤ (j : Int) := by omega
  have j1 : (j : Int) ≤ 12 := by omega
  clear hj
  go_wp2_with fail
  clear x1 xl yl j0 j1 hsub
  go_loopw [5, 54] (fun s5 i' wv => ∃ (i : Nat) (o : Int), i ≤ j ∧ i' = .int .i64 i ∧ s5 = .int .i64 o ∧ (N ≤ o ∧ o ≤ N + 31 * i) ∧ LnBox wv k1 f ∧ Below w.heap.size w wv) (fun _ i' _ => j - (intOf i').toNat)
  case atStart => exact ⟨0, N, by omega, rfl, rfl, by omega, HL3.out, Hb3.out⟩
  case round =>
    clear HD3 HL3 Hb3
    obtain ⟨i, o, hi, rfl, rfl, ho, hl, hb⟩ := hrel
    have HLn := Lib.hid hl; have Hb := Lib.hid hb; have HO := Lib.hid ho
    clear hl hb ho
    by_cases hij : i < j
    · have cl := HLn.out.cell i (by omega)
      have hL := mLen_bnd HF.out i
      obtain ⟨L2, hLL⟩ : ∃ L, L = mLen f i := ⟨_, rfl⟩
      rw [← hLL] at cl hL
      have HLB2 := Lib.hid hL
      have i0 : (0 : Int) ≤ (i : Int) := by omega
      have i1 : (i : Int) < (j : Int) := by omega
      have i2 : (i : Int) < 12 := by omega
      have p1 : IntKind.i64.wrap (o + L2) = o + L2 := IntWalk.i64_in _ (by have := HO.out; have := NB.out; omega)
      clear hLL hL
      go_wp2_with fail
      go_roundw
      case rel => exact ⟨i + 1, o + L2, by omega, by go_num, rfl, by have := HO.out; have := HLB2.out; omega, HLn.out, Hb.out⟩
      case measure => simp [intOf]; omega
    · obtain rfl : i = j := by omega
      go_wp2_with fail
      go_returns
      exact ⟨o, by have := HO.out; have := NB.out; omega, rfl, Hb.out⟩

set_option maxRecDepth 100000 in
set_option maxHeartbeats 4000000 in
theorem fday_ok (r : Rul) (y : Int) (w : World) (hr : RulOk r) (hy : -10000 ≤ y ∧ y ≤ 10000) :
    Calls Tryd.prog 31 #[.agg #[.int .i64 r.mo, .int .i64 r.we, .int .i64 r.wd, .int .i64 r.ms, .int .i64 r.off, .string r.lab], .int .i64 y] w fun e w' => ∃ d, (-4000000 ≤ d ∧ d ≤ 4000000) ∧ e = .returned (.int .i64 d) ∧ Below w.heap.size w w' := by
  obtain ⟨m, we, wd, ms, off, lab⟩ := r
  have hm : 1 ≤ m ∧ m ≤ 12 := ⟨hr.m1, hr.m2⟩
  have hwe : 1 ≤ we ∧ we ≤ 5 := ⟨hr.w1, hr.w2⟩
  have hwd : 0 ≤ wd ∧ wd ≤ 6 := ⟨hr.d1, hr.d2⟩
  have HM := Lib.hid hm; have HWE := Lib.hid hwe; have HWD := Lib.hid hwd
  have HB := Lib.hid (RbBox.new w ⟨m, we, wd, ms, off, lab⟩)
  have Hb := Lib.hid ((Below.refl w.heap.size w).alloc (Nat.le_refl _) (.cells #[.int .i64 m, .int .i64 we, .int .i64 wd, .int .i64 ms, .int .i64 off, .string lab] 27))
  have HDY := Lib.hid (fun W => day_ok y m W hy hm)
  obtain ⟨f, hfe⟩ : ∃ f, f = febF y := ⟨_, rfl⟩
  have hf := febF_bd y
  have HLE := Lib.hid (fun W => lengths_ok y W)
  rw [← hfe] at hf HLE
  have HF := Lib.hid hf
  clear hfe hf
  obtain ⟨k, hk⟩ : ∃ k, k = w.heap.size := ⟨_, rfl⟩
  clear hr hm hwe hwd hy
  show Calls Tryd.prog 31 #[.agg #[.int .i64 m, .int .i64 we, .int .i64 wd, .int .i64 ms, .int .i64 off, .string lab], .int .i64 y] w _
  dsimp only at HB
  go_enter Tryd.func31, Tryd.ntmps31
  go_upto_region 1 with fail
  obtain ⟨V, hV⟩ : ∃ V, V = w.alloc (.cells #[.int .i64 m, .int .i64 we, .int .i64 wd, .int .i64 ms, .int .i64 off, .string lab] 27) := ⟨_, rfl⟩
  rw [← hV] at HB Hb ⊢
  rw [← hk] at HB ⊢
  clear hV hk
  have x0 : V.cell? ⟨k, 0, none⟩ = some (.int .i64 m) := HB.out.c0
  have xl := HB.out.lt
  go_wp2_with fail
  refine Calls.mono (HDY.out _) ?_
  rintro e w1 ⟨d, hd, rfl, hb⟩
  have HD := Lib.hid hd; have HB1 := Lib.hid (HB.out.below hb); have Hb1 := Lib.hid (Hb.out.trans (hb.mono Hb.out.size))
  clear hd hb x0 xl HB Hb
  have x0 : w1.cell? ⟨k, 0, none⟩ = some (.int .i64 m) := HB1.out.c0
  have x1 : w1.cell? ⟨k, 1, none⟩ = some (.int .i64 we) := HB1.out.c1
  have x2 : w1.cell? ⟨k, 2, none⟩ = some (.int .i64 wd) := HB1.out.c2
  have xl := HB1.out.lt
  by_cases h5 : we = 5
  · subst h5
    go_upto_region 4 with fail
    clear x0 x1 x2 xl
    obtain ⟨j, hj⟩ : ∃ j : Nat, m = (j : Int) + 1 := ⟨(m - 1).toNat, by have := HM.out; omega⟩
    have hj12 : j < 12 := by have := HM.out; omega
    have hsub : m - 1 = (j : Int) := by omega
    have ix := lenC_at f j hj12
    have hL := mLen_bnd HF.out j
    obtain ⟨L, hLL⟩ : ∃ L, L = mLen f j := ⟨_, rfl⟩
    rw [← hLL] at ix hL
    have HLB := Lib.hid hL; have HJ := Lib.hid hj
    have p1 : IntKind.i64.wrap (d + L) = d + L := IntWalk.i64_in _ (by have := HD.out; omega)
    have p2 : IntKind.i64.wrap (d + L - 1) = d + L - 1 := IntWalk.i64_in _ (by have := HD.out; omega)
    have p3 : IntKind.i64.wrap (j : Int) = (j : Int) := IntWalk.i64_in _ (by omega)
    clear hLL hL hj
    obtain ⟨Q, hQ⟩ : ∃ Q, Q = (w1).drew := ⟨_, rfl⟩
    have xQ0 : Q.cell? ⟨k, 0, none⟩ = some (.int .i64 m) := by rw [hQ]; exact (HB1.out.c0)
    have lQ0 : k < Q.heap.size := by rw [hQ]; exact (HB1.out.lt)
    have bQ : Below w.heap.size w Q := by rw [hQ]; exact (Hb1.out).drew
    have HxQ0 := Lib.hid xQ0
    have HlQ0 := Lib.hid lQ0
    have HbQ := Lib.hid bQ
    have HhQ := Lib.hid hQ
    clear xQ0 lQ0 bQ hQ
    go_region_held3 (fun w' => w'.cell? ⟨k, 0, none⟩ = some (.int .i64 m) ∧ Below Q.heap.size Q w')
      (((try dsimp only); repeat' apply And.intro) <;> (first | (with_reducible assumption) | (go_split_ands; (with_reducible assumption)) | (rw [← HhQ.out]; (first | exact Below.refl _ _ | exact HxQ0.out)) | go_keep))
      (first
        | ((try go_split_ands); go_at_call 44; refine Calls.mono (HLE.out _) ?_; rintro e wq ⟨rfl, hb⟩; (try go_split_ands); have qB : Below Q.heap.size Q wq := (bX_more (by with_reducible assumption) hb); have m0 := bX_oldc qB HlQ0.out HxQ0.out; clear hb))
    have hYq : Below w1.heap.size w1 wq := bX_back (by rw [HhQ.out]; exact (Below.refl _ _).drew) qB
    have HB2 := Lib.hid (HB1.out.below hYq); have Hb2 := Lib.hid (Hb1.out.trans (hYq.mono Hb1.out.size))
    go_split_ands
    clear qB hYq HB1 Hb1 p1 p2 ix
    have x2 : wq.cell? ⟨k, 2, none⟩ = some (.int .i64 wd) := HB2.out.c2
    have xl := HB2.out.lt
    obtain ⟨D, hDD⟩ : ∃ D, D = d + L - 1 := ⟨_, rfl⟩
    have hDb : -3900000 ≤ D ∧ D ≤ 3900000 := by have := HD.out; have := HLB.out; omega
    have HN := Lib.hid (fun W => nth_ok D wd (-1) W hDb HWD.out (by omega))
    rw [← hDD]
    clear hDD hDb
    go_wp2_with fail
    refine Calls.mono (HN.out _) ?_
    rintro e w3 ⟨o, ho, rfl, hb⟩
    have HO := Lib.hid ho; have Hb3 := Lib.hid (Hb2.out.trans (hb.mono Hb2.out.size))
    clear ho hb x2 xl
    go_wp2_with fail
    go_ret
    exact ⟨o, HO.out, rfl, Hb3.out⟩
  · have t1 : (we == 5) = false := by simp [h5]
    have HN := Lib.hid (fun W => nth_ok d wd we W (by have := HD.out; omega) HWD.out (by have := HWE.out; omega))
    go_wp2_with fail
    refine Calls.mono (HN.out _) ?_
    rintro e w3 ⟨o, ho, rfl, hb⟩
    have HO := Lib.hid ho; have Hb3 := Lib.hid (Hb1.out.trans (hb.mono Hb1.out.size))
    clear ho hb x2 xl x0 x1
    go_wp2_with fail
    go_ret
    exact ⟨o, HO.out, rfl, Hb3.out⟩
end Go.Proofs.YtdifeoahaegjbaaDoor
