/- tide.Check, height, Height of permitted constituents. -/
import Derived.Test.YtdeoahgcppbmkaaDoorSer
import Derived.Test.YtdeoahgcppbmkaaDoorSumP
import Derived.Test.YtdeoahgcppbmkaaDoorBox
namespace Go.Proofs.YtdeoahgcppbmkaaDoor
open Go.RowKit
set_option linter.unusedSimpArgs false
set_option linter.unusedVariables false

/-- Permitted constituents. -/
structure TdOk (zs : List Int) (i : Nat) : Prop where
  a1 : 0 ≤ ix zs (i * 3)
  a2 : ix zs (i * 3) ≤ 20000
  p1 : 0 ≤ ix zs (i * 3 + 1)
  p2 : ix zs (i * 3 + 1) < 1000000000
  r1 : 1 ≤ ix zs (i * 3 + 2)
  r2 : ix zs (i * 3 + 2) ≤ 4000000000000000
def tdP (p : Int) : Int := (p + 250000000) % 1000000000
def tdW (zs : List Int) (t : Int) (i : Nat) : Nat := partW (ix zs (i * 3)) (tdP (ix zs (i * 3 + 1))) (ix zs (i * 3 + 2)) t
theorem td_mod {zs : List Int} {i : Nat} (h : TdOk zs i) (t : Int) : Mod' (tdW zs t i) := by
  obtain ⟨e, hp⟩ := part_ok (ix zs (i * 3)) (tdP (ix zs (i * 3 + 1))) (ix zs (i * 3 + 2)) t ⟨by have := h.a1; omega, by have := h.a2; omega⟩
  have a := hp.ap
  have a1 := a.lo; have a2 := a.bl; have a3 := a.hi; have a4 := a.bh; have f := a.fin
  clear a hp
  unfold tdW
  generalize partW (ix zs (i * 3)) (tdP (ix zs (i * 3 + 1))) (ix zs (i * 3 + 2)) t = x at *
  generalize ((ix zs (i * 3) : Int) : Rat) * sgnP e (8 * qq * (partV (tdP (ix zs (i * 3 + 1))) (ix zs (i * 3 + 2)) t / 1000000000) - (e : Rat) * qq) = y at *
  exact ⟨f, by grind, by grind⟩
/-- The interval of a height. -/
def hLo (zs : List Int) (n : Nat) (t : Int) : Int := if n = 0 then 0 else aLo (fsum (tdW zs t) n)
def hHi (zs : List Int) (n : Nat) (t : Int) : Int := if n = 0 then 0 else aHi (fsum (tdW zs t) n)
set_option maxRecDepth 100000 in
set_option maxHeartbeats 8000000 in
theorem tcheck_ok (A : Option Addr) (n cap : Nat) (zs : List Int) (w : World) (hF : FlatSl w 3 A n cap zs) (hn : n ≤ 12) (hz : ∀ i, i < n → TdOk zs i) :
    Calls Tryd.prog 74 #[.slice A n cap] w fun e w' => e = .returned (.int .i64 0) ∧ Below w.heap.size w w' := by
  have d4 : ¬ (12 : Int) < (n : Int) := by omega
  have HF := Lib.hid hF
  have HTM := Lib.hid hz
  clear hF hz
  go_enter Tryd.func74, Tryd.ntmps74
  go_wp2_with fail
  clear d4
  go_loopw [10] (fun i wr => ∃ k : Nat, k ≤ n ∧ i = .int .i64 k ∧ Below w.heap.size w wr) (fun i _ => n - (intOf i).toNat)
  case atStart => exact ⟨0, by omega, rfl, Below.refl _ _⟩
  case round =>
    obtain ⟨k, hk, rfl, hbl⟩ := hrel
    have hsz := hbl.size
    by_cases hlt : k < n
    · have i0 : (0 : Int) ≤ (k : Int) := by omega
      have i1 : (k : Int) < (n : Int) := by omega
      have i2 : (k : Int) < (cap : Int) := by have := HF.out.le; omega
      obtain ⟨q, o, hA, hc⟩ := HF.out.at' (by omega)
      have x0 := (hbl.cell (p := ⟨q, o + k * 3, none⟩) (cell_below (hc (k * 3) (by omega)))).trans (hc (k * 3) (by omega))
      have x1 := (hbl.cell (p := ⟨q, o + (k * 3 + 1), none⟩) (cell_below (hc (k * 3 + 1) (by omega)))).trans (hc (k * 3 + 1) (by omega))
      have x2 := (hbl.cell (p := ⟨q, o + (k * 3 + 2), none⟩) (cell_below (hc (k * 3 + 2) (by omega)))).trans (hc (k * 3 + 2) (by omega))
      rw [← Nat.add_assoc] at x1 x2
      subst hA
      obtain ⟨a1, a2, p1, p2, q1, q2⟩ := HTM.out k hlt
      generalize ix zs (k * 3) = ta at *
      generalize ix zs (k * 3 + 1) = tp at *
      generalize ix zs (k * 3 + 2) = tr at *
      have g1 : decide (ta < 0) = false := decide_eq_false (by omega)
      have g2 : decide (20000 < ta) = false := decide_eq_false (by omega)
      have g3 : decide (tp < 0) = false := decide_eq_false (by omega)
      have g4 : decide (1000000000 ≤ tp) = false := decide_eq_false (by omega)
      have g5 : decide (tr < 1) = false := decide_eq_false (by omega)
      have g6 : decide (4000000000000000 < tr) = false := decide_eq_false (by omega)
      have kb := Lib.hid (hbl.alloc hsz (.cells #[.int .i64 ta, .int .i64 tp, .int .i64 tr] 82))
      clear hc hbl
      go_wp2_with fail
      go_roundw
      case rel => exact ⟨k + 1, by omega, by go_num, kb.out⟩
      case measure => simp [intOf]; omega
    · obtain rfl : k = n := by omega
      go_wp2_with fail
      go_ret
      exact ⟨rfl, hbl⟩
theorem tdP_eq (p : Int) (h1 : 0 ≤ p) (h2 : p < 1000000000) : (p + 250000000).tmod 1000000000 = tdP p := Int.tmod_eq_emod_of_nonneg (by omega)
set_option maxRecDepth 100000 in
set_option maxHeartbeats 8000000 in
theorem theight_ok (t : Int) (A : Option Addr) (n cap : Nat) (zs : List Int) (w : World) (ht : SinT w) (hF : FlatSl w 3 A n cap zs) (hn : n ≤ 12) (hz : ∀ i, i < n → TdOk zs i) (hT : -350000000000000 ≤ t ∧ t ≤ 350000000000000) :
    Calls Tryd.prog 76 #[.slice A n cap, .int .i64 t] w fun e w' => e = .returned (.agg #[.int .i64 (hLo zs n t), .int .i64 (hHi zs n t)]) ∧ Below w.heap.size w w' := by
  rcases Nat.eq_zero_or_pos n with rfl | hpos
  · have e1 : hLo zs 0 t = 0 := rfl
    have e2 : hHi zs 0 t = 0 := rfl
    rw [e1, e2]
    clear hF hz hT ht e1 e2
    go_enter Tryd.func76, Tryd.ntmps76
    go_wp2_with fail
    refine bodyPost_ret (v := .agg #[.int .i64 0, .int .i64 0]) ?_ rfl ⟨rfl, (by repeat' (first | (with_reducible refine below_drewN ?_ _) | go_grown))⟩
    simp [results, Tryd.results76, go_sem, *]
  · have hmod : ∀ i, i < n → Mod' (tdW zs t i) := fun i hi => td_mod (hz i hi) t
    have AR := sum_around (n := n) (by omega) hmod
    have HAR := Lib.hid (fun w => Around_ok AR w)
    have HSS := Lib.hid (fun k (hk : k < n) => (sum_step (f := tdW zs t) (k := k) (by omega) (sum_ok (by omega) hmod k (by omega)) (hmod k hk)).1)
    have HP := Lib.hid (fun k (hk : k < n) w (ht : SinT w) => Part_ok (ix zs (k * 3)) (tdP (ix zs (k * 3 + 1))) (ix zs (k * 3 + 2)) t w ht ⟨by have := (hz k hk).a1; omega, by have := (hz k hk).a2; omega⟩ ⟨by unfold tdP; omega, by unfold tdP; omega⟩ ⟨by have := (hz k hk).r1; omega, (hz k hk).r2⟩ hT)
    have HTM := Lib.hid hz
    obtain ⟨fs, hfs⟩ : ∃ fs, fs = fsum (tdW zs t) := ⟨_, rfl⟩
    rw [← hfs] at HAR HSS
    have e1 : hLo zs n t = aLo (fs n) := by unfold hLo; rw [if_neg (by omega), hfs]
    have e2 : hHi zs n t = aHi (fs n) := by unfold hHi; rw [if_neg (by omega), hfs]
    rw [e1, e2]
    have f0 : fs 0 = 0 := by rw [hfs]; rfl
    have HF0 := Lib.hid f0
    generalize aLo (fs n) = lo at *
    generalize aHi (fs n) = hi at *
    have HT := Lib.hid ht
    have HF := Lib.hid hF
    have npos : (0 : Int) < (n : Int) := by omega
    have en0 : ((n : Int) == 0) = false := by simp; omega
    have B4' := Lib.hid (SpBox.new w 0 0)
    obtain ⟨b, hb⟩ : ∃ b, b = w.heap.size := ⟨_, rfl⟩
    rw [← hb] at B4'
    have BW := Lib.hid (show Below w.heap.size w (w.alloc (.cells #[.int .i64 0, .int .i64 0] 24)) from (by repeat' (first | (with_reducible refine below_drewN ?_ _) | go_grown)))
    clear AR hmod hF ht e1 e2 f0 hfs hz
    go_enter Tryd.func76, Tryd.ntmps76
    go_wp2_with fail
    rw [← hb]
    have HBB := Lib.hid hb
    clear hb
    (try rw [en0])
    clear en0
    go_loopw [5, 14] (fun v i wr => ∃ k : Nat, k ≤ n ∧ i = .int .i64 k ∧ v = .float .f64 (fs k) ∧ SpBox wr b 0 0 ∧ Below w.heap.size w wr) (fun _ i _ => n - (intOf i).toNat)
    case atStart => exact ⟨0, by omega, rfl, by rw [HF0.out], B4'.out, BW.out⟩
    case round =>
      clear B4' BW
      obtain ⟨k, hk, rfl, rfl, hB4, hbl⟩ := hrel
      have hsz := hbl.size
      by_cases hlt : k < n
      · have i0 : (0 : Int) ≤ (k : Int) := by omega
        have i1 : (k : Int) < (n : Int) := by omega
        have i2 : (k : Int) < (cap : Int) := by have := HF.out.le; omega
        obtain ⟨q, o, hA, hc⟩ := HF.out.at' hpos
        have x0 := (hbl.cell (p := ⟨q, o + k * 3, none⟩) (cell_below (hc (k * 3) (by omega)))).trans (hc (k * 3) (by omega))
        have x1 := (hbl.cell (p := ⟨q, o + (k * 3 + 1), none⟩) (cell_below (hc (k * 3 + 1) (by omega)))).trans (hc (k * 3 + 1) (by omega))
        have x2 := (hbl.cell (p := ⟨q, o + (k * 3 + 2), none⟩) (cell_below (hc (k * 3 + 2) (by omega)))).trans (hc (k * 3 + 2) (by omega))
        rw [← Nat.add_assoc] at x1 x2
        subst hA
        have P := Lib.hid (fun w ht => HP.out k hlt w ht)
        have hs := HSS.out k hlt
        have hw : tdW zs t k = partW (ix zs (k * 3)) (tdP (ix zs (k * 3 + 1))) (ix zs (k * 3 + 2)) t := rfl
        rw [hw] at hs
        generalize partW (ix zs (k * 3)) (tdP (ix zs (k * 3 + 1))) (ix zs (k * 3 + 2)) t = pw at *
        obtain ⟨-, -, p1, p2, -, -⟩ := HTM.out k hlt
        generalize ix zs (k * 3) = ta at *
        generalize ix zs (k * 3 + 1) = tp at *
        generalize ix zs (k * 3 + 2) = tr at *
        have ep := tdP_eq tp p1 p2
        have ew : IntKind.i64.wrap (tp + 250000000) = tp + 250000000 := IntWalk.i64_in _ (by omega)
        obtain ⟨tq, htq⟩ : ∃ x, x = tdP tp := ⟨_, rfl⟩
        rw [← htq] at P ep
        have tb : 0 ≤ tq ∧ tq < 1000000000 := by rw [htq]; unfold tdP; omega
        obtain ⟨tb1, tb2⟩ := tb
        obtain ⟨v', hv'⟩ : ∃ v', v' = fs (k + 1) := ⟨_, rfl⟩
        rw [← hv'] at hs
        have HV := Lib.hid hv'
        have hop := fop hs
        have bw := hbl.alloc hsz (.cells #[.int .i64 ta, .int .i64 tp, .int .i64 tr] 82)
        have g4 := Lib.hid (hB4.alloc (.cells #[.int .i64 ta, .int .i64 tp, .int .i64 tr] 82))
        have T9 := Lib.hid (HT.out.below bw)
        have gb := Lib.hid bw
        clear hc hw hs hv' bw hB4 hbl htq
        go_wp2_with fail
        refine Calls.mono (P.out _ T9.out) ?_
        rintro e w3 ⟨rfl, hb⟩
        have k4 := Lib.hid (g4.out.below hb); have kb := Lib.hid (gb.out.trans (hb.mono gb.out.size))
        clear hb x0 x1 x2
        go_wp2_with fail
        go_roundw
        case rel => exact ⟨k + 1, by omega, by go_num, by rw [HV.out], k4.out, kb.out⟩
        case measure => simp [intOf]; omega
      · obtain rfl : k = n := by omega
        have u0 := hB4.c0; have u1 := hB4.c1; have uf0 := hB4.free 0; have uf1 := hB4.free 1; have ul := hB4.lt
        have kb := Lib.hid hbl
        clear hB4 hbl
        go_wp2_with fail
        refine Calls.mono (HAR.out _) ?_
        rintro e w3 ⟨rfl, hb⟩
        obtain ⟨hc3, hf3⟩ := bcell hb
        have hz3 := hb.size
        have hbw3 := kb.out.trans (hb.mono kb.out.size)
        have z1 : b < w3.heap.size := by omega
        have HBW3 := Lib.hid hbw3
        clear hb hz3 hbw3
        go_wp2_with fail
        refine bodyPost_ret (v := .agg #[.int .i64 lo, .int .i64 hi]) ?_ rfl ⟨rfl, ?_⟩
        · simp [results, Tryd.results76, go_sem, *]
        · have hB := HBB.out
          have := HBW3.out.size
          have hs9 := kb.out.size
          refine Below.setCell (Below.setCell HBW3.out ?_ _) ?_ _
          all_goals (first | (simp only [World.size_setCell]; omega) | (dsimp only; omega))
set_option maxRecDepth 100000 in
set_option maxHeartbeats 4000000 in
theorem THeight_ok (t : Int) (A : Option Addr) (n cap : Nat) (zs : List Int) (w : World) (ht : SinT w) (hF : FlatSl w 3 A n cap zs) (hn : n ≤ 12) (hz : ∀ i, i < n → TdOk zs i) (hin : instOk t = true) :
    Calls Tryd.prog 34 #[.slice A n cap, .int .i64 t] w fun e w' => e = .returned (.tuple #[.agg #[.int .i64 (hLo zs n t), .int .i64 (hHi zs n t)], .int .i64 0]) ∧ Below w.heap.size w w' := by
  have htb : -345600000000000 ≤ t ∧ t ≤ 345686400000000 := by
    have h : dayOk (t / 86400000) = true := hin
    unfold dayOk at h
    have := of_decide_eq_true h
    omega
  have HC := Lib.hid (fun W (h : FlatSl W 3 A n cap zs) => tcheck_ok A n cap zs W h hn hz)
  have I := Lib.hid (fun w => hin ▸ isInst_ok t w (by omega) (by omega))
  have HV := Lib.hid (fun W (hT : SinT W) (h : FlatSl W 3 A n cap zs) => theight_ok t A n cap zs W hT h hn hz (by omega))
  generalize hLo zs n t = lo at *
  generalize hHi zs n t = hi at *
  have HF := Lib.hid hF
  have HT := Lib.hid ht
  have f1 := Lib.hid (flat_below hF (show Below w.heap.size w (w.alloc (.cells #[.int .i64 0, .int .i64 0] 24)) from (by repeat' (first | (with_reducible refine below_drewN ?_ _) | go_grown))))
  clear hF hz ht htb hin hn
  go_enter Tryd.func34, Tryd.ntmps34
  go_wp2_with fail
  refine Calls.mono (HC.out _ f1.out) ?_
  rintro e w1 ⟨rfl, hb⟩
  obtain ⟨hb1, hz1, hc1, hf1⟩ := took (w := w) (by repeat' (first | (with_reducible refine below_drewN ?_ _) | go_grown)) (by first | (simp only [World.size_alloc, World.size_setCell, World.size_drew, size_drewN]; done) | (simp only [World.size_alloc, World.size_setCell, World.size_drew, size_drewN]; rfl) | rfl) hb; clear hb
  have z1 : w.heap.size < w1.heap.size := by omega
  go_wp2_with fail
  refine Calls.mono (I.out _) ?_
  rintro e w2 ⟨rfl, hb⟩
  obtain ⟨hb2, hz2, hc2, hf2⟩ := took (w := w) (by repeat' (first | (with_reducible refine below_drewN ?_ _) | go_grown)) (by first | (simp only [World.size_alloc, World.size_setCell, World.size_drew, size_drewN]; done) | (simp only [World.size_alloc, World.size_setCell, World.size_drew, size_drewN]; rfl) | rfl) hb; clear hb
  have z2 : w.heap.size < w2.heap.size := by omega
  have f2 := Lib.hid (flat_below HF.out hb2)
  have T2 := Lib.hid (HT.out.below hb2)
  go_wp2_with fail
  refine Calls.mono (HV.out _ T2.out f2.out) ?_
  rintro e w3 ⟨rfl, hb⟩
  obtain ⟨hb3, hz3, hc3, hf3⟩ := took (w := w) (by repeat' (first | (with_reducible refine below_drewN ?_ _) | go_grown)) (by first | (simp only [World.size_alloc, World.size_setCell, World.size_drew, size_drewN]; done) | (simp only [World.size_alloc, World.size_setCell, World.size_drew, size_drewN]; rfl) | rfl) hb; clear hb
  have z3 : w.heap.size < w3.heap.size := by omega
  go_wp2_with fail
  refine bodyPost_ret (v := .tuple #[.agg #[.int .i64 lo, .int .i64 hi], .int .i64 0]) ?_ rfl ⟨rfl, (by repeat' (first | (with_reducible refine below_drewN ?_ _) | go_grown))⟩
  simp [results, Tryd.results34, go_sem, *]
end Go.Proofs.YtdeoahgcppbmkaaDoor
