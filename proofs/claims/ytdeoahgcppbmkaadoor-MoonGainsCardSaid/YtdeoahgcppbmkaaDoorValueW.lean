/- series.Check and series.value of any permitted sum. -/
import Derived.Test.YtdeoahgcppbmkaaDoorPartW
import Derived.Test.YtdeoahgcppbmkaaDoorSumP
import Derived.Test.YtdeoahgcppbmkaaDoorBox
namespace Go.Proofs.YtdeoahgcppbmkaaDoor
open Go.RowKit
set_option linter.unusedSimpArgs false
set_option linter.unusedVariables false

theorem flat_below {w w' : World} {sz n cap : Nat} {A : Option Addr} {zs : List Int} (h : FlatSl w (sz + 1) A n cap zs) (hb : Below w.heap.size w w') : FlatSl w' (sz + 1) A n cap zs := by
  refine ⟨h.le, h.most, h.len, fun hn => ?_⟩
  obtain ⟨b, off, hA, hc⟩ := h.at' hn
  exact ⟨b, off, hA, fun j hj => (hb.cell (p := ⟨b, off + j, none⟩) (cell_below (hc j hj))).trans (hc j hj)⟩
def q4 (a b c d : Value) : Nat → Value := fun i => if i = 0 then a else if i = 1 then b else if i = 2 then c else d
/-- Block b holds a sum. -/
def SmBox (w : World) (b : Nat) (x y z u : Value) : Prop := w.rowIs b 46 4 (q4 x y z u)
section
variable {w w' : World} {b : Nat} {x y z u : Value}
theorem SmBox.c0 (h : SmBox w b x y z u) : w.cell? ⟨b, 0, none⟩ = some x := World.rowIs.cell h (i := 0) (by omega)
theorem SmBox.c1 (h : SmBox w b x y z u) : w.cell? ⟨b, 1, none⟩ = some y := World.rowIs.cell h (i := 1) (by omega)
theorem SmBox.c2 (h : SmBox w b x y z u) : w.cell? ⟨b, 2, none⟩ = some z := World.rowIs.cell h (i := 2) (by omega)
theorem SmBox.c3 (h : SmBox w b x y z u) : w.cell? ⟨b, 3, none⟩ = some u := World.rowIs.cell h (i := 3) (by omega)
theorem SmBox.free (h : SmBox w b x y z u) (i : Nat) : w.frozen? ⟨b, i, none⟩ = false := World.rowIs.frozen h i
theorem SmBox.lt (h : SmBox w b x y z u) : b < w.heap.size := World.rowIs.lt h
theorem SmBox.alloc (h : SmBox w b x y z u) (o : Obj) : SmBox (w.alloc o) b x y z u := World.rowIs.alloc h o
theorem SmBox.below (h : SmBox w b x y z u) (hb : Below w.heap.size w w') : SmBox w' b x y z u := World.rowIs.of_block h (hb.block b (World.rowIs.lt h))
theorem SmBox.new (w : World) (x y z u : Value) : SmBox (w.alloc (.cells #[x, y, z, u] 46)) w.heap.size x y z u :=
  World.rowIs_alloc w #[x, y, z, u] 46 (q4 x y z u) (fun i hi => by
    match i, hi with
    | 0, _ => rfl
    | 1, _ => rfl
    | 2, _ => rfl
    | 3, _ => rfl)
end
/-- Permitted terms. -/
structure TmOk (zs : List Int) (i : Nat) : Prop where
  a1 : -1000000000 ≤ ix zs (i * 3)
  a2 : ix zs (i * 3) ≤ 1000000000
  p1 : 0 ≤ ix zs (i * 3 + 1)
  p2 : ix zs (i * 3 + 1) < 1000000000
  r1 : -4000000000000000 ≤ ix zs (i * 3 + 2)
  r2 : ix zs (i * 3 + 2) ≤ 4000000000000000
def tmW (zs : List Int) (t : Int) (i : Nat) : Nat := partW (ix zs (i * 3)) (ix zs (i * 3 + 1)) (ix zs (i * 3 + 2)) t
theorem tm_mod {zs : List Int} {i : Nat} (h : TmOk zs i) (t : Int) : Mod' (tmW zs t i) := by
  obtain ⟨e, hp⟩ := part_ok (ix zs (i * 3)) (ix zs (i * 3 + 1)) (ix zs (i * 3 + 2)) t ⟨h.a1, h.a2⟩
  have a := hp.ap
  have a1 := a.lo; have a2 := a.bl; have a3 := a.hi; have a4 := a.bh; have f := a.fin
  clear a hp
  unfold tmW
  generalize partW (ix zs (i * 3)) (ix zs (i * 3 + 1)) (ix zs (i * 3 + 2)) t = x at *
  generalize ((ix zs (i * 3) : Int) : Rat) * sgnP e (8 * qq * (partV (ix zs (i * 3 + 1)) (ix zs (i * 3 + 2)) t / 1000000000) - (e : Rat) * qq) = y at *
  exact ⟨f, by grind, by grind⟩
/-- The interval of a sum's value. -/
def vLo (mean rest : Int) (zs : List Int) (n : Nat) (t : Int) : Int := (if n = 0 then mean else mean + aLo (fsum (tmW zs t) n)) - rest
def vHi (mean rest : Int) (zs : List Int) (n : Nat) (t : Int) : Int := (if n = 0 then mean else mean + aHi (fsum (tmW zs t) n)) + rest
set_option maxRecDepth 100000 in
set_option maxHeartbeats 8000000 in
theorem value_ok (mean rate rest t : Int) (A : Option Addr) (n cap : Nat) (zs : List Int) (w : World) (ht : SinT w) (hF : FlatSl w 3 A n cap zs) (hn : n ≤ 40) (hz : ∀ i, i < n → TmOk zs i) (h1 : -1000000000 ≤ mean ∧ mean ≤ 1000000000) (h3 : 0 ≤ rest ∧ rest ≤ 100000000) (hT : -350000000000000 ≤ t ∧ t ≤ 350000000000000) :
    Calls Tryd.prog 109 #[.agg #[.int .i64 mean, .int .i64 rate, .slice A n cap, .int .i64 rest], .int .i64 t] w fun e w' => e = .returned (.agg #[.int .i64 (vLo mean rest zs n t), .int .i64 (vHi mean rest zs n t)]) ∧ Below w.heap.size w w' := by
  rcases Nat.eq_zero_or_pos n with rfl | hpos
  · have e1 : vLo mean rest zs 0 t = mean - rest := rfl
    have e2 : vHi mean rest zs 0 t = mean + rest := rfl
    rw [e1, e2]
    obtain ⟨a1, a2⟩ := h1
    obtain ⟨a3, a4⟩ := h3
    clear hF hz hT ht e1 e2
    go_enter Tryd.func109, Tryd.ntmps109
    go_wp2_with fail
    refine bodyPost_ret (v := .agg #[.int .i64 (mean - rest), .int .i64 (mean + rest)]) ?_ rfl ⟨rfl, (by repeat' (first | (with_reducible refine below_drewN ?_ _) | go_grown))⟩
    simp [results, Tryd.results109, go_sem, *]
  · have hmod : ∀ i, i < n → Mod' (tmW zs t i) := fun i hi => tm_mod (hz i hi) t
    have AR := sum_around hn hmod
    have AB := around_bd AR (by grind) (by have := (sum_ok hn hmod n (Nat.le_refl _)).bl; have := nat_le40 hn; grind) (by have := (sum_ok hn hmod n (Nat.le_refl _)).bh; have := nat_le40 hn; grind)
    have HAR := Lib.hid (fun w => Around_ok AR w)
    have HSS := Lib.hid (fun k (hk : k < n) => (sum_step (f := tmW zs t) (k := k) (by omega) (sum_ok hn hmod k (by omega)) (hmod k hk)).1)
    have HP := Lib.hid (fun k (hk : k < n) w (ht : SinT w) => Part_ok (ix zs (k * 3)) (ix zs (k * 3 + 1)) (ix zs (k * 3 + 2)) t w ht ⟨(hz k hk).a1, (hz k hk).a2⟩ ⟨(hz k hk).p1, by have := (hz k hk).p2; omega⟩ ⟨(hz k hk).r1, (hz k hk).r2⟩ hT)
    obtain ⟨fs, hfs⟩ : ∃ fs, fs = fsum (tmW zs t) := ⟨_, rfl⟩
    rw [← hfs] at HAR HSS AB
    have e1 : vLo mean rest zs n t = mean + aLo (fs n) - rest := by unfold vLo; rw [if_neg (by omega), hfs]
    have e2 : vHi mean rest zs n t = mean + aHi (fs n) + rest := by unfold vHi; rw [if_neg (by omega), hfs]
    rw [e1, e2]
    have f0 : fs 0 = 0 := by rw [hfs]; rfl
    have HF0 := Lib.hid f0
    have HFS := Lib.hid hfs
    generalize aLo (fs n) = lo at *
    generalize aHi (fs n) = hi at *
    obtain ⟨b1, b2, b3, b4⟩ := AB
    obtain ⟨a1, a2⟩ := h1
    obtain ⟨a3, a4⟩ := h3
    have HT := Lib.hid ht
    have HF := Lib.hid hF
    have npos : (0 : Int) < (n : Int) := by omega
    have HB0 := Lib.hid (SmBox.new w (.int .i64 mean) (.int .i64 rate) (.slice A n cap) (.int .i64 rest))
    obtain ⟨b, hb⟩ : ∃ b, b = w.heap.size := ⟨_, rfl⟩
    have e5 : (w.alloc (.cells #[.int .i64 mean, .int .i64 rate, .slice A n cap, .int .i64 rest] 46)).heap.size = b + 1 := by simp [hb]
    have B4 := SpBox.new (w.alloc (.cells #[.int .i64 mean, .int .i64 rate, .slice A n cap, .int .i64 rest] 46)) 0 0
    have B5 := SpBox.new ((w.alloc (.cells #[.int .i64 mean, .int .i64 rate, .slice A n cap, .int .i64 rest] 46)).alloc (.cells #[.int .i64 0, .int .i64 0] 24)) mean mean
    have e6 : ((w.alloc (.cells #[.int .i64 mean, .int .i64 rate, .slice A n cap, .int .i64 rest] 46)).alloc (.cells #[.int .i64 0, .int .i64 0] 24)).heap.size = b + 1 + 1 := by simp [hb]
    rw [e5] at B4
    rw [e6] at B5
    have B4' := Lib.hid (B4.alloc (.cells #[.int .i64 mean, .int .i64 mean] 24))
    have B5' := Lib.hid B5
    have B2' := Lib.hid ((HB0.out.alloc (.cells #[.int .i64 0, .int .i64 0] 24)).alloc (.cells #[.int .i64 mean, .int .i64 mean] 24))
    rw [← hb] at B2'
    have BW := Lib.hid (show Below w.heap.size w (((w.alloc (.cells #[.int .i64 mean, .int .i64 rate, .slice A n cap, .int .i64 rest] 46)).alloc (.cells #[.int .i64 0, .int .i64 0] 24)).alloc (.cells #[.int .i64 mean, .int .i64 mean] 24)) from (by repeat' (first | (with_reducible refine below_drewN ?_ _) | go_grown)))
    clear HB0 B4 B5 e5 e6 AR hmod hz hF ht e1 e2 f0 hfs
    go_enter Tryd.func109, Tryd.ntmps109
    go_wp2_with fail
    rw [← hb]
    have HBB := Lib.hid hb
    clear hb
    go_loopw [6, 22] (fun v i wr => ∃ k : Nat, k ≤ n ∧ i = .int .i64 k ∧ v = .float .f64 (fs k) ∧ SmBox wr b (.int .i64 mean) (.int .i64 rate) (.slice A n cap) (.int .i64 rest) ∧ SpBox wr (b + 1) 0 0 ∧ SpBox wr (b + 1 + 1) mean mean ∧ Below w.heap.size w wr) (fun _ i _ => n - (intOf i).toNat)
    case atStart => exact ⟨0, by omega, rfl, by rw [HF0.out], B2'.out, B4'.out, B5'.out, BW.out⟩
    case round =>
      clear B2' B4' B5' BW
      obtain ⟨k, hk, rfl, rfl, hB2, hB4, hB5, hbl⟩ := hrel
      have hsz := hbl.size
      by_cases hlt : k < n
      · have i0 : (0 : Int) ≤ (k : Int) := by omega
        have i1 : (k : Int) < (n : Int) := by omega
        have i2 : (k : Int) < (cap : Int) := by have := HF.out.le; omega
        obtain ⟨q, o, hA, hc⟩ := HF.out.at' hpos
        have x0 := (hbl.cell (p := ⟨q, o + k * 3, none⟩) (cell_below (hc (k * 3) (by omega)))).trans (hc (k * 3) (by omega))
        have x1 := (hbl.cell (p := ⟨q, o + (k * 3 + 1), none⟩) (cell_below (hc (k * 3 + 1) (by omega)))).trans (hc (k * 3 + 1) (by omega))
        have x2 := (hbl.cell (p := ⟨q, o + (k * 3 + 2), none⟩) (cell_below (hc (k * 3 + 2) (by omega)))).trans (hc (k * 3 + 2) (by omega))
        rw [← Nat.add_assoc] at x1 x2
        subst hA
        have P := Lib.hid (fun w ht => HP.out k hlt w ht)
        have hs := HSS.out k hlt
        have hw : tmW zs t k = partW (ix zs (k * 3)) (ix zs (k * 3 + 1)) (ix zs (k * 3 + 2)) t := rfl
        rw [hw] at hs
        generalize partW (ix zs (k * 3)) (ix zs (k * 3 + 1)) (ix zs (k * 3 + 2)) t = pw at *
        generalize ix zs (k * 3) = ta at *
        generalize ix zs (k * 3 + 1) = tp at *
        generalize ix zs (k * 3 + 2) = tr at *
        obtain ⟨v', hv'⟩ : ∃ v', v' = fs (k + 1) := ⟨_, rfl⟩
        rw [← hv'] at hs
        have HV := Lib.hid hv'
        have hop := fop hs
        have bw := hbl.alloc hsz (.cells #[.int .i64 ta, .int .i64 tp, .int .i64 tr] 87)
        have g2 := Lib.hid (hB2.alloc (.cells #[.int .i64 ta, .int .i64 tp, .int .i64 tr] 87))
        have g4 := Lib.hid (hB4.alloc (.cells #[.int .i64 ta, .int .i64 tp, .int .i64 tr] 87))
        have g5 := Lib.hid (hB5.alloc (.cells #[.int .i64 ta, .int .i64 tp, .int .i64 tr] 87))
        have T9 := Lib.hid (HT.out.below bw)
        have gb := Lib.hid bw
        clear hc hw hs hv' bw hB2 hB4 hB5 hbl
        go_wp2_with fail
        refine Calls.mono (P.out _ T9.out) ?_
        rintro e w3 ⟨rfl, hb⟩
        have k2 := Lib.hid (g2.out.below hb); have k4 := Lib.hid (g4.out.below hb); have k5 := Lib.hid (g5.out.below hb); have kb := Lib.hid (gb.out.trans (hb.mono gb.out.size))
        clear hb x0 x1 x2
        go_wp2_with fail
        go_roundw
        case rel => exact ⟨k + 1, by omega, by go_num, by rw [HV.out], k2.out, k4.out, k5.out, kb.out⟩
        case measure => simp [intOf]; omega
      · obtain rfl : k = n := by omega
        have y0 := hB2.c0; have y1 := hB2.c1; have y2 := hB2.c2; have y3 := hB2.c3; have yl := hB2.lt
        have u0 := hB4.c0; have u1 := hB4.c1; have uf0 := hB4.free 0; have uf1 := hB4.free 1; have ul := hB4.lt
        have v0 := hB5.c0; have v1 := hB5.c1; have vf0 := hB5.free 0; have vf1 := hB5.free 1; have vl := hB5.lt
        have kb := Lib.hid hbl
        clear hB2 hB4 hB5 hbl
        go_wp2_with fail
        refine Calls.mono (HAR.out _) ?_
        rintro e w3 ⟨rfl, hb⟩
        obtain ⟨hc3, hf3⟩ := bcell hb
        have hz3 := hb.size
        have hbw3 := kb.out.trans (hb.mono kb.out.size)
        have z1 : b < w3.heap.size := by omega
        have z2 : b + 1 < w3.heap.size := by omega
        have z3 : b + 1 + 1 < w3.heap.size := by omega
        have HBW3 := Lib.hid hbw3
        clear hb hz3 hbw3
        go_wp2_with fail
        refine bodyPost_ret (v := .agg #[.int .i64 (mean + lo - rest), .int .i64 (mean + hi + rest)]) ?_ rfl ⟨rfl, ?_⟩
        · simp [results, Tryd.results109, go_sem, *]
        · have hB := HBB.out
          have := HBW3.out.size
          have hs9 := kb.out.size
          refine Below.alloc (Below.setCell (Below.setCell (Below.setCell (Below.setCell HBW3.out ?_ _) ?_ _) ?_ _) ?_ _) ?_ _
          all_goals (first | (simp only [World.size_setCell]; omega) | (dsimp only; omega))
end Go.Proofs.YtdeoahgcppbmkaaDoor
