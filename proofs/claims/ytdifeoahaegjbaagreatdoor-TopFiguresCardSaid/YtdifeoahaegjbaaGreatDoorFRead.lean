/- frac.Read, figure.point, figure.polyline at the texts of the example. -/
import Derived.Test.YtdifeoahaegjbaaGreatDoorFigKit
import Derived.Lib.AtoiErrMem
namespace Go.Proofs.YtdifeoahaegjbaaGreatDoor
open Go.RowKit
set_option linter.unusedSimpArgs false
set_option linter.unusedVariables false

/-- The library's variable that the searches read. -/
def MaxL (w : World) : Prop := ∃ m, w.cell? ⟨0, 0, none⟩ = some (.int .i64 m)
theorem MaxL.below {w w' : World} (h : MaxL w) (hb : Below w.heap.size w w') : MaxL w' := by
  obtain ⟨m, hm⟩ := h
  exact ⟨m, (hb.cell (p := ⟨_, 0, none⟩) (cell_lt hm)).trans hm⟩
theorem cut_at (s sep a b : ByteArray) (f : Bool) (h : Lib.cut s.data.toList sep.data.toList = (a.data.toList, b.data.toList, f)) (hs : s.size < 4294967281) (w : World) (hm : MaxL w) :
    Calls Tryz.prog 22 #[.string s, .string sep] w fun e w' => e = .returned (.tuple #[.string a, .string b, .bool f]) ∧ Below w.heap.size w w' := by
  obtain ⟨m, hm⟩ := hm
  refine (Tryz.strings_Cut s sep m w hs hm).mono fun e w' ⟨he, n, hw⟩ => ⟨?_, ?_⟩
  · rw [he, h]
  · rw [hw]; exact below_drewN (Below.refl _ _) n
theorem atoi_at (s : ByteArray) (n : Int) (hl : s.size ≤ 18) (h : Lib.atoi s.data.toList = some n) (w : World) :
    Calls Tryz.prog 42 #[.string s] w fun e w' => e = .returned (.tuple #[.int .i64 n, .nilIface]) ∧ Below w.heap.size w w' :=
  (Tryz.strconv_Atoi s n hl h w).mono fun e w' ⟨he, t, hw⟩ => ⟨he, by rw [hw]; exact Lib.bytesWorld_below w _ t⟩

/-- What a walk that reads needs of the world. -/
structure Rd (w : World) : Prop where
  t : Tab w
  m : MaxL w
theorem Rd.below {w w' : World} (h : Rd w) (hb : Below w.heap.size w w') : Rd w' := ⟨h.t.below hb, h.m.below hb⟩
theorem show_as (n d : Int) (s : ByteArray) (hs : frT n d = s) (w : World) (ht : Tab w) (h : FrOk n d) : Calls Tryz.prog 33 #[.agg #[.int .i64 n, .int .i64 d]] w fun e w' => e = .returned (.string s) ∧ Below w.heap.size w w' := by
  rw [← hs]; exact show_ok n d w ht h

theorem FrBox.set0 {w : World} {b : Nat} {x y : Int} (h : FrBox w b x y) (u : Int) : FrBox (w.setCell ⟨b, 0, none⟩ (.int .i64 u)) b u y :=
  (World.rowIs.set h 0 (.int .i64 u)).congr (fun i hi => by
    match i, hi with
    | 0, _ => rfl
    | 1, _ => rfl)
theorem FrBox.set1 {w : World} {b : Nat} {x y : Int} (h : FrBox w b x y) (u : Int) : FrBox (w.setCell ⟨b, 1, none⟩ (.int .i64 u)) b x u :=
  (World.rowIs.set h 1 (.int .i64 u)).congr (fun i hi => by
    match i, hi with
    | 0, _ => rfl
    | 1, _ => rfl)

set_option maxRecDepth 100000 in
set_option maxHeartbeats 8000000 in
theorem fracRead_whole (s : ByteArray) (n : Int) (w : World) (hr : Rd w) (hcut : Lib.cut s.data.toList [47] = (s.data.toList, [], false)) (hl : s.size ≤ 18) (hat : Lib.atoi s.data.toList = some n) (hT : frT n 1 = s) (h : FrOk n 1) :
    Calls Tryz.prog 41 #[.string s] w fun e w' => e = .returned (.tuple #[.agg #[.int .i64 n, .int .i64 1], .int .i64 0]) ∧ Below w.heap.size w w' := by
  have HR := Lib.hid hr; have HCU := Lib.hid hcut; have HA := Lib.hid hat; have HT := Lib.hid hT; have HF := Lib.hid h
  have b0 := Lib.hid ((Below.refl w.heap.size w).alloc (Nat.le_refl _) (.cells #[.int .i64 0, .int .i64 0] 30))
  have P0 := Lib.hid (FrBox.new w 0 0)
  obtain ⟨k, hk⟩ : ∃ k, k = w.heap.size := ⟨_, rfl⟩
  have HK := Lib.hid hk
  clear hr hcut hat hT h
  go_enter Tryz.func41, Tryz.ntmps41
  go_wp2_with fail
  refine Calls.mono (cut_at s ⟨#[47]⟩ s ⟨#[]⟩ false HCU.out (by omega) _ (HR.out.m.below b0.out)) ?_
  rintro er w1 ⟨rfl, hb⟩
  have P1 := Lib.hid (P0.out.below hb)
  have B1 := Lib.hid (b0.out.trans (hb.mono b0.out.size))
  clear hb b0 P0
  rw [← hk] at P1 ⊢
  clear hk
  go_upto_region 3 with fail
  obtain ⟨k7, hk7⟩ : ∃ b, b = w1.heap.size := ⟨_, rfl⟩
  obtain ⟨V, hV⟩ : ∃ V, V = w1.alloc (.cells #[.int .i64 0, .int .i64 1] 30) := ⟨_, rfl⟩
  have bV : Below w1.heap.size w1 V := by rw [hV]; exact (Below.refl _ _).alloc (Nat.le_refl _) _
  have Q2 := Lib.hid (show FrBox V k7 0 1 by rw [hV, hk7]; exact FrBox.new w1 0 1)
  have P2 := Lib.hid (P1.out.below bV)
  have B2 := Lib.hid (B1.out.trans (bV.mono B1.out.size))
  have kk : k < k7 := by rw [hk7]; exact P1.out.lt
  rw [← hV, ← hk7]
  clear hV hk7 bV P1 B1
  go_wp2_with fail
  refine Calls.mono (atoi_at s n hl HA.out _) ?_
  rintro er w3 ⟨rfl, hb⟩
  have Q3 := Lib.hid (Q2.out.below hb); have P3 := Lib.hid (P2.out.below hb); have B3 := Lib.hid (B2.out.trans (hb.mono B2.out.size))
  clear hb Q2 P2 B2
  have x0 := Q3.out.c0; have xl := Q3.out.lt; have xf := Q3.out.free 0
  go_upto_region 6 with fail
  have wk := HK.out
  have Q4 := Lib.hid (Q3.out.set0 n)
  have P4 := Lib.hid (P3.out.other (a := ⟨k7, 0, none⟩) (show k ≠ k7 by omega) (.int .i64 n))
  have B4 := Lib.hid (B3.out.setCell (p := ⟨k7, 0, none⟩) (show w.heap.size ≤ k7 by omega) (.int .i64 n))
  clear x0 xl xf Q3 P3 B3 wk
  obtain ⟨Z, hZ⟩ : ∃ Z, Z = w3.setCell ⟨k7, 0, none⟩ (.int .i64 n) := ⟨_, rfl⟩
  rw [← hZ] at Q4 P4 B4 ⊢
  clear hZ
  have x0 := Q4.out.c0; have x1 := Q4.out.c1; have xl := Q4.out.lt
  go_wp2_with fail
  refine Calls.mono (fcheck_ok n 1 _ HF.out) ?_
  rintro er w5 ⟨rfl, hb⟩
  have Q5 := Lib.hid (Q4.out.below hb); have P5 := Lib.hid (P4.out.below hb); have B5 := Lib.hid (B4.out.trans (hb.mono B4.out.size))
  clear hb Q4 P4 B4 x0 x1 xl
  have x0 := Q5.out.c0; have x1 := Q5.out.c1; have xl := Q5.out.lt
  go_wp2_with fail
  refine Calls.mono (show_as n 1 s HT.out _ (HR.out.t.below B5.out) HF.out) ?_
  rintro er w6 ⟨rfl, hb⟩
  have Q6 := Lib.hid (Q5.out.below hb); have P6 := Lib.hid (P5.out.below hb); have B6 := Lib.hid (B5.out.trans (hb.mono B5.out.size))
  clear hb Q5 P5 B5 x0 x1 xl
  have x0 := Q6.out.c0; have x1 := Q6.out.c1; have xl := Q6.out.lt
  have y0 := P6.out.c0; have y1 := P6.out.c1; have yl := P6.out.lt; have yf0 := P6.out.free 0; have yf1 := P6.out.free 1
  have wk := HK.out
  have hbl := Lib.hid (fun u v => (B6.out.setCell (p := ⟨k, 0, none⟩) (show w.heap.size ≤ k by omega) u).setCell (p := ⟨k, 1, none⟩) (show w.heap.size ≤ k by omega) v)
  clear wk
  go_wp2_with fail
  refine bodyPost_ret (v := .tuple #[.agg #[.int .i64 n, .int .i64 1], .int .i64 0]) ?_ rfl ⟨rfl, hbl.out _ _⟩
  simp [results, Tryz.results41, go_sem, *]
set_option maxRecDepth 100000 in
set_option maxHeartbeats 8000000 in
theorem fracRead_frac (s num den : ByteArray) (n d : Int) (w : World) (hr : Rd w) (hl0 : s.size ≤ 40) (hcut : Lib.cut s.data.toList [47] = (num.data.toList, den.data.toList, true)) (hl : num.size ≤ 18) (hl2 : den.size ≤ 18) (hat : Lib.atoi num.data.toList = some n) (hat2 : Lib.atoi den.data.toList = some d) (hT : frT n d = s) (h : FrOk n d) :
    Calls Tryz.prog 41 #[.string s] w fun e w' => e = .returned (.tuple #[.agg #[.int .i64 n, .int .i64 d], .int .i64 0]) ∧ Below w.heap.size w w' := by
  have HR := Lib.hid hr; have HCU := Lib.hid hcut; have HA := Lib.hid hat; have HA2 := Lib.hid hat2; have HT := Lib.hid hT; have HF := Lib.hid h
  have b0 := Lib.hid ((Below.refl w.heap.size w).alloc (Nat.le_refl _) (.cells #[.int .i64 0, .int .i64 0] 30))
  have P0 := Lib.hid (FrBox.new w 0 0)
  obtain ⟨k, hk⟩ : ∃ k, k = w.heap.size := ⟨_, rfl⟩
  have HK := Lib.hid hk
  clear hr hcut hat hat2 hT h
  go_enter Tryz.func41, Tryz.ntmps41
  go_wp2_with fail
  refine Calls.mono (cut_at s ⟨#[47]⟩ num den true HCU.out (by omega) _ (HR.out.m.below b0.out)) ?_
  rintro er w1 ⟨rfl, hb⟩
  have P1 := Lib.hid (P0.out.below hb)
  have B1 := Lib.hid (b0.out.trans (hb.mono b0.out.size))
  clear hb b0 P0
  rw [← hk] at P1 ⊢
  clear hk
  go_upto_region 3 with fail
  obtain ⟨k7, hk7⟩ : ∃ b, b = w1.heap.size := ⟨_, rfl⟩
  obtain ⟨V, hV⟩ : ∃ V, V = w1.alloc (.cells #[.int .i64 0, .int .i64 1] 30) := ⟨_, rfl⟩
  have bV : Below w1.heap.size w1 V := by rw [hV]; exact (Below.refl _ _).alloc (Nat.le_refl _) _
  have Q2 := Lib.hid (show FrBox V k7 0 1 by rw [hV, hk7]; exact FrBox.new w1 0 1)
  have P2 := Lib.hid (P1.out.below bV)
  have B2 := Lib.hid (B1.out.trans (bV.mono B1.out.size))
  have kk : k < k7 := by rw [hk7]; exact P1.out.lt
  rw [← hV, ← hk7]
  clear hV hk7 bV P1 B1
  go_wp2_with fail
  refine Calls.mono (atoi_at num n hl HA.out _) ?_
  rintro er w3 ⟨rfl, hb⟩
  have Q3 := Lib.hid (Q2.out.below hb); have P3 := Lib.hid (P2.out.below hb); have B3 := Lib.hid (B2.out.trans (hb.mono B2.out.size))
  clear hb Q2 P2 B2
  have x0 := Q3.out.c0; have xl := Q3.out.lt; have xf := Q3.out.free 0
  go_upto_region 4 with fail
  have wk := HK.out
  have Q4 := Lib.hid (Q3.out.set0 n)
  have P4 := Lib.hid (P3.out.other (a := ⟨k7, 0, none⟩) (show k ≠ k7 by omega) (.int .i64 n))
  have B4 := Lib.hid (B3.out.setCell (p := ⟨k7, 0, none⟩) (show w.heap.size ≤ k7 by omega) (.int .i64 n))
  clear x0 xl xf Q3 P3 B3 wk
  obtain ⟨Z, hZ⟩ : ∃ Z, Z = w3.setCell ⟨k7, 0, none⟩ (.int .i64 n) := ⟨_, rfl⟩
  rw [← hZ] at Q4 P4 B4 ⊢
  clear hZ
  go_wp2_with fail
  refine Calls.mono (atoi_at den d hl2 HA2.out _) ?_
  rintro er w4 ⟨rfl, hb⟩
  have Q3 := Lib.hid (Q4.out.below hb); have P3 := Lib.hid (P4.out.below hb); have B3 := Lib.hid (B4.out.trans (hb.mono B4.out.size))
  clear hb Q4 P4 B4
  have x0 := Q3.out.c1; have xl := Q3.out.lt; have xf := Q3.out.free 1
  go_upto_region 6 with fail
  have wk := HK.out
  have Q4 := Lib.hid (Q3.out.set1 d)
  have P4 := Lib.hid (P3.out.other (a := ⟨k7, 1, none⟩) (show k ≠ k7 by omega) (.int .i64 d))
  have B4 := Lib.hid (B3.out.setCell (p := ⟨k7, 1, none⟩) (show w.heap.size ≤ k7 by omega) (.int .i64 d))
  clear x0 xl xf Q3 P3 B3 wk
  obtain ⟨Z, hZ⟩ : ∃ Z, Z = w4.setCell ⟨k7, 1, none⟩ (.int .i64 d) := ⟨_, rfl⟩
  rw [← hZ] at Q4 P4 B4 ⊢
  clear hZ
  have x0 := Q4.out.c0; have x1 := Q4.out.c1; have xl := Q4.out.lt
  go_wp2_with fail
  refine Calls.mono (fcheck_ok n d _ HF.out) ?_
  rintro er w5 ⟨rfl, hb⟩
  have Q5 := Lib.hid (Q4.out.below hb); have P5 := Lib.hid (P4.out.below hb); have B5 := Lib.hid (B4.out.trans (hb.mono B4.out.size))
  clear hb Q4 P4 B4 x0 x1 xl
  have x0 := Q5.out.c0; have x1 := Q5.out.c1; have xl := Q5.out.lt
  go_wp2_with fail
  refine Calls.mono (show_as n d s HT.out _ (HR.out.t.below B5.out) HF.out) ?_
  rintro er w6 ⟨rfl, hb⟩
  have Q6 := Lib.hid (Q5.out.below hb); have P6 := Lib.hid (P5.out.below hb); have B6 := Lib.hid (B5.out.trans (hb.mono B5.out.size))
  clear hb Q5 P5 B5 x0 x1 xl
  have x0 := Q6.out.c0; have x1 := Q6.out.c1; have xl := Q6.out.lt
  have y0 := P6.out.c0; have y1 := P6.out.c1; have yl := P6.out.lt; have yf0 := P6.out.free 0; have yf1 := P6.out.free 1
  have wk := HK.out
  have hbl := Lib.hid (fun u v => (B6.out.setCell (p := ⟨k, 0, none⟩) (show w.heap.size ≤ k by omega) u).setCell (p := ⟨k, 1, none⟩) (show w.heap.size ≤ k by omega) v)
  clear wk
  go_wp2_with fail
  refine bodyPost_ret (v := .tuple #[.agg #[.int .i64 n, .int .i64 d], .int .i64 0]) ?_ rfl ⟨rfl, hbl.out _ _⟩
  simp [results, Tryz.results41, go_sem, *]

set_option maxRecDepth 100000 in
set_option maxHeartbeats 8000000 in
theorem point_ok (q o : Nat) (c : Nat) (s1 s2 : ByteArray) (n d m e : Int) (w : World) (hc : 2 ≤ c) (h1 : w.cell? ⟨q, o, none⟩ = some (.string s1)) (h2 : w.cell? ⟨q, o + 1, none⟩ = some (.string s2))
    (hx : ∀ W, Below w.heap.size w W → Calls Tryz.prog 41 #[.string s1] W fun r w' => r = .returned (.tuple #[.agg #[.int .i64 n, .int .i64 d], .int .i64 0]) ∧ Below W.heap.size W w')
    (hy : ∀ W, Below w.heap.size w W → Calls Tryz.prog 41 #[.string s2] W fun r w' => r = .returned (.tuple #[.agg #[.int .i64 m, .int .i64 e], .int .i64 0]) ∧ Below W.heap.size W w') :
    Calls Tryz.prog 24 #[.slice (some ⟨q, o, none⟩) 2 c] w fun r w' => r = .returned (.tuple #[.agg #[.int .i64 n, .int .i64 d, .int .i64 m, .int .i64 e], .bool true]) ∧ Below w.heap.size w w' := by
  have HX := Lib.hid hx; have HY := Lib.hid hy; have H1 := Lib.hid h1; have H2 := Lib.hid h2
  have b0 := Lib.hid ((Below.refl w.heap.size w).alloc (Nat.le_refl _) (.cells #[.int .i64 0, .int .i64 0, .int .i64 0, .int .i64 0] 33))
  have P0 := Lib.hid (PtBox.new w 0 0 0 0)
  obtain ⟨k, hk⟩ : ∃ k, k = w.heap.size := ⟨_, rfl⟩
  have HK := Lib.hid hk
  have c0 : (0 : Int) < (c : Int) := by omega
  clear hx hy h1 h2
  go_enter Tryz.func24, Tryz.ntmps24
  have z1 := (b0.out.cell (p := ⟨q, o, none⟩) (cell_lt H1.out)).trans H1.out
  go_wp2_with fail
  refine Calls.mono (HX.out _ b0.out) ?_
  rintro er w1 ⟨rfl, hb⟩
  have P1 := Lib.hid (P0.out.below hb)
  have B1 := Lib.hid (b0.out.trans (hb.mono b0.out.size))
  clear hb b0 P0 z1
  rw [← hk] at P1 ⊢
  clear hk
  go_upto_region 4 with fail
  obtain ⟨k4, hk4⟩ : ∃ b, b = w1.heap.size := ⟨_, rfl⟩
  obtain ⟨V, hV⟩ : ∃ V, V = w1.alloc (.cells #[.int .i64 n, .int .i64 d] 30) := ⟨_, rfl⟩
  have bV : Below w1.heap.size w1 V := by rw [hV]; exact (Below.refl _ _).alloc (Nat.le_refl _) _
  have Q2 := Lib.hid (show FrBox V k4 n d by rw [hV, hk4]; exact FrBox.new w1 n d)
  have P2 := Lib.hid (P1.out.below bV)
  have B2 := Lib.hid (B1.out.trans (bV.mono B1.out.size))
  rw [← hV, ← hk4]
  clear hV hk4 bV P1 B1
  have z2 := (B2.out.cell (p := ⟨q, o + 1, none⟩) (cell_lt H2.out)).trans H2.out
  go_wp2_with fail
  refine Calls.mono (HY.out _ B2.out) ?_
  rintro er w3 ⟨rfl, hb⟩
  have Q3 := Lib.hid (Q2.out.below hb); have P3 := Lib.hid (P2.out.below hb); have B3 := Lib.hid (B2.out.trans (hb.mono B2.out.size))
  clear hb Q2 P2 B2 z2
  go_upto_region 5 with fail
  obtain ⟨k6, hk6⟩ : ∃ b, b = w3.heap.size := ⟨_, rfl⟩
  obtain ⟨V, hV⟩ : ∃ V, V = w3.alloc (.cells #[.int .i64 m, .int .i64 e] 30) := ⟨_, rfl⟩
  have bV : Below w3.heap.size w3 V := by rw [hV]; exact (Below.refl _ _).alloc (Nat.le_refl _) _
  have R4 := Lib.hid (show FrBox V k6 m e by rw [hV, hk6]; exact FrBox.new w3 m e)
  have P4 := Lib.hid (P3.out.below bV); have Q4 := Lib.hid (Q3.out.below bV)
  have B4 := Lib.hid (B3.out.trans (bV.mono B3.out.size))
  rw [← hV, ← hk6]
  clear hV hk6 bV P3 B3 Q3
  have x0 := Q4.out.c0; have x1 := Q4.out.c1; have xl := Q4.out.lt
  have y0 := R4.out.c0; have y1 := R4.out.c1; have yl := R4.out.lt
  have r0 := P4.out.c0; have r1 := P4.out.c1; have r2 := P4.out.c2; have r3 := P4.out.c3; have rl := P4.out.lt
  have f0 := P4.out.free 0; have f1 := P4.out.free 1; have f2 := P4.out.free 2; have f3 := P4.out.free 3
  have wk := HK.out
  have hbl := Lib.hid (fun u1 u2 u3 u4 => (((B4.out.setCell (p := ⟨k, 0, none⟩) (show w.heap.size ≤ k by omega) u1).setCell (p := ⟨k, 1, none⟩) (show w.heap.size ≤ k by omega) u2).setCell (p := ⟨k, 2, none⟩) (show w.heap.size ≤ k by omega) u3).setCell (p := ⟨k, 3, none⟩) (show w.heap.size ≤ k by omega) u4)
  clear wk
  go_wp2_with fail
  refine bodyPost_ret (v := .tuple #[.agg #[.int .i64 n, .int .i64 d, .int .i64 m, .int .i64 e], .bool true]) ?_ rfl ⟨rfl, hbl.out _ _ _ _⟩
  simp [results, Tryz.results24, go_sem, *]
end Go.Proofs.YtdifeoahaegjbaaGreatDoor
