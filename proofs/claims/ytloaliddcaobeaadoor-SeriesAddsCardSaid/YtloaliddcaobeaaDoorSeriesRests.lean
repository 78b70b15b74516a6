/- SeriesRests: a greater remainder makes the interval wider, by as much. -/
import Derived.Test.YtloaliddcaobeaaDoorSeriesWorks
namespace Go.Proofs.YtloaliddcaobeaaDoor
open Go.RowKit
set_option linter.unusedSimpArgs false
set_option linter.unusedVariables false

theorem bndS_more (rest more : Int) (zs : List Int) : ∀ k, bndS (rest + more) zs k = bndS rest zs k + 2 * more
  | 0 => by unfold bndS; omega
  | k + 1 => by unfold bndS; rw [bndS_more rest more zs k]; omega
/-- What the law needs to know of a permitted sum's intervals. -/
theorem vals {mean rate rest : Int} {n : Nat} {zs : List Int} (h : SumIn mean rate rest n zs) (t : Int) : -70000000000 ≤ vLo mean rest zs n t ∧ vLo mean rest zs n t ≤ vHi mean rest zs n t ∧ vHi mean rest zs n t ≤ 70000000000 ∧ vHi mean rest zs n t - vLo mean rest zs n t ≤ bndS rest zs n := by
  obtain ⟨m1, m2, r1, r2, t1, t2, n40, htm⟩ := h
  have bd := bndS_bd ⟨t1, t2⟩ htm n (Nat.le_refl _)
  have hmod : ∀ i, i < n → Mod' (tmW zs t i) := fun i hi => tm_mod (htm i hi) t
  have AR := sum_around n40 hmod
  have AB := around_bd AR (by grind) (by have := (sum_ok n40 hmod n (Nat.le_refl _)).bl; have := nat_le40 n40; grind) (by have := (sum_ok n40 hmod n (Nat.le_refl _)).bh; have := nat_le40 n40; grind)
  have AO := around_order AR (by grind)
  unfold vLo vHi
  rcases Nat.eq_zero_or_pos n with hn | hn
  · rw [if_pos hn, if_pos hn]; omega
  · rw [if_neg (by omega), if_neg (by omega)]; omega
theorem vLo_more (mean rest more : Int) (zs : List Int) (n : Nat) (t : Int) : vLo mean (rest + more) zs n t = vLo mean rest zs n t - more := by unfold vLo; omega
theorem vHi_more (mean rest more : Int) (zs : List Int) (n : Nat) (t : Int) : vHi mean (rest + more) zs n t = vHi mean rest zs n t + more := by unfold vHi; omega
theorem SmBox.put {w : World} {b : Nat} {x y z u : Value} (h : SmBox w b x y z u) (x' y' z' u' : Value) : SmBox ((((w.setCell ⟨b, 0, none⟩ x').setCell ⟨b, 1, none⟩ y').setCell ⟨b, 2, none⟩ z').setCell ⟨b, 3, none⟩ u') b x' y' z' u' :=
  ((((World.rowIs.set h 0 x').set 1 y').set 2 z').set 3 u').congr (fun i hi => by
    match i, hi with
    | 0, _ => rfl
    | 1, _ => rfl
    | 2, _ => rfl
    | 3, _ => rfl)
theorem SmBox.put3 {w : World} {b : Nat} {x y z u : Value} (h : SmBox w b x y z u) (u' : Value) : SmBox (w.setCell ⟨b, 3, none⟩ u') b x y z u' :=
  (World.rowIs.set h 3 u').congr (fun i hi => by
    match i, hi with
    | 0, _ => rfl
    | 1, _ => rfl
    | 2, _ => rfl
    | 3, _ => rfl)
set_option maxRecDepth 100000 in
set_option maxHeartbeats 16000000 in
theorem seriesRests_walk (mean0 rate0 rest0 : Int) (A0 : Option Addr) (n0 cap0 : Nat) (zs0 : List Int) (t0 more0 : Int) (w : World) (ht : SinT w) (hF : FlatSl w 3 A0 n0 cap0 zs0) :
    Calls Tryd.prog 9 #[.agg #[.int .i64 mean0, .int .i64 rate0, .slice A0 n0 cap0, .int .i64 rest0], .int .i64 t0, .int .i64 more0] w fun e w' => e = .returned (.bool true) ∧ Below w.heap.size w w' := by
  have HB0 := SmBox.new w (.int .i64 mean0) (.int .i64 rate0) (.slice A0 n0 cap0) (.int .i64 rest0)
  have HW0 := Lib.hid (show Below w.heap.size w (w.alloc (.cells #[.int .i64 mean0, .int .i64 rate0, .slice A0 n0 cap0, .int .i64 rest0] 48)) from (by repeat' (first | (with_reducible refine below_drewN ?_ _) | go_grown)))
  obtain ⟨t, hte⟩ : ∃ t, t = t0 % 604800000000000 - 302400000000000 := ⟨_, rfl⟩
  have HI := Lib.hid (fun w => hte ▸ instant_ok t0 w)
  have HIN := Lib.hid (show instOk t = true by rw [hte]; exact instant_in t0)
  obtain ⟨more, hmo⟩ : ∃ d, d = more0 % 1000 := ⟨_, rfl⟩
  have HD := Lib.hid (fun w => hmo ▸ at_any more0 1000 w (by omega) (by omega))
  have mo1 : 0 ≤ more := by omega
  have mo2 : more < 1000 := by omega
  have HT := Lib.hid ht; have HF := Lib.hid hF
  obtain ⟨b, hb⟩ : ∃ b, b = w.heap.size := ⟨_, rfl⟩
  rw [← hb] at HB0
  have HBB := Lib.hid hb
  have HB0' := Lib.hid HB0
  clear hte hmo ht hF HB0
  go_enter Tryd.func9, Tryd.ntmps9
  go_upto_region 1 with fail
  rw [← hb]
  clear hb
  obtain ⟨W, hW⟩ : ∃ W, W = w.alloc (.cells #[.int .i64 mean0, .int .i64 rate0, .slice A0 n0 cap0, .int .i64 rest0] 48) := ⟨_, rfl⟩
  rw [← hW] at HB0' HW0 ⊢
  clear hW
  go_wp2_with fail
  refine Calls.mono (seriesWorks_ok _ (HT.out.below HW0.out)) ?_
  rintro e w1 ⟨rfl, hb⟩
  have B1 := Lib.hid (HB0'.out.below hb)
  have W1 := Lib.hid (HW0.out.trans (hb.mono HW0.out.size))
  have c0 := B1.out.c0; have c1 := B1.out.c1; have c2 := B1.out.c2; have c3 := B1.out.c3; have cl := B1.out.lt
  clear hb HB0' HW0
  go_wp2_with fail
  refine Calls.mono (small_ok _ _ _ _ _ _ zs0 _ (flat_below HF.out W1.out)) ?_
  rintro e w2 ⟨mean, rate, rest, A, n, cap, ys, rfl, hfl, hsum, hn6, hr9, hAb, hb⟩
  have B2 := Lib.hid (B1.out.below hb)
  have W2 := Lib.hid (W1.out.trans (hb.mono W1.out.size))
  have hsz1 := W1.out.size
  have HAB := Lib.hid (show ∀ a, A = some a → b < a.block from fun a ha => by have h1 := hAb a ha; omega)
  have HFL := Lib.hid hfl
  have HSUM := Lib.hid hsum
  clear hb c0 c1 c2 c3 cl hfl hAb B1 hn6
  go_wp2_with fail
  refine Calls.mono (HI.out _) ?_
  rintro e wI ⟨rfl, hwI⟩
  have hwI' : wI = w2 := by first | exact hwI | exact hwI.symm
  clear hwI
  subst wI
  go_wp2_with fail
  refine Calls.mono (HD.out _) ?_
  rintro e wI ⟨rfl, hwI⟩
  have hwI' : wI = w2 := by first | exact hwI | exact hwI.symm
  clear hwI
  subst wI
  have c0 := B2.out.c0; have c1 := B2.out.c1; have c2 := B2.out.c2; have c3 := B2.out.c3; have cl := B2.out.lt
  have f0 := B2.out.free 0; have f1 := B2.out.free 1; have f2 := B2.out.free 2; have f3 := B2.out.free 3
  have B3 := Lib.hid (B2.out.put (.int .i64 mean) (.int .i64 rate) (.slice A n cap) (.int .i64 rest))
  have W3 := Lib.hid (show Below w.heap.size w ((((w2.setCell ⟨b, 0, none⟩ (.int .i64 mean)).setCell ⟨b, 1, none⟩ (.int .i64 rate)).setCell ⟨b, 2, none⟩ (.slice A n cap)).setCell ⟨b, 3, none⟩ (.int .i64 rest)) by
    have hB := HBB.out
    refine Below.setCell (Below.setCell (Below.setCell (Below.setCell W2.out ?_ _) ?_ _) ?_ _) ?_ _
    all_goals (dsimp only; omega))
  have hne : ∀ o, ∀ q, A = some q → q.block ≠ (⟨b, o, none⟩ : Addr).block := fun o q hq => by have := HAB.out q hq; show q.block ≠ b; omega
  have FL3 := Lib.hid (flat_set (flat_set (flat_set (flat_set HFL.out ⟨b, 0, none⟩ (.int .i64 mean) (hne 0)) ⟨b, 1, none⟩ (.int .i64 rate) (hne 1)) ⟨b, 2, none⟩ (.slice A n cap) (hne 2)) ⟨b, 3, none⟩ (.int .i64 rest) (hne 3))
  have HNE := Lib.hid hne
  clear hne B2 HFL
  go_upto_region 4 with fail
  obtain ⟨Y, hY⟩ : ∃ Y, Y = ((((w2.setCell ⟨b, 0, none⟩ (.int .i64 mean)).setCell ⟨b, 1, none⟩ (.int .i64 rate)).setCell ⟨b, 2, none⟩ (.slice A n cap)).setCell ⟨b, 3, none⟩ (.int .i64 rest)) := ⟨_, rfl⟩
  rw [← hY] at B3 W3 FL3 ⊢
  clear hY c0 c1 c2 c3 cl f0 f1 f2 f3 W2
  have T3 := Lib.hid (HT.out.below W3.out)
  have HV1 := Lib.hid (fun W (hT : SinT W) (h : FlatSl W 3 A n cap ys) => Value_ok mean rate rest t A n cap ys W hT h HSUM.out HIN.out)
  have HB1 := Lib.hid (fun W (h : FlatSl W 3 A n cap ys) => Bound_ok mean rate rest A n cap ys W h HSUM.out)
  have HSUM2 := Lib.hid (show SumIn mean rate (rest + more) n ys by
    obtain ⟨m1, m2, r1, r2, t1, t2, n40, htm⟩ := HSUM.out
    exact ⟨m1, m2, r1, r2, by omega, by omega, n40, htm⟩)
  have HV2 := Lib.hid (fun W (hT : SinT W) (h : FlatSl W 3 A n cap ys) => Value_ok mean rate (rest + more) t A n cap ys W hT h HSUM2.out HIN.out)
  have HB2 := Lib.hid (fun W (h : FlatSl W 3 A n cap ys) => Bound_ok mean rate (rest + more) A n cap ys W h HSUM2.out)
  have bm := bndS_more rest more ys n
  have v1 := vals HSUM.out t
  have v2 := vals HSUM2.out t
  have bd := bndS_bd ⟨HSUM.out.t1, HSUM.out.t2⟩ HSUM.out.tm n (Nat.le_refl _)
  have n40 := HSUM.out.n40
  have q1 := HSUM.out.t1; have q2 := HSUM.out.t2
  rw [vLo_more, vHi_more] at HV2 v2
  rw [bm] at HB2 v2
  generalize vLo mean rest ys n t = lo at *
  generalize vHi mean rest ys n t = hi at *
  generalize bndS rest ys n = bd1 at *
  obtain ⟨l1, l2, l3, l4⟩ := v1
  obtain ⟨-, -, -, l8⟩ := v2
  obtain ⟨b1, b2⟩ := bd
  have HM := Lib.hid (fun w => meets_true lo hi (lo - more) (hi + more) w (by omega) (by omega))
  have bb1 : 0 ≤ bd1 := by omega
  have bb2 : bd1 ≤ 300000000 := by omega
  clear b1 b2 bm
  have c0 := B3.out.c0; have c1 := B3.out.c1; have c2 := B3.out.c2; have c3 := B3.out.c3; have cl := B3.out.lt
  go_wp2_with fail
  refine Calls.mono (HV1.out _ T3.out FL3.out) ?_
  rintro e w4 ⟨rfl, hb⟩
  have W4 := Lib.hid (W3.out.trans (hb.mono W3.out.size))
  have B4 := Lib.hid (B3.out.below hb)
  have FL4 := Lib.hid (flat_below FL3.out hb)
  have S1 := Lib.hid (SpBox.new w4 lo hi)
  obtain ⟨k1, hk1⟩ : ∃ x, x = w4.heap.size := ⟨_, rfl⟩
  rw [← hk1] at S1
  have W5 := Lib.hid (W4.out.alloc W4.out.size (.cells #[.int .i64 lo, .int .i64 hi] 25))
  have B5 := Lib.hid (B4.out.alloc (.cells #[.int .i64 lo, .int .i64 hi] 25))
  have FL5 := Lib.hid (flat_below FL4.out ((Below.refl w4.heap.size w4).alloc (Nat.le_refl _) (.cells #[.int .i64 lo, .int .i64 hi] 25)))
  have nk1 : b ≠ k1 := by have := B4.out.lt; omega
  clear hb c0 c1 c2 c3 cl B3 W3 FL3 T3 B4 W4 FL4
  go_upto_region 5 with fail
  rw [← hk1]
  obtain ⟨X, hX⟩ : ∃ X, X = w4.alloc (.cells #[.int .i64 lo, .int .i64 hi] 25) := ⟨_, rfl⟩
  rw [← hX] at S1 W5 B5 FL5 ⊢
  clear hX hk1
  have c0 := B5.out.c0; have c1 := B5.out.c1; have c2 := B5.out.c2; have c3 := B5.out.c3; have cl := B5.out.lt
  go_wp2_with fail
  refine Calls.mono (HB1.out _ FL5.out) ?_
  rintro e w5 ⟨rfl, hb⟩
  have W6 := Lib.hid (W5.out.trans (hb.mono W5.out.size))
  have B6 := Lib.hid (B5.out.below hb)
  have FL6 := Lib.hid (flat_below FL5.out hb)
  have S2 := Lib.hid (S1.out.below hb)
  clear hb c0 c1 c2 c3 cl B5 W5 FL5 S1
  have c3 := B6.out.c3; have cl := B6.out.lt; have f3 := B6.out.free 3
  have W7 := Lib.hid (show Below w.heap.size w (w5.setCell ⟨b, 3, none⟩ (.int .i64 (rest + more))) by
    have hB := HBB.out
    refine Below.setCell W6.out ?_ _
    dsimp only; omega)
  have B7 := Lib.hid (B6.out.put3 (.int .i64 (rest + more)))
  have FL7 := Lib.hid (flat_set FL6.out ⟨b, 3, none⟩ (.int .i64 (rest + more)) (HNE.out 3))
  have S3 := Lib.hid (S2.out.other (a := ⟨b, 3, none⟩) (fun e => nk1 e.symm) (.int .i64 (rest + more)))
  go_upto_region 7 with fail
  obtain ⟨Z, hZ⟩ : ∃ Z, Z = w5.setCell ⟨b, 3, none⟩ (.int .i64 (rest + more)) := ⟨_, rfl⟩
  rw [← hZ] at W7 B7 FL7 S3 ⊢
  clear hZ c3 cl f3 W6 B6 FL6 S2
  have T7 := Lib.hid (HT.out.below W7.out)
  have c0 := B7.out.c0; have c1 := B7.out.c1; have c2 := B7.out.c2; have c3 := B7.out.c3; have cl := B7.out.lt
  go_wp2_with fail
  refine Calls.mono (HV2.out _ T7.out FL7.out) ?_
  rintro e w6 ⟨rfl, hb⟩
  have W8 := Lib.hid (W7.out.trans (hb.mono W7.out.size))
  have B8 := Lib.hid (B7.out.below hb)
  have FL8 := Lib.hid (flat_below FL7.out hb)
  have S4 := Lib.hid (S3.out.below hb)
  have S5 := Lib.hid (SpBox.new w6 (lo - more) (hi + more))
  obtain ⟨k2, hk2⟩ : ∃ x, x = w6.heap.size := ⟨_, rfl⟩
  rw [← hk2] at S5
  have W9 := Lib.hid (W8.out.alloc W8.out.size (.cells #[.int .i64 (lo - more), .int .i64 (hi + more)] 25))
  have B9 := Lib.hid (B8.out.alloc (.cells #[.int .i64 (lo - more), .int .i64 (hi + more)] 25))
  have S6 := Lib.hid (S4.out.alloc (.cells #[.int .i64 (lo - more), .int .i64 (hi + more)] 25))
  have FL9 := Lib.hid (flat_below FL8.out ((Below.refl w6.heap.size w6).alloc (Nat.le_refl _) (.cells #[.int .i64 (lo - more), .int .i64 (hi + more)] 25)))
  clear hb c0 c1 c2 c3 cl B7 W7 FL7 T7 B8 W8 FL8 S3 S4
  go_upto_region 8 with fail
  rw [← hk2]
  obtain ⟨X2, hX⟩ : ∃ X, X = w6.alloc (.cells #[.int .i64 (lo - more), .int .i64 (hi + more)] 25) := ⟨_, rfl⟩
  rw [← hX] at S5 S6 W9 B9 FL9 ⊢
  clear hX hk2
  have c0 := B9.out.c0; have c1 := B9.out.c1; have c2 := B9.out.c2; have c3 := B9.out.c3; have cl := B9.out.lt
  go_wp2_with fail
  refine Calls.mono (HB2.out _ FL9.out) ?_
  rintro e w7 ⟨rfl, hb⟩
  have Wa := Lib.hid (W9.out.trans (hb.mono W9.out.size))
  have Sa := S6.out.below hb
  have Sb := S5.out.below hb
  have p0 := Sa.c0; have p1 := Sa.c1; have pl := Sa.lt
  have q0 := Sb.c0; have q1' := Sb.c1; have ql := Sb.lt
  clear hb c0 c1 c2 c3 cl B9 W9 FL9 S5 S6 Sa Sb
  go_wp2_with fail
  refine Calls.mono (HM.out _) ?_
  rintro e w8 ⟨rfl, hb⟩
  have Wb := Lib.hid (Wa.out.trans (hb.mono Wa.out.size))
  clear hb p0 p1 pl q0 q1' ql
  go_wp2_with fail
  go_ret
  exact ⟨rfl, Wb.out⟩
end Go.Proofs.YtloaliddcaobeaaDoor
