/- SeriesMoves: the angle moves as Slope permits. -/
import Derived.Test.YtdeoahgcppbmkaaDoorSlopeW
import Derived.Test.YtdeoahgcppbmkaaDoorSeriesWorks
import Derived.Test.YtdeoahgcppbmkaaDoorSmall
import Derived.Test.YtdeoahgcppbmkaaDoorAt
import Derived.Test.YtdeoahgcppbmkaaDoorMoon
namespace Go.Proofs.YtdeoahgcppbmkaaDoor
open Go.RowKit
set_option linter.unusedSimpArgs false
set_option linter.unusedVariables false
theorem SmBox.putM {w : World} {b : Nat} {x y z u : Value} (h : SmBox w b x y z u) (x' y' z' u' : Value) : SmBox ((((w.setCell ⟨b, 0, none⟩ x').setCell ⟨b, 1, none⟩ y').setCell ⟨b, 2, none⟩ z').setCell ⟨b, 3, none⟩ u') b x' y' z' u' :=
  ((((World.rowIs.set h 0 x').set 1 y').set 2 z').set 3 u').congr (fun i hi => by
    match i, hi with
    | 0, _ => rfl
    | 1, _ => rfl
    | 2, _ => rfl
    | 3, _ => rfl)
/-- Two angles whose intervals have a number in common. -/
theorem same_pt {a b c d m : Int} (h1 : c + 1000000000 * m ≤ b) (h2 : a ≤ d + 1000000000 * m) : (c - a) % 1000000000 ≤ b - a ∨ 1000000000 - (d - c) ≤ (c - a) % 1000000000 := by omega
theorem same_any (a b c d : Int) (w : World) (h1 : -1000000000000000000 ≤ a ∧ a ≤ 1000000000000000000) (h2 : -1000000000000000000 ≤ c ∧ c ≤ 1000000000000000000) (h3 : -1000000000000000000 ≤ b ∧ b ≤ 1000000000000000000) (h4 : -1000000000000000000 ≤ d ∧ d ≤ 1000000000000000000) (h : (c - a) % 1000000000 ≤ b - a ∨ 1000000000 - (d - c) ≤ (c - a) % 1000000000) :
    Calls Tryd.prog 27 #[.agg #[.int .i64 a, .int .i64 b], .agg #[.int .i64 c, .int .i64 d]] w fun e w' => e = .returned (.bool true) ∧ Below w.heap.size w w' := by
  by_cases g : (c - a) % 1000000000 ≤ b - a
  · exact same_true a b c d w (by omega) (by omega) (by omega) g
  · have A := Lib.hid (fun w => at_any (c - a) 1000000000 w (by omega) (by omega))
    have b1 : 0 ≤ (c - a) % 1000000000 := by omega
    have h' : 1000000000 - (d - c) ≤ (c - a) % 1000000000 := by omega
    obtain ⟨h11, h12⟩ := h1; obtain ⟨h21, h22⟩ := h2; obtain ⟨h31, h32⟩ := h3; obtain ⟨h41, h42⟩ := h4
    clear h
    generalize (c - a) % 1000000000 = x at *
    go_enter Tryd.func27, Tryd.ntmps27
    go_wp2_with fail
    refine Calls.mono (A.out _) ?_
    rintro e _ ⟨rfl, rfl⟩
    go_wp2_with fail
    go_returns
    exact ⟨rfl, (by repeat' (first | (with_reducible refine below_drewN ?_ _) | go_grown))⟩
theorem moves_law {mean rate rest t d : Int} {n : Nat} {zs : List Int} (hs : SumIn mean rate rest n zs) (hn : n ≤ 6) (h0 : 0 ≤ d) (h1 : d ≤ 19) :
    ∃ m : Int, anLo mean rate rest zs n t + d * spLo rate zs n + 1000000000 * m ≤ anHi mean rate rest zs n (t + d * 86400000) ∧ anLo mean rate rest zs n (t + d * 86400000) ≤ anHi mean rate rest zs n t + d * spHi rate zs n + 1000000000 * m := by
  obtain ⟨k1, p1, -, p3, -⟩ := ang_at (mean := mean) (rate := rate) (rest := rest) (t := t) (show n ≤ 12 by omega) hs.tm
  obtain ⟨k2, q1, -, q3, -⟩ := ang_at (mean := mean) (rate := rate) (rest := rest) (t := t + d * 86400000) (show n ≤ 12 by omega) hs.tm
  have SL := slope_law hn ⟨hs.r1, hs.r2⟩ hs.tm
  have l := SL.l; have u := SL.u
  have r0 := Rat.intCast_le_intCast.2 hs.t1
  rw [show ((0 : Int) : Rat) = 0 from rfl] at r0
  have et : ((t + d * 86400000 : Int) : Rat) = (t : Rat) + (d : Rat) * 86400000 := by rw [Rat.intCast_add, Rat.intCast_mul, show ((86400000 : Int) : Rat) = 86400000 from rfl]
  rw [et] at q1 q3
  have d0 := Rat.intCast_le_intCast.2 h0
  rw [show ((0 : Int) : Rat) = 0 from rfl] at d0
  have key : anT mean rate zs n (t : Rat) + (d : Rat) * (spLo rate zs n : Rat) ≤ anT mean rate zs n ((t : Rat) + (d : Rat) * 86400000) ∧ anT mean rate zs n ((t : Rat) + (d : Rat) * 86400000) ≤ anT mean rate zs n (t : Rat) + (d : Rat) * (spHi rate zs n : Rat) := by
    by_cases c : d = 0
    · subst c
      rw [show ((0 : Int) : Rat) = 0 from rfl, show (t : Rat) + 0 * 86400000 = (t : Rat) by grind]
      constructor <;> grind
    · have d1 : (1 : Rat) ≤ (d : Rat) := by
        have := Rat.intCast_le_intCast.2 (show (1 : Int) ≤ d by omega)
        exact this
      have mv := anT_move (mean := mean) (rate := rate) hs.tm (t : Rat) (d := (d : Rat) * 86400000) (by grind)
      have e1 : (rate : Rat) * ((d : Rat) * 86400000 / 86400000000000) = (d : Rat) * ((rate : Rat) / 1000000) := by grind
      have e2 : ra (slS zs n * ((d : Rat) * 86400000 / 86400000000000)) = (d : Rat) * slV zs n := by unfold ra slV; grind
      rw [e1, e2] at mv
      have n6 := nat_le6 hn
      have m1 := Rat.mul_le_mul_of_nonneg_left l d0
      have m2 := Rat.mul_le_mul_of_nonneg_left u d0
      clear e1 e2 p1 p3 q1 q3 SL l u et
      generalize anT mean rate zs n ((t : Rat) + (d : Rat) * 86400000) = X at *
      generalize anT mean rate zs n (t : Rat) = Y at *
      generalize slV zs n = V at *
      unfold Near at mv
      constructor <;> grind
  obtain ⟨g1, g2⟩ := key
  refine ⟨k1 - k2, ?_, ?_⟩
  · apply int_le_of_rat
    rw [Rat.intCast_add, Rat.intCast_add, Rat.intCast_mul, Rat.intCast_mul, Rat.intCast_sub, show ((1000000000 : Int) : Rat) = 1000000000 from rfl]
    clear SL l u et
    grind
  · apply int_le_of_rat
    rw [Rat.intCast_add, Rat.intCast_add, Rat.intCast_mul, Rat.intCast_mul, Rat.intCast_sub, show ((1000000000 : Int) : Rat) = 1000000000 from rfl]
    clear SL l u et
    grind
set_option maxRecDepth 100000 in
set_option maxHeartbeats 16000000 in
theorem seriesMoves_walk (mean0 rate0 rest0 : Int) (A0 : Option Addr) (n0 cap0 : Nat) (zs0 : List Int) (t0 d0 : Int) (w : World) (ht : SinT w) (hF : FlatSl w 3 A0 n0 cap0 zs0) :
    Calls Tryd.prog 6 #[.agg #[.int .i64 mean0, .int .i64 rate0, .slice A0 n0 cap0, .int .i64 rest0], .int .i64 t0, .int .i64 d0] w fun e w' => e = .returned (.bool true) ∧ Below w.heap.size w w' := by
  have HB0 := SmBox.new w (.int .i64 mean0) (.int .i64 rate0) (.slice A0 n0 cap0) (.int .i64 rest0)
  have HW0 := Lib.hid (show Below w.heap.size w (w.alloc (.cells #[.int .i64 mean0, .int .i64 rate0, .slice A0 n0 cap0, .int .i64 rest0] 46)) from (by repeat' (first | (with_reducible refine below_drewN ?_ _) | go_grown)))
  obtain ⟨t, hte⟩ : ∃ t, t = t0 % 604800000000000 - 302400000000000 := ⟨_, rfl⟩
  have HI := Lib.hid (fun w => hte ▸ instant_ok t0 w)
  have HIN := Lib.hid (show instOk t = true by rw [hte]; exact instant_in t0)
  obtain ⟨d, hd⟩ : ∃ d, d = d0 % 20 := ⟨_, rfl⟩
  have HD := Lib.hid (fun w => hd ▸ at_any d0 20 w (by omega) (by omega))
  have dd1 : 0 ≤ d := by omega
  have dd2 : d ≤ 19 := by omega
  obtain ⟨y, hy⟩ : ∃ y, y = t + d * 86400000 := ⟨_, rfl⟩
  have HIN2 := Lib.hid (show instOk y = true by rw [hy]; unfold instOk dayOk; exact decide_eq_true (by omega))
  have wd : wrap64 (d * 86400000) = d * 86400000 := IntWalk.wrap64_in _ (by omega)
  have wy : wrap64 (t + d * 86400000) = y := by rw [hy]; exact IntWalk.wrap64_in _ (by omega)
  have HY := Lib.hid hy
  have HT := Lib.hid ht; have HF := Lib.hid hF
  obtain ⟨b, hb⟩ : ∃ b, b = w.heap.size := ⟨_, rfl⟩
  rw [← hb] at HB0
  have HBB := Lib.hid hb
  have HB0' := Lib.hid HB0
  clear hte hd ht hF HB0 hy
  go_enter Tryd.func6, Tryd.ntmps6
  go_upto_region 1 with fail
  rw [← hb]
  clear hb
  obtain ⟨W, hW⟩ : ∃ W, W = w.alloc (.cells #[.int .i64 mean0, .int .i64 rate0, .slice A0 n0 cap0, .int .i64 rest0] 46) := ⟨_, rfl⟩
  rw [← hW] at HB0' HW0 ⊢
  clear hW
  go_wp2_with fail
  refine Calls.mono (seriesWorks_ok _ (HT.out.below HW0.out)) ?_
  rintro e w1 ⟨rfl, hb⟩
  have B1 := Lib.hid (HB0'.out.below hb)
  have W1 := Lib.hid (HW0.out.trans (hb.mono HW0.out.size))
  have c0 := B1.out.c0; have c1 := B1.out.c1; have c2 := B1.out.c2; have c3 := B1.out.c3; have cl := B1.out.lt
  clear hb HB0' HW0
  go_wp2_with fail
  refine Calls.mono (small_ok _ _ _ _ _ _ zs0 _ (flat_below HF.out W1.out)) ?_
  rintro e w2 ⟨mean, rate, rest, A, n, cap, ys, rfl, hfl, hsum, hn6, hr9, hAb, hb⟩
  have B2 := Lib.hid (B1.out.below hb)
  have W2 := Lib.hid (W1.out.trans (hb.mono W1.out.size))
  have hsz1 := W1.out.size
  have HAB := Lib.hid (show ∀ a, A = some a → b < a.block from fun a ha => by have h1 := hAb a ha; omega)
  have HFL := Lib.hid hfl
  have HSUM := Lib.hid hsum
  have HN6 := Lib.hid hn6
  clear hb c0 c1 c2 c3 cl hfl hAb B1 hn6
  go_wp2_with fail
  refine Calls.mono (HI.out _) ?_
  rintro e wI ⟨rfl, hwI⟩
  have hwI' : wI = w2 := by first | exact hwI | exact hwI.symm
  clear hwI
  subst wI
  go_wp2_with fail
  refine Calls.mono (HD.out _) ?_
  rintro e wI ⟨rfl, hwI⟩
  have hwI' : wI = w2 := by first | exact hwI | exact hwI.symm
  clear hwI
  subst wI
  have c0 := B2.out.c0; have c1 := B2.out.c1; have c2 := B2.out.c2; have c3 := B2.out.c3; have cl := B2.out.lt
  have f0 := B2.out.free 0; have f1 := B2.out.free 1; have f2 := B2.out.free 2; have f3 := B2.out.free 3
  have B3 := Lib.hid (B2.out.putM (.int .i64 mean) (.int .i64 rate) (.slice A n cap) (.int .i64 rest))
  have W3 := Lib.hid (show Below w.heap.size w ((((w2.setCell ⟨b, 0, none⟩ (.int .i64 mean)).setCell ⟨b, 1, none⟩ (.int .i64 rate)).setCell ⟨b, 2, none⟩ (.slice A n cap)).setCell ⟨b, 3, none⟩ (.int .i64 rest)) by
    have hB := HBB.out
    refine Below.setCell (Below.setCell (Below.setCell (Below.setCell W2.out ?_ _) ?_ _) ?_ _) ?_ _
    all_goals (dsimp only; omega))
  have hne : ∀ o, ∀ q, A = some q → q.block ≠ (⟨b, o, none⟩ : Addr).block := fun o q hq => by have := HAB.out q hq; show q.block ≠ b; omega
  have FL3 := Lib.hid (flat_set (flat_set (flat_set (flat_set HFL.out ⟨b, 0, none⟩ (.int .i64 mean) (hne 0)) ⟨b, 1, none⟩ (.int .i64 rate) (hne 1)) ⟨b, 2, none⟩ (.slice A n cap) (hne 2)) ⟨b, 3, none⟩ (.int .i64 rest) (hne 3))
  clear hne B2 HFL
  go_upto_region 4 with fail
  obtain ⟨Y, hY⟩ : ∃ Y, Y = ((((w2.setCell ⟨b, 0, none⟩ (.int .i64 mean)).setCell ⟨b, 1, none⟩ (.int .i64 rate)).setCell ⟨b, 2, none⟩ (.slice A n cap)).setCell ⟨b, 3, none⟩ (.int .i64 rest)) := ⟨_, rfl⟩
  rw [← hY] at B3 W3 FL3 ⊢
  clear hY c0 c1 c2 c3 cl f0 f1 f2 f3 W2
  have HV1 := Lib.hid (fun W (hT : SinT W) (h : FlatSl W 3 A n cap ys) => Angle_ok mean rate rest t A n cap ys W hT h HSUM.out HIN.out)
  have HV2 := Lib.hid (fun W (hT : SinT W) (h : FlatSl W 3 A n cap ys) => Angle_ok mean rate rest y A n cap ys W hT h HSUM.out HIN2.out)
  have HV3 := Lib.hid (fun W (h : FlatSl W 3 A n cap ys) => Slope_ok mean rate rest A n cap ys W h HSUM.out HN6.out)
  obtain ⟨m, g1, g2⟩ := moves_law (t := t) HSUM.out HN6.out dd1 dd2
  rw [← HY.out] at g1 g2
  have bx := an_bd (t := t) HSUM.out
  have by' := an_bd (t := y) HSUM.out
  have SL := slope_law HN6.out ⟨HSUM.out.r1, HSUM.out.r2⟩ HSUM.out.tm
  obtain ⟨b1, b2⟩ := SL.bl
  obtain ⟨b3, b4⟩ := SL.bh
  clear SL
  generalize anLo mean rate rest ys n t = al at *
  generalize anHi mean rate rest ys n t = ah at *
  generalize anLo mean rate rest ys n y = bl at *
  generalize anHi mean rate rest ys n y = bh at *
  generalize spLo rate ys n = sl at *
  generalize spHi rate ys n = sh at *
  have dl : -4000000000000 ≤ d * sl ∧ d * sl ≤ 4000000000000 := by
    have := mul_bd (a := d) (b := sl) (A := 20) (B := 160000000000) ⟨by omega, by omega⟩ ⟨b1, b2⟩
    omega
  have dh : -4000000000000 ≤ d * sh ∧ d * sh ≤ 4000000000000 := by
    have := mul_bd (a := d) (b := sh) (A := 20) (B := 160000000000) ⟨by omega, by omega⟩ ⟨b3, b4⟩
    omega
  obtain ⟨u1, u2⟩ := dl
  obtain ⟨u3, u4⟩ := dh
  have ws1 : wrap64 (d * sl) = d * sl := IntWalk.wrap64_in _ (by omega)
  have ws2 : wrap64 (d * sh) = d * sh := IntWalk.wrap64_in _ (by omega)
  generalize hp1 : d * sl = p1 at *
  generalize hp2 : d * sh = p2 at *
  have ws3 : wrap64 (al + p1) = al + p1 := IntWalk.wrap64_in _ (by omega)
  have ws4 : wrap64 (ah + p2) = ah + p2 := IntWalk.wrap64_in _ (by omega)
  have ws5 : wrap64 (sh - sl) = sh - sl := IntWalk.wrap64_in _ (by omega)
  have HM := Lib.hid (fun w => same_any bl bh (al + p1) (ah + p2) w (by omega) (by omega) (by omega) (by omega) (same_pt g1 g2))
  clear g1 g2 bx by' b1 b2 b3 b4 u1 u2 u3 u4
  have T3 := Lib.hid (HT.out.below W3.out)
  have c0 := B3.out.c0; have c1 := B3.out.c1; have c2 := B3.out.c2; have c3 := B3.out.c3; have cl := B3.out.lt
  go_wp2_with fail
  refine Calls.mono (HV1.out _ T3.out FL3.out) ?_
  rintro e v4 ⟨rfl, hb⟩
  have V4 := W3.out.trans (hb.mono W3.out.size)
  have W4 := Lib.hid (V4.alloc V4.size (.cells #[.int .i64 al, .int .i64 ah] 24))
  have B4 := Lib.hid ((B3.out.below hb).alloc (.cells #[.int .i64 al, .int .i64 ah] 24))
  have FL4 := Lib.hid (flat_below (flat_below FL3.out hb) ((Below.refl v4.heap.size v4).alloc (Nat.le_refl _) (.cells #[.int .i64 al, .int .i64 ah] 24)))
  have S4 := Lib.hid (SpBox.new v4 al ah)
  obtain ⟨k4, hk4⟩ : ∃ x, x = v4.heap.size := ⟨_, rfl⟩
  rw [← hk4] at S4
  clear hb c0 c1 c2 c3 cl T3 V4 B3 W3 FL3
  go_upto_region 5 with fail
  rw [← hk4]
  obtain ⟨X4, hX4⟩ : ∃ X, X = v4.alloc (.cells #[.int .i64 al, .int .i64 ah] 24) := ⟨_, rfl⟩
  rw [← hX4] at  S4 W4 B4 FL4 ⊢
  clear hX4 hk4
  have T4 := Lib.hid (HT.out.below W4.out)
  have c0 := B4.out.c0; have c1 := B4.out.c1; have c2 := B4.out.c2; have c3 := B4.out.c3; have cl := B4.out.lt
  go_wp2_with fail
  refine Calls.mono (HV2.out _ T4.out FL4.out) ?_
  rintro e v5 ⟨rfl, hb⟩
  have V5 := W4.out.trans (hb.mono W4.out.size)
  have W5 := Lib.hid (V5.alloc V5.size (.cells #[.int .i64 bl, .int .i64 bh] 24))
  have B5 := Lib.hid ((B4.out.below hb).alloc (.cells #[.int .i64 bl, .int .i64 bh] 24))
  have FL5 := Lib.hid (flat_below (flat_below FL4.out hb) ((Below.refl v5.heap.size v5).alloc (Nat.le_refl _) (.cells #[.int .i64 bl, .int .i64 bh] 24)))
  replace S4 := Lib.hid ((S4.out.below hb).alloc (.cells #[.int .i64 bl, .int .i64 bh] 24))
  have S5 := Lib.hid (SpBox.new v5 bl bh)
  obtain ⟨k5, hk5⟩ : ∃ x, x = v5.heap.size := ⟨_, rfl⟩
  rw [← hk5] at S5
  clear hb c0 c1 c2 c3 cl T4 V5 B4 W4 FL4
  go_upto_region 6 with fail
  rw [← hk5]
  obtain ⟨X5, hX5⟩ : ∃ X, X = v5.alloc (.cells #[.int .i64 bl, .int .i64 bh] 24) := ⟨_, rfl⟩
  rw [← hX5] at S4 S5 W5 B5 FL5 ⊢
  clear hX5 hk5
  have T5 := Lib.hid (HT.out.below W5.out)
  have c0 := B5.out.c0; have c1 := B5.out.c1; have c2 := B5.out.c2; have c3 := B5.out.c3; have cl := B5.out.lt
  go_wp2_with fail
  refine Calls.mono (HV3.out _ FL5.out) ?_
  rintro e v6 ⟨rfl, hb⟩
  have V6 := W5.out.trans (hb.mono W5.out.size)
  have W6 := Lib.hid (V6.alloc V6.size (.cells #[.int .i64 sl, .int .i64 sh] 24))
  have B6 := Lib.hid ((B5.out.below hb).alloc (.cells #[.int .i64 sl, .int .i64 sh] 24))
  have FL6 := Lib.hid (flat_below (flat_below FL5.out hb) ((Below.refl v6.heap.size v6).alloc (Nat.le_refl _) (.cells #[.int .i64 sl, .int .i64 sh] 24)))
  replace S4 := Lib.hid ((S4.out.below hb).alloc (.cells #[.int .i64 sl, .int .i64 sh] 24))
  replace S5 := Lib.hid ((S5.out.below hb).alloc (.cells #[.int .i64 sl, .int .i64 sh] 24))
  have S6 := Lib.hid (SpBox.new v6 sl sh)
  obtain ⟨k6, hk6⟩ : ∃ x, x = v6.heap.size := ⟨_, rfl⟩
  rw [← hk6] at S6
  clear hb c0 c1 c2 c3 cl T5 V6 B5 W5 FL5
  go_upto_region 7 with fail
  rw [← hk6]
  obtain ⟨X6, hX6⟩ : ∃ X, X = v6.alloc (.cells #[.int .i64 sl, .int .i64 sh] 24) := ⟨_, rfl⟩
  rw [← hX6] at S4 S5 S6 W6 B6 FL6 ⊢
  clear hX6 hk6
  have p0 := S4.out.c0; have p1' := S4.out.c1; have pl := S4.out.lt
  have q0 := S5.out.c0; have q1 := S5.out.c1; have ql := S5.out.lt
  have r0 := S6.out.c0; have r1 := S6.out.c1; have rl := S6.out.lt
  by_cases hbig : 100000000000 < sh - sl
  · go_wp2_with fail
    go_ret
    exact ⟨rfl, W6.out⟩
  · go_wp2_with fail
    refine Calls.mono (HM.out _) ?_
    rintro e w8 ⟨rfl, hb⟩
    have Wb := Lib.hid (W6.out.trans (hb.mono W6.out.size))
    clear hb p0 p1' pl q0 q1 ql r0 r1 rl
    go_wp2_with fail
    go_ret
    exact ⟨rfl, Wb.out⟩
end Go.Proofs.YtdeoahgcppbmkaaDoor
