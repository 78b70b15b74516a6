/- TopEclipse: an eclipse occurs only with a small latitude of the moon; if it is a total one of the sun, its shadow falls somewhere. -/
import Derived.Test.YtcopmgnfakjdhaaGreatDoorZTeL
import Derived.Test.YtcopmgnfakjdhaaGreatDoorZTopSky
namespace Go.Proofs.YtcopmgnfakjdhaaGreatDoor
open Go.RowKit
set_option linter.unusedSimpArgs false
set_option linter.unusedVariables false
set_option maxHeartbeats 1000000 in
theorem te_meets (a b c d : Int) (w : World) (h1 : a ≤ d) (h2 : c ≤ b) :
    Calls Tryz.prog 36 #[.agg #[.int .i64 a, .int .i64 b], .agg #[.int .i64 c, .int .i64 d]] w fun e w' => e = .returned (.bool true) ∧ Below w.heap.size w w' := by
  go_enter Tryz.func36, Tryz.ntmps36
  go_wp2
  go_returns
  exact ⟨rfl, (by repeat' (first | (with_reducible refine below_drewN ?_ _) | go_grown))⟩
theorem te_trk (k : Int) (hk : -100000 ≤ k ∧ k ≤ 100000) (w : World) (hT : SinT w) : Calls Tryz.prog 39 #[.int .i64 k] w fun e w' => ∃ a n c, e = .returned (.tuple #[.slice a n c, .int .i64 (trE k)]) ∧ ((trE k = 0 ∧ n = trN (ecF k 0).a 49) ∨ (trE k ≠ 0 ∧ n = 0)) ∧ Below w.heap.size w w' :=
  (Track_ok k hk w hT).mono (fun e w' h => by
    obtain ⟨v, h1, h2, h3, h4⟩ := h
    by_cases t : trE k = 0
    · obtain ⟨B, -, own⟩ := h3 t
      rcases own.2 with ⟨hv, h0⟩ | ⟨g, cap, _, hv, _⟩
      · subst hv
        exact ⟨_, _, _, h1, .inl ⟨t, h0.symm⟩, h2⟩
      · subst hv
        exact ⟨_, _, _, h1, .inl ⟨t, rfl⟩, h2⟩
    · have := h4 t
      subst this
      exact ⟨_, _, _, h1, .inr ⟨t, rfl⟩, h2⟩)
set_option maxRecDepth 100000 in
set_option maxHeartbeats 16000000 in
theorem topEclipse_walk (k0 q0 : Int) (w : World) (hT : SinT w) : Calls Tryz.prog 9 #[.int .i64 k0, .int .i64 q0] w fun e w' => e = .returned (.bool true) ∧ Below w.heap.size w w' := by
  have HW := Lib.hid (fun W (hT : SinT W) => sSky_ok W hT)
  have I := Lib.hid (fun w => sat_any q0 2 w (by omega) (by omega))
  have m1 : 0 ≤ q0 % 2 := by omega
  have m2 : q0 % 2 < 2 := by omega
  generalize q0 % 2 = r at *
  obtain ⟨kb1, kb2⟩ := rem_bd k0
  obtain ⟨k, hk⟩ : ∃ k, k = k0.tmod 90000 := ⟨_, rfl⟩
  rw [← hk] at kb1 kb2
  have ek2 : k0.tmod 90000 = k := hk.symm
  obtain ⟨q, hq⟩ : ∃ q, q = 2 * r := ⟨_, rfl⟩
  have hq2 : q = 0 ∨ q = 2 := by omega
  have e2 : wrap64 (2 * r) = q := by rw [hq]; exact IntWalk.wrap64_in _ (by omega)
  have kr : -100000 ≤ k ∧ k ≤ 100000 := by omega
  have TC := te_cases (k := k) (q := q) kr hq2
  have EF := Lib.hid (fun W (hT : SinT W) => eFind_ok k q kr hq2 W hT)
  have bd := phF_bd (k := k) (q := q) kr.1 kr.2 (by omega) (by omega)
  have ML := Lib.hid (fun W (hT : SinT W) => moonLatt_ok (phF k q).2 W hT (by unfold instOk dayOk; exact decide_eq_true (by omega)))
  have TR := Lib.hid (fun W (hT : SinT W) => te_trk k kr W hT)
  generalize hN : trN (ecF k 0).a 49 = N at *
  generalize hte : trE k = te at *
  have HT := Lib.hid hT
  have HE := Lib.hid e2
  have HQ := Lib.hid hq2
  clear hT hk kb1 kb2 m1 m2 hq bd kr e2 hq2
  go_enter Tryz.func9, Tryz.ntmps9
  have HB := Lib.hid (Below.refl w.heap.size w)
  go_wp2_with fail
  refine Calls.mono (HW.out _ HT.out) ?_
  rintro e wc1 ⟨rfl, hb⟩
  replace HB := Lib.hid (HB.out.trans (hb.mono HB.out.size))
  clear hb
  go_wp2_with fail
  refine Calls.mono (I.out _) ?_
  rintro e wq ⟨rfl, rfl⟩
  have he2 := HE.out
  rcases TC with E | ⟨K, b, l, h, p, u, E, hb2, LW⟩
  · skip
    clear hN
    rw [E] at EF
    go_wp2_with fail
    refine Calls.mono (EF.out _ (HT.out.below HB.out)) ?_
    rintro e wn1 ⟨rfl, hb⟩
    have HB1 := HB.out.trans (hb.mono HB.out.size)
    clear hb
    have Hkl1 := Lib.hid HB1.size; replace HB := Lib.hid (HB1.alloc HB1.size (.cells #[.int .i64 0, .int .i64 0, .int .i64 0, .int .i64 0, .int .i64 0, .int .i64 0, .int .i64 0] 44)); clear HB1
    have s1 := Lib.hid (EcBox.new wn1 (.int .i64 0) (.int .i64 0) (.int .i64 0) (.int .i64 0) (.int .i64 0) (.int .i64 0) (.int .i64 0))
    obtain ⟨k1, hk1⟩ : ∃ x, x = wn1.heap.size := ⟨_, rfl⟩
    rw [← hk1] at s1 Hkl1
    go_upto_region 5 with fail
    rw [← hk1]
    obtain ⟨X1, hX1⟩ : ∃ X, X = wn1.alloc (.cells #[.int .i64 0, .int .i64 0, .int .i64 0, .int .i64 0, .int .i64 0, .int .i64 0, .int .i64 0] 44) := ⟨_, rfl⟩
    rw [← hX1] at s1 HB ⊢
    clear hk1 hX1
    have z0 := s1.out.c0; have z1 := s1.out.c1; have z2 := s1.out.c2; have z3 := s1.out.c3; have z4 := s1.out.c4; have z5 := s1.out.c5; have z6 := s1.out.c6; have zl := s1.out.lt
    go_wp2_with fail
    go_ret
    exact ⟨rfl, HB.out⟩
  · skip
    rw [E] at EF
    rw [← hb2] at ML
    generalize (phF k q).1 = a1 at *
    clear E hb2
    have lm1 := LW.m1; have lm2 := LW.m2; have lmm := LW.mm; have ln := LW.none'; have ls := LW.some'; have lk := LW.k3; have lt := LW.tr
    rw [hte, hN] at lt
    clear hN
    clear LW hte
    have SM := Lib.hid (fun W => te_meets (mbLo b) (mbHi b) l h W lm1 lm2)
    generalize mbLo b = b1 at *
    generalize mbHi b = b2 at *
    have HLN := Lib.hid ln; have HLS := Lib.hid ls; have HLT := Lib.hid lt; have HLK := Lib.hid lk; have HMM := Lib.hid lmm
    clear lm1 lm2 lmm ln ls lt lk
    go_wp2_with fail
    refine Calls.mono (EF.out _ (HT.out.below HB.out)) ?_
    rintro e wn1 ⟨rfl, hb⟩
    have HB1 := HB.out.trans (hb.mono HB.out.size)
    clear hb
    have Hkl1 := Lib.hid HB1.size; replace HB := Lib.hid (HB1.alloc HB1.size (.cells #[.int .i64 K, .int .i64 a1, .int .i64 b, .int .i64 l, .int .i64 h, .int .i64 p, .int .i64 u] 44)); clear HB1
    have s1 := Lib.hid (EcBox.new wn1 (.int .i64 K) (.int .i64 a1) (.int .i64 b) (.int .i64 l) (.int .i64 h) (.int .i64 p) (.int .i64 u))
    obtain ⟨k1, hk1⟩ : ∃ x, x = wn1.heap.size := ⟨_, rfl⟩
    rw [← hk1] at s1 Hkl1
    go_upto_region 5 with fail
    rw [← hk1]
    obtain ⟨X1, hX1⟩ : ∃ X, X = wn1.alloc (.cells #[.int .i64 K, .int .i64 a1, .int .i64 b, .int .i64 l, .int .i64 h, .int .i64 p, .int .i64 u] 44) := ⟨_, rfl⟩
    rw [← hX1] at s1 HB ⊢
    clear hk1 hX1
    have z2 := s1.out.c2; have zl := s1.out.lt
    go_upto_region 7 with fail
    go_wp2_with fail
    refine Calls.mono (ML.out _ (HT.out.below HB.out)) ?_
    rintro e wn2 ⟨rfl, hb⟩
    replace s1 := Lib.hid ((s1.out.below hb).alloc (.cells #[.int .i64 (b1), .int .i64 (b2)] 28))
    have HB2 := HB.out.trans (hb.mono HB.out.size)
    clear hb
    have Hkl2 := Lib.hid HB2.size; replace HB := Lib.hid (HB2.alloc HB2.size (.cells #[.int .i64 (b1), .int .i64 (b2)] 28))
    clear HB2
    have s2 := Lib.hid (SpBox.new wn2 (b1) (b2))
    obtain ⟨k2, hk2⟩ : ∃ x, x = wn2.heap.size := ⟨_, rfl⟩
    rw [← hk2] at s2 Hkl2
    go_upto_region 8 with fail
    rw [← hk2]
    obtain ⟨X2, hX2⟩ : ∃ X, X = wn2.alloc (.cells #[.int .i64 (b1), .int .i64 (b2)] 28) := ⟨_, rfl⟩
    rw [← hX2] at s1 s2 HB ⊢
    clear hk2 hX2
    clear z2 zl EF ML HW I
    have y3 := s1.out.c3; have y4 := s1.out.c4; have zl := s1.out.lt
    have sc2_0 := s2.out.c0; have sc2_1 := s2.out.c1; have sc2_l := s2.out.lt
    go_wp2_with fail
    refine Calls.mono (SM.out _) ?_
    rintro e wc2 ⟨rfl, hb⟩
    replace s1 := Lib.hid (s1.out.below hb)
    replace s2 := Lib.hid (s2.out.below hb)
    replace HB := Lib.hid (HB.out.trans (hb.mono HB.out.size))
    clear sc2_0 sc2_1 sc2_l
    clear hb
    clear y3 y4 zl
    have z0 := s1.out.c0; have zl := s1.out.lt
    have sc2_0 := s2.out.c0; have sc2_1 := s2.out.c1; have sc2_l := s2.out.lt
    have lk := HLK.out
    by_cases hK : K = 0
    · have ln := HLN.out hK
      subst hK
      rcases ln with ln | ln
      · go_wp2_with fail
        go_ret
        exact ⟨rfl, HB.out⟩
      · have l2 : b1 < -1000000 := by have := HMM.out; omega
        go_wp2_with fail
        go_ret
        exact ⟨rfl, HB.out⟩
    · obtain ⟨g1, g2⟩ := HLS.out hK
      have hK2 : (K == 0) = false := by simp [hK]
      have y3 := s1.out.c3; have y4 := s1.out.c4
      go_wp2_with fail
      refine Calls.mono (TR.out _ (HT.out.below HB.out)) ?_
      rintro e wz ⟨a, n, c, rfl, hn, hb⟩
      have HZ := Lib.hid (HB.out.trans (hb.mono HB.out.size))
      have HN := Lib.hid hn
      have x0 := bX_oldc hb zl z0
      have x3 := bX_oldc hb zl y3
      have x4 := bX_oldc hb zl y4
      clear hb hn z0 y3 y4 zl
      have lt := HLT.out
      have hq := HQ.out
      have hn := HN.out
      clear HLT HQ HN HLN HLS HLK TR
      by_cases c : q = 0 ∧ K = 2
      · obtain ⟨rfl, rfl⟩ := c
        obtain ⟨te0, lt2⟩ := lt rfl rfl
        subst te0
        clear lt
        obtain rfl : n = N := by omega
        clear hn hK hK2 lk hq
        by_cases n0 : 0 < n
        · clear lt2
          have n1 : (0 : Int) < (n : Int) := by omega
          go_wp2_with fail
          go_ret
          exact ⟨rfl, HZ.out⟩
        · obtain rfl : n = 0 := by omega
          by_cases c1 : l < -1500000
          · clear lt2 n0
            go_wp2_with fail
            go_ret
            exact ⟨rfl, HZ.out⟩
          · have c4 : -1500000 ≤ l := Int.not_lt.1 c1
            have c2 : 1500000 < h := Int.not_le.1 (fun c3 => n0 (lt2 c4 c3))
            clear lt2 n0 c1
            go_wp2_with fail
            go_ret
            exact ⟨rfl, HZ.out⟩
      · clear lt
        rcases hn with ⟨rfl, hn⟩ | ⟨t1, rfl⟩
        · clear hn
          by_cases c1 : q = 2
          · subst c1
            clear c hq
            go_wp2_with fail
            go_ret
            exact ⟨rfl, HZ.out⟩
          · obtain rfl : q = 0 := by omega
            obtain rfl : K = 1 := by omega
            clear c hq c1 lk
            go_wp2_with fail
            go_ret
            exact ⟨rfl, HZ.out⟩
        · have t2 : (te == 0) = false := by simp [t1]
          by_cases c1 : q = 2
          · subst c1
            clear c hq
            go_wp2_with fail
            go_ret
            exact ⟨rfl, HZ.out⟩
          · obtain rfl : q = 0 := by omega
            obtain rfl : K = 1 := by omega
            clear c hq c1 lk
            go_wp2_with fail
            go_ret
            exact ⟨rfl, HZ.out⟩
end Go.Proofs.YtcopmgnfakjdhaaGreatDoor
