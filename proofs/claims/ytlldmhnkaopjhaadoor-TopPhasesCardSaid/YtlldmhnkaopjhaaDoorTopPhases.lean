/- TopPhases: between two new moons in a row the number is that of the first one, and the moon is lit more and more, then less and less. -/
import Derived.Test.YtlldmhnkaopjhaaDoorTopSky
import Derived.Test.YtlldmhnkaopjhaaDoorTopPhM
import Derived.Test.YtlldmhnkaopjhaaDoorPhaseLight
import Derived.Test.YtlldmhnkaopjhaaDoorPhaseNumbersGrow
namespace Go.Proofs.YtlldmhnkaopjhaaDoor
open Go.RowKit
set_option linter.unusedSimpArgs false
set_option linter.unusedVariables false
/-- The three phases, and the numbers of the instants between. -/
structure TopM (k : Int) : Prop where
  m : (phF k 0).2 < (phF k 2).1
  o : (phF k 2).1 ≤ (phF k 2).2
  n : (phF k 2).2 < (phF (k + 1) 0).1
  g : ∀ x, (phF k 0).2 + 86400000 ≤ x → x + 129600000 < (phF k 2).1 → liLo x < liLo (x + 43200000)
  f : ∀ x, (phF k 2).2 + 86400000 < x → x + 86400000 < (phF (k + 1) 0).1 → liLo (x + 43200000) < liLo x
theorem top_m {k : Int} (k0 : -90000 ≤ k) (k1 : k ≤ 90000) : TopM k := by
  obtain ⟨c, C⟩ := ph_in (k := k) (q := 0) (by omega) (by omega) (by omega) (by omega)
  obtain ⟨c1, C1⟩ := ph_in (k := k) (q := 1) (by omega) (by omega) (by omega) (by omega)
  obtain ⟨c2, C2⟩ := ph_in (k := k) (q := 2) (by omega) (by omega) (by omega) (by omega)
  obtain ⟨c3, C3⟩ := ph_in (k := k) (q := 3) (by omega) (by omega) (by omega) (by omega)
  obtain ⟨c4, C4⟩ := ph_in (k := k + 1) (q := 0) (by omega) (by omega) (by omega) (by omega)
  have s1 := (ph_step C C1 (by omega)).1
  have s2 := (ph_step C1 C2 (by omega)).1
  have s3 := (ph_step C2 C3 (by omega)).1
  have s4 := (ph_step C3 C4 (by omega)).1
  have a0 := C.c; have a1 := C1.b; have b1 := C1.c; have a2 := C2.b; have b2 := C2.c; have a3 := C3.b; have b3 := C3.c; have a4 := C4.b
  have P := C.x; have P2 := C2.x; have P4 := C4.x
  clear C C1 C2 C3 C4
  refine ⟨by omega, by omega, by omega, fun x h1 h2 => top_grows P P2 (by omega) (by omega), fun x h1 h2 => top_falls P4 P2 (by omega) (by omega)⟩
set_option maxRecDepth 100000 in
set_option maxHeartbeats 32000000 in
theorem topPhases_walk (a0 t0 : Int) (w : World) (hT : SinT w) : Calls Tryd.prog 9 #[.int .i64 a0, .int .i64 t0] w fun e w' => e = .returned (.bool true) ∧ Below w.heap.size w w' := by
  have HW := Lib.hid (sSky_ok w hT)
  have HT := Lib.hid hT
  obtain ⟨k, hk⟩ : ∃ k, k = a0.tmod 90000 := ⟨_, rfl⟩
  obtain ⟨kb1, kb2⟩ := rem_bd a0
  rw [← hk] at kb1 kb2
  have ek2 : a0.tmod 90000 = k := hk.symm
  obtain ⟨q1, q2, q3, q4, q5, q6, q7, q8, q9, q10⟩ := new_m (k := k) (by omega) (by omega)
  obtain ⟨tm, tz, tn, tg, tf⟩ := top_m (k := k) (by omega) (by omega)
  have F1 := Lib.hid (fun W (hT : SinT W) => PFind_ok k 0 (by omega) (by omega) W hT)
  have F2 := Lib.hid (fun W (hT : SinT W) => PFind_ok k 2 (by omega) (by omega) W hT)
  have F3 := Lib.hid (fun W (hT : SinT W) => PFind_ok (k + 1) 0 (by omega) (by omega) W hT)
  obtain ⟨n, hn⟩ : ∃ n, n = (phF (k + 1) 0).1 - (phF k 0).2 - 172800000 := ⟨_, rfl⟩
  have A := Lib.hid (fun w => sat_any t0 n w (by omega) (by omega))
  have r1 : 0 ≤ t0 % n := Int.emod_nonneg _ (by omega)
  have r2 : t0 % n < n := Int.emod_lt_of_pos _ (by omega)
  generalize t0 % n = r at *
  have ix : ∀ x : Int, -300000000000001 ≤ x → x ≤ 300000000000001 → instOk x = true := fun x h1 h2 => by unfold instOk dayOk; exact decide_eq_true (by omega)
  obtain ⟨t, ht⟩ : ∃ t, t = (phF k 0).2 + 86400000 + r := ⟨_, rfl⟩
  have N1 := Lib.hid (fun W (hT : SinT W) => Number_ok t k _ W hT (ix _ (by omega) (by omega)) (by omega) rfl (by omega) (by omega) (by omega) (by omega) (fun j h1 h2 => by
    rcases (by omega : j = k + 1 ∨ j = k + 2) with rfl | rfl <;> omega) k 0 (.inr ⟨by omega, rfl, rfl⟩))
  have L1 := Lib.hid (fun W (hT : SinT W) => Lit_ok t W hT (ix _ (by omega) (by omega)))
  obtain ⟨t', ht'⟩ : ∃ t', t' = t + 43200000 := ⟨_, rfl⟩
  have L2 := Lib.hid (fun W (hT : SinT W) => Lit_ok t' W hT (ix _ (by omega) (by omega)))
  have G := fun h => tg t (by omega) h
  have D := fun h => tf t h (by omega)
  rw [← ht'] at G D
  have b1' := li_bd t
  have b2' := li_bd t'
  generalize (phF (k + 1) 0).1 = c1 at *
  generalize (phF (k + 1) 0).2 = c2 at *
  generalize (phF k 0).1 = a1 at *
  generalize (phF k 0).2 = a2 at *
  generalize (phF k 2).1 = m1 at *
  generalize (phF k 2).2 = m2 at *
  generalize liLo t = l1 at *
  generalize liHi t = l2 at *
  generalize liLo t' = l3 at *
  generalize liHi t' = l4 at *
  have HN := Lib.hid hn
  have w1' : IntKind.i64.wrap (c1 - a2) = c1 - a2 := IntWalk.i64_in _ (by omega)
  have w2' : IntKind.i64.wrap (c1 - a2 - 172800000) = n := by rw [← hn]; exact IntWalk.i64_in _ (by omega)
  have w3' : IntKind.i64.wrap (a2 + 86400000) = a2 + 86400000 := IntWalk.i64_in _ (by omega)
  have w4' : IntKind.i64.wrap (a2 + 86400000 + r) = t := by rw [← ht]; exact IntWalk.i64_in _ (by omega)
  have w5' : IntKind.i64.wrap (t + 43200000) = t' := by rw [← ht']; exact IntWalk.i64_in _ (by omega)
  have w6' : IntKind.i64.wrap (m1 - 86400000) = m1 - 86400000 := IntWalk.i64_in _ (by omega)
  have w7' : IntKind.i64.wrap (m2 + 86400000) = m2 + 86400000 := IntWalk.i64_in _ (by omega)
  have HGD : (t' < m1 - 86400000 ∧ ¬ m2 + 86400000 < t ∧ l1 < l3) ∨ (¬ t' < m1 - 86400000 ∧ m2 + 86400000 < t ∧ l3 < l1) ∨ (¬ t' < m1 - 86400000 ∧ ¬ m2 + 86400000 < t) := by
    by_cases g : t' < m1 - 86400000
    · exact .inl ⟨g, by omega, G (by omega)⟩
    · by_cases d : m2 + 86400000 < t
      · exact .inr (.inl ⟨g, d, D d⟩)
      · exact .inr (.inr ⟨g, d⟩)
  have HGD := Lib.hid HGD
  clear hT hk ix q1 q2 q3 q4 q5 q6 q7 q8 q9 q10 hn r1 r2 ht ht' G D tg tf b1' b2'
  have tm' : ¬ m1 ≤ a2 := by omega
  have tn' : ¬ c1 ≤ m2 := by omega
  clear tm tn tz
  go_enter Tryd.func9, Tryd.ntmps9
  have HB := Lib.hid (Below.refl w.heap.size w)
  go_wp2_with fail
  refine Calls.mono (HW.out) ?_
  rintro e wc1 ⟨rfl, hb⟩
  replace HB := Lib.hid (HB.out.trans (hb.mono HB.out.size))
  clear hb
  go_wp2_with fail
  refine Calls.mono (F1.out _ (HT.out.below HB.out)) ?_
  rintro e wn1 ⟨rfl, hb⟩
  have HB1 := HB.out.trans (hb.mono HB.out.size)
  clear hb
  have Hkl1 := Lib.hid HB1.size; replace HB := Lib.hid (HB1.alloc HB1.size (.cells #[.int .i64 (a1), .int .i64 (a2)] 24))
  clear HB1
  have s1 := Lib.hid (SpBox.new wn1 (a1) (a2))
  obtain ⟨k1, hk1⟩ : ∃ x, x = wn1.heap.size := ⟨_, rfl⟩
  rw [← hk1] at s1 Hkl1
  go_upto_region 5 with fail
  rw [← hk1]
  obtain ⟨X1, hX1⟩ : ∃ X, X = wn1.alloc (.cells #[.int .i64 (a1), .int .i64 (a2)] 24) := ⟨_, rfl⟩
  rw [← hX1] at s1 HB ⊢
  clear hk1 hX1
  go_wp2_with fail
  refine Calls.mono (F2.out _ (HT.out.below HB.out)) ?_
  rintro e wn2 ⟨rfl, hb⟩
  replace s1 := Lib.hid ((s1.out.below hb).alloc (.cells #[.int .i64 (m1), .int .i64 (m2)] 24))
  have HB2 := HB.out.trans (hb.mono HB.out.size)
  clear hb
  have Hkl2 := Lib.hid HB2.size; replace HB := Lib.hid (HB2.alloc HB2.size (.cells #[.int .i64 (m1), .int .i64 (m2)] 24))
  clear HB2
  have s2 := Lib.hid (SpBox.new wn2 (m1) (m2))
  obtain ⟨k2, hk2⟩ : ∃ x, x = wn2.heap.size := ⟨_, rfl⟩
  rw [← hk2] at s2 Hkl2
  go_upto_region 6 with fail
  rw [← hk2]
  obtain ⟨X2, hX2⟩ : ∃ X, X = wn2.alloc (.cells #[.int .i64 (m1), .int .i64 (m2)] 24) := ⟨_, rfl⟩
  rw [← hX2] at s1 s2 HB ⊢
  clear hk2 hX2
  go_wp2_with fail
  refine Calls.mono (F3.out _ (HT.out.below HB.out)) ?_
  rintro e wn3 ⟨rfl, hb⟩
  replace s1 := Lib.hid ((s1.out.below hb).alloc (.cells #[.int .i64 (c1), .int .i64 (c2)] 24))
  replace s2 := Lib.hid ((s2.out.below hb).alloc (.cells #[.int .i64 (c1), .int .i64 (c2)] 24))
  have HB3 := HB.out.trans (hb.mono HB.out.size)
  clear hb
  have Hkl3 := Lib.hid HB3.size; replace HB := Lib.hid (HB3.alloc HB3.size (.cells #[.int .i64 (c1), .int .i64 (c2)] 24))
  clear HB3
  have s3 := Lib.hid (SpBox.new wn3 (c1) (c2))
  obtain ⟨k3, hk3⟩ : ∃ x, x = wn3.heap.size := ⟨_, rfl⟩
  rw [← hk3] at s3 Hkl3
  go_upto_region 7 with fail
  rw [← hk3]
  obtain ⟨X3, hX3⟩ : ∃ X, X = wn3.alloc (.cells #[.int .i64 (c1), .int .i64 (c2)] 24) := ⟨_, rfl⟩
  rw [← hX3] at s1 s2 s3 HB ⊢
  clear hk3 hX3
  have sc1_0 := s1.out.c0; have sc1_1 := s1.out.c1; have sc1_l := s1.out.lt
  have sc2_0 := s2.out.c0; have sc2_1 := s2.out.c1; have sc2_l := s2.out.lt
  have sc3_0 := s3.out.c0; have sc3_1 := s3.out.c1; have sc3_l := s3.out.lt
  go_upto_region 9 with fail
  clear sc1_0 sc1_1 sc1_l sc2_0 sc2_1 sc2_l sc3_0 sc3_1 sc3_l
  go_cut [1] (fun st wx => st = .int .i64 t ∧ Hid (SpBox wx k2 m1 m2) ∧ Hid (Below w.heap.size w wx))
  case first =>
    obtain ⟨Q, hQ⟩ : ∃ Q, Q = (X3).drew := ⟨_, rfl⟩
    have xQ0 : Q.cell? ⟨k1, 1, none⟩ = some (.int .i64 a2) := by rw [hQ]; exact (s1.out.drew.c1)
    have xQ1 : Q.cell? ⟨k3, 0, none⟩ = some (.int .i64 c1) := by rw [hQ]; exact (s3.out.drew.c0)
    have lQ0 : k1 < Q.heap.size := by rw [hQ]; exact (s1.out.lt)
    have lQ1 : k3 < Q.heap.size := by rw [hQ]; exact (s3.out.lt)
    have bQ : Below w.heap.size w Q := by rw [hQ]; exact (HB.out).drew
    have HxQ0 := Lib.hid xQ0
    have HxQ1 := Lib.hid xQ1
    have HlQ0 := Lib.hid lQ0
    have HlQ1 := Lib.hid lQ1
    have HbQ := Lib.hid bQ
    have HhQ := Lib.hid hQ
    clear xQ0 xQ1 lQ0 lQ1 bQ hQ
    go_region_held3 (fun w' => w'.cell? ⟨k1, 1, none⟩ = some (.int .i64 a2) ∧ w'.cell? ⟨k3, 0, none⟩ = some (.int .i64 c1) ∧ Below Q.heap.size Q w')
      (((try dsimp only); repeat' apply And.intro) <;> (first | (with_reducible assumption) | (go_split_ands; (with_reducible assumption)) | (rw [← HhQ.out]; (first | exact Below.refl _ _ | exact HxQ0.out | exact HxQ1.out)) | go_keep))
      (first
        | (go_at_call 23; refine Calls.mono (A.out _) ?_; rintro e _ ⟨rfl, rfl⟩))
    go_wp2_with fail
    go_meet
    go_split_ands
    exact ⟨rfl, Lib.hid ((show SpBox Q k2 m1 m2 by rw [HhQ.out]; exact s2.out.drew).below (by with_reducible assumption)), Lib.hid (bX_back HbQ.out (by with_reducible assumption))⟩
  case rest =>
    obtain ⟨rfl, S2, HB'⟩ := hcut
    clear s1 s3
    replace s2 := S2
    replace HB := HB'
    clear S2 HB'
    go_wp2_with fail
    refine Calls.mono (N1.out _ (HT.out.below HB.out)) ?_
    rintro e wc2 ⟨rfl, hb⟩
    replace s2 := Lib.hid (s2.out.below hb)
    replace HB := Lib.hid (HB.out.trans (hb.mono HB.out.size))
    clear hb
    go_wp2_with fail
    refine Calls.mono (L1.out _ (HT.out.below HB.out)) ?_
    rintro e wn4 ⟨rfl, hb⟩
    replace s2 := Lib.hid ((s2.out.below hb).alloc (.cells #[.int .i64 (l1), .int .i64 (l2)] 24))
    have HB4 := HB.out.trans (hb.mono HB.out.size)
    clear hb
    have Hkl4 := Lib.hid HB4.size; replace HB := Lib.hid (HB4.alloc HB4.size (.cells #[.int .i64 (l1), .int .i64 (l2)] 24))
    clear HB4
    have s4 := Lib.hid (SpBox.new wn4 (l1) (l2))
    obtain ⟨k4, hk4⟩ : ∃ x, x = wn4.heap.size := ⟨_, rfl⟩
    rw [← hk4] at s4 Hkl4
    go_upto_region 12 with fail
    rw [← hk4]
    obtain ⟨X4, hX4⟩ : ∃ X, X = wn4.alloc (.cells #[.int .i64 (l1), .int .i64 (l2)] 24) := ⟨_, rfl⟩
    rw [← hX4] at s2 s4 HB ⊢
    clear hk4 hX4
    go_wp2_with fail
    refine Calls.mono (L2.out _ (HT.out.below HB.out)) ?_
    rintro e wn5 ⟨rfl, hb⟩
    replace s2 := Lib.hid ((s2.out.below hb).alloc (.cells #[.int .i64 (l3), .int .i64 (l4)] 24))
    replace s4 := Lib.hid ((s4.out.below hb).alloc (.cells #[.int .i64 (l3), .int .i64 (l4)] 24))
    have HB5 := HB.out.trans (hb.mono HB.out.size)
    clear hb
    have Hkl5 := Lib.hid HB5.size; replace HB := Lib.hid (HB5.alloc HB5.size (.cells #[.int .i64 (l3), .int .i64 (l4)] 24))
    clear HB5
    have s5 := Lib.hid (SpBox.new wn5 (l3) (l4))
    obtain ⟨k5, hk5⟩ : ∃ x, x = wn5.heap.size := ⟨_, rfl⟩
    rw [← hk5] at s5 Hkl5
    go_upto_region 13 with fail
    rw [← hk5]
    obtain ⟨X5, hX5⟩ : ∃ X, X = wn5.alloc (.cells #[.int .i64 (l3), .int .i64 (l4)] 24) := ⟨_, rfl⟩
    rw [← hX5] at s2 s4 s5 HB ⊢
    clear hk5 hX5
    have hgd := HGD.out
    clear HGD
    rcases hgd with ⟨g1, g2, g3⟩ | ⟨g1, g2, g3⟩ | ⟨g1, g2⟩
    all_goals
      have sc2_0 := s2.out.c0; have sc2_1 := s2.out.c1; have sc4_0 := s4.out.c0; have sc5_0 := s5.out.c0
      go_wp2_with fail
      go_ret
      exact ⟨rfl, HB.out⟩
end Go.Proofs.YtlldmhnkaopjhaaDoor
