/- PhaseNumbersGrow: behind a new moon the number is that of the lunation, until the next one. -/
import Derived.Test.YtlldmhnkaopjhaaDoorPhasesInOrder
import Derived.Test.YtlldmhnkaopjhaaDoorOwn
import Derived.Deep.RegionHeld3
namespace Go.Proofs.YtlldmhnkaopjhaaDoor
open Go.RowKit
set_option linter.unusedSimpArgs false
set_option linter.unusedVariables false
/-- Where new moons lie. -/
structure NewM (k : Int) : Prop where
  a : -300000000000000 ≤ (phF k 0).1
  o : (phF k 0).1 ≤ (phF k 0).2
  b : (phF k 0).2 ≤ 300000000000000
  n : 2505600000 < (phF (k + 1) 0).1 - (phF k 0).2
  n2 : 2505600000 < (phF (k + 2) 0).1 - (phF (k + 1) 0).2
  o1 : (phF (k + 1) 0).1 ≤ (phF (k + 1) 0).2
  l : 977949455 + 2551442878 * k - 172800000 ≤ (phF k 0).1
  h : (phF k 0).2 ≤ 977949455 + 2551442878 * k + 172800000
  h1 : (phF (k + 1) 0).1 ≤ 977949455 + 2551442878 * (k + 1) + 172800000
  b1 : (phF (k + 1) 0).2 ≤ 300000000000000
theorem new_m {k : Int} (k0 : -90000 ≤ k) (k1 : k ≤ 90000) : NewM k := by
  obtain ⟨c, C⟩ := ph_in (k := k) (q := 0) (by omega) (by omega) (by omega) (by omega)
  obtain ⟨c', C'⟩ := ph_in (k := k + 1) (q := 0) (by omega) (by omega) (by omega) (by omega)
  obtain ⟨c2, C2⟩ := ph_in (k := k + 1 + 1) (q := 0) (by omega) (by omega) (by omega) (by omega)
  have m1 := ph_month C C'
  have m2 := ph_month C' C2
  rw [show k + 1 + 1 = k + 2 by omega] at m2
  have b0 := phF_bd (k := k) (q := 0) (by omega) (by omega) (by omega) (by omega)
  have b1 := phF_bd (k := k + 1) (q := 0) (by omega) (by omega) (by omega) (by omega)
  have l := C.a; have h := C.d; have h1 := C'.d
  unfold phM at l h h1
  exact ⟨by omega, by omega, by omega, by omega, by omega, by omega, by omega, by omega, by omega, by omega⟩
set_option maxRecDepth 100000 in
set_option maxHeartbeats 16000000 in
theorem phaseNumbersGrow_walk (a0 t0 : Int) (w : World) (hT : SinT w) : Calls Tryd.prog 4 #[.int .i64 a0, .int .i64 t0] w fun e w' => e = .returned (.bool true) ∧ Below w.heap.size w w' := by
  have HW := Lib.hid (phaseWorks_ok w hT)
  have HT := Lib.hid hT
  obtain ⟨k, hk⟩ : ∃ k, k = a0.tmod 90000 := ⟨_, rfl⟩
  obtain ⟨kb1, kb2⟩ := rem_bd a0
  rw [← hk] at kb1 kb2
  have ek2 : a0.tmod 90000 = k := hk.symm
  obtain ⟨q1, q2, q3, q4, q5, q6, q7, q8, q9, q10⟩ := new_m (k := k) (by omega) (by omega)
  have F1 := Lib.hid (fun W (hT : SinT W) => PFind_ok k 0 (by omega) (by omega) W hT)
  have F2 := Lib.hid (fun W (hT : SinT W) => PFind_ok (k + 1) 0 (by omega) (by omega) W hT)
  obtain ⟨n, hn⟩ : ∃ n, n = (phF (k + 1) 0).1 - (phF k 0).2 - 1 := ⟨_, rfl⟩
  have A := Lib.hid (fun w => at_any t0 n w (by omega) (by omega))
  have r1 : 0 ≤ t0 % n := Int.emod_nonneg _ (by omega)
  have r2 : t0 % n < n := Int.emod_lt_of_pos _ (by omega)
  generalize t0 % n = r at *
  have ix : ∀ x : Int, -300000000000001 ≤ x → x ≤ 300000000000001 → instOk x = true := fun x h1 h2 => by unfold instOk dayOk; exact decide_eq_true (by omega)
  have N1 := Lib.hid (fun W (hT : SinT W) => Number_ok ((phF k 0).2 + 1 + r) k _ W hT (ix _ (by omega) (by omega)) (by omega) rfl (by omega) (by omega) (by omega) (by omega) (fun j h1 h2 => by
    rcases (by omega : j = k + 1 ∨ j = k + 2) with rfl | rfl <;> omega) k 0 (.inr ⟨by omega, rfl, rfl⟩))
  have N2 := Lib.hid (fun W (hT : SinT W) => Number_ok (phF k 0).1 k _ W hT (ix _ (by omega) (by omega)) (by omega) rfl (by omega) (by omega) (by omega) (by omega) (fun j h1 h2 => by
    rcases (by omega : j = k + 1 ∨ j = k + 2) with rfl | rfl <;> omega) 0 11 (.inl ⟨by omega, by omega, rfl, rfl⟩))
  generalize (phF (k + 1) 0).1 = b1 at *
  generalize (phF (k + 1) 0).2 = b2 at *
  generalize (phF k 0).1 = a1 at *
  generalize (phF k 0).2 = a2 at *
  have HN := Lib.hid hn
  have w1' : IntKind.i64.wrap (b1 - a2) = b1 - a2 := IntWalk.i64_in _ (by omega)
  have w2' : IntKind.i64.wrap (b1 - a2 - 1) = n := by rw [← hn]; exact IntWalk.i64_in _ (by omega)
  have w3' : IntKind.i64.wrap (a2 + 1) = a2 + 1 := IntWalk.i64_in _ (by omega)
  have w4' : IntKind.i64.wrap (a2 + 1 + r) = a2 + 1 + r := IntWalk.i64_in _ (by omega)
  clear hT hk ix q1 q2 q3 q4 q5 q6 q7 q8 q9 q10 hn r1 r2
  go_enter Tryd.func4, Tryd.ntmps4
  have HB := Lib.hid (Below.refl w.heap.size w)
  go_wp2_with fail
  refine Calls.mono (HW.out) ?_
  rintro e wc1 ⟨rfl, hb⟩
  replace HB := Lib.hid (HB.out.trans (hb.mono HB.out.size))
  clear hb
  go_wp2_with fail
  refine Calls.mono (F1.out _ (HT.out.below HB.out)) ?_
  rintro e wn1 ⟨rfl, hb⟩
  have HB1 := HB.out.trans (hb.mono HB.out.size)
  clear hb
  have Hkl1 := Lib.hid HB1.size; replace HB := Lib.hid (HB1.alloc HB1.size (.cells #[.int .i64 (a1), .int .i64 (a2)] 24))
  clear HB1
  have s1 := Lib.hid (SpBox.new wn1 (a1) (a2))
  obtain ⟨k1, hk1⟩ : ∃ x, x = wn1.heap.size := ⟨_, rfl⟩
  rw [← hk1] at s1 Hkl1
  go_upto_region 5 with fail
  rw [← hk1]
  obtain ⟨X1, hX1⟩ : ∃ X, X = wn1.alloc (.cells #[.int .i64 (a1), .int .i64 (a2)] 24) := ⟨_, rfl⟩
  rw [← hX1] at s1 HB ⊢
  clear hk1 hX1
  go_wp2_with fail
  refine Calls.mono (F2.out _ (HT.out.below HB.out)) ?_
  rintro e wn2 ⟨rfl, hb⟩
  replace s1 := Lib.hid ((s1.out.below hb).alloc (.cells #[.int .i64 (b1), .int .i64 (b2)] 24))
  have HB2 := HB.out.trans (hb.mono HB.out.size)
  clear hb
  have Hkl2 := Lib.hid HB2.size; replace HB := Lib.hid (HB2.alloc HB2.size (.cells #[.int .i64 (b1), .int .i64 (b2)] 24))
  clear HB2
  have s2 := Lib.hid (SpBox.new wn2 (b1) (b2))
  obtain ⟨k2, hk2⟩ : ∃ x, x = wn2.heap.size := ⟨_, rfl⟩
  rw [← hk2] at s2 Hkl2
  go_upto_region 6 with fail
  rw [← hk2]
  obtain ⟨X2, hX2⟩ : ∃ X, X = wn2.alloc (.cells #[.int .i64 (b1), .int .i64 (b2)] 24) := ⟨_, rfl⟩
  rw [← hX2] at s1 s2 HB ⊢
  clear hk2 hX2
  go_upto_region 8 with fail
  go_cut [9, 10] (fun sa sb wx => sa = .int .i64 k ∧ sb = .int .i64 0 ∧ Hid (wx.cell? ⟨k1, 0, none⟩ = some (.int .i64 a1)) ∧ Hid (Below w.heap.size w wx))
  case first =>
    obtain ⟨Q, hQ⟩ : ∃ Q, Q = (X2).drew := ⟨_, rfl⟩
    have xQ0 : Q.cell? ⟨k1, 0, none⟩ = some (.int .i64 a1) := by rw [hQ]; exact (s1.out.drew.c0)
    have xQ1 : Q.cell? ⟨k1, 1, none⟩ = some (.int .i64 a2) := by rw [hQ]; exact (s1.out.drew.c1)
    have xQ2 : Q.cell? ⟨k2, 0, none⟩ = some (.int .i64 b1) := by rw [hQ]; exact (s2.out.drew.c0)
    have lQ0 : k1 < Q.heap.size := by rw [hQ]; exact (s1.out.lt)
    have lQ1 : k2 < Q.heap.size := by rw [hQ]; exact (s2.out.lt)
    have bQ : Below w.heap.size w Q := by rw [hQ]; exact (HB.out).drew
    have HxQ0 := Lib.hid xQ0
    have HxQ1 := Lib.hid xQ1
    have HxQ2 := Lib.hid xQ2
    have HlQ0 := Lib.hid lQ0
    have HlQ1 := Lib.hid lQ1
    have HbQ := Lib.hid bQ
    have HhQ := Lib.hid hQ
    clear xQ0 xQ1 xQ2 lQ0 lQ1 bQ hQ
    go_region_held3 (fun w' => w'.cell? ⟨k1, 0, none⟩ = some (.int .i64 a1) ∧ w'.cell? ⟨k1, 1, none⟩ = some (.int .i64 a2) ∧ w'.cell? ⟨k2, 0, none⟩ = some (.int .i64 b1) ∧ Below Q.heap.size Q w')
      (((try dsimp only); repeat' apply And.intro) <;> (first | (with_reducible assumption) | (go_split_ands; (with_reducible assumption)) | (rw [← HhQ.out]; (first | exact Below.refl _ _ | exact HxQ0.out | exact HxQ1.out | exact HxQ2.out)) | go_keep))
      (first
        | (go_at_call 17; refine Calls.mono (A.out _) ?_; rintro e _ ⟨rfl, rfl⟩)
        | ((try go_split_ands); go_at_call 16; refine Calls.mono (N1.out _ (HT.out.below (bX_back HbQ.out (by with_reducible assumption)))) ?_; rintro e wq ⟨rfl, hb⟩; (try go_split_ands); have qB : Below Q.heap.size Q wq := (bX_more (by with_reducible assumption) hb); have m0 := bX_oldc qB HlQ0.out HxQ0.out; have m1 := bX_oldc qB HlQ0.out HxQ1.out; have m2 := bX_oldc qB HlQ1.out HxQ2.out; clear hb))
    go_wp2_with fail
    go_meet
    go_split_ands
    exact ⟨rfl, rfl, Lib.hid (by with_reducible assumption), Lib.hid (bX_back HbQ.out (by with_reducible assumption))⟩
  case rest =>
    obtain ⟨rfl, rfl, C0, BC⟩ := hcut
    have c0 := C0.out
    go_wp2_with fail
    refine Calls.mono (N2.out _ (HT.out.below BC.out)) ?_
    rintro e w9 ⟨rfl, hb⟩
    have BD := Lib.hid (BC.out.trans (hb.mono BC.out.size))
    clear hb c0
    go_wp2_with fail
    go_ret
    exact ⟨rfl, BD.out⟩
end Go.Proofs.YtlldmhnkaopjhaaDoor
