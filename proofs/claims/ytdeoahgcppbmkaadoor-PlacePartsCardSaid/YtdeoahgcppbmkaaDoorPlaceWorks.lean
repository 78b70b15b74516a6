/- placeWorks, site. -/
import Derived.Test.YtdeoahgcppbmkaaDoorHeight
import Derived.Test.YtdeoahgcppbmkaaDoorSkyLaw
namespace Go.Proofs.YtdeoahgcppbmkaaDoor
open Go.RowKit
set_option linter.unusedSimpArgs false
set_option linter.unusedVariables false
theorem pwSid : sdLo 0 0 = 275313108 ∧ sdHi 0 0 = 275313108 := by decide +kernel
theorem pwUp : upLo 125000000 (hhLo 0 0 275313108) (hhHi 0 0 275313108) 125000000 125000000 ≤ 1000000000 ∧ upHi 125000000 (hhLo 0 0 275313108) (hhHi 0 0 275313108) 125000000 125000000 = 1000000000 ∧ 1000000000 - 30 ≤ upLo 125000000 (hhLo 0 0 275313108) (hhHi 0 0 275313108) 125000000 125000000 := by decide +kernel
set_option maxHeartbeats 1000000 in
theorem site_ok (x y : Int) (w : World) : Calls Tryd.prog 43 #[.agg #[.int .i64 x, .int .i64 y]] w fun e w' => e = .returned (.agg #[.int .i64 (x.tmod 500000001), .int .i64 (y.tmod 220000001)]) ∧ Below w.heap.size w w' := by
  go_enter Tryd.func43, Tryd.ntmps43
  go_wp2_with fail
  refine bodyPost_ret (v := .agg #[.int .i64 (x.tmod 500000001), .int .i64 (y.tmod 220000001)]) ?_ rfl ⟨rfl, (by repeat' (first | (with_reducible refine below_drewN ?_ _) | go_grown))⟩
  simp [results, Tryd.results43, go_sem, *]
theorem site_pl (x y : Int) : PlOk (x.tmod 500000001) (y.tmod 220000001) := by
  have h1 := Int.lt_tmod_of_pos x (show (0 : Int) < 500000001 by omega)
  have h2 := Int.tmod_lt_of_pos x (show (0 : Int) < 500000001 by omega)
  have h3 := Int.lt_tmod_of_pos y (show (0 : Int) < 220000001 by omega)
  have h4 := Int.tmod_lt_of_pos y (show (0 : Int) < 220000001 by omega)
  exact ⟨by omega, by omega, by omega, by omega⟩
set_option maxRecDepth 100000 in
set_option maxHeartbeats 8000000 in
theorem placeWorks_ok (w : World) (ht : SinT w) : Calls Tryd.prog 42 #[] w fun e w' => e = .returned (.bool true) ∧ Below w.heap.size w w' := by
  have S : ∀ W, Calls Tryd.prog 83 #[.agg #[.int .i64 0, .int .i64 0], .int .i64 0] W fun e w' => e = .returned (.tuple #[.agg #[.int .i64 275313108, .int .i64 275313108], .int .i64 0]) ∧ Below W.heap.size W w' := fun W => by
    have h := Sidereal_ok 0 0 0 W ⟨by omega, by omega, by omega, by omega⟩ (by decide)
    rw [pwSid.1, pwSid.2] at h
    exact h
  obtain ⟨u1, u2, u3⟩ := pwUp
  obtain ⟨x, hx⟩ : ∃ x, x = upLo 125000000 (hhLo 0 0 275313108) (hhHi 0 0 275313108) 125000000 125000000 := ⟨_, rfl⟩
  rw [← hx] at u1 u3
  have H : ∀ W, SinT W → Calls Tryd.prog 46 #[.agg #[.int .i64 0, .int .i64 125000000], .agg #[.int .i64 275313108, .int .i64 275313108], .agg #[.int .i64 125000000, .int .i64 125000000], .int .i64 0] W fun e w' => e = .returned (.tuple #[.agg #[.int .i64 x, .int .i64 1000000000], .int .i64 0]) ∧ Below W.heap.size W w' := fun W hW => by
    have h := Height_ok 0 125000000 275313108 275313108 125000000 125000000 0 W hW ⟨⟨by omega, by omega, by omega, by omega⟩, by omega, by omega, by omega, by omega, by omega, by omega, by decide⟩
    rw [← hx, u2] at h
    exact h
  have HS := Lib.hid S; have HH := Lib.hid H; have HT := Lib.hid ht
  have H1 := Lib.hid (fun w => has_true 275313108 275313108 275313108 1 w (by omega) (by omega) (by omega) (by omega))
  have H2 := Lib.hid (fun w => has_true x 1000000000 1000000000 30 w (by omega) (by omega) (by omega) (by omega))
  clear S H ht hx u1 u2 u3
  go_enter Tryd.func42, Tryd.ntmps42
  have HB := Lib.hid (Below.refl w.heap.size w)
  go_wp2_with fail
  refine Calls.mono (HS.out _) ?_
  rintro e wn1 ⟨rfl, hb⟩
  have HB1 := HB.out.trans (hb.mono HB.out.size)
  clear hb
  have Hkl1 := Lib.hid HB1.size; replace HB := Lib.hid (HB1.alloc HB1.size (.cells #[.int .i64 (275313108), .int .i64 (275313108)] 24))
  clear HB1
  have s1 := Lib.hid (SpBox.new wn1 (275313108) (275313108))
  obtain ⟨k1, hk1⟩ : ∃ x, x = wn1.heap.size := ⟨_, rfl⟩
  rw [← hk1] at s1 Hkl1
  go_upto_region 2 with fail
  rw [← hk1]
  obtain ⟨X1, hX1⟩ : ∃ X, X = wn1.alloc (.cells #[.int .i64 (275313108), .int .i64 (275313108)] 24) := ⟨_, rfl⟩
  rw [← hX1] at s1 HB ⊢
  clear hk1 hX1
  go_wp2_with fail
  refine Calls.mono (HH.out _ (HT.out.below HB.out)) ?_
  rintro e wn2 ⟨rfl, hb⟩
  replace s1 := Lib.hid ((s1.out.below hb).alloc (.cells #[.int .i64 (x), .int .i64 (1000000000)] 24))
  have HB2 := HB.out.trans (hb.mono HB.out.size)
  clear hb
  have Hkl2 := Lib.hid HB2.size; replace HB := Lib.hid (HB2.alloc HB2.size (.cells #[.int .i64 (x), .int .i64 (1000000000)] 24))
  clear HB2
  have s2 := Lib.hid (SpBox.new wn2 (x) (1000000000))
  obtain ⟨k2, hk2⟩ : ∃ x, x = wn2.heap.size := ⟨_, rfl⟩
  rw [← hk2] at s2 Hkl2
  go_upto_region 3 with fail
  rw [← hk2]
  obtain ⟨X2, hX2⟩ : ∃ X, X = wn2.alloc (.cells #[.int .i64 (x), .int .i64 (1000000000)] 24) := ⟨_, rfl⟩
  rw [← hX2] at s1 s2 HB ⊢
  clear hk2 hX2
  have sc1_0 := s1.out.c0; have sc1_1 := s1.out.c1; have sc1_l := s1.out.lt
  go_wp2_with fail
  refine Calls.mono (H1.out _) ?_
  rintro e wc1 ⟨rfl, hb⟩
  replace s1 := Lib.hid (s1.out.below hb)
  replace s2 := Lib.hid (s2.out.below hb)
  replace HB := Lib.hid (HB.out.trans (hb.mono HB.out.size))
  clear sc1_0 sc1_1 sc1_l
  clear hb
  have sc2_0 := s2.out.c0; have sc2_1 := s2.out.c1; have sc2_l := s2.out.lt
  go_wp2_with fail
  refine Calls.mono (H2.out _) ?_
  rintro e wc2 ⟨rfl, hb⟩
  replace s1 := Lib.hid (s1.out.below hb)
  replace s2 := Lib.hid (s2.out.below hb)
  replace HB := Lib.hid (HB.out.trans (hb.mono HB.out.size))
  clear sc2_0 sc2_1 sc2_l
  clear hb
  go_wp2_with fail
  go_ret
  exact ⟨rfl, HB.out⟩
end Go.Proofs.YtdeoahgcppbmkaaDoor
