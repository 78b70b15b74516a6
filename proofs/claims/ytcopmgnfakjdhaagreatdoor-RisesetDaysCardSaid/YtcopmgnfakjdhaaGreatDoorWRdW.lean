/- riseset.Above, Length; risesetWorks. -/
import Derived.Test.YtcopmgnfakjdhaaGreatDoorWRsFind
import Derived.Test.YtcopmgnfakjdhaaGreatDoorWRdN
namespace Go.Proofs.YtcopmgnfakjdhaaGreatDoor
open Go.RowKit
set_option linter.unusedSimpArgs false
set_option linter.unusedVariables false
theorem rdRise_ok (lon lat d : Int) (pl : PlOk lon lat) (hd : -3900000 ≤ d ∧ d ≤ 3900000) (w : World) (hT : SinT w) (hL : LimT w) : Calls Tryz.prog 14 #[.agg #[.int .i64 lon, .int .i64 lat], .int .i64 d, .int .i64 0, .bool true] w fun e w' => e = .returned (.tuple #[.agg #[.int .i64 (rsF lon lat 0 d 1).1, .int .i64 (rsF lon lat 0 d 1).2.1], .int .i64 (rsF lon lat 0 d 1).2.2]) ∧ Below w.heap.size w w' := by
  have h := rsFind_ok lon lat d 0 true (.inl rfl) hd pl w hT hL
  rw [show (if (true : Bool) = true then (1 : Int) else -1) = 1 from rfl] at h
  exact h
theorem rdSet_ok (lon lat d : Int) (pl : PlOk lon lat) (hd : -3900000 ≤ d ∧ d ≤ 3900000) (w : World) (hT : SinT w) (hL : LimT w) : Calls Tryz.prog 14 #[.agg #[.int .i64 lon, .int .i64 lat], .int .i64 d, .int .i64 0, .bool false] w fun e w' => e = .returned (.tuple #[.agg #[.int .i64 (rsF lon lat 0 d (-1)).1, .int .i64 (rsF lon lat 0 d (-1)).2.1], .int .i64 (rsF lon lat 0 d (-1)).2.2]) ∧ Below w.heap.size w w' := by
  have h := rsFind_ok lon lat d 0 false (.inl rfl) hd pl w hT hL
  rw [show (if (false : Bool) = true then (1 : Int) else -1) = -1 from rfl] at h
  exact h
set_option maxRecDepth 100000 in
set_option maxHeartbeats 4000000 in
theorem rdAbove_ok (lon lat t : Int) (pl : PlOk lon lat) (ti : instOk t = true) (tb : -9223372036854775808 ≤ t ∧ t ≤ 9223372036854775807) (w : World) (hT : SinT w) (hL : LimT w) : Calls Tryz.prog 15 #[.agg #[.int .i64 lon, .int .i64 lat], .int .i64 t, .int .i64 0] w fun e w' => e = .returned (.tuple #[.int .i64 (abF lon lat 0 t), .int .i64 0]) ∧ Below w.heap.size w w' := by
  have CK := Lib.hid (fun w => rsCheck_ok lon lat 0 (.inl rfl) pl w)
  have AB := Lib.hid (fun W (hT : SinT W) (hL : LimT W) => above0_ok lon lat t pl ti W hT hL)
  have IN := Lib.hid (fun w => ti ▸ isInst_ok t w tb.1 tb.2)
  generalize abF lon lat 0 t = r at *
  have HT := Lib.hid hT
  have HL := Lib.hid hL
  clear hT hL pl ti tb
  have P1 := PlBox.new w lon lat
  have HB0 := (Below.refl w.heap.size w).alloc (Nat.le_refl _) (.cells #[.int .i64 lon, .int .i64 lat] 23)
  obtain ⟨k0, hk0⟩ : ∃ x, x = w.heap.size := ⟨_, rfl⟩
  rw [← hk0] at P1
  have HB := Lib.hid (Below.refl w.heap.size w)
  clear HB
  go_enter Tryz.func15, Tryz.ntmps15
  go_upto_region 1 with fail
  rw [← hk0]
  obtain ⟨X0, hX0⟩ : ∃ X, X = w.alloc (.cells #[.int .i64 lon, .int .i64 lat] 23) := ⟨_, rfl⟩
  rw [← hX0] at P1 HB0 ⊢
  have HB := Lib.hid HB0
  have s1 := Lib.hid P1
  clear hX0 P1 HB0 hk0
  have p0 := s1.out.c0; have p1' := s1.out.c1; have pz := s1.out.lt
  go_wp2_with fail
  refine Calls.mono (CK.out _) ?_
  rintro e wc1 ⟨rfl, hb⟩
  replace s1 := Lib.hid (s1.out.below hb)
  replace HB := Lib.hid (HB.out.trans (hb.mono HB.out.size))
  clear hb
  clear p0 p1' pz
  have p0 := s1.out.c0; have p1' := s1.out.c1; have pz := s1.out.lt
  go_wp2_with fail
  refine Calls.mono (IN.out _) ?_
  rintro e wc2 ⟨rfl, hb⟩
  replace s1 := Lib.hid (s1.out.below hb)
  replace HB := Lib.hid (HB.out.trans (hb.mono HB.out.size))
  clear hb
  clear p0 p1' pz
  have p0 := s1.out.c0; have p1' := s1.out.c1; have pz := s1.out.lt
  go_wp2_with fail
  refine Calls.mono (AB.out _ (HT.out.below HB.out) (HL.out.below HB.out)) ?_
  rintro e v1 ⟨rfl, hb⟩
  have W3 := Lib.hid (HB.out.trans (hb.mono HB.out.size))
  clear hb
  go_wp2_with fail
  go_ret2
  exact ⟨rfl, W3.out⟩
structure LenOk (lon lat d a1 a2 b1 b2 : Int) : Prop where
  ra : rsF lon lat 0 d 1 = (a1, a2, 0)
  rb : rsF lon lat 0 d (-1) = (b1, b2, 0)
  o1 : a1 ≤ a2
  o : a2 < b1
  o2 : b1 ≤ b2
  s1 : -400000000000000 ≤ a1
  s2 : b2 ≤ 400000000000000
set_option maxRecDepth 100000 in
set_option maxHeartbeats 8000000 in
theorem rdLength_ok (lon lat d a1 a2 b1 b2 : Int) (pl : PlOk lon lat) (hd : -3900000 ≤ d ∧ d ≤ 3900000) (h : LenOk lon lat d a1 a2 b1 b2) (w : World) (hT : SinT w) (hL : LimT w) : Calls Tryz.prog 16 #[.agg #[.int .i64 lon, .int .i64 lat], .int .i64 d] w fun e w' => e = .returned (.tuple #[.agg #[.int .i64 (b1 - a2), .int .i64 (b2 - a1)], .int .i64 0]) ∧ Below w.heap.size w w' := by
  obtain ⟨ra, rb, o1, o, o2, s1', s2'⟩ := h
  have RI := Lib.hid (fun W (hT : SinT W) (hL : LimT W) => rdRise_ok lon lat d pl hd W hT hL)
  have SE := Lib.hid (fun W (hT : SinT W) (hL : LimT W) => rdSet_ok lon lat d pl hd W hT hL)
  rw [ra] at RI
  rw [rb] at SE
  obtain ⟨x, hx⟩ : ∃ x, x = b1 - a2 := ⟨_, rfl⟩
  obtain ⟨y, hy⟩ : ∃ x, x = b2 - a1 := ⟨_, rfl⟩
  have e1 : wrap64 (b1 - a2) = x := by rw [hx]; exact IntWalk.wrap64_in _ (by omega)
  have e2 : wrap64 (b2 - a1) = y := by rw [hy]; exact IntWalk.wrap64_in _ (by omega)
  rw [← hx, ← hy]
  have HT := Lib.hid hT
  have HL := Lib.hid hL
  have c : ¬ b1 ≤ a2 := by omega
  clear hT hL pl ra rb o1 o2 s1' s2' hx hy hd o
  have P1 := PlBox.new w lon lat
  have R1 := SpBox.new (w.alloc (.cells #[.int .i64 lon, .int .i64 lat] 23)) 0 0
  have P2 := P1.alloc (.cells #[.int .i64 0, .int .i64 0] 28)
  obtain ⟨k0, hk0⟩ : ∃ x, x = w.heap.size := ⟨_, rfl⟩
  have e3 : (w.alloc (.cells #[.int .i64 lon, .int .i64 lat] 23)).heap.size = k0 + 1 := by simp [hk0]
  rw [e3] at R1
  rw [← hk0] at P2
  have HB0 : Below w.heap.size w ((w.alloc (.cells #[.int .i64 lon, .int .i64 lat] 23)).alloc (.cells #[.int .i64 0, .int .i64 0] 28)) := (by repeat' (first | (with_reducible refine below_drewN ?_ _) | go_grown))
  clear P1
  have HB := Lib.hid (Below.refl w.heap.size w)
  clear HB
  go_enter Tryz.func16, Tryz.ntmps16
  go_upto_region 1 with fail
  (try rw [e3])
  rw [← hk0]
  clear e3
  obtain ⟨X0, hX0⟩ : ∃ X, X = (w.alloc (.cells #[.int .i64 lon, .int .i64 lat] 23)).alloc (.cells #[.int .i64 0, .int .i64 0] 28) := ⟨_, rfl⟩
  rw [← hX0] at P2 R1 HB0 ⊢
  obtain ⟨k1, hk1⟩ : ∃ x, x = k0 + 1 := ⟨_, rfl⟩
  rw [← hk1] at R1 ⊢
  have Hkl2 := Lib.hid (show w.heap.size ≤ k1 by omega)
  have HB := Lib.hid HB0
  have s1 := Lib.hid P2
  have s2 := Lib.hid R1
  clear hX0 P2 R1 HB0 hk0 hk1
  have p0 := s1.out.c0; have p1' := s1.out.c1; have pz := s1.out.lt
  go_wp2_with fail
  refine Calls.mono (RI.out _ (HT.out.below HB.out) (HL.out.below HB.out)) ?_
  rintro e wn3 ⟨rfl, hb⟩
  have Hd3_2 := Lib.hid (s2.out.below hb).lt
  have Hd3_1 := Lib.hid (s1.out.below hb).lt
  replace s2 := Lib.hid ((s2.out.below hb).alloc (.cells #[.int .i64 (a1), .int .i64 (a2)] 28))
  replace s1 := Lib.hid ((s1.out.below hb).alloc (.cells #[.int .i64 (a1), .int .i64 (a2)] 28))
  have HB3 := HB.out.trans (hb.mono HB.out.size)
  clear hb
  have Hkl3 := Lib.hid HB3.size; replace HB := Lib.hid (HB3.alloc HB3.size (.cells #[.int .i64 (a1), .int .i64 (a2)] 28))
  clear HB3
  have s3 := Lib.hid (SpBox.new wn3 (a1) (a2))
  obtain ⟨k3, hk3⟩ : ∃ x, x = wn3.heap.size := ⟨_, rfl⟩
  rw [← hk3] at s3 Hkl3 Hd3_2 Hd3_1
  go_upto_region 4 with fail
  rw [← hk3]
  obtain ⟨X3, hX3⟩ : ∃ X, X = wn3.alloc (.cells #[.int .i64 (a1), .int .i64 (a2)] 28) := ⟨_, rfl⟩
  rw [← hX3] at s2 s1 s3 HB ⊢
  clear hk3 hX3
  clear p0 p1' pz RI
  have p0 := s1.out.c0; have p1' := s1.out.c1; have pz := s1.out.lt
  go_wp2_with fail
  refine Calls.mono (SE.out _ (HT.out.below HB.out) (HL.out.below HB.out)) ?_
  rintro e wn4 ⟨rfl, hb⟩
  have Hd4_2 := Lib.hid (s2.out.below hb).lt
  have Hd4_1 := Lib.hid (s1.out.below hb).lt
  have Hd4_3 := Lib.hid (s3.out.below hb).lt
  replace s2 := Lib.hid ((s2.out.below hb).alloc (.cells #[.int .i64 (b1), .int .i64 (b2)] 28))
  replace s1 := Lib.hid ((s1.out.below hb).alloc (.cells #[.int .i64 (b1), .int .i64 (b2)] 28))
  replace s3 := Lib.hid ((s3.out.below hb).alloc (.cells #[.int .i64 (b1), .int .i64 (b2)] 28))
  have HB4 := HB.out.trans (hb.mono HB.out.size)
  clear hb
  have Hkl4 := Lib.hid HB4.size; replace HB := Lib.hid (HB4.alloc HB4.size (.cells #[.int .i64 (b1), .int .i64 (b2)] 28))
  clear HB4
  have s4 := Lib.hid (SpBox.new wn4 (b1) (b2))
  obtain ⟨k4, hk4⟩ : ∃ x, x = wn4.heap.size := ⟨_, rfl⟩
  rw [← hk4] at s4 Hkl4 Hd4_2 Hd4_1 Hd4_3
  go_upto_region 7 with fail
  rw [← hk4]
  obtain ⟨X4, hX4⟩ : ∃ X, X = wn4.alloc (.cells #[.int .i64 (b1), .int .i64 (b2)] 28) := ⟨_, rfl⟩
  rw [← hX4] at s2 s1 s3 s4 HB ⊢
  clear hk4 hX4
  clear p0 p1' pz SE
  have c2_0 := s2.out.c0; have c2_1 := s2.out.c1; have c2_f := s2.out.free 0; have c2_g := s2.out.free 1; have c2_l := s2.out.lt; have c2_k := Hkl2.out
  have sc3_0 := s3.out.c0; have sc3_1 := s3.out.c1; have sc3_l := s3.out.lt
  have sc4_0 := s4.out.c0; have sc4_1 := s4.out.c1; have sc4_l := s4.out.lt
  have ne1 := Nat.ne_of_lt Hd3_2.out; have ne2 := Nat.ne_of_lt Hd4_2.out; have ne3 := Nat.ne_of_gt Hd3_2.out; have ne4 := Nat.ne_of_gt Hd4_2.out
  go_wp2_with fail
  refine bodyPost_ret (v := .tuple #[.agg #[.int .i64 x, .int .i64 y], .int .i64 0]) ?_ rfl ⟨rfl, ?_⟩
  · simp [results, Tryz.results16, go_sem, *]
  · exact (HB.out.setCell (p := ⟨k1, 0, none⟩) c2_k _).setCell (p := ⟨k1, 1, none⟩) c2_k _
set_option maxRecDepth 100000 in
set_option maxHeartbeats 4000000 in
theorem risesetWorks_ok (w : World) (hT : SinT w) (hL : LimT w) : Calls Tryz.prog 11 #[] w fun e w' => e = .returned (.bool true) ∧ Below w.heap.size w w' := by
  have pl : PlOk 0 143000000 := ⟨by omega, by omega, by omega, by omega⟩
  have RI := Lib.hid (fun W (hT : SinT W) (hL : LimT W) => rdRise_ok 0 143000000 730120 pl ⟨by omega, by omega⟩ W hT hL)
  rw [rdN_set] at RI
  obtain ⟨T, hTT⟩ : ∃ T : Int, T = 63082411200000 := ⟨_, rfl⟩
  have AB := Lib.hid (fun W (hT : SinT W) (hL : LimT W) => rdAbove_ok 0 143000000 T pl (by rw [hTT]; decide) (by rw [hTT]; exact ⟨by omega, by omega⟩) W hT hL)
  have up : abF 0 143000000 0 T = 1 := by rw [hTT]; exact rdN_up
  rw [up] at AB
  obtain ⟨r1, h1⟩ : ∃ r : Int, r = 63082397137500 := ⟨_, rfl⟩
  obtain ⟨r2, h2⟩ : ∃ r : Int, r = 63082397250000 := ⟨_, rfl⟩
  rw [← h1, ← h2] at RI
  have q1 : 63082397019536 ≤ r1 := by omega
  have q2 : r2 ≤ 63082397259536 := by omega
  have q3 : r1 < r2 := by omega
  have HT := Lib.hid hT
  have HL := Lib.hid hL
  have HTT := Lib.hid hTT
  clear hT hL pl up h1 h2 hTT
  go_enter Tryz.func11, Tryz.ntmps11
  have HB := Lib.hid (Below.refl w.heap.size w)
  go_wp2_with fail
  refine Calls.mono (RI.out _ HT.out HL.out) ?_
  rintro e wn1 ⟨rfl, hb⟩
  have HB1 := HB.out.trans (hb.mono HB.out.size)
  clear hb
  have Hkl1 := Lib.hid HB1.size; replace HB := Lib.hid (HB1.alloc HB1.size (.cells #[.int .i64 (r1), .int .i64 (r2)] 28))
  clear HB1
  have s1 := Lib.hid (SpBox.new wn1 (r1) (r2))
  obtain ⟨k1, hk1⟩ : ∃ x, x = wn1.heap.size := ⟨_, rfl⟩
  rw [← hk1] at s1 Hkl1
  go_upto_region 2 with fail
  rw [← hk1]
  obtain ⟨X1, hX1⟩ : ∃ X, X = wn1.alloc (.cells #[.int .i64 (r1), .int .i64 (r2)] 28) := ⟨_, rfl⟩
  rw [← hX1] at s1 HB ⊢
  clear hk1 hX1
  go_wp2_with fail
  rw [← HTT.out]
  refine Calls.mono (AB.out _ (HT.out.below HB.out) (HL.out.below HB.out)) ?_
  rintro e v1 ⟨rfl, hb⟩
  have W3 := Lib.hid (HB.out.trans (hb.mono HB.out.size))
  have s2 := Lib.hid (s1.out.below hb)
  clear hb HTT
  have c0 := s2.out.c0; have c1 := s2.out.c1; have cl := s2.out.lt
  go_wp2_with fail
  go_ret
  exact ⟨rfl, W3.out⟩
end Go.Proofs.YtcopmgnfakjdhaaGreatDoor
