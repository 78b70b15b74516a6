/- riseset.Above, Length; risesetWorks. -/
import Derived.Test.YtcopmgnfakjdhaaGreatDoorVRsFind
import Derived.Test.YtcopmgnfakjdhaaGreatDoorVRdN
namespace Go.Proofs.YtcopmgnfakjdhaaGreatDoor
open Go.RowKit
set_option linter.unusedSimpArgs false
set_option linter.unusedVariables false
theorem rdRise_ok (lon lat d : Int) (pl : PlOk lon lat) (hd : -3900000 ≤ d ∧ d ≤ 3900000) (w : World) (hT : SinT w) (hL : LimT w) : Calls Tryz.prog 14 #[.agg #[.int .i64 lon, .int .i64 lat], .int .i64 d, .int .i64 0, .bool true] w fun e w' => e = .returned (.tuple #[.agg #[.int .i64 (rsF lon lat 0 d 1).1, .int .i64 (rsF lon lat 0 d 1).2.1], .int .i64 (rsF lon lat 0 d 1).2.2]) ∧ Below w.heap.size w w' := by
  have h := rsFind_ok lon lat d 0 true (.inl rfl) hd pl w hT hL
  rw [show (if (true : Bool) = true then (1 : Int) else -1) = 1 from rfl] at h
  exact h
set_option maxRecDepth 100000 in
set_option maxHeartbeats 4000000 in
theorem rdAbove_ok (lon lat t : Int) (pl : PlOk lon lat) (ti : instOk t = true) (tb : -9223372036854775808 ≤ t ∧ t ≤ 9223372036854775807) (w : World) (hT : SinT w) (hL : LimT w) : Calls Tryz.prog 15 #[.agg #[.int .i64 lon, .int .i64 lat], .int .i64 t, .int .i64 0] w fun e w' => e = .returned (.tuple #[.int .i64 (abF lon lat 0 t), .int .i64 0]) ∧ Below w.heap.size w w' := by
  have CK := Lib.hid (fun w => rsCheck_ok lon lat 0 (.inl rfl) pl w)
  have AB := Lib.hid (fun W (hT : SinT W) (hL : LimT W) => above0_ok lon lat t pl ti W hT hL)
  have IN := Lib.hid (fun w => ti ▸ isInst_ok t w tb.1 tb.2)
  generalize abF lon lat 0 t = r at *
  have HT := Lib.hid hT
  have HL := Lib.hid hL
  clear hT hL pl ti tb
  have P1 := PlBox.new w lon lat
  have HB0 := (Below.refl w.heap.size w).alloc (Nat.le_refl _) (.cells #[.int .i64 lon, .int .i64 lat] 23)
  obtain ⟨k0, hk0⟩ : ∃ x, x = w.heap.size := ⟨_, rfl⟩
  rw [← hk0] at P1
  have HB := Lib.hid (Below.refl w.heap.size w)
  clear HB
  go_enter Tryz.func15, Tryz.ntmps15
  go_upto_region 1 with fail
  rw [← hk0]
  obtain ⟨X0, hX0⟩ : ∃ X, X = w.alloc (.cells #[.int .i64 lon, .int .i64 lat] 23) := ⟨_, rfl⟩
  rw [← hX0] at P1 HB0 ⊢
  have HB := Lib.hid HB0
  have s1 := Lib.hid P1
  clear hX0 P1 HB0 hk0
  have p0 := s1.out.c0; have p1' := s1.out.c1; have pz := s1.out.lt
  go_wp2_with fail
  refine Calls.mono (CK.out _) ?_
  rintro e wc1 ⟨rfl, hb⟩
  replace s1 := Lib.hid (s1.out.below hb)
  replace HB := Lib.hid (HB.out.trans (hb.mono HB.out.size))
  clear hb
  clear p0 p1' pz
  have p0 := s1.out.c0; have p1' := s1.out.c1; have pz := s1.out.lt
  go_wp2_with fail
  refine Calls.mono (IN.out _) ?_
  rintro e wc2 ⟨rfl, hb⟩
  replace s1 := Lib.hid (s1.out.below hb)
  replace HB := Lib.hid (HB.out.trans (hb.mono HB.out.size))
  clear hb
  clear p0 p1' pz
  have p0 := s1.out.c0; have p1' := s1.out.c1; have pz := s1.out.lt
  go_wp2_with fail
  refine Calls.mono (AB.out _ (HT.out.below HB.out) (HL.out.below HB.out)) ?_
  rintro e v1 ⟨rfl, hb⟩
  have W3 := Lib.hid (HB.out.trans (hb.mono HB.out.size))
  clear hb
  go_wp2_with fail
  go_ret2
  exact ⟨rfl, W3.out⟩
set_option maxRecDepth 100000 in
set_option maxHeartbeats 4000000 in
theorem risesetWorks_ok (w : World) (hT : SinT w) (hL : LimT w) : Calls Tryz.prog 11 #[] w fun e w' => e = .returned (.bool true) ∧ Below w.heap.size w w' := by
  have pl : PlOk 0 143000000 := ⟨by omega, by omega, by omega, by omega⟩
  have RI := Lib.hid (fun W (hT : SinT W) (hL : LimT W) => rdRise_ok 0 143000000 730120 pl ⟨by omega, by omega⟩ W hT hL)
  rw [rdN_set] at RI
  obtain ⟨T, hTT⟩ : ∃ T : Int, T = 63082411200000 := ⟨_, rfl⟩
  have AB := Lib.hid (fun W (hT : SinT W) (hL : LimT W) => rdAbove_ok 0 143000000 T pl (by rw [hTT]; decide) (by rw [hTT]; exact ⟨by omega, by omega⟩) W hT hL)
  have up : abF 0 143000000 0 T = 1 := by rw [hTT]; exact rdN_up
  rw [up] at AB
  obtain ⟨r1, h1⟩ : ∃ r : Int, r = 63082397137500 := ⟨_, rfl⟩
  obtain ⟨r2, h2⟩ : ∃ r : Int, r = 63082397250000 := ⟨_, rfl⟩
  rw [← h1, ← h2] at RI
  have q1 : 63082397019536 ≤ r1 := by omega
  have q2 : r2 ≤ 63082397259536 := by omega
  have q3 : r1 < r2 := by omega
  have HT := Lib.hid hT
  have HL := Lib.hid hL
  have HTT := Lib.hid hTT
  clear hT hL pl up h1 h2 hTT
  go_enter Tryz.func11, Tryz.ntmps11
  have HB := Lib.hid (Below.refl w.heap.size w)
  go_wp2_with fail
  refine Calls.mono (RI.out _ HT.out HL.out) ?_
  rintro e wn1 ⟨rfl, hb⟩
  have HB1 := HB.out.trans (hb.mono HB.out.size)
  clear hb
  have Hkl1 := Lib.hid HB1.size; replace HB := Lib.hid (HB1.alloc HB1.size (.cells #[.int .i64 (r1), .int .i64 (r2)] 28))
  clear HB1
  have s1 := Lib.hid (SpBox.new wn1 (r1) (r2))
  obtain ⟨k1, hk1⟩ : ∃ x, x = wn1.heap.size := ⟨_, rfl⟩
  rw [← hk1] at s1 Hkl1
  go_upto_region 2 with fail
  rw [← hk1]
  obtain ⟨X1, hX1⟩ : ∃ X, X = wn1.alloc (.cells #[.int .i64 (r1), .int .i64 (r2)] 28) := ⟨_, rfl⟩
  rw [← hX1] at s1 HB ⊢
  clear hk1 hX1
  go_wp2_with fail
  rw [← HTT.out]
  refine Calls.mono (AB.out _ (HT.out.below HB.out) (HL.out.below HB.out)) ?_
  rintro e v1 ⟨rfl, hb⟩
  have W3 := Lib.hid (HB.out.trans (hb.mono HB.out.size))
  have s2 := Lib.hid (s1.out.below hb)
  clear hb HTT
  have c0 := s2.out.c0; have c1 := s2.out.c1; have cl := s2.out.lt
  go_wp2_with fail
  go_ret
  exact ⟨rfl, W3.out⟩
end Go.Proofs.YtcopmgnfakjdhaaGreatDoor
