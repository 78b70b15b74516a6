/- sharpen: Phase, Decide. -/
import Derived.Test.YtlldmhnkaopjhaaDoorSharpenMeets
import Derived.Test.YtlldmhnkaopjhaaDoorPhasesInOrder
namespace Go.Proofs.YtlldmhnkaopjhaaDoor
open Go.RowKit
set_option linter.unusedSimpArgs false
set_option linter.unusedVariables false
theorem enSPh : ∀ args w, (callFunc 67 args).run Tryd.prog w = .ok (.enter 67 args) w := enters_of Tryd.func67 (by kernel_rfl) rfl
set_option maxRecDepth 100000 in
set_option maxHeartbeats 4000000 in
theorem shPhSide_ok (q : Int) (hq : 0 ≤ q ∧ q ≤ 3) (lo hi : Int) (b : Nat) (w : World) (hT : SinT w) (hin : ∀ x, lo ≤ x → x ≤ hi → instOk x = true) (hb : IntBox w b q) :
    FnAt 67 #[.pointer (some ⟨b, 0, none⟩)] (fun x => .int .i64 (phSd q x)) lo hi w := by
  intro W x h1 h2 hbl
  show Calls Tryd.prog 67 #[.int .i64 x, .pointer (some ⟨b, 0, none⟩)] W fun e w' => e = .returned (.int .i64 (phSd q x)) ∧ Below W.heap.size W w'
  have E := Lib.hid (elong_ok x W (hT.below hbl) (hin x h1 h2))
  have bd := el_bd x
  have S := fun w => Side_ok (elLo x) (elHi x) (250000000 * q) w bd.1 bd.2.1 bd.2.2.1 bd.2.2.2 (by omega) (by omega)
  have eS : sideF (elLo x) (elHi x) (250000000 * q) = phSd q x := rfl
  rw [eS] at S
  have HI := Lib.hid (hb.below hbl)
  generalize phSd q x = sd at *
  clear eS bd hT hin hb hbl
  generalize elLo x = lo' at *
  generalize elHi x = hi' at *
  rcases (by omega : q = 0 ∨ q = 1 ∨ q = 2 ∨ q = 3) with rfl | rfl | rfl | rfl
  all_goals
    simp only [Int.reduceMul] at S
    have HS := Lib.hid S
    clear S
    have c0 := HI.out.c0
    go_enter Tryd.func67, Tryd.ntmps67
    go_wp2_with fail
    refine Calls.mono E.out ?_
    rintro e w1 ⟨rfl, hb1⟩
    have I1 := HI.out.below hb1
    have HB := Lib.hid (hb1.alloc hb1.size (.cells #[.int .i64 lo', .int .i64 hi'] 24))
    have I2 := I1.alloc (.cells #[.int .i64 lo', .int .i64 hi'] 24)
    have S1 := SpBox.new w1 lo' hi'
    obtain ⟨k, hk⟩ : ∃ k, k = w1.heap.size := ⟨_, rfl⟩
    rw [← hk] at S1
    clear c0 hb1
    go_upto_region 2 with fail
    rw [← hk]
    obtain ⟨X, hX⟩ : ∃ X, X = w1.alloc (.cells #[.int .i64 lo', .int .i64 hi'] 24) := ⟨_, rfl⟩
    rw [← hX] at S1 I2 HB ⊢
    clear hX hk
    have c0 := I2.c0; have c1 := S1.c0; have c2 := S1.c1
    go_wp2_with fail
    refine Calls.mono (HS.out _) ?_
    rintro e w2 ⟨rfl, hb2⟩
    have HB2 := Lib.hid (HB.out.trans (hb2.mono HB.out.size))
    clear hb2 c0 c1 c2 S1 I2
    go_wp2_with fail
    go_ret
    exact ⟨rfl, HB2.out⟩
/-- The narrower phase. -/
def shP (k q width : Int) : Int × Int × Int := shR (nrwF (phSd q) width 64 (phF k q).1 (phF k q).2) width
set_option maxRecDepth 100000 in
set_option maxHeartbeats 8000000 in
theorem ShPhase_ok (k q wd : Int) (hy : -100000 ≤ k ∧ k ≤ 100000) (hq : 0 ≤ q ∧ q ≤ 3) (hw : 1 ≤ wd ∧ wd ≤ 600000) (w : World) (hT : SinT w) : Calls Tryd.prog 52 #[.int .i64 k, .int .i64 q, .int .i64 wd] w fun e w' => e = .returned (.tuple #[.agg #[.int .i64 (shP k q wd).1, .int .i64 (shP k q wd).2.1], .int .i64 (shP k q wd).2.2]) ∧ Below w.heap.size w w' := by
  have bd := phF_bd hy.1 hy.2 hq.1 hq.2
  have F := Lib.hid (fun W (hT : SinT W) => PFind_ok k q hy hq W hT)
  have N := Lib.hid (fun W b (hT : SinT W) (hb : IntBox W b q) => shNarrow_ok 67 #[.pointer (some ⟨b, 0, none⟩)] enSPh (phSd q) (phF k q).1 (phF k q).2 wd W (shPhSide_ok q hq _ _ b W hT (fun x h1 h2 => by unfold instOk dayOk; exact decide_eq_true (by omega)) hb) (by omega) (by omega) (by omega) hw.1 (by omega))
  have eY : shR (nrwF (phSd q) wd 64 (phF k q).1 (phF k q).2) wd = shP k q wd := rfl
  rw [eY] at N
  obtain ⟨q1, q2⟩ := hq
  obtain ⟨y1, y2⟩ := hy
  obtain ⟨w1, w2⟩ := hw
  generalize shP k q wd = r at *
  generalize r.1 = r1 at *
  generalize r.2.1 = r2 at *
  generalize r.2.2 = r3 at *
  generalize (phF k q).1 = a1 at *
  generalize (phF k q).2 = a2 at *
  have HT := Lib.hid hT
  have B1 := IntBox.new w q
  obtain ⟨b, hb⟩ : ∃ b, b = w.heap.size := ⟨_, rfl⟩
  have e1 : (w.alloc (.cells #[.int .i64 q] 3)).heap.size = b + 1 := by simp [hb]
  have B2 := SpBox.new (w.alloc (.cells #[.int .i64 q] 3)) 0 0
  rw [e1] at B2
  rw [← hb] at B1
  have B1' := Lib.hid (B1.alloc (.cells #[.int .i64 0, .int .i64 0] 24))
  have B2' := Lib.hid B2
  have BW := Lib.hid (show Below w.heap.size w ((w.alloc (.cells #[.int .i64 q] 3)).alloc (.cells #[.int .i64 0, .int .i64 0] 24)) from (by repeat' (first | (with_reducible refine below_drewN ?_ _) | go_grown)))
  clear B1 B2 e1 hT eY bd
  go_enter Tryd.func52, Tryd.ntmps52
  go_upto_region 1 with fail
  rw [← hb]
  have HBB := Lib.hid hb
  clear hb
  obtain ⟨X, hX⟩ : ∃ X, X = ((w.alloc (.cells #[.int .i64 q] 3)).alloc (.cells #[.int .i64 0, .int .i64 0] 24)) := ⟨_, rfl⟩
  rw [← hX] at B1' B2' BW ⊢
  clear hX
  have c0 := B1'.out.c0
  go_wp2_with fail
  refine Calls.mono (F.out _ (HT.out.below BW.out)) ?_
  rintro e v1 ⟨rfl, hb1⟩
  have V := BW.out.trans (hb1.mono BW.out.size)
  have HB := Lib.hid (V.alloc V.size (.cells #[.int .i64 a1, .int .i64 a2] 24))
  have S1 := Lib.hid ((B1'.out.below hb1).alloc (.cells #[.int .i64 a1, .int .i64 a2] 24))
  have S2 := Lib.hid ((B2'.out.below hb1).alloc (.cells #[.int .i64 a1, .int .i64 a2] 24))
  have S3 := Lib.hid (SpBox.new v1 a1 a2)
  obtain ⟨kk, hkk⟩ : ∃ k, k = v1.heap.size := ⟨_, rfl⟩
  rw [← hkk] at S3
  clear c0 hb1 V B1' B2' BW
  go_upto_region 2 with fail
  rw [← hkk]
  obtain ⟨Y, hY⟩ : ∃ Y, Y = v1.alloc (.cells #[.int .i64 a1, .int .i64 a2] 24) := ⟨_, rfl⟩
  rw [← hY] at S1 S2 S3 HB ⊢
  clear hY hkk
  have u0 := S3.out.c0; have u1 := S3.out.c1
  go_wp2_with fail
  refine Calls.mono (N.out _ _ (HT.out.below HB.out) S1.out) ?_
  rintro e v2 ⟨rfl, hb2⟩
  have HB2 := Lib.hid (HB.out.trans (hb2.mono HB.out.size))
  have Z2 := S2.out.below hb2
  have z0 := Z2.c0; have z1 := Z2.c1; have zf0 := Z2.free 0; have zf1 := Z2.free 1; have zl := Z2.lt
  clear u0 u1 S1 S2 S3 HB hb2
  go_wp2_with fail
  refine bodyPost_ret (v := .tuple #[.agg #[.int .i64 r1, .int .i64 r2], .int .i64 r3]) ?_ rfl ⟨rfl, ?_⟩
  · simp [results, Tryd.results52, go_sem, *]
  · have hB := HBB.out
    refine Below.setCell (Below.setCell HB2.out ?_ _) ?_ _
    all_goals (first | (simp only [World.size_setCell]; omega) | (dsimp only; omega))
end Go.Proofs.YtlldmhnkaopjhaaDoor
