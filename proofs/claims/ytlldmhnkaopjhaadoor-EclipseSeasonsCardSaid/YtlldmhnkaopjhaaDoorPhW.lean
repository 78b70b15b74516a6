/- phase.find, Find. -/
import Derived.Test.YtlldmhnkaopjhaaDoorNarN
import Derived.Test.YtlldmhnkaopjhaaDoorPhP
import Derived.Test.YtlldmhnkaopjhaaDoorSkyLaw
namespace Go.Proofs.YtlldmhnkaopjhaaDoor
open Go.RowKit
set_option linter.unusedSimpArgs false
set_option linter.unusedVariables false
/-- A number in memory. -/
def IntBox (w : World) (b : Nat) (q : Int) : Prop := w.rowIs b 3 1 (fun _ => .int .i64 q)
section
variable {w w' : World} {b : Nat} {q : Int}
theorem IntBox.c0 (h : IntBox w b q) : w.cell? ⟨b, 0, none⟩ = some (.int .i64 q) := World.rowIs.cell h (i := 0) (by omega)
theorem IntBox.lt (h : IntBox w b q) : b < w.heap.size := World.rowIs.lt h
theorem IntBox.alloc (h : IntBox w b q) (o : Obj) : IntBox (w.alloc o) b q := World.rowIs.alloc h o
theorem IntBox.drew (h : IntBox w b q) : IntBox w.drew b q := h
theorem IntBox.other (h : IntBox w b q) {a : Addr} (ha : b ≠ a.block) (v : Value) : IntBox (w.setCell a v) b q := World.rowIs.setOther h ha v
theorem IntBox.below (h : IntBox w b q) (hb : Below w.heap.size w w') : IntBox w' b q := World.rowIs.of_block h (hb.block b (World.rowIs.lt h))
theorem IntBox.new (w : World) (q : Int) : IntBox (w.alloc (.cells #[.int .i64 q] 3)) w.heap.size q :=
  World.rowIs_alloc w #[.int .i64 q] 3 (fun _ => .int .i64 q) (fun i hi => by
    match i, hi with
    | 0, _ => rfl)
end
theorem enP : ∀ args w, (callFunc 54 args).run Tryd.prog w = .ok (.enter 54 args) w := enters_of Tryd.func54 (by kernel_rfl) rfl
set_option maxRecDepth 100000 in
set_option maxHeartbeats 4000000 in
theorem phSide_ok (q : Int) (hq : 0 ≤ q ∧ q ≤ 3) (lo hi : Int) (b : Nat) (w : World) (hT : SinT w) (hin : ∀ x, lo ≤ x → x ≤ hi → instOk x = true) (hb : IntBox w b q) :
    FnAt 54 #[.pointer (some ⟨b, 0, none⟩)] (fun x => .int .i64 (phSd q x)) lo hi w := by
  intro W x h1 h2 hbl
  show Calls Tryd.prog 54 #[.int .i64 x, .pointer (some ⟨b, 0, none⟩)] W fun e w' => e = .returned (.int .i64 (phSd q x)) ∧ Below W.heap.size W w'
  have E := Lib.hid (elong_ok x W (hT.below hbl) (hin x h1 h2))
  have bd := el_bd x
  have S := fun w => Side_ok (elLo x) (elHi x) (250000000 * q) w bd.1 bd.2.1 bd.2.2.1 bd.2.2.2 (by omega) (by omega)
  have eS : sideF (elLo x) (elHi x) (250000000 * q) = phSd q x := rfl
  rw [eS] at S
  have HI := Lib.hid (hb.below hbl)
  generalize phSd q x = sd at *
  clear eS bd hT hin hb hbl
  generalize elLo x = lo' at *
  generalize elHi x = hi' at *
  rcases (by omega : q = 0 ∨ q = 1 ∨ q = 2 ∨ q = 3) with rfl | rfl | rfl | rfl
  all_goals
    simp only [Int.reduceMul] at S
    have HS := Lib.hid S
    clear S
    have c0 := HI.out.c0
    go_enter Tryd.func54, Tryd.ntmps54
    go_wp2_with fail
    refine Calls.mono E.out ?_
    rintro e w1 ⟨rfl, hb1⟩
    have I1 := HI.out.below hb1
    have HB := Lib.hid (hb1.alloc hb1.size (.cells #[.int .i64 lo', .int .i64 hi'] 24))
    have I2 := I1.alloc (.cells #[.int .i64 lo', .int .i64 hi'] 24)
    have S1 := SpBox.new w1 lo' hi'
    obtain ⟨k, hk⟩ : ∃ k, k = w1.heap.size := ⟨_, rfl⟩
    rw [← hk] at S1
    clear c0 hb1
    go_upto_region 2 with fail
    rw [← hk]
    obtain ⟨X, hX⟩ : ∃ X, X = w1.alloc (.cells #[.int .i64 lo', .int .i64 hi'] 24) := ⟨_, rfl⟩
    rw [← hX] at S1 I2 HB ⊢
    clear hX hk
    have c0 := I2.c0; have c1 := S1.c0; have c2 := S1.c1
    go_wp2_with fail
    refine Calls.mono (HS.out _) ?_
    rintro e w2 ⟨rfl, hb2⟩
    have HB2 := Lib.hid (HB.out.trans (hb2.mono HB.out.size))
    clear hb2 c0 c1 c2 S1 I2
    go_wp2_with fail
    go_ret
    exact ⟨rfl, HB2.out⟩
set_option maxRecDepth 100000 in
set_option maxHeartbeats 8000000 in
theorem phFind_ok (k q : Int) (hk : -100001 ≤ k ∧ k ≤ 100001) (hq : 0 ≤ q ∧ q ≤ 3) (w : World) (hT : SinT w) : Calls Tryd.prog 34 #[.int .i64 k, .int .i64 q] w fun e w' => e = .returned (.agg #[.int .i64 (phF k q).1, .int .i64 (phF k q).2]) ∧ Below w.heap.size w w' := by
  obtain ⟨k1, k2⟩ := hk
  obtain ⟨q1, q2⟩ := hq
  have hin : ∀ x, 977949455 + 2551442878 * k + 637860719 * q - 172800000 ≤ x → x ≤ 977949455 + 2551442878 * k + 637860719 * q + 172800000 → instOk x = true := fun x h1 h2 => by unfold instOk dayOk; exact decide_eq_true (by omega)
  have N := Lib.hid (fun W b (hT : SinT W) (hb : IntBox W b q) => narrow_ok 54 #[.pointer (some ⟨b, 0, none⟩)] enP (phSd q) (977949455 + 2551442878 * k + 637860719 * q - 172800000) (977949455 + 2551442878 * k + 637860719 * q + 172800000) 600000 W (phSide_ok q ⟨q1, q2⟩ _ _ b W hT hin hb) (by omega) (by omega) (by omega) (by omega) (by omega))
  have eF : phF k q = nrwF (phSd q) 600000 64 (977949455 + 2551442878 * k + 637860719 * q - 172800000) (977949455 + 2551442878 * k + 637860719 * q + 172800000) := rfl
  rw [← eF] at N
  clear eF hin
  generalize (phF k q).1 = r1 at *
  generalize (phF k q).2 = r2 at *
  obtain ⟨bo, hbo⟩ : ∃ bo, bo = decide (r2 - r1 ≤ 600000) := ⟨_, rfl⟩
  rw [← hbo] at N
  have HT := Lib.hid hT
  have B1 := IntBox.new w q
  obtain ⟨b, hb⟩ : ∃ b, b = w.heap.size := ⟨_, rfl⟩
  have e1 : (w.alloc (.cells #[.int .i64 q] 3)).heap.size = b + 1 := by simp [hb]
  have B2 := SpBox.new (w.alloc (.cells #[.int .i64 q] 3)) 0 0
  rw [e1] at B2
  rw [← hb] at B1
  have B1' := Lib.hid (B1.alloc (.cells #[.int .i64 0, .int .i64 0] 24))
  have B2' := Lib.hid B2
  have BW := Lib.hid (show Below w.heap.size w ((w.alloc (.cells #[.int .i64 q] 3)).alloc (.cells #[.int .i64 0, .int .i64 0] 24)) from (by repeat' (first | (with_reducible refine below_drewN ?_ _) | go_grown)))
  clear hbo B1 B2 e1 hT
  go_enter Tryd.func34, Tryd.ntmps34
  go_upto_region 1 with fail
  rw [← hb]
  have HBB := Lib.hid hb
  clear hb
  obtain ⟨X, hX⟩ : ∃ X, X = ((w.alloc (.cells #[.int .i64 q] 3)).alloc (.cells #[.int .i64 0, .int .i64 0] 24)) := ⟨_, rfl⟩
  rw [← hX] at B1' B2' BW ⊢
  clear hX
  have c0 := B1'.out.c0
  go_wp2_with fail
  refine Calls.mono (N.out _ _ (HT.out.below BW.out) B1'.out) ?_
  rintro e w1 ⟨rfl, hb1⟩
  have V := BW.out.trans (hb1.mono BW.out.size)
  have HB := Lib.hid (V.alloc V.size (.cells #[.int .i64 r1, .int .i64 r2] 24))
  have S2 := Lib.hid ((B2'.out.below hb1).alloc (.cells #[.int .i64 r1, .int .i64 r2] 24))
  have S3 := Lib.hid (SpBox.new w1 r1 r2)
  obtain ⟨kk, hkk⟩ : ∃ k, k = w1.heap.size := ⟨_, rfl⟩
  have hne : b + 1 ≠ kk := by have := (B2'.out.below hb1).lt; omega
  rw [← hkk] at S3
  clear c0 hb1 V B1' B2' BW
  go_upto_region 4 with fail
  rw [← hkk]
  obtain ⟨Y, hY⟩ : ∃ Y, Y = w1.alloc (.cells #[.int .i64 r1, .int .i64 r2] 24) := ⟨_, rfl⟩
  rw [← hY] at S2 S3 HB ⊢
  clear hY hkk
  have u0 := S3.out.c0; have u1 := S3.out.c1
  have z0 := S2.out.c0; have z1 := S2.out.c1; have zf0 := S2.out.free 0; have zf1 := S2.out.free 1; have zl := S2.out.lt
  go_wp2_with fail
  refine bodyPost_ret (v := .agg #[.int .i64 r1, .int .i64 r2]) ?_ rfl ⟨rfl, ?_⟩
  · simp [results, Tryd.results34, go_sem, *]
  · have hB := HBB.out
    refine Below.setCell (Below.setCell HB.out ?_ _) ?_ _
    all_goals (first | (simp only [World.size_setCell]; omega) | (dsimp only; omega))
end Go.Proofs.YtlldmhnkaopjhaaDoor
