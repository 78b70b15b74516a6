/- Merged by wip/tools/pack.py out of XNarW, XNarN, XPhW. -/
import Derived.Test.YtdifeoahaegjbaaGreatDoorPhs
import Derived.Test.YtdifeoahaegjbaaGreatDoorTrigA
import Derived.Laws.EntriesVeiled
import Derived.Shelf.Abstract
import Derived.Test.YtdifeoahaegjbaaGreatDoorBasic
/- series.Side, last, Narrow. -/
namespace Go.Proofs.YtdifeoahaegjbaaGreatDoor
open Go.RowKit
set_option linter.unusedSimpArgs false
set_option linter.unusedVariables false
set_option maxRecDepth 100000 in
set_option maxHeartbeats 4000000 in
theorem Side_ok (lo hi tg : Int) (w : World) (h1 : 0 ≤ lo) (h2 : lo < 1000000000) (h3 : lo ≤ hi) (h4 : hi ≤ 400000000000) (h5 : 0 ≤ tg) (h6 : tg < 1000000000) :
    Calls Tryz.prog 47 #[.agg #[.int .i64 lo, .int .i64 hi], .int .i64 tg] w fun e w' => e = .returned (.int .i64 (sideF lo hi tg)) ∧ Below w.heap.size w w' := by
  have M := Lib.hid (fun w => mod_all (lo - tg) 1000000000 w (by omega) (by omega) (by omega) (by omega))
  unfold sideF
  have b0 : 0 ≤ (lo - tg) % 1000000000 := by omega
  have b1 : (lo - tg) % 1000000000 < 1000000000 := by omega
  generalize (lo - tg) % 1000000000 = b at *
  obtain ⟨wd, hwd⟩ : ∃ x, x = hi - lo := ⟨_, rfl⟩
  have w0 : 0 ≤ wd := by omega
  have w1 : wd ≤ 400000000000 := by omega
  have W0 := Lib.hid hwd
  obtain ⟨R, hR⟩ : ∃ R, R = (if b = 0 ∨ 1000000000 ≤ b + (hi - lo) then (0 : Int) else if b ≤ 500000000 ∧ 500000000 ≤ b + (hi - lo) then 2 else if b < 500000000 then 1 else -1) := ⟨_, rfl⟩
  rw [← hR]
  have HR := Lib.hid hR
  clear hR hwd
  go_enter Tryz.func47, Tryz.ntmps47
  go_wp2_with fail
  refine Calls.mono (M.out _) ?_
  rintro e w1' ⟨rfl, hb⟩
  have HB := Lib.hid (((Below.refl w.heap.size w).alloc (Nat.le_refl _) (.cells #[.int .i64 lo, .int .i64 hi] 43)).trans (hb.mono (by simp)))
  clear hb
  have hr := HR.out
  by_cases c1 : b = 0
  · rw [if_pos (.inl c1)] at hr
    subst c1
    subst hr
    go_wp2_with fail
    go_ret
    exact ⟨rfl, HB.out⟩
  · by_cases c2 : 1000000000 ≤ b + (hi - lo)
    · rw [if_pos (.inr c2)] at hr
      subst hr
      go_wp2_with fail
      go_ret
      exact ⟨rfl, HB.out⟩
    · rw [if_neg (by rintro (h | h); exact c1 h; exact c2 h)] at hr
      have d1 : (b == 0) = false := by simp [c1]
      have d2 : decide (1000000000 ≤ b + (hi - lo)) = false := decide_eq_false c2
      by_cases c3 : b ≤ 500000000
      · by_cases c4 : 500000000 ≤ b + (hi - lo)
        · rw [if_pos ⟨c3, c4⟩] at hr
          subst hr
          go_wp2_with fail
          go_ret
          exact ⟨rfl, HB.out⟩
        · rw [if_neg (by rintro ⟨h, h'⟩; exact c4 h'), if_pos (by omega)] at hr
          subst hr
          have c5 : b < 500000000 := by omega
          go_wp2_with fail
          go_ret
          exact ⟨rfl, HB.out⟩
      · rw [if_neg (by rintro ⟨h, h'⟩; exact c3 h), if_neg (by omega)] at hr
        subst hr
        have c5 : ¬ b < 500000000 := by omega
        go_wp2_with fail
        go_ret
        exact ⟨rfl, HB.out⟩
/-- What a function value is asked: at each later world and each number between two bounds it hands back a value, and leaves what lay. -/
def FnAt (g : Nat) (lb : Array Value) (p : Int → Value) (lo hi : Int) (w : World) : Prop :=
  ∀ (W : World) (x : Int), lo ≤ x → x ≤ hi → Below w.heap.size w W → Calls Tryz.prog g (#[.int .i64 x] ++ lb) W fun e w' => e = .returned (p x) ∧ Below W.heap.size W w'
theorem FnAt.later {g : Nat} {lb : Array Value} {p : Int → Value} {lo hi lo' hi' : Int} {w W : World} (h : FnAt g lb p lo hi w) (h1 : lo ≤ lo') (h2 : hi' ≤ hi) (hb : Below w.heap.size w W) : FnAt g lb p lo' hi' W :=
  fun V x a b c => h V x (by omega) (by omega) (hb.trans (c.mono hb.size))
set_option maxRecDepth 100000 in
set_option maxHeartbeats 8000000 in
theorem last_ok (g : Nat) (lb : Array Value) (eg : ∀ args w, (callFunc g args).run Tryz.prog w = .ok (.enter g args) w) (h : Int → Bool) (lo hi : Int) (w : World) (hs : FnAt g lb (fun x => .bool (h x)) lo hi w) (b1 : -1000000000000000000 ≤ lo) (b2 : lo ≤ hi) (b3 : hi ≤ 1000000000000000000) :
    Calls Tryz.prog 70 #[.int .i64 lo, .int .i64 hi, .func (.func g) #[] lb] w fun e w' => e = .returned (.int .i64 (lastF h 64 lo hi)) ∧ Below w.heap.size w w' := by
  have HS := Lib.hid hs
  obtain ⟨R, hR⟩ : ∃ R, R = lastF h 64 lo hi := ⟨_, rfl⟩
  rw [← hR]
  have HR := Lib.hid hR
  clear hR hs
  go_enter Tryz.func70, Tryz.ntmps70
  go_wp2_with fail
  go_loopw [0, 1] (fun s0 s1 wr => ∃ (K : Nat) (l u : Int), s0 = .int .i64 l ∧ s1 = .int .i64 u ∧ Hid (R = lastF h K l u) ∧ Hid (u - l ≤ ((2 ^ K : Nat) : Int)) ∧ lo ≤ l ∧ l ≤ u ∧ u ≤ hi ∧ Below w.heap.size w wr) (fun s0 s1 _ => (intOf s1 - intOf s0).toNat)
  case atStart => exact ⟨64, lo, hi, rfl, rfl, HR, Lib.hid (by have : (10000000000000000000 : Int) ≤ ((2 ^ 64 : Nat) : Int) := by decide
                                                               omega), Int.le_refl _, b2, Int.le_refl _, Below.refl _ _⟩
  case round =>
    obtain ⟨K, l, u, rfl, rfl, hq, hk, a1, a2, a3, hbl⟩ := hrel
    by_cases c : 1 < u - l
    · obtain ⟨K', rfl⟩ : ∃ K', K = K' + 1 := by
        rcases K with _ | K'
        · have := hk.out; simp at this; omega
        · exact ⟨K', rfl⟩
      have hq' := hq.out
      have hk' := hk.out
      rw [lastF_step, if_pos c] at hq'
      have e2 : ((2 ^ (K' + 1) : Nat) : Int) = 2 * ((2 ^ K' : Nat) : Int) := by rw [Nat.pow_succ]; omega
      rw [e2] at hk'
      have hf := half_of (a := u - l) (by omega)
      rw [hf] at hq'
      obtain ⟨m, hm⟩ : ∃ m, m = l + (u - l) / 2 := ⟨_, rfl⟩
      rw [← hm] at hq'
      have m1 : l < m := by omega
      have m2 : m < u := by omega
      have k1 : Hid (u - m ≤ ((2 ^ K' : Nat) : Int)) := Lib.hid (by omega)
      have k2 : Hid (m - l ≤ ((2 ^ K' : Nat) : Int)) := Lib.hid (by omega)
      have HM := Lib.hid hm
      have HQ := Lib.hid hq'
      have cS : Calls Tryz.prog g (#[.int .i64 m] ++ lb) wr fun e w' => e = .returned (.bool (h m)) ∧ Below wr.heap.size wr w' := HS.out wr m (by omega) (by omega) hbl
      rw [hm] at cS
      have HBL := Lib.hid hbl
      have M1 := Lib.hid m1; have M2 := Lib.hid m2
      clear m1 m2 hm hf hq hk hk' hq' e2 hbl
      have em : h (l + (u - l) / 2) = h m := by rw [HM.out]
      by_cases q : h m = true
      · rw [em, q] at cS
        have HQ2 := Lib.hid (show R = lastF h K' m u by have := HQ.out; rwa [if_pos q] at this)
        clear HQ q em
        go_wp2_with (go_at_fn g; refine cS.mono ?_; rintro e W' ⟨rfl, hbc⟩)
        have HB2 := Lib.hid (HBL.out.trans (hbc.mono HBL.out.size))
        clear hbc
        go_roundw
        case rel => exact ⟨K', m, u, by rw [HM.out], rfl, HQ2, k1, by have := M1.out; omega, by have := M2.out; omega, a3, HB2.out⟩
        case measure => have := M1.out; have := M2.out; have := HM.out; simp [intOf]; omega
      · have q' : h m = false := by simpa using q
        rw [em, q'] at cS
        have HQ2 := Lib.hid (show R = lastF h K' l m by have := HQ.out; rwa [if_neg q] at this)
        clear HQ q q' em
        go_wp2_with (go_at_fn g; refine cS.mono ?_; rintro e W' ⟨rfl, hbc⟩)
        have HB2 := Lib.hid (HBL.out.trans (hbc.mono HBL.out.size))
        clear hbc
        go_roundw
        case rel => exact ⟨K', l, m, rfl, by rw [HM.out], HQ2, k2, a1, by have := M1.out; omega, by have := M2.out; omega, HB2.out⟩
        case measure => have := M1.out; have := M2.out; have := HM.out; simp [intOf]; omega
    · have hq' := hq.out
      rw [lastF_end h K l u (by omega)] at hq'
      subst hq'
      have HB := Lib.hid hbl
      clear hbl hq hk
      go_wp2_with fail
      go_ret
      exact ⟨rfl, HB.out⟩
end Go.Proofs.YtdifeoahaegjbaaGreatDoor
/- series.Narrow, over any function value. -/
namespace Go.Proofs.YtdifeoahaegjbaaGreatDoor
open Go.RowKit
set_option linter.unusedSimpArgs false
set_option linter.unusedVariables false
/-- A function value in memory. -/
def FnBox (w : World) (b : Nat) (v : Value) : Prop := w.rowIs b 76 1 (fun _ => v)
section
variable {w w' : World} {b : Nat} {v : Value}
theorem FnBox.c0 (h : FnBox w b v) : w.cell? ⟨b, 0, none⟩ = some v := World.rowIs.cell h (i := 0) (by omega)
theorem FnBox.lt (h : FnBox w b v) : b < w.heap.size := World.rowIs.lt h
theorem FnBox.alloc (h : FnBox w b v) (o : Obj) : FnBox (w.alloc o) b v := World.rowIs.alloc h o
theorem FnBox.below (h : FnBox w b v) (hb : Below w.heap.size w w') : FnBox w' b v := World.rowIs.of_block h (hb.block b (World.rowIs.lt h))
theorem FnBox.new (w : World) (v : Value) : FnBox (w.alloc (.cells #[v] 76)) w.heap.size v :=
  World.rowIs_alloc w #[v] 76 (fun _ => v) (fun i hi => by
    match i, hi with
    | 0, _ => rfl)
end
theorem en1 : ∀ args w, (callFunc 71 args).run Tryz.prog w = .ok (.enter 71 args) w := enters_of Tryz.func71 (by kernel_rfl) rfl
theorem en2 : ∀ args w, (callFunc 72 args).run Tryz.prog w = .ok (.enter 72 args) w := enters_of Tryz.func72 (by kernel_rfl) rfl
set_option maxRecDepth 100000 in
set_option maxHeartbeats 2000000 in
theorem nar1_ok (g : Nat) (lb : Array Value) (eg : ∀ args w, (callFunc g args).run Tryz.prog w = .ok (.enter g args) w) (sd : Int → Int) (lo hi : Int) (b : Nat) (w : World) (hs : FnAt g lb (fun x => .int .i64 (sd x)) lo hi w) (hb : FnBox w b (.func (.func g) #[] lb)) :
    FnAt 71 #[.pointer (some ⟨b, 0, none⟩)] (fun x => .bool (decide (sd x = -1))) lo hi w := by
  intro W x h1 h2 hbl
  have cS : Calls Tryz.prog g (#[.int .i64 x] ++ lb) W fun e w' => e = .returned (.int .i64 (sd x)) ∧ Below W.heap.size W w' := hs W x h1 h2 hbl
  have c0 := (hb.below hbl).c0
  show Calls Tryz.prog 71 #[.int .i64 x, .pointer (some ⟨b, 0, none⟩)] W fun e w' => e = .returned (.bool (decide (sd x = -1))) ∧ Below W.heap.size W w'
  generalize sd x = s at *
  clear hs hb hbl h1 h2
  go_enter Tryz.func71, Tryz.ntmps71
  go_wp2_with (go_at_fn g; refine cS.mono ?_; rintro e W' ⟨rfl, hbc⟩)
  have HB := Lib.hid hbc
  clear hbc
  go_ret
  exact ⟨rfl, HB.out⟩
set_option maxRecDepth 100000 in
set_option maxHeartbeats 2000000 in
theorem nar2_ok (g : Nat) (lb : Array Value) (eg : ∀ args w, (callFunc g args).run Tryz.prog w = .ok (.enter g args) w) (sd : Int → Int) (lo hi : Int) (b : Nat) (w : World) (h1 : -1000000000000000000 ≤ lo) (h2 : hi ≤ 1000000000000000000) (hs : FnAt g lb (fun x => .int .i64 (sd x)) lo hi w) (hb : FnBox w b (.func (.func g) #[] lb)) :
    FnAt 72 #[.pointer (some ⟨b, 0, none⟩)] (fun x => .bool (decide (sd (-x) = 1))) (-hi) (-lo) w := by
  intro W x a1 a2 hbl
  have cS : Calls Tryz.prog g (#[.int .i64 (-x)] ++ lb) W fun e w' => e = .returned (.int .i64 (sd (-x))) ∧ Below W.heap.size W w' := hs W (-x) (by omega) (by omega) hbl
  have c0 := (hb.below hbl).c0
  have wn : wrap64 (-x) = -x := IntWalk.wrap64_in _ (by omega)
  show Calls Tryz.prog 72 #[.int .i64 x, .pointer (some ⟨b, 0, none⟩)] W fun e w' => e = .returned (.bool (decide (sd (-x) = 1))) ∧ Below W.heap.size W w'
  generalize sd (-x) = s at *
  clear hs hb hbl h1 h2 a1 a2
  go_enter Tryz.func72, Tryz.ntmps72
  go_wp2_with (go_at_fn g; refine cS.mono ?_; rintro e W' ⟨rfl, hbc⟩)
  have HB := Lib.hid hbc
  clear hbc
  go_ret
  exact ⟨rfl, HB.out⟩
set_option maxRecDepth 100000 in
set_option maxHeartbeats 16000000 in
theorem narrow_ok (g : Nat) (lb : Array Value) (eg : ∀ args w, (callFunc g args).run Tryz.prog w = .ok (.enter g args) w) (sd : Int → Int) (lo hi width : Int) (w : World) (hs : FnAt g lb (fun x => .int .i64 (sd x)) lo hi w) (b1 : -1000000000000000000 ≤ lo) (b2 : lo ≤ hi) (b3 : hi ≤ 1000000000000000000) (wd1 : 1 ≤ width) (wd2 : width ≤ 1000000000000000) :
    Calls Tryz.prog 49 #[.agg #[.int .i64 lo, .int .i64 hi], .int .i64 width, .func (.func g) #[] lb] w fun e w' => e = .returned (.tuple #[.agg #[.int .i64 (nrwF sd width 64 lo hi).1, .int .i64 (nrwF sd width 64 lo hi).2], .bool (decide ((nrwF sd width 64 lo hi).2 - (nrwF sd width 64 lo hi).1 ≤ width))]) ∧ Below w.heap.size w w' := by
  obtain ⟨R, hR⟩ : ∃ R, R = nrwF sd width 64 lo hi := ⟨_, rfl⟩
  rw [← hR]
  have HR := Lib.hid hR
  have HS := Lib.hid hs
  have B1 := SpBox.new w lo hi
  obtain ⟨b, hb⟩ : ∃ b, b = w.heap.size := ⟨_, rfl⟩
  have e1 : (w.alloc (.cells #[.int .i64 lo, .int .i64 hi] 43)).heap.size = b + 1 := by simp [hb]
  have B2 := FnBox.new (w.alloc (.cells #[.int .i64 lo, .int .i64 hi] 43)) (.func (.func g) #[] lb)
  rw [e1] at B2
  have e2 : ((w.alloc (.cells #[.int .i64 lo, .int .i64 hi] 43)).alloc (.cells #[.func (.func g) #[] lb] 76)).heap.size = b + 1 + 1 := by simp [hb]
  have B3 := SpBox.new ((w.alloc (.cells #[.int .i64 lo, .int .i64 hi] 43)).alloc (.cells #[.func (.func g) #[] lb] 76)) 0 0
  rw [e2] at B3
  rw [← hb] at B1
  have B1' := (B1.alloc (.cells #[.func (.func g) #[] lb] 76)).alloc (.cells #[.int .i64 0, .int .i64 0] 43)
  have B2' := B2.alloc (.cells #[.int .i64 0, .int .i64 0] 43)
  have BW := Lib.hid (show Below w.heap.size w (((w.alloc (.cells #[.int .i64 lo, .int .i64 hi] 43)).alloc (.cells #[.func (.func g) #[] lb] 76)).alloc (.cells #[.int .i64 0, .int .i64 0] 43)) from (by repeat' (first | (with_reducible refine below_drewN ?_ _) | go_grown)))
  clear hR hs B1 B2 e1 e2
  go_enter Tryz.func49, Tryz.ntmps49
  go_upto_region 1 with fail
  rw [← hb]
  have HBB := Lib.hid hb
  clear hb
  obtain ⟨X, hX⟩ : ∃ X, X = (((w.alloc (.cells #[.int .i64 lo, .int .i64 hi] 43)).alloc (.cells #[.func (.func g) #[] lb] 76)).alloc (.cells #[.int .i64 0, .int .i64 0] 43)) := ⟨_, rfl⟩
  rw [← hX] at B1' B2' B3 BW ⊢
  clear hX
  have c0 := B1'.c0; have c1 := B1'.c1
  have HB2 := Lib.hid B2'; have HB3 := Lib.hid B3
  clear B1' B2' B3
  go_quiet (fail)
  clear c0 c1
  have HX := Lib.hid (below_drewN (Below.refl X.heap.size X) nq)
  have p64 := Lib.hid (show (10000000000000000000 : Int) ≤ ((2 ^ 64 : Nat) : Int) by decide)
  go_wp2_with fail
  go_loopw [8, 9] (fun s0 s1 wr => ∃ (K : Nat) (l u : Int), s0 = .int .i64 l ∧ s1 = .int .i64 u ∧ Hid (R = nrwF sd width K l u) ∧ Hid (u - l ≤ ((2 ^ K : Nat) : Int)) ∧ lo ≤ l ∧ l ≤ u ∧ u ≤ hi ∧ FnBox wr (b + 1) (.func (.func g) #[] lb) ∧ SpBox wr (b + 1 + 1) 0 0 ∧ Below w.heap.size w wr) (fun s0 s1 _ => (intOf s1 - intOf s0).toNat)
  case atStart => exact ⟨64, lo, hi, rfl, rfl, HR, Lib.hid (by have := p64.out; omega), Int.le_refl _, b2, Int.le_refl _, HB2.out.below HX.out, HB3.out.below HX.out, below_drewN BW.out nq⟩
  case round =>
    obtain ⟨K, l, u, rfl, rfl, hq, hk, a1, a2, a3, hF, hS, hbl⟩ := hrel
    clear HB2 HB3 BW HX HR
    by_cases c : width < u - l
    · obtain ⟨K', rfl⟩ : ∃ K', K = K' + 1 := by
        rcases K with _ | K'
        · have := hk.out; simp at this; omega
        · exact ⟨K', rfl⟩
      have hq' := hq.out
      have hk' := hk.out
      rw [nrwF_step, if_pos c] at hq'
      have e2 : ((2 ^ (K' + 1) : Nat) : Int) = 2 * ((2 ^ K' : Nat) : Int) := by rw [Nat.pow_succ]; omega
      rw [e2] at hk'
      have hf := half_of (a := u - l) (by omega)
      rw [hf] at hq'
      obtain ⟨m, hm⟩ : ∃ m, m = l + (u - l) / 2 := ⟨_, rfl⟩
      rw [← hm] at hq'
      have m1 : l < m := by omega
      have m2 : m < u := by omega
      have k1 : Hid (u - m ≤ ((2 ^ K' : Nat) : Int)) := Lib.hid (by omega)
      have k2 : Hid (m - l ≤ ((2 ^ K' : Nat) : Int)) := Lib.hid (by omega)
      have HM := Lib.hid hm
      have HQ := Lib.hid hq'
      have cS : Calls Tryz.prog g (#[.int .i64 m] ++ lb) wr fun e w' => e = .returned (.int .i64 (sd m)) ∧ Below wr.heap.size wr w' := HS.out wr m (by omega) (by omega) hbl
      rw [hm] at cS
      have em : sd (l + (u - l) / 2) = sd m := by rw [HM.out]
      rw [em] at cS
      have HBL := Lib.hid hbl
      have M1 := Lib.hid m1; have M2 := Lib.hid m2
      have c0 := hF.c0
      have HF := Lib.hid hF; have HSP := Lib.hid hS
      clear m1 m2 hm hf hq hk hk' hq' e2 hbl em hF hS
      by_cases q : sd m = -1
      · rw [q] at cS
        have HQ2 := Lib.hid (show R = nrwF sd width K' m u by have := HQ.out; rwa [if_pos q] at this)
        clear HQ q
        go_wp2_with (go_at_fn g; refine cS.mono ?_; rintro e W' ⟨rfl, hbc⟩)
        have HB2 := Lib.hid (HBL.out.trans (hbc.mono HBL.out.size))
        have F2 := HF.out.below hbc; have S2 := HSP.out.below hbc
        clear hbc c0
        go_roundw
        case rel => exact ⟨K', m, u, by rw [HM.out], rfl, HQ2, k1, by have := M1.out; omega, by have := M2.out; omega, a3, F2, S2, HB2.out⟩
        case measure => have := M1.out; have := M2.out; have := HM.out; simp [intOf]; omega
      · by_cases r : sd m = 1
        · rw [r] at cS
          have HQ2 := Lib.hid (show R = nrwF sd width K' l m by have := HQ.out; rwa [if_neg q, if_pos r] at this)
          clear HQ q r
          go_wp2_with (go_at_fn g; refine cS.mono ?_; rintro e W' ⟨rfl, hbc⟩)
          have HB2 := Lib.hid (HBL.out.trans (hbc.mono HBL.out.size))
          have F2 := HF.out.below hbc; have S2 := HSP.out.below hbc
          clear hbc c0
          go_roundw
          case rel => exact ⟨K', l, m, rfl, by rw [HM.out], HQ2, k2, a1, by have := M1.out; omega, by have := M2.out; omega, F2, S2, HB2.out⟩
          case measure => have := M1.out; have := M2.out; have := HM.out; simp [intOf]; omega
        · have HQ2 := Lib.hid (show R = (lastF (fun x => decide (sd x = -1)) 64 l m, -lastF (fun x => decide (sd (-x) = 1)) 64 (-u) (-m)) by have := HQ.out; rwa [if_neg q, if_neg r] at this)
          obtain ⟨sm, hsm⟩ : ∃ x, x = sd m := ⟨_, rfl⟩
          rw [← hsm] at cS q r
          have p1 := lastF_in (fun x => decide (sd x = -1)) 64 l m M1.out (by have := M2.out; have := p64.out; omega)
          have p2 := lastF_in (fun x => decide (sd (-x) = 1)) 64 (-u) (-m) (by have := M2.out; omega) (by have := M1.out; have := p64.out; omega)
          have L1 := Lib.hid (fun W (F : FnBox W (b + 1) (.func (.func g) #[] lb)) (hb : Below w.heap.size w W) => last_ok 71 #[.pointer (some ⟨b + 1, 0, none⟩)] en1 (fun x => decide (sd x = -1)) l m W (nar1_ok g lb eg sd l m (b + 1) W (HS.out.later (by omega) (by have := M2.out; omega) hb) F) (by omega) (by have := M1.out; omega) (by have := M2.out; omega))
          have L2 := Lib.hid (fun W (F : FnBox W (b + 1) (.func (.func g) #[] lb)) (hb : Below w.heap.size w W) => last_ok 72 #[.pointer (some ⟨b + 1, 0, none⟩)] en2 (fun x => decide (sd (-x) = 1)) (-u) (-m) W (nar2_ok g lb eg sd m u (b + 1) W (by have := M1.out; omega) (by omega) (HS.out.later (by have := M1.out; omega) (by omega) hb) F) (by omega) (by have := M2.out; omega) (by have := M1.out; omega))
          obtain ⟨x1, x2, -, -⟩ := p1
          obtain ⟨y1, y2, -, -⟩ := p2
          obtain ⟨p, hp⟩ : ∃ p, p = lastF (fun x => decide (sd x = -1)) 64 l m := ⟨_, rfl⟩
          obtain ⟨v, hv⟩ : ∃ v, v = lastF (fun x => decide (sd (-x) = 1)) 64 (-u) (-m) := ⟨_, rfl⟩
          rw [← hp] at L1 x1 x2 HQ2
          rw [← hv] at L2 y1 y2 HQ2
          have hr := HQ2.out
          subst hr
          have z0 : -1000000000000000000 ≤ p := by omega
          have z1 : p ≤ 1000000000000000000 := by have := M2.out; omega
          have z2 : -1000000000000000000 ≤ v := by omega
          have z3 : v ≤ 1000000000000000000 := by have := M1.out; omega
          have mm := HM.out
          have m1 := M1.out; have m2 := M2.out
          rw [mm] at L1 L2
          clear HQ hsm hp hv HQ2 x1 x2 y1 y2 M1 M2 HM
          have mb1 : -1000000000000000000 ≤ l + (u - l) / 2 := by omega
          have mb2 : l + (u - l) / 2 ≤ 1000000000000000000 := by omega
          clear mm m1 m2 k1 k2
          go_wp2_with (go_at_fn g; refine cS.mono ?_; rintro e W' ⟨rfl, hbc⟩)
          have HB2 := Lib.hid (HBL.out.trans (hbc.mono HBL.out.size))
          have F2 := Lib.hid (HF.out.below hbc); have S2 := Lib.hid (HSP.out.below hbc)
          clear hbc c0 cS q r
          refine Calls.mono (L1.out _ F2.out HB2.out) ?_
          rintro e W2 ⟨rfl, hbc⟩
          have HB3 := Lib.hid (HB2.out.trans (hbc.mono HB2.out.size))
          have F3 := Lib.hid (F2.out.below hbc); have S3 := Lib.hid (S2.out.below hbc)
          clear hbc
          go_wp2_with fail
          refine Calls.mono (L2.out _ F3.out HB3.out) ?_
          rintro e W3 ⟨rfl, hbc⟩
          have HB4 := Lib.hid (HB3.out.trans (hbc.mono HB3.out.size))
          have S4 := S3.out.below hbc
          have t0 := S4.c0; have t1 := S4.c1; have tf0 := S4.free 0; have tf1 := S4.free 1; have tl := S4.lt
          clear hbc S4
          go_wp2_with fail
          refine bodyPost_ret (v := .tuple #[.agg #[.int .i64 p, .int .i64 (-v)], .bool (decide (-v - p ≤ width))]) ?_ rfl ⟨rfl, ?_⟩
          · simp [results, Tryz.results49, go_sem, *]
          · have hB := HBB.out
            refine Below.setCell (Below.setCell HB4.out ?_ _) ?_ _
            all_goals (first | (simp only [World.size_setCell]; omega) | (dsimp only; omega))
    · have hq' := hq.out
      rw [nrwF_end sd width K l u c] at hq'
      subst hq'
      have HB := Lib.hid hbl
      have z0 := hS.c0; have z1 := hS.c1; have zf0 := hS.free 0; have zf1 := hS.free 1; have zl := hS.lt
      have dd : decide (u - l ≤ width) = true := decide_eq_true (by omega)
      clear hbl hq hk hF hS
      go_wp2_with fail
      refine bodyPost_ret (v := .tuple #[.agg #[.int .i64 l, .int .i64 u], .bool true]) ?_ rfl ⟨rfl, ?_⟩
      · simp [results, Tryz.results49, go_sem, *]
      · have hB := HBB.out
        refine Below.setCell (Below.setCell HB.out ?_ _) ?_ _
        all_goals (first | (simp only [World.size_setCell]; omega) | (dsimp only; omega))
end Go.Proofs.YtdifeoahaegjbaaGreatDoor
/- phase.find, Find. -/
namespace Go.Proofs.YtdifeoahaegjbaaGreatDoor
open Go.RowKit
set_option linter.unusedSimpArgs false
set_option linter.unusedVariables false
/-- A number in memory. -/
def IntBox (w : World) (b : Nat) (q : Int) : Prop := w.rowIs b 3 1 (fun _ => .int .i64 q)
section
variable {w w' : World} {b : Nat} {q : Int}
theorem IntBox.c0 (h : IntBox w b q) : w.cell? ⟨b, 0, none⟩ = some (.int .i64 q) := World.rowIs.cell h (i := 0) (by omega)
theorem IntBox.lt (h : IntBox w b q) : b < w.heap.size := World.rowIs.lt h
theorem IntBox.alloc (h : IntBox w b q) (o : Obj) : IntBox (w.alloc o) b q := World.rowIs.alloc h o
theorem IntBox.drew (h : IntBox w b q) : IntBox w.drew b q := h
theorem IntBox.other (h : IntBox w b q) {a : Addr} (ha : b ≠ a.block) (v : Value) : IntBox (w.setCell a v) b q := World.rowIs.setOther h ha v
theorem IntBox.below (h : IntBox w b q) (hb : Below w.heap.size w w') : IntBox w' b q := World.rowIs.of_block h (hb.block b (World.rowIs.lt h))
theorem IntBox.new (w : World) (q : Int) : IntBox (w.alloc (.cells #[.int .i64 q] 3)) w.heap.size q :=
  World.rowIs_alloc w #[.int .i64 q] 3 (fun _ => .int .i64 q) (fun i hi => by
    match i, hi with
    | 0, _ => rfl)
end
theorem enP : ∀ args w, (callFunc 51 args).run Tryz.prog w = .ok (.enter 51 args) w := enters_of Tryz.func51 (by kernel_rfl) rfl
set_option maxRecDepth 100000 in
set_option maxHeartbeats 4000000 in
theorem phSide_ok (q : Int) (hq : 0 ≤ q ∧ q ≤ 3) (lo hi : Int) (b : Nat) (w : World) (hT : SinT w) (hin : ∀ x, lo ≤ x → x ≤ hi → instOk x = true) (hb : IntBox w b q) :
    FnAt 51 #[.pointer (some ⟨b, 0, none⟩)] (fun x => .int .i64 (phSd q x)) lo hi w := by
  intro W x h1 h2 hbl
  show Calls Tryz.prog 51 #[.int .i64 x, .pointer (some ⟨b, 0, none⟩)] W fun e w' => e = .returned (.int .i64 (phSd q x)) ∧ Below W.heap.size W w'
  have E := Lib.hid (elong_ok x W (hT.below hbl) (hin x h1 h2))
  have bd := el_bd x
  have S := fun w => Side_ok (elLo x) (elHi x) (250000000 * q) w bd.1 bd.2.1 bd.2.2.1 bd.2.2.2 (by omega) (by omega)
  have eS : sideF (elLo x) (elHi x) (250000000 * q) = phSd q x := rfl
  rw [eS] at S
  have HI := Lib.hid (hb.below hbl)
  generalize phSd q x = sd at *
  clear eS bd hT hin hb hbl
  generalize elLo x = lo' at *
  generalize elHi x = hi' at *
  rcases (by omega : q = 0 ∨ q = 1 ∨ q = 2 ∨ q = 3) with rfl | rfl | rfl | rfl
  all_goals
    simp only [Int.reduceMul] at S
    have HS := Lib.hid S
    clear S
    have c0 := HI.out.c0
    go_enter Tryz.func51, Tryz.ntmps51
    go_wp2_with fail
    refine Calls.mono E.out ?_
    rintro e w1 ⟨rfl, hb1⟩
    have I1 := HI.out.below hb1
    have HB := Lib.hid (hb1.alloc hb1.size (.cells #[.int .i64 lo', .int .i64 hi'] 43))
    have I2 := I1.alloc (.cells #[.int .i64 lo', .int .i64 hi'] 43)
    have S1 := SpBox.new w1 lo' hi'
    obtain ⟨k, hk⟩ : ∃ k, k = w1.heap.size := ⟨_, rfl⟩
    rw [← hk] at S1
    clear c0 hb1
    go_upto_region 2 with fail
    rw [← hk]
    obtain ⟨X, hX⟩ : ∃ X, X = w1.alloc (.cells #[.int .i64 lo', .int .i64 hi'] 43) := ⟨_, rfl⟩
    rw [← hX] at S1 I2 HB ⊢
    clear hX hk
    have c0 := I2.c0; have c1 := S1.c0; have c2 := S1.c1
    go_wp2_with fail
    refine Calls.mono (HS.out _) ?_
    rintro e w2 ⟨rfl, hb2⟩
    have HB2 := Lib.hid (HB.out.trans (hb2.mono HB.out.size))
    clear hb2 c0 c1 c2 S1 I2
    go_wp2_with fail
    go_ret
    exact ⟨rfl, HB2.out⟩
set_option maxRecDepth 100000 in
set_option maxHeartbeats 8000000 in
theorem phFind_ok (k q : Int) (hk : -100001 ≤ k ∧ k ≤ 100001) (hq : 0 ≤ q ∧ q ≤ 3) (w : World) (hT : SinT w) : Calls Tryz.prog 32 #[.int .i64 k, .int .i64 q] w fun e w' => e = .returned (.agg #[.int .i64 (phF k q).1, .int .i64 (phF k q).2]) ∧ Below w.heap.size w w' := by
  obtain ⟨k1, k2⟩ := hk
  obtain ⟨q1, q2⟩ := hq
  have hin : ∀ x, 977949455 + 2551442878 * k + 637860719 * q - 172800000 ≤ x → x ≤ 977949455 + 2551442878 * k + 637860719 * q + 172800000 → instOk x = true := fun x h1 h2 => by unfold instOk dayOk; exact decide_eq_true (by omega)
  have N := Lib.hid (fun W b (hT : SinT W) (hb : IntBox W b q) => narrow_ok 51 #[.pointer (some ⟨b, 0, none⟩)] enP (phSd q) (977949455 + 2551442878 * k + 637860719 * q - 172800000) (977949455 + 2551442878 * k + 637860719 * q + 172800000) 600000 W (phSide_ok q ⟨q1, q2⟩ _ _ b W hT hin hb) (by omega) (by omega) (by omega) (by omega) (by omega))
  have eF : phF k q = nrwF (phSd q) 600000 64 (977949455 + 2551442878 * k + 637860719 * q - 172800000) (977949455 + 2551442878 * k + 637860719 * q + 172800000) := rfl
  rw [← eF] at N
  clear eF hin
  generalize (phF k q).1 = r1 at *
  generalize (phF k q).2 = r2 at *
  obtain ⟨bo, hbo⟩ : ∃ bo, bo = decide (r2 - r1 ≤ 600000) := ⟨_, rfl⟩
  rw [← hbo] at N
  have HT := Lib.hid hT
  have B1 := IntBox.new w q
  obtain ⟨b, hb⟩ : ∃ b, b = w.heap.size := ⟨_, rfl⟩
  have e1 : (w.alloc (.cells #[.int .i64 q] 3)).heap.size = b + 1 := by simp [hb]
  have B2 := SpBox.new (w.alloc (.cells #[.int .i64 q] 3)) 0 0
  rw [e1] at B2
  rw [← hb] at B1
  have B1' := Lib.hid (B1.alloc (.cells #[.int .i64 0, .int .i64 0] 43))
  have B2' := Lib.hid B2
  have BW := Lib.hid (show Below w.heap.size w ((w.alloc (.cells #[.int .i64 q] 3)).alloc (.cells #[.int .i64 0, .int .i64 0] 43)) from (by repeat' (first | (with_reducible refine below_drewN ?_ _) | go_grown)))
  clear hbo B1 B2 e1 hT
  go_enter Tryz.func32, Tryz.ntmps32
  go_upto_region 1 with fail
  rw [← hb]
  have HBB := Lib.hid hb
  clear hb
  obtain ⟨X, hX⟩ : ∃ X, X = ((w.alloc (.cells #[.int .i64 q] 3)).alloc (.cells #[.int .i64 0, .int .i64 0] 43)) := ⟨_, rfl⟩
  rw [← hX] at B1' B2' BW ⊢
  clear hX
  have c0 := B1'.out.c0
  go_wp2_with fail
  refine Calls.mono (N.out _ _ (HT.out.below BW.out) B1'.out) ?_
  rintro e w1 ⟨rfl, hb1⟩
  have V := BW.out.trans (hb1.mono BW.out.size)
  have HB := Lib.hid (V.alloc V.size (.cells #[.int .i64 r1, .int .i64 r2] 43))
  have S2 := Lib.hid ((B2'.out.below hb1).alloc (.cells #[.int .i64 r1, .int .i64 r2] 43))
  have S3 := Lib.hid (SpBox.new w1 r1 r2)
  obtain ⟨kk, hkk⟩ : ∃ k, k = w1.heap.size := ⟨_, rfl⟩
  have hne : b + 1 ≠ kk := by have := (B2'.out.below hb1).lt; omega
  rw [← hkk] at S3
  clear c0 hb1 V B1' B2' BW
  go_upto_region 4 with fail
  rw [← hkk]
  obtain ⟨Y, hY⟩ : ∃ Y, Y = w1.alloc (.cells #[.int .i64 r1, .int .i64 r2] 43) := ⟨_, rfl⟩
  rw [← hY] at S2 S3 HB ⊢
  clear hY hkk
  have u0 := S3.out.c0; have u1 := S3.out.c1
  have z0 := S2.out.c0; have z1 := S2.out.c1; have zf0 := S2.out.free 0; have zf1 := S2.out.free 1; have zl := S2.out.lt
  go_wp2_with fail
  refine bodyPost_ret (v := .agg #[.int .i64 r1, .int .i64 r2]) ?_ rfl ⟨rfl, ?_⟩
  · simp [results, Tryz.results32, go_sem, *]
  · have hB := HBB.out
    refine Below.setCell (Below.setCell HB.out ?_ _) ?_ _
    all_goals (first | (simp only [World.size_setCell]; omega) | (dsimp only; omega))
end Go.Proofs.YtdifeoahaegjbaaGreatDoor
