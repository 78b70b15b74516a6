/- series.Side, last, Narrow. -/
import Derived.Test.YtlldmhnkaopjhaaDoorNarP
import Derived.Test.YtlldmhnkaopjhaaDoorWhole
import Derived.Laws.EntriesVeiled
import Derived.Shelf.Abstract
namespace Go.Proofs.YtlldmhnkaopjhaaDoor
open Go.RowKit
set_option linter.unusedSimpArgs false
set_option linter.unusedVariables false
set_option maxRecDepth 100000 in
set_option maxHeartbeats 4000000 in
theorem Side_ok (lo hi tg : Int) (w : World) (h1 : 0 ≤ lo) (h2 : lo < 1000000000) (h3 : lo ≤ hi) (h4 : hi ≤ 400000000000) (h5 : 0 ≤ tg) (h6 : tg < 1000000000) :
    Calls Tryd.prog 47 #[.agg #[.int .i64 lo, .int .i64 hi], .int .i64 tg] w fun e w' => e = .returned (.int .i64 (sideF lo hi tg)) ∧ Below w.heap.size w w' := by
  have M := Lib.hid (fun w => mod_all (lo - tg) 1000000000 w (by omega) (by omega) (by omega) (by omega))
  unfold sideF
  have b0 : 0 ≤ (lo - tg) % 1000000000 := by omega
  have b1 : (lo - tg) % 1000000000 < 1000000000 := by omega
  generalize (lo - tg) % 1000000000 = b at *
  obtain ⟨wd, hwd⟩ : ∃ x, x = hi - lo := ⟨_, rfl⟩
  have w0 : 0 ≤ wd := by omega
  have w1 : wd ≤ 400000000000 := by omega
  have W0 := Lib.hid hwd
  obtain ⟨R, hR⟩ : ∃ R, R = (if b = 0 ∨ 1000000000 ≤ b + (hi - lo) then (0 : Int) else if b ≤ 500000000 ∧ 500000000 ≤ b + (hi - lo) then 2 else if b < 500000000 then 1 else -1) := ⟨_, rfl⟩
  rw [← hR]
  have HR := Lib.hid hR
  clear hR hwd
  go_enter Tryd.func47, Tryd.ntmps47
  go_wp2_with fail
  refine Calls.mono (M.out _) ?_
  rintro e w1' ⟨rfl, hb⟩
  have HB := Lib.hid (((Below.refl w.heap.size w).alloc (Nat.le_refl _) (.cells #[.int .i64 lo, .int .i64 hi] 24)).trans (hb.mono (by simp)))
  clear hb
  have hr := HR.out
  by_cases c1 : b = 0
  · rw [if_pos (.inl c1)] at hr
    subst c1
    subst hr
    go_wp2_with fail
    go_ret
    exact ⟨rfl, HB.out⟩
  · by_cases c2 : 1000000000 ≤ b + (hi - lo)
    · rw [if_pos (.inr c2)] at hr
      subst hr
      go_wp2_with fail
      go_ret
      exact ⟨rfl, HB.out⟩
    · rw [if_neg (by rintro (h | h); exact c1 h; exact c2 h)] at hr
      have d1 : (b == 0) = false := by simp [c1]
      have d2 : decide (1000000000 ≤ b + (hi - lo)) = false := decide_eq_false c2
      by_cases c3 : b ≤ 500000000
      · by_cases c4 : 500000000 ≤ b + (hi - lo)
        · rw [if_pos ⟨c3, c4⟩] at hr
          subst hr
          go_wp2_with fail
          go_ret
          exact ⟨rfl, HB.out⟩
        · rw [if_neg (by rintro ⟨h, h'⟩; exact c4 h'), if_pos (by omega)] at hr
          subst hr
          have c5 : b < 500000000 := by omega
          go_wp2_with fail
          go_ret
          exact ⟨rfl, HB.out⟩
      · rw [if_neg (by rintro ⟨h, h'⟩; exact c3 h), if_neg (by omega)] at hr
        subst hr
        have c5 : ¬ b < 500000000 := by omega
        go_wp2_with fail
        go_ret
        exact ⟨rfl, HB.out⟩
/-- What a function value is asked: at each later world and each number between two bounds it hands back a value, and leaves what lay. -/
def FnAt (g : Nat) (lb : Array Value) (p : Int → Value) (lo hi : Int) (w : World) : Prop :=
  ∀ (W : World) (x : Int), lo ≤ x → x ≤ hi → Below w.heap.size w W → Calls Tryd.prog g (#[.int .i64 x] ++ lb) W fun e w' => e = .returned (p x) ∧ Below W.heap.size W w'
theorem FnAt.later {g : Nat} {lb : Array Value} {p : Int → Value} {lo hi lo' hi' : Int} {w W : World} (h : FnAt g lb p lo hi w) (h1 : lo ≤ lo') (h2 : hi' ≤ hi) (hb : Below w.heap.size w W) : FnAt g lb p lo' hi' W :=
  fun V x a b c => h V x (by omega) (by omega) (hb.trans (c.mono hb.size))
set_option maxRecDepth 100000 in
set_option maxHeartbeats 8000000 in
theorem last_ok (g : Nat) (lb : Array Value) (eg : ∀ args w, (callFunc g args).run Tryd.prog w = .ok (.enter g args) w) (h : Int → Bool) (lo hi : Int) (w : World) (hs : FnAt g lb (fun x => .bool (h x)) lo hi w) (b1 : -1000000000000000000 ≤ lo) (b2 : lo ≤ hi) (b3 : hi ≤ 1000000000000000000) :
    Calls Tryd.prog 64 #[.int .i64 lo, .int .i64 hi, .func (.func g) #[] lb] w fun e w' => e = .returned (.int .i64 (lastF h 64 lo hi)) ∧ Below w.heap.size w w' := by
  have HS := Lib.hid hs
  obtain ⟨R, hR⟩ : ∃ R, R = lastF h 64 lo hi := ⟨_, rfl⟩
  rw [← hR]
  have HR := Lib.hid hR
  clear hR hs
  go_enter Tryd.func64, Tryd.ntmps64
  go_wp2_with fail
  go_loopw [0, 1] (fun s0 s1 wr => ∃ (K : Nat) (l u : Int), s0 = .int .i64 l ∧ s1 = .int .i64 u ∧ Hid (R = lastF h K l u) ∧ Hid (u - l ≤ ((2 ^ K : Nat) : Int)) ∧ lo ≤ l ∧ l ≤ u ∧ u ≤ hi ∧ Below w.heap.size w wr) (fun s0 s1 _ => (intOf s1 - intOf s0).toNat)
  case atStart => exact ⟨64, lo, hi, rfl, rfl, HR, Lib.hid (by have : (10000000000000000000 : Int) ≤ ((2 ^ 64 : Nat) : Int) := by decide
                                                               omega), Int.le_refl _, b2, Int.le_refl _, Below.refl _ _⟩
  case round =>
    obtain ⟨K, l, u, rfl, rfl, hq, hk, a1, a2, a3, hbl⟩ := hrel
    by_cases c : 1 < u - l
    · obtain ⟨K', rfl⟩ : ∃ K', K = K' + 1 := by
        rcases K with _ | K'
        · have := hk.out; simp at this; omega
        · exact ⟨K', rfl⟩
      have hq' := hq.out
      have hk' := hk.out
      rw [lastF_step, if_pos c] at hq'
      have e2 : ((2 ^ (K' + 1) : Nat) : Int) = 2 * ((2 ^ K' : Nat) : Int) := by rw [Nat.pow_succ]; omega
      rw [e2] at hk'
      have hf := half_of (a := u - l) (by omega)
      rw [hf] at hq'
      obtain ⟨m, hm⟩ : ∃ m, m = l + (u - l) / 2 := ⟨_, rfl⟩
      rw [← hm] at hq'
      have m1 : l < m := by omega
      have m2 : m < u := by omega
      have k1 : Hid (u - m ≤ ((2 ^ K' : Nat) : Int)) := Lib.hid (by omega)
      have k2 : Hid (m - l ≤ ((2 ^ K' : Nat) : Int)) := Lib.hid (by omega)
      have HM := Lib.hid hm
      have HQ := Lib.hid hq'
      have cS : Calls Tryd.prog g (#[.int .i64 m] ++ lb) wr fun e w' => e = .returned (.bool (h m)) ∧ Below wr.heap.size wr w' := HS.out wr m (by omega) (by omega) hbl
      rw [hm] at cS
      have HBL := Lib.hid hbl
      have M1 := Lib.hid m1; have M2 := Lib.hid m2
      clear m1 m2 hm hf hq hk hk' hq' e2 hbl
      have em : h (l + (u - l) / 2) = h m := by rw [HM.out]
      by_cases q : h m = true
      · rw [em, q] at cS
        have HQ2 := Lib.hid (show R = lastF h K' m u by have := HQ.out; rwa [if_pos q] at this)
        clear HQ q em
        go_wp2_with (go_at_fn g; refine cS.mono ?_; rintro e W' ⟨rfl, hbc⟩)
        have HB2 := Lib.hid (HBL.out.trans (hbc.mono HBL.out.size))
        clear hbc
        go_roundw
        case rel => exact ⟨K', m, u, by rw [HM.out], rfl, HQ2, k1, by have := M1.out; omega, by have := M2.out; omega, a3, HB2.out⟩
        case measure => have := M1.out; have := M2.out; have := HM.out; simp [intOf]; omega
      · have q' : h m = false := by simpa using q
        rw [em, q'] at cS
        have HQ2 := Lib.hid (show R = lastF h K' l m by have := HQ.out; rwa [if_neg q] at this)
        clear HQ q q' em
        go_wp2_with (go_at_fn g; refine cS.mono ?_; rintro e W' ⟨rfl, hbc⟩)
        have HB2 := Lib.hid (HBL.out.trans (hbc.mono HBL.out.size))
        clear hbc
        go_roundw
        case rel => exact ⟨K', l, m, rfl, by rw [HM.out], HQ2, k2, a1, by have := M1.out; omega, by have := M2.out; omega, HB2.out⟩
        case measure => have := M1.out; have := M2.out; have := HM.out; simp [intOf]; omega
    · have hq' := hq.out
      rw [lastF_end h K l u (by omega)] at hq'
      subst hq'
      have HB := Lib.hid hbl
      clear hbl hq hk
      go_wp2_with fail
      go_ret
      exact ⟨rfl, HB.out⟩
end Go.Proofs.YtlldmhnkaopjhaaDoor
