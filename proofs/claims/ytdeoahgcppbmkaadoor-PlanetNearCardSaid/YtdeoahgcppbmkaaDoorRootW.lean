/- math.Sqrt, whole.Root, trig.Root at this program. -/
import Derived.Test.YtdeoahgcppbmkaaDoorFloat
import Derived.Test.YtdeoahgcppbmkaaDoorSinW
import Derived.Test.YtdeoahgcppbmkaaDoorIval
import Derived.Test.YtdeoahgcppbmkaaDoorBox
namespace Go.Proofs.YtdeoahgcppbmkaaDoor
open Go.RowKit
set_option linter.unusedSimpArgs false
set_option linter.unusedVariables false
theorem fsqrt_run {x : Nat} (h : Ieee.double.sqrt x = some (fsqrt x)) (w : World) : (callFunc 128 #[.float .f64 x]).run Tryd.prog w = .ok (.value (.float .f64 (fsqrt x))) w := by
  rw [run_callFunc_extern Tryd.func128 (by kernel_rfl) (by kernel_rfl) (by kernel_rfl) (e := Extern.MathSqrt.sqrt) (by kernel_rfl)]
  have h' : FloatKind.f64.format.sqrt x = some (fsqrt x) := h
  have e : Extern.MathSqrt.sqrt #[.float .f64 x] = pure (.float .f64 (fsqrt x)) := by
    show (match FloatKind.f64.format.sqrt x with
      | some r => (pure (Value.float .f64 r) : Sem Value)
      | none => do pure (Value.float .f64 (← choose (.nanBits .f64 x x)))) = _
    rw [h']
  rw [e]
  rfl
theorem Sqrt_ok {x : Nat} (h : Ieee.double.sqrt x = some (fsqrt x)) (w : World) : Calls Tryd.prog 105 #[.float .f64 x] w fun e w' => e = .returned (.float .f64 (fsqrt x)) ∧ w' = w := by
  have h2 := fsqrt_run h
  clear h
  generalize fsqrt x = r at *
  go_enter Tryd.func105, Tryd.ntmps105
  go_wp2
  go_ret
  exact ⟨rfl, rfl⟩
theorem root_start {n : Int} (h0 : 0 ≤ n) (h1 : n ≤ 1000000000000000000) : Ieee.double.sqrt (floatOfInt .f64 n) = some (fsqrt (floatOfInt .f64 n)) ∧ ∃ s : Int, floatToIntVal .f64 (fsqrt (floatOfInt .f64 n)) .i64 = some s ∧ 0 ≤ s ∧ s ≤ 4000000000 := by
  by_cases hz : n = 0
  · subst hz
    have e : floatOfInt .f64 0 = 0 := by decide
    rw [e, fsqrt_zero.2]
    exact ⟨fsqrt_zero.1, 0, by decide, by omega, by omega⟩
  · have i0 : ((1 : Int) : Rat) = 1 := rfl
    have l : (1 : Rat) ≤ (n : Rat) := by rw [← i0]; exact Rat.intCast_le_intCast.2 (by omega)
    have i1 : ((1000000000000000000 : Int) : Rat) = 1000000000000000000 := rfl
    have u : (n : Rat) ≤ 1000000000000000000 := by rw [← i1]; exact Rat.intCast_le_intCast.2 h1
    obtain ⟨f, nr⟩ := fint_near n 1000000000000000000 (mid_of (by grind) (by grind)) (by grind) u
    unfold Near at nr
    have x0 : 0 < fv (floatOfInt .f64 n) := by
      by_cases c : n < 9007199254740992
      · rw [(fint_ok n (by omega) c).2]; grind
      · have i2 : ((9007199254740992 : Int) : Rat) = 9007199254740992 := rfl
        have : (9007199254740992 : Rat) ≤ (n : Rat) := by rw [← i2]; exact Rat.intCast_le_intCast.2 (by omega)
        grind
    obtain ⟨v, so, hs, fs, ns, s0⟩ := fsqrt_ok f x0 2000000000 (mid_of (by grind) (by grind)) (by grind) (by grind)
    refine ⟨hs, ?_⟩
    obtain ⟨k, tk, tp, -⟩ := toInt_ok fs
    obtain ⟨k1, k2, k3⟩ := tp s0
    unfold Near at ns
    have vM : v ≤ 2000000001 := by
      apply Rat.not_lt.1
      intro hl
      have p1 := so.pos; have p3 := so.hi
      have a1 := Rat.mul_lt_mul_of_pos_right hl p1
      grind
    have kb : k ≤ 4000000000 := by
      apply int_le_of_rat
      have i3 : ((4000000000 : Int) : Rat) = 4000000000 := rfl
      rw [i3]; grind
    refine ⟨k, ?_, k3, kb⟩
    exact i64_val tk (by omega) (by omega)
theorem sq_lt_sq {s t : Int} (ht : 0 ≤ t) (h : s * s < t * t) : s < t := by
  apply Int.not_le.1
  intro c
  have := Int.mul_self_le_mul_self ht c
  omega
theorem sq_le_iff {s q n : Int} (hs : 0 < s) (hq : q = n / s) : s ≤ q ↔ s * s ≤ n := by rw [hq]; exact Int.le_ediv_iff_mul_le hs
set_option maxRecDepth 100000 in
set_option maxHeartbeats 8000000 in
theorem wroot_ok (n r : Int) (w : World) (h0 : 0 ≤ n) (h1 : n ≤ 1000000000000000000) (r0 : 0 ≤ r) (r1 : r * r ≤ n) (r2 : n < (r + 1) * (r + 1)) : Calls Tryd.prog 94 #[.int .i64 n] w fun e w' => e = .returned (.tuple #[.int .i64 r, .int .i64 0]) ∧ w' = w := by
  obtain ⟨hs, s0, hc, s1, s2⟩ := root_start h0 h1
  have S := Lib.hid (fun w => Sqrt_ok hs w)
  have cv : ∀ w : World, (convert 74 3 (.float .f64 (fsqrt (floatOfInt .f64 n)))).run Tryd.prog w = .ok (.int .i64 s0) w := fun w => run_convert_float_int w 74 3 .f64 .i64 _ s0 (by kernel_rfl) Tryd.underlying3 hc
  generalize fsqrt (floatOfInt .f64 n) = y at *
  have HN := Lib.hid (And.intro h0 h1)
  have HR := Lib.hid (And.intro r0 (And.intro r1 r2))
  have HS := Lib.hid (And.intro s1 s2)
  have hn : ¬ n < 0 := by omega
  clear hs hc h0 h1 r0 r1 r2 s1 s2
  go_enter Tryd.func94, Tryd.ntmps94
  go_wp2_with fail
  refine Calls.mono (S.out _) ?_
  rintro e w1 ⟨rfl, hw1⟩
  rw [hw1]
  clear hw1
  go_wp2_with fail
  go_loopw [4] (fun v wr => ∃ s : Int, v = .int .i64 s ∧ Hid (0 ≤ s ∧ s ≤ 4000000000) ∧ wr = w) (fun v _ => (intOf v).toNat)
  case atStart => exact ⟨s0, rfl, HS, rfl⟩
  case round =>
    clear HS cv S
    obtain ⟨s, rfl, hs, hw⟩ := hrel
    rw [hw]
    clear hw
    obtain ⟨a1, a2⟩ := hs.out
    by_cases c : 0 < s
    · obtain ⟨q, hq⟩ : ∃ q, q = n / s := ⟨_, rfl⟩
      have sq := sq_le_iff c hq
      have q1 : 0 ≤ q := by rw [hq]; exact Int.ediv_nonneg HN.out.1 a1
      have q2 : q ≤ 1000000000000000000 := by rw [hq]; exact Int.le_trans (Int.ediv_le_self _ HN.out.1) HN.out.2
      have eT : n.tdiv s = q := by rw [hq, Int.tdiv_eq_ediv_of_nonneg HN.out.1]
      have ew : IntKind.i64.wrap q = q := IntWalk.i64_in _ (by omega)
      have s0' : s ≠ 0 := by omega
      have HQ := Lib.hid sq
      have A := Lib.hid (And.intro a1 a2)
      have C := Lib.hid c
      clear sq hq q1 q2 a1 a2 hs
      by_cases d : q < s
      · have D := Lib.hid d
        have W1 := Lib.hid (show wrap64 (s - 1) = s - 1 from IntWalk.wrap64_in _ (by have := A.out; omega))
        go_wp2_with fail
        go_roundw
        case rel => exact ⟨s - 1, by rw [W1.out], Lib.hid (by have := A.out; have := C.out; omega), trivial⟩
        case measure =>
          have := C.out
          have := A.out
          have := W1.out
          simp [intOf]
          omega
      · have D := Lib.hid d
        have LE := Lib.hid (show 0 ≤ s ∧ s ≤ 4000000000 ∧ s * s ≤ n by have := A.out; have := C.out; have := HQ.out; have := D.out; omega)
        clear HQ A C D
        go_wp2_with fail
        go_loopw [4] (fun v wr => ∃ s : Int, v = .int .i64 s ∧ Hid (0 ≤ s ∧ s ≤ 4000000000 ∧ s * s ≤ n) ∧ wr = w) (fun v _ => (5000000000 - intOf v).toNat)
        case atStart => exact ⟨s, rfl, LE, rfl⟩
        case round =>
          clear LE
          clear s0' eT ew d
          obtain ⟨s, rfl, hs, hw⟩ := hrel
          rw [hw]
          clear hw
          obtain ⟨a1, a2, a3⟩ := hs.out
          have t0 : s + 1 ≠ 0 := by omega
          obtain ⟨q, hq⟩ : ∃ q, q = n / (s + 1) := ⟨_, rfl⟩
          have sq := sq_le_iff (show 0 < s + 1 by omega) hq
          have q1 : 0 ≤ q := by rw [hq]; exact Int.ediv_nonneg HN.out.1 (by omega)
          have q2 : q ≤ 1000000000000000000 := by rw [hq]; exact Int.le_trans (Int.ediv_le_self _ HN.out.1) HN.out.2
          have eT : n.tdiv (s + 1) = q := by rw [hq, Int.tdiv_eq_ediv_of_nonneg HN.out.1]
          have ew : IntKind.i64.wrap q = q := IntWalk.i64_in _ (by omega)
          have ew2 : IntKind.i64.wrap (s + 1) = s + 1 := IntWalk.i64_in _ (by omega)
          have HQ := Lib.hid sq
          have A := Lib.hid (And.intro a1 (And.intro a2 a3))
          clear sq hq q1 q2 a1 a2 a3 hs
          by_cases d : s + 1 ≤ q
          · have D := Lib.hid d
            go_wp2_with fail
            go_roundw
            case rel => exact ⟨s + 1, by go_num, Lib.hid (by
              obtain ⟨r0, r1, r2⟩ := HR.out
              have p1 := HQ.out.1 D.out
              have p2 := sq_lt_sq (show 0 ≤ r + 1 by omega) (Int.lt_of_le_of_lt p1 r2)
              have p3 := sq_lt_sq (s := r) (show (0 : Int) ≤ 1000000001 by omega) (by have := HN.out.2; omega)
              have := A.out
              omega), trivial⟩
            case measure => have := A.out; simp [intOf]; omega
          · have D := Lib.hid d
            have er : Hid (s = r) := Lib.hid (by
              obtain ⟨r0, r1, r2⟩ := HR.out
              obtain ⟨b1, b2, b3⟩ := A.out
              have p1 : ¬ (s + 1) * (s + 1) ≤ n := fun h => D.out (HQ.out.2 h)
              have p2 := sq_lt_sq (s := s) (show 0 ≤ r + 1 by omega) (by omega)
              have p3 := sq_lt_sq (s := r) (show 0 ≤ s + 1 by omega) (by omega)
              omega)
            go_wp2_with fail
            refine bodyPost_ret (v := .tuple #[.int .i64 r, .int .i64 0]) ?_ rfl ⟨rfl, rfl⟩
            have E := er.out
            simp [results, Tryd.results94, go_sem, E]
    · have s00 : s = 0 := by omega
      subst s00
      have LE := Lib.hid (show (0 : Int) ≤ 0 ∧ (0 : Int) ≤ 4000000000 ∧ (0 : Int) * 0 ≤ n by have := HN.out; omega)
      clear hs a1 a2 c
      go_wp2_with fail
      go_loopw [4] (fun v wr => ∃ s : Int, v = .int .i64 s ∧ Hid (0 ≤ s ∧ s ≤ 4000000000 ∧ s * s ≤ n) ∧ wr = w) (fun v _ => (5000000000 - intOf v).toNat)
      case atStart => exact ⟨0, rfl, LE, rfl⟩
      case round =>
        clear LE
        obtain ⟨s, rfl, hs, hw⟩ := hrel
        rw [hw]
        clear hw
        obtain ⟨a1, a2, a3⟩ := hs.out
        have t0 : s + 1 ≠ 0 := by omega
        obtain ⟨q, hq⟩ : ∃ q, q = n / (s + 1) := ⟨_, rfl⟩
        have sq := sq_le_iff (show 0 < s + 1 by omega) hq
        have q1 : 0 ≤ q := by rw [hq]; exact Int.ediv_nonneg HN.out.1 (by omega)
        have q2 : q ≤ 1000000000000000000 := by rw [hq]; exact Int.le_trans (Int.ediv_le_self _ HN.out.1) HN.out.2
        have eT : n.tdiv (s + 1) = q := by rw [hq, Int.tdiv_eq_ediv_of_nonneg HN.out.1]
        have ew : IntKind.i64.wrap q = q := IntWalk.i64_in _ (by omega)
        have ew2 : IntKind.i64.wrap (s + 1) = s + 1 := IntWalk.i64_in _ (by omega)
        have HQ := Lib.hid sq
        have A := Lib.hid (And.intro a1 (And.intro a2 a3))
        clear sq hq q1 q2 a1 a2 a3 hs
        by_cases d : s + 1 ≤ q
        · have D := Lib.hid d
          go_wp2_with fail
          go_roundw
          case rel => exact ⟨s + 1, by go_num, Lib.hid (by
            obtain ⟨r0, r1, r2⟩ := HR.out
            have p1 := HQ.out.1 D.out
            have p2 := sq_lt_sq (show 0 ≤ r + 1 by omega) (Int.lt_of_le_of_lt p1 r2)
            have p3 := sq_lt_sq (s := r) (show (0 : Int) ≤ 1000000001 by omega) (by have := HN.out.2; omega)
            have := A.out
            omega), trivial⟩
          case measure => have := A.out; simp [intOf]; omega
        · have D := Lib.hid d
          have er : Hid (s = r) := Lib.hid (by
            obtain ⟨r0, r1, r2⟩ := HR.out
            obtain ⟨b1, b2, b3⟩ := A.out
            have p1 : ¬ (s + 1) * (s + 1) ≤ n := fun h => D.out (HQ.out.2 h)
            have p2 := sq_lt_sq (s := s) (show 0 ≤ r + 1 by omega) (by omega)
            have p3 := sq_lt_sq (s := r) (show 0 ≤ s + 1 by omega) (by omega)
            omega)
          go_wp2_with fail
          refine bodyPost_ret (v := .tuple #[.int .i64 r, .int .i64 0]) ?_ rfl ⟨rfl, rfl⟩
          have E := er.out
          simp [results, Tryd.results94, go_sem, E]
/-- What the root of a span is. -/
structure RootIs (a b r s : Int) : Prop where
  a0 : 0 ≤ a
  ab : a ≤ b
  b1 : b ≤ 1000000000000000000
  r0 : 0 ≤ r
  r1 : r * r ≤ a
  r2 : a < (r + 1) * (r + 1)
  s0 : 0 ≤ s
  s1 : b ≤ s * s
  s2 : s = 0 ∨ (s - 1) * (s - 1) < b
set_option maxRecDepth 100000 in
set_option maxHeartbeats 4000000 in
theorem troot_ok (a b r s : Int) (h : RootIs a b r s) (w : World) : Calls Tryd.prog 58 #[.agg #[.int .i64 a, .int .i64 b]] w fun e w' => e = .returned (.tuple #[.agg #[.int .i64 r, .int .i64 s], .int .i64 0]) ∧ Below w.heap.size w w' := by
  obtain ⟨a0, ab, b1, r0, r1, r2, s0, s1, s2⟩ := h
  have C := Lib.hid (fun w => check_ok a b w ⟨by omega, ab, by omega⟩)
  have R := Lib.hid (fun w => wroot_ok a r w a0 (by omega) r0 r1 r2)
  -- the floor of the greater root
  obtain ⟨q, hq⟩ : ∃ q, q = if s * s = b then s else s - 1 := ⟨_, rfl⟩
  have hs : s * s = b → q = s := fun h => by rw [hq, if_pos h]
  have hn : s * s ≠ b → q = s - 1 ∧ 0 ≤ s - 1 := fun h => by
    refine ⟨by rw [hq, if_neg h], ?_⟩
    rcases (by omega : s = 0 ∨ 0 < s) with rfl | h2
    · exfalso; apply h; omega
    · omega
  have q0 : 0 ≤ q := by by_cases h : s * s = b
                        · rw [hs h]; exact s0
                        · have := hn h; omega
  have q1 : q * q ≤ b := by
    by_cases h : s * s = b
    · rw [hs h]; omega
    · obtain ⟨e, p⟩ := hn h
      rw [e]
      rcases s2 with rfl | s2 <;> omega
  have q2 : b < (q + 1) * (q + 1) := by
    by_cases h : s * s = b
    · rw [hs h]
      have : (s + 1) * (s + 1) = s * s + 2 * s + 1 := by grind
      omega
    · obtain ⟨e, p⟩ := hn h
      rw [e, show s - 1 + 1 = s by omega]; omega
  have S := Lib.hid (fun w => wroot_ok b q w (by omega) b1 q0 q1 q2)
  have qm : q < 1000000001 := sq_lt_sq (by omega) (by omega)
  obtain ⟨qq, hqq⟩ : ∃ x, x = q * q := ⟨_, rfl⟩
  have wq : wrap64 (q * q) = qq := by
    have l0 := Int.mul_nonneg q0 q0
    rw [hqq]; exact IntWalk.wrap64_in _ (by omega)
  have w1 : wrap64 (q + 1) = q + 1 := IntWalk.wrap64_in _ (by omega)
  have an : ¬ a < 0 := by omega
  have AN := Lib.hid an
  have WQ := Lib.hid wq
  have W1 := Lib.hid w1
  by_cases hd : s * s = b
  · have e := hs hd
    have HD : Hid (¬ qq < b) := Lib.hid (by rw [hqq, e]; omega)
    have HE := Lib.hid e
    clear e hs hn hd hqq hq s1 s2 r1 r2 q1 q2 wq w1 an a0 r0 q0 qm
    have an := AN.out; have wq := WQ.out; have hd := HD.out
    go_enter Tryd.func58, Tryd.ntmps58
    go_wp2_with fail
    refine Calls.mono (C.out _) ?_
    rintro e w1 ⟨rfl, hb⟩
    obtain ⟨hb1, hz1, hc1, hf1⟩ := took (w := w) (by repeat' (first | (with_reducible refine below_drewN ?_ _) | go_grown)) (by first | (simp only [World.size_alloc, World.size_setCell, World.size_drew, size_drewN]; done) | (simp only [World.size_alloc, World.size_setCell, World.size_drew, size_drewN]; rfl) | rfl) hb; clear hb
    have z1 : w.heap.size < w1.heap.size := by omega
    have z1b : w.heap.size + 1 < w1.heap.size := by omega
    go_wp2_with fail
    refine Calls.mono (R.out _) ?_
    rintro e w2 ⟨rfl, hw2⟩
    rw [hw2]
    clear hw2
    go_wp2_with fail
    refine Calls.mono (S.out _) ?_
    rintro e w3 ⟨rfl, hw3⟩
    rw [hw3]
    clear hw3
    go_wp2_with fail
    refine bodyPost_ret (v := .tuple #[.agg #[.int .i64 r, .int .i64 q], .int .i64 0]) ?_ rfl ⟨?_, (by repeat' (first | (with_reducible refine below_drewN ?_ _) | go_grown))⟩
    · simp [results, Tryd.results58, go_sem, *]
    · rw [HE.out]
  · obtain ⟨e, p⟩ := hn hd
    have HD : Hid (qq < b) := Lib.hid (by rw [hqq]; rw [e]; rcases s2 with rfl | s2 <;> omega)
    have HE := Lib.hid e
    clear e hs hn hd hqq hq s1 s2 r1 r2 q1 q2 wq w1 an a0 r0 q0 qm
    have an := AN.out; have wq := WQ.out; have hd := HD.out; have w1 := W1.out
    go_enter Tryd.func58, Tryd.ntmps58
    go_wp2_with fail
    refine Calls.mono (C.out _) ?_
    rintro e w1 ⟨rfl, hb⟩
    obtain ⟨hb1, hz1, hc1, hf1⟩ := took (w := w) (by repeat' (first | (with_reducible refine below_drewN ?_ _) | go_grown)) (by first | (simp only [World.size_alloc, World.size_setCell, World.size_drew, size_drewN]; done) | (simp only [World.size_alloc, World.size_setCell, World.size_drew, size_drewN]; rfl) | rfl) hb; clear hb
    have z1 : w.heap.size < w1.heap.size := by omega
    have z1b : w.heap.size + 1 < w1.heap.size := by omega
    go_wp2_with fail
    refine Calls.mono (R.out _) ?_
    rintro e w2 ⟨rfl, hw2⟩
    rw [hw2]
    clear hw2
    go_wp2_with fail
    refine Calls.mono (S.out _) ?_
    rintro e w3 ⟨rfl, hw3⟩
    rw [hw3]
    clear hw3
    go_wp2_with fail
    refine bodyPost_ret (v := .tuple #[.agg #[.int .i64 r, .int .i64 (q + 1)], .int .i64 0]) ?_ rfl ⟨?_, (by repeat' (first | (with_reducible refine below_drewN ?_ _) | go_grown))⟩
    · simp [results, Tryd.results58, go_sem, *]
    · rw [show q + 1 = s by have := HE.out; omega]
end Go.Proofs.YtdeoahgcppbmkaaDoor
