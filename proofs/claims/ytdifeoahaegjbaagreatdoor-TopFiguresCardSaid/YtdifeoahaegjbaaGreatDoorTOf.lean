/- frac.Of at any fraction that it reduces to small numbers; Mul, Add by what Of makes of their products. -/
import Derived.Test.YtdifeoahaegjbaaGreatDoorFracs
namespace Go.Proofs.YtdifeoahaegjbaaGreatDoor
open Go.RowKit
set_option linter.unusedSimpArgs false
set_option linter.unusedVariables false

set_option maxRecDepth 100000 in
set_option maxHeartbeats 4000000 in
theorem of_gen (n d r : Int) (a b g : Nat) (w : World) (h0 : -1000000000000000000 ≤ n ∧ n ≤ 1000000000000000000) (hd : 1 ≤ d ∧ d ≤ 1000000000000000000) (hg : Nat.gcd n.natAbs d.natAbs = g) (ha : n.natAbs = a * g) (hb : d.natAbs = b * g) (ha1 : a ≤ 2147483647) (hb1 : b ≤ 2147483647) (hr : r = if n < 0 then -(a : Int) else a) :
    Calls Tryz.prog 57 #[.int .i64 n, .int .i64 d] w fun e w' => e = .returned (.tuple #[.agg #[.int .i64 r, .int .i64 b], .int .i64 0]) ∧ Below w.heap.size w w' := by
  obtain ⟨x, hx⟩ : ∃ x : Nat, x = n.natAbs := ⟨_, rfl⟩
  obtain ⟨y, hy⟩ : ∃ y : Nat, y = d.natAbs := ⟨_, rfl⟩
  have HSX := Lib.hid (fun W => show Calls Tryz.prog 78 #[.int .i64 n] W fun e w' => e = .returned (.int .u64 x) ∧ W = w' by rw [hx]; exact fsize_ok n W h0.1 h0.2)
  have HSY := Lib.hid (fun W => show Calls Tryz.prog 78 #[.int .i64 d] W fun e w' => e = .returned (.int .u64 y) ∧ W = w' by rw [hy]; exact fsize_ok d W (by omega) hd.2)
  rw [← hx] at ha hg; rw [← hy] at hb hg
  have hxb : x ≤ 1000000000000000000 := by omega
  have hyb : 1 ≤ y ∧ y ≤ 1000000000000000000 := by omega
  have hg1 : 1 ≤ g := by
    rcases Nat.eq_zero_or_pos g with e | e
    · rw [e] at hb; omega
    · exact e
  have q1 : ((x : Int)).tdiv (g : Int) = a := by rw [Int.tdiv_eq_ediv_of_nonneg (by omega), ha]; rw [Int.natCast_mul]; exact Int.mul_ediv_cancel _ (by omega)
  have q2 : ((y : Int)).tdiv (g : Int) = b := by rw [Int.tdiv_eq_ediv_of_nonneg (by omega), hb]; rw [Int.natCast_mul]; exact Int.mul_ediv_cancel _ (by omega)
  have HQ1 := Lib.hid q1; have HQ2 := Lib.hid q2; have HG := Lib.hid hg; have HG1 := Lib.hid hg1; have HXB := Lib.hid hxb; have HYB := Lib.hid hyb
  have HR := Lib.hid hr; have HA1 := Lib.hid ha1; have HB1 := Lib.hid hb1; have HD := Lib.hid hd
  have d0 : (d == 0) = false := by simp; omega
  have d00 : ¬ d = 0 := by omega
  have d1 : decide (d < 0) = false := decide_eq_false (by omega)
  clear hx hy ha hb hg hxb hyb hg1 q1 q2 hr ha1 hb1 h0 hd
  go_enter Tryz.func57, Tryz.ntmps57
  go_wp2_with fail
  refine Calls.mono (HSX.out _) ?_
  rintro e _ ⟨rfl, rfl⟩
  go_wp2_with fail
  refine Calls.mono (HSY.out _) ?_
  rintro e _ ⟨rfl, rfl⟩
  go_wp2_with fail
  have B0 := Lib.hid (FrBox.new w 0 0)
  have hb0 := Lib.hid ((Below.refl w.heap.size w).alloc (Nat.le_refl _) (.cells #[.int .i64 0, .int .i64 0] 30))
  go_loopw [8, 9] (fun u v wv => ∃ p q : Nat, u = .int .u64 p ∧ v = .int .u64 q ∧ p ≤ 1000000000000000000 ∧ q ≤ 1000000000000000000 ∧ Hid (Nat.gcd p q = g) ∧ FrBox wv w.heap.size 0 0 ∧ Below w.heap.size w wv) (fun _ v _ => (intOf v).toNat)
  case atStart => exact ⟨x, y, rfl, rfl, HXB.out, HYB.out.2, HG, B0.out, hb0.out⟩
  case round =>
    clear B0 hb0
    obtain ⟨p, q, rfl, rfl, hp, hq, hpq, hB, hb⟩ := hrel
    have HB := Lib.hid hB; have Hb := Lib.hid hb
    clear hB hb
    by_cases h : q = 0
    · subst h
      obtain rfl : p = g := by have := hpq.out; rwa [Nat.gcd_zero_right] at this
      have g0 : ((p : Int) == 0) = false := by have := HG1.out; simp; omega
      have g00 : ¬ (p : Int) = 0 := by have := HG1.out; omega
      have q1 := HQ1.out; have q2 := HQ2.out
      have t1 : decide ((2147483647 : Int) < (a : Int)) = false := decide_eq_false (by have := HA1.out; omega)
      have t2 : decide ((2147483647 : Int) < (b : Int)) = false := decide_eq_false (by have := HB1.out; omega)
      have wa : IntKind.i64.wrap (a : Int) = a := IntWalk.i64_in _ (by have := HA1.out; omega)
      have wb : IntKind.i64.wrap (b : Int) = b := IntWalk.i64_in _ (by have := HB1.out; omega)
      have wc : IntKind.u64.wrap (a : Int) = a := IntWalk.u64_in _ (by have := HA1.out; omega)
      have wd : IntKind.u64.wrap (b : Int) = b := IntWalk.u64_in _ (by have := HB1.out; omega)
      go_wp2_with fail
      go_quiet (fail)
      obtain ⟨X, hX⟩ : ∃ X, X = wr.drewN nq := ⟨_, rfl⟩
      have hBX := Lib.hid (show FrBox X w.heap.size 0 0 by rw [hX]; exact HB.out.below (below_drewN (Below.refl _ _) nq))
      have hbX := Lib.hid (show Below w.heap.size w X by rw [hX]; exact below_drewN Hb.out _)
      rw [← hX]
      clear hX HB Hb q1 q2 g0 g00
      have hBx := hBX; have hbx := hbX
      clear hBX hbX
      have hsz := hbx.out.size
      have x0 := hBx.out.c0; have x1 := hBx.out.c1; have xl := hBx.out.lt; have xf0 := hBx.out.free 0; have xf1 := hBx.out.free 1
      have a1 : (a : Int) ≤ 2147483647 := by have := HA1.out; omega
      have b1 : (b : Int) ≤ 2147483647 := by have := HB1.out; omega
      by_cases hn : n < 0
      · have hneg : -(a : Int) = r := by have := HR.out; rw [if_pos hn] at this; omega
        go_wp2_with fail
        have hbl := hbx.out
        refine bodyPost_ret (v := .tuple #[.agg #[.int .i64 r, .int .i64 b], .int .i64 0]) ?_ rfl ⟨rfl, by go_grown⟩
        simp [results, Tryz.results57, go_sem, *]
      · have hpos : (a : Int) = r := by have := HR.out; rw [if_neg hn] at this; omega
        go_wp2_with fail
        have hbl := hbx.out
        refine bodyPost_ret (v := .tuple #[.agg #[.int .i64 r, .int .i64 b], .int .i64 0]) ?_ rfl ⟨rfl, by go_grown⟩
        simp [results, Tryz.results57, go_sem, *]
    · have q0 : ((q : Int) != 0) = true := by simp; omega
      have q1 : ((q : Int) == 0) = false := by simp; omega
      have hm : (p : Int).tmod (q : Int) = ((p % q : Nat) : Int) := by rw [Int.tmod_eq_emod_of_nonneg (by omega)]; rfl
      have hl := Nat.mod_lt p (show 0 < q by omega)
      have hs : Hid (Nat.gcd q (p % q) = g) := Lib.hid (by rw [← hpq.out, Nat.gcd_comm q, ← Nat.gcd_rec, Nat.gcd_comm])
      have hle := Nat.mod_le p q
      have HM := Lib.hid hm
      clear hm
      go_wp2_with fail
      go_quiet (fail)
      go_wp2_with fail
      refine ⟨⟨q, p % q, rfl, by rw [Int.natCast_emod], hq, by omega, hs, HB.out.below (below_drewN (Below.refl _ _) _), below_drewN Hb.out _⟩, ?_⟩
      have e1 : ((p : Int) % (q : Int)) = ((p % q : Nat) : Int) := rfl
      show ((p : Int) % (q : Int)).toNat < ((q : Nat) : Int).toNat
      rw [e1]
      omega
end Go.Proofs.YtdifeoahaegjbaaGreatDoor
