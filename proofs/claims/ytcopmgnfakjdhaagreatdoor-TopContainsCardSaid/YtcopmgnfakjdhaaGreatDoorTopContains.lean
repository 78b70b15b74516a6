/- TopContains: the sine of the sun's altitude, computed from its longitude alone, meets that of place.Height. -/
import Derived.Test.YtcopmgnfakjdhaaGreatDoorUpP
import Derived.Test.YtcopmgnfakjdhaaGreatDoorReg
import Derived.Test.YtcopmgnfakjdhaaGreatDoorTSite
namespace Go.Proofs.YtcopmgnfakjdhaaGreatDoor
open Go.RowKit
set_option linter.unusedSimpArgs false
set_option linter.unusedVariables false
set_option maxHeartbeats 1000000 in
theorem sinst_ok (t : Int) (w : World) : Calls Tryz.prog 28 #[.int .i64 t] w fun e w' => e = .returned (.int .i64 (t % 604800000000000 - 302400000000000)) ∧ w = w' := by
  have A := Lib.hid (fun w => sat_any t 604800000000000 w (by omega) (by omega))
  have b1 : 0 ≤ t % 604800000000000 := by omega
  have b2 : t % 604800000000000 < 604800000000000 := by omega
  generalize t % 604800000000000 = x at *
  go_enter Tryz.func28, Tryz.ntmps28
  go_wp2_with fail
  refine Calls.mono (A.out _) ?_
  rintro e _ ⟨rfl, rfl⟩
  go_wp2_with fail
  go_ret
  exact ⟨rfl, rfl⟩
theorem sinst_in (t : Int) : instOk (t % 604800000000000 - 302400000000000) = true := by
  unfold instOk dayOk
  exact decide_eq_true (by omega)
set_option maxHeartbeats 1000000 in
theorem smeets_true (a b c d : Int) (w : World) (h1 : a ≤ d) (h2 : c ≤ b) :
    Calls Tryz.prog 36 #[.agg #[.int .i64 a, .int .i64 b], .agg #[.int .i64 c, .int .i64 d]] w fun e w' => e = .returned (.bool true) ∧ Below w.heap.size w w' := by
  go_enter Tryz.func36, Tryz.ntmps36
  go_wp2
  go_returns
  exact ⟨rfl, (by repeat' (first | (with_reducible refine below_drewN ?_ _) | go_grown))⟩
theorem sc_one {p q : Int} (h : p ≤ q) : pLo p q 1 1 1000000000 = p / 1000000000 ∧ pHi p q 1 1 1000000000 = upQ q 1000000000 := by
  unfold pLo pHi upQ
  constructor <;> omega
set_option maxRecDepth 100000 in
set_option maxHeartbeats 4000000 in
theorem sUnit_ok (a b c d : Int) (w : World) (h : TmsOk a b c d) : Calls Tryz.prog 35 #[.agg #[.int .i64 a, .int .i64 b], .agg #[.int .i64 c, .int .i64 d]] w fun e w' => e = .returned (.agg #[.int .i64 (tmLo a b c d), .int .i64 (tmHi a b c d)]) ∧ Below w.heap.size w w' := by
  have m := h.mul
  have T := tm_tms h
  have e1 : tmLo a b c d = pLo a b c d 1 / 1000000000 := by unfold tmLo; rw [pLo_one]; unfold pLo; omega
  have e2 : tmHi a b c d = upQ (pHi a b c d 1) 1000000000 := by unfold tmHi; rw [pHi_one]; unfold pHi upQ; omega
  have ab := h.ab; have cd := h.cd; have la := h.la; have lb := h.lb; have lc := h.lc; have ld := h.ld
  have k1 := mul_bound (show -1000000000 ≤ a by omega) (show a ≤ 1000000000 by omega) (show -1000000000 ≤ c by omega) (show c ≤ 1000000000 by omega)
  have k2 := mul_bound (show -1000000000 ≤ a by omega) (show a ≤ 1000000000 by omega) (show -1000000000 ≤ d by omega) (show d ≤ 1000000000 by omega)
  have k3 := mul_bound (show -1000000000 ≤ b by omega) (show b ≤ 1000000000 by omega) (show -1000000000 ≤ c by omega) (show c ≤ 1000000000 by omega)
  have k4 := mul_bound (show -1000000000 ≤ b by omega) (show b ≤ 1000000000 by omega) (show -1000000000 ≤ d by omega) (show d ≤ 1000000000 by omega)
  have pq : pLo a b c d 1 ≤ pHi a b c d 1 ∧ -1000000000000000000 ≤ pLo a b c d 1 ∧ pHi a b c d 1 ≤ 1000000000000000000 := by
    rw [pLo_one, pHi_one]; omega
  have S := sc_one pq.1
  rw [← e1, ← e2] at S
  have M := Lib.hid (fun w => mul_ok a b c d w ⟨by omega, by omega, by omega⟩ ⟨by omega, by omega, by omega⟩ m ⟨by omega, by omega, by omega⟩)
  generalize pLo a b c d 1 = p at *
  generalize pHi a b c d 1 = q at *
  have Q := Lib.hid (fun w => scale_ok p q 1 1000000000 w ⟨by omega, by omega, by omega⟩ (by omega) (by omega) (by omega) ⟨by rw [show Int.natAbs 1 = 1 from rfl, Nat.mul_one]; omega, by rw [show Int.natAbs 1 = 1 from rfl, Nat.mul_one]; omega, by rw [show Int.natAbs 1 = 1 from rfl, Nat.mul_one]; omega, by rw [show Int.natAbs 1 = 1 from rfl, Nat.mul_one]; omega⟩ (by
    rw [show ((1000000000 : Nat) : Int) = 1000000000 from rfl, S.1, S.2]; exact ⟨by omega, by omega, by omega⟩))
  rw [show ((1000000000 : Nat) : Int) = 1000000000 from rfl, S.1, S.2] at Q
  generalize tmLo a b c d = lo at *
  generalize tmHi a b c d = hi at *
  clear m T e1 e2 ab cd la lb lc ld k1 k2 k3 k4 pq S h
  go_enter Tryz.func35, Tryz.ntmps35
  have HB := Lib.hid (Below.refl w.heap.size w)
  obtain ⟨k1, hk1⟩ : ∃ x, x = w.heap.size := ⟨_, rfl⟩
  have he2 : (w.alloc (.cells #[.int .i64 (a), .int .i64 (b)] 28)).heap.size = k1 + 1 := by simp [hk1]
  have he3 : ((w.alloc (.cells #[.int .i64 (a), .int .i64 (b)] 28)).alloc (.cells #[.int .i64 (c), .int .i64 (d)] 28)).heap.size = k1 + 1 + 1 := by simp [hk1]
  have s1 := ((SpBox.new w (a) (b)).alloc (.cells #[.int .i64 (c), .int .i64 (d)] 28)).alloc (.cells #[.int .i64 (0), .int .i64 (0)] 28)
  rw [← hk1] at s1
  have Hkl1 := Lib.hid (show w.heap.size ≤ k1 by rw [hk1]; omega)
  have s2 := (SpBox.new (w.alloc (.cells #[.int .i64 (a), .int .i64 (b)] 28)) (c) (d)).alloc (.cells #[.int .i64 (0), .int .i64 (0)] 28)
  rw [he2] at s2
  have Hkl2 := Lib.hid (show w.heap.size ≤ k1 + 1 by rw [hk1]; omega)
  have s3 := SpBox.new ((w.alloc (.cells #[.int .i64 (a), .int .i64 (b)] 28)).alloc (.cells #[.int .i64 (c), .int .i64 (d)] 28)) (0) (0)
  rw [he3] at s3
  have Hkl3 := Lib.hid (show w.heap.size ≤ k1 + 1 + 1 by rw [hk1]; omega)
  go_upto_region 1 with fail
  (try rw [he2])
  (try rw [he3])
  rw [← hk1]
  obtain ⟨k3, hk3⟩ : ∃ x, x = k1 + 1 + 1 := ⟨_, rfl⟩
  rw [← hk3] at s3 Hkl3
  (try rw [← hk3])
  obtain ⟨k2, hk2⟩ : ∃ x, x = k1 + 1 := ⟨_, rfl⟩
  rw [← hk2] at s2 Hkl2
  (try rw [← hk2])
  have Hd2_1 := Lib.hid (show k1 < k2 by omega)
  have Hd3_1 := Lib.hid (show k1 < k3 by omega)
  have Hd3_2 := Lib.hid (show k2 < k3 by omega)
  clear hk3
  clear hk2
  have HBn := show Below w.heap.size w (((w.alloc (.cells #[.int .i64 (a), .int .i64 (b)] 28)).alloc (.cells #[.int .i64 (c), .int .i64 (d)] 28)).alloc (.cells #[.int .i64 (0), .int .i64 (0)] 28)) from (by repeat' (first | (with_reducible refine below_drewN ?_ _) | go_grown))
  obtain ⟨X3, hX3⟩ : ∃ X, X = (((w.alloc (.cells #[.int .i64 (a), .int .i64 (b)] 28)).alloc (.cells #[.int .i64 (c), .int .i64 (d)] 28)).alloc (.cells #[.int .i64 (0), .int .i64 (0)] 28)) := ⟨_, rfl⟩
  rw [← hX3] at s1 s2 s3 HBn ⊢
  clear hX3 he2 he3 HB
  replace s1 := Lib.hid s1
  replace s2 := Lib.hid s2
  replace s3 := Lib.hid s3
  have HB := Lib.hid HBn; have HK1 := Lib.hid hk1; clear HBn hk1
  have sc1_0 := s1.out.c0; have sc1_1 := s1.out.c1; have sc1_l := s1.out.lt
  have sc2_0 := s2.out.c0; have sc2_1 := s2.out.c1; have sc2_l := s2.out.lt
  go_wp2_with fail
  refine Calls.mono (M.out _) ?_
  rintro e wn4 ⟨rfl, hb⟩
  have Hd4_1 := Lib.hid (s1.out.below hb).lt
  have Hd4_2 := Lib.hid (s2.out.below hb).lt
  have Hd4_3 := Lib.hid (s3.out.below hb).lt
  replace s1 := Lib.hid ((s1.out.below hb).alloc (.cells #[.int .i64 (p), .int .i64 (q)] 28))
  replace s2 := Lib.hid ((s2.out.below hb).alloc (.cells #[.int .i64 (p), .int .i64 (q)] 28))
  replace s3 := Lib.hid ((s3.out.below hb).alloc (.cells #[.int .i64 (p), .int .i64 (q)] 28))
  have HB4 := HB.out.trans (hb.mono HB.out.size)
  clear sc1_0 sc1_1 sc1_l sc2_0 sc2_1 sc2_l
  clear hb
  have Hkl4 := Lib.hid HB4.size; replace HB := Lib.hid (HB4.alloc HB4.size (.cells #[.int .i64 (p), .int .i64 (q)] 28))
  clear HB4
  have s4 := Lib.hid (SpBox.new wn4 (p) (q))
  obtain ⟨k4, hk4⟩ : ∃ x, x = wn4.heap.size := ⟨_, rfl⟩
  rw [← hk4] at s4 Hkl4 Hd4_1 Hd4_2 Hd4_3
  go_upto_region 2 with fail
  rw [← hk4]
  obtain ⟨X4, hX4⟩ : ∃ X, X = wn4.alloc (.cells #[.int .i64 (p), .int .i64 (q)] 28) := ⟨_, rfl⟩
  rw [← hX4] at s1 s2 s3 s4 HB ⊢
  clear hk4 hX4
  have sc4_0 := s4.out.c0; have sc4_1 := s4.out.c1; have sc4_l := s4.out.lt
  go_wp2_with fail
  refine Calls.mono (Q.out _) ?_
  rintro e wn5 ⟨rfl, hb⟩
  have Hd5_1 := Lib.hid (s1.out.below hb).lt
  have Hd5_2 := Lib.hid (s2.out.below hb).lt
  have Hd5_3 := Lib.hid (s3.out.below hb).lt
  have Hd5_4 := Lib.hid (s4.out.below hb).lt
  replace s1 := Lib.hid ((s1.out.below hb).alloc (.cells #[.int .i64 (lo), .int .i64 (hi)] 28))
  replace s2 := Lib.hid ((s2.out.below hb).alloc (.cells #[.int .i64 (lo), .int .i64 (hi)] 28))
  replace s3 := Lib.hid ((s3.out.below hb).alloc (.cells #[.int .i64 (lo), .int .i64 (hi)] 28))
  replace s4 := Lib.hid ((s4.out.below hb).alloc (.cells #[.int .i64 (lo), .int .i64 (hi)] 28))
  have HB5 := HB.out.trans (hb.mono HB.out.size)
  clear sc4_0 sc4_1 sc4_l
  clear hb
  have Hkl5 := Lib.hid HB5.size; replace HB := Lib.hid (HB5.alloc HB5.size (.cells #[.int .i64 (lo), .int .i64 (hi)] 28))
  clear HB5
  have s5 := Lib.hid (SpBox.new wn5 (lo) (hi))
  obtain ⟨k5, hk5⟩ : ∃ x, x = wn5.heap.size := ⟨_, rfl⟩
  rw [← hk5] at s5 Hkl5 Hd5_1 Hd5_2 Hd5_3 Hd5_4
  go_upto_region 3 with fail
  rw [← hk5]
  obtain ⟨X5, hX5⟩ : ∃ X, X = wn5.alloc (.cells #[.int .i64 (lo), .int .i64 (hi)] 28) := ⟨_, rfl⟩
  rw [← hX5] at s1 s2 s3 s4 s5 HB ⊢
  clear hk5 hX5
  have sc5_0 := s5.out.c0; have sc5_1 := s5.out.c1; have sc5_l := s5.out.lt
  have c3_0 := s3.out.c0; have c3_1 := s3.out.c1; have c3_f := s3.out.free 0; have c3_g := s3.out.free 1; have c3_l := s3.out.lt; have c3_k := Hkl3.out
  have ne3_5 := Nat.ne_of_lt Hd5_3.out; have ne5_3 := Nat.ne_of_gt Hd5_3.out
  go_wp2_with fail
  refine bodyPost_ret (v := .agg #[.int .i64 lo, .int .i64 hi]) ?_ rfl ⟨rfl, ?_⟩
  · simp [results, Tryz.results35, go_sem, *]
  · exact (HB.out.setCell (p := ⟨k3, 0, none⟩) c3_k _).setCell (p := ⟨k3, 1, none⟩) c3_k _
/-- The height reckoned without the coordinates at the equator. -/
structure DirOkS (lat l1 l2 t1 t2 h1 h2 : Int) : Prop where
  a : h1 ≤ tmHi (sLo lat) (sHi lat) (tmLo (soLo l1 l2) (soHi l1 l2) (sLo 65109000) (sHi 65109000)) (tmHi (soLo l1 l2) (soHi l1 l2) (sLo 65109000) (sHi 65109000))
    + tmHi (cLo lat) (cHi lat) (tmLo (coLo t1 t2) (coHi t1 t2) (coLo l1 l2) (coHi l1 l2)) (tmHi (coLo t1 t2) (coHi t1 t2) (coLo l1 l2) (coHi l1 l2))
    + tmHi (cLo lat) (cHi lat) (tmLo (soLo t1 t2) (soHi t1 t2) (tmLo (soLo l1 l2) (soHi l1 l2) (cLo 65109000) (cHi 65109000)) (tmHi (soLo l1 l2) (soHi l1 l2) (cLo 65109000) (cHi 65109000))) (tmHi (soLo t1 t2) (soHi t1 t2) (tmLo (soLo l1 l2) (soHi l1 l2) (cLo 65109000) (cHi 65109000)) (tmHi (soLo l1 l2) (soHi l1 l2) (cLo 65109000) (cHi 65109000)))
  b : tmLo (sLo lat) (sHi lat) (tmLo (soLo l1 l2) (soHi l1 l2) (sLo 65109000) (sHi 65109000)) (tmHi (soLo l1 l2) (soHi l1 l2) (sLo 65109000) (sHi 65109000))
    + tmLo (cLo lat) (cHi lat) (tmLo (coLo t1 t2) (coHi t1 t2) (coLo l1 l2) (coHi l1 l2)) (tmHi (coLo t1 t2) (coHi t1 t2) (coLo l1 l2) (coHi l1 l2))
    + tmLo (cLo lat) (cHi lat) (tmLo (soLo t1 t2) (soHi t1 t2) (tmLo (soLo l1 l2) (soHi l1 l2) (cLo 65109000) (cHi 65109000)) (tmHi (soLo l1 l2) (soHi l1 l2) (cLo 65109000) (cHi 65109000))) (tmHi (soLo t1 t2) (soHi t1 t2) (tmLo (soLo l1 l2) (soHi l1 l2) (cLo 65109000) (cHi 65109000)) (tmHi (soLo l1 l2) (soHi l1 l2) (cLo 65109000) (cHi 65109000))) ≤ h2
theorem up_direct (lat : Int) {l1 l2 t1 t2 : Int} {la th : Rat} (hl : l2 - l1 ≤ 2000000000) (ht : t2 - t1 ≤ 2000000000) (la1 : (l1 : Rat) ≤ la) (la2 : la ≤ (l2 : Rat)) (th1 : (t1 : Rat) ≤ th) (th2 : th ≤ (t2 : Rat)) {h1 h2 : Int} {y : Rat} (y1 : (h1 : Rat) ≤ y) (y2 : y ≤ (h2 : Rat)) (hy : Near y (1000000000 * upV lat th la 0) (1 / 10000)) : DirOkS lat l1 l2 t1 t2 h1 h2 := by
  obtain ⟨s, s1, s2, s3⟩ := so_in la1 la2
  obtain ⟨c, c1, c2, c3⟩ := co_in la1 la2 hl
  obtain ⟨p, p1, p2, p3⟩ := so_in th1 th2
  obtain ⟨q, q1, q2, q3⟩ := co_in th1 th2 ht
  obtain ⟨u, u1, u2, u3⟩ := s_pt 65109000
  obtain ⟨v, v1, v2, v3⟩ := c_pt 65109000
  obtain ⟨a, a1, a2, a3⟩ := s_pt lat
  obtain ⟨b, b1, b2, b3⟩ := c_pt lat
  have bl := SA_1 la; have bt := SA_1 th; have be := SN_1 65109000; have bf := SN_1 lat
  have m1 := tm_pt s1 s2 u1 u2
  have n1 := pr_near s3 u3 bl.1 be.1 (by constructor <;> grind) (by constructor <;> grind)
  have m2 := tm_pt a1 a2 m1.1 m1.2
  have w1 : -(10001 / 10000) ≤ SA la * SN 65109000 ∧ SA la * SN 65109000 ≤ 10001 / 10000 := by
    have := rmul_bd (SA_le la) (SN_le 65109000); unfold ep at this; constructor <;> grind
  have w2 : -(10001 / 10000) ≤ SA la * CN 65109000 ∧ SA la * CN 65109000 ≤ 10001 / 10000 := by
    have := rmul_bd (SA_le la) (CN_le 65109000); unfold ep at this; constructor <;> grind
  have w3 : -(10001 / 10000) ≤ CA th * CA la ∧ CA th * CA la ≤ 10001 / 10000 := by
    have := rmul_bd (CA_le th) (CA_le la); unfold ep at this; constructor <;> grind
  have w4 : -(10001 / 10000) ≤ SA th * (SA la * CN 65109000) ∧ SA th * (SA la * CN 65109000) ≤ 10001 / 10000 := by
    have k := rmul_bd (SA_le la) (CN_le 65109000)
    have := rmul_bd (a := SA th) (b := SA la * CN 65109000) (A := 1 + ep) (B := 1 + 3 * ep) (SA_le th) (by unfold ep at *; constructor <;> grind)
    unfold ep at this; constructor <;> grind
  have n2 := pr_near a3 n1 bf.1 w1 (by constructor <;> grind) (by constructor <;> grind)
  have m3 := tm_pt q1 q2 c1 c2
  have n3 := pr_near q3 c3 bt.2 bl.2 (by constructor <;> grind) (by constructor <;> grind)
  have m4 := tm_pt b1 b2 m3.1 m3.2
  have n4 := pr_near b3 n3 bf.2 w3 (by constructor <;> grind) (by constructor <;> grind)
  have m5 := tm_pt s1 s2 v1 v2
  have n5 := pr_near s3 v3 bl.1 be.2 (by constructor <;> grind) (by constructor <;> grind)
  have m6 := tm_pt p1 p2 m5.1 m5.2
  have n6 := pr_near p3 n5 bt.1 w2 (by constructor <;> grind) (by constructor <;> grind)
  have m7 := tm_pt b1 b2 m6.1 m6.2
  have n7 := pr_near b3 n6 bf.2 w4 (by constructor <;> grind) (by constructor <;> grind)
  have e : upV lat th la 0 = SN lat * (SA la * SN 65109000) + CN lat * (CA th * CA la) + CN lat * (SA th * (SA la * CN 65109000)) := by
    unfold upV qX qY qZ
    rw [SA_0, CA_0]
    grind
  rw [e] at hy
  clear e m1 m3 m5 m6 n1 n3 n5 n6 s1 s2 s3 c1 c2 c3 p1 p2 p3 q1 q2 q3 u1 u2 u3 v1 v2 v3 a1 a2 a3 b1 b2 b3 bl bt be bf w1 w2 w3 w4
  unfold Near at hy n2 n4 n7
  generalize SN lat * (SA la * SN 65109000) = g1 at *
  generalize CN lat * (CA th * CA la) = g2 at *
  generalize CN lat * (SA th * (SA la * CN 65109000)) = g3 at *
  generalize a * (s * u / 1000000000) / 1000000000 = f1 at *
  generalize b * (q * c / 1000000000) / 1000000000 = f2 at *
  generalize b * (p * (s * v / 1000000000) / 1000000000) / 1000000000 = f3 at *
  constructor
  · apply rat_le_int
    rw [Rat.intCast_add, Rat.intCast_add]
    grind
  · apply rat_le_int
    rw [Rat.intCast_add, Rat.intCast_add]
    grind
theorem sun_up (lon lat t : Int) : ∃ y : Rat, (upLo lat (hhLo lon t (sRH t)) (hhHi lon t (sRL t)) (sDL t) (sDH t) : Rat) ≤ y ∧ y ≤ (upHi lat (hhLo lon t (sRH t)) (hhHi lon t (sRL t)) (sDL t) (sDH t) : Rat) ∧ Near y (1000000000 * upV lat (sdLo lon t : Rat) (slLo t : Rat) 0) (1 / 10000) := by
  have a : 0 ≤ slLo t ∧ slLo t < 1000000000 ∧ slLo t ≤ slHi t ∧ slHi t ≤ 130000000000 := an_bd sun_in
  have b := sl_width t
  have sd := sd_bd lon t
  have z0 : ((0 : Int) : Rat) = 0 := rfl
  exact up_in (b1 := 0) (b2 := 0) (be := 0) ⟨by omega, by omega, by omega⟩ (by omega) (by omega) (by omega) (by omega) (by omega) Rat.le_refl (Rat.intCast_le_intCast.2 a.2.2.1) (by rw [z0]; grind) (by rw [z0]; grind) Rat.le_refl (Rat.intCast_le_intCast.2 sd.2.2.1)
theorem contains_law (lon lat t : Int) : DirOkS lat (slLo t) (slHi t) (sdLo lon t) (sdHi lon t) (upLo lat (hhLo lon t (sRH t)) (hhHi lon t (sRL t)) (sDL t) (sDH t)) (upHi lat (hhLo lon t (sRH t)) (hhHi lon t (sRL t)) (sDL t) (sDH t)) := by
  obtain ⟨y, y1, y2, hy⟩ := sun_up lon lat t
  have a : 0 ≤ slLo t ∧ slLo t < 1000000000 ∧ slLo t ≤ slHi t ∧ slHi t ≤ 130000000000 := an_bd sun_in
  have b := sl_width t
  have sd := sd_bd lon t
  exact up_direct lat (by omega) (by omega) Rat.le_refl (Rat.intCast_le_intCast.2 a.2.2.1) Rat.le_refl (Rat.intCast_le_intCast.2 sd.2.2.1) y1 y2 hy
theorem PlBox.put2 {w : World} {b : Nat} {x y : Int} (h : PlBox w b x y) (u v : Int) : PlBox ((w.setCell ⟨b, 0, none⟩ (.int .i64 u)).setCell ⟨b, 1, none⟩ (.int .i64 v)) b u v :=
  ((World.rowIs.set h 0 (.int .i64 u)).set 1 (.int .i64 v)).congr (fun i hi => by
    match i, hi with
    | 0, _ => rfl
    | 1, _ => rfl)
set_option maxRecDepth 100000 in
set_option maxHeartbeats 16000000 in
theorem topContains_walk (p1 p2 t0 : Int) (w : World) (hT : SinT w) : Calls Tryz.prog 8 #[.agg #[.int .i64 p1, .int .i64 p2], .int .i64 t0] w fun e w' => e = .returned (.bool true) ∧ Below w.heap.size w w' := by
  have HW := Lib.hid (fun W (hT : SinT W) => sSky_ok W hT)
  have SI := Lib.hid (fun w => ssite_ok p1 p2 w)
  have I := Lib.hid (fun w => sinst_ok t0 w)
  have pl := site_pl p1 p2
  have ti := sinst_in t0
  generalize t0 % 604800000000000 - 302400000000000 = t at *
  generalize p1.tmod 500000001 = lon at *
  generalize p2.tmod 220000001 = lat at *
  have lk := sun_lk t pl ti
  have LAW := contains_law lon lat t
  have ib : 0 ≤ slLo t ∧ slLo t < 1000000000 ∧ slLo t ≤ slHi t ∧ slHi t ≤ 130000000000 := an_bd sun_in
  have sd := sd_bd lon t
  have SL := Lib.hid (fun W (hT : SinT W) => sunLong_ok t W hT ti)
  have SU := Lib.hid (fun W (hT : SinT W) => sunAt_ok t W hT ti)
  have HE := Lib.hid (fun W (hT : SinT W) => Height_ok lon lat (sRL t) (sRH t) (sDL t) (sDH t) t W hT lk)
  have SD := Lib.hid (fun W => Sidereal_ok lon lat t W pl ti)
  generalize upLo lat (hhLo lon t (sRH t)) (hhHi lon t (sRL t)) (sDL t) (sDH t) = h1 at *
  generalize upHi lat (hhLo lon t (sRH t)) (hhHi lon t (sRL t)) (sDL t) (sDH t) = h2 at *
  generalize sRL t = r1 at *
  generalize sRH t = r2 at *
  generalize sDL t = d1 at *
  generalize sDH t = d2 at *
  generalize sdLo lon t = st1 at *
  generalize sdHi lon t = st2 at *
  generalize slLo t = l1 at *
  generalize slHi t = l2 at *
  have C1 := Lib.hid (fun W (hT : SinT W) => SinOver_ok l1 l2 W hT ⟨by omega, by omega, by omega⟩)
  have C2 := Lib.hid (fun W (hT : SinT W) => CosOver_ok l1 l2 W hT ⟨by omega, by omega, by omega⟩)
  have C3 := Lib.hid (fun W (hT : SinT W) => trSin_ok 65109000 W hT (by omega))
  have C4 := Lib.hid (fun W (hT : SinT W) => trCos_ok 65109000 W hT (by omega))
  have la1 := pl.a1; have la2 := pl.a2
  have C5 := Lib.hid (fun W (hT : SinT W) => trSin_ok lat W hT (by omega))
  have C6 := Lib.hid (fun W (hT : SinT W) => trCos_ok lat W hT (by omega))
  have C7 := Lib.hid (fun W (hT : SinT W) => SinOver_ok st1 st2 W hT ⟨by omega, by omega, by omega⟩)
  have C8 := Lib.hid (fun W (hT : SinT W) => CosOver_ok st1 st2 W hT ⟨by omega, by omega, by omega⟩)
  have L1 := LAW.a; have L2 := LAW.b
  have q1 := so_tms l1 l2; have q2 := co_tms l1 l2; have q3 := s_tms 65109000; have q4 := c_tms 65109000; have q5 := s_tms lat; have q6 := c_tms lat; have q7 := so_tms st1 st2; have q8 := co_tms st1 st2
  clear LAW la1 la2 ib sd lk pl ti
  generalize soLo l1 l2 = sl1 at *
  generalize soHi l1 l2 = sl2 at *
  generalize coLo l1 l2 = cl1 at *
  generalize coHi l1 l2 = cl2 at *
  generalize sLo 65109000 = se1 at *
  generalize sHi 65109000 = se2 at *
  generalize cLo 65109000 = ce1 at *
  generalize cHi 65109000 = ce2 at *
  generalize sLo lat = sp1 at *
  generalize sHi lat = sp2 at *
  generalize cLo lat = cp1 at *
  generalize cHi lat = cp2 at *
  generalize soLo st1 st2 = ss1 at *
  generalize soHi st1 st2 = ss2 at *
  generalize coLo st1 st2 = cs1 at *
  generalize coHi st1 st2 = cs2 at *
  have U1 := Lib.hid (fun W => sUnit_ok sl1 sl2 se1 se2 W (tms_of q1 q3))
  have q9 := tm_tms (tms_of q1 q3)
  generalize tmLo sl1 sl2 se1 se2 = m1 at *
  generalize tmHi sl1 sl2 se1 se2 = n1 at *
  have U2 := Lib.hid (fun W => sUnit_ok sp1 sp2 m1 n1 W (tms_of q5 q9))
  have g1 := tm_tms (tms_of q5 q9)
  generalize tmLo sp1 sp2 m1 n1 = u1 at *
  generalize tmHi sp1 sp2 m1 n1 = u2 at *
  have U3 := Lib.hid (fun W => sUnit_ok cs1 cs2 cl1 cl2 W (tms_of q8 q2))
  have q10 := tm_tms (tms_of q8 q2)
  generalize tmLo cs1 cs2 cl1 cl2 = m3 at *
  generalize tmHi cs1 cs2 cl1 cl2 = n3 at *
  have U4 := Lib.hid (fun W => sUnit_ok cp1 cp2 m3 n3 W (tms_of q6 q10))
  have g2 := tm_tms (tms_of q6 q10)
  generalize tmLo cp1 cp2 m3 n3 = x1 at *
  generalize tmHi cp1 cp2 m3 n3 = x2 at *
  have U5 := Lib.hid (fun W => sUnit_ok sl1 sl2 ce1 ce2 W (tms_of q1 q4))
  have q11 := tm_tms (tms_of q1 q4)
  generalize tmLo sl1 sl2 ce1 ce2 = m5 at *
  generalize tmHi sl1 sl2 ce1 ce2 = n5 at *
  have U6 := Lib.hid (fun W => sUnit_ok ss1 ss2 m5 n5 W (tms_of q7 q11))
  have q12 := tm_tms (tms_of q7 q11)
  generalize tmLo ss1 ss2 m5 n5 = m6 at *
  generalize tmHi ss1 ss2 m5 n5 = n6 at *
  have U7 := Lib.hid (fun W => sUnit_ok cp1 cp2 m6 n6 W (tms_of q6 q12))
  have g3 := tm_tms (tms_of q6 q12)
  generalize tmLo cp1 cp2 m6 n6 = y1 at *
  generalize tmHi cp1 cp2 m6 n6 = y2 at *
  clear q1 q2 q3 q4 q5 q6 q7 q8 q9 q10 q11 q12
  have e1 : wrap64 (u1 + x1) = u1 + x1 := IntWalk.wrap64_in _ (by omega)
  have e2 : wrap64 (u1 + x1 + y1) = u1 + x1 + y1 := IntWalk.wrap64_in _ (by omega)
  have e3 : wrap64 (u2 + x2) = u2 + x2 := IntWalk.wrap64_in _ (by omega)
  have e4 : wrap64 (u2 + x2 + y2) = u2 + x2 + y2 := IntWalk.wrap64_in _ (by omega)
  have SM := Lib.hid (fun W => smeets_true h1 h2 (u1 + x1 + y1) (u2 + x2 + y2) W L1 L2)
  have HT := Lib.hid hT
  clear hT g1 g2 g3 L1 L2
  have P1 := PlBox.new w p1 p2
  have HB0 := (Below.refl w.heap.size w).alloc (Nat.le_refl _) (.cells #[.int .i64 p1, .int .i64 p2] 23)
  obtain ⟨k0, hk0⟩ : ∃ x, x = w.heap.size := ⟨_, rfl⟩
  rw [← hk0] at P1
  have HB := Lib.hid (Below.refl w.heap.size w)
  clear HB
  go_enter Tryz.func8, Tryz.ntmps8
  go_upto_region 1 with fail
  rw [← hk0]
  have HK0 := Lib.hid hk0
  obtain ⟨X0, hX0⟩ : ∃ X, X = w.alloc (.cells #[.int .i64 p1, .int .i64 p2] 23) := ⟨_, rfl⟩
  rw [← hX0] at P1 HB0 ⊢
  have HB := Lib.hid HB0
  have s1 := Lib.hid P1
  clear hX0 P1 HB0 hk0
  go_wp2_with fail
  refine Calls.mono (HW.out _ (HT.out.below HB.out)) ?_
  rintro e wc1 ⟨rfl, hb⟩
  replace s1 := Lib.hid (s1.out.below hb)
  replace HB := Lib.hid (HB.out.trans (hb.mono HB.out.size))
  clear hb
  have p0 := s1.out.c0; have p1' := s1.out.c1; have pz := s1.out.lt
  go_wp2_with fail
  refine Calls.mono (SI.out _) ?_
  rintro e wc2 ⟨rfl, hb⟩
  replace s1 := Lib.hid (s1.out.below hb)
  replace HB := Lib.hid (HB.out.trans (hb.mono HB.out.size))
  clear hb
  clear p0 p1' pz
  go_wp2_with fail
  refine Calls.mono (I.out _) ?_
  rintro e wq ⟨rfl, rfl⟩
  have p0 := s1.out.c0; have p1' := s1.out.c1; have pz := s1.out.lt; have pf0 := s1.out.free 0; have pf1 := s1.out.free 1
  go_upto_region 4 with fail
  have S1' := s1.out.put2 lon lat
  have B1 := (HB.out.setCell (p := ⟨k0, 0, none⟩) (by have := HK0.out; dsimp only; omega) (.int .i64 lon)).setCell (p := ⟨k0, 1, none⟩) (by have := HK0.out; dsimp only; omega) (.int .i64 lat)
  obtain ⟨Y, hY⟩ : ∃ Y, Y = ((wc2.setCell ⟨k0, 0, none⟩ (.int .i64 lon)).setCell ⟨k0, 1, none⟩ (.int .i64 lat)) := ⟨_, rfl⟩
  rw [← hY] at S1' B1 ⊢
  replace s1 := Lib.hid S1'
  replace HB := Lib.hid B1
  clear S1' B1 hY p0 p1' pz pf0 pf1 HW SI I HK0
  go_wp2_with fail
  refine Calls.mono (SL.out _ (HT.out.below HB.out)) ?_
  rintro e wn2 ⟨rfl, hb⟩
  replace s1 := Lib.hid ((s1.out.below hb).alloc (.cells #[.int .i64 (l1), .int .i64 (l2)] 28))
  have HB2 := HB.out.trans (hb.mono HB.out.size)
  clear hb
  have Hkl2 := Lib.hid HB2.size; replace HB := Lib.hid (HB2.alloc HB2.size (.cells #[.int .i64 (l1), .int .i64 (l2)] 28))
  clear HB2
  have s2 := Lib.hid (SpBox.new wn2 (l1) (l2))
  obtain ⟨k2, hk2⟩ : ∃ x, x = wn2.heap.size := ⟨_, rfl⟩
  rw [← hk2] at s2 Hkl2
  go_upto_region 5 with fail
  rw [← hk2]
  obtain ⟨X2, hX2⟩ : ∃ X, X = wn2.alloc (.cells #[.int .i64 (l1), .int .i64 (l2)] 28) := ⟨_, rfl⟩
  rw [← hX2] at s1 s2 HB ⊢
  clear hk2 hX2
  go_wp2_with fail
  refine Calls.mono (SU.out _ (HT.out.below HB.out)) ?_
  rintro e wn3 ⟨rfl, hb⟩
  replace s1 := Lib.hid (((s1.out.below hb).alloc (.cells #[.int .i64 (r1), .int .i64 (r2)] 28)).alloc (.cells #[.int .i64 (d1), .int .i64 (d2)] 28))
  replace s2 := Lib.hid (((s2.out.below hb).alloc (.cells #[.int .i64 (r1), .int .i64 (r2)] 28)).alloc (.cells #[.int .i64 (d1), .int .i64 (d2)] 28))
  have HB3 := HB.out.trans (hb.mono HB.out.size)
  clear hb
  have Hkl3 := Lib.hid HB3.size; have HBq := HB3.alloc HB3.size (.cells #[.int .i64 (r1), .int .i64 (r2)] 28); replace HB := Lib.hid (HBq.alloc HBq.size (.cells #[.int .i64 (d1), .int .i64 (d2)] 28)); clear HB3 HBq
  obtain ⟨k3, hk3⟩ : ∃ x, x = wn3.heap.size := ⟨_, rfl⟩
  have hk4 : (wn3.alloc (.cells #[.int .i64 (r1), .int .i64 (r2)] 28)).heap.size = k3 + 1 := by simp [hk3]
  have s3 := Lib.hid ((SpBox.new wn3 (r1) (r2)).alloc (.cells #[.int .i64 (d1), .int .i64 (d2)] 28))
  have s40 := SpBox.new (wn3.alloc (.cells #[.int .i64 (r1), .int .i64 (r2)] 28)) (d1) (d2)
  rw [hk4] at s40
  have s4 := Lib.hid s40; clear s40
  rw [← hk3] at s3 Hkl3
  have Hkl4 := Lib.hid (Nat.le_trans Hkl3.out (Nat.le_succ k3))
  go_upto_region 6 with fail
  (try rw [hk4])
  rw [← hk3]
  obtain ⟨X4, hX4⟩ : ∃ X, X = (wn3.alloc (.cells #[.int .i64 (r1), .int .i64 (r2)] 28)).alloc (.cells #[.int .i64 (d1), .int .i64 (d2)] 28) := ⟨_, rfl⟩
  rw [← hX4] at s1 s2 s3 s4 HB ⊢
  clear hk4 hk3 hX4
  have p0 := s1.out.c0; have p1' := s1.out.c1; have pz := s1.out.lt
  have sc3_0 := s3.out.c0; have sc3_1 := s3.out.c1; have sc3_l := s3.out.lt
  have sc4_0 := s4.out.c0; have sc4_1 := s4.out.c1; have sc4_l := s4.out.lt
  go_wp2_with fail
  refine Calls.mono (HE.out _ (HT.out.below HB.out)) ?_
  rintro e wn5 ⟨rfl, hb⟩
  replace s1 := Lib.hid ((s1.out.below hb).alloc (.cells #[.int .i64 (h1), .int .i64 (h2)] 28))
  replace s2 := Lib.hid ((s2.out.below hb).alloc (.cells #[.int .i64 (h1), .int .i64 (h2)] 28))
  replace s3 := Lib.hid ((s3.out.below hb).alloc (.cells #[.int .i64 (h1), .int .i64 (h2)] 28))
  replace s4 := Lib.hid ((s4.out.below hb).alloc (.cells #[.int .i64 (h1), .int .i64 (h2)] 28))
  have HB5 := HB.out.trans (hb.mono HB.out.size)
  clear sc3_0 sc3_1 sc3_l sc4_0 sc4_1 sc4_l
  clear hb
  have Hkl5 := Lib.hid HB5.size; replace HB := Lib.hid (HB5.alloc HB5.size (.cells #[.int .i64 (h1), .int .i64 (h2)] 28))
  clear HB5
  have s5 := Lib.hid (SpBox.new wn5 (h1) (h2))
  obtain ⟨k5, hk5⟩ : ∃ x, x = wn5.heap.size := ⟨_, rfl⟩
  rw [← hk5] at s5 Hkl5
  go_upto_region 7 with fail
  rw [← hk5]
  obtain ⟨X5, hX5⟩ : ∃ X, X = wn5.alloc (.cells #[.int .i64 (h1), .int .i64 (h2)] 28) := ⟨_, rfl⟩
  rw [← hX5] at s1 s2 s3 s4 s5 HB ⊢
  clear hk5 hX5
  clear p0 p1' pz
  have p0 := s1.out.c0; have p1' := s1.out.c1; have pz := s1.out.lt
  go_wp2_with fail
  refine Calls.mono (SD.out _) ?_
  rintro e wn6 ⟨rfl, hb⟩
  replace s1 := Lib.hid ((s1.out.below hb).alloc (.cells #[.int .i64 (st1), .int .i64 (st2)] 28))
  replace s2 := Lib.hid ((s2.out.below hb).alloc (.cells #[.int .i64 (st1), .int .i64 (st2)] 28))
  replace s3 := Lib.hid ((s3.out.below hb).alloc (.cells #[.int .i64 (st1), .int .i64 (st2)] 28))
  replace s4 := Lib.hid ((s4.out.below hb).alloc (.cells #[.int .i64 (st1), .int .i64 (st2)] 28))
  replace s5 := Lib.hid ((s5.out.below hb).alloc (.cells #[.int .i64 (st1), .int .i64 (st2)] 28))
  have HB6 := HB.out.trans (hb.mono HB.out.size)
  clear hb
  have Hkl6 := Lib.hid HB6.size; replace HB := Lib.hid (HB6.alloc HB6.size (.cells #[.int .i64 (st1), .int .i64 (st2)] 28))
  clear HB6
  have s6 := Lib.hid (SpBox.new wn6 (st1) (st2))
  obtain ⟨k6, hk6⟩ : ∃ x, x = wn6.heap.size := ⟨_, rfl⟩
  rw [← hk6] at s6 Hkl6
  go_upto_region 8 with fail
  rw [← hk6]
  obtain ⟨X6, hX6⟩ : ∃ X, X = wn6.alloc (.cells #[.int .i64 (st1), .int .i64 (st2)] 28) := ⟨_, rfl⟩
  rw [← hX6] at s1 s2 s3 s4 s5 s6 HB ⊢
  clear hk6 hX6
  clear p0 p1' pz SL SU HE SD
  clear s3
  clear s4
  go_upto_region 10 with fail
  have sc2_0 := s2.out.c0; have sc2_1 := s2.out.c1; have sc2_l := s2.out.lt
  go_wp2_with fail
  refine Calls.mono (C1.out _ (HT.out.below HB.out)) ?_
  rintro e wn7 ⟨rfl, hb⟩
  replace s1 := Lib.hid ((s1.out.below hb).alloc (.cells #[.int .i64 (sl1), .int .i64 (sl2)] 28))
  replace s2 := Lib.hid ((s2.out.below hb).alloc (.cells #[.int .i64 (sl1), .int .i64 (sl2)] 28))
  replace s5 := Lib.hid ((s5.out.below hb).alloc (.cells #[.int .i64 (sl1), .int .i64 (sl2)] 28))
  replace s6 := Lib.hid ((s6.out.below hb).alloc (.cells #[.int .i64 (sl1), .int .i64 (sl2)] 28))
  have HB7 := HB.out.trans (hb.mono HB.out.size)
  clear sc2_0 sc2_1 sc2_l
  clear hb
  have Hkl7 := Lib.hid HB7.size; replace HB := Lib.hid (HB7.alloc HB7.size (.cells #[.int .i64 (sl1), .int .i64 (sl2)] 28))
  clear HB7
  have s7 := Lib.hid (SpBox.new wn7 (sl1) (sl2))
  obtain ⟨k7, hk7⟩ : ∃ x, x = wn7.heap.size := ⟨_, rfl⟩
  rw [← hk7] at s7 Hkl7
  go_upto_region 11 with fail
  rw [← hk7]
  obtain ⟨X7, hX7⟩ : ∃ X, X = wn7.alloc (.cells #[.int .i64 (sl1), .int .i64 (sl2)] 28) := ⟨_, rfl⟩
  rw [← hX7] at s1 s2 s5 s6 s7 HB ⊢
  clear hk7 hX7
  have sc2_0 := s2.out.c0; have sc2_1 := s2.out.c1; have sc2_l := s2.out.lt
  go_wp2_with fail
  refine Calls.mono (C2.out _ (HT.out.below HB.out)) ?_
  rintro e wn8 ⟨rfl, hb⟩
  replace s1 := Lib.hid ((s1.out.below hb).alloc (.cells #[.int .i64 (cl1), .int .i64 (cl2)] 28))
  replace s2 := Lib.hid ((s2.out.below hb).alloc (.cells #[.int .i64 (cl1), .int .i64 (cl2)] 28))
  replace s5 := Lib.hid ((s5.out.below hb).alloc (.cells #[.int .i64 (cl1), .int .i64 (cl2)] 28))
  replace s6 := Lib.hid ((s6.out.below hb).alloc (.cells #[.int .i64 (cl1), .int .i64 (cl2)] 28))
  replace s7 := Lib.hid ((s7.out.below hb).alloc (.cells #[.int .i64 (cl1), .int .i64 (cl2)] 28))
  have HB8 := HB.out.trans (hb.mono HB.out.size)
  clear sc2_0 sc2_1 sc2_l
  clear hb
  have Hkl8 := Lib.hid HB8.size; replace HB := Lib.hid (HB8.alloc HB8.size (.cells #[.int .i64 (cl1), .int .i64 (cl2)] 28))
  clear HB8
  have s8 := Lib.hid (SpBox.new wn8 (cl1) (cl2))
  obtain ⟨k8, hk8⟩ : ∃ x, x = wn8.heap.size := ⟨_, rfl⟩
  rw [← hk8] at s8 Hkl8
  go_upto_region 12 with fail
  rw [← hk8]
  obtain ⟨X8, hX8⟩ : ∃ X, X = wn8.alloc (.cells #[.int .i64 (cl1), .int .i64 (cl2)] 28) := ⟨_, rfl⟩
  rw [← hX8] at s1 s2 s5 s6 s7 s8 HB ⊢
  clear hk8 hX8
  go_wp2_with fail
  refine Calls.mono (C3.out _ (HT.out.below HB.out)) ?_
  rintro e wn9 ⟨rfl, hb⟩
  replace s1 := Lib.hid ((s1.out.below hb).alloc (.cells #[.int .i64 (se1), .int .i64 (se2)] 28))
  replace s2 := Lib.hid ((s2.out.below hb).alloc (.cells #[.int .i64 (se1), .int .i64 (se2)] 28))
  replace s5 := Lib.hid ((s5.out.below hb).alloc (.cells #[.int .i64 (se1), .int .i64 (se2)] 28))
  replace s6 := Lib.hid ((s6.out.below hb).alloc (.cells #[.int .i64 (se1), .int .i64 (se2)] 28))
  replace s7 := Lib.hid ((s7.out.below hb).alloc (.cells #[.int .i64 (se1), .int .i64 (se2)] 28))
  replace s8 := Lib.hid ((s8.out.below hb).alloc (.cells #[.int .i64 (se1), .int .i64 (se2)] 28))
  have HB9 := HB.out.trans (hb.mono HB.out.size)
  clear hb
  have Hkl9 := Lib.hid HB9.size; replace HB := Lib.hid (HB9.alloc HB9.size (.cells #[.int .i64 (se1), .int .i64 (se2)] 28))
  clear HB9
  have s9 := Lib.hid (SpBox.new wn9 (se1) (se2))
  obtain ⟨k9, hk9⟩ : ∃ x, x = wn9.heap.size := ⟨_, rfl⟩
  rw [← hk9] at s9 Hkl9
  go_upto_region 13 with fail
  rw [← hk9]
  obtain ⟨X9, hX9⟩ : ∃ X, X = wn9.alloc (.cells #[.int .i64 (se1), .int .i64 (se2)] 28) := ⟨_, rfl⟩
  rw [← hX9] at s1 s2 s5 s6 s7 s8 s9 HB ⊢
  clear hk9 hX9
  go_wp2_with fail
  refine Calls.mono (C4.out _ (HT.out.below HB.out)) ?_
  rintro e wn10 ⟨rfl, hb⟩
  replace s1 := Lib.hid ((s1.out.below hb).alloc (.cells #[.int .i64 (ce1), .int .i64 (ce2)] 28))
  replace s2 := Lib.hid ((s2.out.below hb).alloc (.cells #[.int .i64 (ce1), .int .i64 (ce2)] 28))
  replace s5 := Lib.hid ((s5.out.below hb).alloc (.cells #[.int .i64 (ce1), .int .i64 (ce2)] 28))
  replace s6 := Lib.hid ((s6.out.below hb).alloc (.cells #[.int .i64 (ce1), .int .i64 (ce2)] 28))
  replace s7 := Lib.hid ((s7.out.below hb).alloc (.cells #[.int .i64 (ce1), .int .i64 (ce2)] 28))
  replace s8 := Lib.hid ((s8.out.below hb).alloc (.cells #[.int .i64 (ce1), .int .i64 (ce2)] 28))
  replace s9 := Lib.hid ((s9.out.below hb).alloc (.cells #[.int .i64 (ce1), .int .i64 (ce2)] 28))
  have HB10 := HB.out.trans (hb.mono HB.out.size)
  clear hb
  have Hkl10 := Lib.hid HB10.size; replace HB := Lib.hid (HB10.alloc HB10.size (.cells #[.int .i64 (ce1), .int .i64 (ce2)] 28))
  clear HB10
  have s10 := Lib.hid (SpBox.new wn10 (ce1) (ce2))
  obtain ⟨k10, hk10⟩ : ∃ x, x = wn10.heap.size := ⟨_, rfl⟩
  rw [← hk10] at s10 Hkl10
  go_upto_region 14 with fail
  rw [← hk10]
  obtain ⟨X10, hX10⟩ : ∃ X, X = wn10.alloc (.cells #[.int .i64 (ce1), .int .i64 (ce2)] 28) := ⟨_, rfl⟩
  rw [← hX10] at s1 s2 s5 s6 s7 s8 s9 s10 HB ⊢
  clear hk10 hX10
  have p0 := s1.out.c0; have p1' := s1.out.c1; have pz := s1.out.lt
  go_wp2_with fail
  refine Calls.mono (C5.out _ (HT.out.below HB.out)) ?_
  rintro e wn11 ⟨rfl, hb⟩
  replace s1 := Lib.hid ((s1.out.below hb).alloc (.cells #[.int .i64 (sp1), .int .i64 (sp2)] 28))
  replace s2 := Lib.hid ((s2.out.below hb).alloc (.cells #[.int .i64 (sp1), .int .i64 (sp2)] 28))
  replace s5 := Lib.hid ((s5.out.below hb).alloc (.cells #[.int .i64 (sp1), .int .i64 (sp2)] 28))
  replace s6 := Lib.hid ((s6.out.below hb).alloc (.cells #[.int .i64 (sp1), .int .i64 (sp2)] 28))
  replace s7 := Lib.hid ((s7.out.below hb).alloc (.cells #[.int .i64 (sp1), .int .i64 (sp2)] 28))
  replace s8 := Lib.hid ((s8.out.below hb).alloc (.cells #[.int .i64 (sp1), .int .i64 (sp2)] 28))
  replace s9 := Lib.hid ((s9.out.below hb).alloc (.cells #[.int .i64 (sp1), .int .i64 (sp2)] 28))
  replace s10 := Lib.hid ((s10.out.below hb).alloc (.cells #[.int .i64 (sp1), .int .i64 (sp2)] 28))
  have HB11 := HB.out.trans (hb.mono HB.out.size)
  clear hb
  have Hkl11 := Lib.hid HB11.size; replace HB := Lib.hid (HB11.alloc HB11.size (.cells #[.int .i64 (sp1), .int .i64 (sp2)] 28))
  clear HB11
  have s11 := Lib.hid (SpBox.new wn11 (sp1) (sp2))
  obtain ⟨k11, hk11⟩ : ∃ x, x = wn11.heap.size := ⟨_, rfl⟩
  rw [← hk11] at s11 Hkl11
  go_upto_region 15 with fail
  rw [← hk11]
  obtain ⟨X11, hX11⟩ : ∃ X, X = wn11.alloc (.cells #[.int .i64 (sp1), .int .i64 (sp2)] 28) := ⟨_, rfl⟩
  rw [← hX11] at s1 s2 s5 s6 s7 s8 s9 s10 s11 HB ⊢
  clear hk11 hX11
  clear p0 p1' pz
  have p0 := s1.out.c0; have p1' := s1.out.c1; have pz := s1.out.lt
  go_wp2_with fail
  refine Calls.mono (C6.out _ (HT.out.below HB.out)) ?_
  rintro e wn12 ⟨rfl, hb⟩
  replace s1 := Lib.hid ((s1.out.below hb).alloc (.cells #[.int .i64 (cp1), .int .i64 (cp2)] 28))
  replace s2 := Lib.hid ((s2.out.below hb).alloc (.cells #[.int .i64 (cp1), .int .i64 (cp2)] 28))
  replace s5 := Lib.hid ((s5.out.below hb).alloc (.cells #[.int .i64 (cp1), .int .i64 (cp2)] 28))
  replace s6 := Lib.hid ((s6.out.below hb).alloc (.cells #[.int .i64 (cp1), .int .i64 (cp2)] 28))
  replace s7 := Lib.hid ((s7.out.below hb).alloc (.cells #[.int .i64 (cp1), .int .i64 (cp2)] 28))
  replace s8 := Lib.hid ((s8.out.below hb).alloc (.cells #[.int .i64 (cp1), .int .i64 (cp2)] 28))
  replace s9 := Lib.hid ((s9.out.below hb).alloc (.cells #[.int .i64 (cp1), .int .i64 (cp2)] 28))
  replace s10 := Lib.hid ((s10.out.below hb).alloc (.cells #[.int .i64 (cp1), .int .i64 (cp2)] 28))
  replace s11 := Lib.hid ((s11.out.below hb).alloc (.cells #[.int .i64 (cp1), .int .i64 (cp2)] 28))
  have HB12 := HB.out.trans (hb.mono HB.out.size)
  clear hb
  have Hkl12 := Lib.hid HB12.size; replace HB := Lib.hid (HB12.alloc HB12.size (.cells #[.int .i64 (cp1), .int .i64 (cp2)] 28))
  clear HB12
  have s12 := Lib.hid (SpBox.new wn12 (cp1) (cp2))
  obtain ⟨k12, hk12⟩ : ∃ x, x = wn12.heap.size := ⟨_, rfl⟩
  rw [← hk12] at s12 Hkl12
  go_upto_region 16 with fail
  rw [← hk12]
  obtain ⟨X12, hX12⟩ : ∃ X, X = wn12.alloc (.cells #[.int .i64 (cp1), .int .i64 (cp2)] 28) := ⟨_, rfl⟩
  rw [← hX12] at s1 s2 s5 s6 s7 s8 s9 s10 s11 s12 HB ⊢
  clear hk12 hX12
  clear p0 p1' pz
  have sc6_0 := s6.out.c0; have sc6_1 := s6.out.c1; have sc6_l := s6.out.lt
  go_wp2_with fail
  refine Calls.mono (C7.out _ (HT.out.below HB.out)) ?_
  rintro e wn13 ⟨rfl, hb⟩
  replace s1 := Lib.hid ((s1.out.below hb).alloc (.cells #[.int .i64 (ss1), .int .i64 (ss2)] 28))
  replace s2 := Lib.hid ((s2.out.below hb).alloc (.cells #[.int .i64 (ss1), .int .i64 (ss2)] 28))
  replace s5 := Lib.hid ((s5.out.below hb).alloc (.cells #[.int .i64 (ss1), .int .i64 (ss2)] 28))
  replace s6 := Lib.hid ((s6.out.below hb).alloc (.cells #[.int .i64 (ss1), .int .i64 (ss2)] 28))
  replace s7 := Lib.hid ((s7.out.below hb).alloc (.cells #[.int .i64 (ss1), .int .i64 (ss2)] 28))
  replace s8 := Lib.hid ((s8.out.below hb).alloc (.cells #[.int .i64 (ss1), .int .i64 (ss2)] 28))
  replace s9 := Lib.hid ((s9.out.below hb).alloc (.cells #[.int .i64 (ss1), .int .i64 (ss2)] 28))
  replace s10 := Lib.hid ((s10.out.below hb).alloc (.cells #[.int .i64 (ss1), .int .i64 (ss2)] 28))
  replace s11 := Lib.hid ((s11.out.below hb).alloc (.cells #[.int .i64 (ss1), .int .i64 (ss2)] 28))
  replace s12 := Lib.hid ((s12.out.below hb).alloc (.cells #[.int .i64 (ss1), .int .i64 (ss2)] 28))
  have HB13 := HB.out.trans (hb.mono HB.out.size)
  clear sc6_0 sc6_1 sc6_l
  clear hb
  have Hkl13 := Lib.hid HB13.size; replace HB := Lib.hid (HB13.alloc HB13.size (.cells #[.int .i64 (ss1), .int .i64 (ss2)] 28))
  clear HB13
  have s13 := Lib.hid (SpBox.new wn13 (ss1) (ss2))
  obtain ⟨k13, hk13⟩ : ∃ x, x = wn13.heap.size := ⟨_, rfl⟩
  rw [← hk13] at s13 Hkl13
  go_upto_region 17 with fail
  rw [← hk13]
  obtain ⟨X13, hX13⟩ : ∃ X, X = wn13.alloc (.cells #[.int .i64 (ss1), .int .i64 (ss2)] 28) := ⟨_, rfl⟩
  rw [← hX13] at s1 s2 s5 s6 s7 s8 s9 s10 s11 s12 s13 HB ⊢
  clear hk13 hX13
  have sc6_0 := s6.out.c0; have sc6_1 := s6.out.c1; have sc6_l := s6.out.lt
  go_wp2_with fail
  refine Calls.mono (C8.out _ (HT.out.below HB.out)) ?_
  rintro e wn14 ⟨rfl, hb⟩
  replace s1 := Lib.hid ((s1.out.below hb).alloc (.cells #[.int .i64 (cs1), .int .i64 (cs2)] 28))
  replace s2 := Lib.hid ((s2.out.below hb).alloc (.cells #[.int .i64 (cs1), .int .i64 (cs2)] 28))
  replace s5 := Lib.hid ((s5.out.below hb).alloc (.cells #[.int .i64 (cs1), .int .i64 (cs2)] 28))
  replace s6 := Lib.hid ((s6.out.below hb).alloc (.cells #[.int .i64 (cs1), .int .i64 (cs2)] 28))
  replace s7 := Lib.hid ((s7.out.below hb).alloc (.cells #[.int .i64 (cs1), .int .i64 (cs2)] 28))
  replace s8 := Lib.hid ((s8.out.below hb).alloc (.cells #[.int .i64 (cs1), .int .i64 (cs2)] 28))
  replace s9 := Lib.hid ((s9.out.below hb).alloc (.cells #[.int .i64 (cs1), .int .i64 (cs2)] 28))
  replace s10 := Lib.hid ((s10.out.below hb).alloc (.cells #[.int .i64 (cs1), .int .i64 (cs2)] 28))
  replace s11 := Lib.hid ((s11.out.below hb).alloc (.cells #[.int .i64 (cs1), .int .i64 (cs2)] 28))
  replace s12 := Lib.hid ((s12.out.below hb).alloc (.cells #[.int .i64 (cs1), .int .i64 (cs2)] 28))
  replace s13 := Lib.hid ((s13.out.below hb).alloc (.cells #[.int .i64 (cs1), .int .i64 (cs2)] 28))
  have HB14 := HB.out.trans (hb.mono HB.out.size)
  clear sc6_0 sc6_1 sc6_l
  clear hb
  have Hkl14 := Lib.hid HB14.size; replace HB := Lib.hid (HB14.alloc HB14.size (.cells #[.int .i64 (cs1), .int .i64 (cs2)] 28))
  clear HB14
  have s14 := Lib.hid (SpBox.new wn14 (cs1) (cs2))
  obtain ⟨k14, hk14⟩ : ∃ x, x = wn14.heap.size := ⟨_, rfl⟩
  rw [← hk14] at s14 Hkl14
  go_upto_region 18 with fail
  rw [← hk14]
  obtain ⟨X14, hX14⟩ : ∃ X, X = wn14.alloc (.cells #[.int .i64 (cs1), .int .i64 (cs2)] 28) := ⟨_, rfl⟩
  rw [← hX14] at s1 s2 s5 s6 s7 s8 s9 s10 s11 s12 s13 s14 HB ⊢
  clear hk14 hX14
  clear C1 C2 C3 C4 C5 C6 C7 C8 HT
  clear s1
  clear s2
  clear s6
  obtain ⟨XD1, hXD1⟩ : ∃ x, x = X14.drew := ⟨_, rfl⟩
  have hbx5 : Hid (SpBox XD1 (k5) (h1) (h2)) := Lib.hid (by rw [hXD1]; exact s5.out.drew)
  have hbx7 : Hid (SpBox XD1 (k7) (sl1) (sl2)) := Lib.hid (by rw [hXD1]; exact s7.out.drew)
  have hbx8 : Hid (SpBox XD1 (k8) (cl1) (cl2)) := Lib.hid (by rw [hXD1]; exact s8.out.drew)
  have hbx9 : Hid (SpBox XD1 (k9) (se1) (se2)) := Lib.hid (by rw [hXD1]; exact s9.out.drew)
  have hbx10 : Hid (SpBox XD1 (k10) (ce1) (ce2)) := Lib.hid (by rw [hXD1]; exact s10.out.drew)
  have hbx11 : Hid (SpBox XD1 (k11) (sp1) (sp2)) := Lib.hid (by rw [hXD1]; exact s11.out.drew)
  have hbx12 : Hid (SpBox XD1 (k12) (cp1) (cp2)) := Lib.hid (by rw [hXD1]; exact s12.out.drew)
  have hbx13 : Hid (SpBox XD1 (k13) (ss1) (ss2)) := Lib.hid (by rw [hXD1]; exact s13.out.drew)
  have hbx14 : Hid (SpBox XD1 (k14) (cs1) (cs2)) := Lib.hid (by rw [hXD1]; exact s14.out.drew)
  have hbW : Hid (Below w.heap.size w XD1) := Lib.hid (by rw [hXD1]; exact HB.out.drew)
  have HXD1 := Lib.hid hXD1; clear hXD1 s5 s7 s8 s9 s10 s11 s12 s13 s14 HB
  have hf := Below.refl XD1.heap.size XD1
  go_cut [30] (fun sv wx => ∃ bn : Nat, sv = .pointer (some ⟨bn, 0, none⟩) ∧ Hid (w.heap.size ≤ bn) ∧ Hid (SpBox wx bn (u1) (u2)) ∧ Hid (SpBox wx (k5) (h1) (h2)) ∧ Hid (SpBox wx (k7) (sl1) (sl2)) ∧ Hid (SpBox wx (k8) (cl1) (cl2)) ∧ Hid (SpBox wx (k9) (se1) (se2)) ∧ Hid (SpBox wx (k10) (ce1) (ce2)) ∧ Hid (SpBox wx (k11) (sp1) (sp2)) ∧ Hid (SpBox wx (k12) (cp1) (cp2)) ∧ Hid (SpBox wx (k13) (ss1) (ss2)) ∧ Hid (SpBox wx (k14) (cs1) (cs2)) ∧ Hid (Below w.heap.size w wx))
  case first =>
    refine wp_region_G [(6, fun w' => Below XD1.heap.size XD1 w')] (by kernel_rfl) (heldC_one (fun _ => by rw [← HXD1.out]; exact hf)) (fun hF => ?_)
    rw [← HXD1.out] at hF ⊢
    refine wpG_take (oi := ?oi140) (v := ?vv140) 0 _ ?hi140 (List.Mem.head _) ?hc140 ?hQ140 hF ?hw140 ?hy140 (fun hF => ?hh140)
    case hi140 => (simp only [List.getElem?_toArray, List.getElem?_cons_succ, List.getElem?_cons_zero]; rfl)
    case hc140 => kernel_rfl
    case hQ140 => exact fun _ _ _ h => h
    case hw140 => rfl
    case hy140 => (intro wz hz; have zb := hbx11.out.below hz; have z0 := zb.c0; have z1 := zb.c1; go_simp; try (with_reducible rfl))
    try simp only [Act.put, List.setIfInBounds_toArray, List.set_cons_zero, List.set_cons_succ]
    refine wpG_take (oi := ?oi141) (v := ?vv141) 1 _ ?hi141 (List.Mem.head _) ?hc141 ?hQ141 hF ?hw141 ?hy141 (fun hF => ?hh141)
    case hi141 => (simp only [List.getElem?_toArray, List.getElem?_cons_succ, List.getElem?_cons_zero]; rfl)
    case hc141 => kernel_rfl
    case hQ141 => exact fun _ _ _ h => h
    case hw141 => rfl
    case hy141 => (intro wz hz; have zb := hbx7.out.below hz; have z0 := zb.c0; have z1 := zb.c1; go_simp; try (with_reducible rfl))
    try simp only [Act.put, List.setIfInBounds_toArray, List.set_cons_zero, List.set_cons_succ]
    refine wpG_take (oi := ?oi142) (v := ?vv142) 2 _ ?hi142 (List.Mem.head _) ?hc142 ?hQ142 hF ?hw142 ?hy142 (fun hF => ?hh142)
    case hi142 => (simp only [List.getElem?_toArray, List.getElem?_cons_succ, List.getElem?_cons_zero]; rfl)
    case hc142 => kernel_rfl
    case hQ142 => exact fun _ _ _ h => h
    case hw142 => rfl
    case hy142 => (intro wz hz; have zb := hbx9.out.below hz; have z0 := zb.c0; have z1 := zb.c1; go_simp; try (with_reducible rfl))
    try simp only [Act.put, List.setIfInBounds_toArray, List.set_cons_zero, List.set_cons_succ]
    apply mergeWN (S := fun W bn => Below XD1.heap.size XD1 W ∧ (SpBox W bn 0 0 ∧ XD1.heap.size ≤ bn))
    intro k1_20
    apply mergeW (S := fun W => Below XD1.heap.size XD1 W)
    intro k1_2n
    apply mergeWN (S := fun W bn => Below XD1.heap.size XD1 W ∧ (SpBox W bn 0 0 ∧ XD1.heap.size ≤ bn))
    intro k1_10
    apply mergeW (S := fun W => Below XD1.heap.size XD1 W)
    intro k1_1n
    apply mergeWN (S := fun W bn => Below XD1.heap.size XD1 W ∧ (SpBox W bn 0 0 ∧ XD1.heap.size ≤ bn))
    intro k1_00
    · have hf := hf
      refine wpG_ready (rs := [3, 5]) (by kernel_rfl) (by simp) ?_
      refine all_two ?_ ?_
      · skip
        refine wpOp_hand (oi := ?oi143) ?hi143 (fun K hK => ?hh143)
        case hi143 => (simp only [List.getElem?_toArray, List.getElem?_cons_succ, List.getElem?_cons_zero]; rfl)
        go_simp
        refine Calls.mono (U1.out _) ?_
        rintro e Va1_1 ⟨rfl, hb⟩
        have hfn := hf.trans (hb.mono hf.size)
        clear hf hb
        have hf := hfn
        clear hfn
        refine hK.out _ _ (heldC_one (fun _ => hf)) (fun hF => ?_)
        clear hK K
        try simp only [Act.put, List.setIfInBounds_toArray, List.set_cons_zero, List.set_cons_succ]
        refine wpG_marks (l' := #[true, true, true, true, false, false, false]) (by kernel_rfl) ?_
        with_reducible exact k1_1n Va1_1 hf
      · skip
        refine wpOp_hand (oi := ?oi144) ?hi144 (fun K hK => ?hh144)
        case hi144 => (simp only [List.getElem?_toArray, List.getElem?_cons_succ, List.getElem?_cons_zero]; rfl)
        go_simp
        have hn := SpBox.new XD1 0 0
        have hfn := hf.alloc hf.size (.cells #[.int .i64 0, .int .i64 0] 28)
        obtain ⟨bn, hbn⟩ : ∃ b, b = XD1.heap.size := ⟨_, rfl⟩
        obtain ⟨Y, hY⟩ : ∃ Y, Y = XD1.alloc (.cells #[.int .i64 0, .int .i64 0] 28) := ⟨_, rfl⟩
        rw [← hY] at hfn hn ⊢
        have dn : XD1.heap.size ≤ bn := by rw [hbn]; exact hf.size
        rw [← hbn] at hn ⊢
        clear hf hY hbn
        have hf := hfn
        clear hfn
        refine hK.out _ _ (heldC_one (fun _ => hf)) (fun hF => ?_)
        clear hK K
        try simp only [Act.put, List.setIfInBounds_toArray, List.set_cons_zero, List.set_cons_succ]
        refine wpG_marks (l' := #[true, true, true, false, false, true, false]) (by kernel_rfl) ?_
        with_reducible exact k1_00 Y bn ⟨hf, ⟨hn, dn⟩⟩
    · rintro W bn ⟨hf, ⟨hn, dn⟩⟩
      refine wpG_ready (rs := [3]) (by kernel_rfl) (by simp) ?_
      refine all_one ?_
      refine wpOp_hand (oi := ?oi145) ?hi145 (fun K hK => ?hh145)
      case hi145 => (simp only [List.getElem?_toArray, List.getElem?_cons_succ, List.getElem?_cons_zero]; rfl)
      go_simp
      refine Calls.mono (U1.out _) ?_
      rintro e Va1_2 ⟨rfl, hb⟩
      have hnn := hn.below hb; clear hn; have hn := hnn; clear hnn
      have hfn := hf.trans (hb.mono hf.size)
      clear hf hb
      have hf := hfn
      clear hfn
      refine hK.out _ _ (heldC_one (fun _ => hf)) (fun hF => ?_)
      clear hK K
      try simp only [Act.put, List.setIfInBounds_toArray, List.set_cons_zero, List.set_cons_succ]
      refine wpG_marks (l' := #[true, true, true, true, false, true, false]) (by kernel_rfl) ?_
      with_reducible exact k1_10 Va1_2 bn ⟨hf, ⟨hn, dn⟩⟩
    · rintro W hf
      refine wpG_ready (rs := [4, 5]) (by kernel_rfl) (by simp) ?_
      refine all_two ?_ ?_
      · skip
        refine wpOp_hand (oi := ?oi146) ?hi146 (fun K hK => ?hh146)
        case hi146 => (simp only [List.getElem?_toArray, List.getElem?_cons_succ, List.getElem?_cons_zero]; rfl)
        go_simp
        refine Calls.mono (U2.out _) ?_
        rintro e Va1_3 ⟨rfl, hb⟩
        have hfn := hf.trans (hb.mono hf.size)
        clear hf hb
        have hf := hfn
        clear hfn
        refine hK.out _ _ (heldC_one (fun _ => hf)) (fun hF => ?_)
        clear hK K
        try simp only [Act.put, List.setIfInBounds_toArray, List.set_cons_zero, List.set_cons_succ]
        refine wpG_marks (l' := #[true, true, true, true, true, false, false]) (by kernel_rfl) ?_
        with_reducible exact k1_2n Va1_3 hf
      · skip
        refine wpOp_hand (oi := ?oi147) ?hi147 (fun K hK => ?hh147)
        case hi147 => (simp only [List.getElem?_toArray, List.getElem?_cons_succ, List.getElem?_cons_zero]; rfl)
        go_simp
        have hn := SpBox.new W 0 0
        have hfn := hf.alloc hf.size (.cells #[.int .i64 0, .int .i64 0] 28)
        obtain ⟨bn, hbn⟩ : ∃ b, b = W.heap.size := ⟨_, rfl⟩
        obtain ⟨Y, hY⟩ : ∃ Y, Y = W.alloc (.cells #[.int .i64 0, .int .i64 0] 28) := ⟨_, rfl⟩
        rw [← hY] at hfn hn ⊢
        have dn : XD1.heap.size ≤ bn := by rw [hbn]; exact hf.size
        rw [← hbn] at hn ⊢
        clear hf hY hbn
        have hf := hfn
        clear hfn
        refine hK.out _ _ (heldC_one (fun _ => hf)) (fun hF => ?_)
        clear hK K
        try simp only [Act.put, List.setIfInBounds_toArray, List.set_cons_zero, List.set_cons_succ]
        refine wpG_marks (l' := #[true, true, true, true, false, true, false]) (by kernel_rfl) ?_
        with_reducible exact k1_10 Y bn ⟨hf, ⟨hn, dn⟩⟩
    · rintro W bn ⟨hf, ⟨hn, dn⟩⟩
      refine wpG_ready (rs := [4]) (by kernel_rfl) (by simp) ?_
      refine all_one ?_
      refine wpOp_hand (oi := ?oi148) ?hi148 (fun K hK => ?hh148)
      case hi148 => (simp only [List.getElem?_toArray, List.getElem?_cons_succ, List.getElem?_cons_zero]; rfl)
      go_simp
      refine Calls.mono (U2.out _) ?_
      rintro e Va1_4 ⟨rfl, hb⟩
      have hnn := hn.below hb; clear hn; have hn := hnn; clear hnn
      have hfn := hf.trans (hb.mono hf.size)
      clear hf hb
      have hf := hfn
      clear hfn
      refine hK.out _ _ (heldC_one (fun _ => hf)) (fun hF => ?_)
      clear hK K
      try simp only [Act.put, List.setIfInBounds_toArray, List.set_cons_zero, List.set_cons_succ]
      refine wpG_marks (l' := #[true, true, true, true, true, true, false]) (by kernel_rfl) ?_
      with_reducible exact k1_20 Va1_4 bn ⟨hf, ⟨hn, dn⟩⟩
    · rintro W hf
      refine wpG_ready (rs := [5]) (by kernel_rfl) (by simp) ?_
      refine all_one ?_
      refine wpOp_hand (oi := ?oi149) ?hi149 (fun K hK => ?hh149)
      case hi149 => (simp only [List.getElem?_toArray, List.getElem?_cons_succ, List.getElem?_cons_zero]; rfl)
      go_simp
      have hn := SpBox.new W 0 0
      have hfn := hf.alloc hf.size (.cells #[.int .i64 0, .int .i64 0] 28)
      obtain ⟨bn, hbn⟩ : ∃ b, b = W.heap.size := ⟨_, rfl⟩
      obtain ⟨Y, hY⟩ : ∃ Y, Y = W.alloc (.cells #[.int .i64 0, .int .i64 0] 28) := ⟨_, rfl⟩
      rw [← hY] at hfn hn ⊢
      have dn : XD1.heap.size ≤ bn := by rw [hbn]; exact hf.size
      rw [← hbn] at hn ⊢
      clear hf hY hbn
      have hf := hfn
      clear hfn
      refine hK.out _ _ (heldC_one (fun _ => hf)) (fun hF => ?_)
      clear hK K
      try simp only [Act.put, List.setIfInBounds_toArray, List.set_cons_zero, List.set_cons_succ]
      refine wpG_marks (l' := #[true, true, true, true, true, true, false]) (by kernel_rfl) ?_
      with_reducible exact k1_20 Y bn ⟨hf, ⟨hn, dn⟩⟩
    · rintro W bn ⟨hf, ⟨hn, dn⟩⟩
      refine wpG_ready (rs := [6]) (by kernel_rfl) (by simp) ?_
      refine all_one ?_
      have zz0 := hn.c0; have zz0f := hn.free 0; have zz1 := hn.c1; have zz1f := hn.free 1; have zzl := hn.lt
      refine wpOp_hand (oi := ?oi150) ?hi150 (fun K hK => ?hh150)
      case hi150 => (simp only [List.getElem?_toArray, List.getElem?_cons_succ, List.getElem?_cons_zero]; rfl)
      go_simp
      have hnn := hn.set (u1) (u2)
      clear zz0 zz0f zz1 zz1f zzl hn
      have hn := hnn; clear hnn
      have hfn := (hf.setCell (p := ⟨bn, 0, none⟩) dn (.int .i64 (u1))).setCell (p := ⟨bn, 1, none⟩) dn (.int .i64 (u2))
      clear hf
      have hf := hfn
      clear hfn
      refine hK.out _ _ (heldC_one (fun h => absurd h (by simp))) (fun hF => ?_)
      clear hK K
      try simp only [Act.put, List.setIfInBounds_toArray, List.set_cons_zero, List.set_cons_succ]
      refine wpG_done (by kernel_rfl) ?_ _
      go_wp2_with fail
      go_meet
      exact ⟨bn, rfl, Lib.hid (Nat.le_trans hbW.out.size dn), Lib.hid hn, Lib.hid (hbx5.out.below hf), Lib.hid (hbx7.out.below hf), Lib.hid (hbx8.out.below hf), Lib.hid (hbx9.out.below hf), Lib.hid (hbx10.out.below hf), Lib.hid (hbx11.out.below hf), Lib.hid (hbx12.out.below hf), Lib.hid (hbx13.out.below hf), Lib.hid (hbx14.out.below hf), Lib.hid (hbW.out.trans (hf.mono hbW.out.size))⟩
  case rest =>
  obtain ⟨k15, rfl, Hkl15, s15, s5, s7, s8, s9, s10, s11, s12, s13, s14, HB⟩ := hcut
  obtain ⟨X15, hX15⟩ : ∃ X, X = wc := ⟨_, rfl⟩
  subst hX15
  clear HXD1 hf hbW hbx5 hbx7 hbx8 hbx9 hbx10 hbx11 hbx12 hbx13 hbx14
  clear U1 U2
  clear s9
  clear s11
  go_upto_region 19 with fail
  obtain ⟨XD2, hXD2⟩ : ∃ x, x = X15.drew := ⟨_, rfl⟩
  have hbx5 : Hid (SpBox XD2 (k5) (h1) (h2)) := Lib.hid (by rw [hXD2]; exact s5.out.drew)
  have hbx7 : Hid (SpBox XD2 (k7) (sl1) (sl2)) := Lib.hid (by rw [hXD2]; exact s7.out.drew)
  have hbx8 : Hid (SpBox XD2 (k8) (cl1) (cl2)) := Lib.hid (by rw [hXD2]; exact s8.out.drew)
  have hbx10 : Hid (SpBox XD2 (k10) (ce1) (ce2)) := Lib.hid (by rw [hXD2]; exact s10.out.drew)
  have hbx12 : Hid (SpBox XD2 (k12) (cp1) (cp2)) := Lib.hid (by rw [hXD2]; exact s12.out.drew)
  have hbx13 : Hid (SpBox XD2 (k13) (ss1) (ss2)) := Lib.hid (by rw [hXD2]; exact s13.out.drew)
  have hbx14 : Hid (SpBox XD2 (k14) (cs1) (cs2)) := Lib.hid (by rw [hXD2]; exact s14.out.drew)
  have hbx15 : Hid (SpBox XD2 (k15) (u1) (u2)) := Lib.hid (by rw [hXD2]; exact s15.out.drew)
  have hbW : Hid (Below w.heap.size w XD2) := Lib.hid (by rw [hXD2]; exact HB.out.drew)
  have HXD2 := Lib.hid hXD2; clear hXD2 s5 s7 s8 s10 s12 s13 s14 s15 HB
  have hf := Below.refl XD2.heap.size XD2
  go_cut [31, 32] (fun sv se wx => ∃ bn bm : Nat, sv = .pointer (some ⟨bn, 0, none⟩) ∧ se = .pointer (some ⟨bm, 0, none⟩) ∧ Hid (w.heap.size ≤ bn) ∧ Hid (w.heap.size ≤ bm) ∧ Hid (SpBox wx bn (x1) (x2)) ∧ Hid (SpBox wx bm (y1) (y2)) ∧ Hid (SpBox wx (k5) (h1) (h2)) ∧ Hid (SpBox wx (k7) (sl1) (sl2)) ∧ Hid (SpBox wx (k8) (cl1) (cl2)) ∧ Hid (SpBox wx (k10) (ce1) (ce2)) ∧ Hid (SpBox wx (k12) (cp1) (cp2)) ∧ Hid (SpBox wx (k13) (ss1) (ss2)) ∧ Hid (SpBox wx (k14) (cs1) (cs2)) ∧ Hid (SpBox wx (k15) (u1) (u2)) ∧ Hid (Below w.heap.size w wx))
  case first =>
    refine wp_region_G [(15, fun w' => Below XD2.heap.size XD2 w')] (by kernel_rfl) (heldC_one (fun _ => by rw [← HXD2.out]; exact hf)) (fun hF => ?_)
    rw [← HXD2.out] at hF ⊢
    refine wpG_take (oi := ?oi151) (v := ?vv151) 0 _ ?hi151 (List.Mem.head _) ?hc151 ?hQ151 hF ?hw151 ?hy151 (fun hF => ?hh151)
    case hi151 => (simp only [List.getElem?_toArray, List.getElem?_cons_succ, List.getElem?_cons_zero]; rfl)
    case hc151 => kernel_rfl
    case hQ151 => exact fun _ _ _ h => h
    case hw151 => rfl
    case hy151 => (intro wz hz; have zb := hbx12.out.below hz; have z0 := zb.c0; have z1 := zb.c1; go_simp; try (with_reducible rfl))
    try simp only [Act.put, List.setIfInBounds_toArray, List.set_cons_zero, List.set_cons_succ]
    refine wpG_take (oi := ?oi152) (v := ?vv152) 1 _ ?hi152 (List.Mem.head _) ?hc152 ?hQ152 hF ?hw152 ?hy152 (fun hF => ?hh152)
    case hi152 => (simp only [List.getElem?_toArray, List.getElem?_cons_succ, List.getElem?_cons_zero]; rfl)
    case hc152 => kernel_rfl
    case hQ152 => exact fun _ _ _ h => h
    case hw152 => rfl
    case hy152 => (intro wz hz; have zb := hbx14.out.below hz; have z0 := zb.c0; have z1 := zb.c1; go_simp; try (with_reducible rfl))
    try simp only [Act.put, List.setIfInBounds_toArray, List.set_cons_zero, List.set_cons_succ]
    refine wpG_take (oi := ?oi153) (v := ?vv153) 2 _ ?hi153 (List.Mem.head _) ?hc153 ?hQ153 hF ?hw153 ?hy153 (fun hF => ?hh153)
    case hi153 => (simp only [List.getElem?_toArray, List.getElem?_cons_succ, List.getElem?_cons_zero]; rfl)
    case hc153 => kernel_rfl
    case hQ153 => exact fun _ _ _ h => h
    case hw153 => rfl
    case hy153 => (intro wz hz; have zb := hbx8.out.below hz; have z0 := zb.c0; have z1 := zb.c1; go_simp; try (with_reducible rfl))
    try simp only [Act.put, List.setIfInBounds_toArray, List.set_cons_zero, List.set_cons_succ]
    refine wpG_take (oi := ?oi154) (v := ?vv154) 5 _ ?hi154 (List.Mem.head _) ?hc154 ?hQ154 hF ?hw154 ?hy154 (fun hF => ?hh154)
    case hi154 => (simp only [List.getElem?_toArray, List.getElem?_cons_succ, List.getElem?_cons_zero]; rfl)
    case hc154 => kernel_rfl
    case hQ154 => exact fun _ _ _ h => h
    case hw154 => rfl
    case hy154 => (intro wz hz; have zb := hbx12.out.below hz; have z0 := zb.c0; have z1 := zb.c1; go_simp; try (with_reducible rfl))
    try simp only [Act.put, List.setIfInBounds_toArray, List.set_cons_zero, List.set_cons_succ]
    refine wpG_take (oi := ?oi155) (v := ?vv155) 6 _ ?hi155 (List.Mem.head _) ?hc155 ?hQ155 hF ?hw155 ?hy155 (fun hF => ?hh155)
    case hi155 => (simp only [List.getElem?_toArray, List.getElem?_cons_succ, List.getElem?_cons_zero]; rfl)
    case hc155 => kernel_rfl
    case hQ155 => exact fun _ _ _ h => h
    case hw155 => rfl
    case hy155 => (intro wz hz; have zb := hbx13.out.below hz; have z0 := zb.c0; have z1 := zb.c1; go_simp; try (with_reducible rfl))
    try simp only [Act.put, List.setIfInBounds_toArray, List.set_cons_zero, List.set_cons_succ]
    refine wpG_take (oi := ?oi156) (v := ?vv156) 7 _ ?hi156 (List.Mem.head _) ?hc156 ?hQ156 hF ?hw156 ?hy156 (fun hF => ?hh156)
    case hi156 => (simp only [List.getElem?_toArray, List.getElem?_cons_succ, List.getElem?_cons_zero]; rfl)
    case hc156 => kernel_rfl
    case hQ156 => exact fun _ _ _ h => h
    case hw156 => rfl
    case hy156 => (intro wz hz; have zb := hbx7.out.below hz; have z0 := zb.c0; have z1 := zb.c1; go_simp; try (with_reducible rfl))
    try simp only [Act.put, List.setIfInBounds_toArray, List.set_cons_zero, List.set_cons_succ]
    refine wpG_take (oi := ?oi157) (v := ?vv157) 8 _ ?hi157 (List.Mem.head _) ?hc157 ?hQ157 hF ?hw157 ?hy157 (fun hF => ?hh157)
    case hi157 => (simp only [List.getElem?_toArray, List.getElem?_cons_succ, List.getElem?_cons_zero]; rfl)
    case hc157 => kernel_rfl
    case hQ157 => exact fun _ _ _ h => h
    case hw157 => rfl
    case hy157 => (intro wz hz; have zb := hbx10.out.below hz; have z0 := zb.c0; have z1 := zb.c1; go_simp; try (with_reducible rfl))
    try simp only [Act.put, List.setIfInBounds_toArray, List.set_cons_zero, List.set_cons_succ]
    apply mergeWNN (S := fun W bn bm => Below XD2.heap.size XD2 W ∧ (SpBox W bn 0 0 ∧ XD2.heap.size ≤ bn) ∧ (SpBox W bm 0 0 ∧ XD2.heap.size ≤ bm) ∧ bn ≠ bm)
    intro k2_501
    apply mergeWN (S := fun W bm => Below XD2.heap.size XD2 W ∧ (SpBox W bm 0 0 ∧ XD2.heap.size ≤ bm))
    intro k2_51
    apply mergeWN (S := fun W bn => Below XD2.heap.size XD2 W ∧ (SpBox W bn 0 0 ∧ XD2.heap.size ≤ bn))
    intro k2_50
    apply mergeWNN (S := fun W bn bm => Below XD2.heap.size XD2 W ∧ (SpBox W bn 0 0 ∧ XD2.heap.size ≤ bn) ∧ (SpBox W bm 0 0 ∧ XD2.heap.size ≤ bm) ∧ bn ≠ bm)
    intro k2_401
    apply mergeW (S := fun W => Below XD2.heap.size XD2 W)
    intro k2_5n
    apply mergeWN (S := fun W bm => Below XD2.heap.size XD2 W ∧ (SpBox W bm 0 0 ∧ XD2.heap.size ≤ bm))
    intro k2_41
    apply mergeWN (S := fun W bn => Below XD2.heap.size XD2 W ∧ (SpBox W bn 0 0 ∧ XD2.heap.size ≤ bn))
    intro k2_40
    apply mergeWNN (S := fun W bn bm => Below XD2.heap.size XD2 W ∧ (SpBox W bn 0 0 ∧ XD2.heap.size ≤ bn) ∧ (SpBox W bm 0 0 ∧ XD2.heap.size ≤ bm) ∧ bn ≠ bm)
    intro k2_301
    apply mergeW (S := fun W => Below XD2.heap.size XD2 W)
    intro k2_4n
    apply mergeWN (S := fun W bm => Below XD2.heap.size XD2 W ∧ (SpBox W bm 0 0 ∧ XD2.heap.size ≤ bm))
    intro k2_31
    apply mergeWN (S := fun W bn => Below XD2.heap.size XD2 W ∧ (SpBox W bn 0 0 ∧ XD2.heap.size ≤ bn))
    intro k2_30
    apply mergeWNN (S := fun W bn bm => Below XD2.heap.size XD2 W ∧ (SpBox W bn 0 0 ∧ XD2.heap.size ≤ bn) ∧ (SpBox W bm 0 0 ∧ XD2.heap.size ≤ bm) ∧ bn ≠ bm)
    intro k2_201
    apply mergeW (S := fun W => Below XD2.heap.size XD2 W)
    intro k2_3n
    apply mergeWN (S := fun W bm => Below XD2.heap.size XD2 W ∧ (SpBox W bm 0 0 ∧ XD2.heap.size ≤ bm))
    intro k2_21
    apply mergeWN (S := fun W bn => Below XD2.heap.size XD2 W ∧ (SpBox W bn 0 0 ∧ XD2.heap.size ≤ bn))
    intro k2_20
    apply mergeWNN (S := fun W bn bm => Below XD2.heap.size XD2 W ∧ (SpBox W bn 0 0 ∧ XD2.heap.size ≤ bn) ∧ (SpBox W bm 0 0 ∧ XD2.heap.size ≤ bm) ∧ bn ≠ bm)
    intro k2_101
    apply mergeW (S := fun W => Below XD2.heap.size XD2 W)
    intro k2_2n
    apply mergeWN (S := fun W bm => Below XD2.heap.size XD2 W ∧ (SpBox W bm 0 0 ∧ XD2.heap.size ≤ bm))
    intro k2_11
    apply mergeWN (S := fun W bn => Below XD2.heap.size XD2 W ∧ (SpBox W bn 0 0 ∧ XD2.heap.size ≤ bn))
    intro k2_10
    apply mergeWNN (S := fun W bn bm => Below XD2.heap.size XD2 W ∧ (SpBox W bn 0 0 ∧ XD2.heap.size ≤ bn) ∧ (SpBox W bm 0 0 ∧ XD2.heap.size ≤ bm) ∧ bn ≠ bm)
    intro k2_001
    apply mergeW (S := fun W => Below XD2.heap.size XD2 W)
    intro k2_1n
    apply mergeWN (S := fun W bm => Below XD2.heap.size XD2 W ∧ (SpBox W bm 0 0 ∧ XD2.heap.size ≤ bm))
    intro k2_01
    apply mergeWN (S := fun W bn => Below XD2.heap.size XD2 W ∧ (SpBox W bn 0 0 ∧ XD2.heap.size ≤ bn))
    intro k2_00
    · have hf := hf
      refine wpG_ready (rs := [3, 12, 13]) (by kernel_rfl) (by simp) ?_
      refine all_three ?_ ?_ ?_
      · skip
        refine wpOp_hand (oi := ?oi158) ?hi158 (fun K hK => ?hh158)
        case hi158 => (simp only [List.getElem?_toArray, List.getElem?_cons_succ, List.getElem?_cons_zero]; rfl)
        go_simp
        refine Calls.mono (U3.out _) ?_
        rintro e Va2_1 ⟨rfl, hb⟩
        have hfn := hf.trans (hb.mono hf.size)
        clear hf hb
        have hf := hfn
        clear hfn
        refine hK.out _ _ (heldC_one (fun _ => hf)) (fun hF => ?_)
        clear hK K
        try simp only [Act.put, List.setIfInBounds_toArray, List.set_cons_zero, List.set_cons_succ]
        refine wpG_marks (l' := #[true, true, true, true, false, true, true, true, true, false, false, false, false, false, false, false]) (by kernel_rfl) ?_
        with_reducible exact k2_1n Va2_1 hf
      · skip
        refine wpOp_hand (oi := ?oi159) ?hi159 (fun K hK => ?hh159)
        case hi159 => (simp only [List.getElem?_toArray, List.getElem?_cons_succ, List.getElem?_cons_zero]; rfl)
        go_simp
        have hn := SpBox.new XD2 0 0
        have hfn := hf.alloc hf.size (.cells #[.int .i64 0, .int .i64 0] 28)
        obtain ⟨bn, hbn⟩ : ∃ b, b = XD2.heap.size := ⟨_, rfl⟩
        obtain ⟨Y, hY⟩ : ∃ Y, Y = XD2.alloc (.cells #[.int .i64 0, .int .i64 0] 28) := ⟨_, rfl⟩
        rw [← hY] at hfn hn ⊢
        have dn : XD2.heap.size ≤ bn := by rw [hbn]; exact hf.size
        rw [← hbn] at hn ⊢
        clear hf hY hbn
        have hf := hfn
        clear hfn
        refine hK.out _ _ (heldC_one (fun _ => hf)) (fun hF => ?_)
        clear hK K
        try simp only [Act.put, List.setIfInBounds_toArray, List.set_cons_zero, List.set_cons_succ]
        refine wpG_marks (l' := #[true, true, true, false, false, true, true, true, true, false, false, false, true, false, false, false]) (by kernel_rfl) ?_
        with_reducible exact k2_00 Y bn ⟨hf, ⟨hn, dn⟩⟩
      · skip
        refine wpOp_hand (oi := ?oi160) ?hi160 (fun K hK => ?hh160)
        case hi160 => (simp only [List.getElem?_toArray, List.getElem?_cons_succ, List.getElem?_cons_zero]; rfl)
        go_simp
        have hm := SpBox.new XD2 0 0
        have hfn := hf.alloc hf.size (.cells #[.int .i64 0, .int .i64 0] 28)
        obtain ⟨bm, hbn⟩ : ∃ b, b = XD2.heap.size := ⟨_, rfl⟩
        obtain ⟨Y, hY⟩ : ∃ Y, Y = XD2.alloc (.cells #[.int .i64 0, .int .i64 0] 28) := ⟨_, rfl⟩
        rw [← hY] at hfn hm ⊢
        have dm : XD2.heap.size ≤ bm := by rw [hbn]; exact hf.size
        rw [← hbn] at hm ⊢
        clear hf hY hbn
        have hf := hfn
        clear hfn
        refine hK.out _ _ (heldC_one (fun _ => hf)) (fun hF => ?_)
        clear hK K
        try simp only [Act.put, List.setIfInBounds_toArray, List.set_cons_zero, List.set_cons_succ]
        refine wpG_marks (l' := #[true, true, true, false, false, true, true, true, true, false, false, false, false, true, false, false]) (by kernel_rfl) ?_
        with_reducible exact k2_01 Y bm ⟨hf, ⟨hm, dm⟩⟩
    · rintro W bn ⟨hf, ⟨hn, dn⟩⟩
      refine wpG_ready (rs := [3, 13]) (by kernel_rfl) (by simp) ?_
      refine all_two ?_ ?_
      · skip
        refine wpOp_hand (oi := ?oi161) ?hi161 (fun K hK => ?hh161)
        case hi161 => (simp only [List.getElem?_toArray, List.getElem?_cons_succ, List.getElem?_cons_zero]; rfl)
        go_simp
        refine Calls.mono (U3.out _) ?_
        rintro e Va2_2 ⟨rfl, hb⟩
        have hnn := hn.below hb; clear hn; have hn := hnn; clear hnn
        have hfn := hf.trans (hb.mono hf.size)
        clear hf hb
        have hf := hfn
        clear hfn
        refine hK.out _ _ (heldC_one (fun _ => hf)) (fun hF => ?_)
        clear hK K
        try simp only [Act.put, List.setIfInBounds_toArray, List.set_cons_zero, List.set_cons_succ]
        refine wpG_marks (l' := #[true, true, true, true, false, true, true, true, true, false, false, false, true, false, false, false]) (by kernel_rfl) ?_
        with_reducible exact k2_10 Va2_2 bn ⟨hf, ⟨hn, dn⟩⟩
      · skip
        refine wpOp_hand (oi := ?oi162) ?hi162 (fun K hK => ?hh162)
        case hi162 => (simp only [List.getElem?_toArray, List.getElem?_cons_succ, List.getElem?_cons_zero]; rfl)
        go_simp
        have dl := hn.lt
        have hm := SpBox.new W 0 0
        have hn' := hn.alloc (.cells #[.int .i64 0, .int .i64 0] 28); clear hn
        have hfn := hf.alloc hf.size (.cells #[.int .i64 0, .int .i64 0] 28)
        obtain ⟨bm, hbn⟩ : ∃ b, b = W.heap.size := ⟨_, rfl⟩
        obtain ⟨Y, hY⟩ : ∃ Y, Y = W.alloc (.cells #[.int .i64 0, .int .i64 0] 28) := ⟨_, rfl⟩
        rw [← hY] at hfn hm hn' ⊢
        have dm : XD2.heap.size ≤ bm := by rw [hbn]; exact hf.size
        rw [← hbn] at hm dl ⊢
        have hn := hn'; clear hn'
        have dnm : bn ≠ bm := by omega
        clear hf hY hbn
        have hf := hfn
        clear hfn
        refine hK.out _ _ (heldC_one (fun _ => hf)) (fun hF => ?_)
        clear hK K
        try simp only [Act.put, List.setIfInBounds_toArray, List.set_cons_zero, List.set_cons_succ]
        refine wpG_marks (l' := #[true, true, true, false, false, true, true, true, true, false, false, false, true, true, false, false]) (by kernel_rfl) ?_
        with_reducible exact k2_001 Y bn bm ⟨hf, ⟨hn, dn⟩, ⟨hm, dm⟩, dnm⟩
    · rintro W bm ⟨hf, ⟨hm, dm⟩⟩
      refine wpG_ready (rs := [3, 12]) (by kernel_rfl) (by simp) ?_
      refine all_two ?_ ?_
      · skip
        refine wpOp_hand (oi := ?oi163) ?hi163 (fun K hK => ?hh163)
        case hi163 => (simp only [List.getElem?_toArray, List.getElem?_cons_succ, List.getElem?_cons_zero]; rfl)
        go_simp
        refine Calls.mono (U3.out _) ?_
        rintro e Va2_3 ⟨rfl, hb⟩
        have hnn := hm.below hb; clear hm; have hm := hnn; clear hnn
        have hfn := hf.trans (hb.mono hf.size)
        clear hf hb
        have hf := hfn
        clear hfn
        refine hK.out _ _ (heldC_one (fun _ => hf)) (fun hF => ?_)
        clear hK K
        try simp only [Act.put, List.setIfInBounds_toArray, List.set_cons_zero, List.set_cons_succ]
        refine wpG_marks (l' := #[true, true, true, true, false, true, true, true, true, false, false, false, false, true, false, false]) (by kernel_rfl) ?_
        with_reducible exact k2_11 Va2_3 bm ⟨hf, ⟨hm, dm⟩⟩
      · skip
        refine wpOp_hand (oi := ?oi164) ?hi164 (fun K hK => ?hh164)
        case hi164 => (simp only [List.getElem?_toArray, List.getElem?_cons_succ, List.getElem?_cons_zero]; rfl)
        go_simp
        have dl := hm.lt
        have hn := SpBox.new W 0 0
        have hm' := hm.alloc (.cells #[.int .i64 0, .int .i64 0] 28); clear hm
        have hfn := hf.alloc hf.size (.cells #[.int .i64 0, .int .i64 0] 28)
        obtain ⟨bn, hbn⟩ : ∃ b, b = W.heap.size := ⟨_, rfl⟩
        obtain ⟨Y, hY⟩ : ∃ Y, Y = W.alloc (.cells #[.int .i64 0, .int .i64 0] 28) := ⟨_, rfl⟩
        rw [← hY] at hfn hn hm' ⊢
        have dn : XD2.heap.size ≤ bn := by rw [hbn]; exact hf.size
        rw [← hbn] at hn dl ⊢
        have hm := hm'; clear hm'
        have dnm : bn ≠ bm := by omega
        clear hf hY hbn
        have hf := hfn
        clear hfn
        refine hK.out _ _ (heldC_one (fun _ => hf)) (fun hF => ?_)
        clear hK K
        try simp only [Act.put, List.setIfInBounds_toArray, List.set_cons_zero, List.set_cons_succ]
        refine wpG_marks (l' := #[true, true, true, false, false, true, true, true, true, false, false, false, true, true, false, false]) (by kernel_rfl) ?_
        with_reducible exact k2_001 Y bn bm ⟨hf, ⟨hn, dn⟩, ⟨hm, dm⟩, dnm⟩
    · rintro W hf
      refine wpG_ready (rs := [4, 12, 13]) (by kernel_rfl) (by simp) ?_
      refine all_three ?_ ?_ ?_
      · skip
        refine wpOp_hand (oi := ?oi165) ?hi165 (fun K hK => ?hh165)
        case hi165 => (simp only [List.getElem?_toArray, List.getElem?_cons_succ, List.getElem?_cons_zero]; rfl)
        go_simp
        refine Calls.mono (U4.out _) ?_
        rintro e Va2_4 ⟨rfl, hb⟩
        have hfn := hf.trans (hb.mono hf.size)
        clear hf hb
        have hf := hfn
        clear hfn
        refine hK.out _ _ (heldC_one (fun _ => hf)) (fun hF => ?_)
        clear hK K
        try simp only [Act.put, List.setIfInBounds_toArray, List.set_cons_zero, List.set_cons_succ]
        refine wpG_marks (l' := #[true, true, true, true, true, true, true, true, true, false, false, false, false, false, false, false]) (by kernel_rfl) ?_
        with_reducible exact k2_2n Va2_4 hf
      · skip
        refine wpOp_hand (oi := ?oi166) ?hi166 (fun K hK => ?hh166)
        case hi166 => (simp only [List.getElem?_toArray, List.getElem?_cons_succ, List.getElem?_cons_zero]; rfl)
        go_simp
        have hn := SpBox.new W 0 0
        have hfn := hf.alloc hf.size (.cells #[.int .i64 0, .int .i64 0] 28)
        obtain ⟨bn, hbn⟩ : ∃ b, b = W.heap.size := ⟨_, rfl⟩
        obtain ⟨Y, hY⟩ : ∃ Y, Y = W.alloc (.cells #[.int .i64 0, .int .i64 0] 28) := ⟨_, rfl⟩
        rw [← hY] at hfn hn ⊢
        have dn : XD2.heap.size ≤ bn := by rw [hbn]; exact hf.size
        rw [← hbn] at hn ⊢
        clear hf hY hbn
        have hf := hfn
        clear hfn
        refine hK.out _ _ (heldC_one (fun _ => hf)) (fun hF => ?_)
        clear hK K
        try simp only [Act.put, List.setIfInBounds_toArray, List.set_cons_zero, List.set_cons_succ]
        refine wpG_marks (l' := #[true, true, true, true, false, true, true, true, true, false, false, false, true, false, false, false]) (by kernel_rfl) ?_
        with_reducible exact k2_10 Y bn ⟨hf, ⟨hn, dn⟩⟩
      · skip
        refine wpOp_hand (oi := ?oi167) ?hi167 (fun K hK => ?hh167)
        case hi167 => (simp only [List.getElem?_toArray, List.getElem?_cons_succ, List.getElem?_cons_zero]; rfl)
        go_simp
        have hm := SpBox.new W 0 0
        have hfn := hf.alloc hf.size (.cells #[.int .i64 0, .int .i64 0] 28)
        obtain ⟨bm, hbn⟩ : ∃ b, b = W.heap.size := ⟨_, rfl⟩
        obtain ⟨Y, hY⟩ : ∃ Y, Y = W.alloc (.cells #[.int .i64 0, .int .i64 0] 28) := ⟨_, rfl⟩
        rw [← hY] at hfn hm ⊢
        have dm : XD2.heap.size ≤ bm := by rw [hbn]; exact hf.size
        rw [← hbn] at hm ⊢
        clear hf hY hbn
        have hf := hfn
        clear hfn
        refine hK.out _ _ (heldC_one (fun _ => hf)) (fun hF => ?_)
        clear hK K
        try simp only [Act.put, List.setIfInBounds_toArray, List.set_cons_zero, List.set_cons_succ]
        refine wpG_marks (l' := #[true, true, true, true, false, true, true, true, true, false, false, false, false, true, false, false]) (by kernel_rfl) ?_
        with_reducible exact k2_11 Y bm ⟨hf, ⟨hm, dm⟩⟩
    · rintro W bn bm ⟨hf, ⟨hn, dn⟩, ⟨hm, dm⟩, dnm⟩
      refine wpG_ready (rs := [3]) (by kernel_rfl) (by simp) ?_
      refine all_one ?_
      refine wpOp_hand (oi := ?oi168) ?hi168 (fun K hK => ?hh168)
      case hi168 => (simp only [List.getElem?_toArray, List.getElem?_cons_succ, List.getElem?_cons_zero]; rfl)
      go_simp
      refine Calls.mono (U3.out _) ?_
      rintro e Va2_5 ⟨rfl, hb⟩
      have hnn := hn.below hb; clear hn; have hn := hnn; clear hnn
      have hnn := hm.below hb; clear hm; have hm := hnn; clear hnn
      have hfn := hf.trans (hb.mono hf.size)
      clear hf hb
      have hf := hfn
      clear hfn
      refine hK.out _ _ (heldC_one (fun _ => hf)) (fun hF => ?_)
      clear hK K
      try simp only [Act.put, List.setIfInBounds_toArray, List.set_cons_zero, List.set_cons_succ]
      refine wpG_marks (l' := #[true, true, true, true, false, true, true, true, true, false, false, false, true, true, false, false]) (by kernel_rfl) ?_
      with_reducible exact k2_101 Va2_5 bn bm ⟨hf, ⟨hn, dn⟩, ⟨hm, dm⟩, dnm⟩
    · rintro W bn ⟨hf, ⟨hn, dn⟩⟩
      refine wpG_ready (rs := [4, 13]) (by kernel_rfl) (by simp) ?_
      refine all_two ?_ ?_
      · skip
        refine wpOp_hand (oi := ?oi169) ?hi169 (fun K hK => ?hh169)
        case hi169 => (simp only [List.getElem?_toArray, List.getElem?_cons_succ, List.getElem?_cons_zero]; rfl)
        go_simp
        refine Calls.mono (U4.out _) ?_
        rintro e Va2_6 ⟨rfl, hb⟩
        have hnn := hn.below hb; clear hn; have hn := hnn; clear hnn
        have hfn := hf.trans (hb.mono hf.size)
        clear hf hb
        have hf := hfn
        clear hfn
        refine hK.out _ _ (heldC_one (fun _ => hf)) (fun hF => ?_)
        clear hK K
        try simp only [Act.put, List.setIfInBounds_toArray, List.set_cons_zero, List.set_cons_succ]
        refine wpG_marks (l' := #[true, true, true, true, true, true, true, true, true, false, false, false, true, false, false, false]) (by kernel_rfl) ?_
        with_reducible exact k2_20 Va2_6 bn ⟨hf, ⟨hn, dn⟩⟩
      · skip
        refine wpOp_hand (oi := ?oi170) ?hi170 (fun K hK => ?hh170)
        case hi170 => (simp only [List.getElem?_toArray, List.getElem?_cons_succ, List.getElem?_cons_zero]; rfl)
        go_simp
        have dl := hn.lt
        have hm := SpBox.new W 0 0
        have hn' := hn.alloc (.cells #[.int .i64 0, .int .i64 0] 28); clear hn
        have hfn := hf.alloc hf.size (.cells #[.int .i64 0, .int .i64 0] 28)
        obtain ⟨bm, hbn⟩ : ∃ b, b = W.heap.size := ⟨_, rfl⟩
        obtain ⟨Y, hY⟩ : ∃ Y, Y = W.alloc (.cells #[.int .i64 0, .int .i64 0] 28) := ⟨_, rfl⟩
        rw [← hY] at hfn hm hn' ⊢
        have dm : XD2.heap.size ≤ bm := by rw [hbn]; exact hf.size
        rw [← hbn] at hm dl ⊢
        have hn := hn'; clear hn'
        have dnm : bn ≠ bm := by omega
        clear hf hY hbn
        have hf := hfn
        clear hfn
        refine hK.out _ _ (heldC_one (fun _ => hf)) (fun hF => ?_)
        clear hK K
        try simp only [Act.put, List.setIfInBounds_toArray, List.set_cons_zero, List.set_cons_succ]
        refine wpG_marks (l' := #[true, true, true, true, false, true, true, true, true, false, false, false, true, true, false, false]) (by kernel_rfl) ?_
        with_reducible exact k2_101 Y bn bm ⟨hf, ⟨hn, dn⟩, ⟨hm, dm⟩, dnm⟩
    · rintro W bm ⟨hf, ⟨hm, dm⟩⟩
      refine wpG_ready (rs := [4, 12]) (by kernel_rfl) (by simp) ?_
      refine all_two ?_ ?_
      · skip
        refine wpOp_hand (oi := ?oi171) ?hi171 (fun K hK => ?hh171)
        case hi171 => (simp only [List.getElem?_toArray, List.getElem?_cons_succ, List.getElem?_cons_zero]; rfl)
        go_simp
        refine Calls.mono (U4.out _) ?_
        rintro e Va2_7 ⟨rfl, hb⟩
        have hnn := hm.below hb; clear hm; have hm := hnn; clear hnn
        have hfn := hf.trans (hb.mono hf.size)
        clear hf hb
        have hf := hfn
        clear hfn
        refine hK.out _ _ (heldC_one (fun _ => hf)) (fun hF => ?_)
        clear hK K
        try simp only [Act.put, List.setIfInBounds_toArray, List.set_cons_zero, List.set_cons_succ]
        refine wpG_marks (l' := #[true, true, true, true, true, true, true, true, true, false, false, false, false, true, false, false]) (by kernel_rfl) ?_
        with_reducible exact k2_21 Va2_7 bm ⟨hf, ⟨hm, dm⟩⟩
      · skip
        refine wpOp_hand (oi := ?oi172) ?hi172 (fun K hK => ?hh172)
        case hi172 => (simp only [List.getElem?_toArray, List.getElem?_cons_succ, List.getElem?_cons_zero]; rfl)
        go_simp
        have dl := hm.lt
        have hn := SpBox.new W 0 0
        have hm' := hm.alloc (.cells #[.int .i64 0, .int .i64 0] 28); clear hm
        have hfn := hf.alloc hf.size (.cells #[.int .i64 0, .int .i64 0] 28)
        obtain ⟨bn, hbn⟩ : ∃ b, b = W.heap.size := ⟨_, rfl⟩
        obtain ⟨Y, hY⟩ : ∃ Y, Y = W.alloc (.cells #[.int .i64 0, .int .i64 0] 28) := ⟨_, rfl⟩
        rw [← hY] at hfn hn hm' ⊢
        have dn : XD2.heap.size ≤ bn := by rw [hbn]; exact hf.size
        rw [← hbn] at hn dl ⊢
        have hm := hm'; clear hm'
        have dnm : bn ≠ bm := by omega
        clear hf hY hbn
        have hf := hfn
        clear hfn
        refine hK.out _ _ (heldC_one (fun _ => hf)) (fun hF => ?_)
        clear hK K
        try simp only [Act.put, List.setIfInBounds_toArray, List.set_cons_zero, List.set_cons_succ]
        refine wpG_marks (l' := #[true, true, true, true, false, true, true, true, true, false, false, false, true, true, false, false]) (by kernel_rfl) ?_
        with_reducible exact k2_101 Y bn bm ⟨hf, ⟨hn, dn⟩, ⟨hm, dm⟩, dnm⟩
    · rintro W hf
      refine wpG_ready (rs := [9, 12, 13]) (by kernel_rfl) (by simp) ?_
      refine all_three ?_ ?_ ?_
      · skip
        refine wpOp_hand (oi := ?oi173) ?hi173 (fun K hK => ?hh173)
        case hi173 => (simp only [List.getElem?_toArray, List.getElem?_cons_succ, List.getElem?_cons_zero]; rfl)
        go_simp
        refine Calls.mono (U5.out _) ?_
        rintro e Va2_8 ⟨rfl, hb⟩
        have hfn := hf.trans (hb.mono hf.size)
        clear hf hb
        have hf := hfn
        clear hfn
        refine hK.out _ _ (heldC_one (fun _ => hf)) (fun hF => ?_)
        clear hK K
        try simp only [Act.put, List.setIfInBounds_toArray, List.set_cons_zero, List.set_cons_succ]
        refine wpG_marks (l' := #[true, true, true, true, true, true, true, true, true, true, false, false, false, false, false, false]) (by kernel_rfl) ?_
        with_reducible exact k2_3n Va2_8 hf
      · skip
        refine wpOp_hand (oi := ?oi174) ?hi174 (fun K hK => ?hh174)
        case hi174 => (simp only [List.getElem?_toArray, List.getElem?_cons_succ, List.getElem?_cons_zero]; rfl)
        go_simp
        have hn := SpBox.new W 0 0
        have hfn := hf.alloc hf.size (.cells #[.int .i64 0, .int .i64 0] 28)
        obtain ⟨bn, hbn⟩ : ∃ b, b = W.heap.size := ⟨_, rfl⟩
        obtain ⟨Y, hY⟩ : ∃ Y, Y = W.alloc (.cells #[.int .i64 0, .int .i64 0] 28) := ⟨_, rfl⟩
        rw [← hY] at hfn hn ⊢
        have dn : XD2.heap.size ≤ bn := by rw [hbn]; exact hf.size
        rw [← hbn] at hn ⊢
        clear hf hY hbn
        have hf := hfn
        clear hfn
        refine hK.out _ _ (heldC_one (fun _ => hf)) (fun hF => ?_)
        clear hK K
        try simp only [Act.put, List.setIfInBounds_toArray, List.set_cons_zero, List.set_cons_succ]
        refine wpG_marks (l' := #[true, true, true, true, true, true, true, true, true, false, false, false, true, false, false, false]) (by kernel_rfl) ?_
        with_reducible exact k2_20 Y bn ⟨hf, ⟨hn, dn⟩⟩
      · skip
        refine wpOp_hand (oi := ?oi175) ?hi175 (fun K hK => ?hh175)
        case hi175 => (simp only [List.getElem?_toArray, List.getElem?_cons_succ, List.getElem?_cons_zero]; rfl)
        go_simp
        have hm := SpBox.new W 0 0
        have hfn := hf.alloc hf.size (.cells #[.int .i64 0, .int .i64 0] 28)
        obtain ⟨bm, hbn⟩ : ∃ b, b = W.heap.size := ⟨_, rfl⟩
        obtain ⟨Y, hY⟩ : ∃ Y, Y = W.alloc (.cells #[.int .i64 0, .int .i64 0] 28) := ⟨_, rfl⟩
        rw [← hY] at hfn hm ⊢
        have dm : XD2.heap.size ≤ bm := by rw [hbn]; exact hf.size
        rw [← hbn] at hm ⊢
        clear hf hY hbn
        have hf := hfn
        clear hfn
        refine hK.out _ _ (heldC_one (fun _ => hf)) (fun hF => ?_)
        clear hK K
        try simp only [Act.put, List.setIfInBounds_toArray, List.set_cons_zero, List.set_cons_succ]
        refine wpG_marks (l' := #[true, true, true, true, true, true, true, true, true, false, false, false, false, true, false, false]) (by kernel_rfl) ?_
        with_reducible exact k2_21 Y bm ⟨hf, ⟨hm, dm⟩⟩
    · rintro W bn bm ⟨hf, ⟨hn, dn⟩, ⟨hm, dm⟩, dnm⟩
      refine wpG_ready (rs := [4]) (by kernel_rfl) (by simp) ?_
      refine all_one ?_
      refine wpOp_hand (oi := ?oi176) ?hi176 (fun K hK => ?hh176)
      case hi176 => (simp only [List.getElem?_toArray, List.getElem?_cons_succ, List.getElem?_cons_zero]; rfl)
      go_simp
      refine Calls.mono (U4.out _) ?_
      rintro e Va2_9 ⟨rfl, hb⟩
      have hnn := hn.below hb; clear hn; have hn := hnn; clear hnn
      have hnn := hm.below hb; clear hm; have hm := hnn; clear hnn
      have hfn := hf.trans (hb.mono hf.size)
      clear hf hb
      have hf := hfn
      clear hfn
      refine hK.out _ _ (heldC_one (fun _ => hf)) (fun hF => ?_)
      clear hK K
      try simp only [Act.put, List.setIfInBounds_toArray, List.set_cons_zero, List.set_cons_succ]
      refine wpG_marks (l' := #[true, true, true, true, true, true, true, true, true, false, false, false, true, true, false, false]) (by kernel_rfl) ?_
      with_reducible exact k2_201 Va2_9 bn bm ⟨hf, ⟨hn, dn⟩, ⟨hm, dm⟩, dnm⟩
    · rintro W bn ⟨hf, ⟨hn, dn⟩⟩
      refine wpG_ready (rs := [9, 13]) (by kernel_rfl) (by simp) ?_
      refine all_two ?_ ?_
      · skip
        refine wpOp_hand (oi := ?oi177) ?hi177 (fun K hK => ?hh177)
        case hi177 => (simp only [List.getElem?_toArray, List.getElem?_cons_succ, List.getElem?_cons_zero]; rfl)
        go_simp
        refine Calls.mono (U5.out _) ?_
        rintro e Va2_10 ⟨rfl, hb⟩
        have hnn := hn.below hb; clear hn; have hn := hnn; clear hnn
        have hfn := hf.trans (hb.mono hf.size)
        clear hf hb
        have hf := hfn
        clear hfn
        refine hK.out _ _ (heldC_one (fun _ => hf)) (fun hF => ?_)
        clear hK K
        try simp only [Act.put, List.setIfInBounds_toArray, List.set_cons_zero, List.set_cons_succ]
        refine wpG_marks (l' := #[true, true, true, true, true, true, true, true, true, true, false, false, true, false, false, false]) (by kernel_rfl) ?_
        with_reducible exact k2_30 Va2_10 bn ⟨hf, ⟨hn, dn⟩⟩
      · skip
        refine wpOp_hand (oi := ?oi178) ?hi178 (fun K hK => ?hh178)
        case hi178 => (simp only [List.getElem?_toArray, List.getElem?_cons_succ, List.getElem?_cons_zero]; rfl)
        go_simp
        have dl := hn.lt
        have hm := SpBox.new W 0 0
        have hn' := hn.alloc (.cells #[.int .i64 0, .int .i64 0] 28); clear hn
        have hfn := hf.alloc hf.size (.cells #[.int .i64 0, .int .i64 0] 28)
        obtain ⟨bm, hbn⟩ : ∃ b, b = W.heap.size := ⟨_, rfl⟩
        obtain ⟨Y, hY⟩ : ∃ Y, Y = W.alloc (.cells #[.int .i64 0, .int .i64 0] 28) := ⟨_, rfl⟩
        rw [← hY] at hfn hm hn' ⊢
        have dm : XD2.heap.size ≤ bm := by rw [hbn]; exact hf.size
        rw [← hbn] at hm dl ⊢
        have hn := hn'; clear hn'
        have dnm : bn ≠ bm := by omega
        clear hf hY hbn
        have hf := hfn
        clear hfn
        refine hK.out _ _ (heldC_one (fun _ => hf)) (fun hF => ?_)
        clear hK K
        try simp only [Act.put, List.setIfInBounds_toArray, List.set_cons_zero, List.set_cons_succ]
        refine wpG_marks (l' := #[true, true, true, true, true, true, true, true, true, false, false, false, true, true, false, false]) (by kernel_rfl) ?_
        with_reducible exact k2_201 Y bn bm ⟨hf, ⟨hn, dn⟩, ⟨hm, dm⟩, dnm⟩
    · rintro W bm ⟨hf, ⟨hm, dm⟩⟩
      refine wpG_ready (rs := [9, 12]) (by kernel_rfl) (by simp) ?_
      refine all_two ?_ ?_
      · skip
        refine wpOp_hand (oi := ?oi179) ?hi179 (fun K hK => ?hh179)
        case hi179 => (simp only [List.getElem?_toArray, List.getElem?_cons_succ, List.getElem?_cons_zero]; rfl)
        go_simp
        refine Calls.mono (U5.out _) ?_
        rintro e Va2_11 ⟨rfl, hb⟩
        have hnn := hm.below hb; clear hm; have hm := hnn; clear hnn
        have hfn := hf.trans (hb.mono hf.size)
        clear hf hb
        have hf := hfn
        clear hfn
        refine hK.out _ _ (heldC_one (fun _ => hf)) (fun hF => ?_)
        clear hK K
        try simp only [Act.put, List.setIfInBounds_toArray, List.set_cons_zero, List.set_cons_succ]
        refine wpG_marks (l' := #[true, true, true, true, true, true, true, true, true, true, false, false, false, true, false, false]) (by kernel_rfl) ?_
        with_reducible exact k2_31 Va2_11 bm ⟨hf, ⟨hm, dm⟩⟩
      · skip
        refine wpOp_hand (oi := ?oi180) ?hi180 (fun K hK => ?hh180)
        case hi180 => (simp only [List.getElem?_toArray, List.getElem?_cons_succ, List.getElem?_cons_zero]; rfl)
        go_simp
        have dl := hm.lt
        have hn := SpBox.new W 0 0
        have hm' := hm.alloc (.cells #[.int .i64 0, .int .i64 0] 28); clear hm
        have hfn := hf.alloc hf.size (.cells #[.int .i64 0, .int .i64 0] 28)
        obtain ⟨bn, hbn⟩ : ∃ b, b = W.heap.size := ⟨_, rfl⟩
        obtain ⟨Y, hY⟩ : ∃ Y, Y = W.alloc (.cells #[.int .i64 0, .int .i64 0] 28) := ⟨_, rfl⟩
        rw [← hY] at hfn hn hm' ⊢
        have dn : XD2.heap.size ≤ bn := by rw [hbn]; exact hf.size
        rw [← hbn] at hn dl ⊢
        have hm := hm'; clear hm'
        have dnm : bn ≠ bm := by omega
        clear hf hY hbn
        have hf := hfn
        clear hfn
        refine hK.out _ _ (heldC_one (fun _ => hf)) (fun hF => ?_)
        clear hK K
        try simp only [Act.put, List.setIfInBounds_toArray, List.set_cons_zero, List.set_cons_succ]
        refine wpG_marks (l' := #[true, true, true, true, true, true, true, true, true, false, false, false, true, true, false, false]) (by kernel_rfl) ?_
        with_reducible exact k2_201 Y bn bm ⟨hf, ⟨hn, dn⟩, ⟨hm, dm⟩, dnm⟩
    · rintro W hf
      refine wpG_ready (rs := [10, 12, 13]) (by kernel_rfl) (by simp) ?_
      refine all_three ?_ ?_ ?_
      · skip
        refine wpOp_hand (oi := ?oi181) ?hi181 (fun K hK => ?hh181)
        case hi181 => (simp only [List.getElem?_toArray, List.getElem?_cons_succ, List.getElem?_cons_zero]; rfl)
        go_simp
        refine Calls.mono (U6.out _) ?_
        rintro e Va2_12 ⟨rfl, hb⟩
        have hfn := hf.trans (hb.mono hf.size)
        clear hf hb
        have hf := hfn
        clear hfn
        refine hK.out _ _ (heldC_one (fun _ => hf)) (fun hF => ?_)
        clear hK K
        try simp only [Act.put, List.setIfInBounds_toArray, List.set_cons_zero, List.set_cons_succ]
        refine wpG_marks (l' := #[true, true, true, true, true, true, true, true, true, true, true, false, false, false, false, false]) (by kernel_rfl) ?_
        with_reducible exact k2_4n Va2_12 hf
      · skip
        refine wpOp_hand (oi := ?oi182) ?hi182 (fun K hK => ?hh182)
        case hi182 => (simp only [List.getElem?_toArray, List.getElem?_cons_succ, List.getElem?_cons_zero]; rfl)
        go_simp
        have hn := SpBox.new W 0 0
        have hfn := hf.alloc hf.size (.cells #[.int .i64 0, .int .i64 0] 28)
        obtain ⟨bn, hbn⟩ : ∃ b, b = W.heap.size := ⟨_, rfl⟩
        obtain ⟨Y, hY⟩ : ∃ Y, Y = W.alloc (.cells #[.int .i64 0, .int .i64 0] 28) := ⟨_, rfl⟩
        rw [← hY] at hfn hn ⊢
        have dn : XD2.heap.size ≤ bn := by rw [hbn]; exact hf.size
        rw [← hbn] at hn ⊢
        clear hf hY hbn
        have hf := hfn
        clear hfn
        refine hK.out _ _ (heldC_one (fun _ => hf)) (fun hF => ?_)
        clear hK K
        try simp only [Act.put, List.setIfInBounds_toArray, List.set_cons_zero, List.set_cons_succ]
        refine wpG_marks (l' := #[true, true, true, true, true, true, true, true, true, true, false, false, true, false, false, false]) (by kernel_rfl) ?_
        with_reducible exact k2_30 Y bn ⟨hf, ⟨hn, dn⟩⟩
      · skip
        refine wpOp_hand (oi := ?oi183) ?hi183 (fun K hK => ?hh183)
        case hi183 => (simp only [List.getElem?_toArray, List.getElem?_cons_succ, List.getElem?_cons_zero]; rfl)
        go_simp
        have hm := SpBox.new W 0 0
        have hfn := hf.alloc hf.size (.cells #[.int .i64 0, .int .i64 0] 28)
        obtain ⟨bm, hbn⟩ : ∃ b, b = W.heap.size := ⟨_, rfl⟩
        obtain ⟨Y, hY⟩ : ∃ Y, Y = W.alloc (.cells #[.int .i64 0, .int .i64 0] 28) := ⟨_, rfl⟩
        rw [← hY] at hfn hm ⊢
        have dm : XD2.heap.size ≤ bm := by rw [hbn]; exact hf.size
        rw [← hbn] at hm ⊢
        clear hf hY hbn
        have hf := hfn
        clear hfn
        refine hK.out _ _ (heldC_one (fun _ => hf)) (fun hF => ?_)
        clear hK K
        try simp only [Act.put, List.setIfInBounds_toArray, List.set_cons_zero, List.set_cons_succ]
        refine wpG_marks (l' := #[true, true, true, true, true, true, true, true, true, true, false, false, false, true, false, false]) (by kernel_rfl) ?_
        with_reducible exact k2_31 Y bm ⟨hf, ⟨hm, dm⟩⟩
    · rintro W bn bm ⟨hf, ⟨hn, dn⟩, ⟨hm, dm⟩, dnm⟩
      refine wpG_ready (rs := [9]) (by kernel_rfl) (by simp) ?_
      refine all_one ?_
      refine wpOp_hand (oi := ?oi184) ?hi184 (fun K hK => ?hh184)
      case hi184 => (simp only [List.getElem?_toArray, List.getElem?_cons_succ, List.getElem?_cons_zero]; rfl)
      go_simp
      refine Calls.mono (U5.out _) ?_
      rintro e Va2_13 ⟨rfl, hb⟩
      have hnn := hn.below hb; clear hn; have hn := hnn; clear hnn
      have hnn := hm.below hb; clear hm; have hm := hnn; clear hnn
      have hfn := hf.trans (hb.mono hf.size)
      clear hf hb
      have hf := hfn
      clear hfn
      refine hK.out _ _ (heldC_one (fun _ => hf)) (fun hF => ?_)
      clear hK K
      try simp only [Act.put, List.setIfInBounds_toArray, List.set_cons_zero, List.set_cons_succ]
      refine wpG_marks (l' := #[true, true, true, true, true, true, true, true, true, true, false, false, true, true, false, false]) (by kernel_rfl) ?_
      with_reducible exact k2_301 Va2_13 bn bm ⟨hf, ⟨hn, dn⟩, ⟨hm, dm⟩, dnm⟩
    · rintro W bn ⟨hf, ⟨hn, dn⟩⟩
      refine wpG_ready (rs := [10, 13]) (by kernel_rfl) (by simp) ?_
      refine all_two ?_ ?_
      · skip
        refine wpOp_hand (oi := ?oi185) ?hi185 (fun K hK => ?hh185)
        case hi185 => (simp only [List.getElem?_toArray, List.getElem?_cons_succ, List.getElem?_cons_zero]; rfl)
        go_simp
        refine Calls.mono (U6.out _) ?_
        rintro e Va2_14 ⟨rfl, hb⟩
        have hnn := hn.below hb; clear hn; have hn := hnn; clear hnn
        have hfn := hf.trans (hb.mono hf.size)
        clear hf hb
        have hf := hfn
        clear hfn
        refine hK.out _ _ (heldC_one (fun _ => hf)) (fun hF => ?_)
        clear hK K
        try simp only [Act.put, List.setIfInBounds_toArray, List.set_cons_zero, List.set_cons_succ]
        refine wpG_marks (l' := #[true, true, true, true, true, true, true, true, true, true, true, false, true, false, false, false]) (by kernel_rfl) ?_
        with_reducible exact k2_40 Va2_14 bn ⟨hf, ⟨hn, dn⟩⟩
      · skip
        refine wpOp_hand (oi := ?oi186) ?hi186 (fun K hK => ?hh186)
        case hi186 => (simp only [List.getElem?_toArray, List.getElem?_cons_succ, List.getElem?_cons_zero]; rfl)
        go_simp
        have dl := hn.lt
        have hm := SpBox.new W 0 0
        have hn' := hn.alloc (.cells #[.int .i64 0, .int .i64 0] 28); clear hn
        have hfn := hf.alloc hf.size (.cells #[.int .i64 0, .int .i64 0] 28)
        obtain ⟨bm, hbn⟩ : ∃ b, b = W.heap.size := ⟨_, rfl⟩
        obtain ⟨Y, hY⟩ : ∃ Y, Y = W.alloc (.cells #[.int .i64 0, .int .i64 0] 28) := ⟨_, rfl⟩
        rw [← hY] at hfn hm hn' ⊢
        have dm : XD2.heap.size ≤ bm := by rw [hbn]; exact hf.size
        rw [← hbn] at hm dl ⊢
        have hn := hn'; clear hn'
        have dnm : bn ≠ bm := by omega
        clear hf hY hbn
        have hf := hfn
        clear hfn
        refine hK.out _ _ (heldC_one (fun _ => hf)) (fun hF => ?_)
        clear hK K
        try simp only [Act.put, List.setIfInBounds_toArray, List.set_cons_zero, List.set_cons_succ]
        refine wpG_marks (l' := #[true, true, true, true, true, true, true, true, true, true, false, false, true, true, false, false]) (by kernel_rfl) ?_
        with_reducible exact k2_301 Y bn bm ⟨hf, ⟨hn, dn⟩, ⟨hm, dm⟩, dnm⟩
    · rintro W bm ⟨hf, ⟨hm, dm⟩⟩
      refine wpG_ready (rs := [10, 12]) (by kernel_rfl) (by simp) ?_
      refine all_two ?_ ?_
      · skip
        refine wpOp_hand (oi := ?oi187) ?hi187 (fun K hK => ?hh187)
        case hi187 => (simp only [List.getElem?_toArray, List.getElem?_cons_succ, List.getElem?_cons_zero]; rfl)
        go_simp
        refine Calls.mono (U6.out _) ?_
        rintro e Va2_15 ⟨rfl, hb⟩
        have hnn := hm.below hb; clear hm; have hm := hnn; clear hnn
        have hfn := hf.trans (hb.mono hf.size)
        clear hf hb
        have hf := hfn
        clear hfn
        refine hK.out _ _ (heldC_one (fun _ => hf)) (fun hF => ?_)
        clear hK K
        try simp only [Act.put, List.setIfInBounds_toArray, List.set_cons_zero, List.set_cons_succ]
        refine wpG_marks (l' := #[true, true, true, true, true, true, true, true, true, true, true, false, false, true, false, false]) (by kernel_rfl) ?_
        with_reducible exact k2_41 Va2_15 bm ⟨hf, ⟨hm, dm⟩⟩
      · skip
        refine wpOp_hand (oi := ?oi188) ?hi188 (fun K hK => ?hh188)
        case hi188 => (simp only [List.getElem?_toArray, List.getElem?_cons_succ, List.getElem?_cons_zero]; rfl)
        go_simp
        have dl := hm.lt
        have hn := SpBox.new W 0 0
        have hm' := hm.alloc (.cells #[.int .i64 0, .int .i64 0] 28); clear hm
        have hfn := hf.alloc hf.size (.cells #[.int .i64 0, .int .i64 0] 28)
        obtain ⟨bn, hbn⟩ : ∃ b, b = W.heap.size := ⟨_, rfl⟩
        obtain ⟨Y, hY⟩ : ∃ Y, Y = W.alloc (.cells #[.int .i64 0, .int .i64 0] 28) := ⟨_, rfl⟩
        rw [← hY] at hfn hn hm' ⊢
        have dn : XD2.heap.size ≤ bn := by rw [hbn]; exact hf.size
        rw [← hbn] at hn dl ⊢
        have hm := hm'; clear hm'
        have dnm : bn ≠ bm := by omega
        clear hf hY hbn
        have hf := hfn
        clear hfn
        refine hK.out _ _ (heldC_one (fun _ => hf)) (fun hF => ?_)
        clear hK K
        try simp only [Act.put, List.setIfInBounds_toArray, List.set_cons_zero, List.set_cons_succ]
        refine wpG_marks (l' := #[true, true, true, true, true, true, true, true, true, true, false, false, true, true, false, false]) (by kernel_rfl) ?_
        with_reducible exact k2_301 Y bn bm ⟨hf, ⟨hn, dn⟩, ⟨hm, dm⟩, dnm⟩
    · rintro W hf
      refine wpG_ready (rs := [11, 12, 13]) (by kernel_rfl) (by simp) ?_
      refine all_three ?_ ?_ ?_
      · skip
        refine wpOp_hand (oi := ?oi189) ?hi189 (fun K hK => ?hh189)
        case hi189 => (simp only [List.getElem?_toArray, List.getElem?_cons_succ, List.getElem?_cons_zero]; rfl)
        go_simp
        refine Calls.mono (U7.out _) ?_
        rintro e Va2_16 ⟨rfl, hb⟩
        have hfn := hf.trans (hb.mono hf.size)
        clear hf hb
        have hf := hfn
        clear hfn
        refine hK.out _ _ (heldC_one (fun _ => hf)) (fun hF => ?_)
        clear hK K
        try simp only [Act.put, List.setIfInBounds_toArray, List.set_cons_zero, List.set_cons_succ]
        refine wpG_marks (l' := #[true, true, true, true, true, true, true, true, true, true, true, true, false, false, false, false]) (by kernel_rfl) ?_
        with_reducible exact k2_5n Va2_16 hf
      · skip
        refine wpOp_hand (oi := ?oi190) ?hi190 (fun K hK => ?hh190)
        case hi190 => (simp only [List.getElem?_toArray, List.getElem?_cons_succ, List.getElem?_cons_zero]; rfl)
        go_simp
        have hn := SpBox.new W 0 0
        have hfn := hf.alloc hf.size (.cells #[.int .i64 0, .int .i64 0] 28)
        obtain ⟨bn, hbn⟩ : ∃ b, b = W.heap.size := ⟨_, rfl⟩
        obtain ⟨Y, hY⟩ : ∃ Y, Y = W.alloc (.cells #[.int .i64 0, .int .i64 0] 28) := ⟨_, rfl⟩
        rw [← hY] at hfn hn ⊢
        have dn : XD2.heap.size ≤ bn := by rw [hbn]; exact hf.size
        rw [← hbn] at hn ⊢
        clear hf hY hbn
        have hf := hfn
        clear hfn
        refine hK.out _ _ (heldC_one (fun _ => hf)) (fun hF => ?_)
        clear hK K
        try simp only [Act.put, List.setIfInBounds_toArray, List.set_cons_zero, List.set_cons_succ]
        refine wpG_marks (l' := #[true, true, true, true, true, true, true, true, true, true, true, false, true, false, false, false]) (by kernel_rfl) ?_
        with_reducible exact k2_40 Y bn ⟨hf, ⟨hn, dn⟩⟩
      · skip
        refine wpOp_hand (oi := ?oi191) ?hi191 (fun K hK => ?hh191)
        case hi191 => (simp only [List.getElem?_toArray, List.getElem?_cons_succ, List.getElem?_cons_zero]; rfl)
        go_simp
        have hm := SpBox.new W 0 0
        have hfn := hf.alloc hf.size (.cells #[.int .i64 0, .int .i64 0] 28)
        obtain ⟨bm, hbn⟩ : ∃ b, b = W.heap.size := ⟨_, rfl⟩
        obtain ⟨Y, hY⟩ : ∃ Y, Y = W.alloc (.cells #[.int .i64 0, .int .i64 0] 28) := ⟨_, rfl⟩
        rw [← hY] at hfn hm ⊢
        have dm : XD2.heap.size ≤ bm := by rw [hbn]; exact hf.size
        rw [← hbn] at hm ⊢
        clear hf hY hbn
        have hf := hfn
        clear hfn
        refine hK.out _ _ (heldC_one (fun _ => hf)) (fun hF => ?_)
        clear hK K
        try simp only [Act.put, List.setIfInBounds_toArray, List.set_cons_zero, List.set_cons_succ]
        refine wpG_marks (l' := #[true, true, true, true, true, true, true, true, true, true, true, false, false, true, false, false]) (by kernel_rfl) ?_
        with_reducible exact k2_41 Y bm ⟨hf, ⟨hm, dm⟩⟩
    · rintro W bn bm ⟨hf, ⟨hn, dn⟩, ⟨hm, dm⟩, dnm⟩
      refine wpG_ready (rs := [10]) (by kernel_rfl) (by simp) ?_
      refine all_one ?_
      refine wpOp_hand (oi := ?oi192) ?hi192 (fun K hK => ?hh192)
      case hi192 => (simp only [List.getElem?_toArray, List.getElem?_cons_succ, List.getElem?_cons_zero]; rfl)
      go_simp
      refine Calls.mono (U6.out _) ?_
      rintro e Va2_17 ⟨rfl, hb⟩
      have hnn := hn.below hb; clear hn; have hn := hnn; clear hnn
      have hnn := hm.below hb; clear hm; have hm := hnn; clear hnn
      have hfn := hf.trans (hb.mono hf.size)
      clear hf hb
      have hf := hfn
      clear hfn
      refine hK.out _ _ (heldC_one (fun _ => hf)) (fun hF => ?_)
      clear hK K
      try simp only [Act.put, List.setIfInBounds_toArray, List.set_cons_zero, List.set_cons_succ]
      refine wpG_marks (l' := #[true, true, true, true, true, true, true, true, true, true, true, false, true, true, false, false]) (by kernel_rfl) ?_
      with_reducible exact k2_401 Va2_17 bn bm ⟨hf, ⟨hn, dn⟩, ⟨hm, dm⟩, dnm⟩
    · rintro W bn ⟨hf, ⟨hn, dn⟩⟩
      refine wpG_ready (rs := [11, 13]) (by kernel_rfl) (by simp) ?_
      refine all_two ?_ ?_
      · skip
        refine wpOp_hand (oi := ?oi193) ?hi193 (fun K hK => ?hh193)
        case hi193 => (simp only [List.getElem?_toArray, List.getElem?_cons_succ, List.getElem?_cons_zero]; rfl)
        go_simp
        refine Calls.mono (U7.out _) ?_
        rintro e Va2_18 ⟨rfl, hb⟩
        have hnn := hn.below hb; clear hn; have hn := hnn; clear hnn
        have hfn := hf.trans (hb.mono hf.size)
        clear hf hb
        have hf := hfn
        clear hfn
        refine hK.out _ _ (heldC_one (fun _ => hf)) (fun hF => ?_)
        clear hK K
        try simp only [Act.put, List.setIfInBounds_toArray, List.set_cons_zero, List.set_cons_succ]
        refine wpG_marks (l' := #[true, true, true, true, true, true, true, true, true, true, true, true, true, false, false, false]) (by kernel_rfl) ?_
        with_reducible exact k2_50 Va2_18 bn ⟨hf, ⟨hn, dn⟩⟩
      · skip
        refine wpOp_hand (oi := ?oi194) ?hi194 (fun K hK => ?hh194)
        case hi194 => (simp only [List.getElem?_toArray, List.getElem?_cons_succ, List.getElem?_cons_zero]; rfl)
        go_simp
        have dl := hn.lt
        have hm := SpBox.new W 0 0
        have hn' := hn.alloc (.cells #[.int .i64 0, .int .i64 0] 28); clear hn
        have hfn := hf.alloc hf.size (.cells #[.int .i64 0, .int .i64 0] 28)
        obtain ⟨bm, hbn⟩ : ∃ b, b = W.heap.size := ⟨_, rfl⟩
        obtain ⟨Y, hY⟩ : ∃ Y, Y = W.alloc (.cells #[.int .i64 0, .int .i64 0] 28) := ⟨_, rfl⟩
        rw [← hY] at hfn hm hn' ⊢
        have dm : XD2.heap.size ≤ bm := by rw [hbn]; exact hf.size
        rw [← hbn] at hm dl ⊢
        have hn := hn'; clear hn'
        have dnm : bn ≠ bm := by omega
        clear hf hY hbn
        have hf := hfn
        clear hfn
        refine hK.out _ _ (heldC_one (fun _ => hf)) (fun hF => ?_)
        clear hK K
        try simp only [Act.put, List.setIfInBounds_toArray, List.set_cons_zero, List.set_cons_succ]
        refine wpG_marks (l' := #[true, true, true, true, true, true, true, true, true, true, true, false, true, true, false, false]) (by kernel_rfl) ?_
        with_reducible exact k2_401 Y bn bm ⟨hf, ⟨hn, dn⟩, ⟨hm, dm⟩, dnm⟩
    · rintro W bm ⟨hf, ⟨hm, dm⟩⟩
      refine wpG_ready (rs := [11, 12]) (by kernel_rfl) (by simp) ?_
      refine all_two ?_ ?_
      · skip
        refine wpOp_hand (oi := ?oi195) ?hi195 (fun K hK => ?hh195)
        case hi195 => (simp only [List.getElem?_toArray, List.getElem?_cons_succ, List.getElem?_cons_zero]; rfl)
        go_simp
        refine Calls.mono (U7.out _) ?_
        rintro e Va2_19 ⟨rfl, hb⟩
        have hnn := hm.below hb; clear hm; have hm := hnn; clear hnn
        have hfn := hf.trans (hb.mono hf.size)
        clear hf hb
        have hf := hfn
        clear hfn
        refine hK.out _ _ (heldC_one (fun _ => hf)) (fun hF => ?_)
        clear hK K
        try simp only [Act.put, List.setIfInBounds_toArray, List.set_cons_zero, List.set_cons_succ]
        refine wpG_marks (l' := #[true, true, true, true, true, true, true, true, true, true, true, true, false, true, false, false]) (by kernel_rfl) ?_
        with_reducible exact k2_51 Va2_19 bm ⟨hf, ⟨hm, dm⟩⟩
      · skip
        refine wpOp_hand (oi := ?oi196) ?hi196 (fun K hK => ?hh196)
        case hi196 => (simp only [List.getElem?_toArray, List.getElem?_cons_succ, List.getElem?_cons_zero]; rfl)
        go_simp
        have dl := hm.lt
        have hn := SpBox.new W 0 0
        have hm' := hm.alloc (.cells #[.int .i64 0, .int .i64 0] 28); clear hm
        have hfn := hf.alloc hf.size (.cells #[.int .i64 0, .int .i64 0] 28)
        obtain ⟨bn, hbn⟩ : ∃ b, b = W.heap.size := ⟨_, rfl⟩
        obtain ⟨Y, hY⟩ : ∃ Y, Y = W.alloc (.cells #[.int .i64 0, .int .i64 0] 28) := ⟨_, rfl⟩
        rw [← hY] at hfn hn hm' ⊢
        have dn : XD2.heap.size ≤ bn := by rw [hbn]; exact hf.size
        rw [← hbn] at hn dl ⊢
        have hm := hm'; clear hm'
        have dnm : bn ≠ bm := by omega
        clear hf hY hbn
        have hf := hfn
        clear hfn
        refine hK.out _ _ (heldC_one (fun _ => hf)) (fun hF => ?_)
        clear hK K
        try simp only [Act.put, List.setIfInBounds_toArray, List.set_cons_zero, List.set_cons_succ]
        refine wpG_marks (l' := #[true, true, true, true, true, true, true, true, true, true, true, false, true, true, false, false]) (by kernel_rfl) ?_
        with_reducible exact k2_401 Y bn bm ⟨hf, ⟨hn, dn⟩, ⟨hm, dm⟩, dnm⟩
    · rintro W hf
      refine wpG_ready (rs := [12, 13]) (by kernel_rfl) (by simp) ?_
      refine all_two ?_ ?_
      · skip
        refine wpOp_hand (oi := ?oi197) ?hi197 (fun K hK => ?hh197)
        case hi197 => (simp only [List.getElem?_toArray, List.getElem?_cons_succ, List.getElem?_cons_zero]; rfl)
        go_simp
        have hn := SpBox.new W 0 0
        have hfn := hf.alloc hf.size (.cells #[.int .i64 0, .int .i64 0] 28)
        obtain ⟨bn, hbn⟩ : ∃ b, b = W.heap.size := ⟨_, rfl⟩
        obtain ⟨Y, hY⟩ : ∃ Y, Y = W.alloc (.cells #[.int .i64 0, .int .i64 0] 28) := ⟨_, rfl⟩
        rw [← hY] at hfn hn ⊢
        have dn : XD2.heap.size ≤ bn := by rw [hbn]; exact hf.size
        rw [← hbn] at hn ⊢
        clear hf hY hbn
        have hf := hfn
        clear hfn
        refine hK.out _ _ (heldC_one (fun _ => hf)) (fun hF => ?_)
        clear hK K
        try simp only [Act.put, List.setIfInBounds_toArray, List.set_cons_zero, List.set_cons_succ]
        refine wpG_marks (l' := #[true, true, true, true, true, true, true, true, true, true, true, true, true, false, false, false]) (by kernel_rfl) ?_
        with_reducible exact k2_50 Y bn ⟨hf, ⟨hn, dn⟩⟩
      · skip
        refine wpOp_hand (oi := ?oi198) ?hi198 (fun K hK => ?hh198)
        case hi198 => (simp only [List.getElem?_toArray, List.getElem?_cons_succ, List.getElem?_cons_zero]; rfl)
        go_simp
        have hm := SpBox.new W 0 0
        have hfn := hf.alloc hf.size (.cells #[.int .i64 0, .int .i64 0] 28)
        obtain ⟨bm, hbn⟩ : ∃ b, b = W.heap.size := ⟨_, rfl⟩
        obtain ⟨Y, hY⟩ : ∃ Y, Y = W.alloc (.cells #[.int .i64 0, .int .i64 0] 28) := ⟨_, rfl⟩
        rw [← hY] at hfn hm ⊢
        have dm : XD2.heap.size ≤ bm := by rw [hbn]; exact hf.size
        rw [← hbn] at hm ⊢
        clear hf hY hbn
        have hf := hfn
        clear hfn
        refine hK.out _ _ (heldC_one (fun _ => hf)) (fun hF => ?_)
        clear hK K
        try simp only [Act.put, List.setIfInBounds_toArray, List.set_cons_zero, List.set_cons_succ]
        refine wpG_marks (l' := #[true, true, true, true, true, true, true, true, true, true, true, true, false, true, false, false]) (by kernel_rfl) ?_
        with_reducible exact k2_51 Y bm ⟨hf, ⟨hm, dm⟩⟩
    · rintro W bn bm ⟨hf, ⟨hn, dn⟩, ⟨hm, dm⟩, dnm⟩
      refine wpG_ready (rs := [11]) (by kernel_rfl) (by simp) ?_
      refine all_one ?_
      refine wpOp_hand (oi := ?oi199) ?hi199 (fun K hK => ?hh199)
      case hi199 => (simp only [List.getElem?_toArray, List.getElem?_cons_succ, List.getElem?_cons_zero]; rfl)
      go_simp
      refine Calls.mono (U7.out _) ?_
      rintro e Va2_20 ⟨rfl, hb⟩
      have hnn := hn.below hb; clear hn; have hn := hnn; clear hnn
      have hnn := hm.below hb; clear hm; have hm := hnn; clear hnn
      have hfn := hf.trans (hb.mono hf.size)
      clear hf hb
      have hf := hfn
      clear hfn
      refine hK.out _ _ (heldC_one (fun _ => hf)) (fun hF => ?_)
      clear hK K
      try simp only [Act.put, List.setIfInBounds_toArray, List.set_cons_zero, List.set_cons_succ]
      refine wpG_marks (l' := #[true, true, true, true, true, true, true, true, true, true, true, true, true, true, false, false]) (by kernel_rfl) ?_
      with_reducible exact k2_501 Va2_20 bn bm ⟨hf, ⟨hn, dn⟩, ⟨hm, dm⟩, dnm⟩
    · rintro W bn ⟨hf, ⟨hn, dn⟩⟩
      refine wpG_ready (rs := [13]) (by kernel_rfl) (by simp) ?_
      refine all_one ?_
      refine wpOp_hand (oi := ?oi200) ?hi200 (fun K hK => ?hh200)
      case hi200 => (simp only [List.getElem?_toArray, List.getElem?_cons_succ, List.getElem?_cons_zero]; rfl)
      go_simp
      have dl := hn.lt
      have hm := SpBox.new W 0 0
      have hn' := hn.alloc (.cells #[.int .i64 0, .int .i64 0] 28); clear hn
      have hfn := hf.alloc hf.size (.cells #[.int .i64 0, .int .i64 0] 28)
      obtain ⟨bm, hbn⟩ : ∃ b, b = W.heap.size := ⟨_, rfl⟩
      obtain ⟨Y, hY⟩ : ∃ Y, Y = W.alloc (.cells #[.int .i64 0, .int .i64 0] 28) := ⟨_, rfl⟩
      rw [← hY] at hfn hm hn' ⊢
      have dm : XD2.heap.size ≤ bm := by rw [hbn]; exact hf.size
      rw [← hbn] at hm dl ⊢
      have hn := hn'; clear hn'
      have dnm : bn ≠ bm := by omega
      clear hf hY hbn
      have hf := hfn
      clear hfn
      refine hK.out _ _ (heldC_one (fun _ => hf)) (fun hF => ?_)
      clear hK K
      try simp only [Act.put, List.setIfInBounds_toArray, List.set_cons_zero, List.set_cons_succ]
      refine wpG_marks (l' := #[true, true, true, true, true, true, true, true, true, true, true, true, true, true, false, false]) (by kernel_rfl) ?_
      with_reducible exact k2_501 Y bn bm ⟨hf, ⟨hn, dn⟩, ⟨hm, dm⟩, dnm⟩
    · rintro W bm ⟨hf, ⟨hm, dm⟩⟩
      refine wpG_ready (rs := [12]) (by kernel_rfl) (by simp) ?_
      refine all_one ?_
      refine wpOp_hand (oi := ?oi201) ?hi201 (fun K hK => ?hh201)
      case hi201 => (simp only [List.getElem?_toArray, List.getElem?_cons_succ, List.getElem?_cons_zero]; rfl)
      go_simp
      have dl := hm.lt
      have hn := SpBox.new W 0 0
      have hm' := hm.alloc (.cells #[.int .i64 0, .int .i64 0] 28); clear hm
      have hfn := hf.alloc hf.size (.cells #[.int .i64 0, .int .i64 0] 28)
      obtain ⟨bn, hbn⟩ : ∃ b, b = W.heap.size := ⟨_, rfl⟩
      obtain ⟨Y, hY⟩ : ∃ Y, Y = W.alloc (.cells #[.int .i64 0, .int .i64 0] 28) := ⟨_, rfl⟩
      rw [← hY] at hfn hn hm' ⊢
      have dn : XD2.heap.size ≤ bn := by rw [hbn]; exact hf.size
      rw [← hbn] at hn dl ⊢
      have hm := hm'; clear hm'
      have dnm : bn ≠ bm := by omega
      clear hf hY hbn
      have hf := hfn
      clear hfn
      refine hK.out _ _ (heldC_one (fun _ => hf)) (fun hF => ?_)
      clear hK K
      try simp only [Act.put, List.setIfInBounds_toArray, List.set_cons_zero, List.set_cons_succ]
      refine wpG_marks (l' := #[true, true, true, true, true, true, true, true, true, true, true, true, true, true, false, false]) (by kernel_rfl) ?_
      with_reducible exact k2_501 Y bn bm ⟨hf, ⟨hn, dn⟩, ⟨hm, dm⟩, dnm⟩
    · rintro W bn bm ⟨hf, ⟨hn, dn⟩, ⟨hm, dm⟩, dnm⟩
      refine wpG_ready (rs := [14]) (by kernel_rfl) (by simp) ?_
      refine all_one ?_
      have zz0 := hn.c0; have zz0f := hn.free 0; have zz1 := hn.c1; have zz1f := hn.free 1; have zzl := hn.lt
      refine wpOp_hand (oi := ?oi202) ?hi202 (fun K hK => ?hh202)
      case hi202 => (simp only [List.getElem?_toArray, List.getElem?_cons_succ, List.getElem?_cons_zero]; rfl)
      go_simp
      have hnn := hn.set (x1) (x2)
      have hmm := (hm.other (a := ⟨bn, 0, none⟩) (by (try dsimp only); omega) (.int .i64 (x1))).other (a := ⟨bn, 1, none⟩) (by (try dsimp only); omega) (.int .i64 (x2))
      clear zz0 zz0f zz1 zz1f zzl hn
      have hn := hnn; clear hnn
      clear hm
      have hm := hmm; clear hmm
      have hfn := (hf.setCell (p := ⟨bn, 0, none⟩) dn (.int .i64 (x1))).setCell (p := ⟨bn, 1, none⟩) dn (.int .i64 (x2))
      clear hf
      have hf := hfn
      clear hfn
      refine hK.out _ _ (heldC_one (fun _ => hf)) (fun hF => ?_)
      clear hK K
      try simp only [Act.put, List.setIfInBounds_toArray, List.set_cons_zero, List.set_cons_succ]
      refine wpG_ready (rs := [15]) (by kernel_rfl) (by simp) ?_
      refine all_one ?_
      have zz0 := hm.c0; have zz0f := hm.free 0; have zz1 := hm.c1; have zz1f := hm.free 1; have zzl := hm.lt
      refine wpOp_hand (oi := ?oi203) ?hi203 (fun K hK => ?hh203)
      case hi203 => (simp only [List.getElem?_toArray, List.getElem?_cons_succ, List.getElem?_cons_zero]; rfl)
      go_simp
      have hnn := hm.set (y1) (y2)
      have hmm := (hn.other (a := ⟨bm, 0, none⟩) (by (try dsimp only); omega) (.int .i64 (y1))).other (a := ⟨bm, 1, none⟩) (by (try dsimp only); omega) (.int .i64 (y2))
      clear zz0 zz0f zz1 zz1f zzl hm
      have hm := hnn; clear hnn
      clear hn
      have hn := hmm; clear hmm
      have hfn := (hf.setCell (p := ⟨bm, 0, none⟩) dm (.int .i64 (y1))).setCell (p := ⟨bm, 1, none⟩) dm (.int .i64 (y2))
      clear hf
      have hf := hfn
      clear hfn
      refine hK.out _ _ (heldC_one (fun h => absurd h (by simp))) (fun hF => ?_)
      clear hK K
      try simp only [Act.put, List.setIfInBounds_toArray, List.set_cons_zero, List.set_cons_succ]
      refine wpG_done (by kernel_rfl) ?_ _
      go_wp2_with fail
      go_meet
      exact ⟨bn, bm, rfl, rfl, Lib.hid (Nat.le_trans hbW.out.size dn), Lib.hid (Nat.le_trans hbW.out.size dm), Lib.hid hn, Lib.hid hm, Lib.hid (hbx5.out.below hf), Lib.hid (hbx7.out.below hf), Lib.hid (hbx8.out.below hf), Lib.hid (hbx10.out.below hf), Lib.hid (hbx12.out.below hf), Lib.hid (hbx13.out.below hf), Lib.hid (hbx14.out.below hf), Lib.hid (hbx15.out.below hf), Lib.hid (hbW.out.trans (hf.mono hbW.out.size))⟩
  case rest =>
  obtain ⟨k16, k17, rfl, rfl, Hkl16, Hkl17, s16, s17, s5, s7, s8, s10, s12, s13, s14, s15, HB⟩ := hcut
  obtain ⟨X17, hX17⟩ : ∃ X, X = wc := ⟨_, rfl⟩
  subst hX17
  clear HXD2 hf hbW hbx5 hbx7 hbx8 hbx10 hbx12 hbx13 hbx14 hbx15
  clear U3 U4 U5 U6 U7
  have sc5_0 := s5.out.c0; have sc5_1 := s5.out.c1; have sc5_l := s5.out.lt
  have sc15_0 := s15.out.c0; have sc15_1 := s15.out.c1; have sc15_l := s15.out.lt
  have sc16_0 := s16.out.c0; have sc16_1 := s16.out.c1; have sc16_l := s16.out.lt
  have sc17_0 := s17.out.c0; have sc17_1 := s17.out.c1; have sc17_l := s17.out.lt
  go_wp2_with fail
  refine Calls.mono (SM.out _) ?_
  rintro e wz ⟨rfl, hb⟩
  have W3 := Lib.hid (HB.out.trans (hb.mono HB.out.size))
  clear hb
  go_wp2_with fail
  go_ret
  exact ⟨rfl, W3.out⟩
end Go.Proofs.YtcopmgnfakjdhaaGreatDoor
