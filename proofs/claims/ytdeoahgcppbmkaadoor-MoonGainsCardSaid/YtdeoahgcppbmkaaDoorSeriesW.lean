/- series.Check, Value, Bound of permitted sums. -/
import Derived.Test.YtdeoahgcppbmkaaDoorValueW
namespace Go.Proofs.YtdeoahgcppbmkaaDoor
open Go.RowKit
set_option linter.unusedSimpArgs false
set_option linter.unusedVariables false

/-- A permitted sum. -/
structure SumIn (mean rate rest : Int) (n : Nat) (zs : List Int) : Prop where
  m1 : -1000000000 ≤ mean
  m2 : mean ≤ 1000000000
  r1 : -4000000000000000 ≤ rate
  r2 : rate ≤ 4000000000000000
  t1 : 0 ≤ rest
  t2 : rest ≤ 100000000
  n40 : n ≤ 40
  tm : ∀ i, i < n → TmOk zs i
set_option maxRecDepth 100000 in
set_option maxHeartbeats 8000000 in
theorem check_ok (mean rate rest : Int) (A : Option Addr) (n cap : Nat) (zs : List Int) (w : World) (hF : FlatSl w 3 A n cap zs) (hs : SumIn mean rate rest n zs) :
    Calls Tryd.prog 79 #[.agg #[.int .i64 mean, .int .i64 rate, .slice A n cap, .int .i64 rest]] w fun e w' => e = .returned (.int .i64 0) ∧ Below w.heap.size w w' := by
  obtain ⟨m1, m2, r1, r2, t1, t2, n40, htm⟩ := hs
  have c1 := Lib.hid (fun w => inR_true mean 1000000000 w (by omega) (by omega))
  have c2 := Lib.hid (fun w => inR_true rate 4000000000000000 w (by omega) (by omega))
  have d1 : decide (rest < 0) = false := decide_eq_false (by omega)
  have d2 : decide (100000000 < rest) = false := decide_eq_false (by omega)
  have d3 : decide (40 < (n : Int)) = false := decide_eq_false (by omega)
  have d4 : ¬ (40 : Int) < (n : Int) := by omega
  have HF := Lib.hid hF
  have HTM := Lib.hid htm
  have HB := Lib.hid (SmBox.new w (.int .i64 mean) (.int .i64 rate) (.slice A n cap) (.int .i64 rest))
  have HW := Lib.hid (show Below w.heap.size w (w.alloc (.cells #[.int .i64 mean, .int .i64 rate, .slice A n cap, .int .i64 rest] 46)) from (by repeat' (first | (with_reducible refine below_drewN ?_ _) | go_grown)))
  obtain ⟨b, hb⟩ : ∃ b, b = w.heap.size := ⟨_, rfl⟩
  rw [← hb] at HB
  clear m1 m2 r1 r2 t1 t2 hF htm
  go_enter Tryd.func79, Tryd.ntmps79
  go_wp2_with fail
  refine Calls.mono (c1.out _) ?_
  rintro e _ ⟨rfl, rfl⟩
  go_wp2_with fail
  refine Calls.mono (c2.out _) ?_
  rintro e _ ⟨rfl, rfl⟩
  go_wp2_with fail
  rw [← hb]
  have HBB := Lib.hid hb
  clear hb
  (try rw [d3])
  (try rw [d1])
  (try rw [d2])
  clear d1 d2 d3 d4
  go_loopw [32] (fun i wr => ∃ k : Nat, k ≤ n ∧ i = .int .i64 k ∧ Below w.heap.size w wr) (fun i _ => n - (intOf i).toNat)
  case atStart => exact ⟨0, by omega, rfl, HW.out⟩
  case round =>
    obtain ⟨k, hk, rfl, hbl⟩ := hrel
    have hsz := hbl.size
    by_cases hlt : k < n
    · have i0 : (0 : Int) ≤ (k : Int) := by omega
      have i1 : (k : Int) < (n : Int) := by omega
      have i2 : (k : Int) < (cap : Int) := by have := HF.out.le; omega
      obtain ⟨q, o, hA, hc⟩ := HF.out.at' (by omega)
      have x0 := (hbl.cell (p := ⟨q, o + k * 3, none⟩) (cell_below (hc (k * 3) (by omega)))).trans (hc (k * 3) (by omega))
      have x1 := (hbl.cell (p := ⟨q, o + (k * 3 + 1), none⟩) (cell_below (hc (k * 3 + 1) (by omega)))).trans (hc (k * 3 + 1) (by omega))
      have x2 := (hbl.cell (p := ⟨q, o + (k * 3 + 2), none⟩) (cell_below (hc (k * 3 + 2) (by omega)))).trans (hc (k * 3 + 2) (by omega))
      rw [← Nat.add_assoc] at x1 x2
      subst hA
      obtain ⟨a1, a2, p1, p2, q1, q2⟩ := HTM.out k hlt
      generalize ix zs (k * 3) = ta at *
      generalize ix zs (k * 3 + 1) = tp at *
      generalize ix zs (k * 3 + 2) = tr at *
      have e1 := Lib.hid (fun w => inR_true ta 1000000000 w (by omega) (by omega))
      have e2 := Lib.hid (fun w => inR_true tr 4000000000000000 w (by omega) (by omega))
      have g1 : decide (tp < 0) = false := decide_eq_false (by omega)
      have g2 : decide (1000000000 ≤ tp) = false := decide_eq_false (by omega)
      have kb := Lib.hid (hbl.alloc hsz (.cells #[.int .i64 ta, .int .i64 tp, .int .i64 tr] 87))
      clear hc a1 a2 p1 p2 q1 q2 hbl
      go_wp2_with fail
      refine Calls.mono (e1.out _) ?_
      rintro e _ ⟨rfl, rfl⟩
      go_wp2_with fail
      refine Calls.mono (e2.out _) ?_
      rintro e _ ⟨rfl, rfl⟩
      go_wp2_with fail
      go_roundw
      case rel => exact ⟨k + 1, by omega, by go_num, kb.out⟩
      case measure => simp [intOf]; omega
    · obtain rfl : k = n := by omega
      go_wp2_with fail
      go_ret
      exact ⟨rfl, hbl⟩
/-- The greatest width, behind k terms. -/
def bndSr (rest : Int) (zs : List Int) : Nat → Int
  | 0 => 2 * rest
  | k + 1 => bndSr rest zs k + (2 + ((ix zs (k * 3)).natAbs : Int) / 100000000)
theorem bndS_bd {rest : Int} {zs : List Int} {n : Nat} (h0 : 0 ≤ rest ∧ rest ≤ 100000000) (hz : ∀ i, i < n → TmOk zs i) : ∀ k, k ≤ n → 2 * rest + 2 * (k : Int) ≤ bndSr rest zs k ∧ bndSr rest zs k ≤ 200000000 + 12 * (k : Int)
  | 0, _ => by unfold bndSr; omega
  | k + 1, hk => by
    have ih := bndS_bd h0 hz k (by omega)
    have ht := hz k (by omega)
    have h1 := ht.a1; have h2 := ht.a2
    unfold bndSr
    omega
set_option maxRecDepth 100000 in
set_option maxHeartbeats 8000000 in
theorem bound_ok (mean rate rest : Int) (A : Option Addr) (n cap : Nat) (zs : List Int) (w : World) (hF : FlatSl w 3 A n cap zs) (hs : SumIn mean rate rest n zs) :
    Calls Tryd.prog 110 #[.agg #[.int .i64 mean, .int .i64 rate, .slice A n cap, .int .i64 rest]] w fun e w' => e = .returned (.int .i64 (bndSr rest zs n)) ∧ Below w.heap.size w w' := by
  obtain ⟨m1, m2, r1, r2, t1, t2, n40, htm⟩ := hs
  have HF := Lib.hid hF
  have HTM := Lib.hid htm
  have HBD := Lib.hid (bndS_bd ⟨t1, t2⟩ htm)
  obtain ⟨f, hf⟩ : ∃ f, f = bndSr rest zs := ⟨_, rfl⟩
  have hf0 : f 0 = 2 * rest := by rw [hf]; rfl
  have hfs := Lib.hid (show ∀ k, f (k + 1) = f k + (2 + ((ix zs (k * 3)).natAbs : Int) / 100000000) from fun k => by rw [hf]; rfl)
  rw [← hf] at HBD ⊢
  have HF0 := Lib.hid hf0
  have HW := Lib.hid (show Below w.heap.size w (w.alloc (.cells #[.int .i64 mean, .int .i64 rate, .slice A n cap, .int .i64 rest] 46)) from (by repeat' (first | (with_reducible refine below_drewN ?_ _) | go_grown)))
  clear m1 m2 r1 r2 hF htm hf hf0
  go_enter Tryd.func110, Tryd.ntmps110
  go_wp2_with fail
  go_loopw [3, 12] (fun v i wr => ∃ k : Nat, k ≤ n ∧ i = .int .i64 k ∧ v = .int .i64 (f k) ∧ Below w.heap.size w wr) (fun _ i _ => n - (intOf i).toNat)
  case atStart => exact ⟨0, by omega, rfl, by rw [HF0.out], HW.out⟩
  case round =>
    obtain ⟨k, hk, rfl, rfl, hbl⟩ := hrel
    have hsz := hbl.size
    by_cases hlt : k < n
    · have i0 : (0 : Int) ≤ (k : Int) := by omega
      have i1 : (k : Int) < (n : Int) := by omega
      have i2 : (k : Int) < (cap : Int) := by have := HF.out.le; omega
      obtain ⟨q, o, hA, hc⟩ := HF.out.at' (by omega)
      have x0 := (hbl.cell (p := ⟨q, o + k * 3, none⟩) (cell_below (hc (k * 3) (by omega)))).trans (hc (k * 3) (by omega))
      have x1 := (hbl.cell (p := ⟨q, o + (k * 3 + 1), none⟩) (cell_below (hc (k * 3 + 1) (by omega)))).trans (hc (k * 3 + 1) (by omega))
      have x2 := (hbl.cell (p := ⟨q, o + (k * 3 + 2), none⟩) (cell_below (hc (k * 3 + 2) (by omega)))).trans (hc (k * 3 + 2) (by omega))
      rw [← Nat.add_assoc] at x1 x2
      subst hA
      obtain ⟨a1, a2, p1, p2, q1, q2⟩ := HTM.out k hlt
      have hst := hfs.out k
      have hbd := HBD.out k (by omega)
      generalize ix zs (k * 3) = ta at *
      generalize ix zs (k * 3 + 1) = tp at *
      generalize ix zs (k * 3 + 2) = tr at *
      obtain ⟨sz, hsz9⟩ : ∃ x : Int, x = (ta.natAbs : Int) := ⟨_, rfl⟩
      have sz0 : 0 ≤ sz := by omega
      have sz1 : sz ≤ 1000000000 := by omega
      have e1 := Lib.hid (fun w => hsz9 ▸ size_ok ta w (by omega))
      rw [← hsz9] at hst
      obtain ⟨v, hv⟩ : ∃ v, v = f k := ⟨_, rfl⟩
      rw [← hv] at hst hbd ⊢
      obtain ⟨bd1, bd2⟩ := hbd
      have v0 : 0 ≤ v := by omega
      have v1 : v ≤ 300000000 := by omega
      have HST := Lib.hid hst
      have kb := Lib.hid (hbl.alloc hsz (.cells #[.int .i64 ta, .int .i64 tp, .int .i64 tr] 87))
      clear hc a1 a2 p1 p2 q1 q2 hbl hst hsz9 hv bd1 bd2
      go_wp2_with fail
      refine Calls.mono (e1.out _) ?_
      rintro e _ ⟨rfl, rfl⟩
      go_wp2_with fail
      go_roundw
      case rel => exact ⟨k + 1, by omega, by go_num, by rw [HST.out], kb.out⟩
      case measure => simp [intOf]; omega
    · obtain rfl : k = n := by omega
      go_wp2_with fail
      go_ret
      exact ⟨rfl, hbl⟩
set_option maxRecDepth 100000 in
set_option maxHeartbeats 4000000 in
theorem Bound_ok (mean rate rest : Int) (A : Option Addr) (n cap : Nat) (zs : List Int) (w : World) (hF : FlatSl w 3 A n cap zs) (hs : SumIn mean rate rest n zs) :
    Calls Tryd.prog 78 #[.agg #[.int .i64 mean, .int .i64 rate, .slice A n cap, .int .i64 rest]] w fun e w' => e = .returned (.tuple #[.int .i64 (bndSr rest zs n), .int .i64 0]) ∧ Below w.heap.size w w' := by
  have HC := Lib.hid (fun W (h : FlatSl W 3 A n cap zs) => check_ok mean rate rest A n cap zs W h hs)
  have HB := Lib.hid (fun W (h : FlatSl W 3 A n cap zs) => bound_ok mean rate rest A n cap zs W h hs)
  generalize bndSr rest zs n = B at *
  have HF := Lib.hid hF
  have f1 := Lib.hid (flat_below hF (show Below w.heap.size w (w.alloc (.cells #[.int .i64 mean, .int .i64 rate, .slice A n cap, .int .i64 rest] 46)) from (by repeat' (first | (with_reducible refine below_drewN ?_ _) | go_grown))))
  clear hF hs
  go_enter Tryd.func78, Tryd.ntmps78
  go_wp2_with fail
  refine Calls.mono (HC.out _ f1.out) ?_
  rintro e w1 ⟨rfl, hb⟩
  obtain ⟨hb1, hz1, hc1, hf1⟩ := took (w := w) (by repeat' (first | (with_reducible refine below_drewN ?_ _) | go_grown)) (by first | (simp only [World.size_alloc, World.size_setCell, World.size_drew, size_drewN]; done) | (simp only [World.size_alloc, World.size_setCell, World.size_drew, size_drewN]; rfl) | rfl) hb; clear hb
  have z1 : w.heap.size < w1.heap.size := by omega
  have f2 := Lib.hid (flat_below HF.out hb1)
  go_wp2_with fail
  refine Calls.mono (HB.out _ f2.out) ?_
  rintro e w2 ⟨rfl, hb⟩
  obtain ⟨hb2, hz2, hc2, hf2⟩ := took (w := w) (by repeat' (first | (with_reducible refine below_drewN ?_ _) | go_grown)) (by first | (simp only [World.size_alloc, World.size_setCell, World.size_drew, size_drewN]; done) | (simp only [World.size_alloc, World.size_setCell, World.size_drew, size_drewN]; rfl) | rfl) hb; clear hb
  go_wp2_with fail
  go_returns
  exact ⟨rfl, (by repeat' (first | (with_reducible refine below_drewN ?_ _) | go_grown))⟩
set_option maxRecDepth 100000 in
set_option maxHeartbeats 4000000 in
theorem Value_ok (mean rate rest t : Int) (A : Option Addr) (n cap : Nat) (zs : List Int) (w : World) (ht : SinT w) (hF : FlatSl w 3 A n cap zs) (hs : SumIn mean rate rest n zs) (hin : instOk t = true) :
    Calls Tryd.prog 77 #[.agg #[.int .i64 mean, .int .i64 rate, .slice A n cap, .int .i64 rest], .int .i64 t] w fun e w' => e = .returned (.tuple #[.agg #[.int .i64 (vLo mean rest zs n t), .int .i64 (vHi mean rest zs n t)], .int .i64 0]) ∧ Below w.heap.size w w' := by
  have htb : -345600000000000 ≤ t ∧ t ≤ 345686400000000 := by
    have h : dayOk (t / 86400000) = true := hin
    unfold dayOk at h
    have := of_decide_eq_true h
    omega
  have HC := Lib.hid (fun W (h : FlatSl W 3 A n cap zs) => check_ok mean rate rest A n cap zs W h hs)
  have I := Lib.hid (fun w => hin ▸ isInst_ok t w (by omega) (by omega))
  have HV := Lib.hid (fun W (hT : SinT W) (h : FlatSl W 3 A n cap zs) => value_ok mean rate rest t A n cap zs W hT h hs.n40 hs.tm ⟨hs.m1, hs.m2⟩ ⟨hs.t1, hs.t2⟩ (by omega))
  generalize vLo mean rest zs n t = lo at *
  generalize vHi mean rest zs n t = hi at *
  have HF := Lib.hid hF
  have HT := Lib.hid ht
  have f1 := Lib.hid (flat_below hF (show Below w.heap.size w ((w.alloc (.cells #[.int .i64 mean, .int .i64 rate, .slice A n cap, .int .i64 rest] 46)).alloc (.cells #[.int .i64 0, .int .i64 0] 24)) from (by repeat' (first | (with_reducible refine below_drewN ?_ _) | go_grown))))
  clear hF hs ht htb hin
  go_enter Tryd.func77, Tryd.ntmps77
  go_wp2_with fail
  refine Calls.mono (HC.out _ f1.out) ?_
  rintro e w1 ⟨rfl, hb⟩
  obtain ⟨hb1, hz1, hc1, hf1⟩ := took (w := w) (by repeat' (first | (with_reducible refine below_drewN ?_ _) | go_grown)) (by first | (simp only [World.size_alloc, World.size_setCell, World.size_drew, size_drewN]; done) | (simp only [World.size_alloc, World.size_setCell, World.size_drew, size_drewN]; rfl) | rfl) hb; clear hb
  have z1 : w.heap.size < w1.heap.size := by omega
  have z1b : w.heap.size + 1 < w1.heap.size := by omega
  go_wp2_with fail
  refine Calls.mono (I.out _) ?_
  rintro e w2 ⟨rfl, hb⟩
  obtain ⟨hb2, hz2, hc2, hf2⟩ := took (w := w) (by repeat' (first | (with_reducible refine below_drewN ?_ _) | go_grown)) (by first | (simp only [World.size_alloc, World.size_setCell, World.size_drew, size_drewN]; done) | (simp only [World.size_alloc, World.size_setCell, World.size_drew, size_drewN]; rfl) | rfl) hb; clear hb
  have z2 : w.heap.size < w2.heap.size := by omega
  have z2b : w.heap.size + 1 < w2.heap.size := by omega
  have f2 := Lib.hid (flat_below HF.out hb2)
  have T2 := Lib.hid (HT.out.below hb2)
  go_wp2_with fail
  refine Calls.mono (HV.out _ T2.out f2.out) ?_
  rintro e w3 ⟨rfl, hb⟩
  obtain ⟨hb3, hz3, hc3, hf3⟩ := took (w := w) (by repeat' (first | (with_reducible refine below_drewN ?_ _) | go_grown)) (by first | (simp only [World.size_alloc, World.size_setCell, World.size_drew, size_drewN]; done) | (simp only [World.size_alloc, World.size_setCell, World.size_drew, size_drewN]; rfl) | rfl) hb; clear hb
  have z3 : w.heap.size < w3.heap.size := by omega
  have z3b : w.heap.size + 1 < w3.heap.size := by omega
  go_wp2_with fail
  refine bodyPost_ret (v := .tuple #[.agg #[.int .i64 lo, .int .i64 hi], .int .i64 0]) ?_ rfl ⟨rfl, (by repeat' (first | (with_reducible refine below_drewN ?_ _) | go_grown))⟩
  simp [results, Tryd.results77, go_sem, *]
end Go.Proofs.YtdeoahgcppbmkaaDoor
