/- The contract of agree.most and agree.Most. -/
import Derived.Test.YtaemgglkdeklmaaAgree
namespace Go.Proofs.Ytaemgglkdeklmaa
open Go.RowKit
set_option linter.unusedSimpArgs false
set_option linter.unusedVariables false

theorem mB_bounds {zs : List Int} {n : Nat} (hS : SpOk zs n) (k : Nat) (hk : k ≤ n) : -500000000000000000 ≤ (mB zs n k).lo ∧ (mB zs n k).lo ≤ 500000000000000000 ∧ -500000000000000000 ≤ (mB zs n k).hi ∧ (mB zs n k).hi ≤ 500000000000000000 ∧ (mB zs n k).k ≤ 40 := by
  induction k with
  | zero => simp [mB]
  | succ k ih =>
    have h1 := ih (by omega)
    have h2 := hS.each k (by omega)
    have h3 := dep_le zs (ix zs (k * 2)) n
    have h4 := hS.few
    simp only [mB]
    split
    · dsimp only; omega
    · exact h1
theorem mH_bounds {zs : List Int} {n : Nat} (hS : SpOk zs n) (b h0 : Int) (hh : -500000000000000000 ≤ h0 ∧ h0 ≤ 500000000000000000) (k : Nat) (hk : k ≤ n) : -500000000000000000 ≤ mH zs b h0 k ∧ mH zs b h0 k ≤ 500000000000000000 := by
  induction k with
  | zero => simpa [mH] using hh
  | succ k ih =>
    have h1 := ih (by omega)
    have h2 := hS.each k (by omega)
    simp only [mH]
    split <;> omega

/-- What most tells. -/
def mostV (zs : List Int) (n : Nat) : Value := .tuple #[.agg #[.int .i64 (mB zs n n).lo, .int .i64 (mH zs (mB zs n n).lo (mB zs n n).hi n)], .int .i64 (mB zs n n).k]

set_option maxRecDepth 100000 in
set_option maxHeartbeats 8000000 in
theorem most_ok (A : Option Addr) (n cap : Nat) (zs : List Int) (w : World) (h : FlatSl w 2 A n cap zs) (hS : SpOk zs n) :
    Calls Try.prog 62 #[.slice A n cap] w fun e w' => e = .returned (mostV zs n) ∧ Below w.heap.size w w' := by
  have hf := hS.few
  have hF := Lib.hid h
  obtain ⟨b, off, hA, hcell⟩ := h.at' hS.some
  subst hA
  have hb := World.block_lt_of_cell? w _ (hcell 0 (by have := hS.some; omega))
  have HC := Lib.hid hcell; clear hcell h
  go_enter Try.func62, Try.ntmps62
  go_wp2_with fail
  have B0 : SpBox ((w.alloc (.cells #[.int .i64 0, .int .i64 0] 25)).alloc (.cells #[.int .i64 0, .int .i64 0] 25)) w.heap.size 0 0 := (SpBox.new w 0 0).alloc _
  have B1 : SpBox ((w.alloc (.cells #[.int .i64 0, .int .i64 0] 25)).alloc (.cells #[.int .i64 0, .int .i64 0] 25)) (w.heap.size + 1) 0 0 := by
    have := SpBox.new (w.alloc (.cells #[.int .i64 0, .int .i64 0] 25)) 0 0
    simpa using this
  go_loopw [5, 14] (fun v i wr => ∃ (k : Nat) (M : Best), k ≤ n ∧ i = .int .i64 k ∧ mB zs n k = M ∧ v = .int .i64 M.k ∧ SpBox wr w.heap.size 0 0 ∧ SpBox wr (w.heap.size + 1) M.lo M.hi ∧ Below w.heap.size w wr) (fun _ i _ => n - (intOf i).toNat)
  case atStart => exact ⟨0, ⟨0, 0, 0⟩, by omega, rfl, rfl, rfl, B0, B1, (by repeat' (first | (with_reducible refine below_drewN ?_ _) | go_grown))⟩
  case round =>
    obtain ⟨k, ⟨lo, hi, kk⟩, hk, rfl, hM, rfl, b0, b1, hbw⟩ := hrel
    have hbs := hbw.size
    have hmb := mB_bounds hS k hk
    rw [hM] at hmb
    obtain ⟨g1, g2, g3, g4, g5⟩ := hmb
    simp only at g1 g2 g3 g4 g5 b1
    have HM := Lib.hid hM; clear hM
    have f0 := b1.c0
    have f1 := b1.c1
    have lt1 := b1.lt
    have lt0 := b0.lt
    by_cases hlt : k < n
    · obtain ⟨c0, c1, hbl⟩ := leap_cells HC.out hb hbw hlt
      obtain ⟨d, hd⟩ : ∃ d, d = dep zs (ix zs (k * 2)) n := ⟨_, rfl⟩
      have hd40 : d ≤ 40 := by rw [hd]; exact Nat.le_trans (dep_le _ _ _) hf
      have hnx : mB zs n (k + 1) = if kk < d ∨ (d = kk ∧ ix zs (k * 2) < lo) then ⟨ix zs (k * 2), ix zs (k * 2 + 1), d⟩ else ⟨lo, hi, kk⟩ := by
        show (if _ then _ else _) = _
        rw [HM.out, ← hd]
      have HD := Lib.hid hd; clear hd
      have HN := Lib.hid hnx; clear hnx
      go_wp2_with fail
      refine Calls.mono (depth_ok _ _ _ zs _ _ ((hF.out.keep (by omega) hbw).keep (by omega) ((Below.refl _ _).alloc (Nat.le_refl _) _)) hf) ?_
      rintro e w1 ⟨rfl, hb1⟩
      rw [← HD.out]
      have b0' := (b0.alloc (.cells #[.int .i64 (ix zs (k * 2)), .int .i64 (ix zs (k * 2 + 1))] 25)).below hb1
      have b1' := (b1.alloc (.cells #[.int .i64 (ix zs (k * 2)), .int .i64 (ix zs (k * 2 + 1))] 25)).below hb1
      have b2' := (SpBox.new wr (ix zs (k * 2)) (ix zs (k * 2 + 1))).below hb1
      have hbw1 := (hbw.alloc hbs (.cells #[.int .i64 (ix zs (k * 2)), .int .i64 (ix zs (k * 2 + 1))] 25)).trans (hb1.mono (by simp; omega))
      have hbs1 := hbw1.size
      have f2 := b1'.c0
      have f3 := b1'.c1
      have f4 := b2'.c0
      have f5 := b2'.c1
      have f6 := b1'.free 0
      have f7 := b1'.free 1
      have ne1 : w.heap.size + 1 ≠ wr.heap.size := by omega
      clear b0 b1 hb1 hbw f0 f1 c0 c1
      by_cases q1 : kk < d
      · have hx := HN.out
        rw [if_pos (Or.inl q1)] at hx
        have HX := Lib.hid hx; clear hx
        have q1' : (kk : Int) < (d : Int) := by omega
        go_wp2_with fail
        go_roundw
        case rel => exact ⟨k + 1, _, by omega, by go_num, HX.out, rfl, (b0'.other (by simp) _).other (by simp) _, b1'.set _ _, (by repeat' (first | (with_reducible refine below_drewN ?_ _) | go_grown))⟩
        case measure => simp [intOf]; omega
      · by_cases q2 : d = kk
        · subst q2
          by_cases q3 : ix zs (k * 2) < lo
          · have hx := HN.out
            rw [if_pos (Or.inr ⟨rfl, q3⟩)] at hx
            have HX := Lib.hid hx; clear hx
            go_wp2_with fail
            go_roundw
            case rel => exact ⟨k + 1, _, by omega, by go_num, HX.out, rfl, (b0'.other (by simp) _).other (by simp) _, b1'.set _ _, (by repeat' (first | (with_reducible refine below_drewN ?_ _) | go_grown))⟩
            case measure => simp [intOf]; omega
          · have hx := HN.out
            rw [if_neg (fun h => h.elim q1 (fun h => q3 h.2))] at hx
            have HX := Lib.hid hx; clear hx
            go_wp2_with fail
            go_roundw
            case rel => exact ⟨k + 1, _, by omega, by go_num, HX.out, rfl, b0', b1', hbw1⟩
            case measure => simp [intOf]; omega
        · have hx := HN.out
          rw [if_neg (fun h => h.elim q1 (fun h => q2 h.1))] at hx
          have HX := Lib.hid hx; clear hx
          have q4 : ((d : Int) == (kk : Int)) = false := by simp; omega
          clear q2
          go_wp2_with fail
          go_roundw
          case rel => exact ⟨k + 1, _, by omega, by go_num, HX.out, rfl, b0', b1', hbw1⟩
          case measure => simp [intOf]; omega
    · obtain rfl : k = n := by omega
      have hlo : (mB zs k k).lo = lo := by rw [HM.out]
      have hhi : (mB zs k k).hi = hi := by rw [HM.out]
      have hkk : (mB zs k k).k = kk := by rw [HM.out]
      have HLO := Lib.hid hlo; have HHI := Lib.hid hhi; have HKK := Lib.hid hkk; clear hlo hhi hkk
      clear f0 f1
      go_wp2_with fail
      obtain ⟨W, hW⟩ : ∃ W, W = wr := ⟨_, rfl⟩
      subst hW
      go_loopw [46] (fun i wr => ∃ (j : Nat) (h : Int), j ≤ k ∧ i = .int .i64 j ∧ mH zs lo hi j = h ∧ SpBox wr w.heap.size 0 0 ∧ SpBox wr (w.heap.size + 1) lo h ∧ Below w.heap.size w wr) (fun i _ => k - (intOf i).toNat)
      case atStart => exact ⟨0, hi, by omega, rfl, rfl, b0, b1, hbw⟩
      case round =>
        obtain ⟨j, h, hj, rfl, hM2, b0, b1, hbw⟩ := hrel
        have hbs := hbw.size
        have hmb := mH_bounds hS lo hi ⟨g3, g4⟩ j hj
        rw [hM2] at hmb
        obtain ⟨g6, g7⟩ := hmb
        have HM2 := Lib.hid hM2; clear hM2
        have f0 := b1.c0
        have f1 := b1.c1
        have lt1 := b1.lt
        have lt0 := b0.lt
        have f6 := b1.free 1
        by_cases hlt : j < k
        · obtain ⟨c0, c1, hbl⟩ := leap_cells HC.out hb hbw hlt
          have hnx : mH zs lo hi (j + 1) = if ix zs (j * 2) ≤ lo ∧ lo ≤ ix zs (j * 2 + 1) then min h (ix zs (j * 2 + 1)) else h := by
            show (if _ then _ else _) = _
            rw [HM2.out]
          have ne1 : w.heap.size + 1 ≠ wr.heap.size := by omega
          by_cases q1 : ix zs (j * 2) ≤ lo
          · by_cases q2 : lo ≤ ix zs (j * 2 + 1)
            · rw [if_pos ⟨q1, q2⟩] at hnx
              have HX := Lib.hid hnx; clear hnx
              go_wp2_with fail
              go_roundw
              case rel => exact ⟨j + 1, _, by omega, by go_num, HX.out, (b0.other (by simp) _).alloc _, (b1.set1 _).alloc _, (by repeat' (first | (with_reducible refine below_drewN ?_ _) | go_grown))⟩
              case measure => simp [intOf]; omega
            · rw [if_neg (fun h => q2 h.2)] at hnx
              have HX := Lib.hid hnx; clear hnx
              go_wp2_with fail
              go_roundw
              case rel => exact ⟨j + 1, _, by omega, by go_num, HX.out, b0.alloc _, b1.alloc _, hbw.alloc hbs _⟩
              case measure => simp [intOf]; omega
          · rw [if_neg (fun h => q1 h.1)] at hnx
            have HX := Lib.hid hnx; clear hnx
            go_wp2_with fail
            go_roundw
            case rel => exact ⟨j + 1, _, by omega, by go_num, HX.out, b0.alloc _, b1.alloc _, hbw.alloc hbs _⟩
            case measure => simp [intOf]; omega
        · obtain rfl : j = k := by omega
          have f7 := b0.free 0
          have f8 := b0.free 1
          have f9 := b0.c0
          have f10 := b0.c1
          go_wp2_with fail
          have hv : mostV zs j = .tuple #[.agg #[.int .i64 lo, .int .i64 h], .int .i64 kk] := by unfold mostV; rw [HLO.out, HHI.out, HKK.out, HM2.out]
          refine bodyPost_ret (v := .tuple #[.agg #[.int .i64 lo, .int .i64 h], .int .i64 kk]) ?_ rfl ⟨by rw [hv], (by repeat' (first | (with_reducible refine below_drewN ?_ _) | go_grown))⟩
          simp [results, Try.results62, go_sem, f9, f10]

end Go.Proofs.Ytaemgglkdeklmaa
