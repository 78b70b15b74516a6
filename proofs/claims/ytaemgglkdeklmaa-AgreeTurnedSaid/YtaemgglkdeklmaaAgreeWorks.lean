/- The contracts of agree.Outside and agreeWorks. -/
import Derived.Test.YtaemgglkdeklmaaAgreeLaw
import Derived.Test.YtaemgglkdeklmaaSpans
import Derived.Deep.Onto
namespace Go.Proofs.Ytaemgglkdeklmaa
open Go.RowKit
set_option linter.unusedSimpArgs false
set_option linter.unusedVariables false

/-- The numbers of the intervals that lie outside. -/
def outL (zs : List Int) (lo hi : Int) : Nat → List Int
  | 0 => []
  | k + 1 => if ix zs (k * 2 + 1) < lo ∨ hi < ix zs (k * 2) then outL zs lo hi k ++ [(k : Int)] else outL zs lo hi k
theorem outL_le (zs : List Int) (lo hi : Int) (k : Nat) : (outL zs lo hi k).length ≤ k := by
  induction k with
  | zero => simp [outL]
  | succ k ih =>
    simp only [outL]
    split
    · simp; omega
    · omega

theorem Try.infoInt : (Try.prog.info? 3).map (fun i => (i.zero, i.size, i.bytes)) = some (some (.int .i64 0), 1, 8) := by kernel_rfl

def OutPost (zs : List Int) (lo hi : Int) (n : Nat) (w : World) (e : Ending) (w' : World) : Prop :=
  ∃ v, e = .returned (.tuple #[v, .int .i64 0]) ∧ w'.ownsRow w.heap.size 3 1 v (outL zs lo hi n).length ((outL zs lo hi n).map (Value.int .i64)) ∧ Below w.heap.size w w'

set_option maxRecDepth 100000 in
set_option maxHeartbeats 8000000 in
theorem outside_ok (A : Option Addr) (n cap : Nat) (zs : List Int) (w : World) (h : FlatSl w 2 A n cap zs) (hS : SpOk zs n) :
    Calls Try.prog 59 #[.slice A n cap] w (OutPost zs (mB zs n n).lo (mH zs (mB zs n n).lo (mB zs n n).hi n) n w) := by
  obtain ⟨i0, hi, hy0, hy1, hy2⟩ := info_parts Try.infoInt
  have hf := hS.few
  have hF := Lib.hid h
  obtain ⟨b, off, hA, hcell⟩ := h.at' hS.some
  subst hA
  have hb := World.block_lt_of_cell? w _ (hcell 0 (by have := hS.some; omega))
  have HC := Lib.hid hcell; clear hcell h
  obtain ⟨lo, hlo⟩ : ∃ x, x = (mB zs n n).lo := ⟨_, rfl⟩
  obtain ⟨hi', hhi⟩ : ∃ x, x = mH zs (mB zs n n).lo (mB zs n n).hi n := ⟨_, rfl⟩
  obtain ⟨kk, hkk⟩ : ∃ x, x = (mB zs n n).k := ⟨_, rfl⟩
  have hv : mostV zs n = .tuple #[.agg #[.int .i64 lo, .int .i64 hi'], .int .i64 kk] := by unfold mostV; rw [hlo, hhi, hkk]
  rw [← hhi, ← hlo]
  have HV := Lib.hid hv
  clear hv hlo hhi hkk
  go_enter Try.func59, Try.ntmps59
  go_wp2_with fail
  refine Calls.mono (agreeCheck_ok _ _ _ _ _ hF.out hS) ?_
  rintro e w1 ⟨rfl, hb⟩
  obtain ⟨hb1, hz1, hc1, hf1⟩ := took (w := w) (by repeat' (first | (with_reducible refine below_drewN ?_ _) | go_grown)) (by first | (simp only [World.size_alloc, World.size_setCell, World.size_drew, size_drewN]; done) | (simp only [World.size_alloc, World.size_setCell, World.size_drew, size_drewN]; rfl) | rfl) hb; clear hb
  go_wp2_with fail
  refine Calls.mono (most_ok _ _ _ _ _ (hF.out.keep (by omega) hb1) hS) ?_
  rintro e w2 ⟨rfl, hb⟩
  rw [HV.out]
  obtain ⟨hb2, hz2, hc2, hf2⟩ := took (w := w) (by repeat' (first | (with_reducible refine below_drewN ?_ _) | go_grown)) (by first | (simp only [World.size_alloc, World.size_setCell, World.size_drew, size_drewN]; done) | (simp only [World.size_alloc, World.size_setCell, World.size_drew, size_drewN]; rfl) | rfl) hb; clear hb
  have z1 : w.heap.size ≤ w2.heap.size := by omega
  have B2 := SpBox.new w2 lo hi'
  have hb3 := hb2.alloc z1 (.cells #[.int .i64 lo, .int .i64 hi'] 25)
  clear hc1 hc2 hf1 hf2
  go_wp2_with fail
  obtain ⟨B, hB⟩ : ∃ B, B = w2.heap.size + 1 := ⟨_, rfl⟩
  have hB1 : w2.heap.size < B := by omega
  have hB2 : B ≤ w2.heap.size + 1 := by omega
  have hB3 : w.heap.size ≤ B := by omega
  clear hB
  go_loopw [7, 22] (fun v i wr => ∃ k : Nat, k ≤ n ∧ i = .int .i64 k ∧ wr.ownsRow B 3 1 v (outL zs lo hi' k).length ((outL zs lo hi' k).map (Value.int .i64)) ∧ SpBox wr w2.heap.size lo hi' ∧ B ≤ wr.heap.size ∧ Below w.heap.size w wr)
    (fun _ i _ => n - (intOf i).toNat)
  case atStart => exact ⟨0, by omega, rfl, World.ownsRow_nil _ _ _ _, B2, by simp; omega, hb3⟩
  case round =>
    obtain ⟨k, hk, rfl, hown, b2, hB4, hbw⟩ := hrel
    have hbs := hbw.size
    have f0 := b2.c0
    have f1 := b2.c1
    have lt2 := b2.lt
    have hol := outL_le zs lo hi' k
    by_cases hlt : k < n
    · obtain ⟨c0, c1, hbl⟩ := leap_cells HC.out hb hbw hlt
      have hnx : outL zs lo hi' (k + 1) = if ix zs (k * 2 + 1) < lo ∨ hi' < ix zs (k * 2) then outL zs lo hi' k ++ [(k : Int)] else outL zs lo hi' k := rfl
      have b2' := b2.alloc (.cells #[.int .i64 (ix zs (k * 2)), .int .i64 (ix zs (k * 2 + 1))] 25)
      have hown1 := hown.alloc (.cells #[.int .i64 (ix zs (k * 2)), .int .i64 (ix zs (k * 2 + 1))] 25)
      have hbw1 := hbw.alloc hbs (.cells #[.int .i64 (ix zs (k * 2)), .int .i64 (ix zs (k * 2 + 1))] 25)
      clear hown b2 hbw
      by_cases q1 : ix zs (k * 2 + 1) < lo ∨ hi' < ix zs (k * 2)
      · rw [if_pos q1] at hnx
        have HX := Lib.hid hnx; clear hnx
        by_cases q2 : ix zs (k * 2 + 1) < lo
        · clear q1
          go_wp2_with (at_builtin; refine wpList_append_own _ rfl _ _ 53 rfl B 3 i0 (.int .i64 0) 1 8 Try.underlying53 hi hy0 hy1 hy2 rfl (by decide) _ _ _ rfl (hown1.alloc _) ⟨wr.heap.size + 1, 0, none⟩ 1 1 [.int .i64 k] rfl rfl ?c1 ?c2 ?c3 ?c4 ?c5 ?_)
          case c1 => have := cells_one (w := wr.alloc (.cells #[.int .i64 (ix zs (k * 2)), .int .i64 (ix zs (k * 2 + 1))] 25)) (x := .int .i64 k) (t := 3); simpa using this
          case c2 => intro u hu; simp at hu; subst hu; rfl
          case c3 => unfold maxLen; omega
          case c4 => omega
          case c5 => simp; omega
          · intro v' w3 hown' hgrow _
            have R : w3.ownsRow B 3 1 v' (outL zs lo hi' (k + 1)).length ((outL zs lo hi' (k + 1)).map (Value.int .i64)) := by
              rw [HX.out]
              simpa only [List.map_append, List.map_cons, List.map_nil, List.length_append, List.length_cons, List.length_nil] using hown'
            have b3 := (b2'.alloc (.cells #[.int .i64 k] 3)).grown hgrow (hown1.alloc _) hB1
            have hb4 := (hbw1.alloc (by simp; omega) (.cells #[.int .i64 k] 3)).grown hgrow (by simp; omega) (fun q hq => Nat.le_trans hB3 (hown1.lt q hq).1)
            have hsz := hgrow.size
            clear hown' hgrow hown1 b2' hbw1
            go_wp2_with fail
            go_roundw
            case rel => exact ⟨k + 1, by omega, by go_num, R, b3, by simp at hsz; omega, hb4⟩
            case measure => simp [intOf]; omega
        · have q3 : hi' < ix zs (k * 2) := q1.resolve_left q2
          clear q1
          go_wp2_with (at_builtin; refine wpList_append_own _ rfl _ _ 53 rfl B 3 i0 (.int .i64 0) 1 8 Try.underlying53 hi hy0 hy1 hy2 rfl (by decide) _ _ _ rfl (hown1.alloc _) ⟨wr.heap.size + 1, 0, none⟩ 1 1 [.int .i64 k] rfl rfl ?d1 ?d2 ?d3 ?d4 ?d5 ?_)
          case d2 => rfl
          case d3 => unfold maxLen; omega
          case d4 => omega
          case d5 => first | omega | (simp; omega)
          · intro v' w3 hown' hgrow _
            have R : w3.ownsRow B 3 1 v' (outL zs lo hi' (k + 1)).length ((outL zs lo hi' (k + 1)).map (Value.int .i64)) := by
              rw [HX.out]
              simpa only [List.map_append, List.map_cons, List.map_nil, List.length_append, List.length_cons, List.length_nil] using hown'
            have b3 := (b2'.alloc (.cells #[.int .i64 k] 3)).grown hgrow (hown1.alloc _) hB1
            have hb4 := (hbw1.alloc (by simp; omega) (.cells #[.int .i64 k] 3)).grown hgrow (by simp; omega) (fun q hq => Nat.le_trans hB3 (hown1.lt q hq).1)
            have hsz := hgrow.size
            clear hown' hgrow hown1 b2' hbw1
            go_wp2_with fail
            go_roundw
            case rel => exact ⟨k + 1, by omega, by go_num, R, b3, by simp at hsz; omega, hb4⟩
            case measure => simp [intOf]; omega
      · rw [if_neg q1] at hnx
        have HX := Lib.hid hnx; clear hnx
        have q2 : ¬ ix zs (k * 2 + 1) < lo := fun h => q1 (Or.inl h)
        have q3 : ¬ hi' < ix zs (k * 2) := fun h => q1 (Or.inr h)
        clear q1
        go_wp2_with fail
        go_roundw
        case rel => exact ⟨k + 1, by omega, by go_num, by rw [HX.out]; exact hown1, b2', by simp; omega, hbw1⟩
        case measure => simp [intOf]; omega
    · obtain rfl : k = n := by omega
      go_wp2_with fail
      go_returns
      exact ⟨_, rfl, hown.mono (by omega), hbw⟩

theorem agreeFour_ok : SpOk [0, 10, 5, 15, 8, 20, 30, 40] 4 := by
  refine ⟨by omega, by omega, fun j hj => ?_⟩
  match j, hj with
  | 0, _ => decide
  | 1, _ => decide
  | 2, _ => decide
  | 3, _ => decide

set_option maxRecDepth 100000 in
set_option maxHeartbeats 4000000 in
theorem agreeWorks_ok (w : World) : Calls Try.prog 37 #[] w fun e w' => e = .returned (.bool true) ∧ Below w.heap.size w w' := by
  have e1 : (mB [0, 10, 5, 15, 8, 20, 30, 40] 4 4).lo = 8 := by decide
  have e2 : mH [0, 10, 5, 15, 8, 20, 30, 40] 8 (mB [0, 10, 5, 15, 8, 20, 30, 40] 4 4).hi 4 = 10 := by decide
  have e3 : (mB [0, 10, 5, 15, 8, 20, 30, 40] 4 4).k = 3 := by decide
  have e4 : withinV [0, 10, 5, 15, 8, 20, 30, 40] 4 2 = .tuple #[.agg #[.int .i64 5, .int .i64 15], .int .i64 0] := by
    unfold withinV
    rw [show (wH [0, 10, 5, 15, 8, 20, 30, 40] 4 2 4) = ⟨true, 5, 15⟩ by rfl]
    rfl
  have e5 : outL [0, 10, 5, 15, 8, 20, 30, 40] 8 10 4 = [3] := by decide
  have E1 := Lib.hid e1; have E2 := Lib.hid e2; have E3 := Lib.hid e3; have E4 := Lib.hid e4; have E5 := Lib.hid e5
  clear e1 e2 e3 e4 e5
  go_enter Try.func37, Try.ntmps37
  go_wp2_with fail
  have hF : FlatSl (w.alloc (.cells #[.int .i64 0, .int .i64 10, .int .i64 5, .int .i64 15, .int .i64 8, .int .i64 20, .int .i64 30, .int .i64 40] 25)) 2 (some ⟨w.heap.size, 0, none⟩) 4 4 [0, 10, 5, 15, 8, 20, 30, 40] := by
    refine ⟨by omega, by simp [maxLen], rfl, fun _ => ⟨_, _, rfl, fun j hj => ?_⟩⟩
    match j, hj with
    | 0, _ => simp [go_sem, ix]
    | 1, _ => simp [go_sem, ix]
    | 2, _ => simp [go_sem, ix]
    | 3, _ => simp [go_sem, ix]
    | 4, _ => simp [go_sem, ix]
    | 5, _ => simp [go_sem, ix]
    | 6, _ => simp [go_sem, ix]
    | 7, _ => simp [go_sem, ix]
  refine Calls.mono (agreeMost_ok _ _ _ _ _ hF agreeFour_ok) ?_
  rintro e w1 ⟨rfl, hb⟩
  rw [E1.out, E2.out, E3.out]
  have hF1 := hF.keep (by omega) hb
  obtain ⟨hb1, hz1, hc1, hf1⟩ := took (w := w) (by repeat' (first | (with_reducible refine below_drewN ?_ _) | go_grown)) (by first | (simp only [World.size_alloc, World.size_setCell, World.size_drew, size_drewN]; done) | (simp only [World.size_alloc, World.size_setCell, World.size_drew, size_drewN]; rfl) | rfl) hb; clear hb
  have z1 : w.heap.size < w1.heap.size := by omega
  go_wp2_with fail
  refine Calls.mono (within_any _ _ _ _ _ _ (hF1.atop (by omega) _) agreeFour_ok (by omega) (by omega)) ?_
  rintro e w2 ⟨rfl, hb⟩
  rw [E4.out]
  have hF2 := (hF1.atop (by omega) _).keep (by omega) hb
  have X1 := (SpBox.new w1 8 10).below hb
  obtain ⟨hb2, hz2, hc2, hf2⟩ := took (w := w) (by repeat' (first | (with_reducible refine below_drewN ?_ _) | go_grown)) (by first | (simp only [World.size_alloc, World.size_setCell, World.size_drew, size_drewN]; done) | (simp only [World.size_alloc, World.size_setCell, World.size_drew, size_drewN]; rfl) | rfl) hb; clear hb
  have z2 : w.heap.size < w2.heap.size := by omega
  go_wp2_with fail
  refine Calls.mono (outside_ok _ _ _ _ _ (hF2.atop (by omega) _) agreeFour_ok) ?_
  rintro e w3 ⟨v, rfl, hown, hb⟩
  rw [E1.out, E2.out, E5.out] at hown
  obtain ⟨A3, cap3, rfl, hF3⟩ := own_flat hown
  obtain ⟨b3, o3, rfl, hc3⟩ := hF3.at' (by simp)
  have hx := hc3 0 (by simp)
  rw [show ix [3] 0 = 3 from rfl, Nat.add_zero] at hx
  have X2 := (X1.alloc (.cells #[.int .i64 5, .int .i64 15] 25)).below hb
  have X3 := (SpBox.new w2 5 15).below hb
  have x0 := X2.c0; have x1 := X2.c1; have x2 := X3.c0; have x3 := X3.c1
  obtain ⟨hb3, hz3, hc3, hf3⟩ := took (w := w) (by repeat' (first | (with_reducible refine below_drewN ?_ _) | go_grown)) (by first | (simp only [World.size_alloc, World.size_setCell, World.size_drew, size_drewN]; done) | (simp only [World.size_alloc, World.size_setCell, World.size_drew, size_drewN]; rfl) | rfl) hb; clear hb
  clear X1 X2 X3 hc1 hc2 hc3 hf1 hf2 hf3
  clear hown hF3 hF2 hF1 hF
  have z3 : w1.heap.size < w2.heap.size := by omega
  have z4 : w1.heap.size < w3.heap.size := by omega
  have z5 : w2.heap.size < w3.heap.size := by omega
  go_wp2_with fail
  go_returns
  exact ⟨rfl, by repeat' (first | (with_reducible refine below_drewN ?_ _) | go_grown)⟩

theorem spanNums_ok (zs : List Int) (m : Nat) (h1 : 1 ≤ m) (h : m ≤ 20) : SpOk (spanNums zs 1000 m) m := by
  refine ⟨by omega, h1, fun j hj => ?_⟩
  rw [(ix_spanNums zs 1000 m j hj).1, (ix_spanNums zs 1000 m j hj).2]
  have := cut_bounds (ix zs (j * 2)) (ix zs (j * 2 + 1)) 1000 (by omega)
  unfold spLo spHi
  omega

end Go.Proofs.Ytaemgglkdeklmaa
