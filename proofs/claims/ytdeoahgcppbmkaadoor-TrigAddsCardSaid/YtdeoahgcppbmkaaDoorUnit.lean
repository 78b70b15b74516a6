/- unit, plus; the theorem of addition as the program reckons it. -/
import Derived.Test.YtdeoahgcppbmkaaDoorTrigWorks
import Derived.Test.YtdeoahgcppbmkaaDoorTrigN
namespace Go.Proofs.YtdeoahgcppbmkaaDoor
open Go.RowKit
set_option linter.unusedSimpArgs false
set_option linter.unusedVariables false
/-- A product in the unit 1 / Turn, as 'unit' reckons it. -/
def unLo (a b c d : Int) : Int := pLo (pLo a b c d 1) (pHi a b c d 1) 1 1 1000000000
def unHi (a b c d : Int) : Int := pHi (pLo a b c d 1) (pHi a b c d 1) 1 1 1000000000
theorem nab1 : (1 : Int).natAbs = 1 := rfl
theorem un_lo (m n : Int) (h : m ≤ n) : pLo m n 1 1 1000000000 = m / 1000000000 ∧ pHi m n 1 1 1000000000 = upQ n 1000000000 := by
  have e1 : m / 1000000000 ≤ n / 1000000000 := by omega
  have e2 : upQ m 1000000000 ≤ upQ n 1000000000 := by unfold upQ; omega
  unfold pLo pHi
  simp only [Int.mul_one]
  omega
theorem un_rat {a b c d : Int} {x y : Rat} (h : SpanIn a b x) (g : SpanIn c d y) (hx : -1000000001 ≤ x ∧ x ≤ 1000000001) (hy : -1000000001 ≤ y ∧ y ≤ 1000000001) :
    1000000000 * (unLo a b c d : Rat) ≤ x * y + 21 / 100 ∧ x * y - 21 / 100 ≤ 1000000000 * (unHi a b c d : Rat) ∧ -1000000000 ≤ unLo a b c d ∧ unLo a b c d ≤ unHi a b c d ∧ unHi a b c d ≤ 1000000000 := by
  have m := h.mul g hx hy
  obtain ⟨-, -, -, l, o, u⟩ := span_mulOk h g
  obtain ⟨e1, e2⟩ := un_lo _ _ o
  have bb : -1000000000 ≤ unLo a b c d ∧ unLo a b c d ≤ unHi a b c d ∧ unHi a b c d ≤ 1000000000 := by
    unfold unLo unHi
    rw [e1, e2]
    unfold upQ
    omega
  have d1 := (div_rat (pLo a b c d 1) 1000000000 (by omega)).1
  have d2 := (div_rat (pHi a b c d 1) 1000000000 (by omega)).2
  rw [show ((1000000000 : Nat) : Rat) = 1000000000 from rfl] at d1 d2
  have f1 : (unLo a b c d : Rat) * 1000000000 ≤ (pLo a b c d 1 : Rat) := by unfold unLo; rw [e1]; exact d1
  have f2 : (pHi a b c d 1 : Rat) ≤ (unHi a b c d : Rat) * 1000000000 := by unfold unHi; rw [e2]; exact d2
  refine ⟨?_, ?_, bb⟩
  · grind
  · grind
set_option maxHeartbeats 1000000 in
theorem unit_ok (a b c d : Int) (w : World) (v1 : IvOk a b) (v2 : IvOk c d) (m : MulOk a b c d) (hl : -1000000000000000000 ≤ pLo a b c d 1) (ho : pLo a b c d 1 ≤ pHi a b c d 1) (hu : pHi a b c d 1 ≤ 1000000000000000000) :
    Calls Tryd.prog 20 #[.agg #[.int .i64 a, .int .i64 b], .agg #[.int .i64 c, .int .i64 d]] w fun e w' => e = .returned (.agg #[.int .i64 (unLo a b c d), .int .i64 (unHi a b c d)]) ∧ Below w.heap.size w w' := by
  have M := Lib.hid (fun w => mul_ok a b c d w v1 v2 m ⟨hl, ho, hu⟩)
  obtain ⟨e1, e2⟩ := un_lo _ _ ho
  have bb : -1000000000000000000 ≤ unLo a b c d ∧ unLo a b c d ≤ unHi a b c d ∧ unHi a b c d ≤ 1000000000000000000 := by
    unfold unLo unHi
    rw [e1, e2]
    unfold upQ
    omega
  have S0 := fun w => scale_ok (pLo a b c d 1) (pHi a b c d 1) 1 1000000000 w ⟨hl, ho, hu⟩ (by omega) (by omega) (by omega) ⟨by rw [nab1]; omega, by rw [nab1]; omega, by rw [nab1]; omega, by rw [nab1]; omega⟩ ⟨bb.1, bb.2.1, bb.2.2⟩
  have S1 : ∀ w, Calls Tryd.prog 64 #[.agg #[.int .i64 (pLo a b c d 1), .int .i64 (pHi a b c d 1)], .int .i64 1, .int .i64 1000000000] w fun e w' => e = .returned (.tuple #[.agg #[.int .i64 (unLo a b c d), .int .i64 (unHi a b c d)], .int .i64 0]) ∧ Below w.heap.size w w' := S0
  have S := Lib.hid S1
  clear S0 S1 e1 e2 bb m v1 v2 hl ho hu
  generalize unLo a b c d = ul at *
  generalize unHi a b c d = uh at *
  generalize pLo a b c d 1 = pl at *
  generalize pHi a b c d 1 = ph at *
  go_enter Tryd.func20, Tryd.ntmps20
  go_wp2_with fail
  refine Calls.mono (M.out _) ?_
  rintro e w1 ⟨rfl, hb⟩
  obtain ⟨hb1, hz1, hc1, hf1⟩ := took (w := w) (by repeat' (first | (with_reducible refine below_drewN ?_ _) | go_grown)) (by first | (simp only [World.size_alloc, World.size_setCell, World.size_drew, size_drewN]; done) | (simp only [World.size_alloc, World.size_setCell, World.size_drew, size_drewN]; rfl) | rfl) hb; clear hb
  have z1 : w.heap.size < w1.heap.size := by omega
  have z1b : w.heap.size + 1 < w1.heap.size := by omega
  have z1c : w.heap.size + 1 + 1 < w1.heap.size := by omega
  go_wp2_with fail
  refine Calls.mono (S.out _) ?_
  rintro e w2 ⟨rfl, hb⟩
  obtain ⟨hb2, hz2, hc2, hf2⟩ := took (w := w) (by repeat' (first | (with_reducible refine below_drewN ?_ _) | go_grown)) (by first | (simp only [World.size_alloc, World.size_setCell, World.size_drew, size_drewN]; done) | (simp only [World.size_alloc, World.size_setCell, World.size_drew, size_drewN]; rfl) | rfl) hb; clear hb
  have z2 : w.heap.size < w2.heap.size := by omega
  have z2b : w.heap.size + 1 < w2.heap.size := by omega
  have z2c : w.heap.size + 1 + 1 < w2.heap.size := by omega
  go_wp2_with fail
  refine bodyPost_ret (v := .agg #[.int .i64 ul, .int .i64 uh]) ?_ rfl ⟨rfl, (by repeat' (first | (with_reducible refine below_drewN ?_ _) | go_grown))⟩
  simp [results, Tryd.results20, go_sem, *]
theorem kPlus_ok (a b c d : Int) (w : World) (h1 : -4000000000000000000 ≤ a + c ∧ a + c ≤ 4000000000000000000) (h2 : -4000000000000000000 ≤ b + d ∧ b + d ≤ 4000000000000000000) :
    Calls Tryd.prog 19 #[.agg #[.int .i64 a, .int .i64 b], .agg #[.int .i64 c, .int .i64 d]] w fun e w' => e = .returned (.agg #[.int .i64 (a + c), .int .i64 (b + d)]) ∧ Below w.heap.size w w' := by
  have e1 : wrap64 (a + c) = a + c := IntWalk.wrap64_in _ (by omega)
  have e2 : wrap64 (b + d) = b + d := IntWalk.wrap64_in _ (by omega)
  clear h1 h2
  go_enter Tryd.func19, Tryd.ntmps19
  go_wp2_with fail
  refine bodyPost_ret (v := .agg #[.int .i64 (a + c), .int .i64 (b + d)]) ?_ rfl ⟨rfl, (by repeat' (first | (with_reducible refine below_drewN ?_ _) | go_grown))⟩
  simp [results, Tryd.results19, go_sem, *]
/-- The theorem of addition, as the program reckons it. -/
theorem adds_law (a b : Int) : sLo (a + b) ≤ unHi (sLo a) (sHi a) (cLo b) (cHi b) + unHi (cLo a) (cHi a) (sLo b) (sHi b) ∧ unLo (sLo a) (sHi a) (cLo b) (cHi b) + unLo (cLo a) (cHi a) (sLo b) (sHi b) ≤ sHi (a + b) := by
  obtain ⟨x1, x2, -⟩ := un_rat (sin_span a) (cos_span b) (SN_9 a) (CN_9 b)
  obtain ⟨y1, y2, -⟩ := un_rat (cos_span a) (sin_span b) (CN_9 a) (SN_9 b)
  have s := sin_span (a + b)
  have s1 := s.lo; have s2 := s.hi
  have n := SN_add a b
  unfold Near e2 at n
  have g1 : 1000000000 * SN a * (1000000000 * CN b) = 1000000000000000000 * (SN a * CN b) := by grind
  have g2 : 1000000000 * CN a * (1000000000 * SN b) = 1000000000000000000 * (CN a * SN b) := by grind
  rw [g1] at x1 x2; rw [g2] at y1 y2
  clear s g1 g2
  constructor
  · apply rat_le_int
    rw [Rat.intCast_add]
    clear x1 y1
    generalize SN a * CN b = p at *
    generalize CN a * SN b = q at *
    grind
  · apply rat_le_int
    rw [Rat.intCast_add]
    clear x2 y2
    generalize SN a * CN b = p at *
    generalize CN a * SN b = q at *
    grind
end Go.Proofs.YtdeoahgcppbmkaaDoor
