/- Spans of sines, cosines and their products: bounds. Plain. -/
import Derived.Test.YtcopmgnfakjdhaaDoorTrigN
import Derived.Test.YtcopmgnfakjdhaaDoorTrigO2
namespace Go.Proofs.YtcopmgnfakjdhaaDoor
set_option linter.unusedSimpArgs false
set_option linter.unusedVariables false
theorem s_tms (a : Int) : -1000000000 ≤ sLo a ∧ sLo a ≤ sHi a ∧ sHi a ≤ 1000000000 := by
  have h := sine_in a; exact ⟨h.bl, h.le, h.bh⟩
theorem c_tms (a : Int) : -1000000000 ≤ cLo a ∧ cLo a ≤ cHi a ∧ cHi a ≤ 1000000000 := by unfold cLo cHi; exact s_tms _
theorem so_tms (a b : Int) : -1000000000 ≤ soLo a b ∧ soLo a b ≤ soHi a b ∧ soHi a b ≤ 1000000000 := by
  have h := s_tms a; have g := s_tms b
  unfold soLo soHi
  split <;> split <;> omega
theorem co_tms (a b : Int) : -1000000000 ≤ coLo a b ∧ coLo a b ≤ coHi a b ∧ coHi a b ≤ 1000000000 := by unfold coLo coHi; exact so_tms _ _
theorem tms_of {a b c d : Int} (h : -1000000000 ≤ a ∧ a ≤ b ∧ b ≤ 1000000000) (g : -1000000000 ≤ c ∧ c ≤ d ∧ d ≤ 1000000000) : TmsOk a b c d := ⟨h.2.1, g.2.1, h.1, h.2.2, g.1, g.2.2⟩
theorem div_bd9 {x : Int} (h1 : -1000000000000000000 ≤ x) (h2 : x ≤ 1000000000000000000) : -1000000000 ≤ x / 1000000000 ∧ x / 1000000000 ≤ upQ x 1000000000 ∧ upQ x 1000000000 ≤ 1000000000 := by unfold upQ; omega
theorem tm_tms {a b c d : Int} (h : TmsOk a b c d) : -1000000000 ≤ tmLo a b c d ∧ tmLo a b c d ≤ tmHi a b c d ∧ tmHi a b c d ≤ 1000000000 := by
  obtain ⟨h1, h2, h3, h4, h5, h6⟩ := h
  have p0 := mul_bound h3 (show a ≤ 1000000000 by omega) h5 (show c ≤ 1000000000 by omega)
  have p1 := mul_bound h3 (show a ≤ 1000000000 by omega) (show -1000000000 ≤ d by omega) h6
  have p2 := mul_bound (show -1000000000 ≤ b by omega) h4 h5 (show c ≤ 1000000000 by omega)
  have p3 := mul_bound (show -1000000000 ≤ b by omega) h4 (show -1000000000 ≤ d by omega) h6
  have q0 := div_bd9 (x := a * c) (by omega) (by omega)
  have q1 := div_bd9 (x := a * d) (by omega) (by omega)
  have q2 := div_bd9 (x := b * c) (by omega) (by omega)
  have q3 := div_bd9 (x := b * d) (by omega) (by omega)
  unfold tmLo tmHi pLo pHi
  generalize a * c / 1000000000 = x0 at *
  generalize a * d / 1000000000 = x1 at *
  generalize b * c / 1000000000 = x2 at *
  generalize b * d / 1000000000 = x3 at *
  generalize upQ (a * c) 1000000000 = y0 at *
  generalize upQ (a * d) 1000000000 = y1 at *
  generalize upQ (b * c) 1000000000 = y2 at *
  generalize upQ (b * d) 1000000000 = y3 at *
  omega
end Go.Proofs.YtcopmgnfakjdhaaDoor
