/- place.look, plain: the numbers of a direction. -/
import Derived.Test.YtloaliddcaobeaaDoorPlaceS
import Derived.Test.YtloaliddcaobeaaDoorTrigN
namespace Go.Proofs.YtloaliddcaobeaaDoor
set_option linter.unusedSimpArgs false
set_option linter.unusedVariables false
theorem s_tms (a : Int) : -1000000000 ≤ sLo a ∧ sLo a ≤ sHi a ∧ sHi a ≤ 1000000000 := by
  have h := sine_in a; exact ⟨h.bl, h.le, h.bh⟩
theorem c_tms (a : Int) : -1000000000 ≤ cLo a ∧ cLo a ≤ cHi a ∧ cHi a ≤ 1000000000 := by unfold cLo cHi; exact s_tms _
theorem so_tms (a b : Int) : -1000000000 ≤ soLo a b ∧ soLo a b ≤ soHi a b ∧ soHi a b ≤ 1000000000 := by
  have h := s_tms a; have g := s_tms b
  unfold soLo soHi
  split <;> split <;> omega
theorem co_tms (a b : Int) : -1000000000 ≤ coLo a b ∧ coLo a b ≤ coHi a b ∧ coHi a b ≤ 1000000000 := by unfold coLo coHi; exact so_tms _ _
theorem tms_of {a b c d : Int} (h : -1000000000 ≤ a ∧ a ≤ b ∧ b ≤ 1000000000) (g : -1000000000 ≤ c ∧ c ≤ d ∧ d ≤ 1000000000) : TmsOk a b c d := ⟨h.2.1, g.2.1, h.1, h.2.2, g.1, g.2.2⟩
theorem div_bd9 {x : Int} (h1 : -1000000000000000000 ≤ x) (h2 : x ≤ 1000000000000000000) : -1000000000 ≤ x / 1000000000 ∧ x / 1000000000 ≤ upQ x 1000000000 ∧ upQ x 1000000000 ≤ 1000000000 := by unfold upQ; omega
theorem tm_tms {a b c d : Int} (h : TmsOk a b c d) : -1000000000 ≤ tmLo a b c d ∧ tmLo a b c d ≤ tmHi a b c d ∧ tmHi a b c d ≤ 1000000000 := by
  obtain ⟨h1, h2, h3, h4, h5, h6⟩ := h
  have p0 := mul_bound h3 (show a ≤ 1000000000 by omega) h5 (show c ≤ 1000000000 by omega)
  have p1 := mul_bound h3 (show a ≤ 1000000000 by omega) (show -1000000000 ≤ d by omega) h6
  have p2 := mul_bound (show -1000000000 ≤ b by omega) h4 h5 (show c ≤ 1000000000 by omega)
  have p3 := mul_bound (show -1000000000 ≤ b by omega) h4 (show -1000000000 ≤ d by omega) h6
  have q0 := div_bd9 (x := a * c) (by omega) (by omega)
  have q1 := div_bd9 (x := a * d) (by omega) (by omega)
  have q2 := div_bd9 (x := b * c) (by omega) (by omega)
  have q3 := div_bd9 (x := b * d) (by omega) (by omega)
  unfold tmLo tmHi pLo pHi
  generalize a * c / 1000000000 = x0 at *
  generalize a * d / 1000000000 = x1 at *
  generalize b * c / 1000000000 = x2 at *
  generalize b * d / 1000000000 = x3 at *
  generalize upQ (a * c) 1000000000 = y0 at *
  generalize upQ (a * d) 1000000000 = y1 at *
  generalize upQ (b * c) 1000000000 = y2 at *
  generalize upQ (b * d) 1000000000 = y3 at *
  omega
/-- What look asks. -/
structure LkOk (lon lat rl rh dl dh t : Int) : Prop where
  pl : PlOk lon lat
  r1 : -1000000000 ≤ rl
  r2 : rl ≤ rh
  r3 : rh ≤ 3000000000
  d1 : -250000000 ≤ dl
  d2 : dl ≤ dh
  d3 : dh ≤ 250000000
  ti : instOk t = true
def hhLo (lon t rh : Int) : Int := sdLo lon t - rh
def hhHi (lon t rl : Int) : Int := sdHi lon t - rl
theorem sd_bd (lon t : Int) : 0 ≤ sdLo lon t ∧ sdLo lon t < 1000000000 ∧ sdLo lon t ≤ sdHi lon t ∧ sdHi lon t ≤ sdLo lon t + 1 := by
  have h : 0 ≤ sdLo lon t ∧ sdLo lon t < 1000000000 := by unfold sdLo; exact ⟨Int.emod_nonneg _ (by decide), Int.emod_lt_of_pos _ (by decide)⟩
  have g : ∀ (p : Prop) [Decidable p], 0 ≤ (if p then (1 : Int) else 0) ∧ (if p then (1 : Int) else 0) ≤ 1 := fun p _ => by split <;> omega
  have e : sdHi lon t = sdLo lon t + (if 0 < 1002737909350806 * t % 86400000000000 then 1 else 0) := rfl
  have g' := g (0 < 1002737909350806 * t % 86400000000000)
  rw [e]
  generalize (if 0 < 1002737909350806 * t % 86400000000000 then (1 : Int) else 0) = d at *
  generalize sdLo lon t = s at *
  clear g e
  omega
def nrLo (hl hh dl dh : Int) : Int := tmLo (coLo dl dh) (coHi dl dh) (coLo hl hh) (coHi hl hh)
def nrHi (hl hh dl dh : Int) : Int := tmHi (coLo dl dh) (coHi dl dh) (coLo hl hh) (coHi hl hh)
def etLo (hl hh dl dh : Int) : Int := tmLo (coLo dl dh) (coHi dl dh) (soLo hl hh) (soHi hl hh)
def etHi (hl hh dl dh : Int) : Int := tmHi (coLo dl dh) (coHi dl dh) (soLo hl hh) (soHi hl hh)
theorem nr_tms (hl hh dl dh : Int) : -1000000000 ≤ nrLo hl hh dl dh ∧ nrLo hl hh dl dh ≤ nrHi hl hh dl dh ∧ nrHi hl hh dl dh ≤ 1000000000 := by unfold nrLo nrHi; exact tm_tms (tms_of (co_tms dl dh) (co_tms hl hh))
theorem et_tms (hl hh dl dh : Int) : -1000000000 ≤ etLo hl hh dl dh ∧ etLo hl hh dl dh ≤ etHi hl hh dl dh ∧ etHi hl hh dl dh ≤ 1000000000 := by unfold etLo etHi; exact tm_tms (tms_of (co_tms dl dh) (so_tms hl hh))
def upLo (lat hl hh dl dh : Int) : Int := clLo (tmLo (sLo lat) (sHi lat) (soLo dl dh) (soHi dl dh) + tmLo (cLo lat) (cHi lat) (nrLo hl hh dl dh) (nrHi hl hh dl dh))
def upHi (lat hl hh dl dh : Int) : Int := clHi (tmHi (sLo lat) (sHi lat) (soLo dl dh) (soHi dl dh) + tmHi (cLo lat) (cHi lat) (nrLo hl hh dl dh) (nrHi hl hh dl dh))
def eaLo (hl hh dl dh : Int) : Int := clLo (-etHi hl hh dl dh)
def eaHi (hl hh dl dh : Int) : Int := clHi (-etLo hl hh dl dh)
def noLo (lat hl hh dl dh : Int) : Int := clLo (tmLo (cLo lat) (cHi lat) (soLo dl dh) (soHi dl dh) - tmHi (sLo lat) (sHi lat) (nrLo hl hh dl dh) (nrHi hl hh dl dh))
def noHi (lat hl hh dl dh : Int) : Int := clHi (tmHi (cLo lat) (cHi lat) (soLo dl dh) (soHi dl dh) - tmLo (sLo lat) (sHi lat) (nrLo hl hh dl dh) (nrHi hl hh dl dh))
/-- What look hands back. -/
def lookV (lat hl hh dl dh : Int) : Value := .tuple #[.agg #[.int .i64 (upLo lat hl hh dl dh), .int .i64 (upHi lat hl hh dl dh), .int .i64 (eaLo hl hh dl dh), .int .i64 (eaHi hl hh dl dh), .int .i64 (noLo lat hl hh dl dh), .int .i64 (noHi lat hl hh dl dh)], .int .i64 0]
end Go.Proofs.YtloaliddcaobeaaDoor
