/- place.look, plain: the numbers of a direction. -/
import Derived.Test.YtcopmgnfakjdhaaDoorPlaceS
import Derived.Test.YtcopmgnfakjdhaaDoorTms
namespace Go.Proofs.YtcopmgnfakjdhaaDoor
set_option linter.unusedSimpArgs false
set_option linter.unusedVariables false
/-- What look asks. -/
structure LkOk (lon lat rl rh dl dh t : Int) : Prop where
  pl : PlOk lon lat
  r1 : -1000000000 ≤ rl
  r2 : rl ≤ rh
  r3 : rh ≤ 3000000000
  d1 : -250000000 ≤ dl
  d2 : dl ≤ dh
  d3 : dh ≤ 250000000
  ti : instOk t = true
def hhLo (lon t rh : Int) : Int := sdLo lon t - rh
def hhHi (lon t rl : Int) : Int := sdHi lon t - rl
theorem sd_bd (lon t : Int) : 0 ≤ sdLo lon t ∧ sdLo lon t < 1000000000 ∧ sdLo lon t ≤ sdHi lon t ∧ sdHi lon t ≤ sdLo lon t + 1 := by
  have h : 0 ≤ sdLo lon t ∧ sdLo lon t < 1000000000 := by unfold sdLo; exact ⟨Int.emod_nonneg _ (by decide), Int.emod_lt_of_pos _ (by decide)⟩
  have g : ∀ (p : Prop) [Decidable p], 0 ≤ (if p then (1 : Int) else 0) ∧ (if p then (1 : Int) else 0) ≤ 1 := fun p _ => by split <;> omega
  have e : sdHi lon t = sdLo lon t + (if 0 < 1002737909350806 * t % 86400000000000 then 1 else 0) := rfl
  have g' := g (0 < 1002737909350806 * t % 86400000000000)
  rw [e]
  generalize (if 0 < 1002737909350806 * t % 86400000000000 then (1 : Int) else 0) = d at *
  generalize sdLo lon t = s at *
  clear g e
  omega
def nrLo (hl hh dl dh : Int) : Int := tmLo (coLo dl dh) (coHi dl dh) (coLo hl hh) (coHi hl hh)
def nrHi (hl hh dl dh : Int) : Int := tmHi (coLo dl dh) (coHi dl dh) (coLo hl hh) (coHi hl hh)
def etLo (hl hh dl dh : Int) : Int := tmLo (coLo dl dh) (coHi dl dh) (soLo hl hh) (soHi hl hh)
def etHi (hl hh dl dh : Int) : Int := tmHi (coLo dl dh) (coHi dl dh) (soLo hl hh) (soHi hl hh)
theorem nr_tms (hl hh dl dh : Int) : -1000000000 ≤ nrLo hl hh dl dh ∧ nrLo hl hh dl dh ≤ nrHi hl hh dl dh ∧ nrHi hl hh dl dh ≤ 1000000000 := by unfold nrLo nrHi; exact tm_tms (tms_of (co_tms dl dh) (co_tms hl hh))
theorem et_tms (hl hh dl dh : Int) : -1000000000 ≤ etLo hl hh dl dh ∧ etLo hl hh dl dh ≤ etHi hl hh dl dh ∧ etHi hl hh dl dh ≤ 1000000000 := by unfold etLo etHi; exact tm_tms (tms_of (co_tms dl dh) (so_tms hl hh))
def upLo (lat hl hh dl dh : Int) : Int := clLo (tmLo (sLo lat) (sHi lat) (soLo dl dh) (soHi dl dh) + tmLo (cLo lat) (cHi lat) (nrLo hl hh dl dh) (nrHi hl hh dl dh))
def upHi (lat hl hh dl dh : Int) : Int := clHi (tmHi (sLo lat) (sHi lat) (soLo dl dh) (soHi dl dh) + tmHi (cLo lat) (cHi lat) (nrLo hl hh dl dh) (nrHi hl hh dl dh))
def eaLo (hl hh dl dh : Int) : Int := clLo (-etHi hl hh dl dh)
def eaHi (hl hh dl dh : Int) : Int := clHi (-etLo hl hh dl dh)
def noLo (lat hl hh dl dh : Int) : Int := clLo (tmLo (cLo lat) (cHi lat) (soLo dl dh) (soHi dl dh) - tmHi (sLo lat) (sHi lat) (nrLo hl hh dl dh) (nrHi hl hh dl dh))
def noHi (lat hl hh dl dh : Int) : Int := clHi (tmHi (cLo lat) (cHi lat) (soLo dl dh) (soHi dl dh) - tmLo (sLo lat) (sHi lat) (nrLo hl hh dl dh) (nrHi hl hh dl dh))
/-- What look hands back. -/
def lookV (lat hl hh dl dh : Int) : Value := .tuple #[.agg #[.int .i64 (upLo lat hl hh dl dh), .int .i64 (upHi lat hl hh dl dh), .int .i64 (eaLo hl hh dl dh), .int .i64 (eaHi hl hh dl dh), .int .i64 (noLo lat hl hh dl dh), .int .i64 (noHi lat hl hh dl dh)], .int .i64 0]
end Go.Proofs.YtcopmgnfakjdhaaDoor
