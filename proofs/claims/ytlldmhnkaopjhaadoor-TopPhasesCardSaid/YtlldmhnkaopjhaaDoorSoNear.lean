/- How far the sines of whole angles lie apart; spans over short spans of angles lie near their sines. Plain. -/
import Derived.Test.YtlldmhnkaopjhaaDoorRealA
import Derived.Test.YtlldmhnkaopjhaaDoorTrigO2
import Derived.Test.YtlldmhnkaopjhaaDoorTrigN
namespace Go.Proofs.YtlldmhnkaopjhaaDoor
set_option linter.unusedSimpArgs false
set_option linter.unusedVariables false
/-- How far the sines of whole angles lie apart. -/
def kW (W : Int) : Rat := 1000000000 * ra (W : Rat) + 1 / 1000000000
theorem SN_move {a b W : Int} (h : -W ≤ b - a ∧ b - a ≤ W) : Near (1000000000 * SN b) (1000000000 * SN a) (kW W) ∧ Near (1000000000 * CN b) (1000000000 * CN a) (kW W) := by
  have h1 := Rat.intCast_le_intCast.2 h.1
  have h2 := Rat.intCast_le_intCast.2 h.2
  rw [Rat.intCast_neg, Rat.intCast_sub] at h1
  rw [Rat.intCast_sub] at h2
  obtain ⟨l1, l2⟩ := SA_lipD (y := (a : Rat)) (d := (b : Rat) - (a : Rat)) (D := (W : Rat)) ⟨h1, h2⟩
  rw [show (a : Rat) + ((b : Rat) - (a : Rat)) = (b : Rat) by grind, SA_int, SA_int] at l1
  rw [show (a : Rat) + ((b : Rat) - (a : Rat)) = (b : Rat) by grind, CA_int, CA_int] at l2
  unfold kW
  unfold Near at *
  generalize ra (W : Rat) = z at *
  constructor <;> constructor <;> grind
theorem SN_at {c' c : Int} (k : Int) (h : c' = c + 1000000000 * k) : SN c' = SN c := by rw [h, SN_mod]
theorem con_at {a b t : Int} (h : conB a b t) (hw : b - a < 1000000000) : ∃ x, a ≤ x ∧ x ≤ b ∧ ∃ k : Int, x = t + 1000000000 * k := by
  unfold conB at h
  refine ⟨a + (t - a) % 1000000000, by omega, by omega, -((t - a) / 1000000000), by omega⟩
/-- The span of the sines over a short span lies near each of them. -/
theorem so_near {a b x W : Int} (hab : a ≤ b) (hw : b - a ≤ W) (hW : W < 1000000000) (h1 : a ≤ x) (h2 : x ≤ b) : Near (soLo a b : Rat) (1000000000 * SN x) (kW W + 102 / 100) ∧ Near (soHi a b : Rat) (1000000000 * SN x) (kW W + 102 / 100) := by
  have ia := sine_in a; have ib := sine_in b
  have ma := (SN_move (a := x) (b := a) (W := W) (by omega)).1
  have mb := (SN_move (a := x) (b := b) (W := W) (by omega)).1
  have a1 := ia.lo; have a2 := ia.hi; have a3 := ia.lo2; have a4 := ia.hi2
  have b1 := ib.lo; have b2 := ib.hi; have b3 := ib.lo2; have b4 := ib.hi2
  have xl := SN_9 x
  have ml := Rat.intCast_le_intCast.2 (show min (sLo a) (sLo b) ≤ sLo a by omega)
  have ml2 : ((min (sLo a) (sLo b) : Int) : Rat) = (sLo a : Rat) ∨ ((min (sLo a) (sLo b) : Int) : Rat) = (sLo b : Rat) := by
    rcases (by omega : min (sLo a) (sLo b) = sLo a ∨ min (sLo a) (sLo b) = sLo b) with h | h
    · left; rw [h]
    · right; rw [h]
  have mh2 : ((max (sHi a) (sHi b) : Int) : Rat) = (sHi a : Rat) ∨ ((max (sHi a) (sHi b) : Int) : Rat) = (sHi b : Rat) := by
    rcases (by omega : max (sHi a) (sHi b) = sHi a ∨ max (sHi a) (sHi b) = sHi b) with h | h
    · left; rw [h]
    · right; rw [h]
  clear ia ib
  constructor
  · unfold soLo
    split
    · rename_i h
      obtain ⟨c, c1, c2, k, ck⟩ := con_at h (by omega)
      have mc := (SN_move (a := x) (b := c) (W := W) (by omega)).1
      rw [SN_at k ck] at mc
      have q := SN_q3
      rw [show ((-1000000000 : Int) : Rat) = -1000000000 from rfl]
      clear a1 a2 a3 a4 b1 b2 b3 b4 ml ml2 mh2 ma mb
      unfold Near eq1 at *
      generalize SN 750000000 = v at *
      generalize SN x = u at *
      generalize kW W = z at *
      constructor <;> grind
    · clear a2 a4 b2 b4 mh2
      unfold Near at *
      generalize ((min (sLo a) (sLo b) : Int) : Rat) = m at *
      generalize SN x = u at *
      generalize SN a = ua at *
      generalize SN b = ub at *
      generalize kW W = z at *
      constructor <;> grind
  · unfold soHi
    split
    · rename_i h
      obtain ⟨c, c1, c2, k, ck⟩ := con_at h (by omega)
      have mc := (SN_move (a := x) (b := c) (W := W) (by omega)).1
      rw [SN_at k ck] at mc
      have q := SN_q1
      rw [show ((1000000000 : Int) : Rat) = 1000000000 from rfl]
      clear a1 a2 a3 a4 b1 b2 b3 b4 ml ml2 mh2 ma mb
      unfold Near eq1 at *
      generalize SN 250000000 = v at *
      generalize SN x = u at *
      generalize kW W = z at *
      constructor <;> grind
    · clear a1 a3 b1 b3 ml2 ml
      unfold Near at *
      generalize ((max (sHi a) (sHi b) : Int) : Rat) = m at *
      generalize SN x = u at *
      generalize SN a = ua at *
      generalize SN b = ub at *
      generalize kW W = z at *
      constructor <;> grind
theorem co_near {a b x W : Int} (hab : a ≤ b) (hw : b - a ≤ W) (hW : W < 1000000000) (h1 : a ≤ x) (h2 : x ≤ b) : Near (coLo a b : Rat) (1000000000 * CN x) (kW W + 103 / 100) ∧ Near (coHi a b : Rat) (1000000000 * CN x) (kW W + 103 / 100) := by
  unfold coLo coHi
  have e : min (b - a) 2000000000 = b - a := by omega
  rw [e]
  obtain ⟨n1, n2⟩ := so_near (a := a % 1000000000 + 250000000) (b := a % 1000000000 + 250000000 + (b - a)) (x := a % 1000000000 + 250000000 + (x - a)) (W := W) (by omega) (by omega) hW (by omega) (by omega)
  have es : SN (a % 1000000000 + 250000000 + (x - a)) = SN (x + 250000000) := SN_at (-(a / 1000000000)) (by omega)
  rw [es] at n1 n2
  have q := CN_SN x
  unfold Near e2 at *
  generalize SN (x + 250000000) = u at *
  generalize CN x = v at *
  generalize kW W = z at *
  generalize ((soLo (a % 1000000000 + 250000000) (a % 1000000000 + 250000000 + (b - a)) : Int) : Rat) = p1 at *
  generalize ((soHi (a % 1000000000 + 250000000) (a % 1000000000 + 250000000 + (b - a)) : Int) : Rat) = p2 at *
  clear e es
  constructor <;> constructor <;> grind
end Go.Proofs.YtlldmhnkaopjhaaDoor
