/- RisesetDays, plain: the sides of what Find hands back; the height as a function of time; the height at the middle of the day. -/
import Derived.Test.YtcopmgnfakjdhaaGreatDoorVRdP
import Derived.Test.YtcopmgnfakjdhaaGreatDoorVRsPs
import Derived.Test.YtcopmgnfakjdhaaGreatDoorVSes
namespace Go.Proofs.YtcopmgnfakjdhaaGreatDoor
set_option linter.unusedSimpArgs false
set_option linter.unusedVariables false
theorem nrw_sd (sd : Int → Int) (width : Int) (hw : 1 ≤ width) : ∀ (k : Nat) (lo hi : Int), lo < hi → hi - lo ≤ 1000000000000000000 → sd lo = -1 → sd hi = 1 → sd (nrwF sd width k lo hi).1 = -1 ∧ sd (nrwF sd width k lo hi).2 = 1 ∧ (nrwF sd width k lo hi).1 < (nrwF sd width k lo hi).2
  | 0, lo, hi, e, _, h1, h2 => ⟨h1, h2, e⟩
  | k + 1, lo, hi, e, eb, h1, h2 => by
    rw [nrwF_step]
    split
    · rename_i c
      have m : (hi - lo).tdiv 2 = (hi - lo) / 2 := half_of (by omega)
      rw [m]
      split
      · rename_i d
        exact nrw_sd sd width hw k _ hi (by omega) (by omega) d h2
      · split
        · rename_i d
          exact nrw_sd sd width hw k lo _ (by omega) (by omega) h1 d
        · have p64 : (1000000000000000000 : Int) ≤ ((2 ^ 64 : Nat) : Int) := by decide
          have a := lastF_in (fun x => decide (sd x = -1)) 64 lo (lo + (hi - lo) / 2) (by omega) (by omega)
          have b := lastF_in (fun x => decide (sd (-x) = 1)) 64 (-hi) (-(lo + (hi - lo) / 2)) (by omega) (by omega)
          have a1 := a.c; have a2 := a.b; have b1 := b.c; have b2 := b.b
          clear a b
          dsimp only
          refine ⟨?_, ?_, by omega⟩
          · rcases a1 with a1 | a1
            · rw [a1]; exact h1
            · exact of_decide_eq_true a1
          · rcases b1 with b1 | b1
            · rw [b1, Int.neg_neg]; exact h2
            · exact of_decide_eq_true b1
    · exact ⟨h1, h2, e⟩
structure RsSd (sd : Int → Int) (r : Int × Int × Int) : Prop where
  l : sd r.1 = -1
  h : sd r.2.1 = 1
  o : r.1 < r.2.1
  w : r.2.1 - r.1 ≤ 120000
theorem rfL_sd (sd : Int → Int) (base : Int) : ∀ (m : Nat) (k : Int) (op : Bool) (bf ws : Int), 0 ≤ k → k + m ≤ 97 → (ws = -1 → sd bf = -1 ∧ base ≤ bf ∧ bf < base + k * 900000) → (rfL sd base m k op bf ws).2.2 = 0 → RsSd sd (rfL sd base m k op bf ws)
  | 0, k, op, bf, ws, _, _, _, e => by
    cases op
    · exact absurd (show (6 : Int) = 0 from e) (by omega)
    · exact absurd (show (11 : Int) = 0 from e) (by omega)
  | m + 1, k, op, bf, ws, k0, k1, hb, e => by
    unfold rfL at e ⊢
    split
    · rename_i c
      rw [if_pos c] at e
      exact rfL_sd sd base m (k + 1) true bf ws (by omega) (by omega) (fun h => by have := hb h; exact ⟨this.1, this.2.1, by omega⟩) e
    · rename_i c
      rw [if_neg c] at e
      split
      · rename_i d
        rw [if_pos d] at e
        have q := hb d.1
        have n := nrw_sd sd 120000 (by omega) 64 bf (base + k * 900000) q.2.2 (by omega) q.1 d.2
        generalize nrwF sd 120000 64 bf (base + k * 900000) = r at *
        unfold rsR at e ⊢
        split
        · rename_i f; exact ⟨n.1, n.2.1, n.2.2, f⟩
        · rename_i f; rw [if_neg f] at e; exact absurd e (by decide)
      · rename_i d
        rw [if_neg d] at e
        exact rfL_sd sd base m (k + 1) op (base + k * 900000) _ (by omega) (by omega) (fun h => ⟨h, by omega, by omega⟩) e
theorem rsF_sd (lon lat b d sg : Int) (e : (rsF lon lat b d sg).2.2 = 0) : RsSd (fun t => sg * abF lon lat b t) (rsF lon lat b d sg) :=
  rfL_sd _ _ 97 0 false 0 0 (by omega) (by omega) (fun h => absurd h (by omega)) e
def thT (lon : Int) (t : Rat) : Rat := 275313108 + (lon : Rat) + 1002737909350806 * t / 86400000000000
theorem th_in (lon t : Int) : ∃ k : Int, (sdLo lon t : Rat) ≤ thT lon (t : Rat) + 1000000000 * (k : Rat) ∧ thT lon (t : Rat) + 1000000000 * (k : Rat) ≤ (sdHi lon t : Rat) := by
  obtain ⟨q, hq⟩ : ∃ q, q = 1002737909350806 * t / 86400000000000 := ⟨_, rfl⟩
  obtain ⟨r, hr⟩ : ∃ r, r = 1002737909350806 * t % 86400000000000 := ⟨_, rfl⟩
  have e : 1002737909350806 * t = 86400000000000 * q + r := by omega
  have r0 : 0 ≤ r := by omega
  have r1 : r < 86400000000000 := by omega
  obtain ⟨k, hk⟩ : ∃ k : Int, sdLo lon t = 275313108 + q + lon + 1000000000 * k := by
    unfold sdLo a0Lo
    rw [← hq]
    exact ⟨-((275313108 - 0 + q % 1000000000) / 1000000000) - q / 1000000000 - ((275313108 - 0 + q % 1000000000) % 1000000000 + lon) / 1000000000, by omega⟩
  have hh : sdHi lon t = sdLo lon t + (if 0 < r then 1 else 0) := by unfold sdHi; rw [← hr]
  have eR : (1002737909350806 : Rat) * (t : Rat) = 86400000000000 * (q : Rat) + (r : Rat) := by
    have h : ((1002737909350806 * t : Int) : Rat) = ((86400000000000 * q + r : Int) : Rat) := by rw [e]
    rw [Rat.intCast_mul, Rat.intCast_add, Rat.intCast_mul] at h
    exact h
  have g0 := Rat.intCast_le_intCast.2 r0
  have g1 := Rat.intCast_lt_intCast.2 r1
  rw [show ((0 : Int) : Rat) = 0 from rfl] at g0
  rw [show ((86400000000000 : Int) : Rat) = 86400000000000 from rfl] at g1
  refine ⟨k, ?_, ?_⟩
  · rw [hk, Rat.intCast_add, Rat.intCast_add, Rat.intCast_add, Rat.intCast_mul, show ((275313108 : Int) : Rat) = 275313108 from rfl, show ((1000000000 : Int) : Rat) = 1000000000 from rfl]
    unfold thT
    rw [eR]
    clear e hq hr hk hh eR
    grind
  · rw [hh, hk, Rat.intCast_add, Rat.intCast_add, Rat.intCast_add, Rat.intCast_add, Rat.intCast_mul, show ((275313108 : Int) : Rat) = 275313108 from rfl, show ((1000000000 : Int) : Rat) = 1000000000 from rfl]
    unfold thT
    rw [eR]
    clear e hq hr hk hh eR
    split
    · rw [show ((1 : Int) : Rat) = 1 from rfl]; grind
    · rename_i c
      obtain rfl : r = 0 := by omega
      rw [show ((0 : Int) : Rat) = 0 from rfl]; grind
def hS (lon lat : Int) (t : Rat) : Rat := upV lat (thT lon t) (sunT t) 0
end Go.Proofs.YtcopmgnfakjdhaaGreatDoor
