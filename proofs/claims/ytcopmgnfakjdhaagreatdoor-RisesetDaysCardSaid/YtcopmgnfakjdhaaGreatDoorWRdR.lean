/- RisesetDays, plain: the sides of what Find hands back; the height as a function of time; the height at the middle of the day. -/
import Derived.Test.YtcopmgnfakjdhaaGreatDoorWRdQ
import Derived.Test.YtcopmgnfakjdhaaGreatDoorWRsPs
import Derived.Test.YtcopmgnfakjdhaaGreatDoorWSes
namespace Go.Proofs.YtcopmgnfakjdhaaGreatDoor
set_option linter.unusedSimpArgs false
set_option linter.unusedVariables false
theorem nrw_sd (sd : Int → Int) (width : Int) (hw : 1 ≤ width) : ∀ (k : Nat) (lo hi : Int), lo < hi → hi - lo ≤ 1000000000000000000 → sd lo = -1 → sd hi = 1 → sd (nrwF sd width k lo hi).1 = -1 ∧ sd (nrwF sd width k lo hi).2 = 1 ∧ (nrwF sd width k lo hi).1 < (nrwF sd width k lo hi).2
  | 0, lo, hi, e, _, h1, h2 => ⟨h1, h2, e⟩
  | k + 1, lo, hi, e, eb, h1, h2 => by
    rw [nrwF_step]
    split
    · rename_i c
      have m : (hi - lo).tdiv 2 = (hi - lo) / 2 := half_of (by omega)
      rw [m]
      split
      · rename_i d
        exact nrw_sd sd width hw k _ hi (by omega) (by omega) d h2
      · split
        · rename_i d
          exact nrw_sd sd width hw k lo _ (by omega) (by omega) h1 d
        · have p64 : (1000000000000000000 : Int) ≤ ((2 ^ 64 : Nat) : Int) := by decide
          have a := lastF_in (fun x => decide (sd x = -1)) 64 lo (lo + (hi - lo) / 2) (by omega) (by omega)
          have b := lastF_in (fun x => decide (sd (-x) = 1)) 64 (-hi) (-(lo + (hi - lo) / 2)) (by omega) (by omega)
          have a1 := a.c; have a2 := a.b; have b1 := b.c; have b2 := b.b
          clear a b
          dsimp only
          refine ⟨?_, ?_, by omega⟩
          · rcases a1 with a1 | a1
            · rw [a1]; exact h1
            · exact of_decide_eq_true a1
          · rcases b1 with b1 | b1
            · rw [b1, Int.neg_neg]; exact h2
            · exact of_decide_eq_true b1
    · exact ⟨h1, h2, e⟩
structure RsSd (sd : Int → Int) (r : Int × Int × Int) : Prop where
  l : sd r.1 = -1
  h : sd r.2.1 = 1
  o : r.1 < r.2.1
  w : r.2.1 - r.1 ≤ 120000
theorem rfL_sd (sd : Int → Int) (base : Int) : ∀ (m : Nat) (k : Int) (op : Bool) (bf ws : Int), 0 ≤ k → k + m ≤ 97 → (ws = -1 → sd bf = -1 ∧ base ≤ bf ∧ bf < base + k * 900000) → (rfL sd base m k op bf ws).2.2 = 0 → RsSd sd (rfL sd base m k op bf ws)
  | 0, k, op, bf, ws, _, _, _, e => by
    cases op
    · exact absurd (show (6 : Int) = 0 from e) (by omega)
    · exact absurd (show (11 : Int) = 0 from e) (by omega)
  | m + 1, k, op, bf, ws, k0, k1, hb, e => by
    unfold rfL at e ⊢
    split
    · rename_i c
      rw [if_pos c] at e
      exact rfL_sd sd base m (k + 1) true bf ws (by omega) (by omega) (fun h => by have := hb h; exact ⟨this.1, this.2.1, by omega⟩) e
    · rename_i c
      rw [if_neg c] at e
      split
      · rename_i d
        rw [if_pos d] at e
        have q := hb d.1
        have n := nrw_sd sd 120000 (by omega) 64 bf (base + k * 900000) q.2.2 (by omega) q.1 d.2
        generalize nrwF sd 120000 64 bf (base + k * 900000) = r at *
        unfold rsR at e ⊢
        split
        · rename_i f; exact ⟨n.1, n.2.1, n.2.2, f⟩
        · rename_i f; rw [if_neg f] at e; exact absurd e (by decide)
      · rename_i d
        rw [if_neg d] at e
        exact rfL_sd sd base m (k + 1) op (base + k * 900000) _ (by omega) (by omega) (fun h => ⟨h, by omega, by omega⟩) e
theorem rsF_sd (lon lat b d sg : Int) (e : (rsF lon lat b d sg).2.2 = 0) : RsSd (fun t => sg * abF lon lat b t) (rsF lon lat b d sg) :=
  rfL_sd _ _ 97 0 false 0 0 (by omega) (by omega) (fun h => absurd h (by omega)) e
def thT (lon : Int) (t : Rat) : Rat := 275313108 + (lon : Rat) + 1002737909350806 * t / 86400000000000
theorem th_in (lon t : Int) : ∃ k : Int, (sdLo lon t : Rat) ≤ thT lon (t : Rat) + 1000000000 * (k : Rat) ∧ thT lon (t : Rat) + 1000000000 * (k : Rat) ≤ (sdHi lon t : Rat) := by
  obtain ⟨q, hq⟩ : ∃ q, q = 1002737909350806 * t / 86400000000000 := ⟨_, rfl⟩
  obtain ⟨r, hr⟩ : ∃ r, r = 1002737909350806 * t % 86400000000000 := ⟨_, rfl⟩
  have e : 1002737909350806 * t = 86400000000000 * q + r := by omega
  have r0 : 0 ≤ r := by omega
  have r1 : r < 86400000000000 := by omega
  obtain ⟨k, hk⟩ : ∃ k : Int, sdLo lon t = 275313108 + q + lon + 1000000000 * k := by
    unfold sdLo a0Lo
    rw [← hq]
    exact ⟨-((275313108 - 0 + q % 1000000000) / 1000000000) - q / 1000000000 - ((275313108 - 0 + q % 1000000000) % 1000000000 + lon) / 1000000000, by omega⟩
  have hh : sdHi lon t = sdLo lon t + (if 0 < r then 1 else 0) := by unfold sdHi; rw [← hr]
  have eR : (1002737909350806 : Rat) * (t : Rat) = 86400000000000 * (q : Rat) + (r : Rat) := by
    have h : ((1002737909350806 * t : Int) : Rat) = ((86400000000000 * q + r : Int) : Rat) := by rw [e]
    rw [Rat.intCast_mul, Rat.intCast_add, Rat.intCast_mul] at h
    exact h
  have g0 := Rat.intCast_le_intCast.2 r0
  have g1 := Rat.intCast_lt_intCast.2 r1
  rw [show ((0 : Int) : Rat) = 0 from rfl] at g0
  rw [show ((86400000000000 : Int) : Rat) = 86400000000000 from rfl] at g1
  refine ⟨k, ?_, ?_⟩
  · rw [hk, Rat.intCast_add, Rat.intCast_add, Rat.intCast_add, Rat.intCast_mul, show ((275313108 : Int) : Rat) = 275313108 from rfl, show ((1000000000 : Int) : Rat) = 1000000000 from rfl]
    unfold thT
    rw [eR]
    clear e hq hr hk hh eR
    grind
  · rw [hh, hk, Rat.intCast_add, Rat.intCast_add, Rat.intCast_add, Rat.intCast_add, Rat.intCast_mul, show ((275313108 : Int) : Rat) = 275313108 from rfl, show ((1000000000 : Int) : Rat) = 1000000000 from rfl]
    unfold thT
    rw [eR]
    clear e hq hr hk hh eR
    split
    · rw [show ((1 : Int) : Rat) = 1 from rfl]; grind
    · rename_i c
      obtain rfl : r = 0 := by omega
      rw [show ((0 : Int) : Rat) = 0 from rfl]; grind
theorem su_in (t : Int) : ∃ j : Int, (slLo t : Rat) ≤ sunT (t : Rat) + 1000000000 * (j : Rat) ∧ sunT (t : Rat) + 1000000000 * (j : Rat) ≤ (slHi t : Rat) := by
  obtain ⟨k, a1, a2, a3, a4⟩ := sun_at t
  refine ⟨-k, ?_, ?_⟩ <;> (rw [Rat.intCast_neg]; grind)
theorem q_turn (la : Rat) (j : Int) : qX (la + 1000000000 * (j : Rat)) 0 = qX la 0 ∧ qY (la + 1000000000 * (j : Rat)) 0 = qY la 0 ∧ qZ (la + 1000000000 * (j : Rat)) 0 = qZ la 0 := by
  unfold qX qY qZ
  rw [SA_turn, CA_turn]
  exact ⟨rfl, rfl, rfl⟩
def hS (lon lat : Int) (t : Rat) : Rat := upV lat (thT lon t) (sunT t) 0
theorem up_turn (lat : Int) (th la : Rat) (k j : Int) : upV lat (th + 1000000000 * (k : Rat)) (la + 1000000000 * (j : Rat)) 0 = upV lat th la 0 := by
  obtain ⟨a, b, c⟩ := q_turn la j
  unfold upV
  rw [a, b, c, SA_turn, CA_turn]
theorem hs_in (lon lat t : Int) : ∃ y : Rat, (rsHL lon lat 0 t : Rat) ≤ y ∧ y ≤ (rsHH lon lat 0 t : Rat) ∧ Near y (1000000000 * hS lon lat (t : Rat)) (1 / 10000) := by
  have a : 0 ≤ slLo t ∧ slLo t < 1000000000 ∧ slLo t ≤ slHi t ∧ slHi t ≤ 130000000000 := an_bd sun_in
  have b := sl_width t
  obtain ⟨k, k1, k2⟩ := th_in lon t
  obtain ⟨j, j1, j2⟩ := su_in t
  have z0 : ((0 : Int) : Rat) = 0 := rfl
  obtain ⟨y, y1, y2, y3⟩ := up_in (lat := lat) (b1 := 0) (b2 := 0) (be := 0) ⟨by omega, by omega, by omega⟩ (by omega) (by omega) (by omega) (by omega) (by omega) j1 j2 (by rw [z0]; grind) (by rw [z0]; grind) k1 k2
  rw [up_turn] at y3
  exact ⟨y, y1, y2, y3⟩
theorem ab_up {lon lat t : Int} (h : abF lon lat 0 t = 1) : -(14543900 / 1000000000) < hS lon lat (t : Rat) := by
  obtain ⟨y, y1, y2, y3⟩ := hs_in lon lat t
  have c : rsLim 0 < rsHL lon lat 0 t := by
    unfold abF at h
    split at h
    · assumption
    · split at h <;> omega
  have l : rsLim 0 = -14543900 := by decide
  rw [l] at c
  have g := Rat.intCast_le_intCast.2 (show -14543899 ≤ rsHL lon lat 0 t by omega)
  rw [show ((-14543899 : Int) : Rat) = -14543899 from rfl] at g
  unfold Near at y3
  grind
theorem ab_dn {lon lat t : Int} (h : abF lon lat 0 t = -1) : hS lon lat (t : Rat) < -(14543900 / 1000000000) := by
  obtain ⟨y, y1, y2, y3⟩ := hs_in lon lat t
  have c : rsHH lon lat 0 t < rsLim 0 := by
    unfold abF at h
    split at h
    · omega
    · split at h
      · assumption
      · omega
  have l : rsLim 0 = -14543900 := by decide
  rw [l] at c
  have g := Rat.intCast_le_intCast.2 (show rsHH lon lat 0 t ≤ -14543901 by omega)
  rw [show ((-14543901 : Int) : Rat) = -14543901 from rfl] at g
  unfold Near at y3
  grind
structure RdMv (lon x y : Int) (D d : Rat) : Prop where
  th : thT lon (y : Rat) = thT lon (x : Rat) + D
  la : sunT (y : Rat) = sunT (x : Rat) + d
  D1 : D = 1002737909350806 * ((y : Rat) - (x : Rat)) / 86400000000000
  d0 : 0 ≤ d
  d1 : d ≤ 2832000 * (((y : Rat) - (x : Rat)) / 86400000) + 1 / 1000000000
theorem rd_move (lon : Int) {x y : Int} (h : x < y) : ∃ D d, RdMv lon x y D d := by
  have g := Rat.intCast_le_intCast.2 (show x + 1 ≤ y by omega)
  rw [Rat.intCast_add, show ((1 : Int) : Rat) = 1 from rfl] at g
  have m := su_move (x : Rat) (d := (y : Rat) - (x : Rat)) (by grind)
  rw [show (x : Rat) + ((y : Rat) - (x : Rat)) = (y : Rat) by grind] at m
  refine ⟨1002737909350806 * ((y : Rat) - (x : Rat)) / 86400000000000, sunT (y : Rat) - sunT (x : Rat), ?_, by grind, rfl, ?_, m.2⟩
  · unfold thT; grind
  · grind
theorem rd_lat {lat : Int} (h : -150000000 < lat ∧ lat < 150000000) : 5875 / 10000 ≤ CN lat ∧ -(81 / 100) ≤ SN lat ∧ SN lat ≤ 81 / 100 := by
  have k1 := Rat.intCast_le_intCast.2 (show -150000000 ≤ lat by omega)
  have k2 := Rat.intCast_le_intCast.2 (show lat ≤ 150000000 by omega)
  rw [show ((-150000000 : Int) : Rat) = -150000000 from rfl] at k1
  rw [show ((150000000 : Int) : Rat) = 150000000 from rfl] at k2
  have num : 587700000 ≤ cLo 150000000 := by decide +kernel
  obtain ⟨y, y1, y2, y3⟩ := c_pt 150000000
  have n' := Rat.intCast_le_intCast.2 num
  rw [show ((587700000 : Int) : Rat) = 587700000 from rfl] at n'
  rw [← CA_int, show ((150000000 : Int) : Rat) = 150000000 from rfl] at y3
  have c : 5876 / 10000 ≤ CA (lat : Rat) := by
    unfold Near at y3
    by_cases z : (0 : Rat) ≤ (lat : Rat)
    · have f := ca_fallT z k2 (by grind)
      grind
    · have f := ca_fallT (x := -(lat : Rat)) (y := 150000000) (by grind) (by grind) (by grind)
      have n := (SCA_neg (lat : Rat)).2
      unfold Near e2 at *
      grind
  rw [← CA_int, ← SA_int]
  have p := SA_pyth (lat : Rat)
  have c2 := Rat.mul_le_mul_of_nonneg_left c (show 0 ≤ CA (lat : Rat) by grind)
  have c3 := Rat.mul_le_mul_of_nonneg_right c (show (0 : Rat) ≤ 5876 / 10000 by grind)
  have s2 : SA (lat : Rat) * SA (lat : Rat) ≤ 6548 / 10000 := by
    unfold Near ep at p
    generalize SA (lat : Rat) * SA (lat : Rat) = w1 at *
    generalize CA (lat : Rat) * CA (lat : Rat) = w2 at *
    grind
  refine ⟨by grind, ?_, ?_⟩
  · apply Rat.not_lt.1
    intro l
    have m := Rat.mul_lt_mul_of_pos_left (show 81 / 100 < -SA (lat : Rat) by grind) (show (0 : Rat) < -SA (lat : Rat) by grind)
    rw [show -SA (lat : Rat) * -SA (lat : Rat) = SA (lat : Rat) * SA (lat : Rat) by grind] at m
    grind
  · apply Rat.not_lt.1
    intro l
    have m := Rat.mul_lt_mul_of_pos_left l (show (0 : Rat) < SA (lat : Rat) by grind)
    grind
theorem rd_pair {lon lat x y : Int} {s : Rat} (hs : s = 1 ∨ s = -1) (hl : -150000000 < lat ∧ lat < 150000000) (h : x < y) (hw : y - x ≤ 120000) (h1 : s * hS lon lat (x : Rat) < s * -(14543900 / 1000000000)) (h2 : s * -(14543900 / 1000000000) < s * hS lon lat (y : Rat)) : RdAt s lat (thT lon (x : Rat)) (sunT (x : Rat)) ∧ RdAt s lat (thT lon (y : Rat)) (sunT (y : Rat)) := by
  obtain ⟨D, d, M⟩ := rd_move lon h
  have g := Rat.intCast_le_intCast.2 (show x + 1 ≤ y by omega)
  rw [Rat.intCast_add, show ((1 : Int) : Rat) = 1 from rfl] at g
  have g2 := Rat.intCast_le_intCast.2 hw
  rw [Rat.intCast_sub, show ((120000 : Int) : Rat) = 120000 from rfl] at g2
  have m1 := M.D1; have m2 := M.d0; have m3 := M.d1
  obtain ⟨l1, l2⟩ := rd_lat hl
  unfold hS at h1 h2
  rw [M.th, M.la] at h2 ⊢
  clear M
  exact rd_ends hs (by grind) l2 (by grind) (by grind) m2 (by grind) h1 h2
end Go.Proofs.YtcopmgnfakjdhaaGreatDoor
