/- RisesetMoons, plain: the moon's height as a function of time; the law. -/
import Derived.Test.YtcopmgnfakjdhaaGreatDoorVMdW
import Derived.Test.YtcopmgnfakjdhaaGreatDoorVEcB
namespace Go.Proofs.YtcopmgnfakjdhaaGreatDoor
set_option linter.unusedSimpArgs false
set_option linter.unusedVariables false
theorem mo_in (t : Int) : ∃ j : Int, (mlLo t : Rat) ≤ moonT (t : Rat) + 1000000000 * (j : Rat) ∧ moonT (t : Rat) + 1000000000 * (j : Rat) ≤ (mlHi t : Rat) := by
  obtain ⟨k, a1, a2, a3, a4⟩ := moon_at t
  refine ⟨-k, ?_, ?_⟩ <;> (rw [Rat.intCast_neg]; grind)
theorem be_in (t : Int) : (mbLo t : Rat) ≤ beT (t : Rat) ∧ beT (t : Rat) ≤ (mbHi t : Rat) ∧ -15900000 ≤ beT (t : Rat) ∧ beT (t : Rat) ≤ 15900000 := by
  obtain ⟨a1, a2, a3, a4⟩ := be_at t
  have b := mb_bd t
  have b1 := Rat.intCast_le_intCast.2 b.1
  have b2 := Rat.intCast_le_intCast.2 b.2
  rw [show ((-15820000 : Int) : Rat) = -15820000 from rfl] at b1
  rw [show ((15820000 : Int) : Rat) = 15820000 from rfl] at b2
  rw [show ((20000 : Int) : Rat) = 20000 from rfl] at a1 a3
  refine ⟨?_, ?_, ?_, ?_⟩ <;> grind
def hM (lon lat : Int) (t : Rat) : Rat := upV lat (thT lon t) (moonT t) (beT t)
theorem up_turnM (lat : Int) (th la be : Rat) (k j : Int) : upV lat (th + 1000000000 * (k : Rat)) (la + 1000000000 * (j : Rat)) be = upV lat th la be := by
  unfold upV qX qY qZ
  rw [SA_turn, CA_turn, SA_turn, CA_turn]
theorem hm_in (lon lat t : Int) : ∃ y : Rat, (rsHL lon lat 1 t : Rat) ≤ y ∧ y ≤ (rsHH lon lat 1 t : Rat) ∧ Near y (1000000000 * hM lon lat (t : Rat)) (1 / 10000) := by
  have a : 0 ≤ mlLo t ∧ mlLo t < 1000000000 ∧ mlLo t ≤ mlHi t ∧ mlHi t ≤ 130000000000 := an_bd moonL_in
  have lw := ml_width t
  have bw := mb_width t
  have bb := mb_bd t
  obtain ⟨k, k1, k2⟩ := th_in lon t
  obtain ⟨j, j1, j2⟩ := mo_in t
  obtain ⟨c1, c2, -, -⟩ := be_in t
  obtain ⟨y, y1, y2, y3⟩ := up_in (lat := lat) ⟨by omega, by omega, by omega⟩ (by omega) bw.1 (by omega) (by omega) (by omega) j1 j2 c1 c2 k1 k2
  rw [up_turnM] at y3
  exact ⟨y, y1, y2, y3⟩
theorem lim_1 : rsLim 1 = 2182000 := by decide
theorem mb_up {lon lat t : Int} (h : abF lon lat 1 t = 1) : 2182 / 1000000 < hM lon lat (t : Rat) := by
  obtain ⟨y, y1, y2, y3⟩ := hm_in lon lat t
  have c : rsLim 1 < rsHL lon lat 1 t := by
    unfold abF at h
    split at h
    · assumption
    · split at h <;> omega
  rw [lim_1] at c
  have g := Rat.intCast_le_intCast.2 (show 2182001 ≤ rsHL lon lat 1 t by omega)
  rw [show ((2182001 : Int) : Rat) = 2182001 from rfl] at g
  unfold Near at y3
  grind
theorem mb_dn {lon lat t : Int} (h : abF lon lat 1 t = -1) : hM lon lat (t : Rat) < 2182 / 1000000 := by
  obtain ⟨y, y1, y2, y3⟩ := hm_in lon lat t
  have c : rsHH lon lat 1 t < rsLim 1 := by
    unfold abF at h
    split at h
    · omega
    · split at h
      · assumption
      · omega
  rw [lim_1] at c
  have g := Rat.intCast_le_intCast.2 (show rsHH lon lat 1 t ≤ 2181999 by omega)
  rw [show ((2181999 : Int) : Rat) = 2181999 from rfl] at g
  unfold Near at y3
  grind
theorem mb_sure {lon lat t : Int} (hs : -(588 / 1000) ≤ SN lat ∧ SN lat ≤ 588 / 1000) : (2182 / 1000000 + 275 / 10000 ≤ hM lon lat (t : Rat) → abF lon lat 1 t = 1) ∧ (hM lon lat (t : Rat) ≤ 2182 / 1000000 - 38 / 1000 → abF lon lat 1 t = -1) := by
  obtain ⟨y, y1, y2, y3⟩ := hm_in lon lat t
  have w := Rat.intCast_le_intCast.2 (md_thin (lon := lon) (t := t) hs)
  rw [Rat.intCast_sub, show ((26000000 : Int) : Rat) = 26000000 from rfl] at w
  unfold Near at y3
  constructor
  · intro h
    have c : 2182000 < rsHL lon lat 1 t := by
      apply int_lt_of_rat; rw [show ((2182000 : Int) : Rat) = 2182000 from rfl]; grind
    unfold abF
    rw [lim_1, if_pos c]
  · intro h
    have c : rsHH lon lat 1 t < 2182000 := by
      apply int_lt_of_rat; rw [show ((2182000 : Int) : Rat) = 2182000 from rfl]; grind
    have o := int_le_of_rat (Rat.le_trans y1 y2)
    unfold abF
    rw [lim_1, if_neg (by omega), if_pos c]
structure MdMv (lon x y : Int) (D d e : Rat) : Prop where
  th : thT lon (y : Rat) = thT lon (x : Rat) + D
  la : moonT (y : Rat) = moonT (x : Rat) + d
  be : beT (y : Rat) = beT (x : Rat) + e
  D1 : D = 1002737909350806 * ((y : Rat) - (x : Rat)) / 86400000000000
  d0 : 30444000 * (((y : Rat) - (x : Rat)) / 86400000) - 1 / 1000000 ≤ d
  d1 : d ≤ 42732000 * (((y : Rat) - (x : Rat)) / 86400000) + 1 / 1000000
  e0 : -(42235 / 1000000 * ((y : Rat) - (x : Rat)) + 1 / 1000000) ≤ e
  e1 : e ≤ 42235 / 1000000 * ((y : Rat) - (x : Rat)) + 1 / 1000000
  s : MdStep D d e
theorem md_mv (lon : Int) {x y : Int} (h : x < y) : ∃ D d e, MdMv lon x y D d e := by
  have g := Rat.intCast_le_intCast.2 (show x + 1 ≤ y by omega)
  rw [Rat.intCast_add, show ((1 : Int) : Rat) = 1 from rfl] at g
  have m := su_move (x : Rat) (d := (y : Rat) - (x : Rat)) (by grind)
  have m2 := el_move (x : Rat) (d := (y : Rat) - (x : Rat)) (by grind)
  have m3 := be_move (x : Rat) (d := (y : Rat) - (x : Rat)) (by grind)
  rw [show (x : Rat) + ((y : Rat) - (x : Rat)) = (y : Rat) by grind] at m m2 m3
  have e1 : elT (y : Rat) = moonT (y : Rat) - sunT (y : Rat) := rfl
  have e2 : elT (x : Rat) = moonT (x : Rat) - sunT (x : Rat) := rfl
  rw [e1, e2] at m2
  unfold Near at m3
  have d0 : 30444000 * (((y : Rat) - (x : Rat)) / 86400000) - 1 / 1000000 ≤ moonT (y : Rat) - moonT (x : Rat) := by clear m3; grind
  have d1 : moonT (y : Rat) - moonT (x : Rat) ≤ 42732000 * (((y : Rat) - (x : Rat)) / 86400000) + 1 / 1000000 := by clear m3; grind
  have f0 : -(42235 / 1000000 * ((y : Rat) - (x : Rat)) + 1 / 1000000) ≤ beT (y : Rat) - beT (x : Rat) := by clear m m2 d0 d1; grind
  have f1 : beT (y : Rat) - beT (x : Rat) ≤ 42235 / 1000000 * ((y : Rat) - (x : Rat)) + 1 / 1000000 := by clear m m2 d0 d1; grind
  clear m m2 m3 e1 e2
  refine ⟨1002737909350806 * ((y : Rat) - (x : Rat)) / 86400000000000, moonT (y : Rat) - moonT (x : Rat), beT (y : Rat) - beT (x : Rat), ?_, by grind, by grind, rfl, d0, d1, f0, f1, ?_⟩
  · unfold thT; grind
  · generalize moonT (y : Rat) - moonT (x : Rat) = d at *
    generalize beT (y : Rat) - beT (x : Rat) = e at *
    refine ⟨?_, ?_, ?_, ?_⟩ <;> grind
theorem md_lat {lat : Int} (h : -100000000 < lat ∧ lat < 100000000) : 809 / 1000 ≤ CN lat ∧ -(588 / 1000) ≤ SN lat ∧ SN lat ≤ 588 / 1000 := by
  have k1 := Rat.intCast_le_intCast.2 (show -100000000 ≤ lat by omega)
  have k2 := Rat.intCast_le_intCast.2 (show lat ≤ 100000000 by omega)
  rw [show ((-100000000 : Int) : Rat) = -100000000 from rfl] at k1
  rw [show ((100000000 : Int) : Rat) = 100000000 from rfl] at k2
  have num : 809010000 ≤ cLo 100000000 := by decide +kernel
  have n' := Rat.intCast_le_intCast.2 num
  rw [show ((809010000 : Int) : Rat) = 809010000 from rfl] at n'
  have y3 := (ca_lo 100000000).1
  rw [show ((100000000 : Int) : Rat) = 100000000 from rfl] at y3
  have c : 80900 / 100000 ≤ CA (lat : Rat) := by
    by_cases z : (0 : Rat) ≤ (lat : Rat)
    · have f := ca_fallT z k2 (by grind)
      grind
    · have f := ca_fallT (x := -(lat : Rat)) (y := 100000000) (by grind) (by grind) (by grind)
      have n := (SCA_neg (lat : Rat)).2
      unfold Near e2 at n
      grind
  rw [← CA_int, ← SA_int]
  have p := SA_pyth (lat : Rat)
  have c2 := Rat.mul_le_mul_of_nonneg_left c (show 0 ≤ CA (lat : Rat) by grind)
  have c3 := Rat.mul_le_mul_of_nonneg_right c (show (0 : Rat) ≤ 80900 / 100000 by grind)
  have s2 : SA (lat : Rat) * SA (lat : Rat) ≤ 345520 / 1000000 := by
    unfold Near ep at p
    generalize SA (lat : Rat) * SA (lat : Rat) = w1 at *
    generalize CA (lat : Rat) * CA (lat : Rat) = w2 at *
    grind
  refine ⟨by grind, ?_, ?_⟩
  · apply Rat.not_lt.1
    intro l
    have m := Rat.mul_lt_mul_of_pos_left (show 588 / 1000 < -SA (lat : Rat) by grind) (show (0 : Rat) < -SA (lat : Rat) by grind)
    rw [show -SA (lat : Rat) * -SA (lat : Rat) = SA (lat : Rat) * SA (lat : Rat) by grind] at m
    grind
  · apply Rat.not_lt.1
    intro l
    have m := Rat.mul_lt_mul_of_pos_left l (show (0 : Rat) < SA (lat : Rat) by grind)
    grind
theorem md_pair {lon lat x y : Int} (hl : -100000000 < lat ∧ lat < 100000000) (h : x < y) (hw : y - x ≤ 120000) (h1 : abF lon lat 1 x = -1) (h2 : abF lon lat 1 y = 1) : MdAt lat (thT lon (x : Rat)) (moonT (x : Rat)) (beT (x : Rat)) ∧ MdAt lat (thT lon (y : Rat)) (moonT (y : Rat)) (beT (y : Rat)) := by
  obtain ⟨D, d, e, M⟩ := md_mv lon h
  have g := Rat.intCast_le_intCast.2 (show x + 1 ≤ y by omega)
  rw [Rat.intCast_add, show ((1 : Int) : Rat) = 1 from rfl] at g
  have g2 := Rat.intCast_le_intCast.2 hw
  rw [Rat.intCast_sub, show ((120000 : Int) : Rat) = 120000 from rfl] at g2
  have m1 := M.D1
  obtain ⟨l1, l2⟩ := md_lat hl
  have u1 := mb_dn h1; have u2 := mb_up h2
  have z1 := qZ_bd (la := moonT (x : Rat)) (be_in x).2.2
  have z2 := qZ_bd (la := moonT (y : Rat)) (be_in y).2.2
  unfold hM at u1 u2
  rw [M.la, M.be] at z2
  rw [M.th, M.la, M.be] at u2 ⊢
  have S := M.s
  clear M
  exact md_ends l1 l2 z1 z2 (by grind) (by grind) S u1 u2
theorem rfL_then (sd : Int → Int) (base j : Int) (h3 : ∀ x, sd x = 1 ∨ sd x = -1 ∨ sd x = 0) (hj : sd (base + j * 900000) = 1) : ∀ (m : Nat) (k : Int) (op : Bool) (bf : Int), k ≤ j → j < k + m → bf ≤ base + k * 900000 → (rfL sd base m k op bf (-1)).2.2 = 0 → (rfL sd base m k op bf (-1)).2.1 ≤ base + j * 900000
  | 0, k, op, bf, a, b, _, _ => by omega
  | m + 1, k, op, bf, a, b, c, e => by
    unfold rfL at e ⊢
    by_cases z : sd (base + k * 900000) = 0
    · rw [if_pos z] at e ⊢
      have : k ≠ j := fun q => by rw [q, hj] at z; omega
      exact rfL_then sd base j h3 hj m (k + 1) true bf (by omega) (by omega) (by omega) e
    · rw [if_neg z] at e ⊢
      by_cases y : (-1 : Int) = -1 ∧ sd (base + k * 900000) = 1
      · rw [if_pos y] at e ⊢
        have n := nrwF_bd sd 120000 (by omega) 64 bf (base + k * 900000) c
        generalize nrwF sd 120000 64 bf (base + k * 900000) = r at *
        unfold rsR at e ⊢
        split
        · dsimp only; omega
        · rename_i f; rw [if_neg f] at e; exact absurd e (by decide)
      · rw [if_neg y] at e ⊢
        have v : sd (base + k * 900000) = -1 := by
          rcases h3 (base + k * 900000) with q | q | q
          · exact absurd ⟨rfl, q⟩ y
          · exact q
          · exact absurd q z
        have : k ≠ j := fun q => by rw [q, hj] at v; omega
        rw [v] at e ⊢
        exact rfL_then sd base j h3 hj m (k + 1) op (base + k * 900000) (by omega) (by omega) (by omega) e
theorem rfL_first (sd : Int → Int) (base i j : Int) (h3 : ∀ x, sd x = 1 ∨ sd x = -1 ∨ sd x = 0) (hi : sd (base + i * 900000) = -1) (hj : sd (base + j * 900000) = 1) (hij : i < j) : ∀ (m : Nat) (k : Int) (op : Bool) (bf ws : Int), k ≤ i → j < k + m → (ws = -1 → bf ≤ base + k * 900000) → (rfL sd base m k op bf ws).2.2 = 0 → (rfL sd base m k op bf ws).2.1 ≤ base + j * 900000
  | 0, k, op, bf, ws, a, b, _, _ => by omega
  | m + 1, k, op, bf, ws, a, b, c, e => by
    unfold rfL at e ⊢
    by_cases z : sd (base + k * 900000) = 0
    · rw [if_pos z] at e ⊢
      have : k ≠ i := fun q => by rw [q, hi] at z; omega
      exact rfL_first sd base i j h3 hi hj hij m (k + 1) true bf ws (by omega) (by omega) (fun w => by have := c w; omega) e
    · rw [if_neg z] at e ⊢
      by_cases y : ws = -1 ∧ sd (base + k * 900000) = 1
      · rw [if_pos y] at e ⊢
        have n := nrwF_bd sd 120000 (by omega) 64 bf (base + k * 900000) (c y.1)
        generalize nrwF sd 120000 64 bf (base + k * 900000) = r at *
        unfold rsR at e ⊢
        split
        · dsimp only; omega
        · rename_i f; rw [if_neg f] at e; exact absurd e (by decide)
      · rw [if_neg y] at e ⊢
        by_cases q : k = i
        · subst q
          rw [hi] at e ⊢
          exact rfL_then sd base j h3 hj m (k + 1) op (base + k * 900000) (by omega) (by omega) (by omega) e
        · exact rfL_first sd base i j h3 hi hj hij m (k + 1) op (base + k * 900000) _ (by omega) (by omega) (fun _ => by omega) e
theorem md_law {lon lat d : Int} (hl : -100000000 < lat ∧ lat < 100000000) (ea : (rsF lon lat 1 d 1).2.2 = 0) (eb : (rsF lon lat 1 (d + 1) 1).2.2 = 0) : 72000000 < (rsF lon lat 1 (d + 1) 1).1 - (rsF lon lat 1 d 1).2.1 ∧ (rsF lon lat 1 (d + 1) 1).1 - (rsF lon lat 1 d 1).2.1 < 100800000 := by
  have SA' := rsF_sd lon lat 1 d 1 ea
  have SB := rsF_sd lon lat 1 (d + 1) 1 eb
  have bA := rsF_bd lon lat 1 d 1 ea
  have bB := rsF_bd lon lat 1 (d + 1) 1 eb
  have A1 : abF lon lat 1 (rsF lon lat 1 d 1).1 = -1 := by have := SA'.l; omega
  have A2 : abF lon lat 1 (rsF lon lat 1 d 1).2.1 = 1 := by have := SA'.h; omega
  have B1 : abF lon lat 1 (rsF lon lat 1 (d + 1) 1).1 = -1 := by have := SB.l; omega
  have B2 : abF lon lat 1 (rsF lon lat 1 (d + 1) 1).2.1 = 1 := by have := SB.h; omega
  have sa := SA'.o; have sw := SA'.w; have sb := SB.o; have sv := SB.w
  clear SA' SB
  have FI := fun (i j : Int) (i0 : 0 ≤ i) (ij : i < j) (j1 : j < 97) (hi : abF lon lat 1 (d * 86400000 + 86400000 + i * 900000) = -1) (hj : abF lon lat 1 (d * 86400000 + 86400000 + j * 900000) = 1) => rfL_first (fun t => 1 * abF lon lat 1 t) ((d + 1) * 86400000) i j (fun x => by rcases ab_3 lon lat 1 x with q | q | q <;> omega) (by rw [show (d + 1) * 86400000 = d * 86400000 + 86400000 by omega]; omega) (by rw [show (d + 1) * 86400000 = d * 86400000 + 86400000 by omega]; omega) ij 97 0 false 0 0 i0 (by omega) (fun h => absurd h (by omega)) eb
  have eF : rfL (fun t => 1 * abF lon lat 1 t) ((d + 1) * 86400000) 97 0 false 0 0 = rsF lon lat 1 (d + 1) 1 := rfl
  rw [eF] at FI
  clear eF ea eb
  generalize (rsF lon lat 1 d 1).1 = a1 at *
  generalize (rsF lon lat 1 d 1).2.1 = a2 at *
  generalize (rsF lon lat 1 (d + 1) 1).1 = b1 at *
  generalize (rsF lon lat 1 (d + 1) 1).2.1 = b2 at *
  obtain ⟨base, hbase⟩ : ∃ x, x = d * 86400000 := ⟨_, rfl⟩
  have hb2 : (d + 1) * 86400000 = base + 86400000 := by omega
  rw [hb2] at FI bB
  rw [← hbase] at FI bA
  clear hb2 hbase
  have PA := md_pair (lon := lon) (lat := lat) hl sa sw A1 A2
  have PB := (md_pair (lon := lon) (lat := lat) hl sb sv B1 B2).1
  obtain ⟨l1, l2⟩ := md_lat hl
  have ne : a2 ≠ b1 := fun h => by rw [h, B1] at A2; omega
  have ab : a2 < b1 := by omega
  constructor
  · -- more than 20 hours
    apply Int.not_le.1
    intro hle
    obtain ⟨D, d', e, M⟩ := md_mv lon ab
    have g := Rat.intCast_le_intCast.2 (show a2 + 1 ≤ b1 by omega)
    rw [Rat.intCast_add, show ((1 : Int) : Rat) = 1 from rfl] at g
    have g2 := Rat.intCast_le_intCast.2 hle
    rw [Rat.intCast_sub, show ((72000000 : Int) : Rat) = 72000000 from rfl] at g2
    have m1 := M.D1
    have u1 := mb_up A2; have u2 := mb_dn B1
    have z1 := (be_in a2).2.2
    have z2 := (be_in b1).2.2
    unfold hM at u1 u2
    rw [M.be] at z2
    rw [M.th, M.la, M.be] at u2 PB
    have S := M.s
    clear M FI
    by_cases c : D ≤ 180000000
    · have k := md_soon l1 PA.2 S (by grind) c
      clear PA PB S
      grind
    · exact md_far l1 l2 z1 z2 PA.2 PB S (by grind) (by grind)
  · -- less than 28 hours
    apply Int.not_le.1
    intro hge
    have u1 := mb_dn A1; have u2 := mb_up A2
    unfold hM at u1 u2
    obtain ⟨i, i0, i1, i2⟩ : ∃ i : Int, 0 ≤ i ∧ a1 + 79200000 ≤ base + 86400000 + i * 900000 ∧ base + 86400000 + i * 900000 ≤ a1 + 86400000 := by
      by_cases c : a1 + 79200000 ≤ base + 86400000
      · exact ⟨0, by omega, by omega, by omega⟩
      · exact ⟨(a1 + 79200000 - (base + 86400000)) / 900000 + 1, by omega, by omega, by omega⟩
    obtain ⟨j, j1, j2⟩ : ∃ j : Int, a2 + 99720000 ≤ base + 86400000 + j * 900000 ∧ base + 86400000 + j * 900000 ≤ a2 + 100620000 := by
      exact ⟨(a2 + 99720000 - (base + 86400000)) / 900000 + 1, by omega, by omega⟩
    have F := FI i j i0 (by omega) (by omega)
    obtain ⟨s1, hs1⟩ : ∃ s, s = base + 86400000 + i * 900000 := ⟨_, rfl⟩
    obtain ⟨s2, hs2⟩ : ∃ s, s = base + 86400000 + j * 900000 := ⟨_, rfl⟩
    rw [← hs1] at F i1 i2
    rw [← hs2] at F j1 j2
    clear FI
    have D1 : abF lon lat 1 s1 = -1 := by
      apply (mb_sure l2).2
      obtain ⟨D, d', e, M⟩ := md_mv lon (show a1 < s1 by omega)
      have g := Rat.intCast_le_intCast.2 i1
      have g2 := Rat.intCast_le_intCast.2 i2
      rw [Rat.intCast_add, show ((79200000 : Int) : Rat) = 79200000 from rfl] at g
      rw [Rat.intCast_add, show ((86400000 : Int) : Rat) = 86400000 from rfl] at g2
      have m1 := M.D1; have m2 := M.d0; have m3 := M.d1; have m4 := M.e0; have m5 := M.e1
      have z1 := (be_in a1).2.2
      unfold hM
      rw [M.th, M.la, M.be]
      have S := M.s
      clear M F PB u2
      exact md_before l1 l2 z1 PA.1 (Rat.le_of_lt u1) S (by clear PA S u1; grind) (by clear PA S u1; grind) (by clear PA S u1; grind) (by clear PA S u1; grind) (by clear PA S u1; grind) (by clear PA S u1; grind)
    have D2 : abF lon lat 1 s2 = 1 := by
      apply (mb_sure l2).1
      obtain ⟨D, d', e, M⟩ := md_mv lon (show a2 < s2 by omega)
      have g := Rat.intCast_le_intCast.2 j1
      have g2 := Rat.intCast_le_intCast.2 j2
      rw [Rat.intCast_add, show ((99720000 : Int) : Rat) = 99720000 from rfl] at g
      rw [Rat.intCast_add, show ((100620000 : Int) : Rat) = 100620000 from rfl] at g2
      have m1 := M.D1
      unfold hM
      rw [M.th, M.la, M.be]
      have S := M.s
      clear M F PB u1
      exact md_after l1 PA.2 (Rat.le_of_lt u2) S (by clear PA S u2; grind) (by clear PA S u2; grind)
    have := F D1 D2
    omega
end Go.Proofs.YtcopmgnfakjdhaaGreatDoor
