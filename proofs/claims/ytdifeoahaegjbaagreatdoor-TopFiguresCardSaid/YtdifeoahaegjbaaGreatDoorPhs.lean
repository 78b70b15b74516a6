/- Merged by wip/tools/pack.py out of XNarP, XPhP, XPhD, XPhQ, XPhL. -/
import Derived.ProofKit
import Derived.Test.YtdifeoahaegjbaaGreatDoorMoons
import Derived.Test.YtdifeoahaegjbaaGreatDoorReals
/- series.Narrow in plain words: what it computes, and where the result lies. Nothing of the program. -/
namespace Go.Proofs.YtdifeoahaegjbaaGreatDoor
set_option linter.unusedSimpArgs false
set_option linter.unusedVariables false
/-- The last number at which a condition holds, by halving. -/
def lastF (h : Int → Bool) : Nat → Int → Int → Int
  | 0, lo, _ => lo
  | k + 1, lo, hi => if 1 < hi - lo then (if h (lo + (hi - lo).tdiv 2) then lastF h k (lo + (hi - lo).tdiv 2) hi else lastF h k lo (lo + (hi - lo).tdiv 2)) else lo
/-- Narrow: both ends. -/
def nrwF (sd : Int → Int) (width : Int) : Nat → Int → Int → Int × Int
  | 0, lo, hi => (lo, hi)
  | k + 1, lo, hi => if width < hi - lo then
      (if sd (lo + (hi - lo).tdiv 2) = -1 then nrwF sd width k (lo + (hi - lo).tdiv 2) hi
       else if sd (lo + (hi - lo).tdiv 2) = 1 then nrwF sd width k lo (lo + (hi - lo).tdiv 2)
       else (lastF (fun x => decide (sd x = -1)) 64 lo (lo + (hi - lo).tdiv 2), -lastF (fun x => decide (sd (-x) = 1)) 64 (-hi) (-(lo + (hi - lo).tdiv 2))))
      else (lo, hi)
theorem half_of {a : Int} (h : 0 ≤ a) : a.tdiv 2 = a / 2 := Int.tdiv_eq_ediv_of_nonneg h
theorem lastF_step (h : Int → Bool) (k : Nat) (lo hi : Int) : lastF h (k + 1) lo hi = if 1 < hi - lo then (if h (lo + (hi - lo).tdiv 2) then lastF h k (lo + (hi - lo).tdiv 2) hi else lastF h k lo (lo + (hi - lo).tdiv 2)) else lo := rfl
theorem lastF_end (h : Int → Bool) : ∀ (k : Nat) (lo hi : Int), hi - lo ≤ 1 → lastF h k lo hi = lo
  | 0, _, _, _ => rfl
  | k + 1, lo, hi, e => by unfold lastF; rw [if_neg (by omega)]
/-- Enough rounds are enough. -/
theorem lastF_more (h : Int → Bool) : ∀ (k : Nat) (lo hi : Int), hi - lo ≤ ((2 ^ k : Nat) : Int) → lastF h (k + 1) lo hi = lastF h k lo hi
  | 0, lo, hi, e => by
    have : hi - lo ≤ 1 := by simpa using e
    rw [lastF_end h 1 lo hi this]; rfl
  | k + 1, lo, hi, e => by
    rw [lastF_step h (k + 1) lo hi, lastF_step h k lo hi]
    have e2 : ((2 ^ (k + 1) : Nat) : Int) = 2 * ((2 ^ k : Nat) : Int) := by rw [Nat.pow_succ]; omega
    rw [e2] at e
    by_cases c : 1 < hi - lo
    · rw [if_pos c, if_pos c]
      have m := half_of (a := hi - lo) (by omega)
      rw [m]
      rw [lastF_more h k _ hi (by omega), lastF_more h k lo _ (by omega)]
    · rw [if_neg c, if_neg c]
structure LastIn (h : Int → Bool) (lo hi r : Int) : Prop where
  a : lo ≤ r
  b : r < hi
  c : r = lo ∨ h r = true
  d : r + 1 = hi ∨ h (r + 1) = false
theorem lastF_in (h : Int → Bool) : ∀ (k : Nat) (lo hi : Int), lo < hi → hi - lo ≤ ((2 ^ k : Nat) : Int) → LastIn h lo hi (lastF h k lo hi) := by
  suffices H : ∀ (k : Nat) (l0 h0 lo hi : Int), l0 ≤ lo → hi ≤ h0 → lo < hi → hi - lo ≤ ((2 ^ k : Nat) : Int) → (lo = l0 ∨ h lo = true) → (hi = h0 ∨ h hi = false) → LastIn h l0 h0 (lastF h k lo hi) from
    fun k lo hi l e => H k lo hi lo hi (Int.le_refl _) (Int.le_refl _) l e (.inl rfl) (.inl rfl)
  intro k
  induction k with
  | zero =>
    intro l0 h0 lo hi a b l e c d
    have e' : hi - lo ≤ 1 := by simpa using e
    have : hi = lo + 1 := by omega
    exact ⟨a, by show lo < h0; omega, c, by show lo + 1 = h0 ∨ h (lo + 1) = false; rw [← this]; exact d⟩
  | succ k ih =>
    intro l0 h0 lo hi a b l e c d
    have e2 : ((2 ^ (k + 1) : Nat) : Int) = 2 * ((2 ^ k : Nat) : Int) := by rw [Nat.pow_succ]; omega
    rw [e2] at e
    rw [lastF_step]
    by_cases g : 1 < hi - lo
    · rw [if_pos g]
      have m := half_of (a := hi - lo) (by omega)
      rw [m]
      by_cases q : h (lo + (hi - lo) / 2) = true
      · rw [if_pos q]
        exact ih l0 h0 _ hi (by omega) b (by omega) (by omega) (.inr q) d
      · rw [if_neg q]
        exact ih l0 h0 lo _ a (by omega) (by omega) (by omega) c (.inr (by simpa using q))
    · rw [if_neg g]
      have : hi = lo + 1 := by omega
      exact ⟨a, by omega, c, by rw [← this]; exact d⟩
/-- A passage: c is the first number behind it; D is how far the sides may be undecided. -/
structure Cross (sd : Int → Int) (lo hi c D : Int) : Prop where
  a : ∀ x, lo ≤ x → x ≤ hi → sd x = -1 → x < c
  b : ∀ x, lo ≤ x → x ≤ hi → sd x = 1 → c ≤ x
  a' : ∀ x, lo ≤ x → x ≤ hi → x ≤ c - D → sd x = -1
  b' : ∀ x, lo ≤ x → x ≤ hi → c + D ≤ x → sd x = 1
structure NrwIn (sd : Int → Int) (lo hi c D width : Int) (r : Int × Int) : Prop where
  a : lo ≤ r.1
  b : r.1 < c
  c : c ≤ r.2
  d : r.2 ≤ hi
  w : r.2 - r.1 ≤ width ∨ r.2 - r.1 ≤ 2 * D
  l : r.1 = lo ∨ sd r.1 = -1
  h : r.2 = hi ∨ sd r.2 = 1
theorem nrwF_step (sd : Int → Int) (width : Int) (k : Nat) (lo hi : Int) : nrwF sd width (k + 1) lo hi = if width < hi - lo then
      (if sd (lo + (hi - lo).tdiv 2) = -1 then nrwF sd width k (lo + (hi - lo).tdiv 2) hi
       else if sd (lo + (hi - lo).tdiv 2) = 1 then nrwF sd width k lo (lo + (hi - lo).tdiv 2)
       else (lastF (fun x => decide (sd x = -1)) 64 lo (lo + (hi - lo).tdiv 2), -lastF (fun x => decide (sd (-x) = 1)) 64 (-hi) (-(lo + (hi - lo).tdiv 2))))
      else (lo, hi) := rfl
theorem nrwF_in {sd : Int → Int} {lo hi c D width : Int} (C : Cross sd lo hi c D) (hD : 0 ≤ D) (hw : 1 ≤ width) (hl : lo < c) (hh : c ≤ hi) (hb : hi - lo ≤ 1000000000000000000) : ∀ (k : Nat), hi - lo ≤ ((2 ^ k : Nat) : Int) → NrwIn sd lo hi c D width (nrwF sd width k lo hi) := by
  suffices H : ∀ (k : Nat) (l h : Int), lo ≤ l → h ≤ hi → l < c → c ≤ h → h - l ≤ ((2 ^ k : Nat) : Int) → (l = lo ∨ sd l = -1) → (h = hi ∨ sd h = 1) → NrwIn sd lo hi c D width (nrwF sd width k l h) from
    fun k e => H k lo hi (Int.le_refl _) (Int.le_refl _) hl hh e (.inl rfl) (.inl rfl)
  intro k
  induction k with
  | zero =>
    intro l h a b l1 h1 e c1 d1
    have e' : h - l ≤ 1 := by simpa using e
    exact ⟨a, l1, h1, b, .inl (by show h - l ≤ width; omega), c1, d1⟩
  | succ k ih =>
    intro l h a b l1 h1 e c1 d1
    have e2 : ((2 ^ (k + 1) : Nat) : Int) = 2 * ((2 ^ k : Nat) : Int) := by rw [Nat.pow_succ]; omega
    rw [e2] at e
    rw [nrwF_step]
    by_cases g : width < h - l
    · rw [if_pos g]
      have m := half_of (a := h - l) (by omega)
      rw [m]
      obtain ⟨mid, hm⟩ : ∃ mid, mid = l + (h - l) / 2 := ⟨_, rfl⟩
      rw [← hm]
      have m1 : l < mid := by omega
      have m2 : mid < h := by omega
      by_cases q : sd mid = -1
      · rw [if_pos q]
        exact ih mid h (by omega) b (C.a mid (by omega) (by omega) q) h1 (by omega) (.inr q) d1
      · rw [if_neg q]
        by_cases r : sd mid = 1
        · rw [if_pos r]
          exact ih l mid a (by omega) l1 (C.b mid (by omega) (by omega) r) (by omega) c1 (.inr r)
        · rw [if_neg r]
          have p64 : (1000000000000000000 : Int) ≤ ((2 ^ 64 : Nat) : Int) := by decide
          obtain ⟨a1, a2, a3, a4⟩ := lastF_in (fun x => decide (sd x = -1)) 64 l mid m1 (by omega)
          obtain ⟨b1, b2, b3, b4⟩ := lastF_in (fun x => decide (sd (-x) = 1)) 64 (-h) (-mid) (by omega) (by omega)
          generalize lastF (fun x => decide (sd x = -1)) 64 l mid = u at *
          generalize lastF (fun x => decide (sd (-x) = 1)) 64 (-h) (-mid) = v at *
          have u3 : u = lo ∨ sd u = -1 := by
            rcases a3 with a3 | a3
            · rw [a3]; exact c1
            · right; exact of_decide_eq_true a3
          have u4 : sd (u + 1) ≠ -1 := by
            rcases a4 with a4 | a4
            · rw [a4]; exact q
            · exact of_decide_eq_false a4
          have v3 : -v = hi ∨ sd (-v) = 1 := by
            rcases b3 with b3 | b3
            · rw [b3, Int.neg_neg]; exact d1
            · right; exact of_decide_eq_true b3
          have v4 : sd (-v - 1) ≠ 1 := by
            rcases b4 with b4 | b4
            · rw [show -v - 1 = mid by omega]; exact r
            · have := of_decide_eq_false b4
              rwa [show -(v + 1) = -v - 1 by omega] at this
          have uc : u < c := by
            rcases u3 with e | e
            · omega
            · exact C.a u (by omega) (by omega) e
          have vc : c ≤ -v := by
            rcases v3 with e | e
            · omega
            · exact C.b (-v) (by omega) (by omega) e
          have ud : c - D < u + 1 := Int.not_le.1 fun x => u4 (C.a' _ (by omega) (by omega) x)
          have vd : -v - 1 < c + D := Int.not_le.1 fun x => v4 (C.b' _ (by omega) (by omega) x)
          exact ⟨by show lo ≤ u; omega, uc, vc, by show -v ≤ hi; omega, .inr (by show -v - u ≤ 2 * D; omega), u3, v3⟩
    · rw [if_neg g]
      exact ⟨a, l1, h1, b, .inl (by show h - l ≤ width; omega), c1, d1⟩
theorem nrwF_end (sd : Int → Int) (width : Int) : ∀ (k : Nat) (lo hi : Int), ¬ width < hi - lo → nrwF sd width k lo hi = (lo, hi)
  | 0, _, _, _ => rfl
  | k + 1, lo, hi, e => by rw [nrwF_step, if_neg e]
/-- series.Side, of an interval of angles. -/
def sideF (lo hi target : Int) : Int := if (lo - target) % 1000000000 = 0 ∨ 1000000000 ≤ (lo - target) % 1000000000 + (hi - lo) then 0
  else if (lo - target) % 1000000000 ≤ 500000000 ∧ 500000000 ≤ (lo - target) % 1000000000 + (hi - lo) then 2
  else if (lo - target) % 1000000000 < 500000000 then 1 else -1
end Go.Proofs.YtdifeoahaegjbaaGreatDoor
/- The phases of the moon, plain: the true elongation at and around the mean times of phases. -/
namespace Go.Proofs.YtdifeoahaegjbaaGreatDoor
set_option linter.unusedSimpArgs false
set_option linter.unusedVariables false
/-- How fast the elongation grows. -/
theorem el_move (t : Rat) {d : Rat} (hd : 0 ≤ d) : 27800000 * (d / 86400000) - 1 / 100000000 ≤ elT (t + d) - elT t ∧ elT (t + d) - elT t ≤ 39900000 * (d / 86400000) + 1 / 100000000 := by
  have m := anT_move (mean := 392048814) (rate := 36601101305556) moonL_in.tm t hd
  have s := anT_move (mean := 775342092) (rate := 2737909333333) sun_in.tm t hd
  rw [sl_moon] at m
  rw [sl_sun] at s
  have q := qq_b9
  unfold elT moonT sunT
  unfold Near ra at *
  rw [show ((36601101305556 : Int) : Rat) = 36601101305556 from rfl, show ((6 : Nat) : Rat) = 6 from rfl] at m
  rw [show ((2737909333333 : Int) : Rat) = 2737909333333 from rfl, show ((2 : Nat) : Rat) = 2 from rfl] at s
  have q1 := Rat.mul_le_mul_of_nonneg_right q.2 (show 0 ≤ d / 86400000000000 by grind)
  have e1 : 8 * qq * (936885529393895316817 * (d / 86400000000000) / 1000000000) = 936885529393895316817 * 8 / 1000000000 * (qq * (d / 86400000000000)) := by grind
  have e2 : 8 * qq * (14864525005099857516 * (d / 86400000000000) / 1000000000) = 14864525005099857516 * 8 / 1000000000 * (qq * (d / 86400000000000)) := by grind
  rw [e1] at m
  rw [e2] at s
  generalize anT 392048814 36601101305556 moonLZ 6 (t + d) = x1 at *
  generalize anT 392048814 36601101305556 moonLZ 6 t = x2 at *
  generalize anT 775342092 2737909333333 sunZ 2 (t + d) = x3 at *
  generalize anT 775342092 2737909333333 sunZ 2 t = x4 at *
  generalize qq * (d / 86400000000000) = z at *
  clear e1 e2 q
  constructor <;> grind
theorem svM_bd (t : Rat) : -24300000 ≤ svT moonLZ 6 t ∧ svT moonLZ 6 t ≤ 24300000 := by
  have e : svT moonLZ 6 t = 0 + tmV moonLZ t 0 + tmV moonLZ t 1 + tmV moonLZ t 2 + tmV moonLZ t 3 + tmV moonLZ t 4 + tmV moonLZ t 5 := rfl
  have t0 : tmV moonLZ t 0 = 17468817 * SA (phT 99384016 36291647083333 t) := rfl
  have t1 : tmV moonLZ t 1 = 3538964 * SA (phT 134030564 31434736861111 t) := rfl
  have t2 : tmV moonLZ t 2 = 1828650 * SA (phT 233414580 67726383944444 t) := rfl
  have t3 : tmV moonLZ t 3 = 593383 * SA (phT 198768032 72583294166666 t) := rfl
  have t4 : tmV moonLZ t 4 = -514211 * SA (phT 84888545 2737778555556 t) := rfl
  have t5 : tmV moonLZ t 5 = -317589 * SA (phT 297001062 73496390222222 t) := rfl
  rw [e, t0, t1, t2, t3, t4, t5]
  have b0 := SA_le (phT 99384016 36291647083333 t); have b1 := SA_le (phT 134030564 31434736861111 t); have b2 := SA_le (phT 233414580 67726383944444 t)
  have b3 := SA_le (phT 198768032 72583294166666 t); have b4 := SA_le (phT 84888545 2737778555556 t); have b5 := SA_le (phT 297001062 73496390222222 t)
  clear e t0 t1 t2 t3 t4 t5
  unfold ep at *
  generalize SA (phT 99384016 36291647083333 t) = x0 at *
  generalize SA (phT 134030564 31434736861111 t) = x1 at *
  generalize SA (phT 233414580 67726383944444 t) = x2 at *
  generalize SA (phT 198768032 72583294166666 t) = x3 at *
  generalize SA (phT 84888545 2737778555556 t) = x4 at *
  generalize SA (phT 297001062 73496390222222 t) = x5 at *
  constructor <;> grind
theorem svS_bd (t : Rat) : -5400000 ≤ svT sunZ 2 t ∧ svT sunZ 2 t ≤ 5400000 := by
  have e : svT sunZ 2 t = 0 + tmV sunZ t 0 + tmV sunZ t 1 := rfl
  have t0 : tmV sunZ t 0 = 5318339 * SA (phT 84888545 2737778555556 t) := rfl
  have t1 : tmV sunZ t 1 = 55536 * SA (phT 169777090 5475557111112 t) := rfl
  rw [e, t0, t1]
  have b0 := SA_le (phT 84888545 2737778555556 t); have b1 := SA_le (phT 169777090 5475557111112 t)
  clear e t0 t1
  unfold ep at *
  generalize SA (phT 84888545 2737778555556 t) = x0 at *
  generalize SA (phT 169777090 5475557111112 t) = x1 at *
  constructor <;> grind
/-- The mean time of a phase. -/
def phM (k q : Int) : Int := 977949455 + 2551442878 * k + 637860719 * q
theorem el_mid {k q : Int} (k0 : -100002 ≤ k) (k1 : k ≤ 100002) (q0 : 0 ≤ q) (q1 : q ≤ 3) : -29725000 ≤ elT (phM k q : Rat) - (250000000 * (q : Rat) + 1000000000 * (k : Rat)) ∧ elT (phM k q : Rat) - (250000000 * (q : Rat) + 1000000000 * (k : Rat)) ≤ 29725000 := by
  have m := svM_bd (phM k q : Rat); have s := svS_bd (phM k q : Rat)
  have ek : elT (phM k q : Rat) = phT 392048814 36601101305556 (phM k q : Rat) + svT moonLZ 6 (phM k q : Rat) - (phT 775342092 2737909333333 (phM k q : Rat) + svT sunZ 2 (phM k q : Rat)) := rfl
  rw [ek]
  have ep' : (phM k q : Rat) = 977949455 + 2551442878 * (k : Rat) + 637860719 * (q : Rat) := by
    unfold phM
    rw [Rat.intCast_add, Rat.intCast_add, Rat.intCast_mul, Rat.intCast_mul, show ((977949455 : Int) : Rat) = 977949455 from rfl, show ((2551442878 : Int) : Rat) = 2551442878 from rfl, show ((637860719 : Int) : Rat) = 637860719 from rfl]
  obtain ⟨a1, a2⟩ := int_bd k0 k1
  obtain ⟨b1, b2⟩ := int_bd q0 q1
  rw [show ((-100002 : Int) : Rat) = -100002 from rfl] at a1
  rw [show ((100002 : Int) : Rat) = 100002 from rfl] at a2
  rw [show ((0 : Int) : Rat) = 0 from rfl] at b1
  rw [show ((3 : Int) : Rat) = 3 from rfl] at b2
  unfold phT
  generalize svT moonLZ 6 (phM k q : Rat) = u at *
  generalize svT sunZ 2 (phM k q : Rat) = v at *
  rw [ep', show ((392048814 : Int) : Rat) = 392048814 from rfl, show ((36601101305556 : Int) : Rat) = 36601101305556 from rfl, show ((775342092 : Int) : Rat) = 775342092 from rfl, show ((2737909333333 : Int) : Rat) = 2737909333333 from rfl]
  clear ek ep'
  generalize (k : Rat) = kk at *
  generalize (q : Rat) = qr at *
  constructor <;> grind
/-- A whole number at which a growing thing passes. -/
theorem passes {P : Int → Prop} {lo hi : Int} (h : lo < hi) (h0 : ¬ P lo) (h1 : P hi) : ∃ c, lo < c ∧ c ≤ hi ∧ ¬ P (c - 1) ∧ P c := by
  obtain ⟨n, hn⟩ : ∃ n : Nat, hi = lo + (n : Int) := ⟨(hi - lo).toNat, by omega⟩
  subst hn
  induction n with
  | zero => exact absurd h (by omega)
  | succ n ih =>
    by_cases c : P (lo + (n : Int))
    · by_cases n0 : n = 0
      · subst n0
        rw [show lo + ((0 : Nat) : Int) = lo by omega] at c
        exact absurd c h0
      · obtain ⟨c', a1, a2, a3, a4⟩ := ih (by omega) c
        exact ⟨c', a1, by omega, a3, a4⟩
    · exact ⟨lo + ((n + 1 : Nat) : Int), by omega, Int.le_refl _, by rw [show lo + ((n + 1 : Nat) : Int) - 1 = lo + (n : Int) by omega]; exact c, h1⟩
/-- The side of an interval of angles that lies within a tenth of a turn of the target. -/
theorem side_at {lo hi tg N : Int} {X r s : Rat} {tq : Rat} (h : AngW lo hi X r s) (htq : tq = (tg : Rat) + 1000000000 * (N : Rat)) (r0 : 0 ≤ r) (s0 : 0 ≤ s) (rs : r + s ≤ 100000) (b1 : -200000000 ≤ X - tq) (b2 : X - tq ≤ 200000000) :
    (sideF lo hi tg = 1 → tq < X) ∧ (sideF lo hi tg = -1 → X < tq) ∧ (tq + (r + s) < X → sideF lo hi tg = 1) ∧ (X < tq - (r + s) → sideF lo hi tg = -1) := by
  obtain ⟨k, a1, a2, a3, a4⟩ := h
  obtain ⟨l, hl⟩ : ∃ l : Int, l = lo - tg + 1000000000 * (k - N) := ⟨_, rfl⟩
  obtain ⟨u, hu⟩ : ∃ u : Int, u = hi - tg + 1000000000 * (k - N) := ⟨_, rfl⟩
  have el : (l : Rat) = (lo : Rat) + 1000000000 * (k : Rat) - tq := by
    rw [hl, htq, Rat.intCast_add, Rat.intCast_sub, Rat.intCast_mul, Rat.intCast_sub, show ((1000000000 : Int) : Rat) = 1000000000 from rfl]; grind
  have eu : (u : Rat) = (hi : Rat) + 1000000000 * (k : Rat) - tq := by
    rw [hu, htq, Rat.intCast_add, Rat.intCast_sub, Rat.intCast_mul, Rat.intCast_sub, show ((1000000000 : Int) : Rat) = 1000000000 from rfl]; grind
  have l1 : -200100000 ≤ l := by apply int_le_of_rat; rw [show ((-200100000 : Int) : Rat) = -200100000 from rfl]; grind
  have l2 : u ≤ 200100000 := by apply int_le_of_rat; rw [show ((200100000 : Int) : Rat) = 200100000 from rfl]; grind
  have lu : l ≤ u := by apply int_le_of_rat; grind
  have S : sideF lo hi tg = if 0 < l then 1 else if u < 0 then -1 else 0 := by
    unfold sideF
    have e1 : (lo - tg) % 1000000000 = l % 1000000000 := by omega
    have e2 : hi - lo = u - l := by omega
    rw [e1, e2]
    by_cases c1 : 0 < l
    · have : l % 1000000000 = l := by omega
      rw [this, if_pos c1, if_neg (by omega), if_neg (by omega), if_pos (by omega)]
    · rw [if_neg c1]
      by_cases c2 : u < 0
      · have : l % 1000000000 = l + 1000000000 := by omega
        rw [this, if_pos c2, if_neg (by omega), if_neg (by omega), if_neg (by omega)]
      · rw [if_neg c2]
        by_cases c3 : l = 0
        · rw [if_pos (by left; omega)]
        · have : l % 1000000000 = l + 1000000000 := by omega
          rw [this, if_pos (by right; omega)]
  rw [S]
  refine ⟨fun h => ?_, fun h => ?_, fun h => ?_, fun h => ?_⟩
  · by_cases c1 : 0 < l
    · have := Rat.intCast_lt_intCast.2 c1
      rw [show ((0 : Int) : Rat) = 0 from rfl] at this
      grind
    · rw [if_neg c1] at h
      split at h <;> omega
  · by_cases c1 : 0 < l
    · rw [if_pos c1] at h; omega
    · rw [if_neg c1] at h
      by_cases c2 : u < 0
      · have := Rat.intCast_lt_intCast.2 c2
        rw [show ((0 : Int) : Rat) = 0 from rfl] at this
        grind
      · rw [if_neg c2] at h; omega
  · rw [if_pos]
    apply int_lt_of_rat
    rw [show ((0 : Int) : Rat) = 0 from rfl]
    grind
  · have c2 : u < 0 := by
      apply int_lt_of_rat
      rw [show ((0 : Int) : Rat) = 0 from rfl]
      grind
    rw [if_neg (by omega), if_pos c2]
/-- The side of the moon at an instant, with respect to a phase. -/
def phSd (q : Int) (x : Int) : Int := sideF (elLo x) (elHi x) (250000000 * q)
/-- The elongation grows. -/
theorem el_lt {x y : Int} (h : x < y) : elT (x : Rat) + 3217 / 10000 * ((y : Rat) - (x : Rat)) - 1 / 100000000 ≤ elT (y : Rat) := by
  have h' := Rat.intCast_lt_intCast.2 h
  have m := el_move (x : Rat) (d := (y : Rat) - (x : Rat)) (by grind)
  rw [show (x : Rat) + ((y : Rat) - (x : Rat)) = (y : Rat) by grind] at m
  generalize elT (y : Rat) = a at *
  generalize elT (x : Rat) = b at *
  grind
theorem int_sub1 {x y : Int} (h : x < y) : 1 ≤ (y : Rat) - (x : Rat) := by
  have := Rat.intCast_le_intCast.2 (show x + 1 ≤ y by omega)
  rw [Rat.intCast_add, show ((1 : Int) : Rat) = 1 from rfl] at this
  grind
structure PhCross (k q c : Int) : Prop where
  lo : phM k q - 172800000 < c
  hi : c ≤ phM k q + 172800000
  b : elT ((c - 1 : Int) : Rat) < 250000000 * (q : Rat) + 1000000000 * (k : Rat)
  a : 250000000 * (q : Rat) + 1000000000 * (k : Rat) ≤ elT (c : Rat)
  cr : Cross (phSd q) (phM k q - 172800000) (phM k q + 172800000) c 70500
theorem ph_cross {k q : Int} (k0 : -100002 ≤ k) (k1 : k ≤ 100002) (q0 : 0 ≤ q) (q1 : q ≤ 3) : ∃ c, PhCross k q c := by
  have em := el_mid k0 k1 q0 q1
  obtain ⟨tq, htq⟩ : ∃ tq, tq = 250000000 * (q : Rat) + 1000000000 * (k : Rat) := ⟨_, rfl⟩
  obtain ⟨m, hm⟩ : ∃ m, m = phM k q := ⟨_, rfl⟩
  rw [← htq, ← hm] at em
  have lo1 := el_lt (x := m - 172800000) (y := m) (by omega)
  have hi1 := el_lt (x := m) (y := m + 172800000) (by omega)
  have clo : ((m - 172800000 : Int) : Rat) = (m : Rat) - 172800000 := by rw [Rat.intCast_sub]; rfl
  have chi : ((m + 172800000 : Int) : Rat) = (m : Rat) + 172800000 := by rw [Rat.intCast_add]; rfl
  rw [clo] at lo1
  rw [chi] at hi1
  obtain ⟨c, c1, c2, c3, c4⟩ := passes (P := fun x : Int => tq ≤ elT (x : Rat)) (lo := m - 172800000) (hi := m + 172800000) (by omega) (by rw [clo]; generalize elT ((m : Rat) - 172800000) = z at *; generalize elT (m : Rat) = z2 at *; clear hi1; grind) (by rw [chi]; generalize elT ((m : Rat) + 172800000) = z at *; generalize elT (m : Rat) = z2 at *; clear lo1; grind)
  have c3' : elT ((c - 1 : Int) : Rat) < tq := Rat.not_le.1 c3
  have cc : ((c - 1 : Int) : Rat) = (c : Rat) - 1 := by rw [Rat.intCast_sub]; rfl
  clear c3 lo1 hi1
  have tgq : tq = ((250000000 * q : Int) : Rat) + 1000000000 * (k : Rat) := by rw [htq, Rat.intCast_mul]; rfl
  have S : ∀ x : Int, m - 172800000 ≤ x → x ≤ m + 172800000 → (phSd q x = 1 → tq < elT (x : Rat)) ∧ (phSd q x = -1 → elT (x : Rat) < tq) ∧ (tq + (22000 + 4006 / 1000) < elT (x : Rat) → phSd q x = 1) ∧ (elT (x : Rat) < tq - (22000 + 4006 / 1000) → phSd q x = -1) := fun x h1 h2 => by
    have h1' := Rat.intCast_le_intCast.2 h1
    have h2' := Rat.intCast_le_intCast.2 h2
    rw [clo] at h1'
    rw [chi] at h2'
    have bd : -200000000 ≤ elT (x : Rat) - tq ∧ elT (x : Rat) - tq ≤ 200000000 := by
      by_cases c : m ≤ x
      · have c' := Rat.intCast_le_intCast.2 c
        have mv := el_move (m : Rat) (d := (x : Rat) - (m : Rat)) (by grind)
        rw [show (m : Rat) + ((x : Rat) - (m : Rat)) = (x : Rat) by grind] at mv
        clear c3' c4
        generalize elT (x : Rat) = a at *
        generalize elT (m : Rat) = b at *
        constructor <;> grind
      · have c' := Rat.intCast_le_intCast.2 (show x ≤ m by omega)
        have mv := el_move (x : Rat) (d := (m : Rat) - (x : Rat)) (by grind)
        rw [show (x : Rat) + ((m : Rat) - (x : Rat)) = (m : Rat) by grind] at mv
        clear c3' c4
        generalize elT (x : Rat) = a at *
        generalize elT (m : Rat) = b at *
        constructor <;> grind
    exact side_at (el_at x) tgq (by grind) (by grind) (by grind) bd.1 bd.2
  refine ⟨c, by rw [← hm]; omega, by rw [← hm]; omega, by rw [← htq]; exact c3', by rw [← htq]; exact c4, ?_⟩
  rw [← hm]
  refine ⟨fun x h1 h2 e => ?_, fun x h1 h2 e => ?_, fun x h1 h2 e => ?_, fun x h1 h2 e => ?_⟩
  · have s := (S x h1 h2).2.1 e
    apply Int.not_le.1
    intro l
    rcases Int.lt_or_eq_of_le l with l | l
    · have g := el_lt l
      have d := int_sub1 l
      clear S em cc
      generalize elT (x : Rat) = a at *
      generalize elT (c : Rat) = b at *
      grind
    · rw [← l] at s
      grind
  · have s := (S x h1 h2).1 e
    apply Int.not_lt.1
    intro l
    rcases Int.lt_or_eq_of_le (show x ≤ c - 1 by omega) with l | l
    · have g := el_lt l
      have d := int_sub1 l
      clear S em cc
      generalize elT (x : Rat) = a at *
      generalize elT ((c - 1 : Int) : Rat) = b at *
      grind
    · rw [l] at s
      grind
  · apply (S x h1 h2).2.2.2
    have g := el_lt (show x < c - 1 by omega)
    have e' := Rat.intCast_le_intCast.2 e
    rw [Rat.intCast_sub, show ((70500 : Int) : Rat) = 70500 from rfl] at e'
    clear S em
    rw [cc] at g c3'
    generalize elT (x : Rat) = a at *
    generalize elT ((c : Rat) - 1) = b at *
    grind
  · apply (S x h1 h2).2.2.1
    have g := el_lt (show c < x by omega)
    have e' := Rat.intCast_le_intCast.2 e
    rw [Rat.intCast_add, show ((70500 : Int) : Rat) = 70500 from rfl] at e'
    clear S em
    generalize elT (x : Rat) = a at *
    generalize elT (c : Rat) = b at *
    grind
/-- What find hands back. -/
def phF (k q : Int) : Int × Int := nrwF (phSd q) 600000 64 (phM k q - 172800000) (phM k q + 172800000)
structure PhIn (k q c : Int) : Prop where
  x : PhCross k q c
  a : phM k q - 172800000 ≤ (phF k q).1
  b : (phF k q).1 < c
  c : c ≤ (phF k q).2
  d : (phF k q).2 ≤ phM k q + 172800000
  w : (phF k q).2 - (phF k q).1 ≤ 600000
theorem ph_in {k q : Int} (k0 : -100002 ≤ k) (k1 : k ≤ 100002) (q0 : 0 ≤ q) (q1 : q ≤ 3) : ∃ c, PhIn k q c := by
  obtain ⟨c, C⟩ := ph_cross k0 k1 q0 q1
  have p64 : (1000000000000000000 : Int) ≤ ((2 ^ 64 : Nat) : Int) := by decide
  have N := nrwF_in C.cr (width := 600000) (by omega) (by omega) C.lo C.hi (by omega) 64 (by omega)
  exact ⟨c, C, N.a, N.b, N.c, N.d, by have := N.w; show (nrwF (phSd q) 600000 64 (phM k q - 172800000) (phM k q + 172800000)).2 - (nrwF (phSd q) 600000 64 (phM k q - 172800000) (phM k q + 172800000)).1 ≤ 600000; omega⟩
end Go.Proofs.YtdifeoahaegjbaaGreatDoor
/- How far the true elongation moves over some times (printed by wip/tools/gen-ph.py). Plain. -/
namespace Go.Proofs.YtdifeoahaegjbaaGreatDoor
set_option linter.unusedSimpArgs false
set_option linter.unusedVariables false
theorem tm_chord (A P R : Int) (t : Rat) {T : Rat} {n M : Int} {mA : Rat} (hn : -1 ≤ (R : Rat) * T / 86400000000000 / 2 - (n : Rat) ∧ (R : Rat) * T / 86400000000000 / 2 - (n : Rat) ≤ 1) (hs : -M ≤ sLo n ∧ sHi n ≤ M) (hM : M ≤ 1000000010) (hA : -mA ≤ (A : Rat) ∧ (A : Rat) ≤ mA) :
    Near ((A : Rat) * SA (phT P R (t + T))) ((A : Rat) * SA (phT P R t)) (mA * (2 * ((M : Rat) + 20) / 1000000000)) := by
  have e : phT P R (t + T) = phT P R t + (R : Rat) * T / 86400000000000 := by unfold phT; grind
  rw [e]
  obtain ⟨d, hd⟩ : ∃ d, d = (R : Rat) * T / 86400000000000 := ⟨_, rfl⟩
  rw [← hd] at hn ⊢
  have s := sine_in n
  have l := s.lo; have h := s.hi
  have q := qq_b9
  have lp := (SA_lipD (y := (n : Rat)) (d := d / 2 - (n : Rat)) (D := 1) hn).1
  rw [SA_int, show (n : Rat) + (d / 2 - (n : Rat)) = d / 2 by grind] at lp
  have m1 := Rat.intCast_le_intCast.2 hs.1
  have m2 := Rat.intCast_le_intCast.2 hs.2
  have m3 := Rat.intCast_le_intCast.2 hM
  rw [Rat.intCast_neg] at m1
  rw [show ((1000000010 : Int) : Rat) = 1000000010 from rfl] at m3
  have b : -(((M : Rat) + 10) / 1000000000) ≤ SA (d / 2) ∧ SA (d / 2) ≤ ((M : Rat) + 10) / 1000000000 := by
    unfold Near ra at lp
    clear hA e hd hn
    generalize SA (d / 2) = x at *
    generalize SN n = y at *
    generalize qq = p at *
    constructor <;> grind
  have c := SA_chord (y := phT P R t) b (by grind)
  have mm := rmul_bd (a := (A : Rat)) (b := SA (phT P R t + d) - SA (phT P R t)) (A := mA) (B := 2 * ((M : Rat) + 20) / 1000000000) hA (by
    unfold Near at c
    clear lp b l h m1 m2 hA
    generalize SA (phT P R t + d) = x at *
    generalize SA (phT P R t) = y at *
    constructor <;> grind)
  clear c lp b l h
  unfold Near
  generalize SA (phT P R t + d) = x at *
  generalize SA (phT P R t) = y at *
  generalize mA * (2 * ((M : Rat) + 20) / 1000000000) = z at *
  constructor <;> grind
theorem ph_na : (-633187829 ≤ sLo 109126967 ∧ sHi 109126967 ≤ 633187829) ∧ (-559599472 ≤ sLo 94522508 ∧ sHi 94522508 ≤ 559599472) ∧ (-957891736 ≤ sLo 203649474 ∧ sHi 203649474 ≤ 957891736) ∧ (-980172449 ≤ sLo 218253934 ∧ sHi 218253934 ≤ 980172449) ∧ (-51702309 ≤ sLo 8232348 ∧ sHi 8232348 ≤ 51702309) ∧ (-983444711 ≤ sLo 220999563 ∧ sHi 220999563 ≤ 983444711) ∧ (-51702309 ≤ sLo 8232348 ∧ sHi 8232348 ≤ 51702309) ∧ (-103266316 ≤ sLo 16464696 ∧ sHi 16464696 ≤ 103266316) := by decide +kernel
theorem el_a (t : Rat) : 171660804 ≤ elT (t + 519600001) - elT t ∧ elT (t + 519600001) - elT t ≤ 235638144 := by
  obtain ⟨n0, n1, n2, n3, n4, n5, n6, n7⟩ := ph_na
  have c0 := tm_chord (17468817) 99384016 36291647083333 t (T := 519600001) (n := 109126967) (M := 633187829) (mA := 17468817) (by rw [show ((36291647083333 : Int) : Rat) = 36291647083333 from rfl, show ((109126967 : Int) : Rat) = 109126967 from rfl]; grind) n0 (by omega) (by rw [show ((17468817 : Int) : Rat) = 17468817 from rfl]; grind)
  rw [show ((17468817 : Int) : Rat) = 17468817 from rfl, show ((633187829 : Int) : Rat) = 633187829 from rfl] at c0
  have c1 := tm_chord (3538964) 134030564 31434736861111 t (T := 519600001) (n := 94522508) (M := 559599472) (mA := 3538964) (by rw [show ((31434736861111 : Int) : Rat) = 31434736861111 from rfl, show ((94522508 : Int) : Rat) = 94522508 from rfl]; grind) n1 (by omega) (by rw [show ((3538964 : Int) : Rat) = 3538964 from rfl]; grind)
  rw [show ((3538964 : Int) : Rat) = 3538964 from rfl, show ((559599472 : Int) : Rat) = 559599472 from rfl] at c1
  have c2 := tm_chord (1828650) 233414580 67726383944444 t (T := 519600001) (n := 203649474) (M := 957891736) (mA := 1828650) (by rw [show ((67726383944444 : Int) : Rat) = 67726383944444 from rfl, show ((203649474 : Int) : Rat) = 203649474 from rfl]; grind) n2 (by omega) (by rw [show ((1828650 : Int) : Rat) = 1828650 from rfl]; grind)
  rw [show ((1828650 : Int) : Rat) = 1828650 from rfl, show ((957891736 : Int) : Rat) = 957891736 from rfl] at c2
  have c3 := tm_chord (593383) 198768032 72583294166666 t (T := 519600001) (n := 218253934) (M := 980172449) (mA := 593383) (by rw [show ((72583294166666 : Int) : Rat) = 72583294166666 from rfl, show ((218253934 : Int) : Rat) = 218253934 from rfl]; grind) n3 (by omega) (by rw [show ((593383 : Int) : Rat) = 593383 from rfl]; grind)
  rw [show ((593383 : Int) : Rat) = 593383 from rfl, show ((980172449 : Int) : Rat) = 980172449 from rfl] at c3
  have c4 := tm_chord (-514211) 84888545 2737778555556 t (T := 519600001) (n := 8232348) (M := 51702309) (mA := 514211) (by rw [show ((2737778555556 : Int) : Rat) = 2737778555556 from rfl, show ((8232348 : Int) : Rat) = 8232348 from rfl]; grind) n4 (by omega) (by rw [show ((-514211 : Int) : Rat) = -514211 from rfl]; grind)
  rw [show ((-514211 : Int) : Rat) = -514211 from rfl, show ((51702309 : Int) : Rat) = 51702309 from rfl] at c4
  have c5 := tm_chord (-317589) 297001062 73496390222222 t (T := 519600001) (n := 220999563) (M := 983444711) (mA := 317589) (by rw [show ((73496390222222 : Int) : Rat) = 73496390222222 from rfl, show ((220999563 : Int) : Rat) = 220999563 from rfl]; grind) n5 (by omega) (by rw [show ((-317589 : Int) : Rat) = -317589 from rfl]; grind)
  rw [show ((-317589 : Int) : Rat) = -317589 from rfl, show ((983444711 : Int) : Rat) = 983444711 from rfl] at c5
  have c6 := tm_chord (5318339) 84888545 2737778555556 t (T := 519600001) (n := 8232348) (M := 51702309) (mA := 5318339) (by rw [show ((2737778555556 : Int) : Rat) = 2737778555556 from rfl, show ((8232348 : Int) : Rat) = 8232348 from rfl]; grind) n6 (by omega) (by rw [show ((5318339 : Int) : Rat) = 5318339 from rfl]; grind)
  rw [show ((5318339 : Int) : Rat) = 5318339 from rfl, show ((51702309 : Int) : Rat) = 51702309 from rfl] at c6
  have c7 := tm_chord (55536) 169777090 5475557111112 t (T := 519600001) (n := 16464696) (M := 103266316) (mA := 55536) (by rw [show ((5475557111112 : Int) : Rat) = 5475557111112 from rfl, show ((16464696 : Int) : Rat) = 16464696 from rfl]; grind) n7 (by omega) (by rw [show ((55536 : Int) : Rat) = 55536 from rfl]; grind)
  rw [show ((55536 : Int) : Rat) = 55536 from rfl, show ((103266316 : Int) : Rat) = 103266316 from rfl] at c7
  have eM : ∀ t, svT moonLZ 6 t = 0 + (17468817) * SA (phT 99384016 36291647083333 t) + (3538964) * SA (phT 134030564 31434736861111 t) + (1828650) * SA (phT 233414580 67726383944444 t) + (593383) * SA (phT 198768032 72583294166666 t) + (-514211) * SA (phT 84888545 2737778555556 t) + (-317589) * SA (phT 297001062 73496390222222 t) := fun _ => rfl
  have eS : ∀ t, svT sunZ 2 t = 0 + (5318339) * SA (phT 84888545 2737778555556 t) + (55536) * SA (phT 169777090 5475557111112 t) := fun _ => rfl
  have ek : ∀ t, elT t = phT 392048814 36601101305556 t + svT moonLZ 6 t - (phT 775342092 2737909333333 t + svT sunZ 2 t) := fun _ => rfl
  rw [ek, ek, eM, eM, eS, eS]
  have em : phT 392048814 36601101305556 (t + 519600001) - phT 775342092 2737909333333 (t + 519600001) = phT 392048814 36601101305556 t - phT 775342092 2737909333333 t + 33863191972223 * 519600001 / 86400000000000 := by unfold phT; rw [show ((36601101305556 : Int) : Rat) = 36601101305556 from rfl, show ((2737909333333 : Int) : Rat) = 2737909333333 from rfl]; grind
  clear eM eS ek
  unfold Near at *
  generalize SA (phT 99384016 36291647083333 (t + 519600001)) = x0 at *
  generalize SA (phT 99384016 36291647083333 t) = y0 at *
  generalize SA (phT 134030564 31434736861111 (t + 519600001)) = x1 at *
  generalize SA (phT 134030564 31434736861111 t) = y1 at *
  generalize SA (phT 233414580 67726383944444 (t + 519600001)) = x2 at *
  generalize SA (phT 233414580 67726383944444 t) = y2 at *
  generalize SA (phT 198768032 72583294166666 (t + 519600001)) = x3 at *
  generalize SA (phT 198768032 72583294166666 t) = y3 at *
  generalize SA (phT 84888545 2737778555556 (t + 519600001)) = x4 at *
  generalize SA (phT 84888545 2737778555556 t) = y4 at *
  generalize SA (phT 297001062 73496390222222 (t + 519600001)) = x5 at *
  generalize SA (phT 297001062 73496390222222 t) = y5 at *
  generalize SA (phT 169777090 5475557111112 (t + 519600001)) = x7 at *
  generalize SA (phT 169777090 5475557111112 t) = y7 at *
  generalize phT 392048814 36601101305556 (t + 519600001) = u1 at *
  generalize phT 775342092 2737909333333 (t + 519600001) = u2 at *
  generalize phT 392048814 36601101305556 t = u3 at *
  generalize phT 775342092 2737909333333 t = u4 at *
  clear n0 n1 n2 n3 n4 n5 n6 n7
  constructor <;> grind
theorem ph_nb : (-854474601 ≤ sLo 163060386 ∧ sHi 163060386 ≤ 854474601) ∧ (-775448217 ≤ sLo 141238019 ∧ sHi 141238019 ≤ 775448217) ∧ (-942364868 ≤ sLo 304298405 ∧ sHi 304298405 ≤ 942364868) ∧ (-887787449 ≤ sLo 326120773 ∧ sHi 326120773 ≤ 887787449) ∧ (-77212482 ≤ sLo 12300991 ∧ sHi 12300991 ≤ 77212482) ∧ (-875629710 ≤ sLo 330223364 ∧ sHi 330223364 ≤ 875629710) ∧ (-77212482 ≤ sLo 12300991 ∧ sHi 12300991 ≤ 77212482) ∧ (-153963950 ≤ sLo 24601982 ∧ sHi 24601982 ≤ 153963950) := by decide +kernel
theorem el_b (t : Rat) : 262982435 ≤ elT (t + 776399999) - elT t ∧ elT (t + 776399999) - elT t ≤ 345614376 := by
  obtain ⟨n0, n1, n2, n3, n4, n5, n6, n7⟩ := ph_nb
  have c0 := tm_chord (17468817) 99384016 36291647083333 t (T := 776399999) (n := 163060386) (M := 854474601) (mA := 17468817) (by rw [show ((36291647083333 : Int) : Rat) = 36291647083333 from rfl, show ((163060386 : Int) : Rat) = 163060386 from rfl]; grind) n0 (by omega) (by rw [show ((17468817 : Int) : Rat) = 17468817 from rfl]; grind)
  rw [show ((17468817 : Int) : Rat) = 17468817 from rfl, show ((854474601 : Int) : Rat) = 854474601 from rfl] at c0
  have c1 := tm_chord (3538964) 134030564 31434736861111 t (T := 776399999) (n := 141238019) (M := 775448217) (mA := 3538964) (by rw [show ((31434736861111 : Int) : Rat) = 31434736861111 from rfl, show ((141238019 : Int) : Rat) = 141238019 from rfl]; grind) n1 (by omega) (by rw [show ((3538964 : Int) : Rat) = 3538964 from rfl]; grind)
  rw [show ((3538964 : Int) : Rat) = 3538964 from rfl, show ((775448217 : Int) : Rat) = 775448217 from rfl] at c1
  have c2 := tm_chord (1828650) 233414580 67726383944444 t (T := 776399999) (n := 304298405) (M := 942364868) (mA := 1828650) (by rw [show ((67726383944444 : Int) : Rat) = 67726383944444 from rfl, show ((304298405 : Int) : Rat) = 304298405 from rfl]; grind) n2 (by omega) (by rw [show ((1828650 : Int) : Rat) = 1828650 from rfl]; grind)
  rw [show ((1828650 : Int) : Rat) = 1828650 from rfl, show ((942364868 : Int) : Rat) = 942364868 from rfl] at c2
  have c3 := tm_chord (593383) 198768032 72583294166666 t (T := 776399999) (n := 326120773) (M := 887787449) (mA := 593383) (by rw [show ((72583294166666 : Int) : Rat) = 72583294166666 from rfl, show ((326120773 : Int) : Rat) = 326120773 from rfl]; grind) n3 (by omega) (by rw [show ((593383 : Int) : Rat) = 593383 from rfl]; grind)
  rw [show ((593383 : Int) : Rat) = 593383 from rfl, show ((887787449 : Int) : Rat) = 887787449 from rfl] at c3
  have c4 := tm_chord (-514211) 84888545 2737778555556 t (T := 776399999) (n := 12300991) (M := 77212482) (mA := 514211) (by rw [show ((2737778555556 : Int) : Rat) = 2737778555556 from rfl, show ((12300991 : Int) : Rat) = 12300991 from rfl]; grind) n4 (by omega) (by rw [show ((-514211 : Int) : Rat) = -514211 from rfl]; grind)
  rw [show ((-514211 : Int) : Rat) = -514211 from rfl, show ((77212482 : Int) : Rat) = 77212482 from rfl] at c4
  have c5 := tm_chord (-317589) 297001062 73496390222222 t (T := 776399999) (n := 330223364) (M := 875629710) (mA := 317589) (by rw [show ((73496390222222 : Int) : Rat) = 73496390222222 from rfl, show ((330223364 : Int) : Rat) = 330223364 from rfl]; grind) n5 (by omega) (by rw [show ((-317589 : Int) : Rat) = -317589 from rfl]; grind)
  rw [show ((-317589 : Int) : Rat) = -317589 from rfl, show ((875629710 : Int) : Rat) = 875629710 from rfl] at c5
  have c6 := tm_chord (5318339) 84888545 2737778555556 t (T := 776399999) (n := 12300991) (M := 77212482) (mA := 5318339) (by rw [show ((2737778555556 : Int) : Rat) = 2737778555556 from rfl, show ((12300991 : Int) : Rat) = 12300991 from rfl]; grind) n6 (by omega) (by rw [show ((5318339 : Int) : Rat) = 5318339 from rfl]; grind)
  rw [show ((5318339 : Int) : Rat) = 5318339 from rfl, show ((77212482 : Int) : Rat) = 77212482 from rfl] at c6
  have c7 := tm_chord (55536) 169777090 5475557111112 t (T := 776399999) (n := 24601982) (M := 153963950) (mA := 55536) (by rw [show ((5475557111112 : Int) : Rat) = 5475557111112 from rfl, show ((24601982 : Int) : Rat) = 24601982 from rfl]; grind) n7 (by omega) (by rw [show ((55536 : Int) : Rat) = 55536 from rfl]; grind)
  rw [show ((55536 : Int) : Rat) = 55536 from rfl, show ((153963950 : Int) : Rat) = 153963950 from rfl] at c7
  have eM : ∀ t, svT moonLZ 6 t = 0 + (17468817) * SA (phT 99384016 36291647083333 t) + (3538964) * SA (phT 134030564 31434736861111 t) + (1828650) * SA (phT 233414580 67726383944444 t) + (593383) * SA (phT 198768032 72583294166666 t) + (-514211) * SA (phT 84888545 2737778555556 t) + (-317589) * SA (phT 297001062 73496390222222 t) := fun _ => rfl
  have eS : ∀ t, svT sunZ 2 t = 0 + (5318339) * SA (phT 84888545 2737778555556 t) + (55536) * SA (phT 169777090 5475557111112 t) := fun _ => rfl
  have ek : ∀ t, elT t = phT 392048814 36601101305556 t + svT moonLZ 6 t - (phT 775342092 2737909333333 t + svT sunZ 2 t) := fun _ => rfl
  rw [ek, ek, eM, eM, eS, eS]
  have em : phT 392048814 36601101305556 (t + 776399999) - phT 775342092 2737909333333 (t + 776399999) = phT 392048814 36601101305556 t - phT 775342092 2737909333333 t + 33863191972223 * 776399999 / 86400000000000 := by unfold phT; rw [show ((36601101305556 : Int) : Rat) = 36601101305556 from rfl, show ((2737909333333 : Int) : Rat) = 2737909333333 from rfl]; grind
  clear eM eS ek
  unfold Near at *
  generalize SA (phT 99384016 36291647083333 (t + 776399999)) = x0 at *
  generalize SA (phT 99384016 36291647083333 t) = y0 at *
  generalize SA (phT 134030564 31434736861111 (t + 776399999)) = x1 at *
  generalize SA (phT 134030564 31434736861111 t) = y1 at *
  generalize SA (phT 233414580 67726383944444 (t + 776399999)) = x2 at *
  generalize SA (phT 233414580 67726383944444 t) = y2 at *
  generalize SA (phT 198768032 72583294166666 (t + 776399999)) = x3 at *
  generalize SA (phT 198768032 72583294166666 t) = y3 at *
  generalize SA (phT 84888545 2737778555556 (t + 776399999)) = x4 at *
  generalize SA (phT 84888545 2737778555556 t) = y4 at *
  generalize SA (phT 297001062 73496390222222 (t + 776399999)) = x5 at *
  generalize SA (phT 297001062 73496390222222 t) = y5 at *
  generalize SA (phT 169777090 5475557111112 (t + 776399999)) = x7 at *
  generalize SA (phT 169777090 5475557111112 t) = y7 at *
  generalize phT 392048814 36601101305556 (t + 776399999) = u1 at *
  generalize phT 775342092 2737909333333 (t + 776399999) = u2 at *
  generalize phT 392048814 36601101305556 t = u3 at *
  generalize phT 775342092 2737909333333 t = u4 at *
  clear n0 n1 n2 n3 n4 n5 n6 n7
  constructor <;> grind
theorem ph_nc : (-165617826 ≤ sLo 526480908 ∧ sHi 526480908 ≤ 165617826) ∧ (-272819070 ≤ sLo 456021981 ∧ sHi 456021981 ≤ 272819070) ∧ (-109716266 ≤ sLo 982502890 ∧ sHi 982502890 ≤ 109716266) ∧ (-326661287 ≤ sLo 1052961816 ∧ sHi 1052961816 ≤ 326661287) ∧ (-246966009 ≤ sLo 39716801 ∧ sHi 39716801 ≤ 246966009) ∧ (-404102513 ≤ sLo 1066208050 ∧ sHi 1066208050 ≤ 404102513) ∧ (-246966009 ≤ sLo 39716801 ∧ sHi 39716801 ≤ 246966009) ∧ (-478632053 ≤ sLo 79433603 ∧ sHi 79433603 ≤ 478632053) := by decide +kernel
theorem el_c (t : Rat) : 970805940 ≤ elT (t + 2506800001) - elT t ∧ elT (t + 2506800001) - elT t ≤ 994199840 := by
  obtain ⟨n0, n1, n2, n3, n4, n5, n6, n7⟩ := ph_nc
  have c0 := tm_chord (17468817) 99384016 36291647083333 t (T := 2506800001) (n := 526480908) (M := 165617826) (mA := 17468817) (by rw [show ((36291647083333 : Int) : Rat) = 36291647083333 from rfl, show ((526480908 : Int) : Rat) = 526480908 from rfl]; grind) n0 (by omega) (by rw [show ((17468817 : Int) : Rat) = 17468817 from rfl]; grind)
  rw [show ((17468817 : Int) : Rat) = 17468817 from rfl, show ((165617826 : Int) : Rat) = 165617826 from rfl] at c0
  have c1 := tm_chord (3538964) 134030564 31434736861111 t (T := 2506800001) (n := 456021981) (M := 272819070) (mA := 3538964) (by rw [show ((31434736861111 : Int) : Rat) = 31434736861111 from rfl, show ((456021981 : Int) : Rat) = 456021981 from rfl]; grind) n1 (by omega) (by rw [show ((3538964 : Int) : Rat) = 3538964 from rfl]; grind)
  rw [show ((3538964 : Int) : Rat) = 3538964 from rfl, show ((272819070 : Int) : Rat) = 272819070 from rfl] at c1
  have c2 := tm_chord (1828650) 233414580 67726383944444 t (T := 2506800001) (n := 982502890) (M := 109716266) (mA := 1828650) (by rw [show ((67726383944444 : Int) : Rat) = 67726383944444 from rfl, show ((982502890 : Int) : Rat) = 982502890 from rfl]; grind) n2 (by omega) (by rw [show ((1828650 : Int) : Rat) = 1828650 from rfl]; grind)
  rw [show ((1828650 : Int) : Rat) = 1828650 from rfl, show ((109716266 : Int) : Rat) = 109716266 from rfl] at c2
  have c3 := tm_chord (593383) 198768032 72583294166666 t (T := 2506800001) (n := 1052961816) (M := 326661287) (mA := 593383) (by rw [show ((72583294166666 : Int) : Rat) = 72583294166666 from rfl, show ((1052961816 : Int) : Rat) = 1052961816 from rfl]; grind) n3 (by omega) (by rw [show ((593383 : Int) : Rat) = 593383 from rfl]; grind)
  rw [show ((593383 : Int) : Rat) = 593383 from rfl, show ((326661287 : Int) : Rat) = 326661287 from rfl] at c3
  have c4 := tm_chord (-514211) 84888545 2737778555556 t (T := 2506800001) (n := 39716801) (M := 246966009) (mA := 514211) (by rw [show ((2737778555556 : Int) : Rat) = 2737778555556 from rfl, show ((39716801 : Int) : Rat) = 39716801 from rfl]; grind) n4 (by omega) (by rw [show ((-514211 : Int) : Rat) = -514211 from rfl]; grind)
  rw [show ((-514211 : Int) : Rat) = -514211 from rfl, show ((246966009 : Int) : Rat) = 246966009 from rfl] at c4
  have c5 := tm_chord (-317589) 297001062 73496390222222 t (T := 2506800001) (n := 1066208050) (M := 404102513) (mA := 317589) (by rw [show ((73496390222222 : Int) : Rat) = 73496390222222 from rfl, show ((1066208050 : Int) : Rat) = 1066208050 from rfl]; grind) n5 (by omega) (by rw [show ((-317589 : Int) : Rat) = -317589 from rfl]; grind)
  rw [show ((-317589 : Int) : Rat) = -317589 from rfl, show ((404102513 : Int) : Rat) = 404102513 from rfl] at c5
  have c6 := tm_chord (5318339) 84888545 2737778555556 t (T := 2506800001) (n := 39716801) (M := 246966009) (mA := 5318339) (by rw [show ((2737778555556 : Int) : Rat) = 2737778555556 from rfl, show ((39716801 : Int) : Rat) = 39716801 from rfl]; grind) n6 (by omega) (by rw [show ((5318339 : Int) : Rat) = 5318339 from rfl]; grind)
  rw [show ((5318339 : Int) : Rat) = 5318339 from rfl, show ((246966009 : Int) : Rat) = 246966009 from rfl] at c6
  have c7 := tm_chord (55536) 169777090 5475557111112 t (T := 2506800001) (n := 79433603) (M := 478632053) (mA := 55536) (by rw [show ((5475557111112 : Int) : Rat) = 5475557111112 from rfl, show ((79433603 : Int) : Rat) = 79433603 from rfl]; grind) n7 (by omega) (by rw [show ((55536 : Int) : Rat) = 55536 from rfl]; grind)
  rw [show ((55536 : Int) : Rat) = 55536 from rfl, show ((478632053 : Int) : Rat) = 478632053 from rfl] at c7
  have eM : ∀ t, svT moonLZ 6 t = 0 + (17468817) * SA (phT 99384016 36291647083333 t) + (3538964) * SA (phT 134030564 31434736861111 t) + (1828650) * SA (phT 233414580 67726383944444 t) + (593383) * SA (phT 198768032 72583294166666 t) + (-514211) * SA (phT 84888545 2737778555556 t) + (-317589) * SA (phT 297001062 73496390222222 t) := fun _ => rfl
  have eS : ∀ t, svT sunZ 2 t = 0 + (5318339) * SA (phT 84888545 2737778555556 t) + (55536) * SA (phT 169777090 5475557111112 t) := fun _ => rfl
  have ek : ∀ t, elT t = phT 392048814 36601101305556 t + svT moonLZ 6 t - (phT 775342092 2737909333333 t + svT sunZ 2 t) := fun _ => rfl
  rw [ek, ek, eM, eM, eS, eS]
  have em : phT 392048814 36601101305556 (t + 2506800001) - phT 775342092 2737909333333 (t + 2506800001) = phT 392048814 36601101305556 t - phT 775342092 2737909333333 t + 33863191972223 * 2506800001 / 86400000000000 := by unfold phT; rw [show ((36601101305556 : Int) : Rat) = 36601101305556 from rfl, show ((2737909333333 : Int) : Rat) = 2737909333333 from rfl]; grind
  clear eM eS ek
  unfold Near at *
  generalize SA (phT 99384016 36291647083333 (t + 2506800001)) = x0 at *
  generalize SA (phT 99384016 36291647083333 t) = y0 at *
  generalize SA (phT 134030564 31434736861111 (t + 2506800001)) = x1 at *
  generalize SA (phT 134030564 31434736861111 t) = y1 at *
  generalize SA (phT 233414580 67726383944444 (t + 2506800001)) = x2 at *
  generalize SA (phT 233414580 67726383944444 t) = y2 at *
  generalize SA (phT 198768032 72583294166666 (t + 2506800001)) = x3 at *
  generalize SA (phT 198768032 72583294166666 t) = y3 at *
  generalize SA (phT 84888545 2737778555556 (t + 2506800001)) = x4 at *
  generalize SA (phT 84888545 2737778555556 t) = y4 at *
  generalize SA (phT 297001062 73496390222222 (t + 2506800001)) = x5 at *
  generalize SA (phT 297001062 73496390222222 t) = y5 at *
  generalize SA (phT 169777090 5475557111112 (t + 2506800001)) = x7 at *
  generalize SA (phT 169777090 5475557111112 t) = y7 at *
  generalize phT 392048814 36601101305556 (t + 2506800001) = u1 at *
  generalize phT 775342092 2737909333333 (t + 2506800001) = u2 at *
  generalize phT 392048814 36601101305556 t = u3 at *
  generalize phT 775342092 2737909333333 t = u4 at *
  clear n0 n1 n2 n3 n4 n5 n6 n7
  constructor <;> grind
theorem ph_nd : (-273693415 ≤ sLo 544122681 ∧ sHi 544122681 ≤ 273693415) ∧ (-179334660 ≤ sLo 471302756 ∧ sHi 471302756 ≤ 179334660) ∧ (-96769214 ≤ sLo 1015425437 ∧ sHi 1015425437 ≤ 96769214) ∧ (-526485943 ≤ sLo 1088245361 ∧ sHi 1088245361 ≤ 526485943) ∧ (-255060329 ≤ sLo 41047666 ∧ sHi 41047666 ≤ 255060329) ∧ (-597579894 ≤ sLo 1101935461 ∧ sHi 1101935461 ≤ 597579894) ∧ (-255060329 ≤ sLo 41047666 ∧ sHi 41047666 ≤ 255060329) ∧ (-493248487 ≤ sLo 82095332 ∧ sHi 82095332 ≤ 493248487) := by decide +kernel
theorem el_d (t : Rat) : 1000205526 ≤ elT (t + 2590799999) - elT t ∧ elT (t + 2590799999) - elT t ≤ 1030645347 := by
  obtain ⟨n0, n1, n2, n3, n4, n5, n6, n7⟩ := ph_nd
  have c0 := tm_chord (17468817) 99384016 36291647083333 t (T := 2590799999) (n := 544122681) (M := 273693415) (mA := 17468817) (by rw [show ((36291647083333 : Int) : Rat) = 36291647083333 from rfl, show ((544122681 : Int) : Rat) = 544122681 from rfl]; grind) n0 (by omega) (by rw [show ((17468817 : Int) : Rat) = 17468817 from rfl]; grind)
  rw [show ((17468817 : Int) : Rat) = 17468817 from rfl, show ((273693415 : Int) : Rat) = 273693415 from rfl] at c0
  have c1 := tm_chord (3538964) 134030564 31434736861111 t (T := 2590799999) (n := 471302756) (M := 179334660) (mA := 3538964) (by rw [show ((31434736861111 : Int) : Rat) = 31434736861111 from rfl, show ((471302756 : Int) : Rat) = 471302756 from rfl]; grind) n1 (by omega) (by rw [show ((3538964 : Int) : Rat) = 3538964 from rfl]; grind)
  rw [show ((3538964 : Int) : Rat) = 3538964 from rfl, show ((179334660 : Int) : Rat) = 179334660 from rfl] at c1
  have c2 := tm_chord (1828650) 233414580 67726383944444 t (T := 2590799999) (n := 1015425437) (M := 96769214) (mA := 1828650) (by rw [show ((67726383944444 : Int) : Rat) = 67726383944444 from rfl, show ((1015425437 : Int) : Rat) = 1015425437 from rfl]; grind) n2 (by omega) (by rw [show ((1828650 : Int) : Rat) = 1828650 from rfl]; grind)
  rw [show ((1828650 : Int) : Rat) = 1828650 from rfl, show ((96769214 : Int) : Rat) = 96769214 from rfl] at c2
  have c3 := tm_chord (593383) 198768032 72583294166666 t (T := 2590799999) (n := 1088245361) (M := 526485943) (mA := 593383) (by rw [show ((72583294166666 : Int) : Rat) = 72583294166666 from rfl, show ((1088245361 : Int) : Rat) = 1088245361 from rfl]; grind) n3 (by omega) (by rw [show ((593383 : Int) : Rat) = 593383 from rfl]; grind)
  rw [show ((593383 : Int) : Rat) = 593383 from rfl, show ((526485943 : Int) : Rat) = 526485943 from rfl] at c3
  have c4 := tm_chord (-514211) 84888545 2737778555556 t (T := 2590799999) (n := 41047666) (M := 255060329) (mA := 514211) (by rw [show ((2737778555556 : Int) : Rat) = 2737778555556 from rfl, show ((41047666 : Int) : Rat) = 41047666 from rfl]; grind) n4 (by omega) (by rw [show ((-514211 : Int) : Rat) = -514211 from rfl]; grind)
  rw [show ((-514211 : Int) : Rat) = -514211 from rfl, show ((255060329 : Int) : Rat) = 255060329 from rfl] at c4
  have c5 := tm_chord (-317589) 297001062 73496390222222 t (T := 2590799999) (n := 1101935461) (M := 597579894) (mA := 317589) (by rw [show ((73496390222222 : Int) : Rat) = 73496390222222 from rfl, show ((1101935461 : Int) : Rat) = 1101935461 from rfl]; grind) n5 (by omega) (by rw [show ((-317589 : Int) : Rat) = -317589 from rfl]; grind)
  rw [show ((-317589 : Int) : Rat) = -317589 from rfl, show ((597579894 : Int) : Rat) = 597579894 from rfl] at c5
  have c6 := tm_chord (5318339) 84888545 2737778555556 t (T := 2590799999) (n := 41047666) (M := 255060329) (mA := 5318339) (by rw [show ((2737778555556 : Int) : Rat) = 2737778555556 from rfl, show ((41047666 : Int) : Rat) = 41047666 from rfl]; grind) n6 (by omega) (by rw [show ((5318339 : Int) : Rat) = 5318339 from rfl]; grind)
  rw [show ((5318339 : Int) : Rat) = 5318339 from rfl, show ((255060329 : Int) : Rat) = 255060329 from rfl] at c6
  have c7 := tm_chord (55536) 169777090 5475557111112 t (T := 2590799999) (n := 82095332) (M := 493248487) (mA := 55536) (by rw [show ((5475557111112 : Int) : Rat) = 5475557111112 from rfl, show ((82095332 : Int) : Rat) = 82095332 from rfl]; grind) n7 (by omega) (by rw [show ((55536 : Int) : Rat) = 55536 from rfl]; grind)
  rw [show ((55536 : Int) : Rat) = 55536 from rfl, show ((493248487 : Int) : Rat) = 493248487 from rfl] at c7
  have eM : ∀ t, svT moonLZ 6 t = 0 + (17468817) * SA (phT 99384016 36291647083333 t) + (3538964) * SA (phT 134030564 31434736861111 t) + (1828650) * SA (phT 233414580 67726383944444 t) + (593383) * SA (phT 198768032 72583294166666 t) + (-514211) * SA (phT 84888545 2737778555556 t) + (-317589) * SA (phT 297001062 73496390222222 t) := fun _ => rfl
  have eS : ∀ t, svT sunZ 2 t = 0 + (5318339) * SA (phT 84888545 2737778555556 t) + (55536) * SA (phT 169777090 5475557111112 t) := fun _ => rfl
  have ek : ∀ t, elT t = phT 392048814 36601101305556 t + svT moonLZ 6 t - (phT 775342092 2737909333333 t + svT sunZ 2 t) := fun _ => rfl
  rw [ek, ek, eM, eM, eS, eS]
  have em : phT 392048814 36601101305556 (t + 2590799999) - phT 775342092 2737909333333 (t + 2590799999) = phT 392048814 36601101305556 t - phT 775342092 2737909333333 t + 33863191972223 * 2590799999 / 86400000000000 := by unfold phT; rw [show ((36601101305556 : Int) : Rat) = 36601101305556 from rfl, show ((2737909333333 : Int) : Rat) = 2737909333333 from rfl]; grind
  clear eM eS ek
  unfold Near at *
  generalize SA (phT 99384016 36291647083333 (t + 2590799999)) = x0 at *
  generalize SA (phT 99384016 36291647083333 t) = y0 at *
  generalize SA (phT 134030564 31434736861111 (t + 2590799999)) = x1 at *
  generalize SA (phT 134030564 31434736861111 t) = y1 at *
  generalize SA (phT 233414580 67726383944444 (t + 2590799999)) = x2 at *
  generalize SA (phT 233414580 67726383944444 t) = y2 at *
  generalize SA (phT 198768032 72583294166666 (t + 2590799999)) = x3 at *
  generalize SA (phT 198768032 72583294166666 t) = y3 at *
  generalize SA (phT 84888545 2737778555556 (t + 2590799999)) = x4 at *
  generalize SA (phT 84888545 2737778555556 t) = y4 at *
  generalize SA (phT 297001062 73496390222222 (t + 2590799999)) = x5 at *
  generalize SA (phT 297001062 73496390222222 t) = y5 at *
  generalize SA (phT 169777090 5475557111112 (t + 2590799999)) = x7 at *
  generalize SA (phT 169777090 5475557111112 t) = y7 at *
  generalize phT 392048814 36601101305556 (t + 2590799999) = u1 at *
  generalize phT 775342092 2737909333333 (t + 2590799999) = u2 at *
  generalize phT 392048814 36601101305556 t = u3 at *
  generalize phT 775342092 2737909333333 t = u4 at *
  clear n0 n1 n2 n3 n4 n5 n6 n7
  constructor <;> grind
end Go.Proofs.YtdifeoahaegjbaaGreatDoor
/- How far apart phases are, plain. -/
namespace Go.Proofs.YtdifeoahaegjbaaGreatDoor
set_option linter.unusedSimpArgs false
set_option linter.unusedVariables false
theorem el_le {x y : Int} (h : x ≤ y) : elT (x : Rat) - 1 / 100000000 ≤ elT (y : Rat) := by
  rcases Int.lt_or_eq_of_le h with l | l
  · have g := el_lt l
    have d := int_sub1 l
    generalize elT (x : Rat) = a at *
    generalize elT (y : Rat) = b at *
    grind
  · rw [l]; grind
/-- The elongation at the passage. -/
theorem PhCross.at' {k q c : Int} (h : PhCross k q c) : elT (c : Rat) ≤ 250000000 * (q : Rat) + 1000000000 * (k : Rat) + 1 := by
  have b := h.b
  have m := (el_move ((c - 1 : Int) : Rat) (d := 1) (by grind)).2
  rw [show ((c - 1 : Int) : Rat) + 1 = (c : Rat) by rw [Rat.intCast_sub]; show (c : Rat) - 1 + 1 = _; grind] at m
  generalize elT ((c - 1 : Int) : Rat) = u at *
  generalize elT (c : Rat) = v at *
  grind
theorem cross_lo {k q k' q' c c' T g hi : Int} (P : PhCross k q c) (P' : PhCross k' q' c') (h : 250000000 * q' + 1000000000 * k' = 250000000 * q + 1000000000 * k + g) (hT : elT ((c : Rat) + (T : Rat)) - elT (c : Rat) ≤ (hi : Rat)) (hg : hi + 2 ≤ g) : c + T < c' := by
  apply Int.not_le.1
  intro l
  have e := el_le l
  rw [Rat.intCast_add] at e
  have a := P.at'
  have b := P'.a
  have hq := congrArg (fun x : Int => (x : Rat)) h
  simp only [Rat.intCast_add, Rat.intCast_mul] at hq
  rw [show ((250000000 : Int) : Rat) = 250000000 from rfl, show ((1000000000 : Int) : Rat) = 1000000000 from rfl] at hq
  have hg' := Rat.intCast_le_intCast.2 hg
  rw [Rat.intCast_add, show ((2 : Int) : Rat) = 2 from rfl] at hg'
  generalize elT ((c : Rat) + (T : Rat)) = x at *
  generalize elT (c : Rat) = y at *
  generalize elT (c' : Rat) = z at *
  grind
theorem cross_hi {k q k' q' c c' T g lo : Int} (P : PhCross k q c) (P' : PhCross k' q' c') (h : 250000000 * q' + 1000000000 * k' = 250000000 * q + 1000000000 * k + g) (hT : (lo : Rat) ≤ elT ((c : Rat) + (T : Rat)) - elT (c : Rat)) (hg : g + 1 ≤ lo) : c' ≤ c + T := by
  apply Int.not_lt.1
  intro l
  have e := el_le (show c + T ≤ c' - 1 by omega)
  rw [Rat.intCast_add] at e
  have a := P.a
  have b := P'.b
  have hq := congrArg (fun x : Int => (x : Rat)) h
  simp only [Rat.intCast_add, Rat.intCast_mul] at hq
  rw [show ((250000000 : Int) : Rat) = 250000000 from rfl, show ((1000000000 : Int) : Rat) = 1000000000 from rfl] at hq
  have hg' := Rat.intCast_le_intCast.2 hg
  rw [Rat.intCast_add, show ((1 : Int) : Rat) = 1 from rfl] at hg'
  generalize elT ((c : Rat) + (T : Rat)) = x at *
  generalize elT (c : Rat) = y at *
  generalize elT ((c' - 1 : Int) : Rat) = z at *
  grind
/-- From one phase to the next. -/
theorem ph_step {k q k' q' c c' : Int} (P : PhIn k q c) (P' : PhIn k' q' c') (h : 250000000 * q' + 1000000000 * k' = 250000000 * q + 1000000000 * k + 250000000) : 518400000 ≤ (phF k' q').1 - (phF k q).2 ∧ (phF k' q').2 - (phF k q).1 ≤ 777600000 := by
  have a := cross_lo (T := 519600001) (hi := 235638144) P.x P'.x h (el_a (c : Rat)).2 (by omega)
  have b := cross_hi (T := 776399999) (lo := 262982435) P.x P'.x h (el_b (c : Rat)).1 (by omega)
  obtain ⟨-, -, p1, p2, -, p3⟩ := P
  obtain ⟨-, -, r1, r2, -, r3⟩ := P'
  omega
/-- From one new moon to the next. -/
theorem ph_month {k c c' : Int} (P : PhIn k 0 c) (P' : PhIn (k + 1) 0 c') : 2505600000 < (phF (k + 1) 0).1 - (phF k 0).2 ∧ (phF (k + 1) 0).2 - (phF k 0).1 < 2592000000 := by
  have h : 250000000 * (0 : Int) + 1000000000 * (k + 1) = 250000000 * 0 + 1000000000 * k + 1000000000 := by omega
  have a := cross_lo (T := 2506800001) (hi := 994199840) P.x P'.x h (el_c (c : Rat)).2 (by omega)
  have b := cross_hi (T := 2590799999) (lo := 1000205526) P.x P'.x h (el_d (c : Rat)).1 (by omega)
  obtain ⟨-, -, p1, p2, -, p3⟩ := P
  obtain ⟨-, -, r1, r2, -, r3⟩ := P'
  omega
end Go.Proofs.YtdifeoahaegjbaaGreatDoor
/- How much of the moon is lit at a phase, plain. -/
namespace Go.Proofs.YtdifeoahaegjbaaGreatDoor
set_option linter.unusedSimpArgs false
set_option linter.unusedVariables false
theorem kW_el : 0 ≤ kW 44010 ∧ kW 44010 ≤ 276600 := by
  have q := qq_b9
  unfold kW ra
  rw [show ((44010 : Int) : Rat) = 44010 from rfl]
  generalize qq = p at *
  constructor <;> grind
theorem kW_ph : 0 ≤ kW 310000 ∧ kW 310000 ≤ 1948000 := by
  have q := qq_b9
  unfold kW ra
  rw [show ((310000 : Int) : Rat) = 310000 from rfl]
  generalize qq = p at *
  constructor <;> grind
theorem el_w (x : Int) : elHi x - elLo x ≤ 44010 := by
  obtain ⟨k, a1, a2, a3, a4⟩ := el_at x
  have : elHi x - elLo x < 44011 := by
    apply int_lt_of_rat
    rw [Rat.intCast_sub, show ((44011 : Int) : Rat) = 44011 from rfl]
    grind
  omega
/-- The part that is lit. -/
def liLo (x : Int) : Int := (1000000000 - coHi (elLo x) (elHi x)) / 2
def liHi (x : Int) : Int := -(-(1000000000 - coLo (elLo x) (elHi x)) / 2)
/-- Where it lies, by the cosine of the interval's beginning. -/
theorem li_near (x : Int) : (liLo x : Rat) ≤ (1000000000 - 1000000000 * CN (elLo x) + 276602) / 2 ∧ (1000000000 - 1000000000 * CN (elLo x) - 276602) / 2 - 1 ≤ (liLo x : Rat) ∧ (liHi x : Rat) ≤ (1000000000 - 1000000000 * CN (elLo x) + 276602) / 2 + 1 ∧ (1000000000 - 1000000000 * CN (elLo x) - 276602) / 2 ≤ (liHi x : Rat) := by
  have b := el_bd x
  have k := kW_el
  obtain ⟨n1, n2⟩ := co_near (a := elLo x) (b := elHi x) (x := elLo x) (W := 44010) b.2.2.1 (el_w x) (by omega) (Int.le_refl _) b.2.2.1
  obtain ⟨p, hp⟩ : ∃ p, p = liLo x := ⟨_, rfl⟩
  obtain ⟨q, hq⟩ : ∃ q, q = liHi x := ⟨_, rfl⟩
  have e1 : 2 * p ≤ 1000000000 - coHi (elLo x) (elHi x) ∧ 1000000000 - coHi (elLo x) (elHi x) ≤ 2 * p + 1 := by rw [hp]; unfold liLo; omega
  have e2' : 1000000000 - coLo (elLo x) (elHi x) ≤ 2 * q ∧ 2 * q ≤ 1000000000 - coLo (elLo x) (elHi x) + 1 := by rw [hq]; unfold liHi; omega
  rw [← hp, ← hq]
  have f1 := Rat.intCast_le_intCast.2 e1.1
  have f2 := Rat.intCast_le_intCast.2 e1.2
  have f3 := Rat.intCast_le_intCast.2 e2'.1
  have f4 := Rat.intCast_le_intCast.2 e2'.2
  simp only [Rat.intCast_mul, Rat.intCast_sub, Rat.intCast_add] at f1 f2 f3 f4
  rw [show ((1000000000 : Int) : Rat) = 1000000000 from rfl, show ((2 : Int) : Rat) = 2 from rfl] at f1 f2 f3 f4
  rw [show ((1 : Int) : Rat) = 1 from rfl] at f2 f4
  clear e1 e2' hp hq b
  unfold Near at n1 n2
  generalize (coLo (elLo x) (elHi x) : Rat) = u at *
  generalize (coHi (elLo x) (elHi x) : Rat) = v at *
  generalize CN (elLo x) = c at *
  generalize kW 44010 = z at *
  refine ⟨?_, ?_, ?_, ?_⟩ <;> grind
theorem ph_quart : (999999990 ≤ cLo 0 ∧ cHi 0 ≤ 1000000010) ∧ (-10 ≤ cLo 250000000 ∧ cHi 250000000 ≤ 10) ∧ (-1000000010 ≤ cLo 500000000 ∧ cHi 500000000 ≤ -999999990) ∧ (-10 ≤ cLo 750000000 ∧ cHi 750000000 ≤ 10) := by decide +kernel
/-- What is wanted at a quarter. -/
def phWant (q : Int) : Int := if q = 0 then 0 else if q = 2 then 1000000000 else 500000000
theorem want_cos {q : Int} (q0 : 0 ≤ q) (q1 : q ≤ 3) : Near (1000000000 * CN (250000000 * q)) (1000000000 - 2 * (phWant q : Rat)) 11 := by
  obtain ⟨⟨a1, a2⟩, ⟨b1, b2⟩, ⟨c1, c2⟩, d1, d2⟩ := ph_quart
  have key : ∀ {n lo hi : Int}, lo ≤ cLo n → cHi n ≤ hi → (lo : Rat) - 1 / 1000 ≤ 1000000000 * CN n ∧ 1000000000 * CN n ≤ (hi : Rat) + 1 / 1000 := fun {n lo hi} h1 h2 => by
    have s := cos_span n
    have l := s.lo; have u := s.hi
    have h1' := Rat.intCast_le_intCast.2 h1
    have h2' := Rat.intCast_le_intCast.2 h2
    generalize CN n = z at *
    constructor <;> grind
  rcases (by omega : q = 0 ∨ q = 1 ∨ q = 2 ∨ q = 3) with rfl | rfl | rfl | rfl
  · have := key a1 a2
    rw [show ((phWant 0 : Int) : Rat) = 0 from rfl, show (250000000 : Int) * 0 = 0 from rfl]
    rw [show ((999999990 : Int) : Rat) = 999999990 from rfl, show ((1000000010 : Int) : Rat) = 1000000010 from rfl] at this
    unfold Near; generalize CN 0 = z at *; constructor <;> grind
  · have := key b1 b2
    rw [show ((phWant 1 : Int) : Rat) = 500000000 from rfl, show (250000000 : Int) * 1 = 250000000 from rfl]
    rw [show ((-10 : Int) : Rat) = -10 from rfl, show ((10 : Int) : Rat) = 10 from rfl] at this
    unfold Near; generalize CN 250000000 = z at *; constructor <;> grind
  · have := key c1 c2
    rw [show ((phWant 2 : Int) : Rat) = 1000000000 from rfl, show (250000000 : Int) * 2 = 500000000 from rfl]
    rw [show ((-1000000010 : Int) : Rat) = -1000000010 from rfl, show ((-999999990 : Int) : Rat) = -999999990 from rfl] at this
    unfold Near; generalize CN 500000000 = z at *; constructor <;> grind
  · have := key d1 d2
    rw [show ((phWant 3 : Int) : Rat) = 500000000 from rfl, show (250000000 : Int) * 3 = 750000000 from rfl]
    rw [show ((-10 : Int) : Rat) = -10 from rfl, show ((10 : Int) : Rat) = 10 from rfl] at this
    unfold Near; generalize CN 750000000 = z at *; constructor <;> grind
/-- At the beginning of a phase's interval. -/
theorem light_law {k q : Int} (k0 : -100000 ≤ k) (k1 : k ≤ 100000) (q0 : 0 ≤ q) (q1 : q ≤ 3) : liLo (phF k q).1 ≤ phWant q + 2000000 ∧ phWant q - 2000000 ≤ liHi (phF k q).1 ∧ liHi (phF k q).1 - liLo (phF k q).1 < 1000000 := by
  obtain ⟨c, C⟩ := ph_in (k := k) (q := q) (by omega) (by omega) q0 q1
  obtain ⟨X, -, p1, p2, -, p3⟩ := C
  obtain ⟨x, hx⟩ : ∃ x, x = (phF k q).1 := ⟨_, rfl⟩
  rw [← hx] at p1 p3 ⊢
  have L : c - 600000 ≤ x := by omega
  have lt := el_lt p1
  have ca := X.a; have cb := X.at'
  have mv := (el_move (x : Rat) (d := (c : Rat) - (x : Rat)) (by have := Rat.intCast_le_intCast.2 (show x ≤ c by omega); grind)).2
  rw [show (x : Rat) + ((c : Rat) - (x : Rat)) = (c : Rat) by grind] at mv
  have L' := Rat.intCast_le_intCast.2 L
  rw [Rat.intCast_sub, show ((600000 : Int) : Rat) = 600000 from rfl] at L'
  have d1 := int_sub1 p1
  obtain ⟨N, a1, a2, a3, a4⟩ := el_at x
  have n := li_near x
  have w := want_cos q0 q1
  -- the interval's beginning
  have near : Near (1000000000 * CN (elLo x)) (1000000000 * CN (250000000 * q)) (kW 310000) := by
    have h := (SN_move (a := 250000000 * q) (b := elLo x + 1000000000 * (N - k)) (W := 310000) ?_).2
    · rw [CN_mod] at h; exact h
    · constructor
      · apply int_le_of_rat
        rw [Rat.intCast_neg, Rat.intCast_sub, Rat.intCast_add, Rat.intCast_mul, Rat.intCast_mul, Rat.intCast_sub, show ((1000000000 : Int) : Rat) = 1000000000 from rfl, show ((250000000 : Int) : Rat) = 250000000 from rfl, show ((310000 : Int) : Rat) = 310000 from rfl]
        clear n w lt
        generalize elT (x : Rat) = u at *
        generalize elT (c : Rat) = v at *
        grind
      · apply int_le_of_rat
        rw [Rat.intCast_sub, Rat.intCast_add, Rat.intCast_mul, Rat.intCast_mul, Rat.intCast_sub, show ((1000000000 : Int) : Rat) = 1000000000 from rfl, show ((250000000 : Int) : Rat) = 250000000 from rfl, show ((310000 : Int) : Rat) = 310000 from rfl]
        clear n w mv
        generalize elT (x : Rat) = u at *
        generalize elT (c : Rat) = v at *
        grind
  have kp := kW_ph
  clear a1 a2 a3 a4 mv lt ca cb d1 L'
  obtain ⟨n1, n2, n3, n4⟩ := n
  unfold Near at near w
  generalize CN (elLo x) = u at *
  generalize CN (250000000 * q) = v at *
  generalize kW 310000 = z at *
  refine ⟨?_, ?_, ?_⟩
  · apply int_le_of_rat
    rw [Rat.intCast_add, show ((2000000 : Int) : Rat) = 2000000 from rfl]
    grind
  · apply int_le_of_rat
    rw [Rat.intCast_sub, show ((2000000 : Int) : Rat) = 2000000 from rfl]
    grind
  · apply int_lt_of_rat
    rw [Rat.intCast_sub, show ((1000000 : Int) : Rat) = 1000000 from rfl]
    grind
end Go.Proofs.YtdifeoahaegjbaaGreatDoor
