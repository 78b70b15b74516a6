/- Merged by wip/tools/pack.py out of XNarP, XPhP, XPhD, XPhQ, XPhL. -/
import Derived.ProofKit
import Derived.Test.YtcopmgnfakjdhaaGreatDoorYMoons
import Derived.Test.YtcopmgnfakjdhaaGreatDoorYReals
/- series.Narrow in plain words: what it computes, and where the result lies. Nothing of the program. -/
namespace Go.Proofs.YtcopmgnfakjdhaaGreatDoor
set_option linter.unusedSimpArgs false
set_option linter.unusedVariables false
def lastF (h : Int → Bool) : Nat → Int → Int → Int
  | 0, lo, _ => lo
  | k + 1, lo, hi => if 1 < hi - lo then (if h (lo + (hi - lo).tdiv 2) then lastF h k (lo + (hi - lo).tdiv 2) hi else lastF h k lo (lo + (hi - lo).tdiv 2)) else lo
def nrwF (sd : Int → Int) (width : Int) : Nat → Int → Int → Int × Int
  | 0, lo, hi => (lo, hi)
  | k + 1, lo, hi => if width < hi - lo then
      (if sd (lo + (hi - lo).tdiv 2) = -1 then nrwF sd width k (lo + (hi - lo).tdiv 2) hi
       else if sd (lo + (hi - lo).tdiv 2) = 1 then nrwF sd width k lo (lo + (hi - lo).tdiv 2)
       else (lastF (fun x => decide (sd x = -1)) 64 lo (lo + (hi - lo).tdiv 2), -lastF (fun x => decide (sd (-x) = 1)) 64 (-hi) (-(lo + (hi - lo).tdiv 2))))
      else (lo, hi)
theorem half_of {a : Int} (h : 0 ≤ a) : a.tdiv 2 = a / 2 := Int.tdiv_eq_ediv_of_nonneg h
theorem lastF_step (h : Int → Bool) (k : Nat) (lo hi : Int) : lastF h (k + 1) lo hi = if 1 < hi - lo then (if h (lo + (hi - lo).tdiv 2) then lastF h k (lo + (hi - lo).tdiv 2) hi else lastF h k lo (lo + (hi - lo).tdiv 2)) else lo := rfl
theorem lastF_end (h : Int → Bool) : ∀ (k : Nat) (lo hi : Int), hi - lo ≤ 1 → lastF h k lo hi = lo
  | 0, _, _, _ => rfl
  | k + 1, lo, hi, e => by unfold lastF; rw [if_neg (by omega)]
structure LastIn (h : Int → Bool) (lo hi r : Int) : Prop where
  a : lo ≤ r
  b : r < hi
  c : r = lo ∨ h r = true
  d : r + 1 = hi ∨ h (r + 1) = false
theorem lastF_in (h : Int → Bool) : ∀ (k : Nat) (lo hi : Int), lo < hi → hi - lo ≤ ((2 ^ k : Nat) : Int) → LastIn h lo hi (lastF h k lo hi) := by
  suffices H : ∀ (k : Nat) (l0 h0 lo hi : Int), l0 ≤ lo → hi ≤ h0 → lo < hi → hi - lo ≤ ((2 ^ k : Nat) : Int) → (lo = l0 ∨ h lo = true) → (hi = h0 ∨ h hi = false) → LastIn h l0 h0 (lastF h k lo hi) from
    fun k lo hi l e => H k lo hi lo hi (Int.le_refl _) (Int.le_refl _) l e (.inl rfl) (.inl rfl)
  intro k
  induction k with
  | zero =>
    intro l0 h0 lo hi a b l e c d
    have e' : hi - lo ≤ 1 := by simpa using e
    have : hi = lo + 1 := by omega
    exact ⟨a, by show lo < h0; omega, c, by show lo + 1 = h0 ∨ h (lo + 1) = false; rw [← this]; exact d⟩
  | succ k ih =>
    intro l0 h0 lo hi a b l e c d
    have e2 : ((2 ^ (k + 1) : Nat) : Int) = 2 * ((2 ^ k : Nat) : Int) := by rw [Nat.pow_succ]; omega
    rw [e2] at e
    rw [lastF_step]
    by_cases g : 1 < hi - lo
    · rw [if_pos g]
      have m := half_of (a := hi - lo) (by omega)
      rw [m]
      by_cases q : h (lo + (hi - lo) / 2) = true
      · rw [if_pos q]
        exact ih l0 h0 _ hi (by omega) b (by omega) (by omega) (.inr q) d
      · rw [if_neg q]
        exact ih l0 h0 lo _ a (by omega) (by omega) (by omega) c (.inr (by simpa using q))
    · rw [if_neg g]
      have : hi = lo + 1 := by omega
      exact ⟨a, by omega, c, by rw [← this]; exact d⟩
structure Cross (sd : Int → Int) (lo hi c D : Int) : Prop where
  a : ∀ x, lo ≤ x → x ≤ hi → sd x = -1 → x < c
  b : ∀ x, lo ≤ x → x ≤ hi → sd x = 1 → c ≤ x
  a' : ∀ x, lo ≤ x → x ≤ hi → x ≤ c - D → sd x = -1
  b' : ∀ x, lo ≤ x → x ≤ hi → c + D ≤ x → sd x = 1
structure NrwIn (sd : Int → Int) (lo hi c D width : Int) (r : Int × Int) : Prop where
  a : lo ≤ r.1
  b : r.1 < c
  c : c ≤ r.2
  d : r.2 ≤ hi
  w : r.2 - r.1 ≤ width ∨ r.2 - r.1 ≤ 2 * D
  l : r.1 = lo ∨ sd r.1 = -1
  h : r.2 = hi ∨ sd r.2 = 1
theorem nrwF_step (sd : Int → Int) (width : Int) (k : Nat) (lo hi : Int) : nrwF sd width (k + 1) lo hi = if width < hi - lo then
      (if sd (lo + (hi - lo).tdiv 2) = -1 then nrwF sd width k (lo + (hi - lo).tdiv 2) hi
       else if sd (lo + (hi - lo).tdiv 2) = 1 then nrwF sd width k lo (lo + (hi - lo).tdiv 2)
       else (lastF (fun x => decide (sd x = -1)) 64 lo (lo + (hi - lo).tdiv 2), -lastF (fun x => decide (sd (-x) = 1)) 64 (-hi) (-(lo + (hi - lo).tdiv 2))))
      else (lo, hi) := rfl
theorem nrwF_in {sd : Int → Int} {lo hi c D width : Int} (C : Cross sd lo hi c D) (hD : 0 ≤ D) (hw : 1 ≤ width) (hl : lo < c) (hh : c ≤ hi) (hb : hi - lo ≤ 1000000000000000000) : ∀ (k : Nat), hi - lo ≤ ((2 ^ k : Nat) : Int) → NrwIn sd lo hi c D width (nrwF sd width k lo hi) := by
  suffices H : ∀ (k : Nat) (l h : Int), lo ≤ l → h ≤ hi → l < c → c ≤ h → h - l ≤ ((2 ^ k : Nat) : Int) → (l = lo ∨ sd l = -1) → (h = hi ∨ sd h = 1) → NrwIn sd lo hi c D width (nrwF sd width k l h) from
    fun k e => H k lo hi (Int.le_refl _) (Int.le_refl _) hl hh e (.inl rfl) (.inl rfl)
  intro k
  induction k with
  | zero =>
    intro l h a b l1 h1 e c1 d1
    have e' : h - l ≤ 1 := by simpa using e
    exact ⟨a, l1, h1, b, .inl (by show h - l ≤ width; omega), c1, d1⟩
  | succ k ih =>
    intro l h a b l1 h1 e c1 d1
    have e2 : ((2 ^ (k + 1) : Nat) : Int) = 2 * ((2 ^ k : Nat) : Int) := by rw [Nat.pow_succ]; omega
    rw [e2] at e
    rw [nrwF_step]
    by_cases g : width < h - l
    · rw [if_pos g]
      have m := half_of (a := h - l) (by omega)
      rw [m]
      obtain ⟨mid, hm⟩ : ∃ mid, mid = l + (h - l) / 2 := ⟨_, rfl⟩
      rw [← hm]
      have m1 : l < mid := by omega
      have m2 : mid < h := by omega
      by_cases q : sd mid = -1
      · rw [if_pos q]
        exact ih mid h (by omega) b (C.a mid (by omega) (by omega) q) h1 (by omega) (.inr q) d1
      · rw [if_neg q]
        by_cases r : sd mid = 1
        · rw [if_pos r]
          exact ih l mid a (by omega) l1 (C.b mid (by omega) (by omega) r) (by omega) c1 (.inr r)
        · rw [if_neg r]
          have p64 : (1000000000000000000 : Int) ≤ ((2 ^ 64 : Nat) : Int) := by decide
          obtain ⟨a1, a2, a3, a4⟩ := lastF_in (fun x => decide (sd x = -1)) 64 l mid m1 (by omega)
          obtain ⟨b1, b2, b3, b4⟩ := lastF_in (fun x => decide (sd (-x) = 1)) 64 (-h) (-mid) (by omega) (by omega)
          generalize lastF (fun x => decide (sd x = -1)) 64 l mid = u at *
          generalize lastF (fun x => decide (sd (-x) = 1)) 64 (-h) (-mid) = v at *
          have u3 : u = lo ∨ sd u = -1 := by
            rcases a3 with a3 | a3
            · rw [a3]; exact c1
            · right; exact of_decide_eq_true a3
          have u4 : sd (u + 1) ≠ -1 := by
            rcases a4 with a4 | a4
            · rw [a4]; exact q
            · exact of_decide_eq_false a4
          have v3 : -v = hi ∨ sd (-v) = 1 := by
            rcases b3 with b3 | b3
            · rw [b3, Int.neg_neg]; exact d1
            · right; exact of_decide_eq_true b3
          have v4 : sd (-v - 1) ≠ 1 := by
            rcases b4 with b4 | b4
            · rw [show -v - 1 = mid by omega]; exact r
            · have := of_decide_eq_false b4
              rwa [show -(v + 1) = -v - 1 by omega] at this
          have uc : u < c := by
            rcases u3 with e | e
            · omega
            · exact C.a u (by omega) (by omega) e
          have vc : c ≤ -v := by
            rcases v3 with e | e
            · omega
            · exact C.b (-v) (by omega) (by omega) e
          have ud : c - D < u + 1 := Int.not_le.1 fun x => u4 (C.a' _ (by omega) (by omega) x)
          have vd : -v - 1 < c + D := Int.not_le.1 fun x => v4 (C.b' _ (by omega) (by omega) x)
          exact ⟨by show lo ≤ u; omega, uc, vc, by show -v ≤ hi; omega, .inr (by show -v - u ≤ 2 * D; omega), u3, v3⟩
    · rw [if_neg g]
      exact ⟨a, l1, h1, b, .inl (by show h - l ≤ width; omega), c1, d1⟩
theorem nrwF_end (sd : Int → Int) (width : Int) : ∀ (k : Nat) (lo hi : Int), ¬ width < hi - lo → nrwF sd width k lo hi = (lo, hi)
  | 0, _, _, _ => rfl
  | k + 1, lo, hi, e => by rw [nrwF_step, if_neg e]
def sideF (lo hi target : Int) : Int := if (lo - target) % 1000000000 = 0 ∨ 1000000000 ≤ (lo - target) % 1000000000 + (hi - lo) then 0
  else if (lo - target) % 1000000000 ≤ 500000000 ∧ 500000000 ≤ (lo - target) % 1000000000 + (hi - lo) then 2
  else if (lo - target) % 1000000000 < 500000000 then 1 else -1
end Go.Proofs.YtcopmgnfakjdhaaGreatDoor
/- The phases of the moon, plain: the true elongation at and around the mean times of phases. -/
namespace Go.Proofs.YtcopmgnfakjdhaaGreatDoor
set_option linter.unusedSimpArgs false
set_option linter.unusedVariables false
theorem el_move (t : Rat) {d : Rat} (hd : 0 ≤ d) : 27800000 * (d / 86400000) - 1 / 100000000 ≤ elT (t + d) - elT t ∧ elT (t + d) - elT t ≤ 39900000 * (d / 86400000) + 1 / 100000000 := by
  have m := anT_move (mean := 392048814) (rate := 36601101305556) moonL_in.tm t hd
  have s := anT_move (mean := 775342092) (rate := 2737909333333) sun_in.tm t hd
  rw [sl_moon] at m
  rw [sl_sun] at s
  have q := qq_b9
  unfold elT moonT sunT
  unfold Near ra at *
  rw [show ((36601101305556 : Int) : Rat) = 36601101305556 from rfl, show ((6 : Nat) : Rat) = 6 from rfl] at m
  rw [show ((2737909333333 : Int) : Rat) = 2737909333333 from rfl, show ((2 : Nat) : Rat) = 2 from rfl] at s
  have q1 := Rat.mul_le_mul_of_nonneg_right q.2 (show 0 ≤ d / 86400000000000 by grind)
  have e1 : 8 * qq * (936885529393895316817 * (d / 86400000000000) / 1000000000) = 936885529393895316817 * 8 / 1000000000 * (qq * (d / 86400000000000)) := by grind
  have e2 : 8 * qq * (14864525005099857516 * (d / 86400000000000) / 1000000000) = 14864525005099857516 * 8 / 1000000000 * (qq * (d / 86400000000000)) := by grind
  rw [e1] at m
  rw [e2] at s
  generalize anT 392048814 36601101305556 moonLZ 6 (t + d) = x1 at *
  generalize anT 392048814 36601101305556 moonLZ 6 t = x2 at *
  generalize anT 775342092 2737909333333 sunZ 2 (t + d) = x3 at *
  generalize anT 775342092 2737909333333 sunZ 2 t = x4 at *
  generalize qq * (d / 86400000000000) = z at *
  clear e1 e2 q
  constructor <;> grind
theorem svM_bd (t : Rat) : -24300000 ≤ svT moonLZ 6 t ∧ svT moonLZ 6 t ≤ 24300000 := by
  have e : svT moonLZ 6 t = 0 + tmV moonLZ t 0 + tmV moonLZ t 1 + tmV moonLZ t 2 + tmV moonLZ t 3 + tmV moonLZ t 4 + tmV moonLZ t 5 := rfl
  have t0 : tmV moonLZ t 0 = 17468817 * SA (phT 99384016 36291647083333 t) := rfl
  have t1 : tmV moonLZ t 1 = 3538964 * SA (phT 134030564 31434736861111 t) := rfl
  have t2 : tmV moonLZ t 2 = 1828650 * SA (phT 233414580 67726383944444 t) := rfl
  have t3 : tmV moonLZ t 3 = 593383 * SA (phT 198768032 72583294166666 t) := rfl
  have t4 : tmV moonLZ t 4 = -514211 * SA (phT 84888545 2737778555556 t) := rfl
  have t5 : tmV moonLZ t 5 = -317589 * SA (phT 297001062 73496390222222 t) := rfl
  rw [e, t0, t1, t2, t3, t4, t5]
  have b0 := SA_le (phT 99384016 36291647083333 t); have b1 := SA_le (phT 134030564 31434736861111 t); have b2 := SA_le (phT 233414580 67726383944444 t)
  have b3 := SA_le (phT 198768032 72583294166666 t); have b4 := SA_le (phT 84888545 2737778555556 t); have b5 := SA_le (phT 297001062 73496390222222 t)
  clear e t0 t1 t2 t3 t4 t5
  unfold ep at *
  generalize SA (phT 99384016 36291647083333 t) = x0 at *
  generalize SA (phT 134030564 31434736861111 t) = x1 at *
  generalize SA (phT 233414580 67726383944444 t) = x2 at *
  generalize SA (phT 198768032 72583294166666 t) = x3 at *
  generalize SA (phT 84888545 2737778555556 t) = x4 at *
  generalize SA (phT 297001062 73496390222222 t) = x5 at *
  constructor <;> grind
theorem svS_bd (t : Rat) : -5400000 ≤ svT sunZ 2 t ∧ svT sunZ 2 t ≤ 5400000 := by
  have e : svT sunZ 2 t = 0 + tmV sunZ t 0 + tmV sunZ t 1 := rfl
  have t0 : tmV sunZ t 0 = 5318339 * SA (phT 84888545 2737778555556 t) := rfl
  have t1 : tmV sunZ t 1 = 55536 * SA (phT 169777090 5475557111112 t) := rfl
  rw [e, t0, t1]
  have b0 := SA_le (phT 84888545 2737778555556 t); have b1 := SA_le (phT 169777090 5475557111112 t)
  clear e t0 t1
  unfold ep at *
  generalize SA (phT 84888545 2737778555556 t) = x0 at *
  generalize SA (phT 169777090 5475557111112 t) = x1 at *
  constructor <;> grind
def phM (k q : Int) : Int := 977949455 + 2551442878 * k + 637860719 * q
theorem el_mid {k q : Int} (k0 : -100002 ≤ k) (k1 : k ≤ 100002) (q0 : 0 ≤ q) (q1 : q ≤ 3) : -29725000 ≤ elT (phM k q : Rat) - (250000000 * (q : Rat) + 1000000000 * (k : Rat)) ∧ elT (phM k q : Rat) - (250000000 * (q : Rat) + 1000000000 * (k : Rat)) ≤ 29725000 := by
  have m := svM_bd (phM k q : Rat); have s := svS_bd (phM k q : Rat)
  have ek : elT (phM k q : Rat) = phT 392048814 36601101305556 (phM k q : Rat) + svT moonLZ 6 (phM k q : Rat) - (phT 775342092 2737909333333 (phM k q : Rat) + svT sunZ 2 (phM k q : Rat)) := rfl
  rw [ek]
  have ep' : (phM k q : Rat) = 977949455 + 2551442878 * (k : Rat) + 637860719 * (q : Rat) := by
    unfold phM
    rw [Rat.intCast_add, Rat.intCast_add, Rat.intCast_mul, Rat.intCast_mul, show ((977949455 : Int) : Rat) = 977949455 from rfl, show ((2551442878 : Int) : Rat) = 2551442878 from rfl, show ((637860719 : Int) : Rat) = 637860719 from rfl]
  obtain ⟨a1, a2⟩ := int_bd k0 k1
  obtain ⟨b1, b2⟩ := int_bd q0 q1
  rw [show ((-100002 : Int) : Rat) = -100002 from rfl] at a1
  rw [show ((100002 : Int) : Rat) = 100002 from rfl] at a2
  rw [show ((0 : Int) : Rat) = 0 from rfl] at b1
  rw [show ((3 : Int) : Rat) = 3 from rfl] at b2
  unfold phT
  generalize svT moonLZ 6 (phM k q : Rat) = u at *
  generalize svT sunZ 2 (phM k q : Rat) = v at *
  rw [ep', show ((392048814 : Int) : Rat) = 392048814 from rfl, show ((36601101305556 : Int) : Rat) = 36601101305556 from rfl, show ((775342092 : Int) : Rat) = 775342092 from rfl, show ((2737909333333 : Int) : Rat) = 2737909333333 from rfl]
  clear ek ep'
  generalize (k : Rat) = kk at *
  generalize (q : Rat) = qr at *
  constructor <;> grind
theorem passes {P : Int → Prop} {lo hi : Int} (h : lo < hi) (h0 : ¬ P lo) (h1 : P hi) : ∃ c, lo < c ∧ c ≤ hi ∧ ¬ P (c - 1) ∧ P c := by
  obtain ⟨n, hn⟩ : ∃ n : Nat, hi = lo + (n : Int) := ⟨(hi - lo).toNat, by omega⟩
  subst hn
  induction n with
  | zero => exact absurd h (by omega)
  | succ n ih =>
    by_cases c : P (lo + (n : Int))
    · by_cases n0 : n = 0
      · subst n0
        rw [show lo + ((0 : Nat) : Int) = lo by omega] at c
        exact absurd c h0
      · obtain ⟨c', a1, a2, a3, a4⟩ := ih (by omega) c
        exact ⟨c', a1, by omega, a3, a4⟩
    · exact ⟨lo + ((n + 1 : Nat) : Int), by omega, Int.le_refl _, by rw [show lo + ((n + 1 : Nat) : Int) - 1 = lo + (n : Int) by omega]; exact c, h1⟩
theorem side_at {lo hi tg N : Int} {X r s : Rat} {tq : Rat} (h : AngW lo hi X r s) (htq : tq = (tg : Rat) + 1000000000 * (N : Rat)) (r0 : 0 ≤ r) (s0 : 0 ≤ s) (rs : r + s ≤ 100000) (b1 : -200000000 ≤ X - tq) (b2 : X - tq ≤ 200000000) :
    (sideF lo hi tg = 1 → tq < X) ∧ (sideF lo hi tg = -1 → X < tq) ∧ (tq + (r + s) < X → sideF lo hi tg = 1) ∧ (X < tq - (r + s) → sideF lo hi tg = -1) := by
  obtain ⟨k, a1, a2, a3, a4⟩ := h
  obtain ⟨l, hl⟩ : ∃ l : Int, l = lo - tg + 1000000000 * (k - N) := ⟨_, rfl⟩
  obtain ⟨u, hu⟩ : ∃ u : Int, u = hi - tg + 1000000000 * (k - N) := ⟨_, rfl⟩
  have el : (l : Rat) = (lo : Rat) + 1000000000 * (k : Rat) - tq := by
    rw [hl, htq, Rat.intCast_add, Rat.intCast_sub, Rat.intCast_mul, Rat.intCast_sub, show ((1000000000 : Int) : Rat) = 1000000000 from rfl]; grind
  have eu : (u : Rat) = (hi : Rat) + 1000000000 * (k : Rat) - tq := by
    rw [hu, htq, Rat.intCast_add, Rat.intCast_sub, Rat.intCast_mul, Rat.intCast_sub, show ((1000000000 : Int) : Rat) = 1000000000 from rfl]; grind
  have l1 : -200100000 ≤ l := by apply int_le_of_rat; rw [show ((-200100000 : Int) : Rat) = -200100000 from rfl]; grind
  have l2 : u ≤ 200100000 := by apply int_le_of_rat; rw [show ((200100000 : Int) : Rat) = 200100000 from rfl]; grind
  have lu : l ≤ u := by apply int_le_of_rat; grind
  have S : sideF lo hi tg = if 0 < l then 1 else if u < 0 then -1 else 0 := by
    unfold sideF
    have e1 : (lo - tg) % 1000000000 = l % 1000000000 := by omega
    have e2 : hi - lo = u - l := by omega
    rw [e1, e2]
    by_cases c1 : 0 < l
    · have : l % 1000000000 = l := by omega
      rw [this, if_pos c1, if_neg (by omega), if_neg (by omega), if_pos (by omega)]
    · rw [if_neg c1]
      by_cases c2 : u < 0
      · have : l % 1000000000 = l + 1000000000 := by omega
        rw [this, if_pos c2, if_neg (by omega), if_neg (by omega), if_neg (by omega)]
      · rw [if_neg c2]
        by_cases c3 : l = 0
        · rw [if_pos (by left; omega)]
        · have : l % 1000000000 = l + 1000000000 := by omega
          rw [this, if_pos (by right; omega)]
  rw [S]
  refine ⟨fun h => ?_, fun h => ?_, fun h => ?_, fun h => ?_⟩
  · by_cases c1 : 0 < l
    · have := Rat.intCast_lt_intCast.2 c1
      rw [show ((0 : Int) : Rat) = 0 from rfl] at this
      grind
    · rw [if_neg c1] at h
      split at h <;> omega
  · by_cases c1 : 0 < l
    · rw [if_pos c1] at h; omega
    · rw [if_neg c1] at h
      by_cases c2 : u < 0
      · have := Rat.intCast_lt_intCast.2 c2
        rw [show ((0 : Int) : Rat) = 0 from rfl] at this
        grind
      · rw [if_neg c2] at h; omega
  · rw [if_pos]
    apply int_lt_of_rat
    rw [show ((0 : Int) : Rat) = 0 from rfl]
    grind
  · have c2 : u < 0 := by
      apply int_lt_of_rat
      rw [show ((0 : Int) : Rat) = 0 from rfl]
      grind
    rw [if_neg (by omega), if_pos c2]
def phSd (q : Int) (x : Int) : Int := sideF (elLo x) (elHi x) (250000000 * q)
theorem el_lt {x y : Int} (h : x < y) : elT (x : Rat) + 3217 / 10000 * ((y : Rat) - (x : Rat)) - 1 / 100000000 ≤ elT (y : Rat) := by
  have h' := Rat.intCast_lt_intCast.2 h
  have m := el_move (x : Rat) (d := (y : Rat) - (x : Rat)) (by grind)
  rw [show (x : Rat) + ((y : Rat) - (x : Rat)) = (y : Rat) by grind] at m
  generalize elT (y : Rat) = a at *
  generalize elT (x : Rat) = b at *
  grind
theorem int_sub1 {x y : Int} (h : x < y) : 1 ≤ (y : Rat) - (x : Rat) := by
  have := Rat.intCast_le_intCast.2 (show x + 1 ≤ y by omega)
  rw [Rat.intCast_add, show ((1 : Int) : Rat) = 1 from rfl] at this
  grind
structure PhCross (k q c : Int) : Prop where
  lo : phM k q - 172800000 < c
  hi : c ≤ phM k q + 172800000
  b : elT ((c - 1 : Int) : Rat) < 250000000 * (q : Rat) + 1000000000 * (k : Rat)
  a : 250000000 * (q : Rat) + 1000000000 * (k : Rat) ≤ elT (c : Rat)
  cr : Cross (phSd q) (phM k q - 172800000) (phM k q + 172800000) c 70500
theorem ph_cross {k q : Int} (k0 : -100002 ≤ k) (k1 : k ≤ 100002) (q0 : 0 ≤ q) (q1 : q ≤ 3) : ∃ c, PhCross k q c := by
  have em := el_mid k0 k1 q0 q1
  obtain ⟨tq, htq⟩ : ∃ tq, tq = 250000000 * (q : Rat) + 1000000000 * (k : Rat) := ⟨_, rfl⟩
  obtain ⟨m, hm⟩ : ∃ m, m = phM k q := ⟨_, rfl⟩
  rw [← htq, ← hm] at em
  have lo1 := el_lt (x := m - 172800000) (y := m) (by omega)
  have hi1 := el_lt (x := m) (y := m + 172800000) (by omega)
  have clo : ((m - 172800000 : Int) : Rat) = (m : Rat) - 172800000 := by rw [Rat.intCast_sub]; rfl
  have chi : ((m + 172800000 : Int) : Rat) = (m : Rat) + 172800000 := by rw [Rat.intCast_add]; rfl
  rw [clo] at lo1
  rw [chi] at hi1
  obtain ⟨c, c1, c2, c3, c4⟩ := passes (P := fun x : Int => tq ≤ elT (x : Rat)) (lo := m - 172800000) (hi := m + 172800000) (by omega) (by rw [clo]; generalize elT ((m : Rat) - 172800000) = z at *; generalize elT (m : Rat) = z2 at *; clear hi1; grind) (by rw [chi]; generalize elT ((m : Rat) + 172800000) = z at *; generalize elT (m : Rat) = z2 at *; clear lo1; grind)
  have c3' : elT ((c - 1 : Int) : Rat) < tq := Rat.not_le.1 c3
  have cc : ((c - 1 : Int) : Rat) = (c : Rat) - 1 := by rw [Rat.intCast_sub]; rfl
  clear c3 lo1 hi1
  have tgq : tq = ((250000000 * q : Int) : Rat) + 1000000000 * (k : Rat) := by rw [htq, Rat.intCast_mul]; rfl
  have S : ∀ x : Int, m - 172800000 ≤ x → x ≤ m + 172800000 → (phSd q x = 1 → tq < elT (x : Rat)) ∧ (phSd q x = -1 → elT (x : Rat) < tq) ∧ (tq + (22000 + 4006 / 1000) < elT (x : Rat) → phSd q x = 1) ∧ (elT (x : Rat) < tq - (22000 + 4006 / 1000) → phSd q x = -1) := fun x h1 h2 => by
    have h1' := Rat.intCast_le_intCast.2 h1
    have h2' := Rat.intCast_le_intCast.2 h2
    rw [clo] at h1'
    rw [chi] at h2'
    have bd : -200000000 ≤ elT (x : Rat) - tq ∧ elT (x : Rat) - tq ≤ 200000000 := by
      by_cases c : m ≤ x
      · have c' := Rat.intCast_le_intCast.2 c
        have mv := el_move (m : Rat) (d := (x : Rat) - (m : Rat)) (by grind)
        rw [show (m : Rat) + ((x : Rat) - (m : Rat)) = (x : Rat) by grind] at mv
        clear c3' c4
        generalize elT (x : Rat) = a at *
        generalize elT (m : Rat) = b at *
        constructor <;> grind
      · have c' := Rat.intCast_le_intCast.2 (show x ≤ m by omega)
        have mv := el_move (x : Rat) (d := (m : Rat) - (x : Rat)) (by grind)
        rw [show (x : Rat) + ((m : Rat) - (x : Rat)) = (m : Rat) by grind] at mv
        clear c3' c4
        generalize elT (x : Rat) = a at *
        generalize elT (m : Rat) = b at *
        constructor <;> grind
    exact side_at (el_at x) tgq (by grind) (by grind) (by grind) bd.1 bd.2
  refine ⟨c, by rw [← hm]; omega, by rw [← hm]; omega, by rw [← htq]; exact c3', by rw [← htq]; exact c4, ?_⟩
  rw [← hm]
  refine ⟨fun x h1 h2 e => ?_, fun x h1 h2 e => ?_, fun x h1 h2 e => ?_, fun x h1 h2 e => ?_⟩
  · have s := (S x h1 h2).2.1 e
    apply Int.not_le.1
    intro l
    rcases Int.lt_or_eq_of_le l with l | l
    · have g := el_lt l
      have d := int_sub1 l
      clear S em cc
      generalize elT (x : Rat) = a at *
      generalize elT (c : Rat) = b at *
      grind
    · rw [← l] at s
      grind
  · have s := (S x h1 h2).1 e
    apply Int.not_lt.1
    intro l
    rcases Int.lt_or_eq_of_le (show x ≤ c - 1 by omega) with l | l
    · have g := el_lt l
      have d := int_sub1 l
      clear S em cc
      generalize elT (x : Rat) = a at *
      generalize elT ((c - 1 : Int) : Rat) = b at *
      grind
    · rw [l] at s
      grind
  · apply (S x h1 h2).2.2.2
    have g := el_lt (show x < c - 1 by omega)
    have e' := Rat.intCast_le_intCast.2 e
    rw [Rat.intCast_sub, show ((70500 : Int) : Rat) = 70500 from rfl] at e'
    clear S em
    rw [cc] at g c3'
    generalize elT (x : Rat) = a at *
    generalize elT ((c : Rat) - 1) = b at *
    grind
  · apply (S x h1 h2).2.2.1
    have g := el_lt (show c < x by omega)
    have e' := Rat.intCast_le_intCast.2 e
    rw [Rat.intCast_add, show ((70500 : Int) : Rat) = 70500 from rfl] at e'
    clear S em
    generalize elT (x : Rat) = a at *
    generalize elT (c : Rat) = b at *
    grind
def phF (k q : Int) : Int × Int := nrwF (phSd q) 600000 64 (phM k q - 172800000) (phM k q + 172800000)
structure PhIn (k q c : Int) : Prop where
  x : PhCross k q c
  a : phM k q - 172800000 ≤ (phF k q).1
  b : (phF k q).1 < c
  c : c ≤ (phF k q).2
  d : (phF k q).2 ≤ phM k q + 172800000
  w : (phF k q).2 - (phF k q).1 ≤ 600000
theorem ph_in {k q : Int} (k0 : -100002 ≤ k) (k1 : k ≤ 100002) (q0 : 0 ≤ q) (q1 : q ≤ 3) : ∃ c, PhIn k q c := by
  obtain ⟨c, C⟩ := ph_cross k0 k1 q0 q1
  have p64 : (1000000000000000000 : Int) ≤ ((2 ^ 64 : Nat) : Int) := by decide
  have N := nrwF_in C.cr (width := 600000) (by omega) (by omega) C.lo C.hi (by omega) 64 (by omega)
  exact ⟨c, C, N.a, N.b, N.c, N.d, by have := N.w; show (nrwF (phSd q) 600000 64 (phM k q - 172800000) (phM k q + 172800000)).2 - (nrwF (phSd q) 600000 64 (phM k q - 172800000) (phM k q + 172800000)).1 ≤ 600000; omega⟩
end Go.Proofs.YtcopmgnfakjdhaaGreatDoor
/- How far the true elongation moves over some times (printed by wip/tools/gen-ph.py). Plain. -/
namespace Go.Proofs.YtcopmgnfakjdhaaGreatDoor
set_option linter.unusedSimpArgs false
set_option linter.unusedVariables false
end Go.Proofs.YtcopmgnfakjdhaaGreatDoor
/- How far apart phases are, plain. -/
namespace Go.Proofs.YtcopmgnfakjdhaaGreatDoor
set_option linter.unusedSimpArgs false
set_option linter.unusedVariables false
theorem PhCross.at' {k q c : Int} (h : PhCross k q c) : elT (c : Rat) ≤ 250000000 * (q : Rat) + 1000000000 * (k : Rat) + 1 := by
  have b := h.b
  have m := (el_move ((c - 1 : Int) : Rat) (d := 1) (by grind)).2
  rw [show ((c - 1 : Int) : Rat) + 1 = (c : Rat) by rw [Rat.intCast_sub]; show (c : Rat) - 1 + 1 = _; grind] at m
  generalize elT ((c - 1 : Int) : Rat) = u at *
  generalize elT (c : Rat) = v at *
  grind
end Go.Proofs.YtcopmgnfakjdhaaGreatDoor
/- How much of the moon is lit at a phase, plain. -/
namespace Go.Proofs.YtcopmgnfakjdhaaGreatDoor
set_option linter.unusedSimpArgs false
set_option linter.unusedVariables false
end Go.Proofs.YtcopmgnfakjdhaaGreatDoor
