/- Merged by wip/tools/pack.py out of XFl, XFlSin, XFlOct, XSinAcc, XTrigP, XFlDiv, XFlAtan, XFlSign, XFlSqrt. -/
import Derived.Laws.FloatArith
/- Floats: what the operations give, and how far they err. Plain: no program. -/
set_option linter.unusedSimpArgs false
set_option linter.unusedVariables false
namespace Go.Proofs.YtdifeoahaegjbaaGreatDoor
open Ieee

theorem one_shl (k : Nat) : 1 <<< k = 2 ^ k := by rw [Nat.shiftLeft_eq, Nat.one_mul]
theorem lt_log2 (n : Nat) : n < 2 ^ (n.log2 + 1) := Nat.lt_log2_self
theorem cut_even_nat (neg : Bool) (n drop : Nat) :
    2 * n ≤ 2 * (Toward.even.cut neg n drop * 2 ^ drop) + 2 ^ drop ∧ 2 * (Toward.even.cut neg n drop * 2 ^ drop) ≤ 2 * n + 2 ^ drop := by
  unfold Toward.cut
  rw [one_shl]
  by_cases h : drop ≤ n.log2 + 2
  · rw [Nat.min_eq_left h]
    dsimp only
    have hg : 0 < 2 ^ drop := Nat.two_pow_pos drop
    generalize 2 ^ drop = g at hg ⊢
    have h1 := Nat.div_add_mod n g
    have h2 := Nat.mod_lt n hg
    generalize n / g = low at h1 ⊢
    generalize n % g = rest at h1 h2 ⊢
    have e : (low + 1) * g = g * low + g := by rw [Nat.add_mul, Nat.mul_comm]; omega
    have e2 : low * g = g * low := Nat.mul_comm _ _
    by_cases c1 : g < 2 * rest
    · simp [c1]
      rw [e]; omega
    · by_cases c2 : g = 2 * rest ∧ low % 2 = 1
      · have c3 := c2.1
        simp [c2]
        rw [← c3, e]
        omega
      · have : (decide (g < 2 * rest) || (g == 2 * rest && low % 2 == 1)) = false := by
          simp [c1]
          intro h3
          have h4 : ¬ rest * 0 + low % 2 = 1 := fun h => c2 ⟨h3, by omega⟩
          omega
        rw [this]
        simp only [Bool.toNat_false, Nat.add_zero]
        rw [e2]; omega
  · rw [Nat.min_eq_right (by omega)]
    dsimp only
    have h0 := lt_log2 n
    have e : 2 ^ (n.log2 + 2) = 2 * 2 ^ (n.log2 + 1) := by rw [Nat.pow_succ]; omega
    have h1 : n / 2 ^ (n.log2 + 2) = 0 := Nat.div_eq_of_lt (by omega)
    have h2 : n % 2 ^ (n.log2 + 2) = n := Nat.mod_eq_of_lt (by omega)
    rw [h1, h2]
    have h3 : (decide (2 ^ (n.log2 + 2) < 2 * n) || (2 ^ (n.log2 + 2) == 2 * n && 0 % 2 == 1)) = false := by
      have : ¬ 2 ^ (n.log2 + 2) < 2 * n := by omega
      simp [this]
    rw [h3]
    have h4 : 2 ^ (n.log2 + 2) ≤ 2 ^ drop := Nat.pow_le_pow_right (by omega) (by omega)
    simp
    omega

theorem shl_eq (m k : Nat) : m <<< k = m * 2 ^ k := Nat.shiftLeft_eq m k

/-- What 'nearest' gives: a last place and what is kept. -/
theorem nearest_spec (neg : Bool) (mag : Nat) (place : Int) (hm : mag ≠ 0) : ∃ L kept : Nat,
    double.nearest neg mag place = double.word neg (min (L * 2 ^ 52 + kept) double.infRung) ∧ kept ≤ 2 ^ 53 ∧ (L = 0 ∨ 2 ^ 52 ≤ kept) ∧
    (∃ n drop : Nat, kept = Toward.even.cut neg n drop ∧ ((drop = 0 ∧ n = mag * 2 ^ (place - ((L : Int) - 1074)).toNat ∧ (L : Int) - 1074 ≤ place) ∨ (n = mag ∧ (drop : Int) = (L : Int) - 1074 - place))) ∧
    (L = 0 ∨ (L : Int) - 1074 = place + mag.log2 - 52) := by
  obtain ⟨last, hlast⟩ : ∃ last : Int, last = max (place + mag.log2 - 52) (-1074) := ⟨_, rfl⟩
  have hL0 : -1074 ≤ last := by omega
  obtain ⟨L, hL⟩ : ∃ L : Nat, (L : Int) = last + 1074 := ⟨(last + 1074).toNat, by omega⟩
  have hl : double.leastPlace = -1074 := by decide
  have hb : double.binade = 2 ^ 52 := rfl
  have hf : double.fractionBits = 52 := rfl
  refine ⟨L, Toward.even.cut neg (mag <<< (place - last).toNat) (last - place).toNat, ?_, ?_, ?_, ⟨_, _, rfl, ?_⟩, ?_⟩
  · unfold Format.nearest
    rw [if_neg hm]
    dsimp only
    rw [hl, hb, hf]
    have e : max (place + (mag.log2 : Int) - ((52 : Nat) : Int)) (-1074) = last := by rw [hlast]; rfl
    rw [e]
    have e2 : (last - -1074).toNat = L := by omega
    rw [e2]
  · -- kept ≤ 2^53
    have hc := (cut_even_nat neg (mag <<< (place - last).toNat) (last - place).toNat).2
    generalize Toward.even.cut neg (mag <<< (place - last).toNat) (last - place).toNat = c at hc
    rw [shl_eq] at hc
    have h0 := lt_log2 mag
    by_cases h : last ≤ place
    · have e : (last - place).toNat = 0 := by omega
      rw [e] at hc
      obtain ⟨k, hk⟩ : ∃ k, k = (place - last).toNat := ⟨_, rfl⟩
      rw [← hk] at hc
      have hk2 : mag.log2 + 1 + k ≤ 53 := by omega
      have h1 : mag * 2 ^ k < 2 ^ (mag.log2 + 1) * 2 ^ k := Nat.mul_lt_mul_of_pos_right h0 (Nat.two_pow_pos k)
      rw [← Nat.pow_add] at h1
      have h2 : 2 ^ (mag.log2 + 1 + k) ≤ 2 ^ 53 := Nat.pow_le_pow_right (by omega) hk2
      omega
    · have e : (place - last).toNat = 0 := by omega
      rw [e] at hc
      obtain ⟨k, hk⟩ : ∃ k, k = (last - place).toNat := ⟨_, rfl⟩
      rw [← hk] at hc
      have hk2 : mag.log2 + 1 ≤ 53 + k := by omega
      have h2 : 2 ^ (mag.log2 + 1) ≤ 2 ^ (53 + k) := Nat.pow_le_pow_right (by omega) hk2
      rw [Nat.pow_add 2 53 k] at h2
      have hp := Nat.two_pow_pos k
      generalize 2 ^ k = g at hc h2 hp
      rcases Nat.lt_or_ge (2 ^ 53) c with hlt | hge
      · exfalso
        have h3 : (2 ^ 53 + 1) * g ≤ c * g := Nat.mul_le_mul_right g hlt
        rw [Nat.add_mul] at h3
        omega
      · exact hge
  · -- L = 0 or 2^52 ≤ kept
    by_cases hz : last = -1074
    · left; omega
    · right
      have hc := (cut_even_nat neg (mag <<< (place - last).toNat) (last - place).toNat).1
      generalize Toward.even.cut neg (mag <<< (place - last).toNat) (last - place).toNat = c at hc
      rw [shl_eq] at hc
      have h0 := Nat.log2_self_le hm
      by_cases h : last ≤ place
      · have e : (last - place).toNat = 0 := by omega
        rw [e] at hc
        obtain ⟨k, hk⟩ : ∃ k, k = (place - last).toNat := ⟨_, rfl⟩
        rw [← hk] at hc
        have hk2 : 52 = mag.log2 + k := by omega
        have h1 : 2 ^ mag.log2 * 2 ^ k ≤ mag * 2 ^ k := Nat.mul_le_mul_right _ h0
        rw [← Nat.pow_add, ← hk2] at h1
        omega
      · have e : (place - last).toNat = 0 := by omega
        rw [e] at hc
        obtain ⟨k, hk⟩ : ∃ k, k = (last - place).toNat := ⟨_, rfl⟩
        rw [← hk] at hc
        have hk2 : mag.log2 = 52 + k := by omega
        rw [hk2, Nat.pow_add] at h0
        have hp := Nat.two_pow_pos k
        generalize 2 ^ k = g at hc h0 hp
        rcases Nat.lt_or_ge c (2 ^ 52) with hlt | hge
        · exfalso
          have h3 : (c + 1) * g ≤ 2 ^ 52 * g := Nat.mul_le_mul_right g hlt
          rw [Nat.add_mul] at h3
          omega
        · exact hge
  · by_cases h : last ≤ place
    · left
      refine ⟨by omega, ?_, by omega⟩
      rw [shl_eq]
      have e : (place - ((L : Int) - 1074)).toNat = (place - last).toNat := by omega
      rw [e]
    · right
      refine ⟨?_, by omega⟩
      have e : (place - last).toNat = 0 := by omega
      rw [e]
      rfl
  · omega
theorem two_ne : (2 : Rat) ≠ 0 := by decide
theorem p2_pos (i : Int) : (0 : Rat) < (2 : Rat) ^ i := Rat.zpow_pos (by decide)
theorem p2_add (i j : Int) : (2 : Rat) ^ (i + j) = 2 ^ i * 2 ^ j := Rat.zpow_add two_ne i j
theorem p2_nat (n : Nat) : (2 : Rat) ^ ((n : Nat) : Int) = (2 : Rat) ^ n := Rat.zpow_natCast 2 n
theorem p2_cast (n : Nat) : ((2 ^ n : Nat) : Rat) = (2 : Rat) ^ (n : Int) := by
  rw [p2_nat]; exact Rat.natCast_pow 2 n
theorem p2_one_le {i : Int} (h : 0 ≤ i) : (1 : Rat) ≤ (2 : Rat) ^ i := by
  obtain ⟨n, rfl⟩ := Int.eq_ofNat_of_zero_le h
  rw [← p2_cast]
  have : 1 ≤ 2 ^ n := Nat.one_le_two_pow
  exact_mod_cast this
theorem p2_le {i j : Int} (h : i ≤ j) : (2 : Rat) ^ i ≤ (2 : Rat) ^ j := by
  obtain ⟨k, rfl⟩ : ∃ k : Int, j = i + k := ⟨j - i, by omega⟩
  rw [p2_add]
  have h1 := p2_one_le (i := k) (by omega)
  have h2 := p2_pos i
  have := Rat.mul_le_mul_of_nonneg_left h1 (Rat.le_of_lt h2)
  grind
theorem p2_lt_iff {i j : Int} (h : (2 : Rat) ^ i < (2 : Rat) ^ j) : i < j := by
  rcases Int.lt_or_le i j with h1 | h1
  · exact h1
  · have := p2_le h1; grind

/-- What a datum stands for. -/
def sg (s : Bool) : Rat := if s then -1 else 1
def dv : Datum → Rat
  | .number s m p => sg s * ((m : Nat) : Rat) * (2 : Rat) ^ p
  | _ => 0
def fv (x : Nat) : Rat := dv (double.read x)
def Fin (x : Nat) : Prop := ∃ s m p, double.read x = .number s m p

theorem read_word (neg : Bool) (L kept : Nat) (hk : kept ≤ 2 ^ 53) (h0 : L = 0 ∨ 2 ^ 52 ≤ kept) (hL : L ≤ 2040) :
    ∃ m p, double.read (double.word neg (min (L * 2 ^ 52 + kept) double.infRung)) = .number neg m p ∧ ((m : Nat) : Rat) * (2 : Rat) ^ p = (kept : Rat) * (2 : Rat) ^ ((L : Int) - 1074) := by
  have hinf : double.infRung = 2047 * 2 ^ 52 := rfl
  have hsw : double.signWeight = 2 ^ 63 := rfl
  have hb : double.binade = 2 ^ 52 := rfl
  have hl : double.leastPlace = -1074 := by decide
  rw [Nat.min_eq_left (by rw [hinf]; omega)]
  obtain ⟨rung, hr⟩ : ∃ rung, rung = L * 2 ^ 52 + kept := ⟨_, rfl⟩
  rw [← hr]
  have hrl : rung < 2 ^ 63 := by omega
  have e1 : double.word neg rung % 2 ^ 63 = rung := by
    unfold Format.word; rw [hsw]; split <;> omega
  have e2 : (double.word neg rung / 2 ^ 63 % 2 == 1) = neg := by
    unfold Format.word; rw [hsw]
    cases neg
    · have : rung / 2 ^ 63 = 0 := Nat.div_eq_of_lt hrl
      simp [this]
    · have : (2 ^ 63 + rung) / 2 ^ 63 = 1 := by omega
      simp [this]
  unfold Format.read
  dsimp only
  rw [hsw, e1, e2, hb, hinf, hl]
  by_cases c : rung < 2 ^ 52
  · rw [if_pos c]
    refine ⟨_, _, rfl, ?_⟩
    obtain rfl : L = 0 := by omega
    have : kept = rung := by omega
    rw [this]
    rfl
  · rw [if_neg c, if_pos (by omega)]
    refine ⟨_, _, rfl, ?_⟩
    rcases Nat.lt_or_ge kept (2 ^ 53) with h53 | h53
    · by_cases h52 : 2 ^ 52 ≤ kept
      · have q1 : rung / 2 ^ 52 = L + 1 := by omega
        have q2 : 2 ^ 52 + rung % 2 ^ 52 = kept := by omega
        rw [q2, q1]
        have : (-1074 : Int) + ((L + 1 - 1 : Nat) : Int) = (L : Int) - 1074 := by omega
        rw [this]
      · omega
    · have hk53 : kept = 2 ^ 53 := by omega
      have q1 : rung / 2 ^ 52 = L + 2 := by omega
      have q2 : 2 ^ 52 + rung % 2 ^ 52 = 2 ^ 52 := by omega
      rw [q2, q1, hk53]
      have : (-1074 : Int) + ((L + 2 - 1 : Nat) : Int) = 1 + ((L : Int) - 1074) := by omega
      rw [this, p2_add, ← Rat.mul_assoc]
      congr 1
      have e1 : ((2 ^ 53 : Nat) : Rat) = 2 ^ (52 : Int) * 2 ^ (1 : Int) := by rw [p2_cast, ← p2_add]; rfl
      rw [e1, p2_cast]
      rfl

/-- a is within e of b. -/
def Near (a b e : Rat) : Prop := b - e ≤ a ∧ a ≤ b + e

theorem rat_div_mul (a b c : Rat) (hb : b ≠ 0) : a / b * (b * c) = a * c := by grind

theorem pow_pos_r (n : Nat) : (0 : Rat) < (2 : Rat) ^ n := Rat.pow_pos (by decide)

/-- The exact number is kept up to half of the last place. -/
theorem kept_near (neg : Bool) (mag : Nat) (place : Int) (L kept n drop : Nat) (hk : kept = Toward.even.cut neg n drop)
    (h : (drop = 0 ∧ n = mag * 2 ^ (place - ((L : Int) - 1074)).toNat ∧ (L : Int) - 1074 ≤ place) ∨ (n = mag ∧ (drop : Int) = (L : Int) - 1074 - place)) :
    Near ((kept : Rat) * (2 : Rat) ^ ((L : Int) - 1074)) ((mag : Rat) * (2 : Rat) ^ place) ((2 : Rat) ^ ((L : Int) - 1074) / 2) := by
  have hc := cut_even_nat neg n drop
  rw [← hk] at hc
  obtain ⟨P, hP⟩ : ∃ P : Int, P = (L : Int) - 1074 := ⟨_, rfl⟩
  rw [← hP] at h ⊢
  have hp := p2_pos P
  rcases h with ⟨rfl, hn, hle⟩ | ⟨rfl, hd⟩
  · obtain ⟨k, hk2⟩ : ∃ k : Nat, (k : Int) = place - P := ⟨(place - P).toNat, by omega⟩
    have e : (place - P).toNat = k := by omega
    rw [e] at hn
    have hkn : kept = mag * 2 ^ k := by omega
    have : place = (k : Int) + P := by omega
    rw [this, p2_add, hkn, Rat.natCast_mul, p2_cast]
    unfold Near
    constructor <;> grind
  · have : P = place + (drop : Int) := by omega
    rw [this, p2_add, p2_nat]
    have q1 : 2 * (n : Rat) ≤ 2 * ((kept : Rat) * (2 : Rat) ^ drop) + (2 : Rat) ^ drop := by
      have := hc.1
      have h2 : ((2 * n : Nat) : Rat) ≤ ((2 * (kept * 2 ^ drop) + 2 ^ drop : Nat) : Rat) := Rat.natCast_le_natCast.2 this
      push_cast at h2
      exact h2
    have q2 : 2 * ((kept : Rat) * (2 : Rat) ^ drop) ≤ 2 * (n : Rat) + (2 : Rat) ^ drop := by
      have := hc.2
      have h2 : ((2 * (kept * 2 ^ drop) : Nat) : Rat) ≤ ((2 * n + 2 ^ drop : Nat) : Rat) := Rat.natCast_le_natCast.2 this
      push_cast at h2
      exact h2
    have hq := p2_pos place
    have r1 := Rat.mul_le_mul_of_nonneg_right q1 (Rat.le_of_lt hq)
    have r2 := Rat.mul_le_mul_of_nonneg_right q2 (Rat.le_of_lt hq)
    unfold Near
    constructor <;> grind

theorem p2_neg (n : Nat) : (2 : Rat) ^ (-(n : Int)) = 1 / (2 : Rat) ^ n := by
  rw [Rat.zpow_neg, Rat.zpow_natCast]; grind
theorem v52 : (2 : Rat) ^ (52 : Int) = 4503599627370496 := by
  have := p2_cast 52
  rw [show ((52 : Nat) : Int) = 52 by rfl] at this
  rw [← this]; rfl
/-- Neither tiny nor huge. -/
def Mid (M : Rat) : Prop := (2 : Rat) ^ (-200 : Int) ≤ M ∧ M ≤ (2 : Rat) ^ (200 : Int)
theorem near_zero {M : Rat} (h : 0 ≤ M) : Near 0 0 (M / 9007199254740992) := by
  unfold Near; constructor <;> grind
theorem nearest_zero (neg : Bool) (place : Int) : ∃ m p, double.read (double.nearest neg 0 place) = .number neg m p ∧ (m : Rat) * (2 : Rat) ^ p = 0 := by
  obtain ⟨m, p, hr, hv⟩ := read_word neg 0 0 (by omega) (.inl rfl) (by omega)
  refine ⟨m, p, ?_, ?_⟩
  · rw [← hr]; unfold Format.nearest; rw [if_pos rfl]; congr 1
  · rw [hv]; exact Rat.zero_mul _
theorem unit_low {P : Int} {M : Rat} (h : P ≤ -254) (h1 : (2 : Rat) ^ (-200 : Int) ≤ M) : (2 : Rat) ^ P / 2 ≤ M / 9007199254740992 := by
  have a1 : (2 : Rat) ^ P ≤ (2 : Rat) ^ (-200 + -52 : Int) := p2_le (by omega)
  rw [p2_add] at a1
  have a2 : (2 : Rat) ^ (-52 : Int) * 4503599627370496 = 1 := by rw [← v52, ← p2_add]; rfl
  generalize (2 : Rat) ^ P = x at *
  generalize (2 : Rat) ^ (-52 : Int) = z at *
  generalize (2 : Rat) ^ (-200 : Int) = y at *
  have a3 : y * z * 4503599627370496 = y := by grind
  grind
theorem unit_high {P : Int} {M g : Rat} (h1 : (2 : Rat) ^ (P + 52) ≤ g) (hM : g ≤ M) : (2 : Rat) ^ P / 2 ≤ M / 9007199254740992 := by
  rw [p2_add, v52] at h1
  generalize (2 : Rat) ^ P = x at *
  grind
theorem place_high {P : Int} {M g : Rat} (h1 : (2 : Rat) ^ (P + 52) ≤ g) (hM : g ≤ M) (h2 : M ≤ (2 : Rat) ^ (200 : Int)) : P + 52 < 201 := by
  refine p2_lt_iff ?_
  have e : (2 : Rat) ^ (201 : Int) = (2 : Rat) ^ (200 : Int) * (2 : Rat) ^ (1 : Int) := by rw [← p2_add]; rfl
  have e1 : (2 : Rat) ^ (1 : Int) = 2 := rfl
  rw [e, e1]
  have := p2_pos 200
  generalize (2 : Rat) ^ (200 : Int) = x at *
  generalize (2 : Rat) ^ (P + 52) = y at *
  grind
theorem near_weak {a b e e' : Rat} (h : Near a b e) (he : e ≤ e') : Near a b e' := by
  unfold Near at *; constructor <;> grind
/-- ROUNDING: the word nearest to a number of size at most M is a number, and errs by at most M / 2^53. -/
theorem nearest_near (neg : Bool) (mag : Nat) (place : Int) (M : Rat) (hM : (mag : Rat) * (2 : Rat) ^ place ≤ M) (h : Mid M) :
    ∃ m p, double.read (double.nearest neg mag place) = .number neg m p ∧ Near ((m : Rat) * (2 : Rat) ^ p) ((mag : Rat) * (2 : Rat) ^ place) (M / 9007199254740992) := by
  obtain ⟨h1, h2⟩ := h
  by_cases hz : mag = 0
  · subst hz
    obtain ⟨m, p, hr, hv⟩ := nearest_zero neg place
    refine ⟨m, p, hr, ?_⟩
    rw [hv]
    have e : ((0 : Nat) : Rat) * (2 : Rat) ^ place = 0 := Rat.zero_mul _
    rw [e] at hM ⊢
    exact near_zero hM
  · obtain ⟨L, kept, hw, hk, h0, ⟨n, drop, hc, hnd⟩, hL⟩ := nearest_spec neg mag place hz
    have hn := kept_near neg mag place L kept n drop hc hnd
    -- the unit of the last place
    have hu : (2 : Rat) ^ ((L : Int) - 1074) / 2 ≤ M / 9007199254740992 ∧ L ≤ 2040 := by
      rcases hL with hL | hL
      · subst hL
        exact ⟨unit_low (by omega) h1, by omega⟩
      · have hg := Nat.log2_self_le hz
        have hg2 : (2 : Rat) ^ ((mag.log2 : Nat) : Int) ≤ (mag : Rat) := by
          rw [← p2_cast]; exact Rat.natCast_le_natCast.2 hg
        have a3 := p2_pos place
        have a4 := Rat.mul_le_mul_of_nonneg_right hg2 (Rat.le_of_lt a3)
        rw [← p2_add] at a4
        have e : ((mag.log2 : Nat) : Int) + place = ((L : Int) - 1074) + 52 := by omega
        rw [e] at a4
        exact ⟨unit_high a4 hM, by have := place_high a4 hM h2; omega⟩
    obtain ⟨m, p, hr, hv⟩ := read_word neg L kept hk h0 hu.2
    refine ⟨m, p, by rw [hw]; exact hr, ?_⟩
    rw [hv]
    exact near_weak hn hu.1

def fadd (x y : Nat) : Nat := (double.add x y).getD 0
def fsub (x y : Nat) : Nat := (double.sub x y).getD 0
def fmul (x y : Nat) : Nat := (double.mul x y).getD 0
def fdiv (x y : Nat) : Nat := (double.div x y).getD 0
theorem sg_f : sg false = 1 := rfl
theorem sg_t : sg true = -1 := rfl
theorem sg_sq (s : Bool) : sg s * sg s = 1 := by cases s <;> simp only [sg_f, sg_t] <;> grind
theorem sg_xor (s t : Bool) : sg (s ^^ t) = sg s * sg t := by
  cases s <;> cases t <;> simp only [Bool.xor_false, Bool.xor_true, Bool.not_true, Bool.not_false, sg_f, sg_t] <;> grind
theorem sg_not (s : Bool) : sg (!s) = -sg s := by cases s <;> simp only [Bool.not_true, Bool.not_false, sg_f, sg_t] <;> grind
theorem dv_number (s : Bool) (m : Nat) (p : Int) : dv (.number s m p) = sg s * (m : Rat) * (2 : Rat) ^ p := rfl
theorem fv_fin {x : Nat} {s : Bool} {m : Nat} {p : Int} (h : double.read x = .number s m p) : fv x = sg s * (m : Rat) * (2 : Rat) ^ p := by unfold fv; rw [h]; rfl
theorem write_near (s : Bool) (m : Nat) (p : Int) (M : Rat) (h : Mid M) (h1 : -M ≤ dv (.number s m p)) (h2 : dv (.number s m p) ≤ M) :
    Fin (double.write (.number s m p)) ∧ Near (fv (double.write (.number s m p))) (dv (.number s m p)) (M / 9007199254740992) := by
  rw [dv_number] at h1 h2 ⊢
  have hm : (m : Rat) * (2 : Rat) ^ p ≤ M := by
    rw [Rat.mul_assoc] at h1 h2
    generalize (m : Rat) * (2 : Rat) ^ p = v at *
    cases s
    · have : sg false = 1 := rfl
      rw [this] at h2; grind
    · have : sg true = -1 := rfl
      rw [this] at h1; grind
  obtain ⟨m', p', hr, hn⟩ := nearest_near s m p M hm h
  refine ⟨⟨s, m', p', hr⟩, ?_⟩
  show Near (fv (double.nearest s m p)) _ _
  rw [fv_fin hr, Rat.mul_assoc, Rat.mul_assoc]
  generalize (m : Rat) * (2 : Rat) ^ p = v at *
  generalize (m' : Rat) * (2 : Rat) ^ p' = v' at *
  unfold Near at *
  cases s
  · have : sg false = 1 := rfl
    rw [this]; constructor <;> grind
  · have : sg true = -1 := rfl
    rw [this]; constructor <;> grind

theorem signed_val (s : Bool) (m u : Nat) : ((signed s m u : Int) : Rat) = sg s * (m : Rat) * (2 : Rat) ^ (u : Int) := by
  have e : (((m <<< u : Nat) : Int) : Rat) = (m : Rat) * (2 : Rat) ^ (u : Int) := by
    rw [shl_eq, Rat.intCast_natCast, Rat.natCast_mul, p2_cast]
  unfold signed
  cases s
  · have h1 : sg false = 1 := rfl
    rw [h1, if_neg (by simp), e]; grind
  · have h1 : sg true = -1 := rfl
    rw [h1, if_pos rfl, Rat.intCast_neg, e]; grind
theorem natAbs_val (t : Int) : sg (decide (t < 0)) * ((t.natAbs : Nat) : Rat) = (t : Rat) := by
  by_cases h : t < 0
  · rw [decide_eq_true h]
    have h1 : sg true = -1 := rfl
    have h2 : ((t.natAbs : Nat) : Int) = -t := by omega
    have h3 : (((t.natAbs : Nat) : Int) : Rat) = ((-t : Int) : Rat) := by rw [h2]
    rw [Rat.intCast_natCast, Rat.intCast_neg] at h3
    rw [h1, h3]; grind
  · rw [decide_eq_false h]
    have h1 : sg false = 1 := rfl
    have h2 : ((t.natAbs : Nat) : Int) = t := by omega
    have h3 : (((t.natAbs : Nat) : Int) : Rat) = (t : Rat) := by rw [h2]
    rw [Rat.intCast_natCast] at h3
    rw [h1, h3]; grind
theorem sum_val (s t : Bool) (m n : Nat) (i j : Int) : ∃ s' m' p', Datum.sum (.number s m i) (.number t n j) = some (.number s' m' p') ∧ dv (.number s' m' p') = dv (.number s m i) + dv (.number t n j) := by
  unfold Datum.sum
  dsimp only
  refine ⟨_, _, _, rfl, ?_⟩
  obtain ⟨base, hb⟩ : ∃ base, base = min i j := ⟨_, rfl⟩
  rw [← hb]
  obtain ⟨T, hT⟩ : ∃ T, T = signed s m (i - base).toNat + signed t n (j - base).toNat := ⟨_, rfl⟩
  rw [← hT]
  have hv : (T : Rat) * (2 : Rat) ^ base = dv (.number s m i) + dv (.number t n j) := by
    rw [hT, Rat.intCast_add, signed_val, signed_val, dv_number, dv_number]
    have ei : (2 : Rat) ^ i = (2 : Rat) ^ (((i - base).toNat : Nat) : Int) * (2 : Rat) ^ base := by rw [← p2_add]; congr 1; omega
    have ej : (2 : Rat) ^ j = (2 : Rat) ^ (((j - base).toNat : Nat) : Int) * (2 : Rat) ^ base := by rw [← p2_add]; congr 1; omega
    rw [ei, ej]; grind
  rw [← hv, dv_number]
  by_cases hz : T = 0
  · subst hz
    have e1 : ((Int.natAbs 0 : Nat) : Rat) = 0 := rfl
    have e2 : ((0 : Int) : Rat) = 0 := rfl
    rw [e1, e2]; grind
  · rw [if_neg hz, natAbs_val]
theorem prod_val (s t : Bool) (m n : Nat) (i j : Int) : dv (.number (s ^^ t) (m * n) (i + j)) = dv (.number s m i) * dv (.number t n j) := by
  rw [dv_number, dv_number, dv_number, sg_xor, p2_add, Rat.natCast_mul]; grind
theorem opp_val (s : Bool) (m : Nat) (i : Int) : dv (.number (!s) m i) = -dv (.number s m i) := by
  rw [dv_number, dv_number, sg_not]; grind

/-- The result of an operation. -/
structure Op2 (o : Option Nat) (r : Nat) (e E : Rat) : Prop where
  is : o = some r
  fin : Fin r
  near : Near (fv r) e E
theorem fadd_ok {x y : Nat} (hx : Fin x) (hy : Fin y) (M : Rat) (h : Mid M) (h1 : -M ≤ fv x + fv y) (h2 : fv x + fv y ≤ M) : Op2 (double.add x y) (fadd x y) (fv x + fv y) (M / 9007199254740992) := by
  obtain ⟨s, m, i, hx⟩ := hx
  obtain ⟨t, n, j, hy⟩ := hy
  obtain ⟨s', m', p', hs, hd⟩ := sum_val s t m n i j
  have e : double.add x y = some (double.write (.number s' m' p')) := by unfold Format.add; rw [hx, hy, hs]; rfl
  have e2 : fadd x y = double.write (.number s' m' p') := by unfold fadd; rw [e]; rfl
  have e3 : fv x + fv y = dv (.number s' m' p') := by rw [hd]; unfold fv; rw [hx, hy]
  rw [e2, e3]
  rw [e3] at h1 h2
  obtain ⟨hf, hn⟩ := write_near s' m' p' M h h1 h2
  exact ⟨e, hf, hn⟩
theorem fsub_ok {x y : Nat} (hx : Fin x) (hy : Fin y) (M : Rat) (h : Mid M) (h1 : -M ≤ fv x - fv y) (h2 : fv x - fv y ≤ M) : Op2 (double.sub x y) (fsub x y) (fv x - fv y) (M / 9007199254740992) := by
  obtain ⟨s, m, i, hx⟩ := hx
  obtain ⟨t, n, j, hy⟩ := hy
  obtain ⟨s', m', p', hs, hd⟩ := sum_val s (!t) m n i j
  have e : double.sub x y = some (double.write (.number s' m' p')) := by
    unfold Format.sub; rw [hx, hy]; unfold Datum.opposite; dsimp only; rw [hs]; rfl
  have e2 : fsub x y = double.write (.number s' m' p') := by unfold fsub; rw [e]; rfl
  have e3 : fv x - fv y = dv (.number s' m' p') := by rw [hd, opp_val]; unfold fv; rw [hx, hy]; grind
  rw [e2, e3]
  rw [e3] at h1 h2
  obtain ⟨hf, hn⟩ := write_near s' m' p' M h h1 h2
  exact ⟨e, hf, hn⟩
theorem fmul_ok {x y : Nat} (hx : Fin x) (hy : Fin y) (M : Rat) (h : Mid M) (h1 : -M ≤ fv x * fv y) (h2 : fv x * fv y ≤ M) : Op2 (double.mul x y) (fmul x y) (fv x * fv y) (M / 9007199254740992) := by
  obtain ⟨s, m, i, hx⟩ := hx
  obtain ⟨t, n, j, hy⟩ := hy
  have e : double.mul x y = some (double.write (.number (s ^^ t) (m * n) (i + j))) := by
    unfold Format.mul; rw [hx, hy]; rfl
  have e2 : fmul x y = double.write (.number (s ^^ t) (m * n) (i + j)) := by unfold fmul; rw [e]; rfl
  have e3 : fv x * fv y = dv (.number (s ^^ t) (m * n) (i + j)) := by rw [prod_val]; unfold fv; rw [hx, hy]
  rw [e2, e3]
  rw [e3] at h1 h2
  obtain ⟨hf, hn⟩ := write_near _ _ _ M h h1 h2
  exact ⟨e, hf, hn⟩

theorem quot_nat (m n k : Nat) (hn : 0 < n) : ∃ q : Nat, q = 2 * (m * 2 ^ k / n) + (m * 2 ^ k % n != 0).toNat ∧ 2 * (m * 2 ^ k) ≤ q * n + n ∧ q * n ≤ 2 * (m * 2 ^ k) + n := by
  refine ⟨_, rfl, ?_⟩
  generalize m * 2 ^ k = D
  have h1 := Nat.div_add_mod D n
  have h2 := Nat.mod_lt D hn
  generalize D / n = a at *
  generalize D % n = r at *
  have e : (2 * a + (r != 0).toNat) * n = 2 * (n * a) + (r != 0).toNat * n := by rw [Nat.add_mul, Nat.mul_assoc, Nat.mul_comm a n]
  rw [e]
  by_cases hr : r = 0
  · have e3 : (r != 0).toNat = 0 := by rw [hr]; rfl
    rw [e3]; omega
  · have e3 : (r != 0).toNat = 1 := by rw [bne_iff_ne.2 hr]; rfl
    rw [e3]; omega
theorem quot_rat (m n k : Nat) (hn : 0 < n) (hm : m ≠ 0) (hk : 54 + n.log2 - m.log2 ≤ k) : ∃ q : Nat, q = 2 * (m * 2 ^ k / n) + (m * 2 ^ k % n != 0).toNat ∧
    Near ((q : Rat) / (2 : Rat) ^ k / 2) ((m : Rat) / (n : Rat)) ((m : Rat) / (n : Rat) / 9007199254740992) := by
  obtain ⟨q, hq, h1, h2⟩ := quot_nat m n k hn
  refine ⟨q, hq, ?_⟩
  have a1 : 2 * ((m : Rat) * (2 : Rat) ^ k) ≤ (q : Rat) * (n : Rat) + (n : Rat) := by
    have := Rat.natCast_le_natCast.2 h1; push_cast at this; exact this
  have a2 : (q : Rat) * (n : Rat) ≤ 2 * ((m : Rat) * (2 : Rat) ^ k) + (n : Rat) := by
    have := Rat.natCast_le_natCast.2 h2; push_cast at this; exact this
  have a3 : 9007199254740992 * n ≤ m * 2 ^ k := by
    have b1 := Nat.log2_self_le hm
    have b2 := lt_log2 n
    have b3 : 2 ^ (54 + n.log2) ≤ m * 2 ^ k := by
      have c1 : 2 ^ (54 + n.log2) ≤ 2 ^ (m.log2 + k) := Nat.pow_le_pow_right (by omega) (by omega)
      rw [Nat.pow_add 2 m.log2 k] at c1
      exact Nat.le_trans c1 (Nat.mul_le_mul_right _ b1)
    have b4 : 2 ^ (54 + n.log2) = 9007199254740992 * 2 ^ (n.log2 + 1) := by
      rw [show 54 + n.log2 = 53 + (n.log2 + 1) by omega, Nat.pow_add 2 53]
    omega
  have a4 : 9007199254740992 * (n : Rat) ≤ (m : Rat) * (2 : Rat) ^ k := by
    have := Rat.natCast_le_natCast.2 a3; push_cast at this; exact this
  have hp := pow_pos_r k
  have hn' : (0 : Rat) < (n : Rat) := by exact_mod_cast hn
  generalize (2 : Rat) ^ k = g at *
  generalize (m : Rat) = x at *
  generalize (n : Rat) = y at *
  generalize (q : Rat) = z at *
  -- all over y * g
  have hy : (0 : Rat) < y * g := Rat.mul_pos hn' hp
  have key : ∀ a b : Rat, a * (y * g) ≤ b * (y * g) → a ≤ b := fun a b h => by
    rcases Rat.le_total (a := a) (b := b) with c | c
    · exact c
    · by_cases e : a = b
      · rw [e]; exact Rat.le_refl
      · have : b < a := by grind
        have := Rat.mul_lt_mul_of_pos_right this hy
        grind
  have e1 : z / g / 2 * (y * g) = z * y / 2 := by grind
  have e2 : x / y * (y * g) = x * g := by grind
  unfold Near
  constructor
  · refine key _ _ ?_
    have : (x / y - x / y / 9007199254740992) * (y * g) = x * g - x * g / 9007199254740992 := by grind
    rw [this, e1]
    grind
  · refine key _ _ ?_
    have : (x / y + x / y / 9007199254740992) * (y * g) = x * g + x * g / 9007199254740992 := by grind
    rw [this, e1]
    grind
theorem rdiv_nonneg {a b : Rat} (ha : 0 ≤ a) (hb : 0 < b) : 0 ≤ a / b := by
  rcases Rat.le_total (a := 0) (b := a / b) with c | c
  · exact c
  · have h1 := Rat.mul_le_mul_of_nonneg_right c (Rat.le_of_lt hb)
    have h2 : a / b * b = a := by grind
    rw [h2] at h1
    have : a = 0 := by grind
    rw [this]
    have : (0 : Rat) / b = 0 := by grind
    rw [this]; exact Rat.le_refl
theorem sg_cases (s : Bool) : sg s = 1 ∨ sg s = -1 := by cases s; exact .inl rfl; exact .inr rfl
theorem nat_nonneg (n : Nat) : (0 : Rat) ≤ (n : Rat) := by exact_mod_cast Nat.zero_le n
theorem quot_val (s t : Bool) (m n : Nat) (i j : Int) (hn : n ≠ 0) : ∃ s' m' p', Datum.quotient 54 (.number s m i) (.number t n j) = some (.number s' m' p') ∧
    ∃ e, dv (.number s m i) / dv (.number t n j) = e ∧ (∀ M, -M ≤ e → e ≤ M → Near (dv (.number s' m' p')) e (M / 9007199254740992)) := by
  unfold Datum.quotient
  dsimp only
  rw [if_neg hn]
  refine ⟨_, _, _, rfl, _, rfl, ?_⟩
  intro M h1 h2
  obtain ⟨k, hk⟩ : ∃ k, k = 54 + n.log2 - m.log2 := ⟨_, rfl⟩
  rw [← hk, shl_eq]
  have e0 : dv (.number s m i) / dv (.number t n j) = (sg s * sg t) * (((m : Rat) / (n : Rat)) * (2 : Rat) ^ (i - j)) := by
    rw [dv_number, dv_number]
    have p1 := p2_pos j
    have e : (2 : Rat) ^ i = (2 : Rat) ^ (i - j) * (2 : Rat) ^ j := by rw [← p2_add]; congr 1; omega
    rw [e]
    have hn' : (0 : Rat) < (n : Rat) := by have : 0 < n := by omega
                                           exact_mod_cast this
    rcases sg_cases s with c | c <;> rcases sg_cases t with d | d <;> rw [c, d] <;> grind
  rw [e0] at h1 h2 ⊢
  rw [dv_number, sg_xor]
  have e1 : (2 : Rat) ^ (i - j - (k : Int) - 1) = (2 : Rat) ^ (i - j) / (2 : Rat) ^ k / 2 := by
    have : (2 : Rat) ^ (i - j) = (2 : Rat) ^ (i - j - (k : Int) - 1) * ((2 : Rat) ^ k * 2) := by
      rw [← p2_nat, show (2 : Rat) ^ ((k : Nat) : Int) * 2 = (2 : Rat) ^ (((k : Nat) : Int) + 1) by rw [p2_add]; rfl, ← p2_add]; congr 1; omega
    rw [this]
    have := pow_pos_r k
    grind
  rw [e1]
  by_cases hm : m = 0
  · subst hm
    have e2 : (2 * (0 * 2 ^ k / n) + (0 * 2 ^ k % n != 0).toNat) = 0 := by simp
    rw [e2]
    have e3 : ((0 : Nat) : Rat) = 0 := rfl
    rw [e3] at h1 h2 ⊢
    have z1 : (0 : Rat) / (n : Rat) = 0 := by grind
    have hM : 0 ≤ M := by grind
    unfold Near; constructor <;> grind
  · obtain ⟨q, hq, hnr⟩ := quot_rat m n k (by omega) hm (by omega)
    rw [← hq]
    have p1 := p2_pos (i - j)
    have q1 : 0 ≤ (m : Rat) / (n : Rat) := by
      have hn' : (0 : Rat) < (n : Rat) := by have : 0 < n := by omega
                                             exact_mod_cast this
      exact rdiv_nonneg (nat_nonneg m) hn'
    have ez : (q : Rat) * ((2 : Rat) ^ (i - j) / (2 : Rat) ^ k / 2) = ((q : Rat) / (2 : Rat) ^ k / 2) * (2 : Rat) ^ (i - j) := by grind
    generalize (m : Rat) / (n : Rat) = v at *
    have ew : sg s * sg t * (q : Rat) * ((2 : Rat) ^ (i - j) / (2 : Rat) ^ k / 2) = sg s * sg t * (((q : Rat) / (2 : Rat) ^ k / 2) * (2 : Rat) ^ (i - j)) := by rw [← ez]; grind
    rw [ew]
    generalize (q : Rat) / (2 : Rat) ^ k / 2 = z at *
    unfold Near at hnr
    have r1 := Rat.mul_le_mul_of_nonneg_right hnr.1 (Rat.le_of_lt p1)
    have r2 := Rat.mul_le_mul_of_nonneg_right hnr.2 (Rat.le_of_lt p1)
    have r3 := Rat.mul_nonneg q1 (Rat.le_of_lt p1)
    generalize (2 : Rat) ^ (i - j) = u at *
    clear ew ez e1 e0
    unfold Near
    rcases sg_cases s with c | c <;> rcases sg_cases t with d | d <;> rw [c, d] at h1 h2 ⊢ <;> constructor <;> grind
theorem fv_num {x : Nat} {s : Bool} {m : Nat} {p : Int} (h : double.read x = .number s m p) : fv x = dv (.number s m p) := by unfold fv; rw [h]
theorem fdiv_ok {x y : Nat} (hx : Fin x) (hy : Fin y) (h0 : fv y ≠ 0) (M : Rat) (h : Mid (2 * M)) (h1 : -M ≤ fv x / fv y) (h2 : fv x / fv y ≤ M) : Op2 (double.div x y) (fdiv x y) (fv x / fv y) (M / 2251799813685248) := by
  obtain ⟨s, m, i, hx⟩ := hx
  obtain ⟨t, n, j, hy⟩ := hy
  have hn : n ≠ 0 := fun e => h0 (by rw [fv_fin hy, e]; show _ * (0 : Rat) * _ = 0; grind)
  obtain ⟨s', m', p', hs, e, he, hd⟩ := quot_val s t m n i j hn
  have e1 : double.div x y = some (double.write (.number s' m' p')) := by
    unfold Format.div; rw [hx, hy]; show ((Datum.quotient 54 _ _).map _) = _; rw [hs]; rfl
  have e2 : fdiv x y = double.write (.number s' m' p') := by unfold fdiv; rw [e1]; rfl
  have e3 : fv x / fv y = e := by rw [fv_num hx, fv_num hy]; exact he
  rw [e2, e3]
  rw [e3] at h1 h2
  have hM := hd M h1 h2
  have hM0 : 0 ≤ M := by grind
  unfold Near at hM
  obtain ⟨hf, hn'⟩ := write_near s' m' p' (2 * M) h (by grind) (by grind)
  refine ⟨e1, hf, ?_⟩
  unfold Near at hn' ⊢
  constructor <;> grind

theorem fin_two {x y : Nat} (hx : Fin x) (hy : Fin y) : ∃ (A B base : Int), double.order x y = some (compare A B) ∧ fv x = (A : Rat) * (2 : Rat) ^ base ∧ fv y = (B : Rat) * (2 : Rat) ^ base := by
  obtain ⟨s, m, i, hx⟩ := hx
  obtain ⟨t, n, j, hy⟩ := hy
  obtain ⟨base, hb⟩ : ∃ base, base = min i j := ⟨_, rfl⟩
  refine ⟨signed s m (i - base).toNat, signed t n (j - base).toNat, base, ?_, ?_, ?_⟩
  · unfold Format.order; rw [hx, hy, hb]; rfl
  · rw [fv_fin hx, signed_val]
    have ei : (2 : Rat) ^ i = (2 : Rat) ^ (((i - base).toNat : Nat) : Int) * (2 : Rat) ^ base := by rw [← p2_add]; congr 1; omega
    rw [ei]; grind
  · rw [fv_fin hy, signed_val]
    have ei : (2 : Rat) ^ j = (2 : Rat) ^ (((j - base).toNat : Nat) : Int) * (2 : Rat) ^ base := by rw [← p2_add]; congr 1; omega
    rw [ei]; grind
theorem mul_lt_iff_p2 (A B : Int) (base : Int) : (A : Rat) * (2 : Rat) ^ base < (B : Rat) * (2 : Rat) ^ base ↔ A < B := by
  have hp := p2_pos base
  constructor
  · intro h
    rcases Int.lt_or_le A B with c | c
    · exact c
    · have h1 : ((B : Int) : Rat) ≤ (A : Rat) := Rat.intCast_le_intCast.2 c
      have h2 := Rat.mul_le_mul_of_nonneg_right h1 (Rat.le_of_lt hp)
      grind
  · intro h
    have h1 : ((A : Int) : Rat) < (B : Rat) := Rat.intCast_lt_intCast.2 h
    exact Rat.mul_lt_mul_of_pos_right h1 hp
theorem ford_lt {x y : Nat} (hx : Fin x) (hy : Fin y) (h : fv x < fv y) : double.order x y = some .lt := by
  obtain ⟨A, B, base, e, ex, ey⟩ := fin_two hx hy
  rw [ex, ey, mul_lt_iff_p2] at h
  rw [e]; congr 1
  exact Int.compare_eq_lt.2 h
theorem ford_gt {x y : Nat} (hx : Fin x) (hy : Fin y) (h : fv y < fv x) : double.order x y = some .gt := by
  obtain ⟨A, B, base, e, ex, ey⟩ := fin_two hx hy
  rw [ex, ey, mul_lt_iff_p2] at h
  rw [e]; congr 1
  exact Int.compare_eq_gt.2 h
theorem ford_eq {x y : Nat} (hx : Fin x) (hy : Fin y) (h : fv x = fv y) : double.order x y = some .eq := by
  obtain ⟨A, B, base, e, ex, ey⟩ := fin_two hx hy
  rw [e]; congr 1
  refine Int.compare_eq_eq.2 ?_
  have h1 : ¬ A < B := fun c => by have := (mul_lt_iff_p2 A B base).2 c; rw [← ex, ← ey] at this; grind
  have h2 : ¬ B < A := fun c => by have := (mul_lt_iff_p2 B A base).2 c; rw [← ex, ← ey] at this; grind
  omega

/-- An integer of at most 53 digits, times a power of two, is kept as it is. -/
theorem nearest_exact (neg : Bool) (mag : Nat) (place : Int) (hm : mag < 2 ^ 53) (hp : -1074 ≤ place) (hp2 : place ≤ 900) : ∃ m p, double.read (double.nearest neg mag place) = .number neg m p ∧ (m : Rat) * (2 : Rat) ^ p = (mag : Rat) * (2 : Rat) ^ place := by
  by_cases hz : mag = 0
  · subst hz
    obtain ⟨m, p, hr, hv⟩ := nearest_zero neg place
    refine ⟨m, p, hr, ?_⟩
    rw [hv]; show (0 : Rat) = (0 : Rat) * _; grind
  · have hlog : mag.log2 < 53 := (Nat.log2_lt hz).2 hm
    obtain ⟨L, kept, hw, hk, h0, ⟨n, drop, hc, hnd⟩, hL⟩ := nearest_spec neg mag place hz
    obtain ⟨m, p, hr, hv⟩ := read_word neg L kept hk h0 (by omega)
    refine ⟨m, p, by rw [hw]; exact hr, ?_⟩
    rw [hv]
    have cut0 : ∀ n, Toward.even.cut neg n 0 = n := fun n => by have := cut_even_nat neg n 0; omega
    rcases hnd with ⟨rfl, hn, hle⟩ | ⟨rfl, hd⟩
    · rw [cut0] at hc
      obtain ⟨k, hk2⟩ : ∃ k : Nat, (k : Int) = place - ((L : Int) - 1074) := ⟨(place - ((L : Int) - 1074)).toNat, by omega⟩
      have e : (place - ((L : Int) - 1074)).toNat = k := by omega
      rw [e] at hn
      rw [hc, hn, Rat.natCast_mul, p2_cast, Rat.mul_assoc, ← p2_add]
      congr 2; omega
    · have : drop = 0 := by omega
      subst this
      rw [cut0] at hc
      rw [hc]
      congr 2; omega
theorem fint_ok (n : Int) (h1 : -9007199254740992 < n) (h2 : n < 9007199254740992) : Fin (floatOfInt .f64 n) ∧ fv (floatOfInt .f64 n) = (n : Rat) := by
  obtain ⟨m, p, hr, hv⟩ := nearest_exact (decide (n < 0)) n.natAbs 0 (by omega) (by omega) (by omega)
  refine ⟨⟨_, m, p, hr⟩, ?_⟩
  show fv (double.nearest (decide (n < 0)) n.natAbs 0) = _
  rw [fv_fin hr, Rat.mul_assoc, hv, ← Rat.mul_assoc, natAbs_val]
  show (n : Rat) * 1 = _
  grind

/-- The whole part of n / 2 ^ drop. -/
theorem cut_low (n drop : Nat) : ∃ c r : Nat, n = c * 2 ^ drop + r ∧ r < 2 ^ drop ∧ n / (1 <<< min drop (n.log2 + 2)) = c ∧ (n % (1 <<< min drop (n.log2 + 2)) = 0 ↔ r = 0) := by
  rw [one_shl]
  by_cases h : drop ≤ n.log2 + 2
  · rw [Nat.min_eq_left h]
    have hg := Nat.two_pow_pos drop
    refine ⟨n / 2 ^ drop, n % 2 ^ drop, ?_, Nat.mod_lt _ hg, rfl, Iff.rfl⟩
    have := Nat.div_add_mod n (2 ^ drop)
    rw [Nat.mul_comm]; omega
  · rw [Nat.min_eq_right (by omega)]
    have h0 := lt_log2 n
    have e : 2 ^ (n.log2 + 2) = 2 * 2 ^ (n.log2 + 1) := by rw [Nat.pow_succ]; omega
    have h1 : n / 2 ^ (n.log2 + 2) = 0 := Nat.div_eq_of_lt (by omega)
    have h2 : n % 2 ^ (n.log2 + 2) = n := Nat.mod_eq_of_lt (by omega)
    have h4 : 2 ^ (n.log2 + 2) ≤ 2 ^ drop := Nat.pow_le_pow_right (by omega) (by omega)
    exact ⟨0, n, by omega, by omega, h1, by rw [h2]⟩
theorem cut_dir (way : Toward) (up : Bool) (s : Bool) (m : Nat) (i : Int) (hway : ∀ n drop, way.cut s n drop = n / (1 <<< min drop (n.log2 + 2)) + (up && n % (1 <<< min drop (n.log2 + 2)) != 0).toNat) :
    ∃ c : Nat, way.cut s (m <<< i.toNat) (-i).toNat = c ∧ (up = false → (c : Rat) ≤ (m : Rat) * (2 : Rat) ^ i ∧ (m : Rat) * (2 : Rat) ^ i < (c : Rat) + 1) ∧ (up = true → (m : Rat) * (2 : Rat) ^ i ≤ (c : Rat) ∧ (c : Rat) - 1 < (m : Rat) * (2 : Rat) ^ i) := by
  refine ⟨_, rfl, ?_⟩
  rw [hway, shl_eq]
  obtain ⟨c, r, hn, hr, hc, hr0⟩ := cut_low (m * 2 ^ i.toNat) (-i).toNat
  rw [hc]
  obtain ⟨R, hR⟩ : ∃ R, R = (m * 2 ^ i.toNat) % (1 <<< min (-i).toNat ((m * 2 ^ i.toNat).log2 + 2)) := ⟨_, rfl⟩
  rw [← hR] at hr0 ⊢
  have hg := Nat.two_pow_pos (-i).toNat
  have ev : (m : Rat) * (2 : Rat) ^ i = (c : Rat) + (r : Rat) / ((2 ^ (-i).toNat : Nat) : Rat) := by
    have h1 : ((m * 2 ^ i.toNat : Nat) : Rat) = ((c * 2 ^ (-i).toNat + r : Nat) : Rat) := by rw [hn]
    rw [Rat.natCast_mul, Rat.natCast_add, Rat.natCast_mul, p2_cast] at h1
    have h2 : (2 : Rat) ^ i * ((2 ^ (-i).toNat : Nat) : Rat) = (2 : Rat) ^ ((i.toNat : Nat) : Int) := by rw [p2_cast, ← p2_add]; congr 1; omega
    have h3 : (0 : Rat) < ((2 ^ (-i).toNat : Nat) : Rat) := by exact_mod_cast hg
    rw [← h2] at h1
    generalize ((2 ^ (-i).toNat : Nat) : Rat) = g at *
    generalize (2 : Rat) ^ i = u at *
    grind
  have h3 : (0 : Rat) < ((2 ^ (-i).toNat : Nat) : Rat) := by exact_mod_cast hg
  have h4 : (0 : Rat) ≤ (r : Rat) / ((2 ^ (-i).toNat : Nat) : Rat) := rdiv_nonneg (nat_nonneg r) h3
  have h5 : (r : Rat) / ((2 ^ (-i).toNat : Nat) : Rat) < 1 := by
    have h6 : (r : Rat) < ((2 ^ (-i).toNat : Nat) : Rat) := by exact_mod_cast hr
    generalize ((2 ^ (-i).toNat : Nat) : Rat) = g at *
    rcases Rat.le_total (a := 1) (b := (r : Rat) / g) with c1 | c1
    · have h7 := Rat.mul_le_mul_of_nonneg_right c1 (Rat.le_of_lt h3)
      have h8 : (r : Rat) / g * g = (r : Rat) := by grind
      grind
    · by_cases e : (r : Rat) / g = 1
      · have h8 : (r : Rat) / g * g = (r : Rat) := by grind
        rw [e] at h8; grind
      · grind
  rw [ev]
  constructor
  · intro hu; subst hu
    simp only [Bool.false_and, Bool.toNat_false, Nat.add_zero]
    constructor <;> grind
  · intro hu; subst hu
    by_cases hr1 : r = 0
    · have : R = 0 := hr0.2 hr1
      rw [this, hr1]
      have e0 : ((0 : Nat) : Rat) / ((2 ^ (-i).toNat : Nat) : Rat) = 0 := by show (0 : Rat) / _ = 0; grind
      rw [e0]
      simp
      grind
    · have : R ≠ 0 := fun h => hr1 (hr0.1 h)
      have e1 : (true && R != 0).toNat = 1 := by rw [bne_iff_ne.2 this]; rfl
      rw [e1, Rat.natCast_add]
      have h6 : (0 : Rat) < (r : Rat) := by have : 0 < r := by omega
                                            exact_mod_cast this
      have h7 : (0 : Rat) < (r : Rat) / ((2 ^ (-i).toNat : Nat) : Rat) := by
        generalize ((2 ^ (-i).toNat : Nat) : Rat) = g at *
        by_cases e : (r : Rat) / g = 0
        · have h8 : (r : Rat) / g * g = (r : Rat) := by grind
          rw [e] at h8; grind
        · grind
      have : ((1 : Nat) : Rat) = 1 := rfl
      rw [this]
      constructor <;> grind

def fneg (x : Nat) : Nat := Op.negFloat .f64 x
theorem fneg_ok {x : Nat} (hx : Fin x) : Fin (fneg x) ∧ fv (fneg x) = -fv x := by
  obtain ⟨s, m, p, hx⟩ := hx
  have hr : double.read (fneg x) = .number (!s) m p := by
    have e : fneg x = x ^^^ 2 ^ 63 := rfl
    have hsw : double.signWeight = 2 ^ 63 := rfl
    have a1 : (x ^^^ 2 ^ 63) % 2 ^ 63 = x % 2 ^ 63 := by rw [Nat.xor_mod_two_pow]; simp
    have a2 : ((x ^^^ 2 ^ 63) / 2 ^ 63 % 2 == 1) = !(x / 2 ^ 63 % 2 == 1) := by
      rw [Nat.xor_div_two_pow, show 2 ^ 63 / 2 ^ 63 = 2 ^ 0 by decide]
      have := Nat.xor_mod_two_pow (a := x / 2 ^ 63) (b := 2 ^ 0) (n := 1)
      rw [show 2 ^ 1 = 2 by rfl] at this
      rw [this]
      rcases Nat.mod_two_eq_zero_or_one (x / 2 ^ 63) with c | c <;> rw [c] <;> rfl
    unfold Format.read at hx ⊢
    dsimp only at hx ⊢
    rw [hsw] at hx ⊢
    rw [e, a1, a2]
    by_cases c1 : x % 2 ^ 63 < double.binade
    · rw [if_pos c1] at hx ⊢
      cases hx; rfl
    · rw [if_neg c1] at hx ⊢
      by_cases c2 : x % 2 ^ 63 < double.infRung
      · rw [if_pos c2] at hx ⊢
        cases hx; rfl
      · rw [if_neg c2] at hx ⊢
        split at hx <;> cases hx
  refine ⟨⟨_, _, _, hr⟩, ?_⟩
  rw [fv_num hr, fv_num hx, opp_val]

/-- An integer between. -/
theorem toInt_ok {x : Nat} (hx : Fin x) : ∃ k : Int, (double.read x).toInt .zero = some k ∧ (0 ≤ fv x → (k : Rat) ≤ fv x ∧ fv x < (k : Rat) + 1 ∧ 0 ≤ k) ∧ (fv x ≤ 0 → fv x ≤ (k : Rat) ∧ (k : Rat) - 1 < fv x ∧ k ≤ 0) := by
  obtain ⟨s, m, i, hx⟩ := hx
  obtain ⟨c, hc, hlow, -⟩ := cut_dir .zero false s m i (fun n drop => by unfold Toward.cut; simp)
  have h := hlow rfl
  rw [fv_fin hx, hx]
  refine ⟨signed s c 0, ?_, ?_⟩
  · unfold Datum.toInt Datum.integral; dsimp only; rw [hc]
  have e : ((signed s c 0 : Int) : Rat) = sg s * (c : Rat) := by
    rw [signed_val]
    show sg s * (c : Rat) * 1 = _; grind
  have hn := nat_nonneg c
  have hm : 0 ≤ (m : Rat) * (2 : Rat) ^ i := Rat.mul_nonneg (nat_nonneg m) (Rat.le_of_lt (p2_pos i))
  rw [e, Rat.mul_assoc]
  generalize (m : Rat) * (2 : Rat) ^ i = v at *
  cases s
  · have h0 : 0 ≤ signed false c 0 := by unfold signed; simp
    rw [sg_f]
    refine ⟨fun hv => ⟨by grind, by grind, h0⟩, fun hv => ?_⟩
    have : v = 0 := by grind
    have : c = 0 := by
      rcases Nat.eq_zero_or_pos c with q | q
      · exact q
      · have : (1 : Rat) ≤ (c : Rat) := by exact_mod_cast q
        grind
    subst this
    have h0 : signed false 0 0 = 0 := rfl
    have e3 : ((0 : Nat) : Rat) = 0 := rfl
    rw [h0, e3]
    exact ⟨by grind, by grind, by omega⟩
  · have h0 : signed true c 0 ≤ 0 := by unfold signed; simp
    rw [sg_t]
    refine ⟨fun hv => ?_, fun hv => ⟨by grind, by grind, h0⟩⟩
    have : v = 0 := by grind
    have : c = 0 := by
      rcases Nat.eq_zero_or_pos c with q | q
      · exact q
      · have : (1 : Rat) ≤ (c : Rat) := by exact_mod_cast q
        grind
    subst this
    have h0 : signed true 0 0 = 0 := rfl
    have e3 : ((0 : Nat) : Rat) = 0 := rfl
    rw [h0, e3]
    exact ⟨by grind, by grind, by omega⟩

def ffloor (x : Nat) : Nat := double.write ((double.read x).integral .down)
def fceil (x : Nat) : Nat := double.write ((double.read x).integral .up)
/-- An integer's word, as an integer. -/
theorem whole_word (s : Bool) (c : Nat) (hc : c < 2 ^ 53) : Fin (double.write (.number s c 0)) ∧ fv (double.write (.number s c 0)) = sg s * (c : Rat) ∧ (double.read (double.write (.number s c 0))).toInt .zero = some (signed s c 0) := by
  obtain ⟨m, p, hr, hv⟩ := nearest_exact s c 0 hc (by omega) (by omega)
  have hf : Fin (double.write (.number s c 0)) := ⟨s, m, p, hr⟩
  have hv2 : fv (double.write (.number s c 0)) = sg s * (c : Rat) := by
    show fv (double.nearest s c 0) = _
    rw [fv_fin hr, Rat.mul_assoc, hv]
    show sg s * ((c : Rat) * 1) = _; grind
  refine ⟨hf, hv2, ?_⟩
  obtain ⟨k, hk, h1, h2⟩ := toInt_ok hf
  rw [hk, hv2] at *
  congr 1
  have e : ((signed s c 0 : Int) : Rat) = sg s * (c : Rat) := by
    rw [signed_val]; show sg s * (c : Rat) * 1 = _; grind
  rw [← e] at h1 h2
  generalize signed s c 0 = n at *
  rcases Int.le_total 0 n with q | q
  · have q1 : (0 : Rat) ≤ (n : Rat) := by exact_mod_cast q
    obtain ⟨a1, a2, _⟩ := h1 q1
    have b1 : k ≤ n := by exact_mod_cast a1
    have b2 : n < k + 1 := by
      have e1 : ((k + 1 : Int) : Rat) = (k : Rat) + 1 := by rw [Rat.intCast_add]; rfl
      rw [← e1] at a2; exact_mod_cast a2
    omega
  · have q1 : (n : Rat) ≤ 0 := by exact_mod_cast q
    obtain ⟨a1, a2, _⟩ := h2 q1
    have b1 : n ≤ k := by exact_mod_cast a1
    have b2 : k - 1 < n := by
      have e1 : ((k - 1 : Int) : Rat) = (k : Rat) - 1 := by rw [Rat.intCast_sub]; rfl
      rw [← e1] at a2; exact_mod_cast a2
    omega
theorem ffloor_ok {x : Nat} (hx : Fin x) (h1 : -4503599627370496 ≤ fv x) (h2 : fv x ≤ 4503599627370496) : ∃ k : Int, Fin (ffloor x) ∧ fv (ffloor x) = (k : Rat) ∧ (k : Rat) ≤ fv x ∧ fv x < (k : Rat) + 1 ∧ (double.read (ffloor x)).toInt .zero = some k := by
  obtain ⟨s, m, i, hx⟩ := hx
  unfold ffloor
  obtain ⟨c, hc, hlow, hup⟩ := cut_dir .down s s m i (fun n drop => by unfold Toward.cut; rfl)
  have e0 : (double.read x).integral .down = .number s c 0 := by rw [hx]; unfold Datum.integral; dsimp only; rw [hc]
  rw [e0]
  rw [fv_fin hx, Rat.mul_assoc] at *
  have hm : 0 ≤ (m : Rat) * (2 : Rat) ^ i := Rat.mul_nonneg (nat_nonneg m) (Rat.le_of_lt (p2_pos i))
  generalize (m : Rat) * (2 : Rat) ^ i = v at *
  have hcb : c < 2 ^ 53 := by
    have : (c : Rat) < ((9007199254740992 : Nat) : Rat) := by
      have e9 : ((9007199254740992 : Nat) : Rat) = 9007199254740992 := rfl
      rw [e9]
      cases s
      · have := hlow rfl; rw [sg_f] at *; grind
      · have := hup rfl; rw [sg_t] at *; grind
    have : c < 9007199254740992 := by exact_mod_cast this
    omega
  obtain ⟨hf, hv, ht⟩ := whole_word s c hcb
  refine ⟨signed s c 0, hf, ?_, ?_, ?_, ht⟩
  · rw [hv, signed_val]; show _ = sg s * (c : Rat) * 1; grind
  all_goals
    rw [signed_val]
    show _
    have e1 : (2 : Rat) ^ (((0 : Nat) : Int)) = 1 := rfl
    rw [e1]
    cases s
    · have := hlow rfl; rw [sg_f] at *; grind
    · have := hup rfl; rw [sg_t] at *; grind
theorem fceil_ok {x : Nat} (hx : Fin x) (h1 : -4503599627370496 ≤ fv x) (h2 : fv x ≤ 4503599627370496) : ∃ k : Int, Fin (fceil x) ∧ fv (fceil x) = (k : Rat) ∧ fv x ≤ (k : Rat) ∧ (k : Rat) - 1 < fv x ∧ (double.read (fceil x)).toInt .zero = some k := by
  obtain ⟨s, m, i, hx⟩ := hx
  unfold fceil
  obtain ⟨c, hc, hlow, hup⟩ := cut_dir .up (!s) s m i (fun n drop => by unfold Toward.cut; rfl)
  have e0 : (double.read x).integral .up = .number s c 0 := by rw [hx]; unfold Datum.integral; dsimp only; rw [hc]
  rw [e0]
  rw [fv_fin hx, Rat.mul_assoc] at *
  have hm : 0 ≤ (m : Rat) * (2 : Rat) ^ i := Rat.mul_nonneg (nat_nonneg m) (Rat.le_of_lt (p2_pos i))
  generalize (m : Rat) * (2 : Rat) ^ i = v at *
  have hcb : c < 2 ^ 53 := by
    have : (c : Rat) < ((9007199254740992 : Nat) : Rat) := by
      have e9 : ((9007199254740992 : Nat) : Rat) = 9007199254740992 := rfl
      rw [e9]
      cases s
      · have := hup rfl; rw [sg_f] at *; grind
      · have := hlow rfl; rw [sg_t] at *; grind
    have : c < 9007199254740992 := by exact_mod_cast this
    omega
  obtain ⟨hf, hv, ht⟩ := whole_word s c hcb
  refine ⟨signed s c 0, hf, ?_, ?_, ?_, ht⟩
  · rw [hv, signed_val]; show _ = sg s * (c : Rat) * 1; grind
  all_goals
    rw [signed_val]
    show _
    have e1 : (2 : Rat) ^ (((0 : Nat) : Int)) = 1 := rfl
    rw [e1]
    cases s
    · have := hup rfl; rw [sg_f] at *; grind
    · have := hlow rfl; rw [sg_t] at *; grind

/-! Words that approximate exact numbers. -/
theorem v60 : (2 : Rat) ^ (60 : Int) = 1152921504606846976 := by
  have := p2_cast 60
  rw [show ((60 : Nat) : Int) = 60 by rfl] at this
  rw [← this]; rfl
theorem mid_of {M : Rat} (h1 : 1 / 1152921504606846976 ≤ M) (h2 : M ≤ 1152921504606846976) : Mid M := by
  have a1 : (2 : Rat) ^ (-200 : Int) ≤ (2 : Rat) ^ (-60 : Int) := p2_le (by omega)
  have a2 : (2 : Rat) ^ (60 : Int) ≤ (2 : Rat) ^ (200 : Int) := p2_le (by omega)
  have a3 : (2 : Rat) ^ (-60 : Int) = 1 / 1152921504606846976 := by
    have h : (2 : Rat) ^ (-60 : Int) * (2 : Rat) ^ (60 : Int) = 1 := by rw [← p2_add]; rfl
    rw [v60] at h
    generalize (2 : Rat) ^ (-60 : Int) = z at *
    grind
  rw [v60] at a2
  rw [a3] at a1
  exact ⟨Rat.le_trans a1 h1, Rat.le_trans h2 a2⟩
/-- The word w approximates v, up to e; v is at most B in size. -/
structure Ap (w : Nat) (v e B : Rat) : Prop where
  fin : Fin w
  lo : v - e ≤ fv w
  hi : fv w ≤ v + e
  bl : -B ≤ v
  bh : v ≤ B
theorem Ap.e0 {w : Nat} {v e B : Rat} (h : Ap w v e B) : 0 ≤ e := by have := h.lo; have := h.hi; grind
theorem Ap.B0 {w : Nat} {v e B : Rat} (h : Ap w v e B) : 0 ≤ B := by have := h.bl; have := h.bh; grind
theorem Ap.weak {w : Nat} {v e B e' B' : Rat} (h : Ap w v e B) (he : e ≤ e') (hB : B ≤ B') : Ap w v e' B' :=
  ⟨h.fin, by have := h.lo; grind, by have := h.hi; grind, by have := h.bl; grind, by have := h.bh; grind⟩
theorem Ap.exact {w : Nat} {B : Rat} (h : Fin w) (h1 : -B ≤ fv w) (h2 : fv w ≤ B) : Ap w (fv w) 0 B := ⟨h, by grind, by grind, h1, h2⟩
theorem prod_bd {s t S T : Rat} (h1 : -S ≤ s) (h2 : s ≤ S) (h3 : -T ≤ t) (h4 : t ≤ T) : -(S * T) ≤ s * t ∧ s * t ≤ S * T := by
  have a1 : 0 ≤ S := by grind
  have a2 : 0 ≤ T := by grind
  have b1 := Rat.mul_nonneg (show 0 ≤ S - s by grind) (show 0 ≤ T - t by grind)
  have b2 := Rat.mul_nonneg (show 0 ≤ S + s by grind) (show 0 ≤ T + t by grind)
  have b3 := Rat.mul_nonneg (show 0 ≤ S - s by grind) (show 0 ≤ T + t by grind)
  have b4 := Rat.mul_nonneg (show 0 ≤ S + s by grind) (show 0 ≤ T - t by grind)
  constructor <;> grind
theorem mul_err {x y a b ea eb A B : Rat} (hx1 : a - ea ≤ x) (hx2 : x ≤ a + ea) (hy1 : b - eb ≤ y) (hy2 : y ≤ b + eb) (ha1 : -A ≤ a) (ha2 : a ≤ A) (hb1 : -B ≤ b) (hb2 : b ≤ B) :
    a * b - (ea * B + eb * A + ea * eb) ≤ x * y ∧ x * y ≤ a * b + (ea * B + eb * A + ea * eb) := by
  have p1 := prod_bd (s := x - a) (t := b) (S := ea) (T := B) (by grind) (by grind) hb1 hb2
  have p2 := prod_bd (s := y - b) (t := a) (S := eb) (T := A) (by grind) (by grind) ha1 ha2
  have p3 := prod_bd (s := x - a) (t := y - b) (S := ea) (T := eb) (by grind) (by grind) (by grind) (by grind)
  have e : x * y = a * b + (x - a) * b + (y - b) * a + (x - a) * (y - b) := by grind
  constructor <;> grind
theorem Ap.mul' {a b : Nat} {va vb ea eb Ba Bb : Rat} (ha : Ap a va ea Ba) (hb : Ap b vb eb Bb) (e' B' M : Rat) (hM : Mid M) (h1 : B' + (ea * Bb + eb * Ba + ea * eb) ≤ M) (he : ea * Bb + eb * Ba + ea * eb + M / 9007199254740992 ≤ e') (hB : -B' ≤ va * vb ∧ va * vb ≤ B') :
    double.mul a b = some (fmul a b) ∧ Ap (fmul a b) (va * vb) e' B' := by
  have h := mul_err ha.lo ha.hi hb.lo hb.hi ha.bl ha.bh hb.bl hb.bh
  have hB1 := hB.1
  have hB2 := hB.2
  generalize ea * Bb + eb * Ba + ea * eb = E at *
  obtain ⟨i, f, n⟩ := fmul_ok ha.fin hb.fin M hM (by grind) (by grind)
  unfold Near at n
  exact ⟨i, f, by grind, by grind, hB1, hB2⟩
theorem Ap.mul {a b : Nat} {va vb ea eb Ba Bb : Rat} (ha : Ap a va ea Ba) (hb : Ap b vb eb Bb) (e' B' M : Rat) (hM : Mid M) (h1 : (Ba + ea) * (Bb + eb) ≤ M) (he : ea * Bb + eb * Ba + ea * eb + M / 9007199254740992 ≤ e') (hB : Ba * Bb ≤ B') :
    double.mul a b = some (fmul a b) ∧ Ap (fmul a b) (va * vb) e' B' := by
  have p := prod_bd ha.bl ha.bh hb.bl hb.bh
  obtain ⟨i, w⟩ := Ap.mul' ha hb e' (Ba * Bb) M hM (by grind) he p
  exact ⟨i, w.weak Rat.le_refl hB⟩
theorem Ap.add' {a b : Nat} {va vb ea eb Ba Bb : Rat} (ha : Ap a va ea Ba) (hb : Ap b vb eb Bb) (e' B' M : Rat) (hM : Mid M) (h1 : B' + ea + eb ≤ M) (he : ea + eb + M / 9007199254740992 ≤ e') (hB : -B' ≤ va + vb ∧ va + vb ≤ B') :
    double.add a b = some (fadd a b) ∧ Ap (fadd a b) (va + vb) e' B' := by
  have l1 := ha.lo; have l2 := ha.hi; have l3 := hb.lo; have l4 := hb.hi
  obtain ⟨i, f, n⟩ := fadd_ok ha.fin hb.fin M hM (by grind) (by grind)
  unfold Near at n
  exact ⟨i, f, by grind, by grind, hB.1, hB.2⟩
theorem Ap.add {a b : Nat} {va vb ea eb Ba Bb : Rat} (ha : Ap a va ea Ba) (hb : Ap b vb eb Bb) (e' B' M : Rat) (hM : Mid M) (h1 : B' + ea + eb ≤ M) (he : ea + eb + M / 9007199254740992 ≤ e') (hB : Ba + Bb ≤ B') :
    double.add a b = some (fadd a b) ∧ Ap (fadd a b) (va + vb) e' B' :=
  Ap.add' ha hb e' B' M hM h1 he (by have := ha.bl; have := ha.bh; have := hb.bl; have := hb.bh; constructor <;> grind)
theorem Ap.sub' {a b : Nat} {va vb ea eb Ba Bb : Rat} (ha : Ap a va ea Ba) (hb : Ap b vb eb Bb) (e' B' M : Rat) (hM : Mid M) (h1 : B' + ea + eb ≤ M) (he : ea + eb + M / 9007199254740992 ≤ e') (hB : -B' ≤ va - vb ∧ va - vb ≤ B') :
    double.sub a b = some (fsub a b) ∧ Ap (fsub a b) (va - vb) e' B' := by
  have l1 := ha.lo; have l2 := ha.hi; have l3 := hb.lo; have l4 := hb.hi
  obtain ⟨i, f, n⟩ := fsub_ok ha.fin hb.fin M hM (by grind) (by grind)
  unfold Near at n
  exact ⟨i, f, by grind, by grind, hB.1, hB.2⟩
theorem Ap.sub {a b : Nat} {va vb ea eb Ba Bb : Rat} (ha : Ap a va ea Ba) (hb : Ap b vb eb Bb) (e' B' M : Rat) (hM : Mid M) (h1 : B' + ea + eb ≤ M) (he : ea + eb + M / 9007199254740992 ≤ e') (hB : Ba + Bb ≤ B') :
    double.sub a b = some (fsub a b) ∧ Ap (fsub a b) (va - vb) e' B' :=
  Ap.sub' ha hb e' B' M hM h1 he (by have := ha.bl; have := ha.bh; have := hb.bl; have := hb.bh; constructor <;> grind)
theorem Ap.neg {a : Nat} {va ea Ba : Rat} (ha : Ap a va ea Ba) : Ap (fneg a) (-va) ea Ba := by
  obtain ⟨f, v⟩ := fneg_ok ha.fin
  have l1 := ha.lo; have l2 := ha.hi; have l3 := ha.bl; have l4 := ha.bh
  exact ⟨f, by grind, by grind, by grind, by grind⟩
/-- A word of a literal. -/
theorem fv_lit {w : Nat} {s : Bool} {m k : Nat} (h : double.read w = .number s m (-(k : Int))) : Fin w ∧ fv w = sg s * (m : Rat) / ((2 ^ k : Nat) : Rat) := by
  refine ⟨⟨_, _, _, h⟩, ?_⟩
  rw [fv_fin h, p2_neg, ← p2_nat, ← p2_cast]
  grind

end Go.Proofs.YtdifeoahaegjbaaGreatDoor
/- The sine of Go's math package in plain Lean: what its operations give, exact polynomials, and how far the words are from them. Printed by wip/tools/gen-sin.py. -/
set_option linter.unusedSimpArgs false
set_option linter.unusedVariables false
namespace Go.Proofs.YtdifeoahaegjbaaGreatDoor
open Ieee

def kP : Rat := 5734161139222659 / 4503599627370496
theorem ap_kP : Ap 4608412980311869571 kP 0 (31831 / 25000) := by
  obtain ⟨f, v⟩ := fv_lit (w := 4608412980311869571) (s := false) (m := 5734161139222659) (k := 52) (by decide)
  have e : ((2 ^ 52 : Nat) : Rat) = 4503599627370496 := rfl
  have e2 : ((5734161139222659 : Nat) : Rat) = 5734161139222659 := rfl
  have v2 : fv 4608412980311869571 = kP := by rw [v, e]; (try rw [e2]); unfold kP; rw [sg_f]; grind
  rw [← v2]; exact Ap.exact f (by rw [v2]; unfold kP; grind) (by rw [v2]; unfold kP; grind)
def kA : Rat := 7074237412016128 / 9007199254740992
theorem ap_kA : Ap 4605249456957292544 kA 0 (785399 / 1000000) := by
  obtain ⟨f, v⟩ := fv_lit (w := 4605249456957292544) (s := false) (m := 7074237412016128) (k := 53) (by decide)
  have e : ((2 ^ 53 : Nat) : Rat) = 9007199254740992 := rfl
  have e2 : ((7074237412016128 : Nat) : Rat) = 7074237412016128 := rfl
  have v2 : fv 4605249456957292544 = kA := by rw [v, e]; (try rw [e2]); unfold kA; rw [sg_f]; grind
  rw [← v2]; exact Ap.exact f (by rw [v2]; unfold kA; grind) (by rw [v2]; unfold kA; grind)
def kB : Rat := 5704459598430208 / 151115727451828646838272
theorem ap_kB : Ap 4495793288086814720 kB 0 (37749 / 1000000000000) := by
  obtain ⟨f, v⟩ := fv_lit (w := 4495793288086814720) (s := false) (m := 5704459598430208) (k := 77) (by decide)
  have e : ((2 ^ 77 : Nat) : Rat) = 151115727451828646838272 := rfl
  have e2 : ((5704459598430208 : Nat) : Rat) = 5704459598430208 := rfl
  have v2 : fv 4495793288086814720 = kB := by rw [v, e]; (try rw [e2]); unfold kB; rw [sg_f]; grind
  rw [← v2]; exact Ap.exact f (by rw [v2]; unfold kB; grind) (by rw [v2]; unfold kB; grind)
def kC : Rat := 6833020653556080 / 2535301200456458802993406410752
theorem ap_kC : Ap 4388835458085048688 kC 0 (67379 / 25000000000000000000) := by
  obtain ⟨f, v⟩ := fv_lit (w := 4388835458085048688) (s := false) (m := 6833020653556080) (k := 101) (by decide)
  have e : ((2 ^ 101 : Nat) : Rat) = 2535301200456458802993406410752 := rfl
  have e2 : ((6833020653556080 : Nat) : Rat) = 6833020653556080 := rfl
  have v2 : fv 4388835458085048688 = kC := by rw [v, e]; (try rw [e2]); unfold kC; rw [sg_f]; grind
  rw [← v2]; exact Ap.exact f (by rw [v2]; unfold kC; grind) (by rw [v2]; unfold kC; grind)
def kH : Rat := 4503599627370496 / 9007199254740992
theorem ap_kH : Ap 4602678819172646912 kH 0 (1 / 2) := by
  obtain ⟨f, v⟩ := fv_lit (w := 4602678819172646912) (s := false) (m := 4503599627370496) (k := 53) (by decide)
  have e : ((2 ^ 53 : Nat) : Rat) = 9007199254740992 := rfl
  have e2 : ((4503599627370496 : Nat) : Rat) = 4503599627370496 := rfl
  have v2 : fv 4602678819172646912 = kH := by rw [v, e]; (try rw [e2]); unfold kH; rw [sg_f]; grind
  rw [← v2]; exact Ap.exact f (by rw [v2]; unfold kH; grind) (by rw [v2]; unfold kH; grind)
def kO : Rat := 4503599627370496 / 4503599627370496
theorem ap_kO : Ap 4607182418800017408 kO 0 (1) := by
  obtain ⟨f, v⟩ := fv_lit (w := 4607182418800017408) (s := false) (m := 4503599627370496) (k := 52) (by decide)
  have e : ((2 ^ 52 : Nat) : Rat) = 4503599627370496 := rfl
  have e2 : ((4503599627370496 : Nat) : Rat) = 4503599627370496 := rfl
  have v2 : fv 4607182418800017408 = kO := by rw [v, e]; (try rw [e2]); unfold kO; rw [sg_f]; grind
  rw [← v2]; exact Ap.exact f (by rw [v2]; unfold kO; grind) (by rw [v2]; unfold kO; grind)
def kS0 : Rat := 6149556183080141 / 38685626227668133590597632
theorem ap_kS0 : Ap 4460209587652500685 kS0 0 (158963 / 1000000000000000) := by
  obtain ⟨f, v⟩ := fv_lit (w := 4460209587652500685) (s := false) (m := 6149556183080141) (k := 85) (by decide)
  have e : ((2 ^ 85 : Nat) : Rat) = 38685626227668133590597632 := rfl
  have e2 : ((6149556183080141 : Nat) : Rat) = 6149556183080141 := rfl
  have v2 : fv 4460209587652500685 = kS0 := by rw [v, e]; (try rw [e2]); unfold kS0; rw [sg_f]; grind
  rw [← v2]; exact Ap.exact f (by rw [v2]; unfold kS0; grind) (by rw [v2]; unfold kS0; grind)
def kC0 : Rat := -7030593573755547 / 618970019642690137449562112
theorem ap_kC0 : Ap 13666448263388469915 kC0 0 (56793 / 5000000000000000) := by
  obtain ⟨f, v⟩ := fv_lit (w := 13666448263388469915) (s := true) (m := 7030593573755547) (k := 89) (by decide)
  have e : ((2 ^ 89 : Nat) : Rat) = 618970019642690137449562112 := rfl
  have e2 : ((7030593573755547 : Nat) : Rat) = 7030593573755547 := rfl
  have v2 : fv 13666448263388469915 = kC0 := by rw [v, e]; (try rw [e2]); unfold kC0; rw [sg_t]; grind
  rw [← v2]; exact Ap.exact f (by rw [v2]; unfold kC0; grind) (by rw [v2]; unfold kC0; grind)
def kS1 : Rat := -7571123942793053 / 302231454903657293676544
theorem ap_kS1 : Ap 13716528389658582877 kS1 0 (62627 / 2500000000000) := by
  obtain ⟨f, v⟩ := fv_lit (w := 13716528389658582877) (s := true) (m := 7571123942793053) (k := 78) (by decide)
  have e : ((2 ^ 78 : Nat) : Rat) = 302231454903657293676544 := rfl
  have e2 : ((7571123942793053 : Nat) : Rat) = 7571123942793053 := rfl
  have v2 : fv 13716528389658582877 = kS1 := by rw [v, e]; (try rw [e2]); unfold kS1; rw [sg_t]; grind
  rw [← v2]; exact Ap.exact f (by rw [v2]; unfold kS1; grind) (by rw [v2]; unfold kS1; grind)
def kC1 : Rat := 5047434750082821 / 2417851639229258349412352
theorem ap_kC1 : Ap 4477121864728985349 kC1 0 (104379 / 50000000000000) := by
  obtain ⟨f, v⟩ := fv_lit (w := 4477121864728985349) (s := false) (m := 5047434750082821) (k := 81) (by decide)
  have e : ((2 ^ 81 : Nat) : Rat) = 2417851639229258349412352 := rfl
  have e2 : ((5047434750082821 : Nat) : Rat) = 5047434750082821 := rfl
  have v2 : fv 4477121864728985349 = kC1 := by rw [v, e]; (try rw [e2]); unfold kC1; rw [sg_f]; grind
  rw [← v2]; exact Ap.exact f (by rw [v2]; unfold kC1; grind) (by rw [v2]; unfold kC1; grind)
def kS2 : Rat := 6506786710177953 / 2361183241434822606848
theorem ap_kS2 : Ap 4523617212962785441 kS2 0 (137787 / 50000000000) := by
  obtain ⟨f, v⟩ := fv_lit (w := 4523617212962785441) (s := false) (m := 6506786710177953) (k := 71) (by decide)
  have e : ((2 ^ 71 : Nat) : Rat) = 2361183241434822606848 := rfl
  have e2 : ((6506786710177953 : Nat) : Rat) = 6506786710177953 := rfl
  have v2 : fv 4523617212962785441 = kS2 := by rw [v, e]; (try rw [e2]); unfold kS2; rw [sg_f]; grind
  rw [← v2]; exact Ap.exact f (by rw [v2]; unfold kS2; grind) (by rw [v2]; unfold kS2; grind)
def kC2 : Rat := -5205429473528774 / 18889465931478580854784
theorem ap_kC2 : Ap 13732177093698800582 kC2 0 (137787 / 500000000000) := by
  obtain ⟨f, v⟩ := fv_lit (w := 13732177093698800582) (s := true) (m := 5205429473528774) (k := 74) (by decide)
  have e : ((2 ^ 74 : Nat) : Rat) = 18889465931478580854784 := rfl
  have e2 : ((5205429473528774 : Nat) : Rat) = 5205429473528774 := rfl
  have v2 : fv 13732177093698800582 = kC2 := by rw [v, e]; (try rw [e2]); unfold kC2; rw [sg_t]; grind
  rw [← v2]; exact Ap.exact f (by rw [v2]; unfold kC2; grind) (by rw [v2]; unfold kC2; grind)
def kS3 : Rat := -7320136532877059 / 36893488147419103232
theorem ap_kS3 : Ap 13774824197404483331 kS3 0 (198413 / 1000000000) := by
  obtain ⟨f, v⟩ := fv_lit (w := 13774824197404483331) (s := true) (m := 7320136532877059) (k := 65) (by decide)
  have e : ((2 ^ 65 : Nat) : Rat) = 36893488147419103232 := rfl
  have e2 : ((7320136532877059 : Nat) : Rat) = 7320136532877059 := rfl
  have v2 : fv 13774824197404483331 = kS3 := by rw [v, e]; (try rw [e2]); unfold kS3; rw [sg_t]; grind
  rw [← v2]; exact Ap.exact f (by rw [v2]; unfold kS3; grind) (by rw [v2]; unfold kS3; grind)
def kC3 : Rat := 7320136533427445 / 295147905179352825856
theorem ap_kC3 : Ap 4537941361668146421 kC3 0 (15501 / 625000000) := by
  obtain ⟨f, v⟩ := fv_lit (w := 4537941361668146421) (s := false) (m := 7320136533427445) (k := 68) (by decide)
  have e : ((2 ^ 68 : Nat) : Rat) = 295147905179352825856 := rfl
  have e2 : ((7320136533427445 : Nat) : Rat) = 7320136533427445 := rfl
  have v2 : fv 4537941361668146421 = kC3 := by rw [v, e]; (try rw [e2]); unfold kC3; rw [sg_f]; grind
  rw [← v2]; exact Ap.exact f (by rw [v2]; unfold kC3; grind) (by rw [v2]; unfold kC3; grind)
def kS4 : Rat := 4803839602522064 / 576460752303423488
theorem ap_kS4 : Ap 4575957461383575504 kS4 0 (416667 / 50000000) := by
  obtain ⟨f, v⟩ := fv_lit (w := 4575957461383575504) (s := false) (m := 4803839602522064) (k := 59) (by decide)
  have e : ((2 ^ 59 : Nat) : Rat) = 576460752303423488 := rfl
  have e2 : ((4803839602522064 : Nat) : Rat) = 4803839602522064 := rfl
  have v2 : fv 4575957461383575504 = kS4 := by rw [v, e]; (try rw [e2]); unfold kS4; rw [sg_f]; grind
  rw [← v2]; exact Ap.exact f (by rw [v2]; unfold kS4; grind) (by rw [v2]; unfold kS4; grind)
def kC4 : Rat := -6405119470030737 / 4611686018427387904
theorem ap_kC4 : Ap 13787419979223748497 kC4 0 (138889 / 100000000) := by
  obtain ⟨f, v⟩ := fv_lit (w := 13787419979223748497) (s := true) (m := 6405119470030737) (k := 62) (by decide)
  have e : ((2 ^ 62 : Nat) : Rat) = 4611686018427387904 := rfl
  have e2 : ((6405119470030737 : Nat) : Rat) = 6405119470030737 := rfl
  have v2 : fv 13787419979223748497 = kC4 := by rw [v, e]; (try rw [e2]); unfold kC4; rw [sg_t]; grind
  rw [← v2]; exact Ap.exact f (by rw [v2]; unfold kC4; grind) (by rw [v2]; unfold kC4; grind)
def kS5 : Rat := -6004799503160648 / 36028797018963968
theorem ap_kS5 : Ap 13818544856648471880 kS5 0 (166667 / 1000000) := by
  obtain ⟨f, v⟩ := fv_lit (w := 13818544856648471880) (s := true) (m := 6004799503160648) (k := 55) (by decide)
  have e : ((2 ^ 55 : Nat) : Rat) = 36028797018963968 := rfl
  have e2 : ((6004799503160648 : Nat) : Rat) = 6004799503160648 := rfl
  have v2 : fv 13818544856648471880 = kS5 := by rw [v, e]; (try rw [e2]); unfold kS5; rw [sg_t]; grind
  rw [← v2]; exact Ap.exact f (by rw [v2]; unfold kS5; grind) (by rw [v2]; unfold kS5; grind)
def kC5 : Rat := 6004799503160651 / 144115188075855872
theorem ap_kC5 : Ap 4586165620538955083 kC5 0 (416667 / 10000000) := by
  obtain ⟨f, v⟩ := fv_lit (w := 4586165620538955083) (s := false) (m := 6004799503160651) (k := 57) (by decide)
  have e : ((2 ^ 57 : Nat) : Rat) = 144115188075855872 := rfl
  have e2 : ((6004799503160651 : Nat) : Rat) = 6004799503160651 := rfl
  have v2 : fv 4586165620538955083 = kC5 := by rw [v, e]; (try rw [e2]); unfold kC5; rw [sg_f]; grind
  rw [← v2]; exact Ap.exact f (by rw [v2]; unfold kC5; grind) (by rw [v2]; unfold kC5; grind)

/-- The polynomials of the sine and of the cosine. -/
def PS (Z : Rat) : Rat := Z + Z * (Z * Z) * (((((kS0 * (Z * Z) + kS1) * (Z * Z) + kS2) * (Z * Z) + kS3) * (Z * Z) + kS4) * (Z * Z) + kS5)
def PC (Z : Rat) : Rat := kO - kH * (Z * Z) + Z * Z * (Z * Z) * (((((kC0 * (Z * Z) + kC1) * (Z * Z) + kC2) * (Z * Z) + kC3) * (Z * Z) + kC4) * (Z * Z) + kC5)
def wS' (z zz : Nat) : Nat := fadd z (fmul (fmul z zz) (fadd (fmul (fadd (fmul (fadd (fmul (fadd (fmul (fadd (fmul 4460209587652500685 zz) 13716528389658582877) zz) 4523617212962785441) zz) 13774824197404483331) zz) 4575957461383575504) zz) 13818544856648471880))
def wC' (zz : Nat) : Nat := fadd (fsub 4607182418800017408 (fmul 4602678819172646912 zz)) (fmul (fmul zz zz) (fadd (fmul (fadd (fmul (fadd (fmul (fadd (fmul (fadd (fmul 13666448263388469915 zz) 4477121864728985349) zz) 13732177093698800582) zz) 4537941361668146421) zz) 13787419979223748497) zz) 4586165620538955083))
def wS (z : Nat) : Nat := wS' z (fmul z z)
def wC (z : Nat) : Nat := wC' (fmul z z)
theorem wS_ok {z : Nat} {Z : Rat} (hz : Ap z Z (1 / 100000000000000) (393 / 500)) : ∃ r1 r2 r3 r4 r5 r6 r7 r8 r9 r10 r11 r12 r13 r14 : Nat, (floatBits .mul .f64 z z = some r1) ∧ (floatBits .mul .f64 z r1 = some r2) ∧ (floatBits .mul .f64 4460209587652500685 r1 = some r3) ∧ (floatBits .add .f64 r3 13716528389658582877 = some r4) ∧ (floatBits .mul .f64 r4 r1 = some r5) ∧ (floatBits .add .f64 r5 4523617212962785441 = some r6) ∧ (floatBits .mul .f64 r6 r1 = some r7) ∧ (floatBits .add .f64 r7 13774824197404483331 = some r8) ∧ (floatBits .mul .f64 r8 r1 = some r9) ∧ (floatBits .add .f64 r9 4575957461383575504 = some r10) ∧ (floatBits .mul .f64 r10 r1 = some r11) ∧ (floatBits .add .f64 r11 13818544856648471880 = some r12) ∧ (floatBits .mul .f64 r2 r12 = some r13) ∧ (floatBits .add .f64 z r13 = some r14) ∧ r14 = wS z ∧ Ap r14 (PS Z) (27 / 2000000000000000) (87 / 100) := by
  obtain ⟨is1, s1⟩ := Ap.mul hz hz (79 / 5000000000000000) (309 / 500) (309 / 500) (mid_of (by grind) (by grind)) (by grind) (by grind) (by grind)
  obtain ⟨is2, s2⟩ := Ap.mul hz s1 (187 / 10000000000000000) (243 / 500) (243 / 500) (mid_of (by grind) (by grind)) (by grind) (by grind) (by grind)
  obtain ⟨is3, s3⟩ := Ap.mul ap_kS0 s1 (253 / 100000000000000000000000000) (983 / 10000000000000) (983 / 10000000000000) (mid_of (by grind) (by grind)) (by grind) (by grind) (by grind)
  obtain ⟨is4, s4⟩ := Ap.add s3 ap_kS1 (267 / 50000000000000000000000000) (63 / 2500000000) (253 / 10000000000) (mid_of (by grind) (by grind)) (by grind) (by grind) (by grind)
  obtain ⟨is5, s5⟩ := Ap.mul s4 s1 (101 / 250000000000000000000000) (39 / 2500000000) (39 / 2500000000) (mid_of (by grind) (by grind)) (by grind) (by grind) (by grind)
  obtain ⟨is6, s6⟩ := Ap.add s5 ap_kS2 (357 / 500000000000000000000000) (139 / 50000000) (279 / 100000000) (mid_of (by grind) (by grind)) (by grind) (by grind) (by grind)
  obtain ⟨is7, s7⟩ := Ap.mul s6 s1 (223 / 5000000000000000000000) (43 / 25000000) (43 / 25000000) (mid_of (by grind) (by grind)) (by grind) (by grind) (by grind)
  obtain ⟨is8, s8⟩ := Ap.add s7 ap_kS3 (671 / 10000000000000000000000) (201 / 1000000) (101 / 500000) (mid_of (by grind) (by grind)) (by grind) (by grind) (by grind)
  obtain ⟨is9, s9⟩ := Ap.mul s8 s1 (81 / 25000000000000000000) (1 / 8000) (1 / 8000) (mid_of (by grind) (by grind)) (by grind) (by grind) (by grind)
  obtain ⟨is10, s10⟩ := Ap.add s9 ap_kS4 (419 / 100000000000000000000) (423 / 50000) (847 / 100000) (mid_of (by grind) (by grind)) (by grind) (by grind) (by grind)
  obtain ⟨is11, s11⟩ := Ap.mul s10 s1 (137 / 1000000000000000000) (523 / 100000) (523 / 100000) (mid_of (by grind) (by grind)) (by grind) (by grind) (by grind)
  obtain ⟨is12, s12⟩ := Ap.add s11 ap_kS5 (157 / 1000000000000000000) (43 / 250) (173 / 1000) (mid_of (by grind) (by grind)) (by grind) (by grind) (by grind)
  obtain ⟨is13, s13⟩ := Ap.mul s2 s12 (331 / 100000000000000000) (209 / 2500) (209 / 2500) (mid_of (by grind) (by grind)) (by grind) (by grind) (by grind)
  obtain ⟨is14, s14⟩ := Ap.add hz s13 (27 / 2000000000000000) (87 / 100) (871 / 1000) (mid_of (by grind) (by grind)) (by grind) (by grind) (by grind)
  exact ⟨_, _, _, _, _, _, _, _, _, _, _, _, _, _, is1, is2, is3, is4, is5, is6, is7, is8, is9, is10, is11, is12, is13, is14, rfl, s14⟩
theorem wC_ok {z : Nat} {Z : Rat} (hz : Ap z Z (1 / 100000000000000) (393 / 500)) : ∃ r1 r2 r3 r4 r5 r6 r7 r8 r9 r10 r11 r12 r13 r14 r15 r16 : Nat, (floatBits .mul .f64 z z = some r1) ∧ (floatBits .mul .f64 4602678819172646912 r1 = some r2) ∧ (floatBits .sub .f64 4607182418800017408 r2 = some r3) ∧ (floatBits .mul .f64 r1 r1 = some r4) ∧ (floatBits .mul .f64 13666448263388469915 r1 = some r5) ∧ (floatBits .add .f64 r5 4477121864728985349 = some r6) ∧ (floatBits .mul .f64 r6 r1 = some r7) ∧ (floatBits .add .f64 r7 13732177093698800582 = some r8) ∧ (floatBits .mul .f64 r8 r1 = some r9) ∧ (floatBits .add .f64 r9 4537941361668146421 = some r10) ∧ (floatBits .mul .f64 r10 r1 = some r11) ∧ (floatBits .add .f64 r11 13787419979223748497 = some r12) ∧ (floatBits .mul .f64 r12 r1 = some r13) ∧ (floatBits .add .f64 r13 4586165620538955083 = some r14) ∧ (floatBits .mul .f64 r4 r14 = some r15) ∧ (floatBits .add .f64 r3 r15 = some r16) ∧ r16 = wC z ∧ Ap r16 (PC Z) (909 / 100000000000000000) (133 / 100) := by
  obtain ⟨is1, s1⟩ := Ap.mul hz hz (79 / 5000000000000000) (309 / 500) (309 / 500) (mid_of (by grind) (by grind)) (by grind) (by grind) (by grind)
  obtain ⟨is2, s2⟩ := Ap.mul ap_kH s1 (397 / 50000000000000000) (309 / 1000) (31 / 100) (mid_of (by grind) (by grind)) (by grind) (by grind) (by grind)
  obtain ⟨is3, s3⟩ := Ap.sub ap_kO s2 (809 / 100000000000000000) (131 / 100) (33 / 25) (mid_of (by grind) (by grind)) (by grind) (by grind) (by grind)
  obtain ⟨is4, s4⟩ := Ap.mul s1 s1 (49 / 2500000000000000) (191 / 500) (191 / 500) (mid_of (by grind) (by grind)) (by grind) (by grind) (by grind)
  obtain ⟨is5, s5⟩ := Ap.mul ap_kC0 s1 (181 / 1000000000000000000000000000) (351 / 50000000000000) (351 / 50000000000000) (mid_of (by grind) (by grind)) (by grind) (by grind) (by grind)
  obtain ⟨is6, s6⟩ := Ap.add s5 ap_kC1 (13 / 31250000000000000000000000) (21 / 10000000000) (211 / 100000000000) (mid_of (by grind) (by grind)) (by grind) (by grind) (by grind)
  obtain ⟨is7, s7⟩ := Ap.mul s6 s1 (21 / 625000000000000000000000) (13 / 10000000000) (13 / 10000000000) (mid_of (by grind) (by grind)) (by grind) (by grind) (by grind)
  obtain ⟨is8, s8⟩ := Ap.add s7 ap_kC2 (129 / 2000000000000000000000000) (277 / 1000000000) (139 / 500000000) (mid_of (by grind) (by grind)) (by grind) (by grind) (by grind)
  obtain ⟨is9, s9⟩ := Ap.mul s8 s1 (111 / 25000000000000000000000) (43 / 250000000) (43 / 250000000) (mid_of (by grind) (by grind)) (by grind) (by grind) (by grind)
  obtain ⟨is10, s10⟩ := Ap.add s9 ap_kC3 (723 / 100000000000000000000000) (1 / 40000) (251 / 10000000) (mid_of (by grind) (by grind)) (by grind) (by grind) (by grind)
  obtain ⟨is11, s11⟩ := Ap.mul s10 s1 (201 / 500000000000000000000) (31 / 2000000) (31 / 2000000) (mid_of (by grind) (by grind)) (by grind) (by grind) (by grind)
  obtain ⟨is12, s12⟩ := Ap.add s11 ap_kC4 (7 / 12500000000000000000) (141 / 100000) (71 / 50000) (mid_of (by grind) (by grind)) (by grind) (by grind) (by grind)
  obtain ⟨is13, s13⟩ := Ap.mul s12 s1 (57 / 2500000000000000000) (109 / 125000) (109 / 125000) (mid_of (by grind) (by grind)) (by grind) (by grind) (by grind)
  obtain ⟨is14, s14⟩ := Ap.add s13 ap_kC5 (69 / 2500000000000000000) (213 / 5000) (427 / 10000) (mid_of (by grind) (by grind)) (by grind) (by grind) (by grind)
  obtain ⟨is15, s15⟩ := Ap.mul s4 s14 (53 / 62500000000000000) (163 / 10000) (163 / 10000) (mid_of (by grind) (by grind)) (by grind) (by grind) (by grind)
  obtain ⟨is16, s16⟩ := Ap.add s3 s15 (909 / 100000000000000000) (133 / 100) (67 / 50) (mid_of (by grind) (by grind)) (by grind) (by grind) (by grind)
  exact ⟨_, _, _, _, _, _, _, _, _, _, _, _, _, _, _, _, is1, is2, is3, is4, is5, is6, is7, is8, is9, is10, is11, is12, is13, is14, is15, is16, rfl, s16⟩
/-- The quarter of pi that the reduction takes away, y times. -/
def qq : Rat := kA + kB + kC
def octz (x y : Nat) : Nat := fsub (fsub (fsub x (fmul y 4605249456957292544)) (fmul y 4495793288086814720)) (fmul y 4388835458085048688)
theorem octz_ok {x y : Nat} {X Y : Rat} (hx : Ap x X 0 7) (hy : Ap y Y 0 8) (h1 : -(1571 / 2000) ≤ X - Y * kA ∧ X - Y * kA ≤ 1571 / 2000) (h2 : -(1571 / 2000) ≤ X - Y * kA - Y * kB ∧ X - Y * kA - Y * kB ≤ 1571 / 2000) (h3 : -(1571 / 2000) ≤ X - Y * kA - Y * kB - Y * kC ∧ X - Y * kA - Y * kB - Y * kC ≤ 1571 / 2000) : ∃ r1 r2 r3 r4 r5 r6 : Nat, (floatBits .mul .f64 y 4605249456957292544 = some r1) ∧ (floatBits .sub .f64 x r1 = some r2) ∧ (floatBits .mul .f64 y 4495793288086814720 = some r3) ∧ (floatBits .sub .f64 r2 r3 = some r4) ∧ (floatBits .mul .f64 y 4388835458085048688 = some r5) ∧ (floatBits .sub .f64 r4 r5 = some r6) ∧ r6 = octz x y ∧ Ap r6 (X - Y * kA - Y * kB - Y * kC) (963 / 1000000000000000000) (1571 / 2000) := by
  obtain ⟨is1, s1⟩ := Ap.mul hy ap_kA (699 / 1000000000000000000) (629 / 100) (629 / 100) (mid_of (by grind) (by grind)) (by grind) (by grind) (by grind)
  obtain ⟨is2, s2⟩ := Ap.sub' hx s1 (787 / 1000000000000000000) (1571 / 2000) (393 / 500) (mid_of (by grind) (by grind)) (by grind) (by grind) h1
  obtain ⟨is3, s3⟩ := Ap.mul hy ap_kB (21 / 625000000000000000000000) (151 / 500000000) (151 / 500000000) (mid_of (by grind) (by grind)) (by grind) (by grind) (by grind)
  obtain ⟨is4, s4⟩ := Ap.sub' s2 s3 (7 / 8000000000000000) (1571 / 2000) (393 / 500) (mid_of (by grind) (by grind)) (by grind) (by grind) h2
  obtain ⟨is5, s5⟩ := Ap.mul hy ap_kC (3 / 1250000000000000000000000000000) (27 / 1250000000000000) (27 / 1250000000000000) (mid_of (by grind) (by grind)) (by grind) (by grind) (by grind)
  obtain ⟨is6, s6⟩ := Ap.sub' s4 s5 (963 / 1000000000000000000) (1571 / 2000) (393 / 500) (mid_of (by grind) (by grind)) (by grind) (by grind) h3
  exact ⟨_, _, _, _, _, _, is1, is2, is3, is4, is5, is6, rfl, s6⟩
end Go.Proofs.YtdifeoahaegjbaaGreatDoor
/- The sine's octants in plain Lean: which octant, which polynomial. -/
set_option linter.unusedSimpArgs false
set_option linter.unusedVariables false
namespace Go.Proofs.YtdifeoahaegjbaaGreatDoor
open Ieee

/-- The octant of a word. -/
def sinJ (x : Nat) : Nat := (((double.read (fmul x 4608412980311869571)).toInt .zero).getD 0).toNat
def evJ (j : Nat) : Nat := j + j % 2
def sinR (e z : Nat) : Nat := match e with | 0 => wS z | 2 => wC z | 4 => fneg (wS z) | 6 => fneg (wC z) | 8 => wS z | _ => 0
def cosR (e z : Nat) : Nat := match e with | 0 => wC z | 2 => fneg (wS z) | 4 => fneg (wC z) | 6 => wS z | 8 => wC z | _ => 0
def redZ (x : Nat) : Nat := octz x (floatOfInt .f64 ((evJ (sinJ x) : Nat) : Int))
/-- The sine of a word from 0 to 7. -/
def sinB (x : Nat) : Nat := if double.order x 0 = some .eq then x else sinR (evJ (sinJ x)) (redZ x)
/-- The cosine of a word from 0 to 7. -/
def cosB (x : Nat) : Nat := cosR (evJ (sinJ x)) (redZ x)

theorem floatBits_mul (x y : Nat) : floatBits .mul .f64 x y = double.mul x y := rfl
structure OctJ (x : Nat) (X : Rat) (j : Nat) : Prop where
  le : j ≤ 8
  eq : sinJ x = j
  mul : floatBits .mul .f64 x 4608412980311869571 = some (fmul x 4608412980311869571)
  int : floatToIntVal .f64 (fmul x 4608412980311869571) .u64 = some (j : Int)
  lo : (j : Rat) - 2 / 1000000000000000 ≤ X * kP
  hi : X * kP ≤ (j : Rat) + 1 + 2 / 1000000000000000
theorem octJ_ok {x : Nat} (hf : Fin x) (h0 : 0 ≤ fv x) (h7 : fv x ≤ 7) : ∃ j, OctJ x (fv x) j := by
  have hx : Ap x (fv x) 0 7 := Ap.exact hf (by grind) h7
  obtain ⟨i1, s1⟩ := Ap.mul hx ap_kP (1 / 1000000000000000) (9) (9) (mid_of (by grind) (by grind)) (by grind) (by grind) (by grind)
  have hp0 : 0 ≤ fv x * kP := Rat.mul_nonneg h0 (by unfold kP; grind)
  have hp9 : fv x * kP ≤ 7 * (127324 / 100000) := by
    unfold kP
    grind
  have l1 := s1.lo; have l2 := s1.hi
  obtain ⟨k, hk, k1, k2⟩ := toInt_ok s1.fin
  have hki : 0 ≤ k ∧ k ≤ 8 ∧ (k : Rat) - 2 / 1000000000000000 ≤ fv x * kP ∧ fv x * kP ≤ (k : Rat) + 1 + 2 / 1000000000000000 := by
    rcases Rat.le_total (a := 0) (b := fv (fmul x 4608412980311869571)) with c | c
    · obtain ⟨a1, a2, a3⟩ := k1 c
      refine ⟨a3, ?_, by grind, by grind⟩
      have : (k : Rat) < ((9 : Int) : Rat) := by
        have e9 : ((9 : Int) : Rat) = 9 := rfl
        rw [e9]; grind
      have : k < 9 := by exact_mod_cast this
      omega
    · obtain ⟨a1, a2, a3⟩ := k2 c
      have : ((-1 : Int) : Rat) < (k : Rat) := by
        have e9 : ((-1 : Int) : Rat) = -1 := rfl
        rw [e9]; grind
      have : -1 < k := by exact_mod_cast this
      have hk0 : k = 0 := by omega
      subst hk0
      have e0 : ((0 : Int) : Rat) = 0 := rfl
      rw [e0]
      exact ⟨by omega, by omega, by grind, by grind⟩
  obtain ⟨b1, b2, b3, b4⟩ := hki
  obtain ⟨j, rfl⟩ := Int.eq_ofNat_of_zero_le b1
  refine ⟨j, by omega, ?_, i1, ?_, ?_, ?_⟩
  · unfold sinJ; rw [hk]; simp
  · unfold floatToIntVal
    have : (FloatKind.f64.decode (fmul x 4608412980311869571)).toInt .zero = some (j : Int) := hk
    rw [this]
    dsimp only
    rw [if_pos]
    have m1 : IntKind.u64.min = 0 := rfl
    have m2 : IntKind.u64.max = 18446744073709551615 := rfl
    rw [m1, m2]; omega
  · have : ((j : Nat) : Int) = (j : Int) := rfl
    rw [Rat.intCast_natCast] at b3; exact b3
  · rw [Rat.intCast_natCast] at b4; exact b4

/-- The reduced word: how it comes about, and what it stands for. -/
structure OctZ (x : Nat) (e : Nat) (yw z : Nat) : Prop where
  eq : z = redZ x
  steps : ∃ r1 r2 r3 r4 r5 : Nat, floatBits .mul .f64 yw 4605249456957292544 = some r1 ∧ floatBits .sub .f64 x r1 = some r2 ∧ floatBits .mul .f64 yw 4495793288086814720 = some r3 ∧ floatBits .sub .f64 r2 r3 = some r4 ∧ floatBits .mul .f64 yw 4388835458085048688 = some r5 ∧ floatBits .sub .f64 r4 r5 = some z
  ap : Ap z (fv x - (e : Rat) * qq) (2 / 1000000000000000) (393 / 500)
theorem yw_ok (e : Nat) (he : e ≤ 8) : Ap (floatOfInt .f64 (e : Int)) (e : Rat) 0 8 := by
  obtain ⟨f, v⟩ := fint_ok (e : Int) (by omega) (by omega)
  rw [Rat.intCast_natCast] at v
  have h1 := nat_nonneg e
  have h2 : (e : Rat) ≤ ((8 : Nat) : Rat) := by exact_mod_cast he
  have e8 : ((8 : Nat) : Rat) = 8 := rfl
  rw [e8] at h2
  rw [← v]
  exact Ap.exact f (by rw [v]; grind) (by rw [v]; grind)
theorem octZ_ok {x : Nat} (hf : Fin x) (h0 : 0 ≤ fv x) (h7 : fv x ≤ 7) {j : Nat} (h : OctJ x (fv x) j) : ∃ z, OctZ x (evJ j) (floatOfInt .f64 ((evJ j : Nat) : Int)) z := by
  have hx : Ap x (fv x) 0 7 := Ap.exact hf (by grind) h7
  have he : evJ j ≤ 8 := by unfold evJ; have := h.le; omega
  have hy := yw_ok (evJ j) he
  obtain ⟨E, hE⟩ : ∃ E : Rat, E = ((evJ j : Nat) : Rat) := ⟨_, rfl⟩
  have hl := h.lo; have hh := h.hi
  have hj0 := nat_nonneg j
  have hj8 : (j : Rat) ≤ 8 := by
    have : (j : Rat) ≤ ((8 : Nat) : Rat) := by exact_mod_cast h.le
    have e8 : ((8 : Nat) : Rat) = 8 := rfl
    rw [e8] at this; exact this
  have hJ : E = (j : Rat) ∨ E = (j : Rat) + 1 := by
    rw [hE]; unfold evJ
    rcases Nat.mod_two_eq_zero_or_one j with c | c
    · left; rw [c]; rfl
    · right; rw [c, Rat.natCast_add]; rfl
  rw [← hE] at hy
  have h1 : -(1571 / 2000) ≤ fv x - E * kA ∧ fv x - E * kA ≤ 1571 / 2000 := by
    unfold kA; unfold kP at hl hh
    rcases hJ with c | c <;> rw [c] <;> constructor <;> grind
  have h2 : -(1571 / 2000) ≤ fv x - E * kA - E * kB ∧ fv x - E * kA - E * kB ≤ 1571 / 2000 := by
    unfold kA kB; unfold kP at hl hh
    rcases hJ with c | c <;> rw [c] <;> constructor <;> grind
  have h3 : -(1571 / 2000) ≤ fv x - E * kA - E * kB - E * kC ∧ fv x - E * kA - E * kB - E * kC ≤ 1571 / 2000 := by
    unfold kA kB kC; unfold kP at hl hh
    rcases hJ with c | c <;> rw [c] <;> constructor <;> grind
  obtain ⟨r1, r2, r3, r4, r5, r6, i1, i2, i3, i4, i5, i6, hz, ap⟩ := octz_ok hx hy h1 h2 h3
  refine ⟨r6, ?_, ⟨r1, r2, r3, r4, r5, i1, i2, i3, i4, i5, i6⟩, ?_⟩
  · rw [hz]; unfold redZ; rw [h.eq]
  · have e : fv x - E * kA - E * kB - E * kC = fv x - ((evJ j : Nat) : Rat) * qq := by rw [← hE]; unfold qq; grind
    rw [← e]
    exact ap.weak (by grind) (by grind)
end Go.Proofs.YtdifeoahaegjbaaGreatDoor
/- How far the words of sines and cosines are from the polynomials. Plain. -/
set_option linter.unusedSimpArgs false
set_option linter.unusedVariables false
namespace Go.Proofs.YtdifeoahaegjbaaGreatDoor
open Ieee

/-- The sine and the cosine at t behind the e-th eighth of a turn. -/
def sgnP (e : Nat) (t : Rat) : Rat := match e with | 0 => PS t | 2 => PC t | 4 => -PS t | 6 => -PC t | 8 => PS t | _ => 0
def sgnC (e : Nat) (t : Rat) : Rat := match e with | 0 => PC t | 2 => -PS t | 4 => -PC t | 6 => PS t | 8 => PC t | _ => 0
theorem wS_ap {z : Nat} {Z : Rat} (h : Ap z Z (1 / 100000000000000) (393 / 500)) : Ap (wS z) (PS Z) (14 / 1000000000000000) (133 / 100) := by
  obtain ⟨r1, r2, r3, r4, r5, r6, r7, r8, r9, r10, r11, r12, r13, r14, _, _, _, _, _, _, _, _, _, _, _, _, _, _, e, a⟩ := wS_ok h
  rw [← e]; exact a.weak (by grind) (by grind)
theorem wC_ap {z : Nat} {Z : Rat} (h : Ap z Z (1 / 100000000000000) (393 / 500)) : Ap (wC z) (PC Z) (14 / 1000000000000000) (133 / 100) := by
  obtain ⟨r1, r2, r3, r4, r5, r6, r7, r8, r9, r10, r11, r12, r13, r14, r15, r16, _, _, _, _, _, _, _, _, _, _, _, _, _, _, _, _, e, a⟩ := wC_ok h
  rw [← e]; exact a.weak (by grind) (by grind)
theorem sinR_ap {z e : Nat} {Z : Rat} (h : Ap z Z (1 / 100000000000000) (393 / 500)) (he : e % 2 = 0) (h8 : e ≤ 8) : Ap (sinR e z) (sgnP e Z) (14 / 1000000000000000) (133 / 100) := by
  rcases (by omega : e = 0 ∨ e = 2 ∨ e = 4 ∨ e = 6 ∨ e = 8) with rfl | rfl | rfl | rfl | rfl
  · exact wS_ap h
  · exact wC_ap h
  · exact (wS_ap h).neg
  · exact (wC_ap h).neg
  · exact wS_ap h
theorem cosR_ap {z e : Nat} {Z : Rat} (h : Ap z Z (1 / 100000000000000) (393 / 500)) (he : e % 2 = 0) (h8 : e ≤ 8) : Ap (cosR e z) (sgnC e Z) (14 / 1000000000000000) (133 / 100) := by
  rcases (by omega : e = 0 ∨ e = 2 ∨ e = 4 ∨ e = 6 ∨ e = 8) with rfl | rfl | rfl | rfl | rfl
  · exact wC_ap h
  · exact (wS_ap h).neg
  · exact (wC_ap h).neg
  · exact wS_ap h
  · exact wC_ap h
/-- The octant of a word, and the reduced word with respect to an angle near to it. -/
theorem oct_near {x : Nat} (hf : Fin x) (h0 : 0 ≤ fv x) (h7 : fv x ≤ 7) {θ : Rat} (h1 : fv x - 7 / 1000000000000000 ≤ θ) (h2 : θ ≤ fv x + 7 / 1000000000000000) :
    ∃ e : Nat, e = evJ (sinJ x) ∧ e % 2 = 0 ∧ e ≤ 8 ∧ Ap (redZ x) (θ - (e : Rat) * qq) (1 / 100000000000000) (393 / 500) ∧ ((e : Rat) - 1) * qq - 1 / 10000000000000 ≤ θ ∧ θ ≤ ((e : Rat) + 1) * qq + 1 / 10000000000000 := by
  obtain ⟨j, hj⟩ := octJ_ok hf h0 h7
  obtain ⟨z, hz⟩ := octZ_ok hf h0 h7 hj
  have he : evJ j % 2 = 0 ∧ evJ j ≤ 8 := by unfold evJ; have := hj.le; omega
  refine ⟨evJ j, by rw [hj.eq], he.1, he.2, ?_, ?_⟩
  · rw [← hz.eq]
    have a := hz.ap
    have b1 := a.lo; have b2 := a.hi; have f := a.fin
    have hl := hj.lo; have hh := hj.hi
    have hE := hz.ap.bl; have hE2 := hz.ap.bh
    obtain ⟨E, hE3⟩ : ∃ E : Rat, E = ((evJ j : Nat) : Rat) := ⟨_, rfl⟩
    have hJ : E = (j : Rat) ∨ E = (j : Rat) + 1 := by
      rw [hE3]; unfold evJ
      rcases Nat.mod_two_eq_zero_or_one j with c | c
      · left; rw [c]; rfl
      · right; rw [c, Rat.natCast_add]; rfl
    have hj8 : (j : Rat) ≤ 8 := by
      have : (j : Rat) ≤ ((8 : Nat) : Rat) := by exact_mod_cast hj.le
      have e8 : ((8 : Nat) : Rat) = 8 := rfl
      rw [e8] at this; exact this
    have hj0 := nat_nonneg j
    rw [← hE3] at b1 b2 ⊢
    have t : -(7855 / 10000) ≤ fv x - E * qq ∧ fv x - E * qq ≤ 7855 / 10000 := by
      clear b1 b2 hE hE2 a h1 h2 hE3
      unfold qq kA kB kC; unfold kP at hl hh
      rcases hJ with c | c <;> rw [c] <;> constructor <;> grind
    obtain ⟨t1, t2⟩ := t
    clear hE hE2 a hl hh hJ hE3 hj8 hj0 hz hj he
    generalize E * qq = Y at *
    exact ⟨f, by grind, by grind, by grind, by grind⟩
  · have hl := hj.lo; have hh := hj.hi
    have hj8 : (j : Rat) ≤ 8 := by
      have : (j : Rat) ≤ ((8 : Nat) : Rat) := by exact_mod_cast hj.le
      have e8 : ((8 : Nat) : Rat) = 8 := rfl
      rw [e8] at this; exact this
    have hj0 := nat_nonneg j
    obtain ⟨E, hE3⟩ : ∃ E : Rat, E = ((evJ j : Nat) : Rat) := ⟨_, rfl⟩
    have hJ : E = (j : Rat) ∨ E = (j : Rat) + 1 := by
      rw [hE3]; unfold evJ
      rcases Nat.mod_two_eq_zero_or_one j with c | c
      · left; rw [c]; rfl
      · right; rw [c, Rat.natCast_add]; rfl
    rw [← hE3]
    unfold qq kA kB kC; unfold kP at hl hh
    rcases hJ with c | c <;> rw [c] <;> constructor <;> grind
/-- The sine of a word near to an angle. -/
theorem sinB_near {x : Nat} (hf : Fin x) (h0 : 0 ≤ fv x) (h7 : fv x ≤ 7) {θ : Rat} (h1 : fv x - 7 / 1000000000000000 ≤ θ) (h2 : θ ≤ fv x + 7 / 1000000000000000) :
    ∃ e : Nat, e % 2 = 0 ∧ e ≤ 8 ∧ Ap (sinB x) (sgnP e (θ - (e : Rat) * qq)) (14 / 1000000000000000) (133 / 100) ∧ -(393 / 500) ≤ θ - (e : Rat) * qq ∧ θ - (e : Rat) * qq ≤ 393 / 500 ∧ ((e : Rat) - 1) * qq - 1 / 10000000000000 ≤ θ ∧ θ ≤ ((e : Rat) + 1) * qq + 1 / 10000000000000 := by
  obtain ⟨e, ee, he, h8, a, b1, b2⟩ := oct_near hf h0 h7 h1 h2
  by_cases hz : double.order x 0 = some .eq
  · have hx0 : fv x = 0 := by
      have fz : Fin 0 ∧ fv 0 = 0 := by
        have hr : double.read 0 = .number false 0 (-1074) := by decide
        refine ⟨⟨_, _, _, hr⟩, ?_⟩
        rw [fv_fin hr]; show _ * (0 : Rat) * _ = 0; grind
      by_cases c : fv x = 0
      · exact c
      · have := ford_gt hf fz.1 (by rw [fz.2]; grind)
        rw [this] at hz; cases hz
    have fz : Fin 0 ∧ fv 0 = 0 := by
      have hr : double.read 0 = .number false 0 (-1074) := by decide
      refine ⟨⟨_, _, _, hr⟩, ?_⟩
      rw [fv_fin hr]; show _ * (0 : Rat) * _ = 0; grind
    have e1 : sinB x = x := by unfold sinB; rw [if_pos hz]
    have a0 : Ap 0 θ (1 / 100000000000000) (393 / 500) := ⟨fz.1, by rw [fz.2]; grind, by rw [fz.2]; grind, by grind, by grind⟩
    have w0 : wS 0 = 0 := by decide +kernel
    have a1 := wS_ap a0
    rw [w0] at a1
    have l1 := a1.lo; have l2 := a1.hi; have l3 := a1.bl; have l4 := a1.bh
    rw [fz.2] at l1 l2
    have e0 : ((0 : Nat) : Rat) = 0 := rfl
    refine ⟨0, rfl, by omega, ?_, ?_⟩
    · rw [e1, e0]
      have e3 : θ - 0 * qq = θ := by grind
      rw [e3]
      show Ap x (PS θ) _ _
      exact ⟨hf, by rw [hx0]; exact l1, by rw [hx0]; exact l2, l3, l4⟩
    · rw [e0]
      have := a.bl
      unfold qq kA kB kC
      refine ⟨by grind, by grind, by grind, by grind⟩
  · have e1 : sinB x = sinR e (redZ x) := by unfold sinB; rw [if_neg hz, ← ee]
    rw [e1]
    exact ⟨e, he, h8, sinR_ap a he h8, a.bl, a.bh, b1, b2⟩
theorem cosB_near {x : Nat} (hf : Fin x) (h0 : 0 ≤ fv x) (h7 : fv x ≤ 7) {θ : Rat} (h1 : fv x - 7 / 1000000000000000 ≤ θ) (h2 : θ ≤ fv x + 7 / 1000000000000000) :
    ∃ e : Nat, e % 2 = 0 ∧ e ≤ 8 ∧ Ap (cosB x) (sgnC e (θ - (e : Rat) * qq)) (14 / 1000000000000000) (133 / 100) ∧ -(393 / 500) ≤ θ - (e : Rat) * qq ∧ θ - (e : Rat) * qq ≤ 393 / 500 ∧ ((e : Rat) - 1) * qq - 1 / 10000000000000 ≤ θ ∧ θ ≤ ((e : Rat) + 1) * qq + 1 / 10000000000000 := by
  obtain ⟨e, ee, he, h8, a, b1, b2⟩ := oct_near hf h0 h7 h1 h2
  have e1 : cosB x = cosR e (redZ x) := by unfold cosB; rw [← ee]
  rw [e1]
  exact ⟨e, he, h8, cosR_ap a he h8, a.bl, a.bh, b1, b2⟩
end Go.Proofs.YtdifeoahaegjbaaGreatDoor
/- Angles and sines in plain Lean: the words that package trig reckons with. -/
set_option linter.unusedSimpArgs false
set_option linter.unusedVariables false
namespace Go.Proofs.YtdifeoahaegjbaaGreatDoor
open Ieee

theorem ap_turn : Ap 4741671816366391296 1000000000 0 1000000000 := by
  obtain ⟨f, v⟩ := fv_lit (w := 4741671816366391296) (s := false) (m := 8388608000000000) (k := 23) (by decide)
  have e : ((2 ^ 23 : Nat) : Rat) = 8388608 := rfl
  have e2 : ((8388608000000000 : Nat) : Rat) = 8388608000000000 := rfl
  have v2 : fv 4741671816366391296 = 1000000000 := by rw [v, e]; (try rw [e2]); rw [sg_f]; grind
  exact ⟨f, by grind, by grind, by grind, by grind⟩
theorem ap_two : Ap 4611686018427387904 2 0 2 := by
  obtain ⟨f, v⟩ := fv_lit (w := 4611686018427387904) (s := false) (m := 4503599627370496) (k := 51) (by decide)
  have e : ((2 ^ 51 : Nat) : Rat) = 2251799813685248 := rfl
  have e2 : ((4503599627370496 : Nat) : Rat) = 4503599627370496 := rfl
  have v2 : fv 4611686018427387904 = 2 := by rw [v, e]; (try rw [e2]); rw [sg_f]; grind
  exact ⟨f, by grind, by grind, by grind, by grind⟩
def kPi : Rat := 7074237752028440 / 2251799813685248
theorem ap_pi : Ap 4614256656552045848 kPi 0 (3141593 / 1000000) := by
  obtain ⟨f, v⟩ := fv_lit (w := 4614256656552045848) (s := false) (m := 7074237752028440) (k := 51) (by decide)
  have e : ((2 ^ 51 : Nat) : Rat) = 2251799813685248 := rfl
  have e2 : ((7074237752028440 : Nat) : Rat) = 7074237752028440 := rfl
  have v2 : fv 4614256656552045848 = kPi := by rw [v, e]; (try rw [e2]); unfold kPi; rw [sg_f]; grind
  rw [← v2]; exact Ap.exact f (by rw [v2]; unfold kPi; grind) (by rw [v2]; unfold kPi; grind)
/-- The slack. -/
def kSl : Rat := 1152921504606847 / 1152921504606846976
theorem ap_sl : Ap 4562254508917369340 kSl 0 (1 / 999) := by
  obtain ⟨f, v⟩ := fv_lit (w := 4562254508917369340) (s := false) (m := 4611686018427388) (k := 62) (by decide)
  have e : ((2 ^ 62 : Nat) : Rat) = 4611686018427387904 := rfl
  have e2 : ((4611686018427388 : Nat) : Rat) = 4611686018427388 := rfl
  have v2 : fv 4562254508917369340 = kSl := by rw [v, e]; (try rw [e2]); unfold kSl; rw [sg_f]; grind
  rw [← v2]; exact Ap.exact f (by rw [v2]; unfold kSl; grind) (by rw [v2]; unfold kSl; grind)

/-- The radians of an angle. -/
def radW (x : Nat) : Nat := fmul (fmul (fdiv x 4741671816366391296) 4611686018427387904) 4614256656552045848
theorem rad_q : -(3 / 10000000000000000) ≤ 2 * kPi - 8 * qq ∧ 2 * kPi - 8 * qq ≤ 3 / 10000000000000000 := by
  unfold kPi qq kA kB kC; constructor <;> grind
theorem qq_bd : 78 / 100 ≤ qq ∧ qq ≤ 79 / 100 := by unfold qq kA kB kC; constructor <;> grind
theorem rad_last {W : Nat} {t : Rat} (f : Fin W) (b1 : t * 2 * kPi - 48 / 10000000000000000 ≤ fv W) (b2 : fv W ≤ t * 2 * kPi + 48 / 10000000000000000) (t1 : -1 ≤ t) (t2 : t ≤ 1) : Ap W (8 * qq * t) (6 / 1000000000000000) 7 := by
  have p := prod_bd (s := 2 * kPi - 8 * qq) (t := t) (S := 3 / 10000000000000000) (T := 1) rad_q.1 rad_q.2 t1 t2
  have p2 := prod_bd (s := qq) (t := t) (S := 79 / 100) (T := 1) (by have := qq_bd.1; grind) qq_bd.2 t1 t2
  have e1 : t * 2 * kPi = 8 * (qq * t) + (2 * kPi - 8 * qq) * t := by grind
  have e2 : 8 * qq * t = 8 * (qq * t) := by grind
  rw [e1] at b1 b2
  rw [e2]
  generalize (2 * kPi - 8 * qq) * t = x at *
  generalize qq * t = y at *
  exact ⟨f, by grind, by grind, by grind, by grind⟩
theorem radW_ok {x : Nat} {v : Rat} (hx : Ap x v 0 1000000000) : ∃ r1 r2 r3 : Nat, floatBits .quo .f64 x 4741671816366391296 = some r1 ∧ floatBits .mul .f64 r1 4611686018427387904 = some r2 ∧ floatBits .mul .f64 r2 4614256656552045848 = some r3 ∧ r3 = radW x ∧
    Ap r3 (8 * qq * (v / 1000000000)) (6 / 1000000000000000) 7 := by
  have h1 := hx.lo; have h2 := hx.hi; have h3 := hx.bl; have h4 := hx.bh
  have hT := ap_turn
  have hv : fv x = v := by grind
  have hTv : fv 4741671816366391296 = 1000000000 := by have := hT.lo; have := hT.hi; grind
  obtain ⟨i1, f1, n1⟩ := fdiv_ok hx.fin hT.fin (by rw [hTv]; grind) 1 (mid_of (by grind) (by grind)) (by rw [hv, hTv]; grind) (by rw [hv, hTv]; grind)
  unfold Near at n1
  rw [hv, hTv] at n1
  have a1 : Ap (fdiv x 4741671816366391296) (v / 1000000000) (1 / 2251799813685248) 1 := ⟨f1, n1.1, n1.2, by grind, by grind⟩
  obtain ⟨i2, a2⟩ := Ap.mul a1 ap_two (12 / 10000000000000000) 2 (21 / 10) (mid_of (by grind) (by grind)) (by grind) (by grind) (by grind)
  obtain ⟨i3, a3⟩ := Ap.mul a2 ap_pi (48 / 10000000000000000) (6283186 / 1000000) (63 / 10) (mid_of (by grind) (by grind)) (by grind) (by grind) (by grind)
  refine ⟨_, _, _, i1, i2, i3, rfl, ?_⟩
  have t1 : -1 ≤ v / 1000000000 := by grind
  have t2 : v / 1000000000 ≤ 1 := by grind
  clear n1 a2 a1 hT hTv hv h1 h2 h3 h4 i1 i2 i3
  show Ap (radW x) _ _ _
  unfold radW
  generalize v / 1000000000 = t at *
  have b1 := a3.lo; have b2 := a3.hi; have f := a3.fin
  clear a3
  generalize fmul (fmul (fdiv x 4741671816366391296) 4611686018427387904) 4614256656552045848 = W at *
  exact rad_last f b1 b2 t1 t2
/-! The whole numbers around a word. -/
def aLo (v : Nat) : Int := ((double.read (ffloor (fsub v 4562254508917369340))).toInt .zero).getD 0
def aHi (v : Nat) : Int := ((double.read (fceil (fadd v 4562254508917369340))).toInt .zero).getD 0
theorem i64_val {w : Nat} {k : Int} (h : (double.read w).toInt .zero = some k) (h1 : -9000000000000000000 ≤ k) (h2 : k ≤ 9000000000000000000) : floatToIntVal .f64 w .i64 = some k := by
  unfold floatToIntVal
  have : (FloatKind.f64.decode w).toInt .zero = some k := h
  rw [this]
  dsimp only
  rw [if_pos]
  have m1 : IntKind.i64.min = -9223372036854775808 := rfl
  have m2 : IntKind.i64.max = 9223372036854775807 := rfl
  rw [m1, m2]; omega
structure AroundOk (v : Nat) (V E : Rat) : Prop where
  sub : floatBits .sub .f64 v 4562254508917369340 = some (fsub v 4562254508917369340)
  add : floatBits .add .f64 v 4562254508917369340 = some (fadd v 4562254508917369340)
  fs : Fin (fsub v 4562254508917369340)
  fa : Fin (fadd v 4562254508917369340)
  ilo : floatToIntVal .f64 (ffloor (fsub v 4562254508917369340)) .i64 = some (aLo v)
  ihi : floatToIntVal .f64 (fceil (fadd v 4562254508917369340)) .i64 = some (aHi v)
  lo1 : (aLo v : Rat) ≤ V - kSl + E
  lo2 : V - kSl - E < (aLo v : Rat) + 1
  hi1 : V + kSl - E ≤ (aHi v : Rat)
  hi2 : (aHi v : Rat) - 1 < V + kSl + E
theorem int_lt_of_rat {k n : Int} (h : (k : Rat) < (n : Rat)) : k < n := by exact_mod_cast h
theorem int_le_of_rat {k n : Int} (h : (k : Rat) ≤ (n : Rat)) : k ≤ n := by exact_mod_cast h
/-- Around a word that approximates V up to e, of size at most 10^13. -/
theorem around_ok {v : Nat} {V e : Rat} (h : Ap v V e 10000000000000) (he : e ≤ 1 / 1000) : AroundOk v V (e + 2 / 1000) := by
  obtain ⟨i1, a1⟩ := Ap.sub h ap_sl (e + 12 / 10000) (10000000000001) (10000000000002) (mid_of (by grind) (by grind)) (by grind) (by grind) (by grind)
  obtain ⟨i2, a2⟩ := Ap.add h ap_sl (e + 12 / 10000) (10000000000001) (10000000000002) (mid_of (by grind) (by grind)) (by grind) (by grind) (by grind)
  have b1 := a1.lo; have b2 := a1.hi; have b3 := a1.bl; have b4 := a1.bh
  have c1 := a2.lo; have c2 := a2.hi; have c3 := a2.bl; have c4 := a2.bh
  obtain ⟨k, fk, vk, k1, k2, tk⟩ := ffloor_ok a1.fin (by grind) (by grind)
  obtain ⟨n, fn, vn, n1, n2, tn⟩ := fceil_ok a2.fin (by grind) (by grind)
  have ek : aLo v = k := by unfold aLo; rw [tk]; rfl
  have en : aHi v = n := by unfold aHi; rw [tn]; rfl
  have e1 : ((9000000000000000000 : Int) : Rat) = 9000000000000000000 := rfl
  have e2 : ((-9000000000000000000 : Int) : Rat) = -9000000000000000000 := rfl
  refine ⟨i1, i2, a1.fin, a2.fin, ?_, ?_, ?_, ?_, ?_, ?_⟩
  · rw [ek]; exact i64_val tk (int_le_of_rat (by rw [e2]; grind)) (int_le_of_rat (by rw [e1]; grind))
  · rw [en]; exact i64_val tn (int_le_of_rat (by rw [e2]; grind)) (int_le_of_rat (by rw [e1]; grind))
  all_goals first | rw [ek] | rw [en]
  all_goals grind
end Go.Proofs.YtdifeoahaegjbaaGreatDoor
/- A quotient of approximated numbers. -/
namespace Go.Proofs.YtdifeoahaegjbaaGreatDoor
open Ieee
set_option linter.unusedSimpArgs false
set_option linter.unusedVariables false
theorem quot_err {x y a b ea eb m B : Rat} (hx1 : a - ea ≤ x) (hx2 : x ≤ a + ea) (hy1 : b - eb ≤ y) (hy2 : y ≤ b + eb) (hm : 0 < m) (hb : m ≤ b) (he : eb ≤ m / 2) (hq1 : -B ≤ a / b) (hq2 : a / b ≤ B) :
    a / b - 2 / m * (ea + B * eb) ≤ x / y ∧ x / y ≤ a / b + 2 / m * (ea + B * eb) := by
  have e0 : 0 ≤ ea := by grind
  have e1 : 0 ≤ eb := by grind
  have y0 : m / 2 ≤ y := by grind
  have yp : 0 < y := by grind
  have bp : 0 < b := by grind
  obtain ⟨q, hq⟩ : ∃ q, q = a / b := ⟨_, rfl⟩
  obtain ⟨r, hr⟩ : ∃ r, r = x / y := ⟨_, rfl⟩
  have ha : a = q * b := by rw [hq]; grind
  have hxr : x = r * y := by rw [hr]; grind
  rw [← hq] at hq1 hq2 ⊢
  rw [← hr]
  have B0 : 0 ≤ B := by grind
  have m1 := prod_bd hq1 hq2 (show -eb ≤ b - y by grind) (show b - y ≤ eb by grind)
  have hd : (r - q) * y = (x - a) + q * (b - y) := by rw [ha, hxr]; grind
  have T0 : 0 ≤ ea + B * eb := by have := Rat.mul_nonneg B0 e1; grind
  have b1 : -(ea + B * eb) ≤ (r - q) * y := by rw [hd]; grind
  have b2 : (r - q) * y ≤ ea + B * eb := by rw [hd]; grind
  have em : 2 / m * (m / 2) = 1 := by grind
  have mp : 0 < 2 / m := by
    have : 2 / m = 2 * (1 / m) := by grind
    have h1 : 0 < 1 / m := by
      rcases (Rat.le_total : (0 : Rat) ≤ 1 / m ∨ 1 / m ≤ 0) with h | h
      · have : 1 / m ≠ 0 := by grind
        grind
      · have := Rat.mul_nonneg (show 0 ≤ -(1 / m) by grind) (Rat.le_of_lt hm)
        grind
    grind
  generalize ea + B * eb = T at *
  generalize hk : 2 / m = k at *
  clear hd m1 ha hxr hq hr hx1 hx2 hy1 hy2 hq1 hq2 hk
  have kT := Rat.mul_nonneg (Rat.le_of_lt mp) T0
  constructor
  · apply Rat.not_lt.1
    intro hl
    have h1 := Rat.mul_le_mul_of_nonneg_left y0 (show 0 ≤ q - r by grind)
    have h2 := Rat.mul_lt_mul_of_pos_right (show k * T < q - r by grind) (show 0 < m / 2 by grind)
    have h3 : k * T * (m / 2) = T := by rw [Rat.mul_comm k T, Rat.mul_assoc, em]; grind
    grind
  · apply Rat.not_lt.1
    intro hl
    have h1 := Rat.mul_le_mul_of_nonneg_left y0 (show 0 ≤ r - q by grind)
    have h2 := Rat.mul_lt_mul_of_pos_right (show k * T < r - q by grind) (show 0 < m / 2 by grind)
    have h3 : k * T * (m / 2) = T := by rw [Rat.mul_comm k T, Rat.mul_assoc, em]; grind
    grind
theorem Ap.div {a b : Nat} {va vb ea eb Ba Bb : Rat} (ha : Ap a va ea Ba) (hb : Ap b vb eb Bb) (m e' B' M : Rat) (hM : Mid (2 * M)) (hm : 0 < m) (hmb : m ≤ vb) (hbe : eb ≤ m / 2) (hq : -B' ≤ va / vb ∧ va / vb ≤ B')
    (h1 : B' + 2 / m * (ea + B' * eb) ≤ M) (he : 2 / m * (ea + B' * eb) + M / 2251799813685248 ≤ e') : floatBits .quo .f64 a b = some (fdiv a b) ∧ Ap (fdiv a b) (va / vb) e' B' := by
  have q := quot_err ha.lo ha.hi hb.lo hb.hi hm hmb hbe hq.1 hq.2
  have a1 := hb.lo; have a2 := hb.fin; have a3 := ha.fin
  obtain ⟨o1, o2, o3, o4⟩ := fdiv_ok a3 a2 (by grind) M hM (by grind) (by grind)
  exact ⟨o1, ⟨o2, by grind, by grind, hq.1, hq.2⟩⟩
end Go.Proofs.YtdifeoahaegjbaaGreatDoor
/- Go's xatan in plain Lean: what its operations give, the exact rational function, and how far the word is from it. Printed by wip/tools/gen-atan.py. -/
set_option linter.unusedSimpArgs false
set_option linter.unusedVariables false
namespace Go.Proofs.YtdifeoahaegjbaaGreatDoor
open Ieee

def aP0 : Rat := -7881847526073748 / 9007199254740992
theorem ap_aP0 : Ap 13829429103926125972 aP0 0 (875061 / 1000000) := by
  obtain ⟨f, v⟩ := fv_lit (w := 13829429103926125972) (s := true) (m := 7881847526073748) (k := 53) (by decide)
  have e : ((2 ^ 53 : Nat) : Rat) = 9007199254740992 := rfl
  have e2 : ((7881847526073748 : Nat) : Rat) = 7881847526073748 := rfl
  have v2 : fv 13829429103926125972 = aP0 := by rw [v, e]; (try rw [e2]); unfold aP0; rw [sg_t]; grind
  rw [← v2]; exact Ap.exact f (by rw [v2]; unfold aP0; grind) (by rw [v2]; unfold aP0; grind)
theorem bd_aP0 : -875060861 / 1000000000 ≤ aP0 ∧ aP0 ≤ -43753043 / 50000000 := by unfold aP0; constructor <;> grind
def aP1 : Rat := -4547942403506298 / 281474976710656
theorem ap_aP1 : Ap 13848613196940411002 aP1 0 (20197 / 1250) := by
  obtain ⟨f, v⟩ := fv_lit (w := 13848613196940411002) (s := true) (m := 4547942403506298) (k := 48) (by decide)
  have e : ((2 ^ 48 : Nat) : Rat) = 281474976710656 := rfl
  have e2 : ((4547942403506298 : Nat) : Rat) = 4547942403506298 := rfl
  have v2 : fv 13848613196940411002 = aP1 := by rw [v, e]; (try rw [e2]); unfold aP1; rw [sg_t]; grind
  rw [← v2]; exact Ap.exact f (by rw [v2]; unfold aP1; grind) (by rw [v2]; unfold aP1; grind)
theorem bd_aP1 : -40393843 / 2500000 ≤ aP1 ∧ aP1 ≤ -161575371 / 10000000 := by unfold aP1; constructor <;> grind
def aP2 : Rat := -5278258023629427 / 70368744177664
theorem ap_aP2 : Ap 13858350711815275123 aP2 0 (375043 / 5000) := by
  obtain ⟨f, v⟩ := fv_lit (w := 13858350711815275123) (s := true) (m := 5278258023629427) (k := 46) (by decide)
  have e : ((2 ^ 46 : Nat) : Rat) = 70368744177664 := rfl
  have e2 : ((5278258023629427 : Nat) : Rat) = 5278258023629427 := rfl
  have v2 : fv 13858350711815275123 = aP2 := by rw [v, e]; (try rw [e2]); unfold aP2; rw [sg_t]; grind
  rw [← v2]; exact Ap.exact f (by rw [v2]; unfold aP2; grind) (by rw [v2]; unfold aP2; grind)
theorem bd_aP2 : -37504279 / 500000 ≤ aP2 ∧ aP2 ≤ -750085579 / 10000000 := by unfold aP2; constructor <;> grind
def aP3 : Rat := -8647380534934053 / 70368744177664
theorem ap_aP3 : Ap 13861719834326579749 aP3 0 (122887 / 1000) := by
  obtain ⟨f, v⟩ := fv_lit (w := 13861719834326579749) (s := true) (m := 8647380534934053) (k := 46) (by decide)
  have e : ((2 ^ 46 : Nat) : Rat) = 70368744177664 := rfl
  have e2 : ((8647380534934053 : Nat) : Rat) = 8647380534934053 := rfl
  have v2 : fv 13861719834326579749 = aP3 := by rw [v, e]; (try rw [e2]); unfold aP3; rw [sg_t]; grind
  rw [← v2]; exact Ap.exact f (by rw [v2]; unfold aP3; grind) (by rw [v2]; unfold aP3; grind)
theorem bd_aP3 : -122886669 / 1000000 ≤ aP3 ∧ aP3 ≤ -30721667 / 250000 := by unfold aP3; constructor <;> grind
def aP4 : Rat := -4563428474154126 / 70368744177664
theorem ap_aP4 : Ap 13857635882265799822 aP4 0 (648503 / 10000) := by
  obtain ⟨f, v⟩ := fv_lit (w := 13857635882265799822) (s := true) (m := 4563428474154126) (k := 46) (by decide)
  have e : ((2 ^ 46 : Nat) : Rat) = 70368744177664 := rfl
  have e2 : ((4563428474154126 : Nat) : Rat) = 4563428474154126 := rfl
  have v2 : fv 13857635882265799822 = aP4 := by rw [v, e]; (try rw [e2]); unfold aP4; rw [sg_t]; grind
  rw [← v2]; exact Ap.exact f (by rw [v2]; unfold aP4; grind) (by rw [v2]; unfold aP4; grind)
theorem bd_aP4 : -648502191 / 10000000 ≤ aP4 ∧ aP4 ≤ -64850219 / 1000000 := by unfold aP4; constructor <;> grind
def aQ0 : Rat := 6997035829190716 / 281474976710656
theorem ap_aQ0 : Ap 4627690253511319612 aQ0 0 (49717 / 2000) := by
  obtain ⟨f, v⟩ := fv_lit (w := 4627690253511319612) (s := false) (m := 6997035829190716) (k := 48) (by decide)
  have e : ((2 ^ 48 : Nat) : Rat) = 281474976710656 := rfl
  have e2 : ((6997035829190716 : Nat) : Rat) = 6997035829190716 := rfl
  have v2 : fv 4627690253511319612 = aQ0 := by rw [v, e]; (try rw [e2]); unfold aQ0; rw [sg_f]; grind
  rw [← v2]; exact Ap.exact f (by rw [v2]; unfold aQ0; grind) (by rw [v2]; unfold aQ0; grind)
theorem bd_aQ0 : 248584649 / 10000000 ≤ aQ0 ∧ aQ0 ≤ 4971693 / 200000 := by unfold aQ0; constructor <;> grind
def aQ1 : Rat := 5806371718625829 / 35184372088832
theorem ap_aQ1 : Ap 4640010388282866213 aQ1 0 (41257 / 250) := by
  obtain ⟨f, v⟩ := fv_lit (w := 4640010388282866213) (s := false) (m := 5806371718625829) (k := 45) (by decide)
  have e : ((2 ^ 45 : Nat) : Rat) = 35184372088832 := rfl
  have e2 : ((5806371718625829 : Nat) : Rat) = 5806371718625829 := rfl
  have v2 : fv 4640010388282866213 = aQ1 := by rw [v, e]; (try rw [e2]); unfold aQ1; rw [sg_f]; grind
  rw [← v2]; exact Ap.exact f (by rw [v2]; unfold aQ1; grind) (by rw [v2]; unfold aQ1; grind)
theorem bd_aQ1 : 165027009 / 1000000 ≤ aQ1 ∧ aQ1 ≤ 16502701 / 100000 := by unfold aQ1; constructor <;> grind
def aQ2 : Rat := 7615324151266875 / 17592186044416
theorem ap_aQ2 : Ap 4646322940342877755 aQ2 0 (216441 / 500) := by
  obtain ⟨f, v⟩ := fv_lit (w := 4646322940342877755) (s := false) (m := 7615324151266875) (k := 44) (by decide)
  have e : ((2 ^ 44 : Nat) : Rat) = 17592186044416 := rfl
  have e2 : ((7615324151266875 : Nat) : Rat) = 7615324151266875 := rfl
  have v2 : fv 4646322940342877755 = aQ2 := by rw [v, e]; (try rw [e2]); unfold aQ2; rw [sg_f]; grind
  rw [← v2]; exact Ap.exact f (by rw [v2]; unfold aQ2; grind) (by rw [v2]; unfold aQ2; grind)
theorem bd_aQ2 : 21644053 / 50000 ≤ aQ2 ∧ aQ2 ≤ 432881061 / 1000000 := by unfold aQ2; constructor <;> grind
def aQ3 : Rat := 8539078214568426 / 17592186044416
theorem ap_aQ3 : Ap 4647246694406179306 aQ3 0 (485391 / 1000) := by
  obtain ⟨f, v⟩ := fv_lit (w := 4647246694406179306) (s := false) (m := 8539078214568426) (k := 44) (by decide)
  have e : ((2 ^ 44 : Nat) : Rat) = 17592186044416 := rfl
  have e2 : ((8539078214568426 : Nat) : Rat) = 8539078214568426 := rfl
  have v2 : fv 4647246694406179306 = aQ3 := by rw [v, e]; (try rw [e2]); unfold aQ3; rw [sg_f]; grind
  rw [← v2]; exact Ap.exact f (by rw [v2]; unfold aQ3; grind) (by rw [v2]; unfold aQ3; grind)
theorem bd_aQ3 : 485390399 / 1000000 ≤ aQ3 ∧ aQ3 ≤ 303369 / 625 := by unfold aQ3; constructor <;> grind
def aQ4 : Rat := 6845142711231212 / 35184372088832
theorem ap_aQ4 : Ap 4641049159275471596 aQ4 0 (194551 / 1000) := by
  obtain ⟨f, v⟩ := fv_lit (w := 4641049159275471596) (s := false) (m := 6845142711231212) (k := 45) (by decide)
  have e : ((2 ^ 45 : Nat) : Rat) = 35184372088832 := rfl
  have e2 : ((6845142711231212 : Nat) : Rat) = 6845142711231212 := rfl
  have v2 : fv 4641049159275471596 = aQ4 := by rw [v, e]; (try rw [e2]); unfold aQ4; rw [sg_f]; grind
  rw [← v2]; exact Ap.exact f (by rw [v2]; unfold aQ4; grind) (by rw [v2]; unfold aQ4; grind)
theorem bd_aQ4 : 194550657 / 1000000 ≤ aQ4 ∧ aQ4 ≤ 97275329 / 500000 := by unfold aQ4; constructor <;> grind
def aH : Rat := 7074237752028440 / 4503599627370496
theorem ap_aH : Ap 4609753056924675352 aH 0 (3927 / 2500) := by
  obtain ⟨f, v⟩ := fv_lit (w := 4609753056924675352) (s := false) (m := 7074237752028440) (k := 52) (by decide)
  have e : ((2 ^ 52 : Nat) : Rat) = 4503599627370496 := rfl
  have e2 : ((7074237752028440 : Nat) : Rat) = 7074237752028440 := rfl
  have v2 : fv 4609753056924675352 = aH := by rw [v, e]; (try rw [e2]); unfold aH; rw [sg_f]; grind
  rw [← v2]; exact Ap.exact f (by rw [v2]; unfold aH; grind) (by rw [v2]; unfold aH; grind)
theorem bd_aH : 9817477 / 6250000 ≤ aH ∧ aH ≤ 157079633 / 100000000 := by unfold aH; constructor <;> grind
def aF : Rat := 7074237752028440 / 9007199254740992
theorem ap_aF : Ap 4605249457297304856 aF 0 (785399 / 1000000) := by
  obtain ⟨f, v⟩ := fv_lit (w := 4605249457297304856) (s := false) (m := 7074237752028440) (k := 53) (by decide)
  have e : ((2 ^ 53 : Nat) : Rat) = 9007199254740992 := rfl
  have e2 : ((7074237752028440 : Nat) : Rat) = 7074237752028440 := rfl
  have v2 : fv 4605249457297304856 = aF := by rw [v, e]; (try rw [e2]); unfold aF; rw [sg_f]; grind
  rw [← v2]; exact Ap.exact f (by rw [v2]; unfold aF; grind) (by rw [v2]; unfold aF; grind)
theorem bd_aF : 785398163 / 1000000000 ≤ aF ∧ aF ≤ 196349541 / 250000000 := by unfold aF; constructor <;> grind
def aM : Rat := 4967757600021511 / 81129638414606681695789005144064
theorem ap_aM : Ap 4364452196894661639 aM 0 (153081 / 2500000000000000000000) := by
  obtain ⟨f, v⟩ := fv_lit (w := 4364452196894661639) (s := false) (m := 4967757600021511) (k := 106) (by decide)
  have e : ((2 ^ 106 : Nat) : Rat) = 81129638414606681695789005144064 := rfl
  have e2 : ((4967757600021511 : Nat) : Rat) = 4967757600021511 := rfl
  have v2 : fv 4364452196894661639 = aM := by rw [v, e]; (try rw [e2]); unfold aM; rw [sg_f]; grind
  rw [← v2]; exact Ap.exact f (by rw [v2]; unfold aM; grind) (by rw [v2]; unfold aM; grind)
theorem bd_aM : 612323399 / 10000000000000000000000000 ≤ aM ∧ aM ≤ 3061617 / 50000000000000000000000 := by unfold aM; constructor <;> grind
def aN : Rat := 4967757600021511 / 162259276829213363391578010288128
theorem ap_aN : Ap 4359948597267291143 aN 0 (153081 / 5000000000000000000000) := by
  obtain ⟨f, v⟩ := fv_lit (w := 4359948597267291143) (s := false) (m := 4967757600021511) (k := 107) (by decide)
  have e : ((2 ^ 107 : Nat) : Rat) = 162259276829213363391578010288128 := rfl
  have e2 : ((4967757600021511 : Nat) : Rat) = 4967757600021511 := rfl
  have v2 : fv 4359948597267291143 = aN := by rw [v, e]; (try rw [e2]); unfold aN; rw [sg_f]; grind
  rw [← v2]; exact Ap.exact f (by rw [v2]; unfold aN; grind) (by rw [v2]; unfold aN; grind)
theorem bd_aN : 306161699 / 10000000000000000000000000 ≤ aN ∧ aN ≤ 3061617 / 100000000000000000000000 := by unfold aN; constructor <;> grind
def aT : Rat := 5436325649948134 / 2251799813685248
theorem ap_aT : Ap 4612618744449965542 aT 0 (120711 / 50000) := by
  obtain ⟨f, v⟩ := fv_lit (w := 4612618744449965542) (s := false) (m := 5436325649948134) (k := 51) (by decide)
  have e : ((2 ^ 51 : Nat) : Rat) = 2251799813685248 := rfl
  have e2 : ((5436325649948134 : Nat) : Rat) = 5436325649948134 := rfl
  have v2 : fv 4612618744449965542 = aT := by rw [v, e]; (try rw [e2]); unfold aT; rw [sg_f]; grind
  rw [← v2]; exact Ap.exact f (by rw [v2]; unfold aT; grind) (by rw [v2]; unfold aT; grind)
theorem bd_aT : 60355339 / 25000000 ≤ aT ∧ aT ≤ 241421357 / 100000000 := by unfold aT; constructor <;> grind
def aL : Rat := 5944751508129055 / 9007199254740992
theorem ap_aL : Ap 4604119971053405471 aL 0 (660001 / 1000000) := by
  obtain ⟨f, v⟩ := fv_lit (w := 4604119971053405471) (s := false) (m := 5944751508129055) (k := 53) (by decide)
  have e : ((2 ^ 53 : Nat) : Rat) = 9007199254740992 := rfl
  have e2 : ((5944751508129055 : Nat) : Rat) = 5944751508129055 := rfl
  have v2 : fv 4604119971053405471 = aL := by rw [v, e]; (try rw [e2]); unfold aL; rw [sg_f]; grind
  rw [← v2]; exact Ap.exact f (by rw [v2]; unfold aL; grind) (by rw [v2]; unfold aL; grind)
theorem bd_aL : 33 / 50 ≤ aL ∧ aL ≤ 660000001 / 1000000000 := by unfold aL; constructor <;> grind
def aPi : Rat := 7074237752028440 / 2251799813685248
theorem ap_aPi : Ap 4614256656552045848 aPi 0 (3927 / 1250) := by
  obtain ⟨f, v⟩ := fv_lit (w := 4614256656552045848) (s := false) (m := 7074237752028440) (k := 51) (by decide)
  have e : ((2 ^ 51 : Nat) : Rat) = 2251799813685248 := rfl
  have e2 : ((7074237752028440 : Nat) : Rat) = 7074237752028440 := rfl
  have v2 : fv 4614256656552045848 = aPi := by rw [v, e]; (try rw [e2]); unfold aPi; rw [sg_f]; grind
  rw [← v2]; exact Ap.exact f (by rw [v2]; unfold aPi; grind) (by rw [v2]; unfold aPi; grind)
theorem bd_aPi : 62831853 / 20000000 ≤ aPi ∧ aPi ≤ 157079633 / 50000000 := by unfold aPi; constructor <;> grind
def a2Pi : Rat := 7074237752028440 / 1125899906842624
theorem ap_a2Pi : Ap 4618760256179416344 a2Pi 0 (628319 / 100000) := by
  obtain ⟨f, v⟩ := fv_lit (w := 4618760256179416344) (s := false) (m := 7074237752028440) (k := 50) (by decide)
  have e : ((2 ^ 50 : Nat) : Rat) = 1125899906842624 := rfl
  have e2 : ((7074237752028440 : Nat) : Rat) = 7074237752028440 := rfl
  have v2 : fv 4618760256179416344 = a2Pi := by rw [v, e]; (try rw [e2]); unfold a2Pi; rw [sg_f]; grind
  rw [← v2]; exact Ap.exact f (by rw [v2]; unfold a2Pi; grind) (by rw [v2]; unfold a2Pi; grind)
theorem bd_a2Pi : 62831853 / 10000000 ≤ a2Pi ∧ a2Pi ≤ 628318531 / 100000000 := by unfold a2Pi; constructor <;> grind

/-- Numerator and denominator, at the square. -/
def PA (u : Rat) : Rat := (((aP0 * u + aP1) * u + aP2) * u + aP3) * u + aP4
def QA (u : Rat) : Rat := ((((u + aQ0) * u + aQ1) * u + aQ2) * u + aQ3) * u + aQ4
/-- The rational function. -/
def XA (Z : Rat) : Rat := Z * (Z * Z * PA (Z * Z) / QA (Z * Z)) + Z
def xatW (z : Nat) : Nat := let zz := fmul z z; fadd (fmul z (fdiv (fmul zz (fadd (fmul (fadd (fmul (fadd (fmul (fadd (fmul 13829429103926125972 zz) 13848613196940411002) zz) 13858350711815275123) zz) 13861719834326579749) zz) 13857635882265799822)) (fadd (fmul (fadd (fmul (fadd (fmul (fadd (fmul (fadd zz 4627690253511319612) zz) 4640010388282866213) zz) 4646322940342877755) zz) 4647246694406179306) zz) 4641049159275471596))) z
theorem zsq (Z : Rat) : 0 ≤ Z * Z := by
  rcases (Rat.le_total : (0 : Rat) ≤ Z ∨ Z ≤ 0) with p | p
  · exact Rat.mul_nonneg p p
  · have := Rat.mul_nonneg (show 0 ≤ -Z by grind) (show 0 ≤ -Z by grind)
    grind
theorem zsq_le {Z : Rat} (h1 : -(67 / 100) ≤ Z) (h2 : Z ≤ 67 / 100) : Z * Z ≤ 449 / 1000 := by
  have := prod_bd h1 h2 h1 h2
  grind
theorem step_lo {u a b c : Rat} (hu : 0 ≤ u) (ha : 0 ≤ a) (hb : c ≤ b) : c ≤ a * u + b := by
  have := Rat.mul_nonneg ha hu
  grind
theorem qa_lo {u q0 q1 q2 q3 q4 : Rat} (hu : 0 ≤ u) (h0 : 248584649 / 10000000 ≤ q0) (h1 : 165027009 / 1000000 ≤ q1) (h2 : 21644053 / 50000 ≤ q2) (h3 : 485390399 / 1000000 ≤ q3) (h4 : 194550657 / 1000000 ≤ q4) : 194 ≤ ((((u + q0) * u + q1) * u + q2) * u + q3) * u + q4 := by
  have a1 : 0 ≤ u + q0 := by grind
  have a2 : 0 ≤ (u + q0) * u + q1 := step_lo hu a1 (by grind)
  have a3 : 0 ≤ ((u + q0) * u + q1) * u + q2 := step_lo hu a2 (by grind)
  have a4 : 0 ≤ (((u + q0) * u + q1) * u + q2) * u + q3 := step_lo hu a3 (by grind)
  exact step_lo hu a4 (by grind)
theorem div_bd {a b B : Rat} (hb : 0 < b) (h1 : -(B * b) ≤ a) (h2 : a ≤ B * b) : -B ≤ a / b ∧ a / b ≤ B := by
  have e : a = a / b * b := by grind
  generalize a / b = q at *
  subst e
  constructor
  · apply Rat.not_lt.1
    intro h
    have := Rat.mul_lt_mul_of_pos_right (show q + B < 0 by grind) hb
    grind
  · apply Rat.not_lt.1
    intro h
    have := Rat.mul_lt_mul_of_pos_right (show 0 < q - B by grind) hb
    grind
theorem step_bd {u a b A B : Rat} (hu : 0 ≤ u) (hu2 : u ≤ 449 / 1000) (ha : -A ≤ a ∧ a ≤ A) (hb : -B ≤ b ∧ b ≤ B) : -(A * (449 / 1000) + B) ≤ a * u + b ∧ a * u + b ≤ A * (449 / 1000) + B := by
  have := prod_bd ha.1 ha.2 (show -(449 / 1000) ≤ u by grind) hu2
  grind

theorem pq_bd {u p0 p1 p2 p3 p4 q : Rat} (hu : 0 ≤ u) (hu2 : u ≤ 449 / 1000) (h0 : -875060861 / 1000000000 ≤ p0 ∧ p0 ≤ -43753043 / 50000000) (h1 : -40393843 / 2500000 ≤ p1 ∧ p1 ≤ -161575371 / 10000000) (h2 : -37504279 / 500000 ≤ p2 ∧ p2 ≤ -750085579 / 10000000) (h3 : -122886669 / 1000000 ≤ p3 ∧ p3 ≤ -30721667 / 250000) (h4 : -648502191 / 10000000 ≤ p4 ∧ p4 ≤ -64850219 / 1000000) (hq : 194 ≤ q) : -(8 / 25) ≤ u * ((((p0 * u + p1) * u + p2) * u + p3) * u + p4) / q ∧ u * ((((p0 * u + p1) * u + p2) * u + p3) * u + p4) / q ≤ 8 / 25 := by
  have s1 := step_bd (a := p0) (A := 875061 / 1000000) (B := 20197 / 1250) hu hu2 (by grind) (show -(20197 / 1250) ≤ p1 ∧ p1 ≤ 20197 / 1250 by grind)
  have s2 := step_bd (B := 375043 / 5000) hu hu2 s1 (show -(375043 / 5000) ≤ p2 ∧ p2 ≤ 375043 / 5000 by grind)
  have s3 := step_bd (B := 122887 / 1000) hu hu2 s2 (show -(122887 / 1000) ≤ p3 ∧ p3 ≤ 122887 / 1000 by grind)
  have s4 := step_bd (B := 648503 / 10000) hu hu2 s3 (show -(648503 / 10000) ≤ p4 ∧ p4 ≤ 648503 / 10000 by grind)
  have s5 := prod_bd (show -(449 / 1000) ≤ u by grind) hu2 s4.1 s4.2
  apply div_bd (by grind) <;> grind
theorem xat_ok {z : Nat} {Z : Rat} (hz : Ap z Z (1 / 1000000000000000) (67 / 100)) : ∃ r1 r2 r3 r4 r5 r6 r7 r8 r9 r10 r11 r12 r13 r14 r15 r16 r17 r18 r19 r20 r21 r22 : Nat, (floatBits .mul .f64 z z = some r1) ∧ (floatBits .mul .f64 13829429103926125972 r1 = some r2) ∧ (floatBits .add .f64 r2 13848613196940411002 = some r3) ∧ (floatBits .mul .f64 r3 r1 = some r4) ∧ (floatBits .add .f64 r4 13858350711815275123 = some r5) ∧ (floatBits .mul .f64 r5 r1 = some r6) ∧ (floatBits .add .f64 r6 13861719834326579749 = some r7) ∧ (floatBits .mul .f64 r7 r1 = some r8) ∧ (floatBits .add .f64 r8 13857635882265799822 = some r9) ∧ (floatBits .mul .f64 r1 r9 = some r10) ∧ (floatBits .add .f64 r1 4627690253511319612 = some r11) ∧ (floatBits .mul .f64 r11 r1 = some r12) ∧ (floatBits .add .f64 r12 4640010388282866213 = some r13) ∧ (floatBits .mul .f64 r13 r1 = some r14) ∧ (floatBits .add .f64 r14 4646322940342877755 = some r15) ∧ (floatBits .mul .f64 r15 r1 = some r16) ∧ (floatBits .add .f64 r16 4647246694406179306 = some r17) ∧ (floatBits .mul .f64 r17 r1 = some r18) ∧ (floatBits .add .f64 r18 4641049159275471596 = some r19) ∧ (floatBits .quo .f64 r10 r19 = some r20) ∧ (floatBits .mul .f64 z r20 = some r21) ∧ (floatBits .add .f64 r21 z = some r22) ∧ (Fin r20 ∧ -(33 / 100) ≤ fv r20 ∧ fv r20 ≤ 33 / 100) ∧ r22 = xatW z ∧ Ap r22 (XA Z) (91 / 12500000000000000) (177 / 200) := by
  obtain ⟨is1, s1⟩ := Ap.mul hz hz (139 / 100000000000000000) (449 / 1000) (449 / 1000) (mid_of (by grind) (by grind)) (by grind) (by grind) (by grind)
  obtain ⟨is2, s2⟩ := Ap.mul ap_aP0 s1 (63 / 50000000000000000) (393 / 1000) (393 / 1000) (mid_of (by grind) (by grind)) (by grind) (by grind) (by grind)
  obtain ⟨is3, s3⟩ := Ap.add s2 ap_aP1 (39 / 12500000000000000) (83 / 5) (167 / 10) (mid_of (by grind) (by grind)) (by grind) (by grind) (by grind)
  obtain ⟨is4, s4⟩ := Ap.mul s3 s1 (127 / 5000000000000000) (373 / 50) (373 / 50) (mid_of (by grind) (by grind)) (by grind) (by grind) (by grind)
  obtain ⟨is5, s5⟩ := Ap.add s4 ap_aP2 (173 / 5000000000000000) (165 / 2) (413 / 5) (mid_of (by grind) (by grind)) (by grind) (by grind) (by grind)
  obtain ⟨is6, s6⟩ := Ap.mul s5 s1 (27 / 200000000000000) (371 / 10) (371 / 10) (mid_of (by grind) (by grind)) (by grind) (by grind) (by grind)
  obtain ⟨is7, s7⟩ := Ap.add s6 ap_aP3 (153 / 1000000000000000) (160) (161) (mid_of (by grind) (by grind)) (by grind) (by grind) (by grind)
  obtain ⟨is8, s8⟩ := Ap.mul s7 s1 (3 / 10000000000000) (719 / 10) (719 / 10) (mid_of (by grind) (by grind)) (by grind) (by grind) (by grind)
  obtain ⟨is9, s9⟩ := Ap.add s8 ap_aP4 (79 / 250000000000000) (137) (138) (mid_of (by grind) (by grind)) (by grind) (by grind) (by grind)
  obtain ⟨is10, s10⟩ := Ap.mul s1 s9 (17 / 50000000000000) (308 / 5) (308 / 5) (mid_of (by grind) (by grind)) (by grind) (by grind) (by grind)
  obtain ⟨is11, s11⟩ := Ap.add s1 ap_aQ0 (423 / 100000000000000000) (127 / 5) (51 / 2) (mid_of (by grind) (by grind)) (by grind) (by grind) (by grind)
  obtain ⟨is12, s12⟩ := Ap.mul s11 s1 (77 / 2000000000000000) (23 / 2) (23 / 2) (mid_of (by grind) (by grind)) (by grind) (by grind) (by grind)
  obtain ⟨is13, s13⟩ := Ap.add s12 ap_aQ1 (583 / 10000000000000000) (177) (178) (mid_of (by grind) (by grind)) (by grind) (by grind) (by grind)
  obtain ⟨is14, s14⟩ := Ap.mul s13 s1 (141 / 500000000000000) (159 / 2) (159 / 2) (mid_of (by grind) (by grind)) (by grind) (by grind) (by grind)
  obtain ⟨is15, s15⟩ := Ap.add s14 ap_aQ2 (17 / 50000000000000) (513) (514) (mid_of (by grind) (by grind)) (by grind) (by grind) (by grind)
  obtain ⟨is16, s16⟩ := Ap.mul s15 s1 (223 / 250000000000000) (231) (231) (mid_of (by grind) (by grind)) (by grind) (by grind) (by grind)
  obtain ⟨is17, s17⟩ := Ap.add s16 ap_aQ3 (243 / 250000000000000) (717) (718) (mid_of (by grind) (by grind)) (by grind) (by grind) (by grind)
  obtain ⟨is18, s18⟩ := Ap.mul s17 s1 (147 / 100000000000000) (322) (322) (mid_of (by grind) (by grind)) (by grind) (by grind) (by grind)
  obtain ⟨is19, s19⟩ := Ap.add s18 ap_aQ4 (153 / 100000000000000) (517) (518) (mid_of (by grind) (by grind)) (by grind) (by grind) (by grind)
  have hq0 : 194 ≤ ((((((((((Z * Z) + aQ0) * (Z * Z)) + aQ1) * (Z * Z)) + aQ2) * (Z * Z)) + aQ3) * (Z * Z)) + aQ4) := by
    have hz2 : 0 ≤ Z * Z := zsq Z
    have b0 := bd_aQ0; have b1 := bd_aQ1; have b2 := bd_aQ2; have b3 := bd_aQ3; have b4 := bd_aQ4
    clear s1 is1 s2 is2 s3 is3 s4 is4 s5 is5 s6 is6 s7 is7 s8 is8 s9 is9 s10 is10 s11 is11 s12 is12 s13 is13 s14 is14 s15 is15 s16 is16 s17 is17 s18 is18 s19 is19
    generalize Z * Z = u at *
    exact qa_lo hz2 b0.1 b1.1 b2.1 b3.1 b4.1
  have hq1 : -(8 / 25) ≤ ((Z * Z) * ((((((((aP0 * (Z * Z)) + aP1) * (Z * Z)) + aP2) * (Z * Z)) + aP3) * (Z * Z)) + aP4)) / ((((((((((Z * Z) + aQ0) * (Z * Z)) + aQ1) * (Z * Z)) + aQ2) * (Z * Z)) + aQ3) * (Z * Z)) + aQ4) ∧ ((Z * Z) * ((((((((aP0 * (Z * Z)) + aP1) * (Z * Z)) + aP2) * (Z * Z)) + aP3) * (Z * Z)) + aP4)) / ((((((((((Z * Z) + aQ0) * (Z * Z)) + aQ1) * (Z * Z)) + aQ2) * (Z * Z)) + aQ3) * (Z * Z)) + aQ4) ≤ 8 / 25 := by
    have hz2 : 0 ≤ Z * Z := zsq Z
    have hz3 : Z * Z ≤ 449 / 1000 := zsq_le hz.bl hz.bh
    have b0 := bd_aP0; have b1 := bd_aP1; have b2 := bd_aP2; have b3 := bd_aP3; have b4 := bd_aP4; have c0 := bd_aQ0; have c1 := bd_aQ1; have c2 := bd_aQ2; have c3 := bd_aQ3; have c4 := bd_aQ4
    clear s1 is1 s2 is2 s3 is3 s4 is4 s5 is5 s6 is6 s7 is7 s8 is8 s9 is9 s10 is10 s11 is11 s12 is12 s13 is13 s14 is14 s15 is15 s16 is16 s17 is17 s18 is18 s19 is19 hz
    generalize Z * Z = u at *
    exact pq_bd hz2 hz3 b0 b1 b2 b3 b4 hq0
  obtain ⟨isq, sq⟩ := Ap.div s10 s19 (194) (87 / 10000000000000000) (8 / 25) (321 / 1000) (mid_of (by grind) (by grind)) (by grind) hq0 (by grind) hq1 (by grind) (by grind)
  obtain ⟨is20, s20⟩ := Ap.mul hz sq (309 / 50000000000000000) (43 / 200) (43 / 200) (mid_of (by grind) (by grind)) (by grind) (by grind) (by grind)
  obtain ⟨is21, s21⟩ := Ap.add s20 hz (91 / 12500000000000000) (177 / 200) (443 / 500) (mid_of (by grind) (by grind)) (by grind) (by grind) (by grind)
  have rb : Fin (fdiv (fmul (fmul z z) (fadd (fmul (fadd (fmul (fadd (fmul (fadd (fmul 13829429103926125972 (fmul z z)) 13848613196940411002) (fmul z z)) 13858350711815275123) (fmul z z)) 13861719834326579749) (fmul z z)) 13857635882265799822)) (fadd (fmul (fadd (fmul (fadd (fmul (fadd (fmul (fadd (fmul z z) 4627690253511319612) (fmul z z)) 4640010388282866213) (fmul z z)) 4646322940342877755) (fmul z z)) 4647246694406179306) (fmul z z)) 4641049159275471596)) ∧ -(33 / 100) ≤ fv (fdiv (fmul (fmul z z) (fadd (fmul (fadd (fmul (fadd (fmul (fadd (fmul 13829429103926125972 (fmul z z)) 13848613196940411002) (fmul z z)) 13858350711815275123) (fmul z z)) 13861719834326579749) (fmul z z)) 13857635882265799822)) (fadd (fmul (fadd (fmul (fadd (fmul (fadd (fmul (fadd (fmul z z) 4627690253511319612) (fmul z z)) 4640010388282866213) (fmul z z)) 4646322940342877755) (fmul z z)) 4647246694406179306) (fmul z z)) 4641049159275471596)) ∧ fv (fdiv (fmul (fmul z z) (fadd (fmul (fadd (fmul (fadd (fmul (fadd (fmul 13829429103926125972 (fmul z z)) 13848613196940411002) (fmul z z)) 13858350711815275123) (fmul z z)) 13861719834326579749) (fmul z z)) 13857635882265799822)) (fadd (fmul (fadd (fmul (fadd (fmul (fadd (fmul (fadd (fmul z z) 4627690253511319612) (fmul z z)) 4640010388282866213) (fmul z z)) 4646322940342877755) (fmul z z)) 4647246694406179306) (fmul z z)) 4641049159275471596)) ≤ 33 / 100 := ⟨sq.fin, by have := sq.lo; have := sq.bl; grind, by have := sq.hi; have := sq.bh; grind⟩
  exact ⟨_, _, _, _, _, _, _, _, _, _, _, _, _, _, _, _, _, _, _, _, _, _, is1, is2, is3, is4, is5, is6, is7, is8, is9, is10, is11, is12, is13, is14, is15, is16, is17, is18, is19, isq, is20, is21, rb, rfl, s21⟩
end Go.Proofs.YtdifeoahaegjbaaGreatDoor
/- Floats: signs are kept. Plain. -/
set_option linter.unusedSimpArgs false
set_option linter.unusedVariables false
namespace Go.Proofs.YtdifeoahaegjbaaGreatDoor
open Ieee

theorem write_nonneg (s : Bool) (m : Nat) (p : Int) (M : Rat) (h : Mid M) (h1 : -M ≤ dv (.number s m p)) (h2 : dv (.number s m p) ≤ M) (h0 : 0 ≤ dv (.number s m p)) : 0 ≤ fv (double.write (.number s m p)) := by
  rw [dv_number] at h0 h1 h2
  have hm : (m : Rat) * (2 : Rat) ^ p ≤ M := by
    rw [Rat.mul_assoc] at h1 h2
    generalize (m : Rat) * (2 : Rat) ^ p = v at *
    cases s
    · rw [sg_f] at h2; grind
    · rw [sg_t] at h1; grind
  obtain ⟨m', p', hr, hn⟩ := nearest_near s m p M hm h
  have hp := p2_pos p
  have hm0 := nat_nonneg m
  have h3 : 0 ≤ (m' : Rat) * (2 : Rat) ^ p' := Rat.mul_nonneg (nat_nonneg m') (Rat.le_of_lt (p2_pos p'))
  show 0 ≤ fv (double.nearest s m p)
  cases s
  · rw [fv_fin hr, Rat.mul_assoc, sg_f]; grind
  · have hz : m = 0 := by
      rcases Nat.eq_zero_or_pos m with c | c
      · exact c
      · exfalso
        have c1 : (0 : Rat) < (m : Rat) := by exact_mod_cast c
        have := Rat.mul_pos c1 hp
        rw [Rat.mul_assoc, sg_t] at h0
        generalize (m : Rat) * (2 : Rat) ^ p = v at *
        grind
    subst hz
    obtain ⟨m2, p2, hr2, hv2⟩ := nearest_zero true p
    rw [fv_fin hr2, Rat.mul_assoc, hv2]
    have : sg true * 0 = 0 := by grind
    rw [this]; exact Rat.le_refl
theorem fadd_nonneg {x y : Nat} (hx : Fin x) (hy : Fin y) (M : Rat) (h : Mid M) (h0 : 0 ≤ fv x + fv y) (h2 : fv x + fv y ≤ M) : 0 ≤ fv (fadd x y) := by
  obtain ⟨s, m, i, hx⟩ := hx
  obtain ⟨t, n, j, hy⟩ := hy
  obtain ⟨s', m', p', hs, hd⟩ := sum_val s t m n i j
  have e : double.add x y = some (double.write (.number s' m' p')) := by unfold Format.add; rw [hx, hy, hs]; rfl
  have e2 : fadd x y = double.write (.number s' m' p') := by unfold fadd; rw [e]; rfl
  have e3 : fv x + fv y = dv (.number s' m' p') := by rw [hd]; unfold fv; rw [hx, hy]
  rw [e2]
  rw [e3] at h0 h2
  exact write_nonneg s' m' p' M h (by grind) h2 h0
theorem fmul_nonneg {x y : Nat} (hx : Fin x) (hy : Fin y) (M : Rat) (h : Mid M) (h0 : 0 ≤ fv x * fv y) (h2 : fv x * fv y ≤ M) : 0 ≤ fv (fmul x y) := by
  obtain ⟨s, m, i, hx⟩ := hx
  obtain ⟨t, n, j, hy⟩ := hy
  have e : double.mul x y = some (double.write (.number (s ^^ t) (m * n) (i + j))) := by
    unfold Format.mul; rw [hx, hy]; rfl
  have e2 : fmul x y = double.write (.number (s ^^ t) (m * n) (i + j)) := by unfold fmul; rw [e]; rfl
  have e3 : fv x * fv y = dv (.number (s ^^ t) (m * n) (i + j)) := by rw [prod_val]; unfold fv; rw [hx, hy]
  rw [e2]
  rw [e3] at h0 h2
  exact write_nonneg _ _ _ M h (by grind) h2 h0
theorem fdiv_nonneg {x y : Nat} (hx : Fin x) (hy : Fin y) (hx0 : 0 ≤ fv x) (hy0 : 0 < fv y) (M : Rat) (h : Mid (2 * M)) (h2 : fv x / fv y ≤ M) : 0 ≤ fv (fdiv x y) := by
  have hq := rdiv_nonneg hx0 hy0
  obtain ⟨s, m, i, hx⟩ := hx
  obtain ⟨t, n, j, hy⟩ := hy
  have hn : n ≠ 0 := fun e => by rw [fv_fin hy, e] at hy0; have e0 : sg t * ((0 : Nat) : Rat) * (2 : Rat) ^ j = 0 := by show _ * (0 : Rat) * _ = 0; grind
                                 rw [e0] at hy0; grind
  have ht : t = false := by
    cases t
    · rfl
    · exfalso
      rw [fv_fin hy, sg_t, Rat.mul_assoc] at hy0
      have := Rat.mul_nonneg (nat_nonneg n) (Rat.le_of_lt (p2_pos j))
      generalize (n : Rat) * (2 : Rat) ^ j = v at *
      grind
  have hs : s = false ∨ m = 0 := by
    cases s
    · exact .inl rfl
    · right
      rcases Nat.eq_zero_or_pos m with c | c
      · exact c
      · exfalso
        have c1 : (0 : Rat) < (m : Rat) := by exact_mod_cast c
        have := Rat.mul_pos c1 (p2_pos i)
        rw [fv_fin hx, sg_t, Rat.mul_assoc] at hx0
        generalize (m : Rat) * (2 : Rat) ^ i = v at *
        grind
  obtain ⟨s', m', p', hs', e, he, hd⟩ := quot_val s t m n i j hn
  have e1 : double.div x y = some (double.write (.number s' m' p')) := by
    unfold Format.div; rw [hx, hy]; show ((Datum.quotient 54 _ _).map _) = _; rw [hs']; rfl
  have e2 : fdiv x y = double.write (.number s' m' p') := by unfold fdiv; rw [e1]; rfl
  have e3 : fv x / fv y = e := by rw [fv_num hx, fv_num hy]; exact he
  rw [e3] at h2 hq
  have hM := hd M (by grind) h2
  unfold Near at hM
  have hnn : 0 ≤ dv (.number s' m' p') := by
    unfold Datum.quotient at hs'
    dsimp only at hs'
    rw [if_neg hn] at hs'
    cases hs'
    rw [dv_number, Rat.mul_assoc]
    have hp := Rat.mul_nonneg (nat_nonneg (2 * (m <<< (54 + n.log2 - m.log2) / n) + (m <<< (54 + n.log2 - m.log2) % n != 0).toNat)) (Rat.le_of_lt (p2_pos (i - j - ((54 + n.log2 - m.log2 : Nat) : Int) - 1)))
    rcases hs with c | c
    · rw [c, ht]
      show 0 ≤ sg false * _
      rw [sg_f]; grind
    · subst c
      have ez : (2 * (0 <<< (54 + n.log2 - Nat.log2 0) / n) + (0 <<< (54 + n.log2 - Nat.log2 0) % n != 0).toNat) = 0 := by simp
      rw [ez]
      show 0 ≤ sg _ * ((0 : Rat) * _)
      grind
  rw [e2]
  exact write_nonneg s' m' p' (2 * M) h (by grind) (by grind) hnn
end Go.Proofs.YtdifeoahaegjbaaGreatDoor
/- The model's square root, and whole numbers beyond the words' exactness. -/
namespace Go.Proofs.YtdifeoahaegjbaaGreatDoor
open Ieee
set_option linter.unusedSimpArgs false
set_option linter.unusedVariables false
theorem fint_near (n : Int) (M : Rat) (hM : Mid M) (h1 : -M ≤ (n : Rat)) (h2 : (n : Rat) ≤ M) : Fin (floatOfInt .f64 n) ∧ Near (fv (floatOfInt .f64 n)) (n : Rat) (M / 9007199254740992) := by
  have e : dv (.number (decide (n < 0)) n.natAbs 0) = (n : Rat) := by
    rw [dv_number, natAbs_val]
    show (n : Rat) * 1 = _
    grind
  have w := write_near (decide (n < 0)) n.natAbs 0 M hM (by rw [e]; exact h1) (by rw [e]; exact h2)
  rw [e] at w
  exact w
theorem rootFrom_spec (n : Nat) : ∀ todo root, root * root ≤ n → n < (root + 2 ^ todo) * (root + 2 ^ todo) → Datum.rootFrom n todo root * Datum.rootFrom n todo root ≤ n ∧ n < (Datum.rootFrom n todo root + 1) * (Datum.rootFrom n todo root + 1)
  | 0, root, h1, h2 => by
    unfold Datum.rootFrom
    exact ⟨h1, by simpa using h2⟩
  | todo + 1, root, h1, h2 => by
    unfold Datum.rootFrom
    dsimp only
    rw [one_shl]
    by_cases c : (root + 2 ^ todo) * (root + 2 ^ todo) ≤ n
    · rw [if_pos c]
      refine rootFrom_spec n todo (root + 2 ^ todo) c ?_
      have e : root + 2 ^ todo + 2 ^ todo = root + 2 ^ (todo + 1) := by rw [Nat.pow_succ]; omega
      rw [e]; exact h2
    · rw [if_neg c]
      exact rootFrom_spec n todo root h1 (by omega)
theorem isqrt_ok (n : Nat) : Datum.rootFrom n (n.log2 / 2 + 1) 0 * Datum.rootFrom n (n.log2 / 2 + 1) 0 ≤ n ∧ n < (Datum.rootFrom n (n.log2 / 2 + 1) 0 + 1) * (Datum.rootFrom n (n.log2 / 2 + 1) 0 + 1) := by
  refine rootFrom_spec n _ 0 (by omega) ?_
  rw [Nat.zero_add, ← Nat.pow_add]
  exact Nat.lt_of_lt_of_le (lt_log2 n) (Nat.pow_le_pow_right (by omega) (by omega))
/-- How near a square root is: v is what is rounded. -/
structure SqrtOk (x : Nat) (v : Rat) : Prop where
  pos : 0 < v
  lo : fv x - fv x / 9007199254740992 ≤ v * v
  hi : v * v ≤ fv x + fv x / 9007199254740992
theorem sqrt_val {x : Nat} (hf : Fin x) (h0 : 0 < fv x) : ∃ v d, (double.read x).root 54 = some d ∧ dv d = v ∧ SqrtOk x v ∧ ∃ s m p, d = .number s m p := by
  obtain ⟨s, m, i, hr⟩ := hf
  have hs : s = false := by
    cases s
    · rfl
    · exfalso
      rw [fv_fin hr, sg_t] at h0
      have h1 : 0 ≤ (m : Rat) * (2 : Rat) ^ i := Rat.mul_nonneg (nat_nonneg m) (Rat.le_of_lt (p2_pos i))
      rw [Rat.mul_assoc] at h0
      grind
  subst hs
  have hm : m ≠ 0 := by
    rintro rfl
    rw [fv_fin hr] at h0
    have : ((0 : Nat) : Rat) = 0 := rfl
    rw [this] at h0
    grind
  have hX : fv x = (m : Rat) * (2 : Rat) ^ i := by rw [fv_fin hr, sg_f]; grind
  obtain ⟨more, hmore⟩ : ∃ more, more = (2 * 54 - m.log2) + ((i - ((2 * 54 - m.log2 : Nat) : Int)) % 2).toNat := ⟨_, rfl⟩
  obtain ⟨n, hn⟩ : ∃ n, n = m * 2 ^ more := ⟨_, rfl⟩
  obtain ⟨W, hW⟩ : ∃ W, W = Datum.rootFrom n (n.log2 / 2 + 1) 0 := ⟨_, rfl⟩
  obtain ⟨w1, w2⟩ := isqrt_ok n
  rw [← hW] at w1 w2
  obtain ⟨e, he⟩ : ∃ e : Int, i - (more : Int) = 2 * e := ⟨(i - (more : Int)) / 2, by omega⟩
  have hroot : (double.read x).root 54 = some (.number false (2 * W + (W * W != n).toNat) (e - 1)) := by
    rw [hr]
    unfold Datum.root
    dsimp only
    rw [if_neg hm, if_neg (by decide), ← hmore, shl_eq, ← hn, ← hW, he, show 2 * e / 2 = e by omega]
  refine ⟨_, _, hroot, rfl, ?_, _, _, _, rfl⟩
  rw [dv_number, sg_f]
  -- the size of W
  have hlog : 2 ^ 108 ≤ n := by
    have h1 : 2 ^ m.log2 ≤ m := Nat.log2_self_le hm
    rw [hn]
    refine Nat.le_trans ?_ (Nat.mul_le_mul h1 (Nat.pow_le_pow_right (by omega) (show 2 * 54 - m.log2 ≤ more by omega)))
    rw [← Nat.pow_add]
    exact Nat.pow_le_pow_right (by omega) (by omega)
  have hW54 : 2 ^ 54 ≤ W := by
    apply Nat.le_of_not_lt
    intro h
    have : (W + 1) * (W + 1) ≤ 2 ^ 54 * 2 ^ 54 := Nat.mul_le_mul (by omega) (by omega)
    have e2 : 2 ^ 54 * 2 ^ 54 = 2 ^ 108 := by decide
    omega
  -- the unit
  obtain ⟨u, hu⟩ : ∃ u : Rat, u = (2 : Rat) ^ e := ⟨_, rfl⟩
  have up : 0 < u := by rw [hu]; exact p2_pos e
  have eX : fv x = (n : Rat) * (u * u) := by
    rw [hX, hn, hu, ← p2_add, Rat.natCast_mul, p2_cast, Rat.mul_assoc, ← p2_add]
    congr 2
    omega
  have eu : (2 : Rat) ^ (e - 1) = u / 2 := by
    have : (2 : Rat) ^ e = 2 ^ (e - 1) * 2 ^ (1 : Int) := by rw [← p2_add]; congr 1; omega
    have e1 : (2 : Rat) ^ (1 : Int) = 2 := by decide
    rw [hu, this, e1]; grind
  have w1r : (W : Rat) * (W : Rat) ≤ (n : Rat) := by rw [← Rat.natCast_mul]; exact Rat.natCast_le_natCast.2 w1
  have w2r : (n : Rat) ≤ (W : Rat) * (W : Rat) + 2 * (W : Rat) := by
    have : n ≤ W * W + 2 * W := by have : (W + 1) * (W + 1) = W * W + 2 * W + 1 := by grind
                                   omega
    have := Rat.natCast_le_natCast.2 this
    rw [Rat.natCast_add, Rat.natCast_mul, Rat.natCast_mul] at this
    exact this
  have W54 : (18014398509481984 : Rat) ≤ (W : Rat) := by
    have := Rat.natCast_le_natCast.2 hW54
    exact this
  have huu : 0 ≤ u * u := Rat.mul_nonneg (Rat.le_of_lt up) (Rat.le_of_lt up)
  have hWW := Rat.mul_le_mul_of_nonneg_right W54 (show 0 ≤ (W : Rat) by grind)
  rw [eu]
  generalize hk : (W * W != n).toNat = k
  have hk01 : k = 0 ∧ (W : Rat) * (W : Rat) = (n : Rat) ∨ k = 1 := by
    by_cases c : W * W = n
    · left
      refine ⟨by rw [← hk, c]; simp, by rw [← Rat.natCast_mul, c]⟩
    · right
      rw [← hk]
      have : (W * W != n) = true := by simp [c]
      rw [this]; rfl
  have ev : ((2 * W + k : Nat) : Rat) = 2 * (W : Rat) + (k : Rat) := by rw [Rat.natCast_add, Rat.natCast_mul]; rfl
  rw [ev]
  clear hk ev hn hW w1 w2 hroot hr hX hmore he hu eu hlog hW54 hm h0
  generalize (W : Rat) = a at *
  generalize (n : Rat) = b at *
  rcases hk01 with ⟨rfl, hab⟩ | rfl
  · have k0 : ((0 : Nat) : Rat) = 0 := rfl
    rw [k0]
    have ev : 1 * (2 * a + 0) * (u / 2) = a * u := by grind
    rw [ev]
    have esq : a * u * (a * u) = fv x := by rw [eX, ← hab]; grind
    refine ⟨Rat.mul_pos (by grind) up, ?_, ?_⟩
    · rw [esq]; have : 0 ≤ fv x := by rw [← esq]; exact zsq (a * u)
      grind
    · rw [esq]; have : 0 ≤ fv x := by rw [← esq]; exact zsq (a * u)
      grind
  · have k1 : ((1 : Nat) : Rat) = 1 := rfl
    rw [k1]
    have ev : 1 * (2 * a + 1) * (u / 2) = (a + 1 / 2) * u := by grind
    rw [ev]
    have esq : (a + 1 / 2) * u * ((a + 1 / 2) * u) = (a * a + a + 1 / 4) * (u * u) := by grind
    refine ⟨Rat.mul_pos (by grind) up, ?_, ?_⟩
    · rw [esq, eX]
      have := Rat.mul_nonneg (show 0 ≤ (a * a + a + 1 / 4) - (b - b / 9007199254740992) by grind) huu
      grind
    · rw [esq, eX]
      have := Rat.mul_nonneg (show 0 ≤ (b + b / 9007199254740992) - (a * a + a + 1 / 4) by grind) huu
      grind
/-- The word of a square root. -/
def fsqrt (x : Nat) : Nat := (double.sqrt x).getD 0
theorem fsqrt_ok {x : Nat} (hf : Fin x) (h0 : 0 < fv x) (M : Rat) (hM : Mid M) (h1 : fv x * 2 ≤ M * M) (hMp : 0 < M) : ∃ v, SqrtOk x v ∧ double.sqrt x = some (fsqrt x) ∧ Fin (fsqrt x) ∧ Near (fv (fsqrt x)) v (M / 9007199254740992) ∧ 0 ≤ fv (fsqrt x) := by
  obtain ⟨v, d, hd, hv, hok, s, m, p, rfl⟩ := sqrt_val hf h0
  have hs : double.sqrt x = some (double.write (.number s m p)) := by unfold Format.sqrt; rw [show double.fractionBits + 2 = 54 from rfl, hd]; rfl
  have e : fsqrt x = double.write (.number s m p) := by unfold fsqrt; rw [hs]; rfl
  obtain ⟨p1, p2, p3⟩ := id hok
  have hvM : v ≤ M := by
    apply Rat.not_lt.1
    intro hl
    have a1 := Rat.mul_lt_mul_of_pos_right hl p1
    have a2 := Rat.mul_lt_mul_of_pos_left hl hMp
    grind
  have w := write_near s m p M hM (by rw [hv]; grind) (by rw [hv]; exact hvM)
  have wn := write_nonneg s m p M hM (by rw [hv]; grind) (by rw [hv]; exact hvM) (by rw [hv]; grind)
  rw [hv] at w
  rw [e]
  exact ⟨v, hok, hs, w.1, w.2, wn⟩
theorem fsqrt_zero : double.sqrt 0 = some 0 ∧ fsqrt 0 = 0 := by constructor <;> decide
end Go.Proofs.YtdifeoahaegjbaaGreatDoor
