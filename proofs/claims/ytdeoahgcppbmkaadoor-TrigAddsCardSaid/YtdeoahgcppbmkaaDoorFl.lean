/- Floats: what the operations give, and how far they err. Plain: no program. -/
import Derived.Laws.FloatArith
set_option linter.unusedSimpArgs false
set_option linter.unusedVariables false
namespace Go.Proofs.YtdeoahgcppbmkaaDoor
open Ieee

theorem one_shl (k : Nat) : 1 <<< k = 2 ^ k := by rw [Nat.shiftLeft_eq, Nat.one_mul]
theorem lt_log2 (n : Nat) : n < 2 ^ (n.log2 + 1) := Nat.lt_log2_self
theorem cut_even_nat (neg : Bool) (n drop : Nat) :
    2 * n ≤ 2 * (Toward.even.cut neg n drop * 2 ^ drop) + 2 ^ drop ∧ 2 * (Toward.even.cut neg n drop * 2 ^ drop) ≤ 2 * n + 2 ^ drop := by
  unfold Toward.cut
  rw [one_shl]
  by_cases h : drop ≤ n.log2 + 2
  · rw [Nat.min_eq_left h]
    dsimp only
    have hg : 0 < 2 ^ drop := Nat.two_pow_pos drop
    generalize 2 ^ drop = g at hg ⊢
    have h1 := Nat.div_add_mod n g
    have h2 := Nat.mod_lt n hg
    generalize n / g = low at h1 ⊢
    generalize n % g = rest at h1 h2 ⊢
    have e : (low + 1) * g = g * low + g := by rw [Nat.add_mul, Nat.mul_comm]; omega
    have e2 : low * g = g * low := Nat.mul_comm _ _
    by_cases c1 : g < 2 * rest
    · simp [c1]
      rw [e]; omega
    · by_cases c2 : g = 2 * rest ∧ low % 2 = 1
      · have c3 := c2.1
        simp [c2]
        rw [← c3, e]
        omega
      · have : (decide (g < 2 * rest) || (g == 2 * rest && low % 2 == 1)) = false := by
          simp [c1]
          intro h3
          have h4 : ¬ rest * 0 + low % 2 = 1 := fun h => c2 ⟨h3, by omega⟩
          omega
        rw [this]
        simp only [Bool.toNat_false, Nat.add_zero]
        rw [e2]; omega
  · rw [Nat.min_eq_right (by omega)]
    dsimp only
    have h0 := lt_log2 n
    have e : 2 ^ (n.log2 + 2) = 2 * 2 ^ (n.log2 + 1) := by rw [Nat.pow_succ]; omega
    have h1 : n / 2 ^ (n.log2 + 2) = 0 := Nat.div_eq_of_lt (by omega)
    have h2 : n % 2 ^ (n.log2 + 2) = n := Nat.mod_eq_of_lt (by omega)
    rw [h1, h2]
    have h3 : (decide (2 ^ (n.log2 + 2) < 2 * n) || (2 ^ (n.log2 + 2) == 2 * n && 0 % 2 == 1)) = false := by
      have : ¬ 2 ^ (n.log2 + 2) < 2 * n := by omega
      simp [this]
    rw [h3]
    have h4 : 2 ^ (n.log2 + 2) ≤ 2 ^ drop := Nat.pow_le_pow_right (by omega) (by omega)
    simp
    omega

theorem shl_eq (m k : Nat) : m <<< k = m * 2 ^ k := Nat.shiftLeft_eq m k

/-- What 'nearest' gives: a last place and what is kept. -/
theorem nearest_spec (neg : Bool) (mag : Nat) (place : Int) (hm : mag ≠ 0) : ∃ L kept : Nat,
    double.nearest neg mag place = double.word neg (min (L * 2 ^ 52 + kept) double.infRung) ∧ kept ≤ 2 ^ 53 ∧ (L = 0 ∨ 2 ^ 52 ≤ kept) ∧
    (∃ n drop : Nat, kept = Toward.even.cut neg n drop ∧ ((drop = 0 ∧ n = mag * 2 ^ (place - ((L : Int) - 1074)).toNat ∧ (L : Int) - 1074 ≤ place) ∨ (n = mag ∧ (drop : Int) = (L : Int) - 1074 - place))) ∧
    (L = 0 ∨ (L : Int) - 1074 = place + mag.log2 - 52) := by
  obtain ⟨last, hlast⟩ : ∃ last : Int, last = max (place + mag.log2 - 52) (-1074) := ⟨_, rfl⟩
  have hL0 : -1074 ≤ last := by omega
  obtain ⟨L, hL⟩ : ∃ L : Nat, (L : Int) = last + 1074 := ⟨(last + 1074).toNat, by omega⟩
  have hl : double.leastPlace = -1074 := by decide
  have hb : double.binade = 2 ^ 52 := rfl
  have hf : double.fractionBits = 52 := rfl
  refine ⟨L, Toward.even.cut neg (mag <<< (place - last).toNat) (last - place).toNat, ?_, ?_, ?_, ⟨_, _, rfl, ?_⟩, ?_⟩
  · unfold Format.nearest
    rw [if_neg hm]
    dsimp only
    rw [hl, hb, hf]
    have e : max (place + (mag.log2 : Int) - ((52 : Nat) : Int)) (-1074) = last := by rw [hlast]; rfl
    rw [e]
    have e2 : (last - -1074).toNat = L := by omega
    rw [e2]
  · -- kept ≤ 2^53
    have hc := (cut_even_nat neg (mag <<< (place - last).toNat) (last - place).toNat).2
    generalize Toward.even.cut neg (mag <<< (place - last).toNat) (last - place).toNat = c at hc
    rw [shl_eq] at hc
    have h0 := lt_log2 mag
    by_cases h : last ≤ place
    · have e : (last - place).toNat = 0 := by omega
      rw [e] at hc
      obtain ⟨k, hk⟩ : ∃ k, k = (place - last).toNat := ⟨_, rfl⟩
      rw [← hk] at hc
      have hk2 : mag.log2 + 1 + k ≤ 53 := by omega
      have h1 : mag * 2 ^ k < 2 ^ (mag.log2 + 1) * 2 ^ k := Nat.mul_lt_mul_of_pos_right h0 (Nat.two_pow_pos k)
      rw [← Nat.pow_add] at h1
      have h2 : 2 ^ (mag.log2 + 1 + k) ≤ 2 ^ 53 := Nat.pow_le_pow_right (by omega) hk2
      omega
    · have e : (place - last).toNat = 0 := by omega
      rw [e] at hc
      obtain ⟨k, hk⟩ : ∃ k, k = (last - place).toNat := ⟨_, rfl⟩
      rw [← hk] at hc
      have hk2 : mag.log2 + 1 ≤ 53 + k := by omega
      have h2 : 2 ^ (mag.log2 + 1) ≤ 2 ^ (53 + k) := Nat.pow_le_pow_right (by omega) hk2
      rw [Nat.pow_add 2 53 k] at h2
      have hp := Nat.two_pow_pos k
      generalize 2 ^ k = g at hc h2 hp
      rcases Nat.lt_or_ge (2 ^ 53) c with hlt | hge
      · exfalso
        have h3 : (2 ^ 53 + 1) * g ≤ c * g := Nat.mul_le_mul_right g hlt
        rw [Nat.add_mul] at h3
        omega
      · exact hge
  · -- L = 0 or 2^52 ≤ kept
    by_cases hz : last = -1074
    · left; omega
    · right
      have hc := (cut_even_nat neg (mag <<< (place - last).toNat) (last - place).toNat).1
      generalize Toward.even.cut neg (mag <<< (place - last).toNat) (last - place).toNat = c at hc
      rw [shl_eq] at hc
      have h0 := Nat.log2_self_le hm
      by_cases h : last ≤ place
      · have e : (last - place).toNat = 0 := by omega
        rw [e] at hc
        obtain ⟨k, hk⟩ : ∃ k, k = (place - last).toNat := ⟨_, rfl⟩
        rw [← hk] at hc
        have hk2 : 52 = mag.log2 + k := by omega
        have h1 : 2 ^ mag.log2 * 2 ^ k ≤ mag * 2 ^ k := Nat.mul_le_mul_right _ h0
        rw [← Nat.pow_add, ← hk2] at h1
        omega
      · have e : (place - last).toNat = 0 := by omega
        rw [e] at hc
        obtain ⟨k, hk⟩ : ∃ k, k = (last - place).toNat := ⟨_, rfl⟩
        rw [← hk] at hc
        have hk2 : mag.log2 = 52 + k := by omega
        rw [hk2, Nat.pow_add] at h0
        have hp := Nat.two_pow_pos k
        generalize 2 ^ k = g at hc h0 hp
        rcases Nat.lt_or_ge c (2 ^ 52) with hlt | hge
        · exfalso
          have h3 : (c + 1) * g ≤ 2 ^ 52 * g := Nat.mul_le_mul_right g hlt
          rw [Nat.add_mul] at h3
          omega
        · exact hge
  · by_cases h : last ≤ place
    · left
      refine ⟨by omega, ?_, by omega⟩
      rw [shl_eq]
      have e : (place - ((L : Int) - 1074)).toNat = (place - last).toNat := by omega
      rw [e]
    · right
      refine ⟨?_, by omega⟩
      have e : (place - last).toNat = 0 := by omega
      rw [e]
      rfl
  · omega
theorem two_ne : (2 : Rat) ≠ 0 := by decide
theorem p2_pos (i : Int) : (0 : Rat) < (2 : Rat) ^ i := Rat.zpow_pos (by decide)
theorem p2_add (i j : Int) : (2 : Rat) ^ (i + j) = 2 ^ i * 2 ^ j := Rat.zpow_add two_ne i j
theorem p2_nat (n : Nat) : (2 : Rat) ^ ((n : Nat) : Int) = (2 : Rat) ^ n := Rat.zpow_natCast 2 n
theorem p2_cast (n : Nat) : ((2 ^ n : Nat) : Rat) = (2 : Rat) ^ (n : Int) := by
  rw [p2_nat]; exact Rat.natCast_pow 2 n
theorem p2_one_le {i : Int} (h : 0 ≤ i) : (1 : Rat) ≤ (2 : Rat) ^ i := by
  obtain ⟨n, rfl⟩ := Int.eq_ofNat_of_zero_le h
  rw [← p2_cast]
  have : 1 ≤ 2 ^ n := Nat.one_le_two_pow
  exact_mod_cast this
theorem p2_le {i j : Int} (h : i ≤ j) : (2 : Rat) ^ i ≤ (2 : Rat) ^ j := by
  obtain ⟨k, rfl⟩ : ∃ k : Int, j = i + k := ⟨j - i, by omega⟩
  rw [p2_add]
  have h1 := p2_one_le (i := k) (by omega)
  have h2 := p2_pos i
  have := Rat.mul_le_mul_of_nonneg_left h1 (Rat.le_of_lt h2)
  grind
theorem p2_lt_iff {i j : Int} (h : (2 : Rat) ^ i < (2 : Rat) ^ j) : i < j := by
  rcases Int.lt_or_le i j with h1 | h1
  · exact h1
  · have := p2_le h1; grind

/-- What a datum stands for. -/
def sg (s : Bool) : Rat := if s then -1 else 1
def dv : Datum → Rat
  | .number s m p => sg s * ((m : Nat) : Rat) * (2 : Rat) ^ p
  | _ => 0
def fv (x : Nat) : Rat := dv (double.read x)
def Fin (x : Nat) : Prop := ∃ s m p, double.read x = .number s m p

theorem read_word (neg : Bool) (L kept : Nat) (hk : kept ≤ 2 ^ 53) (h0 : L = 0 ∨ 2 ^ 52 ≤ kept) (hL : L ≤ 2040) :
    ∃ m p, double.read (double.word neg (min (L * 2 ^ 52 + kept) double.infRung)) = .number neg m p ∧ ((m : Nat) : Rat) * (2 : Rat) ^ p = (kept : Rat) * (2 : Rat) ^ ((L : Int) - 1074) := by
  have hinf : double.infRung = 2047 * 2 ^ 52 := rfl
  have hsw : double.signWeight = 2 ^ 63 := rfl
  have hb : double.binade = 2 ^ 52 := rfl
  have hl : double.leastPlace = -1074 := by decide
  rw [Nat.min_eq_left (by rw [hinf]; omega)]
  obtain ⟨rung, hr⟩ : ∃ rung, rung = L * 2 ^ 52 + kept := ⟨_, rfl⟩
  rw [← hr]
  have hrl : rung < 2 ^ 63 := by omega
  have e1 : double.word neg rung % 2 ^ 63 = rung := by
    unfold Format.word; rw [hsw]; split <;> omega
  have e2 : (double.word neg rung / 2 ^ 63 % 2 == 1) = neg := by
    unfold Format.word; rw [hsw]
    cases neg
    · have : rung / 2 ^ 63 = 0 := Nat.div_eq_of_lt hrl
      simp [this]
    · have : (2 ^ 63 + rung) / 2 ^ 63 = 1 := by omega
      simp [this]
  unfold Format.read
  dsimp only
  rw [hsw, e1, e2, hb, hinf, hl]
  by_cases c : rung < 2 ^ 52
  · rw [if_pos c]
    refine ⟨_, _, rfl, ?_⟩
    obtain rfl : L = 0 := by omega
    have : kept = rung := by omega
    rw [this]
    rfl
  · rw [if_neg c, if_pos (by omega)]
    refine ⟨_, _, rfl, ?_⟩
    rcases Nat.lt_or_ge kept (2 ^ 53) with h53 | h53
    · by_cases h52 : 2 ^ 52 ≤ kept
      · have q1 : rung / 2 ^ 52 = L + 1 := by omega
        have q2 : 2 ^ 52 + rung % 2 ^ 52 = kept := by omega
        rw [q2, q1]
        have : (-1074 : Int) + ((L + 1 - 1 : Nat) : Int) = (L : Int) - 1074 := by omega
        rw [this]
      · omega
    · have hk53 : kept = 2 ^ 53 := by omega
      have q1 : rung / 2 ^ 52 = L + 2 := by omega
      have q2 : 2 ^ 52 + rung % 2 ^ 52 = 2 ^ 52 := by omega
      rw [q2, q1, hk53]
      have : (-1074 : Int) + ((L + 2 - 1 : Nat) : Int) = 1 + ((L : Int) - 1074) := by omega
      rw [this, p2_add, ← Rat.mul_assoc]
      congr 1
      have e1 : ((2 ^ 53 : Nat) : Rat) = 2 ^ (52 : Int) * 2 ^ (1 : Int) := by rw [p2_cast, ← p2_add]; rfl
      rw [e1, p2_cast]
      rfl

/-- a is within e of b. -/
def Near (a b e : Rat) : Prop := b - e ≤ a ∧ a ≤ b + e

theorem rat_div_mul (a b c : Rat) (hb : b ≠ 0) : a / b * (b * c) = a * c := by grind

theorem pow_pos_r (n : Nat) : (0 : Rat) < (2 : Rat) ^ n := Rat.pow_pos (by decide)

/-- The exact number is kept up to half of the last place. -/
theorem kept_near (neg : Bool) (mag : Nat) (place : Int) (L kept n drop : Nat) (hk : kept = Toward.even.cut neg n drop)
    (h : (drop = 0 ∧ n = mag * 2 ^ (place - ((L : Int) - 1074)).toNat ∧ (L : Int) - 1074 ≤ place) ∨ (n = mag ∧ (drop : Int) = (L : Int) - 1074 - place)) :
    Near ((kept : Rat) * (2 : Rat) ^ ((L : Int) - 1074)) ((mag : Rat) * (2 : Rat) ^ place) ((2 : Rat) ^ ((L : Int) - 1074) / 2) := by
  have hc := cut_even_nat neg n drop
  rw [← hk] at hc
  obtain ⟨P, hP⟩ : ∃ P : Int, P = (L : Int) - 1074 := ⟨_, rfl⟩
  rw [← hP] at h ⊢
  have hp := p2_pos P
  rcases h with ⟨rfl, hn, hle⟩ | ⟨rfl, hd⟩
  · obtain ⟨k, hk2⟩ : ∃ k : Nat, (k : Int) = place - P := ⟨(place - P).toNat, by omega⟩
    have e : (place - P).toNat = k := by omega
    rw [e] at hn
    have hkn : kept = mag * 2 ^ k := by omega
    have : place = (k : Int) + P := by omega
    rw [this, p2_add, hkn, Rat.natCast_mul, p2_cast]
    unfold Near
    constructor <;> grind
  · have : P = place + (drop : Int) := by omega
    rw [this, p2_add, p2_nat]
    have q1 : 2 * (n : Rat) ≤ 2 * ((kept : Rat) * (2 : Rat) ^ drop) + (2 : Rat) ^ drop := by
      have := hc.1
      have h2 : ((2 * n : Nat) : Rat) ≤ ((2 * (kept * 2 ^ drop) + 2 ^ drop : Nat) : Rat) := Rat.natCast_le_natCast.2 this
      push_cast at h2
      exact h2
    have q2 : 2 * ((kept : Rat) * (2 : Rat) ^ drop) ≤ 2 * (n : Rat) + (2 : Rat) ^ drop := by
      have := hc.2
      have h2 : ((2 * (kept * 2 ^ drop) : Nat) : Rat) ≤ ((2 * n + 2 ^ drop : Nat) : Rat) := Rat.natCast_le_natCast.2 this
      push_cast at h2
      exact h2
    have hq := p2_pos place
    have r1 := Rat.mul_le_mul_of_nonneg_right q1 (Rat.le_of_lt hq)
    have r2 := Rat.mul_le_mul_of_nonneg_right q2 (Rat.le_of_lt hq)
    unfold Near
    constructor <;> grind

theorem p2_neg (n : Nat) : (2 : Rat) ^ (-(n : Int)) = 1 / (2 : Rat) ^ n := by
  rw [Rat.zpow_neg, Rat.zpow_natCast]; grind
theorem v52 : (2 : Rat) ^ (52 : Int) = 4503599627370496 := by
  have := p2_cast 52
  rw [show ((52 : Nat) : Int) = 52 by rfl] at this
  rw [← this]; rfl
/-- Neither tiny nor huge. -/
def Mid (M : Rat) : Prop := (2 : Rat) ^ (-200 : Int) ≤ M ∧ M ≤ (2 : Rat) ^ (200 : Int)
theorem near_zero {M : Rat} (h : 0 ≤ M) : Near 0 0 (M / 9007199254740992) := by
  unfold Near; constructor <;> grind
theorem nearest_zero (neg : Bool) (place : Int) : ∃ m p, double.read (double.nearest neg 0 place) = .number neg m p ∧ (m : Rat) * (2 : Rat) ^ p = 0 := by
  obtain ⟨m, p, hr, hv⟩ := read_word neg 0 0 (by omega) (.inl rfl) (by omega)
  refine ⟨m, p, ?_, ?_⟩
  · rw [← hr]; unfold Format.nearest; rw [if_pos rfl]; congr 1
  · rw [hv]; exact Rat.zero_mul _
theorem unit_low {P : Int} {M : Rat} (h : P ≤ -254) (h1 : (2 : Rat) ^ (-200 : Int) ≤ M) : (2 : Rat) ^ P / 2 ≤ M / 9007199254740992 := by
  have a1 : (2 : Rat) ^ P ≤ (2 : Rat) ^ (-200 + -52 : Int) := p2_le (by omega)
  rw [p2_add] at a1
  have a2 : (2 : Rat) ^ (-52 : Int) * 4503599627370496 = 1 := by rw [← v52, ← p2_add]; rfl
  generalize (2 : Rat) ^ P = x at *
  generalize (2 : Rat) ^ (-52 : Int) = z at *
  generalize (2 : Rat) ^ (-200 : Int) = y at *
  have a3 : y * z * 4503599627370496 = y := by grind
  grind
theorem unit_high {P : Int} {M g : Rat} (h1 : (2 : Rat) ^ (P + 52) ≤ g) (hM : g ≤ M) : (2 : Rat) ^ P / 2 ≤ M / 9007199254740992 := by
  rw [p2_add, v52] at h1
  generalize (2 : Rat) ^ P = x at *
  grind
theorem place_high {P : Int} {M g : Rat} (h1 : (2 : Rat) ^ (P + 52) ≤ g) (hM : g ≤ M) (h2 : M ≤ (2 : Rat) ^ (200 : Int)) : P + 52 < 201 := by
  refine p2_lt_iff ?_
  have e : (2 : Rat) ^ (201 : Int) = (2 : Rat) ^ (200 : Int) * (2 : Rat) ^ (1 : Int) := by rw [← p2_add]; rfl
  have e1 : (2 : Rat) ^ (1 : Int) = 2 := rfl
  rw [e, e1]
  have := p2_pos 200
  generalize (2 : Rat) ^ (200 : Int) = x at *
  generalize (2 : Rat) ^ (P + 52) = y at *
  grind
theorem near_weak {a b e e' : Rat} (h : Near a b e) (he : e ≤ e') : Near a b e' := by
  unfold Near at *; constructor <;> grind
/-- ROUNDING: the word nearest to a number of size at most M is a number, and errs by at most M / 2^53. -/
theorem nearest_near (neg : Bool) (mag : Nat) (place : Int) (M : Rat) (hM : (mag : Rat) * (2 : Rat) ^ place ≤ M) (h : Mid M) :
    ∃ m p, double.read (double.nearest neg mag place) = .number neg m p ∧ Near ((m : Rat) * (2 : Rat) ^ p) ((mag : Rat) * (2 : Rat) ^ place) (M / 9007199254740992) := by
  obtain ⟨h1, h2⟩ := h
  by_cases hz : mag = 0
  · subst hz
    obtain ⟨m, p, hr, hv⟩ := nearest_zero neg place
    refine ⟨m, p, hr, ?_⟩
    rw [hv]
    have e : ((0 : Nat) : Rat) * (2 : Rat) ^ place = 0 := Rat.zero_mul _
    rw [e] at hM ⊢
    exact near_zero hM
  · obtain ⟨L, kept, hw, hk, h0, ⟨n, drop, hc, hnd⟩, hL⟩ := nearest_spec neg mag place hz
    have hn := kept_near neg mag place L kept n drop hc hnd
    -- the unit of the last place
    have hu : (2 : Rat) ^ ((L : Int) - 1074) / 2 ≤ M / 9007199254740992 ∧ L ≤ 2040 := by
      rcases hL with hL | hL
      · subst hL
        exact ⟨unit_low (by omega) h1, by omega⟩
      · have hg := Nat.log2_self_le hz
        have hg2 : (2 : Rat) ^ ((mag.log2 : Nat) : Int) ≤ (mag : Rat) := by
          rw [← p2_cast]; exact Rat.natCast_le_natCast.2 hg
        have a3 := p2_pos place
        have a4 := Rat.mul_le_mul_of_nonneg_right hg2 (Rat.le_of_lt a3)
        rw [← p2_add] at a4
        have e : ((mag.log2 : Nat) : Int) + place = ((L : Int) - 1074) + 52 := by omega
        rw [e] at a4
        exact ⟨unit_high a4 hM, by have := place_high a4 hM h2; omega⟩
    obtain ⟨m, p, hr, hv⟩ := read_word neg L kept hk h0 hu.2
    refine ⟨m, p, by rw [hw]; exact hr, ?_⟩
    rw [hv]
    exact near_weak hn hu.1

def fadd (x y : Nat) : Nat := (double.add x y).getD 0
def fsub (x y : Nat) : Nat := (double.sub x y).getD 0
def fmul (x y : Nat) : Nat := (double.mul x y).getD 0
def fdiv (x y : Nat) : Nat := (double.div x y).getD 0
theorem sg_f : sg false = 1 := rfl
theorem sg_t : sg true = -1 := rfl
theorem sg_sq (s : Bool) : sg s * sg s = 1 := by cases s <;> simp only [sg_f, sg_t] <;> grind
theorem sg_xor (s t : Bool) : sg (s ^^ t) = sg s * sg t := by
  cases s <;> cases t <;> simp only [Bool.xor_false, Bool.xor_true, Bool.not_true, Bool.not_false, sg_f, sg_t] <;> grind
theorem sg_not (s : Bool) : sg (!s) = -sg s := by cases s <;> simp only [Bool.not_true, Bool.not_false, sg_f, sg_t] <;> grind
theorem dv_number (s : Bool) (m : Nat) (p : Int) : dv (.number s m p) = sg s * (m : Rat) * (2 : Rat) ^ p := rfl
theorem fv_fin {x : Nat} {s : Bool} {m : Nat} {p : Int} (h : double.read x = .number s m p) : fv x = sg s * (m : Rat) * (2 : Rat) ^ p := by unfold fv; rw [h]; rfl
theorem write_near (s : Bool) (m : Nat) (p : Int) (M : Rat) (h : Mid M) (h1 : -M ≤ dv (.number s m p)) (h2 : dv (.number s m p) ≤ M) :
    Fin (double.write (.number s m p)) ∧ Near (fv (double.write (.number s m p))) (dv (.number s m p)) (M / 9007199254740992) := by
  rw [dv_number] at h1 h2 ⊢
  have hm : (m : Rat) * (2 : Rat) ^ p ≤ M := by
    rw [Rat.mul_assoc] at h1 h2
    generalize (m : Rat) * (2 : Rat) ^ p = v at *
    cases s
    · have : sg false = 1 := rfl
      rw [this] at h2; grind
    · have : sg true = -1 := rfl
      rw [this] at h1; grind
  obtain ⟨m', p', hr, hn⟩ := nearest_near s m p M hm h
  refine ⟨⟨s, m', p', hr⟩, ?_⟩
  show Near (fv (double.nearest s m p)) _ _
  rw [fv_fin hr, Rat.mul_assoc, Rat.mul_assoc]
  generalize (m : Rat) * (2 : Rat) ^ p = v at *
  generalize (m' : Rat) * (2 : Rat) ^ p' = v' at *
  unfold Near at *
  cases s
  · have : sg false = 1 := rfl
    rw [this]; constructor <;> grind
  · have : sg true = -1 := rfl
    rw [this]; constructor <;> grind

theorem signed_val (s : Bool) (m u : Nat) : ((signed s m u : Int) : Rat) = sg s * (m : Rat) * (2 : Rat) ^ (u : Int) := by
  have e : (((m <<< u : Nat) : Int) : Rat) = (m : Rat) * (2 : Rat) ^ (u : Int) := by
    rw [shl_eq, Rat.intCast_natCast, Rat.natCast_mul, p2_cast]
  unfold signed
  cases s
  · have h1 : sg false = 1 := rfl
    rw [h1, if_neg (by simp), e]; grind
  · have h1 : sg true = -1 := rfl
    rw [h1, if_pos rfl, Rat.intCast_neg, e]; grind
theorem natAbs_val (t : Int) : sg (decide (t < 0)) * ((t.natAbs : Nat) : Rat) = (t : Rat) := by
  by_cases h : t < 0
  · rw [decide_eq_true h]
    have h1 : sg true = -1 := rfl
    have h2 : ((t.natAbs : Nat) : Int) = -t := by omega
    have h3 : (((t.natAbs : Nat) : Int) : Rat) = ((-t : Int) : Rat) := by rw [h2]
    rw [Rat.intCast_natCast, Rat.intCast_neg] at h3
    rw [h1, h3]; grind
  · rw [decide_eq_false h]
    have h1 : sg false = 1 := rfl
    have h2 : ((t.natAbs : Nat) : Int) = t := by omega
    have h3 : (((t.natAbs : Nat) : Int) : Rat) = (t : Rat) := by rw [h2]
    rw [Rat.intCast_natCast] at h3
    rw [h1, h3]; grind
theorem sum_val (s t : Bool) (m n : Nat) (i j : Int) : ∃ s' m' p', Datum.sum (.number s m i) (.number t n j) = some (.number s' m' p') ∧ dv (.number s' m' p') = dv (.number s m i) + dv (.number t n j) := by
  unfold Datum.sum
  dsimp only
  refine ⟨_, _, _, rfl, ?_⟩
  obtain ⟨base, hb⟩ : ∃ base, base = min i j := ⟨_, rfl⟩
  rw [← hb]
  obtain ⟨T, hT⟩ : ∃ T, T = signed s m (i - base).toNat + signed t n (j - base).toNat := ⟨_, rfl⟩
  rw [← hT]
  have hv : (T : Rat) * (2 : Rat) ^ base = dv (.number s m i) + dv (.number t n j) := by
    rw [hT, Rat.intCast_add, signed_val, signed_val, dv_number, dv_number]
    have ei : (2 : Rat) ^ i = (2 : Rat) ^ (((i - base).toNat : Nat) : Int) * (2 : Rat) ^ base := by rw [← p2_add]; congr 1; omega
    have ej : (2 : Rat) ^ j = (2 : Rat) ^ (((j - base).toNat : Nat) : Int) * (2 : Rat) ^ base := by rw [← p2_add]; congr 1; omega
    rw [ei, ej]; grind
  rw [← hv, dv_number]
  by_cases hz : T = 0
  · subst hz
    have e1 : ((Int.natAbs 0 : Nat) : Rat) = 0 := rfl
    have e2 : ((0 : Int) : Rat) = 0 := rfl
    rw [e1, e2]; grind
  · rw [if_neg hz, natAbs_val]
theorem prod_val (s t : Bool) (m n : Nat) (i j : Int) : dv (.number (s ^^ t) (m * n) (i + j)) = dv (.number s m i) * dv (.number t n j) := by
  rw [dv_number, dv_number, dv_number, sg_xor, p2_add, Rat.natCast_mul]; grind
theorem opp_val (s : Bool) (m : Nat) (i : Int) : dv (.number (!s) m i) = -dv (.number s m i) := by
  rw [dv_number, dv_number, sg_not]; grind

/-- The result of an operation. -/
structure Op2 (o : Option Nat) (r : Nat) (e E : Rat) : Prop where
  is : o = some r
  fin : Fin r
  near : Near (fv r) e E
theorem fadd_ok {x y : Nat} (hx : Fin x) (hy : Fin y) (M : Rat) (h : Mid M) (h1 : -M ≤ fv x + fv y) (h2 : fv x + fv y ≤ M) : Op2 (double.add x y) (fadd x y) (fv x + fv y) (M / 9007199254740992) := by
  obtain ⟨s, m, i, hx⟩ := hx
  obtain ⟨t, n, j, hy⟩ := hy
  obtain ⟨s', m', p', hs, hd⟩ := sum_val s t m n i j
  have e : double.add x y = some (double.write (.number s' m' p')) := by unfold Format.add; rw [hx, hy, hs]; rfl
  have e2 : fadd x y = double.write (.number s' m' p') := by unfold fadd; rw [e]; rfl
  have e3 : fv x + fv y = dv (.number s' m' p') := by rw [hd]; unfold fv; rw [hx, hy]
  rw [e2, e3]
  rw [e3] at h1 h2
  obtain ⟨hf, hn⟩ := write_near s' m' p' M h h1 h2
  exact ⟨e, hf, hn⟩
theorem fsub_ok {x y : Nat} (hx : Fin x) (hy : Fin y) (M : Rat) (h : Mid M) (h1 : -M ≤ fv x - fv y) (h2 : fv x - fv y ≤ M) : Op2 (double.sub x y) (fsub x y) (fv x - fv y) (M / 9007199254740992) := by
  obtain ⟨s, m, i, hx⟩ := hx
  obtain ⟨t, n, j, hy⟩ := hy
  obtain ⟨s', m', p', hs, hd⟩ := sum_val s (!t) m n i j
  have e : double.sub x y = some (double.write (.number s' m' p')) := by
    unfold Format.sub; rw [hx, hy]; unfold Datum.opposite; dsimp only; rw [hs]; rfl
  have e2 : fsub x y = double.write (.number s' m' p') := by unfold fsub; rw [e]; rfl
  have e3 : fv x - fv y = dv (.number s' m' p') := by rw [hd, opp_val]; unfold fv; rw [hx, hy]; grind
  rw [e2, e3]
  rw [e3] at h1 h2
  obtain ⟨hf, hn⟩ := write_near s' m' p' M h h1 h2
  exact ⟨e, hf, hn⟩
theorem fmul_ok {x y : Nat} (hx : Fin x) (hy : Fin y) (M : Rat) (h : Mid M) (h1 : -M ≤ fv x * fv y) (h2 : fv x * fv y ≤ M) : Op2 (double.mul x y) (fmul x y) (fv x * fv y) (M / 9007199254740992) := by
  obtain ⟨s, m, i, hx⟩ := hx
  obtain ⟨t, n, j, hy⟩ := hy
  have e : double.mul x y = some (double.write (.number (s ^^ t) (m * n) (i + j))) := by
    unfold Format.mul; rw [hx, hy]; rfl
  have e2 : fmul x y = double.write (.number (s ^^ t) (m * n) (i + j)) := by unfold fmul; rw [e]; rfl
  have e3 : fv x * fv y = dv (.number (s ^^ t) (m * n) (i + j)) := by rw [prod_val]; unfold fv; rw [hx, hy]
  rw [e2, e3]
  rw [e3] at h1 h2
  obtain ⟨hf, hn⟩ := write_near _ _ _ M h h1 h2
  exact ⟨e, hf, hn⟩

theorem quot_nat (m n k : Nat) (hn : 0 < n) : ∃ q : Nat, q = 2 * (m * 2 ^ k / n) + (m * 2 ^ k % n != 0).toNat ∧ 2 * (m * 2 ^ k) ≤ q * n + n ∧ q * n ≤ 2 * (m * 2 ^ k) + n := by
  refine ⟨_, rfl, ?_⟩
  generalize m * 2 ^ k = D
  have h1 := Nat.div_add_mod D n
  have h2 := Nat.mod_lt D hn
  generalize D / n = a at *
  generalize D % n = r at *
  have e : (2 * a + (r != 0).toNat) * n = 2 * (n * a) + (r != 0).toNat * n := by rw [Nat.add_mul, Nat.mul_assoc, Nat.mul_comm a n]
  rw [e]
  by_cases hr : r = 0
  · have e3 : (r != 0).toNat = 0 := by rw [hr]; rfl
    rw [e3]; omega
  · have e3 : (r != 0).toNat = 1 := by rw [bne_iff_ne.2 hr]; rfl
    rw [e3]; omega
theorem quot_rat (m n k : Nat) (hn : 0 < n) (hm : m ≠ 0) (hk : 54 + n.log2 - m.log2 ≤ k) : ∃ q : Nat, q = 2 * (m * 2 ^ k / n) + (m * 2 ^ k % n != 0).toNat ∧
    Near ((q : Rat) / (2 : Rat) ^ k / 2) ((m : Rat) / (n : Rat)) ((m : Rat) / (n : Rat) / 9007199254740992) := by
  obtain ⟨q, hq, h1, h2⟩ := quot_nat m n k hn
  refine ⟨q, hq, ?_⟩
  have a1 : 2 * ((m : Rat) * (2 : Rat) ^ k) ≤ (q : Rat) * (n : Rat) + (n : Rat) := by
    have := Rat.natCast_le_natCast.2 h1; push_cast at this; exact this
  have a2 : (q : Rat) * (n : Rat) ≤ 2 * ((m : Rat) * (2 : Rat) ^ k) + (n : Rat) := by
    have := Rat.natCast_le_natCast.2 h2; push_cast at this; exact this
  have a3 : 9007199254740992 * n ≤ m * 2 ^ k := by
    have b1 := Nat.log2_self_le hm
    have b2 := lt_log2 n
    have b3 : 2 ^ (54 + n.log2) ≤ m * 2 ^ k := by
      have c1 : 2 ^ (54 + n.log2) ≤ 2 ^ (m.log2 + k) := Nat.pow_le_pow_right (by omega) (by omega)
      rw [Nat.pow_add 2 m.log2 k] at c1
      exact Nat.le_trans c1 (Nat.mul_le_mul_right _ b1)
    have b4 : 2 ^ (54 + n.log2) = 9007199254740992 * 2 ^ (n.log2 + 1) := by
      rw [show 54 + n.log2 = 53 + (n.log2 + 1) by omega, Nat.pow_add 2 53]
    omega
  have a4 : 9007199254740992 * (n : Rat) ≤ (m : Rat) * (2 : Rat) ^ k := by
    have := Rat.natCast_le_natCast.2 a3; push_cast at this; exact this
  have hp := pow_pos_r k
  have hn' : (0 : Rat) < (n : Rat) := by exact_mod_cast hn
  generalize (2 : Rat) ^ k = g at *
  generalize (m : Rat) = x at *
  generalize (n : Rat) = y at *
  generalize (q : Rat) = z at *
  -- all over y * g
  have hy : (0 : Rat) < y * g := Rat.mul_pos hn' hp
  have key : ∀ a b : Rat, a * (y * g) ≤ b * (y * g) → a ≤ b := fun a b h => by
    rcases Rat.le_total (a := a) (b := b) with c | c
    · exact c
    · by_cases e : a = b
      · rw [e]; exact Rat.le_refl
      · have : b < a := by grind
        have := Rat.mul_lt_mul_of_pos_right this hy
        grind
  have e1 : z / g / 2 * (y * g) = z * y / 2 := by grind
  have e2 : x / y * (y * g) = x * g := by grind
  unfold Near
  constructor
  · refine key _ _ ?_
    have : (x / y - x / y / 9007199254740992) * (y * g) = x * g - x * g / 9007199254740992 := by grind
    rw [this, e1]
    grind
  · refine key _ _ ?_
    have : (x / y + x / y / 9007199254740992) * (y * g) = x * g + x * g / 9007199254740992 := by grind
    rw [this, e1]
    grind
theorem rdiv_nonneg {a b : Rat} (ha : 0 ≤ a) (hb : 0 < b) : 0 ≤ a / b := by
  rcases Rat.le_total (a := 0) (b := a / b) with c | c
  · exact c
  · have h1 := Rat.mul_le_mul_of_nonneg_right c (Rat.le_of_lt hb)
    have h2 : a / b * b = a := by grind
    rw [h2] at h1
    have : a = 0 := by grind
    rw [this]
    have : (0 : Rat) / b = 0 := by grind
    rw [this]; exact Rat.le_refl
theorem sg_cases (s : Bool) : sg s = 1 ∨ sg s = -1 := by cases s; exact .inl rfl; exact .inr rfl
theorem nat_nonneg (n : Nat) : (0 : Rat) ≤ (n : Rat) := by exact_mod_cast Nat.zero_le n
theorem quot_val (s t : Bool) (m n : Nat) (i j : Int) (hn : n ≠ 0) : ∃ s' m' p', Datum.quotient 54 (.number s m i) (.number t n j) = some (.number s' m' p') ∧
    ∃ e, dv (.number s m i) / dv (.number t n j) = e ∧ (∀ M, -M ≤ e → e ≤ M → Near (dv (.number s' m' p')) e (M / 9007199254740992)) := by
  unfold Datum.quotient
  dsimp only
  rw [if_neg hn]
  refine ⟨_, _, _, rfl, _, rfl, ?_⟩
  intro M h1 h2
  obtain ⟨k, hk⟩ : ∃ k, k = 54 + n.log2 - m.log2 := ⟨_, rfl⟩
  rw [← hk, shl_eq]
  have e0 : dv (.number s m i) / dv (.number t n j) = (sg s * sg t) * (((m : Rat) / (n : Rat)) * (2 : Rat) ^ (i - j)) := by
    rw [dv_number, dv_number]
    have p1 := p2_pos j
    have e : (2 : Rat) ^ i = (2 : Rat) ^ (i - j) * (2 : Rat) ^ j := by rw [← p2_add]; congr 1; omega
    rw [e]
    have hn' : (0 : Rat) < (n : Rat) := by have : 0 < n := by omega
                                           exact_mod_cast this
    rcases sg_cases s with c | c <;> rcases sg_cases t with d | d <;> rw [c, d] <;> grind
  rw [e0] at h1 h2 ⊢
  rw [dv_number, sg_xor]
  have e1 : (2 : Rat) ^ (i - j - (k : Int) - 1) = (2 : Rat) ^ (i - j) / (2 : Rat) ^ k / 2 := by
    have : (2 : Rat) ^ (i - j) = (2 : Rat) ^ (i - j - (k : Int) - 1) * ((2 : Rat) ^ k * 2) := by
      rw [← p2_nat, show (2 : Rat) ^ ((k : Nat) : Int) * 2 = (2 : Rat) ^ (((k : Nat) : Int) + 1) by rw [p2_add]; rfl, ← p2_add]; congr 1; omega
    rw [this]
    have := pow_pos_r k
    grind
  rw [e1]
  by_cases hm : m = 0
  · subst hm
    have e2 : (2 * (0 * 2 ^ k / n) + (0 * 2 ^ k % n != 0).toNat) = 0 := by simp
    rw [e2]
    have e3 : ((0 : Nat) : Rat) = 0 := rfl
    rw [e3] at h1 h2 ⊢
    have z1 : (0 : Rat) / (n : Rat) = 0 := by grind
    have hM : 0 ≤ M := by grind
    unfold Near; constructor <;> grind
  · obtain ⟨q, hq, hnr⟩ := quot_rat m n k (by omega) hm (by omega)
    rw [← hq]
    have p1 := p2_pos (i - j)
    have q1 : 0 ≤ (m : Rat) / (n : Rat) := by
      have hn' : (0 : Rat) < (n : Rat) := by have : 0 < n := by omega
                                             exact_mod_cast this
      exact rdiv_nonneg (nat_nonneg m) hn'
    have ez : (q : Rat) * ((2 : Rat) ^ (i - j) / (2 : Rat) ^ k / 2) = ((q : Rat) / (2 : Rat) ^ k / 2) * (2 : Rat) ^ (i - j) := by grind
    generalize (m : Rat) / (n : Rat) = v at *
    have ew : sg s * sg t * (q : Rat) * ((2 : Rat) ^ (i - j) / (2 : Rat) ^ k / 2) = sg s * sg t * (((q : Rat) / (2 : Rat) ^ k / 2) * (2 : Rat) ^ (i - j)) := by rw [← ez]; grind
    rw [ew]
    generalize (q : Rat) / (2 : Rat) ^ k / 2 = z at *
    unfold Near at hnr
    have r1 := Rat.mul_le_mul_of_nonneg_right hnr.1 (Rat.le_of_lt p1)
    have r2 := Rat.mul_le_mul_of_nonneg_right hnr.2 (Rat.le_of_lt p1)
    have r3 := Rat.mul_nonneg q1 (Rat.le_of_lt p1)
    generalize (2 : Rat) ^ (i - j) = u at *
    clear ew ez e1 e0
    unfold Near
    rcases sg_cases s with c | c <;> rcases sg_cases t with d | d <;> rw [c, d] at h1 h2 ⊢ <;> constructor <;> grind
theorem fv_num {x : Nat} {s : Bool} {m : Nat} {p : Int} (h : double.read x = .number s m p) : fv x = dv (.number s m p) := by unfold fv; rw [h]
theorem fdiv_ok {x y : Nat} (hx : Fin x) (hy : Fin y) (h0 : fv y ≠ 0) (M : Rat) (h : Mid (2 * M)) (h1 : -M ≤ fv x / fv y) (h2 : fv x / fv y ≤ M) : Op2 (double.div x y) (fdiv x y) (fv x / fv y) (M / 2251799813685248) := by
  obtain ⟨s, m, i, hx⟩ := hx
  obtain ⟨t, n, j, hy⟩ := hy
  have hn : n ≠ 0 := fun e => h0 (by rw [fv_fin hy, e]; show _ * (0 : Rat) * _ = 0; grind)
  obtain ⟨s', m', p', hs, e, he, hd⟩ := quot_val s t m n i j hn
  have e1 : double.div x y = some (double.write (.number s' m' p')) := by
    unfold Format.div; rw [hx, hy]; show ((Datum.quotient 54 _ _).map _) = _; rw [hs]; rfl
  have e2 : fdiv x y = double.write (.number s' m' p') := by unfold fdiv; rw [e1]; rfl
  have e3 : fv x / fv y = e := by rw [fv_num hx, fv_num hy]; exact he
  rw [e2, e3]
  rw [e3] at h1 h2
  have hM := hd M h1 h2
  have hM0 : 0 ≤ M := by grind
  unfold Near at hM
  obtain ⟨hf, hn'⟩ := write_near s' m' p' (2 * M) h (by grind) (by grind)
  refine ⟨e1, hf, ?_⟩
  unfold Near at hn' ⊢
  constructor <;> grind

theorem fin_two {x y : Nat} (hx : Fin x) (hy : Fin y) : ∃ (A B base : Int), double.order x y = some (compare A B) ∧ fv x = (A : Rat) * (2 : Rat) ^ base ∧ fv y = (B : Rat) * (2 : Rat) ^ base := by
  obtain ⟨s, m, i, hx⟩ := hx
  obtain ⟨t, n, j, hy⟩ := hy
  obtain ⟨base, hb⟩ : ∃ base, base = min i j := ⟨_, rfl⟩
  refine ⟨signed s m (i - base).toNat, signed t n (j - base).toNat, base, ?_, ?_, ?_⟩
  · unfold Format.order; rw [hx, hy, hb]; rfl
  · rw [fv_fin hx, signed_val]
    have ei : (2 : Rat) ^ i = (2 : Rat) ^ (((i - base).toNat : Nat) : Int) * (2 : Rat) ^ base := by rw [← p2_add]; congr 1; omega
    rw [ei]; grind
  · rw [fv_fin hy, signed_val]
    have ei : (2 : Rat) ^ j = (2 : Rat) ^ (((j - base).toNat : Nat) : Int) * (2 : Rat) ^ base := by rw [← p2_add]; congr 1; omega
    rw [ei]; grind
theorem mul_lt_iff_p2 (A B : Int) (base : Int) : (A : Rat) * (2 : Rat) ^ base < (B : Rat) * (2 : Rat) ^ base ↔ A < B := by
  have hp := p2_pos base
  constructor
  · intro h
    rcases Int.lt_or_le A B with c | c
    · exact c
    · have h1 : ((B : Int) : Rat) ≤ (A : Rat) := Rat.intCast_le_intCast.2 c
      have h2 := Rat.mul_le_mul_of_nonneg_right h1 (Rat.le_of_lt hp)
      grind
  · intro h
    have h1 : ((A : Int) : Rat) < (B : Rat) := Rat.intCast_lt_intCast.2 h
    exact Rat.mul_lt_mul_of_pos_right h1 hp
theorem ford_lt {x y : Nat} (hx : Fin x) (hy : Fin y) (h : fv x < fv y) : double.order x y = some .lt := by
  obtain ⟨A, B, base, e, ex, ey⟩ := fin_two hx hy
  rw [ex, ey, mul_lt_iff_p2] at h
  rw [e]; congr 1
  exact Int.compare_eq_lt.2 h
theorem ford_gt {x y : Nat} (hx : Fin x) (hy : Fin y) (h : fv y < fv x) : double.order x y = some .gt := by
  obtain ⟨A, B, base, e, ex, ey⟩ := fin_two hx hy
  rw [ex, ey, mul_lt_iff_p2] at h
  rw [e]; congr 1
  exact Int.compare_eq_gt.2 h
theorem ford_eq {x y : Nat} (hx : Fin x) (hy : Fin y) (h : fv x = fv y) : double.order x y = some .eq := by
  obtain ⟨A, B, base, e, ex, ey⟩ := fin_two hx hy
  rw [e]; congr 1
  refine Int.compare_eq_eq.2 ?_
  have h1 : ¬ A < B := fun c => by have := (mul_lt_iff_p2 A B base).2 c; rw [← ex, ← ey] at this; grind
  have h2 : ¬ B < A := fun c => by have := (mul_lt_iff_p2 B A base).2 c; rw [← ex, ← ey] at this; grind
  omega

/-- An integer of at most 53 digits, times a power of two, is kept as it is. -/
theorem nearest_exact (neg : Bool) (mag : Nat) (place : Int) (hm : mag < 2 ^ 53) (hp : -1074 ≤ place) (hp2 : place ≤ 900) : ∃ m p, double.read (double.nearest neg mag place) = .number neg m p ∧ (m : Rat) * (2 : Rat) ^ p = (mag : Rat) * (2 : Rat) ^ place := by
  by_cases hz : mag = 0
  · subst hz
    obtain ⟨m, p, hr, hv⟩ := nearest_zero neg place
    refine ⟨m, p, hr, ?_⟩
    rw [hv]; show (0 : Rat) = (0 : Rat) * _; grind
  · have hlog : mag.log2 < 53 := (Nat.log2_lt hz).2 hm
    obtain ⟨L, kept, hw, hk, h0, ⟨n, drop, hc, hnd⟩, hL⟩ := nearest_spec neg mag place hz
    obtain ⟨m, p, hr, hv⟩ := read_word neg L kept hk h0 (by omega)
    refine ⟨m, p, by rw [hw]; exact hr, ?_⟩
    rw [hv]
    have cut0 : ∀ n, Toward.even.cut neg n 0 = n := fun n => by have := cut_even_nat neg n 0; omega
    rcases hnd with ⟨rfl, hn, hle⟩ | ⟨rfl, hd⟩
    · rw [cut0] at hc
      obtain ⟨k, hk2⟩ : ∃ k : Nat, (k : Int) = place - ((L : Int) - 1074) := ⟨(place - ((L : Int) - 1074)).toNat, by omega⟩
      have e : (place - ((L : Int) - 1074)).toNat = k := by omega
      rw [e] at hn
      rw [hc, hn, Rat.natCast_mul, p2_cast, Rat.mul_assoc, ← p2_add]
      congr 2; omega
    · have : drop = 0 := by omega
      subst this
      rw [cut0] at hc
      rw [hc]
      congr 2; omega
theorem fint_ok (n : Int) (h1 : -9007199254740992 < n) (h2 : n < 9007199254740992) : Fin (floatOfInt .f64 n) ∧ fv (floatOfInt .f64 n) = (n : Rat) := by
  obtain ⟨m, p, hr, hv⟩ := nearest_exact (decide (n < 0)) n.natAbs 0 (by omega) (by omega) (by omega)
  refine ⟨⟨_, m, p, hr⟩, ?_⟩
  show fv (double.nearest (decide (n < 0)) n.natAbs 0) = _
  rw [fv_fin hr, Rat.mul_assoc, hv, ← Rat.mul_assoc, natAbs_val]
  show (n : Rat) * 1 = _
  grind

/-- The whole part of n / 2 ^ drop. -/
theorem cut_low (n drop : Nat) : ∃ c r : Nat, n = c * 2 ^ drop + r ∧ r < 2 ^ drop ∧ n / (1 <<< min drop (n.log2 + 2)) = c ∧ (n % (1 <<< min drop (n.log2 + 2)) = 0 ↔ r = 0) := by
  rw [one_shl]
  by_cases h : drop ≤ n.log2 + 2
  · rw [Nat.min_eq_left h]
    have hg := Nat.two_pow_pos drop
    refine ⟨n / 2 ^ drop, n % 2 ^ drop, ?_, Nat.mod_lt _ hg, rfl, Iff.rfl⟩
    have := Nat.div_add_mod n (2 ^ drop)
    rw [Nat.mul_comm]; omega
  · rw [Nat.min_eq_right (by omega)]
    have h0 := lt_log2 n
    have e : 2 ^ (n.log2 + 2) = 2 * 2 ^ (n.log2 + 1) := by rw [Nat.pow_succ]; omega
    have h1 : n / 2 ^ (n.log2 + 2) = 0 := Nat.div_eq_of_lt (by omega)
    have h2 : n % 2 ^ (n.log2 + 2) = n := Nat.mod_eq_of_lt (by omega)
    have h4 : 2 ^ (n.log2 + 2) ≤ 2 ^ drop := Nat.pow_le_pow_right (by omega) (by omega)
    exact ⟨0, n, by omega, by omega, h1, by rw [h2]⟩
theorem cut_dir (way : Toward) (up : Bool) (s : Bool) (m : Nat) (i : Int) (hway : ∀ n drop, way.cut s n drop = n / (1 <<< min drop (n.log2 + 2)) + (up && n % (1 <<< min drop (n.log2 + 2)) != 0).toNat) :
    ∃ c : Nat, way.cut s (m <<< i.toNat) (-i).toNat = c ∧ (up = false → (c : Rat) ≤ (m : Rat) * (2 : Rat) ^ i ∧ (m : Rat) * (2 : Rat) ^ i < (c : Rat) + 1) ∧ (up = true → (m : Rat) * (2 : Rat) ^ i ≤ (c : Rat) ∧ (c : Rat) - 1 < (m : Rat) * (2 : Rat) ^ i) := by
  refine ⟨_, rfl, ?_⟩
  rw [hway, shl_eq]
  obtain ⟨c, r, hn, hr, hc, hr0⟩ := cut_low (m * 2 ^ i.toNat) (-i).toNat
  rw [hc]
  obtain ⟨R, hR⟩ : ∃ R, R = (m * 2 ^ i.toNat) % (1 <<< min (-i).toNat ((m * 2 ^ i.toNat).log2 + 2)) := ⟨_, rfl⟩
  rw [← hR] at hr0 ⊢
  have hg := Nat.two_pow_pos (-i).toNat
  have ev : (m : Rat) * (2 : Rat) ^ i = (c : Rat) + (r : Rat) / ((2 ^ (-i).toNat : Nat) : Rat) := by
    have h1 : ((m * 2 ^ i.toNat : Nat) : Rat) = ((c * 2 ^ (-i).toNat + r : Nat) : Rat) := by rw [hn]
    rw [Rat.natCast_mul, Rat.natCast_add, Rat.natCast_mul, p2_cast] at h1
    have h2 : (2 : Rat) ^ i * ((2 ^ (-i).toNat : Nat) : Rat) = (2 : Rat) ^ ((i.toNat : Nat) : Int) := by rw [p2_cast, ← p2_add]; congr 1; omega
    have h3 : (0 : Rat) < ((2 ^ (-i).toNat : Nat) : Rat) := by exact_mod_cast hg
    rw [← h2] at h1
    generalize ((2 ^ (-i).toNat : Nat) : Rat) = g at *
    generalize (2 : Rat) ^ i = u at *
    grind
  have h3 : (0 : Rat) < ((2 ^ (-i).toNat : Nat) : Rat) := by exact_mod_cast hg
  have h4 : (0 : Rat) ≤ (r : Rat) / ((2 ^ (-i).toNat : Nat) : Rat) := rdiv_nonneg (nat_nonneg r) h3
  have h5 : (r : Rat) / ((2 ^ (-i).toNat : Nat) : Rat) < 1 := by
    have h6 : (r : Rat) < ((2 ^ (-i).toNat : Nat) : Rat) := by exact_mod_cast hr
    generalize ((2 ^ (-i).toNat : Nat) : Rat) = g at *
    rcases Rat.le_total (a := 1) (b := (r : Rat) / g) with c1 | c1
    · have h7 := Rat.mul_le_mul_of_nonneg_right c1 (Rat.le_of_lt h3)
      have h8 : (r : Rat) / g * g = (r : Rat) := by grind
      grind
    · by_cases e : (r : Rat) / g = 1
      · have h8 : (r : Rat) / g * g = (r : Rat) := by grind
        rw [e] at h8; grind
      · grind
  rw [ev]
  constructor
  · intro hu; subst hu
    simp only [Bool.false_and, Bool.toNat_false, Nat.add_zero]
    constructor <;> grind
  · intro hu; subst hu
    by_cases hr1 : r = 0
    · have : R = 0 := hr0.2 hr1
      rw [this, hr1]
      have e0 : ((0 : Nat) : Rat) / ((2 ^ (-i).toNat : Nat) : Rat) = 0 := by show (0 : Rat) / _ = 0; grind
      rw [e0]
      simp
      grind
    · have : R ≠ 0 := fun h => hr1 (hr0.1 h)
      have e1 : (true && R != 0).toNat = 1 := by rw [bne_iff_ne.2 this]; rfl
      rw [e1, Rat.natCast_add]
      have h6 : (0 : Rat) < (r : Rat) := by have : 0 < r := by omega
                                            exact_mod_cast this
      have h7 : (0 : Rat) < (r : Rat) / ((2 ^ (-i).toNat : Nat) : Rat) := by
        generalize ((2 ^ (-i).toNat : Nat) : Rat) = g at *
        by_cases e : (r : Rat) / g = 0
        · have h8 : (r : Rat) / g * g = (r : Rat) := by grind
          rw [e] at h8; grind
        · grind
      have : ((1 : Nat) : Rat) = 1 := rfl
      rw [this]
      constructor <;> grind

def fneg (x : Nat) : Nat := Op.negFloat .f64 x
theorem fneg_ok {x : Nat} (hx : Fin x) : Fin (fneg x) ∧ fv (fneg x) = -fv x := by
  obtain ⟨s, m, p, hx⟩ := hx
  have hr : double.read (fneg x) = .number (!s) m p := by
    have e : fneg x = x ^^^ 2 ^ 63 := rfl
    have hsw : double.signWeight = 2 ^ 63 := rfl
    have a1 : (x ^^^ 2 ^ 63) % 2 ^ 63 = x % 2 ^ 63 := by rw [Nat.xor_mod_two_pow]; simp
    have a2 : ((x ^^^ 2 ^ 63) / 2 ^ 63 % 2 == 1) = !(x / 2 ^ 63 % 2 == 1) := by
      rw [Nat.xor_div_two_pow, show 2 ^ 63 / 2 ^ 63 = 2 ^ 0 by decide]
      have := Nat.xor_mod_two_pow (a := x / 2 ^ 63) (b := 2 ^ 0) (n := 1)
      rw [show 2 ^ 1 = 2 by rfl] at this
      rw [this]
      rcases Nat.mod_two_eq_zero_or_one (x / 2 ^ 63) with c | c <;> rw [c] <;> rfl
    unfold Format.read at hx ⊢
    dsimp only at hx ⊢
    rw [hsw] at hx ⊢
    rw [e, a1, a2]
    by_cases c1 : x % 2 ^ 63 < double.binade
    · rw [if_pos c1] at hx ⊢
      cases hx; rfl
    · rw [if_neg c1] at hx ⊢
      by_cases c2 : x % 2 ^ 63 < double.infRung
      · rw [if_pos c2] at hx ⊢
        cases hx; rfl
      · rw [if_neg c2] at hx ⊢
        split at hx <;> cases hx
  refine ⟨⟨_, _, _, hr⟩, ?_⟩
  rw [fv_num hr, fv_num hx, opp_val]

/-- An integer between. -/
theorem toInt_ok {x : Nat} (hx : Fin x) : ∃ k : Int, (double.read x).toInt .zero = some k ∧ (0 ≤ fv x → (k : Rat) ≤ fv x ∧ fv x < (k : Rat) + 1 ∧ 0 ≤ k) ∧ (fv x ≤ 0 → fv x ≤ (k : Rat) ∧ (k : Rat) - 1 < fv x ∧ k ≤ 0) := by
  obtain ⟨s, m, i, hx⟩ := hx
  obtain ⟨c, hc, hlow, -⟩ := cut_dir .zero false s m i (fun n drop => by unfold Toward.cut; simp)
  have h := hlow rfl
  rw [fv_fin hx, hx]
  refine ⟨signed s c 0, ?_, ?_⟩
  · unfold Datum.toInt Datum.integral; dsimp only; rw [hc]
  have e : ((signed s c 0 : Int) : Rat) = sg s * (c : Rat) := by
    rw [signed_val]
    show sg s * (c : Rat) * 1 = _; grind
  have hn := nat_nonneg c
  have hm : 0 ≤ (m : Rat) * (2 : Rat) ^ i := Rat.mul_nonneg (nat_nonneg m) (Rat.le_of_lt (p2_pos i))
  rw [e, Rat.mul_assoc]
  generalize (m : Rat) * (2 : Rat) ^ i = v at *
  cases s
  · have h0 : 0 ≤ signed false c 0 := by unfold signed; simp
    rw [sg_f]
    refine ⟨fun hv => ⟨by grind, by grind, h0⟩, fun hv => ?_⟩
    have : v = 0 := by grind
    have : c = 0 := by
      rcases Nat.eq_zero_or_pos c with q | q
      · exact q
      · have : (1 : Rat) ≤ (c : Rat) := by exact_mod_cast q
        grind
    subst this
    have h0 : signed false 0 0 = 0 := rfl
    have e3 : ((0 : Nat) : Rat) = 0 := rfl
    rw [h0, e3]
    exact ⟨by grind, by grind, by omega⟩
  · have h0 : signed true c 0 ≤ 0 := by unfold signed; simp
    rw [sg_t]
    refine ⟨fun hv => ?_, fun hv => ⟨by grind, by grind, h0⟩⟩
    have : v = 0 := by grind
    have : c = 0 := by
      rcases Nat.eq_zero_or_pos c with q | q
      · exact q
      · have : (1 : Rat) ≤ (c : Rat) := by exact_mod_cast q
        grind
    subst this
    have h0 : signed true 0 0 = 0 := rfl
    have e3 : ((0 : Nat) : Rat) = 0 := rfl
    rw [h0, e3]
    exact ⟨by grind, by grind, by omega⟩

def ffloor (x : Nat) : Nat := double.write ((double.read x).integral .down)
def fceil (x : Nat) : Nat := double.write ((double.read x).integral .up)
/-- An integer's word, as an integer. -/
theorem whole_word (s : Bool) (c : Nat) (hc : c < 2 ^ 53) : Fin (double.write (.number s c 0)) ∧ fv (double.write (.number s c 0)) = sg s * (c : Rat) ∧ (double.read (double.write (.number s c 0))).toInt .zero = some (signed s c 0) := by
  obtain ⟨m, p, hr, hv⟩ := nearest_exact s c 0 hc (by omega) (by omega)
  have hf : Fin (double.write (.number s c 0)) := ⟨s, m, p, hr⟩
  have hv2 : fv (double.write (.number s c 0)) = sg s * (c : Rat) := by
    show fv (double.nearest s c 0) = _
    rw [fv_fin hr, Rat.mul_assoc, hv]
    show sg s * ((c : Rat) * 1) = _; grind
  refine ⟨hf, hv2, ?_⟩
  obtain ⟨k, hk, h1, h2⟩ := toInt_ok hf
  rw [hk, hv2] at *
  congr 1
  have e : ((signed s c 0 : Int) : Rat) = sg s * (c : Rat) := by
    rw [signed_val]; show sg s * (c : Rat) * 1 = _; grind
  rw [← e] at h1 h2
  generalize signed s c 0 = n at *
  rcases Int.le_total 0 n with q | q
  · have q1 : (0 : Rat) ≤ (n : Rat) := by exact_mod_cast q
    obtain ⟨a1, a2, _⟩ := h1 q1
    have b1 : k ≤ n := by exact_mod_cast a1
    have b2 : n < k + 1 := by
      have e1 : ((k + 1 : Int) : Rat) = (k : Rat) + 1 := by rw [Rat.intCast_add]; rfl
      rw [← e1] at a2; exact_mod_cast a2
    omega
  · have q1 : (n : Rat) ≤ 0 := by exact_mod_cast q
    obtain ⟨a1, a2, _⟩ := h2 q1
    have b1 : n ≤ k := by exact_mod_cast a1
    have b2 : k - 1 < n := by
      have e1 : ((k - 1 : Int) : Rat) = (k : Rat) - 1 := by rw [Rat.intCast_sub]; rfl
      rw [← e1] at a2; exact_mod_cast a2
    omega
theorem ffloor_ok {x : Nat} (hx : Fin x) (h1 : -4503599627370496 ≤ fv x) (h2 : fv x ≤ 4503599627370496) : ∃ k : Int, Fin (ffloor x) ∧ fv (ffloor x) = (k : Rat) ∧ (k : Rat) ≤ fv x ∧ fv x < (k : Rat) + 1 ∧ (double.read (ffloor x)).toInt .zero = some k := by
  obtain ⟨s, m, i, hx⟩ := hx
  unfold ffloor
  obtain ⟨c, hc, hlow, hup⟩ := cut_dir .down s s m i (fun n drop => by unfold Toward.cut; rfl)
  have e0 : (double.read x).integral .down = .number s c 0 := by rw [hx]; unfold Datum.integral; dsimp only; rw [hc]
  rw [e0]
  rw [fv_fin hx, Rat.mul_assoc] at *
  have hm : 0 ≤ (m : Rat) * (2 : Rat) ^ i := Rat.mul_nonneg (nat_nonneg m) (Rat.le_of_lt (p2_pos i))
  generalize (m : Rat) * (2 : Rat) ^ i = v at *
  have hcb : c < 2 ^ 53 := by
    have : (c : Rat) < ((9007199254740992 : Nat) : Rat) := by
      have e9 : ((9007199254740992 : Nat) : Rat) = 9007199254740992 := rfl
      rw [e9]
      cases s
      · have := hlow rfl; rw [sg_f] at *; grind
      · have := hup rfl; rw [sg_t] at *; grind
    have : c < 9007199254740992 := by exact_mod_cast this
    omega
  obtain ⟨hf, hv, ht⟩ := whole_word s c hcb
  refine ⟨signed s c 0, hf, ?_, ?_, ?_, ht⟩
  · rw [hv, signed_val]; show _ = sg s * (c : Rat) * 1; grind
  all_goals
    rw [signed_val]
    show _
    have e1 : (2 : Rat) ^ (((0 : Nat) : Int)) = 1 := rfl
    rw [e1]
    cases s
    · have := hlow rfl; rw [sg_f] at *; grind
    · have := hup rfl; rw [sg_t] at *; grind
theorem fceil_ok {x : Nat} (hx : Fin x) (h1 : -4503599627370496 ≤ fv x) (h2 : fv x ≤ 4503599627370496) : ∃ k : Int, Fin (fceil x) ∧ fv (fceil x) = (k : Rat) ∧ fv x ≤ (k : Rat) ∧ (k : Rat) - 1 < fv x ∧ (double.read (fceil x)).toInt .zero = some k := by
  obtain ⟨s, m, i, hx⟩ := hx
  unfold fceil
  obtain ⟨c, hc, hlow, hup⟩ := cut_dir .up (!s) s m i (fun n drop => by unfold Toward.cut; rfl)
  have e0 : (double.read x).integral .up = .number s c 0 := by rw [hx]; unfold Datum.integral; dsimp only; rw [hc]
  rw [e0]
  rw [fv_fin hx, Rat.mul_assoc] at *
  have hm : 0 ≤ (m : Rat) * (2 : Rat) ^ i := Rat.mul_nonneg (nat_nonneg m) (Rat.le_of_lt (p2_pos i))
  generalize (m : Rat) * (2 : Rat) ^ i = v at *
  have hcb : c < 2 ^ 53 := by
    have : (c : Rat) < ((9007199254740992 : Nat) : Rat) := by
      have e9 : ((9007199254740992 : Nat) : Rat) = 9007199254740992 := rfl
      rw [e9]
      cases s
      · have := hup rfl; rw [sg_f] at *; grind
      · have := hlow rfl; rw [sg_t] at *; grind
    have : c < 9007199254740992 := by exact_mod_cast this
    omega
  obtain ⟨hf, hv, ht⟩ := whole_word s c hcb
  refine ⟨signed s c 0, hf, ?_, ?_, ?_, ht⟩
  · rw [hv, signed_val]; show _ = sg s * (c : Rat) * 1; grind
  all_goals
    rw [signed_val]
    show _
    have e1 : (2 : Rat) ^ (((0 : Nat) : Int)) = 1 := rfl
    rw [e1]
    cases s
    · have := hup rfl; rw [sg_f] at *; grind
    · have := hlow rfl; rw [sg_t] at *; grind

/-! Words that approximate exact numbers. -/
theorem v60 : (2 : Rat) ^ (60 : Int) = 1152921504606846976 := by
  have := p2_cast 60
  rw [show ((60 : Nat) : Int) = 60 by rfl] at this
  rw [← this]; rfl
theorem mid_of {M : Rat} (h1 : 1 / 1152921504606846976 ≤ M) (h2 : M ≤ 1152921504606846976) : Mid M := by
  have a1 : (2 : Rat) ^ (-200 : Int) ≤ (2 : Rat) ^ (-60 : Int) := p2_le (by omega)
  have a2 : (2 : Rat) ^ (60 : Int) ≤ (2 : Rat) ^ (200 : Int) := p2_le (by omega)
  have a3 : (2 : Rat) ^ (-60 : Int) = 1 / 1152921504606846976 := by
    have h : (2 : Rat) ^ (-60 : Int) * (2 : Rat) ^ (60 : Int) = 1 := by rw [← p2_add]; rfl
    rw [v60] at h
    generalize (2 : Rat) ^ (-60 : Int) = z at *
    grind
  rw [v60] at a2
  rw [a3] at a1
  exact ⟨Rat.le_trans a1 h1, Rat.le_trans h2 a2⟩
/-- The word w approximates v, up to e; v is at most B in size. -/
structure Ap (w : Nat) (v e B : Rat) : Prop where
  fin : Fin w
  lo : v - e ≤ fv w
  hi : fv w ≤ v + e
  bl : -B ≤ v
  bh : v ≤ B
theorem Ap.e0 {w : Nat} {v e B : Rat} (h : Ap w v e B) : 0 ≤ e := by have := h.lo; have := h.hi; grind
theorem Ap.B0 {w : Nat} {v e B : Rat} (h : Ap w v e B) : 0 ≤ B := by have := h.bl; have := h.bh; grind
theorem Ap.weak {w : Nat} {v e B e' B' : Rat} (h : Ap w v e B) (he : e ≤ e') (hB : B ≤ B') : Ap w v e' B' :=
  ⟨h.fin, by have := h.lo; grind, by have := h.hi; grind, by have := h.bl; grind, by have := h.bh; grind⟩
theorem Ap.exact {w : Nat} {B : Rat} (h : Fin w) (h1 : -B ≤ fv w) (h2 : fv w ≤ B) : Ap w (fv w) 0 B := ⟨h, by grind, by grind, h1, h2⟩
theorem prod_bd {s t S T : Rat} (h1 : -S ≤ s) (h2 : s ≤ S) (h3 : -T ≤ t) (h4 : t ≤ T) : -(S * T) ≤ s * t ∧ s * t ≤ S * T := by
  have a1 : 0 ≤ S := by grind
  have a2 : 0 ≤ T := by grind
  have b1 := Rat.mul_nonneg (show 0 ≤ S - s by grind) (show 0 ≤ T - t by grind)
  have b2 := Rat.mul_nonneg (show 0 ≤ S + s by grind) (show 0 ≤ T + t by grind)
  have b3 := Rat.mul_nonneg (show 0 ≤ S - s by grind) (show 0 ≤ T + t by grind)
  have b4 := Rat.mul_nonneg (show 0 ≤ S + s by grind) (show 0 ≤ T - t by grind)
  constructor <;> grind
theorem mul_err {x y a b ea eb A B : Rat} (hx1 : a - ea ≤ x) (hx2 : x ≤ a + ea) (hy1 : b - eb ≤ y) (hy2 : y ≤ b + eb) (ha1 : -A ≤ a) (ha2 : a ≤ A) (hb1 : -B ≤ b) (hb2 : b ≤ B) :
    a * b - (ea * B + eb * A + ea * eb) ≤ x * y ∧ x * y ≤ a * b + (ea * B + eb * A + ea * eb) := by
  have p1 := prod_bd (s := x - a) (t := b) (S := ea) (T := B) (by grind) (by grind) hb1 hb2
  have p2 := prod_bd (s := y - b) (t := a) (S := eb) (T := A) (by grind) (by grind) ha1 ha2
  have p3 := prod_bd (s := x - a) (t := y - b) (S := ea) (T := eb) (by grind) (by grind) (by grind) (by grind)
  have e : x * y = a * b + (x - a) * b + (y - b) * a + (x - a) * (y - b) := by grind
  constructor <;> grind
theorem Ap.mul' {a b : Nat} {va vb ea eb Ba Bb : Rat} (ha : Ap a va ea Ba) (hb : Ap b vb eb Bb) (e' B' M : Rat) (hM : Mid M) (h1 : B' + (ea * Bb + eb * Ba + ea * eb) ≤ M) (he : ea * Bb + eb * Ba + ea * eb + M / 9007199254740992 ≤ e') (hB : -B' ≤ va * vb ∧ va * vb ≤ B') :
    double.mul a b = some (fmul a b) ∧ Ap (fmul a b) (va * vb) e' B' := by
  have h := mul_err ha.lo ha.hi hb.lo hb.hi ha.bl ha.bh hb.bl hb.bh
  have hB1 := hB.1
  have hB2 := hB.2
  generalize ea * Bb + eb * Ba + ea * eb = E at *
  obtain ⟨i, f, n⟩ := fmul_ok ha.fin hb.fin M hM (by grind) (by grind)
  unfold Near at n
  exact ⟨i, f, by grind, by grind, hB1, hB2⟩
theorem Ap.mul {a b : Nat} {va vb ea eb Ba Bb : Rat} (ha : Ap a va ea Ba) (hb : Ap b vb eb Bb) (e' B' M : Rat) (hM : Mid M) (h1 : (Ba + ea) * (Bb + eb) ≤ M) (he : ea * Bb + eb * Ba + ea * eb + M / 9007199254740992 ≤ e') (hB : Ba * Bb ≤ B') :
    double.mul a b = some (fmul a b) ∧ Ap (fmul a b) (va * vb) e' B' := by
  have p := prod_bd ha.bl ha.bh hb.bl hb.bh
  obtain ⟨i, w⟩ := Ap.mul' ha hb e' (Ba * Bb) M hM (by grind) he p
  exact ⟨i, w.weak Rat.le_refl hB⟩
theorem Ap.add' {a b : Nat} {va vb ea eb Ba Bb : Rat} (ha : Ap a va ea Ba) (hb : Ap b vb eb Bb) (e' B' M : Rat) (hM : Mid M) (h1 : B' + ea + eb ≤ M) (he : ea + eb + M / 9007199254740992 ≤ e') (hB : -B' ≤ va + vb ∧ va + vb ≤ B') :
    double.add a b = some (fadd a b) ∧ Ap (fadd a b) (va + vb) e' B' := by
  have l1 := ha.lo; have l2 := ha.hi; have l3 := hb.lo; have l4 := hb.hi
  obtain ⟨i, f, n⟩ := fadd_ok ha.fin hb.fin M hM (by grind) (by grind)
  unfold Near at n
  exact ⟨i, f, by grind, by grind, hB.1, hB.2⟩
theorem Ap.add {a b : Nat} {va vb ea eb Ba Bb : Rat} (ha : Ap a va ea Ba) (hb : Ap b vb eb Bb) (e' B' M : Rat) (hM : Mid M) (h1 : B' + ea + eb ≤ M) (he : ea + eb + M / 9007199254740992 ≤ e') (hB : Ba + Bb ≤ B') :
    double.add a b = some (fadd a b) ∧ Ap (fadd a b) (va + vb) e' B' :=
  Ap.add' ha hb e' B' M hM h1 he (by have := ha.bl; have := ha.bh; have := hb.bl; have := hb.bh; constructor <;> grind)
theorem Ap.sub' {a b : Nat} {va vb ea eb Ba Bb : Rat} (ha : Ap a va ea Ba) (hb : Ap b vb eb Bb) (e' B' M : Rat) (hM : Mid M) (h1 : B' + ea + eb ≤ M) (he : ea + eb + M / 9007199254740992 ≤ e') (hB : -B' ≤ va - vb ∧ va - vb ≤ B') :
    double.sub a b = some (fsub a b) ∧ Ap (fsub a b) (va - vb) e' B' := by
  have l1 := ha.lo; have l2 := ha.hi; have l3 := hb.lo; have l4 := hb.hi
  obtain ⟨i, f, n⟩ := fsub_ok ha.fin hb.fin M hM (by grind) (by grind)
  unfold Near at n
  exact ⟨i, f, by grind, by grind, hB.1, hB.2⟩
theorem Ap.sub {a b : Nat} {va vb ea eb Ba Bb : Rat} (ha : Ap a va ea Ba) (hb : Ap b vb eb Bb) (e' B' M : Rat) (hM : Mid M) (h1 : B' + ea + eb ≤ M) (he : ea + eb + M / 9007199254740992 ≤ e') (hB : Ba + Bb ≤ B') :
    double.sub a b = some (fsub a b) ∧ Ap (fsub a b) (va - vb) e' B' :=
  Ap.sub' ha hb e' B' M hM h1 he (by have := ha.bl; have := ha.bh; have := hb.bl; have := hb.bh; constructor <;> grind)
theorem Ap.neg {a : Nat} {va ea Ba : Rat} (ha : Ap a va ea Ba) : Ap (fneg a) (-va) ea Ba := by
  obtain ⟨f, v⟩ := fneg_ok ha.fin
  have l1 := ha.lo; have l2 := ha.hi; have l3 := ha.bl; have l4 := ha.bh
  exact ⟨f, by grind, by grind, by grind, by grind⟩
/-- A word of a literal. -/
theorem fv_lit {w : Nat} {s : Bool} {m k : Nat} (h : double.read w = .number s m (-(k : Int))) : Fin w ∧ fv w = sg s * (m : Rat) / ((2 ^ k : Nat) : Rat) := by
  refine ⟨⟨_, _, _, h⟩, ?_⟩
  rw [fv_fin h, p2_neg, ← p2_nat, ← p2_cast]
  grind

end Go.Proofs.YtdeoahgcppbmkaaDoor
