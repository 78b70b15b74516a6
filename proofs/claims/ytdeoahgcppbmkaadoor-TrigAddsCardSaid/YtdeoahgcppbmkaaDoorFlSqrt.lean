/- The model's square root, and whole numbers beyond the words' exactness. -/
import Derived.Test.YtdeoahgcppbmkaaDoorFlAtan
import Derived.Test.YtdeoahgcppbmkaaDoorFlSign
namespace Go.Proofs.YtdeoahgcppbmkaaDoor
open Ieee
set_option linter.unusedSimpArgs false
set_option linter.unusedVariables false
theorem fint_near (n : Int) (M : Rat) (hM : Mid M) (h1 : -M ≤ (n : Rat)) (h2 : (n : Rat) ≤ M) : Fin (floatOfInt .f64 n) ∧ Near (fv (floatOfInt .f64 n)) (n : Rat) (M / 9007199254740992) := by
  have e : dv (.number (decide (n < 0)) n.natAbs 0) = (n : Rat) := by
    rw [dv_number, natAbs_val]
    show (n : Rat) * 1 = _
    grind
  have w := write_near (decide (n < 0)) n.natAbs 0 M hM (by rw [e]; exact h1) (by rw [e]; exact h2)
  rw [e] at w
  exact w
theorem rootFrom_spec (n : Nat) : ∀ todo root, root * root ≤ n → n < (root + 2 ^ todo) * (root + 2 ^ todo) → Datum.rootFrom n todo root * Datum.rootFrom n todo root ≤ n ∧ n < (Datum.rootFrom n todo root + 1) * (Datum.rootFrom n todo root + 1)
  | 0, root, h1, h2 => by
    unfold Datum.rootFrom
    exact ⟨h1, by simpa using h2⟩
  | todo + 1, root, h1, h2 => by
    unfold Datum.rootFrom
    dsimp only
    rw [one_shl]
    by_cases c : (root + 2 ^ todo) * (root + 2 ^ todo) ≤ n
    · rw [if_pos c]
      refine rootFrom_spec n todo (root + 2 ^ todo) c ?_
      have e : root + 2 ^ todo + 2 ^ todo = root + 2 ^ (todo + 1) := by rw [Nat.pow_succ]; omega
      rw [e]; exact h2
    · rw [if_neg c]
      exact rootFrom_spec n todo root h1 (by omega)
theorem isqrt_ok (n : Nat) : Datum.rootFrom n (n.log2 / 2 + 1) 0 * Datum.rootFrom n (n.log2 / 2 + 1) 0 ≤ n ∧ n < (Datum.rootFrom n (n.log2 / 2 + 1) 0 + 1) * (Datum.rootFrom n (n.log2 / 2 + 1) 0 + 1) := by
  refine rootFrom_spec n _ 0 (by omega) ?_
  rw [Nat.zero_add, ← Nat.pow_add]
  exact Nat.lt_of_lt_of_le (lt_log2 n) (Nat.pow_le_pow_right (by omega) (by omega))
/-- How near a square root is: v is what is rounded. -/
structure SqrtOk (x : Nat) (v : Rat) : Prop where
  pos : 0 < v
  lo : fv x - fv x / 9007199254740992 ≤ v * v
  hi : v * v ≤ fv x + fv x / 9007199254740992
theorem sqrt_val {x : Nat} (hf : Fin x) (h0 : 0 < fv x) : ∃ v d, (double.read x).root 54 = some d ∧ dv d = v ∧ SqrtOk x v ∧ ∃ s m p, d = .number s m p := by
  obtain ⟨s, m, i, hr⟩ := hf
  have hs : s = false := by
    cases s
    · rfl
    · exfalso
      rw [fv_fin hr, sg_t] at h0
      have h1 : 0 ≤ (m : Rat) * (2 : Rat) ^ i := Rat.mul_nonneg (nat_nonneg m) (Rat.le_of_lt (p2_pos i))
      rw [Rat.mul_assoc] at h0
      grind
  subst hs
  have hm : m ≠ 0 := by
    rintro rfl
    rw [fv_fin hr] at h0
    have : ((0 : Nat) : Rat) = 0 := rfl
    rw [this] at h0
    grind
  have hX : fv x = (m : Rat) * (2 : Rat) ^ i := by rw [fv_fin hr, sg_f]; grind
  obtain ⟨more, hmore⟩ : ∃ more, more = (2 * 54 - m.log2) + ((i - ((2 * 54 - m.log2 : Nat) : Int)) % 2).toNat := ⟨_, rfl⟩
  obtain ⟨n, hn⟩ : ∃ n, n = m * 2 ^ more := ⟨_, rfl⟩
  obtain ⟨W, hW⟩ : ∃ W, W = Datum.rootFrom n (n.log2 / 2 + 1) 0 := ⟨_, rfl⟩
  obtain ⟨w1, w2⟩ := isqrt_ok n
  rw [← hW] at w1 w2
  obtain ⟨e, he⟩ : ∃ e : Int, i - (more : Int) = 2 * e := ⟨(i - (more : Int)) / 2, by omega⟩
  have hroot : (double.read x).root 54 = some (.number false (2 * W + (W * W != n).toNat) (e - 1)) := by
    rw [hr]
    unfold Datum.root
    dsimp only
    rw [if_neg hm, if_neg (by decide), ← hmore, shl_eq, ← hn, ← hW, he, show 2 * e / 2 = e by omega]
  refine ⟨_, _, hroot, rfl, ?_, _, _, _, rfl⟩
  rw [dv_number, sg_f]
  -- the size of W
  have hlog : 2 ^ 108 ≤ n := by
    have h1 : 2 ^ m.log2 ≤ m := Nat.log2_self_le hm
    rw [hn]
    refine Nat.le_trans ?_ (Nat.mul_le_mul h1 (Nat.pow_le_pow_right (by omega) (show 2 * 54 - m.log2 ≤ more by omega)))
    rw [← Nat.pow_add]
    exact Nat.pow_le_pow_right (by omega) (by omega)
  have hW54 : 2 ^ 54 ≤ W := by
    apply Nat.le_of_not_lt
    intro h
    have : (W + 1) * (W + 1) ≤ 2 ^ 54 * 2 ^ 54 := Nat.mul_le_mul (by omega) (by omega)
    have e2 : 2 ^ 54 * 2 ^ 54 = 2 ^ 108 := by decide
    omega
  -- the unit
  obtain ⟨u, hu⟩ : ∃ u : Rat, u = (2 : Rat) ^ e := ⟨_, rfl⟩
  have up : 0 < u := by rw [hu]; exact p2_pos e
  have eX : fv x = (n : Rat) * (u * u) := by
    rw [hX, hn, hu, ← p2_add, Rat.natCast_mul, p2_cast, Rat.mul_assoc, ← p2_add]
    congr 2
    omega
  have eu : (2 : Rat) ^ (e - 1) = u / 2 := by
    have : (2 : Rat) ^ e = 2 ^ (e - 1) * 2 ^ (1 : Int) := by rw [← p2_add]; congr 1; omega
    have e1 : (2 : Rat) ^ (1 : Int) = 2 := by decide
    rw [hu, this, e1]; grind
  have w1r : (W : Rat) * (W : Rat) ≤ (n : Rat) := by rw [← Rat.natCast_mul]; exact Rat.natCast_le_natCast.2 w1
  have w2r : (n : Rat) ≤ (W : Rat) * (W : Rat) + 2 * (W : Rat) := by
    have : n ≤ W * W + 2 * W := by have : (W + 1) * (W + 1) = W * W + 2 * W + 1 := by grind
                                   omega
    have := Rat.natCast_le_natCast.2 this
    rw [Rat.natCast_add, Rat.natCast_mul, Rat.natCast_mul] at this
    exact this
  have W54 : (18014398509481984 : Rat) ≤ (W : Rat) := by
    have := Rat.natCast_le_natCast.2 hW54
    exact this
  have huu : 0 ≤ u * u := Rat.mul_nonneg (Rat.le_of_lt up) (Rat.le_of_lt up)
  have hWW := Rat.mul_le_mul_of_nonneg_right W54 (show 0 ≤ (W : Rat) by grind)
  rw [eu]
  generalize hk : (W * W != n).toNat = k
  have hk01 : k = 0 ∧ (W : Rat) * (W : Rat) = (n : Rat) ∨ k = 1 := by
    by_cases c : W * W = n
    · left
      refine ⟨by rw [← hk, c]; simp, by rw [← Rat.natCast_mul, c]⟩
    · right
      rw [← hk]
      have : (W * W != n) = true := by simp [c]
      rw [this]; rfl
  have ev : ((2 * W + k : Nat) : Rat) = 2 * (W : Rat) + (k : Rat) := by rw [Rat.natCast_add, Rat.natCast_mul]; rfl
  rw [ev]
  clear hk ev hn hW w1 w2 hroot hr hX hmore he hu eu hlog hW54 hm h0
  generalize (W : Rat) = a at *
  generalize (n : Rat) = b at *
  rcases hk01 with ⟨rfl, hab⟩ | rfl
  · have k0 : ((0 : Nat) : Rat) = 0 := rfl
    rw [k0]
    have ev : 1 * (2 * a + 0) * (u / 2) = a * u := by grind
    rw [ev]
    have esq : a * u * (a * u) = fv x := by rw [eX, ← hab]; grind
    refine ⟨Rat.mul_pos (by grind) up, ?_, ?_⟩
    · rw [esq]; have : 0 ≤ fv x := by rw [← esq]; exact zsq (a * u)
      grind
    · rw [esq]; have : 0 ≤ fv x := by rw [← esq]; exact zsq (a * u)
      grind
  · have k1 : ((1 : Nat) : Rat) = 1 := rfl
    rw [k1]
    have ev : 1 * (2 * a + 1) * (u / 2) = (a + 1 / 2) * u := by grind
    rw [ev]
    have esq : (a + 1 / 2) * u * ((a + 1 / 2) * u) = (a * a + a + 1 / 4) * (u * u) := by grind
    refine ⟨Rat.mul_pos (by grind) up, ?_, ?_⟩
    · rw [esq, eX]
      have := Rat.mul_nonneg (show 0 ≤ (a * a + a + 1 / 4) - (b - b / 9007199254740992) by grind) huu
      grind
    · rw [esq, eX]
      have := Rat.mul_nonneg (show 0 ≤ (b + b / 9007199254740992) - (a * a + a + 1 / 4) by grind) huu
      grind
/-- The word of a square root. -/
def fsqrt (x : Nat) : Nat := (double.sqrt x).getD 0
theorem fsqrt_ok {x : Nat} (hf : Fin x) (h0 : 0 < fv x) (M : Rat) (hM : Mid M) (h1 : fv x * 2 ≤ M * M) (hMp : 0 < M) : ∃ v, SqrtOk x v ∧ double.sqrt x = some (fsqrt x) ∧ Fin (fsqrt x) ∧ Near (fv (fsqrt x)) v (M / 9007199254740992) ∧ 0 ≤ fv (fsqrt x) := by
  obtain ⟨v, d, hd, hv, hok, s, m, p, rfl⟩ := sqrt_val hf h0
  have hs : double.sqrt x = some (double.write (.number s m p)) := by unfold Format.sqrt; rw [show double.fractionBits + 2 = 54 from rfl, hd]; rfl
  have e : fsqrt x = double.write (.number s m p) := by unfold fsqrt; rw [hs]; rfl
  obtain ⟨p1, p2, p3⟩ := id hok
  have hvM : v ≤ M := by
    apply Rat.not_lt.1
    intro hl
    have a1 := Rat.mul_lt_mul_of_pos_right hl p1
    have a2 := Rat.mul_lt_mul_of_pos_left hl hMp
    grind
  have w := write_near s m p M hM (by rw [hv]; grind) (by rw [hv]; exact hvM)
  have wn := write_nonneg s m p M hM (by rw [hv]; grind) (by rw [hv]; exact hvM) (by rw [hv]; grind)
  rw [hv] at w
  rw [e]
  exact ⟨v, hok, hs, w.1, w.2, wn⟩
theorem fsqrt_zero : double.sqrt 0 = some 0 ∧ fsqrt 0 = 0 := by constructor <;> decide
end Go.Proofs.YtdeoahgcppbmkaaDoor
