/- Sine and cosine as polynomials of a high degree: the theorem of addition with an error; nothing of the program. -/
import Derived.Test.YtdeoahgcppbmkaaDoorFlSin
namespace Go.Proofs.YtdeoahgcppbmkaaDoor
set_option linter.unusedSimpArgs false
set_option linter.unusedVariables false

/-- The sum of the first n numbers of a row. -/
def ss (f : Nat → Rat) : Nat → Rat
  | 0 => 0
  | n + 1 => ss f n + f n
theorem ss_congr {f g : Nat → Rat} : ∀ n, (∀ i, i < n → f i = g i) → ss f n = ss g n
  | 0, _ => rfl
  | n + 1, h => by unfold ss; rw [ss_congr n (fun i hi => h i (by omega)), h n (by omega)]
theorem ss_add (f g : Nat → Rat) : ∀ n, ss (fun i => f i + g i) n = ss f n + ss g n
  | 0 => by unfold ss; grind
  | n + 1 => by unfold ss; rw [ss_add f g n]; grind
theorem ss_sub (f g : Nat → Rat) : ∀ n, ss (fun i => f i - g i) n = ss f n - ss g n
  | 0 => by unfold ss; grind
  | n + 1 => by unfold ss; rw [ss_sub f g n]; grind
theorem ss_mul (c : Rat) (f : Nat → Rat) : ∀ n, ss (fun i => c * f i) n = c * ss f n
  | 0 => by unfold ss; grind
  | n + 1 => by unfold ss; rw [ss_mul c f n]; grind
theorem ss_shift (f : Nat → Rat) : ∀ n, ss f (n + 1) = f 0 + ss (fun i => f (i + 1)) n
  | 0 => by unfold ss ss; grind
  | n + 1 => by rw [ss, ss_shift f n, ss]; grind
theorem ss_bd {f F : Nat → Rat} : ∀ n, (∀ i, i < n → -F i ≤ f i ∧ f i ≤ F i) → -ss F n ≤ ss f n ∧ ss f n ≤ ss F n
  | 0, _ => by unfold ss; grind
  | n + 1, h => by
    have a := ss_bd n (fun i hi => h i (by omega))
    have b := h n (by omega)
    unfold ss
    grind
theorem ss_le {f g : Nat → Rat} : ∀ n, (∀ i, i < n → f i ≤ g i) → ss f n ≤ ss g n
  | 0, _ => by unfold ss; grind
  | n + 1, h => by
    have a := ss_le n (fun i hi => h i (by omega))
    have b := h n (by omega)
    unfold ss
    grind
/-- What lies between two lengths. -/
theorem ss_gap {f F : Nat → Rat} (h : ∀ i, -F i ≤ f i ∧ f i ≤ F i) (m : Nat) : ∀ k, -(ss F (m + k) - ss F m) ≤ ss f (m + k) - ss f m ∧ ss f (m + k) - ss f m ≤ ss F (m + k) - ss F m
  | 0 => by rw [Nat.add_zero]; grind
  | k + 1 => by
    have a := ss_gap h m k
    have b := h (m + k)
    rw [show m + (k + 1) = (m + k) + 1 by omega, ss, ss]
    grind
theorem ss_gap' {f F : Nat → Rat} (h : ∀ i, -F i ≤ f i ∧ f i ≤ F i) {m n : Nat} (hm : m ≤ n) : -(ss F n - ss F m) ≤ ss f n - ss f m ∧ ss f n - ss f m ≤ ss F n - ss F m := by
  obtain ⟨k, rfl⟩ : ∃ k, n = m + k := ⟨n - m, by omega⟩
  exact ss_gap h m k
/-- The m-th number of the product of two rows. -/
def cv (f g : Nat → Rat) (m : Nat) : Rat := ss (fun j => f j * g (m - j)) (m + 1)
/-- The first n of these, summed up. -/
def tr (f g : Nat → Rat) (n : Nat) : Rat := ss (fun j => f j * ss g (n - j)) n
theorem tr_cv (f g : Nat → Rat) : ∀ n, tr f g n = ss (cv f g) n
  | 0 => rfl
  | n + 1 => by
    rw [ss, ← tr_cv f g n]
    unfold tr cv
    rw [ss, ss, show n + 1 - n = 1 by omega, Nat.sub_self, show ss g 1 = 0 + g 0 from rfl]
    have e : ss (fun j => f j * ss g (n + 1 - j)) n = ss (fun j => f j * ss g (n - j) + f j * g (n - j)) n := by
      apply ss_congr
      intro j hj
      rw [show n + 1 - j = (n - j) + 1 by omega, ss]
      grind
    rw [e, ss_add]
    grind
theorem prod_tr (f g : Nat → Rat) (n : Nat) : ss f n * ss g n - tr f g n = ss (fun j => f j * (ss g n - ss g (n - j))) n := by
  have e : ss (fun j => f j * (ss g n - ss g (n - j))) n = ss (fun j => ss g n * f j - f j * ss g (n - j)) n := ss_congr n (fun j _ => by grind)
  rw [e, ss_sub, ss_mul]
  unfold tr
  grind
theorem rmul_bd {a b A B : Rat} (h1 : -A ≤ a ∧ a ≤ A) (h2 : -B ≤ b ∧ b ≤ B) : -(A * B) ≤ a * b ∧ a * b ≤ A * B := prod_bd h1.1 h1.2 h2.1 h2.2
theorem tr_bd {f g F G : Nat → Rat} (hf : ∀ i, -F i ≤ f i ∧ f i ≤ F i) (hg : ∀ i, -G i ≤ g i ∧ g i ≤ G i) (n : Nat) :
    -(ss F n * ss G n - tr F G n) ≤ ss f n * ss g n - tr f g n ∧ ss f n * ss g n - tr f g n ≤ ss F n * ss G n - tr F G n := by
  rw [prod_tr, prod_tr]
  apply ss_bd
  intro j hj
  exact rmul_bd (hf j) (ss_gap' hg (by omega))
/-- Powers by factorials. -/
def pw (x : Rat) : Nat → Rat
  | 0 => 1
  | k + 1 => pw x k * x / ((k : Rat) + 1)
theorem nat_succ_pos (k : Nat) : (0 : Rat) < (k : Rat) + 1 := by have := nat_nonneg k; grind
theorem pw_mul (x : Rat) (k : Nat) : ((k : Rat) + 1) * pw x (k + 1) = x * pw x k := by
  have := nat_succ_pos k
  rw [pw]
  grind
theorem rat_cancel {a b c : Rat} (h : 0 < c) (e : c * a = c * b) : a = b := by
  have h0 : c ≠ 0 := by grind
  have h1 : a = c * a / c := by grind
  have h2 : b = c * b / c := by grind
  rw [h1, e, ← h2]
theorem pw_add (x y : Rat) : ∀ m, pw (x + y) m = cv (pw x) (pw y) m
  | 0 => by unfold cv; rw [ss, ss]; unfold pw; grind
  | m + 1 => by
    have h := pw_mul (x + y) m
    rw [pw_add x y m] at h
    have hp := nat_succ_pos m
    have key : ((m : Rat) + 1) * cv (pw x) (pw y) (m + 1) = (x + y) * cv (pw x) (pw y) m := by
      have e1 : ((m : Rat) + 1) * cv (pw x) (pw y) (m + 1) = ss (fun j => (j : Rat) * pw x j * pw y (m + 1 - j) + pw x j * (((m + 1 - j : Nat) : Rat) * pw y (m + 1 - j))) (m + 1 + 1) := by
        unfold cv
        rw [← ss_mul]
        apply ss_congr
        intro j hj
        have e : (m : Rat) + 1 = (j : Rat) + ((m + 1 - j : Nat) : Rat) := by
          have : ((j + (m + 1 - j) : Nat) : Rat) = ((m + 1 : Nat) : Rat) := by rw [show j + (m + 1 - j) = m + 1 by omega]
          rw [Rat.natCast_add, Rat.natCast_add] at this
          rw [this]; rfl
        rw [e]
        grind
      rw [e1, ss_add]
      have e2 : ss (fun j => (j : Rat) * pw x j * pw y (m + 1 - j)) (m + 1 + 1) = x * cv (pw x) (pw y) m := by
        rw [ss_shift]
        unfold cv
        rw [← ss_mul]
        have z : ((0 : Nat) : Rat) = 0 := rfl
        rw [z]
        have e : ss (fun i => ((i + 1 : Nat) : Rat) * pw x (i + 1) * pw y (m + 1 - (i + 1))) (m + 1) = ss (fun i => x * (pw x i * pw y (m - i))) (m + 1) := by
          apply ss_congr
          intro i hi
          have := pw_mul x i
          rw [Rat.natCast_add, show ((1 : Nat) : Rat) = 1 from rfl, this, show m + 1 - (i + 1) = m - i by omega]
          grind
        rw [e]
        grind
      have e3 : ss (fun j => pw x j * (((m + 1 - j : Nat) : Rat) * pw y (m + 1 - j))) (m + 1 + 1) = y * cv (pw x) (pw y) m := by
        rw [ss, Nat.sub_self, show ((0 : Nat) : Rat) = 0 from rfl]
        unfold cv
        rw [← ss_mul]
        have e : ss (fun j => pw x j * (((m + 1 - j : Nat) : Rat) * pw y (m + 1 - j))) (m + 1) = ss (fun i => y * (pw x i * pw y (m - i))) (m + 1) := by
          apply ss_congr
          intro i hi
          have := pw_mul y (m - i)
          rw [show m + 1 - i = (m - i) + 1 by omega, Rat.natCast_add, show ((1 : Nat) : Rat) = 1 from rfl, this]
          grind
        rw [e]
        grind
      rw [e2, e3]
      grind
    exact rat_cancel hp (h.trans key.symm)
theorem pw_nonneg {x : Rat} (h : 0 ≤ x) : ∀ k, 0 ≤ pw x k
  | 0 => by unfold pw; grind
  | k + 1 => by
    unfold pw
    exact rdiv_nonneg (Rat.mul_nonneg (pw_nonneg h k) h) (nat_succ_pos k)
theorem pw_bd {x X : Rat} (h : -X ≤ x ∧ x ≤ X) : ∀ k, -pw X k ≤ pw x k ∧ pw x k ≤ pw X k
  | 0 => by unfold pw; grind
  | k + 1 => by
    have a := rmul_bd (pw_bd h k) h
    have p := nat_succ_pos k
    have b : (0 : Rat) ≤ 1 / ((k : Rat) + 1) := rdiv_nonneg (by grind) p
    unfold pw
    have e1 : pw x k * x / ((k : Rat) + 1) = (pw x k * x) * (1 / ((k : Rat) + 1)) := by grind
    have e2 : pw X k * X / ((k : Rat) + 1) = (pw X k * X) * (1 / ((k : Rat) + 1)) := by grind
    rw [e1, e2]
    have m1 := Rat.mul_le_mul_of_nonneg_right a.1 b
    have m2 := Rat.mul_le_mul_of_nonneg_right a.2 b
    constructor
    · rw [← Rat.neg_mul]; exact m1
    · exact m2
/-- The signs of the cosine's and of the sine's terms. -/
def cc (k : Nat) : Rat := match k % 4 with | 0 => 1 | 2 => -1 | _ => 0
def sc (k : Nat) : Rat := match k % 4 with | 1 => 1 | 3 => -1 | _ => 0
theorem cc_bd (k : Nat) : -1 ≤ cc k ∧ cc k ≤ 1 := by unfold cc; split <;> grind
theorem sc_bd (k : Nat) : -1 ≤ sc k ∧ sc k ≤ 1 := by unfold sc; split <;> grind
theorem cc_add (j k : Nat) : cc (j + k) = cc j * cc k - sc j * sc k := by
  unfold cc sc
  rw [Nat.add_mod]
  have hj := Nat.mod_lt j (show 4 > 0 by decide)
  have hk := Nat.mod_lt k (show 4 > 0 by decide)
  generalize j % 4 = a at *
  generalize k % 4 = b at *
  rcases (by omega : a = 0 ∨ a = 1 ∨ a = 2 ∨ a = 3) with rfl | rfl | rfl | rfl <;> rcases (by omega : b = 0 ∨ b = 1 ∨ b = 2 ∨ b = 3) with rfl | rfl | rfl | rfl <;> decide +kernel
theorem sc_add (j k : Nat) : sc (j + k) = sc j * cc k + cc j * sc k := by
  unfold cc sc
  rw [Nat.add_mod]
  have hj := Nat.mod_lt j (show 4 > 0 by decide)
  have hk := Nat.mod_lt k (show 4 > 0 by decide)
  generalize j % 4 = a at *
  generalize k % 4 = b at *
  rcases (by omega : a = 0 ∨ a = 1 ∨ a = 2 ∨ a = 3) with rfl | rfl | rfl | rfl <;> rcases (by omega : b = 0 ∨ b = 1 ∨ b = 2 ∨ b = 3) with rfl | rfl | rfl | rfl <;> decide +kernel
/-- How many terms. -/
def NN : Nat := 90
def cf (x : Rat) (k : Nat) : Rat := cc k * pw x k
def sf (x : Rat) (k : Nat) : Rat := sc k * pw x k
def cs (x : Rat) : Rat := ss (cf x) NN
def sn (x : Rat) : Rat := ss (sf x) NN
theorem one_bd {c p P : Rat} (h : -1 ≤ c ∧ c ≤ 1) (hp : -P ≤ p ∧ p ≤ P) : -P ≤ c * p ∧ c * p ≤ P := by
  have := rmul_bd h hp
  grind
theorem cf_bd {x X : Rat} (h : -X ≤ x ∧ x ≤ X) (k : Nat) : -pw X k ≤ cf x k ∧ cf x k ≤ pw X k := one_bd (cc_bd k) (pw_bd h k)
theorem sf_bd {x X : Rat} (h : -X ≤ x ∧ x ≤ X) (k : Nat) : -pw X k ≤ sf x k ∧ sf x k ≤ pw X k := one_bd (sc_bd k) (pw_bd h k)
theorem cf_add (x y : Rat) (m : Nat) : cf (x + y) m = cv (cf x) (cf y) m - cv (sf x) (sf y) m := by
  unfold cf
  rw [pw_add]
  unfold cv
  rw [← ss_mul, ← ss_sub]
  apply ss_congr
  intro j hj
  have e : cc m = cc j * cc (m - j) - sc j * sc (m - j) := by rw [← cc_add, show j + (m - j) = m by omega]
  rw [e]
  unfold sf
  grind
theorem sf_add (x y : Rat) (m : Nat) : sf (x + y) m = cv (sf x) (cf y) m + cv (cf x) (sf y) m := by
  unfold sf
  rw [pw_add]
  unfold cv
  rw [← ss_mul, ← ss_add]
  apply ss_congr
  intro j hj
  have e : sc m = sc j * cc (m - j) + cc j * sc (m - j) := by rw [← sc_add, show j + (m - j) = m by omega]
  rw [e]
  unfold cf
  grind
/-- The error's bound. -/
def eb (X Y : Rat) : Rat := ss (pw X) NN * ss (pw Y) NN - ss (pw (X + Y)) NN
theorem eb_eq (X Y : Rat) : ss (pw X) NN * ss (pw Y) NN - tr (pw X) (pw Y) NN = eb X Y := by
  unfold eb
  rw [tr_cv, ss_congr NN (fun i _ => (pw_add X Y i))]
theorem cs_add' {x y X Y : Rat} (hx : -X ≤ x ∧ x ≤ X) (hy : -Y ≤ y ∧ y ≤ Y) : Near (cs (x + y)) (cs x * cs y - sn x * sn y) (2 * eb X Y) := by
  have a := tr_bd (cf_bd hx) (cf_bd hy) NN
  have b := tr_bd (sf_bd hx) (sf_bd hy) NN
  rw [eb_eq] at a b
  have e : cs (x + y) = tr (cf x) (cf y) NN - tr (sf x) (sf y) NN := by
    unfold cs
    rw [tr_cv, tr_cv, ← ss_sub]
    exact ss_congr NN (fun i _ => cf_add x y i)
  unfold Near cs sn at *
  grind
theorem sn_add' {x y X Y : Rat} (hx : -X ≤ x ∧ x ≤ X) (hy : -Y ≤ y ∧ y ≤ Y) : Near (sn (x + y)) (sn x * cs y + cs x * sn y) (2 * eb X Y) := by
  have a := tr_bd (sf_bd hx) (cf_bd hy) NN
  have b := tr_bd (cf_bd hx) (sf_bd hy) NN
  rw [eb_eq] at a b
  have e : sn (x + y) = tr (sf x) (cf y) NN + tr (cf x) (sf y) NN := by
    unfold sn
    rw [tr_cv, tr_cv, ← ss_add]
    exact ss_congr NN (fun i _ => sf_add x y i)
  unfold Near cs sn at *
  grind
/-- The numbers of a row, one after another, reckoned once. -/
def er (x : Rat) : Nat → Rat × Rat
  | 0 => (0, 1)
  | k + 1 => let p := er x k; (p.1 + p.2, p.2 * x / ((k : Rat) + 1))
theorem er_eq (x : Rat) : ∀ n, er x n = (ss (pw x) n, pw x n)
  | 0 => rfl
  | n + 1 => by rw [er, er_eq x n]; rfl
theorem eb_num : eb 8 8 ≤ 1 / 10000000000000000000000000000 := by
  unfold eb
  have e1 : ss (pw 8) NN = (er 8 NN).1 := by rw [er_eq]
  have e2 : ss (pw (8 + 8)) NN = (er (8 + 8) NN).1 := by rw [er_eq]
  rw [e1, e2]
  decide +kernel
def ep : Rat := 1 / 1000000000000000000000000000
theorem cs_add {x y : Rat} (hx : -8 ≤ x ∧ x ≤ 8) (hy : -8 ≤ y ∧ y ≤ 8) : Near (cs (x + y)) (cs x * cs y - sn x * sn y) ep := near_weak (cs_add' hx hy) (by have := eb_num; unfold ep; grind)
theorem sn_add {x y : Rat} (hx : -8 ≤ x ∧ x ≤ 8) (hy : -8 ≤ y ∧ y ≤ 8) : Near (sn (x + y)) (sn x * cs y + cs x * sn y) ep := near_weak (sn_add' hx hy) (by have := eb_num; unfold ep; grind)
end Go.Proofs.YtdeoahgcppbmkaaDoor
