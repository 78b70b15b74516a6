/- Merged by wip/tools/pack.py out of XVS, XVSP, XVSV, XJord. -/
import Derived.Test.YtdifeoahaegjbaaGreatDoorFloat
/- Sine and cosine as polynomials of a high degree: the theorem of addition with an error; nothing of the program. -/
namespace Go.Proofs.YtdifeoahaegjbaaGreatDoor
set_option linter.unusedSimpArgs false
set_option linter.unusedVariables false

/-- The sum of the first n numbers of a row. -/
def ss (f : Nat → Rat) : Nat → Rat
  | 0 => 0
  | n + 1 => ss f n + f n
theorem ss_congr {f g : Nat → Rat} : ∀ n, (∀ i, i < n → f i = g i) → ss f n = ss g n
  | 0, _ => rfl
  | n + 1, h => by unfold ss; rw [ss_congr n (fun i hi => h i (by omega)), h n (by omega)]
theorem ss_add (f g : Nat → Rat) : ∀ n, ss (fun i => f i + g i) n = ss f n + ss g n
  | 0 => by unfold ss; grind
  | n + 1 => by unfold ss; rw [ss_add f g n]; grind
theorem ss_sub (f g : Nat → Rat) : ∀ n, ss (fun i => f i - g i) n = ss f n - ss g n
  | 0 => by unfold ss; grind
  | n + 1 => by unfold ss; rw [ss_sub f g n]; grind
theorem ss_mul (c : Rat) (f : Nat → Rat) : ∀ n, ss (fun i => c * f i) n = c * ss f n
  | 0 => by unfold ss; grind
  | n + 1 => by unfold ss; rw [ss_mul c f n]; grind
theorem ss_shift (f : Nat → Rat) : ∀ n, ss f (n + 1) = f 0 + ss (fun i => f (i + 1)) n
  | 0 => by unfold ss ss; grind
  | n + 1 => by rw [ss, ss_shift f n, ss]; grind
theorem ss_bd {f F : Nat → Rat} : ∀ n, (∀ i, i < n → -F i ≤ f i ∧ f i ≤ F i) → -ss F n ≤ ss f n ∧ ss f n ≤ ss F n
  | 0, _ => by unfold ss; grind
  | n + 1, h => by
    have a := ss_bd n (fun i hi => h i (by omega))
    have b := h n (by omega)
    unfold ss
    grind
theorem ss_le {f g : Nat → Rat} : ∀ n, (∀ i, i < n → f i ≤ g i) → ss f n ≤ ss g n
  | 0, _ => by unfold ss; grind
  | n + 1, h => by
    have a := ss_le n (fun i hi => h i (by omega))
    have b := h n (by omega)
    unfold ss
    grind
/-- What lies between two lengths. -/
theorem ss_gap {f F : Nat → Rat} (h : ∀ i, -F i ≤ f i ∧ f i ≤ F i) (m : Nat) : ∀ k, -(ss F (m + k) - ss F m) ≤ ss f (m + k) - ss f m ∧ ss f (m + k) - ss f m ≤ ss F (m + k) - ss F m
  | 0 => by rw [Nat.add_zero]; grind
  | k + 1 => by
    have a := ss_gap h m k
    have b := h (m + k)
    rw [show m + (k + 1) = (m + k) + 1 by omega, ss, ss]
    grind
theorem ss_gap' {f F : Nat → Rat} (h : ∀ i, -F i ≤ f i ∧ f i ≤ F i) {m n : Nat} (hm : m ≤ n) : -(ss F n - ss F m) ≤ ss f n - ss f m ∧ ss f n - ss f m ≤ ss F n - ss F m := by
  obtain ⟨k, rfl⟩ : ∃ k, n = m + k := ⟨n - m, by omega⟩
  exact ss_gap h m k
/-- The m-th number of the product of two rows. -/
def cv (f g : Nat → Rat) (m : Nat) : Rat := ss (fun j => f j * g (m - j)) (m + 1)
/-- The first n of these, summed up. -/
def tr (f g : Nat → Rat) (n : Nat) : Rat := ss (fun j => f j * ss g (n - j)) n
theorem tr_cv (f g : Nat → Rat) : ∀ n, tr f g n = ss (cv f g) n
  | 0 => rfl
  | n + 1 => by
    rw [ss, ← tr_cv f g n]
    unfold tr cv
    rw [ss, ss, show n + 1 - n = 1 by omega, Nat.sub_self, show ss g 1 = 0 + g 0 from rfl]
    have e : ss (fun j => f j * ss g (n + 1 - j)) n = ss (fun j => f j * ss g (n - j) + f j * g (n - j)) n := by
      apply ss_congr
      intro j hj
      rw [show n + 1 - j = (n - j) + 1 by omega, ss]
      grind
    rw [e, ss_add]
    grind
theorem prod_tr (f g : Nat → Rat) (n : Nat) : ss f n * ss g n - tr f g n = ss (fun j => f j * (ss g n - ss g (n - j))) n := by
  have e : ss (fun j => f j * (ss g n - ss g (n - j))) n = ss (fun j => ss g n * f j - f j * ss g (n - j)) n := ss_congr n (fun j _ => by grind)
  rw [e, ss_sub, ss_mul]
  unfold tr
  grind
theorem rmul_bd {a b A B : Rat} (h1 : -A ≤ a ∧ a ≤ A) (h2 : -B ≤ b ∧ b ≤ B) : -(A * B) ≤ a * b ∧ a * b ≤ A * B := prod_bd h1.1 h1.2 h2.1 h2.2
theorem tr_bd {f g F G : Nat → Rat} (hf : ∀ i, -F i ≤ f i ∧ f i ≤ F i) (hg : ∀ i, -G i ≤ g i ∧ g i ≤ G i) (n : Nat) :
    -(ss F n * ss G n - tr F G n) ≤ ss f n * ss g n - tr f g n ∧ ss f n * ss g n - tr f g n ≤ ss F n * ss G n - tr F G n := by
  rw [prod_tr, prod_tr]
  apply ss_bd
  intro j hj
  exact rmul_bd (hf j) (ss_gap' hg (by omega))
/-- Powers by factorials. -/
def pw (x : Rat) : Nat → Rat
  | 0 => 1
  | k + 1 => pw x k * x / ((k : Rat) + 1)
theorem nat_succ_pos (k : Nat) : (0 : Rat) < (k : Rat) + 1 := by have := nat_nonneg k; grind
theorem pw_mul (x : Rat) (k : Nat) : ((k : Rat) + 1) * pw x (k + 1) = x * pw x k := by
  have := nat_succ_pos k
  rw [pw]
  grind
theorem rat_cancel {a b c : Rat} (h : 0 < c) (e : c * a = c * b) : a = b := by
  have h0 : c ≠ 0 := by grind
  have h1 : a = c * a / c := by grind
  have h2 : b = c * b / c := by grind
  rw [h1, e, ← h2]
theorem pw_add (x y : Rat) : ∀ m, pw (x + y) m = cv (pw x) (pw y) m
  | 0 => by unfold cv; rw [ss, ss]; unfold pw; grind
  | m + 1 => by
    have h := pw_mul (x + y) m
    rw [pw_add x y m] at h
    have hp := nat_succ_pos m
    have key : ((m : Rat) + 1) * cv (pw x) (pw y) (m + 1) = (x + y) * cv (pw x) (pw y) m := by
      have e1 : ((m : Rat) + 1) * cv (pw x) (pw y) (m + 1) = ss (fun j => (j : Rat) * pw x j * pw y (m + 1 - j) + pw x j * (((m + 1 - j : Nat) : Rat) * pw y (m + 1 - j))) (m + 1 + 1) := by
        unfold cv
        rw [← ss_mul]
        apply ss_congr
        intro j hj
        have e : (m : Rat) + 1 = (j : Rat) + ((m + 1 - j : Nat) : Rat) := by
          have : ((j + (m + 1 - j) : Nat) : Rat) = ((m + 1 : Nat) : Rat) := by rw [show j + (m + 1 - j) = m + 1 by omega]
          rw [Rat.natCast_add, Rat.natCast_add] at this
          rw [this]; rfl
        rw [e]
        grind
      rw [e1, ss_add]
      have e2 : ss (fun j => (j : Rat) * pw x j * pw y (m + 1 - j)) (m + 1 + 1) = x * cv (pw x) (pw y) m := by
        rw [ss_shift]
        unfold cv
        rw [← ss_mul]
        have z : ((0 : Nat) : Rat) = 0 := rfl
        rw [z]
        have e : ss (fun i => ((i + 1 : Nat) : Rat) * pw x (i + 1) * pw y (m + 1 - (i + 1))) (m + 1) = ss (fun i => x * (pw x i * pw y (m - i))) (m + 1) := by
          apply ss_congr
          intro i hi
          have := pw_mul x i
          rw [Rat.natCast_add, show ((1 : Nat) : Rat) = 1 from rfl, this, show m + 1 - (i + 1) = m - i by omega]
          grind
        rw [e]
        grind
      have e3 : ss (fun j => pw x j * (((m + 1 - j : Nat) : Rat) * pw y (m + 1 - j))) (m + 1 + 1) = y * cv (pw x) (pw y) m := by
        rw [ss, Nat.sub_self, show ((0 : Nat) : Rat) = 0 from rfl]
        unfold cv
        rw [← ss_mul]
        have e : ss (fun j => pw x j * (((m + 1 - j : Nat) : Rat) * pw y (m + 1 - j))) (m + 1) = ss (fun i => y * (pw x i * pw y (m - i))) (m + 1) := by
          apply ss_congr
          intro i hi
          have := pw_mul y (m - i)
          rw [show m + 1 - i = (m - i) + 1 by omega, Rat.natCast_add, show ((1 : Nat) : Rat) = 1 from rfl, this]
          grind
        rw [e]
        grind
      rw [e2, e3]
      grind
    exact rat_cancel hp (h.trans key.symm)
theorem pw_nonneg {x : Rat} (h : 0 ≤ x) : ∀ k, 0 ≤ pw x k
  | 0 => by unfold pw; grind
  | k + 1 => by
    unfold pw
    exact rdiv_nonneg (Rat.mul_nonneg (pw_nonneg h k) h) (nat_succ_pos k)
theorem pw_bd {x X : Rat} (h : -X ≤ x ∧ x ≤ X) : ∀ k, -pw X k ≤ pw x k ∧ pw x k ≤ pw X k
  | 0 => by unfold pw; grind
  | k + 1 => by
    have a := rmul_bd (pw_bd h k) h
    have p := nat_succ_pos k
    have b : (0 : Rat) ≤ 1 / ((k : Rat) + 1) := rdiv_nonneg (by grind) p
    unfold pw
    have e1 : pw x k * x / ((k : Rat) + 1) = (pw x k * x) * (1 / ((k : Rat) + 1)) := by grind
    have e2 : pw X k * X / ((k : Rat) + 1) = (pw X k * X) * (1 / ((k : Rat) + 1)) := by grind
    rw [e1, e2]
    have m1 := Rat.mul_le_mul_of_nonneg_right a.1 b
    have m2 := Rat.mul_le_mul_of_nonneg_right a.2 b
    constructor
    · rw [← Rat.neg_mul]; exact m1
    · exact m2
/-- The signs of the cosine's and of the sine's terms. -/
def cc (k : Nat) : Rat := match k % 4 with | 0 => 1 | 2 => -1 | _ => 0
def sc (k : Nat) : Rat := match k % 4 with | 1 => 1 | 3 => -1 | _ => 0
theorem cc_bd (k : Nat) : -1 ≤ cc k ∧ cc k ≤ 1 := by unfold cc; split <;> grind
theorem sc_bd (k : Nat) : -1 ≤ sc k ∧ sc k ≤ 1 := by unfold sc; split <;> grind
theorem cc_add (j k : Nat) : cc (j + k) = cc j * cc k - sc j * sc k := by
  unfold cc sc
  rw [Nat.add_mod]
  have hj := Nat.mod_lt j (show 4 > 0 by decide)
  have hk := Nat.mod_lt k (show 4 > 0 by decide)
  generalize j % 4 = a at *
  generalize k % 4 = b at *
  rcases (by omega : a = 0 ∨ a = 1 ∨ a = 2 ∨ a = 3) with rfl | rfl | rfl | rfl <;> rcases (by omega : b = 0 ∨ b = 1 ∨ b = 2 ∨ b = 3) with rfl | rfl | rfl | rfl <;> decide +kernel
theorem sc_add (j k : Nat) : sc (j + k) = sc j * cc k + cc j * sc k := by
  unfold cc sc
  rw [Nat.add_mod]
  have hj := Nat.mod_lt j (show 4 > 0 by decide)
  have hk := Nat.mod_lt k (show 4 > 0 by decide)
  generalize j % 4 = a at *
  generalize k % 4 = b at *
  rcases (by omega : a = 0 ∨ a = 1 ∨ a = 2 ∨ a = 3) with rfl | rfl | rfl | rfl <;> rcases (by omega : b = 0 ∨ b = 1 ∨ b = 2 ∨ b = 3) with rfl | rfl | rfl | rfl <;> decide +kernel
/-- How many terms. -/
def NN : Nat := 90
def cf (x : Rat) (k : Nat) : Rat := cc k * pw x k
def sf (x : Rat) (k : Nat) : Rat := sc k * pw x k
def cs (x : Rat) : Rat := ss (cf x) NN
def sn (x : Rat) : Rat := ss (sf x) NN
theorem one_bd {c p P : Rat} (h : -1 ≤ c ∧ c ≤ 1) (hp : -P ≤ p ∧ p ≤ P) : -P ≤ c * p ∧ c * p ≤ P := by
  have := rmul_bd h hp
  grind
theorem cf_bd {x X : Rat} (h : -X ≤ x ∧ x ≤ X) (k : Nat) : -pw X k ≤ cf x k ∧ cf x k ≤ pw X k := one_bd (cc_bd k) (pw_bd h k)
theorem sf_bd {x X : Rat} (h : -X ≤ x ∧ x ≤ X) (k : Nat) : -pw X k ≤ sf x k ∧ sf x k ≤ pw X k := one_bd (sc_bd k) (pw_bd h k)
theorem cf_add (x y : Rat) (m : Nat) : cf (x + y) m = cv (cf x) (cf y) m - cv (sf x) (sf y) m := by
  unfold cf
  rw [pw_add]
  unfold cv
  rw [← ss_mul, ← ss_sub]
  apply ss_congr
  intro j hj
  have e : cc m = cc j * cc (m - j) - sc j * sc (m - j) := by rw [← cc_add, show j + (m - j) = m by omega]
  rw [e]
  unfold sf
  grind
theorem sf_add (x y : Rat) (m : Nat) : sf (x + y) m = cv (sf x) (cf y) m + cv (cf x) (sf y) m := by
  unfold sf
  rw [pw_add]
  unfold cv
  rw [← ss_mul, ← ss_add]
  apply ss_congr
  intro j hj
  have e : sc m = sc j * cc (m - j) + cc j * sc (m - j) := by rw [← sc_add, show j + (m - j) = m by omega]
  rw [e]
  unfold cf
  grind
/-- The error's bound. -/
def eb (X Y : Rat) : Rat := ss (pw X) NN * ss (pw Y) NN - ss (pw (X + Y)) NN
theorem eb_eq (X Y : Rat) : ss (pw X) NN * ss (pw Y) NN - tr (pw X) (pw Y) NN = eb X Y := by
  unfold eb
  rw [tr_cv, ss_congr NN (fun i _ => (pw_add X Y i))]
theorem cs_add' {x y X Y : Rat} (hx : -X ≤ x ∧ x ≤ X) (hy : -Y ≤ y ∧ y ≤ Y) : Near (cs (x + y)) (cs x * cs y - sn x * sn y) (2 * eb X Y) := by
  have a := tr_bd (cf_bd hx) (cf_bd hy) NN
  have b := tr_bd (sf_bd hx) (sf_bd hy) NN
  rw [eb_eq] at a b
  have e : cs (x + y) = tr (cf x) (cf y) NN - tr (sf x) (sf y) NN := by
    unfold cs
    rw [tr_cv, tr_cv, ← ss_sub]
    exact ss_congr NN (fun i _ => cf_add x y i)
  unfold Near cs sn at *
  grind
theorem sn_add' {x y X Y : Rat} (hx : -X ≤ x ∧ x ≤ X) (hy : -Y ≤ y ∧ y ≤ Y) : Near (sn (x + y)) (sn x * cs y + cs x * sn y) (2 * eb X Y) := by
  have a := tr_bd (sf_bd hx) (cf_bd hy) NN
  have b := tr_bd (cf_bd hx) (sf_bd hy) NN
  rw [eb_eq] at a b
  have e : sn (x + y) = tr (sf x) (cf y) NN + tr (cf x) (sf y) NN := by
    unfold sn
    rw [tr_cv, tr_cv, ← ss_add]
    exact ss_congr NN (fun i _ => sf_add x y i)
  unfold Near cs sn at *
  grind
/-- The numbers of a row, one after another, reckoned once. -/
def er (x : Rat) : Nat → Rat × Rat
  | 0 => (0, 1)
  | k + 1 => let p := er x k; (p.1 + p.2, p.2 * x / ((k : Rat) + 1))
theorem er_eq (x : Rat) : ∀ n, er x n = (ss (pw x) n, pw x n)
  | 0 => rfl
  | n + 1 => by rw [er, er_eq x n]; rfl
theorem eb_num : eb 8 8 ≤ 1 / 10000000000000000000000000000 := by
  unfold eb
  have e1 : ss (pw 8) NN = (er 8 NN).1 := by rw [er_eq]
  have e2 : ss (pw (8 + 8)) NN = (er (8 + 8) NN).1 := by rw [er_eq]
  rw [e1, e2]
  decide +kernel
def ep : Rat := 1 / 1000000000000000000000000000
theorem cs_add {x y : Rat} (hx : -8 ≤ x ∧ x ≤ 8) (hy : -8 ≤ y ∧ y ≤ 8) : Near (cs (x + y)) (cs x * cs y - sn x * sn y) ep := near_weak (cs_add' hx hy) (by have := eb_num; unfold ep; grind)
theorem sn_add {x y : Rat} (hx : -8 ≤ x ∧ x ≤ 8) (hy : -8 ≤ y ∧ y ≤ 8) : Near (sn (x + y)) (sn x * cs y + cs x * sn y) ep := near_weak (sn_add' hx hy) (by have := eb_num; unfold ep; grind)
end Go.Proofs.YtdifeoahaegjbaaGreatDoor
/- How near Go's polynomials of the sine and the cosine are to those of a high degree. Printed by wip/tools/gen-vsp.py. -/
namespace Go.Proofs.YtdifeoahaegjbaaGreatDoor
set_option linter.unusedSimpArgs false
set_option linter.unusedVariables false
theorem hor {u d r U c b : Rat} (hu : -U ≤ u ∧ u ≤ U) (hd : -c ≤ d ∧ d ≤ c) (hr : -b ≤ r ∧ r ≤ b) : -(c + U * b) ≤ d + u * r ∧ d + u * r ≤ c + U * b := by
  have := rmul_bd hu hr
  grind
theorem hor' {u d r U c b e : Rat} (hu : -U ≤ u ∧ u ≤ U) (hd : -c ≤ d ∧ d ≤ c) (hr : -b ≤ r ∧ r ≤ b) (he : c + U * b ≤ e) : -e ≤ d + u * r ∧ d + u * r ≤ e := by
  have := hor hu hd hr
  grind
theorem sq_bd {Z : Rat} (h : -(393 / 500) ≤ Z ∧ Z ≤ 393 / 500) : 0 ≤ Z * Z ∧ Z * Z ≤ 619 / 1000 := by
  have := rmul_bd h h
  refine ⟨?_, by grind⟩
  rcases (Rat.le_total : (0 : Rat) ≤ Z ∨ Z ≤ 0) with p | p
  · exact Rat.mul_nonneg p p
  · have := Rat.mul_nonneg (show 0 ≤ -Z by grind) (show 0 ≤ -Z by grind)
    grind

theorem tayS (Z : Rat) : ss (sf Z) 19 = Z * (1 + (-1 / 6) * (Z * Z) + (1 / 120) * (Z * Z) * (Z * Z) + (-1 / 5040) * (Z * Z) * (Z * Z) * (Z * Z) + (1 / 362880) * (Z * Z) * (Z * Z) * (Z * Z) * (Z * Z) + (-1 / 39916800) * (Z * Z) * (Z * Z) * (Z * Z) * (Z * Z) * (Z * Z) + (1 / 6227020800) * (Z * Z) * (Z * Z) * (Z * Z) * (Z * Z) * (Z * Z) * (Z * Z) + (-1 / 1307674368000) * (Z * Z) * (Z * Z) * (Z * Z) * (Z * Z) * (Z * Z) * (Z * Z) * (Z * Z) + (1 / 355687428096000) * (Z * Z) * (Z * Z) * (Z * Z) * (Z * Z) * (Z * Z) * (Z * Z) * (Z * Z) * (Z * Z)) := by
  simp [ss, sf, sc, pw]
  grind
theorem difS (Z v : Rat) (hv : Z * Z = v + 309 / 1000) : PS Z - ss (sf Z) 19 = Z * (Z * Z) * (3519396102882190458864116047777061 / 350664045551968374988210176000000000000000000000000 + v * (-2227060772622619235608921247167173 / 9000377169167188291364061184000000000000000000000 + v * (39379998776275146941889704817703 / 40501697261252347311138275328000000000000000000 + v * (1257525606292815058159635686951 / 72903055070254225160048895590400000000000000 + v * (-9114877315171781241201832597 / 145806110140508450320097791180800000000000 + v * (-42944517157443982934815177 / 198826513827966068618315169792000000000 + v * (269837 / 355687428096000000 + v * (-1 / 355687428096000)))))))) := by
  rw [tayS]
  unfold PS kS0 kS1 kS2 kS3 kS4 kS5
  generalize hu : Z * Z = u at *
  subst hv
  grind
theorem bndS (v : Rat) (h : -(31 / 100) ≤ v ∧ v ≤ 31 / 100) : -(129 / 50000000000000000) ≤ (3519396102882190458864116047777061 / 350664045551968374988210176000000000000000000000000 + v * (-2227060772622619235608921247167173 / 9000377169167188291364061184000000000000000000000 + v * (39379998776275146941889704817703 / 40501697261252347311138275328000000000000000000 + v * (1257525606292815058159635686951 / 72903055070254225160048895590400000000000000 + v * (-9114877315171781241201832597 / 145806110140508450320097791180800000000000 + v * (-42944517157443982934815177 / 198826513827966068618315169792000000000 + v * (269837 / 355687428096000000 + v * (-1 / 355687428096000)))))))) ∧ (3519396102882190458864116047777061 / 350664045551968374988210176000000000000000000000000 + v * (-2227060772622619235608921247167173 / 9000377169167188291364061184000000000000000000000 + v * (39379998776275146941889704817703 / 40501697261252347311138275328000000000000000000 + v * (1257525606292815058159635686951 / 72903055070254225160048895590400000000000000 + v * (-9114877315171781241201832597 / 145806110140508450320097791180800000000000 + v * (-42944517157443982934815177 / 198826513827966068618315169792000000000 + v * (269837 / 355687428096000000 + v * (-1 / 355687428096000)))))))) ≤ 129 / 50000000000000000 := by
  have h7 : -(141 / 50000000000000000 : Rat) ≤ -1 / 355687428096000 ∧ (-1 / 355687428096000 : Rat) ≤ 141 / 50000000000000000 := by grind
  have h6 := hor' (d := 269837 / 355687428096000000) (c := 759 / 1000000000000000) (e := 19 / 25000000000000) h (by grind) h7 (by grind)
  have h5 := hor' (d := -42944517157443982934815177 / 198826513827966068618315169792000000000) (c := 27 / 125000000000000) (e := 113 / 250000000000000) h (by grind) h6 (by grind)
  have h4 := hor' (d := -9114877315171781241201832597 / 145806110140508450320097791180800000000000) (c := 313 / 5000000000000000) (e := 203 / 1000000000000000) h (by grind) h5 (by grind)
  have h3 := hor' (d := 1257525606292815058159635686951 / 72903055070254225160048895590400000000000000) (c := 173 / 10000000000000000) (e := 803 / 10000000000000000) h (by grind) h4 (by grind)
  have h2 := hor' (d := 39379998776275146941889704817703 / 40501697261252347311138275328000000000000000000) (c := 973 / 1000000000000000000) (e := 259 / 10000000000000000) h (by grind) h3 (by grind)
  have h1 := hor' (d := -2227060772622619235608921247167173 / 9000377169167188291364061184000000000000000000000) (c := 31 / 125000000000000000) (e := 207 / 25000000000000000) h (by grind) h2 (by grind)
  have h0 := hor' (d := 3519396102882190458864116047777061 / 350664045551968374988210176000000000000000000000000) (c := 101 / 10000000000000000000) (e := 129 / 50000000000000000) h (by grind) h1 (by grind)
  exact h0
theorem gapS : ss (pw (393 / 500)) NN - ss (pw (393 / 500)) 19 ≤ 1 / 100000000000000000 := by
  have e1 : ss (pw (393 / 500)) NN = (er (393 / 500) NN).1 := by rw [er_eq]
  have e2 : ss (pw (393 / 500)) 19 = (er (393 / 500) 19).1 := by rw [er_eq]
  rw [e1, e2]
  decide +kernel
theorem nearS {Z : Rat} (h : -(393 / 500) ≤ Z ∧ Z ≤ 393 / 500) : Near (PS Z) (sn Z) (127 / 100000000000000000) := by
  have hq := sq_bd h
  obtain ⟨v, hv⟩ : ∃ v, v = Z * Z - 309 / 1000 := ⟨_, rfl⟩
  have e := difS Z v (by grind)
  have b := bndS v (by grind)
  have g := ss_gap' (sf_bd h) (show 19 ≤ NN by decide)
  have gn := gapS
  have m1 := rmul_bd h (show -(619 / 1000) ≤ Z * Z ∧ Z * Z ≤ 619 / 1000 by grind)
  have m2 := rmul_bd m1 b
  rw [← e] at m2
  unfold Near sn
  clear e b m1 hv hq h
  grind
theorem tayC (Z : Rat) : ss (cf Z) 20 = (1 + (-1 / 2) * (Z * Z) + (1 / 24) * (Z * Z) * (Z * Z) + (-1 / 720) * (Z * Z) * (Z * Z) * (Z * Z) + (1 / 40320) * (Z * Z) * (Z * Z) * (Z * Z) * (Z * Z) + (-1 / 3628800) * (Z * Z) * (Z * Z) * (Z * Z) * (Z * Z) * (Z * Z) + (1 / 479001600) * (Z * Z) * (Z * Z) * (Z * Z) * (Z * Z) * (Z * Z) * (Z * Z) + (-1 / 87178291200) * (Z * Z) * (Z * Z) * (Z * Z) * (Z * Z) * (Z * Z) * (Z * Z) * (Z * Z) + (1 / 20922789888000) * (Z * Z) * (Z * Z) * (Z * Z) * (Z * Z) * (Z * Z) * (Z * Z) * (Z * Z) * (Z * Z) + (-1 / 6402373705728000) * (Z * Z) * (Z * Z) * (Z * Z) * (Z * Z) * (Z * Z) * (Z * Z) * (Z * Z) * (Z * Z) * (Z * Z)) := by
  simp [ss, cf, cc, pw]
  grind
theorem difC (Z v : Rat) (hv : Z * Z = v + 309 / 1000) : PC Z - ss (cf Z) 20 = (Z * Z) * (Z * Z) * (686310458924135641721865356445313561 / 432018104120025037985474936832000000000000000000000000 + v * (8778389586982352696303515612987259 / 1296054312360075113956424810496000000000000000000000 + v * (1357389514218544678758396986911 / 13225044003674235856698212352000000000000000000 + v * (-143465423033826902319516366793 / 129605431236007511395642481049600000000000000 + v * (-3797977483105800566702723783 / 6998693286744405615364693976678400000000000 + v * (30989627376337077558457007 / 1296054312360075113956424810496000000000 + v * (-101279 / 2134124568576000000 + v * (1 / 6402373705728000)))))))) := by
  rw [tayC]
  unfold PC kO kH kC0 kC1 kC2 kC3 kC4 kC5
  generalize hu : Z * Z = u at *
  subst hv
  grind
theorem bndC (v : Rat) (h : -(31 / 100) ≤ v ∧ v ≤ 31 / 100) : -(41 / 250000000000000000) ≤ (686310458924135641721865356445313561 / 432018104120025037985474936832000000000000000000000000 + v * (8778389586982352696303515612987259 / 1296054312360075113956424810496000000000000000000000 + v * (1357389514218544678758396986911 / 13225044003674235856698212352000000000000000000 + v * (-143465423033826902319516366793 / 129605431236007511395642481049600000000000000 + v * (-3797977483105800566702723783 / 6998693286744405615364693976678400000000000 + v * (30989627376337077558457007 / 1296054312360075113956424810496000000000 + v * (-101279 / 2134124568576000000 + v * (1 / 6402373705728000)))))))) ∧ (686310458924135641721865356445313561 / 432018104120025037985474936832000000000000000000000000 + v * (8778389586982352696303515612987259 / 1296054312360075113956424810496000000000000000000000 + v * (1357389514218544678758396986911 / 13225044003674235856698212352000000000000000000 + v * (-143465423033826902319516366793 / 129605431236007511395642481049600000000000000 + v * (-3797977483105800566702723783 / 6998693286744405615364693976678400000000000 + v * (30989627376337077558457007 / 1296054312360075113956424810496000000000 + v * (-101279 / 2134124568576000000 + v * (1 / 6402373705728000)))))))) ≤ 41 / 250000000000000000 := by
  have h7 : -(157 / 1000000000000000000 : Rat) ≤ 1 / 6402373705728000 ∧ (1 / 6402373705728000 : Rat) ≤ 157 / 1000000000000000000 := by grind
  have h6 := hor' (d := -101279 / 2134124568576000000) (c := 19 / 400000000000000) (e := 119 / 2500000000000000) h (by grind) h7 (by grind)
  have h5 := hor' (d := 30989627376337077558457007 / 1296054312360075113956424810496000000000) (c := 3 / 125000000000000) (e := 97 / 2500000000000000) h (by grind) h6 (by grind)
  have h4 := hor' (d := -3797977483105800566702723783 / 6998693286744405615364693976678400000000000) (c := 543 / 1000000000000000000) (e := 63 / 5000000000000000) h (by grind) h5 (by grind)
  have h3 := hor' (d := -143465423033826902319516366793 / 129605431236007511395642481049600000000000000) (c := 111 / 100000000000000000) (e := 251 / 50000000000000000) h (by grind) h4 (by grind)
  have h2 := hor' (d := 1357389514218544678758396986911 / 13225044003674235856698212352000000000000000000) (c := 103 / 1000000000000000000) (e := 83 / 50000000000000000) h (by grind) h3 (by grind)
  have h1 := hor' (d := 8778389586982352696303515612987259 / 1296054312360075113956424810496000000000000000000000) (c := 339 / 50000000000000000000) (e := 261 / 500000000000000000) h (by grind) h2 (by grind)
  have h0 := hor' (d := 686310458924135641721865356445313561 / 432018104120025037985474936832000000000000000000000000) (c := 159 / 100000000000000000000) (e := 41 / 250000000000000000) h (by grind) h1 (by grind)
  exact h0
theorem gapC : ss (pw (393 / 500)) NN - ss (pw (393 / 500)) 20 ≤ 1 / 100000000000000000 := by
  have e1 : ss (pw (393 / 500)) NN = (er (393 / 500) NN).1 := by rw [er_eq]
  have e2 : ss (pw (393 / 500)) 20 = (er (393 / 500) 20).1 := by rw [er_eq]
  rw [e1, e2]
  decide +kernel
theorem nearC {Z : Rat} (h : -(393 / 500) ≤ Z ∧ Z ≤ 393 / 500) : Near (PC Z) (cs Z) (729 / 10000000000000000000) := by
  have hq := sq_bd h
  obtain ⟨v, hv⟩ : ∃ v, v = Z * Z - 309 / 1000 := ⟨_, rfl⟩
  have e := difC Z v (by grind)
  have b := bndC v (by grind)
  have g := ss_gap' (cf_bd h) (show 20 ≤ NN by decide)
  have gn := gapC
  have m1 := rmul_bd (show -(619 / 1000) ≤ Z * Z ∧ Z * Z ≤ 619 / 1000 by grind) (show -(619 / 1000) ≤ Z * Z ∧ Z * Z ≤ 619 / 1000 by grind)
  have m2 := rmul_bd m1 b
  rw [← e] at m2
  unfold Near cs
  clear e b m1 hv hq h
  grind
end Go.Proofs.YtdifeoahaegjbaaGreatDoor
/- Parity, squares, quarters of a turn: the polynomials of XVS. -/
namespace Go.Proofs.YtdifeoahaegjbaaGreatDoor
set_option linter.unusedSimpArgs false
set_option linter.unusedVariables false

theorem pw_neg (x : Rat) : ∀ k, pw (-x) k = if k % 2 = 0 then pw x k else -pw x k
  | 0 => rfl
  | k + 1 => by
    rw [pw, pw, pw_neg x k]
    rcases (by omega : k % 2 = 0 ∨ k % 2 = 1) with h | h
    · rw [if_pos h, if_neg (by omega)]; grind
    · rw [if_neg (by omega), if_pos (by omega)]; grind
theorem cc_odd {k : Nat} (h : ¬ k % 2 = 0) : cc k = 0 := by
  unfold cc
  rcases (by omega : k % 4 = 1 ∨ k % 4 = 3) with e | e <;> (rw [e]; rfl)
theorem sc_even {k : Nat} (h : k % 2 = 0) : sc k = 0 := by
  unfold sc
  rcases (by omega : k % 4 = 0 ∨ k % 4 = 2) with e | e <;> (rw [e]; rfl)
theorem cf_neg (x : Rat) (k : Nat) : cf (-x) k = cf x k := by
  unfold cf
  rw [pw_neg]
  split
  · rfl
  · rename_i h; rw [cc_odd h]; grind
theorem sf_neg (x : Rat) (k : Nat) : sf (-x) k = -1 * sf x k := by
  unfold sf
  rw [pw_neg]
  split
  · rename_i h; rw [sc_even h]; grind
  · grind
theorem cs_neg (x : Rat) : cs (-x) = cs x := ss_congr NN (fun i _ => cf_neg x i)
theorem sn_neg (x : Rat) : sn (-x) = -sn x := by
  unfold sn
  rw [ss_congr NN (fun i _ => sf_neg x i), ss_mul]
  grind
/-- Cosine, sine and power, reckoned once. -/
def ev (x : Rat) : Nat → Rat × Rat × Rat
  | 0 => (0, 0, 1)
  | k + 1 => let p := ev x k; (p.1 + cc k * p.2.2, p.2.1 + sc k * p.2.2, p.2.2 * x / ((k : Rat) + 1))
theorem ev_eq (x : Rat) : ∀ n, ev x n = (ss (cf x) n, ss (sf x) n, pw x n)
  | 0 => rfl
  | n + 1 => by rw [ev, ev_eq x n]; rfl
theorem cs_ev (x : Rat) : cs x = (ev x NN).1 := by rw [ev_eq]; rfl
theorem sn_ev (x : Rat) : sn x = (ev x NN).2.1 := by rw [ev_eq]; rfl
theorem cs_zero : cs 0 = 1 := by rw [cs_ev]; decide +kernel
theorem sn_zero : sn 0 = 0 := by rw [sn_ev]; decide +kernel
theorem cs_q : Near (cs (2 * qq)) 0 (1 / 1000000000000000000000000000000) := by rw [cs_ev]; unfold Near qq kA kB kC; decide +kernel
theorem sn_q : Near (sn (2 * qq)) 1 (1 / 1000000000000000000000000000000) := by rw [sn_ev]; unfold Near qq kA kB kC; decide +kernel
theorem pyth {x : Rat} (h : -8 ≤ x ∧ x ≤ 8) : Near (cs x * cs x + sn x * sn x) 1 ep := by
  have a := cs_add h (show -8 ≤ -x ∧ -x ≤ 8 by grind)
  rw [show x + -x = 0 by grind, cs_zero, cs_neg, sn_neg] at a
  unfold Near at *
  grind
theorem one_of_sq {c : Rat} {e : Rat} (he : 0 ≤ e) (h : c * c ≤ 1 + e) : -(1 + e) ≤ c ∧ c ≤ 1 + e := by
  have key : ∀ d : Rat, d * d ≤ 1 + e → d ≤ 1 + e := by
    intro d hd
    apply Rat.not_lt.1
    intro hl
    have := Rat.mul_lt_mul_of_pos_right hl (show 0 < d by grind)
    have := Rat.mul_lt_mul_of_pos_left hl (show 0 < 1 + e by grind)
    have := Rat.mul_nonneg he he
    grind
  have a := key c h
  have b := key (-c) (by grind)
  grind
theorem sq_nonneg (c : Rat) : 0 ≤ c * c := by
  rcases (Rat.le_total : (0 : Rat) ≤ c ∨ c ≤ 0) with p | p
  · exact Rat.mul_nonneg p p
  · have := Rat.mul_nonneg (show 0 ≤ -c by grind) (show 0 ≤ -c by grind)
    grind
theorem ep_pos : (0 : Rat) ≤ ep := by unfold ep; grind
theorem cs_le {x : Rat} (h : -8 ≤ x ∧ x ≤ 8) : -(1 + ep) ≤ cs x ∧ cs x ≤ 1 + ep := by
  have a := (pyth h).2
  have b := sq_nonneg (sn x)
  exact one_of_sq ep_pos (by grind)
theorem sn_le {x : Rat} (h : -8 ≤ x ∧ x ≤ 8) : -(1 + ep) ≤ sn x ∧ sn x ≤ 1 + ep := by
  have a := (pyth h).2
  have b := sq_nonneg (cs x)
  exact one_of_sq ep_pos (by grind)
/-- The error of a quarter. -/
def eq1 : Rat := 2 / 1000000000000000000000000000
theorem qq_8 : -8 ≤ 2 * qq ∧ 2 * qq ≤ 8 := by unfold qq kA kB kC; constructor <;> grind
theorem sn_quarter {x : Rat} (h : -8 ≤ x ∧ x ≤ 8) : Near (sn (x + 2 * qq)) (cs x) eq1 := by
  have a := sn_add h qq_8
  have b := sn_q; have c := cs_q
  have s := sn_le h; have t := cs_le h
  have m1 := rmul_bd s (show -(1 / 1000000000000000000000000000000) ≤ cs (2 * qq) ∧ cs (2 * qq) ≤ 1 / 1000000000000000000000000000000 by unfold Near at c; grind)
  have m2 := rmul_bd t (show -(1 / 1000000000000000000000000000000) ≤ sn (2 * qq) - 1 ∧ sn (2 * qq) - 1 ≤ 1 / 1000000000000000000000000000000 by unfold Near at b; grind)
  unfold Near at *
  generalize cs (2 * qq) = p at *
  generalize sn (2 * qq) = q at *
  generalize sn (x + 2 * qq) = r at *
  unfold eq1 ep at *
  grind
theorem cs_quarter {x : Rat} (h : -8 ≤ x ∧ x ≤ 8) : Near (cs (x + 2 * qq)) (-sn x) eq1 := by
  have a := cs_add h qq_8
  have b := sn_q; have c := cs_q
  have s := sn_le h; have t := cs_le h
  have m1 := rmul_bd t (show -(1 / 1000000000000000000000000000000) ≤ cs (2 * qq) ∧ cs (2 * qq) ≤ 1 / 1000000000000000000000000000000 by unfold Near at c; grind)
  have m2 := rmul_bd s (show -(1 / 1000000000000000000000000000000) ≤ sn (2 * qq) - 1 ∧ sn (2 * qq) - 1 ≤ 1 / 1000000000000000000000000000000 by unfold Near at b; grind)
  unfold Near at *
  generalize cs (2 * qq) = p at *
  generalize sn (2 * qq) = q at *
  generalize cs (x + 2 * qq) = r at *
  unfold eq1 ep at *
  grind
/-- The sine by quarters. -/
def sgnV (e : Nat) (t : Rat) : Rat := match e with | 0 => sn t | 2 => cs t | 4 => -sn t | 6 => -cs t | 8 => sn t | _ => 0
def sgnW (e : Nat) (t : Rat) : Rat := match e with | 0 => cs t | 2 => -sn t | 4 => -cs t | 6 => sn t | 8 => cs t | _ => 0
theorem qq_lo : 785 / 1000 ≤ qq ∧ qq ≤ 786 / 1000 := by unfold qq kA kB kC; constructor <;> grind
theorem near_trans {a b c d e : Rat} (h1 : Near a b d) (h2 : Near b c e) : Near a c (d + e) := by unfold Near at *; grind
theorem near_neg {a b d : Rat} (h : Near a b d) : Near (-a) (-b) d := by unfold Near at *; grind
theorem near_refl (a : Rat) {d : Rat} (h : 0 ≤ d) : Near a a d := by unfold Near; grind
theorem eq1_pos : (0 : Rat) ≤ eq1 := by unfold eq1; grind
theorem oct_sn {Z : Rat} {e : Nat} (h : -(393 / 500) ≤ Z ∧ Z ≤ 393 / 500) (he : e % 2 = 0) (h8 : e ≤ 8) : Near (sn (Z + (e : Rat) * qq)) (sgnV e Z) (4 * eq1) ∧ Near (cs (Z + (e : Rat) * qq)) (sgnW e Z) (4 * eq1) := by
  have q := qq_lo
  have z0 : -8 ≤ Z ∧ Z ≤ 8 := by grind
  have z1 : -8 ≤ Z + 2 * qq ∧ Z + 2 * qq ≤ 8 := by grind
  have z2 : -8 ≤ Z + 2 * qq + 2 * qq ∧ Z + 2 * qq + 2 * qq ≤ 8 := by grind
  have z3 : -8 ≤ Z + 2 * qq + 2 * qq + 2 * qq ∧ Z + 2 * qq + 2 * qq + 2 * qq ≤ 8 := by grind
  have p := eq1_pos
  have s1 := sn_quarter z0; have c1 := cs_quarter z0
  have s2 := near_trans (sn_quarter z1) c1; have c2 := near_trans (cs_quarter z1) (near_neg s1)
  have s3 := near_trans (sn_quarter z2) c2; have c3 := near_trans (cs_quarter z2) (near_neg s2)
  have s4 := near_trans (sn_quarter z3) c3; have c4 := near_trans (cs_quarter z3) (near_neg s3)
  clear z0 z1 z2 z3 q
  rcases (by omega : e = 0 ∨ e = 2 ∨ e = 4 ∨ e = 6 ∨ e = 8) with rfl | rfl | rfl | rfl | rfl
  · rw [show Z + ((0 : Nat) : Rat) * qq = Z by rw [show ((0 : Nat) : Rat) = 0 from rfl]; grind]
    exact ⟨near_refl _ (by grind), near_refl _ (by grind)⟩
  · rw [show Z + ((2 : Nat) : Rat) * qq = Z + 2 * qq by rw [show ((2 : Nat) : Rat) = 2 from rfl]]
    exact ⟨near_weak s1 (by grind), near_weak c1 (by grind)⟩
  · rw [show Z + ((4 : Nat) : Rat) * qq = Z + 2 * qq + 2 * qq by rw [show ((4 : Nat) : Rat) = 4 from rfl]; grind]
    exact ⟨near_weak s2 (by grind), near_weak c2 (by grind)⟩
  · rw [show Z + ((6 : Nat) : Rat) * qq = Z + 2 * qq + 2 * qq + 2 * qq by rw [show ((6 : Nat) : Rat) = 6 from rfl]; grind]
    refine ⟨near_weak s3 (by grind), near_weak (b := sgnW 6 Z) ?_ (e := eq1 + (eq1 + eq1)) (by grind)⟩
    unfold sgnW Near at *
    grind
  · rw [show Z + ((8 : Nat) : Rat) * qq = Z + 2 * qq + 2 * qq + 2 * qq + 2 * qq by rw [show ((8 : Nat) : Rat) = 8 from rfl]; grind]
    refine ⟨near_weak (b := sgnV 8 Z) ?_ (e := eq1 + (eq1 + (eq1 + eq1))) (by grind), near_weak (b := sgnW 8 Z) ?_ (e := eq1 + (eq1 + (eq1 + eq1))) (by grind)⟩
    · unfold sgnV Near at *
      grind
    · unfold sgnW Near at *
      grind
/-- Go's polynomials by octants are near. -/
theorem sgnP_near {Z : Rat} {e : Nat} (h : -(393 / 500) ≤ Z ∧ Z ≤ 393 / 500) (he : e % 2 = 0) (h8 : e ≤ 8) : Near (sgnP e Z) (sn (Z + (e : Rat) * qq)) (13 / 10000000000000000) := by
  have o := (oct_sn h he h8).1
  have s := nearS h; have c := nearC h
  unfold Near sgnV at *
  unfold sgnP eq1 at *
  rcases (by omega : e = 0 ∨ e = 2 ∨ e = 4 ∨ e = 6 ∨ e = 8) with rfl | rfl | rfl | rfl | rfl <;> ((try dsimp only at *); grind)
theorem sgnC_near {Z : Rat} {e : Nat} (h : -(393 / 500) ≤ Z ∧ Z ≤ 393 / 500) (he : e % 2 = 0) (h8 : e ≤ 8) : Near (sgnC e Z) (cs (Z + (e : Rat) * qq)) (13 / 10000000000000000) := by
  have o := (oct_sn h he h8).2
  have s := nearS h; have c := nearC h
  unfold Near sgnW at *
  unfold sgnC eq1 at *
  rcases (by omega : e = 0 ∨ e = 2 ∨ e = 4 ∨ e = 6 ∨ e = 8) with rfl | rfl | rfl | rfl | rfl <;> ((try dsimp only at *); grind)
/-- A whole turn. -/
theorem turn_sn {x : Rat} (h : -(15 / 10) ≤ x ∧ x ≤ 15 / 10) : Near (sn (x + 8 * qq)) (sn x) (4 * eq1) ∧ Near (cs (x + 8 * qq)) (cs x) (4 * eq1) := by
  have q := qq_lo
  have z0 : -8 ≤ x ∧ x ≤ 8 := by grind
  have z1 : -8 ≤ x + 2 * qq ∧ x + 2 * qq ≤ 8 := by grind
  have z2 : -8 ≤ x + 2 * qq + 2 * qq ∧ x + 2 * qq + 2 * qq ≤ 8 := by grind
  have z3 : -8 ≤ x + 2 * qq + 2 * qq + 2 * qq ∧ x + 2 * qq + 2 * qq + 2 * qq ≤ 8 := by grind
  have s1 := sn_quarter z0; have c1 := cs_quarter z0
  have s2 := near_trans (sn_quarter z1) c1; have c2 := near_trans (cs_quarter z1) (near_neg s1)
  have s3 := near_trans (sn_quarter z2) c2; have c3 := near_trans (cs_quarter z2) (near_neg s2)
  have s4 := near_trans (sn_quarter z3) c3; have c4 := near_trans (cs_quarter z3) (near_neg s3)
  rw [show x + 8 * qq = x + 2 * qq + 2 * qq + 2 * qq + 2 * qq by grind]
  clear z0 z1 z2 z3 q s1 c1 s2 c2 s3 c3
  unfold Near at *
  grind
theorem full_turn : Near (sn (8 * qq)) 0 (4 * eq1) ∧ Near (cs (8 * qq)) 1 (4 * eq1) := by
  have := turn_sn (x := 0) (by grind)
  rw [cs_zero, sn_zero, show (0 : Rat) + 8 * qq = 8 * qq by grind] at this
  exact this
theorem qq_88 : -8 ≤ 8 * qq ∧ 8 * qq ≤ 8 := by have := qq_lo; grind
/-- A turn more makes no difference. -/
theorem turn_any {x : Rat} (h : -8 ≤ x ∧ x ≤ 8) : Near (sn (x + 8 * qq)) (sn x) (20 * eq1) ∧ Near (cs (x + 8 * qq)) (cs x) (20 * eq1) := by
  have a := sn_add h qq_88
  have b := cs_add h qq_88
  have f := full_turn
  have s := sn_le h; have t := cs_le h
  obtain ⟨f1, f2⟩ := f
  have m1 := rmul_bd s (show -(4 * eq1) ≤ sn (8 * qq) ∧ sn (8 * qq) ≤ 4 * eq1 by unfold Near at f1; grind)
  have m2 := rmul_bd t (show -(4 * eq1) ≤ sn (8 * qq) ∧ sn (8 * qq) ≤ 4 * eq1 by unfold Near at f1; grind)
  have m3 := rmul_bd s (show -(4 * eq1) ≤ cs (8 * qq) - 1 ∧ cs (8 * qq) - 1 ≤ 4 * eq1 by unfold Near at f2; grind)
  have m4 := rmul_bd t (show -(4 * eq1) ≤ cs (8 * qq) - 1 ∧ cs (8 * qq) - 1 ≤ 4 * eq1 by unfold Near at f2; grind)
  unfold Near at *
  generalize cs (8 * qq) = p at *
  generalize sn (8 * qq) = q at *
  generalize sn (x + 8 * qq) = r1 at *
  generalize cs (x + 8 * qq) = r2 at *
  clear f1 f2
  unfold eq1 ep at *
  constructor <;> grind
end Go.Proofs.YtdifeoahaegjbaaGreatDoor
/- How the sine and the cosine grow: plain bounds. -/
namespace Go.Proofs.YtdifeoahaegjbaaGreatDoor
set_option linter.unusedSimpArgs false
set_option linter.unusedVariables false
theorem pw_scale {x X : Rat} (h0 : 0 ≤ x) (h : x ≤ X) (hX : 0 < X) : ∀ k, pw x (k + 1) ≤ x / X * pw X (k + 1)
  | 0 => by
    have e : pw x (0 + 1) = x := by simp [pw]; grind
    have e2 : pw X (0 + 1) = X := by simp [pw]; grind
    rw [e, e2]
    have : x / X * X = x := by grind
    grind
  | k + 1 => by
    have i := pw_scale h0 h hX k
    have p := nat_succ_pos (k + 1)
    have n1 := pw_nonneg h0 (k + 1)
    have q : (0 : Rat) ≤ x / X := rdiv_nonneg h0 hX
    have n2 := pw_nonneg (show 0 ≤ X by grind) (k + 1)
    have n3 := Rat.mul_nonneg q n2
    -- pw x (k + 2) = pw x (k + 1) * x / (k + 2)
    have m1 : pw x (k + 1) * x ≤ x / X * pw X (k + 1) * X := by
      have a := Rat.mul_le_mul_of_nonneg_left h n1
      have b := Rat.mul_le_mul_of_nonneg_right i (show 0 ≤ X by grind)
      grind
    have r : (0 : Rat) ≤ 1 / (((k + 1 : Nat) : Rat) + 1) := rdiv_nonneg (by grind) p
    have m2 := Rat.mul_le_mul_of_nonneg_right m1 r
    have e1 : pw x (k + 1 + 1) = pw x (k + 1) * x * (1 / (((k + 1 : Nat) : Rat) + 1)) := by rw [pw]; grind
    have e2 : pw X (k + 1 + 1) = pw X (k + 1) * X * (1 / (((k + 1 : Nat) : Rat) + 1)) := by rw [pw]; grind
    rw [e1, e2]
    grind
theorem sf_scale {x X : Rat} (h0 : 0 ≤ x) (h : x ≤ X) (hX : 0 < X) : ∀ k, -(x / X * pw X k) ≤ sf x k ∧ sf x k ≤ x / X * pw X k
  | 0 => by
    have q : (0 : Rat) ≤ x / X := rdiv_nonneg h0 hX
    have e : sf x 0 = 0 := by simp [sf, sc]
    have e2 : pw X 0 = 1 := rfl
    rw [e, e2]; grind
  | k + 1 => by
    have i := pw_scale h0 h hX k
    have b := one_bd (sc_bd (k + 1)) (pw_bd (x := x) (X := x) (by grind) (k + 1))
    unfold sf
    grind
theorem gapJ : ss (pw (8 / 5)) NN - ss (pw (8 / 5)) 5 ≤ 1173 / 10000 := by
  have e1 : ss (pw (8 / 5)) NN = (er (8 / 5) NN).1 := by rw [er_eq]
  have e2 : ss (pw (8 / 5)) 5 = (er (8 / 5) 5).1 := by rw [er_eq]
  rw [e1, e2]
  decide +kernel
/-- The sine of a small angle is more than its half. -/
theorem sn_half {x : Rat} (h0 : 0 ≤ x) (h : x ≤ 8 / 5) : x / 2 ≤ sn x := by
  have g := ss_gap' (sf_scale h0 h (by grind)) (show 5 ≤ NN by decide)
  rw [ss_mul, ss_mul] at g
  have j := gapJ
  have e : ss (sf x) 5 = x - x * (x * x) / 6 := by simp [ss, sf, sc, pw]; grind
  rw [e] at g
  have m := Rat.mul_le_mul_of_nonneg_left j (show 0 ≤ x / (8 / 5) by grind)
  have u := rmul_bd (a := x) (b := x) (A := 8 / 5) (B := 8 / 5) (by grind) (by grind)
  have v := Rat.mul_le_mul_of_nonneg_left u.2 h0
  unfold sn
  generalize ss (pw (8 / 5)) NN = p at *
  generalize ss (pw (8 / 5)) 5 = q at *
  generalize ss (sf x) NN = s at *
  clear u j
  grind
theorem gapJ2 : ss (pw (126 / 100)) NN - ss (pw (126 / 100)) 5 ≤ 4 / 100 := by
  have e1 : ss (pw (126 / 100)) NN = (er (126 / 100) NN).1 := by rw [er_eq]
  have e2 : ss (pw (126 / 100)) 5 = (er (126 / 100) 5).1 := by rw [er_eq]
  rw [e1, e2]
  decide +kernel
theorem cs_low {x : Rat} (h : -(126 / 100) ≤ x ∧ x ≤ 126 / 100) : 15 / 100 ≤ cs x := by
  have g := ss_gap' (cf_bd h) (show 5 ≤ NN by decide)
  have j := gapJ2
  have e : ss (cf x) 5 = 1 - x * x / 2 + x * x * (x * x) / 24 := by simp [ss, cf, cc, pw]; grind
  rw [e] at g
  have u := rmul_bd h h
  have v := sq_nonneg (x * x)
  unfold cs
  generalize ss (pw (126 / 100)) NN = p at *
  generalize ss (pw (126 / 100)) 5 = q at *
  generalize ss (cf x) NN = s at *
  generalize x * x = w at *
  grind
theorem qq_b9 : 7853981 / 10000000 ≤ qq ∧ qq ≤ 7853982 / 10000000 := by unfold qq kA kB kC; constructor <;> grind
/-- From 0 to half a turn the sine is not negative. -/
theorem sn_upper {x : Rat} (h0 : 0 ≤ x) (h : x ≤ 4 * qq) : -(1 / 1000000000000000000000000) ≤ sn x := by
  have b := qq_b9
  by_cases c : x ≤ 8 / 5
  · have := sn_half h0 c; grind
  · -- sn x is near sn (4 q - x)
    have s1 := sn_quarter (x := x - 2 * qq) (by grind)
    rw [show x - 2 * qq + 2 * qq = x by grind] at s1
    have s2 := sn_quarter (x := -(x - 2 * qq)) (by grind)
    rw [show -(x - 2 * qq) + 2 * qq = 4 * qq - x by grind, cs_neg] at s2
    have s3 := sn_half (x := 4 * qq - x) (by grind) (by grind)
    unfold Near eq1 at *
    grind
/-- Beyond a quarter of a turn the cosine is negative. -/
theorem cs_far {t : Rat} (h0 : 2 * qq ≤ t) (h : t ≤ 4 * qq) : cs t ≤ -(t - 2 * qq) / 2 + eq1 := by
  have b := qq_b9
  have s1 := cs_quarter (x := t - 2 * qq) (by grind)
  rw [show t - 2 * qq + 2 * qq = t by grind] at s1
  have s3 := sn_half (x := t - 2 * qq) (by grind) (by grind)
  unfold Near at *
  grind
theorem quarter_of {t d : Rat} (h : -(4 * qq) ≤ t ∧ t ≤ 4 * qq) (hd : 0 ≤ d) (hc : -d ≤ cs t) : -(2 * qq + 2 * d + 2 * eq1) ≤ t ∧ t ≤ 2 * qq + 2 * d + 2 * eq1 := by
  have e := eq1_pos
  constructor
  · apply Rat.not_lt.1
    intro l
    have := cs_far (t := -t) (by grind) (by grind)
    rw [cs_neg] at this
    grind
  · apply Rat.not_lt.1
    intro l
    have := cs_far (t := t) (by grind) (by grind)
    grind
/-- An angle whose sine is hardly negative, not far below 0. -/
theorem low_of {x d : Rat} (h0 : -(8 / 5) ≤ x) (hd : -d ≤ sn x) (hx : x ≤ 0) : -(2 * d) ≤ x := by
  have := sn_half (x := -x) (by grind) (by grind)
  rw [sn_neg] at this
  grind
/-- Brought to within half a turn. -/
theorem to_half {z : Rat} (h : -6 ≤ z ∧ z ≤ 125 / 10) : ∃ k : Int, -(4 * qq) ≤ z + 8 * qq * (k : Rat) ∧ z + 8 * qq * (k : Rat) ≤ 4 * qq ∧ Near (sn (z + 8 * qq * (k : Rat))) (sn z) (40 * eq1) ∧ Near (cs (z + 8 * qq * (k : Rat))) (cs z) (40 * eq1) := by
  have b := qq_b9; have e := eq1_pos
  by_cases c1 : z < -(4 * qq)
  · refine ⟨1, ?_⟩
    rw [show ((1 : Int) : Rat) = 1 from rfl, show z + 8 * qq * 1 = z + 8 * qq by grind]
    have t := turn_any (x := z) (by grind)
    exact ⟨by grind, by grind, near_weak t.1 (by grind), near_weak t.2 (by grind)⟩
  · by_cases c2 : z ≤ 4 * qq
    · refine ⟨0, ?_⟩
      rw [show ((0 : Int) : Rat) = 0 from rfl, show z + 8 * qq * 0 = z by grind]
      exact ⟨by grind, c2, near_refl _ (by grind), near_refl _ (by grind)⟩
    · by_cases c3 : z ≤ 12 * qq
      · refine ⟨-1, ?_⟩
        rw [show ((-1 : Int) : Rat) = -1 from rfl, show z + 8 * qq * -1 = z - 8 * qq by grind]
        have t := turn_any (x := z - 8 * qq) (by grind)
        rw [show z - 8 * qq + 8 * qq = z by grind] at t
        refine ⟨by grind, by grind, ?_, ?_⟩ <;> (unfold Near at *; grind)
      · refine ⟨-2, ?_⟩
        rw [show ((-2 : Int) : Rat) = -2 from rfl, show z + 8 * qq * -2 = z - 16 * qq by grind]
        have t := turn_any (x := z - 16 * qq) (by grind)
        have t2 := turn_any (x := z - 8 * qq) (by grind)
        rw [show z - 16 * qq + 8 * qq = z - 8 * qq by grind] at t
        rw [show z - 8 * qq + 8 * qq = z by grind] at t2
        refine ⟨by grind, by grind, ?_, ?_⟩ <;> (unfold Near at *; grind)
end Go.Proofs.YtdifeoahaegjbaaGreatDoor
