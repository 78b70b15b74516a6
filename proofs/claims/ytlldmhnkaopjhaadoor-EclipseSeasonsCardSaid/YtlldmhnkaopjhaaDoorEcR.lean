/- No two lunations in a row have small latitudes at their new moons. Plain. -/
import Derived.Test.YtlldmhnkaopjhaaDoorEcB
import Derived.Test.YtlldmhnkaopjhaaDoorSaG
import Derived.Test.YtlldmhnkaopjhaaDoorPhT
import Derived.Test.YtlldmhnkaopjhaaDoorPhQ
namespace Go.Proofs.YtlldmhnkaopjhaaDoor
set_option linter.unusedSimpArgs false
set_option linter.unusedVariables false
theorem rare_pos {u v s r c d u' v' s' r' b b' : Rat} (hu : -(1 + ep) ≤ u ∧ u ≤ 1 + ep) (hv : 9588 / 10000 ≤ v ∧ v ≤ 1 + ep) (hs : -(1 + ep) ≤ s ∧ s ≤ 1 + ep) (hr : -(1 + ep) ≤ r ∧ r ≤ 1 + ep) (hs' : -(1 + ep) ≤ s' ∧ s' ≤ 1 + ep) (hr' : -(1 + ep) ≤ r' ∧ r' ≤ 1 + ep) (hu' : -(1 + ep) ≤ u' ∧ u' ≤ 1 + ep)
    (e1 : Near u' (u * c + v * d) e2) (e2' : Near v' (v * c - u * d) e2) (b1 : Near b (14244783 * u + 1550819 * (s * v) + 8081 * (r * u)) (1 / 1000)) (b2 : Near b' (14244783 * u' + 1550819 * (s' * v') + 8081 * (r' * u')) (1 / 1000))
    (hc : 8 / 10 ≤ c ∧ c ≤ 9003 / 10000) (hd : 4352 / 10000 ≤ d ∧ d ≤ 6 / 10) (hss : -(5493 / 10000) ≤ s' - s ∧ s' - s ≤ 5493 / 10000) (hb : -2480000 ≤ b ∧ b ≤ 2480000) (hb' : b' ≤ 2480000) : False := by
  have m1 := rmul_bd (a := s) (b := v) hs (show -(1 + ep) ≤ v ∧ v ≤ 1 + ep by unfold ep at *; constructor <;> grind)
  have m2 := rmul_bd (a := r) (b := u) hr hu
  have ub : -(2836 / 10000) ≤ u ∧ u ≤ 2836 / 10000 := by
    clear e1 e2' b2 hc hd hss hb' hs hr hs' hr' hu' hv
    unfold Near ep at *
    generalize s * v = x at *
    generalize r * u = y at *
    constructor <;> grind
  have m3 := rmul_bd (a := s') (b := u) hs' ub
  have G0 : 13217000 ≤ 14244783 * v - 1550819 * (s' * u) := by
    clear e1 e2' b1 b2 hc hd hss hb hb' m1 m2
    unfold ep at *
    generalize s' * u = x at *
    grind
  have m4 := rmul_bd (a := s' - s) (b := v) hss (show -(1 + ep) ≤ v ∧ v ≤ 1 + ep by unfold ep at *; constructor <;> grind)
  have m5 := rmul_bd (a := c) (b := (s' - s) * v) (A := 9003 / 10000) (by constructor <;> grind) m4
  have m6 := rmul_bd (a := c) (b := b) (A := 9003 / 10000) (B := 2480000) (by constructor <;> grind) hb
  have m7a := rmul_bd (a := r) (b := u) hr ub
  have m7 := rmul_bd (a := c) (b := r * u) (A := 9003 / 10000) (by constructor <;> grind) m7a
  have m8 := rmul_bd (a := r') (b := u') hr' hu'
  have m9 := rmul_bd (a := s') (b := v' - (v * c - u * d)) (B := e2) hs' (by unfold Near at e2'; constructor <;> grind)
  have m10 := rmul_bd (a := c) (b := b - (14244783 * u + 1550819 * (s * v) + 8081 * (r * u))) (A := 9003 / 10000) (B := 1 / 1000) (by constructor <;> grind) (by unfold Near at b1; constructor <;> grind)
  have pG := Rat.mul_nonneg (show 0 ≤ d - 4352 / 10000 by grind) (show 0 ≤ 14244783 * v - 1550819 * (s' * u) - 13217000 by grind)
  have id1 : 14244783 * (u * c + v * d) + 1550819 * (s' * (v * c - u * d)) = c * (14244783 * u + 1550819 * (s * v) + 8081 * (r * u)) - 8081 * (c * (r * u)) + 1550819 * (c * ((s' - s) * v)) + d * (14244783 * v - 1550819 * (s' * u)) := by grind
  have id2 : c * (b - (14244783 * u + 1550819 * (s * v) + 8081 * (r * u))) = c * b - c * (14244783 * u + 1550819 * (s * v) + 8081 * (r * u)) := by grind
  have id3 : s' * (v' - (v * c - u * d)) = s' * v' - s' * (v * c - u * d) := by grind
  have id4 : (d - 4352 / 10000) * (14244783 * v - 1550819 * (s' * u) - 13217000) = d * (14244783 * v - 1550819 * (s' * u)) - 13217000 * d - 4352 / 10000 * (14244783 * v - 1550819 * (s' * u)) + 4352 / 10000 * 13217000 := by grind
  rw [id4] at pG
  rw [id2] at m10
  rw [id3] at m9
  clear id2 id3 id4 m1 m2 m3 m4 m7a ub hb hc hss hs hr hs' hr' hu hu' hv e2' b1
  unfold Near e2 ep at *
  generalize c * (14244783 * u + 1550819 * (s * v) + 8081 * (r * u)) = x1 at *
  generalize 14244783 * v - 1550819 * (s' * u) = G at *
  generalize d * G = x2 at *
  generalize c * ((s' - s) * v) = x3 at *
  generalize c * (r * u) = x4 at *
  generalize s' * (v * c - u * d) = x5 at *
  generalize s' * v' = x6 at *
  generalize r' * u' = x7 at *
  generalize c * b = x8 at *
  generalize u * c + v * d = x9 at *
  grind
theorem rare_core {u v s r c d u' v' s' r' b b' : Rat} (hu : -(1 + ep) ≤ u ∧ u ≤ 1 + ep) (hv : -(1 + ep) ≤ v ∧ v ≤ 1 + ep) (hs : -(1 + ep) ≤ s ∧ s ≤ 1 + ep) (hr : -(1 + ep) ≤ r ∧ r ≤ 1 + ep) (hs' : -(1 + ep) ≤ s' ∧ s' ≤ 1 + ep) (hr' : -(1 + ep) ≤ r' ∧ r' ≤ 1 + ep) (hu' : -(1 + ep) ≤ u' ∧ u' ≤ 1 + ep) (py : Near (v * v + u * u) 1 ep)
    (e1 : Near u' (u * c + v * d) e2) (e2' : Near v' (v * c - u * d) e2) (b1 : Near b (14244783 * u + 1550819 * (s * v) + 8081 * (r * u)) (1 / 1000)) (b2 : Near b' (14244783 * u' + 1550819 * (s' * v') + 8081 * (r' * u')) (1 / 1000))
    (hc : 8 / 10 ≤ c ∧ c ≤ 9003 / 10000) (hd : 4352 / 10000 ≤ d ∧ d ≤ 6 / 10) (hss : -(5493 / 10000) ≤ s' - s ∧ s' - s ≤ 5493 / 10000) (hb : -2480000 ≤ b ∧ b ≤ 2480000) (hb' : -2480000 ≤ b' ∧ b' ≤ 2480000) : False := by
  have m1 := rmul_bd (a := s) (b := v) hs hv
  have m2 := rmul_bd (a := r) (b := u) hr hu
  have ub : -(2836 / 10000) ≤ u ∧ u ≤ 2836 / 10000 := by
    clear e1 e2' b2 hc hd hss hb' hs hr hs' hr' hu' hv py
    unfold Near ep at *
    generalize s * v = x at *
    generalize r * u = y at *
    constructor <;> grind
  have uu := rmul_bd ub ub
  have vv : 9588 / 10000 ≤ v ∨ v ≤ -(9588 / 10000) := by
    by_cases c1 : 9588 / 10000 ≤ v
    · exact .inl c1
    · by_cases c2 : v ≤ -(9588 / 10000)
      · exact .inr c2
      · exfalso
        have w := rmul_bd (a := v) (b := v) (A := 9588 / 10000) (B := 9588 / 10000) (by constructor <;> grind) (by constructor <;> grind)
        clear e1 e2' b1 b2 hc hd hss hb hb' hs hr hs' hr' hu hu' hv m1 m2 c1 c2
        unfold Near ep at py
        generalize v * v = x at *
        generalize u * u = y at *
        grind
  rcases vv with vv | vv
  · exact rare_pos hu ⟨vv, hv.2⟩ hs hr hs' hr' hu' e1 e2' b1 b2 hc hd hss hb hb'.2
  · refine rare_pos (u := -u) (v := -v) (s := s) (r := r) (c := c) (d := d) (u' := -u') (v' := -v') (s' := s') (r' := r') (b := -b) (b' := -b') (by constructor <;> grind) (by constructor <;> grind) hs hr hs' hr' (by constructor <;> grind) ?_ ?_ ?_ ?_ hc hd hss (by constructor <;> grind) (by grind)
    · clear e2' b1 b2 py; unfold Near at *; constructor <;> grind
    · clear e1 b1 b2 py; unfold Near at *; constructor <;> grind
    · clear e1 e2' b2 py; unfold Near at *; constructor <;> grind
    · clear e1 e2' b1 py; unfold Near at *; constructor <;> grind
theorem rare_nums : (435300000 ≤ sLo 71680000 ∧ sHi 178320000 ≤ 900290000) ∧ (800810000 ≤ sLo 147800000 ∧ sHi 102200000 ≤ 598920000) ∧ sHi 44250000 ≤ 274470000 := by decide +kernel
theorem arg_F {x y : Rat} (h0 : 2519688000 ≤ y - x) (h1 : y - x ≤ 2591399999) : ∃ z : Rat, argF y = argF x + z + 1000000000 * ((1 : Int) : Rat) ∧ 71680000 ≤ z ∧ z ≤ 102200000 := by
  refine ⟨argF y - argF x - 1000000000, by rw [show ((1 : Int) : Rat) = 1 from rfl]; grind, ?_, ?_⟩
  all_goals
    unfold argF phT
    rw [show ((648500531 : Int) : Rat) = 648500531 from rfl, show ((36748195111111 : Int) : Rat) = 36748195111111 from rfl]
    grind
theorem arg_M {x y : Rat} (h0 : 2519688000 ≤ y - x) (h1 : y - x ≤ 2591399999) : ∃ z : Rat, argM y = argM x + z + 1000000000 * ((1 : Int) : Rat) ∧ 58370000 ≤ z ∧ z ≤ 88500000 := by
  refine ⟨argM y - argM x - 1000000000, by rw [show ((1 : Int) : Rat) = 1 from rfl]; grind, ?_, ?_⟩
  all_goals
    unfold argM phT
    rw [show ((99384016 : Int) : Rat) = 99384016 from rfl, show ((36291647083333 : Int) : Rat) = 36291647083333 from rfl]
    grind
theorem num_lo {n m : Int} (h : m ≤ sLo n) : (m : Rat) / 1000000000 - 1 / 1000000000000000000 ≤ SA (n : Rat) := by
  have s := (sa_num n).1
  have g := Rat.intCast_le_intCast.2 h
  grind
theorem num_hi {n m : Int} (h : sHi n ≤ m) : SA (n : Rat) ≤ (m : Rat) / 1000000000 + 1 / 1000000000000000000 := by
  have s := (sa_num n).2
  have g := Rat.intCast_le_intCast.2 h
  grind
/-- How the anomaly's sine moves in a lunation. -/
theorem arg_chord {x z : Rat} (h0 : 58370000 ≤ z) (h1 : z ≤ 88500000) : -(5493 / 10000) ≤ SA (x + z) - SA x ∧ SA (x + z) - SA x ≤ 5493 / 10000 := by
  obtain ⟨-, -, n5⟩ := rare_nums
  have n := num_hi n5
  rw [show ((44250000 : Int) : Rat) = 44250000 from rfl, show ((274470000 : Int) : Rat) = 274470000 from rfl] at n
  have g := sa_grow (x := z / 2) (y := 44250000) (by grind) (by grind) (by grind)
  have p := (sa_pos (x := z / 2) (by grind) (by grind)).1
  have c := SA_chord (y := x) (d := z) (m := 27448 / 100000) (by constructor <;> grind) (by grind)
  unfold Near at c
  generalize SA (x + z) = a at *
  generalize SA x = b at *
  constructor <;> grind
theorem arg_cd {z : Rat} (h0 : 71680000 ≤ z) (h1 : z ≤ 102200000) : (8 / 10 ≤ CA z ∧ CA z ≤ 9003 / 10000) ∧ (4352 / 10000 ≤ SA z ∧ SA z ≤ 6 / 10) := by
  obtain ⟨⟨n1, n2⟩, ⟨n3, n4⟩, -⟩ := rare_nums
  have a1 := num_lo n1; have a2 := num_hi n2; have a3 := num_lo n3; have a4 := num_hi n4
  rw [show ((71680000 : Int) : Rat) = 71680000 from rfl, show ((435300000 : Int) : Rat) = 435300000 from rfl] at a1
  rw [show ((178320000 : Int) : Rat) = 178320000 from rfl, show ((900290000 : Int) : Rat) = 900290000 from rfl] at a2
  rw [show ((147800000 : Int) : Rat) = 147800000 from rfl, show ((800810000 : Int) : Rat) = 800810000 from rfl] at a3
  rw [show ((102200000 : Int) : Rat) = 102200000 from rfl, show ((598920000 : Int) : Rat) = 598920000 from rfl] at a4
  have g1 := sa_grow (x := 71680000) (y := z) (by grind) h0 (by grind)
  have g2 := sa_grow (x := z) (y := 102200000) (by grind) h1 (by grind)
  have f1 := ca_fall (x := 71680000) (y := z) (by grind) h0 (by grind)
  have f2 := ca_fall (x := z) (y := 102200000) (by grind) h1 (by grind)
  have k1 := ca_back 71680000
  have k2 := ca_back 102200000
  rw [show (250000000 : Rat) - 71680000 = 178320000 by grind] at k1
  rw [show (250000000 : Rat) - 102200000 = 147800000 by grind] at k2
  unfold Near e2 at k1 k2
  clear n1 n2 n3 n4 h0 h1
  refine ⟨⟨?_, ?_⟩, ?_, ?_⟩ <;> grind
theorem rare_law {x y : Rat} (h0 : 2519688000 ≤ y - x) (h1 : y - x ≤ 2591399999) (hb : -2480000 ≤ beT x ∧ beT x ≤ 2480000) (hb' : -2480000 ≤ beT y ∧ beT y ≤ 2480000) : False := by
  obtain ⟨z, ez, z0, z1⟩ := arg_F h0 h1
  obtain ⟨m, em, m0, m1⟩ := arg_M h0 h1
  have d1 := be_dec x
  have d2 := be_dec y
  rw [ez, em, SA_turn, CA_turn, SA_turn, CA_turn] at d2
  have hss := arg_chord (x := argM x) m0 m1
  obtain ⟨hc, hd⟩ := arg_cd z0 z1
  obtain ⟨e1, e2'⟩ := SCA_add (argF x) z
  exact rare_core (SA_le (argF x)) (CA_le (argF x)) (SA_le (argM x)) (CA_le (argM x)) (SA_le (argM x + m)) (CA_le (argM x + m)) (SA_le (argF x + z)) (SA_pyth (argF x)) e1 e2' d1 d2 hc hd hss hb hb'
/-- From one new moon's interval to the next one's. -/
theorem ph_apart {k c c' : Int} (P : PhIn k 0 c) (P' : PhIn (k + 1) 0 c') : 2519688000 ≤ (phF (k + 1) 0).1 - (phF k 0).1 ∧ (phF (k + 1) 0).1 - (phF k 0).1 ≤ 2591399999 := by
  have h : 250000000 * (0 : Int) + 1000000000 * (k + 1) = 250000000 * 0 + 1000000000 * k + 1000000000 := by omega
  have a := cross_lo (T := 2520288000) (hi := 999948304) P.x P'.x h (el_e (c : Rat)).2 (by omega)
  have b := cross_hi (T := 2590799999) (lo := 1000205526) P.x P'.x h (el_d (c : Rat)).1 (by omega)
  obtain ⟨-, -, p1, p2, -, p3⟩ := P
  obtain ⟨-, -, r1, r2, -, r3⟩ := P'
  omega
theorem ec_rare {k : Int} (k0 : -100000 ≤ k) (k1 : k + 1 ≤ 100000) : (ecF k 0).k ≠ 2 ∨ (ecF (k + 1) 0).k ≠ 2 := by
  by_cases h : (ecF k 0).k = 2
  · right
    intro h'
    obtain ⟨c, C⟩ := ph_in (k := k) (q := 0) (by omega) (by omega) (by omega) (by omega)
    obtain ⟨c', C'⟩ := ph_in (k := k + 1) (q := 0) (by omega) (by omega) (by omega) (by omega)
    have a := ph_apart C C'
    have b1 := C.b; have b2 := C.c; have b3 := C'.b; have b4 := C'.c
    have t1 := ec_total h (by omega) C.w
    have t2 := ec_total h' (by omega) C'.w
    have a1 := Rat.intCast_le_intCast.2 a.1
    have a2 := Rat.intCast_le_intCast.2 a.2
    rw [Rat.intCast_sub] at a1 a2
    exact rare_law (x := ((phF k 0).1 : Rat)) (y := ((phF (k + 1) 0).1 : Rat)) a1 a2 t1 t2
  · exact .inl h
end Go.Proofs.YtlldmhnkaopjhaaDoor
