/- How far apart seasons are, plain. -/
import Derived.Test.YtlldmhnkaopjhaaDoorSeD
namespace Go.Proofs.YtlldmhnkaopjhaaDoor
set_option linter.unusedSimpArgs false
set_option linter.unusedVariables false
/-- The first day of a year. -/
def newY (y : Int) : Int := 365 * (y - 1) + (y - 1) / 4 - (y - 1) / 100 + (y - 1) / 400 + 1
theorem newY_bd (y : Int) : 146097 * (y - 1) - 299 ≤ 400 * newY y ∧ 400 * newY y ≤ 146097 * (y - 1) + 796 := by unfold newY; omega
theorem sun_newY {y : Int} (h0 : -9100 ≤ y) (h1 : y ≤ 9100) : 1000000000 * ((y : Rat) - 1) + 759000000 ≤ sunT ((newY y * 86400000 : Int) : Rat) ∧ sunT ((newY y * 86400000 : Int) : Rat) ≤ 1000000000 * ((y : Rat) - 1) + 797000000 := by
  obtain ⟨a, b⟩ := newY_bd y
  have a' := Rat.intCast_le_intCast.2 a
  have b' := Rat.intCast_le_intCast.2 b
  have y0 := Rat.intCast_le_intCast.2 h0
  have y1 := Rat.intCast_le_intCast.2 h1
  simp only [Rat.intCast_add, Rat.intCast_sub, Rat.intCast_mul] at a' b'
  rw [show ((146097 : Int) : Rat) = 146097 from rfl, show ((299 : Int) : Rat) = 299 from rfl, show ((400 : Int) : Rat) = 400 from rfl, show ((1 : Int) : Rat) = 1 from rfl] at a'
  rw [show ((146097 : Int) : Rat) = 146097 from rfl, show ((796 : Int) : Rat) = 796 from rfl, show ((400 : Int) : Rat) = 400 from rfl, show ((1 : Int) : Rat) = 1 from rfl] at b'
  rw [show ((-9100 : Int) : Rat) = -9100 from rfl] at y0
  rw [show ((9100 : Int) : Rat) = 9100 from rfl] at y1
  have sx := svS_bd ((newY y * 86400000 : Int) : Rat)
  have es : ∀ t, sunT t = phT 775342092 2737909333333 t + svT sunZ 2 t := fun _ => rfl
  rw [es]
  generalize svT sunZ 2 ((newY y * 86400000 : Int) : Rat) = v at *
  clear es a b h0 h1
  unfold phT
  rw [Rat.intCast_mul, show ((86400000 : Int) : Rat) = 86400000 from rfl, show ((775342092 : Int) : Rat) = 775342092 from rfl, show ((2737909333333 : Int) : Rat) = 2737909333333 from rfl]
  generalize (newY y : Rat) = n at *
  generalize (y : Rat) = u at *
  constructor <;> grind
/-- The passage alone. -/
structure SeX (L N c : Int) : Prop where
  b : sunT ((c - 1 : Int) : Rat) < (L : Rat) + 1000000000 * (N : Rat)
  a : (L : Rat) + 1000000000 * (N : Rat) ≤ sunT (c : Rat)
theorem SeIn.x {L x N c : Int} (h : SeIn L x N c) : SeX L N c := ⟨h.b, h.a⟩
theorem su_le {x y : Int} (h : x ≤ y) : sunT (x : Rat) - 1 / 1000000000 ≤ sunT (y : Rat) := by
  rcases Int.lt_or_eq_of_le h with l | l
  · have g := su_lt l
    have d := int_sub1 l
    generalize sunT (x : Rat) = a at *
    generalize sunT (y : Rat) = b at *
    grind
  · rw [l]; grind
theorem SeX.at' {L N c : Int} (h : SeX L N c) : sunT (c : Rat) ≤ (L : Rat) + 1000000000 * (N : Rat) + 1 := by
  have b := h.b
  have m := (su_move ((c - 1 : Int) : Rat) (d := 1) (by grind)).2
  rw [show ((c - 1 : Int) : Rat) + 1 = (c : Rat) by rw [Rat.intCast_sub]; show (c : Rat) - 1 + 1 = _; grind] at m
  generalize sunT ((c - 1 : Int) : Rat) = u at *
  generalize sunT (c : Rat) = v at *
  grind
theorem sx_lo {L N L' N' c c' T g hi : Int} (P : SeX L N c) (P' : SeX L' N' c') (h : L' + 1000000000 * N' = L + 1000000000 * N + g) (hT : sunT ((c : Rat) + (T : Rat)) - sunT (c : Rat) ≤ (hi : Rat)) (hg : hi + 2 ≤ g) : c + T < c' := by
  apply Int.not_le.1
  intro l
  have e := su_le l
  rw [Rat.intCast_add] at e
  have a := P.at'
  have b := P'.a
  have hq := congrArg (fun x : Int => (x : Rat)) h
  simp only [Rat.intCast_add, Rat.intCast_mul] at hq
  rw [show ((1000000000 : Int) : Rat) = 1000000000 from rfl] at hq
  have hg' := Rat.intCast_le_intCast.2 hg
  rw [Rat.intCast_add, show ((2 : Int) : Rat) = 2 from rfl] at hg'
  generalize sunT ((c : Rat) + (T : Rat)) = x at *
  generalize sunT (c : Rat) = y at *
  generalize sunT (c' : Rat) = z at *
  grind
theorem sx_hi {L N L' N' c c' T g lo : Int} (P : SeX L N c) (P' : SeX L' N' c') (h : L' + 1000000000 * N' = L + 1000000000 * N + g) (hT : (lo : Rat) ≤ sunT ((c : Rat) + (T : Rat)) - sunT (c : Rat)) (hg : g + 1 ≤ lo) : c' ≤ c + T := by
  apply Int.not_lt.1
  intro l
  have e := su_le (show c + T ≤ c' - 1 by omega)
  rw [Rat.intCast_add] at e
  have a := P.a
  have b := P'.b
  have hq := congrArg (fun x : Int => (x : Rat)) h
  simp only [Rat.intCast_add, Rat.intCast_mul] at hq
  rw [show ((1000000000 : Int) : Rat) = 1000000000 from rfl] at hq
  have hg' := Rat.intCast_le_intCast.2 hg
  rw [Rat.intCast_add, show ((1 : Int) : Rat) = 1 from rfl] at hg'
  generalize sunT ((c : Rat) + (T : Rat)) = x at *
  generalize sunT (c : Rat) = y at *
  generalize sunT ((c' - 1 : Int) : Rat) = z at *
  grind
theorem SeX.uniq {L N c c' : Int} (P : SeX L N c) (P' : SeX L N c') : c = c' := by
  have key : ∀ c c' : Int, SeX L N c → SeX L N c' → ¬ c < c' := fun c c' P P' l => by
    have a := P.a; have b := P'.b
    rcases Int.lt_or_eq_of_le (show c ≤ c' - 1 by omega) with g | g
    · have e := su_lt g
      have d := int_sub1 g
      generalize sunT ((c' - 1 : Int) : Rat) = z at *
      generalize sunT (c : Rat) = y at *
      grind
    · rw [← g] at b; grind
  have := key c c' P P'; have := key c' c P' P
  omega
/-- From one season to the next. -/
theorem se_step {L x N c L' x' N' c' : Int} (P : SeIn L x N c) (P' : SeIn L' x' N' c') (h : L' + 1000000000 * N' = L + 1000000000 * N + 250000000) : 7603200000 ≤ (seF L' x').1 - (seF L x).2 ∧ (seF L' x').2 - (seF L x).1 ≤ 8208000000 := by
  have a := sx_lo (T := 7604400001) (hi := 248389663) P.x P'.x h (su_a (c : Rat)).2 (by omega)
  have b := sx_hi (T := 8206799999) (lo := 252197538) P.x P'.x h (su_b (c : Rat)).1 (by omega)
  have p1 := P.i1; have p2 := P.i2; have p3 := P.w
  have r1 := P'.i1; have r2 := P'.i2; have r3 := P'.w
  omega
/-- From one year to the next. -/
theorem se_year {L x N c x' c' : Int} (P : SeIn L x N c) (P' : SeIn L x' (N + 1) c') : 31536000000 < (seF L x').1 - (seF L x).2 ∧ (seF L x').2 - (seF L x).1 < 31622400000 := by
  have h : L + 1000000000 * (N + 1) = L + 1000000000 * N + 1000000000 := by omega
  have a := sx_lo (T := 31537200001) (hi := 999397887) P.x P'.x h (su_c (c : Rat)).2 (by omega)
  have b := sx_hi (T := 31621199999) (lo := 1001968938) P.x P'.x h (su_d (c : Rat)).1 (by omega)
  have p1 := P.i1; have p2 := P.i2; have p3 := P.w
  have r1 := P'.i1; have r2 := P'.i2; have r3 := P'.w
  omega
theorem seB_of {L x b lo hi : Int} (L0 : 0 ≤ L) (L1 : L < 1000000000) (h1 : (L : Rat) + 1000000000 * (b : Rat) + (lo : Rat) ≤ sunT (x : Rat)) (h2 : sunT (x : Rat) ≤ (L : Rat) + 1000000000 * (b : Rat) + (hi : Rat)) (hl : 10000 ≤ lo) (hh : hi ≤ 999990000) : 4004 < seB L x := by
  obtain ⟨K, a1, a2, -, -⟩ := sun_at x
  have u1 : L + 1000000000 * b + lo - 4004 < slLo x + 1000000000 * K := by
    apply int_lt_of_rat
    simp only [Rat.intCast_add, Rat.intCast_sub, Rat.intCast_mul]
    rw [show ((1000000000 : Int) : Rat) = 1000000000 from rfl, show ((4004 : Int) : Rat) = 4004 from rfl]
    generalize sunT (x : Rat) = z at *
    grind
  have u2 : slLo x + 1000000000 * K < L + 1000000000 * b + hi := by
    apply int_lt_of_rat
    simp only [Rat.intCast_add, Rat.intCast_sub, Rat.intCast_mul]
    rw [show ((1000000000 : Int) : Rat) = 1000000000 from rfl]
    generalize sunT (x : Rat) = z at *
    grind
  unfold seB
  omega
theorem se_N {L x N c b : Int} (P : SeIn L x N c) (h1 : (L : Rat) + 1000000000 * ((b : Rat) - 1) < sunT (x : Rat) + 1998) (h2 : sunT (x : Rat) ≤ (L : Rat) + 1000000000 * (b : Rat)) : N = b := by
  have x0 := P.x0; have x1 := P.x1
  have u1 : b - 1 < N := by
    apply int_lt_of_rat
    rw [Rat.intCast_sub, show ((1 : Int) : Rat) = 1 from rfl]
    generalize sunT (x : Rat) = z at *
    grind
  have u2 : N < b + 1 := by
    apply int_lt_of_rat
    rw [Rat.intCast_add, show ((1 : Int) : Rat) = 1 from rfl]
    generalize sunT (x : Rat) = z at *
    grind
  omega
/-- The season of a year. -/
def seY (q y : Int) : Int × Int := seF (250000000 * q) (newY y * 86400000)
theorem newY_ms {y : Int} (h0 : -9100 ≤ y) (h1 : y ≤ 9100) : -310000000000000 ≤ newY y * 86400000 ∧ newY y * 86400000 ≤ 310000000000000 := by
  have := newY_bd y
  omega
theorem se_find {q y : Int} (q0 : 0 ≤ q) (q1 : q ≤ 3) (h0 : -9100 ≤ y) (h1 : y ≤ 9100) : 4004 < seB (250000000 * q) (newY y * 86400000) ∧ ∃ c, SeIn (250000000 * q) (newY y * 86400000) y c := by
  obtain ⟨s0, s1⟩ := sun_newY h0 h1
  have hq0 := Rat.intCast_le_intCast.2 q0
  have hq1 := Rat.intCast_le_intCast.2 q1
  rw [show ((0 : Int) : Rat) = 0 from rfl] at hq0
  rw [show ((3 : Int) : Rat) = 3 from rfl] at hq1
  have eL : ((250000000 * q : Int) : Rat) = 250000000 * (q : Rat) := by rw [Rat.intCast_mul]; rfl
  have B : 4004 < seB (250000000 * q) (newY y * 86400000) := by
    refine seB_of (b := y - 1) (lo := 759000000 - 250000000 * q) (hi := 797000000 - 250000000 * q) (by omega) (by omega) ?_ ?_ (by omega) (by omega)
    · rw [eL, Rat.intCast_sub, Rat.intCast_sub, eL, show ((759000000 : Int) : Rat) = 759000000 from rfl, show ((1 : Int) : Rat) = 1 from rfl]
      grind
    · rw [eL, Rat.intCast_sub, Rat.intCast_sub, eL, show ((797000000 : Int) : Rat) = 797000000 from rfl, show ((1 : Int) : Rat) = 1 from rfl]
      grind
  obtain ⟨N, c, P⟩ := se_in (show 0 ≤ 250000000 * q by omega) (by omega) (show 4000 < seB (250000000 * q) (newY y * 86400000) by omega)
  have eN : N = y := se_N P (by rw [eL]; grind) (by rw [eL]; grind)
  rw [eN] at P
  exact ⟨B, c, P⟩
/-- A day behind a season: the next one is a year later. -/
theorem se_next {L x N c : Int} (L0 : 0 ≤ L) (L1 : L < 1000000000) (P : SeIn L x N c) : 4004 < seB L ((seF L x).2 + 86400000) ∧ ∃ c', SeIn L ((seF L x).2 + 86400000) (N + 1) c' := by
  have p1 := P.i1; have p2 := P.i2; have p3 := P.w
  have a := P.a
  have a' := P.x.at'
  generalize (seF L x).2 = h at *
  have e1 := Rat.intCast_le_intCast.2 p2
  have e2 := Rat.intCast_le_intCast.2 (show h ≤ c + 600000 by omega)
  rw [Rat.intCast_add, show ((600000 : Int) : Rat) = 600000 from rfl] at e2
  have m := su_move (c : Rat) (d := (h : Rat) - (c : Rat) + 86400000) (by grind)
  have e3 : ((h + 86400000 : Int) : Rat) = (c : Rat) + ((h : Rat) - (c : Rat) + 86400000) := by rw [Rat.intCast_add, show ((86400000 : Int) : Rat) = 86400000 from rfl]; grind
  rw [← e3] at m
  have s0 : (L : Rat) + 1000000000 * (N : Rat) + 2000000 ≤ sunT ((h + 86400000 : Int) : Rat) := by
    clear e3
    generalize sunT ((h + 86400000 : Int) : Rat) = z at *
    generalize sunT (c : Rat) = y at *
    grind
  have s1 : sunT ((h + 86400000 : Int) : Rat) ≤ (L : Rat) + 1000000000 * (N : Rat) + 3000000 := by
    clear e3
    generalize sunT ((h + 86400000 : Int) : Rat) = z at *
    generalize sunT (c : Rat) = y at *
    grind
  have B : 4004 < seB L (h + 86400000) := seB_of (b := N) (lo := 2000000) (hi := 3000000) L0 L1 s0 s1 (by omega) (by omega)
  obtain ⟨N', c', P'⟩ := se_in L0 L1 (show 4000 < seB L (h + 86400000) by omega)
  clear e3 m
  have eN : N' = N + 1 := by
    refine se_N P' ?_ ?_
    · generalize sunT ((h + 86400000 : Int) : Rat) = z at *; rw [Rat.intCast_add, show ((1 : Int) : Rat) = 1 from rfl]; grind
    · generalize sunT ((h + 86400000 : Int) : Rat) = z at *; rw [Rat.intCast_add, show ((1 : Int) : Rat) = 1 from rfl]; grind
  rw [eN] at P'
  exact ⟨B, c', P'⟩
end Go.Proofs.YtlldmhnkaopjhaaDoor
