/- The astrolabe, plain: circles grow smaller, the circle of an altitude on the meridian. -/
import Derived.Test.YtcopmgnfakjdhaaDoorAstP
namespace Go.Proofs.YtcopmgnfakjdhaaDoor
set_option linter.unusedSimpArgs false
set_option linter.unusedVariables false
def astV (a : Int) : Rat := 1000000 * CN a / (1 + SN a)
theorem rq_eq {x y : Rat} (h : y ≠ 0) : x / y * y = x := by grind
theorem ast_num : (171900000 ≤ sLo 27500000 ∧ 31410 ≤ sLo 5000) ∧ (368000000 ≤ sLo 60000000 ∧ 876000000 ≤ sLo 170000000) := by decide +kernel
theorem ast_lo {n m : Int} (h : m ≤ sLo n) : (m : Rat) / 1000000000 - 1 / 1000000000000000000 ≤ SA (n : Rat) := by
  have s := (sa_num n).1
  have g := Rat.intCast_le_intCast.2 h
  grind
/-- Half of the angle from the pole. -/
structure AstT (a : Int) : Prop where
  c0 : 1718 / 10000 ≤ CA ((250000000 - (a : Rat)) / 2)
  s0 : -(1 / 100000000000000000000000) ≤ SA ((250000000 - (a : Rat)) / 2)
  cn : Near (CN a) (2 * (SA ((250000000 - (a : Rat)) / 2) * CA ((250000000 - (a : Rat)) / 2))) (1 / 1000000000000000000000000)
  sn : Near (1 + SN a) (2 * (CA ((250000000 - (a : Rat)) / 2) * CA ((250000000 - (a : Rat)) / 2))) (1 / 1000000000000000000000000)
theorem ast_t {a : Int} (h0 : -195000000 ≤ a) (h1 : a ≤ 250000000) : AstT a := by
  have l := Rat.intCast_le_intCast.2 h0
  have u := Rat.intCast_le_intCast.2 h1
  rw [show ((-195000000 : Int) : Rat) = -195000000 from rfl] at l
  rw [show ((250000000 : Int) : Rat) = 250000000 from rfl] at u
  obtain ⟨p, hp⟩ : ∃ p, p = (250000000 - (a : Rat)) / 2 := ⟨_, rfl⟩
  have ea : (a : Rat) = 250000000 - (p + p) := by grind
  have p0 : 0 ≤ p := by grind
  have p1 : p ≤ 222500000 := by grind
  have q := sa_pos (x := p) p0 (by grind)
  have f := ca_fall (x := p) (y := 222500000) p0 p1 (by grind)
  have k := ca_back 222500000
  rw [show (250000000 : Rat) - 222500000 = 27500000 by grind] at k
  have n := ast_lo ast_num.1.1
  rw [show ((27500000 : Int) : Rat) = 27500000 from rfl, show ((171900000 : Int) : Rat) = 171900000 from rfl] at n
  have b1 := ca_back (p + p)
  have b2 := ca_back (250000000 - (p + p))
  rw [show (250000000 : Rat) - (250000000 - (p + p)) = p + p by grind] at b2
  rw [← ea, SA_int] at b1
  rw [← ea, CA_int] at b2
  obtain ⟨d1, d2⟩ := SCA_add p p
  have py := SA_pyth p
  refine ⟨?_, ?_, ?_, ?_⟩
  all_goals rw [← hp]
  · unfold Near e2 at k
    clear d1 d2 b1 b2 py
    grind
  · exact q.1
  · clear f k n py b1 d2 q
    unfold Near e2 at *
    generalize SA (p + p) = x1 at *
    generalize CN a = x2 at *
    rw [show CA p * SA p = SA p * CA p by grind] at d1
    generalize SA p * CA p = x3 at *
    constructor <;> grind
  · clear f k n b2 d1 q
    unfold Near e2 ep at *
    generalize CA (p + p) = x1 at *
    generalize SN a = x2 at *
    generalize SA p * SA p = x3 at *
    generalize CA p * CA p = x4 at *
    constructor <;> grind
/-- The radius is a tangent. -/
structure AstV (a : Int) : Prop where
  y : 58 / 1000 ≤ 1 + SN a
  v0 : -(1 / 1000000) ≤ astV a
  v1 : astV a ≤ 7000000
  t : Near (astV a * CA ((250000000 - (a : Rat)) / 2)) (1000000 * SA ((250000000 - (a : Rat)) / 2)) (1 / 1000000000)
theorem ast_v {a : Int} (h0 : -195000000 ≤ a) (h1 : a ≤ 250000000) : AstV a := by
  obtain ⟨c0, s0, cn, sn⟩ := ast_t h0 h1
  suffices H : 58 / 1000 ≤ 1 + SN a ∧ -(1 / 1000000) ≤ astV a ∧ astV a ≤ 7000000 ∧ Near (astV a * CA ((250000000 - (a : Rat)) / 2)) (1000000 * SA ((250000000 - (a : Rat)) / 2)) (1 / 1000000000) from ⟨H.1, H.2.1, H.2.2.1, H.2.2.2⟩
  generalize (250000000 - (a : Rat)) / 2 = p at *
  have cb := CA_le p; have sb := SA_le p; have nb := CN_le a
  have cc := Rat.mul_nonneg (show 0 ≤ CA p - 1718 / 10000 by grind) (show 0 ≤ CA p - 1718 / 10000 by grind)
  have e0 : (CA p - 1718 / 10000) * (CA p - 1718 / 10000) = CA p * CA p - 3436 / 10000 * CA p + 1718 / 10000 * (1718 / 10000) := by grind
  rw [e0] at cc
  have y : 58 / 1000 ≤ 1 + SN a := by
    clear s0 cn sb nb e0
    unfold Near at sn
    generalize CA p * CA p = z at *
    grind
  have ev : astV a * (1 + SN a) = 1000000 * CN a := by unfold astV; exact rq_eq (by grind)
  generalize astV a = V at *
  generalize hY : 1 + SN a = Y at *
  clear hY
  -- a rough bound
  have vb : -20000000 ≤ V ∧ V ≤ 20000000 := by
    unfold ep at nb
    constructor
    · apply Rat.not_lt.1
      intro l
      have := Rat.mul_nonneg (show 0 ≤ -20000000 - V by grind) (show 0 ≤ Y - 58 / 1000 by grind)
      have e : (-20000000 - V) * (Y - 58 / 1000) = -20000000 * Y - V * Y + 20000000 * (58 / 1000) + 58 / 1000 * V := by grind
      rw [e, ev] at this
      clear e ev cn sn cc e0
      grind
    · apply Rat.not_lt.1
      intro l
      have := Rat.mul_nonneg (show 0 ≤ V - 20000000 by grind) (show 0 ≤ Y - 58 / 1000 by grind)
      have e : (V - 20000000) * (Y - 58 / 1000) = V * Y - 20000000 * Y - 58 / 1000 * V + 20000000 * (58 / 1000) := by grind
      rw [e, ev] at this
      clear e ev cn sn cc e0
      grind
  -- the product
  have m := rmul_bd (a := V) (b := Y - 2 * (CA p * CA p)) (A := 20000000) (B := 1 / 1000000000000000000000000) vb (by unfold Near at sn; constructor <;> grind)
  have ew : V * (Y - 2 * (CA p * CA p)) = V * Y - 2 * (CA p * (V * CA p)) := by grind
  rw [ew, ev] at m
  obtain ⟨w, hw⟩ : ∃ w, w = V * CA p - 1000000 * SA p := ⟨_, rfl⟩
  have ex : CA p * (V * CA p) = CA p * w + 1000000 * (SA p * CA p) := by rw [hw]; grind
  rw [ex] at m
  have cw : -(1 / 10000000000) ≤ CA p * w ∧ CA p * w ≤ 1 / 10000000000 := by
    clear ew ex hw ev cc e0 cb sb nb
    unfold Near at cn
    generalize CA p * w = z at *
    generalize SA p * CA p = z2 at *
    constructor <;> grind
  have wb : -(1 / 1000000000) ≤ w ∧ w ≤ 1 / 1000000000 := by
    constructor
    · apply Rat.not_lt.1
      intro l
      have := Rat.mul_nonneg (show 0 ≤ CA p - 1718 / 10000 by grind) (show 0 ≤ -w by grind)
      have e : (CA p - 1718 / 10000) * -w = -(CA p * w) + 1718 / 10000 * w := by grind
      rw [e] at this
      clear e ew ex hw ev cc e0 m cn sn
      grind
    · apply Rat.not_lt.1
      intro l
      have := Rat.mul_nonneg (show 0 ≤ CA p - 1718 / 10000 by grind) (show 0 ≤ w by grind)
      have e : (CA p - 1718 / 10000) * w = CA p * w - 1718 / 10000 * w := by grind
      rw [e] at this
      clear e ew ex hw ev cc e0 m cn sn
      grind
  have tt : Near (V * CA p) (1000000 * SA p) (1 / 1000000000) := by unfold Near; constructor <;> grind
  refine ⟨y, ?_, ?_, tt⟩
  · apply Rat.not_lt.1
    intro l
    have := Rat.mul_nonneg (show 0 ≤ CA p - 1718 / 10000 by grind) (show 0 ≤ -V by grind)
    have e : (CA p - 1718 / 10000) * -V = -(V * CA p) + 1718 / 10000 * V := by grind
    rw [e] at this
    unfold Near at tt
    clear e ew ex hw ev cc e0 m cn sn cw wb
    generalize V * CA p = z at *
    grind
  · apply Rat.not_lt.1
    intro l
    have := Rat.mul_nonneg (show 0 ≤ CA p - 1718 / 10000 by grind) (show 0 ≤ V by grind)
    have e : (CA p - 1718 / 10000) * V = V * CA p - 1718 / 10000 * V := by grind
    rw [e] at this
    unfold Near at tt
    unfold ep at sb
    clear e ew ex hw ev cc e0 m cn sn cw wb
    generalize V * CA p = z at *
    grind
/-- A greater declination has a lesser circle. -/
theorem ast_falls {a b : Int} (h0 : -195000000 ≤ a) (h : a ≤ b) (h1 : b ≤ 250000000) : astV b ≤ astV a + 1 / 1000000 ∧ (10000 ≤ b - a → astV b + 31 ≤ astV a) := by
  obtain ⟨ca, sa, -, -⟩ := ast_t h0 (show a ≤ 250000000 by omega)
  obtain ⟨cb, sb, -, -⟩ := ast_t (show -195000000 ≤ b by omega) h1
  obtain ⟨-, -, -, ta⟩ := ast_v h0 (show a ≤ 250000000 by omega)
  obtain ⟨-, -, -, tb⟩ := ast_v (show -195000000 ≤ b by omega) h1
  have l := Rat.intCast_le_intCast.2 h0
  have u := Rat.intCast_le_intCast.2 h1
  have o := Rat.intCast_le_intCast.2 h
  rw [show ((-195000000 : Int) : Rat) = -195000000 from rfl] at l
  rw [show ((250000000 : Int) : Rat) = 250000000 from rfl] at u
  obtain ⟨p, hp⟩ : ∃ p, p = (250000000 - (a : Rat)) / 2 := ⟨_, rfl⟩
  obtain ⟨q, hq⟩ : ∃ q, q = (250000000 - (b : Rat)) / 2 := ⟨_, rfl⟩
  obtain ⟨d, hd⟩ : ∃ d, d = p - q := ⟨_, rfl⟩
  have d0 : 0 ≤ d := by grind
  have d1 : d ≤ 222500000 := by grind
  have sd := (sa_pos (x := d) d0 (by grind)).1
  have big : 10000 ≤ b - a → 3140 / 100000000 ≤ SA d := fun g => by
    have g' := Rat.intCast_le_intCast.2 g
    rw [Rat.intCast_sub, show ((10000 : Int) : Rat) = 10000 from rfl] at g'
    have n := ast_lo ast_num.1.2
    rw [show ((5000 : Int) : Rat) = 5000 from rfl, show ((31410 : Int) : Rat) = 31410 from rfl] at n
    have w := sa_grow (x := 5000) (y := d) (by grind) (by grind) (by grind)
    grind
  have ad := (SCA_add p (-q)).1
  rw [show p + -q = d by grind] at ad
  obtain ⟨n1, n2⟩ := SCA_neg q
  rw [← hp] at ca sa ta
  rw [← hq] at cb sb tb
  have pb := SA_le p; have pc := CA_le p; have qc := CA_le q
  have m1 := rmul_bd (a := SA p) (b := CA (-q) - CA q) (B := e2) pb (by unfold Near at n2; constructor <;> grind)
  have m2 := rmul_bd (a := CA p) (b := SA (-q) + SA q) (B := e2) pc (by unfold Near at n1; constructor <;> grind)
  have x1 := rmul_bd (a := CA q) (b := astV a * CA p - 1000000 * SA p) (B := 1 / 1000000000) qc (by unfold Near at ta; constructor <;> grind)
  have x2 := rmul_bd (a := CA p) (b := astV b * CA q - 1000000 * SA q) (B := 1 / 1000000000) pc (by unfold Near at tb; constructor <;> grind)
  obtain ⟨D, hD⟩ : ∃ D, D = astV a - astV b := ⟨_, rfl⟩
  have key : Near (D * (CA p * CA q)) (1000000 * SA d) (1 / 100000000) := by
    have e1 : D * (CA p * CA q) = CA q * (astV a * CA p - 1000000 * SA p) - CA p * (astV b * CA q - 1000000 * SA q) + 1000000 * (SA p * CA q - CA p * SA q) := by rw [hD]; grind
    have e2' : SA p * CA (-q) + CA p * SA (-q) = SA p * (CA (-q) - CA q) + CA p * (SA (-q) + SA q) + (SA p * CA q - CA p * SA q) := by grind
    rw [e2'] at ad
    rw [e1]
    clear e1 e2' hD ta tb n1 n2
    unfold Near e2 ep at *
    generalize CA q * (astV a * CA p - 1000000 * SA p) = z1 at *
    generalize CA p * (astV b * CA q - 1000000 * SA q) = z2 at *
    generalize SA p * (CA (-q) - CA q) = z3 at *
    generalize CA p * (SA (-q) + SA q) = z4 at *
    generalize SA p * CA q - CA p * SA q = z5 at *
    generalize SA d = z6 at *
    constructor <;> grind
  have cc := rmul_bd (a := CA p) (b := CA q) pc qc
  have c0 := Rat.mul_nonneg (show 0 ≤ CA p - 1718 / 10000 by grind) (show 0 ≤ CA q - 1718 / 10000 by grind)
  have ec : (CA p - 1718 / 10000) * (CA q - 1718 / 10000) = CA p * CA q - 1718 / 10000 * CA p - 1718 / 10000 * CA q + 1718 / 10000 * (1718 / 10000) := by grind
  rw [ec] at c0
  have cl : 29 / 1000 ≤ CA p * CA q := by clear key cc; generalize CA p * CA q = z at *; grind
  have cu : CA p * CA q ≤ 1 + 1 / 100000000000000000000 := by
    have := cc.2; unfold ep at this; grind
  clear c0 ec cc x1 x2 m1 m2 ad ta tb
  generalize CA p * CA q = c at *
  rw [show astV a = astV b + D by rw [hD]; grind]
  clear hD
  unfold Near at key
  constructor
  · apply Rat.not_lt.1
    intro lt
    have := Rat.mul_nonneg (show 0 ≤ -D - 1 / 1000000 by grind) (show 0 ≤ c - 29 / 1000 by grind)
    have e : (-D - 1 / 1000000) * (c - 29 / 1000) = -(D * c) - 1 / 1000000 * c + 29 / 1000 * D + 29 / 1000 / 1000000 := by grind
    rw [e] at this
    clear e big
    generalize D * c = z at *
    grind
  · intro g
    have s := big g
    apply Rat.not_lt.1
    intro lt
    by_cases dd : 0 ≤ D
    · have := Rat.mul_nonneg dd (show 0 ≤ 1 + 1 / 100000000000000000000 - c by grind)
      have e : D * (1 + 1 / 100000000000000000000 - c) = D * (1 + 1 / 100000000000000000000) - D * c := by grind
      rw [e] at this
      clear e big
      generalize D * c = z at *
      grind
    · have := Rat.mul_nonneg (show 0 ≤ -D by grind) (show 0 ≤ c by grind)
      have e : -D * c = -(D * c) := by grind
      rw [e] at this
      clear e big
      generalize D * c = z at *
      grind
/-- The distance and the radius of the circle of an altitude, together: the tangent again. -/
structure AstM (f l : Int) : Prop where
  y : 58 / 1000 ≤ SN f + SN l
  d0 : -7000000 ≤ 1000000 * CN f / (SN f + SN l) ∧ 1000000 * CN f / (SN f + SN l) ≤ 7000000
  r0 : -7000000 ≤ 1000000 * CN l / (SN f + SN l) ∧ 1000000 * CN l / (SN f + SN l) ≤ 7000000
  m : Near (1000000 * CN f / (SN f + SN l) + 1000000 * CN l / (SN f + SN l)) (astV (f + l - 250000000)) (1 / 10000000)
theorem quo_bd {x y : Rat} (hy : 3 / 10 ≤ y) (hx : -2 ≤ x ∧ x ≤ 2) : -7000000 ≤ 1000000 * x / y ∧ 1000000 * x / y ≤ 7000000 := by
  have e : 1000000 * x / y * y = 1000000 * x := rq_eq (by grind)
  generalize 1000000 * x / y = q at *
  constructor
  · apply Rat.not_lt.1
    intro l
    have := Rat.mul_nonneg (show 0 ≤ -7000000 - q by grind) (show 0 ≤ y - 3 / 10 by grind)
    have e' : (-7000000 - q) * (y - 3 / 10) = -7000000 * y - q * y + 7000000 * (3 / 10) + 3 / 10 * q := by grind
    rw [e', e] at this
    clear e e'
    grind
  · apply Rat.not_lt.1
    intro l
    have := Rat.mul_nonneg (show 0 ≤ q - 7000000 by grind) (show 0 ≤ y - 3 / 10 by grind)
    have e' : (q - 7000000) * (y - 3 / 10) = q * y - 7000000 * y - 3 / 10 * q + 7000000 * (3 / 10) := by grind
    rw [e', e] at this
    clear e e'
    grind
theorem ast_m {f l : Int} (f0 : 60000000 ≤ f) (f1 : f ≤ 160000000) (l0 : 0 ≤ l) (l1 : l ≤ 150000000) : AstM f l := by
  have hf0 := Rat.intCast_le_intCast.2 f0
  have hf1 := Rat.intCast_le_intCast.2 f1
  have hl0 := Rat.intCast_le_intCast.2 l0
  have hl1 := Rat.intCast_le_intCast.2 l1
  rw [show ((60000000 : Int) : Rat) = 60000000 from rfl] at hf0
  rw [show ((160000000 : Int) : Rat) = 160000000 from rfl] at hf1
  rw [show ((0 : Int) : Rat) = 0 from rfl] at hl0
  rw [show ((150000000 : Int) : Rat) = 150000000 from rfl] at hl1
  have n1 := ast_lo ast_num.2.1
  have n2 := ast_lo ast_num.2.2
  rw [show ((60000000 : Int) : Rat) = 60000000 from rfl, show ((368000000 : Int) : Rat) = 368000000 from rfl] at n1
  rw [show ((170000000 : Int) : Rat) = 170000000 from rfl, show ((876000000 : Int) : Rat) = 876000000 from rfl] at n2
  have g1 := sa_grow (x := 60000000) (y := (f : Rat)) (by grind) hf0 (by grind)
  rw [SA_int] at g1
  have g2 := (sa_pos (x := (l : Rat)) hl0 (by grind)).1
  rw [SA_int] at g2
  have cf := CN_le f; have cl := CN_le l
  have Y : 367 / 1000 ≤ SN f + SN l := by clear n2; grind
  obtain ⟨-, -, -, vt⟩ := ast_v (a := f + l - 250000000) (by omega) (by omega)
  obtain ⟨c0, -, -, -⟩ := ast_t (a := f + l - 250000000) (by omega) (by omega)
  have ep' : ((f + l - 250000000 : Int) : Rat) = (f : Rat) + (l : Rat) - 250000000 := by
    rw [Rat.intCast_sub, Rat.intCast_add, show ((250000000 : Int) : Rat) = 250000000 from rfl]
  rw [ep'] at vt c0
  obtain ⟨s, hs⟩ : ∃ s, s = ((f : Rat) + (l : Rat)) / 2 := ⟨_, rfl⟩
  obtain ⟨t, ht⟩ : ∃ t, t = ((f : Rat) - (l : Rat)) / 2 := ⟨_, rfl⟩
  rw [show (250000000 - ((f : Rat) + (l : Rat) - 250000000)) / 2 = 250000000 - s by rw [hs]; grind] at vt c0
  have k1 := ca_back s
  have k2 := ca_back (250000000 - s)
  rw [show (250000000 : Rat) - (250000000 - s) = s by grind] at k2
  -- the sums
  have ef : (f : Rat) = s + t := by grind
  have el' : (l : Rat) = s + -t := by grind
  obtain ⟨a1, a2⟩ := SCA_add s t
  obtain ⟨b1, b2⟩ := SCA_add s (-t)
  rw [← ef, SA_int] at a1
  rw [← ef, CA_int] at a2
  rw [← el', SA_int] at b1
  rw [← el', CA_int] at b2
  obtain ⟨m1, m2⟩ := SCA_neg t
  have sS := SA_le s; have sC := CA_le s
  have p1 := rmul_bd (a := SA s) (b := CA (-t) - CA t) (B := e2) sS (by unfold Near at m2; constructor <;> grind)
  have p2 := rmul_bd (a := CA s) (b := SA (-t) + SA t) (B := e2) sC (by unfold Near at m1; constructor <;> grind)
  have p3 := rmul_bd (a := CA s) (b := CA (-t) - CA t) (B := e2) sC (by unfold Near at m2; constructor <;> grind)
  have p4 := rmul_bd (a := SA s) (b := SA (-t) + SA t) (B := e2) sS (by unfold Near at m1; constructor <;> grind)
  have S : Near (SN f + SN l) (2 * (SA s * CA t)) (1 / 1000000000000000000000) := by
    clear vt c0 k1 k2 g1 g2 n1 n2 Y a2 b2 m1 m2 p3 p4
    unfold Near e2 ep at *
    generalize SA (-t) = x1 at *
    generalize CA (-t) = x2 at *
    generalize SN f = x3 at *
    generalize SN l = x4 at *
    constructor <;> grind
  have C : Near (CN f + CN l) (2 * (CA s * CA t)) (1 / 1000000000000000000000) := by
    clear vt c0 k1 k2 g1 g2 n1 n2 Y a1 b1 m1 m2 p1 p2 S
    unfold Near e2 ep at *
    generalize SA (-t) = x1 at *
    generalize CA (-t) = x2 at *
    generalize CN f = x3 at *
    generalize CN l = x4 at *
    constructor <;> grind
  have T : 87 / 100 ≤ CA t := by
    by_cases c : 0 ≤ t
    · have w := ca_fall (x := t) (y := 80000000) c (by grind) (by grind)
      have k := ca_back 80000000
      rw [show (250000000 : Rat) - 80000000 = 170000000 by grind] at k
      unfold Near e2 at k
      clear S C vt k1 k2 a1 a2 b1 b2 p1 p2 p3 p4 m1 m2
      grind
    · have w := ca_fall (x := -t) (y := 80000000) (by grind) (by grind) (by grind)
      have k := ca_back 80000000
      rw [show (250000000 : Rat) - 80000000 = 170000000 by grind] at k
      have m := (SCA_neg t).2
      unfold Near e2 at k m
      clear S C vt k1 k2 a1 a2 b1 b2 p1 p2 p3 p4 m1 m2
      grind
  clear a1 a2 b1 b2 p1 p2 p3 p4 m1 m2 n1 n2 g1 g2 ef el'
  have tb := CA_le t
  have d0 := quo_bd (x := CN f) (y := SN f + SN l) (by grind) (by unfold ep at cf; constructor <;> grind)
  have r0 := quo_bd (x := CN l) (y := SN f + SN l) (by grind) (by unfold ep at cl; constructor <;> grind)
  have e1 : 1000000 * CN f / (SN f + SN l) * (SN f + SN l) = 1000000 * CN f := rq_eq (by grind)
  have e2' : 1000000 * CN l / (SN f + SN l) * (SN f + SN l) = 1000000 * CN l := rq_eq (by grind)
  refine ⟨by grind, d0, r0, ?_⟩
  generalize 1000000 * CN f / (SN f + SN l) = D at *
  generalize 1000000 * CN l / (SN f + SN l) = R at *
  obtain ⟨V, hV⟩ : ∃ V, V = astV (f + l - 250000000) := ⟨_, rfl⟩
  rw [← hV] at vt ⊢
  have vb : -(1 / 1000000) ≤ V ∧ V ≤ 7000000 := by
    obtain ⟨-, v0, v1, -⟩ := ast_v (a := f + l - 250000000) (by omega) (by omega)
    rw [hV]; exact ⟨v0, v1⟩
  clear hV
  -- V SA s = 10^6 CA s
  have x1 := rmul_bd (a := V) (b := CA (250000000 - s) - SA s) (A := 7000000) (B := 3 * e2) (by constructor <;> grind) (by unfold Near at k2; constructor <;> grind)
  have vs : Near (V * SA s) (1000000 * CA s) (2 / 1000000000) := by
    rw [show V * (CA (250000000 - s) - SA s) = V * CA (250000000 - s) - V * SA s by grind] at x1
    clear S C T tb d0 r0 e1 e2' c0
    unfold Near e2 at *
    generalize V * CA (250000000 - s) = z1 at *
    generalize V * SA s = z2 at *
    constructor <;> grind
  have ss : 1717 / 10000 ≤ SA s := by
    unfold Near e2 at k2
    clear S C vt vs x1 e1 e2'
    grind
  -- (D + R) SA s CA t = 10^6 CA s CA t
  obtain ⟨G, hG⟩ : ∃ G, G = D + R - V := ⟨_, rfl⟩
  have y1 := rmul_bd (a := D + R) (b := SN f + SN l - 2 * (SA s * CA t)) (A := 14000000) (B := 1 / 1000000000000000000000) (by constructor <;> grind) (by unfold Near at S; constructor <;> grind)
  have y2 := rmul_bd (a := CA t) (b := V * SA s - 1000000 * CA s) (B := 2 / 1000000000) tb (by unfold Near at vs; constructor <;> grind)
  have key : -(1 / 100000000) ≤ CA t * (G * SA s) ∧ CA t * (G * SA s) ≤ 1 / 100000000 := by
    have id1 : (D + R) * (SN f + SN l - 2 * (SA s * CA t)) = D * (SN f + SN l) + R * (SN f + SN l) - 2 * (CA t * ((D + R) * SA s)) := by grind
    rw [id1, e1, e2'] at y1
    have id2 : CA t * (V * SA s - 1000000 * CA s) = CA t * (V * SA s) - 1000000 * (CA s * CA t) := by grind
    rw [id2] at y2
    have id3 : CA t * (G * SA s) = CA t * ((D + R) * SA s) - CA t * (V * SA s) := by rw [hG]; grind
    rw [id3]
    clear id1 id2 id3 hG x1 vs S k1 k2 e1 e2' vt
    unfold Near ep at *
    generalize CA t * ((D + R) * SA s) = z1 at *
    generalize CA t * (V * SA s) = z2 at *
    generalize CA s * CA t = z3 at *
    constructor <;> grind
  have pr := Rat.mul_nonneg (show 0 ≤ CA t - 87 / 100 by grind) (show 0 ≤ SA s - 1717 / 10000 by grind)
  have ep2 : (CA t - 87 / 100) * (SA s - 1717 / 10000) = CA t * SA s - 1717 / 10000 * CA t - 87 / 100 * SA s + 87 / 100 * (1717 / 10000) := by grind
  rw [ep2] at pr
  have c14 : 14 / 100 ≤ CA t * SA s := by
    clear key y1 y2 x1 vs S C vt e1 e2' ep2 k1 k2
    generalize CA t * SA s = z at *
    grind
  rw [show CA t * (G * SA s) = G * (CA t * SA s) by grind] at key
  generalize CA t * SA s = c at *
  have gb : -(1 / 10000000) ≤ G ∧ G ≤ 1 / 10000000 := by
    clear y1 y2 x1 vs S C vt e1 e2' ep2 k1 k2 pr hG
    constructor
    · apply Rat.not_lt.1
      intro lt
      have := Rat.mul_nonneg (show 0 ≤ -G by grind) (show 0 ≤ c - 14 / 100 by grind)
      rw [show -G * (c - 14 / 100) = -(G * c) + 14 / 100 * G by grind] at this
      generalize G * c = z at *
      grind
    · apply Rat.not_lt.1
      intro lt
      have := Rat.mul_nonneg (show 0 ≤ G by grind) (show 0 ≤ c - 14 / 100 by grind)
      rw [show G * (c - 14 / 100) = G * c - 14 / 100 * G by grind] at this
      generalize G * c = z at *
      grind
  unfold Near
  constructor <;> grind
end Go.Proofs.YtcopmgnfakjdhaaDoor
