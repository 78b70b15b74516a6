/- math.Copysign, IsInf, Atan2 at whole numbers; trig.direction. -/
import Derived.Test.YtcopmgnfakjdhaaDoorAtanW
namespace Go.Proofs.YtcopmgnfakjdhaaDoor
open Go.RowKit
set_option linter.unusedSimpArgs false
set_option linter.unusedVariables false

theorem sgn_bit {y : Nat} (hf : Fin y) : (fv y < 0 → y / 2 ^ 63 % 2 = 1) ∧ (0 < fv y → y / 2 ^ 63 % 2 = 0) := by
  obtain ⟨s, m, p, hr⟩ := hf
  have hs : s = (y / 2 ^ 63 % 2 == 1) := by
    have hsw : Ieee.double.signWeight = 2 ^ 63 := rfl
    unfold Ieee.Format.read at hr
    dsimp only at hr
    rw [hsw] at hr
    by_cases c1 : y % 2 ^ 63 < Ieee.double.binade
    · rw [if_pos c1] at hr
      cases hr; rfl
    · rw [if_neg c1] at hr
      by_cases c2 : y % 2 ^ 63 < Ieee.double.infRung
      · rw [if_pos c2] at hr
        cases hr; rfl
      · rw [if_neg c2] at hr
        split at hr <;> cases hr
  rw [fv_fin hr]
  have h1 : 0 ≤ (m : Rat) * (2 : Rat) ^ p := Rat.mul_nonneg (nat_nonneg m) (Rat.le_of_lt (p2_pos p))
  rw [Rat.mul_assoc]
  generalize (m : Rat) * (2 : Rat) ^ p = v at *
  cases s
  · rw [sg_f]
    refine ⟨fun h => by grind, fun _ => ?_⟩
    have := hs.symm
    rw [beq_eq_false_iff_ne] at this
    omega
  · rw [sg_t]
    refine ⟨fun _ => ?_, fun h => by grind⟩
    have := hs.symm
    rw [beq_iff_eq] at this
    exact this
theorem and_p63 (A : Nat) : A &&& 2 ^ 63 = A / 2 ^ 63 % 2 * 2 ^ 63 := by
  have h1 : (A &&& 2 ^ 63) / 2 ^ 63 = A / 2 ^ 63 % 2 := by rw [Nat.and_div_two_pow, show 2 ^ 63 / 2 ^ 63 = 1 by decide, Nat.and_one_is_mod]
  have h2 : (A &&& 2 ^ 63) % 2 ^ 63 = 0 := by rw [Nat.and_mod_two_pow, show 2 ^ 63 % 2 ^ 63 = 0 by decide, Nat.and_zero]
  omega
set_option maxRecDepth 100000 in
theorem and_bits (x : Nat) : bits .and .u64 (x : Int) 9223372036854775808 = (((x / 2 ^ 63 % 2) * 2 ^ 63 : Nat) : Int) := by
  have hx : (BitVec.ofInt 64 (x : Int)).toNat = x % 2 ^ 64 := by simp
  have hc : (BitVec.ofInt 64 9223372036854775808).toNat = 2 ^ 63 := by decide
  have e : (BitVec.ofInt 64 (x : Int) &&& BitVec.ofInt 64 9223372036854775808).toNat = (x / 2 ^ 63 % 2) * 2 ^ 63 := by
    rw [BitVec.toNat_and, hx, hc, and_p63]
    have : x % 2 ^ 64 / 2 ^ 63 % 2 = x / 2 ^ 63 % 2 := by omega
    rw [this]
  show IntKind.u64.wrap ((BitVec.ofInt 64 (x : Int) &&& BitVec.ofInt 64 9223372036854775808).toNat : Nat) = _
  rw [e]
  rcases Nat.mod_two_eq_zero_or_one (x / 2 ^ 63) with c | c <;> rw [c] <;> decide
set_option maxRecDepth 100000 in
theorem copysign_ok (v y r b : Nat) (hb : y / 2 ^ 63 % 2 * 2 ^ 63 = b) (hr : bits .or .u64 ((fabs v : Nat) : Int) (b : Int) = (r : Int)) (w : World) :
    Calls Tryd.prog 79 #[.float .f64 v, .float .f64 y] w fun e w' => e = .returned (.float .f64 r) ∧ w' = w := by
  have h1 := fbits_run v
  have h4 := fbits_run y
  have h2 := ffrom_run r
  have h3 : bits .andNot .u64 (v : Int) 9223372036854775808 = ((fabs v : Nat) : Int) := abs_bitsV v
  have h5 : bits .and .u64 (y : Int) 9223372036854775808 = (b : Int) := by rw [and_bits, hb]
  generalize fabs v = z at *
  clear hb
  go_enter Tryd.func79, Tryd.ntmps79
  go_wp2
  go_ret
  exact ⟨rfl, rfl⟩
theorem max_gt2 {x : Nat} (hx : Fin x) (h : fv x ≤ 1000000000000000000) : Ieee.double.order x 9218868437227405311 = some .lt := by
  have hr : Ieee.double.read 9218868437227405311 = .number false 9007199254740991 971 := by decide
  refine ford_lt hx ⟨_, _, _, hr⟩ ?_
  rw [fv_fin hr, sg_f]
  have h1 := p2_le (i := 20) (j := 971) (by omega)
  have e : ((9007199254740991 : Nat) : Rat) = 9007199254740991 := rfl
  have e2 : (2 : Rat) ^ (20 : Int) = 1048576 := by
    have : (2 : Rat) ^ ((20 : Nat) : Int) = (2 : Rat) ^ 20 := p2_nat 20
    rw [show (20 : Int) = ((20 : Nat) : Int) from rfl, this]; rfl
  rw [e2] at h1
  rw [e]
  generalize (2 : Rat) ^ (971 : Int) = v at *
  grind
theorem isInf_big (x : Nat) (h : Fin x) (h1 : -1000000000000000000 ≤ fv x) (h2 : fv x ≤ 1000000000000000000) (w : World) : Calls Tryd.prog 46 #[.float .f64 x, .int .i64 0] w fun e w' => e = .returned (.bool false) ∧ w' = w := by
  obtain ⟨f1, f2, f3, f4⟩ := fabs_ok h
  have hle : fv (fabs x) ≤ 1000000000000000000 := by
    rcases Rat.le_total (a := 0) (b := fv x) with c | c
    · rw [f3 c]; exact h2
    · rw [f4 c]; grind
  have ho : FloatKind.f64.format.order (fabs x) 9218868437227405311 = some .lt := max_gt2 f1 hle
  have ha := abs_ok x
  generalize fabs x = y at *
  clear f1 f2 f3 f4 hle h1 h2 h
  have HA := Lib.hid ha
  clear ha
  go_enter Tryd.func46, Tryd.ntmps46
  go_wp2_with fail
  refine Calls.mono (HA.out _) ?_
  rintro e _ ⟨rfl, rfl⟩
  go_wp2
  go_ret
  exact ⟨rfl, rfl⟩
/-- The word of a whole number. -/
def iw (n : Int) : Nat := floatOfInt .f64 n
/-- A whole number that a word holds exactly. -/
def Sml (n : Int) : Prop := -9007199254740992 < n ∧ n < 9007199254740992
theorem iw_ok {n : Int} (h : Sml n) : Fin (iw n) ∧ fv (iw n) = (n : Rat) := fint_ok n h.1 h.2
theorem sml_bd {n : Int} (h : Sml n) : -9007199254740992 ≤ (n : Rat) ∧ (n : Rat) ≤ 9007199254740992 := by
  have e1 : ((-9007199254740992 : Int) : Rat) = -9007199254740992 := rfl
  have e2 : ((9007199254740992 : Int) : Rat) = 9007199254740992 := rfl
  rw [← e1, ← e2]
  exact ⟨Rat.intCast_le_intCast.2 (by have := h.1; omega), Rat.intCast_le_intCast.2 (by have := h.2; omega)⟩
theorem int_pos {n : Int} (h : 0 < n) : (1 : Rat) ≤ (n : Rat) := by
  have e1 : ((1 : Int) : Rat) = 1 := rfl
  rw [← e1]; exact Rat.intCast_le_intCast.2 h
theorem int_neg {n : Int} (h : n < 0) : (n : Rat) ≤ -1 := by
  have e1 : ((-1 : Int) : Rat) = -1 := rfl
  rw [← e1]; exact Rat.intCast_le_intCast.2 (by omega)
theorem iw_ord {n : Int} (h : Sml n) : (n = 0 → FloatKind.f64.format.order (iw n) 0 = some .eq) ∧ (0 < n → FloatKind.f64.format.order (iw n) 0 = some .gt) ∧ (n < 0 → FloatKind.f64.format.order (iw n) 0 = some .lt) := by
  obtain ⟨f, v⟩ := iw_ok h
  refine ⟨fun e => ?_, fun e => ?_, fun e => ?_⟩
  · exact ford_eq f fin_zero.1 (by rw [v, fin_zero.2, e]; rfl)
  · exact ford_gt f fin_zero.1 (by rw [v, fin_zero.2]; have := int_pos e; grind)
  · exact ford_lt f fin_zero.1 (by rw [v, fin_zero.2]; have := int_neg e; grind)
theorem iw_bit {n : Int} (h : Sml n) : (n < 0 → iw n / 2 ^ 63 % 2 = 1) ∧ (0 < n → iw n / 2 ^ 63 % 2 = 0) := by
  obtain ⟨f, v⟩ := iw_ok h
  have b := sgn_bit f
  rw [v] at b
  exact ⟨fun e => b.1 (by have := int_neg e; grind), fun e => b.2 (by have := int_pos e; grind)⟩
theorem rat_quot_pos {Y X : Rat} (h1 : 1 ≤ Y) (h2 : Y ≤ 9007199254740992) (h3 : 1 ≤ X) (h4 : X ≤ 9007199254740992) : 1 / 9007199254740992 ≤ Y / X ∧ Y / X ≤ 9007199254740992 := by
  have e : Y = Y / X * X := by grind
  generalize Y / X = q at *
  subst e
  constructor
  · apply Rat.not_lt.1
    intro h
    have := Rat.mul_lt_mul_of_pos_right h (show 0 < X by grind)
    grind
  · apply Rat.not_lt.1
    intro h
    have := Rat.mul_lt_mul_of_pos_right h (show 0 < X by grind)
    grind
/-- The quotient of two whole numbers other than 0. -/
structure QuotOk (Y X : Int) : Prop where
  is : floatBits .quo .f64 (iw Y) (iw X) = some (fdiv (iw Y) (iw X))
  fin : Fin (fdiv (iw Y) (iw X))
  pos : (0 < Y ∧ 0 < X ∨ Y < 0 ∧ X < 0) → 1 / 10000000000000000 ≤ fv (fdiv (iw Y) (iw X)) ∧ fv (fdiv (iw Y) (iw X)) ≤ 10000000000000000 ∧ Near (fv (fdiv (iw Y) (iw X))) ((Y : Rat) / (X : Rat)) ((Y : Rat) / (X : Rat) / 2251799813685248)
  neg : (0 < Y ∧ X < 0 ∨ Y < 0 ∧ 0 < X) → fv (fdiv (iw Y) (iw X)) ≤ -(1 / 10000000000000000) ∧ -10000000000000000 ≤ fv (fdiv (iw Y) (iw X)) ∧ Near (fv (fdiv (iw Y) (iw X))) ((Y : Rat) / (X : Rat)) (-((Y : Rat) / (X : Rat)) / 2251799813685248)
theorem quot_is {Y X : Int} (hY : Sml Y) (hX : Sml X) (h0 : Y ≠ 0) (h1 : X ≠ 0) : QuotOk Y X := by
  obtain ⟨f1, v1⟩ := iw_ok hY
  obtain ⟨f2, v2⟩ := iw_ok hX
  have b1 := sml_bd hY; have b2 := sml_bd hX
  by_cases c1 : 0 < Y
  · have p1 := int_pos c1
    by_cases c2 : 0 < X
    · have p2 := int_pos c2
      have q := rat_quot_pos p1 b1.2 p2 b2.2
      have o := fdiv_ok f1 f2 (by rw [v2]; grind) ((Y : Rat) / (X : Rat)) (mid_of (by grind) (by grind)) (by rw [v1, v2]; grind) (by rw [v1, v2]; grind)
      obtain ⟨o1, o2, o3⟩ := o
      rw [v1, v2] at o3
      refine ⟨o1, o2, fun _ => ⟨?_, ?_, o3⟩, fun h => absurd h (by omega)⟩
      · unfold Near at o3; grind
      · unfold Near at o3; grind
    · have p2 := int_neg (show X < 0 by omega)
      have q := rat_quot_pos p1 b1.2 (show 1 ≤ -(X : Rat) by grind) (by grind)
      have e : (Y : Rat) / (X : Rat) = -((Y : Rat) / (-(X : Rat))) := by grind
      have o := fdiv_ok f1 f2 (by rw [v2]; grind) ((Y : Rat) / (-(X : Rat))) (mid_of (by grind) (by grind)) (by rw [v1, v2, e]; grind) (by rw [v1, v2, e]; grind)
      obtain ⟨o1, o2, o3⟩ := o
      rw [v1, v2] at o3
      rw [show (Y : Rat) / (-(X : Rat)) = -((Y : Rat) / (X : Rat)) by grind] at o3 q
      refine ⟨o1, o2, fun h => absurd h (by omega), fun _ => ⟨?_, ?_, o3⟩⟩
      · unfold Near at o3; grind
      · unfold Near at o3; grind
  · have p1 := int_neg (show Y < 0 by omega)
    by_cases c2 : 0 < X
    · have p2 := int_pos c2
      have q := rat_quot_pos (show 1 ≤ -(Y : Rat) by grind) (by grind) p2 b2.2
      have e : (Y : Rat) / (X : Rat) = -((-(Y : Rat)) / (X : Rat)) := by grind
      have o := fdiv_ok f1 f2 (by rw [v2]; grind) ((-(Y : Rat)) / (X : Rat)) (mid_of (by grind) (by grind)) (by rw [v1, v2, e]; grind) (by rw [v1, v2, e]; grind)
      obtain ⟨o1, o2, o3⟩ := o
      rw [v1, v2] at o3
      rw [show (-(Y : Rat)) / (X : Rat) = -((Y : Rat) / (X : Rat)) by grind] at o3 q
      refine ⟨o1, o2, fun h => absurd h (by omega), fun _ => ⟨?_, ?_, o3⟩⟩
      · unfold Near at o3; grind
      · unfold Near at o3; grind
    · have p2 := int_neg (show X < 0 by omega)
      have q := rat_quot_pos (show 1 ≤ -(Y : Rat) by grind) (by grind) (show 1 ≤ -(X : Rat) by grind) (by grind)
      have e : (Y : Rat) / (X : Rat) = (-(Y : Rat)) / (-(X : Rat)) := by grind
      rw [← e] at q
      have o := fdiv_ok f1 f2 (by rw [v2]; grind) ((Y : Rat) / (X : Rat)) (mid_of (by grind) (by grind)) (by rw [v1, v2]; grind) (by rw [v1, v2]; grind)
      obtain ⟨o1, o2, o3⟩ := o
      rw [v1, v2] at o3
      refine ⟨o1, o2, fun _ => ⟨?_, ?_, o3⟩, fun h => absurd h (by omega)⟩
      · unfold Near at o3; grind
      · unfold Near at o3; grind
theorem XA_bd {Z c : Rat} (h1 : -c ≤ Z) (h2 : Z ≤ c) (hc : c ≤ 67 / 100) : -(33 / 25 * c) ≤ XA Z ∧ XA Z ≤ 33 / 25 * c := by
  have hz2 : 0 ≤ Z * Z := zsq Z
  have hz3 : Z * Z ≤ 449 / 1000 := zsq_le (by grind) (by grind)
  have q0 : 194 ≤ QA (Z * Z) := qa_lo hz2 bd_aQ0.1 bd_aQ1.1 bd_aQ2.1 bd_aQ3.1 bd_aQ4.1
  have q1 := pq_bd hz2 hz3 bd_aP0 bd_aP1 bd_aP2 bd_aP3 bd_aP4 q0
  have m := prod_bd h1 h2 q1.1 q1.2
  unfold XA PA
  unfold QA at *
  grind
/-- The sign of an arc. -/
theorem sat_pos {x : Nat} (hf : Fin x) (h0 : 1 / 100000000000000000 ≤ fv x) (h2 : fv x ≤ 1000000000000000000) : 0 < fv (satW x) := by
  have b := mid_le
  by_cases c1 : fv x ≤ aL
  · have e : satW x = xatW x := by unfold satW; rw [if_pos c1]
    have hx : Ap x (fv x) (1 / 1000000000000000) (67 / 100) := (Ap.exact hf (by grind) (by grind)).weak (by grind) Rat.le_refl
    have := xat_pos hx h0
    rw [e]; grind
  · by_cases c2 : aT < fv x
    · have e : satW x = fadd (fsub 4609753056924675352 (xatW (fdiv 4607182418800017408 x))) 4364452196894661639 := by unfold satW; rw [if_neg c1, if_pos c2]
      obtain ⟨-, a⟩ := sat_high hf c2 h2
      obtain ⟨_, _, _, _, _, _, _, _, _, _, _, _, _, _, _, _, _, _, _, _, _, r22, -, -, -, -, -, -, -, -, -, -, -, -, -, -, -, -, -, -, -, -, -, -, -, kr, ax⟩ := xat_ok a
      obtain ⟨-, -, a2⟩ := sat_high2 hf c2 h2
      rw [e]
      have h1 := a2.lo; have h3 := ax.bh; have h4 := bd_aH; have h5 := bd_aM
      grind
    · have e : satW x = fadd (fadd 4605249457297304856 (xatW (fdiv (fsub x 4607182418800017408) (fadd x 4607182418800017408)))) 4359948597267291143 := by unfold satW; rw [if_neg c1, if_neg c2]
      have q := div_bd (a := fv x - 1) (b := fv x + 1) (B := 42 / 100) (by grind) (by grind) (by grind)
      have m := XA_bd q.1 q.2 (by grind)
      obtain ⟨-, -, a2⟩ := sat_mid2 hf (by grind) (by grind)
      rw [e]
      have h1 := a2.lo; have h4 := bd_aF; have h5 := bd_aN
      grind
/-- The direction of a pair of whole numbers. -/
def at2W (Y X : Int) : Nat :=
  if Y = 0 then (if X < 0 then 4614256656552045848 else 0)
  else if X = 0 then (if Y < 0 then 13833125093779451160 else 4609753056924675352)
  else if X < 0 then (if Y < 0 then fsub (atW (fdiv (iw Y) (iw X))) 4614256656552045848 else fadd (atW (fdiv (iw Y) (iw X))) 4614256656552045848)
  else atW (fdiv (iw Y) (iw X))
theorem iw_zero : iw 0 = 0 := by decide
/-- The arc of a quotient, whatever its sign. -/
theorem atW_pos {q : Nat} (hf : Fin q) (h1 : 1 / 100000000000000000 ≤ fv q) (h2 : fv q ≤ 1000000000000000000) : Ap (atW q) (satV (fv q)) (1 / 100000000000000) 3 ∧ 0 < fv (atW q) := by
  have e : atW q = satW q := by unfold atW; rw [if_neg (by grind), if_pos (by grind)]
  rw [e]
  exact ⟨sat_ap hf (by grind) h2, sat_pos hf h1 h2⟩
theorem atW_neg {q : Nat} (hf : Fin q) (h1 : fv q ≤ -(1 / 100000000000000000)) (h2 : -1000000000000000000 ≤ fv q) : Ap (atW q) (-satV (-fv q)) (1 / 100000000000000) 3 ∧ fv (atW q) < 0 := by
  have e : atW q = fneg (satW (fneg q)) := by unfold atW; rw [if_neg (by grind), if_neg (by grind)]
  obtain ⟨fn, vn⟩ := fneg_ok hf
  have a := sat_ap fn (by rw [vn]; grind) (by rw [vn]; grind)
  have b := sat_pos fn (by rw [vn]; grind) (by rw [vn]; grind)
  rw [vn] at a
  rw [e]
  refine ⟨a.neg, ?_⟩
  rw [(fneg_ok a.fin).2]; grind
end Go.Proofs.YtcopmgnfakjdhaaDoor
