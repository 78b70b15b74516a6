/- Floats at this program: laws of the functions without a body; IsNaN, Abs, IsInf, Floor, Ceil. -/
import Derived.Test.YtcopmgnfakjdhaaDoorChecked
import Derived.Test.YtcopmgnfakjdhaaDoorFloat
import Derived.Test.YtcopmgnfakjdhaaDoorPlain
import Derived.Laws.Externs
namespace Go.Proofs.YtcopmgnfakjdhaaDoor
open Go.RowKit
set_option linter.unusedSimpArgs false
set_option linter.unusedVariables false

/-- The size of a word. -/
def fabs (x : Nat) : Nat := x % 2 ^ 63
theorem fbits_run (x : Nat) (w : World) : (callFunc 65 #[.float .f64 x]).run Tryd.prog w = .ok (.value (.int .u64 (x : Int))) w := by
  rw [run_callFunc_extern Tryd.func65 (by kernel_rfl) (by kernel_rfl) (by kernel_rfl) (e := Extern.MathFloatBits.float64bits) (by kernel_rfl)]; rfl
theorem ffrom_run (x : Nat) (w : World) : (callFunc 64 #[.int .u64 (x : Int)]).run Tryd.prog w = .ok (.value (.float .f64 x)) w := by
  rw [run_callFunc_extern Tryd.func64 (by kernel_rfl) (by kernel_rfl) (by kernel_rfl) (e := Extern.MathFloatBits.float64frombits) (by kernel_rfl)]; rfl
theorem toIntegral_num (name : String) (way : Ieee.Toward) {x : Nat} {s : Bool} {m : Nat} {p : Int} (h : FloatKind.f64.decode x = .number s m p) :
    Extern.MathFloor.toIntegral name way #[.float .f64 x] = pure (.float .f64 (FloatKind.f64.encode ((Ieee.Datum.number s m p).integral way))) := by
  refine (show _ = Extern.MathFloor.toIntegral.match_1 (fun _ => Sem Value) (FloatKind.f64.decode x) _ (fun d => pure (.float .f64 (FloatKind.f64.encode (d.integral way)))) from rfl).trans ?_
  rw [h]
theorem ffloor_run (x : Nat) (h : Fin x) (w : World) : (callFunc 41 #[.float .f64 x]).run Tryd.prog w = .ok (.value (.float .f64 (ffloor x))) w := by
  rw [run_callFunc_extern Tryd.func41 (by kernel_rfl) (by kernel_rfl) (by kernel_rfl) (e := Extern.MathFloor.toIntegral "math.archFloor" .down) (by kernel_rfl)]
  obtain ⟨s, m, p, hr⟩ := h
  rw [toIntegral_num _ _ hr]
  unfold ffloor
  rw [hr]; rfl
theorem fceil_run (x : Nat) (h : Fin x) (w : World) : (callFunc 43 #[.float .f64 x]).run Tryd.prog w = .ok (.value (.float .f64 (fceil x))) w := by
  rw [run_callFunc_extern Tryd.func43 (by kernel_rfl) (by kernel_rfl) (by kernel_rfl) (e := Extern.MathFloor.toIntegral "math.archCeil" .up) (by kernel_rfl)]
  obtain ⟨s, m, p, hr⟩ := h
  rw [toIntegral_num _ _ hr]
  unfold fceil
  rw [hr]; rfl
theorem isNaN_ok (x : Nat) (h : Fin x) (w : World) : Calls Tryd.prog 45 #[.float .f64 x] w fun e w' => e = .returned (.bool false) ∧ w' = w := by
  have h1 : FloatKind.f64.format.order x x = some .eq := ford_eq h h rfl
  go_enter Tryd.func45, Tryd.ntmps45
  go_wp2
  go_ret
  exact ⟨rfl, rfl⟩
theorem floor_ok (x : Nat) (h : Fin x) (w : World) : Calls Tryd.prog 31 #[.float .f64 x] w fun e w' => e = .returned (.float .f64 (ffloor x)) ∧ w' = w := by
  have h1 := ffloor_run x h
  go_enter Tryd.func31, Tryd.ntmps31
  go_wp2
  go_ret
  exact ⟨rfl, rfl⟩
theorem ceil_ok (x : Nat) (h : Fin x) (w : World) : Calls Tryd.prog 32 #[.float .f64 x] w fun e w' => e = .returned (.float .f64 (fceil x)) ∧ w' = w := by
  have h1 := fceil_run x h
  go_enter Tryd.func32, Tryd.ntmps32
  go_wp2
  go_ret
  exact ⟨rfl, rfl⟩
theorem fabs_read {x : Nat} {s : Bool} {m : Nat} {p : Int} (h : Ieee.double.read x = .number s m p) : Ieee.double.read (fabs x) = .number false m p := by
  have hsw : Ieee.double.signWeight = 2 ^ 63 := rfl
  unfold Ieee.Format.read at h ⊢
  dsimp only at h ⊢
  rw [hsw] at h ⊢
  have a1 : fabs x % 2 ^ 63 = x % 2 ^ 63 := by unfold fabs; omega
  have a2 : (fabs x / 2 ^ 63 % 2 == 1) = false := by
    unfold fabs
    have : x % 2 ^ 63 / 2 ^ 63 = 0 := by omega
    rw [this]; rfl
  rw [a1, a2]
  by_cases c1 : x % 2 ^ 63 < Ieee.double.binade
  · rw [if_pos c1] at h ⊢
    cases h; rfl
  · rw [if_neg c1] at h ⊢
    by_cases c2 : x % 2 ^ 63 < Ieee.double.infRung
    · rw [if_pos c2] at h ⊢
      cases h; rfl
    · rw [if_neg c2] at h
      split at h <;> cases h
theorem fabs_ok {x : Nat} (hx : Fin x) : Fin (fabs x) ∧ 0 ≤ fv (fabs x) ∧ (0 ≤ fv x → fv (fabs x) = fv x) ∧ (fv x ≤ 0 → fv (fabs x) = -fv x) := by
  obtain ⟨s, m, p, hr⟩ := hx
  have hr2 := fabs_read hr
  refine ⟨⟨_, _, _, hr2⟩, ?_⟩
  rw [fv_fin hr, fv_fin hr2, sg_f]
  have h1 : 0 ≤ (m : Rat) * (2 : Rat) ^ p := Rat.mul_nonneg (nat_nonneg m) (Rat.le_of_lt (p2_pos p))
  rw [Rat.mul_assoc, Rat.mul_assoc]
  generalize (m : Rat) * (2 : Rat) ^ p = v at *
  rcases sg_cases s with c | c <;> rw [c] <;> refine ⟨by grind, fun _ => by grind, fun _ => by grind⟩
set_option maxRecDepth 100000 in
theorem abs_bits (x : Nat) : (BitVec.ofInt 64 (x : Int) &&& ~~~ (BitVec.ofInt 64 9223372036854775808)).toNat = fabs x := by
  have e : ~~~ (BitVec.ofInt 64 9223372036854775808) = BitVec.ofNat 64 (2 ^ 63 - 1) := by decide
  rw [e, BitVec.toNat_and, BitVec.toNat_ofNat, show (2 ^ 63 - 1) % 2 ^ 64 = 2 ^ 63 - 1 by decide, Nat.and_two_pow_sub_one_eq_mod]
  have : (BitVec.ofInt 64 (x : Int)).toNat = x % 2 ^ 64 := by simp
  rw [this]
  unfold fabs
  omega
theorem abs_bitsV (x : Nat) : bits .andNot .u64 (x : Int) 9223372036854775808 = ((fabs x : Nat) : Int) := by
  have hw : IntKind.u64.wrap ((fabs x : Nat) : Int) = ((fabs x : Nat) : Int) := by
    have : fabs x < 2 ^ 63 := by unfold fabs; omega
    unfold IntKind.wrap
    simp [IntKind.signed, IntKind.bits]
    omega
  show IntKind.u64.wrap ((BitVec.ofInt 64 (x : Int) &&& ~~~ (BitVec.ofInt 64 9223372036854775808)).toNat : Nat) = _
  rw [abs_bits, hw]
set_option maxRecDepth 100000 in
theorem abs_ok (x : Nat) (w : World) : Calls Tryd.prog 49 #[.float .f64 x] w fun e w' => e = .returned (.float .f64 (fabs x)) ∧ w' = w := by
  have h1 := fbits_run x
  have h2 := ffrom_run (fabs x)
  have h3 : bits .andNot .u64 (x : Int) 9223372036854775808 = ((fabs x : Nat) : Int) := abs_bitsV x
  generalize fabs x = y at *
  go_enter Tryd.func49, Tryd.ntmps49
  go_wp2
  go_ret
  exact ⟨rfl, rfl⟩
theorem max_gt {x : Nat} (hx : Fin x) (h : fv x ≤ 1000) : Ieee.double.order x 9218868437227405311 = some .lt := by
  have hr : Ieee.double.read 9218868437227405311 = .number false 9007199254740991 971 := by decide
  refine ford_lt hx ⟨_, _, _, hr⟩ ?_
  rw [fv_fin hr, sg_f]
  have h1 := p2_one_le (i := 971) (by omega)
  have e : ((9007199254740991 : Nat) : Rat) = 9007199254740991 := rfl
  rw [e]
  generalize (2 : Rat) ^ (971 : Int) = v at *
  grind
theorem isInf_ok (x : Nat) (h : Fin x) (h1 : -1000 ≤ fv x) (h2 : fv x ≤ 1000) (w : World) : Calls Tryd.prog 46 #[.float .f64 x, .int .i64 0] w fun e w' => e = .returned (.bool false) ∧ w' = w := by
  obtain ⟨f1, f2, f3, f4⟩ := fabs_ok h
  have hle : fv (fabs x) ≤ 1000 := by
    rcases Rat.le_total (a := 0) (b := fv x) with c | c
    · rw [f3 c]; exact h2
    · rw [f4 c]; grind
  have ho : FloatKind.f64.format.order (fabs x) 9218868437227405311 = some .lt := max_gt f1 hle
  have ha := abs_ok x
  generalize fabs x = y at *
  clear f1 f2 f3 f4 hle h1 h2 h
  have HA := Lib.hid ha
  clear ha
  go_enter Tryd.func46, Tryd.ntmps46
  go_wp2_with fail
  refine Calls.mono (HA.out _) ?_
  rintro e _ ⟨rfl, rfl⟩
  go_wp2
  go_ret
  exact ⟨rfl, rfl⟩
end Go.Proofs.YtcopmgnfakjdhaaDoor
