/- Merged by wip/tools/pack.py out of XFBase, XSinW, XAtanW, XAtan2W. -/
import Derived.Test.YtdifeoahaegjbaaGreatDoorChecked
import Derived.Test.YtdifeoahaegjbaaGreatDoorFloat
import Derived.Test.YtdifeoahaegjbaaGreatDoorBasic
import Derived.Laws.Externs
/- Floats at this program: laws of the functions without a body; IsNaN, Abs, IsInf, Floor, Ceil. -/
namespace Go.Proofs.YtdifeoahaegjbaaGreatDoor
open Go.RowKit
set_option linter.unusedSimpArgs false
set_option linter.unusedVariables false

/-- The size of a word. -/
def fabs (x : Nat) : Nat := x % 2 ^ 63
theorem fbits_run (x : Nat) (w : World) : (callFunc 129 #[.float .f64 x]).run Tryz.prog w = .ok (.value (.int .u64 (x : Int))) w := by
  rw [run_callFunc_extern Tryz.func129 (by kernel_rfl) (by kernel_rfl) (by kernel_rfl) (e := Extern.MathFloatBits.float64bits) (by kernel_rfl)]; rfl
theorem ffrom_run (x : Nat) (w : World) : (callFunc 128 #[.int .u64 (x : Int)]).run Tryz.prog w = .ok (.value (.float .f64 x)) w := by
  rw [run_callFunc_extern Tryz.func128 (by kernel_rfl) (by kernel_rfl) (by kernel_rfl) (e := Extern.MathFloatBits.float64frombits) (by kernel_rfl)]; rfl
theorem toIntegral_num (name : String) (way : Ieee.Toward) {x : Nat} {s : Bool} {m : Nat} {p : Int} (h : FloatKind.f64.decode x = .number s m p) :
    Extern.MathFloor.toIntegral name way #[.float .f64 x] = pure (.float .f64 (FloatKind.f64.encode ((Ieee.Datum.number s m p).integral way))) := by
  refine (show _ = Extern.MathFloor.toIntegral.match_1 (fun _ => Sem Value) (FloatKind.f64.decode x) _ (fun d => pure (.float .f64 (FloatKind.f64.encode (d.integral way)))) from rfl).trans ?_
  rw [h]
theorem ffloor_run (x : Nat) (h : Fin x) (w : World) : (callFunc 118 #[.float .f64 x]).run Tryz.prog w = .ok (.value (.float .f64 (ffloor x))) w := by
  rw [run_callFunc_extern Tryz.func118 (by kernel_rfl) (by kernel_rfl) (by kernel_rfl) (e := Extern.MathFloor.toIntegral "math.archFloor" .down) (by kernel_rfl)]
  obtain ⟨s, m, p, hr⟩ := h
  rw [toIntegral_num _ _ hr]
  unfold ffloor
  rw [hr]; rfl
theorem fceil_run (x : Nat) (h : Fin x) (w : World) : (callFunc 120 #[.float .f64 x]).run Tryz.prog w = .ok (.value (.float .f64 (fceil x))) w := by
  rw [run_callFunc_extern Tryz.func120 (by kernel_rfl) (by kernel_rfl) (by kernel_rfl) (e := Extern.MathFloor.toIntegral "math.archCeil" .up) (by kernel_rfl)]
  obtain ⟨s, m, p, hr⟩ := h
  rw [toIntegral_num _ _ hr]
  unfold fceil
  rw [hr]; rfl
theorem isNaN_ok (x : Nat) (h : Fin x) (w : World) : Calls Tryz.prog 122 #[.float .f64 x] w fun e w' => e = .returned (.bool false) ∧ w' = w := by
  have h1 : FloatKind.f64.format.order x x = some .eq := ford_eq h h rfl
  go_enter Tryz.func122, Tryz.ntmps122
  go_wp2
  go_ret
  exact ⟨rfl, rfl⟩
theorem floor_ok (x : Nat) (h : Fin x) (w : World) : Calls Tryz.prog 109 #[.float .f64 x] w fun e w' => e = .returned (.float .f64 (ffloor x)) ∧ w' = w := by
  have h1 := ffloor_run x h
  go_enter Tryz.func109, Tryz.ntmps109
  go_wp2
  go_ret
  exact ⟨rfl, rfl⟩
theorem ceil_ok (x : Nat) (h : Fin x) (w : World) : Calls Tryz.prog 110 #[.float .f64 x] w fun e w' => e = .returned (.float .f64 (fceil x)) ∧ w' = w := by
  have h1 := fceil_run x h
  go_enter Tryz.func110, Tryz.ntmps110
  go_wp2
  go_ret
  exact ⟨rfl, rfl⟩
theorem fabs_read {x : Nat} {s : Bool} {m : Nat} {p : Int} (h : Ieee.double.read x = .number s m p) : Ieee.double.read (fabs x) = .number false m p := by
  have hsw : Ieee.double.signWeight = 2 ^ 63 := rfl
  unfold Ieee.Format.read at h ⊢
  dsimp only at h ⊢
  rw [hsw] at h ⊢
  have a1 : fabs x % 2 ^ 63 = x % 2 ^ 63 := by unfold fabs; omega
  have a2 : (fabs x / 2 ^ 63 % 2 == 1) = false := by
    unfold fabs
    have : x % 2 ^ 63 / 2 ^ 63 = 0 := by omega
    rw [this]; rfl
  rw [a1, a2]
  by_cases c1 : x % 2 ^ 63 < Ieee.double.binade
  · rw [if_pos c1] at h ⊢
    cases h; rfl
  · rw [if_neg c1] at h ⊢
    by_cases c2 : x % 2 ^ 63 < Ieee.double.infRung
    · rw [if_pos c2] at h ⊢
      cases h; rfl
    · rw [if_neg c2] at h
      split at h <;> cases h
theorem fabs_ok {x : Nat} (hx : Fin x) : Fin (fabs x) ∧ 0 ≤ fv (fabs x) ∧ (0 ≤ fv x → fv (fabs x) = fv x) ∧ (fv x ≤ 0 → fv (fabs x) = -fv x) := by
  obtain ⟨s, m, p, hr⟩ := hx
  have hr2 := fabs_read hr
  refine ⟨⟨_, _, _, hr2⟩, ?_⟩
  rw [fv_fin hr, fv_fin hr2, sg_f]
  have h1 : 0 ≤ (m : Rat) * (2 : Rat) ^ p := Rat.mul_nonneg (nat_nonneg m) (Rat.le_of_lt (p2_pos p))
  rw [Rat.mul_assoc, Rat.mul_assoc]
  generalize (m : Rat) * (2 : Rat) ^ p = v at *
  rcases sg_cases s with c | c <;> rw [c] <;> refine ⟨by grind, fun _ => by grind, fun _ => by grind⟩
set_option maxRecDepth 100000 in
theorem abs_bits (x : Nat) : (BitVec.ofInt 64 (x : Int) &&& ~~~ (BitVec.ofInt 64 9223372036854775808)).toNat = fabs x := by
  have e : ~~~ (BitVec.ofInt 64 9223372036854775808) = BitVec.ofNat 64 (2 ^ 63 - 1) := by decide
  rw [e, BitVec.toNat_and, BitVec.toNat_ofNat, show (2 ^ 63 - 1) % 2 ^ 64 = 2 ^ 63 - 1 by decide, Nat.and_two_pow_sub_one_eq_mod]
  have : (BitVec.ofInt 64 (x : Int)).toNat = x % 2 ^ 64 := by simp
  rw [this]
  unfold fabs
  omega
theorem abs_bitsV (x : Nat) : bits .andNot .u64 (x : Int) 9223372036854775808 = ((fabs x : Nat) : Int) := by
  have hw : IntKind.u64.wrap ((fabs x : Nat) : Int) = ((fabs x : Nat) : Int) := by
    have : fabs x < 2 ^ 63 := by unfold fabs; omega
    unfold IntKind.wrap
    simp [IntKind.signed, IntKind.bits]
    omega
  show IntKind.u64.wrap ((BitVec.ofInt 64 (x : Int) &&& ~~~ (BitVec.ofInt 64 9223372036854775808)).toNat : Nat) = _
  rw [abs_bits, hw]
set_option maxRecDepth 100000 in
theorem abs_ok (x : Nat) (w : World) : Calls Tryz.prog 127 #[.float .f64 x] w fun e w' => e = .returned (.float .f64 (fabs x)) ∧ w' = w := by
  have h1 := fbits_run x
  have h2 := ffrom_run (fabs x)
  have h3 : bits .andNot .u64 (x : Int) 9223372036854775808 = ((fabs x : Nat) : Int) := abs_bitsV x
  generalize fabs x = y at *
  go_enter Tryz.func127, Tryz.ntmps127
  go_wp2
  go_ret
  exact ⟨rfl, rfl⟩
theorem max_gt {x : Nat} (hx : Fin x) (h : fv x ≤ 1000) : Ieee.double.order x 9218868437227405311 = some .lt := by
  have hr : Ieee.double.read 9218868437227405311 = .number false 9007199254740991 971 := by decide
  refine ford_lt hx ⟨_, _, _, hr⟩ ?_
  rw [fv_fin hr, sg_f]
  have h1 := p2_one_le (i := 971) (by omega)
  have e : ((9007199254740991 : Nat) : Rat) = 9007199254740991 := rfl
  rw [e]
  generalize (2 : Rat) ^ (971 : Int) = v at *
  grind
theorem isInf_ok (x : Nat) (h : Fin x) (h1 : -1000 ≤ fv x) (h2 : fv x ≤ 1000) (w : World) : Calls Tryz.prog 123 #[.float .f64 x, .int .i64 0] w fun e w' => e = .returned (.bool false) ∧ w' = w := by
  obtain ⟨f1, f2, f3, f4⟩ := fabs_ok h
  have hle : fv (fabs x) ≤ 1000 := by
    rcases Rat.le_total (a := 0) (b := fv x) with c | c
    · rw [f3 c]; exact h2
    · rw [f4 c]; grind
  have ho : FloatKind.f64.format.order (fabs x) 9218868437227405311 = some .lt := max_gt f1 hle
  have ha := abs_ok x
  generalize fabs x = y at *
  clear f1 f2 f3 f4 hle h1 h2 h
  have HA := Lib.hid ha
  clear ha
  go_enter Tryz.func123, Tryz.ntmps123
  go_wp2_with fail
  refine Calls.mono (HA.out _) ?_
  rintro e _ ⟨rfl, rfl⟩
  go_wp2
  go_ret
  exact ⟨rfl, rfl⟩
end Go.Proofs.YtdifeoahaegjbaaGreatDoor
/- math.sin and math.cos at this program. -/
namespace Go.Proofs.YtdifeoahaegjbaaGreatDoor
open Go.RowKit
set_option linter.unusedSimpArgs false
set_option linter.unusedVariables false

theorem cell_below {w : World} {a : Addr} {v : Value} (h : w.cell? a = some v) : a.block < w.heap.size := by
  rcases Nat.lt_or_ge a.block w.heap.size with h' | h'
  · exact h'
  · simp [World.cell?, Array.getElem?_eq_none h'] at h
/-- The tables of math's sine and cosine stand. -/
structure SinT (w : World) : Prop where
  s0 : w.cell? ⟨12, 0, none⟩ = some (.float .f64 4460209587652500685)
  s1 : w.cell? ⟨12, 1, none⟩ = some (.float .f64 13716528389658582877)
  s2 : w.cell? ⟨12, 2, none⟩ = some (.float .f64 4523617212962785441)
  s3 : w.cell? ⟨12, 3, none⟩ = some (.float .f64 13774824197404483331)
  s4 : w.cell? ⟨12, 4, none⟩ = some (.float .f64 4575957461383575504)
  s5 : w.cell? ⟨12, 5, none⟩ = some (.float .f64 13818544856648471880)
  c0 : w.cell? ⟨11, 0, none⟩ = some (.float .f64 13666448263388469915)
  c1 : w.cell? ⟨11, 1, none⟩ = some (.float .f64 4477121864728985349)
  c2 : w.cell? ⟨11, 2, none⟩ = some (.float .f64 13732177093698800582)
  c3 : w.cell? ⟨11, 3, none⟩ = some (.float .f64 4537941361668146421)
  c4 : w.cell? ⟨11, 4, none⟩ = some (.float .f64 13787419979223748497)
  c5 : w.cell? ⟨11, 5, none⟩ = some (.float .f64 4586165620538955083)
theorem SinT.below {w w' : World} (h : SinT w) (hb : Below w.heap.size w w') : SinT w' :=
  ⟨(hb.cell (cell_below h.s0)).trans h.s0, (hb.cell (cell_below h.s1)).trans h.s1, (hb.cell (cell_below h.s2)).trans h.s2, (hb.cell (cell_below h.s3)).trans h.s3, (hb.cell (cell_below h.s4)).trans h.s4, (hb.cell (cell_below h.s5)).trans h.s5,
   (hb.cell (cell_below h.c0)).trans h.c0, (hb.cell (cell_below h.c1)).trans h.c1, (hb.cell (cell_below h.c2)).trans h.c2, (hb.cell (cell_below h.c3)).trans h.c3, (hb.cell (cell_below h.c4)).trans h.c4, (hb.cell (cell_below h.c5)).trans h.c5⟩

theorem fop {op : BinOp} {x y r : Nat} (h : floatBits op .f64 x y = some r) : ∀ w : World, (binOp op 92 (.float .f64 x) (.float .f64 y)).run Tryz.prog w = .ok (.float .f64 r) w := fun w => run_float_arith w op 92 .f64 x y r h
theorem fconv {x : Nat} {n : Int} (h : floatToIntVal .f64 x .u64 = some n) : ∀ w : World, (convert 92 98 (.float .f64 x)).run Tryz.prog w = .ok (.int .u64 n) w := fun w => run_convert_float_int w 92 98 .f64 .u64 x n (by kernel_rfl) Tryz.underlying98 h
theorem fin_zero : Fin 0 ∧ fv 0 = 0 := by
  have hr : Ieee.double.read 0 = .number false 0 (-1074) := by decide
  refine ⟨⟨_, _, _, hr⟩, ?_⟩
  rw [fv_fin hr]
  show _ * (0 : Rat) * _ = 0
  grind
theorem fin_thr : Fin 4737786807993761792 ∧ fv 4737786807993761792 = 536870912 := by
  have hr : Ieee.double.read 4737786807993761792 = .number false 4503599627370496 (-23) := by decide
  obtain ⟨f, v⟩ := fv_lit (w := 4737786807993761792) (s := false) (m := 4503599627370496) (k := 23) hr
  refine ⟨f, v.trans ?_⟩
  have e : ((2 ^ 23 : Nat) : Rat) = 8388608 := rfl
  have e2 : ((4503599627370496 : Nat) : Rat) = 4503599627370496 := rfl
  rw [sg_f, e]; (try rw [e2]); grind

@[go_sem] theorem run_neg_f64 (x : Nat) (w : World) : (Op.unary .neg (.float .f64 x)).run Tryz.prog w = .ok (.float .f64 (fneg x)) w := rfl
set_option maxRecDepth 100000 in
set_option maxHeartbeats 4000000 in
theorem sin_j0 (x : Nat) (hf : Fin x) (h0 : 0 < fv x) (h7 : fv x ≤ 7) (h : OctJ x (fv x) 0) (w : World) (ht : SinT w) : Calls Tryz.prog 117 #[.float .f64 x] w fun e w' => e = .returned (.float .f64 (sinB x)) ∧ w' = w := by
  obtain ⟨z, hz⟩ := octZ_ok hf (Rat.le_of_lt h0) h7 h
  obtain ⟨r1, r2, r3, r4, r5, i1, i2, i3, i4, i5, i6⟩ := hz.steps
  obtain ⟨p1, p2, p3, p4, p5, p6, p7, p8, p9, p10, p11, p12, p13, p14, k1, k2, k3, k4, k5, k6, k7, k8, k9, k10, k11, k12, k13, k14, kr, -⟩ := wS_ok (hz.ap.weak (by grind) (by grind))
  have hres : sinB x = p14 := by
    have ho : Ieee.double.order x 0 = some .gt := ford_gt hf fin_zero.1 (by rw [fin_zero.2]; exact h0)
    unfold sinB
    rw [if_neg (by rw [ho]; decide), h.eq, ← hz.eq, kr]
    rfl
  have HR := Lib.hid hres
  have ho : FloatKind.f64.format.order x 0 = some .gt := ford_gt hf fin_zero.1 (by rw [fin_zero.2]; exact h0)
  have ho2 : FloatKind.f64.format.order x 4737786807993761792 = some .lt := ford_lt hf fin_thr.1 (by rw [fin_thr.2]; grind)
  have hn := Lib.hid (isNaN_ok x hf)
  have hi := Lib.hid (isInf_ok x hf (by grind) (by grind))
  obtain ⟨m, hm⟩ : ∃ m, m = fmul x 4608412980311869571 := ⟨_, rfl⟩
  have e1 := h.mul; have e2 := h.int
  rw [← hm] at e1 e2
  have q1 := fop e1; have q2 := fconv e2
  obtain ⟨yb, hya⟩ : ∃ y, floatOfInt .f64 0 = y := ⟨_, rfl⟩
  have hyb : yb = floatOfInt .f64 ((evJ 0 : Nat) : Int) := hya.symm
  have i0 := trivial
  rw [← hyb] at i1 i3 i5
  have q4 := fop i1; have q5 := fop i2; have q6 := fop i3; have q7 := fop i4; have q8 := fop i5; have q9 := fop i6
  have g1 := fop k1; have g2 := fop k2; have g3 := fop k3; have g4 := fop k4; have g5 := fop k5; have g6 := fop k6; have g7 := fop k7; have g8 := fop k8; have g9 := fop k9; have g10 := fop k10; have g11 := fop k11; have g12 := fop k12; have g13 := fop k13; have g14 := fop k14
  obtain ⟨s0, s1, s2, s3, s4, s5, c0, c1, c2, c3, c4, c5⟩ := ht
  clear hres hm e1 e2 hyb i0 i1 i2 i3 i4 i5 i6 k1 k2 k3 k4 k5 k6 k7 k8 k9 k10 k11 k12 k13 k14 kr hz h hf h0 h7
  go_enter Tryz.func117, Tryz.ntmps117
  go_wp2_with fail
  refine Calls.mono (hn.out _) ?_
  rintro e _ ⟨rfl, rfl⟩
  go_wp2_with fail
  refine Calls.mono (hi.out _) ?_
  rintro e _ ⟨rfl, rfl⟩
  go_wp2_with fail
  go_ret
  exact ⟨by rw [HR.out]; rfl, rfl⟩
set_option maxRecDepth 100000 in
set_option maxHeartbeats 4000000 in
theorem sin_j1 (x : Nat) (hf : Fin x) (h0 : 0 < fv x) (h7 : fv x ≤ 7) (h : OctJ x (fv x) 1) (w : World) (ht : SinT w) : Calls Tryz.prog 117 #[.float .f64 x] w fun e w' => e = .returned (.float .f64 (sinB x)) ∧ w' = w := by
  obtain ⟨z, hz⟩ := octZ_ok hf (Rat.le_of_lt h0) h7 h
  obtain ⟨r1, r2, r3, r4, r5, i1, i2, i3, i4, i5, i6⟩ := hz.steps
  obtain ⟨p1, p2, p3, p4, p5, p6, p7, p8, p9, p10, p11, p12, p13, p14, p15, p16, k1, k2, k3, k4, k5, k6, k7, k8, k9, k10, k11, k12, k13, k14, k15, k16, kr, -⟩ := wC_ok (hz.ap.weak (by grind) (by grind))
  have hres : sinB x = p16 := by
    have ho : Ieee.double.order x 0 = some .gt := ford_gt hf fin_zero.1 (by rw [fin_zero.2]; exact h0)
    unfold sinB
    rw [if_neg (by rw [ho]; decide), h.eq, ← hz.eq, kr]
    rfl
  have HR := Lib.hid hres
  have ho : FloatKind.f64.format.order x 0 = some .gt := ford_gt hf fin_zero.1 (by rw [fin_zero.2]; exact h0)
  have ho2 : FloatKind.f64.format.order x 4737786807993761792 = some .lt := ford_lt hf fin_thr.1 (by rw [fin_thr.2]; grind)
  have hn := Lib.hid (isNaN_ok x hf)
  have hi := Lib.hid (isInf_ok x hf (by grind) (by grind))
  obtain ⟨m, hm⟩ : ∃ m, m = fmul x 4608412980311869571 := ⟨_, rfl⟩
  have e1 := h.mul; have e2 := h.int
  rw [← hm] at e1 e2
  have q1 := fop e1; have q2 := fconv e2
  obtain ⟨ya, hya⟩ : ∃ y, floatOfInt .f64 1 = y := ⟨_, rfl⟩
  obtain ⟨yb, hyb⟩ : ∃ y, y = floatOfInt .f64 ((evJ 1 : Nat) : Int) := ⟨_, rfl⟩
  have i0 : floatBits .add .f64 ya 4607182418800017408 = some yb := by rw [← hya, hyb]; decide
  have q3 := fop i0
  rw [← hyb] at i1 i3 i5
  have q4 := fop i1; have q5 := fop i2; have q6 := fop i3; have q7 := fop i4; have q8 := fop i5; have q9 := fop i6
  have g1 := fop k1; have g2 := fop k2; have g3 := fop k3; have g4 := fop k4; have g5 := fop k5; have g6 := fop k6; have g7 := fop k7; have g8 := fop k8; have g9 := fop k9; have g10 := fop k10; have g11 := fop k11; have g12 := fop k12; have g13 := fop k13; have g14 := fop k14; have g15 := fop k15; have g16 := fop k16
  obtain ⟨s0, s1, s2, s3, s4, s5, c0, c1, c2, c3, c4, c5⟩ := ht
  clear hres hm e1 e2 hyb i0 i1 i2 i3 i4 i5 i6 k1 k2 k3 k4 k5 k6 k7 k8 k9 k10 k11 k12 k13 k14 k15 k16 kr hz h hf h0 h7
  go_enter Tryz.func117, Tryz.ntmps117
  go_wp2_with fail
  refine Calls.mono (hn.out _) ?_
  rintro e _ ⟨rfl, rfl⟩
  go_wp2_with fail
  refine Calls.mono (hi.out _) ?_
  rintro e _ ⟨rfl, rfl⟩
  go_wp2_with fail
  go_ret
  exact ⟨by rw [HR.out]; rfl, rfl⟩
set_option maxRecDepth 100000 in
set_option maxHeartbeats 4000000 in
theorem sin_j2 (x : Nat) (hf : Fin x) (h0 : 0 < fv x) (h7 : fv x ≤ 7) (h : OctJ x (fv x) 2) (w : World) (ht : SinT w) : Calls Tryz.prog 117 #[.float .f64 x] w fun e w' => e = .returned (.float .f64 (sinB x)) ∧ w' = w := by
  obtain ⟨z, hz⟩ := octZ_ok hf (Rat.le_of_lt h0) h7 h
  obtain ⟨r1, r2, r3, r4, r5, i1, i2, i3, i4, i5, i6⟩ := hz.steps
  obtain ⟨p1, p2, p3, p4, p5, p6, p7, p8, p9, p10, p11, p12, p13, p14, p15, p16, k1, k2, k3, k4, k5, k6, k7, k8, k9, k10, k11, k12, k13, k14, k15, k16, kr, -⟩ := wC_ok (hz.ap.weak (by grind) (by grind))
  have hres : sinB x = p16 := by
    have ho : Ieee.double.order x 0 = some .gt := ford_gt hf fin_zero.1 (by rw [fin_zero.2]; exact h0)
    unfold sinB
    rw [if_neg (by rw [ho]; decide), h.eq, ← hz.eq, kr]
    rfl
  have HR := Lib.hid hres
  have ho : FloatKind.f64.format.order x 0 = some .gt := ford_gt hf fin_zero.1 (by rw [fin_zero.2]; exact h0)
  have ho2 : FloatKind.f64.format.order x 4737786807993761792 = some .lt := ford_lt hf fin_thr.1 (by rw [fin_thr.2]; grind)
  have hn := Lib.hid (isNaN_ok x hf)
  have hi := Lib.hid (isInf_ok x hf (by grind) (by grind))
  obtain ⟨m, hm⟩ : ∃ m, m = fmul x 4608412980311869571 := ⟨_, rfl⟩
  have e1 := h.mul; have e2 := h.int
  rw [← hm] at e1 e2
  have q1 := fop e1; have q2 := fconv e2
  obtain ⟨yb, hya⟩ : ∃ y, floatOfInt .f64 2 = y := ⟨_, rfl⟩
  have hyb : yb = floatOfInt .f64 ((evJ 2 : Nat) : Int) := hya.symm
  have i0 := trivial
  rw [← hyb] at i1 i3 i5
  have q4 := fop i1; have q5 := fop i2; have q6 := fop i3; have q7 := fop i4; have q8 := fop i5; have q9 := fop i6
  have g1 := fop k1; have g2 := fop k2; have g3 := fop k3; have g4 := fop k4; have g5 := fop k5; have g6 := fop k6; have g7 := fop k7; have g8 := fop k8; have g9 := fop k9; have g10 := fop k10; have g11 := fop k11; have g12 := fop k12; have g13 := fop k13; have g14 := fop k14; have g15 := fop k15; have g16 := fop k16
  obtain ⟨s0, s1, s2, s3, s4, s5, c0, c1, c2, c3, c4, c5⟩ := ht
  clear hres hm e1 e2 hyb i0 i1 i2 i3 i4 i5 i6 k1 k2 k3 k4 k5 k6 k7 k8 k9 k10 k11 k12 k13 k14 k15 k16 kr hz h hf h0 h7
  go_enter Tryz.func117, Tryz.ntmps117
  go_wp2_with fail
  refine Calls.mono (hn.out _) ?_
  rintro e _ ⟨rfl, rfl⟩
  go_wp2_with fail
  refine Calls.mono (hi.out _) ?_
  rintro e _ ⟨rfl, rfl⟩
  go_wp2_with fail
  go_ret
  exact ⟨by rw [HR.out]; rfl, rfl⟩
set_option maxRecDepth 100000 in
set_option maxHeartbeats 4000000 in
theorem sin_j3 (x : Nat) (hf : Fin x) (h0 : 0 < fv x) (h7 : fv x ≤ 7) (h : OctJ x (fv x) 3) (w : World) (ht : SinT w) : Calls Tryz.prog 117 #[.float .f64 x] w fun e w' => e = .returned (.float .f64 (sinB x)) ∧ w' = w := by
  obtain ⟨z, hz⟩ := octZ_ok hf (Rat.le_of_lt h0) h7 h
  obtain ⟨r1, r2, r3, r4, r5, i1, i2, i3, i4, i5, i6⟩ := hz.steps
  obtain ⟨p1, p2, p3, p4, p5, p6, p7, p8, p9, p10, p11, p12, p13, p14, k1, k2, k3, k4, k5, k6, k7, k8, k9, k10, k11, k12, k13, k14, kr, -⟩ := wS_ok (hz.ap.weak (by grind) (by grind))
  have hres : sinB x = fneg p14 := by
    have ho : Ieee.double.order x 0 = some .gt := ford_gt hf fin_zero.1 (by rw [fin_zero.2]; exact h0)
    unfold sinB
    rw [if_neg (by rw [ho]; decide), h.eq, ← hz.eq, kr]
    rfl
  have HR := Lib.hid hres
  have ho : FloatKind.f64.format.order x 0 = some .gt := ford_gt hf fin_zero.1 (by rw [fin_zero.2]; exact h0)
  have ho2 : FloatKind.f64.format.order x 4737786807993761792 = some .lt := ford_lt hf fin_thr.1 (by rw [fin_thr.2]; grind)
  have hn := Lib.hid (isNaN_ok x hf)
  have hi := Lib.hid (isInf_ok x hf (by grind) (by grind))
  obtain ⟨m, hm⟩ : ∃ m, m = fmul x 4608412980311869571 := ⟨_, rfl⟩
  have e1 := h.mul; have e2 := h.int
  rw [← hm] at e1 e2
  have q1 := fop e1; have q2 := fconv e2
  obtain ⟨ya, hya⟩ : ∃ y, floatOfInt .f64 3 = y := ⟨_, rfl⟩
  obtain ⟨yb, hyb⟩ : ∃ y, y = floatOfInt .f64 ((evJ 3 : Nat) : Int) := ⟨_, rfl⟩
  have i0 : floatBits .add .f64 ya 4607182418800017408 = some yb := by rw [← hya, hyb]; decide
  have q3 := fop i0
  rw [← hyb] at i1 i3 i5
  have q4 := fop i1; have q5 := fop i2; have q6 := fop i3; have q7 := fop i4; have q8 := fop i5; have q9 := fop i6
  have g1 := fop k1; have g2 := fop k2; have g3 := fop k3; have g4 := fop k4; have g5 := fop k5; have g6 := fop k6; have g7 := fop k7; have g8 := fop k8; have g9 := fop k9; have g10 := fop k10; have g11 := fop k11; have g12 := fop k12; have g13 := fop k13; have g14 := fop k14
  obtain ⟨s0, s1, s2, s3, s4, s5, c0, c1, c2, c3, c4, c5⟩ := ht
  clear hres hm e1 e2 hyb i0 i1 i2 i3 i4 i5 i6 k1 k2 k3 k4 k5 k6 k7 k8 k9 k10 k11 k12 k13 k14 kr hz h hf h0 h7
  go_enter Tryz.func117, Tryz.ntmps117
  go_wp2_with fail
  refine Calls.mono (hn.out _) ?_
  rintro e _ ⟨rfl, rfl⟩
  go_wp2_with fail
  refine Calls.mono (hi.out _) ?_
  rintro e _ ⟨rfl, rfl⟩
  go_wp2_with fail
  go_ret
  exact ⟨by rw [HR.out]; rfl, rfl⟩
set_option maxRecDepth 100000 in
set_option maxHeartbeats 4000000 in
theorem sin_j4 (x : Nat) (hf : Fin x) (h0 : 0 < fv x) (h7 : fv x ≤ 7) (h : OctJ x (fv x) 4) (w : World) (ht : SinT w) : Calls Tryz.prog 117 #[.float .f64 x] w fun e w' => e = .returned (.float .f64 (sinB x)) ∧ w' = w := by
  obtain ⟨z, hz⟩ := octZ_ok hf (Rat.le_of_lt h0) h7 h
  obtain ⟨r1, r2, r3, r4, r5, i1, i2, i3, i4, i5, i6⟩ := hz.steps
  obtain ⟨p1, p2, p3, p4, p5, p6, p7, p8, p9, p10, p11, p12, p13, p14, k1, k2, k3, k4, k5, k6, k7, k8, k9, k10, k11, k12, k13, k14, kr, -⟩ := wS_ok (hz.ap.weak (by grind) (by grind))
  have hres : sinB x = fneg p14 := by
    have ho : Ieee.double.order x 0 = some .gt := ford_gt hf fin_zero.1 (by rw [fin_zero.2]; exact h0)
    unfold sinB
    rw [if_neg (by rw [ho]; decide), h.eq, ← hz.eq, kr]
    rfl
  have HR := Lib.hid hres
  have ho : FloatKind.f64.format.order x 0 = some .gt := ford_gt hf fin_zero.1 (by rw [fin_zero.2]; exact h0)
  have ho2 : FloatKind.f64.format.order x 4737786807993761792 = some .lt := ford_lt hf fin_thr.1 (by rw [fin_thr.2]; grind)
  have hn := Lib.hid (isNaN_ok x hf)
  have hi := Lib.hid (isInf_ok x hf (by grind) (by grind))
  obtain ⟨m, hm⟩ : ∃ m, m = fmul x 4608412980311869571 := ⟨_, rfl⟩
  have e1 := h.mul; have e2 := h.int
  rw [← hm] at e1 e2
  have q1 := fop e1; have q2 := fconv e2
  obtain ⟨yb, hya⟩ : ∃ y, floatOfInt .f64 4 = y := ⟨_, rfl⟩
  have hyb : yb = floatOfInt .f64 ((evJ 4 : Nat) : Int) := hya.symm
  have i0 := trivial
  rw [← hyb] at i1 i3 i5
  have q4 := fop i1; have q5 := fop i2; have q6 := fop i3; have q7 := fop i4; have q8 := fop i5; have q9 := fop i6
  have g1 := fop k1; have g2 := fop k2; have g3 := fop k3; have g4 := fop k4; have g5 := fop k5; have g6 := fop k6; have g7 := fop k7; have g8 := fop k8; have g9 := fop k9; have g10 := fop k10; have g11 := fop k11; have g12 := fop k12; have g13 := fop k13; have g14 := fop k14
  obtain ⟨s0, s1, s2, s3, s4, s5, c0, c1, c2, c3, c4, c5⟩ := ht
  clear hres hm e1 e2 hyb i0 i1 i2 i3 i4 i5 i6 k1 k2 k3 k4 k5 k6 k7 k8 k9 k10 k11 k12 k13 k14 kr hz h hf h0 h7
  go_enter Tryz.func117, Tryz.ntmps117
  go_wp2_with fail
  refine Calls.mono (hn.out _) ?_
  rintro e _ ⟨rfl, rfl⟩
  go_wp2_with fail
  refine Calls.mono (hi.out _) ?_
  rintro e _ ⟨rfl, rfl⟩
  go_wp2_with fail
  go_ret
  exact ⟨by rw [HR.out]; rfl, rfl⟩
set_option maxRecDepth 100000 in
set_option maxHeartbeats 4000000 in
theorem sin_j5 (x : Nat) (hf : Fin x) (h0 : 0 < fv x) (h7 : fv x ≤ 7) (h : OctJ x (fv x) 5) (w : World) (ht : SinT w) : Calls Tryz.prog 117 #[.float .f64 x] w fun e w' => e = .returned (.float .f64 (sinB x)) ∧ w' = w := by
  obtain ⟨z, hz⟩ := octZ_ok hf (Rat.le_of_lt h0) h7 h
  obtain ⟨r1, r2, r3, r4, r5, i1, i2, i3, i4, i5, i6⟩ := hz.steps
  obtain ⟨p1, p2, p3, p4, p5, p6, p7, p8, p9, p10, p11, p12, p13, p14, p15, p16, k1, k2, k3, k4, k5, k6, k7, k8, k9, k10, k11, k12, k13, k14, k15, k16, kr, -⟩ := wC_ok (hz.ap.weak (by grind) (by grind))
  have hres : sinB x = fneg p16 := by
    have ho : Ieee.double.order x 0 = some .gt := ford_gt hf fin_zero.1 (by rw [fin_zero.2]; exact h0)
    unfold sinB
    rw [if_neg (by rw [ho]; decide), h.eq, ← hz.eq, kr]
    rfl
  have HR := Lib.hid hres
  have ho : FloatKind.f64.format.order x 0 = some .gt := ford_gt hf fin_zero.1 (by rw [fin_zero.2]; exact h0)
  have ho2 : FloatKind.f64.format.order x 4737786807993761792 = some .lt := ford_lt hf fin_thr.1 (by rw [fin_thr.2]; grind)
  have hn := Lib.hid (isNaN_ok x hf)
  have hi := Lib.hid (isInf_ok x hf (by grind) (by grind))
  obtain ⟨m, hm⟩ : ∃ m, m = fmul x 4608412980311869571 := ⟨_, rfl⟩
  have e1 := h.mul; have e2 := h.int
  rw [← hm] at e1 e2
  have q1 := fop e1; have q2 := fconv e2
  obtain ⟨ya, hya⟩ : ∃ y, floatOfInt .f64 5 = y := ⟨_, rfl⟩
  obtain ⟨yb, hyb⟩ : ∃ y, y = floatOfInt .f64 ((evJ 5 : Nat) : Int) := ⟨_, rfl⟩
  have i0 : floatBits .add .f64 ya 4607182418800017408 = some yb := by rw [← hya, hyb]; decide
  have q3 := fop i0
  rw [← hyb] at i1 i3 i5
  have q4 := fop i1; have q5 := fop i2; have q6 := fop i3; have q7 := fop i4; have q8 := fop i5; have q9 := fop i6
  have g1 := fop k1; have g2 := fop k2; have g3 := fop k3; have g4 := fop k4; have g5 := fop k5; have g6 := fop k6; have g7 := fop k7; have g8 := fop k8; have g9 := fop k9; have g10 := fop k10; have g11 := fop k11; have g12 := fop k12; have g13 := fop k13; have g14 := fop k14; have g15 := fop k15; have g16 := fop k16
  obtain ⟨s0, s1, s2, s3, s4, s5, c0, c1, c2, c3, c4, c5⟩ := ht
  clear hres hm e1 e2 hyb i0 i1 i2 i3 i4 i5 i6 k1 k2 k3 k4 k5 k6 k7 k8 k9 k10 k11 k12 k13 k14 k15 k16 kr hz h hf h0 h7
  go_enter Tryz.func117, Tryz.ntmps117
  go_wp2_with fail
  refine Calls.mono (hn.out _) ?_
  rintro e _ ⟨rfl, rfl⟩
  go_wp2_with fail
  refine Calls.mono (hi.out _) ?_
  rintro e _ ⟨rfl, rfl⟩
  go_wp2_with fail
  go_ret
  exact ⟨by rw [HR.out]; rfl, rfl⟩
set_option maxRecDepth 100000 in
set_option maxHeartbeats 4000000 in
theorem sin_j6 (x : Nat) (hf : Fin x) (h0 : 0 < fv x) (h7 : fv x ≤ 7) (h : OctJ x (fv x) 6) (w : World) (ht : SinT w) : Calls Tryz.prog 117 #[.float .f64 x] w fun e w' => e = .returned (.float .f64 (sinB x)) ∧ w' = w := by
  obtain ⟨z, hz⟩ := octZ_ok hf (Rat.le_of_lt h0) h7 h
  obtain ⟨r1, r2, r3, r4, r5, i1, i2, i3, i4, i5, i6⟩ := hz.steps
  obtain ⟨p1, p2, p3, p4, p5, p6, p7, p8, p9, p10, p11, p12, p13, p14, p15, p16, k1, k2, k3, k4, k5, k6, k7, k8, k9, k10, k11, k12, k13, k14, k15, k16, kr, -⟩ := wC_ok (hz.ap.weak (by grind) (by grind))
  have hres : sinB x = fneg p16 := by
    have ho : Ieee.double.order x 0 = some .gt := ford_gt hf fin_zero.1 (by rw [fin_zero.2]; exact h0)
    unfold sinB
    rw [if_neg (by rw [ho]; decide), h.eq, ← hz.eq, kr]
    rfl
  have HR := Lib.hid hres
  have ho : FloatKind.f64.format.order x 0 = some .gt := ford_gt hf fin_zero.1 (by rw [fin_zero.2]; exact h0)
  have ho2 : FloatKind.f64.format.order x 4737786807993761792 = some .lt := ford_lt hf fin_thr.1 (by rw [fin_thr.2]; grind)
  have hn := Lib.hid (isNaN_ok x hf)
  have hi := Lib.hid (isInf_ok x hf (by grind) (by grind))
  obtain ⟨m, hm⟩ : ∃ m, m = fmul x 4608412980311869571 := ⟨_, rfl⟩
  have e1 := h.mul; have e2 := h.int
  rw [← hm] at e1 e2
  have q1 := fop e1; have q2 := fconv e2
  obtain ⟨yb, hya⟩ : ∃ y, floatOfInt .f64 6 = y := ⟨_, rfl⟩
  have hyb : yb = floatOfInt .f64 ((evJ 6 : Nat) : Int) := hya.symm
  have i0 := trivial
  rw [← hyb] at i1 i3 i5
  have q4 := fop i1; have q5 := fop i2; have q6 := fop i3; have q7 := fop i4; have q8 := fop i5; have q9 := fop i6
  have g1 := fop k1; have g2 := fop k2; have g3 := fop k3; have g4 := fop k4; have g5 := fop k5; have g6 := fop k6; have g7 := fop k7; have g8 := fop k8; have g9 := fop k9; have g10 := fop k10; have g11 := fop k11; have g12 := fop k12; have g13 := fop k13; have g14 := fop k14; have g15 := fop k15; have g16 := fop k16
  obtain ⟨s0, s1, s2, s3, s4, s5, c0, c1, c2, c3, c4, c5⟩ := ht
  clear hres hm e1 e2 hyb i0 i1 i2 i3 i4 i5 i6 k1 k2 k3 k4 k5 k6 k7 k8 k9 k10 k11 k12 k13 k14 k15 k16 kr hz h hf h0 h7
  go_enter Tryz.func117, Tryz.ntmps117
  go_wp2_with fail
  refine Calls.mono (hn.out _) ?_
  rintro e _ ⟨rfl, rfl⟩
  go_wp2_with fail
  refine Calls.mono (hi.out _) ?_
  rintro e _ ⟨rfl, rfl⟩
  go_wp2_with fail
  go_ret
  exact ⟨by rw [HR.out]; rfl, rfl⟩
set_option maxRecDepth 100000 in
set_option maxHeartbeats 4000000 in
theorem sin_j7 (x : Nat) (hf : Fin x) (h0 : 0 < fv x) (h7 : fv x ≤ 7) (h : OctJ x (fv x) 7) (w : World) (ht : SinT w) : Calls Tryz.prog 117 #[.float .f64 x] w fun e w' => e = .returned (.float .f64 (sinB x)) ∧ w' = w := by
  obtain ⟨z, hz⟩ := octZ_ok hf (Rat.le_of_lt h0) h7 h
  obtain ⟨r1, r2, r3, r4, r5, i1, i2, i3, i4, i5, i6⟩ := hz.steps
  obtain ⟨p1, p2, p3, p4, p5, p6, p7, p8, p9, p10, p11, p12, p13, p14, k1, k2, k3, k4, k5, k6, k7, k8, k9, k10, k11, k12, k13, k14, kr, -⟩ := wS_ok (hz.ap.weak (by grind) (by grind))
  have hres : sinB x = p14 := by
    have ho : Ieee.double.order x 0 = some .gt := ford_gt hf fin_zero.1 (by rw [fin_zero.2]; exact h0)
    unfold sinB
    rw [if_neg (by rw [ho]; decide), h.eq, ← hz.eq, kr]
    rfl
  have HR := Lib.hid hres
  have ho : FloatKind.f64.format.order x 0 = some .gt := ford_gt hf fin_zero.1 (by rw [fin_zero.2]; exact h0)
  have ho2 : FloatKind.f64.format.order x 4737786807993761792 = some .lt := ford_lt hf fin_thr.1 (by rw [fin_thr.2]; grind)
  have hn := Lib.hid (isNaN_ok x hf)
  have hi := Lib.hid (isInf_ok x hf (by grind) (by grind))
  obtain ⟨m, hm⟩ : ∃ m, m = fmul x 4608412980311869571 := ⟨_, rfl⟩
  have e1 := h.mul; have e2 := h.int
  rw [← hm] at e1 e2
  have q1 := fop e1; have q2 := fconv e2
  obtain ⟨ya, hya⟩ : ∃ y, floatOfInt .f64 7 = y := ⟨_, rfl⟩
  obtain ⟨yb, hyb⟩ : ∃ y, y = floatOfInt .f64 ((evJ 7 : Nat) : Int) := ⟨_, rfl⟩
  have i0 : floatBits .add .f64 ya 4607182418800017408 = some yb := by rw [← hya, hyb]; decide
  have q3 := fop i0
  rw [← hyb] at i1 i3 i5
  have q4 := fop i1; have q5 := fop i2; have q6 := fop i3; have q7 := fop i4; have q8 := fop i5; have q9 := fop i6
  have g1 := fop k1; have g2 := fop k2; have g3 := fop k3; have g4 := fop k4; have g5 := fop k5; have g6 := fop k6; have g7 := fop k7; have g8 := fop k8; have g9 := fop k9; have g10 := fop k10; have g11 := fop k11; have g12 := fop k12; have g13 := fop k13; have g14 := fop k14
  obtain ⟨s0, s1, s2, s3, s4, s5, c0, c1, c2, c3, c4, c5⟩ := ht
  clear hres hm e1 e2 hyb i0 i1 i2 i3 i4 i5 i6 k1 k2 k3 k4 k5 k6 k7 k8 k9 k10 k11 k12 k13 k14 kr hz h hf h0 h7
  go_enter Tryz.func117, Tryz.ntmps117
  go_wp2_with fail
  refine Calls.mono (hn.out _) ?_
  rintro e _ ⟨rfl, rfl⟩
  go_wp2_with fail
  refine Calls.mono (hi.out _) ?_
  rintro e _ ⟨rfl, rfl⟩
  go_wp2_with fail
  go_ret
  exact ⟨by rw [HR.out]; rfl, rfl⟩
set_option maxRecDepth 100000 in
set_option maxHeartbeats 4000000 in
theorem sin_j8 (x : Nat) (hf : Fin x) (h0 : 0 < fv x) (h7 : fv x ≤ 7) (h : OctJ x (fv x) 8) (w : World) (ht : SinT w) : Calls Tryz.prog 117 #[.float .f64 x] w fun e w' => e = .returned (.float .f64 (sinB x)) ∧ w' = w := by
  obtain ⟨z, hz⟩ := octZ_ok hf (Rat.le_of_lt h0) h7 h
  obtain ⟨r1, r2, r3, r4, r5, i1, i2, i3, i4, i5, i6⟩ := hz.steps
  obtain ⟨p1, p2, p3, p4, p5, p6, p7, p8, p9, p10, p11, p12, p13, p14, k1, k2, k3, k4, k5, k6, k7, k8, k9, k10, k11, k12, k13, k14, kr, -⟩ := wS_ok (hz.ap.weak (by grind) (by grind))
  have hres : sinB x = p14 := by
    have ho : Ieee.double.order x 0 = some .gt := ford_gt hf fin_zero.1 (by rw [fin_zero.2]; exact h0)
    unfold sinB
    rw [if_neg (by rw [ho]; decide), h.eq, ← hz.eq, kr]
    rfl
  have HR := Lib.hid hres
  have ho : FloatKind.f64.format.order x 0 = some .gt := ford_gt hf fin_zero.1 (by rw [fin_zero.2]; exact h0)
  have ho2 : FloatKind.f64.format.order x 4737786807993761792 = some .lt := ford_lt hf fin_thr.1 (by rw [fin_thr.2]; grind)
  have hn := Lib.hid (isNaN_ok x hf)
  have hi := Lib.hid (isInf_ok x hf (by grind) (by grind))
  obtain ⟨m, hm⟩ : ∃ m, m = fmul x 4608412980311869571 := ⟨_, rfl⟩
  have e1 := h.mul; have e2 := h.int
  rw [← hm] at e1 e2
  have q1 := fop e1; have q2 := fconv e2
  obtain ⟨yb, hya⟩ : ∃ y, floatOfInt .f64 8 = y := ⟨_, rfl⟩
  have hyb : yb = floatOfInt .f64 ((evJ 8 : Nat) : Int) := hya.symm
  have i0 := trivial
  rw [← hyb] at i1 i3 i5
  have q4 := fop i1; have q5 := fop i2; have q6 := fop i3; have q7 := fop i4; have q8 := fop i5; have q9 := fop i6
  have g1 := fop k1; have g2 := fop k2; have g3 := fop k3; have g4 := fop k4; have g5 := fop k5; have g6 := fop k6; have g7 := fop k7; have g8 := fop k8; have g9 := fop k9; have g10 := fop k10; have g11 := fop k11; have g12 := fop k12; have g13 := fop k13; have g14 := fop k14
  obtain ⟨s0, s1, s2, s3, s4, s5, c0, c1, c2, c3, c4, c5⟩ := ht
  clear hres hm e1 e2 hyb i0 i1 i2 i3 i4 i5 i6 k1 k2 k3 k4 k5 k6 k7 k8 k9 k10 k11 k12 k13 k14 kr hz h hf h0 h7
  go_enter Tryz.func117, Tryz.ntmps117
  go_wp2_with fail
  refine Calls.mono (hn.out _) ?_
  rintro e _ ⟨rfl, rfl⟩
  go_wp2_with fail
  refine Calls.mono (hi.out _) ?_
  rintro e _ ⟨rfl, rfl⟩
  go_wp2_with fail
  go_ret
  exact ⟨by rw [HR.out]; rfl, rfl⟩
theorem sin_pos (x : Nat) (hf : Fin x) (h0 : 0 < fv x) (h7 : fv x ≤ 7) (w : World) (ht : SinT w) : Calls Tryz.prog 117 #[.float .f64 x] w fun e w' => e = .returned (.float .f64 (sinB x)) ∧ w' = w := by
  obtain ⟨j, h⟩ := octJ_ok hf (Rat.le_of_lt h0) h7
  have hj := h.le
  rcases (by omega : j = 0 ∨ j = 1 ∨ j = 2 ∨ j = 3 ∨ j = 4 ∨ j = 5 ∨ j = 6 ∨ j = 7 ∨ j = 8) with rfl | rfl | rfl | rfl | rfl | rfl | rfl | rfl | rfl
  · exact sin_j0 x hf h0 h7 h w ht
  · exact sin_j1 x hf h0 h7 h w ht
  · exact sin_j2 x hf h0 h7 h w ht
  · exact sin_j3 x hf h0 h7 h w ht
  · exact sin_j4 x hf h0 h7 h w ht
  · exact sin_j5 x hf h0 h7 h w ht
  · exact sin_j6 x hf h0 h7 h w ht
  · exact sin_j7 x hf h0 h7 h w ht
  · exact sin_j8 x hf h0 h7 h w ht
theorem sin_zero (x : Nat) (hf : Fin x) (h0 : fv x = 0) (w : World) : Calls Tryz.prog 117 #[.float .f64 x] w fun e w' => e = .returned (.float .f64 x) ∧ w' = w := by
  have ho : FloatKind.f64.format.order x 0 = some .eq := ford_eq hf fin_zero.1 (by rw [fin_zero.2]; exact h0)
  clear h0
  go_enter Tryz.func117, Tryz.ntmps117
  go_wp2_with fail
  go_ret
  exact ⟨rfl, rfl⟩
/-- math.Sin from 0 to 7. -/
theorem Sin_ok (x : Nat) (hf : Fin x) (h0 : 0 ≤ fv x) (h7 : fv x ≤ 7) (w : World) (ht : SinT w) : Calls Tryz.prog 108 #[.float .f64 x] w fun e w' => e = .returned (.float .f64 (sinB x)) ∧ w' = w := by
  have H : Calls Tryz.prog 117 #[.float .f64 x] w fun e w' => e = .returned (.float .f64 (sinB x)) ∧ w' = w := by
    by_cases hz : fv x = 0
    · have ho : Ieee.double.order x 0 = some .eq := ford_eq hf fin_zero.1 (by rw [fin_zero.2]; exact hz)
      have : sinB x = x := by unfold sinB; rw [if_pos ho]
      rw [this]
      exact sin_zero x hf hz w
    · exact sin_pos x hf (by grind) h7 w ht
  have HH := Lib.hid H
  clear H h0 h7 hf
  go_enter Tryz.func108, Tryz.ntmps108
  go_wp2_with fail
  refine Calls.mono HH.out ?_
  rintro e _ ⟨rfl, rfl⟩
  go_wp2_with fail
  go_ret
  exact ⟨rfl, rfl⟩
end Go.Proofs.YtdifeoahaegjbaaGreatDoor
/- math.xatan, satan, atan at this program. -/
namespace Go.Proofs.YtdifeoahaegjbaaGreatDoor
open Go.RowKit
set_option linter.unusedSimpArgs false
set_option linter.unusedVariables false

theorem fop_eq {op : BinOp} {x y r s : Nat} (h : floatBits op .f64 x y = some r) (h2 : floatBits op .f64 x y = some s) : r = s := Option.some.inj (h.symm.trans h2)
theorem ap_one : Ap 4607182418800017408 1 0 1 := by
  have h := ap_kO
  have e : kO = 1 := by unfold kO; grind
  rw [e] at h
  exact h
/-- A small number's own arc is not less than half of it. -/
theorem xat_pos {x : Nat} {X : Rat} (hx : Ap x X (1 / 1000000000000000) (67 / 100)) (h0 : 1 / 100000000000000000 ≤ fv x) : fv x / 2 ≤ fv (xatW x) := by
  obtain ⟨r1, r2, r3, r4, r5, r6, r7, r8, r9, r10, r11, r12, r13, r14, r15, r16, r17, r18, r19, r20, r21, r22, h1, h2, h3, h4, h5, h6, h7, h8, h9, h10, h11, h12, h13, h14, h15, h16, h17, h18, h19, h20, h21, h22, rb, kr, -⟩ := xat_ok hx
  have fx := hx.fin
  have x1 : fv x ≤ 68 / 100 := by have := hx.hi; have := hx.bh; grind
  clear hx h1 h2 h3 h4 h5 h6 h7 h8 h9 h10 h11 h12 h13 h14 h15 h16 h17 h18 h19
  rw [← kr]
  clear kr
  obtain ⟨fr, rb1, rb2⟩ := rb
  have m := prod_bd (s := fv x) (t := fv r20) (S := fv x) (T := 33 / 100) (by grind) (by grind) rb1 rb2
  have o := fmul_ok fx fr (fv x * (33 / 100)) (mid_of (by grind) (by grind)) m.1 m.2
  have e21 : r21 = Go.Proofs.YtdifeoahaegjbaaGreatDoor.fmul x r20 := fop_eq h21 o.is
  have n21 := o.near; have f21 := o.fin
  rw [← e21] at n21 f21
  unfold Near at n21
  have o2 := fadd_ok f21 fx (fv x * 2) (mid_of (by grind) (by grind)) (by grind) (by grind)
  have e22 : r22 = Go.Proofs.YtdifeoahaegjbaaGreatDoor.fadd r21 x := fop_eq h22 o2.is
  have n22 := o2.near
  rw [← e22] at n22
  unfold Near at n22
  grind
/-- The arc of a positive number, by words. -/
def satW (x : Nat) : Nat :=
  if fv x ≤ aL then xatW x
  else if aT < fv x then fadd (fsub 4609753056924675352 (xatW (fdiv 4607182418800017408 x))) 4364452196894661639
  else fadd (fadd 4605249457297304856 (xatW (fdiv (fsub x 4607182418800017408) (fadd x 4607182418800017408)))) 4359948597267291143
def satV (X : Rat) : Rat := if X ≤ aL then XA X else if aT < X then aH - XA (1 / X) + aM else aF + XA ((X - 1) / (X + 1)) + aN
theorem ap_word {w : Nat} {v B : Rat} (h : Ap w v 0 B) : fv w = v := by have := h.lo; have := h.hi; grind
theorem fin_of {w : Nat} {v e B : Rat} (h : Ap w v e B) : Fin w := h.fin
theorem mid_le : aL ≤ 67 / 100 ∧ 65 / 100 ≤ aL ∧ 24 / 10 ≤ aT ∧ aT ≤ 242 / 100 := by have := bd_aL; have := bd_aT; grind
/-- The steps of the second case. -/
theorem sat_high {x : Nat} (hf : Fin x) (h1 : aT < fv x) (h2 : fv x ≤ 1000000000000000000) : floatBits .quo .f64 4607182418800017408 x = some (fdiv 4607182418800017408 x) ∧ Ap (fdiv 4607182418800017408 x) (1 / fv x) (1 / 1000000000000000) (67 / 100) := by
  have b := mid_le
  have hx : Ap x (fv x) 0 1000000000000000000 := Ap.exact hf (by grind) h2
  have q := div_bd (a := 1) (b := fv x) (B := 42 / 100) (by grind) (by grind) (by grind)
  obtain ⟨i, a⟩ := Ap.div ap_one hx 2 (1 / 1000000000000000) (42 / 100) (42 / 100) (mid_of (by grind) (by grind)) (by grind) (by grind) (by grind) q (by grind) (by grind)
  exact ⟨i, a.weak Rat.le_refl (by grind)⟩
theorem sat_mid {x : Nat} (hf : Fin x) (h1 : aL < fv x) (h2 : fv x ≤ aT) : floatBits .sub .f64 x 4607182418800017408 = some (fsub x 4607182418800017408) ∧ floatBits .add .f64 x 4607182418800017408 = some (fadd x 4607182418800017408) ∧
    floatBits .quo .f64 (fsub x 4607182418800017408) (fadd x 4607182418800017408) = some (fdiv (fsub x 4607182418800017408) (fadd x 4607182418800017408)) ∧ Ap (fdiv (fsub x 4607182418800017408) (fadd x 4607182418800017408)) ((fv x - 1) / (fv x + 1)) (1 / 1000000000000000) (67 / 100) := by
  have b := mid_le
  have hx : Ap x (fv x) 0 (242 / 100) := Ap.exact hf (by grind) (by grind)
  obtain ⟨i1, a1⟩ := Ap.sub' hx ap_one (2 / 10000000000000000) (142 / 100) (142 / 100) (mid_of (by grind) (by grind)) (by grind) (by grind) (by grind)
  obtain ⟨i2, a2⟩ := Ap.add' hx ap_one (4 / 10000000000000000) (342 / 100) (342 / 100) (mid_of (by grind) (by grind)) (by grind) (by grind) (by grind)
  have q := div_bd (a := fv x - 1) (b := fv x + 1) (B := 42 / 100) (by grind) (by grind) (by grind)
  obtain ⟨i, a⟩ := Ap.div a1 a2 (165 / 100) (1 / 1000000000000000) (42 / 100) (43 / 100) (mid_of (by grind) (by grind)) (by grind) (by grind) (by grind) q (by grind) (by grind)
  exact ⟨i1, i2, i, a.weak Rat.le_refl (by grind)⟩
theorem sat_high2 {x : Nat} (hf : Fin x) (h1 : aT < fv x) (h2 : fv x ≤ 1000000000000000000) : floatBits .sub .f64 4609753056924675352 (xatW (fdiv 4607182418800017408 x)) = some (fsub 4609753056924675352 (xatW (fdiv 4607182418800017408 x))) ∧
    floatBits .add .f64 (fsub 4609753056924675352 (xatW (fdiv 4607182418800017408 x))) 4364452196894661639 = some (fadd (fsub 4609753056924675352 (xatW (fdiv 4607182418800017408 x))) 4364452196894661639) ∧
    Ap (fadd (fsub 4609753056924675352 (xatW (fdiv 4607182418800017408 x))) 4364452196894661639) (aH - XA (1 / fv x) + aM) (1 / 100000000000000) 3 := by
  obtain ⟨-, a⟩ := sat_high hf h1 h2
  obtain ⟨_, _, _, _, _, _, _, _, _, _, _, _, _, _, _, _, _, _, _, _, _, r22, -, -, -, -, -, -, -, -, -, -, -, -, -, -, -, -, -, -, -, -, -, -, -, kr, ax⟩ := xat_ok a
  rw [kr] at ax
  obtain ⟨i1, a1⟩ := Ap.sub ap_aH ax (8 / 1000000000000000) (248 / 100) (249 / 100) (mid_of (by grind) (by grind)) (by grind) (by grind) (by grind)
  obtain ⟨i2, a2⟩ := Ap.add a1 ap_aM (1 / 100000000000000) (249 / 100) (250 / 100) (mid_of (by grind) (by grind)) (by grind) (by grind) (by grind)
  exact ⟨i1, i2, a2.weak Rat.le_refl (by grind)⟩
theorem sat_mid2 {x : Nat} (hf : Fin x) (h1 : aL < fv x) (h2 : fv x ≤ aT) : floatBits .add .f64 4605249457297304856 (xatW (fdiv (fsub x 4607182418800017408) (fadd x 4607182418800017408))) = some (fadd 4605249457297304856 (xatW (fdiv (fsub x 4607182418800017408) (fadd x 4607182418800017408)))) ∧
    floatBits .add .f64 (fadd 4605249457297304856 (xatW (fdiv (fsub x 4607182418800017408) (fadd x 4607182418800017408)))) 4359948597267291143 = some (fadd (fadd 4605249457297304856 (xatW (fdiv (fsub x 4607182418800017408) (fadd x 4607182418800017408)))) 4359948597267291143) ∧
    Ap (fadd (fadd 4605249457297304856 (xatW (fdiv (fsub x 4607182418800017408) (fadd x 4607182418800017408)))) 4359948597267291143) (aF + XA ((fv x - 1) / (fv x + 1)) + aN) (1 / 100000000000000) 3 := by
  obtain ⟨-, -, -, a⟩ := sat_mid hf h1 h2
  obtain ⟨_, _, _, _, _, _, _, _, _, _, _, _, _, _, _, _, _, _, _, _, _, r22, -, -, -, -, -, -, -, -, -, -, -, -, -, -, -, -, -, -, -, -, -, -, -, kr, ax⟩ := xat_ok a
  rw [kr] at ax
  obtain ⟨i1, a1⟩ := Ap.add ap_aF ax (8 / 1000000000000000) (168 / 100) (169 / 100) (mid_of (by grind) (by grind)) (by grind) (by grind) (by grind)
  obtain ⟨i2, a2⟩ := Ap.add a1 ap_aN (1 / 100000000000000) (169 / 100) (170 / 100) (mid_of (by grind) (by grind)) (by grind) (by grind) (by grind)
  exact ⟨i1, i2, a2.weak Rat.le_refl (by grind)⟩
theorem sat_ap {x : Nat} (hf : Fin x) (h0 : 0 < fv x) (h2 : fv x ≤ 1000000000000000000) : Ap (satW x) (satV (fv x)) (1 / 100000000000000) 3 := by
  unfold satW satV
  have b := mid_le
  by_cases c1 : fv x ≤ aL
  · rw [if_pos c1, if_pos c1]
    have hx : Ap x (fv x) (1 / 1000000000000000) (67 / 100) := (Ap.exact hf (by grind) (by grind)).weak (by grind) Rat.le_refl
    obtain ⟨_, _, _, _, _, _, _, _, _, _, _, _, _, _, _, _, _, _, _, _, _, r22, -, -, -, -, -, -, -, -, -, -, -, -, -, -, -, -, -, -, -, -, -, -, -, kr, ax⟩ := xat_ok hx
    rw [kr] at ax
    exact ax.weak (by grind) (by grind)
  · rw [if_neg c1, if_neg c1]
    by_cases c2 : aT < fv x
    · rw [if_pos c2, if_pos c2]; exact (sat_high2 hf c2 h2).2.2
    · rw [if_neg c2, if_neg c2]; exact (sat_mid2 hf (by grind) (by grind)).2.2
theorem fv_aL : fv 4604119971053405471 = aL := ap_word ap_aL
theorem fv_aT : fv 4612618744449965542 = aT := ap_word ap_aT
theorem leq_ord {x y : Nat} (hx : Fin x) (hy : Fin y) : (FloatKind.f64.format.order x y = some .lt ∧ fv x < fv y) ∨ (FloatKind.f64.format.order x y = some .eq ∧ fv x = fv y) ∨ (FloatKind.f64.format.order x y = some .gt ∧ fv y < fv x) := by
  by_cases c : fv x < fv y
  · exact .inl ⟨ford_lt hx hy c, c⟩
  · by_cases d : fv x = fv y
    · exact .inr (.inl ⟨ford_eq hx hy d, d⟩)
    · have e : fv y < fv x := by grind
      exact .inr (.inr ⟨ford_gt hx hy e, e⟩)
/-- The arc of a number. -/
def atW (x : Nat) : Nat := if fv x = 0 then x else if 0 < fv x then satW x else fneg (satW (fneg x))
end Go.Proofs.YtdifeoahaegjbaaGreatDoor
/- math.Copysign, IsInf, Atan2 at whole numbers; trig.direction. -/
namespace Go.Proofs.YtdifeoahaegjbaaGreatDoor
open Go.RowKit
set_option linter.unusedSimpArgs false
set_option linter.unusedVariables false

theorem sgn_bit {y : Nat} (hf : Fin y) : (fv y < 0 → y / 2 ^ 63 % 2 = 1) ∧ (0 < fv y → y / 2 ^ 63 % 2 = 0) := by
  obtain ⟨s, m, p, hr⟩ := hf
  have hs : s = (y / 2 ^ 63 % 2 == 1) := by
    have hsw : Ieee.double.signWeight = 2 ^ 63 := rfl
    unfold Ieee.Format.read at hr
    dsimp only at hr
    rw [hsw] at hr
    by_cases c1 : y % 2 ^ 63 < Ieee.double.binade
    · rw [if_pos c1] at hr
      cases hr; rfl
    · rw [if_neg c1] at hr
      by_cases c2 : y % 2 ^ 63 < Ieee.double.infRung
      · rw [if_pos c2] at hr
        cases hr; rfl
      · rw [if_neg c2] at hr
        split at hr <;> cases hr
  rw [fv_fin hr]
  have h1 : 0 ≤ (m : Rat) * (2 : Rat) ^ p := Rat.mul_nonneg (nat_nonneg m) (Rat.le_of_lt (p2_pos p))
  rw [Rat.mul_assoc]
  generalize (m : Rat) * (2 : Rat) ^ p = v at *
  cases s
  · rw [sg_f]
    refine ⟨fun h => by grind, fun _ => ?_⟩
    have := hs.symm
    rw [beq_eq_false_iff_ne] at this
    omega
  · rw [sg_t]
    refine ⟨fun _ => ?_, fun h => by grind⟩
    have := hs.symm
    rw [beq_iff_eq] at this
    exact this
theorem and_p63 (A : Nat) : A &&& 2 ^ 63 = A / 2 ^ 63 % 2 * 2 ^ 63 := by
  have h1 : (A &&& 2 ^ 63) / 2 ^ 63 = A / 2 ^ 63 % 2 := by rw [Nat.and_div_two_pow, show 2 ^ 63 / 2 ^ 63 = 1 by decide, Nat.and_one_is_mod]
  have h2 : (A &&& 2 ^ 63) % 2 ^ 63 = 0 := by rw [Nat.and_mod_two_pow, show 2 ^ 63 % 2 ^ 63 = 0 by decide, Nat.and_zero]
  omega
set_option maxRecDepth 100000 in
theorem and_bits (x : Nat) : bits .and .u64 (x : Int) 9223372036854775808 = (((x / 2 ^ 63 % 2) * 2 ^ 63 : Nat) : Int) := by
  have hx : (BitVec.ofInt 64 (x : Int)).toNat = x % 2 ^ 64 := by simp
  have hc : (BitVec.ofInt 64 9223372036854775808).toNat = 2 ^ 63 := by decide
  have e : (BitVec.ofInt 64 (x : Int) &&& BitVec.ofInt 64 9223372036854775808).toNat = (x / 2 ^ 63 % 2) * 2 ^ 63 := by
    rw [BitVec.toNat_and, hx, hc, and_p63]
    have : x % 2 ^ 64 / 2 ^ 63 % 2 = x / 2 ^ 63 % 2 := by omega
    rw [this]
  show IntKind.u64.wrap ((BitVec.ofInt 64 (x : Int) &&& BitVec.ofInt 64 9223372036854775808).toNat : Nat) = _
  rw [e]
  rcases Nat.mod_two_eq_zero_or_one (x / 2 ^ 63) with c | c <;> rw [c] <;> decide
set_option maxRecDepth 100000 in
theorem copysign_ok (v y r b : Nat) (hb : y / 2 ^ 63 % 2 * 2 ^ 63 = b) (hr : bits .or .u64 ((fabs v : Nat) : Int) (b : Int) = (r : Int)) (w : World) :
    Calls Tryz.prog 132 #[.float .f64 v, .float .f64 y] w fun e w' => e = .returned (.float .f64 r) ∧ w' = w := by
  have h1 := fbits_run v
  have h4 := fbits_run y
  have h2 := ffrom_run r
  have h3 : bits .andNot .u64 (v : Int) 9223372036854775808 = ((fabs v : Nat) : Int) := abs_bitsV v
  have h5 : bits .and .u64 (y : Int) 9223372036854775808 = (b : Int) := by rw [and_bits, hb]
  generalize fabs v = z at *
  clear hb
  go_enter Tryz.func132, Tryz.ntmps132
  go_wp2
  go_ret
  exact ⟨rfl, rfl⟩
theorem max_gt2 {x : Nat} (hx : Fin x) (h : fv x ≤ 1000000000000000000) : Ieee.double.order x 9218868437227405311 = some .lt := by
  have hr : Ieee.double.read 9218868437227405311 = .number false 9007199254740991 971 := by decide
  refine ford_lt hx ⟨_, _, _, hr⟩ ?_
  rw [fv_fin hr, sg_f]
  have h1 := p2_le (i := 20) (j := 971) (by omega)
  have e : ((9007199254740991 : Nat) : Rat) = 9007199254740991 := rfl
  have e2 : (2 : Rat) ^ (20 : Int) = 1048576 := by
    have : (2 : Rat) ^ ((20 : Nat) : Int) = (2 : Rat) ^ 20 := p2_nat 20
    rw [show (20 : Int) = ((20 : Nat) : Int) from rfl, this]; rfl
  rw [e2] at h1
  rw [e]
  generalize (2 : Rat) ^ (971 : Int) = v at *
  grind
theorem isInf_big (x : Nat) (h : Fin x) (h1 : -1000000000000000000 ≤ fv x) (h2 : fv x ≤ 1000000000000000000) (w : World) : Calls Tryz.prog 123 #[.float .f64 x, .int .i64 0] w fun e w' => e = .returned (.bool false) ∧ w' = w := by
  obtain ⟨f1, f2, f3, f4⟩ := fabs_ok h
  have hle : fv (fabs x) ≤ 1000000000000000000 := by
    rcases Rat.le_total (a := 0) (b := fv x) with c | c
    · rw [f3 c]; exact h2
    · rw [f4 c]; grind
  have ho : FloatKind.f64.format.order (fabs x) 9218868437227405311 = some .lt := max_gt2 f1 hle
  have ha := abs_ok x
  generalize fabs x = y at *
  clear f1 f2 f3 f4 hle h1 h2 h
  have HA := Lib.hid ha
  clear ha
  go_enter Tryz.func123, Tryz.ntmps123
  go_wp2_with fail
  refine Calls.mono (HA.out _) ?_
  rintro e _ ⟨rfl, rfl⟩
  go_wp2
  go_ret
  exact ⟨rfl, rfl⟩
/-- The word of a whole number. -/
def iw (n : Int) : Nat := floatOfInt .f64 n
/-- A whole number that a word holds exactly. -/
def Sml (n : Int) : Prop := -9007199254740992 < n ∧ n < 9007199254740992
theorem iw_ok {n : Int} (h : Sml n) : Fin (iw n) ∧ fv (iw n) = (n : Rat) := fint_ok n h.1 h.2
theorem sml_bd {n : Int} (h : Sml n) : -9007199254740992 ≤ (n : Rat) ∧ (n : Rat) ≤ 9007199254740992 := by
  have e1 : ((-9007199254740992 : Int) : Rat) = -9007199254740992 := rfl
  have e2 : ((9007199254740992 : Int) : Rat) = 9007199254740992 := rfl
  rw [← e1, ← e2]
  exact ⟨Rat.intCast_le_intCast.2 (by have := h.1; omega), Rat.intCast_le_intCast.2 (by have := h.2; omega)⟩
theorem int_pos {n : Int} (h : 0 < n) : (1 : Rat) ≤ (n : Rat) := by
  have e1 : ((1 : Int) : Rat) = 1 := rfl
  rw [← e1]; exact Rat.intCast_le_intCast.2 h
theorem int_neg {n : Int} (h : n < 0) : (n : Rat) ≤ -1 := by
  have e1 : ((-1 : Int) : Rat) = -1 := rfl
  rw [← e1]; exact Rat.intCast_le_intCast.2 (by omega)
theorem iw_ord {n : Int} (h : Sml n) : (n = 0 → FloatKind.f64.format.order (iw n) 0 = some .eq) ∧ (0 < n → FloatKind.f64.format.order (iw n) 0 = some .gt) ∧ (n < 0 → FloatKind.f64.format.order (iw n) 0 = some .lt) := by
  obtain ⟨f, v⟩ := iw_ok h
  refine ⟨fun e => ?_, fun e => ?_, fun e => ?_⟩
  · exact ford_eq f fin_zero.1 (by rw [v, fin_zero.2, e]; rfl)
  · exact ford_gt f fin_zero.1 (by rw [v, fin_zero.2]; have := int_pos e; grind)
  · exact ford_lt f fin_zero.1 (by rw [v, fin_zero.2]; have := int_neg e; grind)
theorem iw_bit {n : Int} (h : Sml n) : (n < 0 → iw n / 2 ^ 63 % 2 = 1) ∧ (0 < n → iw n / 2 ^ 63 % 2 = 0) := by
  obtain ⟨f, v⟩ := iw_ok h
  have b := sgn_bit f
  rw [v] at b
  exact ⟨fun e => b.1 (by have := int_neg e; grind), fun e => b.2 (by have := int_pos e; grind)⟩
theorem rat_quot_pos {Y X : Rat} (h1 : 1 ≤ Y) (h2 : Y ≤ 9007199254740992) (h3 : 1 ≤ X) (h4 : X ≤ 9007199254740992) : 1 / 9007199254740992 ≤ Y / X ∧ Y / X ≤ 9007199254740992 := by
  have e : Y = Y / X * X := by grind
  generalize Y / X = q at *
  subst e
  constructor
  · apply Rat.not_lt.1
    intro h
    have := Rat.mul_lt_mul_of_pos_right h (show 0 < X by grind)
    grind
  · apply Rat.not_lt.1
    intro h
    have := Rat.mul_lt_mul_of_pos_right h (show 0 < X by grind)
    grind
/-- The quotient of two whole numbers other than 0. -/
structure QuotOk (Y X : Int) : Prop where
  is : floatBits .quo .f64 (iw Y) (iw X) = some (fdiv (iw Y) (iw X))
  fin : Fin (fdiv (iw Y) (iw X))
  pos : (0 < Y ∧ 0 < X ∨ Y < 0 ∧ X < 0) → 1 / 10000000000000000 ≤ fv (fdiv (iw Y) (iw X)) ∧ fv (fdiv (iw Y) (iw X)) ≤ 10000000000000000 ∧ Near (fv (fdiv (iw Y) (iw X))) ((Y : Rat) / (X : Rat)) ((Y : Rat) / (X : Rat) / 2251799813685248)
  neg : (0 < Y ∧ X < 0 ∨ Y < 0 ∧ 0 < X) → fv (fdiv (iw Y) (iw X)) ≤ -(1 / 10000000000000000) ∧ -10000000000000000 ≤ fv (fdiv (iw Y) (iw X)) ∧ Near (fv (fdiv (iw Y) (iw X))) ((Y : Rat) / (X : Rat)) (-((Y : Rat) / (X : Rat)) / 2251799813685248)
theorem quot_is {Y X : Int} (hY : Sml Y) (hX : Sml X) (h0 : Y ≠ 0) (h1 : X ≠ 0) : QuotOk Y X := by
  obtain ⟨f1, v1⟩ := iw_ok hY
  obtain ⟨f2, v2⟩ := iw_ok hX
  have b1 := sml_bd hY; have b2 := sml_bd hX
  by_cases c1 : 0 < Y
  · have p1 := int_pos c1
    by_cases c2 : 0 < X
    · have p2 := int_pos c2
      have q := rat_quot_pos p1 b1.2 p2 b2.2
      have o := fdiv_ok f1 f2 (by rw [v2]; grind) ((Y : Rat) / (X : Rat)) (mid_of (by grind) (by grind)) (by rw [v1, v2]; grind) (by rw [v1, v2]; grind)
      obtain ⟨o1, o2, o3⟩ := o
      rw [v1, v2] at o3
      refine ⟨o1, o2, fun _ => ⟨?_, ?_, o3⟩, fun h => absurd h (by omega)⟩
      · unfold Near at o3; grind
      · unfold Near at o3; grind
    · have p2 := int_neg (show X < 0 by omega)
      have q := rat_quot_pos p1 b1.2 (show 1 ≤ -(X : Rat) by grind) (by grind)
      have e : (Y : Rat) / (X : Rat) = -((Y : Rat) / (-(X : Rat))) := by grind
      have o := fdiv_ok f1 f2 (by rw [v2]; grind) ((Y : Rat) / (-(X : Rat))) (mid_of (by grind) (by grind)) (by rw [v1, v2, e]; grind) (by rw [v1, v2, e]; grind)
      obtain ⟨o1, o2, o3⟩ := o
      rw [v1, v2] at o3
      rw [show (Y : Rat) / (-(X : Rat)) = -((Y : Rat) / (X : Rat)) by grind] at o3 q
      refine ⟨o1, o2, fun h => absurd h (by omega), fun _ => ⟨?_, ?_, o3⟩⟩
      · unfold Near at o3; grind
      · unfold Near at o3; grind
  · have p1 := int_neg (show Y < 0 by omega)
    by_cases c2 : 0 < X
    · have p2 := int_pos c2
      have q := rat_quot_pos (show 1 ≤ -(Y : Rat) by grind) (by grind) p2 b2.2
      have e : (Y : Rat) / (X : Rat) = -((-(Y : Rat)) / (X : Rat)) := by grind
      have o := fdiv_ok f1 f2 (by rw [v2]; grind) ((-(Y : Rat)) / (X : Rat)) (mid_of (by grind) (by grind)) (by rw [v1, v2, e]; grind) (by rw [v1, v2, e]; grind)
      obtain ⟨o1, o2, o3⟩ := o
      rw [v1, v2] at o3
      rw [show (-(Y : Rat)) / (X : Rat) = -((Y : Rat) / (X : Rat)) by grind] at o3 q
      refine ⟨o1, o2, fun h => absurd h (by omega), fun _ => ⟨?_, ?_, o3⟩⟩
      · unfold Near at o3; grind
      · unfold Near at o3; grind
    · have p2 := int_neg (show X < 0 by omega)
      have q := rat_quot_pos (show 1 ≤ -(Y : Rat) by grind) (by grind) (show 1 ≤ -(X : Rat) by grind) (by grind)
      have e : (Y : Rat) / (X : Rat) = (-(Y : Rat)) / (-(X : Rat)) := by grind
      rw [← e] at q
      have o := fdiv_ok f1 f2 (by rw [v2]; grind) ((Y : Rat) / (X : Rat)) (mid_of (by grind) (by grind)) (by rw [v1, v2]; grind) (by rw [v1, v2]; grind)
      obtain ⟨o1, o2, o3⟩ := o
      rw [v1, v2] at o3
      refine ⟨o1, o2, fun _ => ⟨?_, ?_, o3⟩, fun h => absurd h (by omega)⟩
      · unfold Near at o3; grind
      · unfold Near at o3; grind
theorem XA_bd {Z c : Rat} (h1 : -c ≤ Z) (h2 : Z ≤ c) (hc : c ≤ 67 / 100) : -(33 / 25 * c) ≤ XA Z ∧ XA Z ≤ 33 / 25 * c := by
  have hz2 : 0 ≤ Z * Z := zsq Z
  have hz3 : Z * Z ≤ 449 / 1000 := zsq_le (by grind) (by grind)
  have q0 : 194 ≤ QA (Z * Z) := qa_lo hz2 bd_aQ0.1 bd_aQ1.1 bd_aQ2.1 bd_aQ3.1 bd_aQ4.1
  have q1 := pq_bd hz2 hz3 bd_aP0 bd_aP1 bd_aP2 bd_aP3 bd_aP4 q0
  have m := prod_bd h1 h2 q1.1 q1.2
  unfold XA PA
  unfold QA at *
  grind
/-- The sign of an arc. -/
theorem sat_pos {x : Nat} (hf : Fin x) (h0 : 1 / 100000000000000000 ≤ fv x) (h2 : fv x ≤ 1000000000000000000) : 0 < fv (satW x) := by
  have b := mid_le
  by_cases c1 : fv x ≤ aL
  · have e : satW x = xatW x := by unfold satW; rw [if_pos c1]
    have hx : Ap x (fv x) (1 / 1000000000000000) (67 / 100) := (Ap.exact hf (by grind) (by grind)).weak (by grind) Rat.le_refl
    have := xat_pos hx h0
    rw [e]; grind
  · by_cases c2 : aT < fv x
    · have e : satW x = fadd (fsub 4609753056924675352 (xatW (fdiv 4607182418800017408 x))) 4364452196894661639 := by unfold satW; rw [if_neg c1, if_pos c2]
      obtain ⟨-, a⟩ := sat_high hf c2 h2
      obtain ⟨_, _, _, _, _, _, _, _, _, _, _, _, _, _, _, _, _, _, _, _, _, r22, -, -, -, -, -, -, -, -, -, -, -, -, -, -, -, -, -, -, -, -, -, -, -, kr, ax⟩ := xat_ok a
      obtain ⟨-, -, a2⟩ := sat_high2 hf c2 h2
      rw [e]
      have h1 := a2.lo; have h3 := ax.bh; have h4 := bd_aH; have h5 := bd_aM
      grind
    · have e : satW x = fadd (fadd 4605249457297304856 (xatW (fdiv (fsub x 4607182418800017408) (fadd x 4607182418800017408)))) 4359948597267291143 := by unfold satW; rw [if_neg c1, if_neg c2]
      have q := div_bd (a := fv x - 1) (b := fv x + 1) (B := 42 / 100) (by grind) (by grind) (by grind)
      have m := XA_bd q.1 q.2 (by grind)
      obtain ⟨-, -, a2⟩ := sat_mid2 hf (by grind) (by grind)
      rw [e]
      have h1 := a2.lo; have h4 := bd_aF; have h5 := bd_aN
      grind
/-- The direction of a pair of whole numbers. -/
def at2W (Y X : Int) : Nat :=
  if Y = 0 then (if X < 0 then 4614256656552045848 else 0)
  else if X = 0 then (if Y < 0 then 13833125093779451160 else 4609753056924675352)
  else if X < 0 then (if Y < 0 then fsub (atW (fdiv (iw Y) (iw X))) 4614256656552045848 else fadd (atW (fdiv (iw Y) (iw X))) 4614256656552045848)
  else atW (fdiv (iw Y) (iw X))
theorem iw_zero : iw 0 = 0 := by decide
/-- The arc of a quotient, whatever its sign. -/
theorem atW_pos {q : Nat} (hf : Fin q) (h1 : 1 / 100000000000000000 ≤ fv q) (h2 : fv q ≤ 1000000000000000000) : Ap (atW q) (satV (fv q)) (1 / 100000000000000) 3 ∧ 0 < fv (atW q) := by
  have e : atW q = satW q := by unfold atW; rw [if_neg (by grind), if_pos (by grind)]
  rw [e]
  exact ⟨sat_ap hf (by grind) h2, sat_pos hf h1 h2⟩
theorem atW_neg {q : Nat} (hf : Fin q) (h1 : fv q ≤ -(1 / 100000000000000000)) (h2 : -1000000000000000000 ≤ fv q) : Ap (atW q) (-satV (-fv q)) (1 / 100000000000000) 3 ∧ fv (atW q) < 0 := by
  have e : atW q = fneg (satW (fneg q)) := by unfold atW; rw [if_neg (by grind), if_neg (by grind)]
  obtain ⟨fn, vn⟩ := fneg_ok hf
  have a := sat_ap fn (by rw [vn]; grind) (by rw [vn]; grind)
  have b := sat_pos fn (by rw [vn]; grind) (by rw [vn]; grind)
  rw [vn] at a
  rw [e]
  refine ⟨a.neg, ?_⟩
  rw [(fneg_ok a.fin).2]; grind
end Go.Proofs.YtdifeoahaegjbaaGreatDoor
