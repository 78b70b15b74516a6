/- How far the true elongation moves over some times (printed by wip/tools/gen-ph.py). Plain. -/
import Derived.Test.YtlldmhnkaopjhaaDoorPhP
namespace Go.Proofs.YtlldmhnkaopjhaaDoor
set_option linter.unusedSimpArgs false
set_option linter.unusedVariables false
theorem tm_chord (A P R : Int) (t : Rat) {T : Rat} {n M : Int} {mA : Rat} (hn : -1 ≤ (R : Rat) * T / 86400000000000 / 2 - (n : Rat) ∧ (R : Rat) * T / 86400000000000 / 2 - (n : Rat) ≤ 1) (hs : -M ≤ sLo n ∧ sHi n ≤ M) (hM : M ≤ 1000000010) (hA : -mA ≤ (A : Rat) ∧ (A : Rat) ≤ mA) :
    Near ((A : Rat) * SA (phT P R (t + T))) ((A : Rat) * SA (phT P R t)) (mA * (2 * ((M : Rat) + 20) / 1000000000)) := by
  have e : phT P R (t + T) = phT P R t + (R : Rat) * T / 86400000000000 := by unfold phT; grind
  rw [e]
  obtain ⟨d, hd⟩ : ∃ d, d = (R : Rat) * T / 86400000000000 := ⟨_, rfl⟩
  rw [← hd] at hn ⊢
  have s := sine_in n
  have l := s.lo; have h := s.hi
  have q := qq_b9
  have lp := (SA_lipD (y := (n : Rat)) (d := d / 2 - (n : Rat)) (D := 1) hn).1
  rw [SA_int, show (n : Rat) + (d / 2 - (n : Rat)) = d / 2 by grind] at lp
  have m1 := Rat.intCast_le_intCast.2 hs.1
  have m2 := Rat.intCast_le_intCast.2 hs.2
  have m3 := Rat.intCast_le_intCast.2 hM
  rw [Rat.intCast_neg] at m1
  rw [show ((1000000010 : Int) : Rat) = 1000000010 from rfl] at m3
  have b : -(((M : Rat) + 10) / 1000000000) ≤ SA (d / 2) ∧ SA (d / 2) ≤ ((M : Rat) + 10) / 1000000000 := by
    unfold Near ra at lp
    clear hA e hd hn
    generalize SA (d / 2) = x at *
    generalize SN n = y at *
    generalize qq = p at *
    constructor <;> grind
  have c := SA_chord (y := phT P R t) b (by grind)
  have mm := rmul_bd (a := (A : Rat)) (b := SA (phT P R t + d) - SA (phT P R t)) (A := mA) (B := 2 * ((M : Rat) + 20) / 1000000000) hA (by
    unfold Near at c
    clear lp b l h m1 m2 hA
    generalize SA (phT P R t + d) = x at *
    generalize SA (phT P R t) = y at *
    constructor <;> grind)
  clear c lp b l h
  unfold Near
  generalize SA (phT P R t + d) = x at *
  generalize SA (phT P R t) = y at *
  generalize mA * (2 * ((M : Rat) + 20) / 1000000000) = z at *
  constructor <;> grind
theorem ph_na : (-633187829 ≤ sLo 109126967 ∧ sHi 109126967 ≤ 633187829) ∧ (-559599472 ≤ sLo 94522508 ∧ sHi 94522508 ≤ 559599472) ∧ (-957891736 ≤ sLo 203649474 ∧ sHi 203649474 ≤ 957891736) ∧ (-980172449 ≤ sLo 218253934 ∧ sHi 218253934 ≤ 980172449) ∧ (-51702309 ≤ sLo 8232348 ∧ sHi 8232348 ≤ 51702309) ∧ (-983444711 ≤ sLo 220999563 ∧ sHi 220999563 ≤ 983444711) ∧ (-51702309 ≤ sLo 8232348 ∧ sHi 8232348 ≤ 51702309) ∧ (-103266316 ≤ sLo 16464696 ∧ sHi 16464696 ≤ 103266316) := by decide +kernel
theorem el_a (t : Rat) : 171660804 ≤ elT (t + 519600001) - elT t ∧ elT (t + 519600001) - elT t ≤ 235638144 := by
  obtain ⟨n0, n1, n2, n3, n4, n5, n6, n7⟩ := ph_na
  have c0 := tm_chord (17468817) 99384016 36291647083333 t (T := 519600001) (n := 109126967) (M := 633187829) (mA := 17468817) (by rw [show ((36291647083333 : Int) : Rat) = 36291647083333 from rfl, show ((109126967 : Int) : Rat) = 109126967 from rfl]; grind) n0 (by omega) (by rw [show ((17468817 : Int) : Rat) = 17468817 from rfl]; grind)
  rw [show ((17468817 : Int) : Rat) = 17468817 from rfl, show ((633187829 : Int) : Rat) = 633187829 from rfl] at c0
  have c1 := tm_chord (3538964) 134030564 31434736861111 t (T := 519600001) (n := 94522508) (M := 559599472) (mA := 3538964) (by rw [show ((31434736861111 : Int) : Rat) = 31434736861111 from rfl, show ((94522508 : Int) : Rat) = 94522508 from rfl]; grind) n1 (by omega) (by rw [show ((3538964 : Int) : Rat) = 3538964 from rfl]; grind)
  rw [show ((3538964 : Int) : Rat) = 3538964 from rfl, show ((559599472 : Int) : Rat) = 559599472 from rfl] at c1
  have c2 := tm_chord (1828650) 233414580 67726383944444 t (T := 519600001) (n := 203649474) (M := 957891736) (mA := 1828650) (by rw [show ((67726383944444 : Int) : Rat) = 67726383944444 from rfl, show ((203649474 : Int) : Rat) = 203649474 from rfl]; grind) n2 (by omega) (by rw [show ((1828650 : Int) : Rat) = 1828650 from rfl]; grind)
  rw [show ((1828650 : Int) : Rat) = 1828650 from rfl, show ((957891736 : Int) : Rat) = 957891736 from rfl] at c2
  have c3 := tm_chord (593383) 198768032 72583294166666 t (T := 519600001) (n := 218253934) (M := 980172449) (mA := 593383) (by rw [show ((72583294166666 : Int) : Rat) = 72583294166666 from rfl, show ((218253934 : Int) : Rat) = 218253934 from rfl]; grind) n3 (by omega) (by rw [show ((593383 : Int) : Rat) = 593383 from rfl]; grind)
  rw [show ((593383 : Int) : Rat) = 593383 from rfl, show ((980172449 : Int) : Rat) = 980172449 from rfl] at c3
  have c4 := tm_chord (-514211) 84888545 2737778555556 t (T := 519600001) (n := 8232348) (M := 51702309) (mA := 514211) (by rw [show ((2737778555556 : Int) : Rat) = 2737778555556 from rfl, show ((8232348 : Int) : Rat) = 8232348 from rfl]; grind) n4 (by omega) (by rw [show ((-514211 : Int) : Rat) = -514211 from rfl]; grind)
  rw [show ((-514211 : Int) : Rat) = -514211 from rfl, show ((51702309 : Int) : Rat) = 51702309 from rfl] at c4
  have c5 := tm_chord (-317589) 297001062 73496390222222 t (T := 519600001) (n := 220999563) (M := 983444711) (mA := 317589) (by rw [show ((73496390222222 : Int) : Rat) = 73496390222222 from rfl, show ((220999563 : Int) : Rat) = 220999563 from rfl]; grind) n5 (by omega) (by rw [show ((-317589 : Int) : Rat) = -317589 from rfl]; grind)
  rw [show ((-317589 : Int) : Rat) = -317589 from rfl, show ((983444711 : Int) : Rat) = 983444711 from rfl] at c5
  have c6 := tm_chord (5318339) 84888545 2737778555556 t (T := 519600001) (n := 8232348) (M := 51702309) (mA := 5318339) (by rw [show ((2737778555556 : Int) : Rat) = 2737778555556 from rfl, show ((8232348 : Int) : Rat) = 8232348 from rfl]; grind) n6 (by omega) (by rw [show ((5318339 : Int) : Rat) = 5318339 from rfl]; grind)
  rw [show ((5318339 : Int) : Rat) = 5318339 from rfl, show ((51702309 : Int) : Rat) = 51702309 from rfl] at c6
  have c7 := tm_chord (55536) 169777090 5475557111112 t (T := 519600001) (n := 16464696) (M := 103266316) (mA := 55536) (by rw [show ((5475557111112 : Int) : Rat) = 5475557111112 from rfl, show ((16464696 : Int) : Rat) = 16464696 from rfl]; grind) n7 (by omega) (by rw [show ((55536 : Int) : Rat) = 55536 from rfl]; grind)
  rw [show ((55536 : Int) : Rat) = 55536 from rfl, show ((103266316 : Int) : Rat) = 103266316 from rfl] at c7
  have eM : ∀ t, svT moonLZ 6 t = 0 + (17468817) * SA (phT 99384016 36291647083333 t) + (3538964) * SA (phT 134030564 31434736861111 t) + (1828650) * SA (phT 233414580 67726383944444 t) + (593383) * SA (phT 198768032 72583294166666 t) + (-514211) * SA (phT 84888545 2737778555556 t) + (-317589) * SA (phT 297001062 73496390222222 t) := fun _ => rfl
  have eS : ∀ t, svT sunZ 2 t = 0 + (5318339) * SA (phT 84888545 2737778555556 t) + (55536) * SA (phT 169777090 5475557111112 t) := fun _ => rfl
  have ek : ∀ t, elT t = phT 392048814 36601101305556 t + svT moonLZ 6 t - (phT 775342092 2737909333333 t + svT sunZ 2 t) := fun _ => rfl
  rw [ek, ek, eM, eM, eS, eS]
  have em : phT 392048814 36601101305556 (t + 519600001) - phT 775342092 2737909333333 (t + 519600001) = phT 392048814 36601101305556 t - phT 775342092 2737909333333 t + 33863191972223 * 519600001 / 86400000000000 := by unfold phT; rw [show ((36601101305556 : Int) : Rat) = 36601101305556 from rfl, show ((2737909333333 : Int) : Rat) = 2737909333333 from rfl]; grind
  clear eM eS ek
  unfold Near at *
  generalize SA (phT 99384016 36291647083333 (t + 519600001)) = x0 at *
  generalize SA (phT 99384016 36291647083333 t) = y0 at *
  generalize SA (phT 134030564 31434736861111 (t + 519600001)) = x1 at *
  generalize SA (phT 134030564 31434736861111 t) = y1 at *
  generalize SA (phT 233414580 67726383944444 (t + 519600001)) = x2 at *
  generalize SA (phT 233414580 67726383944444 t) = y2 at *
  generalize SA (phT 198768032 72583294166666 (t + 519600001)) = x3 at *
  generalize SA (phT 198768032 72583294166666 t) = y3 at *
  generalize SA (phT 84888545 2737778555556 (t + 519600001)) = x4 at *
  generalize SA (phT 84888545 2737778555556 t) = y4 at *
  generalize SA (phT 297001062 73496390222222 (t + 519600001)) = x5 at *
  generalize SA (phT 297001062 73496390222222 t) = y5 at *
  generalize SA (phT 169777090 5475557111112 (t + 519600001)) = x7 at *
  generalize SA (phT 169777090 5475557111112 t) = y7 at *
  generalize phT 392048814 36601101305556 (t + 519600001) = u1 at *
  generalize phT 775342092 2737909333333 (t + 519600001) = u2 at *
  generalize phT 392048814 36601101305556 t = u3 at *
  generalize phT 775342092 2737909333333 t = u4 at *
  clear n0 n1 n2 n3 n4 n5 n6 n7
  constructor <;> grind
theorem ph_nb : (-854474601 ≤ sLo 163060386 ∧ sHi 163060386 ≤ 854474601) ∧ (-775448217 ≤ sLo 141238019 ∧ sHi 141238019 ≤ 775448217) ∧ (-942364868 ≤ sLo 304298405 ∧ sHi 304298405 ≤ 942364868) ∧ (-887787449 ≤ sLo 326120773 ∧ sHi 326120773 ≤ 887787449) ∧ (-77212482 ≤ sLo 12300991 ∧ sHi 12300991 ≤ 77212482) ∧ (-875629710 ≤ sLo 330223364 ∧ sHi 330223364 ≤ 875629710) ∧ (-77212482 ≤ sLo 12300991 ∧ sHi 12300991 ≤ 77212482) ∧ (-153963950 ≤ sLo 24601982 ∧ sHi 24601982 ≤ 153963950) := by decide +kernel
theorem el_b (t : Rat) : 262982435 ≤ elT (t + 776399999) - elT t ∧ elT (t + 776399999) - elT t ≤ 345614376 := by
  obtain ⟨n0, n1, n2, n3, n4, n5, n6, n7⟩ := ph_nb
  have c0 := tm_chord (17468817) 99384016 36291647083333 t (T := 776399999) (n := 163060386) (M := 854474601) (mA := 17468817) (by rw [show ((36291647083333 : Int) : Rat) = 36291647083333 from rfl, show ((163060386 : Int) : Rat) = 163060386 from rfl]; grind) n0 (by omega) (by rw [show ((17468817 : Int) : Rat) = 17468817 from rfl]; grind)
  rw [show ((17468817 : Int) : Rat) = 17468817 from rfl, show ((854474601 : Int) : Rat) = 854474601 from rfl] at c0
  have c1 := tm_chord (3538964) 134030564 31434736861111 t (T := 776399999) (n := 141238019) (M := 775448217) (mA := 3538964) (by rw [show ((31434736861111 : Int) : Rat) = 31434736861111 from rfl, show ((141238019 : Int) : Rat) = 141238019 from rfl]; grind) n1 (by omega) (by rw [show ((3538964 : Int) : Rat) = 3538964 from rfl]; grind)
  rw [show ((3538964 : Int) : Rat) = 3538964 from rfl, show ((775448217 : Int) : Rat) = 775448217 from rfl] at c1
  have c2 := tm_chord (1828650) 233414580 67726383944444 t (T := 776399999) (n := 304298405) (M := 942364868) (mA := 1828650) (by rw [show ((67726383944444 : Int) : Rat) = 67726383944444 from rfl, show ((304298405 : Int) : Rat) = 304298405 from rfl]; grind) n2 (by omega) (by rw [show ((1828650 : Int) : Rat) = 1828650 from rfl]; grind)
  rw [show ((1828650 : Int) : Rat) = 1828650 from rfl, show ((942364868 : Int) : Rat) = 942364868 from rfl] at c2
  have c3 := tm_chord (593383) 198768032 72583294166666 t (T := 776399999) (n := 326120773) (M := 887787449) (mA := 593383) (by rw [show ((72583294166666 : Int) : Rat) = 72583294166666 from rfl, show ((326120773 : Int) : Rat) = 326120773 from rfl]; grind) n3 (by omega) (by rw [show ((593383 : Int) : Rat) = 593383 from rfl]; grind)
  rw [show ((593383 : Int) : Rat) = 593383 from rfl, show ((887787449 : Int) : Rat) = 887787449 from rfl] at c3
  have c4 := tm_chord (-514211) 84888545 2737778555556 t (T := 776399999) (n := 12300991) (M := 77212482) (mA := 514211) (by rw [show ((2737778555556 : Int) : Rat) = 2737778555556 from rfl, show ((12300991 : Int) : Rat) = 12300991 from rfl]; grind) n4 (by omega) (by rw [show ((-514211 : Int) : Rat) = -514211 from rfl]; grind)
  rw [show ((-514211 : Int) : Rat) = -514211 from rfl, show ((77212482 : Int) : Rat) = 77212482 from rfl] at c4
  have c5 := tm_chord (-317589) 297001062 73496390222222 t (T := 776399999) (n := 330223364) (M := 875629710) (mA := 317589) (by rw [show ((73496390222222 : Int) : Rat) = 73496390222222 from rfl, show ((330223364 : Int) : Rat) = 330223364 from rfl]; grind) n5 (by omega) (by rw [show ((-317589 : Int) : Rat) = -317589 from rfl]; grind)
  rw [show ((-317589 : Int) : Rat) = -317589 from rfl, show ((875629710 : Int) : Rat) = 875629710 from rfl] at c5
  have c6 := tm_chord (5318339) 84888545 2737778555556 t (T := 776399999) (n := 12300991) (M := 77212482) (mA := 5318339) (by rw [show ((2737778555556 : Int) : Rat) = 2737778555556 from rfl, show ((12300991 : Int) : Rat) = 12300991 from rfl]; grind) n6 (by omega) (by rw [show ((5318339 : Int) : Rat) = 5318339 from rfl]; grind)
  rw [show ((5318339 : Int) : Rat) = 5318339 from rfl, show ((77212482 : Int) : Rat) = 77212482 from rfl] at c6
  have c7 := tm_chord (55536) 169777090 5475557111112 t (T := 776399999) (n := 24601982) (M := 153963950) (mA := 55536) (by rw [show ((5475557111112 : Int) : Rat) = 5475557111112 from rfl, show ((24601982 : Int) : Rat) = 24601982 from rfl]; grind) n7 (by omega) (by rw [show ((55536 : Int) : Rat) = 55536 from rfl]; grind)
  rw [show ((55536 : Int) : Rat) = 55536 from rfl, show ((153963950 : Int) : Rat) = 153963950 from rfl] at c7
  have eM : ∀ t, svT moonLZ 6 t = 0 + (17468817) * SA (phT 99384016 36291647083333 t) + (3538964) * SA (phT 134030564 31434736861111 t) + (1828650) * SA (phT 233414580 67726383944444 t) + (593383) * SA (phT 198768032 72583294166666 t) + (-514211) * SA (phT 84888545 2737778555556 t) + (-317589) * SA (phT 297001062 73496390222222 t) := fun _ => rfl
  have eS : ∀ t, svT sunZ 2 t = 0 + (5318339) * SA (phT 84888545 2737778555556 t) + (55536) * SA (phT 169777090 5475557111112 t) := fun _ => rfl
  have ek : ∀ t, elT t = phT 392048814 36601101305556 t + svT moonLZ 6 t - (phT 775342092 2737909333333 t + svT sunZ 2 t) := fun _ => rfl
  rw [ek, ek, eM, eM, eS, eS]
  have em : phT 392048814 36601101305556 (t + 776399999) - phT 775342092 2737909333333 (t + 776399999) = phT 392048814 36601101305556 t - phT 775342092 2737909333333 t + 33863191972223 * 776399999 / 86400000000000 := by unfold phT; rw [show ((36601101305556 : Int) : Rat) = 36601101305556 from rfl, show ((2737909333333 : Int) : Rat) = 2737909333333 from rfl]; grind
  clear eM eS ek
  unfold Near at *
  generalize SA (phT 99384016 36291647083333 (t + 776399999)) = x0 at *
  generalize SA (phT 99384016 36291647083333 t) = y0 at *
  generalize SA (phT 134030564 31434736861111 (t + 776399999)) = x1 at *
  generalize SA (phT 134030564 31434736861111 t) = y1 at *
  generalize SA (phT 233414580 67726383944444 (t + 776399999)) = x2 at *
  generalize SA (phT 233414580 67726383944444 t) = y2 at *
  generalize SA (phT 198768032 72583294166666 (t + 776399999)) = x3 at *
  generalize SA (phT 198768032 72583294166666 t) = y3 at *
  generalize SA (phT 84888545 2737778555556 (t + 776399999)) = x4 at *
  generalize SA (phT 84888545 2737778555556 t) = y4 at *
  generalize SA (phT 297001062 73496390222222 (t + 776399999)) = x5 at *
  generalize SA (phT 297001062 73496390222222 t) = y5 at *
  generalize SA (phT 169777090 5475557111112 (t + 776399999)) = x7 at *
  generalize SA (phT 169777090 5475557111112 t) = y7 at *
  generalize phT 392048814 36601101305556 (t + 776399999) = u1 at *
  generalize phT 775342092 2737909333333 (t + 776399999) = u2 at *
  generalize phT 392048814 36601101305556 t = u3 at *
  generalize phT 775342092 2737909333333 t = u4 at *
  clear n0 n1 n2 n3 n4 n5 n6 n7
  constructor <;> grind
theorem ph_nc : (-165617826 ≤ sLo 526480908 ∧ sHi 526480908 ≤ 165617826) ∧ (-272819070 ≤ sLo 456021981 ∧ sHi 456021981 ≤ 272819070) ∧ (-109716266 ≤ sLo 982502890 ∧ sHi 982502890 ≤ 109716266) ∧ (-326661287 ≤ sLo 1052961816 ∧ sHi 1052961816 ≤ 326661287) ∧ (-246966009 ≤ sLo 39716801 ∧ sHi 39716801 ≤ 246966009) ∧ (-404102513 ≤ sLo 1066208050 ∧ sHi 1066208050 ≤ 404102513) ∧ (-246966009 ≤ sLo 39716801 ∧ sHi 39716801 ≤ 246966009) ∧ (-478632053 ≤ sLo 79433603 ∧ sHi 79433603 ≤ 478632053) := by decide +kernel
theorem el_c (t : Rat) : 970805940 ≤ elT (t + 2506800001) - elT t ∧ elT (t + 2506800001) - elT t ≤ 994199840 := by
  obtain ⟨n0, n1, n2, n3, n4, n5, n6, n7⟩ := ph_nc
  have c0 := tm_chord (17468817) 99384016 36291647083333 t (T := 2506800001) (n := 526480908) (M := 165617826) (mA := 17468817) (by rw [show ((36291647083333 : Int) : Rat) = 36291647083333 from rfl, show ((526480908 : Int) : Rat) = 526480908 from rfl]; grind) n0 (by omega) (by rw [show ((17468817 : Int) : Rat) = 17468817 from rfl]; grind)
  rw [show ((17468817 : Int) : Rat) = 17468817 from rfl, show ((165617826 : Int) : Rat) = 165617826 from rfl] at c0
  have c1 := tm_chord (3538964) 134030564 31434736861111 t (T := 2506800001) (n := 456021981) (M := 272819070) (mA := 3538964) (by rw [show ((31434736861111 : Int) : Rat) = 31434736861111 from rfl, show ((456021981 : Int) : Rat) = 456021981 from rfl]; grind) n1 (by omega) (by rw [show ((3538964 : Int) : Rat) = 3538964 from rfl]; grind)
  rw [show ((3538964 : Int) : Rat) = 3538964 from rfl, show ((272819070 : Int) : Rat) = 272819070 from rfl] at c1
  have c2 := tm_chord (1828650) 233414580 67726383944444 t (T := 2506800001) (n := 982502890) (M := 109716266) (mA := 1828650) (by rw [show ((67726383944444 : Int) : Rat) = 67726383944444 from rfl, show ((982502890 : Int) : Rat) = 982502890 from rfl]; grind) n2 (by omega) (by rw [show ((1828650 : Int) : Rat) = 1828650 from rfl]; grind)
  rw [show ((1828650 : Int) : Rat) = 1828650 from rfl, show ((109716266 : Int) : Rat) = 109716266 from rfl] at c2
  have c3 := tm_chord (593383) 198768032 72583294166666 t (T := 2506800001) (n := 1052961816) (M := 326661287) (mA := 593383) (by rw [show ((72583294166666 : Int) : Rat) = 72583294166666 from rfl, show ((1052961816 : Int) : Rat) = 1052961816 from rfl]; grind) n3 (by omega) (by rw [show ((593383 : Int) : Rat) = 593383 from rfl]; grind)
  rw [show ((593383 : Int) : Rat) = 593383 from rfl, show ((326661287 : Int) : Rat) = 326661287 from rfl] at c3
  have c4 := tm_chord (-514211) 84888545 2737778555556 t (T := 2506800001) (n := 39716801) (M := 246966009) (mA := 514211) (by rw [show ((2737778555556 : Int) : Rat) = 2737778555556 from rfl, show ((39716801 : Int) : Rat) = 39716801 from rfl]; grind) n4 (by omega) (by rw [show ((-514211 : Int) : Rat) = -514211 from rfl]; grind)
  rw [show ((-514211 : Int) : Rat) = -514211 from rfl, show ((246966009 : Int) : Rat) = 246966009 from rfl] at c4
  have c5 := tm_chord (-317589) 297001062 73496390222222 t (T := 2506800001) (n := 1066208050) (M := 404102513) (mA := 317589) (by rw [show ((73496390222222 : Int) : Rat) = 73496390222222 from rfl, show ((1066208050 : Int) : Rat) = 1066208050 from rfl]; grind) n5 (by omega) (by rw [show ((-317589 : Int) : Rat) = -317589 from rfl]; grind)
  rw [show ((-317589 : Int) : Rat) = -317589 from rfl, show ((404102513 : Int) : Rat) = 404102513 from rfl] at c5
  have c6 := tm_chord (5318339) 84888545 2737778555556 t (T := 2506800001) (n := 39716801) (M := 246966009) (mA := 5318339) (by rw [show ((2737778555556 : Int) : Rat) = 2737778555556 from rfl, show ((39716801 : Int) : Rat) = 39716801 from rfl]; grind) n6 (by omega) (by rw [show ((5318339 : Int) : Rat) = 5318339 from rfl]; grind)
  rw [show ((5318339 : Int) : Rat) = 5318339 from rfl, show ((246966009 : Int) : Rat) = 246966009 from rfl] at c6
  have c7 := tm_chord (55536) 169777090 5475557111112 t (T := 2506800001) (n := 79433603) (M := 478632053) (mA := 55536) (by rw [show ((5475557111112 : Int) : Rat) = 5475557111112 from rfl, show ((79433603 : Int) : Rat) = 79433603 from rfl]; grind) n7 (by omega) (by rw [show ((55536 : Int) : Rat) = 55536 from rfl]; grind)
  rw [show ((55536 : Int) : Rat) = 55536 from rfl, show ((478632053 : Int) : Rat) = 478632053 from rfl] at c7
  have eM : ∀ t, svT moonLZ 6 t = 0 + (17468817) * SA (phT 99384016 36291647083333 t) + (3538964) * SA (phT 134030564 31434736861111 t) + (1828650) * SA (phT 233414580 67726383944444 t) + (593383) * SA (phT 198768032 72583294166666 t) + (-514211) * SA (phT 84888545 2737778555556 t) + (-317589) * SA (phT 297001062 73496390222222 t) := fun _ => rfl
  have eS : ∀ t, svT sunZ 2 t = 0 + (5318339) * SA (phT 84888545 2737778555556 t) + (55536) * SA (phT 169777090 5475557111112 t) := fun _ => rfl
  have ek : ∀ t, elT t = phT 392048814 36601101305556 t + svT moonLZ 6 t - (phT 775342092 2737909333333 t + svT sunZ 2 t) := fun _ => rfl
  rw [ek, ek, eM, eM, eS, eS]
  have em : phT 392048814 36601101305556 (t + 2506800001) - phT 775342092 2737909333333 (t + 2506800001) = phT 392048814 36601101305556 t - phT 775342092 2737909333333 t + 33863191972223 * 2506800001 / 86400000000000 := by unfold phT; rw [show ((36601101305556 : Int) : Rat) = 36601101305556 from rfl, show ((2737909333333 : Int) : Rat) = 2737909333333 from rfl]; grind
  clear eM eS ek
  unfold Near at *
  generalize SA (phT 99384016 36291647083333 (t + 2506800001)) = x0 at *
  generalize SA (phT 99384016 36291647083333 t) = y0 at *
  generalize SA (phT 134030564 31434736861111 (t + 2506800001)) = x1 at *
  generalize SA (phT 134030564 31434736861111 t) = y1 at *
  generalize SA (phT 233414580 67726383944444 (t + 2506800001)) = x2 at *
  generalize SA (phT 233414580 67726383944444 t) = y2 at *
  generalize SA (phT 198768032 72583294166666 (t + 2506800001)) = x3 at *
  generalize SA (phT 198768032 72583294166666 t) = y3 at *
  generalize SA (phT 84888545 2737778555556 (t + 2506800001)) = x4 at *
  generalize SA (phT 84888545 2737778555556 t) = y4 at *
  generalize SA (phT 297001062 73496390222222 (t + 2506800001)) = x5 at *
  generalize SA (phT 297001062 73496390222222 t) = y5 at *
  generalize SA (phT 169777090 5475557111112 (t + 2506800001)) = x7 at *
  generalize SA (phT 169777090 5475557111112 t) = y7 at *
  generalize phT 392048814 36601101305556 (t + 2506800001) = u1 at *
  generalize phT 775342092 2737909333333 (t + 2506800001) = u2 at *
  generalize phT 392048814 36601101305556 t = u3 at *
  generalize phT 775342092 2737909333333 t = u4 at *
  clear n0 n1 n2 n3 n4 n5 n6 n7
  constructor <;> grind
theorem ph_nd : (-273693415 ≤ sLo 544122681 ∧ sHi 544122681 ≤ 273693415) ∧ (-179334660 ≤ sLo 471302756 ∧ sHi 471302756 ≤ 179334660) ∧ (-96769214 ≤ sLo 1015425437 ∧ sHi 1015425437 ≤ 96769214) ∧ (-526485943 ≤ sLo 1088245361 ∧ sHi 1088245361 ≤ 526485943) ∧ (-255060329 ≤ sLo 41047666 ∧ sHi 41047666 ≤ 255060329) ∧ (-597579894 ≤ sLo 1101935461 ∧ sHi 1101935461 ≤ 597579894) ∧ (-255060329 ≤ sLo 41047666 ∧ sHi 41047666 ≤ 255060329) ∧ (-493248487 ≤ sLo 82095332 ∧ sHi 82095332 ≤ 493248487) := by decide +kernel
theorem el_d (t : Rat) : 1000205526 ≤ elT (t + 2590799999) - elT t ∧ elT (t + 2590799999) - elT t ≤ 1030645347 := by
  obtain ⟨n0, n1, n2, n3, n4, n5, n6, n7⟩ := ph_nd
  have c0 := tm_chord (17468817) 99384016 36291647083333 t (T := 2590799999) (n := 544122681) (M := 273693415) (mA := 17468817) (by rw [show ((36291647083333 : Int) : Rat) = 36291647083333 from rfl, show ((544122681 : Int) : Rat) = 544122681 from rfl]; grind) n0 (by omega) (by rw [show ((17468817 : Int) : Rat) = 17468817 from rfl]; grind)
  rw [show ((17468817 : Int) : Rat) = 17468817 from rfl, show ((273693415 : Int) : Rat) = 273693415 from rfl] at c0
  have c1 := tm_chord (3538964) 134030564 31434736861111 t (T := 2590799999) (n := 471302756) (M := 179334660) (mA := 3538964) (by rw [show ((31434736861111 : Int) : Rat) = 31434736861111 from rfl, show ((471302756 : Int) : Rat) = 471302756 from rfl]; grind) n1 (by omega) (by rw [show ((3538964 : Int) : Rat) = 3538964 from rfl]; grind)
  rw [show ((3538964 : Int) : Rat) = 3538964 from rfl, show ((179334660 : Int) : Rat) = 179334660 from rfl] at c1
  have c2 := tm_chord (1828650) 233414580 67726383944444 t (T := 2590799999) (n := 1015425437) (M := 96769214) (mA := 1828650) (by rw [show ((67726383944444 : Int) : Rat) = 67726383944444 from rfl, show ((1015425437 : Int) : Rat) = 1015425437 from rfl]; grind) n2 (by omega) (by rw [show ((1828650 : Int) : Rat) = 1828650 from rfl]; grind)
  rw [show ((1828650 : Int) : Rat) = 1828650 from rfl, show ((96769214 : Int) : Rat) = 96769214 from rfl] at c2
  have c3 := tm_chord (593383) 198768032 72583294166666 t (T := 2590799999) (n := 1088245361) (M := 526485943) (mA := 593383) (by rw [show ((72583294166666 : Int) : Rat) = 72583294166666 from rfl, show ((1088245361 : Int) : Rat) = 1088245361 from rfl]; grind) n3 (by omega) (by rw [show ((593383 : Int) : Rat) = 593383 from rfl]; grind)
  rw [show ((593383 : Int) : Rat) = 593383 from rfl, show ((526485943 : Int) : Rat) = 526485943 from rfl] at c3
  have c4 := tm_chord (-514211) 84888545 2737778555556 t (T := 2590799999) (n := 41047666) (M := 255060329) (mA := 514211) (by rw [show ((2737778555556 : Int) : Rat) = 2737778555556 from rfl, show ((41047666 : Int) : Rat) = 41047666 from rfl]; grind) n4 (by omega) (by rw [show ((-514211 : Int) : Rat) = -514211 from rfl]; grind)
  rw [show ((-514211 : Int) : Rat) = -514211 from rfl, show ((255060329 : Int) : Rat) = 255060329 from rfl] at c4
  have c5 := tm_chord (-317589) 297001062 73496390222222 t (T := 2590799999) (n := 1101935461) (M := 597579894) (mA := 317589) (by rw [show ((73496390222222 : Int) : Rat) = 73496390222222 from rfl, show ((1101935461 : Int) : Rat) = 1101935461 from rfl]; grind) n5 (by omega) (by rw [show ((-317589 : Int) : Rat) = -317589 from rfl]; grind)
  rw [show ((-317589 : Int) : Rat) = -317589 from rfl, show ((597579894 : Int) : Rat) = 597579894 from rfl] at c5
  have c6 := tm_chord (5318339) 84888545 2737778555556 t (T := 2590799999) (n := 41047666) (M := 255060329) (mA := 5318339) (by rw [show ((2737778555556 : Int) : Rat) = 2737778555556 from rfl, show ((41047666 : Int) : Rat) = 41047666 from rfl]; grind) n6 (by omega) (by rw [show ((5318339 : Int) : Rat) = 5318339 from rfl]; grind)
  rw [show ((5318339 : Int) : Rat) = 5318339 from rfl, show ((255060329 : Int) : Rat) = 255060329 from rfl] at c6
  have c7 := tm_chord (55536) 169777090 5475557111112 t (T := 2590799999) (n := 82095332) (M := 493248487) (mA := 55536) (by rw [show ((5475557111112 : Int) : Rat) = 5475557111112 from rfl, show ((82095332 : Int) : Rat) = 82095332 from rfl]; grind) n7 (by omega) (by rw [show ((55536 : Int) : Rat) = 55536 from rfl]; grind)
  rw [show ((55536 : Int) : Rat) = 55536 from rfl, show ((493248487 : Int) : Rat) = 493248487 from rfl] at c7
  have eM : ∀ t, svT moonLZ 6 t = 0 + (17468817) * SA (phT 99384016 36291647083333 t) + (3538964) * SA (phT 134030564 31434736861111 t) + (1828650) * SA (phT 233414580 67726383944444 t) + (593383) * SA (phT 198768032 72583294166666 t) + (-514211) * SA (phT 84888545 2737778555556 t) + (-317589) * SA (phT 297001062 73496390222222 t) := fun _ => rfl
  have eS : ∀ t, svT sunZ 2 t = 0 + (5318339) * SA (phT 84888545 2737778555556 t) + (55536) * SA (phT 169777090 5475557111112 t) := fun _ => rfl
  have ek : ∀ t, elT t = phT 392048814 36601101305556 t + svT moonLZ 6 t - (phT 775342092 2737909333333 t + svT sunZ 2 t) := fun _ => rfl
  rw [ek, ek, eM, eM, eS, eS]
  have em : phT 392048814 36601101305556 (t + 2590799999) - phT 775342092 2737909333333 (t + 2590799999) = phT 392048814 36601101305556 t - phT 775342092 2737909333333 t + 33863191972223 * 2590799999 / 86400000000000 := by unfold phT; rw [show ((36601101305556 : Int) : Rat) = 36601101305556 from rfl, show ((2737909333333 : Int) : Rat) = 2737909333333 from rfl]; grind
  clear eM eS ek
  unfold Near at *
  generalize SA (phT 99384016 36291647083333 (t + 2590799999)) = x0 at *
  generalize SA (phT 99384016 36291647083333 t) = y0 at *
  generalize SA (phT 134030564 31434736861111 (t + 2590799999)) = x1 at *
  generalize SA (phT 134030564 31434736861111 t) = y1 at *
  generalize SA (phT 233414580 67726383944444 (t + 2590799999)) = x2 at *
  generalize SA (phT 233414580 67726383944444 t) = y2 at *
  generalize SA (phT 198768032 72583294166666 (t + 2590799999)) = x3 at *
  generalize SA (phT 198768032 72583294166666 t) = y3 at *
  generalize SA (phT 84888545 2737778555556 (t + 2590799999)) = x4 at *
  generalize SA (phT 84888545 2737778555556 t) = y4 at *
  generalize SA (phT 297001062 73496390222222 (t + 2590799999)) = x5 at *
  generalize SA (phT 297001062 73496390222222 t) = y5 at *
  generalize SA (phT 169777090 5475557111112 (t + 2590799999)) = x7 at *
  generalize SA (phT 169777090 5475557111112 t) = y7 at *
  generalize phT 392048814 36601101305556 (t + 2590799999) = u1 at *
  generalize phT 775342092 2737909333333 (t + 2590799999) = u2 at *
  generalize phT 392048814 36601101305556 t = u3 at *
  generalize phT 775342092 2737909333333 t = u4 at *
  clear n0 n1 n2 n3 n4 n5 n6 n7
  constructor <;> grind
end Go.Proofs.YtlldmhnkaopjhaaDoor
