/- Eclipses, plain: how far the latitude may move in a phase's interval; what Find hands back. -/
import Derived.Test.YtcopmgnfakjdhaaGreatDoorYSes
import Derived.Test.YtcopmgnfakjdhaaGreatDoorYSlopeP
namespace Go.Proofs.YtcopmgnfakjdhaaGreatDoor
open Ieee
set_option linter.unusedSimpArgs false
set_option linter.unusedVariables false
theorem speed_is : spLo 0 moonBZ 3 = -3648980 ∧ spHi 0 moonBZ 3 = 3648980 := by decide +kernel
def mo1 (d : Int) : Nat := fmul (floatOfInt .f64 3648980) (floatOfInt .f64 d)
def mo2 (d : Int) : Nat := fdiv (mo1 d) 4725570615333879808
def mo3 (d : Int) : Nat := fmul (mo2 d) (floatOfInt .f64 d)
def mo4 (d : Int) : Nat := fdiv (mo3 d) 4725570615333879808
def moI (d : Int) : Int := ((double.read (mo4 d)).toInt .zero).getD 0
structure MoOk (d : Int) : Prop where
  i1 : floatBits .mul .f64 (floatOfInt .f64 3648980) (floatOfInt .f64 d) = some (mo1 d)
  i2 : floatBits .quo .f64 (mo1 d) 4725570615333879808 = some (mo2 d)
  i3 : floatBits .mul .f64 (mo2 d) (floatOfInt .f64 d) = some (mo3 d)
  i4 : floatBits .quo .f64 (mo3 d) 4725570615333879808 = some (mo4 d)
  iv : floatToIntVal .f64 (mo4 d) .i64 = some (moI d)
  n0 : 0 ≤ moI d
  n1 : moI d ≤ 178
theorem mo_ok {d : Int} (h0 : 0 ≤ d) (h1 : d ≤ 600000) : MoOk d := by
  obtain ⟨f, v⟩ := fint_ok d (by omega) (by omega)
  obtain ⟨f', v'⟩ := fint_ok 3648980 (by omega) (by omega)
  obtain ⟨b1, b2⟩ := int_bd h0 h1
  rw [show ((0 : Int) : Rat) = 0 from rfl] at b1
  rw [show ((600000 : Int) : Rat) = 600000 from rfl] at b2
  rw [show ((3648980 : Int) : Rat) = 3648980 from rfl] at v'
  have B : Ap (floatOfInt .f64 d) (d : Rat) 0 600000 := ⟨f, by grind, by grind, by grind, by grind⟩
  have S : Ap (floatOfInt .f64 3648980) 3648980 0 3648980 := ⟨f', by grind, by grind, by grind, by grind⟩
  have p0 := Rat.mul_nonneg b1 b1
  have p1 := Rat.mul_le_mul_of_nonneg_right b2 b1
  obtain ⟨i1, a1⟩ := Ap.mul S B (1 / 1000) 2189388000000 2189388000001 (mid_of (by grind) (by grind)) (by grind) (by grind) (by grind)
  obtain ⟨i2, a2⟩ := Ap.div a1 ap_dayF 86400000 (1 / 100000000) 25341 25342 (mid_of (by grind) (by grind)) (by grind) (by grind) (by grind) (by constructor <;> grind) (by grind) (by grind)
  obtain ⟨i3, a3⟩ := Ap.mul a2 B 1 15204600000 15300000000 (mid_of (by grind) (by grind)) (by grind) (by grind) (by grind)
  obtain ⟨i4, a4⟩ := Ap.div a3 ap_dayF 86400000 (1 / 1000000) 176 177 (mid_of (by grind) (by grind)) (by grind) (by grind) (by grind) (by constructor <;> grind) (by grind) (by grind)
  have w4 : mo4 d = fdiv (fmul (fdiv (fmul (floatOfInt .f64 3648980) (floatOfInt .f64 d)) 4725570615333879808) (floatOfInt .f64 d)) 4725570615333879808 := rfl
  rw [← w4] at i4 a4
  obtain ⟨k, tk, t1, t2⟩ := toInt_ok a4.fin
  have ek : moI d = k := by unfold moI; rw [tk]; rfl
  have l := a4.lo; have u := a4.hi
  have z0 : 0 ≤ 3648980 * (d : Rat) / 86400000 * (d : Rat) / 86400000 := by
    have e : 3648980 * (d : Rat) / 86400000 * (d : Rat) / 86400000 = (d : Rat) * (d : Rat) * (3648980 / 86400000 / 86400000) := by grind
    rw [e]; exact Rat.mul_nonneg p0 (by grind)
  have z1 : 3648980 * (d : Rat) / 86400000 * (d : Rat) / 86400000 ≤ 1765 / 10 := by
    have e : 3648980 * (d : Rat) / 86400000 * (d : Rat) / 86400000 = (d : Rat) * (d : Rat) * (3648980 / 86400000 / 86400000) := by grind
    rw [e]
    generalize (d : Rat) * (d : Rat) = y at *
    generalize (d : Rat) = x at *
    grind
  generalize 3648980 * (d : Rat) / 86400000 * (d : Rat) / 86400000 = z at *
  clear a1 a2 a3 w4 B S f v f' v' p0 p1
  have K : 0 ≤ k ∧ k ≤ 178 := by
    by_cases c : 0 ≤ fv (mo4 d)
    · obtain ⟨x, y, zz⟩ := t1 c
      refine ⟨zz, ?_⟩
      apply int_le_of_rat
      rw [show ((178 : Int) : Rat) = 178 from rfl]
      clear t1 t2; grind
    · obtain ⟨x, y, zz⟩ := t2 (by grind)
      have kk : -1 < k := by
        apply int_lt_of_rat
        rw [show ((-1 : Int) : Rat) = -1 from rfl]
        clear t1 t2; grind
      exact ⟨by omega, by omega⟩
  exact ⟨i1, i2, i3, i4, by rw [ek]; exact i64_val tk (by omega) (by omega), by rw [ek]; exact K.1, by rw [ek]; exact K.2⟩
def laLo (a b : Int) : Int := min (mbLo a) (mbLo b) - (moI (b - a) + 2)
def laHi (a b : Int) : Int := max (mbHi a) (mbHi b) + (moI (b - a) + 2)
def beT (t : Rat) : Rat := svT moonBZ 3 t
theorem be_at (t : Int) : SumAt (mbLo t) (mbHi t) (beT (t : Rat)) 20000 := by
  have h := sum_at (mean := 0) (rest := 20000) (t := t) (n := 3) (zs := moonBZ) (by omega) moonB_in.tm
  rw [show ((0 : Int) : Rat) + svT moonBZ 3 (t : Rat) = beT (t : Rat) by unfold beT; rw [show ((0 : Int) : Rat) = 0 from rfl]; grind] at h
  exact h
theorem be_tri (t : Rat) : -15796000 ≤ beT t ∧ beT t ≤ 15796000 := by
  have e : beT t = 0 + tmV moonBZ t 0 + tmV moonBZ t 1 + tmV moonBZ t 2 := rfl
  have t0 : tmV moonBZ t 0 = 14244783 * SA (phT 648500531 36748195111111 t) := rfl
  have t1 : tmV moonBZ t 1 = 779450 * SA (phT 747884547 73039842194444 t) := rfl
  have t2 : tmV moonBZ t 2 = 771369 * SA (phT 450883485 (-456548027778) t) := rfl
  have s0 := SA_le (phT 648500531 36748195111111 t); have s1 := SA_le (phT 747884547 73039842194444 t); have s2 := SA_le (phT 450883485 (-456548027778) t)
  rw [e, t0, t1, t2]
  unfold ep at *
  constructor <;> grind
theorem be_bd (t : Int) : -15820000 ≤ mbLo t ∧ mbLo t ≤ mbHi t ∧ mbHi t ≤ 15820000 := by
  obtain ⟨a1, a2, a3, a4⟩ := be_at t
  have b := be_tri (t : Rat)
  rw [show ((20000 : Int) : Rat) = 20000 from rfl] at a1 a2 a3 a4
  refine ⟨?_, ?_, ?_⟩
  · apply int_le_of_rat; rw [show ((-15820000 : Int) : Rat) = -15820000 from rfl]; grind
  · exact int_le_of_rat (by grind)
  · apply int_le_of_rat; rw [show ((15820000 : Int) : Rat) = 15820000 from rfl]; grind
theorem la_bd {a b : Int} (h : a ≤ b) (hw : b - a ≤ 600000) : -15821000 ≤ laLo a b ∧ laLo a b ≤ laHi a b ∧ laHi a b ≤ 15821000 := by
  have x := be_bd a; have y := be_bd b
  have m := mo_ok (d := b - a) (by omega) (by omega)
  have m0 := m.n0; have m1 := m.n1
  unfold laLo laHi
  omega
structure EcR where
  k : Int
  a : Int
  b : Int
  l : Int
  h : Int
  p : Int
  q : Int
  e : Int
def ecMost (l h : Int) : Int := max h (-l)
def ecLeast (l h : Int) : Int := max (max l (-h)) 0
def ecW (a b l h tot part : Int) : EcR :=
  if part ≤ ecLeast l h then ⟨0, a, b, l, h, 0, 0, 0⟩
  else if ecMost l h < tot then ⟨2, a, b, l, h, ((part - ecMost l h) * 1000) / part, -(-((part - ecLeast l h) * 1000) / part), 0⟩
  else if tot ≤ ecLeast l h ∧ ecMost l h < part then ⟨1, a, b, l, h, ((part - ecMost l h) * 1000) / part, -(-((part - ecLeast l h) * 1000) / part), 0⟩
  else ⟨0, 0, 0, 0, 0, 0, 0, 11⟩
def ecTot (q : Int) : Int := if q = 0 then 2500000 else 1300000
def ecPart (q : Int) : Int := if q = 0 then 4100000 else 2700000
def ecF (k q : Int) : EcR := ecW (phF k q).1 (phF k q).2 (laLo (phF k q).1 (phF k q).2) (laHi (phF k q).1 (phF k q).2) (ecTot q) (ecPart q)
end Go.Proofs.YtcopmgnfakjdhaaGreatDoor
