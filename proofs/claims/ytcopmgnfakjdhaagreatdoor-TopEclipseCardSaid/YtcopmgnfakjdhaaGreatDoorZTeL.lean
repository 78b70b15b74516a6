/- TopEclipse, plain: what the statement asks of an eclipse. -/
import Derived.Test.YtcopmgnfakjdhaaGreatDoorZTeN
import Derived.Test.YtcopmgnfakjdhaaGreatDoorZPaT
namespace Go.Proofs.YtcopmgnfakjdhaaGreatDoor
set_option linter.unusedSimpArgs false
set_option linter.unusedVariables false
theorem te_shape (a b l h tot part : Int) : ecW a b l h tot part = ⟨0, 0, 0, 0, 0, 0, 0, 11⟩ ∨ ∃ k p q, ecW a b l h tot part = ⟨k, a, b, l, h, p, q, 0⟩ ∧ ((k = 0 ∧ part ≤ ecLeast l h) ∨ (k = 2 ∧ ecMost l h < tot) ∨ (k = 1 ∧ ecMost l h < part)) := by
  unfold ecW
  by_cases c : part ≤ ecLeast l h
  · rw [if_pos c]; exact .inr ⟨_, _, _, rfl, .inl ⟨rfl, c⟩⟩
  · rw [if_neg c]
    by_cases d : ecMost l h < tot
    · rw [if_pos d]; exact .inr ⟨_, _, _, rfl, .inr (.inl ⟨rfl, d⟩)⟩
    · rw [if_neg d]
      by_cases f : tot ≤ ecLeast l h ∧ ecMost l h < part
      · rw [if_pos f]; exact .inr ⟨_, _, _, rfl, .inr (.inr ⟨rfl, f.2⟩)⟩
      · rw [if_neg f]; exact .inl rfl
structure TeEc (k q K b l h : Int) : Prop where
  m1 : mbLo b ≤ h
  m2 : l ≤ mbHi b
  mm : mbLo b ≤ mbHi b
  none' : K = 0 → 1000000 < mbLo b ∨ mbHi b < -1000000
  some' : K ≠ 0 → mbLo b ≤ 4200000 ∧ -4200000 ≤ mbHi b
  k3 : K = 0 ∨ K = 1 ∨ K = 2
  tr : q = 0 → K = 2 → trE k = 0 ∧ (-1500000 ≤ l → h ≤ 1500000 → 0 < trN (ecF k 0).a 49)
theorem te_cases {k q : Int} (hk : -100000 ≤ k ∧ k ≤ 100000) (hq : q = 0 ∨ q = 2) : ecF k q = ⟨0, 0, 0, 0, 0, 0, 0, 11⟩ ∨ ∃ K b l h p r, ecF k q = ⟨K, (phF k q).1, b, l, h, p, r, 0⟩ ∧ b = (phF k q).2 ∧ TeEc k q K b l h := by
  have bd := phF_bd (k := k) (q := q) hk.1 hk.2 (by omega) (by omega)
  obtain ⟨c, C⟩ := ph_in (k := k) (q := q) (by omega) (by omega) (by omega) (by omega)
  have w := C.w
  clear C
  have m := mo_ok (d := (phF k q).2 - (phF k q).1) (by omega) (by omega)
  have m0 := m.n0
  clear m
  have pq : 2700000 ≤ ecPart q ∧ ecPart q ≤ 4100000 ∧ ecTot q ≤ 2500000 := by
    rcases hq with rfl | rfl <;> decide
  have l1 : laLo (phF k q).1 (phF k q).2 ≤ mbLo (phF k q).2 := by unfold laLo; omega
  have l2 : mbHi (phF k q).2 ≤ laHi (phF k q).1 (phF k q).2 := by unfold laHi; omega
  have mm := (mb_width (phF k q).2).1
  have sh := te_shape (phF k q).1 (phF k q).2 (laLo (phF k q).1 (phF k q).2) (laHi (phF k q).1 (phF k q).2) (ecTot q) (ecPart q)
  rcases sh with s | ⟨K, p, r, s, cs⟩
  · exact .inl s
  · right
    refine ⟨K, _, _, _, p, r, s, rfl, ?_⟩
    refine ⟨by omega, by omega, mm, ?_, ?_, ?_, ?_⟩
    · intro h0
      rcases cs with ⟨-, c⟩ | ⟨c, -⟩ | ⟨c, -⟩
      · unfold ecLeast at c; omega
      · omega
      · omega
    · intro h0
      rcases cs with ⟨c, -⟩ | ⟨-, c⟩ | ⟨-, c⟩
      · omega
      · unfold ecMost at c; omega
      · unfold ecMost at c; omega
    · omega
    · intro q0 K2
      subst q0
      have s' : ecF k 0 = _ := s
      constructor
      · unfold trE
        rw [s']
        exact (if_pos rfl).trans (if_pos K2)
      · intro g1 g2
        rw [s']
        show 0 < trN (phF k 0).1 49
        have ok := te_track hk g1 g2 m0
        have hit : (trC (phF k 0).1 24).e = 0 := by
          unfold trC
          rw [show (phF k 0).1 + (((24 : Nat) : Int) - 24) * 600000 = (phF k 0).1 by omega]
          exact ok
        have a := trN_hit hit
        have b := trN_mono (phF k 0).1 (show 25 ≤ 49 by omega)
        rw [show 24 + 1 = 25 from rfl] at a
        omega
end Go.Proofs.YtcopmgnfakjdhaaGreatDoor
