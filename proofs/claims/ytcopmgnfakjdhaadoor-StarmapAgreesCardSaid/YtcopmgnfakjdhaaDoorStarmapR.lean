/- starmapWorks; the dots in memory; how they lie. -/
import Derived.Test.YtcopmgnfakjdhaaDoorMapW
import Derived.Test.YtcopmgnfakjdhaaDoorPlaceWorks
namespace Go.Proofs.YtcopmgnfakjdhaaDoor
open Go.RowKit
set_option linter.unusedSimpArgs false
set_option linter.unusedVariables false
theorem c_tri (a : Int) : -1000000000 ≤ cLo a ∧ cLo a ≤ cHi a ∧ cHi a ≤ 1000000000 := s_tri _
theorem sm_tri (lon lat t : Int) (i : Nat) : smHL lon lat t i ≤ smHH lon lat t i ∧ (-1000000000 ≤ smXL lon lat t i ∧ smXL lon lat t i ≤ smXH lon lat t i ∧ smXH lon lat t i ≤ 1000000000) ∧ (-1000000000 ≤ smYL lon lat t i ∧ smYL lon lat t i ≤ smYH lon lat t i ∧ smYH lon lat t i ≤ 1000000000) := by
  unfold smHL smHH smXL smXH smYL smYH upLo upHi eaLo eaHi noLo noHi
  generalize hhLo lon t (smRH t i) = hl
  generalize hhHi lon t (smRL t i) = hh
  generalize stDec i - 100 = dl
  generalize stDec i + 100 = dh
  have a := et_tms hl hh dl dh
  have b := nr_tms hl hh dl dh
  have c := tm_tms (tms_of (s_tri lat) (so_tms dl dh))
  have d := tm_tms (tms_of (c_tri lat) (so_tms dl dh))
  have e := tm_tms (tms_of (s_tri lat) b)
  have f := tm_tms (tms_of (c_tri lat) b)
  generalize etLo hl hh dl dh = x1 at *
  generalize etHi hl hh dl dh = x2 at *
  generalize tmLo (sLo lat) (sHi lat) (soLo dl dh) (soHi dl dh) = x3 at *
  generalize tmHi (sLo lat) (sHi lat) (soLo dl dh) (soHi dl dh) = x4 at *
  generalize tmLo (cLo lat) (cHi lat) (soLo dl dh) (soHi dl dh) = x5 at *
  generalize tmHi (cLo lat) (cHi lat) (soLo dl dh) (soHi dl dh) = x6 at *
  generalize tmLo (sLo lat) (sHi lat) (nrLo hl hh dl dh) (nrHi hl hh dl dh) = x7 at *
  generalize tmHi (sLo lat) (sHi lat) (nrLo hl hh dl dh) (nrHi hl hh dl dh) = x8 at *
  generalize tmLo (cLo lat) (cHi lat) (nrLo hl hh dl dh) (nrHi hl hh dl dh) = x9 at *
  generalize tmHi (cLo lat) (cHi lat) (nrLo hl hh dl dh) (nrHi hl hh dl dh) = x10 at *
  clear b
  unfold clLo clHi
  refine ⟨by omega, ⟨by omega, by omega, by omega⟩, by omega, by omega, by omega⟩
/-- A dot lies in the circle. -/
theorem sm_round (lon lat t : Int) (i : Nat) : max (max 0 (smXL lon lat t i)) (-smXH lon lat t i) * max (max 0 (smXL lon lat t i)) (-smXH lon lat t i) + max (max 0 (smYL lon lat t i)) (-smYH lon lat t i) * max (max 0 (smYL lon lat t i)) (-smYH lon lat t i) ≤ 1000000000000000000 := by
  obtain ⟨-, ⟨-, x, -⟩, -, y, -⟩ := sm_tri lon lat t i
  have a := far_sq x
  have b := far_sq y
  have p : sqL (smHL lon lat t i) (smHH lon lat t i) + sqL (smXL lon lat t i) (smXH lon lat t i) + sqL (smYL lon lat t i) (smYH lon lat t i) ≤ 1000000000000000000 := (parts_law lat (hhLo lon t (smRH t i)) (hhHi lon t (smRL t i)) (stDec i - 100) (stDec i + 100)).1
  have n := sqL_nn (smHL lon lat t i) (smHH lon lat t i)
  generalize sqL (smHL lon lat t i) (smHH lon lat t i) = z1 at *
  generalize sqL (smXL lon lat t i) (smXH lon lat t i) = z2 at *
  generalize sqL (smYL lon lat t i) (smYH lon lat t i) = z3 at *
  omega
theorem own_dots {w : World} {B n : Nat} {v : Value} {xs : List Value} (h : w.ownsRow B 46 6 v n xs) : ∃ A cap, v = .slice A n cap ∧ (0 < n → ∃ g, A = some ⟨g, 0, none⟩ ∧ g < w.heap.size ∧ n ≤ cap ∧ cap ≤ maxLen ∧ ∀ p, p < n * 6 → w.cell? ⟨g, p, none⟩ = xs[p]?) := by
  obtain ⟨hl, h2⟩ := id h
  rcases h2 with ⟨rfl, rfl⟩ | ⟨g, cap, cur, rfl, hb, hg, hn, hc, hs, ht⟩
  · exact ⟨none, 0, rfl, fun h => absurd h (by omega)⟩
  · refine ⟨_, cap, rfl, fun _ => ⟨g, rfl, ?_, hn, hc, fun p hp => h.cellAt p hp⟩⟩
    rcases Nat.lt_or_ge g w.heap.size with c | c
    · exact c
    · rw [Array.getElem?_eq_none c] at hg; cases hg
/-- The cells of dot j. -/
theorem dot_cells {w : World} {lon lat t : Int} {g j : Nat} (hc : ∀ p, p < dotN lon lat t 8 * 6 → w.cell? ⟨g, p, none⟩ = (dots lon lat t 8)[p]?) (hj : j < dotN lon lat t 8) : ∃ i, i < 8 ∧ ¬ smHH lon lat t i < 0 ∧ dotN lon lat t i = j ∧
    w.cell? ⟨g, j * 6, none⟩ = some (.string (stN i)) ∧ w.cell? ⟨g, j * 6 + 1, none⟩ = some (.int .i64 (smXL lon lat t i)) ∧ w.cell? ⟨g, j * 6 + 2, none⟩ = some (.int .i64 (smXH lon lat t i)) ∧ w.cell? ⟨g, j * 6 + 3, none⟩ = some (.int .i64 (smYL lon lat t i)) ∧ w.cell? ⟨g, j * 6 + 4, none⟩ = some (.int .i64 (smYH lon lat t i)) ∧ w.cell? ⟨g, j * 6 + 5, none⟩ = some (.bool (decide (0 < smHL lon lat t i))) := by
  obtain ⟨i, hi, h, rfl⟩ := dots_row lon lat t 8 j hj
  have q := fun c (h6 : c < 6) => (hc (dotN lon lat t i * 6 + c) (by omega)).trans (dots_at lon lat t hi h c h6)
  exact ⟨i, hi, h, rfl, q 0 (by omega), q 1 (by omega), q 2 (by omega), q 3 (by omega), q 4 (by omega), q 5 (by omega)⟩
theorem sw_0 : 0 < smHL 0 150000000 0 0 := by decide +kernel
end Go.Proofs.YtcopmgnfakjdhaaDoor
