/- The constraints that events makes, plain: permitted, without contradiction, the first of them. -/
import Derived.Test.YtmeppcoekmoofaaChronWorks
namespace Go.Proofs.Ytmeppcoekmoofaa
open Go.RowKit
set_option linter.unusedVariables false

/-- The constraints that events makes. -/
def evL (zd zl : List Int) (n q : Nat) : List Bd := bds (evNums zd zl n q) q
theorem evL_ok (zd zl : List Int) {n q : Nat} (h2 : 2 ≤ n) (h8 : n ≤ 8) (hq : q ≤ 20) : ChronOk n (evL zd zl n q) :=
  ⟨by omega, by omega, by unfold evL; rw [bds_len]; omega, fun c hc => (ev_each zd zl n q h2 c hc).1⟩
theorem evL_free (zd zl : List Int) {n q : Nat} (h2 : 2 ≤ n) : Free n (evL zd zl n q) ∧ Leq n (Pot (evD zd)) (fin n (evL zd zl n q)) :=
  sat_free (fun i j _ _ => evD_far zd i j) (fun c hc => (ev_each zd zl n q h2 c hc).2.1)
theorem evL_within (zd zl : List Int) {n q : Nat} (h2 : 2 ≤ n) : Within n 20100 (evL zd zl n q) :=
  ⟨by omega, by unfold far; omega, fun c hc => by
    obtain ⟨h1, _, h3, h4, h5, h6⟩ := ev_each zd zl n q h2 c hc
    exact ⟨h1, h3, h4, h5, h6⟩⟩
theorem evL_pow {n : Nat} (h8 : n ≤ 8) (W : Int) (h0 : 0 ≤ W) (hW : W ≤ 1900000) : (2 : Int) ^ (n + 1) * W < far := by
  have h1 : (2 : Int) ^ (n + 1) ≤ 512 := (by decide : ∀ k, k < 9 → (2 : Int) ^ (k + 1) ≤ 512) n (by omega)
  have : (2 : Int) ^ (n + 1) * W ≤ 512 * W := Int.mul_le_mul_of_nonneg_right h1 h0
  unfold far; omega
theorem evL_closed (zd zl : List Int) {n q : Nat} (h2 : 2 ≤ n) (h8 : n ≤ 8) : Cl n (fin n (evL zd zl n q)) :=
  fin_closed (evL_within zd zl h2) (evL_pow h8 20100 (by omega) (by omega)) (evL_free zd zl h2).1
theorem mem_evL {zd zl : List Int} {n q : Nat} {c : Bd} : c ∈ evL zd zl n q ↔ ∃ j, j < q ∧ c = ⟨evA zl n j, evB zl n j, evLo zd zl n j, evHi zd zl n j⟩ := by
  unfold evL
  rw [mem_bds]
  constructor
  · rintro ⟨j, hj, rfl⟩; exact ⟨j, hj, ix_evNums zd zl n q j hj⟩
  · rintro ⟨j, hj, rfl⟩; exact ⟨j, hj, (ix_evNums zd zl n q j hj).symm⟩
theorem evL_sub (zd zl : List Int) (n q : Nat) : ∀ c, c ∈ evL zd zl n q → c ∈ evL zd zl n (q + 1) := by
  intro c hc
  obtain ⟨j, hj, rfl⟩ := mem_evL.1 hc
  exact mem_evL.2 ⟨j, by omega, rfl⟩
theorem evL_succ (zd zl : List Int) (n q : Nat) : evL zd zl n (q + 1) = evL zd zl n q ++ [⟨evA zl n q, evB zl n q, evLo zd zl n q, evHi zd zl n q⟩] := by
  unfold evL
  rw [bds_succ, ix_evNums zd zl n (q + 1) q (by omega)]
  congr 1
  unfold bds
  apply List.map_congr_left
  intro j hj
  have := List.mem_range.1 hj
  rw [ix_evNums zd zl n (q + 1) j (by omega), ix_evNums zd zl n q j (by omega)]

/-- The first constraints of a list, read as a slice. -/
theorem ev_prefix {w : World} {A : Option Addr} {cap n q : Nat} {zd zl : List Int} (h : FlatSl w 4 A (q + 1) cap (evNums zd zl n (q + 1))) : FlatSl w 4 A q cap (evNums zd zl n q) := by
  refine ⟨by have := h.le; omega, h.most, evNums_len _ _ _ _, fun hq => ?_⟩
  obtain ⟨b, off, rfl, hc⟩ := h.at' (by omega)
  refine ⟨b, off, rfl, fun j hj => ?_⟩
  rw [hc j (by omega)]
  have : ix (evNums zd zl n (q + 1)) j = ix (evNums zd zl n q) j := by
    simp only [ix, evNums, List.getD_eq_getElem?_getD]
    rw [List.getElem?_append_left (by rw [evNums_len]; omega)]
  rw [this]

end Go.Proofs.Ytmeppcoekmoofaa
