/- The plain law of GaugeOrder: the sums do not ask in which order the readings stand. -/
import Derived.Test.YtmeppcoekmoofaaGaugeLaw
namespace Go.Proofs.Ytmeppcoekmoofaa
set_option linter.unusedSimpArgs false
set_option linter.unusedVariables false
theorem gm_turn (R : Gm) (m t : Nat) (ht : t ≤ m) : gm (fun k => R (turnI m t k)) m = gm R m := by
  funext i j
  exact sumTo_turn (fun k => R k i * R k j) m t ht
theorem gr_turn (R : Gm) (H : Nat → Int) (m t : Nat) (ht : t ≤ m) : gr (fun k => R (turnI m t k)) (fun k => H (turnI m t k)) m = gr R H m := by
  funext i
  exact sumTo_turn (fun k => R k i * H k) m t ht
/-- A list turned by t, read at k. -/
theorem ix_turn (l : List Int) (t k : Nat) (ht : t ≤ l.length) (hk : k < l.length) : ix (l.drop t ++ l.take t) k = ix l (turnI l.length t k) := by
  unfold ix turnI
  rw [List.getD_eq_getElem?_getD, List.getD_eq_getElem?_getD]
  split
  · rw [List.getElem?_append_left (by simp; omega), List.getElem?_drop]
  · rw [List.getElem?_append_right (by simp; omega), List.getElem?_take, if_pos (by simp; omega)]
    simp
end Go.Proofs.Ytmeppcoekmoofaa
