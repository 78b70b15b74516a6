/- tide.Low, and the law of TideTops in plain words. -/
import Derived.Test.YtdeoahgcppbmkaaDoorFindL
import Derived.Test.YtdeoahgcppbmkaaDoorTideWorks
import Derived.Test.YtdeoahgcppbmkaaDoorTides
namespace Go.Proofs.YtdeoahgcppbmkaaDoor
open Go.RowKit
set_option linter.unusedSimpArgs false
set_option linter.unusedVariables false
set_option maxRecDepth 100000 in
set_option maxHeartbeats 2000000 in
theorem Low_ok (f g : Int) (N : Nat) (A : Option Addr) (n cap : Nat) (zs : List Int) (w : World) (ht : SinT w) (hF : FlatSl w 3 A n cap zs) (hn : n ≤ 12) (hz : ∀ i, i < n → TdOk zs i) (h1 : instOk f = true) (h2 : instOk g = true) (hfg : f ≤ g) (hg : g - f ≤ 1728000000) (hN : N = ((g - f) / 3600000).toNat + 1) :
    Calls Tryd.prog 33 #[.slice A n cap, .int .i64 f, .int .i64 g] w (FindPostL zs n f N w) := by
  have H := Lib.hid (findL_ok f g N A n cap zs w ht hF hn hz h1 h2 hfg hg hN)
  clear ht hF hn hz h1 h2 hfg hg hN
  go_enter Tryd.func33, Tryd.ntmps33
  go_wp2_with fail
  refine Calls.mono H.out ?_
  rintro e w1 ⟨v, m, rfl, own, hb⟩
  have HO := Lib.hid own; have HB := Lib.hid hb
  clear own hb
  go_wp2_with fail
  go_ret2
  exact ⟨_, m, rfl, HO.out, HB.out⟩
/-- The intervals found, one by one. -/
theorem outs_at (f : Int) (up : Nat → Bool) : ∀ K k, k * 2 < (outs f up K).length → ∃ i : Nat, i < K ∧ up (i + 1) = true ∧ ix (outs f up K) (k * 2) = f + (i : Int) * 3600000 ∧ ix (outs f up K) (k * 2 + 1) = f + ((i : Int) + 2) * 3600000
  | 0, k, h => by simp [outs] at h
  | K + 1, k, h => by
    have ev : ∀ K, ∃ c, (outs f up K).length = c * 2 := fun K => by
      induction K with
      | zero => exact ⟨0, rfl⟩
      | succ K ih =>
        obtain ⟨c, hc⟩ := ih
        unfold outs
        rw [List.length_append, hc]
        by_cases u : up (K + 1) = true
        · rw [if_pos u]; exact ⟨c + 1, by simp; omega⟩
        · rw [if_neg u]; exact ⟨c, by simp⟩
    obtain ⟨c, hc⟩ := ev K
    unfold outs at h ⊢
    by_cases l : k * 2 < (outs f up K).length
    · obtain ⟨i, h1, h2, h3, h4⟩ := outs_at f up K k l
      exact ⟨i, by omega, h2, by rw [ixP_lt l]; exact h3, by rw [ixP_lt (by omega)]; exact h4⟩
    · rw [List.length_append] at h
      by_cases u : up (K + 1) = true
      · rw [if_pos u] at h ⊢
        have hk : k = c := by simp at h; omega
        have e0 := ixP_at (xs := outs f up K) (ys := [f + (K : Int) * 3600000, f + ((K : Int) + 2) * 3600000]) 0
        have e1 := ixP_at (xs := outs f up K) (ys := [f + (K : Int) * 3600000, f + ((K : Int) + 2) * 3600000]) 1
        rw [hc] at e0 e1
        rw [hk]
        exact ⟨K, by omega, u, e0, e1⟩
      · rw [if_neg u] at h
        simp at h
        omega
/-- What a high water's interval tells. -/
theorem top_law {zs : List Int} {n : Nat} {f : Int} {i : Nat} (h : upAt zs n f (i + 1) = true) : hHi zs n (f + (i : Int) * 3600000) < hLo zs n (f + ((i : Int) + 1) * 3600000) ∧ hHi zs n (f + ((i : Int) + 2) * 3600000) < hLo zs n (f + ((i : Int) + 1) * 3600000) := by
  unfold upAt at h
  rw [show ((i + 1 : Nat) : Int) - 1 = (i : Int) by omega, show ((i + 1 : Nat) : Int) + 1 = (i : Int) + 2 by omega, show ((i + 1 : Nat) : Int) = (i : Int) + 1 by omega] at h
  simp at h
  exact h
theorem low_law {zs : List Int} {n : Nat} {f : Int} {i : Nat} (h : dnAt zs n f (i + 1) = true) : hHi zs n (f + ((i : Int) + 1) * 3600000) < hLo zs n (f + (i : Int) * 3600000) := by
  unfold dnAt at h
  rw [show ((i + 1 : Nat) : Int) - 1 = (i : Int) by omega, show ((i + 1 : Nat) : Int) = (i : Int) + 1 by omega] at h
  simp at h
  exact h.1
/-- No high water is a low one. -/
theorem top_low {zs : List Int} {n : Nat} {f : Int} {i k : Nat} (hn : n ≤ 12) (hz : ∀ i, i < n → TdOk zs i) (h : upAt zs n f (i + 1) = true) (g : dnAt zs n f (k + 1) = true) : f + (i : Int) * 3600000 ≠ f + (k : Int) * 3600000 := fun e => by
  obtain rfl : i = k := by omega
  have a := top_law h; have b := low_law g
  have c := heights hn hz (f + (i : Int) * 3600000); have d := heights hn hz (f + ((i : Int) + 1) * 3600000)
  omega
end Go.Proofs.YtdeoahgcppbmkaaDoor
