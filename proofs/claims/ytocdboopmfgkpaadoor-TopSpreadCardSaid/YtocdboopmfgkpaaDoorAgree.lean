/- The contracts of package agree. -/
import Derived.Test.YtocdboopmfgkpaaDoorBox
import Derived.Test.YtocdboopmfgkpaaDoorLeap
import Derived.Test.YtocdboopmfgkpaaDoorAgreePlain
namespace Go.Proofs.YtocdboopmfgkpaaDoor
open Go.RowKit
set_option linter.unusedSimpArgs false
set_option linter.unusedVariables false

theorem FlatSl.atop {w : World} {sz n cap : Nat} {A : Option Addr} {zs : List Int} (h : FlatSl w sz A n cap zs) (hsz : 0 < sz) (o : Obj) : FlatSl (w.alloc o) sz A n cap zs :=
  h.keep hsz ((Below.refl _ _).alloc (Nat.le_refl _) o)

/-- Intervals that are permitted. -/
structure SpOk (zs : List Int) (n : Nat) : Prop where
  few : n ≤ 40
  some : 1 ≤ n
  each : ∀ j, j < n → -500000000000000000 ≤ ix zs (j * 2) ∧ ix zs (j * 2) ≤ ix zs (j * 2 + 1) ∧ ix zs (j * 2 + 1) ≤ 500000000000000000

theorem chk_ok {lo hi : Int} (h : -500000000000000000 ≤ lo ∧ lo ≤ hi ∧ hi ≤ 500000000000000000) : chk lo hi = 0 := by
  unfold chk; rw [if_neg (by omega), if_neg (by omega)]

set_option maxRecDepth 100000 in
set_option maxHeartbeats 2000000 in
theorem agreeCheck_ok (A : Option Addr) (n cap : Nat) (zs : List Int) (w : World) (h : FlatSl w 2 A n cap zs) (hS : SpOk zs n) :
    Calls Tryd.prog 38 #[.slice A n cap] w fun e w' => e = .returned (.int .i64 0) ∧ Below w.heap.size w w' := by
  have hf := hS.few
  have h1 := hS.some
  obtain ⟨b, off, rfl, hcell⟩ := h.at' (by omega)
  have hb := World.block_lt_of_cell? w _ (hcell 0 (by omega))
  have hn0 : ((n : Int) == 0) = false := by simp; omega
  have HC := Lib.hid hcell; clear hcell h
  go_enter Tryd.func38, Tryd.ntmps38
  go_wp2_with fail
  go_loopw [14] (fun i wr => ∃ k : Nat, k ≤ n ∧ i = .int .i64 k ∧ Below w.heap.size w wr) (fun i _ => n - (intOf i).toNat)
  case atStart => exact ⟨0, by omega, rfl, Below.refl _ _⟩
  case round =>
    obtain ⟨k, hk, rfl, hbw⟩ := hrel
    have hbs := hbw.size
    by_cases hlt : k < n
    · obtain ⟨c0, c1, hbl⟩ := leap_cells HC.out hb hbw hlt
      have he := Lib.hid (chk_ok (hS.each k hlt))
      go_wp2_with fail
      refine Calls.mono (check_any _ _ _) ?_
      rintro e w1 ⟨rfl, hb1⟩
      rw [he.out]
      have hb2 := (hbw.alloc hbs (.cells #[.int .i64 (ix zs (k * 2)), .int .i64 (ix zs (k * 2 + 1))] 65)).trans (hb1.mono (by simp; omega))
      clear hb1
      go_wp2_with fail
      go_roundw
      case rel => exact ⟨k + 1, by omega, by go_num, hb2⟩
      case measure => simp [intOf]; omega
    · go_wp2_with fail
      go_returns
      exact ⟨rfl, hbw⟩

set_option maxRecDepth 100000 in
set_option maxHeartbeats 2000000 in
theorem depth_ok (A : Option Addr) (n cap : Nat) (zs : List Int) (t : Int) (w : World) (h : FlatSl w 2 A n cap zs) (hn : n ≤ 40) :
    Calls Tryd.prog 39 #[.slice A n cap, .int .i64 t] w fun e w' => e = .returned (.int .i64 (dep zs t n)) ∧ Below w.heap.size w w' := by
  obtain ⟨hle, hmost, hlen, hat⟩ := h
  have HL := Lib.hid hlen; clear hlen
  go_enter Tryd.func39, Tryd.ntmps39
  go_wp2_with fail
  go_loopw [5, 10] (fun v i wr => ∃ k : Nat, k ≤ n ∧ i = .int .i64 k ∧ v = .int .i64 (dep zs t k) ∧ Below w.heap.size w wr) (fun _ i _ => n - (intOf i).toNat)
  case atStart => exact ⟨0, by omega, rfl, rfl, Below.refl _ _⟩
  case round =>
    obtain ⟨k, hk, rfl, rfl, hbw⟩ := hrel
    have hbs := hbw.size
    have hd := dep_le zs t k
    by_cases hlt : k < n
    · obtain ⟨b, off, rfl, hcell⟩ := hat (by omega)
      obtain ⟨c0, c1, hbl⟩ := leap_cells hcell (World.block_lt_of_cell? w _ (hcell 0 (by omega))) hbw hlt
      clear hcell hat
      have hnx : dep zs t (k + 1) = dep zs t k + if ix zs (k * 2) ≤ t ∧ t ≤ ix zs (k * 2 + 1) then 1 else 0 := rfl
      by_cases q1 : ix zs (k * 2) ≤ t
      · by_cases q2 : t ≤ ix zs (k * 2 + 1)
        · rw [if_pos ⟨q1, q2⟩] at hnx
          have H := Lib.hid hnx; clear hnx
          go_wp2_with fail
          go_roundw
          case rel => exact ⟨k + 1, by omega, by go_num, by rw [H.out]; go_num, hbw.alloc hbs _⟩
          case measure => simp [intOf]; omega
        · rw [if_neg (fun h => q2 h.2)] at hnx
          have H := Lib.hid hnx; clear hnx
          go_wp2_with fail
          go_roundw
          case rel => exact ⟨k + 1, by omega, by go_num, by rw [H.out]; go_num, hbw.alloc hbs _⟩
          case measure => simp [intOf]; omega
      · rw [if_neg (fun h => q1 h.1)] at hnx
        have H := Lib.hid hnx; clear hnx
        go_wp2_with fail
        go_roundw
        case rel => exact ⟨k + 1, by omega, by go_num, by rw [H.out]; go_num, hbw.alloc hbs _⟩
        case measure => simp [intOf]; omega
    · obtain rfl : k = n := by omega
      go_wp2_with fail
      go_returns
      exact ⟨rfl, hbw⟩

end Go.Proofs.YtocdboopmfgkpaaDoor
