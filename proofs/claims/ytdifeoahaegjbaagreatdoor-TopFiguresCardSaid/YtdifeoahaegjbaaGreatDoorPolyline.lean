/- figure.polyline at a line of two numbers. -/
import Derived.Test.YtdifeoahaegjbaaGreatDoorFRead
namespace Go.Proofs.YtdifeoahaegjbaaGreatDoor
open Go.RowKit
set_option linter.unusedSimpArgs false
set_option linter.unusedVariables false

def twoL (n m : Int) : Nat → List Int
  | 0 => []
  | 1 => [n]
  | _ => [n, m]
set_option maxRecDepth 100000 in
set_option maxHeartbeats 8000000 in
theorem polyline_ok (q o c : Nat) (s1 s2 : ByteArray) (n m : Int) (w : World) (ht : Tab w) (hc : 2 ≤ c) (h1 : w.cell? ⟨q, o, none⟩ = some (.string s1)) (h2 : w.cell? ⟨q, o + 1, none⟩ = some (.string s2))
    (l1 : s1.size ≤ 18) (l2 : s2.size ≤ 18) (a1 : Lib.atoi s1.data.toList = some n) (a2 : Lib.atoi s2.data.toList = some m) (i1 : s1 = ⟨(Lib.itoa n).toArray⟩) (i2 : s2 = ⟨(Lib.itoa m).toArray⟩) (v1 : 0 ≤ n ∧ n ≤ 1000) (v2 : 0 ≤ m ∧ m ≤ 1000) :
    Calls Tryz.prog 25 #[.slice (some ⟨q, o, none⟩) 2 c] w fun r w' => ∃ g gc, w.heap.size ≤ g ∧ r = .returned (.tuple #[.slice (some ⟨g, 0, none⟩) 2 gc, .bool true]) ∧ 2 ≤ gc ∧ w'.cell? ⟨g, 0, none⟩ = some (.int .i64 n) ∧ w'.cell? ⟨g, 1, none⟩ = some (.int .i64 m) ∧ Below w.heap.size w w' := by
  obtain ⟨iI, hI0, hI1, hI2, hI3⟩ := info_parts infoIn
  have HT := Lib.hid ht; have H1 := Lib.hid h1; have H2 := Lib.hid h2; have A1 := Lib.hid a1; have A2 := Lib.hid a2; have I1 := Lib.hid i1; have I2 := Lib.hid i2; have V1 := Lib.hid v1; have V2 := Lib.hid v2
  obtain ⟨k, hk⟩ : ∃ k, k = w.heap.size := ⟨_, rfl⟩
  have HK := Lib.hid hk
  clear ht h1 h2 a1 a2 i1 i2 v1 v2 hk
  go_enter Tryz.func25, Tryz.ntmps25
  go_wp2_with fail
  go_loopw [4, 11] (fun s4 i' wv => ∃ (t : Nat), t ≤ 2 ∧ i' = .int .i64 t ∧ wv.ownsRow k 3 1 s4 t ((twoL n m t).map (Value.int .i64)) ∧ Below w.heap.size w wv) (fun _ i' _ => 2 - (intOf i').toNat)
  case atStart => exact ⟨0, by omega, rfl, World.ownsRow_nil _ _ _ _, Below.refl _ _⟩
  case round =>
    obtain ⟨t, ht, rfl, hown, hb⟩ := hrel
    have hlo0 := Lib.hid (fun q hq => (hown.lt q hq).1)
    have HW := Lib.hid hown; have Hb := Lib.hid hb
    clear hown hb
    rcases (by omega : t = 0 ∨ t = 1 ∨ t = 2) with rfl | rfl | rfl
    · have z1 := (Hb.out.cell (p := ⟨q, o, none⟩) (cell_lt H1.out)).trans H1.out
      have g0 : (0 : Int) < (c : Int) := by omega
      go_wp2_with fail
      refine Calls.mono (atoi_at s1 n l1 A1.out _) ?_
      rintro er w3 ⟨rfl, hb⟩
      have HW3 := Lib.hid (own_below HW.out hb); have Hb3 := Lib.hid (Hb.out.trans (hb.mono Hb.out.size))
      clear hb HW Hb z1
      go_wp2_with fail
      refine Calls.mono (itoa_as n s1 I1 (by have := V1.out.1; omega) (by have := V1.out.2; omega) _ (HT.out.below Hb3.out)) ?_
      rintro er w4 ⟨rfl, hb⟩
      have HW4 := Lib.hid (own_below HW3.out hb); have Hb4 := Lib.hid (Hb3.out.trans (hb.mono Hb3.out.size))
      clear hb HW3 Hb3
      have hown := HW4.out
      go_wp2_with (at_builtin; refine wpList_append_own _ rfl _ _ 22 rfl k 3 iI _ 1 8 Tryz.underlying22 hI0 hI1 hI2 hI3 rfl (by decide) _ _ _ rfl (hown.alloc _) ⟨w4.heap.size, 0, none⟩ 1 1 [.int .i64 n] rfl rfl ?c1 ?c2 ?c3 ?c4 ?c5 ?_)
      case c1 => exact cells_one
      case c2 => simp [Value.oneCell']
      case c3 => unfold maxLen; omega
      case c4 => omega
      case c5 => have := Hb4.out.size; have := HK.out; simp; omega
      · intro v' Z hown' hgr hat
        have hlo := hlo0.out
        obtain ⟨g, gc, hv', _, _⟩ := hown'.form (by omega)
        subst hv'
        have bf := (Below.refl w4.heap.size w4).alloc (Nat.le_refl _) (.cells #[.int .i64 n] 3)
        have hb4 := Hb4.out.trans (bf.mono Hb4.out.size)
        have Hb5 := Lib.hid (below_grow hb4 (Nat.le_refl _) hgr (fun q hq => by have := hlo q hq; have := HK.out; omega))
        have HW5 := Lib.hid hown'
        clear hown hown' hgr hat hlo bf hb4
        go_wp2_with fail
        go_roundw
        case rel => exact ⟨1, by omega, rfl, HW5.out, Hb5.out⟩
        case measure => simp [intOf]
    · have z1 := (Hb.out.cell (p := ⟨q, o + 1, none⟩) (cell_lt H2.out)).trans H2.out
      have g0 : (1 : Int) < (c : Int) := by omega
      go_wp2_with fail
      refine Calls.mono (atoi_at s2 m l2 A2.out _) ?_
      rintro er w3 ⟨rfl, hb⟩
      have HW3 := Lib.hid (own_below HW.out hb); have Hb3 := Lib.hid (Hb.out.trans (hb.mono Hb.out.size))
      clear hb HW Hb z1
      go_wp2_with fail
      refine Calls.mono (itoa_as m s2 I2 (by have := V2.out.1; omega) (by have := V2.out.2; omega) _ (HT.out.below Hb3.out)) ?_
      rintro er w4 ⟨rfl, hb⟩
      have HW4 := Lib.hid (own_below HW3.out hb); have Hb4 := Lib.hid (Hb3.out.trans (hb.mono Hb3.out.size))
      clear hb HW3 Hb3
      have hown := HW4.out
      go_wp2_with (at_builtin; refine wpList_append_own _ rfl _ _ 22 rfl k 3 iI _ 1 8 Tryz.underlying22 hI0 hI1 hI2 hI3 rfl (by decide) _ _ _ rfl (hown.alloc _) ⟨w4.heap.size, 0, none⟩ 1 1 [.int .i64 m] rfl rfl ?c1 ?c2 ?c3 ?c4 ?c5 ?_)
      case c1 => exact cells_one
      case c2 => simp [Value.oneCell']
      case c3 => unfold maxLen; omega
      case c4 => omega
      case c5 => have := Hb4.out.size; have := HK.out; simp; omega
      · intro v' Z hown' hgr hat
        have hlo := hlo0.out
        obtain ⟨g, gc, hv', _, _⟩ := hown'.form (by omega)
        subst hv'
        have bf := (Below.refl w4.heap.size w4).alloc (Nat.le_refl _) (.cells #[.int .i64 m] 3)
        have hb4 := Hb4.out.trans (bf.mono Hb4.out.size)
        have Hb5 := Lib.hid (below_grow hb4 (Nat.le_refl _) hgr (fun q hq => by have := hlo q hq; have := HK.out; omega))
        have HW5 := Lib.hid hown'
        clear hown hown' hgr hat hlo bf hb4
        go_wp2_with fail
        go_roundw
        case rel => exact ⟨2, by omega, rfl, HW5.out, Hb5.out⟩
        case measure => simp [intOf]
    · have hown := HW.out
      obtain ⟨g, gc, hv', _, _⟩ := hown.form (by omega)
      subst hv'
      have e0 := hown.cellAt 0 (by omega)
      have e1 := hown.cellAt 1 (by omega)
      have e2 := own_cap' hown
      have e3 : w.heap.size ≤ g := by have h := (hown.lt g rfl).1; have := HK.out; omega
      have HE := Lib.hid (And.intro e0 e1)
      clear hown e0 e1
      go_wp2_with fail
      refine bodyPost_ret (v := .tuple #[.slice (some ⟨g, 0, none⟩) 2 gc, .bool true]) ?_ rfl ⟨g, gc, e3, rfl, e2, by simpa [twoL] using HE.out.1, by simpa [twoL] using HE.out.2, Hb.out⟩
      simp [results, Tryz.results25, go_sem, *]
end Go.Proofs.YtdifeoahaegjbaaGreatDoor
