/- The contract of chronWorks. -/
import Derived.Test.YtmeppcoekmoofaaEarly
namespace Go.Proofs.Ytmeppcoekmoofaa
open Go.RowKit
set_option linter.unusedSimpArgs false
set_option linter.unusedVariables false

def threeNums : List Int := [0, 1, 10, 20, 1, 2, 5, 5]
def threeL : List Bd := [⟨0, 1, 10, 20⟩, ⟨1, 2, 5, 5⟩]
theorem three_bds : bds threeNums 2 = threeL := by rfl
theorem three_each : ∀ c, c ∈ threeL → BdOk (3 : Nat) c := by
  intro c hc
  simp only [threeL, List.mem_cons, List.not_mem_nil, or_false] at hc
  rcases hc with rfl | rfl <;> constructor <;> decide
theorem three_ok : ChronOk 3 threeL := ⟨by omega, by omega, by decide, three_each⟩
def threeP (a b : Int) : Nat → Int := fun i => if i = 0 then 0 else if i = 1 then a else b
theorem three_sat : Free 3 threeL ∧ Leq 3 (Pot (threeP 10 15)) (fin 3 threeL) ∧ Leq 3 (Pot (threeP 20 25)) (fin 3 threeL) := by
  have far1 : ∀ a b, (0 ≤ a ∧ a ≤ 30) → (0 ≤ b ∧ b ≤ 30) → ∀ i j, i < 3 → j < 3 → threeP a b j - threeP a b i ≤ far := by
    intro a b ha hb i j _ _
    unfold threeP far
    split <;> split <;> (try split) <;> (try split) <;> omega
  have h1 := sat_free (n := 3) (ds := threeP 10 15) (l := threeL) (far1 10 15 (by omega) (by omega)) (by
    intro c hc
    simp only [threeL, List.mem_cons, List.not_mem_nil, or_false] at hc
    rcases hc with rfl | rfl <;> (unfold Sat; decide))
  have h2 := sat_free (n := 3) (ds := threeP 20 25) (l := threeL) (far1 20 25 (by omega) (by omega)) (by
    intro c hc
    simp only [threeL, List.mem_cons, List.not_mem_nil, or_false] at hc
    rcases hc with rfl | rfl <;> (unfold Sat; decide))
  exact ⟨h1.1, h1.2, h2.2⟩
theorem three_within : Within 3 20 threeL := ⟨by omega, by unfold far; omega, by
  intro c hc
  have := three_each c hc
  simp only [threeL, List.mem_cons, List.not_mem_nil, or_false] at hc
  rcases hc with rfl | rfl <;> exact ⟨this, by decide, by decide, by decide, by decide⟩⟩
theorem three_fin : fin 3 threeL 0 2 = 25 ∧ fin 3 threeL 2 0 = -15 ∧ fin 3 threeL 1 0 ≤ 100 ∧ fin 3 threeL 0 0 ≤ 100 := by
  obtain ⟨hf, h1, h2⟩ := three_sat
  have hcl := fin_closed three_within (by unfold far; decide) hf
  have e1 := fin_hits (n := 3) (l := threeL) ⟨0, 1, 10, 20⟩ (by simp [threeL]) (three_each _ (by simp [threeL]))
  have e2 := fin_hits (n := 3) (l := threeL) ⟨1, 2, 5, 5⟩ (by simp [threeL]) (three_each _ (by simp [threeL]))
  have a1 := h2 0 2 (by omega) (by omega)
  have a2 := h1 2 0 (by omega) (by omega)
  simp only [Pot, threeP] at a1 a2
  simp only [show Int.toNat 0 = 0 from rfl, show Int.toNat 1 = 1 from rfl, show Int.toNat 2 = 2 from rfl] at e1 e2
  have f1 : (20 : Int) < far := by unfold far; omega
  have b1 := hcl 0 1 2 (by omega) (by omega) (by omega) (by omega) (by omega)
  have b2 := hcl 2 1 0 (by omega) (by omega) (by omega) (by omega) (by omega)
  have b3 : fin 3 threeL 0 0 ≤ 0 := Int.le_trans (fw_le 3 (initM threeL) 3 0 0 (by omega) (by omega)) (foldB_le threeL init0 0 0)
  simp at a1 a2
  omega

set_option maxHeartbeats 400000 in
theorem three_any (w : World) : Calls Try.prog 45 #[] w fun e w' => e = .returned (.slice (some ⟨w.heap.size, 0, none⟩) 2 2) ∧ w' = w.alloc (.cells #[.int .i64 0, .int .i64 1, .int .i64 10, .int .i64 20, .int .i64 1, .int .i64 2, .int .i64 5, .int .i64 5] 64) := by
  go_enter Try.func45, Try.ntmps45
  go_wp2_with fail
  go_returns
  exact ⟨rfl, rfl⟩

theorem three_flat (w : World) : FlatSl (w.alloc (.cells #[.int .i64 0, .int .i64 1, .int .i64 10, .int .i64 20, .int .i64 1, .int .i64 2, .int .i64 5, .int .i64 5] 64)) 4 (some ⟨w.heap.size, 0, none⟩) 2 2 threeNums := by
  refine ⟨by omega, by simp [maxLen], rfl, fun _ => ⟨_, _, rfl, fun j hj => ?_⟩⟩
  match j, hj with
  | 0, _ => simp [go_sem, ix, threeNums]
  | 1, _ => simp [go_sem, ix, threeNums]
  | 2, _ => simp [go_sem, ix, threeNums]
  | 3, _ => simp [go_sem, ix, threeNums]
  | 4, _ => simp [go_sem, ix, threeNums]
  | 5, _ => simp [go_sem, ix, threeNums]
  | 6, _ => simp [go_sem, ix, threeNums]
  | 7, _ => simp [go_sem, ix, threeNums]

set_option maxRecDepth 100000 in
set_option maxHeartbeats 8000000 in
theorem chronWorks_ok (w : World) : Calls Try.prog 15 #[] w fun e w' => e = .returned (.bool true) ∧ Below w.heap.size w w' := by
  obtain ⟨t1, t2, t3, t4⟩ := three_fin
  have hfree := three_sat.1
  have hz := chronChk_zero.2 three_ok
  have HF := Lib.hid hfree; have HZ := Lib.hid hz
  have T1 := Lib.hid t1; have T2 := Lib.hid t2; have T3 := Lib.hid t3; have T4 := Lib.hid t4
  clear hfree hz t1 t2 t3 t4
  go_enter Try.func15, Try.ntmps15
  go_wp2_with fail
  refine Calls.mono (three_any _) ?_
  rintro e _ ⟨rfl, rfl⟩
  have hF := three_flat w
  have hb0 : Below w.heap.size w (w.alloc (.cells #[.int .i64 0, .int .i64 1, .int .i64 10, .int .i64 20, .int .i64 1, .int .i64 2, .int .i64 5, .int .i64 5] 64)) := (Below.refl _ _).alloc (Nat.le_refl _) _
  have hs0 := hb0.size
  go_wp2_with fail
  refine Calls.mono (tightest_any _ _ _ _ (3 : Nat) _ hF) ?_
  rw [three_bds]
  rintro e w1 ⟨hb1, ⟨N', hN, -, -, ob, oc, rb, rc, rfl, hcap, hT⟩ | ⟨N', hN, -, hbad, -⟩ | ⟨hbad, -⟩⟩
  · obtain rfl : N' = 3 := by omega
    have hb2 := hb0.trans (hb1.mono hs0)
    have hs2 := hb2.size
    have x1 := hT.out 0 (by omega)
    have x2 := (hT.row 0 (by omega) 2 (by omega)).1
    have x3 := (hT.row 0 (by omega) 2 (by omega)).2
    rw [T2.out] at x2
    rw [T1.out] at x3
    have l1 := hT.lt
    have l2 := hT.ltR 0 (by omega)
    clear hT hb1 hF hb0 hs0
    go_wp2_with fail
    refine Calls.mono (three_any _) ?_
    rintro e _ ⟨rfl, rfl⟩
    have hF := three_flat w1
    go_wp2_with fail
    refine Calls.mono (early_any _ _ _ _ 3 0 _ _ hF (by rw [three_bds]; exact three_ok) (by rw [three_bds]; exact HF.out) (by omega) (by omega)) ?_
    rw [three_bds]
    rintro e w3 ⟨hb3, ⟨k, hk, hfar, -⟩ | ⟨-, v, rfl, hown⟩⟩
    · exfalso
      have h0 := T4.out; have h1 := T3.out; have h2 := T2.out
      match k, hk with
      | 0, _ => omega
      | 1, _ => omega
      | 2, _ => omega
    · obtain ⟨g, gc, hv, hg1, hg2⟩ := hown.form (by omega)
      subst hv
      have y1 := hown.cellAt 2 (by omega)
      rw [List.getElem?_map] at y1
      have y2 : (earlyNums (fin 3 threeL) 0 100 3)[2]? = some 115 := by
        have e1 : earlyNums (fin 3 threeL) 0 100 3 = [100 + -fin 3 threeL 0 0, 100 + -fin 3 threeL 1 0, 100 + -fin 3 threeL 2 0] := rfl
        rw [e1, T2.out]; rfl
      rw [y2] at y1
      simp only [Option.map_some] at y1
      have hb4 := (hb2.alloc hs2 (.cells #[.int .i64 0, .int .i64 1, .int .i64 10, .int .i64 20, .int .i64 1, .int .i64 2, .int .i64 5, .int .i64 5] 64)).trans (hb3.mono (by simp; omega))
      have hK := ((Below.refl w1.heap.size w1).alloc (Nat.le_refl _) (.cells #[.int .i64 0, .int .i64 1, .int .i64 10, .int .i64 20, .int .i64 1, .int .i64 2, .int .i64 5, .int .i64 5] 64)).trans (hb3.mono (by simp))
      have x4 := (hK.cell (p := ⟨ob, 0, none⟩) l1).trans x1
      have x5 := (hK.cell (p := ⟨rb 0, 4, none⟩) l2).trans x2
      have x6 := (hK.cell (p := ⟨rb 0, 5, none⟩) l2).trans x3
      clear hK hb3 hown x1 x2 x3 hF
      go_wp2_with fail
      go_returns
      exact ⟨rfl, by repeat' (first | (with_reducible refine below_drewN ?_ _) | go_grown)⟩
  · obtain rfl : N' = 3 := by omega
    exact absurd HF.out hbad
  · exact absurd HZ.out hbad

end Go.Proofs.Ytmeppcoekmoofaa
