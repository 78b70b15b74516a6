/- Rows of changes and of edits that a call owns. -/
import Derived.Test.YtdifeoahaegjbaaDoorZone
namespace Go.Proofs.YtdifeoahaegjbaaDoor
open Go.RowKit
set_option linter.unusedSimpArgs false
set_option linter.unusedVariables false

def chC (c : Chg) : List Value := [.int .i64 c.at', .int .i64 c.off, .string c.lab]
def chCs (cs : List Chg) : List Value := cs.flatMap chC
def edC (c : Chg) : List Value := [.int .i64 2, .int .i64 c.at', .int .i64 c.off, .string c.lab]
def edCs (cs : List Chg) : List Value := cs.flatMap edC
theorem chCs_len : ∀ cs : List Chg, (chCs cs).length = cs.length * 3
  | [] => rfl
  | c :: t => by show (chC c ++ chCs t).length = _; rw [List.length_append, chCs_len t]; simp [chC]; omega
theorem edCs_len : ∀ cs : List Chg, (edCs cs).length = cs.length * 4
  | [] => rfl
  | c :: t => by show (edC c ++ edCs t).length = _; rw [List.length_append, edCs_len t]; simp [edC]; omega
theorem chCs_app (a b : List Chg) : chCs (a ++ b) = chCs a ++ chCs b := by simp [chCs]
theorem edCs_app (a b : List Chg) : edCs (a ++ b) = edCs a ++ edCs b := by simp [edCs]
theorem chCs_at : ∀ (cs : List Chg) (i j : Nat), i < cs.length → j < 3 → (chCs cs)[i * 3 + j]? = (chC (ch cs i))[j]?
  | [], i, j, hi, _ => absurd hi (by simp)
  | c :: t, 0, j, _, hj => by
    show (chC c ++ chCs t)[0 * 3 + j]? = (chC c)[j]?
    rw [List.getElem?_append_left (by simp [chC]; omega)]
    simp
  | c :: t, i + 1, j, hi, hj => by
    have h := chCs_at t i j (by simpa using hi) hj
    show (chC c ++ chCs t)[(i + 1) * 3 + j]? = (chC (ch t i))[j]?
    rw [List.getElem?_append_right (by simp [chC]; omega), show (i + 1) * 3 + j - (chC c).length = i * 3 + j by simp [chC]; omega, h]
theorem edCs_at : ∀ (cs : List Chg) (i j : Nat), i < cs.length → j < 4 → (edCs cs)[i * 4 + j]? = (edC (ch cs i))[j]?
  | [], i, j, hi, _ => absurd hi (by simp)
  | c :: t, 0, j, _, hj => by
    show (edC c ++ edCs t)[0 * 4 + j]? = (edC c)[j]?
    rw [List.getElem?_append_left (by simp [edC]; omega)]
    simp
  | c :: t, i + 1, j, hi, hj => by
    have h := edCs_at t i j (by simpa using hi) hj
    show (edC c ++ edCs t)[(i + 1) * 4 + j]? = (edC (ch t i))[j]?
    rw [List.getElem?_append_right (by simp [edC]; omega), show (i + 1) * 4 + j - (edC c).length = i * 4 + j by simp [edC]; omega, h]
theorem chCs_one (cs : List Chg) : ∀ u ∈ chCs cs, u.oneCell' = true := by
  intro u hu
  obtain ⟨c, _, hc⟩ := List.mem_flatMap.1 hu
  simp [chC] at hc
  rcases hc with rfl | rfl | rfl <;> rfl
theorem edCs_one (cs : List Chg) : ∀ u ∈ edCs cs, u.oneCell' = true := by
  intro u hu
  obtain ⟨c, _, hc⟩ := List.mem_flatMap.1 hu
  simp [edC] at hc
  rcases hc with rfl | rfl | rfl | rfl <;> rfl
theorem ch_app_l {a b : List Chg} {i : Nat} (h : i < a.length) : ch (a ++ b) i = ch a i := by
  unfold ch; simp [List.getD, List.getElem?_append_left h]
theorem ch_app_r {a b : List Chg} {i : Nat} : ch (a ++ b) (a.length + i) = ch b i := by
  unfold ch; simp [List.getD, List.getElem?_append_right]

/-- A slice of edits that add. -/
structure EdSl (w : World) (A : Option Addr) (n cap : Nat) (cs : List Chg) : Prop where
  le : n ≤ cap
  most : cap ≤ maxLen
  len : cs.length = n
  mem : 0 < n → ∃ b off, A = some ⟨b, off, none⟩ ∧ ∀ i, i < n → w.cell? ⟨b, off + i * 4, none⟩ = some (.int .i64 2) ∧ w.cell? ⟨b, off + i * 4 + 1, none⟩ = some (.int .i64 (ch cs i).at') ∧ w.cell? ⟨b, off + i * 4 + 2, none⟩ = some (.int .i64 (ch cs i).off) ∧ w.cell? ⟨b, off + i * 4 + 3, none⟩ = some (.string (ch cs i).lab)
theorem EdSl.stay {w w' : World} {A : Option Addr} {n cap : Nat} {cs : List Chg} (h : EdSl w A n cap cs) (hb : Below w.heap.size w w') : EdSl w' A n cap cs := by
  refine ⟨h.le, h.most, h.len, fun hn => ?_⟩
  obtain ⟨b, off, hA, hc⟩ := h.mem hn
  have hlt : b < w.heap.size := cell_lt (hc 0 hn).1
  exact ⟨b, off, hA, fun i hi => ⟨(hb.cell (p := ⟨b, off + i * 4, none⟩) hlt).trans (hc i hi).1, (hb.cell (p := ⟨b, off + i * 4 + 1, none⟩) hlt).trans (hc i hi).2.1, (hb.cell (p := ⟨b, off + i * 4 + 2, none⟩) hlt).trans (hc i hi).2.2.1, (hb.cell (p := ⟨b, off + i * 4 + 3, none⟩) hlt).trans (hc i hi).2.2.2⟩⟩

def ChRngs (cs : List Chg) : Prop := ∀ i, i < cs.length → ChRng (ch cs i)
theorem ChRngs.app {a b : List Chg} (h : ChRngs a) (k : ChRngs b) : ChRngs (a ++ b) := by
  intro i hi
  rw [List.length_append] at hi
  by_cases hl : i < a.length
  · rw [ch_app_l hl]; exact h i hl
  · have := k (i - a.length) (by omega)
    rw [← ch_app_r (a := a), show a.length + (i - a.length) = i by omega] at this
    exact this
theorem own_ch {w : World} {base n : Nat} {v : Value} {cs : List Chg} (hr : ChRngs cs) (h : w.ownsRow base 36 3 v n (chCs cs)) :
    ∃ A cap, v = .slice A n cap ∧ ChSl w A n cap cs := by
  obtain ⟨hl, h2⟩ := id h
  rw [chCs_len] at hl
  have hl' : cs.length = n := by omega
  rcases h2 with ⟨rfl, rfl⟩ | ⟨g, cap, cur, rfl, hb, hg, hn, hc, hs, ht⟩
  · exact ⟨none, 0, rfl, ⟨by omega, by simp [maxLen], hl', fun i hi => absurd hi (by omega), fun h => absurd h (by omega)⟩⟩
  · refine ⟨_, cap, rfl, ⟨hn, hc, hl', fun i hi => hr i (by omega), fun h0 => ⟨g, 0, rfl, fun i hi => ?_⟩⟩⟩
    have key : ∀ j, j < 3 → w.cell? ⟨g, 0 + i * 3 + j, none⟩ = (chC (ch cs i))[j]? := fun j hj => by
      rw [← chCs_at cs i j (by omega) hj, Nat.zero_add]
      exact h.cellAt (i * 3 + j) (by omega)
    exact ⟨key 0 (by omega), key 1 (by omega), key 2 (by omega)⟩
theorem own_ed {w : World} {base n : Nat} {v : Value} {cs : List Chg} (h : w.ownsRow base 38 4 v n (edCs cs)) :
    ∃ A cap, v = .slice A n cap ∧ EdSl w A n cap cs := by
  obtain ⟨hl, h2⟩ := id h
  rw [edCs_len] at hl
  have hl' : cs.length = n := by omega
  rcases h2 with ⟨rfl, rfl⟩ | ⟨g, cap, cur, rfl, hb, hg, hn, hc, hs, ht⟩
  · exact ⟨none, 0, rfl, ⟨by omega, by simp [maxLen], hl', fun h => absurd h (by omega)⟩⟩
  · refine ⟨_, cap, rfl, ⟨hn, hc, hl', fun h0 => ⟨g, 0, rfl, fun i hi => ?_⟩⟩⟩
    have key : ∀ j, j < 4 → w.cell? ⟨g, 0 + i * 4 + j, none⟩ = (edC (ch cs i))[j]? := fun j hj => by
      rw [← edCs_at cs i j (by omega) hj, Nat.zero_add]
      exact h.cellAt (i * 4 + j) (by omega)
    exact ⟨key 0 (by omega), key 1 (by omega), key 2 (by omega), key 3 (by omega)⟩
theorem add_at0 (b o j : Nat) : (⟨b, o, none⟩ : Addr).add j = ⟨b, o + j, none⟩ := by unfold Addr.add; split <;> simp_all
theorem ChSl.news {w : World} {n cap : Nat} {ad : Addr} {cs : List Chg} (h : ChSl w (some ad) n cap cs) : ∀ j u, (chCs cs)[j]? = some u → w.cell? (ad.add j) = some u := by
  intro j u hu
  have hl := h.len
  by_cases hj : j < cs.length * 3
  · have hn : 0 < n := by omega
    obtain ⟨b, off, hA, hc⟩ := h.mem hn
    cases hA
    have hi : j / 3 < n := by omega
    obtain ⟨c0, c1, c2⟩ := hc (j / 3) hi
    have e : j = j / 3 * 3 + j % 3 := by omega
    rw [add_at0]
    rw [e, chCs_at cs (j / 3) (j % 3) (by omega) (by omega)] at hu
    rcases (by omega : j % 3 = 0 ∨ j % 3 = 1 ∨ j % 3 = 2) with h | h | h
    · rw [h] at hu; rw [show off + j = off + j / 3 * 3 by omega, c0]; exact hu
    · rw [h] at hu; rw [show off + j = off + j / 3 * 3 + 1 by omega, c1]; exact hu
    · rw [h] at hu; rw [show off + j = off + j / 3 * 3 + 2 by omega, c2]; exact hu
  · rw [List.getElem?_eq_none (by rw [chCs_len]; omega)] at hu
    cases hu
theorem ChSl.rngs {w : World} {A : Option Addr} {n cap : Nat} {cs : List Chg} (h : ChSl w A n cap cs) : ChRngs cs := fun i hi => h.rng i (by have := h.len; omega)
theorem zset_grown (w : World) (b o : Nat) (v : Value) : w.grownBy (w.setCell ⟨b, o, none⟩ v) (some b) :=
  ⟨rfl, rfl, rfl, by simp, fun k _ hne => Go.Deep.blk_setCell_other _ _ _ _ (fun e => hne (by rw [e]))⟩
theorem zown_set {w : World} {base b o : Nat} {e : TypeId} {sz n : Nat} {v x : Value} {xs : List Value} (h : w.ownsRow base e sz v n xs) (hb : b < base) : (w.setCell ⟨b, o, none⟩ x).ownsRow base e sz v n xs :=
  h.kept (row := some b) (zset_grown w b o x) (by
    cases hv : v.ownBlock with
    | none => simp
    | some q => exact .inr (fun e => by have := (h.lt q hv).1; have := Option.some.inj e; omega))
theorem below_growZ {B : Nat} {w w1 w2 : World} {r : Option Nat} (hb : Below B w w1) (hs : B ≤ w.heap.size) (hg : w1.grownBy w2 r) (hr : ∀ q, r = some q → B ≤ q) : Below B w w2 :=
  ⟨hg.os.trans hb.os, hg.tape.trans hb.tape, hg.output.trans hb.output, by have := hg.size; have := hb.size; omega, fun k hk => (hg.block k (by have := hb.size; omega) (fun e => by have := hr k e.symm; omega)).trans (hb.block k hk)⟩
theorem ZBox.grown {w w' : World} {b : Nat} {x y z : Value} {r : Option Nat} (h : ZBox w b x y z) (hg : w.grownBy w' r) (hr : some b ≠ r) : ZBox w' b x y z := World.rowIs.of_block h (hg.block b h.lt hr)
end Go.Proofs.YtdifeoahaegjbaaDoor
