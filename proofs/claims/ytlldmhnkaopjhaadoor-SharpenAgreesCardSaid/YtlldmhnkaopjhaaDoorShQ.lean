/- What the narrower seasons and phases can be, plain. -/
import Derived.Test.YtlldmhnkaopjhaaDoorShP
namespace Go.Proofs.YtlldmhnkaopjhaaDoor
open Go.RowKit
set_option linter.unusedSimpArgs false
set_option linter.unusedVariables false
/-- An interval and OK, or nothing and ErrOpen. -/
structure ShOk (r : Int × Int × Int) : Prop where
  e : r.2.2 = 0 ∨ r.2.2 = 11
  l : -400000000000000 ≤ r.1
  m : r.1 ≤ r.2.1
  h : r.2.1 ≤ 400000000000000
theorem shR_any {r : Int × Int} {width : Int} (h1 : -400000000000000 ≤ r.1) (h2 : r.1 ≤ r.2) (h3 : r.2 ≤ 400000000000000) : ShOk (shR r width) := by
  unfold shR
  by_cases c : r.2 - r.1 ≤ width
  · rw [if_pos c]; exact ⟨.inl rfl, h1, h2, h3⟩
  · rw [if_neg c]; exact ⟨.inr rfl, by decide, by decide, by decide⟩
theorem shY_any {q y v : Int} (q0 : 0 ≤ q) (q1 : q ≤ 3) (h0 : -9100 ≤ y) (h1 : y ≤ 9100) (v0 : 1 ≤ v) : ShOk (shY q y v) := by
  obtain ⟨-, c, C⟩ := se_find q0 q1 h0 h1
  have bd := seY_bd q0 q1 h0 h1
  have e1 : seF (250000000 * q) (newY y * 86400000) = seY q y := rfl
  have l := C.l; have i1 := C.i1; have i2 := C.i2; have u := C.u; have w := C.w
  rw [e1] at l i1 i2 u w
  have p64 : (1000000000000000000 : Int) ≤ ((2 ^ 64 : Nat) : Int) := by decide
  have Q := nrwF_in (C.cr.sub l u) (width := v) (by omega) v0 i1 i2 (by omega) 64 (by omega)
  have qa := Q.a; have qb := Q.b; have qc := Q.c; have qd := Q.d
  unfold shY
  exact shR_any (by omega) (by omega) (by omega)
theorem shP_any {k q v : Int} (k0 : -100000 ≤ k) (k1 : k ≤ 100000) (q0 : 0 ≤ q) (q1 : q ≤ 3) (v0 : 1 ≤ v) : ShOk (shP k q v) := by
  obtain ⟨c, C⟩ := ph_in (k := k) (q := q) (by omega) (by omega) q0 q1
  have bd := phF_bd k0 k1 q0 q1
  have l := C.a; have i1 := C.b; have i2 := C.c; have u := C.d; have w := C.w
  have p64 : (1000000000000000000 : Int) ≤ ((2 ^ 64 : Nat) : Int) := by decide
  have Q := nrwF_in (C.x.cr.sub l u) (width := v) (by omega) v0 i1 i2 (by omega) 64 (by omega)
  have qa := Q.a; have qb := Q.b; have qc := Q.c; have qd := Q.d
  unfold shP
  exact shR_any (by omega) (by omega) (by omega)
theorem shR_whole {sd : Int → Int} {a : Int × Int} (h : a.2 - a.1 ≤ 600000) : shR (nrwF sd 600000 64 a.1 a.2) 600000 = (a.1, a.2, 0) := by
  rw [nrwF_end sd 600000 64 a.1 a.2 (by omega)]
  unfold shR
  rw [if_pos h]
theorem shY_whole {q y : Int} (q0 : 0 ≤ q) (q1 : q ≤ 3) (h0 : -9100 ≤ y) (h1 : y ≤ 9100) : shY q y 600000 = ((seY q y).1, (seY q y).2, 0) := by
  obtain ⟨-, c, C⟩ := se_find q0 q1 h0 h1
  exact shR_whole C.w
theorem shP_whole {k q : Int} (k0 : -100000 ≤ k) (k1 : k ≤ 100000) (q0 : 0 ≤ q) (q1 : q ≤ 3) : shP k q 600000 = ((phF k q).1, (phF k q).2, 0) := by
  obtain ⟨c, C⟩ := ph_in (k := k) (q := q) (by omega) (by omega) q0 q1
  exact shR_whole C.w
/-- What Decide may answer. -/
def DecOk (q y k p n g : Int) : Prop := (earF (seY q y).1 (seY q y).2 (phF k p).1 (phF k p).2).2 = 0 → n = (earF (seY q y).1 (seY q y).2 (phF k p).1 (phF k p).2).1 ∧ g = 0
/-- The width of a round: the whole one, or the whole intervals are not apart. -/
def WdOk (q y k p wd : Int) : Prop := 0 ≤ wd ∧ wd ≤ 600000 ∧ (wd = 600000 ∨ (earF (seY q y).1 (seY q y).2 (phF k p).1 (phF k p).2).2 = 11)
theorem ear_2 (a b c d : Int) : (earF a b c d).2 = 0 ∨ (earF a b c d).2 = 11 := by
  unfold earF
  split
  · exact .inl rfl
  · split
    · exact .inl rfl
    · exact .inr rfl
theorem dec_end {q y k p : Int} (h : WdOk q y k p 0) : DecOk q y k p 0 11 := by
  intro e
  obtain ⟨-, -, h⟩ := h
  omega
theorem dec_y {q y k p wd : Int} (q0 : 0 ≤ q) (q1 : q ≤ 3) (h0 : -9100 ≤ y) (h1 : y ≤ 9100) (h : WdOk q y k p wd) (e : (shY q y wd).2.2 = 11) : DecOk q y k p 0 11 := by
  intro e'
  obtain ⟨-, -, rfl | h⟩ := h
  · rw [shY_whole q0 q1 h0 h1] at e; exact absurd (show (0 : Int) = 11 from e) (by omega)
  · omega
theorem dec_p {q y k p wd : Int} (k0 : -100000 ≤ k) (k1 : k ≤ 100000) (q0 : 0 ≤ p) (q1 : p ≤ 3) (h : WdOk q y k p wd) (e : (shP k p wd).2.2 = 11) : DecOk q y k p 0 11 := by
  intro e'
  obtain ⟨-, -, rfl | h⟩ := h
  · rw [shP_whole k0 k1 q0 q1] at e; exact absurd (show (0 : Int) = 11 from e) (by omega)
  · omega
theorem dec_in {q y k p wd : Int} (q0 : 0 ≤ q) (q1 : q ≤ 3) (h0 : -9100 ≤ y) (h1 : y ≤ 9100) (k0 : -100000 ≤ k) (k1 : k ≤ 100000) (p0 : 0 ≤ p) (p1 : p ≤ 3) (h : WdOk q y k p wd) : DecOk q y k p (earF (shY q y wd).1 (shY q y wd).2.1 (shP k p wd).1 (shP k p wd).2.1).1 0 ∨ (earF (shY q y wd).1 (shY q y wd).2.1 (shP k p wd).1 (shP k p wd).2.1).2 = 11 := by
  obtain ⟨-, -, rfl | h⟩ := h
  · rw [shY_whole q0 q1 h0 h1, shP_whole k0 k1 p0 p1]
    rcases ear_2 (seY q y).1 (seY q y).2 (phF k p).1 (phF k p).2 with e | e
    · exact .inl fun _ => ⟨rfl, rfl⟩
    · exact .inr e
  · exact .inl fun e => by omega
theorem dec_next {q y k p wd : Int} (q0 : 0 ≤ q) (q1 : q ≤ 3) (h0 : -9100 ≤ y) (h1 : y ≤ 9100) (k0 : -100000 ≤ k) (k1 : k ≤ 100000) (p0 : 0 ≤ p) (p1 : p ≤ 3) (h : WdOk q y k p wd) (e : (earF (shY q y wd).1 (shY q y wd).2.1 (shP k p wd).1 (shP k p wd).2.1).2 = 11) : WdOk q y k p (wd.tdiv 2) := by
  obtain ⟨a, b, c⟩ := h
  have d : wd.tdiv 2 = wd / 2 := Int.tdiv_eq_ediv_of_nonneg a
  refine ⟨by omega, by omega, .inr ?_⟩
  rcases c with rfl | c
  · rw [shY_whole q0 q1 h0 h1, shP_whole k0 k1 p0 p1] at e; exact e
  · exact c
end Go.Proofs.YtlldmhnkaopjhaaDoor
