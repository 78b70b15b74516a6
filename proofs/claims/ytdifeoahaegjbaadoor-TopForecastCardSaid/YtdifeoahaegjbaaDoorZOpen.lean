/- How what comes in is opened: a zone by value; a slice of rules. -/
import Derived.Test.YtdifeoahaegjbaaDoorZRules
import Derived.Lib.SmallJoins
namespace Go.Proofs.YtdifeoahaegjbaaDoor
open Go.RowKit Go.ChangeShapes Go.WideShapes Go.ChangeAt Go.Deep Go.Joins
set_option linter.unusedSimpArgs false
set_option linter.unusedVariables false
set_option maxRecDepth 100000

section
variable {H : Type} {enc : TypeId × Value → H} {P : Program} {w : World} {base : Nat} {held : Bool}
/-- A slice of elements of whatever kind, by its cells. -/
theorem open_rows {α : Type} (dflt : α) (R : List Value → α → Prop) {t e : TypeId} {sz fuel : Nat} {cs : List Value} {d : DataW H × List MemPlace} (ht : P.underlying t = some (.slice e)) (hsz : P.cellsOf e = sz) (h0 : 0 < sz)
    (hF : ∀ k cs' x, DataW.trod enc P w base (fun _ => true) held k e cs' = some x → ∃ a, R cs' a) (hR : ∀ cs' a, R cs' a → 0 < cs'.length)
    (hf : DataW.trod enc P w base (fun _ => true) held fuel t cs = some d) :
    ∃ (A : Option Addr) (n cap : Nat) (l : List α), cs = [.slice A n cap] ∧ n ≤ cap ∧ cap ≤ maxLen ∧ l.length = n ∧ (∀ i, i < n → ∃ cs', R cs' (l.getD i dflt)) ∧
      (0 < n → ∃ b off, A = some ⟨b, off, none⟩ ∧ ∀ i, i < n → ∃ cs', R cs' (l.getD i dflt) ∧ ∀ j, j < sz → w.cell? ⟨b, off + i * sz + j, none⟩ = cs'[j]?) := by
  subst hsz
  rcases open_slice ht hf with ⟨hcs, _⟩ | ⟨x, l, c, m, k, D, Pl, hcs, _, hl, hm, hmm, _, hx⟩
  · exact ⟨none, 0, 0, [], hcs, by omega, by simp [maxLen], rfl, fun i hi => absurd hi (by omega), fun h => absurd h (by omega)⟩
  · simp only [if_true] at hmm
    subst hmm
    have key : ∀ i, i < l → ∃ a, ∃ cs', R cs' a ∧ ∀ j, j < P.cellsOf e → w.cell? (x.add (i * P.cellsOf e + j)) = cs'[j]? := by
      intro i hi
      obtain ⟨cs', h1, h2⟩ := hx i (by omega)
      obtain ⟨_, hcl, hat⟩ := World.cells?_some h1
      obtain ⟨a, ha⟩ := hF _ _ _ h2
      refine ⟨a, cs', ha, fun j hj => ?_⟩
      have := hat j hj
      rw [Go.Deep.add_add] at this
      exact this
    haveI : Inhabited α := ⟨dflt⟩
    obtain ⟨f, hf⟩ := choose_lt key
    have hget : ∀ i, i < l → ((List.range l).map f).getD i dflt = f i := fun i hi => by simp [List.getD, hi]
    refine ⟨some x, l, m, (List.range l).map f, hcs, hl, hm, by simp, fun i hi => ?_, fun hn => ?_⟩
    · obtain ⟨cs', h1, _⟩ := hf i hi
      exact ⟨cs', by rw [hget i hi]; exact h1⟩
    · obtain ⟨cs0, r0, h00⟩ := hf 0 hn
      have hlen := hR _ _ r0
      have h01 := h00 0 h0
      obtain ⟨b, off, spot⟩ := x
      have hspot : spot = none := by
        rw [List.getElem?_eq_getElem hlen] at h01
        simpa [Addr.add] using World.cell?_spot h01
      subst hspot
      refine ⟨b, off, rfl, fun i hi => ?_⟩
      obtain ⟨cs', r, hc⟩ := hf i hi
      refine ⟨cs', by rw [hget i hi]; exact r, fun j hj => ?_⟩
      have := hc j hj
      rw [add_plain, ← Nat.add_assoc] at this
      exact this
end

def ChR (cs' : List Value) (c : Chg) : Prop := cs' = [.int .i64 c.at', .int .i64 c.off, .string c.lab] ∧ ChRng c
def RlR (cs' : List Value) (c : Rul) : Prop := cs' = [.int .i64 c.mo, .int .i64 c.we, .int .i64 c.wd, .int .i64 c.ms, .int .i64 c.off, .string c.lab] ∧ RulRng c
theorem i64_of_wf {n : Int} (h : (Lit.int .i64 n).wf = true) : I64 n := by
  have h' : IntKind.i64.min ≤ n ∧ n ≤ IntKind.i64.max := by simpa [Lit.wf] using h
  exact ⟨h'.1, h'.2⟩
section
variable {H : Type} {enc : TypeId × Value → H} {w : World} {base : Nat} {spare : Nat → Bool} {held : Bool}
theorem open_chg (k : Nat) (cs' : List Value) (x : DataW H × List MemPlace) (h : DataW.trod enc Tryd.prog w base spare held k 36 cs' = some x) : ∃ c, ChR cs' c := by
  obtain ⟨y0, y1, y2, n, _, hl, h0, h1, h2⟩ := trod_struct3 Tryd.underlying36 h
  have hc : Tryd.prog.cellsOf 36 = 3 := by kernel_rfl
  have c1 : Tryd.prog.cellsOf 3 = 1 := by kernel_rfl
  have c2 : Tryd.prog.cellsOf 9 = 1 := by kernel_rfl
  rw [hc] at hl
  match cs', hl with
  | [u0, u1, u2], _ =>
    simp only [c1, c2] at h0 h1 h2
    obtain ⟨a, e0, _, w0⟩ := DataW.trod_int Tryd.underlying3 h0
    obtain ⟨b, e1, _, w1⟩ := DataW.trod_int Tryd.underlying3 h1
    obtain ⟨s, e2, _, w2⟩ := DataW.trod_string Tryd.underlying9 h2
    simp at e0 e1 e2
    refine ⟨⟨a, b, s⟩, by rw [e0, e1, e2], i64_of_wf w0, i64_of_wf w1, ?_⟩
    unfold maxLen at w2
    show s.size ≤ _
    omega
theorem open_rul (k : Nat) (cs' : List Value) (x : DataW H × List MemPlace) (h : DataW.trod enc Tryd.prog w base spare held k 27 cs' = some x) : ∃ c, RlR cs' c := by
  obtain ⟨xs, n, _, _, hl, hxl, hx⟩ := DataW.trod_struct Tryd.underlying27 h
  have hc : Tryd.prog.cellsOf 27 = 6 := by kernel_rfl
  have c1 : Tryd.prog.cellsOf 3 = 1 := by kernel_rfl
  have c2 : Tryd.prog.cellsOf 9 = 1 := by kernel_rfl
  rw [hc] at hl
  have hxl' : xs.length = 6 := by simpa using hxl
  match cs', hl, xs, hxl' with
  | [u0, u1, u2, u3, u4, u5], _, [x0, x1, x2, x3, x4, x5], _ =>
    have h0 : DataW.trod enc Tryd.prog w base spare held n 3 (([u0, u1, u2, u3, u4, u5].drop 0).take (Tryd.prog.cellsOf 3)) = some x0 := hx 0 _ rfl
    have h1 : DataW.trod enc Tryd.prog w base spare held n 3 (([u0, u1, u2, u3, u4, u5].drop 1).take (Tryd.prog.cellsOf 3)) = some x1 := hx 1 _ rfl
    have h2 : DataW.trod enc Tryd.prog w base spare held n 3 (([u0, u1, u2, u3, u4, u5].drop 2).take (Tryd.prog.cellsOf 3)) = some x2 := hx 2 _ rfl
    have h3 : DataW.trod enc Tryd.prog w base spare held n 3 (([u0, u1, u2, u3, u4, u5].drop 3).take (Tryd.prog.cellsOf 3)) = some x3 := hx 3 _ rfl
    have h4 : DataW.trod enc Tryd.prog w base spare held n 3 (([u0, u1, u2, u3, u4, u5].drop 4).take (Tryd.prog.cellsOf 3)) = some x4 := hx 4 _ rfl
    have h5 : DataW.trod enc Tryd.prog w base spare held n 9 (([u0, u1, u2, u3, u4, u5].drop 5).take (Tryd.prog.cellsOf 9)) = some x5 := hx 5 _ rfl
    rw [c1] at h0 h1 h2 h3 h4
    rw [c2] at h5
    obtain ⟨a0, e0, _, w0⟩ := DataW.trod_int Tryd.underlying3 h0
    obtain ⟨a1, e1, _, w1⟩ := DataW.trod_int Tryd.underlying3 h1
    obtain ⟨a2, e2, _, w2⟩ := DataW.trod_int Tryd.underlying3 h2
    obtain ⟨a3, e3, _, w3⟩ := DataW.trod_int Tryd.underlying3 h3
    obtain ⟨a4, e4, _, w4⟩ := DataW.trod_int Tryd.underlying3 h4
    obtain ⟨s, e5, _, w5⟩ := DataW.trod_string Tryd.underlying9 h5
    simp at e0 e1 e2 e3 e4 e5
    refine ⟨⟨a0, a1, a2, a3, a4, s⟩, by rw [e0, e1, e2, e3, e4, e5], i64_of_wf w0, i64_of_wf w1, i64_of_wf w2, i64_of_wf w3, i64_of_wf w4, ?_⟩
    unfold maxLen at w5
    show s.size ≤ _
    omega
end
section
variable {H : Type} {enc : TypeId × Value → H} {w : World} {base : Nat} {held : Bool}
theorem open_chs {k : Nat} {cs' : List Value} {x : DataW H × List MemPlace} (h : DataW.trod enc Tryd.prog w base (fun _ => true) held k 22 cs' = some x) : ∃ A n cap cs, cs' = [.slice A n cap] ∧ ChSl w A n cap cs := by
  obtain ⟨A, n, cap, l, e, hle, hm, hl, hr, hat⟩ := open_rows chD ChR Tryd.underlying22 (by kernel_rfl : Tryd.prog.cellsOf 36 = 3) (by decide) open_chg (fun cs' a h => by rw [h.1]; simp) h
  refine ⟨A, n, cap, l, e, hle, hm, hl, fun i hi => (hr i hi).elim fun _ h => h.2, fun hn => ?_⟩
  obtain ⟨b, off, hA, hc⟩ := hat hn
  refine ⟨b, off, hA, fun i hi => ?_⟩
  obtain ⟨cs', ⟨r, _⟩, hj⟩ := hc i hi
  exact ⟨by have := hj 0 (by omega); rw [r] at this; simpa [ch] using this, by have := hj 1 (by omega); rw [r] at this; simpa [ch] using this, by have := hj 2 (by omega); rw [r] at this; simpa [ch] using this⟩
theorem open_rules {A : Option Addr} {n cap : Nat} {d : DataW H} {p : List MemPlace} (h : DataW.Trod enc Tryd.prog w base (fun _ => true) held 25 (.slice A n cap) d p) : ∃ l, RlSl w A n cap l := by
  obtain ⟨k, h⟩ := h
  obtain ⟨A', n', cap', l, e, hle, hm, hl, hr, hat⟩ := open_rows rulD RlR Tryd.underlying25 (by kernel_rfl : Tryd.prog.cellsOf 27 = 6) (by decide) open_rul (fun cs' a h => by rw [h.1]; simp) h
  simp [Value.cells] at e
  obtain ⟨rfl, rfl, rfl⟩ := e
  refine ⟨l, hle, hm, hl, fun i hi => (hr i hi).elim fun _ h => h.2, fun hn => ?_⟩
  obtain ⟨b, off, hA, hc⟩ := hat hn
  refine ⟨b, off, hA, fun i hi => ?_⟩
  obtain ⟨cs', ⟨r, _⟩, hj⟩ := hc i hi
  exact ⟨by have := hj 0 (by omega); rw [r] at this; simpa [rl] using this, by have := hj 1 (by omega); rw [r] at this; simpa [rl] using this, by have := hj 2 (by omega); rw [r] at this; simpa [rl] using this,
    by have := hj 3 (by omega); rw [r] at this; simpa [rl] using this, by have := hj 4 (by omega); rw [r] at this; simpa [rl] using this, by have := hj 5 (by omega); rw [r] at this; simpa [rl] using this⟩
theorem open_zone {r : Reach} {b0 : Nat} {v : Value} {d : DataW H} {p : List MemPlace} (hv : Value.okWide Tryd.prog w r b0 24 v) (h : DataW.Trod enc Tryd.prog w base (fun _ => true) held 24 v d p) :
    ∃ (s : ByteArray) (f : Int) (A : Option Addr) (n cap : Nat) (cs : List Chg), v = .agg #[.string s, .int .i64 f, .slice A n cap] ∧ s.size ≤ 9223372036854775807 ∧ I64 f ∧ ChSl w A n cap cs := by
  obtain ⟨v0, v1, v2, y0, y1, y2, k, rfl, _, _, h0, h1, h2⟩ := open_agg3 Tryd.underlying24 (by kernel_rfl) (by kernel_rfl) hv h
  obtain ⟨s, e0, _, hs⟩ := DataW.trod_string Tryd.underlying9 h0
  obtain ⟨f, e1, _, wf⟩ := DataW.trod_int Tryd.underlying3 h1
  obtain ⟨A, n, cap, cs, e2, hc⟩ := open_chs h2
  simp only [List.cons.injEq, and_true] at e0 e1 e2
  subst e0 e1 e2
  exact ⟨s, f, A, n, cap, cs, rfl, by unfold maxLen at hs; omega, i64_of_wf wf, hc⟩
end
end Go.Proofs.YtdifeoahaegjbaaDoor
