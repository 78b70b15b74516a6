/- From a contract beside leavers to the run of the whole call; what comes in, told of memory. -/
import Derived.Test.YtplmgbffaeohpaaBhI
set_option linter.unusedSimpArgs false
set_option linter.unusedVariables false
namespace Go.Beh
open Go.Conc

theorem stepG_leaveM {P : Program} {b : Frame} {a : Act} {w : World} {fn : Func} {todo : List Item} {v : Value} (hn : b.kind = .normal) (hd : a.defers = []) (hf : P.funcs[b.fn]? = some fn)
    (hr : (results fn a.tmps).run P w = .ok v w) (hi : P.inits.idxOf? b.fn = none) :
    stepG P true (G { b.at a todo with mode := .returning } []) w = .ended (.done v) w (seen P b.fn ((results fn a.tmps).events P w #[])) := by
  simp [G, stepG, unwind, doReturn, Frame.at, hn, hd, hf, hr, GStep.after, hi]

/-- The whole call. -/
theorem main_beh {B : Base} {f : FuncId} {args : Array Value} {x : M} {R : Value → M → Prop} (h : CallB B f #[] args x R) (hi : B.P.inits.idxOf? f = none)
    (hp : ∀ v y w, R v y → Wd B y w → B.Post v w) : Beh B (G (Frame.enter B.P f args .normal) []) x := by
  obtain ⟨fn, c, hf, hname, hbody, hwp⟩ := h
  rw [enter_at _ hf hbody]
  simp only [Array.empty_append] at hwp
  have hleave : ∀ (a' : Act) (x' : M) (todo : List Item), (a'.defers = [] ∧ ∃ v, ResB B f fn a'.tmps x' v ∧ R v x') → Beh B (G { (base f).at a' todo with mode := .returning } []) x' := by
    rintro a' x' todo ⟨hd, v, hr, hR⟩
    refine .done rfl fun w hw => ?_
    obtain ⟨h1, h2⟩ := hr w hw
    exact ⟨v, _, stepG_leaveM (b := base f) rfl hd hf h1 hi, h2, hp v x' w hR hw⟩
  refine hwp (base f) [] [] rfl (by simp [base]) fun e a' x' q => ?_
  cases e with
  | normal => exact .ctl rfl (fun w => stepG_end) (hleave a' x' [] q)
  | ret => exact fun todo => hleave a' x' todo q
  | exit id => exact q.elim
  | goto l => exact q.elim
  | panic ch => exact q.elim
  | outgrown => exact q.elim
end Go.Beh
namespace Go.Proofs.Ytplmgbffaeohpaa
open Go.Conc Go.Crew Go.Beh Go.RowKit

noncomputable def baseOf (W : World) : Base := { P := Try.prog, Post := fun v W' => v = .bool true ∧ Below W.heap.size W W', T := W.tape, O := W.os, U := W.output }
noncomputable def memOf (W : World) : Go.Beh.M := ⟨W.heap, fun _ => False, fun _ h => h.elim⟩
theorem run_of {W : World} {f : FuncId} {args : Array Value} (h : CallB (baseOf W) f #[] args (memOf W) (fun v y => v = .bool true ∧ Ext (memOf W) y)) (hi : Try.prog.inits.idxOf? f = none) :
    ∃ N last o w' t', runNT Try.prog (N + 1) (solo (G (Frame.enter Try.prog f args .normal) []) W) #[] = (.ended o w', t') ∧ runN Try.prog N (solo (G (Frame.enter Try.prog f args .normal) []) W) = .next last ∧ step Try.prog last = .ended o w' ∧
      Conc.Good Try.prog (fun v W' => v = .bool true ∧ Below W.heap.size W W') last o w' t' :=
  (main_beh h hi fun v y w hR hw => ⟨hR.1, by
    refine ⟨?_, ?_, ?_, ?_, ?_⟩
    all_goals first
      | exact hw.O
      | exact hw.T
      | exact hw.U
      | (rw [hw.h]; exact hR.2.size)
      | (intro k hk; rw [hw.h]; exact hR.2.old k hk)⟩).begins (w := W) ⟨rfl, rfl, rfl, rfl⟩ rfl

/-- A slice of elements of sz integers each, in memory. -/
theorem flat_block {W : World} {sz n cap : Nat} {A : Option Addr} {zs : List Int} (h : FlatSl W sz A n cap zs) (h0 : 0 < sz) (hn : 0 < n) : ∃ b o cs e f, A = some ⟨b, o, none⟩ ∧ HasB (memOf W) b (.cells cs e f) ∧ ∀ j, j < n * sz → cs[o + j]? = some (.int .i64 (ix zs j)) := by
  obtain ⟨b, o, hA, hc⟩ := h.at' hn
  have h1 := hc 0 (Nat.mul_pos hn h0)
  unfold World.cell? at h1
  cases hb : W.heap[b]? with
  | none => simp [hb] at h1
  | some ob =>
    cases ob with
    | cells cs e f =>
      refine ⟨b, o, cs, e, f, hA, ⟨hb, id⟩, fun j hj => ?_⟩
      have h2 := hc j hj
      unfold World.cell? at h2
      simpa [hb] using h2
    | _ => simp [hb] at h1
theorem flat_span {W : World} {n cap : Nat} {A : Option Addr} {zs : List Int} (h : FlatSl W 2 A n cap zs) : SpanSl (memOf W) A n (fun i => ix zs (i * 2)) (fun i => ix zs (i * 2 + 1)) := fun hn => by
  obtain ⟨b, o, cs, e, f, hA, hH, hc⟩ := flat_block h (by omega) hn
  exact ⟨b, o, cs, e, f, hA, hH, fun i hi => hc _ (by omega), fun i hi => by rw [Nat.add_assoc]; exact hc _ (by omega)⟩
theorem flat_link {W : World} {n cap : Nat} {A : Option Addr} {zs : List Int} (h : FlatSl W 4 A n cap zs) : LinkSl (memOf W) A n (fun i => ix zs (i * 4)) (fun i => ix zs (i * 4 + 1)) (fun i => ix zs (i * 4 + 2)) (fun i => ix zs (i * 4 + 3)) := fun hn => by
  obtain ⟨b, o, cs, e, f, hA, hH, hc⟩ := flat_block h (by omega) hn
  exact ⟨b, o, cs, e, f, hA, hH, fun i hi => hc _ (by omega), fun i hi => by rw [Nat.add_assoc]; exact hc _ (by omega), fun i hi => by rw [Nat.add_assoc]; exact hc _ (by omega), fun i hi => by rw [Nat.add_assoc]; exact hc _ (by omega)⟩
theorem flat_ints {W : World} {n cap : Nat} {A : Option Addr} {zs : List Int} (h : FlatSl W 1 A n cap zs) : 0 < n → ∃ b o cs e fr, A = some ⟨b, o, none⟩ ∧ HasB (memOf W) b (.cells cs e fr) ∧ ∀ i, i < n → cs[o + i]? = some (.int .i64 (ix zs i)) := fun hn => by
  obtain ⟨b, o, cs, e, f, hA, hH, hc⟩ := flat_block h (by omega) hn
  exact ⟨b, o, cs, e, f, hA, hH, fun i hi => hc _ (by omega)⟩
theorem flat_nil {W : World} {sz n cap : Nat} {A : Option Addr} {zs : List Int} (h : FlatSl W sz A n cap zs) : A = none → n = 0 := fun hA => by
  rcases Nat.eq_zero_or_pos n with h0 | h0
  · exact h0
  · obtain ⟨b, o, h1, _⟩ := h.at' h0
    rw [hA] at h1; cases h1
end Go.Proofs.Ytplmgbffaeohpaa
