/- Comparing structs lists nothing. -/
import Derived.Test.YtplmgbffaeohpaaCoF
import Derived.Laws.StructEq
import Derived.Test.YtplmgbffaeohpaaBasic
set_option linter.unusedSimpArgs false
set_option linter.unusedVariables false
namespace Go.Beh
open Go.Conc

/-- s lists nothing, wherever. -/
def Mute {α : Type} (P : Program) (s : Sem α) : Prop := ∀ w es, s.events P w es = es

section
variable {P : Program}
theorem Mute.bind {α β : Type} {x : Sem α} {f : α → Sem β} (hx : Mute P x) (hf : ∀ a, Mute P (f a)) : Mute P (x >>= f) := by
  intro w es
  rw [Sem.events_bind, hx w es]
  cases x.run P w with
  | ok a w' => exact hf a w' es
  | halt h w' => rfl
theorem Mute.pure {α : Type} (a : α) : Mute P (Pure.pure a : Sem α) := fun _ _ => rfl
theorem Mute.ite {α : Type} {c : Prop} [Decidable c] {x y : Sem α} (hx : Mute P x) (hy : Mute P y) : Mute P (if c then x else y) := by
  split <;> assumption
theorem Mute.stuck {α : Type} (s : String) : Mute P (Go.stuck s : Sem α) := fun _ _ => rfl
theorem Mute.unsupported {α : Type} (u : Unsupported) : Mute P (Go.unsupported u : Sem α) := fun _ _ => rfl
theorem Mute.program : Mute P Go.program := fun _ _ => rfl
theorem Mute.underlying (t : TypeId) : Mute P (Go.underlying t) := fun w es => events_underlying ..
theorem Mute.sizeOf (t : TypeId) : Mute P (Go.sizeOf t) := fun w es => events_sizeOf ..
theorem Mute.isAgg (t : TypeId) : Mute P (Go.isAgg t) := fun w es => events_isAgg ..
theorem Mute.part (t : TypeId) (xs : Array Value) (o : Nat) : Mute P (Go.part t xs o) := by
  unfold Go.part
  repeat (first | exact Mute.pure _ | exact Mute.stuck _ | (refine Mute.bind (Mute.isAgg _) fun _ => ?_) | (refine Mute.bind (Mute.sizeOf _) fun _ => ?_) | (refine Mute.ite ?_ ?_) | split)

theorem mute_equalIn_int (d : Nat) (t : TypeId) (k k' : IntKind) (a b : Int) (h : P.underlying t = some (.int k')) : Mute P (Op.equalIn (d + 1) t (.int k a) (.int k b)) := by
  intro w es
  simp [Op.equalIn, run_underlying h]

theorem Mute.forIn {α β : Type} {f : α → β → Sem (ForInStep β)} : ∀ (xs : List α), (∀ x ∈ xs, ∀ b, Mute P (f x b)) → ∀ b, Mute P (forIn xs b f)
  | [], _, b => by rw [List.forIn_nil]; exact Mute.pure b
  | x :: xs, h, b => by
    rw [List.forIn_cons]
    refine Mute.bind (h x (by simp) b) fun r => ?_
    cases r with
    | done b => exact Mute.pure b
    | yield b => exact Mute.forIn xs (fun y hy => h y (by simp [hy])) b

theorem evThen_same {α : Type} {r : Result α} {es : Array Event} {f : α → World → Array Event → Array Event} (h : ∀ a w', f a w' es = es) : r.evThen es f = es := by
  cases r with
  | ok a w' => exact h a w'
  | halt _ _ => rfl
theorem mute_struct (d : Nat) (t : TypeId) (xs ys : Array Value) (fs : List Field) (ht : P.underlying t = some (.struct (P.fieldsOf t))) (hp : P.stoodInHeld t = false) (hfs : (P.fieldsOf t).toList = fs)
    (hf : ∀ f ∈ fs, ∀ w, ∃ x y, (Go.part f.type xs f.offset).run P w = .ok x w ∧ (Go.part f.type ys f.offset).run P w = .ok y w ∧ Mute P (Op.equalIn d f.type x y)) : Mute P (Op.equalIn (d + 1) t (.agg xs) (.agg ys)) := by
  intro w es
  simp only [Op.equalIn, Sem.events_bind, run_underlying ht, events_underlying, Result.evThen_ok, run_program, hp, Bool.false_eq_true, if_false, events_program, Sem.run_bind, Result.andThen_ok]
  rw [← Array.forIn_toList, hfs]
  rw [Mute.forIn (P := P) fs ?_ _ w es]
  · exact evThen_same fun a w' => by split <;> rfl
  · intro f hm b w es
    obtain ⟨x, y, h1, h2, h3⟩ := hf f hm w
    simp only [Sem.events_ite, Sem.events_bind, Mute.part _ _ _ w es, h1, h2, h3 w es, Result.evThen_ok, Sem.events_pure]
    split
    · exact evThen_same fun a w' => by split <;> rfl
    · rfl
theorem mute_eqGuard (op : BinOp) (t : TypeId) (x y : Operand) (xs ys : Array Value) (hm : P.eqGuardType P.depth t = false) : Mute P (eqGuard op t x y (.agg xs) (.agg ys)) := by
  intro w es
  cases op <;> simp [eqGuard, run_program, hm]
theorem mute_neq (t : TypeId) (xs ys : Array Value) (h : Mute P (Op.equalIn 10000 t (.agg xs) (.agg ys))) : Mute P (binOp .neq t (.agg xs) (.agg ys)) := by
  intro w es
  have h' := h w es
  simp only [binOp]
  simp [Op.equal, Op.maxDepth, h']
  try exact evThen_same fun a w' => rfl
theorem mute_eql (t : TypeId) (xs ys : Array Value) (h : Mute P (Op.equalIn 10000 t (.agg xs) (.agg ys))) : Mute P (binOp .eql t (.agg xs) (.agg ys)) := by
  intro w es
  have h' := h w es
  simp only [binOp]
  simp [Op.equal, Op.maxDepth, h']
  try exact evThen_same fun a w' => rfl
end
end Go.Beh
namespace Go.Proofs.Ytplmgbffaeohpaa
open Go.Beh
/-- Two intervals compared. -/
theorem mute_span (a b c d : Int) : Mute Try.prog (Op.equalIn 10000 33 (.agg #[.int .i64 a, .int .i64 b]) (.agg #[.int .i64 c, .int .i64 d])) := by
  have hu : Try.prog.underlying 33 = some (.struct (Try.prog.fieldsOf 33)) := by kernel_rfl
  have hs : Try.prog.stoodInHeld 33 = false := by kernel_rfl
  have hall : ((Try.prog.fieldsOf 33).toList.all fun f => f.type == 3 && (f.offset == 0 || f.offset == 1)) = true := by kernel_rfl
  have hi : ∀ x y : Int, Mute Try.prog (Op.equalIn 9999 3 (.int .i64 x) (.int .i64 y)) := fun x y => mute_equalIn_int 9998 3 .i64 .i64 x y (by kernel_rfl)
  refine mute_struct 9999 _ _ _ _ hu hs rfl fun f hf w => ?_
  have hm := List.all_eq_true.1 hall f hf
  simp only [Bool.and_eq_true, Bool.or_eq_true, beq_iff_eq] at hm
  obtain ⟨ht, ho⟩ := hm
  rw [ht]
  rcases ho with ho | ho
  · rw [ho]
    exact ⟨.int .i64 a, .int .i64 c, by simp [go_sem], by simp [go_sem], hi _ _⟩
  · rw [ho]
    exact ⟨.int .i64 b, .int .i64 d, by simp [go_sem], by simp [go_sem], hi _ _⟩
theorem mute_neqSpan (a b c d : Int) : Mute Try.prog (binOp .neq 33 (.agg #[.int .i64 a, .int .i64 b]) (.agg #[.int .i64 c, .int .i64 d])) := mute_neq _ _ _ (mute_span a b c d)
theorem mute_eqlSpan (a b c d : Int) : Mute Try.prog (binOp .eql 33 (.agg #[.int .i64 a, .int .i64 b]) (.agg #[.int .i64 c, .int .i64 d])) := mute_eql _ _ _ (mute_span a b c d)
theorem mute_guardSpan (op : BinOp) (x y : Operand) (xs ys : Array Value) : Mute Try.prog (eqGuard op 33 x y (.agg xs) (.agg ys)) := mute_eqGuard _ _ _ _ _ _ (by kernel_rfl)
end Go.Proofs.Ytplmgbffaeohpaa
