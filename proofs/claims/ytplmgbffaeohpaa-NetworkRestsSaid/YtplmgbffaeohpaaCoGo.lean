/- The starter: a go statement of the group's. -/
import Derived.Test.YtplmgbffaeohpaaCoK
import Derived.Test.YtplmgbffaeohpaaCoBirth
namespace Go.Proofs.Ytplmgbffaeohpaa
open Go.Conc Go.Crew Go.RowKit Go.ConcR Go.ConcR.Gen Go.Conc.Lib
set_option linter.unusedSimpArgs false
set_option linter.unusedVariables false

def starter (Ch : Nat → Goroutine → Sx → Prop) (St : Goroutine → Sx → Prop) : Role := ⟨0, Ch, St⟩

/-- What the starter keeps. -/
structure RZ (K : Crew) (x y : Sx) : Prop where
  z : ∀ b o, Z x b o → Z y b o
  row : ∀ ety len, RowSz K ety len x → RowSz K ety len y
  size : x.w.heap.size ≤ y.w.heap.size
theorem RZ.refl (K : Crew) (x : Sx) : RZ K x x := ⟨fun _ _ h => h, fun _ _ h => h, Nat.le_refl _⟩
theorem RZ.trans {K : Crew} {x y z : Sx} (h : RZ K x y) (h' : RZ K y z) : RZ K x z := ⟨fun b o q => h'.z b o (h.z b o q), fun e l q => h'.row e l (h.row e l q), Nat.le_trans h.size h'.size⟩
theorem RZ.rt {K : Crew} {x y : Sx} (r : RT K 0 x y) : RZ K x y := ⟨fun _ _ h => h.rt r, fun _ _ h => h.rt r, r.size⟩
theorem RZ.nw {K : Crew} {x y : Sx} (r : ∀ b, Rb K 0 b x y) : RZ K x y := ⟨fun _ _ h => h.nw r, fun _ _ h => h.nw r, (r 0).size⟩
theorem RZ.born {K : Crew} {x y : Sx} (r : Born K x y) : RZ K x y := ⟨fun _ _ h => (h.born r).1, fun _ _ h => (h.born r).1, r.size⟩

section
set_option maxRecDepth 100000 in
set_option maxHeartbeats 4000000 in
theorem goStmt_ok (K : Crew) (hP : K.P = Try.prog) (hty : K.ty = 54) (hKn : K.n ≤ 1000) (Ch : Nat → Goroutine → Sx → Prop) (St : Goroutine → Sx → Prop) :
    ∃ c, ∀ (fi : Fn) (fa fc : Array Value) (x0 : Sx) (htag : x0.tag = .opn) (hd : Deaf x0.t 0 = 0) (hroom : x0.num < K.c + K.n)
      (hch : ∀ y x' bw bf, RZ K x0 y → Born K y x' → y.num = x0.num → Z y bw (.cells #[.pointer (some ⟨K.Wg, 0, none⟩)] 59) → Z y bf (.cells #[.func fi fa fc] 1) → Ch x0.num (born K.P (bornD bw bf)) x'),
      CallX K (starter Ch St) 17 #[] #[.pointer (some ⟨K.Wg, 0, none⟩), .func fi fa fc] c x0 (fun v x' => v = .tuple #[] ∧ RZ K x0 x' ∧ x'.tag = .opn ∧ Deaf x'.t 0 = 0 ∧ x'.num = x0.num + 1) := by
  have H : Go.Conc.Lib.WgLib K.P wgL := by rw [hP]; exact wgH
  co_apply Exists.intro
  intro fi fa fc x0 htag hd hroom hch
  refine ⟨_, _, by rw [hP]; exact Try.func17, by rfl, rfl, ?_⟩
  simp only [Try.ntmps17, List.size_toArray, List.length_cons, List.length_nil, Nat.reduceAdd, Nat.reduceSub, Array.replicate_succ, Array.replicate_zero, List.push_toArray, List.append_toArray, List.nil_append, List.cons_append, Array.append_empty]
  repeat (co_apply wpX_seq)
  co_apply wpX_region
  simp only [List.size_toArray, List.length_cons, List.length_nil, Nat.reduceAdd, Nat.zero_add, List.range, List.range.loop]
  co_applyP opsX_nw rfl (by rfl)
  · intro xv xr xi Kc hK
    rw [hP]
    go_simp
    exact hK
  · intro xv xr xi xe xhe
    rw [hP, listed_nil (by simp [go_sem, *])] at xhe
    simp at xhe
  intro b1 x1 r1 l1 c1 h1 s1 n1
  try walk_nrm
  co_applyP opsX_nw rfl (by rfl)
  · intro xv xr xi Kc hK
    rw [hP]
    go_simp
    exact hK
  · intro xv xr xi xe xhe
    rw [hP, listed_nil (by simp [go_sem, *])] at xhe
    simp at xhe
  intro b2 x2 r2 l2 c2 h2 s2 n2
  try walk_nrm
  co_apply opsX_nil
  simp only [XThen, XBlock, if_true, if_false, reduceIte, Nat.reduceEqDiff]
  have m1 : Mine 0 x1 b1 _ := ⟨c1, h1⟩
  have m12 := m1.nw r2
  have m2 : Mine 0 x2 b2 _ := ⟨c2, h2⟩
  repeat (co_apply wpX_seq)
  co_apply wpX_region
  simp only [List.size_toArray, List.length_cons, List.length_nil, Nat.reduceAdd, Nat.zero_add, List.range, List.range.loop]
  co_applyP opsX_rd rfl (by rfl)
  · intro xv xr xi Kc hK
    rw [hP]
    have xc0 := Has.cell (ρ := starter Ch St) m12.has xr xi (o := 0) (show _ = some _ from rfl)
    go_simp
    exact hK
  · intro xv xr xi xe xhe
    have xhm := mem_listed xhe
    rw [hP] at xhm
    have xc0 := Has.cell (ρ := starter Ch St) m12.has xr xi (o := 0) (show _ = some _ from rfl)
    simp [go_sem, *] at xhm
    all_goals (first | subst xhm | (rcases xhm with rfl | rfl) | (rcases xhm with rfl | rfl | rfl | rfl))
    all_goals (exact EvOk.read (Has.rely m12.has xr) xi rfl)
  try walk_nrm
  have tg1 : x1.tag = .opn := by have := ((r1 0).tag rfl).1; rw [htag] at this; exact this
  have tg2 : x2.tag = .opn := by have := ((r2 0).tag rfl).1; rw [tg1] at this; exact this
  have d2 : Deaf x2.t 0 = 0 := (r2 0).tr.trans ((r1 0).tr.trans hd)
  have z2 : RZ K x0 x2 := (RZ.nw r1).trans (.nw r2)
  have nn : x2.num = x0.num := ((r2 0).num0 rfl).trans ((r1 0).num0 rfl)
  co_applyP opsX_add1 (L := wgL) rfl H hty hKn rfl (by rfl) rfl (by simp [Act.eval]) tg2 d2
  intro x3 r3 t3 d3
  try walk_nrm
  co_apply opsX_nil
  simp only [XThen, XBlock, if_true, if_false, reduceIte, Nat.reduceEqDiff]
  co_apply wpX_region
  simp only [List.size_toArray, List.length_cons, List.length_nil, Nat.reduceAdd, Nat.zero_add, List.range, List.range.loop]
  co_applyP opsX_rd rfl (by rfl)
  · intro xv xr xi Kc hK
    rw [hP]
    go_simp
    exact hK
  · intro xv xr xi xe xhe
    rw [hP, listed_nil (by simp [go_sem, *])] at xhe
    simp at xhe
  try walk_nrm
  have z3 : RZ K x0 x3 := z2.trans (.rt r3)
  have nn3 : x3.num = x0.num := (r3.num0 rfl).trans nn
  co_applyP opsX_go (d := bornD b1 b2) rfl rfl (by rfl) (fun w => ?run) (fun w => ?ev) rfl t3 d3 (by rw [nn3]; exact hroom)
  case run =>
    rw [hP]
    simp [execOp, resolve, Deferred.ofValue, Act.eval, go_sem, bornD]
  case ev =>
    rw [hP]
    unfold listed
    simp [execOp, resolve, Deferred.ofValue, Act.eval, go_sem]
    exact seen_none _ _
  intro x4 r4
  refine ⟨by rw [nn3]; exact hch x3 x4 b1 b2 z3 r4 nn3 ((Z.mine m12).rt r3) ((Z.mine m2).rt r3), ?_⟩
  try walk_nrm
  co_apply opsX_nil
  refine ⟨rfl, .tuple #[], fun x₁ r hi => ?_, rfl, z3.trans (.born r4), r4.tag, r4.d0, by rw [r4.num, nn3]⟩
  rw [hP]
  constructor
  · simp [results, Try.results17, go_sem]
  · intro e he
    have hm := mem_seen he
    simp [results, Try.results17, go_sem] at hm
end
end Go.Proofs.Ytplmgbffaeohpaa
