/- A worker from its birth to its end. -/
import Derived.Test.YtplmgbffaeohpaaCoWork
import Derived.Test.YtplmgbffaeohpaaCoAdd
import Derived.Test.YtplmgbffaeohpaaCoLib
namespace Go.Proofs.Ytplmgbffaeohpaa
open Go.Conc Go.Crew Go.RowKit Go.ConcR Go.ConcR.Gen Go.Conc.Lib
open Go.ConcN (WgLive)
set_option linter.unusedSimpArgs false
set_option linter.unusedVariables false

/-- The go statement's call. -/
def bornD (bw bf : Nat) : Deferred := { target := .fn (.func 25) #[.pointer (some ⟨bw, 0, none⟩), .pointer (some ⟨bf, 0, none⟩)], args := #[] }
noncomputable def botF : Frame := { (default : Frame) with fn := Try.prog.funcs.size, defers := [], mode := .panicking [goexitEntry] }
noncomputable def body25 : Code := (Try.f25).body.getD .skip

theorem born_step (bw bf : Nat) (w : World) : stepG Try.prog false (born Try.prog (bornD bw bf)) w =
    .go (G ((baseD 25).at ⟨#[.pointer (some ⟨bw, 0, none⟩), .pointer (some ⟨bf, 0, none⟩), undef, undef, undef], []⟩ [.code body25]) [botF]) w #[] := by
  simp [born, bornD, stepG, unwind, callDeferred, invoke, callFunc, Try.func25, Try.f25, seen, GStep.after, G, Frame.enter, Frame.at, baseD, botF, body25]

/-- The frame's own way out, once Done has left: it only leaves. -/
theorem quitsTail (T : Array Value) : QuitsD Try.prog 2 0 (G { (baseD 25).at ⟨T, []⟩ [] with mode := .returning } [botF]) := by
  refine QuitsD.ctl (g' := G botF []) rfl (fun w => ?_) ?_
  · simp [G, stepG, unwind, doReturn, results, Frame.at, baseD, botF, Try.func25, Try.f25, seen, GStep.after, goexitEntry]
  refine QuitsD.ctl (g' := { G botF [] with status := .finished }) rfl (fun w => ?_) ⟨rfl, rfl⟩
  simp [G, stepG, unwind, botF, goexitEntry, Frame.catches]
  rfl

theorem ev_equal_nil (P : Program) (w : World) (es : Array Event) (d : Nat) (t : TypeId) (h : P.underlying t = some (.interface #[])) : (Op.equalIn (d + 1) t .nilIface .nilIface).events P w es = es := by
  simp [Op.equalIn, run_underlying h]
theorem run_equal_nil (P : Program) (w : World) (d : Nat) (t : TypeId) (h : P.underlying t = some (.interface #[])) : (Op.equalIn (d + 1) t .nilIface .nilIface).run P w = .ok true w := by
  simp [Op.equalIn, run_underlying h]
theorem ev_neq_nil (P : Program) (w : World) (es : Array Event) (t : TypeId) (h : P.underlying t = some (.interface #[])) : (binOp .neq t .nilIface .nilIface).events P w es = es := by
  have e := ev_equal_nil P w es 9999 t h
  have e' : (binOp .neq t .nilIface .nilIface) = (do pure (.bool (!(← Op.equal t .nilIface .nilIface)))) := rfl
  have r := run_equal_nil P w 9999 t h
  rw [e']
  simp only [Sem.events_bind]
  rw [show Op.equal t .nilIface .nilIface = Op.equalIn (9999 + 1) t .nilIface .nilIface from rfl, r, e]
  rfl

theorem callX_cap {K : Crew} {ρ : Role} {f : FuncId} {cap : Array Value} {n : Nat} {x : Sx} {Post : Value → Sx → Prop} (h : CallX K ρ f cap #[] n x Post) : CallX K ρ f #[] cap n x Post := by
  obtain ⟨fn, c, h1, h2, h3, h4⟩ := h
  exact ⟨fn, c, h1, h2, h3, by simpa using h4⟩

/-- What the frame of the go statement's function holds when its work is done. -/
def Worked (K : Crew) (k n bw : Nat) (x0 : Sx) : Exit → Act → Sx → Prop
  | .normal, a, x => a.defers = [{ target := .fn (.func 26) #[.pointer (some ⟨bw, 0, none⟩)], args := #[] }] ∧ RM K k x0 x ∧ RowTo K k 33 (n * 2) (n * 2) x
  | _, _, _ => False

section
set_option maxRecDepth 100000 in
theorem go1_ok (K : Crew) (hP : K.P = Try.prog) (N : Net) (hN : N.Ok) (W : Nat) (hW : 1 ≤ W ∧ W ≤ 8) (hown : K.own = ownN K.c W N.n) (hval : K.val = valN N) (lb kb : Option Addr) (capl capk : Nat) (hS : Shared K N lb kb) :
    ∃ c, ∀ (k : Nat) (hk0 : k ≠ 0) (wi : Nat) (hwi : wi < W) (hkw : k = K.c + wi) (b0 b1 b2 b3 b4 bw bf : Nat) (x0 : Sx) (hB : WB K k N W wi b0 b1 b2 b3 b4 lb kb capl capk x0) (hR : RowTo K k 33 (N.n * 2) 0 x0)
      (hf : HasG K k x0 bf (.cells #[.func (.func 18) #[] #[.pointer (some ⟨b0, 0, none⟩), .pointer (some ⟨b1, 0, none⟩), .pointer (some ⟨b2, 0, none⟩), .pointer (some ⟨b3, 0, none⟩), .pointer (some ⟨b4, 0, none⟩)]] 1)),
      WpX K (worker k) 25 body25 c (Worked K k N.n bw x0) ⟨#[.pointer (some ⟨bw, 0, none⟩), .pointer (some ⟨bf, 0, none⟩), undef, undef, undef], []⟩ x0 := by
  obtain ⟨cw, hwork⟩ := work_ok K hP N hN W hW hown hval lb kb capl capk hS
  co_apply Exists.intro
  intro k hk0 wi hwi hkw b0 b1 b2 b3 b4 bw bf x0 hB hR hf
  simp only [body25, Try.f25, Option.getD_some]
  repeat (co_apply wpX_seq)
  co_apply wpX_region
  simp only [List.size_toArray, List.length_cons, List.length_nil, Nat.reduceAdd, Nat.zero_add, List.range, List.range.loop]
  co_applyP opsX_rd rfl (by rfl)
  · intro xv xr xi Kc hK
    rw [hP]
    go_simp
    exact hK
  · intro xv xr xi xe xhe
    rw [hP, listed_nil (by simp [go_sem, *])] at xhe
    simp at xhe
  try walk_nrm
  co_applyP opsX_defer (d := { target := .fn (.func 26) #[.pointer (some ⟨bw, 0, none⟩)], args := #[] }) rfl (by rfl)
  · intro w
    rw [hP]
    simp [execOp, resolve, Deferred.ofValue, Act.eval, go_sem]
  · intro w
    rw [hP]
    unfold listed
    simp [execOp, resolve, Deferred.ofValue, Act.eval, go_sem]
    exact seen_none _ _
  try walk_nrm
  co_apply opsX_nil
  simp only [XThen, XBlock, if_true, if_false, reduceIte, Nat.reduceEqDiff]
  co_apply wpX_region
  simp only [List.size_toArray, List.length_cons, List.length_nil, Nat.reduceAdd, Nat.zero_add, List.range, List.range.loop]
  co_applyP opsX_rd rfl (by rfl)
  · intro xv xr xi Kc hK
    rw [hP]
    have xc0 := Has.cell (ρ := worker k) hf.has xr xi (o := 0) (show _ = some _ from rfl)
    go_simp
    exact hK
  · intro xv xr xi xe xhe
    have xhm := mem_listed xhe
    rw [hP] at xhm
    have xc0 := Has.cell (ρ := worker k) hf.has xr xi (o := 0) (show _ = some _ from rfl)
    simp [go_sem, *] at xhm
    all_goals (first | subst xhm | (rcases xhm with rfl | rfl) | (rcases xhm with rfl | rfl | rfl | rfl))
    all_goals (exact EvOk.read (Has.rely hf.has xr) xi rfl)
  try walk_nrm
  have nm : ¬ Try.f18.name = "runtime.NumGoroutine" := by
    have : (Try.f18.name == "runtime.NumGoroutine") = false := by rfl
    simpa using this
  have bd : ¬ Try.f18.body = none := by rw [show Try.f18.body = some _ from rfl]; simp
  co_applyP opsX_act1 rfl (by rfl) (act1_call (Kt := fun v x' => v = .tuple #[] ∧ RM K k x0 x' ∧ RowTo K k 33 (N.n * 2) (N.n * 2) x') (fun w => ⟨?run, ?ev⟩) (callX_cap (hwork k hk0 wi hwi hkw b0 b1 b2 b3 b4 x0 hB hR)) (fun _ _ h => h))
  case run =>
    rw [hP]
    simp [execOp, resolve, invoke, callFunc, Act.eval, go_sem, nm, bd]
  case ev =>
    rw [hP]
    simp [execOp, resolve, invoke, callFunc, Act.eval, go_sem, nm, bd]
    exact seen_none _ _
  rintro v x1 ⟨rfl, hM, hRow⟩
  try walk_nrm
  co_apply opsX_nil
  exact ⟨rfl, hM, hRow⟩

set_option maxRecDepth 100000 in
set_option maxHeartbeats 4000000 in
/-- THE WORKER's LIFE. -/
theorem life_ok (K : Crew) (hP : K.P = Try.prog) (hty : K.ty = 54) (hKn : K.n ≤ 1000) (N : Net) (hN : N.Ok) (W : Nat) (hW : 1 ≤ W ∧ W ≤ 8) (hown : K.own = ownN K.c W N.n) (hval : K.val = valN N) (lb kb : Option Addr) (capl capk : Nat) (hS : Shared K N lb kb) :
    ∃ c, ∀ (k : Nat) (hk0 : k ≠ 0) (wi : Nat) (hwi : wi < W) (hkw : k = K.c + wi) (b0 b1 b2 b3 b4 bw bf : Nat) (x0 : Sx) (hB : WB K k N W wi b0 b1 b2 b3 b4 lb kb capl capk x0) (hR : RowTo K k 33 (N.n * 2) 0 x0)
      (hf : HasG K k x0 bf (.cells #[.func (.func 18) #[] #[.pointer (some ⟨b0, 0, none⟩), .pointer (some ⟨b1, 0, none⟩), .pointer (some ⟨b2, 0, none⟩), .pointer (some ⟨b3, 0, none⟩), .pointer (some ⟨b4, 0, none⟩)]] 1))
      (hw : HasG K k x0 bw (.cells #[.pointer (some ⟨K.Wg, 0, none⟩)] 59)) (hSt : Started K.toCfg x0.num k) (h7 : x0.stg k = 7) (hd : Deaf x0.t k = 0) (htag : x0.tag ≠ .pre),
      GoX K (worker k) c (born K.P (bornD bw bf)) x0 := by
  obtain ⟨cg, hgo1⟩ := go1_ok K hP N hN W hW hown hval lb kb capl capk hS
  have H : Go.Conc.Lib.WgLib K.P wgL := by rw [hP]; exact wgH
  refine ⟨((3000 + 2) + cg) + 1, ?_⟩
  intro k hk0 wi hwi hkw b0 b1 b2 b3 b4 bw bf x0 hB hR hf hw hSt h7 hd htag
  have hk0' : (k == 0) = false := by simpa using hk0
  have hbusy : Busy K k x0 := .inr ⟨hSt, h7⟩
  refine (?_ : LGo K (worker k) (((3000 + 2) + cg) + 1) _ x0) hbusy
  refine LGo.ctl (g' := G ((baseD 25).at ⟨#[.pointer (some ⟨bw, 0, none⟩), .pointer (some ⟨bf, 0, none⟩), undef, undef, undef], []⟩ [.code body25]) [botF]) rfl rfl (fun w => ?_) ?_
  · rw [show ((worker k).i == 0) = false from hk0', hP]; exact born_step bw bf w
  refine hgo1 k hk0 wi hwi hkw b0 b1 b2 b3 b4 bw bf x0 hB hR hf (baseD 25) [] [botF] (3000 + 2) rfl (by simp [baseD]) fun e a x1 q => ?_
  cases e with
  | normal =>
    obtain ⟨hdf, hM, hRow⟩ := q
    obtain ⟨T, ds⟩ := a
    obtain rfl : ds = _ := hdf
    refine LGo.ctl rfl rfl (fun w => stepG_end) ?_
    refine LGo.ctl rfl rfl (fun w => stepG_unwindC rfl (by rw [hP]; exact Try.func26) (by rfl) rfl) ?_
    simp only [Try.ntmps26, List.size_toArray, List.length_cons, List.length_nil, Nat.reduceAdd, Nat.reduceSub, Array.replicate_succ, Array.replicate_zero, List.push_toArray, List.append_toArray, List.nil_append, List.cons_append]
    have htag1 := hM.tagW htag
    have hd1 : Deaf x1.t k = 0 := hM.tr.trans hd
    intro hb1
    have rl : ∀ {A : Prop} {w₁ : World}, A → WgLive K.ty K.Wg w₁ → WgLive K.ty K.Wg w₁ := fun _ h => h
    have ne1 : x1.stg k ≠ 1 := by have := (hb1.resolve_left hk0).2; rw [show x1.stg k = 7 from this]; omega
    refine GoX.mono (n := 2900 + 40) (goW (m := 2900) (n := 40) hk0 htag1 ne1 ?_) (by omega)
    have hF : True := trivial
    u_c stepG_seq rl hF
    u_c stepG_seq rl hF
    u_reg rl hF
    refine Goes.stop (fun w₁ h₁ => ⟨rfl, ?_⟩)
    clear h₁ hF
    refine (?_ : LGo K (worker k) 2900 _ x1) hb1
    refine LGo.ctl (n := 2899) rfl rfl (fun w => stepG_recoverV rfl (by rfl) rfl rfl rfl (by rw [hP]; simp [execOp, Act.eval, go_sem]; trace_state) (by rw [hP]; unfold listed; simp [execOp, Act.eval, go_sem]; exact seen_none _ _)) ?_
    try walk_nrm
    intro hb1
    refine GoX.mono (n := 2800 + 60) (goW (m := 2800) (n := 60) hk0 htag1 ne1 ?_) (by omega)
    have hF : True := trivial
    lib_facts
    repeat (first | u_c stepG_seq rl hF | u_c stepG_skip rl hF | u_c stepG_region_end rl hF | u_cond false rl hF | u_reg rl hF | u_op rl hF)
    refine Goes.stop (fun w₁ h₁ => ⟨rfl, ?_⟩)
    clear h₁ hF
    refine (?_ : LGo K (worker k) 2800 _ x1) hb1
    refine LGo.reads (n := 2799) rfl rfl (fun xv xr xi => ⟨_, stepG_value (v := .bool false) rfl (by rfl) (by simp [baseD]) (run_eq_of fun Kc hK => ?_), fun xe xhe => ?_⟩) ?_
    · rw [hP]
      go_simp
      exact hK
    · have xhm := mem_listed xhe
      rw [hP] at xhm
      simp [go_sem, ev_neq_nil _ _ _ 20 Try.underlying20] at xhm
    try walk_nrm
    intro hb1
    refine GoX.mono (n := 2700 + 60) (goW (m := 2700) (n := 60) hk0 htag1 ne1 ?_) (by omega)
    have hF : True := trivial
    repeat (first | u_c stepG_seq rl hF | u_c stepG_skip rl hF | u_c stepG_region_end rl hF | u_cond false rl hF | u_reg rl hF | u_op rl hF)
    refine Goes.stop (fun w₁ h₁ => ⟨rfl, ?_⟩)
    clear h₁ hF
    refine (?_ : LGo K (worker k) 2700 _ x1) hb1
    have hw1 := hw.rm hM
    refine LGo.reads (n := 2699) rfl rfl (fun xv xr xi => ⟨_, stepG_value (v := .pointer (some ⟨K.Wg, 0, none⟩)) rfl (by rfl) (by simp [baseD]) (run_eq_of fun Kc hK => ?_), fun xe xhe => ?_⟩) ?_
    · rw [hP]
      have xc0 := Has.cell (ρ := worker k) hw1.has xr xi (o := 0) (show _ = some _ from rfl)
      go_simp
      exact hK
    · have xhm := mem_listed xhe
      rw [hP] at xhm
      have xc0 := Has.cell (ρ := worker k) hw1.has xr xi (o := 0) (show _ = some _ from rfl)
      simp [go_sem, *] at xhm
      all_goals (first | subst xhm | (rcases xhm with rfl | rfl))
      all_goals (exact EvOk.read (Has.rely hw1.has xr) xi rfl)
    try walk_nrm
    intro hb1
    refine GoX.mono (n := 2600 + 60) (goW (m := 2600) (n := 60) hk0 htag1 ne1 ?_) (by omega)
    have hF : True := trivial
    u_call H.f_done (nm_done wgL) doneFn rl hF
    u_reg rl hF
    u_op rl hF
    u_call H.f_add (nm_add wgL) addFn rl hF
    refine Goes.stop (fun w₁ h₁ => ⟨rfl, ?_⟩)
    clear h₁ hF
    have hst := (hb1.resolve_left hk0)
    refine GoX.mono (addNegU (L := wgL) K H hty hKn k hk0 (qt := 30) ?_ hst.1 hst.2 hd1 htag1 (fun y r o ho => ?_) ?_ ?_) (by omega)
    rotate_left 2
    · simp only [addFn, List.size_toArray, List.length_cons, List.length_nil, Nat.reduceAdd, Nat.reduceSub, Array.replicate_succ, Array.replicate_zero, List.push_toArray, List.append_toArray, List.nil_append, List.cons_append]
    · rfl
    · walk_nrm
      q_c stepG_region_end
      q_c stepG_end
      q_leave0 H.f_done
      q_c stepG_region_end
      q_c stepG_end
      refine QuitsD.leaveD rfl rfl (by rw [hP]; exact Try.func26) (by rfl) rfl ?_
      rw [hP]
      exact quits_add (quitsTail T) 22
    · obtain ⟨cs, c1, c2, c3⟩ := hRow.rely r
      rw [hown] at ho
      refine cell_of c1 (c3 o (by rw [hown]; exact ho) ?_)
      have := ho.1
      omega
  | _ => exact q.elim
end
end Go.Proofs.Ytplmgbffaeohpaa
