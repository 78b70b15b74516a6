/- (*WaitGroup).Add in a crew (printed by tools/add_neg.py). -/
import Derived.Test.YtplmgbffaeohpaaCoI
set_option linter.unusedSimpArgs false
set_option linter.unusedVariables false
namespace Go.Crew
open Go.Conc Go.ConcR Go.RowKit Go.Conc.Lib Go.ConcR.Gen
open Go.ConcN (WgLive)

theorem goW {K : Crew} {k m : Nat} {x : Sx} (hk0 : k ≠ 0) (htag : x.tag ≠ .pre) (hl : x.stg k ≠ 1) {n : Nat} {g : Goroutine} (h : Goes K.P false (fun _ w₁ => WgLive K.ty K.Wg w₁) Go.ConcR.DC0 (fun g _ => g.status = .running ∧ GoX K (worker k) m g x) n g default) : GoX K (worker k) (m + n) g x :=
  goX_of_goes (ρ := worker k) htag (.inr hl) (w := default) (by rw [show ((worker k).i == 0) = false from (by simpa [worker] using hk0)]; exact h)

theorem quits_add {P : Program} {n d : Nat} {g : Goroutine} (h : QuitsD P n d g) : ∀ r, QuitsD P (n + r) d g
  | 0 => h
  | r + 1 => QuitsD.more1 (quits_add h r)

section
variable {L : WgLink}
set_option maxRecDepth 100000 in
set_option maxHeartbeats 8000000 in
/-- (*WaitGroup).Add(-1) by a worker that has done its work: from its entry on. 'hT': behind it it only leaves. -/
theorem addNeg (K : Crew) (H : WgLib K.P L) (hty : K.ty = L.tWg) (hKn : K.n ≤ 1000) (k : Nat) (hk0 : k ≠ 0) {b₀ : Frame} {a₀ : Act} {ops₀ : Array Oper} {i₀ : Nat} {rest₀ : List Nat} {k₀ : List Item} {cs : List Frame} {qt : Nat}
    (hT : QuitsD K.P qt 0 (G (b₀.at (a₀.put ((ops₀[i₀]?).bind (·.dst)) (.tuple #[])) (.inRegion ops₀ rest₀ :: k₀)) cs)) :
    ∃ c, c = qt + 1000 ∧ ∀ (x : Sx) (hB : Started K.toCfg x.num k) (h7 : x.stg k = 7) (hd : Deaf x.t k = 0) (htag : x.tag ≠ .pre) (hrow : ∀ y, R K k x y → ∀ o, K.own k o → y.w.cell? ⟨K.C, o, none⟩ = some (K.val o)) (T : Array Value) (hTm : T = #[.pointer (some ⟨K.Wg, 0, none⟩), .int .i64 (-1)] ++ Array.replicate (((addFn L).ntmps) - 2) undef),
      GoX K (worker k) c (G ((base L.add).at ⟨T, []⟩ [.code (((addFn L).body).getD .skip)]) (b₀.at a₀ (.inRegion ops₀ (i₀ :: rest₀) :: k₀) :: cs)) x := by
  have hk0' : (k == 0) = false := by simpa using hk0
  refine ⟨qt + 1000, rfl, ?_⟩
  intro x hB h7 hd htag hrow T hTm
  lib_facts
  have rl : ∀ {A : Prop} {w₁ : World}, A → WgLive K.ty K.Wg w₁ → WgLive L.tWg K.Wg w₁ := fun _ h => hty ▸ h
  simp only [addFn, List.size_toArray, List.length_cons, List.length_nil, Nat.reduceAdd, Nat.reduceSub, Array.replicate_succ, Array.replicate_zero, List.push_toArray, List.append_toArray, List.nil_append, List.cons_append] at hTm
  subst hTm
  simp only [addFn, Option.getD_some]
  refine GoX.mono (n := (qt + 900) + 40) (goW (m := qt + 900) (n := 40) hk0 htag (show x.stg k ≠ 1 by omega) ?_) (by omega)
  have hF : True := trivial
  u_c stepG_seq rl hF
  u_cond true rl hF
  u_c stepG_seq rl hF
  u_c stepG_seq rl hF
  u_reg rl hF
  u_op rl hF
  u_op rl hF
  u_c stepG_region_end rl hF
  u_cond true rl hF
  u_reg rl hF
  u_op rl hF
  u_in rl hF
  refine goes_oper_k rfl rfl (by k_ne) (fun Kx hKx => ?_)
  have hcv := run_convert_to_unsafe (P := K.P) H.underlying_tWgP H.underlying_tUP H.room_tWg (Go.ConcN.Gen.WgLive.cell0 hF).choose_spec
  have hce := fun es => events_convert_to_unsafe (P := K.P) H.underlying_tWgP H.underlying_tUP H.room_tWg (Go.ConcN.Gen.WgLive.cell0 hF).choose_spec es
  go_simp
  refine hKx _ _ ⟨?_, ?_⟩
  · u_none
    intro ex hex
    have hmx := mem_listed hex
    simp [go_sem, hce] at hmx
  clear hKx Kx hcv hce
  refine Goes.stop (fun w₁ h₁ => ⟨rfl, ?_⟩)
  clear h₁ hF
  refine GoX.release hk0 rfl rfl hB h7 hd hrow (fun w => stepG_markAt .releaseMerge (by simp) rfl rfl (by k_ne) rfl H.f_relMerge (x_relMerge_n L) (x_relMerge_b L) (x_relMerge_x L) (x_relMerge_f L) (by simp [Act.eval, stA])) ?_
  clear hrow htag hd h7 hB x
  intro x h6 hd hB htag
  walk_nrm
  refine GoX.mono (n := (qt + 880) + 15) (goW (m := qt + 880) (n := 15) hk0 htag (show x.stg k ≠ 1 by omega) ?_) (by omega)
  have hF : True := trivial
  u_c stepG_region_end rl hF
  u_c stepG_seq rl hF
  u_reg rl hF
  refine Goes.stop (fun w₁ h₁ => ⟨rfl, ?_⟩)
  clear h₁ hF
  refine GoX.mark (ρ := worker k) (.inl rfl) rfl rfl (.inr ⟨hB, by show x.stg k ≠ 1; omega⟩) htag (fun w => by rw [show ((worker k).i == 0) = false from hk0']; exact stepG_mark0 .disable (by simp) rfl rfl (by k_ne) rfl H.f_disable (x_disable_n L) (x_disable_b L) (x_disable_x L) (x_disable_f L)) ?_
  intro y hrt hs6 hdy h00 htagy
  replace h6 : y.stg k = 6 := hs6.trans h6
  replace hd : Deaf y.t k = 1 := by rw [show Deaf y.t k = _ from hdy, show Deaf x.t (worker k).i = 0 from hd]; rfl
  replace hB : Started K.toCfg y.num k := ⟨hB.1, Nat.lt_of_lt_of_le hB.2 hrt.num⟩
  clear h00 hdy hs6 hrt htag x
  walk_nrm
  refine GoX.mono (n := (qt + 800) + 60) (goW (m := qt + 800) (n := 60) hk0 htagy (show y.stg k ≠ 1 by omega) ?_) (by omega)
  have hF : True := trivial
  u_c stepG_region_end rl hF
  u_reg rl hF
  u_defer rl hF
  u_c stepG_region_end rl hF
  u_c stepG_seq rl hF
  u_reg rl hF
  u_op rl hF
  u_c stepG_region_end rl hF
  u_c stepG_seq rl hF
  u_c stepG_seq rl hF
  u_reg rl hF
  u_bub rl hF
  u_c stepG_region_end rl hF
  u_cond false rl hF
  u_c stepG_skip rl hF
  u_c stepG_seq rl hF
  u_reg rl hF
  u_op rl hF
  u_op rl hF
  u_op rl hF
  u_op rl hF
  u_op rl hF
  u_op rl hF
  u_call H.f_uAdd (nm_uAdd L) uAddFn rl hF
  u_c stepG_seq rl hF
  u_reg rl hF
  u_op rl hF
  u_c stepG_region_end rl hF
  u_c stepG_seq rl hF
  u_reg rl hF
  u_op rl hF
  u_op rl hF
  u_op rl hF
  u_op rl hF
  refine Goes.stop (fun w₁ h₁ => ⟨rfl, ?_⟩)
  clear h₁ hF
  refine GoX.subtract hk0 hKn rfl hB h6 hd ?_
  clear h6 hd hB htagy y
  intro w₁ v wt hwt hv hw
  rw [hty] at hw
  have e0 : IntKind.u64.wrap (KK + 18446744069414584320) = 0 := by decide
  have e1 : IntKind.u64.wrap (KK + 1 + 18446744069414584320) = 1 := by decide
  rcases Nat.eq_zero_or_pos v with rfl | hvp <;> (obtain rfl | rfl : wt = 0 ∨ wt = 1 := by omega)
  · replace hw : WgAt L.tWg K.Wg w₁ KK 0 := by simpa using hw
    have z : ((0 : Nat) : Int) * KK + ((0 : Nat) : Int) = 0 := by simp
    rw [z]
    refine ⟨_, (stepG_add_atomic rfl rfl (by k_ne) rfl H.f_addU64 (x_addU64_n L) (x_addU64_b L) (x_addU64_x L) .u64 (x_addU64_f L) rfl rfl hw.cellSt (hw.thaw 0)).trans (by rw [e0]; rfl), rfl, fun hl => absurd hl.2 (by decide), fun _ => ?_⟩
    clear hw

    walk_nrm
    q_vn (.int .u64 0)
    q_c stepG_region_end
    q_c stepG_ret'
    q_leave1 H.f_uAdd
    q_vn (.int .u64 0)
    q_c stepG_region_end
    q_c stepG_seq
    q_c stepG_seq
    q_reg
    q_vn (.int .u64 0)
    q_vn (.int .u64 0)
    q_vn (.bool false)
    q_vn (.bool false)
    q_skip
    q_skip
    q_vn (.bool false)
    q_c stepG_region_end
    q_cond false
    q_c stepG_skip
    q_c stepG_seq
    q_reg
    q_vn (.int .u64 0)
    q_vn (.int .u64 0)
    q_vn (.int .i32 0)
    q_vn (.int .i32 0)
    q_c stepG_region_end
    q_c stepG_seq
    q_reg
    q_vn (.int .u64 0)
    q_vn (.int .u64 0)
    q_vn (.int .u32 0)
    q_vn (.int .u32 0)
    q_c stepG_region_end
    q_c stepG_seq
    q_c stepG_seq
    q_reg
    q_vn (.bool true)
    q_vn (.int .i64 (-1))
    q_vn (.bool false)
    q_vn (.bool false)
    q_vn (.bool false)
    q_skip
    q_skip
    q_skip
    q_skip
    q_vn (.bool false)
    q_c stepG_region_end
    q_cond false
    q_c stepG_skip
    q_c stepG_seq
    q_c stepG_seq
    q_reg
    q_vn (.int .i32 0)
    q_vn (.bool false)
    q_c stepG_region_end
    q_cond false
    q_c stepG_skip
    q_c stepG_seq
    q_c stepG_seq
    q_reg
    q_vn (.int .u32 0)
    q_vn (.bool false)
    q_vn (.bool false)
    q_skip
    q_skip
    q_vn (.bool false)
    q_vn (.bool false)
    q_skip
    q_skip
    q_skip
    q_skip
    q_vn (.bool false)
    q_c stepG_region_end
    q_cond false
    q_c stepG_skip
    q_c stepG_seq
    q_c stepG_seq
    q_reg
    q_vn (.int .i32 0)
    q_vn (.bool false)
    q_vn (.bool false)
    q_vn (.int .u32 0)
    q_vn (.bool true)
    q_vn (.bool true)
    q_c stepG_region_end
    q_cond true
    q_c stepG_ret'
    q_enable
    q_leave0 H.f_add
    exact quits_add hT _
  · replace hw : WgAt L.tWg K.Wg w₁ (KK + 1) 0 := by simpa using hw
    have z : ((0 : Nat) : Int) * KK + ((1 : Nat) : Int) = 1 := by simp
    rw [z]
    refine ⟨_, (stepG_add_atomic rfl rfl (by k_ne) rfl H.f_addU64 (x_addU64_n L) (x_addU64_b L) (x_addU64_x L) .u64 (x_addU64_f L) rfl rfl hw.cellSt (hw.thaw 0)).trans (by rw [e1]; rfl), rfl, fun _ => ?_, fun hl => absurd ⟨rfl, rfl⟩ hl⟩
    clear hw w₁
    intro x h4 hd hB htag
    walk_nrm
    refine GoX.mono (n := (qt + 600) + 150) (goW (m := qt + 600) (n := 150) hk0 htag (show x.stg k ≠ 1 by omega) ?_) (by omega)
    have hF : True := trivial
    u_op rl hF
    u_c stepG_region_end rl hF
    u_c stepG_ret' rl hF
    u_leave1 H.f_uAdd rl hF
    u_op rl hF
    u_c stepG_region_end rl hF
    u_c stepG_seq rl hF
    u_c stepG_seq rl hF
    u_reg rl hF
    u_op rl hF
    u_op rl hF
    u_op rl hF
    u_op rl hF
    u_skip rl hF
    u_skip rl hF
    u_op rl hF
    u_c stepG_region_end rl hF
    u_cond false rl hF
    u_c stepG_skip rl hF
    u_c stepG_seq rl hF
    u_reg rl hF
    u_op rl hF
    u_op rl hF
    u_op rl hF
    u_op rl hF
    u_c stepG_region_end rl hF
    u_c stepG_seq rl hF
    u_reg rl hF
    u_op rl hF
    u_op rl hF
    u_op rl hF
    u_op rl hF
    u_c stepG_region_end rl hF
    u_c stepG_seq rl hF
    u_c stepG_seq rl hF
    u_reg rl hF
    u_op rl hF
    u_op rl hF
    u_op rl hF
    u_op rl hF
    u_op rl hF
    u_skip rl hF
    u_skip rl hF
    u_skip rl hF
    u_skip rl hF
    u_op rl hF
    u_c stepG_region_end rl hF
    u_cond false rl hF
    u_c stepG_skip rl hF
    u_c stepG_seq rl hF
    u_c stepG_seq rl hF
    u_reg rl hF
    u_op rl hF
    u_op rl hF
    u_c stepG_region_end rl hF
    u_cond false rl hF
    u_c stepG_skip rl hF
    u_c stepG_seq rl hF
    u_c stepG_seq rl hF
    u_reg rl hF
    u_op rl hF
    u_op rl hF
    u_op rl hF
    u_op rl hF
    u_op rl hF
    u_op rl hF
    u_op rl hF
    u_skip rl hF
    u_skip rl hF
    u_skip rl hF
    u_skip rl hF
    u_op rl hF
    u_c stepG_region_end rl hF
    u_cond false rl hF
    u_c stepG_skip rl hF
    u_c stepG_seq rl hF
    u_c stepG_seq rl hF
    u_reg rl hF
    u_op rl hF
    u_op rl hF
    u_op rl hF
    u_op rl hF
    u_op rl hF
    u_op rl hF
    u_c stepG_region_end rl hF
    u_cond false rl hF
    u_c stepG_skip rl hF
    u_c stepG_seq rl hF
    u_c stepG_seq rl hF
    u_reg rl hF
    u_op rl hF
    u_op rl hF
    u_op rl hF
    u_call H.f_uLoad (nm_uLoad L) uLoadFn rl hF
    u_c stepG_seq rl hF
    u_reg rl hF
    u_op rl hF
    u_c stepG_region_end rl hF
    u_c stepG_seq rl hF
    u_reg rl hF
    u_op rl hF
    u_op rl hF
    u_op rl hF
    refine Goes.stop (fun w₂ h₂ => ⟨rfl, ?_⟩)
    clear h₂ hF
    refine GoX.look4 hk0 rfl hB h4 hd fun w₂ hw => ?_
    rw [hty] at hw
    refine ⟨_, stepG_load_atomic rfl rfl (by k_ne) rfl H.f_loadU64 (x_loadU64_n L) (x_loadU64_b L) (x_loadU64_x L) .u64 (x_loadU64_f L) rfl hw.cellSt, rfl, ?_⟩
    clear hw w₂ h4 hd hB htag x
    intro x h4 hd hB htag
    walk_nrm
    refine GoX.mono (n := (qt + 540) + 50) (goW (m := qt + 540) (n := 50) hk0 htag (show x.stg k ≠ 1 by omega) ?_) (by omega)
    have hF : True := trivial
    u_op rl hF
    u_c stepG_region_end rl hF
    u_c stepG_ret' rl hF
    u_leave1 H.f_uLoad rl hF
    u_op rl hF
    u_op rl hF
    u_c stepG_region_end rl hF
    u_cond false rl hF
    u_c stepG_skip rl hF
    u_c stepG_seq rl hF
    u_reg rl hF
    u_op rl hF
    u_op rl hF
    u_op rl hF
    u_call H.f_uStore (nm_uStore L) uStoreFn rl hF
    u_reg rl hF
    u_op rl hF
    u_op rl hF
    u_op rl hF
    u_op rl hF
    refine Goes.stop (fun w₂ h₂ => ⟨rfl, ?_⟩)
    clear h₂ hF
    refine GoX.store0 hk0 rfl hB h4 hd fun w₂ hw => ?_
    rw [hty] at hw
    refine ⟨_, stepG_store_atomic rfl rfl (by k_ne) rfl H.f_storeU64 (x_storeU64_n L) (x_storeU64_b L) (x_storeU64_x L) (x_storeU64_f L) rfl rfl hw.cellSt (hw.thaw 0), rfl, ?_⟩
    clear hw w₂ h4 hd hB htag x
    intro x h2 hd hB htag
    walk_nrm
    refine GoX.mono (n := (qt + 480) + 50) (goW (m := qt + 480) (n := 50) hk0 htag (show x.stg k ≠ 1 by omega) ?_) (by omega)
    have hF : True := trivial
    u_c stepG_region_end rl hF
    u_c stepG_end rl hF
    u_leave0 H.f_uStore rl hF
    u_c stepG_region_end rl hF
    u_c stepG_seq rl hF
    u_c stepG_seq rl hF
    u_reg rl hF
    u_op rl hF
    u_c stepG_region_end rl hF
    u_cond false rl hF
    u_c stepG_skip rl hF
    u_c stepG_block rl hF
    u_c stepG_loop rl hF
    u_c stepG_seq rl hF
    u_c stepG_seq rl hF
    u_reg rl hF
    u_op rl hF
    u_op rl hF
    u_c stepG_region_end rl hF
    u_cond true rl hF
    u_c stepG_skip rl hF
    u_c stepG_seq rl hF
    u_c stepG_block rl hF
    u_reg rl hF
    u_op rl hF
    u_op rl hF
    u_op rl hF
    refine Goes.stop (fun w₂ h₂ => ⟨rfl, ?_⟩)
    clear h₂ hF
    refine GoX.raise hk0 rfl hB h2 hd (mayWake_entry rfl rfl H.f_semrelease (x_semrelease_b L)) fun w₂ hw => ?_
    rw [hty] at hw
    refine ⟨_, (stepG_semrelease rfl rfl (by k_ne) rfl H.f_semrelease (x_semrelease_n L) (x_semrelease_b L) (x_semrelease_x L) (x_semrelease_f L) (by simp [Act.eval, smA]) hw.cellSm (hw.thaw 1)).trans (by rfl), rfl, ?_⟩
    clear hw w₂ h2 hd hB htag x
    walk_nrm
    q_c stepG_region_end
    q_c stepG_inBlock
    q_reg
    q_vn (.int .u32 1)
    q_vn (.int .u32 0)
    q_vn (.int .u32 0)
    q_c stepG_region_end
    q_c stepG_inLoop
    q_c stepG_seq
    q_c stepG_seq
    q_reg
    q_vn (.int .u32 0)
    q_vn (.bool false)
    q_c stepG_region_end
    q_cond false
    q_exit
    q_c stepG_end
    q_enable
    q_leave0 H.f_add
    exact quits_add hT _
  · replace hw : WgAt L.tWg K.Wg w₁ (((v : Nat) + 1) * KK + 0) 0 := by simpa using hw
    have z : ((v : Nat) : Int) * KK + ((0 : Nat) : Int) = (v : Int) * KK + 0 := by simp
    rw [z]
    have hv0 : 0 < v := by omega
    have eS : IntKind.u64.wrap (((v : Nat) + 1) * KK + 0 + 18446744069414584320) = (v : Int) * KK + 0 := by rw [IntKind.wrap_u64]; simp only [KK]; omega
    obtain ⟨S, hS⟩ : ∃ S : Int, S = (v : Int) * KK + 0 := ⟨_, rfl⟩
    rw [← hS] at eS ⊢
    have a1 : S / 4294967296 = (v : Int) := by rw [hS]; simp only [KK]; omega
    have a2 : 0 ≤ S ∧ S < 9223372036854775808 := by rw [hS]; simp only [KK]; omega
    have b1 : bits .and .u64 S 2147483648 = 0 := by rw [hS]; have := Go.ConcN.st_flag v 0 (by omega) (by omega); simpa [KK] using this
    have b2 : bits .and .u64 S 2147483647 = 0 := by rw [hS]; have := Go.ConcN.st_waiters v 0 (by omega) (by omega); simpa [KK] using this
    clear hS z
    refine ⟨_, (stepG_add_atomic rfl rfl (by k_ne) rfl H.f_addU64 (x_addU64_n L) (x_addU64_b L) (x_addU64_x L) .u64 (x_addU64_f L) rfl rfl hw.cellSt (hw.thaw 0)).trans (by rw [eS]; rfl), rfl, fun hl => absurd hl.1 (by omega), fun _ => ?_⟩
    clear hw
    walk_nrm
    q_vn (.int .u64 S)
    q_c stepG_region_end
    q_c stepG_ret'
    q_leave1 H.f_uAdd
    q_vn (.int .u64 S)
    q_c stepG_region_end
    q_c stepG_seq
    q_c stepG_seq
    q_reg
    q_vn (.int .u64 S)
    q_vn (.int .u64 0)
    q_vn (.bool false)
    q_vn (.bool false)
    q_skip
    q_skip
    q_vn (.bool false)
    q_c stepG_region_end
    q_cond false
    q_c stepG_skip
    q_c stepG_seq
    q_reg
    q_vn (.int .u64 S)
    q_vn (.int .u64 (v : Int))
    q_vn (.int .i32 (v : Int))
    q_vn (.int .i32 (v : Int))
    q_c stepG_region_end
    q_c stepG_seq
    q_reg
    q_vn (.int .u64 S)
    q_vn (.int .u64 0)
    q_vn (.int .u32 0)
    q_vn (.int .u32 0)
    q_c stepG_region_end
    q_c stepG_seq
    q_c stepG_seq
    q_reg
    q_vn (.bool true)
    q_vn (.int .i64 (-1))
    q_vn (.bool false)
    q_vn (.bool false)
    q_vn (.bool false)
    q_skip
    q_skip
    q_skip
    q_skip
    q_vn (.bool false)
    q_c stepG_region_end
    q_cond false
    q_c stepG_skip
    q_c stepG_seq
    q_c stepG_seq
    q_reg
    q_vn (.int .i32 (v : Int))
    q_vn (.bool false)
    q_c stepG_region_end
    q_cond false
    q_c stepG_skip
    q_c stepG_seq
    q_c stepG_seq
    q_reg
    q_vn (.int .u32 0)
    q_vn (.bool false)
    q_vn (.bool false)
    q_skip
    q_skip
    q_vn (.bool false)
    q_vn (.bool false)
    q_skip
    q_skip
    q_skip
    q_skip
    q_vn (.bool false)
    q_c stepG_region_end
    q_cond false
    q_c stepG_skip
    q_c stepG_seq
    q_c stepG_seq
    q_reg
    q_vn (.int .i32 (v : Int))
    q_vn (.bool true)
    q_vn (.bool true)
    q_skip
    q_skip
    q_vn (.bool true)
    q_c stepG_region_end
    q_cond true
    q_c stepG_ret'
    q_enable
    q_leave0 H.f_add
    exact quits_add hT _
  · replace hw : WgAt L.tWg K.Wg w₁ (((v : Nat) + 1) * KK + 1) 0 := by simpa using hw
    have z : ((v : Nat) : Int) * KK + ((1 : Nat) : Int) = (v : Int) * KK + 1 := by simp
    rw [z]
    have hv0 : 0 < v := by omega
    have eS : IntKind.u64.wrap (((v : Nat) + 1) * KK + 1 + 18446744069414584320) = (v : Int) * KK + 1 := by rw [IntKind.wrap_u64]; simp only [KK]; omega
    obtain ⟨S, hS⟩ : ∃ S : Int, S = (v : Int) * KK + 1 := ⟨_, rfl⟩
    rw [← hS] at eS ⊢
    have a1 : S / 4294967296 = (v : Int) := by rw [hS]; simp only [KK]; omega
    have a2 : 0 ≤ S ∧ S < 9223372036854775808 := by rw [hS]; simp only [KK]; omega
    have b1 : bits .and .u64 S 2147483648 = 0 := by rw [hS]; have := Go.ConcN.st_flag v 1 (by omega) (by omega); simpa [KK] using this
    have b2 : bits .and .u64 S 2147483647 = 1 := by rw [hS]; have := Go.ConcN.st_waiters v 1 (by omega) (by omega); simpa [KK] using this
    clear hS z
    refine ⟨_, (stepG_add_atomic rfl rfl (by k_ne) rfl H.f_addU64 (x_addU64_n L) (x_addU64_b L) (x_addU64_x L) .u64 (x_addU64_f L) rfl rfl hw.cellSt (hw.thaw 0)).trans (by rw [eS]; rfl), rfl, fun hl => absurd hl.1 (by omega), fun _ => ?_⟩
    clear hw
    walk_nrm
    q_vn (.int .u64 S)
    q_c stepG_region_end
    q_c stepG_ret'
    q_leave1 H.f_uAdd
    q_vn (.int .u64 S)
    q_c stepG_region_end
    q_c stepG_seq
    q_c stepG_seq
    q_reg
    q_vn (.int .u64 S)
    q_vn (.int .u64 0)
    q_vn (.bool false)
    q_vn (.bool false)
    q_skip
    q_skip
    q_vn (.bool false)
    q_c stepG_region_end
    q_cond false
    q_c stepG_skip
    q_c stepG_seq
    q_reg
    q_vn (.int .u64 S)
    q_vn (.int .u64 (v : Int))
    q_vn (.int .i32 (v : Int))
    q_vn (.int .i32 (v : Int))
    q_c stepG_region_end
    q_c stepG_seq
    q_reg
    q_vn (.int .u64 S)
    q_vn (.int .u64 1)
    q_vn (.int .u32 1)
    q_vn (.int .u32 1)
    q_c stepG_region_end
    q_c stepG_seq
    q_c stepG_seq
    q_reg
    q_vn (.bool true)
    q_vn (.int .i64 (-1))
    q_vn (.bool false)
    q_vn (.bool false)
    q_vn (.bool false)
    q_skip
    q_skip
    q_skip
    q_skip
    q_vn (.bool false)
    q_c stepG_region_end
    q_cond false
    q_c stepG_skip
    q_c stepG_seq
    q_c stepG_seq
    q_reg
    q_vn (.int .i32 (v : Int))
    q_vn (.bool false)
    q_c stepG_region_end
    q_cond false
    q_c stepG_skip
    q_c stepG_seq
    q_c stepG_seq
    q_reg
    q_vn (.int .u32 1)
    q_vn (.bool true)
    q_vn (.bool true)
    q_vn (.int .i64 (-1))
    q_vn (.bool false)
    q_vn (.bool false)
    q_vn (.bool false)
    q_skip
    q_skip
    q_skip
    q_skip
    q_vn (.bool false)
    q_c stepG_region_end
    q_cond false
    q_c stepG_skip
    q_c stepG_seq
    q_c stepG_seq
    q_reg
    q_vn (.int .i32 (v : Int))
    q_vn (.bool true)
    q_vn (.bool true)
    q_skip
    q_skip
    q_vn (.bool true)
    q_c stepG_region_end
    q_cond true
    q_c stepG_ret'
    q_enable
    q_leave0 H.f_add
    exact quits_add hT _

theorem addNegU (K : Crew) (H : WgLib K.P L) (hty : K.ty = L.tWg) (hKn : K.n ≤ 1000) (k : Nat) (hk0 : k ≠ 0) {b₀ : Frame} {a₀ : Act} {ops₀ : Array Oper} {i₀ : Nat} {rest₀ : List Nat} {k₀ : List Item} {cs : List Frame} {qt : Nat}
    (hT : QuitsD K.P qt 0 (G (b₀.at (a₀.put ((ops₀[i₀]?).bind (·.dst)) (.tuple #[])) (.inRegion ops₀ rest₀ :: k₀)) cs))
    {x : Sx} (hB : Started K.toCfg x.num k) (h7 : x.stg k = 7) (hd : Deaf x.t k = 0) (htag : x.tag ≠ .pre) (hrow : ∀ y, R K k x y → ∀ o, K.own k o → y.w.cell? ⟨K.C, o, none⟩ = some (K.val o)) {T : Array Value} (hTm : T = #[.pointer (some ⟨K.Wg, 0, none⟩), .int .i64 (-1)] ++ Array.replicate (((addFn L).ntmps) - 2) undef)
    {c : Code} (hc : (addFn L).body = some c) : GoX K (worker k) (qt + 1000) (G ((base L.add).at ⟨T, []⟩ [.code c]) (b₀.at a₀ (.inRegion ops₀ (i₀ :: rest₀) :: k₀) :: cs)) x := by
  obtain ⟨m, rfl, h⟩ := addNeg K H hty hKn k hk0 hT
  have := h x hB h7 hd htag hrow T hTm
  rw [hc] at this
  exact this
end
end Go.Crew
