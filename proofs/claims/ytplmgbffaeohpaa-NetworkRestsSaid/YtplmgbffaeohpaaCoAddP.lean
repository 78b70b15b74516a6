/- (*WaitGroup).Add(1) by the starter (printed by tools/add_pos.py). -/
import Derived.Test.YtplmgbffaeohpaaCoJ
set_option linter.unusedSimpArgs false
set_option linter.unusedVariables false
namespace Go.Crew
open Go.Conc Go.ConcR Go.RowKit Go.Conc.Lib Go.ConcR.Gen
open Go.ConcN (WgLive)

theorem go0 {K : Crew} {ρ : Role} (hρ : ρ.i = 0) {m : Nat} {x : Sx} (htag : x.tag ≠ .pre) {n : Nat} {g : Goroutine} (h : Goes K.P true (fun _ w₁ => WgLive K.ty K.Wg w₁) Go.ConcR.DC0 (fun g _ => g.status = .running ∧ GoX K ρ m g x) n g default) : GoX K ρ (m + n) g x :=
  goX_of_goes (ρ := ρ) htag (.inl hρ) (w := default) (by rw [hρ]; exact h)

/-- An operation that yields v, looking at nothing that is turned. -/
theorem goes_value {P : Program} {main : Bool} {S : World → Prop} {Stop : Goroutine → World → Prop} {b : Frame} {a : Act} {k : List Item} {cs : List Frame} {n : Nat} {ops : Array Oper} {i : Nat} {rest : List Nat} {o : Oper} {w : World} (v : Value) (ho : ops[i]? = some o) (hw : Region.wanted o (yielded ops a.tmps) = true) (hk : b.kind ≠ .early)
    (hr : ∀ w, S w → (execOp a.eval o).run P w = .ok (.value v) w) (he : ∀ w, S w → (execOp a.eval o).events P w #[] = #[])
    (hq : Goes P main (fun _ w₁ => S w₁) Go.ConcR.DC0 Stop n (G (b.at (a.put o.dst v) (.inRegion ops rest :: k)) cs) default) : Goes P main (fun _ w₁ => S w₁) Go.ConcR.DC0 Stop (n + 1) (G (b.at a (.inRegion ops (i :: rest) :: k)) cs) w := by
  refine Goes.step rfl fun w₁ h₁ => ?_
  rw [stepG_value ho hw hk (hr w₁ h₁)]
  simp only [goes_go]
  refine ⟨⟨rfl, ?_⟩, Goes.anyWorld _ hq⟩
  unfold listed
  rw [he w₁ h₁, seen_none]

section
variable {L : WgLink}
set_option maxRecDepth 100000 in
set_option maxHeartbeats 8000000 in
theorem addPos (K : Crew) (ρ : Role) (hρ : ρ.i = 0) (H : WgLib K.P L) (hty : K.ty = L.tWg) (hKn : K.n ≤ 1000) {b₀ : Frame} {a₀ : Act} {ops₀ : Array Oper} {i₀ : Nat} {rest₀ : List Nat} {k₀ : List Item} {cs : List Frame} {qt : Nat} :
    ∃ c, c = qt + 1000 ∧ ∀ (x : Sx) (htag : x.tag = .opn) (hd : Deaf x.t 0 = 0)
      (hT : ∀ x', RT K 0 x x' → x'.tag = .pend → Deaf x'.t 0 = 0 → GoX K ρ qt (G (b₀.at (a₀.put ((ops₀[i₀]?).bind (·.dst)) (.tuple #[])) (.inRegion ops₀ rest₀ :: k₀)) cs) x')
      (T : Array Value) (hTm : T = #[.pointer (some ⟨K.Wg, 0, none⟩), .int .i64 1] ++ Array.replicate (((addFn L).ntmps) - 2) undef),
      GoX K ρ c (G ((base L.add).at ⟨T, []⟩ [.code (((addFn L).body).getD .skip)]) (b₀.at a₀ (.inRegion ops₀ (i₀ :: rest₀) :: k₀) :: cs)) x := by
  refine ⟨qt + 1000, rfl, ?_⟩
  intro x htag hd hT T hTm
  lib_facts
  have rl : ∀ {A : Prop} {w₁ : World}, A → WgLive K.ty K.Wg w₁ → WgLive L.tWg K.Wg w₁ := fun _ h => hty ▸ h
  simp only [addFn, List.size_toArray, List.length_cons, List.length_nil, Nat.reduceAdd, Nat.reduceSub, Array.replicate_succ, Array.replicate_zero, List.push_toArray, List.append_toArray, List.nil_append, List.cons_append] at hTm
  subst hTm
  simp only [addFn, Option.getD_some]
  refine GoX.mono (n := (qt + 900) + 40) (go0 hρ (m := qt + 900) (n := 40) (by rw [htag]; simp) ?_) (by omega)
  have hF : True := trivial
  u_c stepG_seq rl hF
  u_cond true rl hF
  u_c stepG_seq rl hF
  u_c stepG_seq rl hF
  u_reg rl hF
  u_op rl hF
  u_op rl hF
  u_c stepG_region_end rl hF
  u_cond false rl hF
  u_c stepG_skip rl hF
  u_c stepG_seq rl hF
  u_reg rl hF
  refine Goes.stop (fun w₁ h₁ => ⟨rfl, ?_⟩)
  clear h₁ hF
  refine GoX.mark (ρ := ρ) (n := qt + 899) (.inl rfl) rfl rfl (.inl hρ) (by rw [htag]; simp) (fun w => by rw [hρ]; exact stepG_mark0 .disable (by simp) rfl rfl (by k_ne) rfl H.f_disable (x_disable_n L) (x_disable_b L) (x_disable_x L) (x_disable_f L)) ?_
  intro y hrt hs6 hdy h00 htagy
  rw [hρ] at hrt hdy
  replace hdy : Deaf y.t 0 = 1 := by rw [hdy, hd]; rfl
  have htag1 := (h00 hρ).1.opn htag
  clear htagy h00 hs6
  walk_nrm
  refine GoX.mono (n := (qt + 800) + 60) (go0 hρ (m := qt + 800) (n := 60) (by rw [htag1]; simp) ?_) (by omega)
  have hF : True := trivial
  u_c stepG_region_end rl hF
  u_reg rl hF
  u_defer rl hF
  u_c stepG_region_end rl hF
  u_c stepG_seq rl hF
  u_reg rl hF
  u_op rl hF
  u_c stepG_region_end rl hF
  u_c stepG_seq rl hF
  u_c stepG_seq rl hF
  u_reg rl hF
  u_bub rl hF
  u_c stepG_region_end rl hF
  u_cond false rl hF
  u_c stepG_skip rl hF
  u_c stepG_seq rl hF
  u_reg rl hF
  u_op rl hF
  u_op rl hF
  u_op rl hF
  u_op rl hF
  u_op rl hF
  u_op rl hF
  u_call H.f_uAdd (nm_uAdd L) uAddFn rl hF
  u_c stepG_seq rl hF
  u_reg rl hF
  u_op rl hF
  u_c stepG_region_end rl hF
  u_c stepG_seq rl hF
  u_reg rl hF
  u_op rl hF
  u_op rl hF
  u_op rl hF
  u_op rl hF
  refine Goes.stop (fun w₁ h₁ => ⟨rfl, ?_⟩)
  clear h₁ hF
  refine GoX.plus hρ hKn (n := qt + 799) rfl htag1 fun w₁ v hv hw => ?_
  rw [hty] at hw
  obtain ⟨u, hu⟩ : ∃ u, v + 1 = u := ⟨_, rfl⟩
  rw [hu]
  have eS : IntKind.u64.wrap ((v : Int) * KK + 4294967296) = (u : Int) * KK := by rw [IntKind.wrap_u64]; simp only [KK]; omega
  obtain ⟨S, hS⟩ : ∃ S : Int, S = (u : Int) * KK := ⟨_, rfl⟩
  rw [← hS] at eS ⊢
  have a1 : S / 4294967296 = (u : Int) := by rw [hS]; simp only [KK]; omega
  have a2 : 0 ≤ S ∧ S < 9223372036854775808 := by rw [hS]; simp only [KK]; omega
  have b1 : bits .and .u64 S 2147483648 = 0 := by rw [hS]; have := Go.ConcN.st_flag u 0 (by omega) (by omega); simpa [KK] using this
  have b2 : bits .and .u64 S 2147483647 = 0 := by rw [hS]; have := Go.ConcN.st_waiters u 0 (by omega) (by omega); simpa [KK] using this
  have hu0 : 0 < u := by omega
  have hu1 : u ≤ 2147483647 := by omega
  refine ⟨_, (stepG_add_atomic rfl rfl (by k_ne) rfl H.f_addU64 (x_addU64_n L) (x_addU64_b L) (x_addU64_x L) .u64 (x_addU64_f L) rfl rfl hw.cellSt (hw.thaw 0)).trans (by rw [eS]; rfl), rfl, ?_⟩
  clear hw hS hu hv w₁ eS
  intro z hrz htz hdz
  replace hdz : Deaf z.t 0 = 1 := hdz.trans hdy
  replace hrz := hrt.trans hrz
  clear hdy hrt htag1 y
  walk_nrm
  by_cases hone : u = 1
  · subst hone
    refine GoX.mono (n := (qt + 600) + 160) (go0 hρ (m := qt + 600) (n := 160) (by rw [htz]; simp) ?_) (by omega)
    have hF : True := trivial
    refine goes_value (.int .u64 S) rfl rfl (by k_ne) (fun _ _ => by go_simp; try (first | omega | (w_num; omega) | w_num | decide)) (fun _ _ => by simp [go_sem, *]) ?_
    walk_nrm
    u_c stepG_region_end rl hF
    u_c stepG_ret' rl hF
    u_leave1 H.f_uAdd rl hF
    refine goes_value (.int .u64 S) rfl rfl (by k_ne) (fun _ _ => by go_simp; try (first | omega | (w_num; omega) | w_num | decide)) (fun _ _ => by simp [go_sem, *]) ?_
    walk_nrm
    u_c stepG_region_end rl hF
    u_c stepG_seq rl hF
    u_c stepG_seq rl hF
    u_reg rl hF
    refine goes_value (.int .u64 S) rfl rfl (by k_ne) (fun _ _ => by go_simp; try (first | omega | (w_num; omega) | w_num | decide)) (fun _ _ => by simp [go_sem, *]) ?_
    walk_nrm
    refine goes_value (.int .u64 0) rfl rfl (by k_ne) (fun _ _ => by go_simp; try (first | omega | (w_num; omega) | w_num | decide)) (fun _ _ => by simp [go_sem, *]) ?_
    walk_nrm
    refine goes_value (.bool false) rfl rfl (by k_ne) (fun _ _ => by go_simp; try (first | omega | (w_num; omega) | w_num | decide)) (fun _ _ => by simp [go_sem, *]) ?_
    walk_nrm
    refine goes_value (.bool false) rfl rfl (by k_ne) (fun _ _ => by go_simp; try (first | omega | (w_num; omega) | w_num | decide)) (fun _ _ => by simp [go_sem, *]) ?_
    walk_nrm
    u_skip rl hF
    u_skip rl hF
    refine goes_value (.bool false) rfl rfl (by k_ne) (fun _ _ => by go_simp; try (first | omega | (w_num; omega) | w_num | decide)) (fun _ _ => by simp [go_sem, *]) ?_
    walk_nrm
    u_c stepG_region_end rl hF
    u_cond false rl hF
    u_c stepG_skip rl hF
    u_c stepG_seq rl hF
    u_reg rl hF
    refine goes_value (.int .u64 S) rfl rfl (by k_ne) (fun _ _ => by go_simp; try (first | omega | (w_num; omega) | w_num | decide)) (fun _ _ => by simp [go_sem, *]) ?_
    walk_nrm
    refine goes_value (.int .u64 1) rfl rfl (by k_ne) (fun _ _ => by go_simp; try (first | omega | (w_num; omega) | w_num | decide)) (fun _ _ => by simp [go_sem, *]) ?_
    walk_nrm
    refine goes_value (.int .i32 1) rfl rfl (by k_ne) (fun _ _ => by go_simp; try (first | omega | (w_num; omega) | w_num | decide)) (fun _ _ => by simp [go_sem, *]) ?_
    walk_nrm
    refine goes_value (.int .i32 1) rfl rfl (by k_ne) (fun _ _ => by go_simp; try (first | omega | (w_num; omega) | w_num | decide)) (fun _ _ => by simp [go_sem, *]) ?_
    walk_nrm
    u_c stepG_region_end rl hF
    u_c stepG_seq rl hF
    u_reg rl hF
    refine goes_value (.int .u64 S) rfl rfl (by k_ne) (fun _ _ => by go_simp; try (first | omega | (w_num; omega) | w_num | decide)) (fun _ _ => by simp [go_sem, *]) ?_
    walk_nrm
    refine goes_value (.int .u64 0) rfl rfl (by k_ne) (fun _ _ => by go_simp; try (first | omega | (w_num; omega) | w_num | decide)) (fun _ _ => by simp [go_sem, *]) ?_
    walk_nrm
    refine goes_value (.int .u32 0) rfl rfl (by k_ne) (fun _ _ => by go_simp; try (first | omega | (w_num; omega) | w_num | decide)) (fun _ _ => by simp [go_sem, *]) ?_
    walk_nrm
    refine goes_value (.int .u32 0) rfl rfl (by k_ne) (fun _ _ => by go_simp; try (first | omega | (w_num; omega) | w_num | decide)) (fun _ _ => by simp [go_sem, *]) ?_
    walk_nrm
    u_c stepG_region_end rl hF
    u_c stepG_seq rl hF
    u_c stepG_seq rl hF
    u_reg rl hF
    refine goes_value (.bool true) rfl rfl (by k_ne) (fun _ _ => by go_simp; try (first | omega | (w_num; omega) | w_num | decide)) (fun _ _ => by simp [go_sem, *]) ?_
    walk_nrm
    refine goes_value (.int .i64 (1)) rfl rfl (by k_ne) (fun _ _ => by go_simp; try (first | omega | (w_num; omega) | w_num | decide)) (fun _ _ => by simp [go_sem, *]) ?_
    walk_nrm
    refine goes_value (.bool true) rfl rfl (by k_ne) (fun _ _ => by go_simp; try (first | omega | (w_num; omega) | w_num | decide)) (fun _ _ => by simp [go_sem, *]) ?_
    walk_nrm
    refine goes_value (.bool true) rfl rfl (by k_ne) (fun _ _ => by go_simp; try (first | omega | (w_num; omega) | w_num | decide)) (fun _ _ => by simp [go_sem, *]) ?_
    walk_nrm
    refine goes_value (.bool true) rfl rfl (by k_ne) (fun _ _ => by go_simp; try (first | omega | (w_num; omega) | w_num | decide)) (fun _ _ => by simp [go_sem, *]) ?_
    walk_nrm
    refine goes_value (.int .i32 1) rfl rfl (by k_ne) (fun _ _ => by go_simp; try (first | omega | (w_num; omega) | w_num | decide)) (fun _ _ => by simp [go_sem, *]) ?_
    walk_nrm
    refine goes_value (.int .i64 1) rfl rfl (by k_ne) (fun _ _ => by go_simp; try (first | omega | (w_num; omega) | w_num | decide)) (fun _ _ => by simp [go_sem, *]) ?_
    walk_nrm
    refine goes_value (.int .i32 1) rfl rfl (by k_ne) (fun _ _ => by go_simp; try (first | omega | (w_num; omega) | w_num | decide)) (fun _ _ => by simp [go_sem, *]) ?_
    walk_nrm
    refine goes_value (.bool true) rfl rfl (by k_ne) (fun _ _ => by go_simp; try (first | omega | (w_num; omega) | w_num | decide)) (fun _ _ => by simp [go_sem, *]) ?_
    walk_nrm
    refine goes_value (.bool true) rfl rfl (by k_ne) (fun _ _ => by go_simp; try (first | omega | (w_num; omega) | w_num | decide)) (fun _ _ => by simp [go_sem, *]) ?_
    walk_nrm
    u_c stepG_region_end rl hF
    u_cond true rl hF
    u_reg rl hF
    refine goes_value (.pointer (some ⟨K.Wg, 0, none⟩)) rfl rfl (by k_ne) (fun _ _ => by go_simp; try (first | omega | (w_num; omega) | w_num | decide)) (fun _ _ => by simp [go_sem, *]) ?_
    walk_nrm
    refine goes_value (.pointer (some ⟨K.Wg, 0, none⟩)) rfl rfl (by k_ne) (fun _ _ => by go_simp; try (first | omega | (w_num; omega) | w_num | decide)) (fun _ _ => by simp [go_sem, *]) ?_
    walk_nrm
    refine goes_value (.pointer (some ⟨K.Wg, 1, none⟩)) rfl rfl (by k_ne) (fun _ _ => by go_simp; try (first | omega | (w_num; omega) | w_num | decide)) (fun _ _ => by simp [go_sem, *]) ?_
    walk_nrm
    u_in rl hF
    refine goes_oper_k rfl rfl (by k_ne) (fun Kx hKx => ?_)
    have hcv := run_convert_to_unsafe (P := K.P) H.underlying_tPU32 H.underlying_tUP H.room_tU32 (Go.ConcN.Gen.WgLive.cell1 hF).choose_spec
    have hce := fun es => events_convert_to_unsafe (P := K.P) H.underlying_tPU32 H.underlying_tUP H.room_tU32 (Go.ConcN.Gen.WgLive.cell1 hF).choose_spec es
    go_simp
    refine hKx _ _ ⟨?_, ?_⟩
    · u_none
      intro ex hex
      have hmx := mem_listed hex
      simp [go_sem, hce] at hmx
    clear hKx Kx hcv hce
    refine Goes.stop (fun w₁ h₁ => ⟨rfl, ?_⟩)
    clear h₁ hF
    refine (LGo.reads (n := qt + 599) (x := z) rfl rfl (fun x₁ r hi => ⟨_, by rw [hρ]; exact stepG_markAt .read (by simp) rfl rfl (by k_ne) rfl H.f_raceRead (x_raceRead_n L) (x_raceRead_b L) (x_raceRead_x L) (x_raceRead_f L) (ad := ⟨K.Wg, 1, none⟩) (by simp [Act.eval]), fun xe xhe => ?_⟩) ?_) (.inl hρ)
    · simp only [List.mem_toArray, List.mem_singleton] at xhe
      subst xhe
      rw [hρ] at r
      have ht1 := (r.tag rfl).1.pend htz
      obtain ⟨c1, c2, c3⟩ := hi.cls (by rw [ht1]; simp)
      obtain ⟨st, sm, hwg⟩ := hi.grp.wg (by rw [ht1]; simp)
      refine ⟨fun b hb => ?_, wg_lt hwg, fun m hm => by cases hm; simp⟩
      simp only [MemAct.ofEvent, MemAct.touch?, Option.some.injEq] at hb
      subst hb
      refine ⟨⟨K.Wg, 1, none⟩, rfl, ?_⟩
      simp [c1, hρ]
    walk_nrm
    intro _
    refine GoX.mono (n := (qt + 500) + 80) (go0 hρ (m := qt + 500) (n := 80) (by rw [htz]; simp) ?_) (by omega)
    have hF : True := trivial
    u_c stepG_region_end rl hF
    u_c stepG_seq rl hF
    u_c stepG_seq rl hF
    u_reg rl hF
    refine goes_value (.int .i32 1) rfl rfl (by k_ne) (fun _ _ => by go_simp; try (first | omega | (w_num; omega) | w_num | decide)) (fun _ _ => by simp [go_sem, *]) ?_
    walk_nrm
    refine goes_value (.bool false) rfl rfl (by k_ne) (fun _ _ => by go_simp; try (first | omega | (w_num; omega) | w_num | decide)) (fun _ _ => by simp [go_sem, *]) ?_
    walk_nrm
    u_c stepG_region_end rl hF
    u_cond false rl hF
    u_c stepG_skip rl hF
    u_c stepG_seq rl hF
    u_c stepG_seq rl hF
    u_reg rl hF
    refine goes_value (.int .u32 0) rfl rfl (by k_ne) (fun _ _ => by go_simp; try (first | omega | (w_num; omega) | w_num | decide)) (fun _ _ => by simp [go_sem, *]) ?_
    walk_nrm
    refine goes_value (.bool false) rfl rfl (by k_ne) (fun _ _ => by go_simp; try (first | omega | (w_num; omega) | w_num | decide)) (fun _ _ => by simp [go_sem, *]) ?_
    walk_nrm
    refine goes_value (.bool false) rfl rfl (by k_ne) (fun _ _ => by go_simp; try (first | omega | (w_num; omega) | w_num | decide)) (fun _ _ => by simp [go_sem, *]) ?_
    walk_nrm
    u_skip rl hF
    u_skip rl hF
    refine goes_value (.bool false) rfl rfl (by k_ne) (fun _ _ => by go_simp; try (first | omega | (w_num; omega) | w_num | decide)) (fun _ _ => by simp [go_sem, *]) ?_
    walk_nrm
    refine goes_value (.bool false) rfl rfl (by k_ne) (fun _ _ => by go_simp; try (first | omega | (w_num; omega) | w_num | decide)) (fun _ _ => by simp [go_sem, *]) ?_
    walk_nrm
    u_skip rl hF
    u_skip rl hF
    u_skip rl hF
    u_skip rl hF
    refine goes_value (.bool false) rfl rfl (by k_ne) (fun _ _ => by go_simp; try (first | omega | (w_num; omega) | w_num | decide)) (fun _ _ => by simp [go_sem, *]) ?_
    walk_nrm
    u_c stepG_region_end rl hF
    u_cond false rl hF
    u_c stepG_skip rl hF
    u_c stepG_seq rl hF
    u_c stepG_seq rl hF
    u_reg rl hF
    refine goes_value (.int .i32 1) rfl rfl (by k_ne) (fun _ _ => by go_simp; try (first | omega | (w_num; omega) | w_num | decide)) (fun _ _ => by simp [go_sem, *]) ?_
    walk_nrm
    refine goes_value (.bool true) rfl rfl (by k_ne) (fun _ _ => by go_simp; try (first | omega | (w_num; omega) | w_num | decide)) (fun _ _ => by simp [go_sem, *]) ?_
    walk_nrm
    refine goes_value (.bool true) rfl rfl (by k_ne) (fun _ _ => by go_simp; try (first | omega | (w_num; omega) | w_num | decide)) (fun _ _ => by simp [go_sem, *]) ?_
    walk_nrm
    u_skip rl hF
    u_skip rl hF
    refine goes_value (.bool true) rfl rfl (by k_ne) (fun _ _ => by go_simp; try (first | omega | (w_num; omega) | w_num | decide)) (fun _ _ => by simp [go_sem, *]) ?_
    walk_nrm
    u_c stepG_region_end rl hF
    u_cond true rl hF
    u_c stepG_ret' rl hF
    refine Goes.stop (fun w₁ h₁ => ⟨rfl, ?_⟩)
    clear h₁ hF
    refine GoX.mark (ρ := ρ) (n := qt + 499) (.inr rfl) rfl rfl (.inl hρ) (by rw [htz]; simp) (fun w => by rw [hρ]; exact stepG_unwind_entry (v := .tuple #[]) rfl H.f_enable (x_enable_n L) (x_enable_b L) (x_enable_x L) (x_enable_f L) (by simp [Extern.Race.none_]) (by simp; rfl) (by
      intro x hx'
      simp at hx'
      subst hx'
      exact ⟨rfl, fun g h => by cases h⟩)) ?_
    intro y hrt hs6 hdy h00 htagy
    rw [hρ] at hrt hdy
    replace hdy : Deaf y.t 0 = 0 := by rw [hdy, hdz]; rfl
    refine GoX.mono (n := qt + 10) (go0 hρ (m := qt) (n := 10) htagy ?_) (by omega)
    have hF : True := trivial
    u_leave0 H.f_add rl hF
    refine Goes.stop (fun w₁ h₁ => ⟨rfl, ?_⟩)
    exact hT y (hrz.trans hrt) ((h00 hρ).1.pend htz) hdy
  · have hone' : ¬ (u : Int) = 1 := by omega
    have hbe : ((u : Int) == 1) = false := by simpa using hone'
    refine GoX.mono (n := (qt + 500) + 240) (go0 hρ (m := qt + 500) (n := 240) (by rw [htz]; simp) ?_) (by omega)
    have hF : True := trivial
    refine goes_value (.int .u64 S) rfl rfl (by k_ne) (fun _ _ => by go_simp; try (first | omega | (w_num; omega) | w_num | decide)) (fun _ _ => by simp [go_sem, *]) ?_
    walk_nrm
    u_c stepG_region_end rl hF
    u_c stepG_ret' rl hF
    u_leave1 H.f_uAdd rl hF
    refine goes_value (.int .u64 S) rfl rfl (by k_ne) (fun _ _ => by go_simp; try (first | omega | (w_num; omega) | w_num | decide)) (fun _ _ => by simp [go_sem, *]) ?_
    walk_nrm
    u_c stepG_region_end rl hF
    u_c stepG_seq rl hF
    u_c stepG_seq rl hF
    u_reg rl hF
    refine goes_value (.int .u64 S) rfl rfl (by k_ne) (fun _ _ => by go_simp; try (first | omega | (w_num; omega) | w_num | decide)) (fun _ _ => by simp [go_sem, *]) ?_
    walk_nrm
    refine goes_value (.int .u64 0) rfl rfl (by k_ne) (fun _ _ => by go_simp; try (first | omega | (w_num; omega) | w_num | decide)) (fun _ _ => by simp [go_sem, *]) ?_
    walk_nrm
    refine goes_value (.bool false) rfl rfl (by k_ne) (fun _ _ => by go_simp; try (first | omega | (w_num; omega) | w_num | decide)) (fun _ _ => by simp [go_sem, *]) ?_
    walk_nrm
    refine goes_value (.bool false) rfl rfl (by k_ne) (fun _ _ => by go_simp; try (first | omega | (w_num; omega) | w_num | decide)) (fun _ _ => by simp [go_sem, *]) ?_
    walk_nrm
    u_skip rl hF
    u_skip rl hF
    refine goes_value (.bool false) rfl rfl (by k_ne) (fun _ _ => by go_simp; try (first | omega | (w_num; omega) | w_num | decide)) (fun _ _ => by simp [go_sem, *]) ?_
    walk_nrm
    u_c stepG_region_end rl hF
    u_cond false rl hF
    u_c stepG_skip rl hF
    u_c stepG_seq rl hF
    u_reg rl hF
    refine goes_value (.int .u64 S) rfl rfl (by k_ne) (fun _ _ => by go_simp; try (first | omega | (w_num; omega) | w_num | decide)) (fun _ _ => by simp [go_sem, *]) ?_
    walk_nrm
    refine goes_value (.int .u64 (u : Int)) rfl rfl (by k_ne) (fun _ _ => by go_simp; try (first | omega | (w_num; omega) | w_num | decide)) (fun _ _ => by simp [go_sem, *]) ?_
    walk_nrm
    refine goes_value (.int .i32 (u : Int)) rfl rfl (by k_ne) (fun _ _ => by go_simp; try (first | omega | (w_num; omega) | w_num | decide)) (fun _ _ => by simp [go_sem, *]) ?_
    walk_nrm
    refine goes_value (.int .i32 (u : Int)) rfl rfl (by k_ne) (fun _ _ => by go_simp; try (first | omega | (w_num; omega) | w_num | decide)) (fun _ _ => by simp [go_sem, *]) ?_
    walk_nrm
    u_c stepG_region_end rl hF
    u_c stepG_seq rl hF
    u_reg rl hF
    refine goes_value (.int .u64 S) rfl rfl (by k_ne) (fun _ _ => by go_simp; try (first | omega | (w_num; omega) | w_num | decide)) (fun _ _ => by simp [go_sem, *]) ?_
    walk_nrm
    refine goes_value (.int .u64 0) rfl rfl (by k_ne) (fun _ _ => by go_simp; try (first | omega | (w_num; omega) | w_num | decide)) (fun _ _ => by simp [go_sem, *]) ?_
    walk_nrm
    refine goes_value (.int .u32 0) rfl rfl (by k_ne) (fun _ _ => by go_simp; try (first | omega | (w_num; omega) | w_num | decide)) (fun _ _ => by simp [go_sem, *]) ?_
    walk_nrm
    refine goes_value (.int .u32 0) rfl rfl (by k_ne) (fun _ _ => by go_simp; try (first | omega | (w_num; omega) | w_num | decide)) (fun _ _ => by simp [go_sem, *]) ?_
    walk_nrm
    u_c stepG_region_end rl hF
    u_c stepG_seq rl hF
    u_c stepG_seq rl hF
    u_reg rl hF
    refine goes_value (.bool true) rfl rfl (by k_ne) (fun _ _ => by go_simp; try (first | omega | (w_num; omega) | w_num | decide)) (fun _ _ => by simp [go_sem, *]) ?_
    walk_nrm
    refine goes_value (.int .i64 (1)) rfl rfl (by k_ne) (fun _ _ => by go_simp; try (first | omega | (w_num; omega) | w_num | decide)) (fun _ _ => by simp [go_sem, *]) ?_
    walk_nrm
    refine goes_value (.bool true) rfl rfl (by k_ne) (fun _ _ => by go_simp; try (first | omega | (w_num; omega) | w_num | decide)) (fun _ _ => by simp [go_sem, *]) ?_
    walk_nrm
    refine goes_value (.bool true) rfl rfl (by k_ne) (fun _ _ => by go_simp; try (first | omega | (w_num; omega) | w_num | decide)) (fun _ _ => by simp [go_sem, *]) ?_
    walk_nrm
    refine goes_value (.bool true) rfl rfl (by k_ne) (fun _ _ => by go_simp; try (first | omega | (w_num; omega) | w_num | decide)) (fun _ _ => by simp [go_sem, *]) ?_
    walk_nrm
    refine goes_value (.int .i32 (u : Int)) rfl rfl (by k_ne) (fun _ _ => by go_simp; try (first | omega | (w_num; omega) | w_num | decide)) (fun _ _ => by simp [go_sem, *]) ?_
    walk_nrm
    refine goes_value (.int .i64 1) rfl rfl (by k_ne) (fun _ _ => by go_simp; try (first | omega | (w_num; omega) | w_num | decide)) (fun _ _ => by simp [go_sem, *]) ?_
    walk_nrm
    refine goes_value (.int .i32 1) rfl rfl (by k_ne) (fun _ _ => by go_simp; try (first | omega | (w_num; omega) | w_num | decide)) (fun _ _ => by simp [go_sem, *]) ?_
    walk_nrm
    refine goes_value (.bool false) rfl rfl (by k_ne) (fun _ _ => by go_simp; try (first | omega | (w_num; omega) | w_num | decide)) (fun _ _ => by simp [go_sem, *]) ?_
    walk_nrm
    refine goes_value (.bool false) rfl rfl (by k_ne) (fun _ _ => by go_simp; try (first | omega | (w_num; omega) | w_num | decide)) (fun _ _ => by simp [go_sem, *]) ?_
    walk_nrm
    u_c stepG_region_end rl hF
    u_cond false rl hF
    u_c stepG_skip rl hF
    u_c stepG_seq rl hF
    u_c stepG_seq rl hF
    u_reg rl hF
    refine goes_value (.int .i32 (u : Int)) rfl rfl (by k_ne) (fun _ _ => by go_simp; try (first | omega | (w_num; omega) | w_num | decide)) (fun _ _ => by simp [go_sem, *]) ?_
    walk_nrm
    refine goes_value (.bool false) rfl rfl (by k_ne) (fun _ _ => by go_simp; try (first | omega | (w_num; omega) | w_num | decide)) (fun _ _ => by simp [go_sem, *]) ?_
    walk_nrm
    u_c stepG_region_end rl hF
    u_cond false rl hF
    u_c stepG_skip rl hF
    u_c stepG_seq rl hF
    u_c stepG_seq rl hF
    u_reg rl hF
    refine goes_value (.int .u32 0) rfl rfl (by k_ne) (fun _ _ => by go_simp; try (first | omega | (w_num; omega) | w_num | decide)) (fun _ _ => by simp [go_sem, *]) ?_
    walk_nrm
    refine goes_value (.bool false) rfl rfl (by k_ne) (fun _ _ => by go_simp; try (first | omega | (w_num; omega) | w_num | decide)) (fun _ _ => by simp [go_sem, *]) ?_
    walk_nrm
    refine goes_value (.bool false) rfl rfl (by k_ne) (fun _ _ => by go_simp; try (first | omega | (w_num; omega) | w_num | decide)) (fun _ _ => by simp [go_sem, *]) ?_
    walk_nrm
    u_skip rl hF
    u_skip rl hF
    refine goes_value (.bool false) rfl rfl (by k_ne) (fun _ _ => by go_simp; try (first | omega | (w_num; omega) | w_num | decide)) (fun _ _ => by simp [go_sem, *]) ?_
    walk_nrm
    refine goes_value (.bool false) rfl rfl (by k_ne) (fun _ _ => by go_simp; try (first | omega | (w_num; omega) | w_num | decide)) (fun _ _ => by simp [go_sem, *]) ?_
    walk_nrm
    u_skip rl hF
    u_skip rl hF
    u_skip rl hF
    u_skip rl hF
    refine goes_value (.bool false) rfl rfl (by k_ne) (fun _ _ => by go_simp; try (first | omega | (w_num; omega) | w_num | decide)) (fun _ _ => by simp [go_sem, *]) ?_
    walk_nrm
    u_c stepG_region_end rl hF
    u_cond false rl hF
    u_c stepG_skip rl hF
    u_c stepG_seq rl hF
    u_c stepG_seq rl hF
    u_reg rl hF
    refine goes_value (.int .i32 (u : Int)) rfl rfl (by k_ne) (fun _ _ => by go_simp; try (first | omega | (w_num; omega) | w_num | decide)) (fun _ _ => by simp [go_sem, *]) ?_
    walk_nrm
    refine goes_value (.bool true) rfl rfl (by k_ne) (fun _ _ => by go_simp; try (first | omega | (w_num; omega) | w_num | decide)) (fun _ _ => by simp [go_sem, *]) ?_
    walk_nrm
    refine goes_value (.bool true) rfl rfl (by k_ne) (fun _ _ => by go_simp; try (first | omega | (w_num; omega) | w_num | decide)) (fun _ _ => by simp [go_sem, *]) ?_
    walk_nrm
    u_skip rl hF
    u_skip rl hF
    refine goes_value (.bool true) rfl rfl (by k_ne) (fun _ _ => by go_simp; try (first | omega | (w_num; omega) | w_num | decide)) (fun _ _ => by simp [go_sem, *]) ?_
    walk_nrm
    u_c stepG_region_end rl hF
    u_cond true rl hF
    u_c stepG_ret' rl hF
    refine Goes.stop (fun w₁ h₁ => ⟨rfl, ?_⟩)
    clear h₁ hF
    refine GoX.mark (ρ := ρ) (n := qt + 499) (.inr rfl) rfl rfl (.inl hρ) (by rw [htz]; simp) (fun w => by rw [hρ]; exact stepG_unwind_entry (v := .tuple #[]) rfl H.f_enable (x_enable_n L) (x_enable_b L) (x_enable_x L) (x_enable_f L) (by simp [Extern.Race.none_]) (by simp; rfl) (by
      intro x hx'
      simp at hx'
      subst hx'
      exact ⟨rfl, fun g h => by cases h⟩)) ?_
    intro y hrt hs6 hdy h00 htagy
    rw [hρ] at hrt hdy
    replace hdy : Deaf y.t 0 = 0 := by rw [hdy, hdz]; rfl
    refine GoX.mono (n := qt + 10) (go0 hρ (m := qt) (n := 10) htagy ?_) (by omega)
    have hF : True := trivial
    u_leave0 H.f_add rl hF
    refine Goes.stop (fun w₁ h₁ => ⟨rfl, ?_⟩)
    exact hT y (hrz.trans hrt) ((h00 hρ).1.pend htz) hdy

theorem addPosU (K : Crew) (ρ : Role) (hρ : ρ.i = 0) (H : WgLib K.P L) (hty : K.ty = L.tWg) (hKn : K.n ≤ 1000) {b₀ : Frame} {a₀ : Act} {ops₀ : Array Oper} {i₀ : Nat} {rest₀ : List Nat} {k₀ : List Item} {cs : List Frame} {qt : Nat}
    {x : Sx} (htag : x.tag = .opn) (hd : Deaf x.t 0 = 0) (hT : ∀ x', RT K 0 x x' → x'.tag = .pend → Deaf x'.t 0 = 0 → GoX K ρ qt (G (b₀.at (a₀.put ((ops₀[i₀]?).bind (·.dst)) (.tuple #[])) (.inRegion ops₀ rest₀ :: k₀)) cs) x')
    {T : Array Value} (hTm : T = #[.pointer (some ⟨K.Wg, 0, none⟩), .int .i64 1] ++ Array.replicate (((addFn L).ntmps) - 2) undef) {c : Code} (hc : (addFn L).body = some c) :
    GoX K ρ (qt + 1000) (G ((base L.add).at ⟨T, []⟩ [.code c]) (b₀.at a₀ (.inRegion ops₀ (i₀ :: rest₀) :: k₀) :: cs)) x := by
  obtain ⟨m, rfl, h⟩ := addPos K ρ hρ H hty hKn (b₀ := b₀) (a₀ := a₀) (ops₀ := ops₀) (i₀ := i₀) (rest₀ := rest₀) (k₀ := k₀) (cs := cs) (qt := qt)
  have := h x htag hd hT T hTm
  rw [hc] at this
  exact this
end
end Go.Crew
