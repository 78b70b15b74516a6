/- (*WaitGroup).Wait by the starter (printed by tools/wait.py). -/
import Derived.Test.YtplmgbffaeohpaaCoAddP
import Derived.Lib.Hide
set_option linter.unusedSimpArgs false
set_option linter.unusedVariables false
namespace Go.Crew
open Go.Conc Go.ConcR Go.RowKit Go.Conc.Lib Go.ConcR.Gen
open Go.ConcN (WgLive)

/-- The body of Wait's loop. -/
def waitBody (L : WgLink) : Code := match (waitFn L).body with | some (.seq _ (.block _ (.loop b))) => b | _ => .skip

section
variable {L : WgLink}
set_option maxRecDepth 100000 in
set_option maxHeartbeats 8000000 in
theorem wait_loop (K : Crew) (ρ : Role) (hρ : ρ.i = 0) (H : WgLib K.P L) (hty : K.ty = L.tWg) (hKn : K.n ≤ 1000) {b₀ : Frame} {a₀ : Act} {ops₀ : Array Oper} {i₀ : Nat} {rest₀ : List Nat} {k₀ : List Item} {cs : List Frame} {qt : Nat} (x0 : Sx)
    (hT : ∀ x', RT K 0 x0 x' → x'.tag = .done → Deaf x'.t 0 = 0 → GoX K ρ qt (G (b₀.at (a₀.put ((ops₀[i₀]?).bind (·.dst)) (.tuple #[])) (.inRegion ops₀ rest₀ :: k₀)) cs) x') (B : Code) (hBB : B = waitBody L) :
    ∀ (V : Nat) (q : Nat) (hq : q = qt + 600 * V) (x : Sx) (hrt : RT K 0 x0 x) (htag : x.tag = .opn) (hcnt : cnt K x ≤ V) (hd : Deaf x.t 0 = 1) (C : Code) (hCB : C = waitBody L) (T : Array Value) (hsz : T.size = 84) (hT0 : T.getD 0 undef = .pointer (some ⟨K.Wg, 0, none⟩)),
      GoX K ρ (q + 600) (G ((base L.wait).at ⟨T, []⟩ [.code C, .inLoop B, .inBlock 0]) (b₀.at a₀ (.inRegion ops₀ (i₀ :: rest₀) :: k₀) :: cs)) x := by
  have rl : ∀ {A : Prop} {w₁ : World}, A → WgLive K.ty K.Wg w₁ → WgLive L.tWg K.Wg w₁ := fun _ h => hty ▸ h
  lib_facts
  intro V
  induction V with
  | zero =>
    intro q hq x hrt htag hcnt hd C hCB T hsz hT0
    obtain ⟨u, hu, hv⟩ := frame_lit hsz
    simp only [List.range, List.range.loop, List.map_cons, List.map_nil] at hu
    have e0 := (hv 0).trans hT0
    rw [e0] at hu
    clear hv hT0 hsz e0
    subst hu
    subst hCB
    simp only [waitBody, waitFn]
    refine GoX.mono (n := (q + 530) + 40) (go0 hρ (m := q + 530) (n := 40) (by rw [htag]; simp) ?_) (by omega)
    have hF : True := trivial
    u_c stepG_block rl hF
    u_c stepG_seq rl hF
    u_reg rl hF
    u_op rl hF
    u_op rl hF
    u_op rl hF
    u_call H.f_uLoad (nm_uLoad L) uLoadFn rl hF
    u_c stepG_seq rl hF
    u_reg rl hF
    u_op rl hF
    u_c stepG_region_end rl hF
    u_c stepG_seq rl hF
    u_reg rl hF
    u_op rl hF
    u_op rl hF
    u_op rl hF
    refine Goes.stop (fun w₁ h₁ => ⟨rfl, ?_⟩)
    clear h₁ hF
    refine GoX.lookW hρ hKn (n := q + 529) rfl htag fun w₁ v hv hvc hw => ?_
    rw [hty] at hw
    refine ⟨_, stepG_load_atomic rfl rfl (by k_ne) rfl H.f_loadU64 (x_loadU64_n L) (x_loadU64_b L) (x_loadU64_x L) .u64 (x_loadU64_f L) rfl hw.cellSt, rfl, ?_, ?_⟩
    · rintro rfl z hrz htz hdz
      replace hdz : Deaf z.t 0 = 1 := hdz.trans hd
      replace hrz := hrt.trans hrz
      clear hw w₁ hv hvc hcnt hd htag hrt x
      rw [show (((0 : Nat) : Int) * KK) = 0 by simp]
      walk_nrm
      refine GoX.mono (n := (q + 450) + 60) (go0 hρ (m := q + 450) (n := 60) (by rw [htz]; simp) ?_) (by omega)
      have hF : True := trivial
      refine goes_value (.int .u64 0) rfl rfl (by k_ne) (fun _ _ => by go_simp; try (first | omega | (w_num; omega) | w_num | decide)) (fun _ _ => by simp [go_sem, *]) ?_
      walk_nrm
      u_c stepG_region_end rl hF
      u_c stepG_ret' rl hF
      u_leave1 H.f_uLoad rl hF
      refine goes_value (.int .u64 0) rfl rfl (by k_ne) (fun _ _ => by go_simp; try (first | omega | (w_num; omega) | w_num | decide)) (fun _ _ => by simp [go_sem, *]) ?_
      walk_nrm
      u_c stepG_region_end rl hF
      u_c stepG_seq rl hF
      u_reg rl hF
      refine goes_value (.int .u64 0) rfl rfl (by k_ne) (fun _ _ => by go_simp; try (first | omega | (w_num; omega) | w_num | decide)) (fun _ _ => by simp [go_sem, *]) ?_
      walk_nrm
      refine goes_value (.int .u64 0) rfl rfl (by k_ne) (fun _ _ => by go_simp; try (first | omega | (w_num; omega) | w_num | decide)) (fun _ _ => by simp [go_sem, *]) ?_
      walk_nrm
      refine goes_value (.int .i32 0) rfl rfl (by k_ne) (fun _ _ => by go_simp; try (first | omega | (w_num; omega) | w_num | decide)) (fun _ _ => by simp [go_sem, *]) ?_
      walk_nrm
      refine goes_value (.int .i32 0) rfl rfl (by k_ne) (fun _ _ => by go_simp; try (first | omega | (w_num; omega) | w_num | decide)) (fun _ _ => by simp [go_sem, *]) ?_
      walk_nrm
      u_c stepG_region_end rl hF
      u_c stepG_seq rl hF
      u_reg rl hF
      refine goes_value (.int .u64 0) rfl rfl (by k_ne) (fun _ _ => by go_simp; try (first | omega | (w_num; omega) | w_num | decide)) (fun _ _ => by simp [go_sem, *]) ?_
      walk_nrm
      refine goes_value (.int .u64 0) rfl rfl (by k_ne) (fun _ _ => by go_simp; try (first | omega | (w_num; omega) | w_num | decide)) (fun _ _ => by simp [go_sem, *]) ?_
      walk_nrm
      refine goes_value (.int .u32 0) rfl rfl (by k_ne) (fun _ _ => by go_simp; try (first | omega | (w_num; omega) | w_num | decide)) (fun _ _ => by simp [go_sem, *]) ?_
      walk_nrm
      refine goes_value (.int .u32 0) rfl rfl (by k_ne) (fun _ _ => by go_simp; try (first | omega | (w_num; omega) | w_num | decide)) (fun _ _ => by simp [go_sem, *]) ?_
      walk_nrm
      u_c stepG_region_end rl hF
      u_c stepG_seq rl hF
      u_c stepG_seq rl hF
      u_reg rl hF
      refine goes_value (.int .i32 0) rfl rfl (by k_ne) (fun _ _ => by go_simp; try (first | omega | (w_num; omega) | w_num | decide)) (fun _ _ => by simp [go_sem, *]) ?_
      walk_nrm
      refine goes_value (.bool true) rfl rfl (by k_ne) (fun _ _ => by go_simp; try (first | omega | (w_num; omega) | w_num | decide)) (fun _ _ => by simp [go_sem, *]) ?_
      walk_nrm
      u_c stepG_region_end rl hF
      u_cond true rl hF
      u_c stepG_seq rl hF
      u_cond true rl hF
      u_c stepG_seq rl hF
      u_reg rl hF
      refine Goes.stop (fun w₁ h₁ => ⟨rfl, ?_⟩)
      clear h₁ hF
      refine GoX.mark (ρ := ρ) (n := q + 449) (.inr rfl) rfl rfl (.inl hρ) (by rw [htz]; simp) (fun w => by rw [hρ]; exact stepG_mark0 .enable (by simp) rfl rfl (by k_ne) rfl H.f_enable (x_enable_n L) (x_enable_b L) (x_enable_x L) (x_enable_f L)) ?_
      intro y hry hs6 hdy h00 htagy
      rw [hρ] at hry hdy
      replace hdy : Deaf y.t 0 = 0 := by rw [hdy, hdz]; rfl
      replace hry := hrz.trans hry
      have hty0 := (h00 hρ).1.fin htz
      clear htagy h00 hs6 hrz htz hdz z
      walk_nrm
      refine GoX.mono (n := (q + 410) + 30) (go0 hρ (m := q + 410) (n := 30) (by rw [hty0]; simp) ?_) (by omega)
      have hF : True := trivial
      u_c stepG_region_end rl hF
      u_reg rl hF
      refine goes_value (.pointer (some ⟨K.Wg, 0, none⟩)) rfl rfl (by k_ne) (fun _ _ => by go_simp; try (first | omega | (w_num; omega) | w_num | decide)) (fun _ _ => by simp [go_sem, *]) ?_
      walk_nrm
      u_in rl hF
      refine goes_oper_k rfl rfl (by k_ne) (fun Kx hKx => ?_)
      have hcv := run_convert_to_unsafe (P := K.P) H.underlying_tWgP H.underlying_tUP H.room_tWg (Go.ConcN.Gen.WgLive.cell0 hF).choose_spec
      have hce := fun es => events_convert_to_unsafe (P := K.P) H.underlying_tWgP H.underlying_tUP H.room_tWg (Go.ConcN.Gen.WgLive.cell0 hF).choose_spec es
      go_simp
      refine hKx _ _ ⟨?_, ?_⟩
      · u_none
        intro ex hex
        have hmx := mem_listed hex
        simp [go_sem, hce] at hmx
      clear hKx Kx hcv hce
      refine Goes.stop (fun w₁ h₁ => ⟨rfl, ?_⟩)
      clear h₁ hF
      refine GoX.acquire hρ (n := q + 409) rfl rfl hty0 hdy (fun w => stepG_markAt .acquire (by simp) rfl rfl (by k_ne) rfl H.f_acquire (x_acquire_n L) (x_acquire_b L) (x_acquire_x L) (x_acquire_f L) (by simp [Act.eval, stA])) ?_
      intro z hrz htz hdz
      replace hrz := hry.trans hrz
      clear hry hty0 hdy y
      walk_nrm
      refine GoX.mono (n := (q + 300) + 100) (go0 hρ (m := q + 300) (n := 100) (by rw [htz]; simp) ?_) (by omega)
      have hF : True := trivial
      u_c stepG_region_end rl hF
      u_c stepG_seq rl hF
      u_c stepG_seq rl hF
      u_reg rl hF
      refine goes_value (.int .u32 0) rfl rfl (by k_ne) (fun _ _ => by go_simp; try (first | omega | (w_num; omega) | w_num | decide)) (fun _ _ => by simp [go_sem, *]) ?_
      walk_nrm
      refine goes_value (.bool true) rfl rfl (by k_ne) (fun _ _ => by go_simp; try (first | omega | (w_num; omega) | w_num | decide)) (fun _ _ => by simp [go_sem, *]) ?_
      walk_nrm
      refine goes_value (.bool true) rfl rfl (by k_ne) (fun _ _ => by go_simp; try (first | omega | (w_num; omega) | w_num | decide)) (fun _ _ => by simp [go_sem, *]) ?_
      walk_nrm
      refine goes_value (.int .u64 0) rfl rfl (by k_ne) (fun _ _ => by go_simp; try (first | omega | (w_num; omega) | w_num | decide)) (fun _ _ => by simp [go_sem, *]) ?_
      walk_nrm
      refine goes_value (.int .u64 0) rfl rfl (by k_ne) (fun _ _ => by go_simp; try (first | omega | (w_num; omega) | w_num | decide)) (fun _ _ => by simp [go_sem, *]) ?_
      walk_nrm
      refine goes_value (.bool false) rfl rfl (by k_ne) (fun _ _ => by go_simp; try (first | omega | (w_num; omega) | w_num | decide)) (fun _ _ => by simp [go_sem, *]) ?_
      walk_nrm
      refine goes_value (.bool false) rfl rfl (by k_ne) (fun _ _ => by go_simp; try (first | omega | (w_num; omega) | w_num | decide)) (fun _ _ => by simp [go_sem, *]) ?_
      walk_nrm
      refine goes_value (.bool false) rfl rfl (by k_ne) (fun _ _ => by go_simp; try (first | omega | (w_num; omega) | w_num | decide)) (fun _ _ => by simp [go_sem, *]) ?_
      walk_nrm
      u_skip rl hF
      u_skip rl hF
      refine goes_value (.bool false) rfl rfl (by k_ne) (fun _ _ => by go_simp; try (first | omega | (w_num; omega) | w_num | decide)) (fun _ _ => by simp [go_sem, *]) ?_
      walk_nrm
      u_c stepG_region_end rl hF
      u_cond false rl hF
      u_c stepG_skip rl hF
      u_c stepG_ret' rl hF
      u_leave0 H.f_wait rl hF
      refine Goes.stop (fun w₁ h₁ => ⟨rfl, ?_⟩)
      exact GoX.mono (hT z hrz htz hdz) (by omega)
    · intro hv0 z hrz htz hcz hdz
      replace hdz : Deaf z.t 0 = 1 := hdz.trans hd
      replace hrz := hrt.trans hrz
      have hvV : v ≤ 0 := Nat.le_trans hvc hcnt
      clear hw w₁ hvc hcnt hd htag hrt x
      obtain ⟨S, hS⟩ : ∃ S : Int, S = (v : Int) * KK := ⟨_, rfl⟩
      rw [← hS]
      have a1 : S / 4294967296 = (v : Int) := by rw [hS]; simp only [KK]; omega
      have a2 : 0 ≤ S ∧ S < 9223372036854775808 := by rw [hS]; simp only [KK]; omega
      have b1 : bits .and .u64 S 2147483648 = 0 := by rw [hS]; have := Go.ConcN.st_flag v 0 (by omega) (by omega); simpa [KK] using this
      have b2 : bits .and .u64 S 2147483647 = 0 := by rw [hS]; have := Go.ConcN.st_waiters v 0 (by omega) (by omega); simpa [KK] using this
      have hvne : ((v : Int) == 0) = false := by simpa using hv0
      have hS' := Go.Lib.hid hS
      clear hS
      walk_nrm
      omega
  | succ V ih =>
    intro q hq x hrt htag hcnt hd C hCB T hsz hT0
    obtain ⟨u, hu, hv⟩ := frame_lit hsz
    simp only [List.range, List.range.loop, List.map_cons, List.map_nil] at hu
    have e0 := (hv 0).trans hT0
    rw [e0] at hu
    clear hv hT0 hsz e0
    subst hu
    subst hCB
    simp only [waitBody, waitFn]
    refine GoX.mono (n := (q + 530) + 40) (go0 hρ (m := q + 530) (n := 40) (by rw [htag]; simp) ?_) (by omega)
    have hF : True := trivial
    u_c stepG_block rl hF
    u_c stepG_seq rl hF
    u_reg rl hF
    u_op rl hF
    u_op rl hF
    u_op rl hF
    u_call H.f_uLoad (nm_uLoad L) uLoadFn rl hF
    u_c stepG_seq rl hF
    u_reg rl hF
    u_op rl hF
    u_c stepG_region_end rl hF
    u_c stepG_seq rl hF
    u_reg rl hF
    u_op rl hF
    u_op rl hF
    u_op rl hF
    refine Goes.stop (fun w₁ h₁ => ⟨rfl, ?_⟩)
    clear h₁ hF
    refine GoX.lookW hρ hKn (n := q + 529) rfl htag fun w₁ v hv hvc hw => ?_
    rw [hty] at hw
    refine ⟨_, stepG_load_atomic rfl rfl (by k_ne) rfl H.f_loadU64 (x_loadU64_n L) (x_loadU64_b L) (x_loadU64_x L) .u64 (x_loadU64_f L) rfl hw.cellSt, rfl, ?_, ?_⟩
    · rintro rfl z hrz htz hdz
      replace hdz : Deaf z.t 0 = 1 := hdz.trans hd
      replace hrz := hrt.trans hrz
      clear hw w₁ hv hvc hcnt hd htag hrt x
      rw [show (((0 : Nat) : Int) * KK) = 0 by simp]
      walk_nrm
      refine GoX.mono (n := (q + 450) + 60) (go0 hρ (m := q + 450) (n := 60) (by rw [htz]; simp) ?_) (by omega)
      have hF : True := trivial
      refine goes_value (.int .u64 0) rfl rfl (by k_ne) (fun _ _ => by go_simp; try (first | omega | (w_num; omega) | w_num | decide)) (fun _ _ => by simp [go_sem, *]) ?_
      walk_nrm
      u_c stepG_region_end rl hF
      u_c stepG_ret' rl hF
      u_leave1 H.f_uLoad rl hF
      refine goes_value (.int .u64 0) rfl rfl (by k_ne) (fun _ _ => by go_simp; try (first | omega | (w_num; omega) | w_num | decide)) (fun _ _ => by simp [go_sem, *]) ?_
      walk_nrm
      u_c stepG_region_end rl hF
      u_c stepG_seq rl hF
      u_reg rl hF
      refine goes_value (.int .u64 0) rfl rfl (by k_ne) (fun _ _ => by go_simp; try (first | omega | (w_num; omega) | w_num | decide)) (fun _ _ => by simp [go_sem, *]) ?_
      walk_nrm
      refine goes_value (.int .u64 0) rfl rfl (by k_ne) (fun _ _ => by go_simp; try (first | omega | (w_num; omega) | w_num | decide)) (fun _ _ => by simp [go_sem, *]) ?_
      walk_nrm
      refine goes_value (.int .i32 0) rfl rfl (by k_ne) (fun _ _ => by go_simp; try (first | omega | (w_num; omega) | w_num | decide)) (fun _ _ => by simp [go_sem, *]) ?_
      walk_nrm
      refine goes_value (.int .i32 0) rfl rfl (by k_ne) (fun _ _ => by go_simp; try (first | omega | (w_num; omega) | w_num | decide)) (fun _ _ => by simp [go_sem, *]) ?_
      walk_nrm
      u_c stepG_region_end rl hF
      u_c stepG_seq rl hF
      u_reg rl hF
      refine goes_value (.int .u64 0) rfl rfl (by k_ne) (fun _ _ => by go_simp; try (first | omega | (w_num; omega) | w_num | decide)) (fun _ _ => by simp [go_sem, *]) ?_
      walk_nrm
      refine goes_value (.int .u64 0) rfl rfl (by k_ne) (fun _ _ => by go_simp; try (first | omega | (w_num; omega) | w_num | decide)) (fun _ _ => by simp [go_sem, *]) ?_
      walk_nrm
      refine goes_value (.int .u32 0) rfl rfl (by k_ne) (fun _ _ => by go_simp; try (first | omega | (w_num; omega) | w_num | decide)) (fun _ _ => by simp [go_sem, *]) ?_
      walk_nrm
      refine goes_value (.int .u32 0) rfl rfl (by k_ne) (fun _ _ => by go_simp; try (first | omega | (w_num; omega) | w_num | decide)) (fun _ _ => by simp [go_sem, *]) ?_
      walk_nrm
      u_c stepG_region_end rl hF
      u_c stepG_seq rl hF
      u_c stepG_seq rl hF
      u_reg rl hF
      refine goes_value (.int .i32 0) rfl rfl (by k_ne) (fun _ _ => by go_simp; try (first | omega | (w_num; omega) | w_num | decide)) (fun _ _ => by simp [go_sem, *]) ?_
      walk_nrm
      refine goes_value (.bool true) rfl rfl (by k_ne) (fun _ _ => by go_simp; try (first | omega | (w_num; omega) | w_num | decide)) (fun _ _ => by simp [go_sem, *]) ?_
      walk_nrm
      u_c stepG_region_end rl hF
      u_cond true rl hF
      u_c stepG_seq rl hF
      u_cond true rl hF
      u_c stepG_seq rl hF
      u_reg rl hF
      refine Goes.stop (fun w₁ h₁ => ⟨rfl, ?_⟩)
      clear h₁ hF
      refine GoX.mark (ρ := ρ) (n := q + 449) (.inr rfl) rfl rfl (.inl hρ) (by rw [htz]; simp) (fun w => by rw [hρ]; exact stepG_mark0 .enable (by simp) rfl rfl (by k_ne) rfl H.f_enable (x_enable_n L) (x_enable_b L) (x_enable_x L) (x_enable_f L)) ?_
      intro y hry hs6 hdy h00 htagy
      rw [hρ] at hry hdy
      replace hdy : Deaf y.t 0 = 0 := by rw [hdy, hdz]; rfl
      replace hry := hrz.trans hry
      have hty0 := (h00 hρ).1.fin htz
      clear htagy h00 hs6 hrz htz hdz z
      walk_nrm
      refine GoX.mono (n := (q + 410) + 30) (go0 hρ (m := q + 410) (n := 30) (by rw [hty0]; simp) ?_) (by omega)
      have hF : True := trivial
      u_c stepG_region_end rl hF
      u_reg rl hF
      refine goes_value (.pointer (some ⟨K.Wg, 0, none⟩)) rfl rfl (by k_ne) (fun _ _ => by go_simp; try (first | omega | (w_num; omega) | w_num | decide)) (fun _ _ => by simp [go_sem, *]) ?_
      walk_nrm
      u_in rl hF
      refine goes_oper_k rfl rfl (by k_ne) (fun Kx hKx => ?_)
      have hcv := run_convert_to_unsafe (P := K.P) H.underlying_tWgP H.underlying_tUP H.room_tWg (Go.ConcN.Gen.WgLive.cell0 hF).choose_spec
      have hce := fun es => events_convert_to_unsafe (P := K.P) H.underlying_tWgP H.underlying_tUP H.room_tWg (Go.ConcN.Gen.WgLive.cell0 hF).choose_spec es
      go_simp
      refine hKx _ _ ⟨?_, ?_⟩
      · u_none
        intro ex hex
        have hmx := mem_listed hex
        simp [go_sem, hce] at hmx
      clear hKx Kx hcv hce
      refine Goes.stop (fun w₁ h₁ => ⟨rfl, ?_⟩)
      clear h₁ hF
      refine GoX.acquire hρ (n := q + 409) rfl rfl hty0 hdy (fun w => stepG_markAt .acquire (by simp) rfl rfl (by k_ne) rfl H.f_acquire (x_acquire_n L) (x_acquire_b L) (x_acquire_x L) (x_acquire_f L) (by simp [Act.eval, stA])) ?_
      intro z hrz htz hdz
      replace hrz := hry.trans hrz
      clear hry hty0 hdy y
      walk_nrm
      refine GoX.mono (n := (q + 300) + 100) (go0 hρ (m := q + 300) (n := 100) (by rw [htz]; simp) ?_) (by omega)
      have hF : True := trivial
      u_c stepG_region_end rl hF
      u_c stepG_seq rl hF
      u_c stepG_seq rl hF
      u_reg rl hF
      refine goes_value (.int .u32 0) rfl rfl (by k_ne) (fun _ _ => by go_simp; try (first | omega | (w_num; omega) | w_num | decide)) (fun _ _ => by simp [go_sem, *]) ?_
      walk_nrm
      refine goes_value (.bool true) rfl rfl (by k_ne) (fun _ _ => by go_simp; try (first | omega | (w_num; omega) | w_num | decide)) (fun _ _ => by simp [go_sem, *]) ?_
      walk_nrm
      refine goes_value (.bool true) rfl rfl (by k_ne) (fun _ _ => by go_simp; try (first | omega | (w_num; omega) | w_num | decide)) (fun _ _ => by simp [go_sem, *]) ?_
      walk_nrm
      refine goes_value (.int .u64 0) rfl rfl (by k_ne) (fun _ _ => by go_simp; try (first | omega | (w_num; omega) | w_num | decide)) (fun _ _ => by simp [go_sem, *]) ?_
      walk_nrm
      refine goes_value (.int .u64 0) rfl rfl (by k_ne) (fun _ _ => by go_simp; try (first | omega | (w_num; omega) | w_num | decide)) (fun _ _ => by simp [go_sem, *]) ?_
      walk_nrm
      refine goes_value (.bool false) rfl rfl (by k_ne) (fun _ _ => by go_simp; try (first | omega | (w_num; omega) | w_num | decide)) (fun _ _ => by simp [go_sem, *]) ?_
      walk_nrm
      refine goes_value (.bool false) rfl rfl (by k_ne) (fun _ _ => by go_simp; try (first | omega | (w_num; omega) | w_num | decide)) (fun _ _ => by simp [go_sem, *]) ?_
      walk_nrm
      refine goes_value (.bool false) rfl rfl (by k_ne) (fun _ _ => by go_simp; try (first | omega | (w_num; omega) | w_num | decide)) (fun _ _ => by simp [go_sem, *]) ?_
      walk_nrm
      u_skip rl hF
      u_skip rl hF
      refine goes_value (.bool false) rfl rfl (by k_ne) (fun _ _ => by go_simp; try (first | omega | (w_num; omega) | w_num | decide)) (fun _ _ => by simp [go_sem, *]) ?_
      walk_nrm
      u_c stepG_region_end rl hF
      u_cond false rl hF
      u_c stepG_skip rl hF
      u_c stepG_ret' rl hF
      u_leave0 H.f_wait rl hF
      refine Goes.stop (fun w₁ h₁ => ⟨rfl, ?_⟩)
      exact GoX.mono (hT z hrz htz hdz) (by omega)
    · intro hv0 z hrz htz hcz hdz
      replace hdz : Deaf z.t 0 = 1 := hdz.trans hd
      replace hrz := hrt.trans hrz
      have hvV : v ≤ V + 1 := Nat.le_trans hvc hcnt
      clear hw w₁ hvc hcnt hd htag hrt x
      obtain ⟨S, hS⟩ : ∃ S : Int, S = (v : Int) * KK := ⟨_, rfl⟩
      rw [← hS]
      have a1 : S / 4294967296 = (v : Int) := by rw [hS]; simp only [KK]; omega
      have a2 : 0 ≤ S ∧ S < 9223372036854775808 := by rw [hS]; simp only [KK]; omega
      have b1 : bits .and .u64 S 2147483648 = 0 := by rw [hS]; have := Go.ConcN.st_flag v 0 (by omega) (by omega); simpa [KK] using this
      have b2 : bits .and .u64 S 2147483647 = 0 := by rw [hS]; have := Go.ConcN.st_waiters v 0 (by omega) (by omega); simpa [KK] using this
      have hvne : ((v : Int) == 0) = false := by simpa using hv0
      have hS' := Go.Lib.hid hS
      clear hS
      walk_nrm
      refine GoX.mono (n := (q + 420) + 100) (go0 hρ (m := q + 420) (n := 100) (by rw [htz]; simp) ?_) (by omega)
      have hF : True := trivial
      refine goes_value (.int .u64 S) rfl rfl (by k_ne) (fun _ _ => by go_simp; try (first | omega | (w_num; omega) | w_num | decide)) (fun _ _ => by simp [go_sem, *]) ?_
      walk_nrm
      u_c stepG_region_end rl hF
      u_c stepG_ret' rl hF
      u_leave1 H.f_uLoad rl hF
      refine goes_value (.int .u64 S) rfl rfl (by k_ne) (fun _ _ => by go_simp; try (first | omega | (w_num; omega) | w_num | decide)) (fun _ _ => by simp [go_sem, *]) ?_
      walk_nrm
      u_c stepG_region_end rl hF
      u_c stepG_seq rl hF
      u_reg rl hF
      refine goes_value (.int .u64 S) rfl rfl (by k_ne) (fun _ _ => by go_simp; try (first | omega | (w_num; omega) | w_num | decide)) (fun _ _ => by simp [go_sem, *]) ?_
      walk_nrm
      refine goes_value (.int .u64 (v : Int)) rfl rfl (by k_ne) (fun _ _ => by go_simp; try (first | omega | (w_num; omega) | w_num | decide)) (fun _ _ => by simp [go_sem, *]) ?_
      walk_nrm
      refine goes_value (.int .i32 (v : Int)) rfl rfl (by k_ne) (fun _ _ => by go_simp; try (first | omega | (w_num; omega) | w_num | decide)) (fun _ _ => by simp [go_sem, *]) ?_
      walk_nrm
      refine goes_value (.int .i32 (v : Int)) rfl rfl (by k_ne) (fun _ _ => by go_simp; try (first | omega | (w_num; omega) | w_num | decide)) (fun _ _ => by simp [go_sem, *]) ?_
      walk_nrm
      u_c stepG_region_end rl hF
      u_c stepG_seq rl hF
      u_reg rl hF
      refine goes_value (.int .u64 S) rfl rfl (by k_ne) (fun _ _ => by go_simp; try (first | omega | (w_num; omega) | w_num | decide)) (fun _ _ => by simp [go_sem, *]) ?_
      walk_nrm
      refine goes_value (.int .u64 0) rfl rfl (by k_ne) (fun _ _ => by go_simp; try (first | omega | (w_num; omega) | w_num | decide)) (fun _ _ => by simp [go_sem, *]) ?_
      walk_nrm
      refine goes_value (.int .u32 0) rfl rfl (by k_ne) (fun _ _ => by go_simp; try (first | omega | (w_num; omega) | w_num | decide)) (fun _ _ => by simp [go_sem, *]) ?_
      walk_nrm
      refine goes_value (.int .u32 0) rfl rfl (by k_ne) (fun _ _ => by go_simp; try (first | omega | (w_num; omega) | w_num | decide)) (fun _ _ => by simp [go_sem, *]) ?_
      walk_nrm
      u_c stepG_region_end rl hF
      u_c stepG_seq rl hF
      u_c stepG_seq rl hF
      u_reg rl hF
      refine goes_value (.int .i32 (v : Int)) rfl rfl (by k_ne) (fun _ _ => by go_simp; try (first | omega | (w_num; omega) | w_num | decide)) (fun _ _ => by simp [go_sem, *]) ?_
      walk_nrm
      refine goes_value (.bool false) rfl rfl (by k_ne) (fun _ _ => by go_simp; try (first | omega | (w_num; omega) | w_num | decide)) (fun _ _ => by simp [go_sem, *]) ?_
      walk_nrm
      u_c stepG_region_end rl hF
      u_cond false rl hF
      u_c stepG_skip rl hF
      u_c stepG_seq rl hF
      u_reg rl hF
      refine goes_value (.pointer (some ⟨K.Wg, 0, none⟩)) rfl rfl (by k_ne) (fun _ _ => by go_simp; try (first | omega | (w_num; omega) | w_num | decide)) (fun _ _ => by simp [go_sem, *]) ?_
      walk_nrm
      refine goes_value (.pointer (some ⟨K.Wg, 0, none⟩)) rfl rfl (by k_ne) (fun _ _ => by go_simp; try (first | omega | (w_num; omega) | w_num | decide)) (fun _ _ => by simp [go_sem, *]) ?_
      walk_nrm
      refine goes_value (.pointer (some ⟨K.Wg, 0, none⟩)) rfl rfl (by k_ne) (fun _ _ => by go_simp; try (first | omega | (w_num; omega) | w_num | decide)) (fun _ _ => by simp [go_sem, *]) ?_
      walk_nrm
      refine goes_value (.int .u64 S) rfl rfl (by k_ne) (fun _ _ => by go_simp; try (first | omega | (w_num; omega) | w_num | decide)) (fun _ _ => by simp [go_sem, *]) ?_
      walk_nrm
      refine goes_value (.int .u64 S) rfl rfl (by k_ne) (fun _ _ => by go_simp; try (first | omega | (w_num; omega) | w_num | decide)) (fun _ _ => by simp [go_sem, *]) ?_
      walk_nrm
      refine goes_value (.int .u64 (S + 1)) rfl rfl (by k_ne) (fun _ _ => by go_simp; try (first | omega | (w_num; omega) | w_num | decide)) (fun _ _ => by simp [go_sem, *]) ?_
      walk_nrm
      u_call H.f_uCas (nm_uCas L) uCasFn rl hF
      repeat (first | u_c stepG_seq rl hF | u_c stepG_region_end rl hF | u_reg rl hF | u_op rl hF)
      refine Goes.stop (fun w₁ h₁ => ⟨rfl, ?_⟩)
      clear h₁ hF
      refine GoX.cas hρ hKn (n := q + 419) v hv0 rfl htz (by omega) fun w₁ v' hv' hw => ?_
      rw [hty] at hw
      have hS := hS'.out
      refine ⟨?_, ?_⟩
      · rintro rfl
        rw [← hS] at hw ⊢
        refine ⟨_, (stepG_cas_hit (v := S) (n := S + 1) rfl rfl (by k_ne) rfl H.f_casU64 (x_casU64_n L) (x_casU64_b L) (x_casU64_x L) .u64 (x_casU64_f L) rfl rfl rfl hw.cellSt (hw.thaw 0)).trans (by rfl), rfl, ?_⟩
        clear hw w₁ hS hv'
        intro y hry hty0 hdy
        replace hdy : Deaf y.t 0 = 1 := hdy.trans hdz
        replace hry := hrz.trans hry
        have hty1 : y.tag ≠ .pre := fun e => by rw [e] at hty0; exact hty0
        clear hrz hcz htz hdz z
        walk_nrm
        refine GoX.mono (n := (q + 320) + 90) (go0 hρ (m := q + 320) (n := 90) hty1 ?_) (by omega)
        have hF : True := trivial
        refine goes_value (.bool true) rfl rfl (by k_ne) (fun _ _ => by go_simp; try (first | omega | (w_num; omega) | w_num | decide)) (fun _ _ => by simp [go_sem, *]) ?_
        walk_nrm
        repeat (first | u_c stepG_region_end rl hF | u_op rl hF)
        u_c stepG_ret' rl hF
        u_leave1 H.f_uCas rl hF
        u_c stepG_region_end rl hF
        u_cond true rl hF
        u_c stepG_seq rl hF
        u_c stepG_seq rl hF
        u_reg rl hF
        refine goes_value (.bool true) rfl rfl (by k_ne) (fun _ _ => by go_simp; try (first | omega | (w_num; omega) | w_num | decide)) (fun _ _ => by simp [go_sem, *]) ?_
        walk_nrm
        refine goes_value (.int .u32 0) rfl rfl (by k_ne) (fun _ _ => by go_simp; try (first | omega | (w_num; omega) | w_num | decide)) (fun _ _ => by simp [go_sem, *]) ?_
        walk_nrm
        refine goes_value (.bool true) rfl rfl (by k_ne) (fun _ _ => by go_simp; try (first | omega | (w_num; omega) | w_num | decide)) (fun _ _ => by simp [go_sem, *]) ?_
        walk_nrm
        refine goes_value (.bool true) rfl rfl (by k_ne) (fun _ _ => by go_simp; try (first | omega | (w_num; omega) | w_num | decide)) (fun _ _ => by simp [go_sem, *]) ?_
        walk_nrm
        u_c stepG_region_end rl hF
        u_cond true rl hF
        u_reg rl hF
        refine goes_value (.pointer (some ⟨K.Wg, 0, none⟩)) rfl rfl (by k_ne) (fun _ _ => by go_simp; try (first | omega | (w_num; omega) | w_num | decide)) (fun _ _ => by simp [go_sem, *]) ?_
        walk_nrm
        refine goes_value (.pointer (some ⟨K.Wg, 0, none⟩)) rfl rfl (by k_ne) (fun _ _ => by go_simp; try (first | omega | (w_num; omega) | w_num | decide)) (fun _ _ => by simp [go_sem, *]) ?_
        walk_nrm
        refine goes_value (.pointer (some ⟨K.Wg, 1, none⟩)) rfl rfl (by k_ne) (fun _ _ => by go_simp; try (first | omega | (w_num; omega) | w_num | decide)) (fun _ _ => by simp [go_sem, *]) ?_
        walk_nrm
        u_in rl hF
        refine goes_oper_k rfl rfl (by k_ne) (fun Kx hKx => ?_)
        have hcv := run_convert_to_unsafe (P := K.P) H.underlying_tPU32 H.underlying_tUP H.room_tU32 (Go.ConcN.Gen.WgLive.cell1 hF).choose_spec
        have hce := fun es => events_convert_to_unsafe (P := K.P) H.underlying_tPU32 H.underlying_tUP H.room_tU32 (Go.ConcN.Gen.WgLive.cell1 hF).choose_spec es
        go_simp
        refine hKx _ _ ⟨?_, ?_⟩
        · u_none
          intro ex hex
          have hmx := mem_listed hex
          simp [go_sem, hce] at hmx
        clear hKx Kx hcv hce
        refine Goes.stop (fun w₁ h₁ => ⟨rfl, ?_⟩)
        clear h₁ hF
        refine (LGo.reads (n := q + 319) (x := y) rfl rfl (fun x₁ r hi => ⟨_, by rw [hρ]; exact stepG_markAt .write (by simp) rfl rfl (by k_ne) rfl H.f_raceWrite (x_raceWrite_n L) (x_raceWrite_b L) (x_raceWrite_x L) (x_raceWrite_f L) (ad := ⟨K.Wg, 1, none⟩) (by simp [Act.eval]), fun xe xhe => ?_⟩) ?_) (.inl hρ)
        · simp only [List.mem_toArray, List.mem_singleton] at xhe
          subst xhe
          rw [hρ] at r
          have ht1 := r.tagW hty1
          obtain ⟨c1, c2, c3⟩ := hi.cls ht1
          obtain ⟨st, sm, hwg⟩ := hi.grp.wg ht1
          refine ⟨fun b hb => ?_, wg_lt hwg, fun m hm => by cases hm; simp⟩
          simp only [MemAct.ofEvent, MemAct.touch?, Option.some.injEq] at hb
          subst hb
          refine ⟨⟨K.Wg, 1, none⟩, rfl, ?_⟩
          simp [c1, hρ]
        walk_nrm
        intro hbz
        clear hbz
        refine GoX.mono (n := (q + 240) + 70) (go0 hρ (m := q + 240) (n := 70) hty1 ?_) (by omega)
        have hF : True := trivial
        u_c stepG_region_end rl hF
        u_c stepG_seq rl hF
        u_reg rl hF
        refine goes_value (.bool false) rfl rfl (by k_ne) (fun _ _ => by go_simp; try (first | omega | (w_num; omega) | w_num | decide)) (fun _ _ => by simp [go_sem, *]) ?_
        walk_nrm
        u_c stepG_region_end rl hF
        u_c stepG_seq rl hF
        u_c stepG_seq rl hF
        u_reg rl hF
        refine goes_value (.int .u64 S) rfl rfl (by k_ne) (fun _ _ => by go_simp; try (first | omega | (w_num; omega) | w_num | decide)) (fun _ _ => by simp [go_sem, *]) ?_
        walk_nrm
        refine goes_value (.int .u64 0) rfl rfl (by k_ne) (fun _ _ => by go_simp; try (first | omega | (w_num; omega) | w_num | decide)) (fun _ _ => by simp [go_sem, *]) ?_
        walk_nrm
        refine goes_value (.bool false) rfl rfl (by k_ne) (fun _ _ => by go_simp; try (first | omega | (w_num; omega) | w_num | decide)) (fun _ _ => by simp [go_sem, *]) ?_
        walk_nrm
        refine goes_value (.bool false) rfl rfl (by k_ne) (fun _ _ => by go_simp; try (first | omega | (w_num; omega) | w_num | decide)) (fun _ _ => by simp [go_sem, *]) ?_
        walk_nrm
        u_skip rl hF
        refine goes_value (.bool false) rfl rfl (by k_ne) (fun _ _ => by go_simp; try (first | omega | (w_num; omega) | w_num | decide)) (fun _ _ => by simp [go_sem, *]) ?_
        walk_nrm
        u_c stepG_region_end rl hF
        u_cond false rl hF
        u_c stepG_skip rl hF
        u_c stepG_seq rl hF
        u_reg rl hF
        refine goes_value (.pointer (some ⟨K.Wg, 0, none⟩)) rfl rfl (by k_ne) (fun _ _ => by go_simp; try (first | omega | (w_num; omega) | w_num | decide)) (fun _ _ => by simp [go_sem, *]) ?_
        walk_nrm
        refine goes_value (.pointer (some ⟨K.Wg, 0, none⟩)) rfl rfl (by k_ne) (fun _ _ => by go_simp; try (first | omega | (w_num; omega) | w_num | decide)) (fun _ _ => by simp [go_sem, *]) ?_
        walk_nrm
        refine goes_value (.pointer (some ⟨K.Wg, 1, none⟩)) rfl rfl (by k_ne) (fun _ _ => by go_simp; try (first | omega | (w_num; omega) | w_num | decide)) (fun _ _ => by simp [go_sem, *]) ?_
        walk_nrm
        refine goes_value (.bool false) rfl rfl (by k_ne) (fun _ _ => by go_simp; try (first | omega | (w_num; omega) | w_num | decide)) (fun _ _ => by simp [go_sem, *]) ?_
        walk_nrm
        refine Goes.stop (fun w₁ h₁ => ⟨rfl, ?_⟩)
        clear h₁ hF
        refine GoX.sema hρ (n := q + 239) rfl rfl hty0 (fun w hw => ?_) (fun w hw => ?_)
        · obtain ⟨st, hw⟩ := hw
          rw [hty] at hw
          exact stepG_semacquire_wait rfl rfl rfl H.f_semacquire (x_semacquire_n L) (x_semacquire_b L) (x_semacquire_x L) (x_semacquire_f L) (by simp [Act.eval, smA]) hw.cellSm
        rw [hty] at hw
        refine ⟨_, (stepG_semacquire (n := 1) rfl rfl (by k_ne) rfl H.f_semacquire (x_semacquire_n L) (x_semacquire_b L) (x_semacquire_x L) (x_semacquire_f L) (by simp [Act.eval, smA]) hw.cellSm (by k_ne) (hw.thaw 1)).trans (by rfl), rfl, ?_⟩
        clear hw w
        intro z hrz htz hdz
        replace hdz : Deaf z.t 0 = 1 := hdz.trans hdy
        replace hrz := hry.trans hrz
        clear hry hty0 hty1 hdy y
        walk_nrm
        refine GoX.mono (n := (q + 190) + 40) (go0 hρ (m := q + 190) (n := 40) (by rw [htz]; simp) ?_) (by omega)
        have hF : True := trivial
        u_c stepG_region_end rl hF
        u_c stepG_seq rl hF
        u_reg rl hF
        refine goes_value (.pointer (some ⟨K.Wg, 0, none⟩)) rfl rfl (by k_ne) (fun _ _ => by go_simp; try (first | omega | (w_num; omega) | w_num | decide)) (fun _ _ => by simp [go_sem, *]) ?_
        walk_nrm
        refine goes_value (.pointer (some ⟨K.Wg, 0, none⟩)) rfl rfl (by k_ne) (fun _ _ => by go_simp; try (first | omega | (w_num; omega) | w_num | decide)) (fun _ _ => by simp [go_sem, *]) ?_
        walk_nrm
        refine goes_value (.pointer (some ⟨K.Wg, 0, none⟩)) rfl rfl (by k_ne) (fun _ _ => by go_simp; try (first | omega | (w_num; omega) | w_num | decide)) (fun _ _ => by simp [go_sem, *]) ?_
        walk_nrm
        u_call H.f_uLoad (nm_uLoad L) uLoadFn rl hF
        u_c stepG_seq rl hF
        u_reg rl hF
        refine goes_value (.int .u64 0) rfl rfl (by k_ne) (fun _ _ => by go_simp; try (first | omega | (w_num; omega) | w_num | decide)) (fun _ _ => by simp [go_sem, *]) ?_
        walk_nrm
        u_c stepG_region_end rl hF
        u_c stepG_seq rl hF
        u_reg rl hF
        u_op rl hF
        u_op rl hF
        u_op rl hF
        refine Goes.stop (fun w₁ h₁ => ⟨rfl, ?_⟩)
        clear h₁ hF
        refine GoX.lookF hρ (n := q + 189) rfl htz fun w₁ hw => ?_
        rw [hty] at hw
        refine ⟨_, stepG_load_atomic rfl rfl (by k_ne) rfl H.f_loadU64 (x_loadU64_n L) (x_loadU64_b L) (x_loadU64_x L) .u64 (x_loadU64_f L) rfl hw.cellSt, rfl, ?_⟩
        clear hw w₁
        intro y hry hty0 hdy
        replace hdy : Deaf y.t 0 = 1 := hdy.trans hdz
        replace hry := hrz.trans hry
        clear hrz htz hdz z
        walk_nrm
        refine GoX.mono (n := (q + 140) + 40) (go0 hρ (m := q + 140) (n := 40) (by rw [hty0]; simp) ?_) (by omega)
        have hF : True := trivial
        refine goes_value (.int .u64 0) rfl rfl (by k_ne) (fun _ _ => by go_simp; try (first | omega | (w_num; omega) | w_num | decide)) (fun _ _ => by simp [go_sem, *]) ?_
        walk_nrm
        u_c stepG_region_end rl hF
        u_c stepG_ret' rl hF
        u_leave1 H.f_uLoad rl hF
        refine goes_value (.bool false) rfl rfl (by k_ne) (fun _ _ => by go_simp; try (first | omega | (w_num; omega) | w_num | decide)) (fun _ _ => by simp [go_sem, *]) ?_
        walk_nrm
        refine goes_value (.bool false) rfl rfl (by k_ne) (fun _ _ => by go_simp; try (first | omega | (w_num; omega) | w_num | decide)) (fun _ _ => by simp [go_sem, *]) ?_
        walk_nrm
        u_c stepG_region_end rl hF
        u_c stepG_seq rl hF
        u_cond true rl hF
        u_c stepG_seq rl hF
        u_reg rl hF
        obtain ⟨z, hez⟩ : ∃ z, z = y := ⟨_, rfl⟩
        have hrz : RT K 0 x0 z := by rw [hez]; exact hry
        have htz : z.tag = .fin := by rw [hez]; exact hty0
        have hdz : Deaf z.t 0 = 1 := by rw [hez]; exact hdy
        rw [← hez]
        clear hry hty0 hdy hez y
        refine Goes.stop (fun w₁ h₁ => ⟨rfl, ?_⟩)
        clear h₁ hF
        refine GoX.mark (ρ := ρ) (n := q + 139) (.inr rfl) rfl rfl (.inl hρ) (by rw [htz]; simp) (fun w => by rw [hρ]; exact stepG_mark0 .enable (by simp) rfl rfl (by k_ne) rfl H.f_enable (x_enable_n L) (x_enable_b L) (x_enable_x L) (x_enable_f L)) ?_
        intro y hry hs6 hdy h00 htagy
        rw [hρ] at hry hdy
        replace hdy : Deaf y.t 0 = 0 := by rw [hdy, hdz]; rfl
        replace hry := hrz.trans hry
        have hty0 := (h00 hρ).1.fin htz
        clear htagy h00 hs6 hrz htz hdz z
        walk_nrm
        refine GoX.mono (n := (q + 100) + 30) (go0 hρ (m := q + 100) (n := 30) (by rw [hty0]; simp) ?_) (by omega)
        have hF : True := trivial
        u_c stepG_region_end rl hF
        u_reg rl hF
        refine goes_value (.pointer (some ⟨K.Wg, 0, none⟩)) rfl rfl (by k_ne) (fun _ _ => by go_simp; try (first | omega | (w_num; omega) | w_num | decide)) (fun _ _ => by simp [go_sem, *]) ?_
        walk_nrm
        u_in rl hF
        refine goes_oper_k rfl rfl (by k_ne) (fun Kx hKx => ?_)
        have hcv := run_convert_to_unsafe (P := K.P) H.underlying_tWgP H.underlying_tUP H.room_tWg (Go.ConcN.Gen.WgLive.cell0 hF).choose_spec
        have hce := fun es => events_convert_to_unsafe (P := K.P) H.underlying_tWgP H.underlying_tUP H.room_tWg (Go.ConcN.Gen.WgLive.cell0 hF).choose_spec es
        go_simp
        refine hKx _ _ ⟨?_, ?_⟩
        · u_none
          intro ex hex
          have hmx := mem_listed hex
          simp [go_sem, hce] at hmx
        clear hKx Kx hcv hce
        refine Goes.stop (fun w₁ h₁ => ⟨rfl, ?_⟩)
        clear h₁ hF
        refine GoX.acquire hρ (n := q + 99) rfl rfl hty0 hdy (fun w => stepG_markAt .acquire (by simp) rfl rfl (by k_ne) rfl H.f_acquire (x_acquire_n L) (x_acquire_b L) (x_acquire_x L) (x_acquire_f L) (by simp [Act.eval, stA])) ?_
        intro z hrz htz hdz
        replace hrz := hry.trans hrz
        clear hry hty0 hdy y
        walk_nrm
        refine GoX.mono (n := (q + 40) + 40) (go0 hρ (m := q + 40) (n := 40) (by rw [htz]; simp) ?_) (by omega)
        have hF : True := trivial
        u_c stepG_region_end rl hF
        u_c stepG_seq rl hF
        u_c stepG_seq rl hF
        u_reg rl hF
        refine goes_value (.bool false) rfl rfl (by k_ne) (fun _ _ => by go_simp; try (first | omega | (w_num; omega) | w_num | decide)) (fun _ _ => by simp [go_sem, *]) ?_
        walk_nrm
        u_c stepG_region_end rl hF
        u_cond false rl hF
        u_c stepG_skip rl hF
        u_c stepG_ret' rl hF
        u_leave0 H.f_wait rl hF
        refine Goes.stop (fun w₁ h₁ => ⟨rfl, ?_⟩)
        exact GoX.mono (hT z hrz htz hdz) (by omega)
      · intro hne
        refine ⟨_, stepG_cas_miss (v := (v' : Int) * KK) (old := S) (n := S + 1) rfl rfl (by k_ne) rfl H.f_casU64 (x_casU64_n L) (x_casU64_b L) (x_casU64_x L) .u64 (x_casU64_f L) rfl rfl rfl hw.cellSt (hw.thaw 0) (by rw [hS]; simp only [KK]; omega), rfl, ?_⟩
        clear hw w₁ hS
        intro y hry hty0 hcy hdy
        replace hdy : Deaf y.t 0 = 1 := hdy.trans hdz
        replace hry := hrz.trans hry
        clear hrz hcz htz hdz z
        walk_nrm
        refine GoX.mono (n := (qt + 600 * V + 600) + 40) (go0 hρ (m := qt + 600 * V + 600) (n := 40) (by rw [hty0]; simp) ?_) (by omega)
        have hF : True := trivial
        refine goes_value (.bool false) rfl rfl (by k_ne) (fun _ _ => by go_simp; try (first | omega | (w_num; omega) | w_num | decide)) (fun _ _ => by simp [go_sem, *]) ?_
        walk_nrm
        repeat (first | u_c stepG_region_end rl hF | u_op rl hF)
        u_c stepG_ret' rl hF
        u_leave1 H.f_uCas rl hF
        u_c stepG_region_end rl hF
        u_cond false rl hF
        u_c stepG_skip rl hF
        u_c stepG_inBlock rl hF
        u_c stepG_inLoop rl hF
        refine Goes.stop (fun w₁ h₁ => ⟨rfl, ?_⟩)
        exact ih _ rfl y hry hty0 (by omega) hdy B hBB _ rfl rfl

theorem waitBody_eq (L : WgLink) : (waitFn L).body = some (.seq (.cond (.const (.bool true)) (.region 0 #[{ dst := some 7, op := .call { callee := .value (.func L.disable), args := #[], argTypes := #[] }, type := 0, pos := "waitgroup.go:162", after := #[], guard := none }] false) .skip) (.block 0 (.loop (waitBody L)))) := rfl

set_option maxRecDepth 100000 in
set_option maxHeartbeats 8000000 in
theorem wait_ok (K : Crew) (ρ : Role) (hρ : ρ.i = 0) (H : WgLib K.P L) (hty : K.ty = L.tWg) (hKn : K.n ≤ 1000) {b₀ : Frame} {a₀ : Act} {ops₀ : Array Oper} {i₀ : Nat} {rest₀ : List Nat} {k₀ : List Item} {cs : List Frame} {qt : Nat} {x0 : Sx} (htag : x0.tag = .opn) (hd : Deaf x0.t 0 = 0) (V : Nat) (hV : cnt K x0 ≤ V)
    (hT : ∀ x', RT K 0 x0 x' → x'.tag = .done → Deaf x'.t 0 = 0 → GoX K ρ qt (G (b₀.at (a₀.put ((ops₀[i₀]?).bind (·.dst)) (.tuple #[])) (.inRegion ops₀ rest₀ :: k₀)) cs) x')
    {T : Array Value} (hsz : T.size = 84) (hT0 : T.getD 0 undef = .pointer (some ⟨K.Wg, 0, none⟩)) {c : Code} (hc : (waitFn L).body = some c) :
    GoX K ρ (qt + 600 * V + 700) (G ((base L.wait).at ⟨T, []⟩ [.code c]) (b₀.at a₀ (.inRegion ops₀ (i₀ :: rest₀) :: k₀) :: cs)) x0 := by
  have rl : ∀ {A : Prop} {w₁ : World}, A → WgLive K.ty K.Wg w₁ → WgLive L.tWg K.Wg w₁ := fun _ h => hty ▸ h
  rw [waitBody_eq] at hc
  obtain rfl := Option.some.inj hc
  obtain ⟨B, hB⟩ : ∃ B, B = waitBody L := ⟨_, rfl⟩
  rw [← hB]
  refine GoX.mono (n := (qt + 600 * V + 680) + 10) (go0 hρ (m := qt + 600 * V + 680) (n := 10) (by rw [htag]; simp) ?_) (by omega)
  have hF : True := trivial
  u_c stepG_seq rl hF
  u_cond true rl hF
  u_reg rl hF
  refine Goes.stop (fun w₁ h₁ => ⟨rfl, ?_⟩)
  clear h₁ hF
  refine GoX.mark (ρ := ρ) (n := qt + 600 * V + 679) (.inl rfl) rfl rfl (.inl hρ) (by rw [htag]; simp) (fun w => by rw [hρ]; exact stepG_mark0 .disable (by simp) rfl rfl (by k_ne) rfl H.f_disable (x_disable_n L) (x_disable_b L) (x_disable_x L) (x_disable_f L)) ?_
  intro y hrt hs6 hdy h00 htagy
  rw [hρ] at hrt hdy
  replace hdy : Deaf y.t 0 = 1 := by rw [hdy, hd]; rfl
  have htag1 := (h00 hρ).1.opn htag
  have hcn := (h00 hρ).2
  refine GoX.mono (n := (qt + 600 * V + 600) + 40) (go0 hρ (m := qt + 600 * V + 600) (n := 40) (by rw [htag1]; simp) ?_) (by omega)
  have hF : True := trivial
  u_c stepG_region_end rl hF
  u_c stepG_block rl hF
  u_c stepG_loop rl hF
  refine Goes.stop (fun w₁ h₁ => ⟨rfl, ?_⟩)
  exact wait_loop K ρ hρ H hty hKn x0 hT B hB V _ rfl y hrt htag1 (by omega) hdy B hB _ (by simp [Act.put, hsz]) (by simp [Act.put, Array.getD, hsz] at hT0 ⊢; simpa using hT0)
end
end Go.Crew
