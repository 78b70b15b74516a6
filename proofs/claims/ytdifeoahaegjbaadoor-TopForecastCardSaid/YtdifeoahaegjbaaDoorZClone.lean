/- slices.Clone, slices.Insert at the end, of changes. -/
import Derived.Test.YtdifeoahaegjbaaDoorZMake
import Derived.Lib.SliceRun
namespace Go.Proofs.YtdifeoahaegjbaaDoor
open Go.RowKit
set_option linter.unusedSimpArgs false
set_option linter.unusedVariables false

theorem ch_nil {w : World} {n cap : Nat} {cs : List Chg} (h : ChSl w none n cap cs) : n = 0 ∧ cs = [] := by
  have hn : n = 0 := by
    rcases Nat.eq_zero_or_pos n with e | e
    · exact e
    · obtain ⟨b, off, hA, _⟩ := h.mem e; cases hA
  exact ⟨hn, List.eq_nil_of_length_eq_zero (by rw [h.len]; exact hn)⟩

set_option maxRecDepth 100000 in
set_option maxHeartbeats 4000000 in
theorem clone_ok (A : Option Addr) (n cap : Nat) (cs : List Chg) (w : World) (h : ChSl w A n cap cs) (hn : n ≤ 200) :
    Calls Tryd.prog 13 #[.slice A n cap] w fun e w' => ∃ v, e = .returned v ∧ w'.ownsRow w.heap.size 36 3 v n (chCs cs) ∧ Below w.heap.size w w' := by
  cases A with
  | none =>
    obtain ⟨rfl, rfl⟩ := ch_nil h
    refine Calls.mono (Tryd.cloneCh_nil 0 cap w) ?_
    rintro e _ ⟨rfl, rfl⟩
    exact ⟨_, rfl, World.ownsRow_nil _ _ _ _, Below.refl _ _⟩
  | some ad =>
    obtain ⟨iC, hC0, hC1, hC2, hC3⟩ := info_parts Tryd.infoCh
    have HW := Lib.hid h.news
    have HL := Lib.hid h.len
    have q22 : ∀ (w : World) (a : Option Addr) (n c n' c' : Nat), (binOp .eql 22 (.slice a n c) (.slice none n' c')).run Tryd.prog w = .ok (.bool a.isNone) w := fun w a n c n' c' => Lib.run_eql_slice_nil w _ _ a n c n' c' Tryd.underlying22
    clear h
    go_enter Tryd.func13, Tryd.ntmps13
    go_wp2_with (at_builtin; refine wpList_append_own _ rfl _ _ 22 rfl w.heap.size 36 iC _ 3 32 Tryd.underlying22 hC0 hC1 hC2 hC3 rfl (by omega) _ _ _ rfl (World.ownsRow_made w #[] 0 (Nat.le_refl _) (Nat.zero_le _) (by simp)) ad n cap (chCs cs) rfl ?qc1 ?qc2 ?qc3 ?qc4 ?qc5 ?qc6 ?_)
    case qc1 => rw [chCs_len, HL.out]
    case qc2 =>
      intro j u hj
      have := HW.out j u hj
      have hb := (Below.refl w.heap.size w).alloc (Nat.le_refl _) (.cells #[] 36)
      exact (hb.cell (World.block_lt_of_cell? w _ this)).trans this
    case qc3 => exact chCs_one cs
    case qc4 => unfold maxLen; omega
    case qc5 => omega
    case qc6 => simp
    intro v' w1 hown hgrow hnil
    go_wp2
    go_ret
    refine ⟨v', rfl, by simpa using hown, ?_⟩
    exact ((Below.refl _ w).alloc (Nat.le_refl _) _).grown hgrow (by simp) (by intro k hk; simp [Value.ownBlock] at hk; omega)

set_option maxRecDepth 100000 in
set_option maxHeartbeats 4000000 in
/-- slices.Insert of one change at the end. -/
theorem insert_ok (v : Value) (n : Nat) (cs : List Chg) (c : Chg) (b : Nat) (base : Nat) (w : World) (h : w.ownsRow base 36 3 v n (chCs cs)) (hn : n ≤ 400) (hbs : base ≤ w.heap.size)
    (hc : CgBox w b (.int .i64 c.at') (.int .i64 c.off) (.string c.lab)) :
    Calls Tryd.prog 37 #[v, .int .i64 n, .slice (some ⟨b, 0, none⟩) 1 1] w fun e w' => ∃ v', e = .returned v' ∧ w'.ownsRow base 36 3 v' (n + 1) (chCs (cs ++ [c])) ∧ Below base w w' := by
  obtain ⟨iC, hC0, hC1, hC2, hC3⟩ := info_parts Tryd.infoCh
  have H := Lib.hid h
  have hnews : ∀ j u, (chC c)[j]? = some u → w.cell? ((⟨b, 0, none⟩ : Addr).add j) = some u := by
    intro j u hj
    rw [add_at0, Nat.zero_add]
    match j, hj with
    | 0, hj => simp [chC] at hj; subst hj; exact hc.c0
    | 1, hj => simp [chC] at hj; subst hj; exact hc.c1
    | 2, hj => simp [chC] at hj; subst hj; exact hc.c2
  have HW := Lib.hid hnews
  obtain ⟨A, cap, hv, hle, hcm⟩ : ∃ A cap, v = .slice A n cap ∧ n ≤ cap ∧ cap ≤ maxLen := by
    rcases h.2 with ⟨rfl, rfl⟩ | ⟨g, cap, cur, rfl, _, _, h1, h2, _⟩
    · exact ⟨_, _, rfl, Nat.le_refl _, by simp [maxLen]⟩
    · exact ⟨_, _, rfl, h1, h2⟩
  subst hv
  have HLT := Lib.hid h.lt
  unfold maxLen at hcm
  have n0 : (0 : Int) ≤ (n : Int) := by omega
  have n1 : (n : Int) ≤ (cap : Int) := by omega
  clear h hc hnews
  go_enter Tryd.func37, Tryd.ntmps37
  go_wp2_with (at_builtin; refine wpList_append_own _ rfl _ _ 22 rfl base 36 iC _ 3 32 Tryd.underlying22 hC0 hC1 hC2 hC3 rfl (by omega) _ n _ rfl H.out ⟨b, 0, none⟩ 1 1 (chC c) rfl (by rfl) HW.out (by simp [chC, Value.oneCell']) (by unfold maxLen; omega) (by omega) hbs ?_)
  all_goals try (first | exact HW.out | rfl | (unfold maxLen; omega) | omega | (simp [chC, Value.oneCell']; done))
  all_goals
    intro v' w1 hown hgrow hnil
    go_wp2
    go_ret
    refine ⟨v', rfl, ?_, (Below.refl base w).grown hgrow hbs (fun k hk => (HLT.out k (by cases A with | none => exact hk | some _ => exact hk)).1)⟩
    rw [chCs_app]
    simpa [chCs] using hown
end Go.Proofs.YtdifeoahaegjbaaDoor
