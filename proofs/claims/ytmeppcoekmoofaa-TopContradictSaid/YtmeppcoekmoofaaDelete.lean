/- The contracts of slices.Clone and slices.Delete at constraints. -/
import Derived.Test.YtmeppcoekmoofaaSetMany
import Derived.Test.YtmeppcoekmoofaaEvents
import Derived.Deep.RegionLaw
import Derived.Lib.SliceRun
import Derived.WalkSpells
namespace Go.Proofs.Ytmeppcoekmoofaa
open Go.RowKit
set_option linter.unusedSimpArgs false
set_option linter.unusedVariables false

def ClonePost (n : Nat) (zs : List Int) (w : World) (e : Ending) (w' : World) : Prop :=
  ∃ v, e = .returned v ∧ w'.ownsRow w.heap.size 64 4 v n (zs.map (Value.int .i64)) ∧ Below w.heap.size w w'

set_option maxRecDepth 100000 in
set_option maxHeartbeats 4000000 in
theorem clone_any (A : Option Addr) (n cap : Nat) (zs : List Int) (w : World) (h : FlatSl w 4 A n cap zs) (hn : n ≤ 1000) :
    Calls Try.prog 57 #[.slice A n cap] w (ClonePost n zs w) := by
  obtain ⟨iB, hB0, hB1, hB2, hB3⟩ := info_parts Try.infoBd
  have hlen := h.len
  cases A with
  | none =>
    have n0 : n = 0 := by
      rcases Nat.eq_zero_or_pos n with h0 | h0
      · exact h0
      · obtain ⟨b, off, h1, _⟩ := h.at' h0; cases h1
    subst n0
    have hz : zs = [] := List.eq_nil_of_length_eq_zero (by simpa using hlen)
    subst hz
    clear h hlen
    have hq := fun (wx : World) => Lib.run_eql_slice_nil (P := Try.prog) wx 23 64 none 0 cap 0 0 Try.underlying23
    simp only [Option.isNone_none] at hq
    go_enter Try.func57, Try.ntmps57
    go_wp2_with fail
    go_ret
    exact ⟨_, rfl, World.ownsRow_nil _ _ _ _, Below.refl _ _⟩
  | some a =>
    have HL := Lib.hid hlen; clear hlen
    have hq := fun (wx : World) => Lib.run_eql_slice_nil (P := Try.prog) wx 23 64 (some a) n cap 0 0 Try.underlying23
    simp only [Option.isNone_some] at hq
    have hnews : ∀ j u, (zs.map (Value.int .i64))[j]? = some u → w.cell? (a.add j) = some u := by
      intro j u hu
      have hj : j < n * 4 := by
        have := (List.getElem?_eq_some_iff.1 hu).1
        rw [List.length_map, HL.out] at this
        exact this
      obtain ⟨b, off, h1, h2⟩ := h.at' (by omega)
      cases h1
      have h3 := h2 j hj
      rw [List.getElem?_map] at hu
      have h4 : zs[j]? = some (ix zs j) := by
        rw [List.getElem?_eq_getElem (by rw [HL.out]; exact hj)]
        simp [ix, List.getD, List.getElem?_eq_getElem (show j < zs.length by rw [HL.out]; exact hj)]
      rw [h4] at hu
      simp only [Option.map_some, Option.some.injEq] at hu
      subst hu
      rw [show (⟨b, off, none⟩ : Addr).add j = ⟨b, off + j, none⟩ by unfold Addr.add; split <;> simp_all]
      exact h3
    have HNEWS := Lib.hid hnews; clear hnews h
    go_enter Try.func57, Try.ntmps57
    have hmade := World.ownsRow_made (base := w.heap.size) (e := 64) (size := 4) w #[] 0 (Nat.le_refl _) (by unfold maxLen; omega) (by simp)
    have hb0 : Below w.heap.size w (w.alloc (.cells #[] 64)) := (Below.refl _ _).alloc (Nat.le_refl _) _
    have HM := Lib.hid hmade; clear hmade
    go_wp2_with (at_builtin; refine wpList_append_own _ rfl _ _ 23 rfl w.heap.size 64 iB (.agg #[.int .i64 0, .int .i64 0, .int .i64 0, .int .i64 0]) 4 32 Try.underlying23 hB0 hB1 hB2 hB3 rfl (by decide) _ _ _ rfl HM.out a n cap (zs.map (Value.int .i64)) rfl ?c1 ?c2 ?c3 ?c4 ?c5 ?c6 ?_)
    case c1 => rw [List.length_map]; exact HL.out
    case c2 =>
      intro j u hu
      have := HNEWS.out j u hu
      exact Lib.cell?_alloc_some _ this
    case c3 => intro u hu; obtain ⟨z, _, rfl⟩ := List.mem_map.1 hu; rfl
    case c4 => unfold maxLen; omega
    case c5 => omega
    case c6 => simp
    · intro v' w2 hown' hgrow _
      have hb2 := hb0.grown hgrow (by simp) (fun q hq => (HM.out.lt q hq).1)
      have R : Hid (w2.ownsRow w.heap.size 64 4 v' n (zs.map (Value.int .i64))) := Lib.hid (by simpa using hown')
      clear hown' hgrow
      go_wp2_with fail
      go_ret
      exact ⟨_, rfl, R.out, hb2⟩

def DelPost (base m i g cap : Nat) (zs : List Int) (w : World) (e : Ending) (w' : World) : Prop :=
  e = .returned (.slice (some ⟨g, 0, none⟩) m cap) ∧ w'.ownsRow base 64 4 (.slice (some ⟨g, 0, none⟩) m cap) m ((zs.take (i * 4) ++ zs.drop ((i + 1) * 4)).map (Value.int .i64)) ∧ w.grownBy w' (some g)

theorem run_clear_one (w : World) (ty : TypeId) (g o c : Nat) (hc : ∀ j, j < 4 → (w.cell? ⟨g, o + j, none⟩).isSome = true) (hf : ∀ j, j < 4 → w.frozen? ⟨g, o + j, none⟩ = false) :
    (Builtin.clear_ #[23] ty #[.slice (some ⟨g, o, none⟩) 1 c]).run Try.prog w = .ok (.tuple #[]) (w.setCells g o (List.replicate 4 (.int .i64 0))) := by
  have hst := run_storeCells_cells (P := Try.prog) g o (List.replicate 4 (.int .i64 0)) 0 w (by simpa using hc) (by simpa using hf) (by intro v hv; rw [List.eq_of_mem_replicate hv]; rfl)
  have hz : ∀ w, (zeroValue 64).run Try.prog w = .ok (.agg #[.int .i64 0, .int .i64 0, .int .i64 0, .int .i64 0]) w := fun w => by kernel_rfl
  have hzc : (Builtin.zeroCells (Value.cells (.agg #[.int .i64 0, .int .i64 0, .int .i64 0, .int .i64 0])) 1).toList = List.replicate 4 (.int .i64 0) := by kernel_rfl
  simp only [Nat.add_zero, List.replicate] at hst hzc ⊢
  simp [Builtin.clear_, run_underlying Try.underlying23, hz, hzc, hst]

set_option maxRecDepth 100000 in
set_option maxHeartbeats 8000000 in
theorem delete_one (base g cap i r : Nat) (zs : List Int) (w : World) (hown : w.ownsRow base 64 4 (.slice (some ⟨g, 0, none⟩) (i + 1 + r) cap) (i + 1 + r) (zs.map (Value.int .i64))) (hn : i + 1 + r ≤ 1000) :
    Calls Try.prog 73 #[.slice (some ⟨g, 0, none⟩) (i + 1 + r) cap, .int .i64 i, .int .i64 (i + 1)] w (DelPost base (i + r) i g cap zs w) := by
  obtain ⟨iB, hB0, hB1, hB2, hB3⟩ := info_parts Try.infoBd
  have hlen : (zs.map (Value.int .i64)).length = (i + 1 + r) * 4 := hown.1
  obtain ⟨xs, hxs⟩ : ∃ xs, xs = zs.map (Value.int .i64) := ⟨_, rfl⟩
  rw [← hxs] at hown hlen
  have hcap : i + 1 + r ≤ cap := by
    rcases hown.2 with ⟨h, _⟩ | ⟨_, _, _, h, _, _, h2, _⟩
    · cases h
    · simp only [Value.slice.injEq] at h; omega
  have hmost : cap ≤ 9223372036854775807 := by
    rcases hown.2 with ⟨h, _⟩ | ⟨_, _, _, h, _, _, _, h2, _⟩
    · cases h
    · simp only [Value.slice.injEq] at h; unfold maxLen at h2; omega
  have hone : ∀ u, u ∈ xs → u.oneCell' = true := by
    rw [hxs]
    intro u hu
    obtain ⟨z, _, rfl⟩ := List.mem_map.1 hu
    rfl
  have hsome : ∀ j, j < (i + 1 + r) * 4 → (w.cell? ⟨g, j, none⟩).isSome = true := fun j hj => by
    rw [hown.cellAt j hj, List.getElem?_eq_getElem (by omega)]; rfl
  -- the cells that are moved
  obtain ⟨A, hA, hsrc⟩ : ∃ A : Addr, (if cap = i + 1 then some (⟨g, 0, none⟩ : Addr) else some ⟨g, (i + 1) * 4, none⟩) = some A ∧ ∀ t u, (xs.drop ((i + 1) * 4))[t]? = some u → w.drew.cell? (A.add t) = some u := by
    by_cases h : cap = i + 1
    · refine ⟨⟨g, 0, none⟩, by simp [h], fun t u hu => ?_⟩
      have h0 : (xs.drop ((i + 1) * 4)).length = 0 := by rw [List.length_drop]; omega
      rw [List.length_eq_zero_iff.1 h0] at hu
      simp at hu
    · refine ⟨⟨g, (i + 1) * 4, none⟩, by simp [h], fun t u hu => ?_⟩
      have ht : t < (xs.drop ((i + 1) * 4)).length := (List.getElem?_eq_some_iff.1 hu).1
      rw [List.length_drop] at ht
      rw [List.getElem?_drop] at hu
      rw [show (⟨g, (i + 1) * 4, none⟩ : Addr).add t = ⟨g, (i + 1) * 4 + t, none⟩ by unfold Addr.add; split <;> simp_all]
      exact (hown.cellAt ((i + 1) * 4 + t) (by omega)).trans hu
  have s1 : (xs.drop ((i + 1) * 4)).length = r * 4 := by rw [List.length_drop]; omega
  have s2 : ∀ u ∈ xs.drop ((i + 1) * 4), u.oneCell' = true := fun u hu => hone u (List.mem_of_mem_drop hu)
  have s3 : ∀ j, j < (xs.drop ((i + 1) * 4)).length → (w.drew.cell? ⟨g, 0 + i * 4 + j, none⟩).isSome = true ∧ w.drew.frozen? ⟨g, 0 + i * 4 + j, none⟩ = false := fun j hj => by
    rw [s1] at hj
    rw [Nat.zero_add]
    exact ⟨hsome _ (by omega), hown.frozenAt _⟩
  obtain ⟨W1, hW1⟩ : ∃ W1, W1 = w.drew.setCells g (0 + i * 4) (xs.drop ((i + 1) * 4)) := ⟨_, rfl⟩
  have hownD : w.drew.ownsRow base 64 4 (.slice (some ⟨g, 0, none⟩) (i + 1 + r) cap) (i + 1 + r) xs := hown
  have o1 := own_setCells hownD (0 + i * 4) (xs.drop ((i + 1) * 4))
  rw [← hW1] at o1
  have hcl : ∀ ty, (Builtin.clear_ #[23] ty #[.slice (some ⟨g, (i + r) * 4, none⟩) (i + 1 + r - (i + r)) (cap - (i + r))]).run Try.prog W1 = .ok (.tuple #[]) (W1.setCells g ((i + r) * 4) (List.replicate 4 (.int .i64 0))) := fun ty => by
    rw [show i + 1 + r - (i + r) = 1 by omega]
    exact run_clear_one W1 ty g ((i + r) * 4) _ (fun j hj => by rw [o1.1.cellAt ((i + r) * 4 + j) (by omega), List.getElem?_eq_getElem (by rw [setMany_len]; omega)]; rfl) (fun j hj => o1.1.frozenAt _)
  have o2 := own_setCells o1.1 ((i + r) * 4) (List.replicate 4 (.int .i64 0))
  have o3 := own_shrink (m := i + r) o2.1 (by omega)
  rw [Nat.zero_add, struck xs _ i r hlen] at o3
  have og : w.grownBy (W1.setCells g ((i + r) * 4) (List.replicate 4 (.int .i64 0))) (some g) := by
    have a := o1.2; have b := o2.2
    exact ⟨b.os.trans a.os, b.tape.trans a.tape, b.output.trans a.output, Nat.le_trans a.size b.size, fun k hk hne => (b.block k (Nat.lt_of_lt_of_le hk a.size) hne).trans (a.block k hk hne)⟩
  have R1 : Hid ((W1.setCells g ((i + r) * 4) (List.replicate 4 (.int .i64 0))).ownsRow base 64 4 (.slice (some ⟨g, 0, none⟩) (i + r) cap) (i + r) ((zs.take (i * 4) ++ zs.drop ((i + 1) * 4)).map (Value.int .i64))) := Lib.hid (by
    rw [List.map_append, List.map_take, List.map_drop, ← hxs]; exact o3)
  have R2 := Lib.hid og; have HW := Lib.hid hW1; have HA := Lib.hid hsrc; have S1 := Lib.hid s1; have S2 := Lib.hid s2; have S3 := Lib.hid s3
  clear hown hownD o1 o2 o3 og hW1 hsrc s1 s2 s3 hsome hone hlen hxs
  have q1 : ((i : Int) == (i : Int) + 1) = false := by simp; omega
  have q2 : ¬ cap = i + r := by omega
  have hic : i ≤ cap := by omega
  have hjc : i + 1 ≤ cap := by omega
  have hjn : i + 1 ≤ i + 1 + r := by omega
  have hj0 : (0 : Int) ≤ (i : Int) + 1 := by omega
  have hj1 : (i : Int) + 1 ≤ (i : Int) + 1 + (r : Int) := by omega
  have q3 : (i : Int) + 1 ≤ ((i + 1 + r : Nat) : Int) := by omega
  have q4 : ((i + 1 + r : Nat) : Int) ≤ (cap : Int) := by omega
  go_enter Try.func73, Try.ntmps73
  go_wp2_with fail
  go_region_law (refine step_append_room rfl (.tmp 22) (.tmp 25) 23 rfl 64 iB 4 Try.underlying23 hB0 hB2 g 0 i cap (by simp [Act.eval, Act.put]) A r (cap - (i + 1)) (xs.drop ((i + 1) * 4)) (by simp [Act.eval, Act.put, hA]) S1.out HA.out S2.out (by omega) S3.out ?_; rw [← HW.out])
  all_goals go_wp2_with fail
  all_goals go_ret
  all_goals exact ⟨rfl, R1.out, R2.out⟩

end Go.Proofs.Ytmeppcoekmoofaa
