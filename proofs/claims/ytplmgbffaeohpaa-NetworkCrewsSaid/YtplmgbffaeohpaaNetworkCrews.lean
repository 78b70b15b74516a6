/- NetworkCrews: its walk. -/
import Derived.Test.YtplmgbffaeohpaaBhW
import Derived.Test.YtplmgbffaeohpaaBhM
set_option linter.unusedSimpArgs false
set_option linter.unusedVariables false
namespace Go.Proofs.Ytplmgbffaeohpaa
open Go.Conc Go.Crew Go.Beh Go.RowKit

theorem tight_pair {n m : Nat} {lo hi ka kb dl dh : Nat → Int} {W W' : Nat} {x x' y y' : Go.Beh.M} {v v' : Value} (h : TightQ n m lo hi ka kb dl dh W x v y) (h' : TightQ n m lo hi ka kb dl dh W' x' v' y') (hW : 1 ≤ W ∧ W ≤ 8) (hW' : 1 ≤ W' ∧ W' ≤ 8) :
    ∃ (e : Int) (k : Nat) (A A' : Option Addr) (c c' : Nat) (lo' hi' : Nat → Int), v = .tuple #[.slice A k c, .int .i64 e] ∧ v' = .tuple #[.slice A' k c', .int .i64 e] ∧ SpanSl y A k lo' hi' ∧ SpanSl y' A' k lo' hi' ∧ k ≤ 12 ∧ Ext x y ∧ Ext x' y' := by
  obtain ⟨e, hc, e1, h⟩ := h
  obtain ⟨e', hc', e1', h'⟩ := h'
  obtain rfl := hc.unique hc' (by omega) (by omega)
  rcases h with ⟨h0, rfl⟩ | ⟨rfl, h⟩ <;> rcases h' with ⟨h0', rfl⟩ | ⟨h0', h'⟩
  · exact ⟨e, 0, none, none, 0, 0, lo, hi, rfl, rfl, fun h => absurd h (by omega), fun h => absurd h (by omega), by omega, e1, e1'⟩
  · exact absurd h0' h0
  · exact absurd rfl h0'
  unfold TightP at h h'
  cases ht : tightR ((netOf n m lo hi ka kb dl dh).n + 1) (netOf n m lo hi ka kb dl dh) with
  | none =>
    rw [ht] at h h'
    exact ⟨6, 0, none, none, 0, 0, lo, hi, h, h', fun h => absurd h (by omega), fun h => absurd h (by omega), by omega, e1, e1'⟩
  | some M =>
    rw [ht] at h h'
    obtain ⟨A, c, h1, h2⟩ := h
    obtain ⟨A', c', h1', h2'⟩ := h'
    exact ⟨0, n, A, A', c, c', M.lo, M.hi, h1, h1', h2, h2', hc.zero.1.n12, e1, e1'⟩

theorem TightQ.shape {n m : Nat} {lo hi ka kb dl dh : Nat → Int} {W : Nat} {x y : Go.Beh.M} {v : Value} (h : TightQ n m lo hi ka kb dl dh W x v y) : ∃ (e : Int) (k : Nat) (A : Option Addr) (c : Nat), v = .tuple #[.slice A k c, .int .i64 e] ∧ Ext x y := by
  obtain ⟨e, hc, e1, h⟩ := h
  rcases h with ⟨h0, rfl⟩ | ⟨rfl, h⟩
  · exact ⟨e, 0, none, 0, rfl, e1⟩
  unfold TightP at h
  split at h
  · exact ⟨6, 0, none, 0, h, e1⟩
  · obtain ⟨A, c, h1, h2⟩ := h
    exact ⟨0, n, A, c, h1, e1⟩

set_option maxHeartbeats 4000000 in
theorem crews_ok (B : Base) (hP : B.P = Try.prog) (A K : Option Addr) (n m capA capK : Nat) (lo hi ka kb dl dh : Nat → Int) (a b : Int) (x : Go.Beh.M) (hA : SpanSl x A n lo hi) (hAn : A = none → n = 0) (hK : LinkSl x K m ka kb dl dh) :
    CallB B 4 #[] #[.slice A n capA, .slice K m capK, .int .i64 a, .int .i64 b] x (fun v y => v = .bool true ∧ Ext x y) := by
  refine ⟨_, _, by rw [hP]; exact Try.func4, by rfl, rfl, ?_⟩
  simp only [Try.ntmps4, List.size_toArray, List.length_cons, List.length_nil, Nat.reduceAdd, Nat.reduceSub, Array.replicate_succ, Array.replicate_zero, List.push_toArray, List.append_toArray, List.nil_append, List.cons_append, Array.append_empty]
  repeat (refine wpB_seq ?_)
  refine wpB_region ?_
  simp only [List.size_toArray, List.length_cons, List.length_nil, Nat.reduceAdd, Nat.zero_add, List.range, List.range.loop]
  repeat (
    co_applyP opsB_rd rfl (by rfl)
    · intro xv xr Kc hK
      rw [hP]
      go_simp
      first | exact hK | (rw [if_neg (by omega)]; exact hK) | (rw [if_pos (by omega)]; exact hK)
    · intro xv xr xe xhe
      rw [hP] at xhe
      simp [go_sem, *] at xhe
    try walk_nrm
  )
  refine opsB_nil ?_
  simp only [BThen, BBlock, if_true, if_false, reduceIte, Nat.reduceEqDiff]
  repeat (refine wpB_seq ?_)
  refine wpB_region ?_
  simp only [List.size_toArray, List.length_cons, List.length_nil, Nat.reduceAdd, Nat.zero_add, List.range, List.range.loop]
  co_applyP opsB_act rfl (by rfl) (actB_callV rfl (by first | (simp [Act.eval]; done) | (simp [Act.eval, spV]; done) | rfl) (works_ok B hP x) (fun _ _ h => h))
  rintro v x1 ⟨rfl, r1⟩
  try walk_nrm
  repeat (
    co_applyP opsB_rd rfl (by rfl)
    · intro xv xr Kc hK
      rw [hP]
      go_simp
      first | exact hK | (rw [if_neg (by omega)]; exact hK) | (rw [if_pos (by omega)]; exact hK)
    · intro xv xr xe xhe
      rw [hP] at xhe
      simp [go_sem, *] at xhe
    try walk_nrm
  )
  refine opsB_nil ?_
  simp only [BThen, BBlock, if_true, if_false, reduceIte, Nat.reduceEqDiff]
  repeat (refine wpB_seq ?_)
  refine wpB_split (t := false) (by first | rfl | simp [Act.eval]) (fun ht => ?_) (fun ht => ?_)
  · cases ht
  clear ht
  refine wpB_skip ?_
  simp only [BThen, BBlock, if_true, if_false, reduceIte, Nat.reduceEqDiff]
  have ba := atN_bd (k := a) (n := 8) (by omega)
  have bb := atN_bd (k := b) (n := 8) (by omega)
  obtain ⟨Wa, hWa, hWa8⟩ : ∃ Wa : Nat, IntKind.i64.wrap (1 + atN a 8) = (Wa : Int) ∧ 1 ≤ Wa ∧ Wa ≤ 8 := ⟨(1 + atN a 8).toNat, by rw [wrap_in (by omega)]; omega, by omega⟩
  obtain ⟨Wb, hWb, hWb8⟩ : ∃ Wb : Nat, IntKind.i64.wrap (1 + atN b 8) = (Wb : Int) ∧ 1 ≤ Wb ∧ Wb ≤ 8 := ⟨(1 + atN b 8).toNat, by rw [wrap_in (by omega)]; omega, by omega⟩
  clear ba bb
  repeat (refine wpB_seq ?_)
  refine wpB_region ?_
  simp only [List.size_toArray, List.length_cons, List.length_nil, Nat.reduceAdd, Nat.zero_add, List.range, List.range.loop]
  repeat (
    co_applyP opsB_rd rfl (by rfl)
    · intro xv xr Kc hK
      rw [hP]
      go_simp
      first | exact hK | (rw [if_neg (by omega)]; exact hK) | (rw [if_pos (by omega)]; exact hK)
    · intro xv xr xe xhe
      rw [hP] at xhe
      simp [go_sem, *] at xhe
    try walk_nrm
  )
  co_applyP opsB_act rfl (by rfl) (actB_callV rfl (by first | (simp [Act.eval]; done) | (simp [Act.eval, spV]; done) | rfl) (at_ok B hP a 8 (by omega) x1) (fun _ _ h => h))
  rintro v x2 ⟨rfl, rfl⟩
  try walk_nrm
  repeat (
    co_applyP opsB_rd rfl (by rfl)
    · intro xv xr Kc hK
      rw [hP]
      go_simp
      first | exact hK | (rw [if_neg (by omega)]; exact hK) | (rw [if_pos (by omega)]; exact hK)
    · intro xv xr xe xhe
      rw [hP] at xhe
      simp [go_sem, *] at xhe
    try walk_nrm
  )
  co_applyP opsB_act rfl (by rfl) (actB_callV rfl (by first | (simp [Act.eval]; done) | (simp [Act.eval, spV]; done) | rfl) (at_ok B hP b 8 (by omega) x2) (fun _ _ h => h))
  rintro v x3 ⟨rfl, rfl⟩
  try walk_nrm
  repeat (
    co_applyP opsB_rd rfl (by rfl)
    · intro xv xr Kc hK
      rw [hP]
      go_simp
      first | exact hK | (rw [if_neg (by omega)]; exact hK) | (rw [if_pos (by omega)]; exact hK)
    · intro xv xr xe xhe
      rw [hP] at xhe
      simp [go_sem, *] at xhe
    try walk_nrm
  )
  refine opsB_nil ?_
  simp only [BThen, BBlock, if_true, if_false, reduceIte, Nat.reduceEqDiff]
  clear hWa hWb
  repeat (refine wpB_seq ?_)
  refine wpB_region ?_
  simp only [List.size_toArray, List.length_cons, List.length_nil, Nat.reduceAdd, Nat.zero_add, List.range, List.range.loop]
  repeat (
    co_applyP opsB_rd rfl (by rfl)
    · intro xv xr Kc hK
      rw [hP]
      go_simp
      first | exact hK | (rw [if_neg (by omega)]; exact hK) | (rw [if_pos (by omega)]; exact hK)
    · intro xv xr xe xhe
      rw [hP] at xhe
      simp [go_sem, *] at xhe
    try walk_nrm
  )
  co_applyP opsB_act rfl (by rfl) (actB_callV rfl (by first | (simp [Act.eval]; done) | (simp [Act.eval, spV]; done) | rfl) (btight_ok B hP A K n m capA capK lo hi ka kb dl dh Wa x3 (hA.ext r1) hAn (hK.ext r1)) (fun _ _ h => h))
  rintro v1 x4 h1
  try walk_nrm
  obtain ⟨e, k, A1, c1, rfl, r2⟩ := h1.shape
  have kh1 := Lib.hid h1
  clear h1
  have r3 := r1.trans r2
  clear r1 r2
  repeat (
    co_applyP opsB_rd rfl (by rfl)
    · intro xv xr Kc hK
      rw [hP]
      go_simp
      first | exact hK | (rw [if_neg (by omega)]; exact hK) | (rw [if_pos (by omega)]; exact hK)
    · intro xv xr xe xhe
      rw [hP] at xhe
      simp [go_sem, *] at xhe
    try walk_nrm
  )
  refine opsB_nil ?_
  simp only [BThen, BBlock, if_true, if_false, reduceIte, Nat.reduceEqDiff]
  repeat (refine wpB_seq ?_)
  refine wpB_region ?_
  simp only [List.size_toArray, List.length_cons, List.length_nil, Nat.reduceAdd, Nat.zero_add, List.range, List.range.loop]
  repeat (
    co_applyP opsB_rd rfl (by rfl)
    · intro xv xr Kc hK
      rw [hP]
      go_simp
      first | exact hK | (rw [if_neg (by omega)]; exact hK) | (rw [if_pos (by omega)]; exact hK)
    · intro xv xr xe xhe
      rw [hP] at xhe
      simp [go_sem, *] at xhe
    try walk_nrm
  )
  co_applyP opsB_act rfl (by rfl) (actB_callV rfl (by first | (simp [Act.eval]; done) | (simp [Act.eval, spV]; done) | rfl) (btight_ok B hP A K n m capA capK lo hi ka kb dl dh Wb x4 (hA.ext r3) hAn (hK.ext r3)) (fun _ _ h => h))
  rintro v2 x5 h2
  try walk_nrm
  obtain ⟨e', k', A1', A2, c1', c2, lo', hi', hv, rfl, s1, s2, hk12, -, r2⟩ := tight_pair kh1.out h2 hWa8 hWb8
  have hv1 : e = e' ∧ A1 = A1' ∧ k = k' ∧ c1 = c1' := by
    simp only [Value.tuple.injEq, Array.mk.injEq, List.cons.injEq, Value.slice.injEq, Value.int.injEq, and_true, true_and] at hv
    exact ⟨hv.2, hv.1.1, hv.1.2.1, hv.1.2.2⟩
  obtain ⟨rfl, rfl, rfl, rfl⟩ := hv1
  replace s1 := s1.ext r2
  have r4 := r3.trans r2
  clear hv kh1 h2 r2 r3
  repeat (
    co_applyP opsB_rd rfl (by rfl)
    · intro xv xr Kc hK
      rw [hP]
      go_simp
      first | exact hK | (rw [if_neg (by omega)]; exact hK) | (rw [if_pos (by omega)]; exact hK)
    · intro xv xr xe xhe
      rw [hP] at xhe
      simp [go_sem, *] at xhe
    try walk_nrm
  )
  refine opsB_nil ?_
  simp only [BThen, BBlock, if_true, if_false, reduceIte, Nat.reduceEqDiff]
  repeat (refine wpB_seq ?_)
  refine wpB_region ?_
  simp only [List.size_toArray, List.length_cons, List.length_nil, Nat.reduceAdd, Nat.zero_add, List.range, List.range.loop]
  repeat (
    co_applyP opsB_rd rfl (by rfl)
    · intro xv xr Kc hK
      rw [hP]
      go_simp
      first | exact hK | (rw [if_neg (by omega)]; exact hK) | (rw [if_pos (by omega)]; exact hK)
    · intro xv xr xe xhe
      rw [hP] at xhe
      simp [go_sem, *] at xhe
    try walk_nrm
  )
  refine opsB_nil ?_
  simp only [BThen, BBlock, if_true, if_false, reduceIte, Nat.reduceEqDiff]
  repeat (refine wpB_seq ?_)
  refine wpB_split (t := false) (by first | rfl | simp [Act.eval]) (fun ht => ?_) (fun ht => ?_)
  · cases ht
  clear ht
  refine wpB_skip ?_
  simp only [BThen, BBlock, if_true, if_false, reduceIte, Nat.reduceEqDiff]
  repeat (refine wpB_seq ?_)
  refine wpB_region ?_
  simp only [List.size_toArray, List.length_cons, List.length_nil, Nat.reduceAdd, Nat.zero_add, List.range, List.range.loop]
  repeat (
    co_applyP opsB_rd rfl (by rfl)
    · intro xv xr Kc hK
      rw [hP]
      go_simp
      first | exact hK | (rw [if_neg (by omega)]; exact hK) | (rw [if_pos (by omega)]; exact hK)
    · intro xv xr xe xhe
      rw [hP] at xhe
      simp [go_sem, *] at xhe
    try walk_nrm
  )
  refine opsB_nil ?_
  simp only [BThen, BBlock, if_true, if_false, reduceIte, Nat.reduceEqDiff]
  repeat (refine wpB_seq ?_)
  refine wpB_block ?_
  refine wpB_loop (fun a y => ∃ j : Nat, j ≤ k ∧ Fr 61 [(9, .slice A1 k c1), (11, .slice A2 k c2), (47, .int .i64 k), (48, .int .i64 j)] a ∧ y = x5)
    (fun a _ => (k - slotI a 48).toNat) ⟨0, by omega, ⟨rfl, rfl, rfl, rfl, rfl, rfl, trivial⟩, rfl⟩ ?_
  rintro a y ⟨j, hj, hs, rfl⟩
  obtain ⟨u, hu, hv⟩ := hs.lit
  simp only [List.range, List.range.loop, List.map_cons, List.map_nil] at hu
  obtain ⟨z9, z11, z47, z48, -⟩ := hs.at_
  have y9 := (hv 9).trans z9
  have y11 := (hv 11).trans z11
  have y47 := (hv 47).trans z47
  have y48 := (hv 48).trans z48
  rw [y9, y11, y47, y48] at hu
  clear hv hs z9 z11 z47 z48 y9 y11 y47 y48
  subst hu
  repeat (refine wpB_seq ?_)
  refine wpB_region ?_
  simp only [List.size_toArray, List.length_cons, List.length_nil, Nat.reduceAdd, Nat.zero_add, List.range, List.range.loop]
  repeat (
    co_applyP opsB_rd rfl (by rfl)
    · intro xv xr Kc hK
      rw [hP]
      go_simp
      first | exact hK | (rw [if_neg (by omega)]; exact hK) | (rw [if_pos (by omega)]; exact hK)
    · intro xv xr xe xhe
      rw [hP] at xhe
      simp [go_sem, *] at xhe
    try walk_nrm
  )
  refine opsB_nil ?_
  simp only [BThen, BBlock, if_true, if_false, reduceIte, Nat.reduceEqDiff]
  repeat (refine wpB_seq ?_)
  refine wpB_split (t := decide ((j : Int) < k)) (by first | rfl | simp [Act.eval]) (fun ht => ?_) (fun ht => ?_)
  · have hjn : j < k := by have := of_decide_eq_true ht; omega
    clear ht
    refine wpB_skip ?_
    simp only [BThen, BBlock, if_true, if_false, reduceIte, Nat.reduceEqDiff]
    repeat (refine wpB_seq ?_)
    refine wpB_block ?_
    obtain ⟨b, o, cs, el, f, rfl, hH, p1, p2⟩ := s1 (by omega)
    obtain ⟨b', o', cs', el', f', rfl, hH', p1', p2'⟩ := s2 (by omega)
    have hj' : (j : Int) < (k : Int) := by omega
    repeat (refine wpB_seq ?_)
    refine wpB_region ?_
    simp only [List.size_toArray, List.length_cons, List.length_nil, Nat.reduceAdd, Nat.zero_add, List.range, List.range.loop]
    repeat (
      co_applyP opsB_rd rfl (by rfl)
      · intro xv xr Kc hK
        rw [hP]
        go_simp
        first | exact hK | (rw [if_neg (by omega)]; exact hK) | (rw [if_pos (by omega)]; exact hK)
      · intro xv xr xe xhe
        rw [hP] at xhe
        simp [go_sem, *] at xhe
      try walk_nrm
    )
    refine opsB_nil ?_
    simp only [BThen, BBlock, if_true, if_false, reduceIte, Nat.reduceEqDiff]
    repeat (refine wpB_seq ?_)
    refine wpB_region_held (S := (fun y' => y' = y)) 99 (by rw [hP]; first | kernel_rfl | rfl) ?_
    have hS : ((fun y' => y' = y)) y := rfl
    simp only [List.size_toArray, List.length_cons, List.length_nil, Nat.reduceAdd, Nat.zero_add]
    co_applyP anyB_rd 0 rfl (by first | kernel_rfl | decide +kernel) (by first | kernel_rfl | decide +kernel) (by first | kernel_rfl | decide +kernel) (by first | kernel_rfl | decide +kernel) (by rfl)
    · intro y hy xv xr Kc hK
      rw [hP]
      go_simp
      first | exact hK | (rw [if_neg (by omega)]; exact hK) | (rw [if_pos (by omega)]; exact hK)
    · intro y hy xv xr xe xhe
      rw [hP] at xhe
      simp [go_sem, *] at xhe
    · exact hS
    try walk_nrm
    co_applyP anyB_rd 1 rfl (by first | kernel_rfl | decide +kernel) (by first | kernel_rfl | decide +kernel) (by first | kernel_rfl | decide +kernel) (by first | kernel_rfl | decide +kernel) (by rfl)
    · intro y hy xv xr Kc hK
      rw [hP]
      go_simp
      first | exact hK | (rw [if_neg (by omega)]; exact hK) | (rw [if_pos (by omega)]; exact hK)
    · intro y hy xv xr xe xhe
      rw [hP] at xhe
      simp [go_sem, *] at xhe
    · exact hS
    try walk_nrm
    co_applyP anyB_rd 2 rfl (by first | kernel_rfl | decide +kernel) (by first | kernel_rfl | decide +kernel) (by first | kernel_rfl | decide +kernel) (by first | kernel_rfl | decide +kernel) (by rfl)
    · intro y hy xv xr Kc hK
      rw [hP]
      go_simp
      first | exact hK | (rw [if_neg (by omega)]; exact hK) | (rw [if_pos (by omega)]; exact hK)
    · intro y hy xv xr xe xhe
      rw [hP] at xhe
      simp [go_sem, *] at xhe
    · exact hS
    try walk_nrm
    co_applyP anyB_rd 3 rfl (by first | kernel_rfl | decide +kernel) (by first | kernel_rfl | decide +kernel) (by first | kernel_rfl | decide +kernel) (by first | kernel_rfl | decide +kernel) (by rfl)
    · intro y hy xv xr Kc hK
      rw [hP]
      have xc0 := HasB.cell (hy ▸ hH) xr (o := o + j * 2) (v := _) (p1 j hjn)
      have xc1 := HasB.cell (hy ▸ hH) xr (o := o + j * 2 + 1) (v := _) (p2 j hjn)
      go_simp
      first | exact hK | (rw [if_neg (by omega)]; exact hK) | (rw [if_pos (by omega)]; exact hK)
    · intro y hy xv xr xe xhe
      rw [hP] at xhe
      have xc0 := HasB.cell (hy ▸ hH) xr (o := o + j * 2) (v := _) (p1 j hjn)
      have xc1 := HasB.cell (hy ▸ hH) xr (o := o + j * 2 + 1) (v := _) (p2 j hjn)
      simp [go_sem, *] at xhe
      all_goals (first | subst xhe | (rcases xhe with rfl | rfl) | (rcases xhe with rfl | rfl | rfl | rfl))
      all_goals (exact EvB.cell (hy ▸ hH) rfl _)
    · exact hS
    try walk_nrm
    co_applyP anyB_rd 4 rfl (by first | kernel_rfl | decide +kernel) (by first | kernel_rfl | decide +kernel) (by first | kernel_rfl | decide +kernel) (by first | kernel_rfl | decide +kernel) (by rfl)
    · intro y hy xv xr Kc hK
      rw [hP]
      go_simp
      first | exact hK | (rw [if_neg (by omega)]; exact hK) | (rw [if_pos (by omega)]; exact hK)
    · intro y hy xv xr xe xhe
      rw [hP] at xhe
      simp [go_sem, *] at xhe
    · exact hS
    try walk_nrm
    co_applyP anyB_rd 5 rfl (by first | kernel_rfl | decide +kernel) (by first | kernel_rfl | decide +kernel) (by first | kernel_rfl | decide +kernel) (by first | kernel_rfl | decide +kernel) (by rfl)
    · intro y hy xv xr Kc hK
      rw [hP]
      go_simp
      first | exact hK | (rw [if_neg (by omega)]; exact hK) | (rw [if_pos (by omega)]; exact hK)
    · intro y hy xv xr xe xhe
      rw [hP] at xhe
      simp [go_sem, *] at xhe
    · exact hS
    try walk_nrm
    co_applyP anyB_rd 6 rfl (by first | kernel_rfl | decide +kernel) (by first | kernel_rfl | decide +kernel) (by first | kernel_rfl | decide +kernel) (by first | kernel_rfl | decide +kernel) (by rfl)
    · intro y hy xv xr Kc hK
      rw [hP]
      go_simp
      first | exact hK | (rw [if_neg (by omega)]; exact hK) | (rw [if_pos (by omega)]; exact hK)
    · intro y hy xv xr xe xhe
      rw [hP] at xhe
      simp [go_sem, *] at xhe
    · exact hS
    try walk_nrm
    co_applyP anyB_rd 7 rfl (by first | kernel_rfl | decide +kernel) (by first | kernel_rfl | decide +kernel) (by first | kernel_rfl | decide +kernel) (by first | kernel_rfl | decide +kernel) (by rfl)
    · intro y hy xv xr Kc hK
      rw [hP]
      have xc0 := HasB.cell (hy ▸ hH') xr (o := o' + j * 2) (v := _) (p1' j hjn)
      have xc1 := HasB.cell (hy ▸ hH') xr (o := o' + j * 2 + 1) (v := _) (p2' j hjn)
      go_simp
      first | exact hK | (rw [if_neg (by omega)]; exact hK) | (rw [if_pos (by omega)]; exact hK)
    · intro y hy xv xr xe xhe
      rw [hP] at xhe
      have xc0 := HasB.cell (hy ▸ hH') xr (o := o' + j * 2) (v := _) (p1' j hjn)
      have xc1 := HasB.cell (hy ▸ hH') xr (o := o' + j * 2 + 1) (v := _) (p2' j hjn)
      simp [go_sem, *] at xhe
      all_goals (first | subst xhe | (rcases xhe with rfl | rfl) | (rcases xhe with rfl | rfl | rfl | rfl))
      all_goals (exact EvB.cell (hy ▸ hH') rfl _)
    · exact hS
    try walk_nrm
    co_applyP anyB_rd (v := .bool false) 8 rfl (by first | kernel_rfl | decide +kernel) (by first | kernel_rfl | decide +kernel) (by first | kernel_rfl | decide +kernel) (by first | kernel_rfl | decide +kernel) (by rfl)
    · intro y hy xv xr Kc hK
      rw [hP]
      go_simp
      simpa using hK
    · intro y hy xv xr xe xhe
      rw [hP] at xhe
      simp [go_sem, mute_guardSpan _ _ _ _ _ xv, mute_neqSpan _ _ _ _ xv] at xhe
    · exact hS
    refine anyB_done (by first | kernel_rfl | decide +kernel) ?_ _
    simp only [BThen, BBlock, if_true, if_false, reduceIte, Nat.reduceEqDiff]
    try walk_nrm
    repeat (refine wpB_seq ?_)
    refine wpB_split (t := false) (by first | rfl | simp [Act.eval]) (fun ht => ?_) (fun ht => ?_)
    · cases ht
    refine wpB_skip ?_
    simp only [BThen, BBlock, if_true, if_false, reduceIte, Nat.reduceEqDiff]
    have hw : IntKind.i64.wrap ((j : Int) + 1) = ((j + 1 : Nat) : Int) := by rw [wrap_in (by omega)]; simp
    repeat (refine wpB_seq ?_)
    refine wpB_region ?_
    simp only [List.size_toArray, List.length_cons, List.length_nil, Nat.reduceAdd, Nat.zero_add, List.range, List.range.loop]
    repeat (
      co_applyP opsB_rd rfl (by rfl)
      · intro xv xr Kc hK
        rw [hP]
        go_simp
        first | exact hK | (rw [if_neg (by omega)]; exact hK) | (rw [if_pos (by omega)]; exact hK)
      · intro xv xr xe xhe
        rw [hP] at xhe
        simp [go_sem, *] at xhe
      try walk_nrm
    )
    refine opsB_nil ?_
    simp only [BThen, BBlock, if_true, if_false, reduceIte, Nat.reduceEqDiff]
    refine ⟨⟨j + 1, by omega, ⟨rfl, rfl, rfl, rfl, rfl, rfl, trivial⟩, (by first | rfl | trivial)⟩, ?_⟩
    simp [slotI]
    omega
  · clear ht
    refine wpB_exit ?_
    simp only [BThen, BBlock, if_true, if_false, reduceIte, Nat.reduceEqDiff]
    repeat (refine wpB_seq ?_)
    refine wpB_region ?_
    simp only [List.size_toArray, List.length_cons, List.length_nil, Nat.reduceAdd, Nat.zero_add, List.range, List.range.loop]
    repeat (
      co_applyP opsB_rd rfl (by rfl)
      · intro xv xr Kc hK
        rw [hP]
        go_simp
        first | exact hK | (rw [if_neg (by omega)]; exact hK) | (rw [if_pos (by omega)]; exact hK)
      · intro xv xr xe xhe
        rw [hP] at xhe
        simp [go_sem, *] at xhe
      try walk_nrm
    )
    refine opsB_nil ?_
    simp only [BThen, BBlock, if_true, if_false, reduceIte, Nat.reduceEqDiff]
    refine wpB_ret ?_
    refine ⟨rfl, .bool true, fun xv xr => ⟨?_, fun xe xhe => ?_⟩, ?_⟩
    · rw [hP]
      simp [results, Try.results4, go_sem]
    · have xhm := mem_seen xhe
      rw [hP] at xhm
      simp [results, Try.results4, go_sem] at xhm
    exact ⟨rfl, r4⟩

theorem networkCrews_run (W : World) (A0 : Option Addr) (n0 cap0 : Nat) (zs0 : List Int) (A1 : Option Addr) (n1 cap1 : Nat) (zs1 : List Int) (a2 a3 : Int) (w0 : FlatSl W 2 A0 n0 cap0 zs0) (w1 : FlatSl W 4 A1 n1 cap1 zs1) :
    ∃ N last o w' t', runNT Try.prog (N + 1) (solo (G (Frame.enter Try.prog 4 #[.slice A0 n0 cap0, .slice A1 n1 cap1, .int .i64 a2, .int .i64 a3] .normal) []) W) #[] = (.ended o w', t') ∧
      runN Try.prog N (solo (G (Frame.enter Try.prog 4 #[.slice A0 n0 cap0, .slice A1 n1 cap1, .int .i64 a2, .int .i64 a3] .normal) []) W) = .next last ∧ step Try.prog last = .ended o w' ∧
      Conc.Good Try.prog (fun v W' => v = .bool true ∧ Below W.heap.size W W') last o w' t' :=
  run_of (crews_ok (baseOf W) rfl A0 A1 n0 n1 cap0 cap1 _ _ _ _ _ _ a2 a3 (memOf W) (flat_span w0) (flat_nil w0) (flat_link w1)) (by kernel_rfl)
end Go.Proofs.Ytplmgbffaeohpaa
