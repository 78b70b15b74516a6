/- Goroutine 0 beside goroutines that only leave: ContainsFunc, Equal. -/
import Derived.Test.YtplmgbffaeohpaaBhF
import Derived.Test.YtplmgbffaeohpaaBhV
set_option linter.unusedSimpArgs false
set_option linter.unusedVariables false
namespace Go.Proofs.Ytplmgbffaeohpaa
open Go.Conc Go.Crew Go.Beh Go.RowKit

set_option maxHeartbeats 1000000 in
theorem contains_ok (B : Base) (hP : B.P = Try.prog) (A : Option Addr) (n cap : Nat) (hn : n ≤ 1000000) (lo hi : Nat → Int) (x : Go.Beh.M) (hA : SpanSl x A n lo hi) :
    CallB B 21 #[] #[.slice A n cap, .func (.func 22) #[] #[]] x
      (fun v x' => ∃ t : Bool, v = .bool t ∧ (t = true ↔ ∃ i, i < n ∧ hi i < lo i) ∧ Ext x x') := by
  refine ⟨_, _, by rw [hP]; exact Try.func21, by rfl, rfl, ?_⟩
  simp only [Try.ntmps21, List.size_toArray, List.length_cons, List.length_nil, Nat.reduceAdd, Nat.reduceSub, Array.replicate_succ, Array.replicate_zero, List.push_toArray, List.append_toArray, List.nil_append, List.cons_append, Array.append_empty]
  repeat (refine wpB_seq ?_)
  refine wpB_region ?_
  simp only [List.size_toArray, List.length_cons, List.length_nil, Nat.reduceAdd, Nat.zero_add, List.range, List.range.loop]
  repeat (
    co_applyP opsB_rd rfl (by rfl)
    · intro xv xr Kc hK
      rw [hP]
      go_simp
      first | exact hK | (rw [if_neg (by omega)]; exact hK) | (rw [if_pos (by omega)]; exact hK)
    · intro xv xr xe xhe
      rw [hP] at xhe
      simp [go_sem, *] at xhe
    try walk_nrm
  )
  refine opsB_nil ?_
  simp only [BThen, BBlock, if_true, if_false, reduceIte, Nat.reduceEqDiff]
  repeat (refine wpB_seq ?_)
  refine wpB_region ?_
  simp only [List.size_toArray, List.length_cons, List.length_nil, Nat.reduceAdd, Nat.zero_add, List.range, List.range.loop]
  repeat (
    co_applyP opsB_rd rfl (by rfl)
    · intro xv xr Kc hK
      rw [hP]
      go_simp
      first | exact hK | (rw [if_neg (by omega)]; exact hK) | (rw [if_pos (by omega)]; exact hK)
    · intro xv xr xe xhe
      rw [hP] at xhe
      simp [go_sem, *] at xhe
    try walk_nrm
  )
  co_applyP opsB_act rfl (by rfl) (actB_callV rfl (by first | (simp [Act.eval]; done) | (simp [Act.eval, spV]; done) | rfl) (index_ok B hP A n cap hn lo hi x hA) (fun _ _ h => h))
  rintro v x1 ⟨k, rfl, hk, e1⟩
  try walk_nrm
  have hk' := Lib.hid hk
  clear hk
  repeat (
    co_applyP opsB_rd rfl (by rfl)
    · intro xv xr Kc hK
      rw [hP]
      go_simp
      first | exact hK | (rw [if_neg (by omega)]; exact hK) | (rw [if_pos (by omega)]; exact hK)
    · intro xv xr xe xhe
      rw [hP] at xhe
      simp [go_sem, *] at xhe
    try walk_nrm
  )
  refine opsB_nil ?_
  simp only [BThen, BBlock, if_true, if_false, reduceIte, Nat.reduceEqDiff]
  refine wpB_ret ?_
  refine ⟨rfl, .bool (decide (0 ≤ k)), fun xv xr => ⟨?_, fun xe xhe => ?_⟩, ?_⟩
  · rw [hP]
    simp [results, Try.results21, go_sem]
  · have xhm := mem_seen xhe
    rw [hP] at xhm
    simp [results, Try.results21, go_sem] at xhm
  exact ⟨_, rfl, by simpa using hk'.out, e1⟩

theorem neq2 (a a' b b' : Int) : ∃ t : Bool, (t = false ↔ a = a' ∧ b = b') ∧ ∀ (w : World) (Kc : Result Next → Prop), Kc (.ok (.value (.bool t)) w) → Kc (if a = a' then if b = b' then Result.ok (Next.value (Value.bool false)) w else Result.ok (Next.value (Value.bool true)) w else Result.ok (Next.value (Value.bool true)) w) := by
  by_cases h : a = a'
  · by_cases h2 : b = b'
    · exact ⟨false, by simp [h, h2], fun w Kc hk => by rw [if_pos h, if_pos h2]; exact hk⟩
    · exact ⟨true, by simp [h2], fun w Kc hk => by rw [if_pos h, if_neg h2]; exact hk⟩
  · exact ⟨true, by simp [h], fun w Kc hk => by rw [if_neg h]; exact hk⟩

set_option maxHeartbeats 1000000 in
theorem equal_ok (B : Base) (hP : B.P = Try.prog) (A A' : Option Addr) (n cap cap' : Nat) (hn : n ≤ 1000000) (lo hi lo' hi' : Nat → Int) (x : Go.Beh.M) (hA : SpanSl x A n lo hi) (hA' : SpanSl x A' n lo' hi') :
    CallB B 15 #[] #[.slice A n cap, .slice A' n cap'] x
      (fun v x' => ∃ t : Bool, v = .bool t ∧ (t = true ↔ ∀ i, i < n → lo i = lo' i ∧ hi i = hi' i) ∧ x' = x) := by
  refine ⟨_, _, by rw [hP]; exact Try.func15, by rfl, rfl, ?_⟩
  simp only [Try.ntmps15, List.size_toArray, List.length_cons, List.length_nil, Nat.reduceAdd, Nat.reduceSub, Array.replicate_succ, Array.replicate_zero, List.push_toArray, List.append_toArray, List.nil_append, List.cons_append, Array.append_empty]
  repeat (refine wpB_seq ?_)
  refine wpB_region ?_
  simp only [List.size_toArray, List.length_cons, List.length_nil, Nat.reduceAdd, Nat.zero_add, List.range, List.range.loop]
  repeat (
    co_applyP opsB_rd rfl (by rfl)
    · intro xv xr Kc hK
      rw [hP]
      go_simp
      first | exact hK | (rw [if_neg (by omega)]; exact hK) | (rw [if_pos (by omega)]; exact hK)
    · intro xv xr xe xhe
      rw [hP] at xhe
      simp [go_sem, *] at xhe
    try walk_nrm
  )
  refine opsB_nil ?_
  simp only [BThen, BBlock, if_true, if_false, reduceIte, Nat.reduceEqDiff]
  repeat (refine wpB_seq ?_)
  refine wpB_region ?_
  simp only [List.size_toArray, List.length_cons, List.length_nil, Nat.reduceAdd, Nat.zero_add, List.range, List.range.loop]
  repeat (
    co_applyP opsB_rd rfl (by rfl)
    · intro xv xr Kc hK
      rw [hP]
      go_simp
      first | exact hK | (rw [if_neg (by omega)]; exact hK) | (rw [if_pos (by omega)]; exact hK)
    · intro xv xr xe xhe
      rw [hP] at xhe
      simp [go_sem, *] at xhe
    try walk_nrm
  )
  refine opsB_nil ?_
  simp only [BThen, BBlock, if_true, if_false, reduceIte, Nat.reduceEqDiff]
  repeat (refine wpB_seq ?_)
  refine wpB_split (t := false) (by first | rfl | simp [Act.eval]) (fun ht => ?_) (fun ht => ?_)
  · cases ht
  refine wpB_skip ?_
  simp only [BThen, BBlock, if_true, if_false, reduceIte, Nat.reduceEqDiff]
  repeat (refine wpB_seq ?_)
  refine wpB_region ?_
  simp only [List.size_toArray, List.length_cons, List.length_nil, Nat.reduceAdd, Nat.zero_add, List.range, List.range.loop]
  repeat (
    co_applyP opsB_rd rfl (by rfl)
    · intro xv xr Kc hK
      rw [hP]
      go_simp
      first | exact hK | (rw [if_neg (by omega)]; exact hK) | (rw [if_pos (by omega)]; exact hK)
    · intro xv xr xe xhe
      rw [hP] at xhe
      simp [go_sem, *] at xhe
    try walk_nrm
  )
  refine opsB_nil ?_
  simp only [BThen, BBlock, if_true, if_false, reduceIte, Nat.reduceEqDiff]
  repeat (refine wpB_seq ?_)
  refine wpB_block ?_
  refine wpB_loop (fun a y => ∃ j : Nat, j ≤ n ∧ Fr 26 [(0, .slice A n cap), (1, .slice A' n cap'), (12, .int .i64 n), (13, .int .i64 j)] a ∧ y = x ∧ ∀ i, i < j → lo i = lo' i ∧ hi i = hi' i)
    (fun a _ => (n - slotI a 13).toNat) ⟨0, by omega, ⟨rfl, rfl, rfl, rfl, rfl, rfl, trivial⟩, rfl, fun i hi => absurd hi (by omega)⟩ ?_
  rintro a y ⟨j, hj, hs, rfl, g0⟩
  obtain ⟨u, hu, hv⟩ := hs.lit
  simp only [List.range, List.range.loop, List.map_cons, List.map_nil] at hu
  obtain ⟨z0, z1, z12, z13, -⟩ := hs.at_
  have y0 := (hv 0).trans z0
  have y1 := (hv 1).trans z1
  have y12 := (hv 12).trans z12
  have y13 := (hv 13).trans z13
  rw [y0, y1, y12, y13] at hu
  clear hv hs z0 z1 z12 z13 y0 y1 y12 y13
  subst hu
  have kg := Lib.hid g0
  clear g0
  repeat (refine wpB_seq ?_)
  refine wpB_region ?_
  simp only [List.size_toArray, List.length_cons, List.length_nil, Nat.reduceAdd, Nat.zero_add, List.range, List.range.loop]
  repeat (
    co_applyP opsB_rd rfl (by rfl)
    · intro xv xr Kc hK
      rw [hP]
      go_simp
      first | exact hK | (rw [if_neg (by omega)]; exact hK) | (rw [if_pos (by omega)]; exact hK)
    · intro xv xr xe xhe
      rw [hP] at xhe
      simp [go_sem, *] at xhe
    try walk_nrm
  )
  refine opsB_nil ?_
  simp only [BThen, BBlock, if_true, if_false, reduceIte, Nat.reduceEqDiff]
  repeat (refine wpB_seq ?_)
  refine wpB_split (t := decide ((j : Int) < n)) (by first | rfl | simp [Act.eval]) (fun ht => ?_) (fun ht => ?_)
  · have hjn : j < n := by have := of_decide_eq_true ht; omega
    clear ht
    refine wpB_skip ?_
    simp only [BThen, BBlock, if_true, if_false, reduceIte, Nat.reduceEqDiff]
    repeat (refine wpB_seq ?_)
    refine wpB_block ?_
    obtain ⟨b, o, cs, e, f, rfl, hH, c1, c2⟩ := hA (by omega)
    obtain ⟨b', o', cs', e', f', rfl, hH', c1', c2'⟩ := hA' (by omega)
    have hj' : (j : Int) < (n : Int) := by omega
    repeat (refine wpB_seq ?_)
    refine wpB_region ?_
    simp only [List.size_toArray, List.length_cons, List.length_nil, Nat.reduceAdd, Nat.zero_add, List.range, List.range.loop]
    repeat (
      co_applyP opsB_rd rfl (by rfl)
      · intro xv xr Kc hK
        rw [hP]
        go_simp
        first | exact hK | (rw [if_neg (by omega)]; exact hK) | (rw [if_pos (by omega)]; exact hK)
      · intro xv xr xe xhe
        rw [hP] at xhe
        simp [go_sem, *] at xhe
      try walk_nrm
    )
    refine opsB_nil ?_
    simp only [BThen, BBlock, if_true, if_false, reduceIte, Nat.reduceEqDiff]
    repeat (refine wpB_seq ?_)
    refine wpB_region_held (S := (fun y' => y' = y)) 99 (by rw [hP]; first | kernel_rfl | rfl) ?_
    have hS : ((fun y' => y' = y)) y := rfl
    simp only [List.size_toArray, List.length_cons, List.length_nil, Nat.reduceAdd, Nat.zero_add]
    co_applyP anyB_rd 0 rfl (by first | kernel_rfl | decide +kernel) (by first | kernel_rfl | decide +kernel) (by first | kernel_rfl | decide +kernel) (by first | kernel_rfl | decide +kernel) (by rfl)
    · intro y hy xv xr Kc hK
      rw [hP]
      go_simp
      first | exact hK | (rw [if_neg (by omega)]; exact hK) | (rw [if_pos (by omega)]; exact hK)
    · intro y hy xv xr xe xhe
      rw [hP] at xhe
      simp [go_sem, *] at xhe
    · exact hS
    try walk_nrm
    co_applyP anyB_rd 1 rfl (by first | kernel_rfl | decide +kernel) (by first | kernel_rfl | decide +kernel) (by first | kernel_rfl | decide +kernel) (by first | kernel_rfl | decide +kernel) (by rfl)
    · intro y hy xv xr Kc hK
      rw [hP]
      go_simp
      first | exact hK | (rw [if_neg (by omega)]; exact hK) | (rw [if_pos (by omega)]; exact hK)
    · intro y hy xv xr xe xhe
      rw [hP] at xhe
      simp [go_sem, *] at xhe
    · exact hS
    try walk_nrm
    co_applyP anyB_rd 2 rfl (by first | kernel_rfl | decide +kernel) (by first | kernel_rfl | decide +kernel) (by first | kernel_rfl | decide +kernel) (by first | kernel_rfl | decide +kernel) (by rfl)
    · intro y hy xv xr Kc hK
      rw [hP]
      go_simp
      first | exact hK | (rw [if_neg (by omega)]; exact hK) | (rw [if_pos (by omega)]; exact hK)
    · intro y hy xv xr xe xhe
      rw [hP] at xhe
      simp [go_sem, *] at xhe
    · exact hS
    try walk_nrm
    co_applyP anyB_rd 3 rfl (by first | kernel_rfl | decide +kernel) (by first | kernel_rfl | decide +kernel) (by first | kernel_rfl | decide +kernel) (by first | kernel_rfl | decide +kernel) (by rfl)
    · intro y hy xv xr Kc hK
      rw [hP]
      have xc0 := HasB.cell (hy ▸ hH) xr (o := o + j * 2) (v := _) (c1 j hjn)
      have xc1 := HasB.cell (hy ▸ hH) xr (o := o + j * 2 + 1) (v := _) (c2 j hjn)
      go_simp
      first | exact hK | (rw [if_neg (by omega)]; exact hK) | (rw [if_pos (by omega)]; exact hK)
    · intro y hy xv xr xe xhe
      rw [hP] at xhe
      have xc0 := HasB.cell (hy ▸ hH) xr (o := o + j * 2) (v := _) (c1 j hjn)
      have xc1 := HasB.cell (hy ▸ hH) xr (o := o + j * 2 + 1) (v := _) (c2 j hjn)
      simp [go_sem, *] at xhe
      all_goals (first | subst xhe | (rcases xhe with rfl | rfl) | (rcases xhe with rfl | rfl | rfl | rfl))
      all_goals (exact EvB.cell (hy ▸ hH) rfl _)
    · exact hS
    try walk_nrm
    co_applyP anyB_rd 4 rfl (by first | kernel_rfl | decide +kernel) (by first | kernel_rfl | decide +kernel) (by first | kernel_rfl | decide +kernel) (by first | kernel_rfl | decide +kernel) (by rfl)
    · intro y hy xv xr Kc hK
      rw [hP]
      go_simp
      first | exact hK | (rw [if_neg (by omega)]; exact hK) | (rw [if_pos (by omega)]; exact hK)
    · intro y hy xv xr xe xhe
      rw [hP] at xhe
      simp [go_sem, *] at xhe
    · exact hS
    try walk_nrm
    co_applyP anyB_rd 5 rfl (by first | kernel_rfl | decide +kernel) (by first | kernel_rfl | decide +kernel) (by first | kernel_rfl | decide +kernel) (by first | kernel_rfl | decide +kernel) (by rfl)
    · intro y hy xv xr Kc hK
      rw [hP]
      go_simp
      first | exact hK | (rw [if_neg (by omega)]; exact hK) | (rw [if_pos (by omega)]; exact hK)
    · intro y hy xv xr xe xhe
      rw [hP] at xhe
      simp [go_sem, *] at xhe
    · exact hS
    try walk_nrm
    co_applyP anyB_rd 6 rfl (by first | kernel_rfl | decide +kernel) (by first | kernel_rfl | decide +kernel) (by first | kernel_rfl | decide +kernel) (by first | kernel_rfl | decide +kernel) (by rfl)
    · intro y hy xv xr Kc hK
      rw [hP]
      go_simp
      first | exact hK | (rw [if_neg (by omega)]; exact hK) | (rw [if_pos (by omega)]; exact hK)
    · intro y hy xv xr xe xhe
      rw [hP] at xhe
      simp [go_sem, *] at xhe
    · exact hS
    try walk_nrm
    co_applyP anyB_rd 7 rfl (by first | kernel_rfl | decide +kernel) (by first | kernel_rfl | decide +kernel) (by first | kernel_rfl | decide +kernel) (by first | kernel_rfl | decide +kernel) (by rfl)
    · intro y hy xv xr Kc hK
      rw [hP]
      have xc0 := HasB.cell (hy ▸ hH') xr (o := o' + j * 2) (v := _) (c1' j hjn)
      have xc1 := HasB.cell (hy ▸ hH') xr (o := o' + j * 2 + 1) (v := _) (c2' j hjn)
      go_simp
      first | exact hK | (rw [if_neg (by omega)]; exact hK) | (rw [if_pos (by omega)]; exact hK)
    · intro y hy xv xr xe xhe
      rw [hP] at xhe
      have xc0 := HasB.cell (hy ▸ hH') xr (o := o' + j * 2) (v := _) (c1' j hjn)
      have xc1 := HasB.cell (hy ▸ hH') xr (o := o' + j * 2 + 1) (v := _) (c2' j hjn)
      simp [go_sem, *] at xhe
      all_goals (first | subst xhe | (rcases xhe with rfl | rfl) | (rcases xhe with rfl | rfl | rfl | rfl))
      all_goals (exact EvB.cell (hy ▸ hH') rfl _)
    · exact hS
    try walk_nrm
    obtain ⟨t, ht, hkk⟩ := neq2 (lo j) (lo' j) (hi j) (hi' j)
    have kt := Lib.hid ht
    have kk := Lib.hid hkk
    clear ht hkk
    co_applyP anyB_rd (v := .bool t) 8 rfl (by first | kernel_rfl | decide +kernel) (by first | kernel_rfl | decide +kernel) (by first | kernel_rfl | decide +kernel) (by first | kernel_rfl | decide +kernel) (by rfl)
    · intro y hy xv xr Kc hK
      rw [hP]
      go_simp
      exact kk.out _ _ hK
    · intro y hy xv xr xe xhe
      rw [hP] at xhe
      simp [go_sem, mute_guardSpan _ _ _ _ _ xv, mute_neqSpan _ _ _ _ xv] at xhe
    · exact hS
    refine anyB_done (by first | kernel_rfl | decide +kernel) ?_ _
    simp only [BThen, BBlock, if_true, if_false, reduceIte, Nat.reduceEqDiff]
    try walk_nrm
    repeat (refine wpB_seq ?_)
    refine wpB_split (t := t) (by first | rfl | simp [Act.eval]) (fun ht => ?_) (fun ht => ?_)
    · subst ht
      repeat (refine wpB_seq ?_)
      refine wpB_region ?_
      simp only [List.size_toArray, List.length_cons, List.length_nil, Nat.reduceAdd, Nat.zero_add, List.range, List.range.loop]
      repeat (
        co_applyP opsB_rd rfl (by rfl)
        · intro xv xr Kc hK
          rw [hP]
          go_simp
          first | exact hK | (rw [if_neg (by omega)]; exact hK) | (rw [if_pos (by omega)]; exact hK)
        · intro xv xr xe xhe
          rw [hP] at xhe
          simp [go_sem, *] at xhe
        try walk_nrm
      )
      refine opsB_nil ?_
      simp only [BThen, BBlock, if_true, if_false, reduceIte, Nat.reduceEqDiff]
      refine wpB_ret ?_
      refine ⟨rfl, .bool false, fun xv xr => ⟨?_, fun xe xhe => ?_⟩, ?_⟩
      · rw [hP]
        simp [results, Try.results15, go_sem]
      · have xhm := mem_seen xhe
        rw [hP] at xhm
        simp [results, Try.results15, go_sem] at xhm
      refine ⟨_, rfl, ⟨fun h => by simp at h, fun h => ?_⟩, rfl⟩
      have := kt.out.2 (h j hjn)
      cases this
    · subst ht
      refine wpB_skip ?_
      simp only [BThen, BBlock, if_true, if_false, reduceIte, Nat.reduceEqDiff]
      have hw : IntKind.i64.wrap ((j : Int) + 1) = ((j + 1 : Nat) : Int) := by rw [wrap_in (by omega)]; simp
      repeat (refine wpB_seq ?_)
      refine wpB_region ?_
      simp only [List.size_toArray, List.length_cons, List.length_nil, Nat.reduceAdd, Nat.zero_add, List.range, List.range.loop]
      repeat (
        co_applyP opsB_rd rfl (by rfl)
        · intro xv xr Kc hK
          rw [hP]
          go_simp
          first | exact hK | (rw [if_neg (by omega)]; exact hK) | (rw [if_pos (by omega)]; exact hK)
        · intro xv xr xe xhe
          rw [hP] at xhe
          simp [go_sem, *] at xhe
        try walk_nrm
      )
      refine opsB_nil ?_
      simp only [BThen, BBlock, if_true, if_false, reduceIte, Nat.reduceEqDiff]
      refine ⟨⟨j + 1, by omega, ⟨rfl, rfl, rfl, rfl, rfl, rfl, trivial⟩, (by first | rfl | trivial), fun i hi => ?_⟩, ?_⟩
      · rcases Nat.lt_or_ge i j with h | h
        · exact kg.out i h
        · obtain rfl : i = j := by omega
          exact kt.out.1 rfl
      · simp [slotI]
        omega
  · have hjn : j = n := by have := of_decide_eq_false ht; omega
    subst hjn
    clear ht
    refine wpB_exit ?_
    simp only [BThen, BBlock, if_true, if_false, reduceIte, Nat.reduceEqDiff]
    repeat (refine wpB_seq ?_)
    refine wpB_region ?_
    simp only [List.size_toArray, List.length_cons, List.length_nil, Nat.reduceAdd, Nat.zero_add, List.range, List.range.loop]
    repeat (
      co_applyP opsB_rd rfl (by rfl)
      · intro xv xr Kc hK
        rw [hP]
        go_simp
        first | exact hK | (rw [if_neg (by omega)]; exact hK) | (rw [if_pos (by omega)]; exact hK)
      · intro xv xr xe xhe
        rw [hP] at xhe
        simp [go_sem, *] at xhe
      try walk_nrm
    )
    refine opsB_nil ?_
    simp only [BThen, BBlock, if_true, if_false, reduceIte, Nat.reduceEqDiff]
    refine wpB_ret ?_
    refine ⟨rfl, .bool true, fun xv xr => ⟨?_, fun xe xhe => ?_⟩, ?_⟩
    · rw [hP]
      simp [results, Try.results15, go_sem]
    · have xhm := mem_seen xhe
      rw [hP] at xhm
      simp [results, Try.results15, go_sem] at xhm
    exact ⟨_, rfl, ⟨fun _ => kg.out, fun _ => rfl⟩, rfl⟩
end Go.Proofs.Ytplmgbffaeohpaa
