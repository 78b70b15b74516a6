/- Goroutine 0 beside goroutines that only leave: Times, ContainsFunc, Equal. -/
import Derived.Test.YtplmgbffaeohpaaBhE
import Derived.Test.YtplmgbffaeohpaaBhRound
set_option linter.unusedSimpArgs false
set_option linter.unusedVariables false
namespace Go.Proofs.Ytplmgbffaeohpaa
open Go.Conc Go.Crew Go.Beh Go.RowKit

def timesE (lo hi : Int) : Int := if lo < -100000000000000000 ∨ 100000000000000000 < hi then 3 else chk lo hi

set_option maxHeartbeats 1000000 in
theorem btimes_ok (B : Base) (hP : B.P = Try.prog) (lo hi : Int) (x : Go.Beh.M) :
    CallB B 16 #[] #[spV lo hi] x (fun v x' => v = .int .i64 (timesE lo hi) ∧ Ext x x') := by
  refine ⟨_, _, by rw [hP]; exact Try.func16, by rfl, rfl, ?_⟩
  simp only [Try.ntmps16, List.size_toArray, List.length_cons, List.length_nil, Nat.reduceAdd, Nat.reduceSub, Array.replicate_succ, Array.replicate_zero, List.push_toArray, List.append_toArray, List.nil_append, List.cons_append, Array.append_empty]
  unfold spV
  repeat (refine wpB_seq ?_)
  refine wpB_region ?_
  simp only [List.size_toArray, List.length_cons, List.length_nil, Nat.reduceAdd, Nat.zero_add, List.range, List.range.loop]
  co_applyP opsB_nw (fun b => .pointer (some ⟨b, 0, none⟩)) rfl (by rfl)
  · intro xv xr Kc hK
    rw [hP]
    go_simp
    first | exact hK | (rw [if_neg (by omega)]; exact hK) | (rw [if_pos (by omega)]; exact hK)
  · intro xv xr xe xhe
    rw [hP] at xhe
    simp [go_sem, *] at xhe
  intro x1 b1 m1 r1 h1 s1 q1
  try walk_nrm
  repeat (
    co_applyP opsB_rd rfl (by rfl)
    · intro xv xr Kc hK
      rw [hP]
      go_simp
      first | exact hK | (rw [if_neg (by omega)]; exact hK) | (rw [if_pos (by omega)]; exact hK)
    · intro xv xr xe xhe
      rw [hP] at xhe
      simp [go_sem, *] at xhe
    try walk_nrm
  )
  refine opsB_nil ?_
  simp only [BThen, BBlock, if_true, if_false, reduceIte, Nat.reduceEqDiff]
  repeat (refine wpB_seq ?_)
  refine wpB_region ?_
  simp only [List.size_toArray, List.length_cons, List.length_nil, Nat.reduceAdd, Nat.zero_add, List.range, List.range.loop]
  repeat (
    co_applyP opsB_rd rfl (by rfl)
    · intro xv xr Kc hK
      rw [hP]
      go_simp
      first | exact hK | (rw [if_neg (by omega)]; exact hK) | (rw [if_pos (by omega)]; exact hK)
    · intro xv xr xe xhe
      rw [hP] at xhe
      simp [go_sem, *] at xhe
    try walk_nrm
  )
  co_applyP opsB_rd rfl (by rfl)
  · intro xv xr Kc hK
    rw [hP]
    have xc0 := HasB.cell h1 xr (o := 0) (show _ = some _ from rfl)
    go_simp
    first | exact hK | (rw [if_neg (by omega)]; exact hK) | (rw [if_pos (by omega)]; exact hK)
  · intro xv xr xe xhe
    rw [hP] at xhe
    have xc0 := HasB.cell h1 xr (o := 0) (show _ = some _ from rfl)
    simp [go_sem, *] at xhe
    all_goals (first | subst xhe | (rcases xhe with rfl | rfl) | (rcases xhe with rfl | rfl | rfl | rfl))
    all_goals (exact EvB.cell h1 rfl _)
  try walk_nrm
  repeat (
    co_applyP opsB_rd rfl (by rfl)
    · intro xv xr Kc hK
      rw [hP]
      go_simp
      first | exact hK | (rw [if_neg (by omega)]; exact hK) | (rw [if_pos (by omega)]; exact hK)
    · intro xv xr xe xhe
      rw [hP] at xhe
      simp [go_sem, *] at xhe
    try walk_nrm
  )
  by_cases hlo : lo < -100000000000000000
  · rw [show decide (lo < -100000000000000000) = true from decide_eq_true hlo]
    repeat (refine opsB_unwanted rfl (by rfl) ?_; try walk_nrm)
    repeat (
      co_applyP opsB_rd rfl (by rfl)
      · intro xv xr Kc hK
        rw [hP]
        go_simp
        first | exact hK | (rw [if_neg (by omega)]; exact hK) | (rw [if_pos (by omega)]; exact hK)
      · intro xv xr xe xhe
        rw [hP] at xhe
        simp [go_sem, *] at xhe
      try walk_nrm
    )
    refine opsB_nil ?_
    simp only [BThen, BBlock, if_true, if_false, reduceIte, Nat.reduceEqDiff]
    repeat (refine wpB_seq ?_)
    refine wpB_split (t := true) (by first | rfl | simp [Act.eval]) (fun ht => ?_) (fun ht => ?_)
    · repeat (refine wpB_seq ?_)
      refine wpB_region ?_
      simp only [List.size_toArray, List.length_cons, List.length_nil, Nat.reduceAdd, Nat.zero_add, List.range, List.range.loop]
      repeat (
        co_applyP opsB_rd rfl (by rfl)
        · intro xv xr Kc hK
          rw [hP]
          go_simp
          first | exact hK | (rw [if_neg (by omega)]; exact hK) | (rw [if_pos (by omega)]; exact hK)
        · intro xv xr xe xhe
          rw [hP] at xhe
          simp [go_sem, *] at xhe
        try walk_nrm
      )
      refine opsB_nil ?_
      simp only [BThen, BBlock, if_true, if_false, reduceIte, Nat.reduceEqDiff]
      refine wpB_ret ?_
      refine ⟨rfl, .int .i64 3, fun xv xr => ⟨?_, fun xe xhe => ?_⟩, ?_⟩
      · rw [hP]
        simp [results, Try.results16, go_sem]
      · have xhm := mem_seen xhe
        rw [hP] at xhm
        simp [results, Try.results16, go_sem] at xhm
      exact ⟨by unfold timesE; rw [if_pos (.inl hlo)], r1⟩
    · cases ht
  · rw [show decide (lo < -100000000000000000) = false from decide_eq_false hlo]
    repeat (
      co_applyP opsB_rd rfl (by rfl)
      · intro xv xr Kc hK
        rw [hP]
        go_simp
        first | exact hK | (rw [if_neg (by omega)]; exact hK) | (rw [if_pos (by omega)]; exact hK)
      · intro xv xr xe xhe
        rw [hP] at xhe
        simp [go_sem, *] at xhe
      try walk_nrm
    )
    co_applyP opsB_rd rfl (by rfl)
    · intro xv xr Kc hK
      rw [hP]
      have xc0 := HasB.cell h1 xr (o := 1) (show _ = some _ from rfl)
      go_simp
      first | exact hK | (rw [if_neg (by omega)]; exact hK) | (rw [if_pos (by omega)]; exact hK)
    · intro xv xr xe xhe
      rw [hP] at xhe
      have xc0 := HasB.cell h1 xr (o := 1) (show _ = some _ from rfl)
      simp [go_sem, *] at xhe
      all_goals (first | subst xhe | (rcases xhe with rfl | rfl) | (rcases xhe with rfl | rfl | rfl | rfl))
      all_goals (exact EvB.cell h1 rfl _)
    try walk_nrm
    repeat (
      co_applyP opsB_rd rfl (by rfl)
      · intro xv xr Kc hK
        rw [hP]
        go_simp
        first | exact hK | (rw [if_neg (by omega)]; exact hK) | (rw [if_pos (by omega)]; exact hK)
      · intro xv xr xe xhe
        rw [hP] at xhe
        simp [go_sem, *] at xhe
      try walk_nrm
    )
    refine opsB_nil ?_
    simp only [BThen, BBlock, if_true, if_false, reduceIte, Nat.reduceEqDiff]
    repeat (refine wpB_seq ?_)
    refine wpB_split (t := decide (100000000000000000 < hi)) (by first | rfl | simp [Act.eval]) (fun ht => ?_) (fun ht => ?_)
    · have hhi := of_decide_eq_true ht
      clear ht
      repeat (refine wpB_seq ?_)
      refine wpB_region ?_
      simp only [List.size_toArray, List.length_cons, List.length_nil, Nat.reduceAdd, Nat.zero_add, List.range, List.range.loop]
      repeat (
        co_applyP opsB_rd rfl (by rfl)
        · intro xv xr Kc hK
          rw [hP]
          go_simp
          first | exact hK | (rw [if_neg (by omega)]; exact hK) | (rw [if_pos (by omega)]; exact hK)
        · intro xv xr xe xhe
          rw [hP] at xhe
          simp [go_sem, *] at xhe
        try walk_nrm
      )
      refine opsB_nil ?_
      simp only [BThen, BBlock, if_true, if_false, reduceIte, Nat.reduceEqDiff]
      refine wpB_ret ?_
      refine ⟨rfl, .int .i64 3, fun xv xr => ⟨?_, fun xe xhe => ?_⟩, ?_⟩
      · rw [hP]
        simp [results, Try.results16, go_sem]
      · have xhm := mem_seen xhe
        rw [hP] at xhm
        simp [results, Try.results16, go_sem] at xhm
      exact ⟨by unfold timesE; rw [if_pos (.inr hhi)], r1⟩
    · have hhi := of_decide_eq_false ht
      clear ht
      refine wpB_skip ?_
      simp only [BThen, BBlock, if_true, if_false, reduceIte, Nat.reduceEqDiff]
      repeat (refine wpB_seq ?_)
      refine wpB_region ?_
      simp only [List.size_toArray, List.length_cons, List.length_nil, Nat.reduceAdd, Nat.zero_add, List.range, List.range.loop]
      co_applyP opsB_rd rfl (by rfl)
      · intro xv xr Kc hK
        rw [hP]
        have xc0 := HasB.cell h1 xr (o := 0) (show _ = some _ from rfl)
        have xc1 := HasB.cell h1 xr (o := 1) (show _ = some _ from rfl)
        go_simp
        first | exact hK | (rw [if_neg (by omega)]; exact hK) | (rw [if_pos (by omega)]; exact hK)
      · intro xv xr xe xhe
        rw [hP] at xhe
        have xc0 := HasB.cell h1 xr (o := 0) (show _ = some _ from rfl)
        have xc1 := HasB.cell h1 xr (o := 1) (show _ = some _ from rfl)
        simp [go_sem, *] at xhe
        all_goals (first | subst xhe | (rcases xhe with rfl | rfl) | (rcases xhe with rfl | rfl | rfl | rfl))
        all_goals (exact EvB.cell h1 rfl _)
      try walk_nrm
      co_applyP opsB_act rfl (by rfl) (actB_callV rfl (by first | (simp [Act.eval]; done) | (simp [Act.eval, spV]; done) | rfl) (ichk_ok B hP lo hi x1) (fun _ _ h => h))
      rintro v x2 ⟨rfl, e2⟩
      try walk_nrm
      repeat (
        co_applyP opsB_rd rfl (by rfl)
        · intro xv xr Kc hK
          rw [hP]
          go_simp
          first | exact hK | (rw [if_neg (by omega)]; exact hK) | (rw [if_pos (by omega)]; exact hK)
        · intro xv xr xe xhe
          rw [hP] at xhe
          simp [go_sem, *] at xhe
        try walk_nrm
      )
      refine opsB_nil ?_
      simp only [BThen, BBlock, if_true, if_false, reduceIte, Nat.reduceEqDiff]
      refine wpB_ret ?_
      refine ⟨rfl, .int .i64 (chk lo hi), fun xv xr => ⟨?_, fun xe xhe => ?_⟩, ?_⟩
      · rw [hP]
        simp [results, Try.results16, go_sem]
      · have xhm := mem_seen xhe
        rw [hP] at xhm
        simp [results, Try.results16, go_sem] at xhm
      exact ⟨by unfold timesE; rw [if_neg (by omega)], r1.trans e2⟩

/-- The cells of a slice of intervals. -/
def SpanSl (x : Go.Beh.M) (A : Option Addr) (n : Nat) (lo hi : Nat → Int) : Prop :=
  0 < n → ∃ b o cs e f, A = some ⟨b, o, none⟩ ∧ HasB x b (.cells cs e f) ∧ (∀ i, i < n → cs[o + i * 2]? = some (.int .i64 (lo i))) ∧ ∀ i, i < n → cs[o + i * 2 + 1]? = some (.int .i64 (hi i))
theorem SpanSl.ext {x y : Go.Beh.M} {A : Option Addr} {n : Nat} {lo hi : Nat → Int} (h : SpanSl x A n lo hi) (r : Ext x y) : SpanSl y A n lo hi := fun hn => by
  obtain ⟨b, o, cs, e, f, h1, h2, h3⟩ := h hn
  exact ⟨b, o, cs, e, f, h1, h2.ext r, h3⟩

set_option maxHeartbeats 1000000 in
theorem index_ok (B : Base) (hP : B.P = Try.prog) (A : Option Addr) (n cap : Nat) (hn : n ≤ 1000000) (lo hi : Nat → Int) (x : Go.Beh.M) (hA : SpanSl x A n lo hi) :
    CallB B 38 #[] #[.slice A n cap, .func (.func 22) #[] #[]] x
      (fun v x' => ∃ k : Int, v = .int .i64 k ∧ (0 ≤ k ↔ ∃ i, i < n ∧ hi i < lo i) ∧ Ext x x') := by
  refine ⟨_, _, by rw [hP]; exact Try.func38, by rfl, rfl, ?_⟩
  simp only [Try.ntmps38, List.size_toArray, List.length_cons, List.length_nil, Nat.reduceAdd, Nat.reduceSub, Array.replicate_succ, Array.replicate_zero, List.push_toArray, List.append_toArray, List.nil_append, List.cons_append, Array.append_empty]
  repeat (refine wpB_seq ?_)
  refine wpB_region ?_
  simp only [List.size_toArray, List.length_cons, List.length_nil, Nat.reduceAdd, Nat.zero_add, List.range, List.range.loop]
  repeat (
    co_applyP opsB_rd rfl (by rfl)
    · intro xv xr Kc hK
      rw [hP]
      go_simp
      first | exact hK | (rw [if_neg (by omega)]; exact hK) | (rw [if_pos (by omega)]; exact hK)
    · intro xv xr xe xhe
      rw [hP] at xhe
      simp [go_sem, *] at xhe
    try walk_nrm
  )
  refine opsB_nil ?_
  simp only [BThen, BBlock, if_true, if_false, reduceIte, Nat.reduceEqDiff]
  repeat (refine wpB_seq ?_)
  refine wpB_region ?_
  simp only [List.size_toArray, List.length_cons, List.length_nil, Nat.reduceAdd, Nat.zero_add, List.range, List.range.loop]
  repeat (
    co_applyP opsB_rd rfl (by rfl)
    · intro xv xr Kc hK
      rw [hP]
      go_simp
      first | exact hK | (rw [if_neg (by omega)]; exact hK) | (rw [if_pos (by omega)]; exact hK)
    · intro xv xr xe xhe
      rw [hP] at xhe
      simp [go_sem, *] at xhe
    try walk_nrm
  )
  refine opsB_nil ?_
  simp only [BThen, BBlock, if_true, if_false, reduceIte, Nat.reduceEqDiff]
  repeat (refine wpB_seq ?_)
  refine wpB_block ?_
  refine wpB_loop (fun a y => ∃ j : Nat, j ≤ n ∧ Fr 19 [(0, .slice A n cap), (1, .func (.func 22) #[] #[]), (7, .int .i64 n), (8, .int .i64 j)] a ∧ Ext x y ∧ ∀ i, i < j → ¬ hi i < lo i)
    (fun a _ => (n - slotI a 8).toNat) ⟨0, by omega, ⟨rfl, rfl, rfl, rfl, rfl, rfl, trivial⟩, Ext.refl x, fun i hi => absurd hi (by omega)⟩ ?_
  rintro a y ⟨j, hj, hs, r0, g0⟩
  obtain ⟨u, hu, hv⟩ := hs.lit
  simp only [List.range, List.range.loop, List.map_cons, List.map_nil] at hu
  obtain ⟨z0, z1, z7, z8, -⟩ := hs.at_
  have y0 := (hv 0).trans z0
  have y1 := (hv 1).trans z1
  have y7 := (hv 7).trans z7
  have y8 := (hv 8).trans z8
  rw [y0, y1, y7, y8] at hu
  clear hv hs z0 z1 z7 z8 y0 y1 y7 y8
  subst hu
  repeat (refine wpB_seq ?_)
  refine wpB_region ?_
  simp only [List.size_toArray, List.length_cons, List.length_nil, Nat.reduceAdd, Nat.zero_add, List.range, List.range.loop]
  repeat (
    co_applyP opsB_rd rfl (by rfl)
    · intro xv xr Kc hK
      rw [hP]
      go_simp
      first | exact hK | (rw [if_neg (by omega)]; exact hK) | (rw [if_pos (by omega)]; exact hK)
    · intro xv xr xe xhe
      rw [hP] at xhe
      simp [go_sem, *] at xhe
    try walk_nrm
  )
  refine opsB_nil ?_
  simp only [BThen, BBlock, if_true, if_false, reduceIte, Nat.reduceEqDiff]
  repeat (refine wpB_seq ?_)
  refine wpB_split (t := decide ((j : Int) < n)) (by first | rfl | simp [Act.eval]) (fun ht => ?_) (fun ht => ?_)
  · have hjn : j < n := by have := of_decide_eq_true ht; omega
    clear ht
    refine wpB_skip ?_
    simp only [BThen, BBlock, if_true, if_false, reduceIte, Nat.reduceEqDiff]
    repeat (refine wpB_seq ?_)
    refine wpB_block ?_
    obtain ⟨b, o, cs, e, f, rfl, hH, c1, c2⟩ := hA.ext r0 (by omega)
    have hj' : (j : Int) < (n : Int) := by omega
    repeat (refine wpB_seq ?_)
    refine wpB_region ?_
    simp only [List.size_toArray, List.length_cons, List.length_nil, Nat.reduceAdd, Nat.zero_add, List.range, List.range.loop]
    repeat (
      co_applyP opsB_rd rfl (by rfl)
      · intro xv xr Kc hK
        rw [hP]
        go_simp
        first | exact hK | (rw [if_neg (by omega)]; exact hK) | (rw [if_pos (by omega)]; exact hK)
      · intro xv xr xe xhe
        rw [hP] at xhe
        simp [go_sem, *] at xhe
      try walk_nrm
    )
    refine opsB_nil ?_
    simp only [BThen, BBlock, if_true, if_false, reduceIte, Nat.reduceEqDiff]
    repeat (refine wpB_seq ?_)
    refine wpB_region ?_
    simp only [List.size_toArray, List.length_cons, List.length_nil, Nat.reduceAdd, Nat.zero_add, List.range, List.range.loop]
    repeat (
      co_applyP opsB_rd rfl (by rfl)
      · intro xv xr Kc hK
        rw [hP]
        go_simp
        first | exact hK | (rw [if_neg (by omega)]; exact hK) | (rw [if_pos (by omega)]; exact hK)
      · intro xv xr xe xhe
        rw [hP] at xhe
        simp [go_sem, *] at xhe
      try walk_nrm
    )
    co_applyP opsB_rd rfl (by rfl)
    · intro xv xr Kc hK
      rw [hP]
      have xc0 := HasB.cell hH xr (o := o + j * 2) (v := _) (c1 j hjn)
      have xc1 := HasB.cell hH xr (o := o + j * 2 + 1) (v := _) (c2 j hjn)
      go_simp
      first | exact hK | (rw [if_neg (by omega)]; exact hK) | (rw [if_pos (by omega)]; exact hK)
    · intro xv xr xe xhe
      rw [hP] at xhe
      have xc0 := HasB.cell hH xr (o := o + j * 2) (v := _) (c1 j hjn)
      have xc1 := HasB.cell hH xr (o := o + j * 2 + 1) (v := _) (c2 j hjn)
      simp [go_sem, *] at xhe
      all_goals (first | subst xhe | (rcases xhe with rfl | rfl) | (rcases xhe with rfl | rfl | rfl | rfl))
      all_goals (exact EvB.cell hH rfl _)
    try walk_nrm
    have nm : ¬ Try.f22.name = "runtime.NumGoroutine" := by
      have : (Try.f22.name == "runtime.NumGoroutine") = false := by rfl
      simpa using this
    have bd : ¬ Try.f22.body = none := by rw [show Try.f22.body = some _ from rfl]; simp
    co_applyP opsB_act rfl (by rfl) (actB_call (fun w => ⟨?run, ?ev⟩) (empty_ok B hP (lo j) (hi j) y) (fun _ _ h => h))
    case run =>
      rw [hP]
      simp [execOp, resolve, invoke, callFunc, Act.eval, go_sem, nm, bd, spV]
    case ev =>
      rw [hP]
      simp [execOp, resolve, invoke, callFunc, Act.eval, go_sem, nm, bd]
      exact seen_none _ _
    clear nm bd
    rintro v x1 ⟨rfl, e1⟩
    try walk_nrm
    refine opsB_nil ?_
    simp only [BThen, BBlock, if_true, if_false, reduceIte, Nat.reduceEqDiff]
    repeat (refine wpB_seq ?_)
    refine wpB_split (t := decide (hi j < lo j)) (by first | rfl | simp [Act.eval]) (fun ht => ?_) (fun ht => ?_)
    · have hlt := of_decide_eq_true ht
      clear ht
      repeat (refine wpB_seq ?_)
      refine wpB_region ?_
      simp only [List.size_toArray, List.length_cons, List.length_nil, Nat.reduceAdd, Nat.zero_add, List.range, List.range.loop]
      repeat (
        co_applyP opsB_rd rfl (by rfl)
        · intro xv xr Kc hK
          rw [hP]
          go_simp
          first | exact hK | (rw [if_neg (by omega)]; exact hK) | (rw [if_pos (by omega)]; exact hK)
        · intro xv xr xe xhe
          rw [hP] at xhe
          simp [go_sem, *] at xhe
        try walk_nrm
      )
      refine opsB_nil ?_
      simp only [BThen, BBlock, if_true, if_false, reduceIte, Nat.reduceEqDiff]
      refine wpB_ret ?_
      refine ⟨rfl, .int .i64 j, fun xv xr => ⟨?_, fun xe xhe => ?_⟩, ?_⟩
      · rw [hP]
        simp [results, Try.results38, go_sem]
      · have xhm := mem_seen xhe
        rw [hP] at xhm
        simp [results, Try.results38, go_sem] at xhm
      exact ⟨j, rfl, ⟨fun _ => ⟨j, hjn, hlt⟩, fun _ => by omega⟩, r0.trans e1⟩
    · have hlt := of_decide_eq_false ht
      clear ht
      refine wpB_skip ?_
      simp only [BThen, BBlock, if_true, if_false, reduceIte, Nat.reduceEqDiff]
      have hw : IntKind.i64.wrap ((j : Int) + 1) = ((j + 1 : Nat) : Int) := by rw [wrap_in (by omega)]; simp
      repeat (refine wpB_seq ?_)
      refine wpB_region ?_
      simp only [List.size_toArray, List.length_cons, List.length_nil, Nat.reduceAdd, Nat.zero_add, List.range, List.range.loop]
      repeat (
        co_applyP opsB_rd rfl (by rfl)
        · intro xv xr Kc hK
          rw [hP]
          go_simp
          first | exact hK | (rw [if_neg (by omega)]; exact hK) | (rw [if_pos (by omega)]; exact hK)
        · intro xv xr xe xhe
          rw [hP] at xhe
          simp [go_sem, *] at xhe
        try walk_nrm
      )
      refine opsB_nil ?_
      simp only [BThen, BBlock, if_true, if_false, reduceIte, Nat.reduceEqDiff]
      refine ⟨⟨j + 1, by omega, ⟨rfl, rfl, rfl, rfl, rfl, rfl, trivial⟩, r0.trans e1, fun i hi => ?_⟩, ?_⟩
      · rcases Nat.lt_or_ge i j with h | h
        · exact g0 i h
        · obtain rfl : i = j := by omega
          exact hlt
      · simp [slotI]
        omega
  · have hjn : j = n := by have := of_decide_eq_false ht; omega
    subst hjn
    clear ht
    refine wpB_exit ?_
    simp only [BThen, BBlock, if_true, if_false, reduceIte, Nat.reduceEqDiff]
    repeat (refine wpB_seq ?_)
    refine wpB_region ?_
    simp only [List.size_toArray, List.length_cons, List.length_nil, Nat.reduceAdd, Nat.zero_add, List.range, List.range.loop]
    repeat (
      co_applyP opsB_rd rfl (by rfl)
      · intro xv xr Kc hK
        rw [hP]
        go_simp
        first | exact hK | (rw [if_neg (by omega)]; exact hK) | (rw [if_pos (by omega)]; exact hK)
      · intro xv xr xe xhe
        rw [hP] at xhe
        simp [go_sem, *] at xhe
      try walk_nrm
    )
    refine opsB_nil ?_
    simp only [BThen, BBlock, if_true, if_false, reduceIte, Nat.reduceEqDiff]
    refine wpB_ret ?_
    refine ⟨rfl, .int .i64 (-1), fun xv xr => ⟨?_, fun xe xhe => ?_⟩, ?_⟩
    · rw [hP]
      simp [results, Try.results38, go_sem]
    · have xhm := mem_seen xhe
      rw [hP] at xhm
      simp [results, Try.results38, go_sem] at xhm
    exact ⟨-1, rfl, ⟨fun h => absurd h (by omega), fun ⟨i, hi, hl⟩ => absurd hl (g0 i hi)⟩, r0⟩
end Go.Proofs.Ytplmgbffaeohpaa
