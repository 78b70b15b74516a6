/- Goroutine 0 beside goroutines that only leave: frames; small functions. -/
import Derived.Test.YtplmgbffaeohpaaBhC
import Derived.Test.YtplmgbffaeohpaaCoMeet
set_option linter.unusedSimpArgs false
set_option linter.unusedVariables false
namespace Go.Beh
open Go.Conc
def FrAt : List (Nat × Value) → Act → Prop
  | [], _ => True
  | (k, v) :: r, a => a.tmps.getD k undef = v ∧ FrAt r a
/-- A frame of n slots, of which these are known. -/
structure Fr (n : Nat) (fs : List (Nat × Value)) (a : Act) : Prop where
  ds : a.defers = []
  sz : a.tmps.size = n
  at_ : FrAt fs a
theorem Fr.lit {n : Nat} {fs : List (Nat × Value)} {a : Act} (h : Fr n fs a) : ∃ u : Nat → Value, a = ⟨((List.range n).map u).toArray, []⟩ ∧ ∀ s, u s = a.tmps.getD s undef := by
  obtain ⟨u, h1, h2⟩ := Go.Crew.frame_lit h.sz
  refine ⟨u, ?_, h2⟩
  obtain ⟨T, ds⟩ := a
  obtain rfl : ds = [] := h.ds
  simp only at h1
  rw [h1]
end Go.Beh
namespace Go.Proofs.Ytplmgbffaeohpaa
open Go.Conc Go.Crew Go.Beh Go.RowKit

def atN (k n : Int) : Int := (k.tmod n + n).tmod n
theorem atN_bd {k n : Int} (hn : 0 < n) : 0 ≤ atN k n ∧ atN k n < n := by
  unfold atN
  have h1 := Int.tmod_lt_of_pos k hn
  have h2 : -n < k.tmod n := by
    have h3 := Int.natAbs_tmod k n
    have h4 := Nat.mod_lt k.natAbs (show 0 < n.natAbs by omega)
    omega
  have h3 : 0 ≤ k.tmod n + n := by omega
  rw [Int.tmod_eq_emod_of_nonneg h3]
  exact ⟨Int.emod_nonneg _ (by omega), Int.emod_lt_of_pos _ hn⟩

set_option maxHeartbeats 1000000 in
theorem at_ok (B : Base) (hP : B.P = Try.prog) (k n : Int) (hn : 0 < n ∧ n ≤ 1000000000) (x : Go.Beh.M) :
    CallB B 10 #[] #[.int .i64 k, .int .i64 n] x (fun v x' => v = .int .i64 (atN k n) ∧ x' = x) := by
  refine ⟨_, _, by rw [hP]; exact Try.func10, by rfl, rfl, ?_⟩
  simp only [Try.ntmps10, List.size_toArray, List.length_cons, List.length_nil, Nat.reduceAdd, Nat.reduceSub, Array.replicate_succ, Array.replicate_zero, List.push_toArray, List.append_toArray, List.nil_append, List.cons_append, Array.append_empty]
  repeat (refine wpB_seq ?_)
  refine wpB_region ?_
  simp only [List.size_toArray, List.length_cons, List.length_nil, Nat.reduceAdd, Nat.zero_add, List.range, List.range.loop]
  repeat (
    co_applyP opsB_rd rfl (by rfl)
    · intro xv xr Kc hK
      rw [hP]
      go_simp
      first | exact hK | (rw [if_neg (by omega)]; exact hK) | (rw [if_pos (by omega)]; exact hK)
    · intro xv xr xe xhe
      rw [hP] at xhe
      simp [go_sem, *] at xhe
    try walk_nrm
  )
  refine opsB_nil ?_
  simp only [BThen, BBlock, if_true, if_false, reduceIte, Nat.reduceEqDiff]
  repeat (refine wpB_seq ?_)
  refine wpB_region ?_
  simp only [List.size_toArray, List.length_cons, List.length_nil, Nat.reduceAdd, Nat.zero_add, List.range, List.range.loop]
  repeat (
    co_applyP opsB_rd rfl (by rfl)
    · intro xv xr Kc hK
      rw [hP]
      go_simp
      first | exact hK | (rw [if_neg (by omega)]; exact hK) | (rw [if_pos (by omega)]; exact hK)
    · intro xv xr xe xhe
      rw [hP] at xhe
      simp [go_sem, *] at xhe
    try walk_nrm
  )
  refine opsB_nil ?_
  simp only [BThen, BBlock, if_true, if_false, reduceIte, Nat.reduceEqDiff]
  have e : IntKind.i64.wrap (k.tmod n + n) = k.tmod n + n := wrap_in (by have h1 := Int.tmod_lt_of_pos k hn.1; have h2 := Int.lt_tmod_of_pos k hn.1; omega)
  refine wpB_ret ?_
  refine ⟨rfl, .int .i64 (atN k n), fun xv xr => ⟨?_, fun xe xhe => ?_⟩, ?_⟩
  · rw [hP]
    simp [results, Try.results10, go_sem, e, atN]
  · have xhm := mem_seen xhe
    rw [hP] at xhm
    simp [results, Try.results10, go_sem] at xhm
  exact ⟨rfl, rfl⟩

set_option maxHeartbeats 1000000 in
theorem empty_ok (B : Base) (hP : B.P = Try.prog) (lo hi : Int) (x : Go.Beh.M) :
    CallB B 22 #[] #[spV lo hi] x (fun v x' => v = .bool (decide (hi < lo)) ∧ Ext x x') := by
  refine ⟨_, _, by rw [hP]; exact Try.func22, by rfl, rfl, ?_⟩
  simp only [Try.ntmps22, List.size_toArray, List.length_cons, List.length_nil, Nat.reduceAdd, Nat.reduceSub, Array.replicate_succ, Array.replicate_zero, List.push_toArray, List.append_toArray, List.nil_append, List.cons_append, Array.append_empty]
  unfold spV
  repeat (refine wpB_seq ?_)
  refine wpB_region ?_
  simp only [List.size_toArray, List.length_cons, List.length_nil, Nat.reduceAdd, Nat.zero_add, List.range, List.range.loop]
  co_applyP opsB_nw (fun b => .pointer (some ⟨b, 0, none⟩)) rfl (by rfl)
  · intro xv xr Kc hK
    rw [hP]
    go_simp
    first | exact hK | (rw [if_neg (by omega)]; exact hK) | (rw [if_pos (by omega)]; exact hK)
  · intro xv xr xe xhe
    rw [hP] at xhe
    simp [go_sem, *] at xhe
  intro x1 b1 m1 e1 h1 s1 q1
  try walk_nrm
  repeat (
    co_applyP opsB_rd rfl (by rfl)
    · intro xv xr Kc hK
      rw [hP]
      go_simp
      first | exact hK | (rw [if_neg (by omega)]; exact hK) | (rw [if_pos (by omega)]; exact hK)
    · intro xv xr xe xhe
      rw [hP] at xhe
      simp [go_sem, *] at xhe
    try walk_nrm
  )
  refine opsB_nil ?_
  simp only [BThen, BBlock, if_true, if_false, reduceIte, Nat.reduceEqDiff]
  repeat (refine wpB_seq ?_)
  refine wpB_region ?_
  simp only [List.size_toArray, List.length_cons, List.length_nil, Nat.reduceAdd, Nat.zero_add, List.range, List.range.loop]
  repeat (
    co_applyP opsB_rd rfl (by rfl)
    · intro xv xr Kc hK
      rw [hP]
      go_simp
      first | exact hK | (rw [if_neg (by omega)]; exact hK) | (rw [if_pos (by omega)]; exact hK)
    · intro xv xr xe xhe
      rw [hP] at xhe
      simp [go_sem, *] at xhe
    try walk_nrm
  )
  co_applyP opsB_rd rfl (by rfl)
  · intro xv xr Kc hK
    rw [hP]
    have xc0 := HasB.cell h1 xr (o := 0) (show _ = some _ from rfl)
    go_simp
    first | exact hK | (rw [if_neg (by omega)]; exact hK) | (rw [if_pos (by omega)]; exact hK)
  · intro xv xr xe xhe
    rw [hP] at xhe
    have xc0 := HasB.cell h1 xr (o := 0) (show _ = some _ from rfl)
    simp [go_sem, *] at xhe
    all_goals (first | subst xhe | (rcases xhe with rfl | rfl) | (rcases xhe with rfl | rfl | rfl | rfl))
    all_goals (exact EvB.cell h1 rfl _)
  try walk_nrm
  repeat (
    co_applyP opsB_rd rfl (by rfl)
    · intro xv xr Kc hK
      rw [hP]
      go_simp
      first | exact hK | (rw [if_neg (by omega)]; exact hK) | (rw [if_pos (by omega)]; exact hK)
    · intro xv xr xe xhe
      rw [hP] at xhe
      simp [go_sem, *] at xhe
    try walk_nrm
  )
  co_applyP opsB_rd rfl (by rfl)
  · intro xv xr Kc hK
    rw [hP]
    have xc0 := HasB.cell h1 xr (o := 1) (show _ = some _ from rfl)
    go_simp
    first | exact hK | (rw [if_neg (by omega)]; exact hK) | (rw [if_pos (by omega)]; exact hK)
  · intro xv xr xe xhe
    rw [hP] at xhe
    have xc0 := HasB.cell h1 xr (o := 1) (show _ = some _ from rfl)
    simp [go_sem, *] at xhe
    all_goals (first | subst xhe | (rcases xhe with rfl | rfl) | (rcases xhe with rfl | rfl | rfl | rfl))
    all_goals (exact EvB.cell h1 rfl _)
  try walk_nrm
  repeat (
    co_applyP opsB_rd rfl (by rfl)
    · intro xv xr Kc hK
      rw [hP]
      go_simp
      first | exact hK | (rw [if_neg (by omega)]; exact hK) | (rw [if_pos (by omega)]; exact hK)
    · intro xv xr xe xhe
      rw [hP] at xhe
      simp [go_sem, *] at xhe
    try walk_nrm
  )
  refine opsB_nil ?_
  simp only [BThen, BBlock, if_true, if_false, reduceIte, Nat.reduceEqDiff]
  refine wpB_ret ?_
  refine ⟨rfl, .bool (decide (hi < lo)), fun xv xr => ⟨?_, fun xe xhe => ?_⟩, ?_⟩
  · rw [hP]
    simp [results, Try.results22, go_sem]
  · have xhm := mem_seen xhe
    rw [hP] at xhm
    simp [results, Try.results22, go_sem] at xhm
  exact ⟨rfl, e1⟩

set_option maxHeartbeats 1000000 in
theorem holds_ok (B : Base) (hP : B.P = Try.prog) (al ah bl bh : Int) (x : Go.Beh.M) :
    CallB B 9 #[] #[spV al ah, spV bl bh] x (fun v x' => v = .bool (decide (al ≤ bl ∧ bh ≤ ah)) ∧ Ext x x') := by
  refine ⟨_, _, by rw [hP]; exact Try.func9, by rfl, rfl, ?_⟩
  simp only [Try.ntmps9, List.size_toArray, List.length_cons, List.length_nil, Nat.reduceAdd, Nat.reduceSub, Array.replicate_succ, Array.replicate_zero, List.push_toArray, List.append_toArray, List.nil_append, List.cons_append, Array.append_empty]
  unfold spV
  repeat (refine wpB_seq ?_)
  refine wpB_region ?_
  simp only [List.size_toArray, List.length_cons, List.length_nil, Nat.reduceAdd, Nat.zero_add, List.range, List.range.loop]
  co_applyP opsB_nw (fun b => .pointer (some ⟨b, 0, none⟩)) rfl (by rfl)
  · intro xv xr Kc hK
    rw [hP]
    go_simp
    first | exact hK | (rw [if_neg (by omega)]; exact hK) | (rw [if_pos (by omega)]; exact hK)
  · intro xv xr xe xhe
    rw [hP] at xhe
    simp [go_sem, *] at xhe
  intro x1 b1 m1 e1 h1 s1 q1
  try walk_nrm
  co_applyP opsB_nw (fun b => .pointer (some ⟨b, 0, none⟩)) rfl (by rfl)
  · intro xv xr Kc hK
    rw [hP]
    go_simp
    first | exact hK | (rw [if_neg (by omega)]; exact hK) | (rw [if_pos (by omega)]; exact hK)
  · intro xv xr xe xhe
    rw [hP] at xhe
    simp [go_sem, *] at xhe
  intro x2 b2 m2 e2 h2 s2 q2
  try walk_nrm
  replace h1 := h1.ext e2
  replace e1 := e1.trans e2
  clear e2 q1 q2 m1 m2
  repeat (
    co_applyP opsB_rd rfl (by rfl)
    · intro xv xr Kc hK
      rw [hP]
      go_simp
      first | exact hK | (rw [if_neg (by omega)]; exact hK) | (rw [if_pos (by omega)]; exact hK)
    · intro xv xr xe xhe
      rw [hP] at xhe
      simp [go_sem, *] at xhe
    try walk_nrm
  )
  refine opsB_nil ?_
  simp only [BThen, BBlock, if_true, if_false, reduceIte, Nat.reduceEqDiff]
  repeat (refine wpB_seq ?_)
  refine wpB_region ?_
  simp only [List.size_toArray, List.length_cons, List.length_nil, Nat.reduceAdd, Nat.zero_add, List.range, List.range.loop]
  repeat (
    co_applyP opsB_rd rfl (by rfl)
    · intro xv xr Kc hK
      rw [hP]
      go_simp
      first | exact hK | (rw [if_neg (by omega)]; exact hK) | (rw [if_pos (by omega)]; exact hK)
    · intro xv xr xe xhe
      rw [hP] at xhe
      simp [go_sem, *] at xhe
    try walk_nrm
  )
  co_applyP opsB_rd rfl (by rfl)
  · intro xv xr Kc hK
    rw [hP]
    have xc0 := HasB.cell h1 xr (o := 0) (show _ = some _ from rfl)
    go_simp
    first | exact hK | (rw [if_neg (by omega)]; exact hK) | (rw [if_pos (by omega)]; exact hK)
  · intro xv xr xe xhe
    rw [hP] at xhe
    have xc0 := HasB.cell h1 xr (o := 0) (show _ = some _ from rfl)
    simp [go_sem, *] at xhe
    all_goals (first | subst xhe | (rcases xhe with rfl | rfl) | (rcases xhe with rfl | rfl | rfl | rfl))
    all_goals (exact EvB.cell h1 rfl _)
  try walk_nrm
  repeat (
    co_applyP opsB_rd rfl (by rfl)
    · intro xv xr Kc hK
      rw [hP]
      go_simp
      first | exact hK | (rw [if_neg (by omega)]; exact hK) | (rw [if_pos (by omega)]; exact hK)
    · intro xv xr xe xhe
      rw [hP] at xhe
      simp [go_sem, *] at xhe
    try walk_nrm
  )
  co_applyP opsB_rd rfl (by rfl)
  · intro xv xr Kc hK
    rw [hP]
    have xc0 := HasB.cell h2 xr (o := 0) (show _ = some _ from rfl)
    go_simp
    first | exact hK | (rw [if_neg (by omega)]; exact hK) | (rw [if_pos (by omega)]; exact hK)
  · intro xv xr xe xhe
    rw [hP] at xhe
    have xc0 := HasB.cell h2 xr (o := 0) (show _ = some _ from rfl)
    simp [go_sem, *] at xhe
    all_goals (first | subst xhe | (rcases xhe with rfl | rfl) | (rcases xhe with rfl | rfl | rfl | rfl))
    all_goals (exact EvB.cell h2 rfl _)
  try walk_nrm
  repeat (
    co_applyP opsB_rd rfl (by rfl)
    · intro xv xr Kc hK
      rw [hP]
      go_simp
      first | exact hK | (rw [if_neg (by omega)]; exact hK) | (rw [if_pos (by omega)]; exact hK)
    · intro xv xr xe xhe
      rw [hP] at xhe
      simp [go_sem, *] at xhe
    try walk_nrm
  )
  by_cases h : al ≤ bl
  · rw [show decide (al ≤ bl) = true from decide_eq_true h]
    repeat (
      co_applyP opsB_rd rfl (by rfl)
      · intro xv xr Kc hK
        rw [hP]
        go_simp
        first | exact hK | (rw [if_neg (by omega)]; exact hK) | (rw [if_pos (by omega)]; exact hK)
      · intro xv xr xe xhe
        rw [hP] at xhe
        simp [go_sem, *] at xhe
      try walk_nrm
    )
    co_applyP opsB_rd rfl (by rfl)
    · intro xv xr Kc hK
      rw [hP]
      have xc0 := HasB.cell h2 xr (o := 1) (show _ = some _ from rfl)
      go_simp
      first | exact hK | (rw [if_neg (by omega)]; exact hK) | (rw [if_pos (by omega)]; exact hK)
    · intro xv xr xe xhe
      rw [hP] at xhe
      have xc0 := HasB.cell h2 xr (o := 1) (show _ = some _ from rfl)
      simp [go_sem, *] at xhe
      all_goals (first | subst xhe | (rcases xhe with rfl | rfl) | (rcases xhe with rfl | rfl | rfl | rfl))
      all_goals (exact EvB.cell h2 rfl _)
    try walk_nrm
    repeat (
      co_applyP opsB_rd rfl (by rfl)
      · intro xv xr Kc hK
        rw [hP]
        go_simp
        first | exact hK | (rw [if_neg (by omega)]; exact hK) | (rw [if_pos (by omega)]; exact hK)
      · intro xv xr xe xhe
        rw [hP] at xhe
        simp [go_sem, *] at xhe
      try walk_nrm
    )
    co_applyP opsB_rd rfl (by rfl)
    · intro xv xr Kc hK
      rw [hP]
      have xc0 := HasB.cell h1 xr (o := 1) (show _ = some _ from rfl)
      go_simp
      first | exact hK | (rw [if_neg (by omega)]; exact hK) | (rw [if_pos (by omega)]; exact hK)
    · intro xv xr xe xhe
      rw [hP] at xhe
      have xc0 := HasB.cell h1 xr (o := 1) (show _ = some _ from rfl)
      simp [go_sem, *] at xhe
      all_goals (first | subst xhe | (rcases xhe with rfl | rfl) | (rcases xhe with rfl | rfl | rfl | rfl))
      all_goals (exact EvB.cell h1 rfl _)
    try walk_nrm
    repeat (
      co_applyP opsB_rd rfl (by rfl)
      · intro xv xr Kc hK
        rw [hP]
        go_simp
        first | exact hK | (rw [if_neg (by omega)]; exact hK) | (rw [if_pos (by omega)]; exact hK)
      · intro xv xr xe xhe
        rw [hP] at xhe
        simp [go_sem, *] at xhe
      try walk_nrm
    )
    refine opsB_nil ?_
    simp only [BThen, BBlock, if_true, if_false, reduceIte, Nat.reduceEqDiff]
    refine wpB_ret ?_
    refine ⟨rfl, .bool (decide (bh ≤ ah)), fun xv xr => ⟨?_, fun xe xhe => ?_⟩, ?_⟩
    · rw [hP]
      simp [results, Try.results9, go_sem]
    · have xhm := mem_seen xhe
      rw [hP] at xhm
      simp [results, Try.results9, go_sem] at xhm
    exact ⟨by simp [h], e1⟩
  · rw [show decide (al ≤ bl) = false from decide_eq_false h]
    repeat (refine opsB_unwanted rfl (by rfl) ?_; try walk_nrm)
    repeat (
      co_applyP opsB_rd rfl (by rfl)
      · intro xv xr Kc hK
        rw [hP]
        go_simp
        first | exact hK | (rw [if_neg (by omega)]; exact hK) | (rw [if_pos (by omega)]; exact hK)
      · intro xv xr xe xhe
        rw [hP] at xhe
        simp [go_sem, *] at xhe
      try walk_nrm
    )
    refine opsB_nil ?_
    simp only [BThen, BBlock, if_true, if_false, reduceIte, Nat.reduceEqDiff]
    refine wpB_ret ?_
    refine ⟨rfl, .bool false, fun xv xr => ⟨?_, fun xe xhe => ?_⟩, ?_⟩
    · rw [hP]
      simp [results, Try.results9, go_sem]
    · have xhm := mem_seen xhe
      rw [hP] at xhm
      simp [results, Try.results9, go_sem] at xhm
    exact ⟨by simp [h], e1⟩

set_option maxHeartbeats 1000000 in
theorem ichk_ok (B : Base) (hP : B.P = Try.prog) (lo hi : Int) (x : Go.Beh.M) :
    CallB B 23 #[] #[spV lo hi] x (fun v x' => v = .int .i64 (chk lo hi) ∧ Ext x x') := by
  have i0 : ∀ w, (Instr.index 40 (.agg #[.int .i64 lo, .int .i64 hi]) (.int .i64 0)).run Try.prog w = .ok (.int .i64 lo) w := fun _ => by kernel_rfl
  have i1 : ∀ w, (Instr.index 40 (.agg #[.int .i64 lo, .int .i64 hi]) (.int .i64 1)).run Try.prog w = .ok (.int .i64 hi) w := fun _ => by kernel_rfl
  have e0 : ∀ w es, (Instr.index 40 (.agg #[.int .i64 lo, .int .i64 hi]) (.int .i64 0)).events Try.prog w es = es := fun _ _ => by kernel_rfl
  have e1 : ∀ w es, (Instr.index 40 (.agg #[.int .i64 lo, .int .i64 hi]) (.int .i64 1)).events Try.prog w es = es := fun _ _ => by kernel_rfl
  refine ⟨_, _, by rw [hP]; exact Try.func23, by rfl, rfl, ?_⟩
  simp only [Try.ntmps23, List.size_toArray, List.length_cons, List.length_nil, Nat.reduceAdd, Nat.reduceSub, Array.replicate_succ, Array.replicate_zero, List.push_toArray, List.append_toArray, List.nil_append, List.cons_append, Array.append_empty]
  unfold spV
  repeat (refine wpB_seq ?_)
  refine wpB_region ?_
  simp only [List.size_toArray, List.length_cons, List.length_nil, Nat.reduceAdd, Nat.zero_add, List.range, List.range.loop]
  co_applyP opsB_nw (fun b => .pointer (some ⟨b, 0, none⟩)) rfl (by rfl)
  · intro xv xr Kc hK
    rw [hP]
    go_simp
    first | exact hK | (rw [if_neg (by omega)]; exact hK) | (rw [if_pos (by omega)]; exact hK)
  · intro xv xr xe xhe
    rw [hP] at xhe
    simp [go_sem, *] at xhe
  intro x1 b1 m1 r1 h1 s1 q1
  try walk_nrm
  repeat (
    co_applyP opsB_rd rfl (by rfl)
    · intro xv xr Kc hK
      rw [hP]
      go_simp
      first | exact hK | (rw [if_neg (by omega)]; exact hK) | (rw [if_pos (by omega)]; exact hK)
    · intro xv xr xe xhe
      rw [hP] at xhe
      simp [go_sem, *] at xhe
    try walk_nrm
  )
  refine opsB_nil ?_
  simp only [BThen, BBlock, if_true, if_false, reduceIte, Nat.reduceEqDiff]
  repeat (refine wpB_seq ?_)
  refine wpB_region ?_
  simp only [List.size_toArray, List.length_cons, List.length_nil, Nat.reduceAdd, Nat.zero_add, List.range, List.range.loop]
  repeat (
    co_applyP opsB_rd rfl (by rfl)
    · intro xv xr Kc hK
      rw [hP]
      go_simp
      first | exact hK | (rw [if_neg (by omega)]; exact hK) | (rw [if_pos (by omega)]; exact hK)
    · intro xv xr xe xhe
      rw [hP] at xhe
      simp [go_sem, *] at xhe
    try walk_nrm
  )
  co_applyP opsB_rd rfl (by rfl)
  · intro xv xr Kc hK
    rw [hP]
    have xc0 := HasB.cell h1 xr (o := 0) (show _ = some _ from rfl)
    go_simp
    first | exact hK | (rw [if_neg (by omega)]; exact hK) | (rw [if_pos (by omega)]; exact hK)
  · intro xv xr xe xhe
    rw [hP] at xhe
    have xc0 := HasB.cell h1 xr (o := 0) (show _ = some _ from rfl)
    simp [go_sem, *] at xhe
    all_goals (first | subst xhe | (rcases xhe with rfl | rfl) | (rcases xhe with rfl | rfl | rfl | rfl))
    all_goals (exact EvB.cell h1 rfl _)
  try walk_nrm
  repeat (
    co_applyP opsB_rd rfl (by rfl)
    · intro xv xr Kc hK
      rw [hP]
      go_simp
      first | exact hK | (rw [if_neg (by omega)]; exact hK) | (rw [if_pos (by omega)]; exact hK)
    · intro xv xr xe xhe
      rw [hP] at xhe
      simp [go_sem, *] at xhe
    try walk_nrm
  )
  co_applyP opsB_rd rfl (by rfl)
  · intro xv xr Kc hK
    rw [hP]
    have xc0 := HasB.cell h1 xr (o := 1) (show _ = some _ from rfl)
    go_simp
    first | exact hK | (rw [if_neg (by omega)]; exact hK) | (rw [if_pos (by omega)]; exact hK)
  · intro xv xr xe xhe
    rw [hP] at xhe
    have xc0 := HasB.cell h1 xr (o := 1) (show _ = some _ from rfl)
    simp [go_sem, *] at xhe
    all_goals (first | subst xhe | (rcases xhe with rfl | rfl) | (rcases xhe with rfl | rfl | rfl | rfl))
    all_goals (exact EvB.cell h1 rfl _)
  try walk_nrm
  repeat (
    co_applyP opsB_rd rfl (by rfl)
    · intro xv xr Kc hK
      rw [hP]
      go_simp
      first | exact hK | (rw [if_neg (by omega)]; exact hK) | (rw [if_pos (by omega)]; exact hK)
    · intro xv xr xe xhe
      rw [hP] at xhe
      simp [go_sem, *] at xhe
    try walk_nrm
  )
  refine opsB_nil ?_
  simp only [BThen, BBlock, if_true, if_false, reduceIte, Nat.reduceEqDiff]
  refine wpB_block ?_
  refine wpB_loop (fun a y => ∃ j : Nat, j ≤ 2 ∧ Fr 25 [(0, .agg #[.int .i64 lo, .int .i64 hi]), (1, .pointer (some ⟨b1, 0, none⟩)), (2, .int .i64 0), (9, .agg #[.int .i64 lo, .int .i64 hi]), (10, .int .i64 j)] a ∧ y = x1 ∧ (0 < j → ¬ (lo < -1000000000000000000 ∨ 1000000000000000000 < lo)) ∧ (1 < j → ¬ (hi < -1000000000000000000 ∨ 1000000000000000000 < hi)))
    (fun a _ => (2 - slotI a 10).toNat) ⟨0, by omega, ⟨rfl, rfl, rfl, rfl, rfl, rfl, rfl, trivial⟩, rfl, by omega, by omega⟩ ?_
  rintro a y ⟨j, hj, hs, rfl, g0, g1⟩
  obtain ⟨u, hu, hv⟩ := hs.lit
  simp only [List.range, List.range.loop, List.map_cons, List.map_nil] at hu
  obtain ⟨z0, z1, z2, z9, z10, -⟩ := hs.at_
  have y0 := (hv 0).trans z0
  have y1 := (hv 1).trans z1
  have y2 := (hv 2).trans z2
  have y9 := (hv 9).trans z9
  have y10 := (hv 10).trans z10
  rw [y0, y1, y2, y9, y10] at hu
  clear hv hs z0 z1 z2 z9 z10 y0 y1 y2 y9 y10
  subst hu
  repeat (refine wpB_seq ?_)
  refine wpB_region ?_
  simp only [List.size_toArray, List.length_cons, List.length_nil, Nat.reduceAdd, Nat.zero_add, List.range, List.range.loop]
  repeat (
    co_applyP opsB_rd rfl (by rfl)
    · intro xv xr Kc hK
      rw [hP]
      go_simp
      first | exact hK | (rw [if_neg (by omega)]; exact hK) | (rw [if_pos (by omega)]; exact hK)
    · intro xv xr xe xhe
      rw [hP] at xhe
      simp [go_sem, *] at xhe
    try walk_nrm
  )
  refine opsB_nil ?_
  simp only [BThen, BBlock, if_true, if_false, reduceIte, Nat.reduceEqDiff]
  repeat (refine wpB_seq ?_)
  refine wpB_split (t := decide ((j : Int) < 2)) (by first | rfl | simp [Act.eval]) (fun ht => ?_) (fun ht => ?_)
  · have hj2 : j < 2 := by have := of_decide_eq_true ht; omega
    clear ht
    refine wpB_skip ?_
    simp only [BThen, BBlock, if_true, if_false, reduceIte, Nat.reduceEqDiff]
    repeat (refine wpB_seq ?_)
    refine wpB_block ?_
    obtain ⟨v, hv⟩ : ∃ v, v = if j = 0 then lo else hi := ⟨_, rfl⟩
    have iv : ∀ w, (Instr.index 40 (.agg #[.int .i64 lo, .int .i64 hi]) (.int .i64 j)).run Try.prog w = .ok (.int .i64 v) w := by
      intro w
      rcases Nat.lt_or_ge j 1 with h | h
      · obtain rfl : j = 0 := by omega
        rw [hv]; exact i0 w
      · obtain rfl : j = 1 := by omega
        rw [hv]; exact i1 w
    have ie : ∀ w es, (Instr.index 40 (.agg #[.int .i64 lo, .int .i64 hi]) (.int .i64 j)).events Try.prog w es = es := by
      intro w es
      rcases Nat.lt_or_ge j 1 with h | h
      · obtain rfl : j = 0 := by omega
        exact e0 w es
      · obtain rfl : j = 1 := by omega
        exact e1 w es
    clear i0 i1 e0 e1
    have kv := Lib.hid hv
    clear hv
    repeat (refine wpB_seq ?_)
    refine wpB_region ?_
    simp only [List.size_toArray, List.length_cons, List.length_nil, Nat.reduceAdd, Nat.zero_add, List.range, List.range.loop]
    repeat (
      co_applyP opsB_rd rfl (by rfl)
      · intro xv xr Kc hK
        rw [hP]
        go_simp
        first | exact hK | (rw [if_neg (by omega)]; exact hK) | (rw [if_pos (by omega)]; exact hK)
      · intro xv xr xe xhe
        rw [hP] at xhe
        simp [go_sem, *] at xhe
      try walk_nrm
    )
    refine opsB_nil ?_
    simp only [BThen, BBlock, if_true, if_false, reduceIte, Nat.reduceEqDiff]
    repeat (refine wpB_seq ?_)
    refine wpB_region ?_
    simp only [List.size_toArray, List.length_cons, List.length_nil, Nat.reduceAdd, Nat.zero_add, List.range, List.range.loop]
    repeat (
      co_applyP opsB_rd rfl (by rfl)
      · intro xv xr Kc hK
        rw [hP]
        go_simp
        first | exact hK | (rw [if_neg (by omega)]; exact hK) | (rw [if_pos (by omega)]; exact hK)
      · intro xv xr xe xhe
        rw [hP] at xhe
        simp [go_sem, *] at xhe
      try walk_nrm
    )
    by_cases hlo : v < -1000000000000000000
    · rw [show decide (v < -1000000000000000000) = true from decide_eq_true hlo]
      repeat (refine opsB_unwanted rfl (by rfl) ?_; try walk_nrm)
      repeat (
        co_applyP opsB_rd rfl (by rfl)
        · intro xv xr Kc hK
          rw [hP]
          go_simp
          first | exact hK | (rw [if_neg (by omega)]; exact hK) | (rw [if_pos (by omega)]; exact hK)
        · intro xv xr xe xhe
          rw [hP] at xhe
          simp [go_sem, *] at xhe
        try walk_nrm
      )
      refine opsB_nil ?_
      simp only [BThen, BBlock, if_true, if_false, reduceIte, Nat.reduceEqDiff]
      repeat (refine wpB_seq ?_)
      refine wpB_split (t := true) (by first | rfl | simp [Act.eval]) (fun ht => ?_) (fun ht => ?_)
      · repeat (refine wpB_seq ?_)
        refine wpB_region ?_
        simp only [List.size_toArray, List.length_cons, List.length_nil, Nat.reduceAdd, Nat.zero_add, List.range, List.range.loop]
        repeat (
          co_applyP opsB_rd rfl (by rfl)
          · intro xv xr Kc hK
            rw [hP]
            go_simp
            first | exact hK | (rw [if_neg (by omega)]; exact hK) | (rw [if_pos (by omega)]; exact hK)
          · intro xv xr xe xhe
            rw [hP] at xhe
            simp [go_sem, *] at xhe
          try walk_nrm
        )
        refine opsB_nil ?_
        simp only [BThen, BBlock, if_true, if_false, reduceIte, Nat.reduceEqDiff]
        refine wpB_ret ?_
        refine ⟨rfl, .int .i64 3, fun xv xr => ⟨?_, fun xe xhe => ?_⟩, ?_⟩
        · rw [hP]
          simp [results, Try.results23, go_sem]
        · have xhm := mem_seen xhe
          rw [hP] at xhm
          simp [results, Try.results23, go_sem] at xhm
        refine ⟨?_, r1⟩
        unfold chk
        rw [if_pos (by rw [kv.out] at hlo; split at hlo <;> omega)]
      · cases ht
    · rw [show decide (v < -1000000000000000000) = false from decide_eq_false hlo]
      repeat (
        co_applyP opsB_rd rfl (by rfl)
        · intro xv xr Kc hK
          rw [hP]
          go_simp
          first | exact hK | (rw [if_neg (by omega)]; exact hK) | (rw [if_pos (by omega)]; exact hK)
        · intro xv xr xe xhe
          rw [hP] at xhe
          simp [go_sem, *] at xhe
        try walk_nrm
      )
      refine opsB_nil ?_
      simp only [BThen, BBlock, if_true, if_false, reduceIte, Nat.reduceEqDiff]
      repeat (refine wpB_seq ?_)
      refine wpB_split (t := decide (1000000000000000000 < v)) (by first | rfl | simp [Act.eval]) (fun ht => ?_) (fun ht => ?_)
      · have hhi := of_decide_eq_true ht
        clear ht
        repeat (refine wpB_seq ?_)
        refine wpB_region ?_
        simp only [List.size_toArray, List.length_cons, List.length_nil, Nat.reduceAdd, Nat.zero_add, List.range, List.range.loop]
        repeat (
          co_applyP opsB_rd rfl (by rfl)
          · intro xv xr Kc hK
            rw [hP]
            go_simp
            first | exact hK | (rw [if_neg (by omega)]; exact hK) | (rw [if_pos (by omega)]; exact hK)
          · intro xv xr xe xhe
            rw [hP] at xhe
            simp [go_sem, *] at xhe
          try walk_nrm
        )
        refine opsB_nil ?_
        simp only [BThen, BBlock, if_true, if_false, reduceIte, Nat.reduceEqDiff]
        refine wpB_ret ?_
        refine ⟨rfl, .int .i64 3, fun xv xr => ⟨?_, fun xe xhe => ?_⟩, ?_⟩
        · rw [hP]
          simp [results, Try.results23, go_sem]
        · have xhm := mem_seen xhe
          rw [hP] at xhm
          simp [results, Try.results23, go_sem] at xhm
        refine ⟨?_, r1⟩
        unfold chk
        rw [if_pos (by rw [kv.out] at hhi; split at hhi <;> omega)]
      · have hhi := of_decide_eq_false ht
        clear ht
        refine wpB_skip ?_
        simp only [BThen, BBlock, if_true, if_false, reduceIte, Nat.reduceEqDiff]
        have hw : IntKind.i64.wrap ((j : Int) + 1) = ((j + 1 : Nat) : Int) := by rw [wrap_in (by omega)]; simp
        repeat (refine wpB_seq ?_)
        refine wpB_region ?_
        simp only [List.size_toArray, List.length_cons, List.length_nil, Nat.reduceAdd, Nat.zero_add, List.range, List.range.loop]
        repeat (
          co_applyP opsB_rd rfl (by rfl)
          · intro xv xr Kc hK
            rw [hP]
            go_simp
            first | exact hK | (rw [if_neg (by omega)]; exact hK) | (rw [if_pos (by omega)]; exact hK)
          · intro xv xr xe xhe
            rw [hP] at xhe
            simp [go_sem, *] at xhe
          try walk_nrm
        )
        refine opsB_nil ?_
        simp only [BThen, BBlock, if_true, if_false, reduceIte, Nat.reduceEqDiff]
        refine ⟨⟨j + 1, by omega, ⟨rfl, rfl, rfl, rfl, rfl, rfl, rfl, trivial⟩, (by first | rfl | trivial), fun _ => ?_, fun h => ?_⟩, ?_⟩
        · rcases Nat.lt_or_ge j 1 with h | h
          · have hv := kv.out; rw [if_pos (by omega)] at hv; omega
          · exact g0 (by omega)
        · have hv := kv.out; rw [if_neg (by omega)] at hv; omega
        · simp [slotI]
          omega
  · have hj2 : j = 2 := by have := of_decide_eq_false ht; omega
    subst hj2
    clear ht
    refine wpB_exit ?_
    simp only [BThen, BBlock, if_true, if_false, reduceIte, Nat.reduceEqDiff]
    repeat (refine wpB_seq ?_)
    refine wpB_region ?_
    simp only [List.size_toArray, List.length_cons, List.length_nil, Nat.reduceAdd, Nat.zero_add, List.range, List.range.loop]
    repeat (
      co_applyP opsB_rd rfl (by rfl)
      · intro xv xr Kc hK
        rw [hP]
        go_simp
        first | exact hK | (rw [if_neg (by omega)]; exact hK) | (rw [if_pos (by omega)]; exact hK)
      · intro xv xr xe xhe
        rw [hP] at xhe
        simp [go_sem, *] at xhe
      try walk_nrm
    )
    co_applyP opsB_rd rfl (by rfl)
    · intro xv xr Kc hK
      rw [hP]
      have xc0 := HasB.cell h1 xr (o := 0) (show _ = some _ from rfl)
      go_simp
      first | exact hK | (rw [if_neg (by omega)]; exact hK) | (rw [if_pos (by omega)]; exact hK)
    · intro xv xr xe xhe
      rw [hP] at xhe
      have xc0 := HasB.cell h1 xr (o := 0) (show _ = some _ from rfl)
      simp [go_sem, *] at xhe
      all_goals (first | subst xhe | (rcases xhe with rfl | rfl) | (rcases xhe with rfl | rfl | rfl | rfl))
      all_goals (exact EvB.cell h1 rfl _)
    try walk_nrm
    repeat (
      co_applyP opsB_rd rfl (by rfl)
      · intro xv xr Kc hK
        rw [hP]
        go_simp
        first | exact hK | (rw [if_neg (by omega)]; exact hK) | (rw [if_pos (by omega)]; exact hK)
      · intro xv xr xe xhe
        rw [hP] at xhe
        simp [go_sem, *] at xhe
      try walk_nrm
    )
    co_applyP opsB_rd rfl (by rfl)
    · intro xv xr Kc hK
      rw [hP]
      have xc0 := HasB.cell h1 xr (o := 1) (show _ = some _ from rfl)
      go_simp
      first | exact hK | (rw [if_neg (by omega)]; exact hK) | (rw [if_pos (by omega)]; exact hK)
    · intro xv xr xe xhe
      rw [hP] at xhe
      have xc0 := HasB.cell h1 xr (o := 1) (show _ = some _ from rfl)
      simp [go_sem, *] at xhe
      all_goals (first | subst xhe | (rcases xhe with rfl | rfl) | (rcases xhe with rfl | rfl | rfl | rfl))
      all_goals (exact EvB.cell h1 rfl _)
    try walk_nrm
    repeat (
      co_applyP opsB_rd rfl (by rfl)
      · intro xv xr Kc hK
        rw [hP]
        go_simp
        first | exact hK | (rw [if_neg (by omega)]; exact hK) | (rw [if_pos (by omega)]; exact hK)
      · intro xv xr xe xhe
        rw [hP] at xhe
        simp [go_sem, *] at xhe
      try walk_nrm
    )
    refine opsB_nil ?_
    simp only [BThen, BBlock, if_true, if_false, reduceIte, Nat.reduceEqDiff]
    have c0 := g0 (by omega)
    have c1 := g1 (by omega)
    repeat (refine wpB_seq ?_)
    refine wpB_split (t := decide (hi < lo)) (by first | rfl | simp [Act.eval]) (fun ht => ?_) (fun ht => ?_)
    · have hlt := of_decide_eq_true ht
      clear ht
      repeat (refine wpB_seq ?_)
      refine wpB_region ?_
      simp only [List.size_toArray, List.length_cons, List.length_nil, Nat.reduceAdd, Nat.zero_add, List.range, List.range.loop]
      repeat (
        co_applyP opsB_rd rfl (by rfl)
        · intro xv xr Kc hK
          rw [hP]
          go_simp
          first | exact hK | (rw [if_neg (by omega)]; exact hK) | (rw [if_pos (by omega)]; exact hK)
        · intro xv xr xe xhe
          rw [hP] at xhe
          simp [go_sem, *] at xhe
        try walk_nrm
      )
      refine opsB_nil ?_
      simp only [BThen, BBlock, if_true, if_false, reduceIte, Nat.reduceEqDiff]
      refine wpB_ret ?_
      refine ⟨rfl, .int .i64 9, fun xv xr => ⟨?_, fun xe xhe => ?_⟩, ?_⟩
      · rw [hP]
        simp [results, Try.results23, go_sem]
      · have xhm := mem_seen xhe
        rw [hP] at xhm
        simp [results, Try.results23, go_sem] at xhm
      refine ⟨?_, r1⟩
      unfold chk
      rw [if_neg (by omega), if_pos hlt]
    · have hlt := of_decide_eq_false ht
      clear ht
      refine wpB_skip ?_
      simp only [BThen, BBlock, if_true, if_false, reduceIte, Nat.reduceEqDiff]
      repeat (refine wpB_seq ?_)
      refine wpB_region ?_
      simp only [List.size_toArray, List.length_cons, List.length_nil, Nat.reduceAdd, Nat.zero_add, List.range, List.range.loop]
      repeat (
        co_applyP opsB_rd rfl (by rfl)
        · intro xv xr Kc hK
          rw [hP]
          go_simp
          first | exact hK | (rw [if_neg (by omega)]; exact hK) | (rw [if_pos (by omega)]; exact hK)
        · intro xv xr xe xhe
          rw [hP] at xhe
          simp [go_sem, *] at xhe
        try walk_nrm
      )
      refine opsB_nil ?_
      simp only [BThen, BBlock, if_true, if_false, reduceIte, Nat.reduceEqDiff]
      refine wpB_ret ?_
      refine ⟨rfl, .int .i64 0, fun xv xr => ⟨?_, fun xe xhe => ?_⟩, ?_⟩
      · rw [hP]
        simp [results, Try.results23, go_sem]
      · have xhm := mem_seen xhe
        rw [hP] at xhm
        simp [results, Try.results23, go_sem] at xhm
      refine ⟨?_, r1⟩
      unfold chk
      rw [if_neg (by omega), if_neg hlt]
end Go.Proofs.Ytplmgbffaeohpaa
