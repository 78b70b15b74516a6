/- Goroutine 0 beside goroutines that only leave: Check. -/
import Derived.Test.YtplmgbffaeohpaaBhF
set_option linter.unusedSimpArgs false
set_option linter.unusedVariables false
namespace Go.Proofs.Ytplmgbffaeohpaa
open Go.Conc Go.Crew Go.Beh Go.RowKit

/-- The cells of a slice of links. -/
def LinkSl (x : Go.Beh.M) (A : Option Addr) (m : Nat) (ka kb dl dh : Nat → Int) : Prop :=
  0 < m → ∃ b o cs e f, A = some ⟨b, o, none⟩ ∧ HasB x b (.cells cs e f) ∧ (∀ j, j < m → cs[o + j * 4]? = some (.int .i64 (ka j))) ∧ (∀ j, j < m → cs[o + j * 4 + 1]? = some (.int .i64 (kb j))) ∧ (∀ j, j < m → cs[o + j * 4 + 2]? = some (.int .i64 (dl j))) ∧ ∀ j, j < m → cs[o + j * 4 + 3]? = some (.int .i64 (dh j))
theorem LinkSl.ext {x y : Go.Beh.M} {A : Option Addr} {m : Nat} {ka kb dl dh : Nat → Int} (h : LinkSl x A m ka kb dl dh) (r : Ext x y) : LinkSl y A m ka kb dl dh := fun hn => by
  obtain ⟨b, o, cs, e, f, h1, h2, h3⟩ := h hn
  exact ⟨b, o, cs, e, f, h1, h2.ext r, h3⟩

/-- e is the first of f 0 .. f (n - 1) that is not nought, or nought. -/
def IsFirst (f : Nat → Int) (n : Nat) (e : Int) : Prop := (∃ j, j < n ∧ (∀ i, i < j → f i = 0) ∧ f j ≠ 0 ∧ e = f j) ∨ ((∀ i, i < n → f i = 0) ∧ e = 0)
theorem IsFirst.unique {f : Nat → Int} {n : Nat} {e e' : Int} (h : IsFirst f n e) (h' : IsFirst f n e') : e = e' := by
  rcases h with ⟨j, h1, h2, h3, rfl⟩ | ⟨h1, rfl⟩
  · rcases h' with ⟨j', g1, g2, g3, rfl⟩ | ⟨g1, rfl⟩
    · rcases Nat.lt_trichotomy j j' with h | rfl | h
      · exact absurd (g2 j h) h3
      · rfl
      · exact absurd (h2 j' h) g3
    · exact absurd (g1 j h1) h3
  · rcases h' with ⟨j', g1, g2, g3, rfl⟩ | ⟨g1, rfl⟩
    · exact absurd (h1 j' g1) g3
    · rfl
def linkE (n : Nat) (ka kb dl dh : Int) : Int := if ka < 0 ∨ (n : Int) ≤ ka ∨ kb < 0 ∨ (n : Int) ≤ kb then 3 else if ka = kb then 8 else timesE dl dh
/-- What Check hands back. -/
def ChkP (n m : Nat) (lo hi ka kb dl dh : Nat → Int) (W e : Int) : Prop :=
  ((12 < n ∨ 40 < m) ∧ e = 2) ∨ ((n ≤ 12 ∧ m ≤ 40) ∧ ∃ e1, IsFirst (fun i => timesE (lo i) (hi i)) n e1 ∧ ((e1 ≠ 0 ∧ e = e1) ∨ (e1 = 0 ∧ ∃ e2, IsFirst (fun j => linkE n (ka j) (kb j) (dl j) (dh j)) m e2 ∧ ((e2 ≠ 0 ∧ e = e2) ∨ (e2 = 0 ∧ e = if W < 1 ∨ 8 < W then 1 else 0)))))

theorem ChkP.link {n m : Nat} {lo hi ka kb dl dh : Nat → Int} {W e : Int} {j : Nat} (hn : n ≤ 12) (hm : m ≤ 40) (h1 : ∀ i, i < n → timesE (lo i) (hi i) = 0) (hj : j < m) (h2 : ∀ i, i < j → linkE n (ka i) (kb i) (dl i) (dh i) = 0) (he : linkE n (ka j) (kb j) (dl j) (dh j) = e) (h0 : e ≠ 0) : ChkP n m lo hi ka kb dl dh W e :=
  .inr ⟨⟨hn, hm⟩, 0, .inr ⟨h1, rfl⟩, .inr ⟨rfl, e, .inl ⟨j, hj, h2, by show linkE _ _ _ _ _ ≠ 0; rw [he]; exact h0, he.symm⟩, .inl ⟨h0, rfl⟩⟩⟩
set_option maxHeartbeats 4000000 in
theorem bcheck_ok (B : Base) (hP : B.P = Try.prog) (A K : Option Addr) (n m capA capK : Nat) (lo hi ka kb dl dh : Nat → Int) (W : Int) (x : Go.Beh.M) (hA : SpanSl x A n lo hi) (hK : LinkSl x K m ka kb dl dh) :
    CallB B 12 #[] #[.slice A n capA, .slice K m capK, .int .i64 W] x (fun v x' => ∃ e, v = .int .i64 e ∧ ChkP n m lo hi ka kb dl dh W e ∧ Ext x x') := by
  refine ⟨_, _, by rw [hP]; exact Try.func12, by rfl, rfl, ?_⟩
  simp only [Try.ntmps12, List.size_toArray, List.length_cons, List.length_nil, Nat.reduceAdd, Nat.reduceSub, Array.replicate_succ, Array.replicate_zero, List.push_toArray, List.append_toArray, List.nil_append, List.cons_append, Array.append_empty]
  repeat (refine wpB_seq ?_)
  refine wpB_region ?_
  simp only [List.size_toArray, List.length_cons, List.length_nil, Nat.reduceAdd, Nat.zero_add, List.range, List.range.loop]
  repeat (
    co_applyP opsB_rd rfl (by rfl)
    · intro xv xr Kc hK
      rw [hP]
      go_simp
      first | exact hK | (rw [if_neg (by omega)]; exact hK) | (rw [if_pos (by omega)]; exact hK)
    · intro xv xr xe xhe
      rw [hP] at xhe
      simp [go_sem, *] at xhe
    try walk_nrm
  )
  refine opsB_nil ?_
  simp only [BThen, BBlock, if_true, if_false, reduceIte, Nat.reduceEqDiff]
  repeat (refine wpB_seq ?_)
  refine wpB_region ?_
  simp only [List.size_toArray, List.length_cons, List.length_nil, Nat.reduceAdd, Nat.zero_add, List.range, List.range.loop]
  repeat (
    co_applyP opsB_rd rfl (by rfl)
    · intro xv xr Kc hK
      rw [hP]
      go_simp
      first | exact hK | (rw [if_neg (by omega)]; exact hK) | (rw [if_pos (by omega)]; exact hK)
    · intro xv xr xe xhe
      rw [hP] at xhe
      simp [go_sem, *] at xhe
    try walk_nrm
  )
  by_cases hn : 12 < n
  · rw [show decide ((12 : Int) < n) = true from decide_eq_true (by omega)]
    repeat (refine opsB_unwanted rfl (by rfl) ?_; try walk_nrm)
    repeat (
      co_applyP opsB_rd rfl (by rfl)
      · intro xv xr Kc hK
        rw [hP]
        go_simp
        first | exact hK | (rw [if_neg (by omega)]; exact hK) | (rw [if_pos (by omega)]; exact hK)
      · intro xv xr xe xhe
        rw [hP] at xhe
        simp [go_sem, *] at xhe
      try walk_nrm
    )
    refine opsB_nil ?_
    simp only [BThen, BBlock, if_true, if_false, reduceIte, Nat.reduceEqDiff]
    repeat (refine wpB_seq ?_)
    refine wpB_split (t := true) (by first | rfl | simp [Act.eval]) (fun ht => ?_) (fun ht => ?_)
    · repeat (refine wpB_seq ?_)
      refine wpB_region ?_
      simp only [List.size_toArray, List.length_cons, List.length_nil, Nat.reduceAdd, Nat.zero_add, List.range, List.range.loop]
      repeat (
        co_applyP opsB_rd rfl (by rfl)
        · intro xv xr Kc hK
          rw [hP]
          go_simp
          first | exact hK | (rw [if_neg (by omega)]; exact hK) | (rw [if_pos (by omega)]; exact hK)
        · intro xv xr xe xhe
          rw [hP] at xhe
          simp [go_sem, *] at xhe
        try walk_nrm
      )
      refine opsB_nil ?_
      simp only [BThen, BBlock, if_true, if_false, reduceIte, Nat.reduceEqDiff]
      refine wpB_ret ?_
      refine ⟨rfl, .int .i64 2, fun xv xr => ⟨?_, fun xe xhe => ?_⟩, ?_⟩
      · rw [hP]
        simp [results, Try.results12, go_sem]
      · have xhm := mem_seen xhe
        rw [hP] at xhm
        simp [results, Try.results12, go_sem] at xhm
      exact ⟨_, rfl, .inl ⟨.inl hn, rfl⟩, Ext.refl x⟩
    · cases ht
  rw [show decide ((12 : Int) < n) = false from decide_eq_false (by omega)]
  repeat (
    co_applyP opsB_rd rfl (by rfl)
    · intro xv xr Kc hK
      rw [hP]
      go_simp
      first | exact hK | (rw [if_neg (by omega)]; exact hK) | (rw [if_pos (by omega)]; exact hK)
    · intro xv xr xe xhe
      rw [hP] at xhe
      simp [go_sem, *] at xhe
    try walk_nrm
  )
  refine opsB_nil ?_
  simp only [BThen, BBlock, if_true, if_false, reduceIte, Nat.reduceEqDiff]
  repeat (refine wpB_seq ?_)
  refine wpB_split (t := decide ((40 : Int) < m)) (by first | rfl | simp [Act.eval]) (fun ht => ?_) (fun ht => ?_)
  · have hm := of_decide_eq_true ht
    clear ht
    repeat (refine wpB_seq ?_)
    refine wpB_region ?_
    simp only [List.size_toArray, List.length_cons, List.length_nil, Nat.reduceAdd, Nat.zero_add, List.range, List.range.loop]
    repeat (
      co_applyP opsB_rd rfl (by rfl)
      · intro xv xr Kc hK
        rw [hP]
        go_simp
        first | exact hK | (rw [if_neg (by omega)]; exact hK) | (rw [if_pos (by omega)]; exact hK)
      · intro xv xr xe xhe
        rw [hP] at xhe
        simp [go_sem, *] at xhe
      try walk_nrm
    )
    refine opsB_nil ?_
    simp only [BThen, BBlock, if_true, if_false, reduceIte, Nat.reduceEqDiff]
    refine wpB_ret ?_
    refine ⟨rfl, .int .i64 2, fun xv xr => ⟨?_, fun xe xhe => ?_⟩, ?_⟩
    · rw [hP]
      simp [results, Try.results12, go_sem]
    · have xhm := mem_seen xhe
      rw [hP] at xhm
      simp [results, Try.results12, go_sem] at xhm
    exact ⟨_, rfl, .inl ⟨.inr (by omega), rfl⟩, Ext.refl x⟩
  have hm := of_decide_eq_false ht
  clear ht
  refine wpB_skip ?_
  simp only [BThen, BBlock, if_true, if_false, reduceIte, Nat.reduceEqDiff]
  repeat (refine wpB_seq ?_)
  refine wpB_region ?_
  simp only [List.size_toArray, List.length_cons, List.length_nil, Nat.reduceAdd, Nat.zero_add, List.range, List.range.loop]
  repeat (
    co_applyP opsB_rd rfl (by rfl)
    · intro xv xr Kc hK
      rw [hP]
      go_simp
      first | exact hK | (rw [if_neg (by omega)]; exact hK) | (rw [if_pos (by omega)]; exact hK)
    · intro xv xr xe xhe
      rw [hP] at xhe
      simp [go_sem, *] at xhe
    try walk_nrm
  )
  refine opsB_nil ?_
  simp only [BThen, BBlock, if_true, if_false, reduceIte, Nat.reduceEqDiff]
  have hn12 : n ≤ 12 := by omega
  have hm40 : m ≤ 40 := by omega
  clear hn hm
  refine wpB_block ?_
  refine wpB_loop (fun a y => ∃ j : Nat, j ≤ n ∧ Fr 79 [(0, .slice A n capA), (1, .slice K m capK), (2, .int .i64 W), (21, .slice A n capA), (22, .int .i64 n), (23, .int .i64 j)] a ∧ Ext x y ∧ ∀ i, i < j → timesE (lo i) (hi i) = 0)
    (fun a _ => (n - slotI a 23).toNat) ⟨0, by omega, ⟨rfl, rfl, rfl, rfl, rfl, rfl, rfl, rfl, trivial⟩, Ext.refl x, fun i hi => absurd hi (by omega)⟩ ?_
  rintro a y ⟨j, hj, hs, r0, g0⟩
  obtain ⟨u, hu, hv⟩ := hs.lit
  simp only [List.range, List.range.loop, List.map_cons, List.map_nil] at hu
  obtain ⟨z0, z1, z2, z21, z22, z23, -⟩ := hs.at_
  have y0 := (hv 0).trans z0
  have y1 := (hv 1).trans z1
  have y2 := (hv 2).trans z2
  have y21 := (hv 21).trans z21
  have y22 := (hv 22).trans z22
  have y23 := (hv 23).trans z23
  rw [y0, y1, y2, y21, y22, y23] at hu
  clear hv hs z0 z1 z2 z21 z22 z23 y0 y1 y2 y21 y22 y23
  subst hu
  have kg := Lib.hid g0
  clear g0
  repeat (refine wpB_seq ?_)
  refine wpB_region ?_
  simp only [List.size_toArray, List.length_cons, List.length_nil, Nat.reduceAdd, Nat.zero_add, List.range, List.range.loop]
  repeat (
    co_applyP opsB_rd rfl (by rfl)
    · intro xv xr Kc hK
      rw [hP]
      go_simp
      first | exact hK | (rw [if_neg (by omega)]; exact hK) | (rw [if_pos (by omega)]; exact hK)
    · intro xv xr xe xhe
      rw [hP] at xhe
      simp [go_sem, *] at xhe
    try walk_nrm
  )
  refine opsB_nil ?_
  simp only [BThen, BBlock, if_true, if_false, reduceIte, Nat.reduceEqDiff]
  repeat (refine wpB_seq ?_)
  refine wpB_split (t := decide ((j : Int) < n)) (by first | rfl | simp [Act.eval]) (fun ht => ?_) (fun ht => ?_)
  · have hjn : j < n := by have := of_decide_eq_true ht; omega
    clear ht
    refine wpB_skip ?_
    simp only [BThen, BBlock, if_true, if_false, reduceIte, Nat.reduceEqDiff]
    repeat (refine wpB_seq ?_)
    refine wpB_block ?_
    obtain ⟨b, o, cs, e, f, rfl, hH, c1, c2⟩ := (hA.ext r0) (by omega)
    have hj' : (j : Int) < (n : Int) := by omega
    repeat (refine wpB_seq ?_)
    refine wpB_region ?_
    simp only [List.size_toArray, List.length_cons, List.length_nil, Nat.reduceAdd, Nat.zero_add, List.range, List.range.loop]
    repeat (
      co_applyP opsB_rd rfl (by rfl)
      · intro xv xr Kc hK
        rw [hP]
        go_simp
        first | exact hK | (rw [if_neg (by omega)]; exact hK) | (rw [if_pos (by omega)]; exact hK)
      · intro xv xr xe xhe
        rw [hP] at xhe
        simp [go_sem, *] at xhe
      try walk_nrm
    )
    co_applyP opsB_rd rfl (by rfl)
    · intro xv xr Kc hK
      rw [hP]
      have xc0 := HasB.cell hH xr (o := o + j * 2) (v := _) (c1 j hjn)
      have xc1 := HasB.cell hH xr (o := o + j * 2 + 1) (v := _) (c2 j hjn)
      go_simp
      first | exact hK | (rw [if_neg (by omega)]; exact hK) | (rw [if_pos (by omega)]; exact hK)
    · intro xv xr xe xhe
      rw [hP] at xhe
      have xc0 := HasB.cell hH xr (o := o + j * 2) (v := _) (c1 j hjn)
      have xc1 := HasB.cell hH xr (o := o + j * 2 + 1) (v := _) (c2 j hjn)
      simp [go_sem, *] at xhe
      all_goals (first | subst xhe | (rcases xhe with rfl | rfl) | (rcases xhe with rfl | rfl | rfl | rfl))
      all_goals (exact EvB.cell hH rfl _)
    try walk_nrm
    co_applyP opsB_nw (fun b => .pointer (some ⟨b, 0, none⟩)) rfl (by rfl)
    · intro xv xr Kc hK
      rw [hP]
      go_simp
      first | exact hK | (rw [if_neg (by omega)]; exact hK) | (rw [if_pos (by omega)]; exact hK)
    · intro xv xr xe xhe
      rw [hP] at xhe
      simp [go_sem, *] at xhe
    intro x1 b1 m1 r1 h1 s1 q1
    try walk_nrm
    co_applyP opsB_wr h1 rfl (by rfl)
    · intro xv xr xb Kc hK
      rw [hP]
      have xc0 := Go.Crew.cell_of xb (o := 0) (show _ = some _ from rfl)
      have xf0 : xv.frozen? ⟨b1, 0, none⟩ = false := by simp [World.frozen?, xb]
      have xc1 := Go.Crew.cell_of xb (o := 1) (show _ = some _ from rfl)
      have xf1 : xv.frozen? ⟨b1, 1, none⟩ = false := by simp [World.frozen?, xb]
      go_simp
      (try unfold stored; go_simp)
      refine hK _ ?_
      rw [Go.Crew.setCell_blk xb, Go.Crew.setCell_blk (Go.Crew.setBlk_self (Go.Crew.lt_of_some xb)), Go.Crew.setBlk_setBlk]
      (try rfl)
    · intro xv xr xb xe xhe
      rw [hP] at xhe
      have xc0 := Go.Crew.cell_of xb (o := 0) (show _ = some _ from rfl)
      have xf0 : xv.frozen? ⟨b1, 0, none⟩ = false := by simp [World.frozen?, xb]
      have xc1 := Go.Crew.cell_of xb (o := 1) (show _ = some _ from rfl)
      have xf1 : xv.frozen? ⟨b1, 1, none⟩ = false := by simp [World.frozen?, xb]
      simp [go_sem, storedEv, *] at xhe
      all_goals (first | subst xhe | (rcases xhe with rfl | rfl) | (rcases xhe with rfl | rfl | rfl | rfl))
      all_goals (exact EvB.cell h1 rfl _)
    try walk_nrm
    intro x2 r2 h2
    have r3 : Ext x x2 := (r0.trans r1).chg r2 (by have := r0.size; omega)
    clear r1 h1 s1 q1 r2 m1 hH
    refine opsB_nil ?_
    simp only [BThen, BBlock, if_true, if_false, reduceIte, Nat.reduceEqDiff]
    repeat (refine wpB_seq ?_)
    refine wpB_region ?_
    simp only [List.size_toArray, List.length_cons, List.length_nil, Nat.reduceAdd, Nat.zero_add, List.range, List.range.loop]
    co_applyP opsB_rd rfl (by rfl)
    · intro xv xr Kc hK
      rw [hP]
      have xc0 := HasB.cell h2 xr (o := 0) (show _ = some _ from rfl)
      have xc1 := HasB.cell h2 xr (o := 1) (show _ = some _ from rfl)
      go_simp
      first | exact hK | (rw [if_neg (by omega)]; exact hK) | (rw [if_pos (by omega)]; exact hK)
    · intro xv xr xe xhe
      rw [hP] at xhe
      have xc0 := HasB.cell h2 xr (o := 0) (show _ = some _ from rfl)
      have xc1 := HasB.cell h2 xr (o := 1) (show _ = some _ from rfl)
      simp [go_sem, *] at xhe
      all_goals (first | subst xhe | (rcases xhe with rfl | rfl) | (rcases xhe with rfl | rfl | rfl | rfl))
      all_goals (exact EvB.cell h2 rfl _)
    try walk_nrm
    co_applyP opsB_act rfl (by rfl) (actB_callV rfl (by first | (simp [Act.eval]; done) | (simp [Act.eval, spV]; done) | rfl) (btimes_ok B hP (lo j) (hi j) x2) (fun _ _ h => h))
    rintro v x3 ⟨rfl, e3⟩
    try walk_nrm
    repeat (
      co_applyP opsB_rd rfl (by rfl)
      · intro xv xr Kc hK
        rw [hP]
        go_simp
        first | exact hK | (rw [if_neg (by omega)]; exact hK) | (rw [if_pos (by omega)]; exact hK)
      · intro xv xr xe xhe
        rw [hP] at xhe
        simp [go_sem, *] at xhe
      try walk_nrm
    )
    refine opsB_nil ?_
    simp only [BThen, BBlock, if_true, if_false, reduceIte, Nat.reduceEqDiff]
    obtain ⟨q, hq⟩ : ∃ q, timesE (lo j) (hi j) = q := ⟨_, rfl⟩
    rw [hq]
    have kq := Lib.hid hq
    clear hq
    replace r3 := r3.trans e3
    clear e3 h2
    repeat (refine wpB_seq ?_)
    refine wpB_region ?_
    simp only [List.size_toArray, List.length_cons, List.length_nil, Nat.reduceAdd, Nat.zero_add, List.range, List.range.loop]
    repeat (
      co_applyP opsB_rd rfl (by rfl)
      · intro xv xr Kc hK
        rw [hP]
        go_simp
        first | exact hK | (rw [if_neg (by omega)]; exact hK) | (rw [if_pos (by omega)]; exact hK)
      · intro xv xr xe xhe
        rw [hP] at xhe
        simp [go_sem, *] at xhe
      try walk_nrm
    )
    refine opsB_nil ?_
    simp only [BThen, BBlock, if_true, if_false, reduceIte, Nat.reduceEqDiff]
    repeat (refine wpB_seq ?_)
    refine wpB_split (t := (q != 0)) (by first | rfl | simp [Act.eval]) (fun ht => ?_) (fun ht => ?_)
    · have hq0 : q ≠ 0 := by simpa using ht
      clear ht
      repeat (refine wpB_seq ?_)
      refine wpB_region ?_
      simp only [List.size_toArray, List.length_cons, List.length_nil, Nat.reduceAdd, Nat.zero_add, List.range, List.range.loop]
      repeat (
        co_applyP opsB_rd rfl (by rfl)
        · intro xv xr Kc hK
          rw [hP]
          go_simp
          first | exact hK | (rw [if_neg (by omega)]; exact hK) | (rw [if_pos (by omega)]; exact hK)
        · intro xv xr xe xhe
          rw [hP] at xhe
          simp [go_sem, *] at xhe
        try walk_nrm
      )
      refine opsB_nil ?_
      simp only [BThen, BBlock, if_true, if_false, reduceIte, Nat.reduceEqDiff]
      refine wpB_ret ?_
      refine ⟨rfl, .int .i64 q, fun xv xr => ⟨?_, fun xe xhe => ?_⟩, ?_⟩
      · rw [hP]
        simp [results, Try.results12, go_sem]
      · have xhm := mem_seen xhe
        rw [hP] at xhm
        simp [results, Try.results12, go_sem] at xhm
      exact ⟨q, rfl, .inr ⟨⟨hn12, hm40⟩, q, .inl ⟨j, hjn, kg.out, by show timesE (lo j) (hi j) ≠ 0; rw [show timesE (lo j) (hi j) = q from kq.out]; exact hq0, kq.out.symm⟩, .inl ⟨hq0, rfl⟩⟩, r3⟩
    · have hq0 : q = 0 := by simpa using ht
      clear ht
      refine wpB_skip ?_
      simp only [BThen, BBlock, if_true, if_false, reduceIte, Nat.reduceEqDiff]
      have hw : IntKind.i64.wrap ((j : Int) + 1) = ((j + 1 : Nat) : Int) := by rw [wrap_in (by omega)]; simp
      repeat (refine wpB_seq ?_)
      refine wpB_region ?_
      simp only [List.size_toArray, List.length_cons, List.length_nil, Nat.reduceAdd, Nat.zero_add, List.range, List.range.loop]
      repeat (
        co_applyP opsB_rd rfl (by rfl)
        · intro xv xr Kc hK
          rw [hP]
          go_simp
          first | exact hK | (rw [if_neg (by omega)]; exact hK) | (rw [if_pos (by omega)]; exact hK)
        · intro xv xr xe xhe
          rw [hP] at xhe
          simp [go_sem, *] at xhe
        try walk_nrm
      )
      refine opsB_nil ?_
      simp only [BThen, BBlock, if_true, if_false, reduceIte, Nat.reduceEqDiff]
      refine ⟨⟨j + 1, by omega, ⟨rfl, rfl, rfl, rfl, rfl, rfl, rfl, rfl, trivial⟩, r3, fun i hi => ?_⟩, ?_⟩
      · rcases Nat.lt_or_ge i j with h | h
        · exact kg.out i h
        · obtain rfl : i = j := by omega
          exact kq.out.trans hq0
      · simp [slotI]
        omega
  obtain rfl : n = j := by have := of_decide_eq_false ht; omega
  clear ht hj
  refine wpB_exit ?_
  simp only [BThen, BBlock, if_true, if_false, reduceIte, Nat.reduceEqDiff]
  repeat (refine wpB_seq ?_)
  refine wpB_region ?_
  simp only [List.size_toArray, List.length_cons, List.length_nil, Nat.reduceAdd, Nat.zero_add, List.range, List.range.loop]
  repeat (
    co_applyP opsB_rd rfl (by rfl)
    · intro xv xr Kc hK
      rw [hP]
      go_simp
      first | exact hK | (rw [if_neg (by omega)]; exact hK) | (rw [if_pos (by omega)]; exact hK)
    · intro xv xr xe xhe
      rw [hP] at xhe
      simp [go_sem, *] at xhe
    try walk_nrm
  )
  refine opsB_nil ?_
  simp only [BThen, BBlock, if_true, if_false, reduceIte, Nat.reduceEqDiff]
  refine wpB_block ?_
  refine wpB_loop (fun a z => ∃ j : Nat, j ≤ m ∧ Fr 79 [(0, .slice A n capA), (1, .slice K m capK), (2, .int .i64 W), (33, .slice K m capK), (34, .int .i64 m), (35, .int .i64 j)] a ∧ Ext x z ∧ ∀ i, i < j → linkE n (ka i) (kb i) (dl i) (dh i) = 0)
    (fun a _ => (m - slotI a 35).toNat) ⟨0, by omega, ⟨rfl, rfl, rfl, rfl, rfl, rfl, rfl, rfl, trivial⟩, r0, fun i hi => absurd hi (by omega)⟩ ?_
  clear r0 y u
  rintro a y ⟨j, hj, hs, r0, g0⟩
  obtain ⟨u, hu, hv⟩ := hs.lit
  simp only [List.range, List.range.loop, List.map_cons, List.map_nil] at hu
  obtain ⟨z0, z1, z2, z33, z34, z35, -⟩ := hs.at_
  have y0 := (hv 0).trans z0
  have y1 := (hv 1).trans z1
  have y2 := (hv 2).trans z2
  have y33 := (hv 33).trans z33
  have y34 := (hv 34).trans z34
  have y35 := (hv 35).trans z35
  rw [y0, y1, y2, y33, y34, y35] at hu
  clear hv hs z0 z1 z2 z33 z34 z35 y0 y1 y2 y33 y34 y35
  subst hu
  have kl := Lib.hid g0
  clear g0
  repeat (refine wpB_seq ?_)
  refine wpB_region ?_
  simp only [List.size_toArray, List.length_cons, List.length_nil, Nat.reduceAdd, Nat.zero_add, List.range, List.range.loop]
  repeat (
    co_applyP opsB_rd rfl (by rfl)
    · intro xv xr Kc hK
      rw [hP]
      go_simp
      first | exact hK | (rw [if_neg (by omega)]; exact hK) | (rw [if_pos (by omega)]; exact hK)
    · intro xv xr xe xhe
      rw [hP] at xhe
      simp [go_sem, *] at xhe
    try walk_nrm
  )
  refine opsB_nil ?_
  simp only [BThen, BBlock, if_true, if_false, reduceIte, Nat.reduceEqDiff]
  repeat (refine wpB_seq ?_)
  refine wpB_split (t := decide ((j : Int) < m)) (by first | rfl | simp [Act.eval]) (fun ht => ?_) (fun ht => ?_)
  · have hjm : j < m := by have := of_decide_eq_true ht; omega
    clear ht
    refine wpB_skip ?_
    simp only [BThen, BBlock, if_true, if_false, reduceIte, Nat.reduceEqDiff]
    repeat (refine wpB_seq ?_)
    refine wpB_block ?_
    obtain ⟨b, o, cs, e, f, rfl, hH, c1, c2, c3, c4⟩ := (hK.ext r0) (by omega)
    have hj' : (j : Int) < (m : Int) := by omega
    repeat (refine wpB_seq ?_)
    refine wpB_region ?_
    simp only [List.size_toArray, List.length_cons, List.length_nil, Nat.reduceAdd, Nat.zero_add, List.range, List.range.loop]
    repeat (
      co_applyP opsB_rd rfl (by rfl)
      · intro xv xr Kc hK
        rw [hP]
        go_simp
        first | exact hK | (rw [if_neg (by omega)]; exact hK) | (rw [if_pos (by omega)]; exact hK)
      · intro xv xr xe xhe
        rw [hP] at xhe
        simp [go_sem, *] at xhe
      try walk_nrm
    )
    co_applyP opsB_rd rfl (by rfl)
    · intro xv xr Kc hK
      rw [hP]
      have xc0 := HasB.cell hH xr (o := o + j * 4) (v := _) (c1 j hjm)
      have xc1 := HasB.cell hH xr (o := o + j * 4 + 1) (v := _) (c2 j hjm)
      have xc2 := HasB.cell hH xr (o := o + j * 4 + 2) (v := _) (c3 j hjm)
      have xc3 := HasB.cell hH xr (o := o + j * 4 + 3) (v := _) (c4 j hjm)
      go_simp
      first | exact hK | (rw [if_neg (by omega)]; exact hK) | (rw [if_pos (by omega)]; exact hK)
    · intro xv xr xe xhe
      rw [hP] at xhe
      have xc0 := HasB.cell hH xr (o := o + j * 4) (v := _) (c1 j hjm)
      have xc1 := HasB.cell hH xr (o := o + j * 4 + 1) (v := _) (c2 j hjm)
      have xc2 := HasB.cell hH xr (o := o + j * 4 + 2) (v := _) (c3 j hjm)
      have xc3 := HasB.cell hH xr (o := o + j * 4 + 3) (v := _) (c4 j hjm)
      simp [go_sem, *] at xhe
      all_goals (first | subst xhe | (rcases xhe with rfl | rfl) | (rcases xhe with rfl | rfl | rfl | rfl))
      all_goals (exact EvB.cell hH rfl _)
    try walk_nrm
    co_applyP opsB_nw (fun b => .pointer (some ⟨b, 0, none⟩)) rfl (by rfl)
    · intro xv xr Kc hK
      rw [hP]
      go_simp
      first | exact hK | (rw [if_neg (by omega)]; exact hK) | (rw [if_pos (by omega)]; exact hK)
    · intro xv xr xe xhe
      rw [hP] at xhe
      simp [go_sem, *] at xhe
    intro x1 b1 m1 r1 h1 s1 q1
    try walk_nrm
    co_applyP opsB_wr h1 rfl (by rfl)
    · intro xv xr xb Kc hK
      rw [hP]
      have xc0 := Go.Crew.cell_of xb (o := 0) (show _ = some _ from rfl)
      have xf0 : xv.frozen? ⟨b1, 0, none⟩ = false := by simp [World.frozen?, xb]
      have xc1 := Go.Crew.cell_of xb (o := 1) (show _ = some _ from rfl)
      have xf1 : xv.frozen? ⟨b1, 1, none⟩ = false := by simp [World.frozen?, xb]
      have xc2 := Go.Crew.cell_of xb (o := 2) (show _ = some _ from rfl)
      have xf2 : xv.frozen? ⟨b1, 2, none⟩ = false := by simp [World.frozen?, xb]
      have xc3 := Go.Crew.cell_of xb (o := 3) (show _ = some _ from rfl)
      have xf3 : xv.frozen? ⟨b1, 3, none⟩ = false := by simp [World.frozen?, xb]
      go_simp
      (try unfold stored; go_simp)
      refine hK _ ?_
      rw [Go.Crew.setCell_blk xb, Go.Crew.setCell_blk (Go.Crew.setBlk_self (Go.Crew.lt_of_some xb)), Go.Crew.setBlk_setBlk, Go.Crew.setCell_blk (Go.Crew.setBlk_self (Go.Crew.lt_of_some xb)), Go.Crew.setBlk_setBlk, Go.Crew.setCell_blk (Go.Crew.setBlk_self (Go.Crew.lt_of_some xb)), Go.Crew.setBlk_setBlk]
      (try rfl)
    · intro xv xr xb xe xhe
      rw [hP] at xhe
      have xc0 := Go.Crew.cell_of xb (o := 0) (show _ = some _ from rfl)
      have xf0 : xv.frozen? ⟨b1, 0, none⟩ = false := by simp [World.frozen?, xb]
      have xc1 := Go.Crew.cell_of xb (o := 1) (show _ = some _ from rfl)
      have xf1 : xv.frozen? ⟨b1, 1, none⟩ = false := by simp [World.frozen?, xb]
      have xc2 := Go.Crew.cell_of xb (o := 2) (show _ = some _ from rfl)
      have xf2 : xv.frozen? ⟨b1, 2, none⟩ = false := by simp [World.frozen?, xb]
      have xc3 := Go.Crew.cell_of xb (o := 3) (show _ = some _ from rfl)
      have xf3 : xv.frozen? ⟨b1, 3, none⟩ = false := by simp [World.frozen?, xb]
      simp [go_sem, storedEv, *] at xhe
      all_goals (first | subst xhe | (rcases xhe with rfl | rfl) | (rcases xhe with rfl | rfl | rfl | rfl))
      all_goals (exact EvB.cell h1 rfl _)
    try walk_nrm
    intro x2 r2 h2
    have r3 : Ext x x2 := (r0.trans r1).chg r2 (by have := r0.size; omega)
    clear r1 h1 s1 q1 r2 m1 hH
    refine opsB_nil ?_
    simp only [BThen, BBlock, if_true, if_false, reduceIte, Nat.reduceEqDiff]
    repeat (refine wpB_seq ?_)
    refine wpB_region ?_
    simp only [List.size_toArray, List.length_cons, List.length_nil, Nat.reduceAdd, Nat.zero_add, List.range, List.range.loop]
    repeat (
      co_applyP opsB_rd rfl (by rfl)
      · intro xv xr Kc hK
        rw [hP]
        go_simp
        first | exact hK | (rw [if_neg (by omega)]; exact hK) | (rw [if_pos (by omega)]; exact hK)
      · intro xv xr xe xhe
        rw [hP] at xhe
        simp [go_sem, *] at xhe
      try walk_nrm
    )
    co_applyP opsB_rd rfl (by rfl)
    · intro xv xr Kc hK
      rw [hP]
      have xc0 := HasB.cell h2 xr (o := 0) (show _ = some _ from rfl)
      go_simp
      first | exact hK | (rw [if_neg (by omega)]; exact hK) | (rw [if_pos (by omega)]; exact hK)
    · intro xv xr xe xhe
      rw [hP] at xhe
      have xc0 := HasB.cell h2 xr (o := 0) (show _ = some _ from rfl)
      simp [go_sem, *] at xhe
      all_goals (first | subst xhe | (rcases xhe with rfl | rfl) | (rcases xhe with rfl | rfl | rfl | rfl))
      all_goals (exact EvB.cell h2 rfl _)
    try walk_nrm
    repeat (
      co_applyP opsB_rd rfl (by rfl)
      · intro xv xr Kc hK
        rw [hP]
        go_simp
        first | exact hK | (rw [if_neg (by omega)]; exact hK) | (rw [if_pos (by omega)]; exact hK)
      · intro xv xr xe xhe
        rw [hP] at xhe
        simp [go_sem, *] at xhe
      try walk_nrm
    )
    by_cases p1 : ka j < 0
    · rw [show decide (ka j < 0) = true from decide_eq_true p1]
      repeat (refine opsB_unwanted rfl (by rfl) ?_; try walk_nrm)
      repeat (
        co_applyP opsB_rd rfl (by rfl)
        · intro xv xr Kc hK
          rw [hP]
          go_simp
          first | exact hK | (rw [if_neg (by omega)]; exact hK) | (rw [if_pos (by omega)]; exact hK)
        · intro xv xr xe xhe
          rw [hP] at xhe
          simp [go_sem, *] at xhe
        try walk_nrm
      )
      repeat (refine opsB_unwanted rfl (by rfl) ?_; try walk_nrm)
      repeat (
        co_applyP opsB_rd rfl (by rfl)
        · intro xv xr Kc hK
          rw [hP]
          go_simp
          first | exact hK | (rw [if_neg (by omega)]; exact hK) | (rw [if_pos (by omega)]; exact hK)
        · intro xv xr xe xhe
          rw [hP] at xhe
          simp [go_sem, *] at xhe
        try walk_nrm
      )
      repeat (refine opsB_unwanted rfl (by rfl) ?_; try walk_nrm)
      repeat (
        co_applyP opsB_rd rfl (by rfl)
        · intro xv xr Kc hK
          rw [hP]
          go_simp
          first | exact hK | (rw [if_neg (by omega)]; exact hK) | (rw [if_pos (by omega)]; exact hK)
        · intro xv xr xe xhe
          rw [hP] at xhe
          simp [go_sem, *] at xhe
        try walk_nrm
      )
      refine opsB_nil ?_
      simp only [BThen, BBlock, if_true, if_false, reduceIte, Nat.reduceEqDiff]
      repeat (refine wpB_seq ?_)
      refine wpB_split (t := true) (by first | rfl | simp [Act.eval]) (fun ht => ?_) (fun ht => ?_)
      · repeat (refine wpB_seq ?_)
        refine wpB_region ?_
        simp only [List.size_toArray, List.length_cons, List.length_nil, Nat.reduceAdd, Nat.zero_add, List.range, List.range.loop]
        repeat (
          co_applyP opsB_rd rfl (by rfl)
          · intro xv xr Kc hK
            rw [hP]
            go_simp
            first | exact hK | (rw [if_neg (by omega)]; exact hK) | (rw [if_pos (by omega)]; exact hK)
          · intro xv xr xe xhe
            rw [hP] at xhe
            simp [go_sem, *] at xhe
          try walk_nrm
        )
        refine opsB_nil ?_
        simp only [BThen, BBlock, if_true, if_false, reduceIte, Nat.reduceEqDiff]
        refine wpB_ret ?_
        refine ⟨rfl, .int .i64 3, fun xv xr => ⟨?_, fun xe xhe => ?_⟩, ?_⟩
        · rw [hP]
          simp [results, Try.results12, go_sem]
        · have xhm := mem_seen xhe
          rw [hP] at xhm
          simp [results, Try.results12, go_sem] at xhm
        exact ⟨3, rfl, ChkP.link hn12 hm40 kg.out hjm kl.out (if_pos (by omega)) (by omega), r3⟩
      · cases ht
    rw [show decide (ka j < 0) = false from decide_eq_false p1]
    repeat (
      co_applyP opsB_rd rfl (by rfl)
      · intro xv xr Kc hK
        rw [hP]
        go_simp
        first | exact hK | (rw [if_neg (by omega)]; exact hK) | (rw [if_pos (by omega)]; exact hK)
      · intro xv xr xe xhe
        rw [hP] at xhe
        simp [go_sem, *] at xhe
      try walk_nrm
    )
    co_applyP opsB_rd rfl (by rfl)
    · intro xv xr Kc hK
      rw [hP]
      have xc0 := HasB.cell h2 xr (o := 0) (show _ = some _ from rfl)
      go_simp
      first | exact hK | (rw [if_neg (by omega)]; exact hK) | (rw [if_pos (by omega)]; exact hK)
    · intro xv xr xe xhe
      rw [hP] at xhe
      have xc0 := HasB.cell h2 xr (o := 0) (show _ = some _ from rfl)
      simp [go_sem, *] at xhe
      all_goals (first | subst xhe | (rcases xhe with rfl | rfl) | (rcases xhe with rfl | rfl | rfl | rfl))
      all_goals (exact EvB.cell h2 rfl _)
    try walk_nrm
    repeat (
      co_applyP opsB_rd rfl (by rfl)
      · intro xv xr Kc hK
        rw [hP]
        go_simp
        first | exact hK | (rw [if_neg (by omega)]; exact hK) | (rw [if_pos (by omega)]; exact hK)
      · intro xv xr xe xhe
        rw [hP] at xhe
        simp [go_sem, *] at xhe
      try walk_nrm
    )
    by_cases p2 : (n : Int) ≤ ka j
    · rw [show decide ((n : Int) ≤ ka j) = true from decide_eq_true p2]
      repeat (refine opsB_unwanted rfl (by rfl) ?_; try walk_nrm)
      repeat (
        co_applyP opsB_rd rfl (by rfl)
        · intro xv xr Kc hK
          rw [hP]
          go_simp
          first | exact hK | (rw [if_neg (by omega)]; exact hK) | (rw [if_pos (by omega)]; exact hK)
        · intro xv xr xe xhe
          rw [hP] at xhe
          simp [go_sem, *] at xhe
        try walk_nrm
      )
      repeat (refine opsB_unwanted rfl (by rfl) ?_; try walk_nrm)
      repeat (
        co_applyP opsB_rd rfl (by rfl)
        · intro xv xr Kc hK
          rw [hP]
          go_simp
          first | exact hK | (rw [if_neg (by omega)]; exact hK) | (rw [if_pos (by omega)]; exact hK)
        · intro xv xr xe xhe
          rw [hP] at xhe
          simp [go_sem, *] at xhe
        try walk_nrm
      )
      refine opsB_nil ?_
      simp only [BThen, BBlock, if_true, if_false, reduceIte, Nat.reduceEqDiff]
      repeat (refine wpB_seq ?_)
      refine wpB_split (t := true) (by first | rfl | simp [Act.eval]) (fun ht => ?_) (fun ht => ?_)
      · repeat (refine wpB_seq ?_)
        refine wpB_region ?_
        simp only [List.size_toArray, List.length_cons, List.length_nil, Nat.reduceAdd, Nat.zero_add, List.range, List.range.loop]
        repeat (
          co_applyP opsB_rd rfl (by rfl)
          · intro xv xr Kc hK
            rw [hP]
            go_simp
            first | exact hK | (rw [if_neg (by omega)]; exact hK) | (rw [if_pos (by omega)]; exact hK)
          · intro xv xr xe xhe
            rw [hP] at xhe
            simp [go_sem, *] at xhe
          try walk_nrm
        )
        refine opsB_nil ?_
        simp only [BThen, BBlock, if_true, if_false, reduceIte, Nat.reduceEqDiff]
        refine wpB_ret ?_
        refine ⟨rfl, .int .i64 3, fun xv xr => ⟨?_, fun xe xhe => ?_⟩, ?_⟩
        · rw [hP]
          simp [results, Try.results12, go_sem]
        · have xhm := mem_seen xhe
          rw [hP] at xhm
          simp [results, Try.results12, go_sem] at xhm
        exact ⟨3, rfl, ChkP.link hn12 hm40 kg.out hjm kl.out (if_pos (by omega)) (by omega), r3⟩
      · cases ht
    rw [show decide ((n : Int) ≤ ka j) = false from decide_eq_false p2]
    repeat (
      co_applyP opsB_rd rfl (by rfl)
      · intro xv xr Kc hK
        rw [hP]
        go_simp
        first | exact hK | (rw [if_neg (by omega)]; exact hK) | (rw [if_pos (by omega)]; exact hK)
      · intro xv xr xe xhe
        rw [hP] at xhe
        simp [go_sem, *] at xhe
      try walk_nrm
    )
    co_applyP opsB_rd rfl (by rfl)
    · intro xv xr Kc hK
      rw [hP]
      have xc0 := HasB.cell h2 xr (o := 1) (show _ = some _ from rfl)
      go_simp
      first | exact hK | (rw [if_neg (by omega)]; exact hK) | (rw [if_pos (by omega)]; exact hK)
    · intro xv xr xe xhe
      rw [hP] at xhe
      have xc0 := HasB.cell h2 xr (o := 1) (show _ = some _ from rfl)
      simp [go_sem, *] at xhe
      all_goals (first | subst xhe | (rcases xhe with rfl | rfl) | (rcases xhe with rfl | rfl | rfl | rfl))
      all_goals (exact EvB.cell h2 rfl _)
    try walk_nrm
    repeat (
      co_applyP opsB_rd rfl (by rfl)
      · intro xv xr Kc hK
        rw [hP]
        go_simp
        first | exact hK | (rw [if_neg (by omega)]; exact hK) | (rw [if_pos (by omega)]; exact hK)
      · intro xv xr xe xhe
        rw [hP] at xhe
        simp [go_sem, *] at xhe
      try walk_nrm
    )
    by_cases p3 : kb j < 0
    · rw [show decide (kb j < 0) = true from decide_eq_true p3]
      repeat (refine opsB_unwanted rfl (by rfl) ?_; try walk_nrm)
      repeat (
        co_applyP opsB_rd rfl (by rfl)
        · intro xv xr Kc hK
          rw [hP]
          go_simp
          first | exact hK | (rw [if_neg (by omega)]; exact hK) | (rw [if_pos (by omega)]; exact hK)
        · intro xv xr xe xhe
          rw [hP] at xhe
          simp [go_sem, *] at xhe
        try walk_nrm
      )
      refine opsB_nil ?_
      simp only [BThen, BBlock, if_true, if_false, reduceIte, Nat.reduceEqDiff]
      repeat (refine wpB_seq ?_)
      refine wpB_split (t := true) (by first | rfl | simp [Act.eval]) (fun ht => ?_) (fun ht => ?_)
      · repeat (refine wpB_seq ?_)
        refine wpB_region ?_
        simp only [List.size_toArray, List.length_cons, List.length_nil, Nat.reduceAdd, Nat.zero_add, List.range, List.range.loop]
        repeat (
          co_applyP opsB_rd rfl (by rfl)
          · intro xv xr Kc hK
            rw [hP]
            go_simp
            first | exact hK | (rw [if_neg (by omega)]; exact hK) | (rw [if_pos (by omega)]; exact hK)
          · intro xv xr xe xhe
            rw [hP] at xhe
            simp [go_sem, *] at xhe
          try walk_nrm
        )
        refine opsB_nil ?_
        simp only [BThen, BBlock, if_true, if_false, reduceIte, Nat.reduceEqDiff]
        refine wpB_ret ?_
        refine ⟨rfl, .int .i64 3, fun xv xr => ⟨?_, fun xe xhe => ?_⟩, ?_⟩
        · rw [hP]
          simp [results, Try.results12, go_sem]
        · have xhm := mem_seen xhe
          rw [hP] at xhm
          simp [results, Try.results12, go_sem] at xhm
        exact ⟨3, rfl, ChkP.link hn12 hm40 kg.out hjm kl.out (if_pos (by omega)) (by omega), r3⟩
      · cases ht
    rw [show decide (kb j < 0) = false from decide_eq_false p3]
    repeat (
      co_applyP opsB_rd rfl (by rfl)
      · intro xv xr Kc hK
        rw [hP]
        go_simp
        first | exact hK | (rw [if_neg (by omega)]; exact hK) | (rw [if_pos (by omega)]; exact hK)
      · intro xv xr xe xhe
        rw [hP] at xhe
        simp [go_sem, *] at xhe
      try walk_nrm
    )
    co_applyP opsB_rd rfl (by rfl)
    · intro xv xr Kc hK
      rw [hP]
      have xc0 := HasB.cell h2 xr (o := 1) (show _ = some _ from rfl)
      go_simp
      first | exact hK | (rw [if_neg (by omega)]; exact hK) | (rw [if_pos (by omega)]; exact hK)
    · intro xv xr xe xhe
      rw [hP] at xhe
      have xc0 := HasB.cell h2 xr (o := 1) (show _ = some _ from rfl)
      simp [go_sem, *] at xhe
      all_goals (first | subst xhe | (rcases xhe with rfl | rfl) | (rcases xhe with rfl | rfl | rfl | rfl))
      all_goals (exact EvB.cell h2 rfl _)
    try walk_nrm
    repeat (
      co_applyP opsB_rd rfl (by rfl)
      · intro xv xr Kc hK
        rw [hP]
        go_simp
        first | exact hK | (rw [if_neg (by omega)]; exact hK) | (rw [if_pos (by omega)]; exact hK)
      · intro xv xr xe xhe
        rw [hP] at xhe
        simp [go_sem, *] at xhe
      try walk_nrm
    )
    refine opsB_nil ?_
    simp only [BThen, BBlock, if_true, if_false, reduceIte, Nat.reduceEqDiff]
    repeat (refine wpB_seq ?_)
    refine wpB_split (t := decide ((n : Int) ≤ kb j)) (by first | rfl | simp [Act.eval]) (fun ht => ?_) (fun ht => ?_)
    · have p4 := of_decide_eq_true ht
      clear ht
      repeat (refine wpB_seq ?_)
      refine wpB_region ?_
      simp only [List.size_toArray, List.length_cons, List.length_nil, Nat.reduceAdd, Nat.zero_add, List.range, List.range.loop]
      repeat (
        co_applyP opsB_rd rfl (by rfl)
        · intro xv xr Kc hK
          rw [hP]
          go_simp
          first | exact hK | (rw [if_neg (by omega)]; exact hK) | (rw [if_pos (by omega)]; exact hK)
        · intro xv xr xe xhe
          rw [hP] at xhe
          simp [go_sem, *] at xhe
        try walk_nrm
      )
      refine opsB_nil ?_
      simp only [BThen, BBlock, if_true, if_false, reduceIte, Nat.reduceEqDiff]
      refine wpB_ret ?_
      refine ⟨rfl, .int .i64 3, fun xv xr => ⟨?_, fun xe xhe => ?_⟩, ?_⟩
      · rw [hP]
        simp [results, Try.results12, go_sem]
      · have xhm := mem_seen xhe
        rw [hP] at xhm
        simp [results, Try.results12, go_sem] at xhm
      exact ⟨3, rfl, ChkP.link hn12 hm40 kg.out hjm kl.out (if_pos (by omega)) (by omega), r3⟩
    have p4 := of_decide_eq_false ht
    clear ht
    refine wpB_skip ?_
    simp only [BThen, BBlock, if_true, if_false, reduceIte, Nat.reduceEqDiff]
    repeat (refine wpB_seq ?_)
    refine wpB_region ?_
    simp only [List.size_toArray, List.length_cons, List.length_nil, Nat.reduceAdd, Nat.zero_add, List.range, List.range.loop]
    repeat (
      co_applyP opsB_rd rfl (by rfl)
      · intro xv xr Kc hK
        rw [hP]
        go_simp
        first | exact hK | (rw [if_neg (by omega)]; exact hK) | (rw [if_pos (by omega)]; exact hK)
      · intro xv xr xe xhe
        rw [hP] at xhe
        simp [go_sem, *] at xhe
      try walk_nrm
    )
    co_applyP opsB_rd rfl (by rfl)
    · intro xv xr Kc hK
      rw [hP]
      have xc0 := HasB.cell h2 xr (o := 0) (show _ = some _ from rfl)
      go_simp
      first | exact hK | (rw [if_neg (by omega)]; exact hK) | (rw [if_pos (by omega)]; exact hK)
    · intro xv xr xe xhe
      rw [hP] at xhe
      have xc0 := HasB.cell h2 xr (o := 0) (show _ = some _ from rfl)
      simp [go_sem, *] at xhe
      all_goals (first | subst xhe | (rcases xhe with rfl | rfl) | (rcases xhe with rfl | rfl | rfl | rfl))
      all_goals (exact EvB.cell h2 rfl _)
    try walk_nrm
    repeat (
      co_applyP opsB_rd rfl (by rfl)
      · intro xv xr Kc hK
        rw [hP]
        go_simp
        first | exact hK | (rw [if_neg (by omega)]; exact hK) | (rw [if_pos (by omega)]; exact hK)
      · intro xv xr xe xhe
        rw [hP] at xhe
        simp [go_sem, *] at xhe
      try walk_nrm
    )
    co_applyP opsB_rd rfl (by rfl)
    · intro xv xr Kc hK
      rw [hP]
      have xc0 := HasB.cell h2 xr (o := 1) (show _ = some _ from rfl)
      go_simp
      first | exact hK | (rw [if_neg (by omega)]; exact hK) | (rw [if_pos (by omega)]; exact hK)
    · intro xv xr xe xhe
      rw [hP] at xhe
      have xc0 := HasB.cell h2 xr (o := 1) (show _ = some _ from rfl)
      simp [go_sem, *] at xhe
      all_goals (first | subst xhe | (rcases xhe with rfl | rfl) | (rcases xhe with rfl | rfl | rfl | rfl))
      all_goals (exact EvB.cell h2 rfl _)
    try walk_nrm
    repeat (
      co_applyP opsB_rd rfl (by rfl)
      · intro xv xr Kc hK
        rw [hP]
        go_simp
        first | exact hK | (rw [if_neg (by omega)]; exact hK) | (rw [if_pos (by omega)]; exact hK)
      · intro xv xr xe xhe
        rw [hP] at xhe
        simp [go_sem, *] at xhe
      try walk_nrm
    )
    refine opsB_nil ?_
    simp only [BThen, BBlock, if_true, if_false, reduceIte, Nat.reduceEqDiff]
    repeat (refine wpB_seq ?_)
    refine wpB_split (t := (ka j == kb j)) (by first | rfl | simp [Act.eval]) (fun ht => ?_) (fun ht => ?_)
    · have p5 : ka j = kb j := by simpa using ht
      clear ht
      repeat (refine wpB_seq ?_)
      refine wpB_region ?_
      simp only [List.size_toArray, List.length_cons, List.length_nil, Nat.reduceAdd, Nat.zero_add, List.range, List.range.loop]
      repeat (
        co_applyP opsB_rd rfl (by rfl)
        · intro xv xr Kc hK
          rw [hP]
          go_simp
          first | exact hK | (rw [if_neg (by omega)]; exact hK) | (rw [if_pos (by omega)]; exact hK)
        · intro xv xr xe xhe
          rw [hP] at xhe
          simp [go_sem, *] at xhe
        try walk_nrm
      )
      refine opsB_nil ?_
      simp only [BThen, BBlock, if_true, if_false, reduceIte, Nat.reduceEqDiff]
      refine wpB_ret ?_
      refine ⟨rfl, .int .i64 8, fun xv xr => ⟨?_, fun xe xhe => ?_⟩, ?_⟩
      · rw [hP]
        simp [results, Try.results12, go_sem]
      · have xhm := mem_seen xhe
        rw [hP] at xhm
        simp [results, Try.results12, go_sem] at xhm
      exact ⟨8, rfl, ChkP.link hn12 hm40 kg.out hjm kl.out (by unfold linkE; rw [if_neg (by omega), if_pos p5]) (by omega), r3⟩
    have p5 : ¬ ka j = kb j := by simpa using ht
    clear ht
    refine wpB_skip ?_
    simp only [BThen, BBlock, if_true, if_false, reduceIte, Nat.reduceEqDiff]
    repeat (refine wpB_seq ?_)
    refine wpB_region ?_
    simp only [List.size_toArray, List.length_cons, List.length_nil, Nat.reduceAdd, Nat.zero_add, List.range, List.range.loop]
    repeat (
      co_applyP opsB_rd rfl (by rfl)
      · intro xv xr Kc hK
        rw [hP]
        go_simp
        first | exact hK | (rw [if_neg (by omega)]; exact hK) | (rw [if_pos (by omega)]; exact hK)
      · intro xv xr xe xhe
        rw [hP] at xhe
        simp [go_sem, *] at xhe
      try walk_nrm
    )
    co_applyP opsB_rd rfl (by rfl)
    · intro xv xr Kc hK
      rw [hP]
      have xc0 := HasB.cell h2 xr (o := 2) (show _ = some _ from rfl)
      have xc1 := HasB.cell h2 xr (o := 3) (show _ = some _ from rfl)
      go_simp
      first | exact hK | (rw [if_neg (by omega)]; exact hK) | (rw [if_pos (by omega)]; exact hK)
    · intro xv xr xe xhe
      rw [hP] at xhe
      have xc0 := HasB.cell h2 xr (o := 2) (show _ = some _ from rfl)
      have xc1 := HasB.cell h2 xr (o := 3) (show _ = some _ from rfl)
      simp [go_sem, *] at xhe
      all_goals (first | subst xhe | (rcases xhe with rfl | rfl) | (rcases xhe with rfl | rfl | rfl | rfl))
      all_goals (exact EvB.cell h2 rfl _)
    try walk_nrm
    co_applyP opsB_act rfl (by rfl) (actB_callV rfl (by first | (simp [Act.eval]; done) | (simp [Act.eval, spV]; done) | rfl) (btimes_ok B hP (dl j) (dh j) x2) (fun _ _ h => h))
    rintro v x3 ⟨rfl, e3⟩
    try walk_nrm
    repeat (
      co_applyP opsB_rd rfl (by rfl)
      · intro xv xr Kc hK
        rw [hP]
        go_simp
        first | exact hK | (rw [if_neg (by omega)]; exact hK) | (rw [if_pos (by omega)]; exact hK)
      · intro xv xr xe xhe
        rw [hP] at xhe
        simp [go_sem, *] at xhe
      try walk_nrm
    )
    refine opsB_nil ?_
    simp only [BThen, BBlock, if_true, if_false, reduceIte, Nat.reduceEqDiff]
    have hle : linkE n (ka j) (kb j) (dl j) (dh j) = timesE (dl j) (dh j) := by unfold linkE; rw [if_neg (by omega), if_neg p5]
    obtain ⟨q, hq⟩ : ∃ q, timesE (dl j) (dh j) = q := ⟨_, rfl⟩
    rw [hq] at hle ⊢
    have kq := Lib.hid hle
    clear hle hq
    replace r3 := r3.trans e3
    clear e3 h2
    repeat (refine wpB_seq ?_)
    refine wpB_region ?_
    simp only [List.size_toArray, List.length_cons, List.length_nil, Nat.reduceAdd, Nat.zero_add, List.range, List.range.loop]
    repeat (
      co_applyP opsB_rd rfl (by rfl)
      · intro xv xr Kc hK
        rw [hP]
        go_simp
        first | exact hK | (rw [if_neg (by omega)]; exact hK) | (rw [if_pos (by omega)]; exact hK)
      · intro xv xr xe xhe
        rw [hP] at xhe
        simp [go_sem, *] at xhe
      try walk_nrm
    )
    refine opsB_nil ?_
    simp only [BThen, BBlock, if_true, if_false, reduceIte, Nat.reduceEqDiff]
    repeat (refine wpB_seq ?_)
    refine wpB_split (t := (q != 0)) (by first | rfl | simp [Act.eval]) (fun ht => ?_) (fun ht => ?_)
    · have hq0 : q ≠ 0 := by simpa using ht
      clear ht
      repeat (refine wpB_seq ?_)
      refine wpB_region ?_
      simp only [List.size_toArray, List.length_cons, List.length_nil, Nat.reduceAdd, Nat.zero_add, List.range, List.range.loop]
      repeat (
        co_applyP opsB_rd rfl (by rfl)
        · intro xv xr Kc hK
          rw [hP]
          go_simp
          first | exact hK | (rw [if_neg (by omega)]; exact hK) | (rw [if_pos (by omega)]; exact hK)
        · intro xv xr xe xhe
          rw [hP] at xhe
          simp [go_sem, *] at xhe
        try walk_nrm
      )
      refine opsB_nil ?_
      simp only [BThen, BBlock, if_true, if_false, reduceIte, Nat.reduceEqDiff]
      refine wpB_ret ?_
      refine ⟨rfl, .int .i64 q, fun xv xr => ⟨?_, fun xe xhe => ?_⟩, ?_⟩
      · rw [hP]
        simp [results, Try.results12, go_sem]
      · have xhm := mem_seen xhe
        rw [hP] at xhm
        simp [results, Try.results12, go_sem] at xhm
      exact ⟨q, rfl, ChkP.link hn12 hm40 kg.out hjm kl.out kq.out hq0, r3⟩
    · have hq0 : q = 0 := by simpa using ht
      clear ht
      refine wpB_skip ?_
      simp only [BThen, BBlock, if_true, if_false, reduceIte, Nat.reduceEqDiff]
      have hw : IntKind.i64.wrap ((j : Int) + 1) = ((j + 1 : Nat) : Int) := by rw [wrap_in (by omega)]; simp
      repeat (refine wpB_seq ?_)
      refine wpB_region ?_
      simp only [List.size_toArray, List.length_cons, List.length_nil, Nat.reduceAdd, Nat.zero_add, List.range, List.range.loop]
      repeat (
        co_applyP opsB_rd rfl (by rfl)
        · intro xv xr Kc hK
          rw [hP]
          go_simp
          first | exact hK | (rw [if_neg (by omega)]; exact hK) | (rw [if_pos (by omega)]; exact hK)
        · intro xv xr xe xhe
          rw [hP] at xhe
          simp [go_sem, *] at xhe
        try walk_nrm
      )
      refine opsB_nil ?_
      simp only [BThen, BBlock, if_true, if_false, reduceIte, Nat.reduceEqDiff]
      refine ⟨⟨j + 1, by omega, ⟨rfl, rfl, rfl, rfl, rfl, rfl, rfl, rfl, trivial⟩, r3, fun i hi => ?_⟩, ?_⟩
      · rcases Nat.lt_or_ge i j with h | h
        · exact kl.out i h
        · obtain rfl : i = j := by omega
          exact kq.out.trans hq0
      · simp [slotI]
        omega
  obtain rfl : m = j := by have := of_decide_eq_false ht; omega
  clear ht hj
  refine wpB_exit ?_
  simp only [BThen, BBlock, if_true, if_false, reduceIte, Nat.reduceEqDiff]
  have hfin : ∀ e, e = (if W < 1 ∨ 8 < W then 1 else 0) → ChkP n m lo hi ka kb dl dh W e := fun e he => .inr ⟨⟨hn12, hm40⟩, 0, .inr ⟨kg.out, rfl⟩, .inr ⟨rfl, 0, .inr ⟨kl.out, rfl⟩, .inr ⟨rfl, he⟩⟩⟩
  have kf := Lib.hid hfin
  clear hfin
  repeat (refine wpB_seq ?_)
  refine wpB_region ?_
  simp only [List.size_toArray, List.length_cons, List.length_nil, Nat.reduceAdd, Nat.zero_add, List.range, List.range.loop]
  repeat (
    co_applyP opsB_rd rfl (by rfl)
    · intro xv xr Kc hK
      rw [hP]
      go_simp
      first | exact hK | (rw [if_neg (by omega)]; exact hK) | (rw [if_pos (by omega)]; exact hK)
    · intro xv xr xe xhe
      rw [hP] at xhe
      simp [go_sem, *] at xhe
    try walk_nrm
  )
  by_cases w1 : W < 1
  · rw [show decide (W < 1) = true from decide_eq_true w1]
    repeat (refine opsB_unwanted rfl (by rfl) ?_; try walk_nrm)
    repeat (
      co_applyP opsB_rd rfl (by rfl)
      · intro xv xr Kc hK
        rw [hP]
        go_simp
        first | exact hK | (rw [if_neg (by omega)]; exact hK) | (rw [if_pos (by omega)]; exact hK)
      · intro xv xr xe xhe
        rw [hP] at xhe
        simp [go_sem, *] at xhe
      try walk_nrm
    )
    refine opsB_nil ?_
    simp only [BThen, BBlock, if_true, if_false, reduceIte, Nat.reduceEqDiff]
    repeat (refine wpB_seq ?_)
    refine wpB_split (t := true) (by first | rfl | simp [Act.eval]) (fun ht => ?_) (fun ht => ?_)
    · repeat (refine wpB_seq ?_)
      refine wpB_region ?_
      simp only [List.size_toArray, List.length_cons, List.length_nil, Nat.reduceAdd, Nat.zero_add, List.range, List.range.loop]
      repeat (
        co_applyP opsB_rd rfl (by rfl)
        · intro xv xr Kc hK
          rw [hP]
          go_simp
          first | exact hK | (rw [if_neg (by omega)]; exact hK) | (rw [if_pos (by omega)]; exact hK)
        · intro xv xr xe xhe
          rw [hP] at xhe
          simp [go_sem, *] at xhe
        try walk_nrm
      )
      refine opsB_nil ?_
      simp only [BThen, BBlock, if_true, if_false, reduceIte, Nat.reduceEqDiff]
      refine wpB_ret ?_
      refine ⟨rfl, .int .i64 1, fun xv xr => ⟨?_, fun xe xhe => ?_⟩, ?_⟩
      · rw [hP]
        simp [results, Try.results12, go_sem]
      · have xhm := mem_seen xhe
        rw [hP] at xhm
        simp [results, Try.results12, go_sem] at xhm
      exact ⟨1, rfl, kf.out _ (if_pos (by omega)).symm, r0⟩
    · cases ht
  rw [show decide (W < 1) = false from decide_eq_false w1]
  repeat (
    co_applyP opsB_rd rfl (by rfl)
    · intro xv xr Kc hK
      rw [hP]
      go_simp
      first | exact hK | (rw [if_neg (by omega)]; exact hK) | (rw [if_pos (by omega)]; exact hK)
    · intro xv xr xe xhe
      rw [hP] at xhe
      simp [go_sem, *] at xhe
    try walk_nrm
  )
  refine opsB_nil ?_
  simp only [BThen, BBlock, if_true, if_false, reduceIte, Nat.reduceEqDiff]
  repeat (refine wpB_seq ?_)
  refine wpB_split (t := decide (8 < W)) (by first | rfl | simp [Act.eval]) (fun ht => ?_) (fun ht => ?_)
  · have w8 := of_decide_eq_true ht
    clear ht
    repeat (refine wpB_seq ?_)
    refine wpB_region ?_
    simp only [List.size_toArray, List.length_cons, List.length_nil, Nat.reduceAdd, Nat.zero_add, List.range, List.range.loop]
    repeat (
      co_applyP opsB_rd rfl (by rfl)
      · intro xv xr Kc hK
        rw [hP]
        go_simp
        first | exact hK | (rw [if_neg (by omega)]; exact hK) | (rw [if_pos (by omega)]; exact hK)
      · intro xv xr xe xhe
        rw [hP] at xhe
        simp [go_sem, *] at xhe
      try walk_nrm
    )
    refine opsB_nil ?_
    simp only [BThen, BBlock, if_true, if_false, reduceIte, Nat.reduceEqDiff]
    refine wpB_ret ?_
    refine ⟨rfl, .int .i64 1, fun xv xr => ⟨?_, fun xe xhe => ?_⟩, ?_⟩
    · rw [hP]
      simp [results, Try.results12, go_sem]
    · have xhm := mem_seen xhe
      rw [hP] at xhm
      simp [results, Try.results12, go_sem] at xhm
    exact ⟨1, rfl, kf.out _ (if_pos (by omega)).symm, r0⟩
  have w8 := of_decide_eq_false ht
  clear ht
  refine wpB_skip ?_
  simp only [BThen, BBlock, if_true, if_false, reduceIte, Nat.reduceEqDiff]
  repeat (refine wpB_seq ?_)
  refine wpB_region ?_
  simp only [List.size_toArray, List.length_cons, List.length_nil, Nat.reduceAdd, Nat.zero_add, List.range, List.range.loop]
  repeat (
    co_applyP opsB_rd rfl (by rfl)
    · intro xv xr Kc hK
      rw [hP]
      go_simp
      first | exact hK | (rw [if_neg (by omega)]; exact hK) | (rw [if_pos (by omega)]; exact hK)
    · intro xv xr xe xhe
      rw [hP] at xhe
      simp [go_sem, *] at xhe
    try walk_nrm
  )
  refine opsB_nil ?_
  simp only [BThen, BBlock, if_true, if_false, reduceIte, Nat.reduceEqDiff]
  refine wpB_ret ?_
  refine ⟨rfl, .int .i64 0, fun xv xr => ⟨?_, fun xe xhe => ?_⟩, ?_⟩
  · rw [hP]
    simp [results, Try.results12, go_sem]
  · have xhm := mem_seen xhe
    rw [hP] at xhm
    simp [results, Try.results12, go_sem] at xhm
  exact ⟨0, rfl, kf.out _ (if_neg (by omega)).symm, r0⟩
end Go.Proofs.Ytplmgbffaeohpaa
