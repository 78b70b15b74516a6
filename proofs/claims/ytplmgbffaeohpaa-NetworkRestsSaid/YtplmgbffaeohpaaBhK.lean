/- Goroutine 0 beside goroutines that only leave: Round and Tight. -/
import Derived.Test.YtplmgbffaeohpaaBhJ
set_option linter.unusedSimpArgs false
set_option linter.unusedVariables false
namespace Go.Proofs.Ytplmgbffaeohpaa
open Go.Conc Go.Crew Go.Beh Go.RowKit

/-- The network that the arguments tell of. -/
def netOf (n m : Nat) (lo hi ka kb dl dh : Nat → Int) : Net := { n := n, lo := lo, hi := hi, m := m, A := fun j => (ka j).toNat, B := fun j => (kb j).toNat, dl := dl, dh := dh }
/-- A round. -/
def Net.next (N : Net) : Net := { N with lo := nlo N, hi := nhi N }
def Net.bad (N : Net) : Bool := (List.range N.n).any fun i => decide (N.hi i < N.lo i)
def Net.same (N M : Net) : Bool := (List.range N.n).all fun i => decide (N.lo i = M.lo i) && decide (N.hi i = M.hi i)
/-- What Tight finds: nothing, or the intervals. -/
def tightR : Nat → Net → Option Net
  | 0, _ => none
  | k + 1, N => if N.next.bad then none else if N.same N.next then some N else tightR k N.next

theorem Net.bad_iff (N : Net) : N.bad = true ↔ BadN N.n N.lo N.hi := by
  simp [Net.bad, BadN]
theorem Net.same_iff (N M : Net) : N.same M = true ↔ ∀ i, i < N.n → N.lo i = M.lo i ∧ N.hi i = M.hi i := by
  simp [Net.same]

/-- What Check asks, and a round keeps. -/
structure Net.Fine (N : Net) : Prop where
  lo : ∀ i, i < N.n → -100000000000000000 ≤ N.lo i
  hi : ∀ i, i < N.n → N.hi i ≤ 100000000000000000
  le : ∀ i, i < N.n → N.lo i ≤ N.hi i
  A : ∀ j, j < N.m → N.A j < N.n
  B : ∀ j, j < N.m → N.B j < N.n
  ne : ∀ j, j < N.m → N.A j ≠ N.B j
  dl : ∀ j, j < N.m → -100000000000000000 ≤ N.dl j
  dh : ∀ j, j < N.m → N.dh j ≤ 100000000000000000
  dle : ∀ j, j < N.m → N.dl j ≤ N.dh j
  n12 : N.n ≤ 12
  m40 : N.m ≤ 40
theorem Net.Fine.ok {N : Net} (h : N.Fine) : N.Ok :=
  ⟨fun i hi => by have := h.lo i hi; have := h.hi i hi; have := h.le i hi; omega, fun i hi => by have := h.lo i hi; have := h.hi i hi; have := h.le i hi; omega, h.A, h.B,
    fun i hi => by have := h.dl i hi; have := h.dh i hi; have := h.dle i hi; omega, fun i hi => by have := h.dl i hi; have := h.dh i hi; have := h.dle i hi; omega, by have := h.n12; have := h.m40; omega⟩

theorem meetN_in (N : Net) (i : Nat) : ∀ j, N.lo i ≤ (meetN N i j).1 ∧ (meetN N i j).2 ≤ N.hi i
  | 0 => ⟨Int.le_refl _, Int.le_refl _⟩
  | j + 1 => by
    obtain ⟨h1, h2⟩ := meetN_in N i j
    have hB : N.lo i ≤ (stepB N i j (meetN N i j)).1 ∧ (stepB N i j (meetN N i j)).2 ≤ N.hi i := by
      unfold stepB
      split
      · simp only; omega
      · exact ⟨h1, h2⟩
    simp only [meetN]
    unfold stepA
    split
    · simp only; omega
    · exact hB
theorem Net.Fine.next {N : Net} (h : N.Fine) (hb : ¬ BadN N.n (nlo N) (nhi N)) : N.next.Fine :=
  ⟨fun i hi => by have := h.lo i hi; have := (meetN_in N i N.m).1; show _ ≤ nlo N i; unfold nlo; omega, fun i hi => by have := h.hi i hi; have := (meetN_in N i N.m).2; show nhi N i ≤ _; unfold nhi; omega,
    fun i hi => by
      have : ¬ nhi N i < nlo N i := fun hl => hb ⟨i, hi, hl⟩
      show nlo N i ≤ nhi N i
      omega, h.A, h.B, h.ne, h.dl, h.dh, h.dle, h.n12, h.m40⟩

theorem timesE_zero {lo hi : Int} (h : timesE lo hi = 0) : -100000000000000000 ≤ lo ∧ hi ≤ 100000000000000000 ∧ lo ≤ hi := by
  unfold timesE chk at h
  split at h
  · omega
  · split at h
    · omega
    · split at h <;> omega
theorem timesE_of {lo hi : Int} (h1 : -100000000000000000 ≤ lo) (h2 : hi ≤ 100000000000000000) (h3 : lo ≤ hi) : timesE lo hi = 0 := by
  unfold timesE chk
  rw [if_neg (by omega), if_neg (by omega), if_neg (by omega)]
theorem linkE_zero {n : Nat} {ka kb dl dh : Int} (h : linkE n ka kb dl dh = 0) : 0 ≤ ka ∧ ka < n ∧ 0 ≤ kb ∧ kb < n ∧ ka ≠ kb ∧ timesE dl dh = 0 := by
  unfold linkE at h
  split at h
  · omega
  · split at h
    · omega
    · exact ⟨by omega, by omega, by omega, by omega, by assumption, h⟩
theorem linkE_of {n : Nat} {ka kb dl dh : Int} (h : 0 ≤ ka ∧ ka < n ∧ 0 ≤ kb ∧ kb < n ∧ ka ≠ kb) (ht : timesE dl dh = 0) : linkE n ka kb dl dh = 0 := by
  unfold linkE
  rw [if_neg (by omega), if_neg h.2.2.2.2]
  exact ht

theorem IsFirst.zero {f : Nat → Int} {n : Nat} (h : IsFirst f n 0) : ∀ i, i < n → f i = 0 := by
  rcases h with ⟨j, h1, h2, h3, h4⟩ | ⟨h1, _⟩
  · exact absurd h4.symm h3
  · exact h1
theorem ChkP.zero {n m : Nat} {lo hi ka kb dl dh : Nat → Int} {W : Int} (h : ChkP n m lo hi ka kb dl dh W 0) :
    (netOf n m lo hi ka kb dl dh).Fine ∧ (∀ j, j < m → ka j = ((ka j).toNat : Int) ∧ kb j = ((kb j).toNat : Int)) ∧ 1 ≤ W ∧ W ≤ 8 := by
  rcases h with ⟨_, h⟩ | ⟨⟨hn, hm⟩, e1, h1, h2⟩
  · omega
  rcases h2 with ⟨h2, h3⟩ | ⟨rfl, e2, h2, h3⟩
  · exact absurd h3.symm h2
  rcases h3 with ⟨h3, h4⟩ | ⟨rfl, h3⟩
  · exact absurd h4.symm h3
  have z1 := fun i hi => timesE_zero (h1.zero i hi)
  have z2 := fun j hj => linkE_zero (h2.zero j hj)
  have z3 := fun j hj => timesE_zero (z2 j hj).2.2.2.2.2
  refine ⟨⟨fun i hi => (z1 i hi).1, fun i hi => (z1 i hi).2.1, fun i hi => (z1 i hi).2.2, fun j hj => ?_, fun j hj => ?_, fun j hj => ?_, fun j hj => (z3 j hj).1, fun j hj => (z3 j hj).2.1, fun j hj => (z3 j hj).2.2, hn, hm⟩, fun j hj => ?_, ?_⟩
  · have := z2 j hj; show (ka j).toNat < n; omega
  · have := z2 j hj; show (kb j).toNat < n; omega
  · have := z2 j hj; show (ka j).toNat ≠ (kb j).toNat; omega
  · have := z2 j hj; omega
  · split at h3 <;> omega
theorem ChkP.of {n m : Nat} {lo hi ka kb dl dh : Nat → Int} {W e : Int} (h : ChkP n m lo hi ka kb dl dh W e) (hn : n ≤ 12) (hm : m ≤ 40) (h1 : ∀ i, i < n → timesE (lo i) (hi i) = 0) (h2 : ∀ j, j < m → linkE n (ka j) (kb j) (dl j) (dh j) = 0) (hW : 1 ≤ W ∧ W ≤ 8) : e = 0 := by
  rcases h with ⟨h, _⟩ | ⟨_, e1, g1, g2⟩
  · omega
  obtain rfl : e1 = 0 := g1.unique (.inr ⟨h1, rfl⟩)
  rcases g2 with ⟨g2, _⟩ | ⟨_, e2, g2, g3⟩
  · exact absurd rfl g2
  obtain rfl : e2 = 0 := g2.unique (.inr ⟨h2, rfl⟩)
  rcases g3 with ⟨g3, _⟩ | ⟨_, g3⟩
  · exact absurd rfl g3
  · rw [g3, if_neg (by omega)]
/-- The answer does not hang on the number of workers. -/
theorem ChkP.unique {n m : Nat} {lo hi ka kb dl dh : Nat → Int} {W W' e e' : Int} (h : ChkP n m lo hi ka kb dl dh W e) (h' : ChkP n m lo hi ka kb dl dh W' e') (hW : 1 ≤ W ∧ W ≤ 8) (hW' : 1 ≤ W' ∧ W' ≤ 8) : e = e' := by
  rcases h with ⟨h, rfl⟩ | ⟨h, e1, g1, g2⟩ <;> rcases h' with ⟨h', rfl⟩ | ⟨h', e1', g1', g2'⟩
  · rfl
  · clear g1' g2'; omega
  · clear g1 g2; omega
  obtain rfl := g1.unique g1'
  rcases g2 with ⟨g2, rfl⟩ | ⟨rfl, e2, g2, g3⟩ <;> rcases g2' with ⟨g2', rfl⟩ | ⟨z, e2', g2', g3'⟩
  · rfl
  · exact absurd z g2
  · exact absurd rfl g2'
  obtain rfl := g2.unique g2'
  rcases g3 with ⟨g3, rfl⟩ | ⟨rfl, rfl⟩ <;> rcases g3' with ⟨g3', rfl⟩ | ⟨z, rfl⟩
  · rfl
  · exact absurd z g3
  · exact absurd rfl g3'
  · rw [if_neg (by omega), if_neg (by omega)]

theorem netAt {N : Net} {x : Go.Beh.M} {A K : Option Addr} {ka kb : Nat → Int} (hA : SpanSl x A N.n N.lo N.hi) (hK : LinkSl x K N.m ka kb N.dl N.dh) (h : ∀ j, j < N.m → ka j = (N.A j : Int) ∧ kb j = (N.B j : Int)) : NetAt N x A K := by
  refine ⟨hA, fun hm => ?_⟩
  obtain ⟨b, o, cs, e, f, h1, h2, h3, h4, h5⟩ := hK hm
  exact ⟨b, o, cs, e, f, h1, h2, fun j hj => by rw [h3 j hj, (h j hj).1], fun j hj => by rw [h4 j hj, (h j hj).2], h5⟩

/-- What Round hands back. -/
def RoundQ (n m : Nat) (lo hi ka kb dl dh : Nat → Int) (W : Nat) (x : Go.Beh.M) (v : Value) (y : Go.Beh.M) : Prop :=
  ∃ e, ChkP n m lo hi ka kb dl dh W e ∧ ((e ≠ 0 ∧ v = .tuple #[.slice none 0 0, .int .i64 e] ∧ Ext x y) ∨ (e = 0 ∧ RoundP (netOf n m lo hi ka kb dl dh) x v y))

theorem RoundP.first {N : Net} {x y z : Go.Beh.M} {v : Value} (h : RoundP N y v z) (r : Ext x y) : RoundP N x v z := ⟨r.trans h.1, h.2⟩

set_option maxHeartbeats 4000000 in
theorem bRound_ok (B : Base) (hP : B.P = Try.prog) (A K : Option Addr) (n m capA capK : Nat) (lo hi ka kb dl dh : Nat → Int) (W : Nat) (x : Go.Beh.M) (hA : SpanSl x A n lo hi) (hK : LinkSl x K m ka kb dl dh) :
    CallB B 11 #[] #[.slice A n capA, .slice K m capK, .int .i64 W] x (RoundQ n m lo hi ka kb dl dh W x) := by
  refine ⟨_, _, by rw [hP]; exact Try.func11, by rfl, rfl, ?_⟩
  simp only [Try.ntmps11, List.size_toArray, List.length_cons, List.length_nil, Nat.reduceAdd, Nat.reduceSub, Array.replicate_succ, Array.replicate_zero, List.push_toArray, List.append_toArray, List.nil_append, List.cons_append, Array.append_empty]
  repeat (refine wpB_seq ?_)
  refine wpB_region ?_
  simp only [List.size_toArray, List.length_cons, List.length_nil, Nat.reduceAdd, Nat.zero_add, List.range, List.range.loop]
  repeat (
    co_applyP opsB_rd rfl (by rfl)
    · intro xv xr Kc hK
      rw [hP]
      go_simp
      first | exact hK | (rw [if_neg (by omega)]; exact hK) | (rw [if_pos (by omega)]; exact hK)
    · intro xv xr xe xhe
      rw [hP] at xhe
      simp [go_sem, *] at xhe
    try walk_nrm
  )
  refine opsB_nil ?_
  simp only [BThen, BBlock, if_true, if_false, reduceIte, Nat.reduceEqDiff]
  repeat (refine wpB_seq ?_)
  refine wpB_region ?_
  simp only [List.size_toArray, List.length_cons, List.length_nil, Nat.reduceAdd, Nat.zero_add, List.range, List.range.loop]
  repeat (
    co_applyP opsB_rd rfl (by rfl)
    · intro xv xr Kc hK
      rw [hP]
      go_simp
      first | exact hK | (rw [if_neg (by omega)]; exact hK) | (rw [if_pos (by omega)]; exact hK)
    · intro xv xr xe xhe
      rw [hP] at xhe
      simp [go_sem, *] at xhe
    try walk_nrm
  )
  co_applyP opsB_act rfl (by rfl) (actB_callV rfl (by first | (simp [Act.eval]; done) | (simp [Act.eval, spV]; done) | rfl) (bcheck_ok B hP A K n m capA capK lo hi ka kb dl dh W x hA hK) (fun _ _ h => h))
  rintro v x1 ⟨e, rfl, hc, e1⟩
  try walk_nrm
  have kc := Lib.hid hc
  clear hc
  repeat (
    co_applyP opsB_rd rfl (by rfl)
    · intro xv xr Kc hK
      rw [hP]
      go_simp
      first | exact hK | (rw [if_neg (by omega)]; exact hK) | (rw [if_pos (by omega)]; exact hK)
    · intro xv xr xe xhe
      rw [hP] at xhe
      simp [go_sem, *] at xhe
    try walk_nrm
  )
  refine opsB_nil ?_
  simp only [BThen, BBlock, if_true, if_false, reduceIte, Nat.reduceEqDiff]
  repeat (refine wpB_seq ?_)
  refine wpB_region ?_
  simp only [List.size_toArray, List.length_cons, List.length_nil, Nat.reduceAdd, Nat.zero_add, List.range, List.range.loop]
  repeat (
    co_applyP opsB_rd rfl (by rfl)
    · intro xv xr Kc hK
      rw [hP]
      go_simp
      first | exact hK | (rw [if_neg (by omega)]; exact hK) | (rw [if_pos (by omega)]; exact hK)
    · intro xv xr xe xhe
      rw [hP] at xhe
      simp [go_sem, *] at xhe
    try walk_nrm
  )
  refine opsB_nil ?_
  simp only [BThen, BBlock, if_true, if_false, reduceIte, Nat.reduceEqDiff]
  repeat (refine wpB_seq ?_)
  refine wpB_split (t := (e != 0)) (by first | rfl | simp [Act.eval]) (fun ht => ?_) (fun ht => ?_)
  · have he : e ≠ 0 := by simpa using ht
    clear ht
    repeat (refine wpB_seq ?_)
    refine wpB_region ?_
    simp only [List.size_toArray, List.length_cons, List.length_nil, Nat.reduceAdd, Nat.zero_add, List.range, List.range.loop]
    repeat (
      co_applyP opsB_rd rfl (by rfl)
      · intro xv xr Kc hK
        rw [hP]
        go_simp
        first | exact hK | (rw [if_neg (by omega)]; exact hK) | (rw [if_pos (by omega)]; exact hK)
      · intro xv xr xe xhe
        rw [hP] at xhe
        simp [go_sem, *] at xhe
      try walk_nrm
    )
    refine opsB_nil ?_
    simp only [BThen, BBlock, if_true, if_false, reduceIte, Nat.reduceEqDiff]
    refine wpB_ret ?_
    refine ⟨rfl, .tuple #[.slice none 0 0, .int .i64 e], fun xv xr => ⟨?_, fun xe xhe => ?_⟩, ?_⟩
    · rw [hP]
      simp [results, Try.results11, go_sem]
    · have xhm := mem_seen xhe
      rw [hP] at xhm
      simp [results, Try.results11, go_sem] at xhm
    exact ⟨e, kc.out, .inl ⟨he, rfl, e1⟩⟩
  · obtain rfl : e = 0 := by simpa using ht
    clear ht
    obtain ⟨hF, hk, w1, w8⟩ := kc.out.zero
    refine wpB_skip ?_
    simp only [BThen, BBlock, if_true, if_false, reduceIte, Nat.reduceEqDiff]
    have hbr : CallB B 14 #[] #[.slice A n capA, .slice K m capK, .int .i64 W] x1 (RoundP (netOf n m lo hi ka kb dl dh) x1) := bround_ok B hP (netOf n m lo hi ka kb dl dh) hF.ok W (by omega) x1 A K capA capK (netAt (hA.ext e1) (hK.ext e1) hk)
    repeat (refine wpB_seq ?_)
    refine wpB_region ?_
    simp only [List.size_toArray, List.length_cons, List.length_nil, Nat.reduceAdd, Nat.zero_add, List.range, List.range.loop]
    repeat (
      co_applyP opsB_rd rfl (by rfl)
      · intro xv xr Kc hK
        rw [hP]
        go_simp
        first | exact hK | (rw [if_neg (by omega)]; exact hK) | (rw [if_pos (by omega)]; exact hK)
      · intro xv xr xe xhe
        rw [hP] at xhe
        simp [go_sem, *] at xhe
      try walk_nrm
    )
    co_applyP opsB_act rfl (by rfl) (actB_callV rfl (by first | (simp [Act.eval]; done) | (simp [Act.eval, spV]; done) | rfl) (hbr) (fun _ _ h => h))
    rintro v x2 hR
    try walk_nrm
    have kR := Lib.hid (hR.first e1)
    rcases hR with ⟨e2, ⟨hb, b, hv, hs⟩ | ⟨hb, rfl⟩⟩
    · obtain rfl : v = .tuple #[.slice (some ⟨b, 0, none⟩) n n, .int .i64 0] := hv
      clear hb hs
      repeat (
        co_applyP opsB_rd rfl (by rfl)
        · intro xv xr Kc hK
          rw [hP]
          go_simp
          first | exact hK | (rw [if_neg (by omega)]; exact hK) | (rw [if_pos (by omega)]; exact hK)
        · intro xv xr xe xhe
          rw [hP] at xhe
          simp [go_sem, *] at xhe
        try walk_nrm
      )
      refine opsB_nil ?_
      simp only [BThen, BBlock, if_true, if_false, reduceIte, Nat.reduceEqDiff]
      refine wpB_ret ?_
      refine ⟨rfl, .tuple #[.slice (some ⟨b, 0, none⟩) n n, .int .i64 0], fun xv xr => ⟨?_, fun xe xhe => ?_⟩, ?_⟩
      · rw [hP]
        simp [results, Try.results11, go_sem]
      · have xhm := mem_seen xhe
        rw [hP] at xhm
        simp [results, Try.results11, go_sem] at xhm
      exact ⟨0, kc.out, .inr ⟨rfl, kR.out⟩⟩
    · clear hb
      repeat (
        co_applyP opsB_rd rfl (by rfl)
        · intro xv xr Kc hK
          rw [hP]
          go_simp
          first | exact hK | (rw [if_neg (by omega)]; exact hK) | (rw [if_pos (by omega)]; exact hK)
        · intro xv xr xe xhe
          rw [hP] at xhe
          simp [go_sem, *] at xhe
        try walk_nrm
      )
      refine opsB_nil ?_
      simp only [BThen, BBlock, if_true, if_false, reduceIte, Nat.reduceEqDiff]
      refine wpB_ret ?_
      refine ⟨rfl, .tuple #[.slice none 0 0, .int .i64 6], fun xv xr => ⟨?_, fun xe xhe => ?_⟩, ?_⟩
      · rw [hP]
        simp [results, Try.results11, go_sem]
      · have xhm := mem_seen xhe
        rw [hP] at xhm
        simp [results, Try.results11, go_sem] at xhm
      exact ⟨0, kc.out, .inr ⟨rfl, kR.out⟩⟩
end Go.Proofs.Ytplmgbffaeohpaa
