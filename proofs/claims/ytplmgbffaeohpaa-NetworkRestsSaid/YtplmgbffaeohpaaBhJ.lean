/- Goroutine 0 beside goroutines that only leave: round, Round. -/
import Derived.Test.YtplmgbffaeohpaaBhG
import Derived.Test.YtplmgbffaeohpaaBhH
import Derived.Test.YtplmgbffaeohpaaBhI
set_option linter.unusedSimpArgs false
set_option linter.unusedVariables false
namespace Go.Proofs.Ytplmgbffaeohpaa
open Go.Conc Go.Crew Go.Beh Go.RowKit

/-- The intervals behind a round. -/
def nlo (N : Net) (i : Nat) : Int := (meetN N i N.m).1
def nhi (N : Net) (i : Nat) : Int := (meetN N i N.m).2
def BadN (n : Nat) (lo hi : Nat → Int) : Prop := ∃ i, i < n ∧ hi i < lo i

theorem RowAt.span {N : Net} {x : Go.Beh.M} {b : Nat} (h : RowAt N x b) : SpanSl x (some ⟨b, 0, none⟩) N.n (nlo N) (nhi N) := fun hn => by
  obtain ⟨cs, h1, h2, h3⟩ := h
  refine ⟨b, 0, cs, _, _, rfl, h1, fun i hi => ?_, fun i hi => ?_⟩
  · rw [Nat.zero_add, h3 _ (by omega)]
    unfold valN nlo
    rw [if_pos (by omega), Nat.mul_div_cancel _ (by omega)]
  · rw [Nat.zero_add, h3 _ (by omega)]
    unfold valN nhi
    rw [if_neg (by omega), show (i * 2 + 1) / 2 = i by omega]

def RoundP (N : Net) (x : Go.Beh.M) (v : Value) (y : Go.Beh.M) : Prop :=
  Ext x y ∧ ((¬ BadN N.n (nlo N) (nhi N) ∧ ∃ b, v = .tuple #[.slice (some ⟨b, 0, none⟩) N.n N.n, .int .i64 0] ∧ SpanSl y (some ⟨b, 0, none⟩) N.n (nlo N) (nhi N)) ∨ (BadN N.n (nlo N) (nhi N) ∧ v = .tuple #[.slice none 0 0, .int .i64 6]))

set_option maxRecDepth 100000 in
set_option maxHeartbeats 4000000 in
theorem bround_ok (B : Base) (hP : B.P = Try.prog) (N : Net) (hN : N.Ok) (W : Nat) (hW : 1 ≤ W ∧ W ≤ 8) (x : Go.Beh.M) (lb kb : Option Addr) (capl capk : Nat) (hx : NetAt N x lb kb) :
    CallB B 14 #[] #[.slice lb N.n capl, .slice kb N.m capk, .int .i64 W] x (RoundP N x) := by
  refine ⟨_, body14, by rw [hP]; exact Try.func14, by rfl, rfl, ?_⟩
  intro b k cs hb hk hc
  refine round_join B hP N hN W hW x lb kb capl capk hx b hb hk k cs fun u y hu e1 h4 hrow => ?_
  refine Beh.ctl rfl (fun w => stepG_region_end) ?_
  have hsp := hrow.span
  simp only [List.range, List.range.loop, List.map_cons, List.map_nil, hu]
  refine (?_ : WpB B 14 rest14 _ _ y) b k cs hb hk hc
  clear hc hu
  simp only [rest14, tail14, body14, Try.f14, Option.getD_some]
  obtain ⟨bo, hbo⟩ : ∃ bo, x.h.size + 3 = bo := ⟨_, rfl⟩
  obtain ⟨b4, hb4⟩ : ∃ b4, x.h.size + 4 = b4 := ⟨_, rfl⟩
  rw [hbo, hb4] at h4
  rw [hbo] at hsp
  rw [hb4]
  clear hbo hb4 hrow
  repeat (refine wpB_seq ?_)
  refine wpB_region ?_
  simp only [List.size_toArray, List.length_cons, List.length_nil, Nat.reduceAdd, Nat.zero_add, List.range, List.range.loop]
  co_applyP opsB_rd rfl (by rfl)
  · intro xv xr Kc hK
    rw [hP]
    have xc0 := HasB.cell h4 xr (o := 0) (show _ = some _ from rfl)
    go_simp
    first | exact hK | (rw [if_neg (by omega)]; exact hK) | (rw [if_pos (by omega)]; exact hK)
  · intro xv xr xe xhe
    rw [hP] at xhe
    have xc0 := HasB.cell h4 xr (o := 0) (show _ = some _ from rfl)
    simp [go_sem, *] at xhe
    all_goals (first | subst xhe | (rcases xhe with rfl | rfl) | (rcases xhe with rfl | rfl | rfl | rfl))
    all_goals (exact EvB.cell h4 rfl _)
  try walk_nrm
  co_applyP opsB_act rfl (by rfl) (actB_callV rfl (by first | (simp [Act.eval]; done) | (simp [Act.eval, spV]; done) | rfl) (contains_ok B hP (some ⟨bo, 0, none⟩) N.n N.n hN.small.1 (nlo N) (nhi N) y hsp) (fun _ _ h => h))
  rintro v z ⟨t, rfl, ht, e2⟩
  try walk_nrm
  have kt := Lib.hid ht
  clear ht
  refine opsB_nil ?_
  simp only [BThen, BBlock, if_true, if_false, reduceIte, Nat.reduceEqDiff]
  have h4z := h4.ext e2
  repeat (refine wpB_seq ?_)
  refine wpB_split (t := t) (by first | rfl | simp [Act.eval]) (fun ht => ?_) (fun ht => ?_)
  · subst ht
    repeat (refine wpB_seq ?_)
    refine wpB_region ?_
    simp only [List.size_toArray, List.length_cons, List.length_nil, Nat.reduceAdd, Nat.zero_add, List.range, List.range.loop]
    repeat (
      co_applyP opsB_rd rfl (by rfl)
      · intro xv xr Kc hK
        rw [hP]
        go_simp
        first | exact hK | (rw [if_neg (by omega)]; exact hK) | (rw [if_pos (by omega)]; exact hK)
      · intro xv xr xe xhe
        rw [hP] at xhe
        simp [go_sem, *] at xhe
      try walk_nrm
    )
    refine opsB_nil ?_
    simp only [BThen, BBlock, if_true, if_false, reduceIte, Nat.reduceEqDiff]
    refine wpB_ret ?_
    refine ⟨rfl, .tuple #[.slice none 0 0, .int .i64 6], fun xv xr => ⟨?_, fun xe xhe => ?_⟩, ?_⟩
    · rw [hP]
      simp [results, Try.results14, go_sem]
    · have xhm := mem_seen xhe
      rw [hP] at xhm
      simp [results, Try.results14, go_sem] at xhm
    exact ⟨e1.trans e2, .inr ⟨kt.out.1 rfl, rfl⟩⟩
  · subst ht
    refine wpB_skip ?_
    simp only [BThen, BBlock, if_true, if_false, reduceIte, Nat.reduceEqDiff]
    repeat (refine wpB_seq ?_)
    refine wpB_region ?_
    simp only [List.size_toArray, List.length_cons, List.length_nil, Nat.reduceAdd, Nat.zero_add, List.range, List.range.loop]
    co_applyP opsB_rd rfl (by rfl)
    · intro xv xr Kc hK
      rw [hP]
      have xc0 := HasB.cell h4z xr (o := 0) (show _ = some _ from rfl)
      go_simp
      first | exact hK | (rw [if_neg (by omega)]; exact hK) | (rw [if_pos (by omega)]; exact hK)
    · intro xv xr xe xhe
      rw [hP] at xhe
      have xc0 := HasB.cell h4z xr (o := 0) (show _ = some _ from rfl)
      simp [go_sem, *] at xhe
      all_goals (first | subst xhe | (rcases xhe with rfl | rfl) | (rcases xhe with rfl | rfl | rfl | rfl))
      all_goals (exact EvB.cell h4z rfl _)
    try walk_nrm
    repeat (
      co_applyP opsB_rd rfl (by rfl)
      · intro xv xr Kc hK
        rw [hP]
        go_simp
        first | exact hK | (rw [if_neg (by omega)]; exact hK) | (rw [if_pos (by omega)]; exact hK)
      · intro xv xr xe xhe
        rw [hP] at xhe
        simp [go_sem, *] at xhe
      try walk_nrm
    )
    refine opsB_nil ?_
    simp only [BThen, BBlock, if_true, if_false, reduceIte, Nat.reduceEqDiff]
    refine wpB_ret ?_
    refine ⟨rfl, .tuple #[.slice (some ⟨bo, 0, none⟩) N.n N.n, .int .i64 0], fun xv xr => ⟨?_, fun xe xhe => ?_⟩, ?_⟩
    · rw [hP]
      simp [results, Try.results14, go_sem]
    · have xhm := mem_seen xhe
      rw [hP] at xhm
      simp [results, Try.results14, go_sem] at xhm
    exact ⟨e1.trans e2, .inl ⟨fun h => (by have := kt.out.2 h; cases this), bo, rfl, hsp.ext e2⟩⟩
end Go.Proofs.Ytplmgbffaeohpaa
