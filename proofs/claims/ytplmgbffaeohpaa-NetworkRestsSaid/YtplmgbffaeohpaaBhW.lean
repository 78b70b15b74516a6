/- Goroutine 0 beside goroutines that only leave: networkWorks. -/
import Derived.Test.YtplmgbffaeohpaaBhL
set_option linter.unusedSimpArgs false
set_option linter.unusedVariables false
namespace Go.Proofs.Ytplmgbffaeohpaa
open Go.Conc Go.Crew Go.Beh Go.RowKit

def wLo (i : Nat) : Int := 0
def wHi (i : Nat) : Int := if i = 0 then 10 else 100
def wA (_ : Nat) : Int := 0
def wB (_ : Nat) : Int := 1
def wDl (_ : Nat) : Int := 5
def wDh (_ : Nat) : Int := 6
theorem works_tight : tightR 3 (netOf 2 1 wLo wHi wA wB wDl wDh) = some (netOf 2 1 wLo wHi wA wB wDl wDh).next ∧ (netOf 2 1 wLo wHi wA wB wDl wDh).next.lo 1 = 5 ∧ (netOf 2 1 wLo wHi wA wB wDl wDh).next.hi 1 = 16 := by
  refine ⟨?_, by decide +kernel, by decide +kernel⟩
  have h1 : (netOf 2 1 wLo wHi wA wB wDl wDh).next.bad = false := by decide +kernel
  have h2 : (netOf 2 1 wLo wHi wA wB wDl wDh).same (netOf 2 1 wLo wHi wA wB wDl wDh).next = false := by decide +kernel
  have h3 : (netOf 2 1 wLo wHi wA wB wDl wDh).next.next.bad = false := by decide +kernel
  have h4 : (netOf 2 1 wLo wHi wA wB wDl wDh).next.same (netOf 2 1 wLo wHi wA wB wDl wDh).next.next = true := by decide +kernel
  simp only [tightR, h1, h2, h3, h4, Bool.false_eq_true, if_false, if_true]

set_option maxHeartbeats 4000000 in
theorem works_ok (B : Base) (hP : B.P = Try.prog) (x : Go.Beh.M) :
    CallB B 6 #[] #[] x (fun v y => v = .bool true ∧ Ext x y) := by
  refine ⟨_, _, by rw [hP]; exact Try.func6, by rfl, rfl, ?_⟩
  simp only [Try.ntmps6, List.size_toArray, List.length_cons, List.length_nil, Nat.reduceAdd, Nat.reduceSub, Array.replicate_succ, Array.replicate_zero, List.push_toArray, List.append_toArray, List.nil_append, List.cons_append, Array.append_empty]
  repeat (refine wpB_seq ?_)
  refine wpB_region ?_
  simp only [List.size_toArray, List.length_cons, List.length_nil, Nat.reduceAdd, Nat.zero_add, List.range, List.range.loop]
  repeat (
    co_applyP opsB_rd rfl (by rfl)
    · intro xv xr Kc hK
      rw [hP]
      go_simp
      first | exact hK | (rw [if_neg (by omega)]; exact hK) | (rw [if_pos (by omega)]; exact hK)
    · intro xv xr xe xhe
      rw [hP] at xhe
      simp [go_sem, *] at xhe
    try walk_nrm
  )
  refine opsB_nil ?_
  simp only [BThen, BBlock, if_true, if_false, reduceIte, Nat.reduceEqDiff]
  repeat (refine wpB_seq ?_)
  refine wpB_region ?_
  simp only [List.size_toArray, List.length_cons, List.length_nil, Nat.reduceAdd, Nat.zero_add, List.range, List.range.loop]
  repeat (
    co_applyP opsB_rd rfl (by rfl)
    · intro xv xr Kc hK
      rw [hP]
      go_simp
      first | exact hK | (rw [if_neg (by omega)]; exact hK) | (rw [if_pos (by omega)]; exact hK)
    · intro xv xr xe xhe
      rw [hP] at xhe
      simp [go_sem, *] at xhe
    try walk_nrm
  )
  co_applyP opsB_nw (fun b => .slice (some ⟨b, 0, none⟩) 2 2) rfl (by rfl)
  · intro xv xr Kc hK
    rw [hP]
    go_simp
    exact hK
  · intro xv xr xe xhe
    rw [hP] at xhe
    simp [go_sem, *] at xhe
  intro x1 b1 m1 r1 h1 s1 q1
  try walk_nrm
  repeat (
    co_applyP opsB_rd rfl (by rfl)
    · intro xv xr Kc hK
      rw [hP]
      go_simp
      first | exact hK | (rw [if_neg (by omega)]; exact hK) | (rw [if_pos (by omega)]; exact hK)
    · intro xv xr xe xhe
      rw [hP] at xhe
      simp [go_sem, *] at xhe
    try walk_nrm
  )
  co_applyP opsB_nw (fun b => .slice (some ⟨b, 0, none⟩) 1 1) rfl (by rfl)
  · intro xv xr Kc hK
    rw [hP]
    go_simp
    exact hK
  · intro xv xr xe xhe
    rw [hP] at xhe
    simp [go_sem, *] at xhe
  intro x2 b2 m2 r2 h2 s2 q2
  try walk_nrm
  have hs : SpanSl x2 (some ⟨b1, 0, none⟩) 2 wLo wHi := fun _ => ⟨b1, 0, _, _, _, rfl, h1.ext r2, fun i hi => by
    have : i = 0 ∨ i = 1 := by omega
    rcases this with rfl | rfl <;> rfl, fun i hi => by
    have : i = 0 ∨ i = 1 := by omega
    rcases this with rfl | rfl <;> rfl⟩
  have hl : LinkSl x2 (some ⟨b2, 0, none⟩) 1 wA wB wDl wDh := fun _ => ⟨b2, 0, _, _, _, rfl, h2, fun j hj => by
    obtain rfl : j = 0 := by omega
    rfl, fun j hj => by
    obtain rfl : j = 0 := by omega
    rfl, fun j hj => by
    obtain rfl : j = 0 := by omega
    rfl, fun j hj => by
    obtain rfl : j = 0 := by omega
    rfl⟩
  have r3 := r1.trans r2
  clear r1 r2 h1 h2 s1 s2 q1 q2 m1 m2
  have ht : CallB B 8 #[] #[.slice (some ⟨b1, 0, none⟩) 2 2, .slice (some ⟨b2, 0, none⟩) 1 1, .int .i64 2] x2 (TightQ 2 1 wLo wHi wA wB wDl wDh 2 x2) := btight_ok B hP _ _ 2 1 2 1 wLo wHi wA wB wDl wDh 2 x2 hs (fun h => by cases h) hl
  clear hs hl
  co_applyP opsB_act rfl (by rfl) (actB_callV rfl (by first | (simp [Act.eval]; done) | (simp [Act.eval, spV]; done) | rfl) (ht) (fun _ _ h => h))
  rintro v y ⟨e, hc, e1, h⟩
  try walk_nrm
  have he : e = 0 := hc.of (by omega) (by omega) (fun i hi => by
    have : i = 0 ∨ i = 1 := by omega
    rcases this with rfl | rfl <;> decide) (fun j hj => by decide +revert) (by omega)
  subst he
  rcases h with ⟨h, _⟩ | ⟨_, h⟩
  · exact absurd rfl h
  unfold TightP at h
  rw [show tightR ((netOf 2 1 wLo wHi wA wB wDl wDh).n + 1) (netOf 2 1 wLo wHi wA wB wDl wDh) = _ from works_tight.1] at h
  obtain ⟨A, cap, hv, hsp⟩ := h
  obtain rfl : v = .tuple #[.slice A 2 cap, .int .i64 0] := hv
  obtain ⟨b, o, cs, el, f, rfl, hH, c1, c2⟩ := hsp (by decide)
  have d1 := (c1 1 (by decide)).trans (congrArg (fun z => some (Value.int .i64 z)) works_tight.2.1)
  have d2 := (c2 1 (by decide)).trans (congrArg (fun z => some (Value.int .i64 z)) works_tight.2.2)
  have k1 := Lib.hid d1
  have k2 := Lib.hid d2
  have r4 := r3.trans e1
  clear c1 c2 d1 d2 hc e1 r3
  repeat (
    co_applyP opsB_rd rfl (by rfl)
    · intro xv xr Kc hK
      rw [hP]
      go_simp
      first | exact hK | (rw [if_neg (by omega)]; exact hK) | (rw [if_pos (by omega)]; exact hK)
    · intro xv xr xe xhe
      rw [hP] at xhe
      simp [go_sem, *] at xhe
    try walk_nrm
  )
  refine opsB_nil ?_
  simp only [BThen, BBlock, if_true, if_false, reduceIte, Nat.reduceEqDiff]
  repeat (refine wpB_seq ?_)
  refine wpB_region ?_
  simp only [List.size_toArray, List.length_cons, List.length_nil, Nat.reduceAdd, Nat.zero_add, List.range, List.range.loop]
  repeat (
    co_applyP opsB_rd rfl (by rfl)
    · intro xv xr Kc hK
      rw [hP]
      go_simp
      first | exact hK | (rw [if_neg (by omega)]; exact hK) | (rw [if_pos (by omega)]; exact hK)
    · intro xv xr xe xhe
      rw [hP] at xhe
      simp [go_sem, *] at xhe
    try walk_nrm
  )
  co_applyP opsB_rd rfl (by rfl)
  · intro xv xr Kc hK
    rw [hP]
    have xc0 := HasB.cell hH xr (o := o + 2) (v := .int .i64 5) (k1.out)
    have xc1 := HasB.cell hH xr (o := o + 2 + 1) (v := .int .i64 16) (k2.out)
    go_simp
    first | exact hK | (rw [if_neg (by omega)]; exact hK) | (rw [if_pos (by omega)]; exact hK)
  · intro xv xr xe xhe
    rw [hP] at xhe
    have xc0 := HasB.cell hH xr (o := o + 2) (v := .int .i64 5) (k1.out)
    have xc1 := HasB.cell hH xr (o := o + 2 + 1) (v := .int .i64 16) (k2.out)
    simp [go_sem, *] at xhe
    all_goals (first | subst xhe | (rcases xhe with rfl | rfl) | (rcases xhe with rfl | rfl | rfl | rfl))
    all_goals (exact EvB.cell hH rfl _)
  try walk_nrm
  repeat (
    co_applyP opsB_rd rfl (by rfl)
    · intro xv xr Kc hK
      rw [hP]
      go_simp
      first | exact hK | (rw [if_neg (by omega)]; exact hK) | (rw [if_pos (by omega)]; exact hK)
    · intro xv xr xe xhe
      rw [hP] at xhe
      simp [go_sem, *] at xhe
    try walk_nrm
  )
  co_applyP opsB_rd (v := .bool true) rfl (by rfl)
  · intro xv xr Kc hK
    rw [hP]
    go_simp
    simpa using hK
  · intro xv xr xe xhe
    rw [hP] at xhe
    simp [go_sem, mute_guardSpan _ _ _ _ _ xv, mute_eqlSpan _ _ _ _ xv] at xhe
  try walk_nrm
  repeat (
    co_applyP opsB_rd rfl (by rfl)
    · intro xv xr Kc hK
      rw [hP]
      go_simp
      first | exact hK | (rw [if_neg (by omega)]; exact hK) | (rw [if_pos (by omega)]; exact hK)
    · intro xv xr xe xhe
      rw [hP] at xhe
      simp [go_sem, *] at xhe
    try walk_nrm
  )
  refine opsB_nil ?_
  simp only [BThen, BBlock, if_true, if_false, reduceIte, Nat.reduceEqDiff]
  refine wpB_ret ?_
  refine ⟨rfl, .bool true, fun xv xr => ⟨?_, fun xe xhe => ?_⟩, ?_⟩
  · rw [hP]
    simp [results, Try.results6, go_sem]
  · have xhm := mem_seen xhe
    rw [hP] at xhm
    simp [results, Try.results6, go_sem] at xhm
  exact ⟨rfl, r4⟩
end Go.Proofs.Ytplmgbffaeohpaa
