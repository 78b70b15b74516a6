/- Goroutine 0 beside goroutines that only leave: Tight. -/
import Derived.Test.YtplmgbffaeohpaaBhK
set_option linter.unusedSimpArgs false
set_option linter.unusedVariables false
namespace Go.Proofs.Ytplmgbffaeohpaa
open Go.Conc Go.Crew Go.Beh Go.RowKit

def TightP (N : Net) (v : Value) (y : Go.Beh.M) : Prop :=
  match tightR (N.n + 1) N with
  | none => v = .tuple #[.slice none 0 0, .int .i64 6]
  | some M => ∃ A cap, v = .tuple #[.slice A N.n cap, .int .i64 0] ∧ SpanSl y A N.n M.lo M.hi
/-- What Tight hands back. -/
def TightQ (n m : Nat) (lo hi ka kb dl dh : Nat → Int) (W : Nat) (x : Go.Beh.M) (v : Value) (y : Go.Beh.M) : Prop :=
  ∃ e, ChkP n m lo hi ka kb dl dh W e ∧ Ext x y ∧ ((e ≠ 0 ∧ v = .tuple #[.slice none 0 0, .int .i64 e]) ∨ (e = 0 ∧ TightP (netOf n m lo hi ka kb dl dh) v y))

set_option maxHeartbeats 4000000 in
theorem btight_ok (B : Base) (hP : B.P = Try.prog) (A K : Option Addr) (n m capA capK : Nat) (lo hi ka kb dl dh : Nat → Int) (W : Nat) (x : Go.Beh.M) (hA : SpanSl x A n lo hi) (hAn : A = none → n = 0) (hK : LinkSl x K m ka kb dl dh) :
    CallB B 8 #[] #[.slice A n capA, .slice K m capK, .int .i64 W] x (TightQ n m lo hi ka kb dl dh W x) := by
  refine ⟨_, _, by rw [hP]; exact Try.func8, by rfl, rfl, ?_⟩
  simp only [Try.ntmps8, List.size_toArray, List.length_cons, List.length_nil, Nat.reduceAdd, Nat.reduceSub, Array.replicate_succ, Array.replicate_zero, List.push_toArray, List.append_toArray, List.nil_append, List.cons_append, Array.append_empty]
  repeat (refine wpB_seq ?_)
  refine wpB_region ?_
  simp only [List.size_toArray, List.length_cons, List.length_nil, Nat.reduceAdd, Nat.zero_add, List.range, List.range.loop]
  repeat (
    co_applyP opsB_rd rfl (by rfl)
    · intro xv xr Kc hK
      rw [hP]
      go_simp
      first | exact hK | (rw [if_neg (by omega)]; exact hK) | (rw [if_pos (by omega)]; exact hK)
    · intro xv xr xe xhe
      rw [hP] at xhe
      simp [go_sem, *] at xhe
    try walk_nrm
  )
  refine opsB_nil ?_
  simp only [BThen, BBlock, if_true, if_false, reduceIte, Nat.reduceEqDiff]
  repeat (refine wpB_seq ?_)
  refine wpB_region ?_
  simp only [List.size_toArray, List.length_cons, List.length_nil, Nat.reduceAdd, Nat.zero_add, List.range, List.range.loop]
  repeat (
    co_applyP opsB_rd rfl (by rfl)
    · intro xv xr Kc hK
      rw [hP]
      go_simp
      first | exact hK | (rw [if_neg (by omega)]; exact hK) | (rw [if_pos (by omega)]; exact hK)
    · intro xv xr xe xhe
      rw [hP] at xhe
      simp [go_sem, *] at xhe
    try walk_nrm
  )
  co_applyP opsB_act rfl (by rfl) (actB_callV rfl (by first | (simp [Act.eval]; done) | (simp [Act.eval, spV]; done) | rfl) (bcheck_ok B hP A K n m capA capK lo hi ka kb dl dh W x hA hK) (fun _ _ h => h))
  rintro v x1 ⟨e, rfl, hc, e1⟩
  try walk_nrm
  have kc := Lib.hid hc
  clear hc
  repeat (
    co_applyP opsB_rd rfl (by rfl)
    · intro xv xr Kc hK
      rw [hP]
      go_simp
      first | exact hK | (rw [if_neg (by omega)]; exact hK) | (rw [if_pos (by omega)]; exact hK)
    · intro xv xr xe xhe
      rw [hP] at xhe
      simp [go_sem, *] at xhe
    try walk_nrm
  )
  refine opsB_nil ?_
  simp only [BThen, BBlock, if_true, if_false, reduceIte, Nat.reduceEqDiff]
  repeat (refine wpB_seq ?_)
  refine wpB_region ?_
  simp only [List.size_toArray, List.length_cons, List.length_nil, Nat.reduceAdd, Nat.zero_add, List.range, List.range.loop]
  repeat (
    co_applyP opsB_rd rfl (by rfl)
    · intro xv xr Kc hK
      rw [hP]
      go_simp
      first | exact hK | (rw [if_neg (by omega)]; exact hK) | (rw [if_pos (by omega)]; exact hK)
    · intro xv xr xe xhe
      rw [hP] at xhe
      simp [go_sem, *] at xhe
    try walk_nrm
  )
  refine opsB_nil ?_
  simp only [BThen, BBlock, if_true, if_false, reduceIte, Nat.reduceEqDiff]
  repeat (refine wpB_seq ?_)
  refine wpB_split (t := (e != 0)) (by first | rfl | simp [Act.eval]) (fun ht => ?_) (fun ht => ?_)
  · have he : e ≠ 0 := by simpa using ht
    clear ht
    repeat (refine wpB_seq ?_)
    refine wpB_region ?_
    simp only [List.size_toArray, List.length_cons, List.length_nil, Nat.reduceAdd, Nat.zero_add, List.range, List.range.loop]
    repeat (
      co_applyP opsB_rd rfl (by rfl)
      · intro xv xr Kc hK
        rw [hP]
        go_simp
        first | exact hK | (rw [if_neg (by omega)]; exact hK) | (rw [if_pos (by omega)]; exact hK)
      · intro xv xr xe xhe
        rw [hP] at xhe
        simp [go_sem, *] at xhe
      try walk_nrm
    )
    refine opsB_nil ?_
    simp only [BThen, BBlock, if_true, if_false, reduceIte, Nat.reduceEqDiff]
    refine wpB_ret ?_
    refine ⟨rfl, .tuple #[.slice none 0 0, .int .i64 e], fun xv xr => ⟨?_, fun xe xhe => ?_⟩, ?_⟩
    · rw [hP]
      simp [results, Try.results8, go_sem]
    · have xhm := mem_seen xhe
      rw [hP] at xhm
      simp [results, Try.results8, go_sem] at xhm
    exact ⟨e, kc.out, e1, .inl ⟨he, rfl⟩⟩
  obtain rfl : e = 0 := by simpa using ht
  clear ht
  obtain ⟨hF, hk, w1, w8⟩ := kc.out.zero
  have hn12 : n ≤ 12 := hF.n12
  have kk := Lib.hid hk
  clear hk
  refine wpB_skip ?_
  simp only [BThen, BBlock, if_true, if_false, reduceIte, Nat.reduceEqDiff]
  repeat (refine wpB_seq ?_)
  refine wpB_region ?_
  simp only [List.size_toArray, List.length_cons, List.length_nil, Nat.reduceAdd, Nat.zero_add, List.range, List.range.loop]
  repeat (
    co_applyP opsB_rd rfl (by rfl)
    · intro xv xr Kc hK
      rw [hP]
      go_simp
      first | exact hK | (rw [if_neg (by omega)]; exact hK) | (rw [if_pos (by omega)]; exact hK)
    · intro xv xr xe xhe
      rw [hP] at xhe
      simp [go_sem, *] at xhe
    try walk_nrm
  )
  co_applyP opsB_act rfl (by rfl) (actB_callV rfl (by first | (simp [Act.eval]; done) | (simp [Act.eval, spV]; done) | rfl) (bclone_ok B hP A n capA (by omega) lo hi x1 (hA.ext e1) hAn) (fun _ _ h => h))
  rintro v x2 ⟨A', cap', rfl, hs2, e2⟩
  try walk_nrm
  repeat (
    co_applyP opsB_rd rfl (by rfl)
    · intro xv xr Kc hK
      rw [hP]
      go_simp
      first | exact hK | (rw [if_neg (by omega)]; exact hK) | (rw [if_pos (by omega)]; exact hK)
    · intro xv xr xe xhe
      rw [hP] at xhe
      simp [go_sem, *] at xhe
    try walk_nrm
  )
  refine opsB_nil ?_
  simp only [BThen, BBlock, if_true, if_false, reduceIte, Nat.reduceEqDiff]
  have hw0 : IntKind.i64.wrap ((n : Int) + 1) = ((n + 1 : Nat) : Int) := by rw [wrap_in (by omega)]; simp
  repeat (refine wpB_seq ?_)
  refine wpB_region ?_
  simp only [List.size_toArray, List.length_cons, List.length_nil, Nat.reduceAdd, Nat.zero_add, List.range, List.range.loop]
  repeat (
    co_applyP opsB_rd rfl (by rfl)
    · intro xv xr Kc hK
      rw [hP]
      go_simp
      first | exact hK | (rw [if_neg (by omega)]; exact hK) | (rw [if_pos (by omega)]; exact hK)
    · intro xv xr xe xhe
      rw [hP] at xhe
      simp [go_sem, *] at xhe
    try walk_nrm
  )
  refine opsB_nil ?_
  simp only [BThen, BBlock, if_true, if_false, reduceIte, Nat.reduceEqDiff]
  clear hw0
  refine wpB_block ?_
  refine wpB_loop (fun a y => ∃ (j : Nat) (lo' hi' : Nat → Int) (A' : Option Addr) (cap' : Nat), j ≤ n + 1 ∧ Fr 42 [(0, .slice A n capA), (1, .slice K m capK), (2, .int .i64 W), (9, .slice A' n cap'), (23, .int .i64 ((n + 1 : Nat) : Int)), (24, .int .i64 j)] a ∧ Ext x y ∧ SpanSl y A' n lo' hi' ∧
      (netOf n m lo' hi' ka kb dl dh).Fine ∧ tightR (n + 1 - j) (netOf n m lo' hi' ka kb dl dh) = tightR (n + 1) (netOf n m lo hi ka kb dl dh))
    (fun a _ => (n + 1 - slotI a 24).toNat) ⟨0, lo, hi, A', cap', by omega, ⟨rfl, rfl, rfl, rfl, rfl, rfl, by first | rfl | simp [FrAt], by first | rfl | simp [FrAt], trivial⟩, e1.trans e2, hs2, hF, rfl⟩ ?_
  clear hs2 hF e1 e2
  rintro a y ⟨j, lo', hi', A', cap', hj, hs, r0, hsp, hF, hT⟩
  obtain ⟨u, hu, hv⟩ := hs.lit
  simp only [List.range, List.range.loop, List.map_cons, List.map_nil] at hu
  obtain ⟨z0, z1, z2, z9, z23, z24, -⟩ := hs.at_
  have y0 := (hv 0).trans z0
  have y1 := (hv 1).trans z1
  have y2 := (hv 2).trans z2
  have y9 := (hv 9).trans z9
  have y23 := (hv 23).trans z23
  have y24 := (hv 24).trans z24
  rw [y0, y1, y2, y9, y23, y24] at hu
  clear hv hs z0 z1 z2 z9 z23 z24 y0 y1 y2 y9 y23 y24
  subst hu
  have kT := Lib.hid hT
  clear hT
  repeat (refine wpB_seq ?_)
  refine wpB_region ?_
  simp only [List.size_toArray, List.length_cons, List.length_nil, Nat.reduceAdd, Nat.zero_add, List.range, List.range.loop]
  repeat (
    co_applyP opsB_rd rfl (by rfl)
    · intro xv xr Kc hK
      rw [hP]
      go_simp
      first | exact hK | (rw [if_neg (by omega)]; exact hK) | (rw [if_pos (by omega)]; exact hK)
    · intro xv xr xe xhe
      rw [hP] at xhe
      simp [go_sem, *] at xhe
    try walk_nrm
  )
  refine opsB_nil ?_
  simp only [BThen, BBlock, if_true, if_false, reduceIte, Nat.reduceEqDiff]
  repeat (refine wpB_seq ?_)
  refine wpB_split (t := decide ((j : Int) < (n : Int) + 1)) (by first | rfl | simp [Act.eval]) (fun ht => ?_) (fun ht => ?_)
  · have hjn : j < n + 1 := by have := of_decide_eq_true ht; omega
    clear ht
    refine wpB_skip ?_
    simp only [BThen, BBlock, if_true, if_false, reduceIte, Nat.reduceEqDiff]
    repeat (refine wpB_seq ?_)
    refine wpB_block ?_
    have hbr : CallB B 14 #[] #[.slice A' n cap', .slice K m capK, .int .i64 W] y (RoundP (netOf n m lo' hi' ka kb dl dh) y) := bround_ok B hP (netOf n m lo' hi' ka kb dl dh) hF.ok W (by omega) y A' K cap' capK (netAt hsp (hK.ext r0) kk.out)
    have hstep : tightR (n + 1 - j) (netOf n m lo' hi' ka kb dl dh) = if (netOf n m lo' hi' ka kb dl dh).next.bad then none else if (netOf n m lo' hi' ka kb dl dh).same (netOf n m lo' hi' ka kb dl dh).next then some (netOf n m lo' hi' ka kb dl dh) else tightR (n + 1 - (j + 1)) (netOf n m lo' hi' ka kb dl dh).next := by
      rw [show n + 1 - j = (n + 1 - (j + 1)) + 1 by omega]
      rfl
    have kS := Lib.hid (kT.out.symm.trans hstep)
    clear hstep kT
    repeat (refine wpB_seq ?_)
    refine wpB_region ?_
    simp only [List.size_toArray, List.length_cons, List.length_nil, Nat.reduceAdd, Nat.zero_add, List.range, List.range.loop]
    repeat (
      co_applyP opsB_rd rfl (by rfl)
      · intro xv xr Kc hK
        rw [hP]
        go_simp
        first | exact hK | (rw [if_neg (by omega)]; exact hK) | (rw [if_pos (by omega)]; exact hK)
      · intro xv xr xe xhe
        rw [hP] at xhe
        simp [go_sem, *] at xhe
      try walk_nrm
    )
    co_applyP opsB_act rfl (by rfl) (actB_callV rfl (by first | (simp [Act.eval]; done) | (simp [Act.eval, spV]; done) | rfl) (hbr) (fun _ _ h => h))
    rintro v z ⟨e2, ⟨hb, b, hv, hs⟩ | ⟨hb, rfl⟩⟩
    try walk_nrm
    · obtain rfl : v = .tuple #[.slice (some ⟨b, 0, none⟩) n n, .int .i64 0] := hv
      have hbad : (netOf n m lo' hi' ka kb dl dh).next.bad = false := by
        cases h : (netOf n m lo' hi' ka kb dl dh).next.bad with
        | false => rfl
        | true => exact absurd ((Net.bad_iff _).1 h) hb
      have hF2 := hF.next hb
      have kb2 := Lib.hid hbad
      have hs3 : SpanSl z (some ⟨b, 0, none⟩) n (nlo (netOf n m lo' hi' ka kb dl dh)) (nhi (netOf n m lo' hi' ka kb dl dh)) := hs
      clear hbad hb hs
      have r1 := r0.trans e2
      have hsp2 := hsp.ext e2
      clear hsp e2
      repeat (
        co_applyP opsB_rd rfl (by rfl)
        · intro xv xr Kc hK
          rw [hP]
          go_simp
          first | exact hK | (rw [if_neg (by omega)]; exact hK) | (rw [if_pos (by omega)]; exact hK)
        · intro xv xr xe xhe
          rw [hP] at xhe
          simp [go_sem, *] at xhe
        try walk_nrm
      )
      refine opsB_nil ?_
      simp only [BThen, BBlock, if_true, if_false, reduceIte, Nat.reduceEqDiff]
      repeat (refine wpB_seq ?_)
      refine wpB_region ?_
      simp only [List.size_toArray, List.length_cons, List.length_nil, Nat.reduceAdd, Nat.zero_add, List.range, List.range.loop]
      repeat (
        co_applyP opsB_rd rfl (by rfl)
        · intro xv xr Kc hK
          rw [hP]
          go_simp
          first | exact hK | (rw [if_neg (by omega)]; exact hK) | (rw [if_pos (by omega)]; exact hK)
        · intro xv xr xe xhe
          rw [hP] at xhe
          simp [go_sem, *] at xhe
        try walk_nrm
      )
      refine opsB_nil ?_
      simp only [BThen, BBlock, if_true, if_false, reduceIte, Nat.reduceEqDiff]
      repeat (refine wpB_seq ?_)
      refine wpB_split (t := false) (by first | rfl | simp [Act.eval]) (fun ht => ?_) (fun ht => ?_)
      · cases ht
      clear ht
      refine wpB_skip ?_
      simp only [BThen, BBlock, if_true, if_false, reduceIte, Nat.reduceEqDiff]
      repeat (refine wpB_seq ?_)
      refine wpB_region ?_
      simp only [List.size_toArray, List.length_cons, List.length_nil, Nat.reduceAdd, Nat.zero_add, List.range, List.range.loop]
      repeat (
        co_applyP opsB_rd rfl (by rfl)
        · intro xv xr Kc hK
          rw [hP]
          go_simp
          first | exact hK | (rw [if_neg (by omega)]; exact hK) | (rw [if_pos (by omega)]; exact hK)
        · intro xv xr xe xhe
          rw [hP] at xhe
          simp [go_sem, *] at xhe
        try walk_nrm
      )
      co_applyP opsB_act rfl (by rfl) (actB_callV rfl (by first | (simp [Act.eval]; done) | (simp [Act.eval, spV]; done) | rfl) (equal_ok B hP A' (some ⟨b, 0, none⟩) n cap' n (by omega) lo' hi' _ _ z hsp2 hs3) (fun _ _ h => h))
      rintro v z2 ⟨t, rfl, ht, rfl⟩
      try walk_nrm
      have kt := Lib.hid ht
      clear ht
      have hsame : (netOf n m lo' hi' ka kb dl dh).same (netOf n m lo' hi' ka kb dl dh).next = t := by
        cases t with
        | true => exact (Net.same_iff _ _).2 (kt.out.1 rfl)
        | false =>
          cases h : (netOf n m lo' hi' ka kb dl dh).same (netOf n m lo' hi' ka kb dl dh).next with
          | false => rfl
          | true => have := kt.out.2 ((Net.same_iff _ _).1 h); cases this
      have ks := Lib.hid hsame
      clear hsame
      refine opsB_nil ?_
      simp only [BThen, BBlock, if_true, if_false, reduceIte, Nat.reduceEqDiff]
      repeat (refine wpB_seq ?_)
      refine wpB_split (t := t) (by first | rfl | simp [Act.eval]) (fun ht => ?_) (fun ht => ?_)
      · subst ht
        repeat (refine wpB_seq ?_)
        refine wpB_region ?_
        simp only [List.size_toArray, List.length_cons, List.length_nil, Nat.reduceAdd, Nat.zero_add, List.range, List.range.loop]
        repeat (
          co_applyP opsB_rd rfl (by rfl)
          · intro xv xr Kc hK
            rw [hP]
            go_simp
            first | exact hK | (rw [if_neg (by omega)]; exact hK) | (rw [if_pos (by omega)]; exact hK)
          · intro xv xr xe xhe
            rw [hP] at xhe
            simp [go_sem, *] at xhe
          try walk_nrm
        )
        refine opsB_nil ?_
        simp only [BThen, BBlock, if_true, if_false, reduceIte, Nat.reduceEqDiff]
        refine wpB_ret ?_
        refine ⟨rfl, .tuple #[.slice A' n cap', .int .i64 0], fun xv xr => ⟨?_, fun xe xhe => ?_⟩, ?_⟩
        · rw [hP]
          simp [results, Try.results8, go_sem]
        · have xhm := mem_seen xhe
          rw [hP] at xhm
          simp [results, Try.results8, go_sem] at xhm
        refine ⟨0, kc.out, r1, .inr ⟨rfl, ?_⟩⟩
        unfold TightP
        rw [show tightR ((netOf n m lo hi ka kb dl dh).n + 1) (netOf n m lo hi ka kb dl dh) = some (netOf n m lo' hi' ka kb dl dh) from by rw [show (netOf n m lo hi ka kb dl dh).n = n from rfl, kS.out, kb2.out, ks.out]; rfl]
        exact ⟨A', cap', rfl, hsp2⟩
      · subst ht
        refine wpB_skip ?_
        simp only [BThen, BBlock, if_true, if_false, reduceIte, Nat.reduceEqDiff]
        have hw : IntKind.i64.wrap ((j : Int) + 1) = ((j + 1 : Nat) : Int) := by rw [wrap_in (by omega)]; simp
        repeat (refine wpB_seq ?_)
        refine wpB_region ?_
        simp only [List.size_toArray, List.length_cons, List.length_nil, Nat.reduceAdd, Nat.zero_add, List.range, List.range.loop]
        repeat (
          co_applyP opsB_rd rfl (by rfl)
          · intro xv xr Kc hK
            rw [hP]
            go_simp
            first | exact hK | (rw [if_neg (by omega)]; exact hK) | (rw [if_pos (by omega)]; exact hK)
          · intro xv xr xe xhe
            rw [hP] at xhe
            simp [go_sem, *] at xhe
          try walk_nrm
        )
        refine opsB_nil ?_
        simp only [BThen, BBlock, if_true, if_false, reduceIte, Nat.reduceEqDiff]
        repeat (refine wpB_seq ?_)
        refine wpB_region ?_
        simp only [List.size_toArray, List.length_cons, List.length_nil, Nat.reduceAdd, Nat.zero_add, List.range, List.range.loop]
        repeat (
          co_applyP opsB_rd rfl (by rfl)
          · intro xv xr Kc hK
            rw [hP]
            go_simp
            first | exact hK | (rw [if_neg (by omega)]; exact hK) | (rw [if_pos (by omega)]; exact hK)
          · intro xv xr xe xhe
            rw [hP] at xhe
            simp [go_sem, *] at xhe
          try walk_nrm
        )
        refine opsB_nil ?_
        simp only [BThen, BBlock, if_true, if_false, reduceIte, Nat.reduceEqDiff]
        clear hw
        refine ⟨⟨j + 1, _, _, _, _, by omega, ⟨rfl, rfl, rfl, rfl, rfl, rfl, by first | rfl | simp [FrAt], by first | rfl | simp [FrAt], trivial⟩, r1, hs3, hF2, ?_⟩, ?_⟩
        · rw [kS.out, kb2.out, ks.out]
          rfl
        · simp [slotI]
          omega
    · have hbad : (netOf n m lo' hi' ka kb dl dh).next.bad = true := (Net.bad_iff _).2 hb
      have kb2 := Lib.hid hbad
      clear hbad hb
      repeat (
        co_applyP opsB_rd rfl (by rfl)
        · intro xv xr Kc hK
          rw [hP]
          go_simp
          first | exact hK | (rw [if_neg (by omega)]; exact hK) | (rw [if_pos (by omega)]; exact hK)
        · intro xv xr xe xhe
          rw [hP] at xhe
          simp [go_sem, *] at xhe
        try walk_nrm
      )
      refine opsB_nil ?_
      simp only [BThen, BBlock, if_true, if_false, reduceIte, Nat.reduceEqDiff]
      repeat (refine wpB_seq ?_)
      refine wpB_region ?_
      simp only [List.size_toArray, List.length_cons, List.length_nil, Nat.reduceAdd, Nat.zero_add, List.range, List.range.loop]
      repeat (
        co_applyP opsB_rd rfl (by rfl)
        · intro xv xr Kc hK
          rw [hP]
          go_simp
          first | exact hK | (rw [if_neg (by omega)]; exact hK) | (rw [if_pos (by omega)]; exact hK)
        · intro xv xr xe xhe
          rw [hP] at xhe
          simp [go_sem, *] at xhe
        try walk_nrm
      )
      refine opsB_nil ?_
      simp only [BThen, BBlock, if_true, if_false, reduceIte, Nat.reduceEqDiff]
      repeat (refine wpB_seq ?_)
      refine wpB_split (t := true) (by first | rfl | simp [Act.eval]) (fun ht => ?_) (fun ht => ?_)
      · repeat (refine wpB_seq ?_)
        refine wpB_region ?_
        simp only [List.size_toArray, List.length_cons, List.length_nil, Nat.reduceAdd, Nat.zero_add, List.range, List.range.loop]
        repeat (
          co_applyP opsB_rd rfl (by rfl)
          · intro xv xr Kc hK
            rw [hP]
            go_simp
            first | exact hK | (rw [if_neg (by omega)]; exact hK) | (rw [if_pos (by omega)]; exact hK)
          · intro xv xr xe xhe
            rw [hP] at xhe
            simp [go_sem, *] at xhe
          try walk_nrm
        )
        refine opsB_nil ?_
        simp only [BThen, BBlock, if_true, if_false, reduceIte, Nat.reduceEqDiff]
        refine wpB_ret ?_
        refine ⟨rfl, .tuple #[.slice none 0 0, .int .i64 6], fun xv xr => ⟨?_, fun xe xhe => ?_⟩, ?_⟩
        · rw [hP]
          simp [results, Try.results8, go_sem]
        · have xhm := mem_seen xhe
          rw [hP] at xhm
          simp [results, Try.results8, go_sem] at xhm
        refine ⟨0, kc.out, r0.trans e2, .inr ⟨rfl, ?_⟩⟩
        unfold TightP
        rw [show tightR ((netOf n m lo hi ka kb dl dh).n + 1) (netOf n m lo hi ka kb dl dh) = none from by rw [show (netOf n m lo hi ka kb dl dh).n = n from rfl, kS.out, kb2.out]; rfl]
      · cases ht
  · obtain rfl : j = n + 1 := by have := of_decide_eq_false ht; omega
    clear ht
    refine wpB_exit ?_
    simp only [BThen, BBlock, if_true, if_false, reduceIte, Nat.reduceEqDiff]
    repeat (refine wpB_seq ?_)
    refine wpB_region ?_
    simp only [List.size_toArray, List.length_cons, List.length_nil, Nat.reduceAdd, Nat.zero_add, List.range, List.range.loop]
    repeat (
      co_applyP opsB_rd rfl (by rfl)
      · intro xv xr Kc hK
        rw [hP]
        go_simp
        first | exact hK | (rw [if_neg (by omega)]; exact hK) | (rw [if_pos (by omega)]; exact hK)
      · intro xv xr xe xhe
        rw [hP] at xhe
        simp [go_sem, *] at xhe
      try walk_nrm
    )
    refine opsB_nil ?_
    simp only [BThen, BBlock, if_true, if_false, reduceIte, Nat.reduceEqDiff]
    refine wpB_ret ?_
    refine ⟨rfl, .tuple #[.slice none 0 0, .int .i64 6], fun xv xr => ⟨?_, fun xe xhe => ?_⟩, ?_⟩
    · rw [hP]
      simp [results, Try.results8, go_sem]
    · have xhm := mem_seen xhe
      rw [hP] at xhm
      simp [results, Try.results8, go_sem] at xhm
    refine ⟨0, kc.out, r0, .inr ⟨rfl, ?_⟩⟩
    unfold TightP
    rw [show tightR ((netOf n m lo hi ka kb dl dh).n + 1) (netOf n m lo hi ka kb dl dh) = none from by rw [show (netOf n m lo hi ka kb dl dh).n = n from rfl, ← kT.out, Nat.sub_self]; rfl]
end Go.Proofs.Ytplmgbffaeohpaa
