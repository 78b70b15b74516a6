/- NetworkRests: its walk. -/
import Derived.Test.YtplmgbffaeohpaaBhS
import Derived.Test.YtplmgbffaeohpaaBhW
import Derived.Test.YtplmgbffaeohpaaBhM
set_option linter.unusedSimpArgs false
set_option linter.unusedVariables false
namespace Go.Proofs.Ytplmgbffaeohpaa
open Go.Conc Go.Crew Go.Beh Go.RowKit

set_option maxHeartbeats 4000000 in
theorem rests_ok (B : Base) (hP : B.P = Try.prog) (A0 A1 A2 : Option Addr) (n0 n1 n2 c0 c1 c2 : Nat) (ti elo ehi p q : Nat → Int) (x : Go.Beh.M) (h0 : IntSl x A0 n0 ti) (h1 : SpanSl x A1 n1 elo ehi) (h2 : SpanSl x A2 n2 p q) :
    CallB B 5 #[] #[.slice A0 n0 c0, .slice A1 n1 c1, .slice A2 n2 c2] x (fun v y => v = .bool true ∧ Ext x y) := by
  refine ⟨_, _, by rw [hP]; exact Try.func5, by rfl, rfl, ?_⟩
  simp only [Try.ntmps5, List.size_toArray, List.length_cons, List.length_nil, Nat.reduceAdd, Nat.reduceSub, Array.replicate_succ, Array.replicate_zero, List.push_toArray, List.append_toArray, List.nil_append, List.cons_append, Array.append_empty]
  repeat (refine wpB_seq ?_)
  refine wpB_region ?_
  simp only [List.size_toArray, List.length_cons, List.length_nil, Nat.reduceAdd, Nat.zero_add, List.range, List.range.loop]
  repeat (
    co_applyP opsB_rd rfl (by rfl)
    · intro xv xr Kc hK
      rw [hP]
      go_simp
      first | exact hK | (rw [if_neg (by omega)]; exact hK) | (rw [if_pos (by omega)]; exact hK)
    · intro xv xr xe xhe
      rw [hP] at xhe
      simp [go_sem, *] at xhe
    try walk_nrm
  )
  refine opsB_nil ?_
  simp only [BThen, BBlock, if_true, if_false, reduceIte, Nat.reduceEqDiff]
  repeat (refine wpB_seq ?_)
  refine wpB_region ?_
  simp only [List.size_toArray, List.length_cons, List.length_nil, Nat.reduceAdd, Nat.zero_add, List.range, List.range.loop]
  co_applyP opsB_act rfl (by rfl) (actB_callV rfl (by first | (simp [Act.eval]; done) | (simp [Act.eval, spV]; done) | rfl) (works_ok B hP x) (fun _ _ h => h))
  rintro v x1 ⟨rfl, r1⟩
  try walk_nrm
  repeat (
    co_applyP opsB_rd rfl (by rfl)
    · intro xv xr Kc hK
      rw [hP]
      go_simp
      first | exact hK | (rw [if_neg (by omega)]; exact hK) | (rw [if_pos (by omega)]; exact hK)
    · intro xv xr xe xhe
      rw [hP] at xhe
      simp [go_sem, *] at xhe
    try walk_nrm
  )
  refine opsB_nil ?_
  simp only [BThen, BBlock, if_true, if_false, reduceIte, Nat.reduceEqDiff]
  repeat (refine wpB_seq ?_)
  refine wpB_split (t := false) (by first | rfl | simp [Act.eval]) (fun ht => ?_) (fun ht => ?_)
  · cases ht
  clear ht
  refine wpB_skip ?_
  simp only [BThen, BBlock, if_true, if_false, reduceIte, Nat.reduceEqDiff]
  repeat (refine wpB_seq ?_)
  refine wpB_region ?_
  simp only [List.size_toArray, List.length_cons, List.length_nil, Nat.reduceAdd, Nat.zero_add, List.range, List.range.loop]
  repeat (
    co_applyP opsB_rd rfl (by rfl)
    · intro xv xr Kc hK
      rw [hP]
      go_simp
      first | exact hK | (rw [if_neg (by omega)]; exact hK) | (rw [if_pos (by omega)]; exact hK)
    · intro xv xr xe xhe
      rw [hP] at xhe
      simp [go_sem, *] at xhe
    try walk_nrm
  )
  co_applyP opsB_act rfl (by rfl) (actB_callV rfl (by first | (simp [Act.eval]; done) | (simp [Act.eval, spV]; done) | rfl) (known_ok B hP A0 A1 A2 n0 n1 n2 c0 c1 c2 ti elo ehi p q x1 (h0.ext r1) (h1.ext r1) (h2.ext r1)) (fun _ _ h => h))
  rintro v x2 ⟨n, m, A, K, cA, cK, rfl, hn8, hnn0, hm20, hm2, hAn, hA, hK, e2⟩
  try walk_nrm
  have r2 := r1.trans e2
  clear r1 e2
  repeat (
    co_applyP opsB_rd rfl (by rfl)
    · intro xv xr Kc hK
      rw [hP]
      go_simp
      first | exact hK | (rw [if_neg (by omega)]; exact hK) | (rw [if_pos (by omega)]; exact hK)
    · intro xv xr xe xhe
      rw [hP] at xhe
      simp [go_sem, *] at xhe
    try walk_nrm
  )
  refine opsB_nil ?_
  simp only [BThen, BBlock, if_true, if_false, reduceIte, Nat.reduceEqDiff]
  repeat (refine wpB_seq ?_)
  refine wpB_region ?_
  simp only [List.size_toArray, List.length_cons, List.length_nil, Nat.reduceAdd, Nat.zero_add, List.range, List.range.loop]
  repeat (
    co_applyP opsB_rd rfl (by rfl)
    · intro xv xr Kc hK
      rw [hP]
      go_simp
      first | exact hK | (rw [if_neg (by omega)]; exact hK) | (rw [if_pos (by omega)]; exact hK)
    · intro xv xr xe xhe
      rw [hP] at xhe
      simp [go_sem, *] at xhe
    try walk_nrm
  )
  co_applyP opsB_act rfl (by rfl) (actB_callV rfl (by first | (simp [Act.eval]; done) | (simp [Act.eval, spV]; done) | rfl) (btight_ok B hP A K n m cA cK _ _ _ _ _ _ 2 x2 hA hAn hK) (fun _ _ h => h))
  rintro v x3 hT
  try walk_nrm
  obtain ⟨A', cap, lo', hi', rfl, hs, e3, hg, hF, hR⟩ := kn_tight hn8 hm20 hm2 (by omega) hT
  have r3 := r2.trans e3
  replace hK := hK.ext e3
  have hc0 : ∀ e, ChkP n m lo' hi' (kA p n) (kB p q n) (kDl ti p q n) (kDh ti p q n) 4 e → e = 0 := fun e hc =>
    hc.of (by omega) (by omega) (fun i hi => timesE_of (hF.lo i hi) (hF.hi i hi) (hF.le i hi)) (fun j hj => kn_link j (hm2 (by omega))) (by omega)
  have hnb : ¬ BadN n (nlo (netOf n m lo' hi' (kA p n) (kB p q n) (kDl ti p q n) (kDh ti p q n))) (nhi (netOf n m lo' hi' (kA p n) (kB p q n) (kDl ti p q n) (kDh ti p q n))) := fun ⟨i, hi, hl⟩ => by
    have := hR i hi
    rw [this.1, this.2] at hl
    have := hg i hi
    omega
  have kc0 := Lib.hid hc0
  have knb := Lib.hid hnb
  have kR := Lib.hid hR
  clear hg hT e3 r2 hF hc0 hnb hR
  repeat (
    co_applyP opsB_rd rfl (by rfl)
    · intro xv xr Kc hK
      rw [hP]
      go_simp
      first | exact hK | (rw [if_neg (by omega)]; exact hK) | (rw [if_pos (by omega)]; exact hK)
    · intro xv xr xe xhe
      rw [hP] at xhe
      simp [go_sem, *] at xhe
    try walk_nrm
  )
  refine opsB_nil ?_
  simp only [BThen, BBlock, if_true, if_false, reduceIte, Nat.reduceEqDiff]
  repeat (refine wpB_seq ?_)
  refine wpB_region ?_
  simp only [List.size_toArray, List.length_cons, List.length_nil, Nat.reduceAdd, Nat.zero_add, List.range, List.range.loop]
  repeat (
    co_applyP opsB_rd rfl (by rfl)
    · intro xv xr Kc hK
      rw [hP]
      go_simp
      first | exact hK | (rw [if_neg (by omega)]; exact hK) | (rw [if_pos (by omega)]; exact hK)
    · intro xv xr xe xhe
      rw [hP] at xhe
      simp [go_sem, *] at xhe
    try walk_nrm
  )
  co_applyP opsB_act rfl (by rfl) (actB_callV rfl (by first | (simp [Act.eval]; done) | (simp [Act.eval, spV]; done) | rfl) (bRound_ok B hP A' K n m cap cK lo' hi' (kA p n) (kB p q n) (kDl ti p q n) (kDh ti p q n) 4 x3 hs hK) (fun _ _ h => h))
  rintro v x4 ⟨e, hc, hv⟩
  try walk_nrm
  obtain rfl : e = 0 := kc0.out e hc
  obtain ⟨bn, hv1, hs2, e4⟩ : ∃ bn, v = .tuple #[.slice (some ⟨bn, 0, none⟩) n n, .int .i64 0] ∧ SpanSl x4 (some ⟨bn, 0, none⟩) n (nlo (netOf n m lo' hi' (kA p n) (kB p q n) (kDl ti p q n) (kDh ti p q n))) (nhi (netOf n m lo' hi' (kA p n) (kB p q n) (kDl ti p q n) (kDh ti p q n))) ∧ Ext x3 x4 := by
    rcases hv with ⟨h, _⟩ | ⟨_, e4, ⟨_, b, h, h'⟩ | ⟨h, _⟩⟩
    · exact absurd rfl h
    · exact ⟨b, h, h', e4⟩
    · exact absurd h knb.out
  subst hv1
  have r4 := r3.trans e4
  replace hs := hs.ext e4
  clear hc hv e4 r3 hK
  repeat (
    co_applyP opsB_rd rfl (by rfl)
    · intro xv xr Kc hK
      rw [hP]
      go_simp
      first | exact hK | (rw [if_neg (by omega)]; exact hK) | (rw [if_pos (by omega)]; exact hK)
    · intro xv xr xe xhe
      rw [hP] at xhe
      simp [go_sem, *] at xhe
    try walk_nrm
  )
  refine opsB_nil ?_
  simp only [BThen, BBlock, if_true, if_false, reduceIte, Nat.reduceEqDiff]
  repeat (refine wpB_seq ?_)
  refine wpB_region ?_
  simp only [List.size_toArray, List.length_cons, List.length_nil, Nat.reduceAdd, Nat.zero_add, List.range, List.range.loop]
  repeat (
    co_applyP opsB_rd rfl (by rfl)
    · intro xv xr Kc hK
      rw [hP]
      go_simp
      first | exact hK | (rw [if_neg (by omega)]; exact hK) | (rw [if_pos (by omega)]; exact hK)
    · intro xv xr xe xhe
      rw [hP] at xhe
      simp [go_sem, *] at xhe
    try walk_nrm
  )
  refine opsB_nil ?_
  simp only [BThen, BBlock, if_true, if_false, reduceIte, Nat.reduceEqDiff]
  repeat (refine wpB_seq ?_)
  refine wpB_split (t := false) (by first | rfl | simp [Act.eval]) (fun ht => ?_) (fun ht => ?_)
  · cases ht
  clear ht
  refine wpB_skip ?_
  simp only [BThen, BBlock, if_true, if_false, reduceIte, Nat.reduceEqDiff]
  repeat (refine wpB_seq ?_)
  refine wpB_region ?_
  simp only [List.size_toArray, List.length_cons, List.length_nil, Nat.reduceAdd, Nat.zero_add, List.range, List.range.loop]
  repeat (
    co_applyP opsB_rd rfl (by rfl)
    · intro xv xr Kc hK
      rw [hP]
      go_simp
      first | exact hK | (rw [if_neg (by omega)]; exact hK) | (rw [if_pos (by omega)]; exact hK)
    · intro xv xr xe xhe
      rw [hP] at xhe
      simp [go_sem, *] at xhe
    try walk_nrm
  )
  refine opsB_nil ?_
  simp only [BThen, BBlock, if_true, if_false, reduceIte, Nat.reduceEqDiff]
  repeat (refine wpB_seq ?_)
  refine wpB_block ?_
  refine wpB_loop (fun a y => ∃ j : Nat, j ≤ n ∧ Fr 63 [(9, .slice A' n cap), (11, .slice (some ⟨bn, 0, none⟩) n n), (49, .int .i64 n), (50, .int .i64 j)] a ∧ y = x4)
    (fun a _ => (n - slotI a 50).toNat) ⟨0, by omega, ⟨rfl, rfl, rfl, rfl, rfl, rfl, trivial⟩, rfl⟩ ?_
  rintro a y ⟨j, hj, hs0, rfl⟩
  obtain ⟨u, hu, hv⟩ := hs0.lit
  simp only [List.range, List.range.loop, List.map_cons, List.map_nil] at hu
  obtain ⟨z9, z11, z49, z50, -⟩ := hs0.at_
  have y9 := (hv 9).trans z9
  have y11 := (hv 11).trans z11
  have y49 := (hv 49).trans z49
  have y50 := (hv 50).trans z50
  rw [y9, y11, y49, y50] at hu
  clear hv hs0 z9 z11 z49 z50 y9 y11 y49 y50
  subst hu
  repeat (refine wpB_seq ?_)
  refine wpB_region ?_
  simp only [List.size_toArray, List.length_cons, List.length_nil, Nat.reduceAdd, Nat.zero_add, List.range, List.range.loop]
  repeat (
    co_applyP opsB_rd rfl (by rfl)
    · intro xv xr Kc hK
      rw [hP]
      go_simp
      first | exact hK | (rw [if_neg (by omega)]; exact hK) | (rw [if_pos (by omega)]; exact hK)
    · intro xv xr xe xhe
      rw [hP] at xhe
      simp [go_sem, *] at xhe
    try walk_nrm
  )
  refine opsB_nil ?_
  simp only [BThen, BBlock, if_true, if_false, reduceIte, Nat.reduceEqDiff]
  repeat (refine wpB_seq ?_)
  refine wpB_split (t := decide ((j : Int) < n)) (by first | rfl | simp [Act.eval]) (fun ht => ?_) (fun ht => ?_)
  · have hjn : j < n := by have := of_decide_eq_true ht; omega
    clear ht
    refine wpB_skip ?_
    simp only [BThen, BBlock, if_true, if_false, reduceIte, Nat.reduceEqDiff]
    repeat (refine wpB_seq ?_)
    refine wpB_block ?_
    obtain ⟨b, o, cs, el, f, rfl, hH, p1, p2⟩ := hs (by omega)
    obtain ⟨b', o', cs', el', f', hE, hH', p1', p2'⟩ := hs2 (by omega)
    obtain rfl : bn = b' := by have := congrArg Addr.block (Option.some.inj hE); simpa using this
    obtain rfl : 0 = o' := by have := congrArg Addr.off (Option.some.inj hE); simpa using this
    clear hE
    have q1 := (p1' j hjn).trans (congrArg (fun z => some (Value.int .i64 z)) (kR.out j hjn).1)
    have q2 := (p2' j hjn).trans (congrArg (fun z => some (Value.int .i64 z)) (kR.out j hjn).2)
    rw [Nat.zero_add] at q1 q2
    have kq1 := Lib.hid q1
    have kq2 := Lib.hid q2
    clear q1 q2 p1' p2'
    have hj' : (j : Int) < (n : Int) := by omega
    repeat (refine wpB_seq ?_)
    refine wpB_region ?_
    simp only [List.size_toArray, List.length_cons, List.length_nil, Nat.reduceAdd, Nat.zero_add, List.range, List.range.loop]
    repeat (
      co_applyP opsB_rd rfl (by rfl)
      · intro xv xr Kc hK
        rw [hP]
        go_simp
        first | exact hK | (rw [if_neg (by omega)]; exact hK) | (rw [if_pos (by omega)]; exact hK)
      · intro xv xr xe xhe
        rw [hP] at xhe
        simp [go_sem, *] at xhe
      try walk_nrm
    )
    refine opsB_nil ?_
    simp only [BThen, BBlock, if_true, if_false, reduceIte, Nat.reduceEqDiff]
    repeat (refine wpB_seq ?_)
    refine wpB_region_held (S := (fun y' => y' = y)) 99 (by rw [hP]; first | kernel_rfl | rfl) ?_
    have hS : ((fun y' => y' = y)) y := rfl
    simp only [List.size_toArray, List.length_cons, List.length_nil, Nat.reduceAdd, Nat.zero_add]
    co_applyP anyB_rd 0 rfl (by first | kernel_rfl | decide +kernel) (by first | kernel_rfl | decide +kernel) (by first | kernel_rfl | decide +kernel) (by first | kernel_rfl | decide +kernel) (by rfl)
    · intro y hy xv xr Kc hK
      rw [hP]
      go_simp
      first | exact hK | (rw [if_neg (by omega)]; exact hK) | (rw [if_pos (by omega)]; exact hK)
    · intro y hy xv xr xe xhe
      rw [hP] at xhe
      simp [go_sem, *] at xhe
    · exact hS
    try walk_nrm
    co_applyP anyB_rd 1 rfl (by first | kernel_rfl | decide +kernel) (by first | kernel_rfl | decide +kernel) (by first | kernel_rfl | decide +kernel) (by first | kernel_rfl | decide +kernel) (by rfl)
    · intro y hy xv xr Kc hK
      rw [hP]
      go_simp
      first | exact hK | (rw [if_neg (by omega)]; exact hK) | (rw [if_pos (by omega)]; exact hK)
    · intro y hy xv xr xe xhe
      rw [hP] at xhe
      simp [go_sem, *] at xhe
    · exact hS
    try walk_nrm
    co_applyP anyB_rd 2 rfl (by first | kernel_rfl | decide +kernel) (by first | kernel_rfl | decide +kernel) (by first | kernel_rfl | decide +kernel) (by first | kernel_rfl | decide +kernel) (by rfl)
    · intro y hy xv xr Kc hK
      rw [hP]
      go_simp
      first | exact hK | (rw [if_neg (by omega)]; exact hK) | (rw [if_pos (by omega)]; exact hK)
    · intro y hy xv xr xe xhe
      rw [hP] at xhe
      simp [go_sem, *] at xhe
    · exact hS
    try walk_nrm
    co_applyP anyB_rd 3 rfl (by first | kernel_rfl | decide +kernel) (by first | kernel_rfl | decide +kernel) (by first | kernel_rfl | decide +kernel) (by first | kernel_rfl | decide +kernel) (by rfl)
    · intro y hy xv xr Kc hK
      rw [hP]
      have xc0 := HasB.cell (hy ▸ hH) xr (o := o + j * 2) (v := _) (p1 j hjn)
      have xc1 := HasB.cell (hy ▸ hH) xr (o := o + j * 2 + 1) (v := _) (p2 j hjn)
      go_simp
      first | exact hK | (rw [if_neg (by omega)]; exact hK) | (rw [if_pos (by omega)]; exact hK)
    · intro y hy xv xr xe xhe
      rw [hP] at xhe
      have xc0 := HasB.cell (hy ▸ hH) xr (o := o + j * 2) (v := _) (p1 j hjn)
      have xc1 := HasB.cell (hy ▸ hH) xr (o := o + j * 2 + 1) (v := _) (p2 j hjn)
      simp [go_sem, *] at xhe
      all_goals (first | subst xhe | (rcases xhe with rfl | rfl) | (rcases xhe with rfl | rfl | rfl | rfl))
      all_goals (exact EvB.cell (hy ▸ hH) rfl _)
    · exact hS
    try walk_nrm
    co_applyP anyB_rd 4 rfl (by first | kernel_rfl | decide +kernel) (by first | kernel_rfl | decide +kernel) (by first | kernel_rfl | decide +kernel) (by first | kernel_rfl | decide +kernel) (by rfl)
    · intro y hy xv xr Kc hK
      rw [hP]
      go_simp
      first | exact hK | (rw [if_neg (by omega)]; exact hK) | (rw [if_pos (by omega)]; exact hK)
    · intro y hy xv xr xe xhe
      rw [hP] at xhe
      simp [go_sem, *] at xhe
    · exact hS
    try walk_nrm
    co_applyP anyB_rd 5 rfl (by first | kernel_rfl | decide +kernel) (by first | kernel_rfl | decide +kernel) (by first | kernel_rfl | decide +kernel) (by first | kernel_rfl | decide +kernel) (by rfl)
    · intro y hy xv xr Kc hK
      rw [hP]
      go_simp
      first | exact hK | (rw [if_neg (by omega)]; exact hK) | (rw [if_pos (by omega)]; exact hK)
    · intro y hy xv xr xe xhe
      rw [hP] at xhe
      simp [go_sem, *] at xhe
    · exact hS
    try walk_nrm
    co_applyP anyB_rd 6 rfl (by first | kernel_rfl | decide +kernel) (by first | kernel_rfl | decide +kernel) (by first | kernel_rfl | decide +kernel) (by first | kernel_rfl | decide +kernel) (by rfl)
    · intro y hy xv xr Kc hK
      rw [hP]
      go_simp
      first | exact hK | (rw [if_neg (by omega)]; exact hK) | (rw [if_pos (by omega)]; exact hK)
    · intro y hy xv xr xe xhe
      rw [hP] at xhe
      simp [go_sem, *] at xhe
    · exact hS
    try walk_nrm
    co_applyP anyB_rd 7 rfl (by first | kernel_rfl | decide +kernel) (by first | kernel_rfl | decide +kernel) (by first | kernel_rfl | decide +kernel) (by first | kernel_rfl | decide +kernel) (by rfl)
    · intro y hy xv xr Kc hK
      rw [hP]
      have xc0 := HasB.cell (hy ▸ hH') xr (o := j * 2) (v := .int .i64 (lo' j)) (kq1.out)
      have xc1 := HasB.cell (hy ▸ hH') xr (o := j * 2 + 1) (v := .int .i64 (hi' j)) (kq2.out)
      go_simp
      first | exact hK | (rw [if_neg (by omega)]; exact hK) | (rw [if_pos (by omega)]; exact hK)
    · intro y hy xv xr xe xhe
      rw [hP] at xhe
      have xc0 := HasB.cell (hy ▸ hH') xr (o := j * 2) (v := .int .i64 (lo' j)) (kq1.out)
      have xc1 := HasB.cell (hy ▸ hH') xr (o := j * 2 + 1) (v := .int .i64 (hi' j)) (kq2.out)
      simp [go_sem, *] at xhe
      all_goals (first | subst xhe | (rcases xhe with rfl | rfl) | (rcases xhe with rfl | rfl | rfl | rfl))
      all_goals (exact EvB.cell (hy ▸ hH') rfl _)
    · exact hS
    try walk_nrm
    co_applyP anyB_rd (v := .bool false) 8 rfl (by first | kernel_rfl | decide +kernel) (by first | kernel_rfl | decide +kernel) (by first | kernel_rfl | decide +kernel) (by first | kernel_rfl | decide +kernel) (by rfl)
    · intro y hy xv xr Kc hK
      rw [hP]
      go_simp
      simpa using hK
    · intro y hy xv xr xe xhe
      rw [hP] at xhe
      simp [go_sem, mute_guardSpan _ _ _ _ _ xv, mute_neqSpan _ _ _ _ xv] at xhe
    · exact hS
    refine anyB_done (by first | kernel_rfl | decide +kernel) ?_ _
    simp only [BThen, BBlock, if_true, if_false, reduceIte, Nat.reduceEqDiff]
    try walk_nrm
    repeat (refine wpB_seq ?_)
    refine wpB_split (t := false) (by first | rfl | simp [Act.eval]) (fun ht => ?_) (fun ht => ?_)
    · cases ht
    refine wpB_skip ?_
    simp only [BThen, BBlock, if_true, if_false, reduceIte, Nat.reduceEqDiff]
    have hw : IntKind.i64.wrap ((j : Int) + 1) = ((j + 1 : Nat) : Int) := by rw [wrap_in (by omega)]; simp
    repeat (refine wpB_seq ?_)
    refine wpB_region ?_
    simp only [List.size_toArray, List.length_cons, List.length_nil, Nat.reduceAdd, Nat.zero_add, List.range, List.range.loop]
    repeat (
      co_applyP opsB_rd rfl (by rfl)
      · intro xv xr Kc hK
        rw [hP]
        go_simp
        first | exact hK | (rw [if_neg (by omega)]; exact hK) | (rw [if_pos (by omega)]; exact hK)
      · intro xv xr xe xhe
        rw [hP] at xhe
        simp [go_sem, *] at xhe
      try walk_nrm
    )
    refine opsB_nil ?_
    simp only [BThen, BBlock, if_true, if_false, reduceIte, Nat.reduceEqDiff]
    refine ⟨⟨j + 1, by omega, ⟨rfl, rfl, rfl, rfl, rfl, rfl, trivial⟩, (by first | rfl | trivial)⟩, ?_⟩
    simp [slotI]
    omega
  · clear ht
    refine wpB_exit ?_
    simp only [BThen, BBlock, if_true, if_false, reduceIte, Nat.reduceEqDiff]
    repeat (refine wpB_seq ?_)
    refine wpB_region ?_
    simp only [List.size_toArray, List.length_cons, List.length_nil, Nat.reduceAdd, Nat.zero_add, List.range, List.range.loop]
    repeat (
      co_applyP opsB_rd rfl (by rfl)
      · intro xv xr Kc hK
        rw [hP]
        go_simp
        first | exact hK | (rw [if_neg (by omega)]; exact hK) | (rw [if_pos (by omega)]; exact hK)
      · intro xv xr xe xhe
        rw [hP] at xhe
        simp [go_sem, *] at xhe
      try walk_nrm
    )
    refine opsB_nil ?_
    simp only [BThen, BBlock, if_true, if_false, reduceIte, Nat.reduceEqDiff]
    refine wpB_ret ?_
    refine ⟨rfl, .bool true, fun xv xr => ⟨?_, fun xe xhe => ?_⟩, ?_⟩
    · rw [hP]
      simp [results, Try.results5, go_sem]
    · have xhm := mem_seen xhe
      rw [hP] at xhm
      simp [results, Try.results5, go_sem] at xhm
    exact ⟨rfl, r4⟩

theorem networkRests_run (W : World) (A0 : Option Addr) (n0 cap0 : Nat) (zs0 : List Int) (A1 : Option Addr) (n1 cap1 : Nat) (zs1 : List Int) (A2 : Option Addr) (n2 cap2 : Nat) (zs2 : List Int) (w0 : FlatSl W 1 A0 n0 cap0 zs0) (w1 : FlatSl W 2 A1 n1 cap1 zs1) (w2 : FlatSl W 2 A2 n2 cap2 zs2) :
    ∃ N last o w' t', runNT Try.prog (N + 1) (solo (G (Frame.enter Try.prog 5 #[.slice A0 n0 cap0, .slice A1 n1 cap1, .slice A2 n2 cap2] .normal) []) W) #[] = (.ended o w', t') ∧
      runN Try.prog N (solo (G (Frame.enter Try.prog 5 #[.slice A0 n0 cap0, .slice A1 n1 cap1, .slice A2 n2 cap2] .normal) []) W) = .next last ∧ step Try.prog last = .ended o w' ∧
      Conc.Good Try.prog (fun v W' => v = .bool true ∧ Below W.heap.size W W') last o w' t' :=
  run_of (rests_ok (baseOf W) rfl A0 A1 A2 n0 n1 n2 cap0 cap1 cap2 _ _ _ _ _ (memOf W) (flat_ints w0) (flat_span w1) (flat_span w2)) (by kernel_rfl)
end Go.Proofs.Ytplmgbffaeohpaa
