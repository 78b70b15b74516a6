/- NetworkHonest: its walk. -/
import Derived.Test.YtplmgbffaeohpaaBhS
import Derived.Test.YtplmgbffaeohpaaBhW
import Derived.Test.YtplmgbffaeohpaaBhM
set_option linter.unusedSimpArgs false
set_option linter.unusedVariables false
namespace Go.Proofs.Ytplmgbffaeohpaa
open Go.Conc Go.Crew Go.Beh Go.RowKit

set_option maxHeartbeats 4000000 in
theorem honest_ok (B : Base) (hP : B.P = Try.prog) (A0 A1 A2 : Option Addr) (n0 n1 n2 c0 c1 c2 : Nat) (ti elo ehi p q : Nat → Int) (x : Go.Beh.M) (h0 : IntSl x A0 n0 ti) (h1 : SpanSl x A1 n1 elo ehi) (h2 : SpanSl x A2 n2 p q) :
    CallB B 3 #[] #[.slice A0 n0 c0, .slice A1 n1 c1, .slice A2 n2 c2] x (fun v y => v = .bool true ∧ Ext x y) := by
  refine ⟨_, _, by rw [hP]; exact Try.func3, by rfl, rfl, ?_⟩
  simp only [Try.ntmps3, List.size_toArray, List.length_cons, List.length_nil, Nat.reduceAdd, Nat.reduceSub, Array.replicate_succ, Array.replicate_zero, List.push_toArray, List.append_toArray, List.nil_append, List.cons_append, Array.append_empty]
  repeat (refine wpB_seq ?_)
  refine wpB_region ?_
  simp only [List.size_toArray, List.length_cons, List.length_nil, Nat.reduceAdd, Nat.zero_add, List.range, List.range.loop]
  repeat (
    co_applyP opsB_rd rfl (by rfl)
    · intro xv xr Kc hK
      rw [hP]
      go_simp
      first | exact hK | (rw [if_neg (by omega)]; exact hK) | (rw [if_pos (by omega)]; exact hK)
    · intro xv xr xe xhe
      rw [hP] at xhe
      simp [go_sem, *] at xhe
    try walk_nrm
  )
  refine opsB_nil ?_
  simp only [BThen, BBlock, if_true, if_false, reduceIte, Nat.reduceEqDiff]
  repeat (refine wpB_seq ?_)
  refine wpB_region ?_
  simp only [List.size_toArray, List.length_cons, List.length_nil, Nat.reduceAdd, Nat.zero_add, List.range, List.range.loop]
  co_applyP opsB_act rfl (by rfl) (actB_callV rfl (by first | (simp [Act.eval]; done) | (simp [Act.eval, spV]; done) | rfl) (works_ok B hP x) (fun _ _ h => h))
  rintro v x1 ⟨rfl, r1⟩
  try walk_nrm
  repeat (
    co_applyP opsB_rd rfl (by rfl)
    · intro xv xr Kc hK
      rw [hP]
      go_simp
      first | exact hK | (rw [if_neg (by omega)]; exact hK) | (rw [if_pos (by omega)]; exact hK)
    · intro xv xr xe xhe
      rw [hP] at xhe
      simp [go_sem, *] at xhe
    try walk_nrm
  )
  refine opsB_nil ?_
  simp only [BThen, BBlock, if_true, if_false, reduceIte, Nat.reduceEqDiff]
  repeat (refine wpB_seq ?_)
  refine wpB_split (t := false) (by first | rfl | simp [Act.eval]) (fun ht => ?_) (fun ht => ?_)
  · cases ht
  clear ht
  refine wpB_skip ?_
  simp only [BThen, BBlock, if_true, if_false, reduceIte, Nat.reduceEqDiff]
  repeat (refine wpB_seq ?_)
  refine wpB_region ?_
  simp only [List.size_toArray, List.length_cons, List.length_nil, Nat.reduceAdd, Nat.zero_add, List.range, List.range.loop]
  repeat (
    co_applyP opsB_rd rfl (by rfl)
    · intro xv xr Kc hK
      rw [hP]
      go_simp
      first | exact hK | (rw [if_neg (by omega)]; exact hK) | (rw [if_pos (by omega)]; exact hK)
    · intro xv xr xe xhe
      rw [hP] at xhe
      simp [go_sem, *] at xhe
    try walk_nrm
  )
  co_applyP opsB_act rfl (by rfl) (actB_callV rfl (by first | (simp [Act.eval]; done) | (simp [Act.eval, spV]; done) | rfl) (known_ok B hP A0 A1 A2 n0 n1 n2 c0 c1 c2 ti elo ehi p q x1 (h0.ext r1) (h1.ext r1) (h2.ext r1)) (fun _ _ h => h))
  rintro v x2 ⟨n, m, A, K, cA, cK, rfl, hn8, hnn0, hm20, hm2, hAn, hA, hK, e2⟩
  try walk_nrm
  have r2 := r1.trans e2
  clear r1 e2
  repeat (
    co_applyP opsB_rd rfl (by rfl)
    · intro xv xr Kc hK
      rw [hP]
      go_simp
      first | exact hK | (rw [if_neg (by omega)]; exact hK) | (rw [if_pos (by omega)]; exact hK)
    · intro xv xr xe xhe
      rw [hP] at xhe
      simp [go_sem, *] at xhe
    try walk_nrm
  )
  refine opsB_nil ?_
  simp only [BThen, BBlock, if_true, if_false, reduceIte, Nat.reduceEqDiff]
  repeat (refine wpB_seq ?_)
  refine wpB_region ?_
  simp only [List.size_toArray, List.length_cons, List.length_nil, Nat.reduceAdd, Nat.zero_add, List.range, List.range.loop]
  repeat (
    co_applyP opsB_rd rfl (by rfl)
    · intro xv xr Kc hK
      rw [hP]
      go_simp
      first | exact hK | (rw [if_neg (by omega)]; exact hK) | (rw [if_pos (by omega)]; exact hK)
    · intro xv xr xe xhe
      rw [hP] at xhe
      simp [go_sem, *] at xhe
    try walk_nrm
  )
  co_applyP opsB_act rfl (by rfl) (actB_callV rfl (by first | (simp [Act.eval]; done) | (simp [Act.eval, spV]; done) | rfl) (btight_ok B hP A K n m cA cK _ _ _ _ _ _ 3 x2 hA hAn hK) (fun _ _ h => h))
  rintro v x3 hT
  try walk_nrm
  obtain ⟨A', cap, lo', hi', rfl, hs, e3, hg, -, -⟩ := kn_tight hn8 hm20 hm2 (by omega) hT
  have kg := Lib.hid hg
  have r3 := r2.trans e3
  replace hA := hA.ext e3
  clear hg hT hK e3 r2
  repeat (
    co_applyP opsB_rd rfl (by rfl)
    · intro xv xr Kc hK
      rw [hP]
      go_simp
      first | exact hK | (rw [if_neg (by omega)]; exact hK) | (rw [if_pos (by omega)]; exact hK)
    · intro xv xr xe xhe
      rw [hP] at xhe
      simp [go_sem, *] at xhe
    try walk_nrm
  )
  refine opsB_nil ?_
  simp only [BThen, BBlock, if_true, if_false, reduceIte, Nat.reduceEqDiff]
  repeat (refine wpB_seq ?_)
  refine wpB_region ?_
  simp only [List.size_toArray, List.length_cons, List.length_nil, Nat.reduceAdd, Nat.zero_add, List.range, List.range.loop]
  repeat (
    co_applyP opsB_rd rfl (by rfl)
    · intro xv xr Kc hK
      rw [hP]
      go_simp
      first | exact hK | (rw [if_neg (by omega)]; exact hK) | (rw [if_pos (by omega)]; exact hK)
    · intro xv xr xe xhe
      rw [hP] at xhe
      simp [go_sem, *] at xhe
    try walk_nrm
  )
  refine opsB_nil ?_
  simp only [BThen, BBlock, if_true, if_false, reduceIte, Nat.reduceEqDiff]
  repeat (refine wpB_seq ?_)
  refine wpB_split (t := false) (by first | rfl | simp [Act.eval]) (fun ht => ?_) (fun ht => ?_)
  · cases ht
  clear ht
  refine wpB_skip ?_
  simp only [BThen, BBlock, if_true, if_false, reduceIte, Nat.reduceEqDiff]
  repeat (refine wpB_seq ?_)
  refine wpB_region ?_
  simp only [List.size_toArray, List.length_cons, List.length_nil, Nat.reduceAdd, Nat.zero_add, List.range, List.range.loop]
  repeat (
    co_applyP opsB_rd rfl (by rfl)
    · intro xv xr Kc hK
      rw [hP]
      go_simp
      first | exact hK | (rw [if_neg (by omega)]; exact hK) | (rw [if_pos (by omega)]; exact hK)
    · intro xv xr xe xhe
      rw [hP] at xhe
      simp [go_sem, *] at xhe
    try walk_nrm
  )
  refine opsB_nil ?_
  simp only [BThen, BBlock, if_true, if_false, reduceIte, Nat.reduceEqDiff]
  repeat (refine wpB_seq ?_)
  refine wpB_block ?_
  refine wpB_loop (fun a y => ∃ j : Nat, j ≤ n ∧ Fr 70 [(0, .slice A0 n0 c0), (7, .slice A n cA), (38, .slice A' n cap), (39, .int .i64 n), (40, .int .i64 j)] a ∧ Ext x3 y)
    (fun a _ => (n - slotI a 40).toNat) ⟨0, by omega, ⟨rfl, rfl, rfl, rfl, rfl, rfl, rfl, trivial⟩, Ext.refl x3⟩ ?_
  rintro a y ⟨j, hj, hs0, r4⟩
  obtain ⟨u, hu, hv⟩ := hs0.lit
  simp only [List.range, List.range.loop, List.map_cons, List.map_nil] at hu
  obtain ⟨z0, z7, z38, z39, z40, -⟩ := hs0.at_
  have y0 := (hv 0).trans z0
  have y7 := (hv 7).trans z7
  have y38 := (hv 38).trans z38
  have y39 := (hv 39).trans z39
  have y40 := (hv 40).trans z40
  rw [y0, y7, y38, y39, y40] at hu
  clear hv hs0 z0 z7 z38 z39 z40 y0 y7 y38 y39 y40
  subst hu
  repeat (refine wpB_seq ?_)
  refine wpB_region ?_
  simp only [List.size_toArray, List.length_cons, List.length_nil, Nat.reduceAdd, Nat.zero_add, List.range, List.range.loop]
  repeat (
    co_applyP opsB_rd rfl (by rfl)
    · intro xv xr Kc hK
      rw [hP]
      go_simp
      first | exact hK | (rw [if_neg (by omega)]; exact hK) | (rw [if_pos (by omega)]; exact hK)
    · intro xv xr xe xhe
      rw [hP] at xhe
      simp [go_sem, *] at xhe
    try walk_nrm
  )
  refine opsB_nil ?_
  simp only [BThen, BBlock, if_true, if_false, reduceIte, Nat.reduceEqDiff]
  repeat (refine wpB_seq ?_)
  refine wpB_split (t := decide ((j : Int) < n)) (by first | rfl | simp [Act.eval]) (fun ht => ?_) (fun ht => ?_)
  · have hjn : j < n := by have := of_decide_eq_true ht; omega
    clear ht
    refine wpB_skip ?_
    simp only [BThen, BBlock, if_true, if_false, reduceIte, Nat.reduceEqDiff]
    repeat (refine wpB_seq ?_)
    refine wpB_block ?_
    obtain ⟨b, o, cs, el, f, rfl, hH, p1, p2⟩ := (hs.ext r4) (by omega)
    have hj' : (j : Int) < (n : Int) := by omega
    have hj0 : (j : Int) < (n0 : Int) := by omega
    have hjn0 : j < n0 := by omega
    repeat (refine wpB_seq ?_)
    refine wpB_region ?_
    simp only [List.size_toArray, List.length_cons, List.length_nil, Nat.reduceAdd, Nat.zero_add, List.range, List.range.loop]
    repeat (
      co_applyP opsB_rd rfl (by rfl)
      · intro xv xr Kc hK
        rw [hP]
        go_simp
        first | exact hK | (rw [if_neg (by omega)]; exact hK) | (rw [if_pos (by omega)]; exact hK)
      · intro xv xr xe xhe
        rw [hP] at xhe
        simp [go_sem, *] at xhe
      try walk_nrm
    )
    co_applyP opsB_rd rfl (by rfl)
    · intro xv xr Kc hK
      rw [hP]
      have xc0 := HasB.cell hH xr (o := o + j * 2) (v := _) (p1 j hjn)
      have xc1 := HasB.cell hH xr (o := o + j * 2 + 1) (v := _) (p2 j hjn)
      go_simp
      first | exact hK | (rw [if_neg (by omega)]; exact hK) | (rw [if_pos (by omega)]; exact hK)
    · intro xv xr xe xhe
      rw [hP] at xhe
      have xc0 := HasB.cell hH xr (o := o + j * 2) (v := _) (p1 j hjn)
      have xc1 := HasB.cell hH xr (o := o + j * 2 + 1) (v := _) (p2 j hjn)
      simp [go_sem, *] at xhe
      all_goals (first | subst xhe | (rcases xhe with rfl | rfl) | (rcases xhe with rfl | rfl | rfl | rfl))
      all_goals (exact EvB.cell hH rfl _)
    try walk_nrm
    co_applyP opsB_nw (fun b => .pointer (some ⟨b, 0, none⟩)) rfl (by rfl)
    · intro xv xr Kc hK
      rw [hP]
      go_simp
      first | exact hK | (rw [if_neg (by omega)]; exact hK) | (rw [if_pos (by omega)]; exact hK)
    · intro xv xr xe xhe
      rw [hP] at xhe
      simp [go_sem, *] at xhe
    intro y1 b1 m1 e1 g1 s1 q1
    try walk_nrm
    repeat (
      co_applyP opsB_rd rfl (by rfl)
      · intro xv xr Kc hK
        rw [hP]
        go_simp
        first | exact hK | (rw [if_neg (by omega)]; exact hK) | (rw [if_pos (by omega)]; exact hK)
      · intro xv xr xe xhe
        rw [hP] at xhe
        simp [go_sem, *] at xhe
      try walk_nrm
    )
    co_applyP opsB_wr g1 rfl (by rfl)
    · intro xv xr xb Kc hK
      rw [hP]
      have xc0 := Go.Crew.cell_of xb (o := 0) (show _ = some _ from rfl)
      have xf0 : xv.frozen? ⟨b1, 0, none⟩ = false := by simp [World.frozen?, xb]
      have xc1 := Go.Crew.cell_of xb (o := 1) (show _ = some _ from rfl)
      have xf1 : xv.frozen? ⟨b1, 1, none⟩ = false := by simp [World.frozen?, xb]
      go_simp
      (try unfold stored; go_simp)
      refine hK _ ?_
      rw [Go.Crew.setCell_blk xb, Go.Crew.setCell_blk (Go.Crew.setBlk_self (Go.Crew.lt_of_some xb)), Go.Crew.setBlk_setBlk]
      (try rfl)
    · intro xv xr xb xe xhe
      rw [hP] at xhe
      have xc0 := Go.Crew.cell_of xb (o := 0) (show _ = some _ from rfl)
      have xf0 : xv.frozen? ⟨b1, 0, none⟩ = false := by simp [World.frozen?, xb]
      have xc1 := Go.Crew.cell_of xb (o := 1) (show _ = some _ from rfl)
      have xf1 : xv.frozen? ⟨b1, 1, none⟩ = false := by simp [World.frozen?, xb]
      simp [go_sem, storedEv, *] at xhe
      all_goals (first | subst xhe | (rcases xhe with rfl | rfl) | (rcases xhe with rfl | rfl | rfl | rfl))
      all_goals (exact EvB.cell g1 rfl _)
    try walk_nrm
    intro y2 e2 g2
    have r5 : Ext x3 y2 := (r4.trans e1).chg e2 (by have := r4.size; omega)
    clear e1 g1 s1 q1 e2 m1 hH p1 p2 r4
    refine opsB_nil ?_
    simp only [BThen, BBlock, if_true, if_false, reduceIte, Nat.reduceEqDiff]
    obtain ⟨bt, ot, ct, et, ft, rfl, hT, pt⟩ := (h0.ext (r3.trans r5)) (by omega)
    obtain ⟨bl, ol, cl, ll, fl, rfl, hL, l1, l2⟩ := (hA.ext r5) (by omega)
    obtain ⟨k1, k2, k3, k4⟩ := kg.out j hjn
    have ku : (ti j).tmod 1000 = tauK ti j := rfl
    have kk := Lib.hid (And.intro k1 (And.intro k2 (And.intro k3 k4)))
    clear k1 k2 k3 k4
    repeat (refine wpB_seq ?_)
    refine wpB_region ?_
    simp only [List.size_toArray, List.length_cons, List.length_nil, Nat.reduceAdd, Nat.zero_add, List.range, List.range.loop]
    repeat (
      co_applyP opsB_rd rfl (by rfl)
      · intro xv xr Kc hK
        rw [hP]
        go_simp
        first | exact hK | (rw [if_neg (by omega)]; exact hK) | (rw [if_pos (by omega)]; exact hK)
      · intro xv xr xe xhe
        rw [hP] at xhe
        simp [go_sem, *] at xhe
      try walk_nrm
    )
    co_applyP opsB_rd rfl (by rfl)
    · intro xv xr Kc hK
      rw [hP]
      have xc0 := HasB.cell hT xr (o := ot + j) (v := _) (pt j hjn0)
      go_simp
      first | exact hK | (rw [if_neg (by omega)]; exact hK) | (rw [if_pos (by omega)]; exact hK)
    · intro xv xr xe xhe
      rw [hP] at xhe
      have xc0 := HasB.cell hT xr (o := ot + j) (v := _) (pt j hjn0)
      simp [go_sem, *] at xhe
      all_goals (first | subst xhe | (rcases xhe with rfl | rfl) | (rcases xhe with rfl | rfl | rfl | rfl))
      all_goals (exact EvB.cell hT rfl _)
    try walk_nrm
    repeat (
      co_applyP opsB_rd rfl (by rfl)
      · intro xv xr Kc hK
        rw [hP]
        go_simp
        first | exact hK | (rw [if_neg (by omega)]; exact hK) | (rw [if_pos (by omega)]; exact hK)
      · intro xv xr xe xhe
        rw [hP] at xhe
        simp [go_sem, *] at xhe
      try walk_nrm
    )
    refine opsB_nil ?_
    simp only [BThen, BBlock, if_true, if_false, reduceIte, Nat.reduceEqDiff]
    clear ku
    repeat (refine wpB_seq ?_)
    refine wpB_region_held (S := (fun y' => HasB y' b1 (.cells #[.int .i64 (lo' j), .int .i64 (hi' j)] 33) ∧ HasB y' bl (.cells cl ll fl))) 99 (by rw [hP]; first | kernel_rfl | rfl) ?_
    have hS : ((fun y' => HasB y' b1 (.cells #[.int .i64 (lo' j), .int .i64 (hi' j)] 33) ∧ HasB y' bl (.cells cl ll fl))) y2 := ⟨g2, hL⟩
    simp only [List.size_toArray, List.length_cons, List.length_nil, Nat.reduceAdd, Nat.zero_add]
    co_applyP anyB_rd 0 rfl (by first | kernel_rfl | decide +kernel) (by first | kernel_rfl | decide +kernel) (by first | kernel_rfl | decide +kernel) (by first | kernel_rfl | decide +kernel) (by rfl)
    · intro y hy xv xr Kc hK
      rw [hP]
      go_simp
      first | exact hK | (rw [if_neg (by omega)]; exact hK) | (rw [if_pos (by omega)]; exact hK)
    · intro y hy xv xr xe xhe
      rw [hP] at xhe
      simp [go_sem, *] at xhe
    · exact hS
    try walk_nrm
    co_applyP anyB_rd 1 rfl (by first | kernel_rfl | decide +kernel) (by first | kernel_rfl | decide +kernel) (by first | kernel_rfl | decide +kernel) (by first | kernel_rfl | decide +kernel) (by rfl)
    · intro y hy xv xr Kc hK
      rw [hP]
      go_simp
      first | exact hK | (rw [if_neg (by omega)]; exact hK) | (rw [if_pos (by omega)]; exact hK)
    · intro y hy xv xr xe xhe
      rw [hP] at xhe
      simp [go_sem, *] at xhe
    · exact hS
    try walk_nrm
    co_applyP anyB_rd 2 rfl (by first | kernel_rfl | decide +kernel) (by first | kernel_rfl | decide +kernel) (by first | kernel_rfl | decide +kernel) (by first | kernel_rfl | decide +kernel) (by rfl)
    · intro y hy xv xr Kc hK
      rw [hP]
      have xc0 := HasB.cell hy.1 xr (o := 0) (show _ = some _ from rfl)
      go_simp
      first | exact hK | (rw [if_neg (by omega)]; exact hK) | (rw [if_pos (by omega)]; exact hK)
    · intro y hy xv xr xe xhe
      rw [hP] at xhe
      have xc0 := HasB.cell hy.1 xr (o := 0) (show _ = some _ from rfl)
      simp [go_sem, *] at xhe
      all_goals (first | subst xhe | (rcases xhe with rfl | rfl) | (rcases xhe with rfl | rfl | rfl | rfl))
      all_goals (exact EvB.cell hy.1 rfl _)
    · exact hS
    try walk_nrm
    co_applyP anyB_rd 3 rfl (by first | kernel_rfl | decide +kernel) (by first | kernel_rfl | decide +kernel) (by first | kernel_rfl | decide +kernel) (by first | kernel_rfl | decide +kernel) (by rfl)
    · intro y hy xv xr Kc hK
      rw [hP]
      go_simp
      first | exact hK | (rw [if_neg (by omega)]; exact hK) | (rw [if_pos (by omega)]; exact hK)
    · intro y hy xv xr xe xhe
      rw [hP] at xhe
      simp [go_sem, *] at xhe
    · exact hS
    try walk_nrm
    rw [show decide (tauK ti j < lo' j) = false from decide_eq_false (by have := kk.out; omega)]
    co_applyP anyB_rd 4 rfl (by first | kernel_rfl | decide +kernel) (by first | kernel_rfl | decide +kernel) (by first | kernel_rfl | decide +kernel) (by first | kernel_rfl | decide +kernel) (by rfl)
    · intro y hy xv xr Kc hK
      rw [hP]
      go_simp
      first | exact hK | (rw [if_neg (by omega)]; exact hK) | (rw [if_pos (by omega)]; exact hK)
    · intro y hy xv xr xe xhe
      rw [hP] at xhe
      simp [go_sem, *] at xhe
    · exact hS
    try walk_nrm
    co_applyP anyB_rd 5 rfl (by first | kernel_rfl | decide +kernel) (by first | kernel_rfl | decide +kernel) (by first | kernel_rfl | decide +kernel) (by first | kernel_rfl | decide +kernel) (by rfl)
    · intro y hy xv xr Kc hK
      rw [hP]
      go_simp
      first | exact hK | (rw [if_neg (by omega)]; exact hK) | (rw [if_pos (by omega)]; exact hK)
    · intro y hy xv xr xe xhe
      rw [hP] at xhe
      simp [go_sem, *] at xhe
    · exact hS
    try walk_nrm
    co_applyP anyB_rd 6 rfl (by first | kernel_rfl | decide +kernel) (by first | kernel_rfl | decide +kernel) (by first | kernel_rfl | decide +kernel) (by first | kernel_rfl | decide +kernel) (by rfl)
    · intro y hy xv xr Kc hK
      rw [hP]
      go_simp
      first | exact hK | (rw [if_neg (by omega)]; exact hK) | (rw [if_pos (by omega)]; exact hK)
    · intro y hy xv xr xe xhe
      rw [hP] at xhe
      simp [go_sem, *] at xhe
    · exact hS
    try walk_nrm
    co_applyP anyB_rd 7 rfl (by first | kernel_rfl | decide +kernel) (by first | kernel_rfl | decide +kernel) (by first | kernel_rfl | decide +kernel) (by first | kernel_rfl | decide +kernel) (by rfl)
    · intro y hy xv xr Kc hK
      rw [hP]
      have xc0 := HasB.cell hy.1 xr (o := 1) (show _ = some _ from rfl)
      go_simp
      first | exact hK | (rw [if_neg (by omega)]; exact hK) | (rw [if_pos (by omega)]; exact hK)
    · intro y hy xv xr xe xhe
      rw [hP] at xhe
      have xc0 := HasB.cell hy.1 xr (o := 1) (show _ = some _ from rfl)
      simp [go_sem, *] at xhe
      all_goals (first | subst xhe | (rcases xhe with rfl | rfl) | (rcases xhe with rfl | rfl | rfl | rfl))
      all_goals (exact EvB.cell hy.1 rfl _)
    · exact hS
    try walk_nrm
    co_applyP anyB_rd 8 rfl (by first | kernel_rfl | decide +kernel) (by first | kernel_rfl | decide +kernel) (by first | kernel_rfl | decide +kernel) (by first | kernel_rfl | decide +kernel) (by rfl)
    · intro y hy xv xr Kc hK
      rw [hP]
      go_simp
      first | exact hK | (rw [if_neg (by omega)]; exact hK) | (rw [if_pos (by omega)]; exact hK)
    · intro y hy xv xr xe xhe
      rw [hP] at xhe
      simp [go_sem, *] at xhe
    · exact hS
    try walk_nrm
    rw [show decide (hi' j < tauK ti j) = false from decide_eq_false (by have := kk.out; omega)]
    co_applyP anyB_rd 9 rfl (by first | kernel_rfl | decide +kernel) (by first | kernel_rfl | decide +kernel) (by first | kernel_rfl | decide +kernel) (by first | kernel_rfl | decide +kernel) (by rfl)
    · intro y hy xv xr Kc hK
      rw [hP]
      go_simp
      first | exact hK | (rw [if_neg (by omega)]; exact hK) | (rw [if_pos (by omega)]; exact hK)
    · intro y hy xv xr xe xhe
      rw [hP] at xhe
      simp [go_sem, *] at xhe
    · exact hS
    try walk_nrm
    co_applyP anyB_rd 10 rfl (by first | kernel_rfl | decide +kernel) (by first | kernel_rfl | decide +kernel) (by first | kernel_rfl | decide +kernel) (by first | kernel_rfl | decide +kernel) (by rfl)
    · intro y hy xv xr Kc hK
      rw [hP]
      go_simp
      first | exact hK | (rw [if_neg (by omega)]; exact hK) | (rw [if_pos (by omega)]; exact hK)
    · intro y hy xv xr xe xhe
      rw [hP] at xhe
      simp [go_sem, *] at xhe
    · exact hS
    try walk_nrm
    co_applyP anyB_rd 11 rfl (by first | kernel_rfl | decide +kernel) (by first | kernel_rfl | decide +kernel) (by first | kernel_rfl | decide +kernel) (by first | kernel_rfl | decide +kernel) (by rfl)
    · intro y hy xv xr Kc hK
      rw [hP]
      go_simp
      first | exact hK | (rw [if_neg (by omega)]; exact hK) | (rw [if_pos (by omega)]; exact hK)
    · intro y hy xv xr xe xhe
      rw [hP] at xhe
      simp [go_sem, *] at xhe
    · exact hS
    try walk_nrm
    co_applyP anyB_rd 12 rfl (by first | kernel_rfl | decide +kernel) (by first | kernel_rfl | decide +kernel) (by first | kernel_rfl | decide +kernel) (by first | kernel_rfl | decide +kernel) (by rfl)
    · intro y hy xv xr Kc hK
      rw [hP]
      go_simp
      first | exact hK | (rw [if_neg (by omega)]; exact hK) | (rw [if_pos (by omega)]; exact hK)
    · intro y hy xv xr xe xhe
      rw [hP] at xhe
      simp [go_sem, *] at xhe
    · exact hS
    try walk_nrm
    co_applyP anyB_rd 13 rfl (by first | kernel_rfl | decide +kernel) (by first | kernel_rfl | decide +kernel) (by first | kernel_rfl | decide +kernel) (by first | kernel_rfl | decide +kernel) (by rfl)
    · intro y hy xv xr Kc hK
      rw [hP]
      go_simp
      first | exact hK | (rw [if_neg (by omega)]; exact hK) | (rw [if_pos (by omega)]; exact hK)
    · intro y hy xv xr xe xhe
      rw [hP] at xhe
      simp [go_sem, *] at xhe
    · exact hS
    try walk_nrm
    co_applyP anyB_rd 14 rfl (by first | kernel_rfl | decide +kernel) (by first | kernel_rfl | decide +kernel) (by first | kernel_rfl | decide +kernel) (by first | kernel_rfl | decide +kernel) (by rfl)
    · intro y hy xv xr Kc hK
      rw [hP]
      have xc0 := HasB.cell hy.2 xr (o := ol + j * 2) (v := _) (l1 j hjn)
      have xc1 := HasB.cell hy.2 xr (o := ol + j * 2 + 1) (v := _) (l2 j hjn)
      go_simp
      first | exact hK | (rw [if_neg (by omega)]; exact hK) | (rw [if_pos (by omega)]; exact hK)
    · intro y hy xv xr xe xhe
      rw [hP] at xhe
      have xc0 := HasB.cell hy.2 xr (o := ol + j * 2) (v := _) (l1 j hjn)
      have xc1 := HasB.cell hy.2 xr (o := ol + j * 2 + 1) (v := _) (l2 j hjn)
      simp [go_sem, *] at xhe
      all_goals (first | subst xhe | (rcases xhe with rfl | rfl) | (rcases xhe with rfl | rfl | rfl | rfl))
      all_goals (exact EvB.cell hy.2 rfl _)
    · exact hS
    try walk_nrm
    co_applyP anyB_rd 15 rfl (by first | kernel_rfl | decide +kernel) (by first | kernel_rfl | decide +kernel) (by first | kernel_rfl | decide +kernel) (by first | kernel_rfl | decide +kernel) (by rfl)
    · intro y hy xv xr Kc hK
      rw [hP]
      have xc0 := HasB.cell hy.1 xr (o := 0) (show _ = some _ from rfl)
      have xc1 := HasB.cell hy.1 xr (o := 1) (show _ = some _ from rfl)
      go_simp
      first | exact hK | (rw [if_neg (by omega)]; exact hK) | (rw [if_pos (by omega)]; exact hK)
    · intro y hy xv xr xe xhe
      rw [hP] at xhe
      have xc0 := HasB.cell hy.1 xr (o := 0) (show _ = some _ from rfl)
      have xc1 := HasB.cell hy.1 xr (o := 1) (show _ = some _ from rfl)
      simp [go_sem, *] at xhe
      all_goals (first | subst xhe | (rcases xhe with rfl | rfl) | (rcases xhe with rfl | rfl | rfl | rfl))
      all_goals (exact EvB.cell hy.1 rfl _)
    · exact hS
    try walk_nrm
    co_applyP anyB_one (i := 16) (by first | kernel_rfl | decide +kernel) rfl (by rfl)
    refine actB_callV rfl (by first | (simp [Act.eval]; done) | (simp [Act.eval, spV]; done) | rfl) (holds_ok B hP (kLo n1 ti elo j) (kHi n1 ti ehi j) (lo' j) (hi' j) y2) ?_
    rintro v y3 ⟨rfl, e3⟩
    rw [show decide (kLo n1 ti elo j ≤ lo' j ∧ hi' j ≤ kHi n1 ti ehi j) = true from decide_eq_true (by have := kk.out; omega)]
    refine ⟨.inl ⟨g2.ext e3, hL.ext e3⟩, ?_⟩
    clear hS
    have hS : (fun y' => HasB y' b1 (.cells #[.int .i64 (lo' j), .int .i64 (hi' j)] 33) ∧ HasB y' bl (.cells cl ll fl)) y3 := ⟨g2.ext e3, hL.ext e3⟩
    try walk_nrm
    co_applyP anyB_rd 17 rfl (by first | kernel_rfl | decide +kernel) (by first | kernel_rfl | decide +kernel) (by first | kernel_rfl | decide +kernel) (by first | kernel_rfl | decide +kernel) (by rfl)
    · intro y hy xv xr Kc hK
      rw [hP]
      go_simp
      first | exact hK | (rw [if_neg (by omega)]; exact hK) | (rw [if_pos (by omega)]; exact hK)
    · intro y hy xv xr xe xhe
      rw [hP] at xhe
      simp [go_sem, *] at xhe
    · exact hS
    try walk_nrm
    co_applyP anyB_rd 18 rfl (by first | kernel_rfl | decide +kernel) (by first | kernel_rfl | decide +kernel) (by first | kernel_rfl | decide +kernel) (by first | kernel_rfl | decide +kernel) (by rfl)
    · intro y hy xv xr Kc hK
      rw [hP]
      go_simp
      first | exact hK | (rw [if_neg (by omega)]; exact hK) | (rw [if_pos (by omega)]; exact hK)
    · intro y hy xv xr xe xhe
      rw [hP] at xhe
      simp [go_sem, *] at xhe
    · exact hS
    try walk_nrm
    refine anyB_done (by first | kernel_rfl | decide +kernel) ?_ _
    simp only [BThen, BBlock, if_true, if_false, reduceIte, Nat.reduceEqDiff]
    try walk_nrm
    repeat (refine wpB_seq ?_)
    refine wpB_split (t := false) (by first | rfl | simp [Act.eval]) (fun ht => ?_) (fun ht => ?_)
    · cases ht
    clear ht
    refine wpB_skip ?_
    simp only [BThen, BBlock, if_true, if_false, reduceIte, Nat.reduceEqDiff]
    have hw : IntKind.i64.wrap ((j : Int) + 1) = ((j + 1 : Nat) : Int) := by rw [wrap_in (by omega)]; simp
    repeat (refine wpB_seq ?_)
    refine wpB_region ?_
    simp only [List.size_toArray, List.length_cons, List.length_nil, Nat.reduceAdd, Nat.zero_add, List.range, List.range.loop]
    repeat (
      co_applyP opsB_rd rfl (by rfl)
      · intro xv xr Kc hK
        rw [hP]
        go_simp
        first | exact hK | (rw [if_neg (by omega)]; exact hK) | (rw [if_pos (by omega)]; exact hK)
      · intro xv xr xe xhe
        rw [hP] at xhe
        simp [go_sem, *] at xhe
      try walk_nrm
    )
    refine opsB_nil ?_
    simp only [BThen, BBlock, if_true, if_false, reduceIte, Nat.reduceEqDiff]
    clear hw
    refine ⟨⟨j + 1, by omega, ⟨rfl, rfl, rfl, rfl, rfl, rfl, by first | rfl | simp [FrAt], trivial⟩, r5.trans e3⟩, ?_⟩
    simp [slotI]
    omega
  · clear ht
    refine wpB_exit ?_
    simp only [BThen, BBlock, if_true, if_false, reduceIte, Nat.reduceEqDiff]
    repeat (refine wpB_seq ?_)
    refine wpB_region ?_
    simp only [List.size_toArray, List.length_cons, List.length_nil, Nat.reduceAdd, Nat.zero_add, List.range, List.range.loop]
    repeat (
      co_applyP opsB_rd rfl (by rfl)
      · intro xv xr Kc hK
        rw [hP]
        go_simp
        first | exact hK | (rw [if_neg (by omega)]; exact hK) | (rw [if_pos (by omega)]; exact hK)
      · intro xv xr xe xhe
        rw [hP] at xhe
        simp [go_sem, *] at xhe
      try walk_nrm
    )
    refine opsB_nil ?_
    simp only [BThen, BBlock, if_true, if_false, reduceIte, Nat.reduceEqDiff]
    refine wpB_ret ?_
    refine ⟨rfl, .bool true, fun xv xr => ⟨?_, fun xe xhe => ?_⟩, ?_⟩
    · rw [hP]
      simp [results, Try.results3, go_sem]
    · have xhm := mem_seen xhe
      rw [hP] at xhm
      simp [results, Try.results3, go_sem] at xhm
    exact ⟨rfl, r3.trans r4⟩

theorem networkHonest_run (W : World) (A0 : Option Addr) (n0 cap0 : Nat) (zs0 : List Int) (A1 : Option Addr) (n1 cap1 : Nat) (zs1 : List Int) (A2 : Option Addr) (n2 cap2 : Nat) (zs2 : List Int) (w0 : FlatSl W 1 A0 n0 cap0 zs0) (w1 : FlatSl W 2 A1 n1 cap1 zs1) (w2 : FlatSl W 2 A2 n2 cap2 zs2) :
    ∃ N last o w' t', runNT Try.prog (N + 1) (solo (G (Frame.enter Try.prog 3 #[.slice A0 n0 cap0, .slice A1 n1 cap1, .slice A2 n2 cap2] .normal) []) W) #[] = (.ended o w', t') ∧
      runN Try.prog N (solo (G (Frame.enter Try.prog 3 #[.slice A0 n0 cap0, .slice A1 n1 cap1, .slice A2 n2 cap2] .normal) []) W) = .next last ∧ step Try.prog last = .ended o w' ∧
      Conc.Good Try.prog (fun v W' => v = .bool true ∧ Below W.heap.size W W') last o w' t' :=
  run_of (honest_ok (baseOf W) rfl A0 A1 A2 n0 n1 n2 cap0 cap1 cap2 _ _ _ _ _ (memOf W) (flat_ints w0) (flat_span w1) (flat_span w2)) (by kernel_rfl)
end Go.Proofs.Ytplmgbffaeohpaa
