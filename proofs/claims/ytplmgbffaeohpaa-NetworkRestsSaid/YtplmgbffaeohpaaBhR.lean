/- Goroutine 0 beside goroutines that only leave: known. -/
import Derived.Test.YtplmgbffaeohpaaBhQ
set_option linter.unusedSimpArgs false
set_option linter.unusedVariables false
namespace Go.Proofs.Ytplmgbffaeohpaa
open Go.Conc Go.Crew Go.Beh Go.RowKit

def linkL (ka kb dl dh : Nat → Int) (n : Nat) : List Value := (List.range n).flatMap fun i => [.int .i64 (ka i), .int .i64 (kb i), .int .i64 (dl i), .int .i64 (dh i)]
theorem linkL_succ (ka kb dl dh : Nat → Int) (n : Nat) : linkL ka kb dl dh (n + 1) = linkL ka kb dl dh n ++ [.int .i64 (ka n), .int .i64 (kb n), .int .i64 (dl n), .int .i64 (dh n)] := by
  simp [linkL, List.range_succ]
theorem linkL_len (ka kb dl dh : Nat → Int) : ∀ n, (linkL ka kb dl dh n).length = n * 4
  | 0 => rfl
  | n + 1 => by rw [linkL_succ, List.length_append, linkL_len ka kb dl dh n]; simp; omega
theorem linkL_at (ka kb dl dh : Nat → Int) : ∀ n i, i < n → (linkL ka kb dl dh n)[i * 4]? = some (.int .i64 (ka i)) ∧ (linkL ka kb dl dh n)[i * 4 + 1]? = some (.int .i64 (kb i)) ∧ (linkL ka kb dl dh n)[i * 4 + 2]? = some (.int .i64 (dl i)) ∧ (linkL ka kb dl dh n)[i * 4 + 3]? = some (.int .i64 (dh i))
  | 0, _, h => absurd h (by omega)
  | n + 1, i, h => by
    rw [linkL_succ]
    have hl := linkL_len ka kb dl dh n
    rcases Nat.lt_or_ge i n with h1 | h1
    · obtain ⟨a, b, c, d⟩ := linkL_at ka kb dl dh n i h1
      rw [List.getElem?_append_left (by omega), List.getElem?_append_left (by omega), List.getElem?_append_left (by omega), List.getElem?_append_left (by omega)]
      exact ⟨a, b, c, d⟩
    · obtain rfl : i = n := by omega
      rw [List.getElem?_append_right (by omega), List.getElem?_append_right (by omega), List.getElem?_append_right (by omega), List.getElem?_append_right (by omega), hl]
      simp
theorem LinkSl.own {x : Go.Beh.M} {base : Nat} {A : Option Addr} {n cap : Nat} {ka kb dl dh : Nat → Int} (h : OwnB x base 39 4 (.slice A n cap) n (linkL ka kb dl dh n)) : LinkSl x A n ka kb dl dh := fun hn => by
  obtain ⟨g, cap', cur, e, hb, hH, hc⟩ := h.form hn
  obtain ⟨rfl, -, -⟩ := Value.slice.inj e
  have hat := linkL_at ka kb dl dh n
  exact ⟨g, 0, cur, _, _, rfl, hH, fun i hi => by rw [Nat.zero_add]; exact hc _ _ (hat i hi).1, fun i hi => by rw [Nat.zero_add]; exact hc _ _ (hat i hi).2.1, fun i hi => by rw [Nat.zero_add]; exact hc _ _ (hat i hi).2.2.1, fun i hi => by rw [Nat.zero_add]; exact hc _ _ (hat i hi).2.2.2⟩

def tauK (ti : Nat → Int) (i : Nat) : Int := (ti i).tmod 1000
def kA (p : Nat → Int) (n j : Nat) : Int := atN (p j) n
def kB (p q : Nat → Int) (n j : Nat) : Int := (kA p n j + 1 + atN (q j) ((n : Int) - 1)).tmod n
def kD (ti p q : Nat → Int) (n j : Nat) : Int := tauK ti (kB p q n j).toNat - tauK ti (kA p n j).toNat
def kDl (ti p q : Nat → Int) (n j : Nat) : Int := kD ti p q n j - atN (IntKind.i64.wrap ((p j).tdiv 7)) 20
def kDh (ti p q : Nat → Int) (n j : Nat) : Int := kD ti p q n j + atN (IntKind.i64.wrap ((q j).tdiv 7)) 20
theorem kAB {p q : Nat → Int} {n j : Nat} (hn : 2 ≤ n) : 0 ≤ kA p n j ∧ kA p n j < n ∧ 0 ≤ kB p q n j ∧ kB p q n j < n ∧ kA p n j ≠ kB p q n j ∧ 0 ≤ atN (q j) ((n : Int) - 1) ∧ atN (q j) ((n : Int) - 1) < (n : Int) - 1 := by
  have h1 := atN_bd (k := p j) (n := n) (by omega)
  have h2 := atN_bd (k := q j) (n := (n : Int) - 1) (by omega)
  have h3 : 0 ≤ atN (p j) n + 1 + atN (q j) ((n : Int) - 1) := by omega
  unfold kB kA
  rw [Int.tmod_eq_emod_of_nonneg h3]
  have h4 := Int.emod_nonneg (atN (p j) n + 1 + atN (q j) ((n : Int) - 1)) (show (n : Int) ≠ 0 by omega)
  have h5 := Int.emod_lt_of_pos (atN (p j) n + 1 + atN (q j) ((n : Int) - 1)) (show (0 : Int) < n by omega)
  refine ⟨h1.1, h1.2, h4, h5, fun e => ?_, h2.1, h2.2⟩
  rcases Int.lt_or_le (atN (p j) n + 1 + atN (q j) ((n : Int) - 1)) n with h | h
  · rw [Int.emod_eq_of_lt h3 h] at e; omega
  · have e2 : (atN (p j) n + 1 + atN (q j) ((n : Int) - 1)) % n = atN (p j) n + 1 + atN (q j) ((n : Int) - 1) - n := by
      rw [← Int.sub_emod_right]
      exact Int.emod_eq_of_lt (by omega) (by omega)
    rw [e2] at e; omega

/-- What known hands back. -/
def KnQ (x : Go.Beh.M) (n0 n1 : Nat) (ti elo ehi p q : Nat → Int) (v : Value) (y : Go.Beh.M) : Prop :=
  ∃ n m A K cA cK, v = .tuple #[.slice A n cA, .slice K m cK] ∧ n ≤ 8 ∧ n ≤ n0 ∧ m ≤ 20 ∧ (0 < m → 2 ≤ n) ∧ (A = none → n = 0) ∧ SpanSl y A n (kLo n1 ti elo) (kHi n1 ti ehi) ∧ LinkSl y K m (kA p n) (kB p q n) (kDl ti p q n) (kDh ti p q n) ∧ Ext x y

theorem infoLinkK : (Try.prog.info? 39).map (fun i => (i.zero, i.size, i.bytes)) = some (some (.agg #[.int .i64 0, .int .i64 0, .int .i64 0, .int .i64 0]), 4, 32) := by kernel_rfl

@[go_sem] theorem ev_ixPair0 (a : Addr) (w : World) (es : Array Event) : (Instr.indexAt 40 (.pointer (some a)) (.int .i64 0)).events Try.prog w es = es := events_indexAt_array _ _ 2 a _ _ Try.underlying40 (by omega)
@[go_sem] theorem ev_ixPair1 (a : Addr) (w : World) (es : Array Event) : (Instr.indexAt 40 (.pointer (some a)) (.int .i64 1)).events Try.prog w es = es := events_indexAt_array _ _ 2 a _ _ Try.underlying40 (by omega)
set_option maxHeartbeats 8000000 in
theorem known_ok (B : Base) (hP : B.P = Try.prog) (A0 A1 A2 : Option Addr) (n0 n1 n2 c0 c1 c2 : Nat) (ti elo ehi p q : Nat → Int) (x : Go.Beh.M) (h0 : IntSl x A0 n0 ti) (h1 : SpanSl x A1 n1 elo ehi) (h2 : SpanSl x A2 n2 p q) :
    CallB B 7 #[] #[.slice A0 n0 c0, .slice A1 n1 c1, .slice A2 n2 c2] x (KnQ x n0 n1 ti elo ehi p q) := by
  refine ⟨_, _, by rw [hP]; exact Try.func7, by rfl, rfl, ?_⟩
  simp only [Try.ntmps7, List.size_toArray, List.length_cons, List.length_nil, Nat.reduceAdd, Nat.reduceSub, Array.replicate_succ, Array.replicate_zero, List.push_toArray, List.append_toArray, List.nil_append, List.cons_append, Array.append_empty]
  obtain ⟨iS, hS0, hS1, hS2, hS3⟩ := info_parts infoLinkK
  repeat (refine wpB_seq ?_)
  refine wpB_region ?_
  simp only [List.size_toArray, List.length_cons, List.length_nil, Nat.reduceAdd, Nat.zero_add, List.range, List.range.loop]
  repeat (
    co_applyP opsB_rd rfl (by rfl)
    · intro xv xr Kc hK
      rw [hP]
      go_simp
      first | exact hK | (rw [if_neg (by omega)]; exact hK) | (rw [if_pos (by omega)]; exact hK)
    · intro xv xr xe xhe
      rw [hP] at xhe
      simp [go_sem, *] at xhe
    try walk_nrm
  )
  refine opsB_nil ?_
  simp only [BThen, BBlock, if_true, if_false, reduceIte, Nat.reduceEqDiff]
  repeat (refine wpB_seq ?_)
  refine wpB_region ?_
  simp only [List.size_toArray, List.length_cons, List.length_nil, Nat.reduceAdd, Nat.zero_add, List.range, List.range.loop]
  repeat (
    co_applyP opsB_rd rfl (by rfl)
    · intro xv xr Kc hK
      rw [hP]
      go_simp
      first | exact hK | (rw [if_neg (by omega)]; exact hK) | (rw [if_pos (by omega)]; exact hK)
    · intro xv xr xe xhe
      rw [hP] at xhe
      simp [go_sem, *] at xhe
    try walk_nrm
  )
  refine opsB_nil ?_
  simp only [BThen, BBlock, if_true, if_false, reduceIte, Nat.reduceEqDiff]
  obtain ⟨u, hu, hv⟩ := frame_lit (T := #[.slice A0 n0 c0, .slice A1 n1 c1, .slice A2 n2 c2, undef, undef, undef, .slice none 0 0, .slice none 0 0, .slice none 0 0, undef, undef, undef, undef, undef, undef, undef, undef, undef, undef, undef, undef, undef, undef, undef, undef, undef, undef, undef, undef, undef, undef, undef, undef, undef, undef, undef, undef, undef, undef, undef, undef, undef, undef, undef, undef, undef, undef, undef, undef, undef, undef, undef, undef, undef, undef, undef, undef, undef, undef, undef, undef, undef, undef, undef, undef, undef, undef, undef, undef, undef, undef, undef, undef, undef, undef, undef, undef, undef, undef, undef, undef, undef, undef, undef, undef, undef, undef, undef, undef, undef, undef, undef, undef, undef, undef, undef, undef, undef, undef, undef, undef, undef, undef, undef, undef, undef, undef, undef, undef, undef, undef, undef, undef, undef, undef, undef, undef, undef, undef, undef]) (n := 120) rfl
  rw [hu]
  have u0 : u 0 = .slice A0 n0 c0 := (hv 0).trans rfl
  have u1 : u 1 = .slice A1 n1 c1 := (hv 1).trans rfl
  have u2 : u 2 = .slice A2 n2 c2 := (hv 2).trans rfl
  have u8 : u 8 = .slice none 0 0 := (hv 8).trans rfl
  clear hv hu
  refine wpB_seq ?_
  refine wpB_to (KnP x A0 A2 n0 n1 n2 c0 c2 ti elo ehi) (known_loop1 B hP A0 A1 A2 n0 n1 n2 c0 c1 c2 ti elo ehi x h0 h1 u _ u0 u1 u2 u8 _ (by rfl)) ?_
  clear u0 u1 u2 u8 u
  rintro a y ⟨n, v8, hn8, hnn0, -, hs, r0, hO⟩
  obtain ⟨A8, c8, rfl⟩ := hO.value
  obtain ⟨u, hu, hv⟩ := hs.lit
  simp only [List.range, List.range.loop, List.map_cons, List.map_nil] at hu
  obtain ⟨z0, z2, z8, -⟩ := hs.at_
  have y0 := (hv 0).trans z0
  have y2 := (hv 2).trans z2
  have y8 := (hv 8).trans z8
  rw [y0, y2, y8] at hu
  clear hv hs z0 z2 z8 y0 y2 y8
  subst hu
  repeat (refine wpB_seq ?_)
  refine wpB_region ?_
  simp only [List.size_toArray, List.length_cons, List.length_nil, Nat.reduceAdd, Nat.zero_add, List.range, List.range.loop]
  repeat (
    co_applyP opsB_rd rfl (by rfl)
    · intro xv xr Kc hK
      rw [hP]
      go_simp
      first | exact hK | (rw [if_neg (by omega)]; exact hK) | (rw [if_pos (by omega)]; exact hK)
    · intro xv xr xe xhe
      rw [hP] at xhe
      simp [go_sem, *] at xhe
    try walk_nrm
  )
  refine opsB_nil ?_
  simp only [BThen, BBlock, if_true, if_false, reduceIte, Nat.reduceEqDiff]
  repeat (refine wpB_seq ?_)
  refine wpB_region ?_
  simp only [List.size_toArray, List.length_cons, List.length_nil, Nat.reduceAdd, Nat.zero_add, List.range, List.range.loop]
  repeat (
    co_applyP opsB_rd rfl (by rfl)
    · intro xv xr Kc hK
      rw [hP]
      go_simp
      first | exact hK | (rw [if_neg (by omega)]; exact hK) | (rw [if_pos (by omega)]; exact hK)
    · intro xv xr xe xhe
      rw [hP] at xhe
      simp [go_sem, *] at xhe
    try walk_nrm
  )
  refine opsB_nil ?_
  simp only [BThen, BBlock, if_true, if_false, reduceIte, Nat.reduceEqDiff]
  refine wpB_to (fun a z => ∃ (m : Nat) (v12 : Value), m ≤ 20 ∧ (0 < m → 2 ≤ n) ∧ Fr 120 [(8, .slice A8 n c8), (12, v12)] a ∧ Ext x z ∧ OwnB z x.h.size 33 2 (.slice A8 n c8) n (spanL (kLo n1 ti elo) (kHi n1 ti ehi) n) ∧
      OwnB z x.h.size 39 4 v12 m (linkL (kA p n) (kB p q n) (kDl ti p q n) (kDh ti p q n) m)) ?_ ?_
  rotate_left
  · rintro a z ⟨m, v12, hm20, hm2, hs, r1, hO1, hK1⟩
    obtain ⟨K, cK, rfl⟩ := hK1.value
    obtain ⟨u, hu, hv⟩ := hs.lit
    simp only [List.range, List.range.loop, List.map_cons, List.map_nil] at hu
    obtain ⟨z8, z12, -⟩ := hs.at_
    have y8 := (hv 8).trans z8
    have y12 := (hv 12).trans z12
    rw [y8, y12] at hu
    clear hv hs z8 z12 y8 y12
    subst hu
    repeat (refine wpB_seq ?_)
    refine wpB_region ?_
    simp only [List.size_toArray, List.length_cons, List.length_nil, Nat.reduceAdd, Nat.zero_add, List.range, List.range.loop]
    repeat (
      co_applyP opsB_rd rfl (by rfl)
      · intro xv xr Kc hK
        rw [hP]
        go_simp
        first | exact hK | (rw [if_neg (by omega)]; exact hK) | (rw [if_pos (by omega)]; exact hK)
      · intro xv xr xe xhe
        rw [hP] at xhe
        simp [go_sem, *] at xhe
      try walk_nrm
    )
    refine opsB_nil ?_
    simp only [BThen, BBlock, if_true, if_false, reduceIte, Nat.reduceEqDiff]
    refine wpB_ret ?_
    refine ⟨rfl, .tuple #[.slice A8 n c8, .slice K m cK], fun xv xr => ⟨?_, fun xe xhe => ?_⟩, ?_⟩
    · rw [hP]
      simp [results, Try.results7, go_sem]
    · have xhm := mem_seen xhe
      rw [hP] at xhm
      simp [results, Try.results7, go_sem] at xhm
    exact ⟨n, m, A8, K, c8, cK, rfl, hn8, hnn0, hm20, hm2, fun hA => hO1.none rfl hA, SpanSl.own hO1, LinkSl.own hK1, r1⟩
  refine wpB_block ?_
  refine wpB_loop (fun a z => ∃ (j : Nat) (v12 : Value), j ≤ n2 ∧ j ≤ 20 ∧ (0 < j → 2 ≤ n) ∧ Fr 120 [(0, .slice A0 n0 c0), (8, .slice A8 n c8), (12, v12), (56, .slice A2 n2 c2), (57, .int .i64 n2), (58, .int .i64 j)] a ∧ Ext x z ∧ OwnB z x.h.size 33 2 (.slice A8 n c8) n (spanL (kLo n1 ti elo) (kHi n1 ti ehi) n) ∧
      OwnB z x.h.size 39 4 v12 j (linkL (kA p n) (kB p q n) (kDl ti p q n) (kDh ti p q n) j))
    (fun a _ => (n2 - slotI a 58).toNat) ⟨0, .slice none 0 0, by omega, by omega, by omega, ⟨rfl, rfl, rfl, rfl, rfl, rfl, rfl, rfl, trivial⟩, r0, hO, OwnB.nil y _ _ _⟩ ?_
  clear hO r0 u
  rintro a y ⟨j, v12, hj, hj20, hj2, hs, r0, hO, hK⟩
  obtain ⟨u, hu, hv⟩ := hs.lit
  simp only [List.range, List.range.loop, List.map_cons, List.map_nil] at hu
  obtain ⟨z0, z8, z12, z56, z57, z58, -⟩ := hs.at_
  have y0 := (hv 0).trans z0
  have y8 := (hv 8).trans z8
  have y12 := (hv 12).trans z12
  have y56 := (hv 56).trans z56
  have y57 := (hv 57).trans z57
  have y58 := (hv 58).trans z58
  rw [y0, y8, y12, y56, y57, y58] at hu
  clear hv hs z0 z8 z12 z56 z57 z58 y0 y8 y12 y56 y57 y58
  subst hu
  repeat (refine wpB_seq ?_)
  refine wpB_region ?_
  simp only [List.size_toArray, List.length_cons, List.length_nil, Nat.reduceAdd, Nat.zero_add, List.range, List.range.loop]
  repeat (
    co_applyP opsB_rd rfl (by rfl)
    · intro xv xr Kc hK
      rw [hP]
      go_simp
      first | exact hK | (rw [if_neg (by omega)]; exact hK) | (rw [if_pos (by omega)]; exact hK)
    · intro xv xr xe xhe
      rw [hP] at xhe
      simp [go_sem, *] at xhe
    try walk_nrm
  )
  refine opsB_nil ?_
  simp only [BThen, BBlock, if_true, if_false, reduceIte, Nat.reduceEqDiff]
  repeat (refine wpB_seq ?_)
  refine wpB_split (t := decide ((j : Int) < n2)) (by first | rfl | simp [Act.eval]) (fun ht => ?_) (fun ht => ?_)
  · have hjn : j < n2 := by have := of_decide_eq_true ht; omega
    clear ht
    refine wpB_skip ?_
    simp only [BThen, BBlock, if_true, if_false, reduceIte, Nat.reduceEqDiff]
    repeat (refine wpB_seq ?_)
    refine wpB_block ?_
    obtain ⟨b, o, cs, e, f, rfl, hH, p1, p2⟩ := (h2.ext r0) (by omega)
    have hj' : (j : Int) < (n2 : Int) := by omega
    repeat (refine wpB_seq ?_)
    refine wpB_region ?_
    simp only [List.size_toArray, List.length_cons, List.length_nil, Nat.reduceAdd, Nat.zero_add, List.range, List.range.loop]
    repeat (
      co_applyP opsB_rd rfl (by rfl)
      · intro xv xr Kc hK
        rw [hP]
        go_simp
        first | exact hK | (rw [if_neg (by omega)]; exact hK) | (rw [if_pos (by omega)]; exact hK)
      · intro xv xr xe xhe
        rw [hP] at xhe
        simp [go_sem, *] at xhe
      try walk_nrm
    )
    co_applyP opsB_rd rfl (by rfl)
    · intro xv xr Kc hK
      rw [hP]
      have xc0 := HasB.cell hH xr (o := o + j * 2) (v := _) (p1 j hjn)
      have xc1 := HasB.cell hH xr (o := o + j * 2 + 1) (v := _) (p2 j hjn)
      go_simp
      first | exact hK | (rw [if_neg (by omega)]; exact hK) | (rw [if_pos (by omega)]; exact hK)
    · intro xv xr xe xhe
      rw [hP] at xhe
      have xc0 := HasB.cell hH xr (o := o + j * 2) (v := _) (p1 j hjn)
      have xc1 := HasB.cell hH xr (o := o + j * 2 + 1) (v := _) (p2 j hjn)
      simp [go_sem, *] at xhe
      all_goals (first | subst xhe | (rcases xhe with rfl | rfl) | (rcases xhe with rfl | rfl | rfl | rfl))
      all_goals (exact EvB.cell hH rfl _)
    try walk_nrm
    co_applyP opsB_nw (fun b => .pointer (some ⟨b, 0, none⟩)) rfl (by rfl)
    · intro xv xr Kc hK
      rw [hP]
      go_simp
      first | exact hK | (rw [if_neg (by omega)]; exact hK) | (rw [if_pos (by omega)]; exact hK)
    · intro xv xr xe xhe
      rw [hP] at xhe
      simp [go_sem, *] at xhe
    intro x1 b1 m1 r1 h2' s1 q1
    try walk_nrm
    repeat (
      co_applyP opsB_rd rfl (by rfl)
      · intro xv xr Kc hK
        rw [hP]
        go_simp
        first | exact hK | (rw [if_neg (by omega)]; exact hK) | (rw [if_pos (by omega)]; exact hK)
      · intro xv xr xe xhe
        rw [hP] at xhe
        simp [go_sem, *] at xhe
      try walk_nrm
    )
    co_applyP opsB_wr h2' rfl (by rfl)
    · intro xv xr xb Kc hK
      rw [hP]
      have xc0 := Go.Crew.cell_of xb (o := 0) (show _ = some _ from rfl)
      have xf0 : xv.frozen? ⟨b1, 0, none⟩ = false := by simp [World.frozen?, xb]
      have xc1 := Go.Crew.cell_of xb (o := 1) (show _ = some _ from rfl)
      have xf1 : xv.frozen? ⟨b1, 1, none⟩ = false := by simp [World.frozen?, xb]
      go_simp
      (try unfold stored; go_simp)
      refine hK _ ?_
      rw [Go.Crew.setCell_blk xb, Go.Crew.setCell_blk (Go.Crew.setBlk_self (Go.Crew.lt_of_some xb)), Go.Crew.setBlk_setBlk]
      (try rfl)
    · intro xv xr xb xe xhe
      rw [hP] at xhe
      have xc0 := Go.Crew.cell_of xb (o := 0) (show _ = some _ from rfl)
      have xf0 : xv.frozen? ⟨b1, 0, none⟩ = false := by simp [World.frozen?, xb]
      have xc1 := Go.Crew.cell_of xb (o := 1) (show _ = some _ from rfl)
      have xf1 : xv.frozen? ⟨b1, 1, none⟩ = false := by simp [World.frozen?, xb]
      simp [go_sem, storedEv, *] at xhe
      all_goals (first | subst xhe | (rcases xhe with rfl | rfl) | (rcases xhe with rfl | rfl | rfl | rfl))
      all_goals (exact EvB.cell h2' rfl _)
    try walk_nrm
    intro x2 r2 h3
    have r3 : Ext x x2 := (r0.trans r1).chg r2 (by have := r0.size; omega)
    have r4 : Ext y x2 := ((Ext.refl y).trans r1).chg r2 (by omega)
    have hO2 := hO.ext r4
    have hK2 := hK.ext r4
    have hxb : x.h.size ≤ b1 := by have := r0.size; omega
    have hlt : ∀ k, v12.ownBlock = some k → k < b1 := fun k hk => by have := (hK.lt k hk).2; omega
    clear r1 h2' s1 q1 r2 m1 hH p1 p2 hO hK
    refine opsB_nil ?_
    simp only [BThen, BBlock, if_true, if_false, reduceIte, Nat.reduceEqDiff]
    repeat (refine wpB_seq ?_)
    refine wpB_region ?_
    simp only [List.size_toArray, List.length_cons, List.length_nil, Nat.reduceAdd, Nat.zero_add, List.range, List.range.loop]
    repeat (
      co_applyP opsB_rd rfl (by rfl)
      · intro xv xr Kc hK
        rw [hP]
        go_simp
        first | exact hK | (rw [if_neg (by omega)]; exact hK) | (rw [if_pos (by omega)]; exact hK)
      · intro xv xr xe xhe
        rw [hP] at xhe
        simp [go_sem, *] at xhe
      try walk_nrm
    )
    by_cases h20 : j = 20
    · rw [show ((j : Int) == 20) = true from by subst h20; rfl]
      repeat (refine opsB_unwanted rfl (by rfl) ?_; try walk_nrm)
      repeat (
        co_applyP opsB_rd rfl (by rfl)
        · intro xv xr Kc hK
          rw [hP]
          go_simp
          first | exact hK | (rw [if_neg (by omega)]; exact hK) | (rw [if_pos (by omega)]; exact hK)
        · intro xv xr xe xhe
          rw [hP] at xhe
          simp [go_sem, *] at xhe
        try walk_nrm
      )
      refine opsB_nil ?_
      simp only [BThen, BBlock, if_true, if_false, reduceIte, Nat.reduceEqDiff]
      repeat (refine wpB_seq ?_)
      refine wpB_split (t := true) (by first | rfl | simp [Act.eval]) (fun ht => ?_) (fun ht => ?_)
      · refine wpB_exit ?_
        simp only [BThen, BBlock, if_true, if_false, reduceIte, Nat.reduceEqDiff]
        exact ⟨j, v12, hj20, hj2, ⟨rfl, rfl, rfl, rfl, trivial⟩, r3, hO2, hK2⟩
      · cases ht
    rw [show ((j : Int) == 20) = false from by rw [beq_eq_false_iff_ne]; omega]
    repeat (
      co_applyP opsB_rd rfl (by rfl)
      · intro xv xr Kc hK
        rw [hP]
        go_simp
        first | exact hK | (rw [if_neg (by omega)]; exact hK) | (rw [if_pos (by omega)]; exact hK)
      · intro xv xr xe xhe
        rw [hP] at xhe
        simp [go_sem, *] at xhe
      try walk_nrm
    )
    refine opsB_nil ?_
    simp only [BThen, BBlock, if_true, if_false, reduceIte, Nat.reduceEqDiff]
    repeat (refine wpB_seq ?_)
    refine wpB_split (t := decide ((n : Int) < 2)) (by first | rfl | simp [Act.eval]) (fun ht => ?_) (fun ht => ?_)
    · clear ht
      refine wpB_exit ?_
      simp only [BThen, BBlock, if_true, if_false, reduceIte, Nat.reduceEqDiff]
      exact ⟨j, v12, hj20, hj2, ⟨rfl, rfl, rfl, rfl, trivial⟩, r3, hO2, hK2⟩
    have hn2' : 2 ≤ n := by have := of_decide_eq_false ht; omega
    clear ht
    refine wpB_skip ?_
    simp only [BThen, BBlock, if_true, if_false, reduceIte, Nat.reduceEqDiff]
    obtain ⟨ka0, ka1, kb0, kb1, kne, kq0, kq1⟩ := kAB (p := p) (q := q) (n := n) (j := j) hn2'
    obtain ⟨ia, hia⟩ : ∃ ia : Nat, kA p n j = (ia : Int) := ⟨(kA p n j).toNat, by omega⟩
    obtain ⟨ib, hib⟩ : ∃ ib : Nat, kB p q n j = (ib : Int) := ⟨(kB p q n j).toNat, by omega⟩
    have hla : (ia : Int) < (n0 : Int) := by omega
    have hlb : (ib : Int) < (n0 : Int) := by omega
    have hwb : (IntKind.i64.wrap (IntKind.i64.wrap ((ia : Int) + 1) + atN (q j) ((n : Int) - 1))).tmod (n : Int) = (ib : Int) := by
      rw [← hib, ← hia, wrap_in (x := kA p n j + 1) (by omega), wrap_in (by omega)]
      rfl
    have hwn : IntKind.i64.wrap ((n : Int) - 1) = (n : Int) - 1 := wrap_in (by omega)
    have hiaN : ia < n0 := by omega
    have hibN : ib < n0 := by omega
    have kia := Lib.hid hia
    have kib := Lib.hid hib
    have kk := Lib.hid (And.intro ka0 (And.intro ka1 (And.intro kb0 (And.intro kb1 kne))))
    clear hia hib ka0 ka1 kb0 kb1 kne kq0 kq1
    repeat (refine wpB_seq ?_)
    refine wpB_region ?_
    simp only [List.size_toArray, List.length_cons, List.length_nil, Nat.reduceAdd, Nat.zero_add, List.range, List.range.loop]
    repeat (
      co_applyP opsB_rd rfl (by rfl)
      · intro xv xr Kc hK
        rw [hP]
        go_simp
        first | exact hK | (rw [if_neg (by omega)]; exact hK) | (rw [if_pos (by omega)]; exact hK)
      · intro xv xr xe xhe
        rw [hP] at xhe
        simp [go_sem, *] at xhe
      try walk_nrm
    )
    co_applyP opsB_rd rfl (by rfl)
    · intro xv xr Kc hK
      rw [hP]
      have xc0 := HasB.cell h3 xr (o := 0) (show _ = some _ from rfl)
      go_simp
      first | exact hK | (rw [if_neg (by omega)]; exact hK) | (rw [if_pos (by omega)]; exact hK)
    · intro xv xr xe xhe
      rw [hP] at xhe
      have xc0 := HasB.cell h3 xr (o := 0) (show _ = some _ from rfl)
      simp [go_sem, *] at xhe
      all_goals (first | subst xhe | (rcases xhe with rfl | rfl) | (rcases xhe with rfl | rfl | rfl | rfl))
      all_goals (exact EvB.cell h3 rfl _)
    try walk_nrm
    repeat (
      co_applyP opsB_rd rfl (by rfl)
      · intro xv xr Kc hK
        rw [hP]
        go_simp
        first | exact hK | (rw [if_neg (by omega)]; exact hK) | (rw [if_pos (by omega)]; exact hK)
      · intro xv xr xe xhe
        rw [hP] at xhe
        simp [go_sem, *] at xhe
      try walk_nrm
    )
    co_applyP opsB_act rfl (by rfl) (actB_callV rfl (by first | (simp [Act.eval]; done) | (simp [Act.eval, spV]; done) | rfl) (at_ok B hP (p j) (n : Int) (by omega) x2) (fun _ _ h => h))
    rintro v x3 ⟨rfl, rfl⟩
    try walk_nrm
    rw [show atN (p j) (n : Int) = (ia : Int) from kia.out]
    repeat (
      co_applyP opsB_rd rfl (by rfl)
      · intro xv xr Kc hK
        rw [hP]
        go_simp
        first | exact hK | (rw [if_neg (by omega)]; exact hK) | (rw [if_pos (by omega)]; exact hK)
      · intro xv xr xe xhe
        rw [hP] at xhe
        simp [go_sem, *] at xhe
      try walk_nrm
    )
    refine opsB_nil ?_
    simp only [BThen, BBlock, if_true, if_false, reduceIte, Nat.reduceEqDiff]
    repeat (refine wpB_seq ?_)
    refine wpB_region ?_
    simp only [List.size_toArray, List.length_cons, List.length_nil, Nat.reduceAdd, Nat.zero_add, List.range, List.range.loop]
    repeat (
      co_applyP opsB_rd rfl (by rfl)
      · intro xv xr Kc hK
        rw [hP]
        go_simp
        first | exact hK | (rw [if_neg (by omega)]; exact hK) | (rw [if_pos (by omega)]; exact hK)
      · intro xv xr xe xhe
        rw [hP] at xhe
        simp [go_sem, *] at xhe
      try walk_nrm
    )
    co_applyP opsB_rd rfl (by rfl)
    · intro xv xr Kc hK
      rw [hP]
      have xc0 := HasB.cell h3 xr (o := 1) (show _ = some _ from rfl)
      go_simp
      first | exact hK | (rw [if_neg (by omega)]; exact hK) | (rw [if_pos (by omega)]; exact hK)
    · intro xv xr xe xhe
      rw [hP] at xhe
      have xc0 := HasB.cell h3 xr (o := 1) (show _ = some _ from rfl)
      simp [go_sem, *] at xhe
      all_goals (first | subst xhe | (rcases xhe with rfl | rfl) | (rcases xhe with rfl | rfl | rfl | rfl))
      all_goals (exact EvB.cell h3 rfl _)
    try walk_nrm
    repeat (
      co_applyP opsB_rd rfl (by rfl)
      · intro xv xr Kc hK
        rw [hP]
        go_simp
        first | exact hK | (rw [if_neg (by omega)]; exact hK) | (rw [if_pos (by omega)]; exact hK)
      · intro xv xr xe xhe
        rw [hP] at xhe
        simp [go_sem, *] at xhe
      try walk_nrm
    )
    co_applyP opsB_act rfl (by rfl) (actB_callV rfl (by first | (simp [Act.eval]; done) | (simp [Act.eval, spV]; done) | rfl) (at_ok B hP (q j) ((n : Int) - 1) (by omega) x3) (fun _ _ h => h))
    rintro v x4 ⟨rfl, rfl⟩
    try walk_nrm
    repeat (
      co_applyP opsB_rd rfl (by rfl)
      · intro xv xr Kc hK
        rw [hP]
        go_simp
        first | exact hK | (rw [if_neg (by omega)]; exact hK) | (rw [if_pos (by omega)]; exact hK)
      · intro xv xr xe xhe
        rw [hP] at xhe
        simp [go_sem, *] at xhe
      try walk_nrm
    )
    refine opsB_nil ?_
    simp only [BThen, BBlock, if_true, if_false, reduceIte, Nat.reduceEqDiff]
    clear hwb hwn
    obtain ⟨bt, ot, ct, et, ft, rfl, hT, pt⟩ := (h0.ext r3) (by omega)
    have bd1 := tmod_bd (ti ia)
    have bd2 := tmod_bd (ti ib)
    have hwd : IntKind.i64.wrap ((ti ib).tmod 1000 - (ti ia).tmod 1000) = kD ti p q n j := by
      rw [wrap_in (by omega)]
      unfold kD tauK
      rw [show kB p q n j = (ib : Int) from kib.out, show kA p n j = (ia : Int) from kia.out]
      simp
    have hdb : -2000 < kD ti p q n j ∧ kD ti p q n j < 2000 := by rw [← hwd, wrap_in (by omega)]; omega
    clear bd1 bd2
    repeat (refine wpB_seq ?_)
    refine wpB_region_held (S := (fun y' => y' = x4)) 99 (by rw [hP]; first | kernel_rfl | rfl) ?_
    have hS : ((fun y' => y' = x4)) x4 := rfl
    simp only [List.size_toArray, List.length_cons, List.length_nil, Nat.reduceAdd, Nat.zero_add]
    co_applyP anyB_rd 0 rfl (by first | kernel_rfl | decide +kernel) (by first | kernel_rfl | decide +kernel) (by first | kernel_rfl | decide +kernel) (by first | kernel_rfl | decide +kernel) (by rfl)
    · intro y hy xv xr Kc hK
      rw [hP]
      go_simp
      first | exact hK | (rw [if_neg (by omega)]; exact hK) | (rw [if_pos (by omega)]; exact hK)
    · intro y hy xv xr xe xhe
      rw [hP] at xhe
      simp [go_sem, *] at xhe
    · exact hS
    try walk_nrm
    co_applyP anyB_rd 1 rfl (by first | kernel_rfl | decide +kernel) (by first | kernel_rfl | decide +kernel) (by first | kernel_rfl | decide +kernel) (by first | kernel_rfl | decide +kernel) (by rfl)
    · intro y hy xv xr Kc hK
      rw [hP]
      go_simp
      first | exact hK | (rw [if_neg (by omega)]; exact hK) | (rw [if_pos (by omega)]; exact hK)
    · intro y hy xv xr xe xhe
      rw [hP] at xhe
      simp [go_sem, *] at xhe
    · exact hS
    try walk_nrm
    co_applyP anyB_rd 2 rfl (by first | kernel_rfl | decide +kernel) (by first | kernel_rfl | decide +kernel) (by first | kernel_rfl | decide +kernel) (by first | kernel_rfl | decide +kernel) (by rfl)
    · intro y hy xv xr Kc hK
      rw [hP]
      go_simp
      first | exact hK | (rw [if_neg (by omega)]; exact hK) | (rw [if_pos (by omega)]; exact hK)
    · intro y hy xv xr xe xhe
      rw [hP] at xhe
      simp [go_sem, *] at xhe
    · exact hS
    try walk_nrm
    co_applyP anyB_rd 3 rfl (by first | kernel_rfl | decide +kernel) (by first | kernel_rfl | decide +kernel) (by first | kernel_rfl | decide +kernel) (by first | kernel_rfl | decide +kernel) (by rfl)
    · intro y hy xv xr Kc hK
      rw [hP]
      have xc0 := HasB.cell (hy ▸ hT) xr (o := ot + ib) (v := _) (pt ib hibN)
      go_simp
      first | exact hK | (rw [if_neg (by omega)]; exact hK) | (rw [if_pos (by omega)]; exact hK)
    · intro y hy xv xr xe xhe
      rw [hP] at xhe
      have xc0 := HasB.cell (hy ▸ hT) xr (o := ot + ib) (v := _) (pt ib hibN)
      simp [go_sem, *] at xhe
      all_goals (first | subst xhe | (rcases xhe with rfl | rfl) | (rcases xhe with rfl | rfl | rfl | rfl))
      all_goals (exact EvB.cell (hy ▸ hT) rfl _)
    · exact hS
    try walk_nrm
    co_applyP anyB_rd 4 rfl (by first | kernel_rfl | decide +kernel) (by first | kernel_rfl | decide +kernel) (by first | kernel_rfl | decide +kernel) (by first | kernel_rfl | decide +kernel) (by rfl)
    · intro y hy xv xr Kc hK
      rw [hP]
      go_simp
      first | exact hK | (rw [if_neg (by omega)]; exact hK) | (rw [if_pos (by omega)]; exact hK)
    · intro y hy xv xr xe xhe
      rw [hP] at xhe
      simp [go_sem, *] at xhe
    · exact hS
    try walk_nrm
    co_applyP anyB_rd 5 rfl (by first | kernel_rfl | decide +kernel) (by first | kernel_rfl | decide +kernel) (by first | kernel_rfl | decide +kernel) (by first | kernel_rfl | decide +kernel) (by rfl)
    · intro y hy xv xr Kc hK
      rw [hP]
      go_simp
      first | exact hK | (rw [if_neg (by omega)]; exact hK) | (rw [if_pos (by omega)]; exact hK)
    · intro y hy xv xr xe xhe
      rw [hP] at xhe
      simp [go_sem, *] at xhe
    · exact hS
    try walk_nrm
    co_applyP anyB_rd 6 rfl (by first | kernel_rfl | decide +kernel) (by first | kernel_rfl | decide +kernel) (by first | kernel_rfl | decide +kernel) (by first | kernel_rfl | decide +kernel) (by rfl)
    · intro y hy xv xr Kc hK
      rw [hP]
      go_simp
      first | exact hK | (rw [if_neg (by omega)]; exact hK) | (rw [if_pos (by omega)]; exact hK)
    · intro y hy xv xr xe xhe
      rw [hP] at xhe
      simp [go_sem, *] at xhe
    · exact hS
    try walk_nrm
    co_applyP anyB_rd 7 rfl (by first | kernel_rfl | decide +kernel) (by first | kernel_rfl | decide +kernel) (by first | kernel_rfl | decide +kernel) (by first | kernel_rfl | decide +kernel) (by rfl)
    · intro y hy xv xr Kc hK
      rw [hP]
      go_simp
      first | exact hK | (rw [if_neg (by omega)]; exact hK) | (rw [if_pos (by omega)]; exact hK)
    · intro y hy xv xr xe xhe
      rw [hP] at xhe
      simp [go_sem, *] at xhe
    · exact hS
    try walk_nrm
    co_applyP anyB_rd 8 rfl (by first | kernel_rfl | decide +kernel) (by first | kernel_rfl | decide +kernel) (by first | kernel_rfl | decide +kernel) (by first | kernel_rfl | decide +kernel) (by rfl)
    · intro y hy xv xr Kc hK
      rw [hP]
      have xc0 := HasB.cell (hy ▸ hT) xr (o := ot + ia) (v := _) (pt ia hiaN)
      go_simp
      first | exact hK | (rw [if_neg (by omega)]; exact hK) | (rw [if_pos (by omega)]; exact hK)
    · intro y hy xv xr xe xhe
      rw [hP] at xhe
      have xc0 := HasB.cell (hy ▸ hT) xr (o := ot + ia) (v := _) (pt ia hiaN)
      simp [go_sem, *] at xhe
      all_goals (first | subst xhe | (rcases xhe with rfl | rfl) | (rcases xhe with rfl | rfl | rfl | rfl))
      all_goals (exact EvB.cell (hy ▸ hT) rfl _)
    · exact hS
    try walk_nrm
    co_applyP anyB_rd 9 rfl (by first | kernel_rfl | decide +kernel) (by first | kernel_rfl | decide +kernel) (by first | kernel_rfl | decide +kernel) (by first | kernel_rfl | decide +kernel) (by rfl)
    · intro y hy xv xr Kc hK
      rw [hP]
      go_simp
      first | exact hK | (rw [if_neg (by omega)]; exact hK) | (rw [if_pos (by omega)]; exact hK)
    · intro y hy xv xr xe xhe
      rw [hP] at xhe
      simp [go_sem, *] at xhe
    · exact hS
    try walk_nrm
    co_applyP anyB_rd 10 rfl (by first | kernel_rfl | decide +kernel) (by first | kernel_rfl | decide +kernel) (by first | kernel_rfl | decide +kernel) (by first | kernel_rfl | decide +kernel) (by rfl)
    · intro y hy xv xr Kc hK
      rw [hP]
      go_simp
      first | exact hK | (rw [if_neg (by omega)]; exact hK) | (rw [if_pos (by omega)]; exact hK)
    · intro y hy xv xr xe xhe
      rw [hP] at xhe
      simp [go_sem, *] at xhe
    · exact hS
    try walk_nrm
    co_applyP anyB_rd 11 rfl (by first | kernel_rfl | decide +kernel) (by first | kernel_rfl | decide +kernel) (by first | kernel_rfl | decide +kernel) (by first | kernel_rfl | decide +kernel) (by rfl)
    · intro y hy xv xr Kc hK
      rw [hP]
      go_simp
      first | exact hK | (rw [if_neg (by omega)]; exact hK) | (rw [if_pos (by omega)]; exact hK)
    · intro y hy xv xr xe xhe
      rw [hP] at xhe
      simp [go_sem, *] at xhe
    · exact hS
    try walk_nrm
    refine anyB_done (by first | kernel_rfl | decide +kernel) ?_ _
    simp only [BThen, BBlock, if_true, if_false, reduceIte, Nat.reduceEqDiff]
    try walk_nrm
    clear hwd hT pt
    have hz0 : (7 : Int) ≠ 0 := by omega
    refine wpB_region_held (S := (fun y' => HasB y' b1 (.cells #[.int .i64 (p j), .int .i64 (q j)] 40))) 99 (by rw [hP]; first | kernel_rfl | rfl) ?_
    have hS : ((fun y' => HasB y' b1 (.cells #[.int .i64 (p j), .int .i64 (q j)] 40))) x4 := h3
    simp only [List.size_toArray, List.length_cons, List.length_nil, Nat.reduceAdd, Nat.zero_add]
    co_applyP anyB_rd 0 rfl (by first | kernel_rfl | decide +kernel) (by first | kernel_rfl | decide +kernel) (by first | kernel_rfl | decide +kernel) (by first | kernel_rfl | decide +kernel) (by rfl)
    · intro y hy xv xr Kc hK
      rw [hP]
      go_simp
      first | exact hK | (rw [if_neg (by omega)]; exact hK) | (rw [if_pos (by omega)]; exact hK)
    · intro y hy xv xr xe xhe
      rw [hP] at xhe
      simp [go_sem, *] at xhe
    · exact hS
    try walk_nrm
    co_applyP anyB_rd 1 rfl (by first | kernel_rfl | decide +kernel) (by first | kernel_rfl | decide +kernel) (by first | kernel_rfl | decide +kernel) (by first | kernel_rfl | decide +kernel) (by rfl)
    · intro y hy xv xr Kc hK
      rw [hP]
      go_simp
      first | exact hK | (rw [if_neg (by omega)]; exact hK) | (rw [if_pos (by omega)]; exact hK)
    · intro y hy xv xr xe xhe
      rw [hP] at xhe
      simp [go_sem, *] at xhe
    · exact hS
    try walk_nrm
    co_applyP anyB_rd 2 rfl (by first | kernel_rfl | decide +kernel) (by first | kernel_rfl | decide +kernel) (by first | kernel_rfl | decide +kernel) (by first | kernel_rfl | decide +kernel) (by rfl)
    · intro y hy xv xr Kc hK
      rw [hP]
      go_simp
      first | exact hK | (rw [if_neg (by omega)]; exact hK) | (rw [if_pos (by omega)]; exact hK)
    · intro y hy xv xr xe xhe
      rw [hP] at xhe
      simp [go_sem, *] at xhe
    · exact hS
    try walk_nrm
    co_applyP anyB_rd 3 rfl (by first | kernel_rfl | decide +kernel) (by first | kernel_rfl | decide +kernel) (by first | kernel_rfl | decide +kernel) (by first | kernel_rfl | decide +kernel) (by rfl)
    · intro y hy xv xr Kc hK
      rw [hP]
      go_simp
      first | exact hK | (rw [if_neg (by omega)]; exact hK) | (rw [if_pos (by omega)]; exact hK)
    · intro y hy xv xr xe xhe
      rw [hP] at xhe
      simp [go_sem, *] at xhe
    · exact hS
    try walk_nrm
    co_applyP anyB_rd 4 rfl (by first | kernel_rfl | decide +kernel) (by first | kernel_rfl | decide +kernel) (by first | kernel_rfl | decide +kernel) (by first | kernel_rfl | decide +kernel) (by rfl)
    · intro y hy xv xr Kc hK
      rw [hP]
      go_simp
      first | exact hK | (rw [if_neg (by omega)]; exact hK) | (rw [if_pos (by omega)]; exact hK)
    · intro y hy xv xr xe xhe
      rw [hP] at xhe
      simp [go_sem, *] at xhe
    · exact hS
    try walk_nrm
    co_applyP anyB_rd 5 rfl (by first | kernel_rfl | decide +kernel) (by first | kernel_rfl | decide +kernel) (by first | kernel_rfl | decide +kernel) (by first | kernel_rfl | decide +kernel) (by rfl)
    · intro y hy xv xr Kc hK
      rw [hP]
      have xc0 := HasB.cell hy xr (o := 0) (show _ = some _ from rfl)
      go_simp
      first | exact hK | (rw [if_neg (by omega)]; exact hK) | (rw [if_pos (by omega)]; exact hK)
    · intro y hy xv xr xe xhe
      rw [hP] at xhe
      have xc0 := HasB.cell hy xr (o := 0) (show _ = some _ from rfl)
      simp [go_sem, *] at xhe
      all_goals (first | subst xhe | (rcases xhe with rfl | rfl) | (rcases xhe with rfl | rfl | rfl | rfl))
      all_goals (exact EvB.cell hy rfl _)
    · exact hS
    try walk_nrm
    co_applyP anyB_rd 6 rfl (by first | kernel_rfl | decide +kernel) (by first | kernel_rfl | decide +kernel) (by first | kernel_rfl | decide +kernel) (by first | kernel_rfl | decide +kernel) (by rfl)
    · intro y hy xv xr Kc hK
      rw [hP]
      go_simp
      first | exact hK | (rw [if_neg (by omega)]; exact hK) | (rw [if_pos (by omega)]; exact hK)
    · intro y hy xv xr xe xhe
      rw [hP] at xhe
      simp [go_sem, *] at xhe
    · exact hS
    try walk_nrm
    co_applyP anyB_rd 9 rfl (by first | kernel_rfl | decide +kernel) (by first | kernel_rfl | decide +kernel) (by first | kernel_rfl | decide +kernel) (by first | kernel_rfl | decide +kernel) (by rfl)
    · intro y hy xv xr Kc hK
      rw [hP]
      go_simp
      first | exact hK | (rw [if_neg (by omega)]; exact hK) | (rw [if_pos (by omega)]; exact hK)
    · intro y hy xv xr xe xhe
      rw [hP] at xhe
      simp [go_sem, *] at xhe
    · exact hS
    try walk_nrm
    co_applyP anyB_rd 10 rfl (by first | kernel_rfl | decide +kernel) (by first | kernel_rfl | decide +kernel) (by first | kernel_rfl | decide +kernel) (by first | kernel_rfl | decide +kernel) (by rfl)
    · intro y hy xv xr Kc hK
      rw [hP]
      go_simp
      first | exact hK | (rw [if_neg (by omega)]; exact hK) | (rw [if_pos (by omega)]; exact hK)
    · intro y hy xv xr xe xhe
      rw [hP] at xhe
      simp [go_sem, *] at xhe
    · exact hS
    try walk_nrm
    co_applyP anyB_rd 11 rfl (by first | kernel_rfl | decide +kernel) (by first | kernel_rfl | decide +kernel) (by first | kernel_rfl | decide +kernel) (by first | kernel_rfl | decide +kernel) (by rfl)
    · intro y hy xv xr Kc hK
      rw [hP]
      have xc0 := HasB.cell hy xr (o := 1) (show _ = some _ from rfl)
      go_simp
      first | exact hK | (rw [if_neg (by omega)]; exact hK) | (rw [if_pos (by omega)]; exact hK)
    · intro y hy xv xr xe xhe
      rw [hP] at xhe
      have xc0 := HasB.cell hy xr (o := 1) (show _ = some _ from rfl)
      simp [go_sem, *] at xhe
      all_goals (first | subst xhe | (rcases xhe with rfl | rfl) | (rcases xhe with rfl | rfl | rfl | rfl))
      all_goals (exact EvB.cell hy rfl _)
    · exact hS
    try walk_nrm
    co_applyP anyB_rd 12 rfl (by first | kernel_rfl | decide +kernel) (by first | kernel_rfl | decide +kernel) (by first | kernel_rfl | decide +kernel) (by first | kernel_rfl | decide +kernel) (by rfl)
    · intro y hy xv xr Kc hK
      rw [hP]
      go_simp
      first | exact hK | (rw [if_neg (by omega)]; exact hK) | (rw [if_pos (by omega)]; exact hK)
    · intro y hy xv xr xe xhe
      rw [hP] at xhe
      simp [go_sem, *] at xhe
    · exact hS
    try walk_nrm
    have b20 := atN_bd (k := IntKind.i64.wrap ((p j).tdiv 7)) (n := 20) (by omega)
    have c20 := atN_bd (k := IntKind.i64.wrap ((q j).tdiv 7)) (n := 20) (by omega)
    have hw1 : IntKind.i64.wrap (kD ti p q n j - atN (IntKind.i64.wrap ((p j).tdiv 7)) 20) = kDl ti p q n j := by rw [wrap_in (by omega)]; rfl
    have hw2 : IntKind.i64.wrap (kD ti p q n j + atN (IntKind.i64.wrap ((q j).tdiv 7)) 20) = kDh ti p q n j := by rw [wrap_in (by omega)]; rfl
    clear b20 c20 hdb
    co_applyP anyB_one (i := 7) (by first | kernel_rfl | decide +kernel) rfl (by rfl)
    refine actB_callV rfl (by first | (simp [Act.eval]; done) | (simp [Act.eval, spV]; done) | rfl) (at_ok B hP (IntKind.i64.wrap ((p j).tdiv 7)) 20 (by omega) x4) ?_
    rintro v x5 ⟨rfl, rfl⟩
    refine ⟨.inl hS, ?_⟩
    try walk_nrm
    co_applyP anyB_rd 8 rfl (by first | kernel_rfl | decide +kernel) (by first | kernel_rfl | decide +kernel) (by first | kernel_rfl | decide +kernel) (by first | kernel_rfl | decide +kernel) (by rfl)
    · intro y hy xv xr Kc hK
      rw [hP]
      go_simp
      first | exact hK | (rw [if_neg (by omega)]; exact hK) | (rw [if_pos (by omega)]; exact hK)
    · intro y hy xv xr xe xhe
      rw [hP] at xhe
      simp [go_sem, *] at xhe
    · exact hS
    try walk_nrm
    co_applyP anyB_one (i := 13) (by first | kernel_rfl | decide +kernel) rfl (by rfl)
    refine actB_callV rfl (by first | (simp [Act.eval]; done) | (simp [Act.eval, spV]; done) | rfl) (at_ok B hP (IntKind.i64.wrap ((q j).tdiv 7)) 20 (by omega) x5) ?_
    rintro v x6 ⟨rfl, rfl⟩
    refine ⟨.inl hS, ?_⟩
    try walk_nrm
    co_applyP anyB_rd 14 rfl (by first | kernel_rfl | decide +kernel) (by first | kernel_rfl | decide +kernel) (by first | kernel_rfl | decide +kernel) (by first | kernel_rfl | decide +kernel) (by rfl)
    · intro y hy xv xr Kc hK
      rw [hP]
      go_simp
      first | exact hK | (rw [if_neg (by omega)]; exact hK) | (rw [if_pos (by omega)]; exact hK)
    · intro y hy xv xr xe xhe
      rw [hP] at xhe
      simp [go_sem, *] at xhe
    · exact hS
    try walk_nrm
    co_applyP anyB_rd 15 rfl (by first | kernel_rfl | decide +kernel) (by first | kernel_rfl | decide +kernel) (by first | kernel_rfl | decide +kernel) (by first | kernel_rfl | decide +kernel) (by rfl)
    · intro y hy xv xr Kc hK
      rw [hP]
      go_simp
      first | exact hK | (rw [if_neg (by omega)]; exact hK) | (rw [if_pos (by omega)]; exact hK)
    · intro y hy xv xr xe xhe
      rw [hP] at xhe
      simp [go_sem, *] at xhe
    · exact hS
    try walk_nrm
    co_applyP anyB_rd 16 rfl (by first | kernel_rfl | decide +kernel) (by first | kernel_rfl | decide +kernel) (by first | kernel_rfl | decide +kernel) (by first | kernel_rfl | decide +kernel) (by rfl)
    · intro y hy xv xr Kc hK
      rw [hP]
      go_simp
      first | exact hK | (rw [if_neg (by omega)]; exact hK) | (rw [if_pos (by omega)]; exact hK)
    · intro y hy xv xr xe xhe
      rw [hP] at xhe
      simp [go_sem, *] at xhe
    · exact hS
    try walk_nrm
    co_applyP anyB_one (i := 17) (by first | kernel_rfl | decide +kernel) rfl (by rfl)
    refine actB_nw (ob := .cells #[.int .i64 ia, .int .i64 ib, .int .i64 (kDl ti p q n j), .int .i64 (kDh ti p q n j)] 39) (fun b => .slice (some ⟨b, 0, none⟩) 1 1) (fun xv xr Kc hK => ?_) (fun xv xr xe xhe => ?_) ?_
    · rw [hP]
      go_simp
      exact hK
    · rw [hP] at xhe
      simp [go_sem, *] at xhe
    intro x7 b7 m7 e7 h7 s7 q7
    refine ⟨.inl (h3.ext e7), ?_⟩
    try walk_nrm
    co_applyP anyB_one (i := 18) (by first | kernel_rfl | decide +kernel) rfl (by rfl)
    refine actB_append _ _ 26 rfl x.h.size 39 iS (.agg #[.int .i64 0, .int .i64 0, .int .i64 0, .int .i64 0]) 4 32 (by rw [hP]; exact Try.underlying26) (by rw [hP]; exact hS0) hS1 hS2 hS3 rfl (by omega)
      v12 j _ (by rfl) (hK2.ext e7) b7 0 1 1 _ _ _ [.int .i64 ia, .int .i64 ib, .int .i64 (kDl ti p q n j), .int .i64 (kDh ti p q n j)] (by rfl) (by rfl) h7 (fun i u hu => by rw [Nat.zero_add]; simpa using hu) (by simp [Value.oneCell']) (by unfold maxLen; omega) (by omega) (by have := r3.size; have := e7.size; omega) ?_
    intro v x8 g1 g2 g3
    have hS8 : HasB x8 b1 (.cells #[.int .i64 (p j), .int .i64 (q j)] 40) := (h3.ext e7).grw g2 (fun e => by have := hlt _ e; omega)
    refine ⟨.inl hS8, ?_⟩
    clear hS
    have hS := hS8
    try walk_nrm
    co_applyP anyB_rd 19 rfl (by first | kernel_rfl | decide +kernel) (by first | kernel_rfl | decide +kernel) (by first | kernel_rfl | decide +kernel) (by first | kernel_rfl | decide +kernel) (by rfl)
    · intro y hy xv xr Kc hK
      rw [hP]
      go_simp
      first | exact hK | (rw [if_neg (by omega)]; exact hK) | (rw [if_pos (by omega)]; exact hK)
    · intro y hy xv xr xe xhe
      rw [hP] at xhe
      simp [go_sem, *] at xhe
    · exact hS
    try walk_nrm
    refine anyB_done (by first | kernel_rfl | decide +kernel) ?_ _
    simp only [BThen, BBlock, if_true, if_false, reduceIte, Nat.reduceEqDiff]
    try walk_nrm
    have hO8 := (hO2.ext e7).grw g2 (OwnB.ne (hO2.ext e7) (hK2.ext e7) (by decide))
    have r8 := (r3.trans e7).grw g2 (fun k hk => (hK2.lt k hk).1)
    have hK8 : OwnB x8 x.h.size 39 4 v (j + 1) (linkL (kA p n) (kB p q n) (kDl ti p q n) (kDh ti p q n) (j + 1)) := by
      rw [linkL_succ, show kA p n j = (ia : Int) from kia.out, show kB p q n j = (ib : Int) from kib.out]
      exact g1
    clear hO2 hK2 r3 r4 g1 g2 g3 e7 h7 s7 q7 m7 hS hS8 h3 hw1 hw2
    have hw : IntKind.i64.wrap ((j : Int) + 1) = ((j + 1 : Nat) : Int) := by rw [wrap_in (by omega)]; simp
    repeat (refine wpB_seq ?_)
    refine wpB_region ?_
    simp only [List.size_toArray, List.length_cons, List.length_nil, Nat.reduceAdd, Nat.zero_add, List.range, List.range.loop]
    repeat (
      co_applyP opsB_rd rfl (by rfl)
      · intro xv xr Kc hK
        rw [hP]
        go_simp
        first | exact hK | (rw [if_neg (by omega)]; exact hK) | (rw [if_pos (by omega)]; exact hK)
      · intro xv xr xe xhe
        rw [hP] at xhe
        simp [go_sem, *] at xhe
      try walk_nrm
    )
    refine opsB_nil ?_
    simp only [BThen, BBlock, if_true, if_false, reduceIte, Nat.reduceEqDiff]
    clear hw
    refine ⟨⟨j + 1, v, by omega, by omega, by omega, ⟨rfl, rfl, rfl, rfl, rfl, rfl, rfl, by first | rfl | simp [FrAt], trivial⟩, r8, hO8, hK8⟩, ?_⟩
    simp [slotI]
    omega
  · clear ht
    refine wpB_exit ?_
    simp only [BThen, BBlock, if_true, if_false, reduceIte, Nat.reduceEqDiff]
    exact ⟨j, v12, hj20, hj2, ⟨rfl, rfl, rfl, rfl, trivial⟩, r0, hO, hK⟩
end Go.Proofs.Ytplmgbffaeohpaa
