/- Goroutine 0 beside goroutines that only leave: known, its first loop. -/
import Derived.Test.YtplmgbffaeohpaaBhK
set_option linter.unusedSimpArgs false
set_option linter.unusedVariables false
namespace Go.Beh
open Go.Conc
section
variable {x y : M} {base base' : Nat} {e e' : TypeId} {size size' n n' : Nat} {v v' : Value} {xs xs' : List Value} {row : Option Nat}
theorem OwnB.grw (h : OwnB x base e size v n xs) (r : Grw row x y) (hne : ∀ k, v.ownBlock = some k → row ≠ some k) : OwnB y base e size v n xs :=
  h.keep fun k hk => ⟨r.old k (h.lt k hk).2 (hne k hk), fun hs => h.ok k hk (r.S ▸ hs)⟩
/-- Rows of different types lie in different blocks. -/
theorem OwnB.ne (h : OwnB x base e size v n xs) (h' : OwnB x base' e' size' v' n' xs') (he : e ≠ e') : ∀ k, v.ownBlock = some k → v'.ownBlock ≠ some k := by
  intro k hk hk'
  have h1 := h.row { (default : World) with heap := x.h } rfl
  have h2 := h'.row { (default : World) with heap := x.h } rfl
  rcases h1.2 with ⟨rfl, _⟩ | ⟨g, cap, cur, rfl, _, hg, _⟩
  · simp [Value.ownBlock] at hk
  rcases h2.2 with ⟨rfl, _⟩ | ⟨g', cap', cur', rfl, _, hg', _⟩
  · simp [Value.ownBlock] at hk'
  simp only [Value.ownBlock, Option.some.injEq] at hk hk'
  subst hk
  subst hk'
  rw [hg] at hg'
  simp only [Option.some.injEq, Obj.cells.injEq] at hg'
  exact he hg'.2.1
theorem OwnB.none (h : OwnB x base e size v n xs) {A : Option Addr} {cap : Nat} (hv : v = .slice A n cap) (hA : A = Option.none) : n = 0 := by
  rcases Nat.eq_zero_or_pos n with h0 | h0
  · exact h0
  · obtain ⟨g, c, cur, hg, _⟩ := h.form h0
    rw [hv] at hg
    have := (Value.slice.inj hg).1
    rw [hA] at this
    cases this
end
end Go.Beh
namespace Go.Proofs.Ytplmgbffaeohpaa
open Go.Conc Go.Crew Go.Beh Go.RowKit

/-- The cells of a slice of integers. -/
def IntSl (x : Go.Beh.M) (A : Option Addr) (n : Nat) (f : Nat → Int) : Prop := 0 < n → ∃ b o cs e fr, A = some ⟨b, o, none⟩ ∧ HasB x b (.cells cs e fr) ∧ ∀ i, i < n → cs[o + i]? = some (.int .i64 (f i))
theorem IntSl.ext {x y : Go.Beh.M} {A : Option Addr} {n : Nat} {f : Nat → Int} (h : IntSl x A n f) (r : Ext x y) : IntSl y A n f := fun hn => by
  obtain ⟨b, o, cs, e, fr, h1, h2, h3⟩ := h hn
  exact ⟨b, o, cs, e, fr, h1, h2.ext r, h3⟩

def kLo (n1 : Nat) (ti elo : Nat → Int) (i : Nat) : Int := if i < n1 then (ti i).tmod 1000 - atN (elo i) 50 else -1000000
def kHi (n1 : Nat) (ti ehi : Nat → Int) (i : Nat) : Int := if i < n1 then (ti i).tmod 1000 + atN (ehi i) 50 else 1000000
theorem tmod_bd (x : Int) : -1000 < x.tmod 1000 ∧ x.tmod 1000 < 1000 := ⟨Int.lt_tmod_of_pos x (by omega), Int.tmod_lt_of_pos x (by omega)⟩

/-- What known holds behind its first loop. -/
def KnP (x : Go.Beh.M) (A0 A2 : Option Addr) (n0 n1 n2 c0 c2 : Nat) (ti elo ehi : Nat → Int) (a : Act) (y : Go.Beh.M) : Prop :=
  ∃ n v8, n ≤ 8 ∧ n ≤ n0 ∧ (n = n0 ∨ n = 8) ∧ Fr 120 [(0, .slice A0 n0 c0), (2, .slice A2 n2 c2), (8, v8)] a ∧ Ext x y ∧ OwnB y x.h.size 33 2 v8 n (spanL (kLo n1 ti elo) (kHi n1 ti ehi) n)

theorem infoSpanK : (Try.prog.info? 33).map (fun i => (i.zero, i.size, i.bytes)) = some (some (.agg #[.int .i64 0, .int .i64 0]), 2, 16) := by kernel_rfl

set_option maxHeartbeats 8000000 in
theorem known_loop1 (B : Base) (hP : B.P = Try.prog) (A0 A1 A2 : Option Addr) (n0 n1 n2 c0 c1 c2 : Nat) (ti elo ehi : Nat → Int) (x : Go.Beh.M) (h0 : IntSl x A0 n0 ti) (h1 : SpanSl x A1 n1 elo ehi)
    (u : Nat → Value) (Q : Exit → Act → Go.Beh.M → Prop) (hu0 : u 0 = .slice A0 n0 c0) (hu1 : u 1 = .slice A1 n1 c1) (hu2 : u 2 = .slice A2 n2 c2) (hu8 : u 8 = .slice none 0 0) (c : Code)
    (hc : c = match (Try.f7).body with | some (.seq _ (.seq _ (.seq c _))) => c | _ => .skip) :
    WpB B 7 c (BThen (KnP x A0 A2 n0 n1 n2 c0 c2 ti elo ehi) Q) ⟨((List.range 120).map u).toArray, []⟩ x := by
  subst hc
  simp only [Try.f7]
  simp only [List.range, List.range.loop, List.map_cons, List.map_nil, hu0, hu1, hu2, hu8]
  clear hu0 hu1 hu2 hu8
  obtain ⟨iS, hS0, hS1, hS2, hS3⟩ := info_parts infoSpanK
  repeat (refine wpB_seq ?_)
  refine wpB_region ?_
  simp only [List.size_toArray, List.length_cons, List.length_nil, Nat.reduceAdd, Nat.zero_add, List.range, List.range.loop]
  repeat (
    co_applyP opsB_rd rfl (by rfl)
    · intro xv xr Kc hK
      rw [hP]
      go_simp
      first | exact hK | (rw [if_neg (by omega)]; exact hK) | (rw [if_pos (by omega)]; exact hK)
    · intro xv xr xe xhe
      rw [hP] at xhe
      simp [go_sem, *] at xhe
    try walk_nrm
  )
  refine opsB_nil ?_
  simp only [BThen, BBlock, if_true, if_false, reduceIte, Nat.reduceEqDiff]
  refine wpB_block ?_
  refine wpB_loop (fun a y => ∃ (j : Nat) (v8 : Value), j ≤ n0 ∧ j ≤ 8 ∧ Fr 120 [(0, .slice A0 n0 c0), (1, .slice A1 n1 c1), (2, .slice A2 n2 c2), (8, v8), (18, .slice A0 n0 c0), (19, .int .i64 n0), (20, .int .i64 j)] a ∧ Ext x y ∧ OwnB y x.h.size 33 2 v8 j (spanL (kLo n1 ti elo) (kHi n1 ti ehi) j))
    (fun a _ => (n0 - slotI a 20).toNat) ⟨0, .slice none 0 0, by omega, by omega, ⟨rfl, rfl, rfl, rfl, rfl, rfl, rfl, rfl, rfl, trivial⟩, Ext.refl x, OwnB.nil x _ _ _⟩ ?_
  clear u
  rintro a y ⟨j, v8, hj, hj8, hs, r0, hO⟩
  obtain ⟨u, hu, hv⟩ := hs.lit
  simp only [List.range, List.range.loop, List.map_cons, List.map_nil] at hu
  obtain ⟨z0, z1, z2, z8, z18, z19, z20, -⟩ := hs.at_
  have y0 := (hv 0).trans z0
  have y1 := (hv 1).trans z1
  have y2 := (hv 2).trans z2
  have y8 := (hv 8).trans z8
  have y18 := (hv 18).trans z18
  have y19 := (hv 19).trans z19
  have y20 := (hv 20).trans z20
  rw [y0, y1, y2, y8, y18, y19, y20] at hu
  clear hv hs z0 z1 z2 z8 z18 z19 z20 y0 y1 y2 y8 y18 y19 y20
  subst hu
  repeat (refine wpB_seq ?_)
  refine wpB_region ?_
  simp only [List.size_toArray, List.length_cons, List.length_nil, Nat.reduceAdd, Nat.zero_add, List.range, List.range.loop]
  repeat (
    co_applyP opsB_rd rfl (by rfl)
    · intro xv xr Kc hK
      rw [hP]
      go_simp
      first | exact hK | (rw [if_neg (by omega)]; exact hK) | (rw [if_pos (by omega)]; exact hK)
    · intro xv xr xe xhe
      rw [hP] at xhe
      simp [go_sem, *] at xhe
    try walk_nrm
  )
  refine opsB_nil ?_
  simp only [BThen, BBlock, if_true, if_false, reduceIte, Nat.reduceEqDiff]
  repeat (refine wpB_seq ?_)
  refine wpB_split (t := decide ((j : Int) < n0)) (by first | rfl | simp [Act.eval]) (fun ht => ?_) (fun ht => ?_)
  · have hjn : j < n0 := by have := of_decide_eq_true ht; omega
    clear ht
    refine wpB_skip ?_
    simp only [BThen, BBlock, if_true, if_false, reduceIte, Nat.reduceEqDiff]
    repeat (refine wpB_seq ?_)
    refine wpB_block ?_
    obtain ⟨b, o, cs, e, f, rfl, hH, p1⟩ := (h0.ext r0) (by omega)
    have hj' : (j : Int) < (n0 : Int) := by omega
    repeat (refine wpB_seq ?_)
    refine wpB_region ?_
    simp only [List.size_toArray, List.length_cons, List.length_nil, Nat.reduceAdd, Nat.zero_add, List.range, List.range.loop]
    repeat (
      co_applyP opsB_rd rfl (by rfl)
      · intro xv xr Kc hK
        rw [hP]
        go_simp
        first | exact hK | (rw [if_neg (by omega)]; exact hK) | (rw [if_pos (by omega)]; exact hK)
      · intro xv xr xe xhe
        rw [hP] at xhe
        simp [go_sem, *] at xhe
      try walk_nrm
    )
    co_applyP opsB_rd rfl (by rfl)
    · intro xv xr Kc hK
      rw [hP]
      have xc0 := HasB.cell hH xr (o := o + j) (v := _) (p1 j hjn)
      go_simp
      first | exact hK | (rw [if_neg (by omega)]; exact hK) | (rw [if_pos (by omega)]; exact hK)
    · intro xv xr xe xhe
      rw [hP] at xhe
      have xc0 := HasB.cell hH xr (o := o + j) (v := _) (p1 j hjn)
      simp [go_sem, *] at xhe
      all_goals (first | subst xhe | (rcases xhe with rfl | rfl) | (rcases xhe with rfl | rfl | rfl | rfl))
      all_goals (exact EvB.cell hH rfl _)
    try walk_nrm
    repeat (
      co_applyP opsB_rd rfl (by rfl)
      · intro xv xr Kc hK
        rw [hP]
        go_simp
        first | exact hK | (rw [if_neg (by omega)]; exact hK) | (rw [if_pos (by omega)]; exact hK)
      · intro xv xr xe xhe
        rw [hP] at xhe
        simp [go_sem, *] at xhe
      try walk_nrm
    )
    refine opsB_nil ?_
    simp only [BThen, BBlock, if_true, if_false, reduceIte, Nat.reduceEqDiff]
    repeat (refine wpB_seq ?_)
    refine wpB_region ?_
    simp only [List.size_toArray, List.length_cons, List.length_nil, Nat.reduceAdd, Nat.zero_add, List.range, List.range.loop]
    repeat (
      co_applyP opsB_rd rfl (by rfl)
      · intro xv xr Kc hK
        rw [hP]
        go_simp
        first | exact hK | (rw [if_neg (by omega)]; exact hK) | (rw [if_pos (by omega)]; exact hK)
      · intro xv xr xe xhe
        rw [hP] at xhe
        simp [go_sem, *] at xhe
      try walk_nrm
    )
    refine opsB_nil ?_
    simp only [BThen, BBlock, if_true, if_false, reduceIte, Nat.reduceEqDiff]
    repeat (refine wpB_seq ?_)
    refine wpB_split (t := ((j : Int) == 8)) (by first | rfl | simp [Act.eval]) (fun ht => ?_) (fun ht => ?_)
    · have h8 : j = 8 := by have := beq_iff_eq.1 ht; omega
      clear ht
      refine wpB_exit ?_
      simp only [BThen, BBlock, if_true, if_false, reduceIte, Nat.reduceEqDiff]
      exact ⟨j, v8, hj8, by omega, .inr h8, ⟨rfl, rfl, rfl, rfl, rfl, trivial⟩, r0, hO⟩
    have h8 : j < 8 := by
      have : (j : Int) ≠ 8 := by simpa using ht
      omega
    clear ht
    refine wpB_skip ?_
    simp only [BThen, BBlock, if_true, if_false, reduceIte, Nat.reduceEqDiff]
    repeat (refine wpB_seq ?_)
    refine wpB_region ?_
    simp only [List.size_toArray, List.length_cons, List.length_nil, Nat.reduceAdd, Nat.zero_add, List.range, List.range.loop]
    repeat (
      co_applyP opsB_rd rfl (by rfl)
      · intro xv xr Kc hK
        rw [hP]
        go_simp
        first | exact hK | (rw [if_neg (by omega)]; exact hK) | (rw [if_pos (by omega)]; exact hK)
      · intro xv xr xe xhe
        rw [hP] at xhe
        simp [go_sem, *] at xhe
      try walk_nrm
    )
    co_applyP opsB_nw (fun b => .pointer (some ⟨b, 0, none⟩)) rfl (by rfl)
    · intro xv xr Kc hK
      rw [hP]
      go_simp
      first | exact hK | (rw [if_neg (by omega)]; exact hK) | (rw [if_pos (by omega)]; exact hK)
    · intro xv xr xe xhe
      rw [hP] at xhe
      simp [go_sem, *] at xhe
    intro x1 b1 m1 r1 h2 s1 q1
    try walk_nrm
    co_applyP opsB_wr h2 rfl (by rfl)
    · intro xv xr xb Kc hK
      rw [hP]
      have xc0 := Go.Crew.cell_of xb (o := 0) (show _ = some _ from rfl)
      have xf0 : xv.frozen? ⟨b1, 0, none⟩ = false := by simp [World.frozen?, xb]
      have xc1 := Go.Crew.cell_of xb (o := 1) (show _ = some _ from rfl)
      have xf1 : xv.frozen? ⟨b1, 1, none⟩ = false := by simp [World.frozen?, xb]
      go_simp
      (try unfold stored; go_simp)
      refine hK _ ?_
      rw [Go.Crew.setCell_blk xb, Go.Crew.setCell_blk (Go.Crew.setBlk_self (Go.Crew.lt_of_some xb)), Go.Crew.setBlk_setBlk]
      (try rfl)
    · intro xv xr xb xe xhe
      rw [hP] at xhe
      have xc0 := Go.Crew.cell_of xb (o := 0) (show _ = some _ from rfl)
      have xf0 : xv.frozen? ⟨b1, 0, none⟩ = false := by simp [World.frozen?, xb]
      have xc1 := Go.Crew.cell_of xb (o := 1) (show _ = some _ from rfl)
      have xf1 : xv.frozen? ⟨b1, 1, none⟩ = false := by simp [World.frozen?, xb]
      simp [go_sem, storedEv, *] at xhe
      all_goals (first | subst xhe | (rcases xhe with rfl | rfl) | (rcases xhe with rfl | rfl | rfl | rfl))
      all_goals (exact EvB.cell h2 rfl _)
    try walk_nrm
    intro x2 r2 h3
    have r3 : Ext x x2 := (r0.trans r1).chg r2 (by have := r0.size; omega)
    have r4 : Ext y x2 := ((Ext.refl y).trans r1).chg r2 (by omega)
    have hO2 := hO.ext r4
    have hb1 : y.h.size ≤ b1 := by omega
    have hlt : ∀ k, v8.ownBlock = some k → k < b1 := fun k hk => by have := (hO.lt k hk).2; omega
    have hxb : x.h.size ≤ b1 := by have := r0.size; omega
    clear r1 h2 s1 q1 r2 m1 hH p1 hO
    refine opsB_nil ?_
    simp only [BThen, BBlock, if_true, if_false, reduceIte, Nat.reduceEqDiff]
    refine wpB_seq ?_
    refine wpB_to (fun a z => Fr 120 [(0, .slice (some ⟨b, o, none⟩) n0 c0), (1, .slice A1 n1 c1), (2, .slice A2 n2 c2), (8, v8), (11, .pointer (some ⟨b1, 0, none⟩)), (18, .slice (some ⟨b, o, none⟩) n0 c0), (19, .int .i64 n0), (20, .int .i64 j)] a ∧
      Ext x z ∧ OwnB z x.h.size 33 2 v8 j (spanL (kLo n1 ti elo) (kHi n1 ti ehi) j) ∧ HasB z b1 (.cells #[.int .i64 (kLo n1 ti elo j), .int .i64 (kHi n1 ti ehi j)] 33)) ?_ ?_
    · repeat (refine wpB_seq ?_)
      refine wpB_region ?_
      simp only [List.size_toArray, List.length_cons, List.length_nil, Nat.reduceAdd, Nat.zero_add, List.range, List.range.loop]
      repeat (
        co_applyP opsB_rd rfl (by rfl)
        · intro xv xr Kc hK
          rw [hP]
          go_simp
          first | exact hK | (rw [if_neg (by omega)]; exact hK) | (rw [if_pos (by omega)]; exact hK)
        · intro xv xr xe xhe
          rw [hP] at xhe
          simp [go_sem, *] at xhe
        try walk_nrm
      )
      refine opsB_nil ?_
      simp only [BThen, BBlock, if_true, if_false, reduceIte, Nat.reduceEqDiff]
      repeat (refine wpB_seq ?_)
      refine wpB_split (t := decide ((j : Int) < n1)) (by first | rfl | simp [Act.eval]) (fun ht => ?_) (fun ht => ?_)
      · have hj1 : j < n1 := by have := of_decide_eq_true ht; omega
        clear ht
        obtain ⟨be, oe, ce, ee, fe, rfl, hE, q1, q2⟩ := (h1.ext r3) (by omega)
        have hne : be ≠ b1 := by
          obtain ⟨be', oe', ce', ee', fe', hA, hE', _⟩ := (h1.ext r0) (by omega)
          have e1 := (Option.some.inj hA)
          have e2 : be = be' := by have := congrArg Addr.block e1; simpa using this
          have := hE'.lt
          omega
        have bl := atN_bd (k := elo j) (n := 50) (by omega)
        have bh := atN_bd (k := ehi j) (n := 50) (by omega)
        have bt := tmod_bd (ti j)
        have hw1 : IntKind.i64.wrap ((ti j).tmod 1000 - atN (elo j) 50) = kLo n1 ti elo j := by rw [wrap_in (by omega)]; unfold kLo; rw [if_pos hj1]
        have hw2 : IntKind.i64.wrap ((ti j).tmod 1000 + atN (ehi j) 50) = kHi n1 ti ehi j := by rw [wrap_in (by omega)]; unfold kHi; rw [if_pos hj1]
        clear bl bh bt
        have hj1' : (j : Int) < (n1 : Int) := by omega
        refine wpB_region_held (S := (fun y' => HasB y' be (.cells ce ee fe))) 99 (by rw [hP]; first | kernel_rfl | rfl) ?_
        have hS : ((fun y' => HasB y' be (.cells ce ee fe))) x2 := hE
        simp only [List.size_toArray, List.length_cons, List.length_nil, Nat.reduceAdd, Nat.zero_add]
        co_applyP anyB_rd 0 rfl (by first | kernel_rfl | decide +kernel) (by first | kernel_rfl | decide +kernel) (by first | kernel_rfl | decide +kernel) (by first | kernel_rfl | decide +kernel) (by rfl)
        · intro y hy xv xr Kc hK
          rw [hP]
          go_simp
          first | exact hK | (rw [if_neg (by omega)]; exact hK) | (rw [if_pos (by omega)]; exact hK)
        · intro y hy xv xr xe xhe
          rw [hP] at xhe
          simp [go_sem, *] at xhe
        · exact hS
        try walk_nrm
        co_applyP anyB_rd 1 rfl (by first | kernel_rfl | decide +kernel) (by first | kernel_rfl | decide +kernel) (by first | kernel_rfl | decide +kernel) (by first | kernel_rfl | decide +kernel) (by rfl)
        · intro y hy xv xr Kc hK
          rw [hP]
          go_simp
          first | exact hK | (rw [if_neg (by omega)]; exact hK) | (rw [if_pos (by omega)]; exact hK)
        · intro y hy xv xr xe xhe
          rw [hP] at xhe
          simp [go_sem, *] at xhe
        · exact hS
        try walk_nrm
        co_applyP anyB_rd 2 rfl (by first | kernel_rfl | decide +kernel) (by first | kernel_rfl | decide +kernel) (by first | kernel_rfl | decide +kernel) (by first | kernel_rfl | decide +kernel) (by rfl)
        · intro y hy xv xr Kc hK
          rw [hP]
          go_simp
          first | exact hK | (rw [if_neg (by omega)]; exact hK) | (rw [if_pos (by omega)]; exact hK)
        · intro y hy xv xr xe xhe
          rw [hP] at xhe
          simp [go_sem, *] at xhe
        · exact hS
        try walk_nrm
        co_applyP anyB_rd 3 rfl (by first | kernel_rfl | decide +kernel) (by first | kernel_rfl | decide +kernel) (by first | kernel_rfl | decide +kernel) (by first | kernel_rfl | decide +kernel) (by rfl)
        · intro y hy xv xr Kc hK
          rw [hP]
          go_simp
          first | exact hK | (rw [if_neg (by omega)]; exact hK) | (rw [if_pos (by omega)]; exact hK)
        · intro y hy xv xr xe xhe
          rw [hP] at xhe
          simp [go_sem, *] at xhe
        · exact hS
        try walk_nrm
        co_applyP anyB_rd 4 rfl (by first | kernel_rfl | decide +kernel) (by first | kernel_rfl | decide +kernel) (by first | kernel_rfl | decide +kernel) (by first | kernel_rfl | decide +kernel) (by rfl)
        · intro y hy xv xr Kc hK
          rw [hP]
          go_simp
          first | exact hK | (rw [if_neg (by omega)]; exact hK) | (rw [if_pos (by omega)]; exact hK)
        · intro y hy xv xr xe xhe
          rw [hP] at xhe
          simp [go_sem, *] at xhe
        · exact hS
        try walk_nrm
        co_applyP anyB_rd 5 rfl (by first | kernel_rfl | decide +kernel) (by first | kernel_rfl | decide +kernel) (by first | kernel_rfl | decide +kernel) (by first | kernel_rfl | decide +kernel) (by rfl)
        · intro y hy xv xr Kc hK
          rw [hP]
          go_simp
          first | exact hK | (rw [if_neg (by omega)]; exact hK) | (rw [if_pos (by omega)]; exact hK)
        · intro y hy xv xr xe xhe
          rw [hP] at xhe
          simp [go_sem, *] at xhe
        · exact hS
        try walk_nrm
        co_applyP anyB_rd 6 rfl (by first | kernel_rfl | decide +kernel) (by first | kernel_rfl | decide +kernel) (by first | kernel_rfl | decide +kernel) (by first | kernel_rfl | decide +kernel) (by rfl)
        · intro y hy xv xr Kc hK
          rw [hP]
          have xc0 := HasB.cell hy xr (o := oe + j * 2) (v := _) (q1 j hj1)
          go_simp
          first | exact hK | (rw [if_neg (by omega)]; exact hK) | (rw [if_pos (by omega)]; exact hK)
        · intro y hy xv xr xe xhe
          rw [hP] at xhe
          have xc0 := HasB.cell hy xr (o := oe + j * 2) (v := _) (q1 j hj1)
          simp [go_sem, *] at xhe
          all_goals (first | subst xhe | (rcases xhe with rfl | rfl) | (rcases xhe with rfl | rfl | rfl | rfl))
          all_goals (exact EvB.cell hy rfl _)
        · exact hS
        try walk_nrm
        co_applyP anyB_rd 9 rfl (by first | kernel_rfl | decide +kernel) (by first | kernel_rfl | decide +kernel) (by first | kernel_rfl | decide +kernel) (by first | kernel_rfl | decide +kernel) (by rfl)
        · intro y hy xv xr Kc hK
          rw [hP]
          go_simp
          first | exact hK | (rw [if_neg (by omega)]; exact hK) | (rw [if_pos (by omega)]; exact hK)
        · intro y hy xv xr xe xhe
          rw [hP] at xhe
          simp [go_sem, *] at xhe
        · exact hS
        try walk_nrm
        co_applyP anyB_rd 10 rfl (by first | kernel_rfl | decide +kernel) (by first | kernel_rfl | decide +kernel) (by first | kernel_rfl | decide +kernel) (by first | kernel_rfl | decide +kernel) (by rfl)
        · intro y hy xv xr Kc hK
          rw [hP]
          go_simp
          first | exact hK | (rw [if_neg (by omega)]; exact hK) | (rw [if_pos (by omega)]; exact hK)
        · intro y hy xv xr xe xhe
          rw [hP] at xhe
          simp [go_sem, *] at xhe
        · exact hS
        try walk_nrm
        co_applyP anyB_rd 11 rfl (by first | kernel_rfl | decide +kernel) (by first | kernel_rfl | decide +kernel) (by first | kernel_rfl | decide +kernel) (by first | kernel_rfl | decide +kernel) (by rfl)
        · intro y hy xv xr Kc hK
          rw [hP]
          go_simp
          first | exact hK | (rw [if_neg (by omega)]; exact hK) | (rw [if_pos (by omega)]; exact hK)
        · intro y hy xv xr xe xhe
          rw [hP] at xhe
          simp [go_sem, *] at xhe
        · exact hS
        try walk_nrm
        co_applyP anyB_rd 12 rfl (by first | kernel_rfl | decide +kernel) (by first | kernel_rfl | decide +kernel) (by first | kernel_rfl | decide +kernel) (by first | kernel_rfl | decide +kernel) (by rfl)
        · intro y hy xv xr Kc hK
          rw [hP]
          go_simp
          first | exact hK | (rw [if_neg (by omega)]; exact hK) | (rw [if_pos (by omega)]; exact hK)
        · intro y hy xv xr xe xhe
          rw [hP] at xhe
          simp [go_sem, *] at xhe
        · exact hS
        try walk_nrm
        co_applyP anyB_rd 13 rfl (by first | kernel_rfl | decide +kernel) (by first | kernel_rfl | decide +kernel) (by first | kernel_rfl | decide +kernel) (by first | kernel_rfl | decide +kernel) (by rfl)
        · intro y hy xv xr Kc hK
          rw [hP]
          go_simp
          first | exact hK | (rw [if_neg (by omega)]; exact hK) | (rw [if_pos (by omega)]; exact hK)
        · intro y hy xv xr xe xhe
          rw [hP] at xhe
          simp [go_sem, *] at xhe
        · exact hS
        try walk_nrm
        co_applyP anyB_rd 14 rfl (by first | kernel_rfl | decide +kernel) (by first | kernel_rfl | decide +kernel) (by first | kernel_rfl | decide +kernel) (by first | kernel_rfl | decide +kernel) (by rfl)
        · intro y hy xv xr Kc hK
          rw [hP]
          go_simp
          first | exact hK | (rw [if_neg (by omega)]; exact hK) | (rw [if_pos (by omega)]; exact hK)
        · intro y hy xv xr xe xhe
          rw [hP] at xhe
          simp [go_sem, *] at xhe
        · exact hS
        try walk_nrm
        co_applyP anyB_rd 15 rfl (by first | kernel_rfl | decide +kernel) (by first | kernel_rfl | decide +kernel) (by first | kernel_rfl | decide +kernel) (by first | kernel_rfl | decide +kernel) (by rfl)
        · intro y hy xv xr Kc hK
          rw [hP]
          have xc0 := HasB.cell hy xr (o := oe + j * 2 + 1) (v := _) (q2 j hj1)
          go_simp
          first | exact hK | (rw [if_neg (by omega)]; exact hK) | (rw [if_pos (by omega)]; exact hK)
        · intro y hy xv xr xe xhe
          rw [hP] at xhe
          have xc0 := HasB.cell hy xr (o := oe + j * 2 + 1) (v := _) (q2 j hj1)
          simp [go_sem, *] at xhe
          all_goals (first | subst xhe | (rcases xhe with rfl | rfl) | (rcases xhe with rfl | rfl | rfl | rfl))
          all_goals (exact EvB.cell hy rfl _)
        · exact hS
        try walk_nrm
        co_applyP anyB_one (i := 7) (by first | kernel_rfl | decide +kernel) rfl (by rfl)
        refine actB_callV rfl (by first | (simp [Act.eval]; done) | (simp [Act.eval, spV]; done) | rfl) (at_ok B hP (elo j) 50 (by omega) x2) ?_
        rintro v x3 ⟨rfl, rfl⟩
        refine ⟨.inl hS, ?_⟩
        try walk_nrm
        co_applyP anyB_rd 8 rfl (by first | kernel_rfl | decide +kernel) (by first | kernel_rfl | decide +kernel) (by first | kernel_rfl | decide +kernel) (by first | kernel_rfl | decide +kernel) (by rfl)
        · intro y hy xv xr Kc hK
          rw [hP]
          go_simp
          first | exact hK | (rw [if_neg (by omega)]; exact hK) | (rw [if_pos (by omega)]; exact hK)
        · intro y hy xv xr xe xhe
          rw [hP] at xhe
          simp [go_sem, *] at xhe
        · exact hS
        try walk_nrm
        co_applyP anyB_one (i := 16) (by first | kernel_rfl | decide +kernel) rfl (by rfl)
        refine actB_callV rfl (by first | (simp [Act.eval]; done) | (simp [Act.eval, spV]; done) | rfl) (at_ok B hP (ehi j) 50 (by omega) x3) ?_
        rintro v x4 ⟨rfl, rfl⟩
        refine ⟨.inl hS, ?_⟩
        try walk_nrm
        co_applyP anyB_rd 17 rfl (by first | kernel_rfl | decide +kernel) (by first | kernel_rfl | decide +kernel) (by first | kernel_rfl | decide +kernel) (by first | kernel_rfl | decide +kernel) (by rfl)
        · intro y hy xv xr Kc hK
          rw [hP]
          go_simp
          first | exact hK | (rw [if_neg (by omega)]; exact hK) | (rw [if_pos (by omega)]; exact hK)
        · intro y hy xv xr xe xhe
          rw [hP] at xhe
          simp [go_sem, *] at xhe
        · exact hS
        try walk_nrm
        co_applyP anyB_rd 18 rfl (by first | kernel_rfl | decide +kernel) (by first | kernel_rfl | decide +kernel) (by first | kernel_rfl | decide +kernel) (by first | kernel_rfl | decide +kernel) (by rfl)
        · intro y hy xv xr Kc hK
          rw [hP]
          go_simp
          first | exact hK | (rw [if_neg (by omega)]; exact hK) | (rw [if_pos (by omega)]; exact hK)
        · intro y hy xv xr xe xhe
          rw [hP] at xhe
          simp [go_sem, *] at xhe
        · exact hS
        try walk_nrm
        co_applyP anyB_one (i := 19) (by first | kernel_rfl | decide +kernel) rfl (by rfl)
        refine actB_wr (ob' := .cells #[.int .i64 (kLo n1 ti elo j), .int .i64 (kHi n1 ti ehi j)] 33) h3 (fun xv xr xb Kc hK => ?_) (fun xv xr xb xe xhe => ?_) ?_
        · rw [hP]
          have xc0 := Go.Crew.cell_of xb (o := 0) (show _ = some _ from rfl)
          have xf0 : xv.frozen? ⟨b1, 0, none⟩ = false := by simp [World.frozen?, xb]
          have xc1 := Go.Crew.cell_of xb (o := 1) (show _ = some _ from rfl)
          have xf1 : xv.frozen? ⟨b1, 1, none⟩ = false := by simp [World.frozen?, xb]
          go_simp
          (try unfold stored; go_simp)
          refine hK _ ?_
          rw [Go.Crew.setCell_blk xb, Go.Crew.setCell_blk (Go.Crew.setBlk_self (Go.Crew.lt_of_some xb)), Go.Crew.setBlk_setBlk]
          (try rfl)
        · rw [hP] at xhe
          have xc0 := Go.Crew.cell_of xb (o := 0) (show _ = some _ from rfl)
          have xf0 : xv.frozen? ⟨b1, 0, none⟩ = false := by simp [World.frozen?, xb]
          have xc1 := Go.Crew.cell_of xb (o := 1) (show _ = some _ from rfl)
          have xf1 : xv.frozen? ⟨b1, 1, none⟩ = false := by simp [World.frozen?, xb]
          simp [go_sem, storedEv, *] at xhe
          all_goals (first | subst xhe | (rcases xhe with rfl | rfl))
          all_goals (exact EvB.cell h3 rfl _)
        intro x5 r5 h5
        refine ⟨.inl (hE.chg r5 hne), ?_⟩
        try walk_nrm
        refine anyB_done (by first | kernel_rfl | decide +kernel) ?_ _
        simp only [BThen, BBlock, if_true, if_false, reduceIte, Nat.reduceEqDiff]
        try walk_nrm
        exact ⟨⟨rfl, rfl, rfl, rfl, rfl, rfl, rfl, rfl, rfl, rfl, trivial⟩, r3.chg r5 hxb, hO2.chg r5 (fun k hk => by have := hlt k hk; omega), h5⟩
      · have hj1 : ¬ j < n1 := by have := of_decide_eq_false ht; omega
        clear ht
        refine wpB_skip ?_
        simp only [BThen, BBlock, if_true, if_false, reduceIte, Nat.reduceEqDiff]
        refine ⟨⟨rfl, rfl, rfl, rfl, rfl, rfl, rfl, rfl, rfl, rfl, trivial⟩, r3, hO2, ?_⟩
        unfold kLo kHi
        rw [if_neg hj1, if_neg hj1]
        exact h3
    · clear r3 r4 hO2 h3 hlt
      rintro a z ⟨hs, r3, hO, hb⟩
      obtain ⟨u, hu, hv⟩ := hs.lit
      simp only [List.range, List.range.loop, List.map_cons, List.map_nil] at hu
      obtain ⟨z0, z1, z2, z8, z11, z18, z19, z20, -⟩ := hs.at_
      have y0 := (hv 0).trans z0
      have y1 := (hv 1).trans z1
      have y2 := (hv 2).trans z2
      have y8 := (hv 8).trans z8
      have y11 := (hv 11).trans z11
      have y18 := (hv 18).trans z18
      have y19 := (hv 19).trans z19
      have y20 := (hv 20).trans z20
      rw [y0, y1, y2, y8, y11, y18, y19, y20] at hu
      clear hv hs z0 z1 z2 z8 z11 z18 z19 z20 y0 y1 y2 y8 y11 y18 y19 y20
      subst hu
      repeat (refine wpB_seq ?_)
      refine wpB_region ?_
      simp only [List.size_toArray, List.length_cons, List.length_nil, Nat.reduceAdd, Nat.zero_add, List.range, List.range.loop]
      repeat (
        co_applyP opsB_rd rfl (by rfl)
        · intro xv xr Kc hK
          rw [hP]
          go_simp
          first | exact hK | (rw [if_neg (by omega)]; exact hK) | (rw [if_pos (by omega)]; exact hK)
        · intro xv xr xe xhe
          rw [hP] at xhe
          simp [go_sem, *] at xhe
        try walk_nrm
      )
      co_applyP opsB_rd rfl (by rfl)
      · intro xv xr Kc hK
        rw [hP]
        have xc0 := HasB.cell hb xr (o := 0) (show _ = some _ from rfl)
        have xc1 := HasB.cell hb xr (o := 1) (show _ = some _ from rfl)
        go_simp
        first | exact hK | (rw [if_neg (by omega)]; exact hK) | (rw [if_pos (by omega)]; exact hK)
      · intro xv xr xe xhe
        rw [hP] at xhe
        have xc0 := HasB.cell hb xr (o := 0) (show _ = some _ from rfl)
        have xc1 := HasB.cell hb xr (o := 1) (show _ = some _ from rfl)
        simp [go_sem, *] at xhe
        all_goals (first | subst xhe | (rcases xhe with rfl | rfl) | (rcases xhe with rfl | rfl | rfl | rfl))
        all_goals (exact EvB.cell hb rfl _)
      try walk_nrm
      co_applyP opsB_nw (fun b => .slice (some ⟨b, 0, none⟩) 1 1) rfl (by rfl)
      · intro xv xr Kc hK
        rw [hP]
        go_simp
        exact hK
      · intro xv xr xe xhe
        rw [hP] at xhe
        simp [go_sem, *] at xhe
      intro z1 b2 m2 e2 h4 s2 q2
      try walk_nrm
      refine opsB_append _ _ 23 rfl (by rfl) rfl x.h.size 33 iS (.agg #[.int .i64 0, .int .i64 0]) 2 16 (by rw [hP]; exact Try.underlying23) (by rw [hP]; exact hS0) hS1 hS2 hS3 rfl (by omega)
        v8 j _ (by rfl) (hO.ext e2) b2 0 1 1 _ _ _ [.int .i64 (kLo n1 ti elo j), .int .i64 (kHi n1 ti ehi j)] (by rfl) (by rfl) h4 (fun i u hu => by rw [Nat.zero_add]; simpa using hu) (by simp [Value.oneCell']) (by unfold maxLen; omega) (by omega) (by have := r3.size; have := e2.size; omega) ?_
      intro v z2 g1 g2 g3
      try walk_nrm
      repeat (
        co_applyP opsB_rd rfl (by rfl)
        · intro xv xr Kc hK
          rw [hP]
          go_simp
          first | exact hK | (rw [if_neg (by omega)]; exact hK) | (rw [if_pos (by omega)]; exact hK)
        · intro xv xr xe xhe
          rw [hP] at xhe
          simp [go_sem, *] at xhe
        try walk_nrm
      )
      refine opsB_nil ?_
      simp only [BThen, BBlock, if_true, if_false, reduceIte, Nat.reduceEqDiff]
      have hw : IntKind.i64.wrap ((j : Int) + 1) = ((j + 1 : Nat) : Int) := by rw [wrap_in (by omega)]; simp
      repeat (refine wpB_seq ?_)
      refine wpB_region ?_
      simp only [List.size_toArray, List.length_cons, List.length_nil, Nat.reduceAdd, Nat.zero_add, List.range, List.range.loop]
      repeat (
        co_applyP opsB_rd rfl (by rfl)
        · intro xv xr Kc hK
          rw [hP]
          go_simp
          first | exact hK | (rw [if_neg (by omega)]; exact hK) | (rw [if_pos (by omega)]; exact hK)
        · intro xv xr xe xhe
          rw [hP] at xhe
          simp [go_sem, *] at xhe
        try walk_nrm
      )
      refine opsB_nil ?_
      simp only [BThen, BBlock, if_true, if_false, reduceIte, Nat.reduceEqDiff]
      clear hw
      refine ⟨⟨j + 1, v, by omega, by omega, ⟨rfl, rfl, rfl, rfl, rfl, rfl, rfl, rfl, by first | rfl | simp [FrAt], trivial⟩, (r3.trans e2).grw g2 (fun k hk => (hO.lt k hk).1), ?_⟩, ?_⟩
      · rw [spanL_succ]; exact g1
      · simp [slotI]
        omega
  · have hjn : j = n0 := by have := of_decide_eq_false ht; omega
    clear ht
    refine wpB_exit ?_
    simp only [BThen, BBlock, if_true, if_false, reduceIte, Nat.reduceEqDiff]
    exact ⟨j, v8, hj8, by omega, .inl hjn, ⟨rfl, rfl, rfl, rfl, rfl, trivial⟩, r0, hO⟩
end Go.Proofs.Ytplmgbffaeohpaa
