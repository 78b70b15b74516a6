/- round, from its entry till behind Wait. -/
import Derived.Test.YtplmgbffaeohpaaCoGo
import Derived.Test.YtplmgbffaeohpaaCoN
import Derived.Conc.AppendWalk
namespace Go.Proofs.Ytplmgbffaeohpaa
open Go.Conc Go.Crew Go.RowKit Go.ConcR Go.ConcR.Gen Go.Conc.Lib
set_option linter.unusedSimpArgs false
set_option linter.unusedVariables false

theorem infoSpanN : (Try.prog.info? 33).map (fun i => (i.zero, i.size, i.bytes)) = some (some (.agg #[.int .i64 0, .int .i64 0]), 2, 16) := by kernel_rfl

@[go_sem] theorem ev_store_slice (P : Program) (w : World) (es : Array Event) (a : Addr) (m : Mode) (b : Option Addr) (l c : Nat) : (store a (.slice b l c) m).events P w es = storedEv P w es a (.slice b l c) m := events_store P w es a _ m rfl

/-- What stands to be done behind the loop. -/
noncomputable def body14 : Code := (Try.f14).body.getD .skip
noncomputable def tail14 : Code := match body14 with
  | .seq _ (.seq _ (.seq _ (.seq _ c))) => c
  | _ => .skip
noncomputable def rest14 : Code := match tail14 with
  | .seq _ c => c
  | _ => .skip
noncomputable def ops14 : Array Oper := match tail14 with
  | .seq (.region _ ops _) _ => ops
  | _ => #[]

/-- round's frame at the head of its loop. -/
structure RSt (B W q : Nat) (a : Act) : Prop where
  ds : a.defers = []
  sz : a.tmps.size = 25
  s3 : a.tmps.getD 3 undef = .pointer (some ⟨B, 0, none⟩)
  s4 : a.tmps.getD 4 undef = .pointer (some ⟨B + 1, 0, none⟩)
  s5 : a.tmps.getD 5 undef = .pointer (some ⟨B + 2, 0, none⟩)
  s8 : a.tmps.getD 8 undef = .pointer (some ⟨B + 4, 0, none⟩)
  s9 : a.tmps.getD 9 undef = .pointer (some ⟨B + 5, 0, none⟩)
  s14 : a.tmps.getD 14 undef = .int .i64 W
  s15 : a.tmps.getD 15 undef = .int .i64 q

/-- .. and what it holds of memory. -/
structure RI (K : Crew) (B W n m q : Nat) (lb kb : Option Addr) (capl capk : Nat) (x : Sx) : Prop where
  z0 : Z x B (.cells #[.slice lb n capl] 23)
  z1 : Z x (B + 1) (.cells #[.slice kb m capk] 26)
  z2 : Z x (B + 2) (.cells #[.int .i64 W] 3)
  z4 : Z x (B + 4) (.cells #[.slice (some ⟨K.C, 0, none⟩) n n] 23)
  row : RowSz K 33 (n * 2) x
  tag : x.tag = .opn
  d0 : Deaf x.t 0 = 0
  num : x.num = K.c + q

/-- Where goroutine 0 stands behind Wait. -/
def AtJoin (K : Crew) (B n : Nat) (b0 : Frame) (k0 : List Item) (cs : List Frame) (g : Goroutine) (x : Sx) : Prop :=
  x.tag = .done ∧ Deaf x.t 0 = 0 ∧ Z x (B + 4) (.cells #[.slice (some ⟨K.C, 0, none⟩) n n] 23) ∧ RowSz K 33 (n * 2) x ∧ x.num = K.c + K.n ∧
    ∃ u : Nat → Value, u 8 = .pointer (some ⟨B + 4, 0, none⟩) ∧ g = G (b0.at ⟨((List.range 25).map u).toArray, []⟩ (.inRegion ops14 [] :: .code rest14 :: k0)) cs

section
set_option maxRecDepth 100000 in
set_option maxHeartbeats 4000000 in
theorem round_ok (K : Crew) (hP : K.P = Try.prog) (hty : K.ty = 54) (W : Nat) (hW : 1 ≤ W ∧ W ≤ 8) (hKn : K.n = W) (n m : Nat) (hn : n ≤ 1000000) (lb kb : Option Addr) (capl capk : Nat) (B : Nat) (hC : K.C = B + 3) (hG : K.Wg = B + 5) (Ch : Nat → Goroutine → Sx → Prop)
    (b0 : Frame) (hb0 : b0.fn = 14) (hk0 : b0.kind ≠ .early) (k0 : List Item) (cs : List Frame) :
    ∃ c, ∀ (x0 : Sx) (htag : x0.tag = .pre) (hd : Deaf x0.t 0 = 0) (hnum : x0.num = K.c) (hsz : x0.w.heap.size = B)
      (hch : ∀ y x' wi bi bw bf, Born K y x' → wi < W → y.num = K.c + wi → RI K B W n m wi lb kb capl capk { y with tag := .opn, t := #[] } → Z y bi (.cells #[.int .i64 wi] 3) → Z y bw (.cells #[.pointer (some ⟨K.Wg, 0, none⟩)] 59) →
        Z y bf (.cells #[.func (.func 18) #[] #[.pointer (some ⟨bi, 0, none⟩), .pointer (some ⟨B, 0, none⟩), .pointer (some ⟨B + 2, 0, none⟩), .pointer (some ⟨B + 1, 0, none⟩), .pointer (some ⟨B + 4, 0, none⟩)]] 1) → Ch (K.c + wi) (born K.P (bornD bw bf)) x'),
      LGo K (starter Ch (AtJoin K B n b0 k0 cs)) c (G (b0.at ⟨#[.slice lb n capl, .slice kb m capk, .int .i64 W] ++ Array.replicate 22 undef, []⟩ (.code body14 :: k0)) cs) x0 := by
  obtain ⟨St, hSt⟩ : ∃ St, St = AtJoin K B n b0 k0 cs := ⟨_, rfl⟩
  obtain ⟨cg, hgo⟩ := goStmt_ok K hP hty (by omega) Ch St
  rw [← hSt]
  have H : Go.Conc.Lib.WgLib K.P wgL := by rw [hP]; exact wgH
  obtain ⟨iS, hS0, hS1, hS2, hS3⟩ := info_parts infoSpanN
  have hmk := fun w => run_make (P := Try.prog) w 23 33 iS _ Try.underlying23 hS0 hS1 .i64 .i64 (n : Int) (n : Int) (by omega) (Int.le_refl _) (by rw [hS3]; omega) (by omega)
  have hme := fun w es => events_make (P := Try.prog) w 23 33 iS _ Try.underlying23 hS0 hS1 .i64 .i64 (n : Int) (n : Int) (by omega) (Int.le_refl _) (by rw [hS3]; omega) (by omega) (by rw [hS3]; simp; omega) es
  simp only [Array.replicate_succ, Array.replicate_zero, List.push_toArray, List.append_toArray, List.nil_append, List.cons_append]
  co_apply Exists.intro
  intro x0 htag hd hnum hsz hch
  simp only [body14, Try.f14, Option.getD_some]
  co_apply LGo.seqW hk0
  rw [hb0]
  co_apply wpX_region
  simp only [List.size_toArray, List.length_cons, List.length_nil, Nat.reduceAdd, Nat.zero_add, List.range, List.range.loop]
  co_applyP opsX_nw rfl (by rfl)
  · intro xv xr xi Kc hK
    rw [hP]
    go_simp
    exact hK
  · intro xv xr xi xe xhe
    rw [hP, listed_nil (by simp [go_sem, *])] at xhe
    simp at xhe
  intro b1 x1 r1 l1 c1 h1 s1 n1
  try walk_nrm
  obtain ⟨e1, n1⟩ := n1 rfl hnum
  replace e1 := (e1.trans hsz).symm
  subst e1
  have hnum1 := ((r1 0).num0 rfl).trans hnum
  co_applyP opsX_nw rfl (by rfl)
  · intro xv xr xi Kc hK
    rw [hP]
    go_simp
    exact hK
  · intro xv xr xi xe xhe
    rw [hP, listed_nil (by simp [go_sem, *])] at xhe
    simp at xhe
  intro b2 x2 r2 l2 c2 h2 s2 n2
  try walk_nrm
  obtain ⟨e2, n2⟩ := n2 rfl hnum1
  rw [s1] at e2
  subst e2
  have hnum2 := ((r2 0).num0 rfl).trans hnum1
  co_applyP opsX_nw rfl (by rfl)
  · intro xv xr xi Kc hK
    rw [hP]
    go_simp
    exact hK
  · intro xv xr xi xe xhe
    rw [hP, listed_nil (by simp [go_sem, *])] at xhe
    simp at xhe
  intro b3 x3 r3 l3 c3 h3 s3 n3
  try walk_nrm
  obtain ⟨e3, n3⟩ := n3 rfl hnum2
  rw [s2] at e3
  subst e3
  have hnum3 := ((r3 0).num0 rfl).trans hnum2
  have tag3 : x3.tag = .pre := by
    have a1 := ((r1 0).tag rfl).1
    rw [htag] at a1
    have a2 := ((r2 0).tag rfl).1
    rw [show x1.tag = .pre from a1] at a2
    have a3 := ((r3 0).tag rfl).1
    rw [show x2.tag = .pre from a2] at a3
    exact a3
  have d3 : Deaf x3.t 0 = 0 := (r3 0).tr.trans ((r2 0).tr.trans ((r1 0).tr.trans hd))
  have q0 : Mine 0 x3 _ _ := (Mine.nw ⟨c1, h1⟩ r2).nw r3
  have q1 : Mine 0 x3 _ _ := Mine.nw ⟨c2, h2⟩ r3
  have q2 : Mine 0 x3 _ _ := ⟨c3, h3⟩
  clear r1 r2 r3 c1 c2 c3 h1 h2 h3 n1 n2 n3 l1 l2 l3 s1 s2 hnum1 hnum2
  co_applyP opsX_rd rfl (by rfl)
  · intro xv xr xi Kc hK
    rw [hP]
    go_simp
    exact hK
  · intro xv xr xi xe xhe
    rw [hP, listed_nil (by simp [go_sem, *])] at xhe
    simp at xhe
  try walk_nrm
  co_applyP opsX_rd rfl (by rfl)
  · intro xv xr xi Kc hK
    rw [hP]
    go_simp
    exact hK
  · intro xv xr xi xe xhe
    rw [hP, listed_nil (by simp [go_sem, *])] at xhe
    simp at xhe
  try walk_nrm
  co_apply opsX_nil
  simp only [XThen, XBlock, if_true, if_false, reduceIte, Nat.reduceEqDiff]
  refine ⟨by first | rfl | trivial, ?_⟩
  co_apply LGo.seqW hk0
  rw [hb0]
  co_apply wpX_region
  simp only [List.size_toArray, List.length_cons, List.length_nil, Nat.reduceAdd, Nat.zero_add, List.range, List.range.loop]
  co_applyP opsX_rd rfl (by rfl)
  · intro xv xr xi Kc hK
    rw [hP]
    have xc0 := Has.cell (ρ := starter Ch St) q0.has xr xi (o := 0) (show _ = some _ from rfl)
    go_simp
    exact hK
  · intro xv xr xi xe xhe
    have xhm := mem_listed xhe
    rw [hP] at xhm
    have xc0 := Has.cell (ρ := starter Ch St) q0.has xr xi (o := 0) (show _ = some _ from rfl)
    simp [go_sem, *] at xhm
    all_goals (first | subst xhm | (rcases xhm with rfl | rfl) | (rcases xhm with rfl | rfl | rfl | rfl))
    all_goals (exact EvOk.read (Has.rely q0.has xr) xi rfl)
  try walk_nrm
  co_applyP opsX_rd rfl (by rfl)
  · intro xv xr xi Kc hK
    rw [hP]
    go_simp
    exact hK
  · intro xv xr xi xe xhe
    rw [hP, listed_nil (by simp [go_sem, *])] at xhe
    simp at xhe
  try walk_nrm
  co_applyP opsX_nc .row (.inr ⟨tag3, rfl, .inl rfl⟩) (fun b => .slice (some ⟨b, 0, none⟩) n n) rfl (by rfl)
  · intro xv xr xi Kc hK
    rw [hP]
    have hm := hmk xv.w
    go_simp
    simpa using hK
  · intro xv xr xi xe xhe
    have hm := hme xv.w
    rw [hP, listed_nil (by simp [go_sem, *])] at xhe
    simp at xhe
  intro b4 x4 r4 l4 c4 h4 s4 n4
  obtain ⟨e4, n4⟩ := n4 rfl hnum3
  rw [s3] at e4
  subst e4
  have hnum4 := ((r4 0).num0 rfl).trans hnum3
  try walk_nrm
  have tag4 : x4.tag = .pre := by have a := ((r4 0).tag rfl).1; rw [tag3] at a; exact a
  have d4 : Deaf x4.t 0 = 0 := (r4 0).tr.trans d3
  have p0 := q0.nw r4
  have p1 := q1.nw r4
  have p2 := q2.nw r4
  clear q0 q1 q2 n4
  co_applyP opsX_nw rfl (by rfl)
  · intro xv xr xi Kc hK
    rw [hP]
    go_simp
    exact hK
  · intro xv xr xi xe xhe
    rw [hP, listed_nil (by simp [go_sem, *])] at xhe
    simp at xhe
  intro b5 x5 r5 l5 c5 h5 s5 n5
  try walk_nrm
  obtain ⟨e5, n5⟩ := n5 rfl hnum4
  rw [s4] at e5
  subst e5
  have hnum5 := ((r5 0).num0 rfl).trans hnum4
  have tag5 : x5.tag = .pre := by have a := ((r5 0).tag rfl).1; rw [tag4] at a; exact a
  have d5 : Deaf x5.t 0 = 0 := (r5 0).tr.trans d4
  have q0 := p0.nw r5
  have q1 := p1.nw r5
  have q2 := p2.nw r5
  clear p0 p1 p2
  have c4' : x5.cls (B + 3) = .row := (n5 (B + 3) (by omega)).1.trans c4
  have h4' : x5.w.heap[B + 3]? = _ := (n5 (B + 3) (by omega)).2.trans h4
  clear n5 c4 h4
  co_applyP opsX_wr0 rfl hnum5 c5 h5 rfl (by rfl)
  · intro xv xr xi xb Kc hK
    rw [hP]
    have xc0 := cell_of xb (o := 0) (show _ = some _ from rfl)
    have xf0 : xv.w.frozen? ⟨B + 1 + 1 + 1 + 1, 0, none⟩ = false := by simp [World.frozen?, xb]
    go_simp
    (try unfold stored; go_simp)
    refine hK _ ?_
    rw [setCell_blk xb]
    (try rfl)
  · intro xv xr xi xb xe xhe
    have xhm := mem_listed xhe
    rw [hP] at xhm
    have xc0 := cell_of xb (o := 0) (show _ = some _ from rfl)
    have xf0 : xv.w.frozen? ⟨B + 1 + 1 + 1 + 1, 0, none⟩ = false := by simp [World.frozen?, xb]
    simp [go_sem, storedEv, *] at xhm
    all_goals (first | subst xhm | (rcases xhm with rfl | rfl))
    all_goals (exact ⟨_, rfl, rfl⟩)
  intro x6 r6 e6 h6 s6 o6
  try walk_nrm
  have hnum6 := (r6.num0 rfl).trans hnum5
  have tag6 : x6.tag = .pre := by have a := (r6.tag rfl).1; rw [tag5] at a; exact a
  have d6 : Deaf x6.t 0 = 0 := r6.tr.trans d5
  have p0 := q0.rb r6 (by omega)
  have p1 := q1.rb r6 (by omega)
  have p2 := q2.rb r6 (by omega)
  have p4 : Mine 0 x6 _ _ := ⟨by rw [e6]; exact c5, h6⟩
  have c4 : x6.cls (B + 3) = .row := by rw [e6]; exact c4'
  have h4 := (o6 (B + 3) (by omega)).trans h4'
  clear q0 q1 q2 c4' h4' r6 e6 h6 o6 r5 l5 c5 h5 r4 l4 hnum3 tag3 d3 hnum4 hnum5 tag4 tag5 d4 d5
  rw [s5] at s6
  clear s4 s5 s3
  co_apply opsX_nil
  simp only [XThen, XBlock, if_true, if_false, reduceIte, Nat.reduceEqDiff]
  refine ⟨by first | rfl | trivial, ?_⟩
  co_apply LGo.seqW hk0
  rw [hb0]
  co_apply wpX_region
  simp only [List.size_toArray, List.length_cons, List.length_nil, Nat.reduceAdd, Nat.zero_add, List.range, List.range.loop]
  co_applyP opsX_nc .grp (.inr ⟨tag6, rfl, .inr rfl⟩) (fun b => .pointer (some ⟨b, 0, none⟩)) rfl (by rfl)
  · intro xv xr xi Kc hK
    rw [hP]
    go_simp
    exact hK
  · intro xv xr xi xe xhe
    rw [hP, listed_nil (by simp [go_sem, *])] at xhe
    simp at xhe
  intro b6 x7 r7 l7 c7 h7 s7 n7
  obtain ⟨e7, n7⟩ := n7 rfl hnum6
  rw [s6] at e7
  subst e7
  have hnum7 := ((r7 0).num0 rfl).trans hnum6
  have tag7 : x7.tag = .pre := by have a := ((r7 0).tag rfl).1; rw [tag6] at a; exact a
  have d7 : Deaf x7.t 0 = 0 := (r7 0).tr.trans d6
  have q0 := p0.nw r7
  have q1 := p1.nw r7
  have q2 := p2.nw r7
  have q4 := p4.nw r7
  have c4' : x7.cls (B + 3) = .row := (n7 (B + 3) (by omega)).1.trans c4
  have h4' := (n7 (B + 3) (by omega)).2.trans h4
  try walk_nrm
  co_apply opsX_open rfl hnum7 tag7 (by rw [hG]; exact c7) (by rw [hC]; exact c4') (by rw [hC]; omega) (by unfold WgAt; rw [hG, hty]; exact h7)
  intro x8 g1 g2 g3 g4 g5
  have hz : RowSz K 33 (n * 2) x8 := ⟨madeCells #[.int .i64 0, .int .i64 0] (n * 2), by rw [hC, g1]; refine h4'.trans ?_; first | rfl | simp [hS2, Value.cells], size_madeCells _ _⟩
  have hI0 : RI K B W n m 0 lb kb capl capk x8 := ⟨.mine ⟨by rw [g2]; exact q0.1, by rw [g1]; exact q0.2⟩, .mine ⟨by rw [g2]; exact q1.1, by rw [g1]; exact q1.2⟩, .mine ⟨by rw [g2]; exact q2.1, by rw [g1]; exact q2.2⟩,
    .mine ⟨by rw [g2]; exact q4.1, by rw [g1, hC]; exact q4.2⟩, hz, g4, g5.trans d7, by rw [g3]; exact hnum7⟩
  clear hz g1 g2 g3 g4 g5 q0 q1 q2 q4 p0 p1 p2 p4 c4 c4' h4 h4' r7 l7 c7 h7 s7 n7 hnum7 tag7 d7 hnum6 tag6 d6 s6
  refine ⟨by first | rfl | trivial, ?_⟩
  co_apply LGo.seqW hk0
  rw [hb0]
  repeat (co_apply wpX_seq)
  co_apply wpX_region
  simp only [List.size_toArray, List.length_cons, List.length_nil, Nat.reduceAdd, Nat.zero_add, List.range, List.range.loop]
  co_applyP opsX_rd rfl (by rfl)
  · intro xv xr xi Kc hK
    rw [hP]
    have xc0 := Has.cell (ρ := starter Ch St) hI0.z2.has xr xi (o := 0) (show _ = some _ from rfl)
    go_simp
    exact hK
  · intro xv xr xi xe xhe
    have xhm := mem_listed xhe
    rw [hP] at xhm
    have xc0 := Has.cell (ρ := starter Ch St) hI0.z2.has xr xi (o := 0) (show _ = some _ from rfl)
    simp [go_sem, *] at xhm
    all_goals (first | subst xhm | (rcases xhm with rfl | rfl) | (rcases xhm with rfl | rfl | rfl | rfl))
    all_goals (exact EvOk.read (Has.rely hI0.z2.has xr) xi rfl)
  try walk_nrm
  co_applyP opsX_rd rfl (by rfl)
  · intro xv xr xi Kc hK
    rw [hP]
    go_simp
    exact hK
  · intro xv xr xi xe xhe
    rw [hP, listed_nil (by simp [go_sem, *])] at xhe
    simp at xhe
  try walk_nrm
  co_apply opsX_nil
  simp only [XThen, XBlock, if_true, if_false, reduceIte, Nat.reduceEqDiff]
  co_apply wpX_block
  co_apply wpX_loop (fun a x => ∃ q, q ≤ W ∧ RSt B W q a ∧ RI K B W n m q lb kb capl capk x) (fun a _ => (W - slotI a 15).toNat) _ W ⟨0, by omega, ⟨rfl, rfl, rfl, rfl, rfl, rfl, rfl, rfl, by first | rfl | simp⟩, hI0⟩ (by simp [slotI]) ?_
  clear hI0
  rintro ⟨T, ds⟩ x ⟨q, hq, hs, hI⟩
  obtain rfl : ds = [] := hs.ds
  obtain ⟨u, hu, hv⟩ := frame_lit hs.sz
  simp only [List.range, List.range.loop, List.map_cons, List.map_nil] at hu
  have e3 := (hv 3).trans hs.s3
  have e4 := (hv 4).trans hs.s4
  have e5 := (hv 5).trans hs.s5
  have e8 := (hv 8).trans hs.s8
  have e9 := (hv 9).trans hs.s9
  have e14 := (hv 14).trans hs.s14
  have e15 := (hv 15).trans hs.s15
  rw [e3, e4, e5, e8, e9, e14, e15] at hu
  clear hs hv e3 e4 e5 e8 e9 e14 e15
  subst hu
  repeat (co_apply wpX_seq)
  co_apply wpX_region
  simp only [List.size_toArray, List.length_cons, List.length_nil, Nat.reduceAdd, Nat.zero_add, List.range, List.range.loop]
  co_applyP opsX_rd rfl (by rfl)
  · intro xv xr xi Kc hK
    rw [hP]
    go_simp
    exact hK
  · intro xv xr xi xe xhe
    rw [hP, listed_nil (by simp [go_sem, *])] at xhe
    simp at xhe
  try walk_nrm
  co_apply opsX_nil
  simp only [XThen, XBlock, if_true, if_false, reduceIte, Nat.reduceEqDiff]
  co_apply wpX_seq
  co_apply wpX_split (t := decide ((q : Int) < W))
  · simp [Act.eval]
  · intro htt
    have hqW : q < W := by simpa using htt
    clear htt
    co_apply wpX_skip
    simp only [XThen, XBlock, if_true, if_false, reduceIte, Nat.reduceEqDiff]
    have hlt : (q : Int) < (W : Int) := by omega
    co_apply wpX_seq
    co_apply wpX_block
    repeat (co_apply wpX_seq)
    co_apply wpX_region
    simp only [List.size_toArray, List.length_cons, List.length_nil, Nat.reduceAdd, Nat.zero_add, List.range, List.range.loop]
    co_applyP opsX_rd rfl (by rfl)
    · intro xv xr xi Kc hK
      rw [hP]
      go_simp
      exact hK
    · intro xv xr xi xe xhe
      rw [hP, listed_nil (by simp [go_sem, *])] at xhe
      simp at xhe
    try walk_nrm
    co_applyP opsX_nw rfl (by rfl)
    · intro xv xr xi Kc hK
      rw [hP]
      go_simp
      exact hK
    · intro xv xr xi xe xhe
      rw [hP, listed_nil (by simp [go_sem, *])] at xhe
      simp at xhe
    intro bi y1 r1 l1 c1 h1 s1 n1
    try walk_nrm
    co_applyP opsX_wr c1 h1 rfl (by rfl)
    · intro xv xr xi xb Kc hK
      rw [hP]
      have xc0 := cell_of xb (o := 0) (show _ = some _ from rfl)
      have xf0 : xv.w.frozen? ⟨bi, 0, none⟩ = false := by simp [World.frozen?, xb]
      go_simp
      (try unfold stored; go_simp)
      refine hK _ ?_
      rw [setCell_blk xb]
      (try rfl)
    · intro xv xr xi xb xe xhe
      have xhm := mem_listed xhe
      rw [hP] at xhm
      have xc0 := cell_of xb (o := 0) (show _ = some _ from rfl)
      have xf0 : xv.w.frozen? ⟨bi, 0, none⟩ = false := by simp [World.frozen?, xb]
      simp [go_sem, *] at xhm
      all_goals (first | subst xhm | (rcases xhm with rfl | rfl) | (rcases xhm with rfl | rfl | rfl | rfl))
      all_goals (exact ⟨_, rfl, rfl⟩)
    try walk_nrm
    intro y2 r2 c2 h2
    have mi : Mine 0 y2 bi _ := ⟨c2, h2⟩
    have hne : bi ≠ K.C := by have := hI.row; obtain ⟨cz, hcz, _⟩ := this; have := lt_of_some hcz; omega
    have hz : ∀ b o, Z x b o → Z y2 b o := fun b o hb => (hb.nw r1).rb r2 (by have := hb.lt; omega)
    have hI2 : RI K B W n m q lb kb capl capk y2 := ⟨hz _ _ hI.z0, hz _ _ hI.z1, hz _ _ hI.z2, hz _ _ hI.z4, (hI.row.nw r1).rb r2 hne,
      by
        have a1 := ((r1 0).tag rfl).1
        rw [hI.tag] at a1
        have a2 := (r2.tag rfl).1
        rw [show y1.tag = .opn from a1] at a2
        exact a2, r2.tr.trans ((r1 0).tr.trans hI.d0), (r2.num0 rfl).trans (((r1 0).num0 rfl).trans hI.num)⟩
    clear r1 l1 c1 h1 s1 n1 r2 c2 h2 hz hI hne
    co_apply opsX_nil
    simp only [XThen, XBlock, if_true, if_false, reduceIte, Nat.reduceEqDiff]
    co_apply wpX_region
    simp only [List.size_toArray, List.length_cons, List.length_nil, Nat.reduceAdd, Nat.zero_add, List.range, List.range.loop]
    co_applyP opsX_rd rfl (by rfl)
    · intro xv xr xi Kc hK
      rw [hP]
      go_simp
      exact hK
    · intro xv xr xi xe xhe
      rw [hP, listed_nil (by simp [go_sem, *])] at xhe
      simp at xhe
    try walk_nrm
    co_applyP opsX_act1 rfl (by rfl) (act1_callV rfl ?args (hgo (.func 18) #[] #[.pointer (some ⟨bi, 0, none⟩), .pointer (some ⟨B, 0, none⟩), .pointer (some ⟨B + 2, 0, none⟩), .pointer (some ⟨B + 1, 0, none⟩), .pointer (some ⟨B + 4, 0, none⟩)] y2 hI2.tag hI2.d0 (by rw [hI2.num, hKn]; omega) ?ch) (fun _ _ h => h))
    case args => simp [Act.eval, hG]
    case ch =>
      intro y x' bw bf rz rb hnum hbw hbf
      rw [hI2.num] at hnum ⊢
      exact hch y x' q bi bw bf rb hqW hnum ⟨rz.z _ _ hI2.z0, rz.z _ _ hI2.z1, rz.z _ _ hI2.z2, rz.z _ _ hI2.z4, rz.row _ _ hI2.row, rfl, rfl, hnum⟩ (rz.z _ _ (.mine mi)) hbw hbf
    rintro v x3 ⟨rfl, rz, t3, d3, n3⟩
    have hI3 : RI K B W n m (q + 1) lb kb capl capk x3 := ⟨rz.z _ _ hI2.z0, rz.z _ _ hI2.z1, rz.z _ _ hI2.z2, rz.z _ _ hI2.z4, rz.row _ _ hI2.row, t3, d3, by rw [n3, hI2.num]; omega⟩
    clear hI2 mi rz t3 d3 n3
    try walk_nrm
    co_apply opsX_nil
    simp only [XThen, XBlock, if_true, if_false, reduceIte, Nat.reduceEqDiff]
    have hw : IntKind.i64.wrap ((q : Int) + 1) = ((q + 1 : Nat) : Int) := by rw [wrap_in (by omega)]; simp
    co_apply wpX_region
    simp only [List.size_toArray, List.length_cons, List.length_nil, Nat.reduceAdd, Nat.zero_add, List.range, List.range.loop]
    co_applyP opsX_rd rfl (by rfl)
    · intro xv xr xi Kc hK
      rw [hP]
      go_simp
      exact hK
    · intro xv xr xi xe xhe
      rw [hP, listed_nil (by simp [go_sem, *])] at xhe
      simp at xhe
    try walk_nrm
    co_applyP opsX_rd rfl (by rfl)
    · intro xv xr xi Kc hK
      rw [hP]
      go_simp
      exact hK
    · intro xv xr xi xe xhe
      rw [hP, listed_nil (by simp [go_sem, *])] at xhe
      simp at xhe
    try walk_nrm
    co_apply opsX_nil
    simp only [XThen, XBlock, if_true, if_false, reduceIte, Nat.reduceEqDiff]
    refine ⟨⟨q + 1, by omega, ⟨rfl, rfl, rfl, rfl, rfl, rfl, rfl, rfl, by first | rfl | (simp; done)⟩, hI3⟩, ?_⟩
    simp only [slotI, Array.getD]
    simp
    omega
  · intro htt
    have hqW : ¬ q < W := by simpa using htt
    clear htt
    obtain rfl : q = W := by omega
    co_apply wpX_exit
    simp only [XThen, XBlock, if_true, if_false, reduceIte, Nat.reduceEqDiff]
    refine ⟨by first | rfl | trivial, ?_⟩
    co_apply LGo.ctl rfl rfl (fun w => stepG_seq)
    co_apply LGo.ctl rfl rfl (fun w => stepG_region)
    simp only [List.size_toArray, List.length_cons, List.length_nil, Nat.reduceAdd, Nat.zero_add, List.range, List.range.loop]
    co_applyP LGo.wait (L := wgL) rfl H hty (by omega) hk0 rfl (by rfl) rfl (by simp [Act.eval, hG]) hI.tag hI.d0 8 (by have := cnt_le K x; have := hI.num; omega)
    intro x' rt t' d'
    intro hbz
    refine GoX.stop (n := 1) (fun x₁ r hi => ?_)
    have rt1 : RT K 0 x x₁ := rt.trans (.of r)
    show St _ x₁
    rw [hSt]
    have ht := (r.tag rfl).1
    rw [t'] at ht
    refine ⟨ht, r.deaf.trans d', hI.z4.rt rt1, hI.row.rt rt1, by rw [hKn, ← hI.num]; exact rt1.num0 rfl, ?_⟩
    obtain ⟨v, hu, hv⟩ := frame_lit (T := #[u 0, u 1, u 2, .pointer (some ⟨B, 0, none⟩), .pointer (some ⟨B + 1, 0, none⟩), .pointer (some ⟨B + 2, 0, none⟩), u 6, u 7, .pointer (some ⟨B + 4, 0, none⟩), .pointer (some ⟨B + 5, 0, none⟩), u 10, u 11, u 12, u 13, .int .i64 q, .int .i64 q, .bool false, u 17, u 18, u 19, u 20, .tuple #[], u 22, u 23, u 24]) (n := 25) rfl
    refine ⟨v, (hv 8).trans rfl, ?_⟩
    rw [← hu]
    have hlt : ¬ (q : Int) < (q : Int) := by omega
    first | rfl | (simp [Act.put, hlt]; done) | (simp [Act.put, hlt]; rfl)
end
end Go.Proofs.Ytplmgbffaeohpaa
