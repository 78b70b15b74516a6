/- meet, walked in its crew. -/
import Derived.Test.YtplmgbffaeohpaaCoF
import Derived.Test.YtplmgbffaeohpaaBasic
namespace Go.Proofs.Ytplmgbffaeohpaa
open Go.Conc Go.Crew Go.RowKit
set_option linter.unusedSimpArgs false
set_option linter.unusedVariables false

@[go_sem] theorem ev_max (P : Program) (w : World) (ts : Array TypeId) (t : TypeId) (k k' : IntKind) (x y : Int) (es : Array Event) : (Builtin.max_ ts t #[.int k x, .int k' y]).events P w es = es := by
  simp [Builtin.max_, Builtin.max2]
@[go_sem] theorem ev_min (P : Program) (w : World) (ts : Array TypeId) (t : TypeId) (k k' : IntKind) (x y : Int) (es : Array Event) : (Builtin.min_ ts t #[.int k x, .int k' y]).events P w es = es := by
  simp [Builtin.min_, Builtin.min2]

/-- An interval, as Go lays it. -/
def spV (lo hi : Int) : Value := .agg #[.int .i64 lo, .int .i64 hi]

theorem wrap_in {x : Int} (h : -9000000000000000000 ≤ x ∧ x ≤ 9000000000000000000) : IntKind.i64.wrap x = x := by
  rw [(IntWalk.i64_left x)]
  exact IntWalk.wrap64_in _ (by omega)

/-- The intervals and the links, as numbers. -/
structure Net where
  n : Nat
  lo : Nat → Int
  hi : Nat → Int
  m : Nat
  A : Nat → Nat
  B : Nat → Nat
  dl : Nat → Int
  dh : Nat → Int

structure Net.Ok (N : Net) : Prop where
  lo : ∀ i, i < N.n → -1000000000000000000 ≤ N.lo i ∧ N.lo i ≤ 1000000000000000000
  hi : ∀ i, i < N.n → -1000000000000000000 ≤ N.hi i ∧ N.hi i ≤ 1000000000000000000
  A : ∀ j, j < N.m → N.A j < N.n
  B : ∀ j, j < N.m → N.B j < N.n
  dl : ∀ j, j < N.m → -1000000000000000000 ≤ N.dl j ∧ N.dl j ≤ 1000000000000000000
  dh : ∀ j, j < N.m → -1000000000000000000 ≤ N.dh j ∧ N.dh j ≤ 1000000000000000000
  small : N.n ≤ 1000000 ∧ N.m ≤ 1000000

def stepB (N : Net) (i j : Nat) (p : Int × Int) : Int × Int := if N.B j = i then (max p.1 (N.lo (N.A j) + N.dl j), min p.2 (N.hi (N.A j) + N.dh j)) else p
def stepA (N : Net) (i j : Nat) (p : Int × Int) : Int × Int := if N.A j = i then (max p.1 (N.lo (N.B j) - N.dh j), min p.2 (N.hi (N.B j) - N.dl j)) else p
def meetN (N : Net) (i : Nat) : Nat → Int × Int
  | 0 => (N.lo i, N.hi i)
  | j + 1 => stepA N i j (stepB N i j (meetN N i j))

/-- The rows of l and links. -/
structure Rows (N : Net) (lc kc : Array Value) (ol ok : Nat) : Prop where
  lo : ∀ i, i < N.n → lc[ol + i * 2]? = some (.int .i64 (N.lo i))
  hi : ∀ i, i < N.n → lc[ol + i * 2 + 1]? = some (.int .i64 (N.hi i))
  a : ∀ j, j < N.m → kc[ok + j * 4]? = some (.int .i64 (N.A j))
  b : ∀ j, j < N.m → kc[ok + j * 4 + 1]? = some (.int .i64 (N.B j))
  dl : ∀ j, j < N.m → kc[ok + j * 4 + 2]? = some (.int .i64 (N.dl j))
  dh : ∀ j, j < N.m → kc[ok + j * 4 + 3]? = some (.int .i64 (N.dh j))

/-- What meet holds of memory. -/
structure MF (K : Crew) (k : Nat) (x0 : Sx) (b6 b7 : Nat) (p : Int × Int) (x : Sx) : Prop where
  m6 : Mine k x b6 (.cells #[.int .i64 0, .int .i64 0] 33)
  m7 : Mine k x b7 (.cells #[.int .i64 p.1, .int .i64 p.2] 33)
  rn : RN K k x0 x
  n6 : x0.w.heap.size ≤ b6
  n7 : x0.w.heap.size ≤ b7
  ne : b6 ≠ b7
section
variable {K : Crew} {k : Nat} {x0 : Sx} {b6 b7 : Nat} {p : Int × Int} {x y : Sx}
theorem MF.rely (h : MF K k x0 b6 b7 p x) (r : R K k x y) : MF K k x0 b6 b7 p y := ⟨h.m6.rely r, h.m7.rely r, h.rn.trans (.of r), h.n6, h.n7, h.ne⟩
theorem MF.nw (h : MF K k x0 b6 b7 p x) (r : ∀ b, Rb K k b x y) : MF K k x0 b6 b7 p y := ⟨h.m6.nw r, h.m7.nw r, h.rn.new r, h.n6, h.n7, h.ne⟩
end

/-- meet's frame at the head of its loop. -/
structure MSt (N : Net) (i b6 b7 : Nat) (sl kl : Value) (j : Nat) (a : Act) : Prop where
  ds : a.defers = []
  sz : a.tmps.size = 84
  s0 : a.tmps.getD 0 undef = sl
  s1 : a.tmps.getD 1 undef = kl
  s2 : a.tmps.getD 2 undef = .int .i64 i
  s6 : a.tmps.getD 6 undef = .pointer (some ⟨b6, 0, none⟩)
  s7 : a.tmps.getD 7 undef = .pointer (some ⟨b7, 0, none⟩)
  s14 : a.tmps.getD 14 undef = kl
  s15 : a.tmps.getD 15 undef = .int .i64 N.m
  s16 : a.tmps.getD 16 undef = .int .i64 j

section
set_option maxRecDepth 100000 in
set_option maxHeartbeats 4000000 in
theorem meet_ok (K : Crew) (hP : K.P = Try.prog) (N : Net) (hN : N.Ok) (bl ol capl bk ok capk : Nat) (kb : Option Addr) (hkb : 0 < N.m → kb = some ⟨bk, ok, none⟩) (lc kc : Array Value) (el ek : TypeId) (fl fk : Nat × Nat) (Hr : Rows N lc kc ol ok) :
    ∃ c, ∀ (k : Nat) (i : Nat) (hin : i < N.n) (x0 : Sx) (Hl : ∀ x, RN K k x0 x → Has K k x bl (.cells lc el fl)) (Hk : 0 < N.m → ∀ x, RN K k x0 x → Has K k x bk (.cells kc ek fk)) (hC : K.C < x0.w.heap.size),
      CallX K (worker k) 19 #[] #[.slice (some ⟨bl, ol, none⟩) N.n capl, .slice kb N.m capk, .int .i64 i] c x0 (fun v x' => v = spV (meetN N i N.m).1 (meetN N i N.m).2 ∧ RN K k x0 x') := by
  co_apply Exists.intro
  intro k i hin x0 Hl Hk hC
  refine ⟨_, _, by rw [hP]; exact Try.func19, by rfl, rfl, ?_⟩
  simp only [Try.ntmps19, List.size_toArray, List.length_cons, List.length_nil, Nat.reduceAdd, Nat.reduceSub, Array.replicate_succ, Array.replicate_zero, List.push_toArray, List.append_toArray, List.nil_append, List.cons_append]
  repeat (co_apply wpX_seq)
  co_apply wpX_region
  simp only [List.size_toArray, List.length_cons, List.length_nil, Nat.reduceAdd, Nat.zero_add, List.range, List.range.loop]
  co_applyP opsX_nw rfl (by rfl)
  · intro xv xr xi Kc hK
    rw [hP]
    go_simp
    exact hK
  · intro xv xr xi xe xhe
    rw [hP, listed_nil (by simp [go_sem, *])] at xhe
    simp at xhe
  intro b6 x6 rb6 hl6 hc6 hb6 hs6 hn6
  try walk_nrm
  co_apply opsX_nil
  simp only [XThen, XBlock, if_true, if_false, reduceIte, Nat.reduceEqDiff]
  repeat (co_apply wpX_seq)
  co_apply wpX_region
  simp only [List.size_toArray, List.length_cons, List.length_nil, Nat.reduceAdd, Nat.zero_add, List.range, List.range.loop]
  co_applyP opsX_rd rfl (by rfl)
  · intro xv xr xi Kc hK
    rw [hP]
    go_simp
    exact hK
  · intro xv xr xi xe xhe
    rw [hP, listed_nil (by simp [go_sem, *])] at xhe
    simp at xhe
  try walk_nrm
  co_applyP opsX_rd rfl (by rfl)
  · intro xv xr xi Kc hK
    rw [hP]
    go_simp
    exact hK
  · intro xv xr xi xe xhe
    rw [hP, listed_nil (by simp [go_sem, *])] at xhe
    simp at xhe
  try walk_nrm
  co_applyP opsX_rd rfl (by rfl)
  · intro xv xr xi Kc hK
    rw [hP]
    have hin' : (i : Int) < (N.n : Int) := by omega
    go_simp
    exact hK
  · intro xv xr xi xe xhe
    have hin' : (i : Int) < (N.n : Int) := by omega
    rw [hP, listed_nil (by simp [go_sem, *])] at xhe
    simp at xhe
  try walk_nrm
  have Hl6 := Hl x6 ((RN.refl K k x0).new rb6)
  co_applyP opsX_rd rfl (by rfl)
  · intro xv xr xi Kc hK
    rw [hP]
    have xc0 := Has.cell (ρ := worker k) Hl6 xr xi (o := ol + i * 2) (v := .int .i64 (N.lo i)) (Hr.lo i hin)
    have xc1 := Has.cell (ρ := worker k) Hl6 xr xi (o := ol + i * 2 + 1) (v := .int .i64 (N.hi i)) (Hr.hi i hin)
    go_simp
    exact hK
  · intro xv xr xi xe xhe
    have xhm := mem_listed xhe
    rw [hP] at xhm
    have xc0 := Has.cell (ρ := worker k) Hl6 xr xi (o := ol + i * 2) (v := .int .i64 (N.lo i)) (Hr.lo i hin)
    have xc1 := Has.cell (ρ := worker k) Hl6 xr xi (o := ol + i * 2 + 1) (v := .int .i64 (N.hi i)) (Hr.hi i hin)
    simp [go_sem, *] at xhm
    all_goals (first | subst xhm | (rcases xhm with rfl | rfl) | (rcases xhm with rfl | rfl | rfl | rfl))
    all_goals (exact EvOk.read (Has.rely Hl6 xr) xi rfl)
  try walk_nrm
  co_applyP opsX_nw rfl (by rfl)
  · intro xv xr xi Kc hK
    rw [hP]
    go_simp
    exact hK
  · intro xv xr xi xe xhe
    rw [hP, listed_nil (by simp [go_sem, *])] at xhe
    simp at xhe
  intro b7 x7 rb7 hl7 hc7 hb7 hs7 hn7
  try walk_nrm
  co_applyP opsX_wr hc7 hb7 rfl (by rfl)
  · intro xv xr xi xb Kc hK
    rw [hP]
    have xc0 := cell_of xb (o := 0) (show _ = some _ from rfl)
    have xf0 : xv.w.frozen? ⟨b7, 0, none⟩ = false := by simp [World.frozen?, xb]
    have xc1 := cell_of xb (o := 1) (show _ = some _ from rfl)
    have xf1 : xv.w.frozen? ⟨b7, 1, none⟩ = false := by simp [World.frozen?, xb]
    go_simp
    (try unfold stored; go_simp)
    refine hK _ ?_
    rw [setCell_blk xb, setCell_blk (setBlk_self (lt_of_some xb)), setBlk_setBlk]
    (try rfl)
  · intro xv xr xi xb xe xhe
    have xhm := mem_listed xhe
    rw [hP] at xhm
    have xc0 := cell_of xb (o := 0) (show _ = some _ from rfl)
    have xf0 : xv.w.frozen? ⟨b7, 0, none⟩ = false := by simp [World.frozen?, xb]
    have xc1 := cell_of xb (o := 1) (show _ = some _ from rfl)
    have xf1 : xv.w.frozen? ⟨b7, 1, none⟩ = false := by simp [World.frozen?, xb]
    simp [go_sem, *] at xhm
    all_goals (first | subst xhm | (rcases xhm with rfl | rfl) | (rcases xhm with rfl | rfl | rfl | rfl))
    all_goals (exact ⟨_, rfl, rfl⟩)
  try walk_nrm
  intro x8 rb8 hc8 hb8
  have hF : MF K k x0 b6 b7 (meetN N i 0) x8 := ⟨(Mine.nw ⟨hc6, hb6⟩ rb7).rb rb8 (by have := lt_of_some hb6; omega), ⟨hc8, hb8⟩, (((RN.refl K k x0).new rb6).new rb7).write rb8 (by have := rb6 0; have := this.size; omega) hC, hl6, by have := (rb6 0).size; omega, by have := lt_of_some hb6; omega⟩
  clear hb8 hc8 rb8 hc7 hb7 rb7 hl7 hs7 hn7 Hl6 hn6 hs6 hb6 hc6 hl6 rb6
  co_apply opsX_nil
  simp only [XThen, XBlock, if_true, if_false, reduceIte, Nat.reduceEqDiff]
  repeat (co_apply wpX_seq)
  co_apply wpX_region
  simp only [List.size_toArray, List.length_cons, List.length_nil, Nat.reduceAdd, Nat.zero_add, List.range, List.range.loop]
  co_applyP opsX_rd rfl (by rfl)
  · intro xv xr xi Kc hK
    rw [hP]
    go_simp
    exact hK
  · intro xv xr xi xe xhe
    rw [hP, listed_nil (by simp [go_sem, *])] at xhe
    simp at xhe
  try walk_nrm
  co_applyP opsX_rd rfl (by rfl)
  · intro xv xr xi Kc hK
    rw [hP]
    go_simp
    exact hK
  · intro xv xr xi xe xhe
    rw [hP, listed_nil (by simp [go_sem, *])] at xhe
    simp at xhe
  try walk_nrm
  co_applyP opsX_rd rfl (by rfl)
  · intro xv xr xi Kc hK
    rw [hP]
    go_simp
    exact hK
  · intro xv xr xi xe xhe
    rw [hP, listed_nil (by simp [go_sem, *])] at xhe
    simp at xhe
  try walk_nrm
  co_apply opsX_nil
  simp only [XThen, XBlock, if_true, if_false, reduceIte, Nat.reduceEqDiff]
  co_apply wpX_block
  co_apply wpX_loop (fun a x => ∃ j, j ≤ N.m ∧ MSt N i b6 b7 (.slice (some ⟨bl, ol, none⟩) N.n capl) (.slice kb N.m capk) j a ∧ MF K k x0 b6 b7 (meetN N i j) x) (fun a _ => (N.m - slotI a 16).toNat) _ N.m ⟨0, Nat.zero_le _, ⟨rfl, rfl, rfl, rfl, rfl, rfl, rfl, rfl, rfl, rfl⟩, hF⟩ (by simp [slotI]) ?_
  clear hF
  rintro ⟨T, ds⟩ x ⟨j, hj, hs, hF⟩
  obtain rfl : ds = [] := hs.ds
  obtain ⟨u, hu, hv⟩ := frame_lit hs.sz
  simp only [List.range, List.range.loop, List.map_cons, List.map_nil] at hu
  have e0 := (hv 0).trans hs.s0
  have e1 := (hv 1).trans hs.s1
  have e2 := (hv 2).trans hs.s2
  have e6 := (hv 6).trans hs.s6
  have e7 := (hv 7).trans hs.s7
  have e14 := (hv 14).trans hs.s14
  have e15 := (hv 15).trans hs.s15
  have e16 := (hv 16).trans hs.s16
  rw [e0, e1, e2, e6, e7, e14, e15, e16] at hu
  clear hs hv e0 e1 e2 e6 e7 e14 e15 e16
  subst hu
  repeat (co_apply wpX_seq)
  co_apply wpX_region
  simp only [List.size_toArray, List.length_cons, List.length_nil, Nat.reduceAdd, Nat.zero_add, List.range, List.range.loop]
  co_applyP opsX_rd rfl (by rfl)
  · intro xv xr xi Kc hK
    rw [hP]
    go_simp
    exact hK
  · intro xv xr xi xe xhe
    rw [hP, listed_nil (by simp [go_sem, *])] at xhe
    simp at xhe
  try walk_nrm
  co_apply opsX_nil
  simp only [XThen, XBlock, if_true, if_false, reduceIte, Nat.reduceEqDiff]
  co_apply wpX_seq
  co_apply wpX_split (t := decide ((j : Int) < N.m))
  · simp [Act.eval]
  · intro ht
    have hjm : j < N.m := by simpa using ht
    clear ht
    co_apply wpX_skip
    simp only [XThen, XBlock, if_true, if_false, reduceIte, Nat.reduceEqDiff]
    co_apply wpX_seq
    co_apply wpX_block
    have hjm' : (j : Int) < (N.m : Int) := by omega
    have Hkx := Hk (by omega) x hF.rn
    have hkb' := hkb (by omega)
    repeat (co_apply wpX_seq)
    co_apply wpX_region
    simp only [List.size_toArray, List.length_cons, List.length_nil, Nat.reduceAdd, Nat.zero_add, List.range, List.range.loop]
    co_applyP opsX_rd rfl (by rfl)
    · intro xv xr xi Kc hK
      rw [hP]
      (try rw [hkb'])
      go_simp
      exact hK
    · intro xv xr xi xe xhe
      (try rw [hkb'])
      rw [hP, listed_nil (by simp [go_sem, *])] at xhe
      simp at xhe
    try walk_nrm
    co_applyP opsX_rd rfl (by rfl)
    · intro xv xr xi Kc hK
      rw [hP]
      have xc0 := Has.cell (ρ := worker k) Hkx xr xi (o := ok + j * 4) (v := .int .i64 (N.A j)) (Hr.a j hjm)
      have xc1 := Has.cell (ρ := worker k) Hkx xr xi (o := ok + j * 4 + 1) (v := .int .i64 (N.B j)) (Hr.b j hjm)
      have xc2 := Has.cell (ρ := worker k) Hkx xr xi (o := ok + j * 4 + 2) (v := .int .i64 (N.dl j)) (Hr.dl j hjm)
      have xc3 := Has.cell (ρ := worker k) Hkx xr xi (o := ok + j * 4 + 3) (v := .int .i64 (N.dh j)) (Hr.dh j hjm)
      go_simp
      exact hK
    · intro xv xr xi xe xhe
      have xhm := mem_listed xhe
      rw [hP] at xhm
      have xc0 := Has.cell (ρ := worker k) Hkx xr xi (o := ok + j * 4) (v := .int .i64 (N.A j)) (Hr.a j hjm)
      have xc1 := Has.cell (ρ := worker k) Hkx xr xi (o := ok + j * 4 + 1) (v := .int .i64 (N.B j)) (Hr.b j hjm)
      have xc2 := Has.cell (ρ := worker k) Hkx xr xi (o := ok + j * 4 + 2) (v := .int .i64 (N.dl j)) (Hr.dl j hjm)
      have xc3 := Has.cell (ρ := worker k) Hkx xr xi (o := ok + j * 4 + 3) (v := .int .i64 (N.dh j)) (Hr.dh j hjm)
      simp [go_sem, *] at xhm
      all_goals (first | subst xhm | (rcases xhm with rfl | rfl) | (rcases xhm with rfl | rfl | rfl | rfl))
      all_goals (exact EvOk.read (Has.rely Hkx xr) xi rfl)
    try walk_nrm
    co_applyP opsX_nw rfl (by rfl)
    · intro xv xr xi Kc hK
      rw [hP]
      go_simp
      exact hK
    · intro xv xr xi xe xhe
      rw [hP, listed_nil (by simp [go_sem, *])] at xhe
      simp at xhe
    intro b9 x9 rb9 hl9 hc9 hb9 hs9 hn9
    try walk_nrm
    co_applyP opsX_wr hc9 hb9 rfl (by rfl)
    · intro xv xr xi xb Kc hK
      rw [hP]
      have xc0 := cell_of xb (o := 0) (show _ = some _ from rfl)
      have xf0 : xv.w.frozen? ⟨b9, 0, none⟩ = false := by simp [World.frozen?, xb]
      have xc1 := cell_of xb (o := 1) (show _ = some _ from rfl)
      have xf1 : xv.w.frozen? ⟨b9, 1, none⟩ = false := by simp [World.frozen?, xb]
      have xc2 := cell_of xb (o := 2) (show _ = some _ from rfl)
      have xf2 : xv.w.frozen? ⟨b9, 2, none⟩ = false := by simp [World.frozen?, xb]
      have xc3 := cell_of xb (o := 3) (show _ = some _ from rfl)
      have xf3 : xv.w.frozen? ⟨b9, 3, none⟩ = false := by simp [World.frozen?, xb]
      go_simp
      (try unfold stored; go_simp)
      refine hK _ ?_
      rw [setCell_blk xb, setCell_blk (setBlk_self (lt_of_some xb)), setBlk_setBlk, setCell_blk (setBlk_self (lt_of_some xb)), setBlk_setBlk, setCell_blk (setBlk_self (lt_of_some xb)), setBlk_setBlk]
      (try rfl)
    · intro xv xr xi xb xe xhe
      have xhm := mem_listed xhe
      rw [hP] at xhm
      have xc0 := cell_of xb (o := 0) (show _ = some _ from rfl)
      have xf0 : xv.w.frozen? ⟨b9, 0, none⟩ = false := by simp [World.frozen?, xb]
      have xc1 := cell_of xb (o := 1) (show _ = some _ from rfl)
      have xf1 : xv.w.frozen? ⟨b9, 1, none⟩ = false := by simp [World.frozen?, xb]
      have xc2 := cell_of xb (o := 2) (show _ = some _ from rfl)
      have xf2 : xv.w.frozen? ⟨b9, 2, none⟩ = false := by simp [World.frozen?, xb]
      have xc3 := cell_of xb (o := 3) (show _ = some _ from rfl)
      have xf3 : xv.w.frozen? ⟨b9, 3, none⟩ = false := by simp [World.frozen?, xb]
      simp [go_sem, *] at xhm
      all_goals (first | subst xhm | (rcases xhm with rfl | rfl) | (rcases xhm with rfl | rfl | rfl | rfl))
      all_goals (exact ⟨_, rfl, rfl⟩)
    try walk_nrm
    intro x10 rb10 hc10 hb10
    have hl7 := hF.m7.lt
    have hl6 := hF.m6.lt
    have hF9 := hF.nw rb9
    have hF10 : MF K k x0 b6 b7 (meetN N i j) x10 := ⟨hF9.m6.rb rb10 (by omega), hF9.m7.rb rb10 (by omega), hF9.rn.write rb10 (by have := hF.rn.size; omega) hC, hF.n6, hF.n7, hF.ne⟩
    have m9 : Mine k x10 b9 (.cells #[.int .i64 (N.A j), .int .i64 (N.B j), .int .i64 (N.dl j), .int .i64 (N.dh j)] 39) := ⟨hc10, hb10⟩
    have n97 : b9 ≠ b7 := by omega
    have n9 : x0.w.heap.size ≤ b9 := by have := hF.rn.size; omega
    clear hc10 hb10 rb10 hF9 hb9 hc9 rb9 hs9 hn9 hl9 hl7 hl6 hF Hkx
    co_apply opsX_nil
    simp only [XThen, XBlock, if_true, if_false, reduceIte, Nat.reduceEqDiff]
    repeat (co_apply wpX_seq)
    co_apply wpX_region
    simp only [List.size_toArray, List.length_cons, List.length_nil, Nat.reduceAdd, Nat.zero_add, List.range, List.range.loop]
    co_applyP opsX_rd rfl (by rfl)
    · intro xv xr xi Kc hK
      rw [hP]
      go_simp
      exact hK
    · intro xv xr xi xe xhe
      rw [hP, listed_nil (by simp [go_sem, *])] at xhe
      simp at xhe
    try walk_nrm
    co_applyP opsX_rd rfl (by rfl)
    · intro xv xr xi Kc hK
      rw [hP]
      have xc0 := Has.cell (ρ := worker k) m9.has xr xi (o := 1) (show _ = some _ from rfl)
      go_simp
      exact hK
    · intro xv xr xi xe xhe
      have xhm := mem_listed xhe
      rw [hP] at xhm
      have xc0 := Has.cell (ρ := worker k) m9.has xr xi (o := 1) (show _ = some _ from rfl)
      simp [go_sem, *] at xhm
      all_goals (first | subst xhm | (rcases xhm with rfl | rfl) | (rcases xhm with rfl | rfl | rfl | rfl))
      all_goals (exact EvOk.read (Has.rely m9.has xr) xi rfl)
    try walk_nrm
    co_applyP opsX_rd rfl (by rfl)
    · intro xv xr xi Kc hK
      rw [hP]
      go_simp
      exact hK
    · intro xv xr xi xe xhe
      rw [hP, listed_nil (by simp [go_sem, *])] at xhe
      simp at xhe
    try walk_nrm
    co_applyP opsX_rd rfl (by rfl)
    · intro xv xr xi Kc hK
      rw [hP]
      go_simp
      exact hK
    · intro xv xr xi xe xhe
      rw [hP, listed_nil (by simp [go_sem, *])] at xhe
      simp at xhe
    try walk_nrm
    co_apply opsX_nil
    simp only [XThen, XBlock, if_true, if_false, reduceIte, Nat.reduceEqDiff]
    co_apply wpX_to (fun a x => MSt N i b6 b7 (.slice (some ⟨bl, ol, none⟩) N.n capl) (.slice kb N.m capk) j a ∧ a.tmps.getD 9 undef = .pointer (some ⟨b9, 0, none⟩) ∧ MF K k x0 b6 b7 (stepB N i j (meetN N i j)) x ∧ Mine k x b9 (.cells #[.int .i64 (N.A j), .int .i64 (N.B j), .int .i64 (N.dl j), .int .i64 (N.dh j)] 39))
    · co_apply wpX_split (t := ((N.B j : Int) == i))
      · simp [Act.eval]
      · intro ht
        have hji : N.B j = i := by have := beq_iff_eq.1 ht; omega
        have hE := hN.A j hjm
        have hE' : (N.A j : Int) < (N.n : Int) := by omega
        have hw1 : IntKind.i64.wrap (N.lo (N.A j) + N.dl j) = N.lo (N.A j) + N.dl j := wrap_in (by have := hN.lo _ hE; have := hN.dl j hjm; omega)
        have hw2 : IntKind.i64.wrap (N.hi (N.A j) + N.dh j) = N.hi (N.A j) + N.dh j := wrap_in (by have := hN.hi _ hE; have := hN.dh j hjm; omega)
        have hS0 : (fun y => MF K k x0 b6 b7 (meetN N i j) y ∧ Mine k y b9 (.cells #[.int .i64 (N.A j), .int .i64 (N.B j), .int .i64 (N.dl j), .int .i64 (N.dh j)] 39)) x10 := ⟨hF10, m9⟩
        co_applyP wpX_region_held (C := 1) (S := (fun y => MF K k x0 b6 b7 (meetN N i j) y ∧ Mine k y b9 (.cells #[.int .i64 (N.A j), .int .i64 (N.B j), .int .i64 (N.dl j), .int .i64 (N.dh j)] 39))) 27 (by omega) (by rw [hP]; first | kernel_rfl | rfl) (hS0) (fun y r => ⟨hF10.rely r, m9.rely r⟩)
        simp only [List.size_toArray, List.length_cons, List.length_nil, Nat.reduceAdd, Nat.zero_add]
        intro y hS
        co_applyP anyX_rd (by omega) 0 rfl (by first | kernel_rfl | decide +kernel) (by first | kernel_rfl | decide +kernel) (by first | kernel_rfl | decide +kernel) (by first | kernel_rfl | decide +kernel) (by rfl)
        · intro y hy xv xr xi Kc hK
          rw [hP]
          go_simp
          exact hK
        · intro y hy xv xr xi xe xhe
          rw [hP, listed_nil (by simp [go_sem, *])] at xhe
          simp at xhe
        · exact hS
        try walk_nrm
        co_applyP anyX_rd (by omega) 1 rfl (by first | kernel_rfl | decide +kernel) (by first | kernel_rfl | decide +kernel) (by first | kernel_rfl | decide +kernel) (by first | kernel_rfl | decide +kernel) (by rfl)
        · intro y hy xv xr xi Kc hK
          rw [hP]
          have xc0 := Has.cell (ρ := worker k) hy.1.m7.has xr xi (o := 0) (show _ = some _ from rfl)
          go_simp
          exact hK
        · intro y hy xv xr xi xe xhe
          have xhm := mem_listed xhe
          rw [hP] at xhm
          have xc0 := Has.cell (ρ := worker k) hy.1.m7.has xr xi (o := 0) (show _ = some _ from rfl)
          simp [go_sem, *] at xhm
          all_goals (first | subst xhm | (rcases xhm with rfl | rfl) | (rcases xhm with rfl | rfl | rfl | rfl))
          all_goals (exact EvOk.read (Has.rely hy.1.m7.has xr) xi rfl)
        · exact hS
        try walk_nrm
        co_applyP anyX_rd (by omega) 2 rfl (by first | kernel_rfl | decide +kernel) (by first | kernel_rfl | decide +kernel) (by first | kernel_rfl | decide +kernel) (by first | kernel_rfl | decide +kernel) (by rfl)
        · intro y hy xv xr xi Kc hK
          rw [hP]
          go_simp
          exact hK
        · intro y hy xv xr xi xe xhe
          rw [hP, listed_nil (by simp [go_sem, *])] at xhe
          simp at xhe
        · exact hS
        try walk_nrm
        co_applyP anyX_rd (by omega) 3 rfl (by first | kernel_rfl | decide +kernel) (by first | kernel_rfl | decide +kernel) (by first | kernel_rfl | decide +kernel) (by first | kernel_rfl | decide +kernel) (by rfl)
        · intro y hy xv xr xi Kc hK
          rw [hP]
          go_simp
          exact hK
        · intro y hy xv xr xi xe xhe
          rw [hP, listed_nil (by simp [go_sem, *])] at xhe
          simp at xhe
        · exact hS
        try walk_nrm
        co_applyP anyX_rd (by omega) 4 rfl (by first | kernel_rfl | decide +kernel) (by first | kernel_rfl | decide +kernel) (by first | kernel_rfl | decide +kernel) (by first | kernel_rfl | decide +kernel) (by rfl)
        · intro y hy xv xr xi Kc hK
          rw [hP]
          have xc0 := Has.cell (ρ := worker k) hy.2.has xr xi (o := 0) (show _ = some _ from rfl)
          go_simp
          exact hK
        · intro y hy xv xr xi xe xhe
          have xhm := mem_listed xhe
          rw [hP] at xhm
          have xc0 := Has.cell (ρ := worker k) hy.2.has xr xi (o := 0) (show _ = some _ from rfl)
          simp [go_sem, *] at xhm
          all_goals (first | subst xhm | (rcases xhm with rfl | rfl) | (rcases xhm with rfl | rfl | rfl | rfl))
          all_goals (exact EvOk.read (Has.rely hy.2.has xr) xi rfl)
        · exact hS
        try walk_nrm
        co_applyP anyX_rd (by omega) 5 rfl (by first | kernel_rfl | decide +kernel) (by first | kernel_rfl | decide +kernel) (by first | kernel_rfl | decide +kernel) (by first | kernel_rfl | decide +kernel) (by rfl)
        · intro y hy xv xr xi Kc hK
          rw [hP]
          go_simp
          exact hK
        · intro y hy xv xr xi xe xhe
          rw [hP, listed_nil (by simp [go_sem, *])] at xhe
          simp at xhe
        · exact hS
        try walk_nrm
        co_applyP anyX_rd (by omega) 6 rfl (by first | kernel_rfl | decide +kernel) (by first | kernel_rfl | decide +kernel) (by first | kernel_rfl | decide +kernel) (by first | kernel_rfl | decide +kernel) (by rfl)
        · intro y hy xv xr xi Kc hK
          rw [hP]
          go_simp
          exact hK
        · intro y hy xv xr xi xe xhe
          rw [hP, listed_nil (by simp [go_sem, *])] at xhe
          simp at xhe
        · exact hS
        try walk_nrm
        co_applyP anyX_rd (by omega) 7 rfl (by first | kernel_rfl | decide +kernel) (by first | kernel_rfl | decide +kernel) (by first | kernel_rfl | decide +kernel) (by first | kernel_rfl | decide +kernel) (by rfl)
        · intro y hy xv xr xi Kc hK
          rw [hP]
          have xc0 := Has.cell (ρ := worker k) (Hl y hy.1.rn) xr xi (o := ol + N.A j * 2) (v := .int .i64 (N.lo (N.A j))) (Hr.lo _ hE)
          go_simp
          exact hK
        · intro y hy xv xr xi xe xhe
          have xhm := mem_listed xhe
          rw [hP] at xhm
          have xc0 := Has.cell (ρ := worker k) (Hl y hy.1.rn) xr xi (o := ol + N.A j * 2) (v := .int .i64 (N.lo (N.A j))) (Hr.lo _ hE)
          simp [go_sem, *] at xhm
          all_goals (first | subst xhm | (rcases xhm with rfl | rfl) | (rcases xhm with rfl | rfl | rfl | rfl))
          all_goals (exact EvOk.read (Has.rely (Hl y hy.1.rn) xr) xi rfl)
        · exact hS
        try walk_nrm
        co_applyP anyX_rd (by omega) 8 rfl (by first | kernel_rfl | decide +kernel) (by first | kernel_rfl | decide +kernel) (by first | kernel_rfl | decide +kernel) (by first | kernel_rfl | decide +kernel) (by rfl)
        · intro y hy xv xr xi Kc hK
          rw [hP]
          go_simp
          exact hK
        · intro y hy xv xr xi xe xhe
          rw [hP, listed_nil (by simp [go_sem, *])] at xhe
          simp at xhe
        · exact hS
        try walk_nrm
        co_applyP anyX_rd (by omega) 9 rfl (by first | kernel_rfl | decide +kernel) (by first | kernel_rfl | decide +kernel) (by first | kernel_rfl | decide +kernel) (by first | kernel_rfl | decide +kernel) (by rfl)
        · intro y hy xv xr xi Kc hK
          rw [hP]
          go_simp
          exact hK
        · intro y hy xv xr xi xe xhe
          rw [hP, listed_nil (by simp [go_sem, *])] at xhe
          simp at xhe
        · exact hS
        try walk_nrm
        co_applyP anyX_rd (by omega) 10 rfl (by first | kernel_rfl | decide +kernel) (by first | kernel_rfl | decide +kernel) (by first | kernel_rfl | decide +kernel) (by first | kernel_rfl | decide +kernel) (by rfl)
        · intro y hy xv xr xi Kc hK
          rw [hP]
          have xc0 := Has.cell (ρ := worker k) hy.2.has xr xi (o := 2) (show _ = some _ from rfl)
          go_simp
          exact hK
        · intro y hy xv xr xi xe xhe
          have xhm := mem_listed xhe
          rw [hP] at xhm
          have xc0 := Has.cell (ρ := worker k) hy.2.has xr xi (o := 2) (show _ = some _ from rfl)
          simp [go_sem, *] at xhm
          all_goals (first | subst xhm | (rcases xhm with rfl | rfl) | (rcases xhm with rfl | rfl | rfl | rfl))
          all_goals (exact EvOk.read (Has.rely hy.2.has xr) xi rfl)
        · exact hS
        try walk_nrm
        co_applyP anyX_rd (by omega) 11 rfl (by first | kernel_rfl | decide +kernel) (by first | kernel_rfl | decide +kernel) (by first | kernel_rfl | decide +kernel) (by first | kernel_rfl | decide +kernel) (by rfl)
        · intro y hy xv xr xi Kc hK
          rw [hP]
          go_simp
          exact hK
        · intro y hy xv xr xi xe xhe
          rw [hP, listed_nil (by simp [go_sem, *])] at xhe
          simp at xhe
        · exact hS
        try walk_nrm
        co_applyP anyX_rd (by omega) 12 rfl (by first | kernel_rfl | decide +kernel) (by first | kernel_rfl | decide +kernel) (by first | kernel_rfl | decide +kernel) (by first | kernel_rfl | decide +kernel) (by rfl)
        · intro y hy xv xr xi Kc hK
          rw [hP]
          go_simp
          exact hK
        · intro y hy xv xr xi xe xhe
          rw [hP, listed_nil (by simp [go_sem, *])] at xhe
          simp at xhe
        · exact hS
        try walk_nrm
        co_applyP anyX_rd (by omega) 13 rfl (by first | kernel_rfl | decide +kernel) (by first | kernel_rfl | decide +kernel) (by first | kernel_rfl | decide +kernel) (by first | kernel_rfl | decide +kernel) (by rfl)
        · intro y hy xv xr xi Kc hK
          rw [hP]
          go_simp
          exact hK
        · intro y hy xv xr xi xe xhe
          rw [hP, listed_nil (by simp [go_sem, *])] at xhe
          simp at xhe
        · exact hS
        try walk_nrm
        co_applyP anyX_rd (by omega) 14 rfl (by first | kernel_rfl | decide +kernel) (by first | kernel_rfl | decide +kernel) (by first | kernel_rfl | decide +kernel) (by first | kernel_rfl | decide +kernel) (by rfl)
        · intro y hy xv xr xi Kc hK
          rw [hP]
          have xc0 := Has.cell (ρ := worker k) hy.1.m7.has xr xi (o := 1) (show _ = some _ from rfl)
          go_simp
          exact hK
        · intro y hy xv xr xi xe xhe
          have xhm := mem_listed xhe
          rw [hP] at xhm
          have xc0 := Has.cell (ρ := worker k) hy.1.m7.has xr xi (o := 1) (show _ = some _ from rfl)
          simp [go_sem, *] at xhm
          all_goals (first | subst xhm | (rcases xhm with rfl | rfl) | (rcases xhm with rfl | rfl | rfl | rfl))
          all_goals (exact EvOk.read (Has.rely hy.1.m7.has xr) xi rfl)
        · exact hS
        try walk_nrm
        co_applyP anyX_rd (by omega) 15 rfl (by first | kernel_rfl | decide +kernel) (by first | kernel_rfl | decide +kernel) (by first | kernel_rfl | decide +kernel) (by first | kernel_rfl | decide +kernel) (by rfl)
        · intro y hy xv xr xi Kc hK
          rw [hP]
          go_simp
          exact hK
        · intro y hy xv xr xi xe xhe
          rw [hP, listed_nil (by simp [go_sem, *])] at xhe
          simp at xhe
        · exact hS
        try walk_nrm
        co_applyP anyX_rd (by omega) 16 rfl (by first | kernel_rfl | decide +kernel) (by first | kernel_rfl | decide +kernel) (by first | kernel_rfl | decide +kernel) (by first | kernel_rfl | decide +kernel) (by rfl)
        · intro y hy xv xr xi Kc hK
          rw [hP]
          go_simp
          exact hK
        · intro y hy xv xr xi xe xhe
          rw [hP, listed_nil (by simp [go_sem, *])] at xhe
          simp at xhe
        · exact hS
        try walk_nrm
        co_applyP anyX_rd (by omega) 17 rfl (by first | kernel_rfl | decide +kernel) (by first | kernel_rfl | decide +kernel) (by first | kernel_rfl | decide +kernel) (by first | kernel_rfl | decide +kernel) (by rfl)
        · intro y hy xv xr xi Kc hK
          rw [hP]
          have xc0 := Has.cell (ρ := worker k) hy.2.has xr xi (o := 0) (show _ = some _ from rfl)
          go_simp
          exact hK
        · intro y hy xv xr xi xe xhe
          have xhm := mem_listed xhe
          rw [hP] at xhm
          have xc0 := Has.cell (ρ := worker k) hy.2.has xr xi (o := 0) (show _ = some _ from rfl)
          simp [go_sem, *] at xhm
          all_goals (first | subst xhm | (rcases xhm with rfl | rfl) | (rcases xhm with rfl | rfl | rfl | rfl))
          all_goals (exact EvOk.read (Has.rely hy.2.has xr) xi rfl)
        · exact hS
        try walk_nrm
        co_applyP anyX_rd (by omega) 18 rfl (by first | kernel_rfl | decide +kernel) (by first | kernel_rfl | decide +kernel) (by first | kernel_rfl | decide +kernel) (by first | kernel_rfl | decide +kernel) (by rfl)
        · intro y hy xv xr xi Kc hK
          rw [hP]
          go_simp
          exact hK
        · intro y hy xv xr xi xe xhe
          rw [hP, listed_nil (by simp [go_sem, *])] at xhe
          simp at xhe
        · exact hS
        try walk_nrm
        co_applyP anyX_rd (by omega) 19 rfl (by first | kernel_rfl | decide +kernel) (by first | kernel_rfl | decide +kernel) (by first | kernel_rfl | decide +kernel) (by first | kernel_rfl | decide +kernel) (by rfl)
        · intro y hy xv xr xi Kc hK
          rw [hP]
          go_simp
          exact hK
        · intro y hy xv xr xi xe xhe
          rw [hP, listed_nil (by simp [go_sem, *])] at xhe
          simp at xhe
        · exact hS
        try walk_nrm
        co_applyP anyX_rd (by omega) 20 rfl (by first | kernel_rfl | decide +kernel) (by first | kernel_rfl | decide +kernel) (by first | kernel_rfl | decide +kernel) (by first | kernel_rfl | decide +kernel) (by rfl)
        · intro y hy xv xr xi Kc hK
          rw [hP]
          have xc0 := Has.cell (ρ := worker k) (Hl y hy.1.rn) xr xi (o := ol + N.A j * 2 + 1) (v := .int .i64 (N.hi (N.A j))) (Hr.hi _ hE)
          go_simp
          exact hK
        · intro y hy xv xr xi xe xhe
          have xhm := mem_listed xhe
          rw [hP] at xhm
          have xc0 := Has.cell (ρ := worker k) (Hl y hy.1.rn) xr xi (o := ol + N.A j * 2 + 1) (v := .int .i64 (N.hi (N.A j))) (Hr.hi _ hE)
          simp [go_sem, *] at xhm
          all_goals (first | subst xhm | (rcases xhm with rfl | rfl) | (rcases xhm with rfl | rfl | rfl | rfl))
          all_goals (exact EvOk.read (Has.rely (Hl y hy.1.rn) xr) xi rfl)
        · exact hS
        try walk_nrm
        co_applyP anyX_rd (by omega) 21 rfl (by first | kernel_rfl | decide +kernel) (by first | kernel_rfl | decide +kernel) (by first | kernel_rfl | decide +kernel) (by first | kernel_rfl | decide +kernel) (by rfl)
        · intro y hy xv xr xi Kc hK
          rw [hP]
          go_simp
          exact hK
        · intro y hy xv xr xi xe xhe
          rw [hP, listed_nil (by simp [go_sem, *])] at xhe
          simp at xhe
        · exact hS
        try walk_nrm
        co_applyP anyX_rd (by omega) 22 rfl (by first | kernel_rfl | decide +kernel) (by first | kernel_rfl | decide +kernel) (by first | kernel_rfl | decide +kernel) (by first | kernel_rfl | decide +kernel) (by rfl)
        · intro y hy xv xr xi Kc hK
          rw [hP]
          go_simp
          exact hK
        · intro y hy xv xr xi xe xhe
          rw [hP, listed_nil (by simp [go_sem, *])] at xhe
          simp at xhe
        · exact hS
        try walk_nrm
        co_applyP anyX_rd (by omega) 23 rfl (by first | kernel_rfl | decide +kernel) (by first | kernel_rfl | decide +kernel) (by first | kernel_rfl | decide +kernel) (by first | kernel_rfl | decide +kernel) (by rfl)
        · intro y hy xv xr xi Kc hK
          rw [hP]
          have xc0 := Has.cell (ρ := worker k) hy.2.has xr xi (o := 3) (show _ = some _ from rfl)
          go_simp
          exact hK
        · intro y hy xv xr xi xe xhe
          have xhm := mem_listed xhe
          rw [hP] at xhm
          have xc0 := Has.cell (ρ := worker k) hy.2.has xr xi (o := 3) (show _ = some _ from rfl)
          simp [go_sem, *] at xhm
          all_goals (first | subst xhm | (rcases xhm with rfl | rfl) | (rcases xhm with rfl | rfl | rfl | rfl))
          all_goals (exact EvOk.read (Has.rely hy.2.has xr) xi rfl)
        · exact hS
        try walk_nrm
        co_applyP anyX_rd (by omega) 24 rfl (by first | kernel_rfl | decide +kernel) (by first | kernel_rfl | decide +kernel) (by first | kernel_rfl | decide +kernel) (by first | kernel_rfl | decide +kernel) (by rfl)
        · intro y hy xv xr xi Kc hK
          rw [hP]
          go_simp
          exact hK
        · intro y hy xv xr xi xe xhe
          rw [hP, listed_nil (by simp [go_sem, *])] at xhe
          simp at xhe
        · exact hS
        try walk_nrm
        co_applyP anyX_rd (by omega) 25 rfl (by first | kernel_rfl | decide +kernel) (by first | kernel_rfl | decide +kernel) (by first | kernel_rfl | decide +kernel) (by first | kernel_rfl | decide +kernel) (by rfl)
        · intro y hy xv xr xi Kc hK
          rw [hP]
          go_simp
          exact hK
        · intro y hy xv xr xi xe xhe
          rw [hP, listed_nil (by simp [go_sem, *])] at xhe
          simp at xhe
        · exact hS
        try walk_nrm
        co_applyP anyX_rd (by omega) 26 rfl (by first | kernel_rfl | decide +kernel) (by first | kernel_rfl | decide +kernel) (by first | kernel_rfl | decide +kernel) (by first | kernel_rfl | decide +kernel) (by rfl)
        · intro y hy xv xr xi Kc hK
          rw [hP]
          go_simp
          exact hK
        · intro y hy xv xr xi xe xhe
          rw [hP, listed_nil (by simp [go_sem, *])] at xhe
          simp at xhe
        · exact hS
        try walk_nrm
        co_applyP anyX_one (i := 27) (by first | kernel_rfl | decide +kernel) rfl (by rfl)
        co_applyP act1_wr hS.1.m7.1 hS.1.m7.2
        · intro xv xr xi xb Kc hK
          rw [hP]
          have xc0 := cell_of xb (o := 0) (show _ = some _ from rfl)
          have xf0 : xv.w.frozen? ⟨b7, 0, none⟩ = false := by simp [World.frozen?, xb]
          have xc1 := cell_of xb (o := 1) (show _ = some _ from rfl)
          have xf1 : xv.w.frozen? ⟨b7, 1, none⟩ = false := by simp [World.frozen?, xb]
          go_simp
          (try unfold stored; go_simp)
          refine hK _ ?_
          rw [setCell_blk xb, setCell_blk (setBlk_self (lt_of_some xb)), setBlk_setBlk]
          (try rfl)
        · intro xv xr xi xb xe xhm
          rw [hP] at xhm
          have xc0 := cell_of xb (o := 0) (show _ = some _ from rfl)
          have xf0 : xv.w.frozen? ⟨b7, 0, none⟩ = false := by simp [World.frozen?, xb]
          have xc1 := cell_of xb (o := 1) (show _ = some _ from rfl)
          have xf1 : xv.w.frozen? ⟨b7, 1, none⟩ = false := by simp [World.frozen?, xb]
          simp [go_sem, *] at xhm
          all_goals (first | subst xhm | (rcases xhm with rfl | rfl) | (rcases xhm with rfl | rfl | rfl | rfl))
          all_goals (exact ⟨_, rfl, rfl⟩)
        intro y2 rb2 hc2 hb2
        refine ⟨.inr rfl, anyX_done (by first | kernel_rfl | decide +kernel) ?_ _⟩
        simp only [XThen]
        refine ⟨⟨rfl, rfl, rfl, rfl, rfl, rfl, rfl, rfl, rfl, rfl⟩, rfl, ⟨hS.1.m6.rb rb2 hS.1.ne, ⟨hc2, ?_⟩, hS.1.rn.write rb2 hS.1.n7 hC, hS.1.n6, hS.1.n7, hS.1.ne⟩, hS.2.rb rb2 n97⟩
        unfold stepB
        rw [if_pos hji]
        exact hb2
      · intro ht
        have hji : ¬ N.B j = i := fun e => by rw [e] at ht; simp at ht
        co_apply wpX_skip
        simp only [XThen]
        exact ⟨⟨rfl, rfl, rfl, rfl, rfl, rfl, rfl, rfl, rfl, rfl⟩, rfl, by unfold stepB; rw [if_neg hji]; exact hF10, m9⟩
    · rintro ⟨T, ds⟩ x ⟨hs, hs9, hF, m9⟩
      obtain rfl : ds = [] := hs.ds
      obtain ⟨u, hu, hv⟩ := frame_lit hs.sz
      simp only [List.range, List.range.loop, List.map_cons, List.map_nil] at hu
      have e0 := (hv 0).trans hs.s0
      have e1 := (hv 1).trans hs.s1
      have e2 := (hv 2).trans hs.s2
      have e6 := (hv 6).trans hs.s6
      have e7 := (hv 7).trans hs.s7
      have e9 := (hv 9).trans hs9
      have e14 := (hv 14).trans hs.s14
      have e15 := (hv 15).trans hs.s15
      have e16 := (hv 16).trans hs.s16
      rw [e0, e1, e2, e6, e7, e9, e14, e15, e16] at hu
      clear hs hv e0 e1 e2 e6 e7 e14 e15 e16 e9 hs9
      subst hu
      have n97 : b9 ≠ b7 := n97
      clear hF10
      repeat (co_apply wpX_seq)
      co_apply wpX_region
      simp only [List.size_toArray, List.length_cons, List.length_nil, Nat.reduceAdd, Nat.zero_add, List.range, List.range.loop]
      co_applyP opsX_rd rfl (by rfl)
      · intro xv xr xi Kc hK
        rw [hP]
        go_simp
        exact hK
      · intro xv xr xi xe xhe
        rw [hP, listed_nil (by simp [go_sem, *])] at xhe
        simp at xhe
      try walk_nrm
      co_applyP opsX_rd rfl (by rfl)
      · intro xv xr xi Kc hK
        rw [hP]
        have xc0 := Has.cell (ρ := worker k) m9.has xr xi (o := 0) (show _ = some _ from rfl)
        go_simp
        exact hK
      · intro xv xr xi xe xhe
        have xhm := mem_listed xhe
        rw [hP] at xhm
        have xc0 := Has.cell (ρ := worker k) m9.has xr xi (o := 0) (show _ = some _ from rfl)
        simp [go_sem, *] at xhm
        all_goals (first | subst xhm | (rcases xhm with rfl | rfl) | (rcases xhm with rfl | rfl | rfl | rfl))
        all_goals (exact EvOk.read (Has.rely m9.has xr) xi rfl)
      try walk_nrm
      co_applyP opsX_rd rfl (by rfl)
      · intro xv xr xi Kc hK
        rw [hP]
        go_simp
        exact hK
      · intro xv xr xi xe xhe
        rw [hP, listed_nil (by simp [go_sem, *])] at xhe
        simp at xhe
      try walk_nrm
      co_applyP opsX_rd rfl (by rfl)
      · intro xv xr xi Kc hK
        rw [hP]
        go_simp
        exact hK
      · intro xv xr xi xe xhe
        rw [hP, listed_nil (by simp [go_sem, *])] at xhe
        simp at xhe
      try walk_nrm
      co_apply opsX_nil
      simp only [XThen, XBlock, if_true, if_false, reduceIte, Nat.reduceEqDiff]
      co_apply wpX_toN (fun a x => MF K k x0 b6 b7 (meetN N i (j + 1)) x ∧ MSt N i b6 b7 (.slice (some ⟨bl, ol, none⟩) N.n capl) (.slice kb N.m capk) j a)
      · co_apply wpX_split (t := ((N.A j : Int) == i))
        · simp [Act.eval]
        · intro ht
          have hji : N.A j = i := by have := beq_iff_eq.1 ht; omega
          have hE := hN.B j hjm
          have hE' : (N.B j : Int) < (N.n : Int) := by omega
          have hw1 : IntKind.i64.wrap (N.lo (N.B j) - N.dh j) = N.lo (N.B j) - N.dh j := wrap_in (by have := hN.lo _ hE; have := hN.dh j hjm; omega)
          have hw2 : IntKind.i64.wrap (N.hi (N.B j) - N.dl j) = N.hi (N.B j) - N.dl j := wrap_in (by have := hN.hi _ hE; have := hN.dl j hjm; omega)
          have hS0 : (fun y => MF K k x0 b6 b7 (stepB N i j (meetN N i j)) y ∧ Mine k y b9 (.cells #[.int .i64 (N.A j), .int .i64 (N.B j), .int .i64 (N.dl j), .int .i64 (N.dh j)] 39)) x := ⟨hF, m9⟩
          co_applyP wpX_region_held (C := 1) (S := (fun y => MF K k x0 b6 b7 (stepB N i j (meetN N i j)) y ∧ Mine k y b9 (.cells #[.int .i64 (N.A j), .int .i64 (N.B j), .int .i64 (N.dl j), .int .i64 (N.dh j)] 39))) 27 (by omega) (by rw [hP]; first | kernel_rfl | rfl) (hS0) (fun y r => ⟨hF.rely r, m9.rely r⟩)
          simp only [List.size_toArray, List.length_cons, List.length_nil, Nat.reduceAdd, Nat.zero_add]
          intro y hS
          co_applyP anyX_rd (by omega) 0 rfl (by first | kernel_rfl | decide +kernel) (by first | kernel_rfl | decide +kernel) (by first | kernel_rfl | decide +kernel) (by first | kernel_rfl | decide +kernel) (by rfl)
          · intro y hy xv xr xi Kc hK
            rw [hP]
            go_simp
            exact hK
          · intro y hy xv xr xi xe xhe
            rw [hP, listed_nil (by simp [go_sem, *])] at xhe
            simp at xhe
          · exact hS
          try walk_nrm
          co_applyP anyX_rd (by omega) 1 rfl (by first | kernel_rfl | decide +kernel) (by first | kernel_rfl | decide +kernel) (by first | kernel_rfl | decide +kernel) (by first | kernel_rfl | decide +kernel) (by rfl)
          · intro y hy xv xr xi Kc hK
            rw [hP]
            have xc0 := Has.cell (ρ := worker k) hy.1.m7.has xr xi (o := 0) (show _ = some _ from rfl)
            go_simp
            exact hK
          · intro y hy xv xr xi xe xhe
            have xhm := mem_listed xhe
            rw [hP] at xhm
            have xc0 := Has.cell (ρ := worker k) hy.1.m7.has xr xi (o := 0) (show _ = some _ from rfl)
            simp [go_sem, *] at xhm
            all_goals (first | subst xhm | (rcases xhm with rfl | rfl) | (rcases xhm with rfl | rfl | rfl | rfl))
            all_goals (exact EvOk.read (Has.rely hy.1.m7.has xr) xi rfl)
          · exact hS
          try walk_nrm
          co_applyP anyX_rd (by omega) 2 rfl (by first | kernel_rfl | decide +kernel) (by first | kernel_rfl | decide +kernel) (by first | kernel_rfl | decide +kernel) (by first | kernel_rfl | decide +kernel) (by rfl)
          · intro y hy xv xr xi Kc hK
            rw [hP]
            go_simp
            exact hK
          · intro y hy xv xr xi xe xhe
            rw [hP, listed_nil (by simp [go_sem, *])] at xhe
            simp at xhe
          · exact hS
          try walk_nrm
          co_applyP anyX_rd (by omega) 3 rfl (by first | kernel_rfl | decide +kernel) (by first | kernel_rfl | decide +kernel) (by first | kernel_rfl | decide +kernel) (by first | kernel_rfl | decide +kernel) (by rfl)
          · intro y hy xv xr xi Kc hK
            rw [hP]
            go_simp
            exact hK
          · intro y hy xv xr xi xe xhe
            rw [hP, listed_nil (by simp [go_sem, *])] at xhe
            simp at xhe
          · exact hS
          try walk_nrm
          co_applyP anyX_rd (by omega) 4 rfl (by first | kernel_rfl | decide +kernel) (by first | kernel_rfl | decide +kernel) (by first | kernel_rfl | decide +kernel) (by first | kernel_rfl | decide +kernel) (by rfl)
          · intro y hy xv xr xi Kc hK
            rw [hP]
            have xc0 := Has.cell (ρ := worker k) hy.2.has xr xi (o := 1) (show _ = some _ from rfl)
            go_simp
            exact hK
          · intro y hy xv xr xi xe xhe
            have xhm := mem_listed xhe
            rw [hP] at xhm
            have xc0 := Has.cell (ρ := worker k) hy.2.has xr xi (o := 1) (show _ = some _ from rfl)
            simp [go_sem, *] at xhm
            all_goals (first | subst xhm | (rcases xhm with rfl | rfl) | (rcases xhm with rfl | rfl | rfl | rfl))
            all_goals (exact EvOk.read (Has.rely hy.2.has xr) xi rfl)
          · exact hS
          try walk_nrm
          co_applyP anyX_rd (by omega) 5 rfl (by first | kernel_rfl | decide +kernel) (by first | kernel_rfl | decide +kernel) (by first | kernel_rfl | decide +kernel) (by first | kernel_rfl | decide +kernel) (by rfl)
          · intro y hy xv xr xi Kc hK
            rw [hP]
            go_simp
            exact hK
          · intro y hy xv xr xi xe xhe
            rw [hP, listed_nil (by simp [go_sem, *])] at xhe
            simp at xhe
          · exact hS
          try walk_nrm
          co_applyP anyX_rd (by omega) 6 rfl (by first | kernel_rfl | decide +kernel) (by first | kernel_rfl | decide +kernel) (by first | kernel_rfl | decide +kernel) (by first | kernel_rfl | decide +kernel) (by rfl)
          · intro y hy xv xr xi Kc hK
            rw [hP]
            go_simp
            exact hK
          · intro y hy xv xr xi xe xhe
            rw [hP, listed_nil (by simp [go_sem, *])] at xhe
            simp at xhe
          · exact hS
          try walk_nrm
          co_applyP anyX_rd (by omega) 7 rfl (by first | kernel_rfl | decide +kernel) (by first | kernel_rfl | decide +kernel) (by first | kernel_rfl | decide +kernel) (by first | kernel_rfl | decide +kernel) (by rfl)
          · intro y hy xv xr xi Kc hK
            rw [hP]
            have xc0 := Has.cell (ρ := worker k) (Hl y hy.1.rn) xr xi (o := ol + N.B j * 2) (v := .int .i64 (N.lo (N.B j))) (Hr.lo _ hE)
            go_simp
            exact hK
          · intro y hy xv xr xi xe xhe
            have xhm := mem_listed xhe
            rw [hP] at xhm
            have xc0 := Has.cell (ρ := worker k) (Hl y hy.1.rn) xr xi (o := ol + N.B j * 2) (v := .int .i64 (N.lo (N.B j))) (Hr.lo _ hE)
            simp [go_sem, *] at xhm
            all_goals (first | subst xhm | (rcases xhm with rfl | rfl) | (rcases xhm with rfl | rfl | rfl | rfl))
            all_goals (exact EvOk.read (Has.rely (Hl y hy.1.rn) xr) xi rfl)
          · exact hS
          try walk_nrm
          co_applyP anyX_rd (by omega) 8 rfl (by first | kernel_rfl | decide +kernel) (by first | kernel_rfl | decide +kernel) (by first | kernel_rfl | decide +kernel) (by first | kernel_rfl | decide +kernel) (by rfl)
          · intro y hy xv xr xi Kc hK
            rw [hP]
            go_simp
            exact hK
          · intro y hy xv xr xi xe xhe
            rw [hP, listed_nil (by simp [go_sem, *])] at xhe
            simp at xhe
          · exact hS
          try walk_nrm
          co_applyP anyX_rd (by omega) 9 rfl (by first | kernel_rfl | decide +kernel) (by first | kernel_rfl | decide +kernel) (by first | kernel_rfl | decide +kernel) (by first | kernel_rfl | decide +kernel) (by rfl)
          · intro y hy xv xr xi Kc hK
            rw [hP]
            go_simp
            exact hK
          · intro y hy xv xr xi xe xhe
            rw [hP, listed_nil (by simp [go_sem, *])] at xhe
            simp at xhe
          · exact hS
          try walk_nrm
          co_applyP anyX_rd (by omega) 10 rfl (by first | kernel_rfl | decide +kernel) (by first | kernel_rfl | decide +kernel) (by first | kernel_rfl | decide +kernel) (by first | kernel_rfl | decide +kernel) (by rfl)
          · intro y hy xv xr xi Kc hK
            rw [hP]
            have xc0 := Has.cell (ρ := worker k) hy.2.has xr xi (o := 3) (show _ = some _ from rfl)
            go_simp
            exact hK
          · intro y hy xv xr xi xe xhe
            have xhm := mem_listed xhe
            rw [hP] at xhm
            have xc0 := Has.cell (ρ := worker k) hy.2.has xr xi (o := 3) (show _ = some _ from rfl)
            simp [go_sem, *] at xhm
            all_goals (first | subst xhm | (rcases xhm with rfl | rfl) | (rcases xhm with rfl | rfl | rfl | rfl))
            all_goals (exact EvOk.read (Has.rely hy.2.has xr) xi rfl)
          · exact hS
          try walk_nrm
          co_applyP anyX_rd (by omega) 11 rfl (by first | kernel_rfl | decide +kernel) (by first | kernel_rfl | decide +kernel) (by first | kernel_rfl | decide +kernel) (by first | kernel_rfl | decide +kernel) (by rfl)
          · intro y hy xv xr xi Kc hK
            rw [hP]
            go_simp
            exact hK
          · intro y hy xv xr xi xe xhe
            rw [hP, listed_nil (by simp [go_sem, *])] at xhe
            simp at xhe
          · exact hS
          try walk_nrm
          co_applyP anyX_rd (by omega) 12 rfl (by first | kernel_rfl | decide +kernel) (by first | kernel_rfl | decide +kernel) (by first | kernel_rfl | decide +kernel) (by first | kernel_rfl | decide +kernel) (by rfl)
          · intro y hy xv xr xi Kc hK
            rw [hP]
            go_simp
            exact hK
          · intro y hy xv xr xi xe xhe
            rw [hP, listed_nil (by simp [go_sem, *])] at xhe
            simp at xhe
          · exact hS
          try walk_nrm
          co_applyP anyX_rd (by omega) 13 rfl (by first | kernel_rfl | decide +kernel) (by first | kernel_rfl | decide +kernel) (by first | kernel_rfl | decide +kernel) (by first | kernel_rfl | decide +kernel) (by rfl)
          · intro y hy xv xr xi Kc hK
            rw [hP]
            go_simp
            exact hK
          · intro y hy xv xr xi xe xhe
            rw [hP, listed_nil (by simp [go_sem, *])] at xhe
            simp at xhe
          · exact hS
          try walk_nrm
          co_applyP anyX_rd (by omega) 14 rfl (by first | kernel_rfl | decide +kernel) (by first | kernel_rfl | decide +kernel) (by first | kernel_rfl | decide +kernel) (by first | kernel_rfl | decide +kernel) (by rfl)
          · intro y hy xv xr xi Kc hK
            rw [hP]
            have xc0 := Has.cell (ρ := worker k) hy.1.m7.has xr xi (o := 1) (show _ = some _ from rfl)
            go_simp
            exact hK
          · intro y hy xv xr xi xe xhe
            have xhm := mem_listed xhe
            rw [hP] at xhm
            have xc0 := Has.cell (ρ := worker k) hy.1.m7.has xr xi (o := 1) (show _ = some _ from rfl)
            simp [go_sem, *] at xhm
            all_goals (first | subst xhm | (rcases xhm with rfl | rfl) | (rcases xhm with rfl | rfl | rfl | rfl))
            all_goals (exact EvOk.read (Has.rely hy.1.m7.has xr) xi rfl)
          · exact hS
          try walk_nrm
          co_applyP anyX_rd (by omega) 15 rfl (by first | kernel_rfl | decide +kernel) (by first | kernel_rfl | decide +kernel) (by first | kernel_rfl | decide +kernel) (by first | kernel_rfl | decide +kernel) (by rfl)
          · intro y hy xv xr xi Kc hK
            rw [hP]
            go_simp
            exact hK
          · intro y hy xv xr xi xe xhe
            rw [hP, listed_nil (by simp [go_sem, *])] at xhe
            simp at xhe
          · exact hS
          try walk_nrm
          co_applyP anyX_rd (by omega) 16 rfl (by first | kernel_rfl | decide +kernel) (by first | kernel_rfl | decide +kernel) (by first | kernel_rfl | decide +kernel) (by first | kernel_rfl | decide +kernel) (by rfl)
          · intro y hy xv xr xi Kc hK
            rw [hP]
            go_simp
            exact hK
          · intro y hy xv xr xi xe xhe
            rw [hP, listed_nil (by simp [go_sem, *])] at xhe
            simp at xhe
          · exact hS
          try walk_nrm
          co_applyP anyX_rd (by omega) 17 rfl (by first | kernel_rfl | decide +kernel) (by first | kernel_rfl | decide +kernel) (by first | kernel_rfl | decide +kernel) (by first | kernel_rfl | decide +kernel) (by rfl)
          · intro y hy xv xr xi Kc hK
            rw [hP]
            have xc0 := Has.cell (ρ := worker k) hy.2.has xr xi (o := 1) (show _ = some _ from rfl)
            go_simp
            exact hK
          · intro y hy xv xr xi xe xhe
            have xhm := mem_listed xhe
            rw [hP] at xhm
            have xc0 := Has.cell (ρ := worker k) hy.2.has xr xi (o := 1) (show _ = some _ from rfl)
            simp [go_sem, *] at xhm
            all_goals (first | subst xhm | (rcases xhm with rfl | rfl) | (rcases xhm with rfl | rfl | rfl | rfl))
            all_goals (exact EvOk.read (Has.rely hy.2.has xr) xi rfl)
          · exact hS
          try walk_nrm
          co_applyP anyX_rd (by omega) 18 rfl (by first | kernel_rfl | decide +kernel) (by first | kernel_rfl | decide +kernel) (by first | kernel_rfl | decide +kernel) (by first | kernel_rfl | decide +kernel) (by rfl)
          · intro y hy xv xr xi Kc hK
            rw [hP]
            go_simp
            exact hK
          · intro y hy xv xr xi xe xhe
            rw [hP, listed_nil (by simp [go_sem, *])] at xhe
            simp at xhe
          · exact hS
          try walk_nrm
          co_applyP anyX_rd (by omega) 19 rfl (by first | kernel_rfl | decide +kernel) (by first | kernel_rfl | decide +kernel) (by first | kernel_rfl | decide +kernel) (by first | kernel_rfl | decide +kernel) (by rfl)
          · intro y hy xv xr xi Kc hK
            rw [hP]
            go_simp
            exact hK
          · intro y hy xv xr xi xe xhe
            rw [hP, listed_nil (by simp [go_sem, *])] at xhe
            simp at xhe
          · exact hS
          try walk_nrm
          co_applyP anyX_rd (by omega) 20 rfl (by first | kernel_rfl | decide +kernel) (by first | kernel_rfl | decide +kernel) (by first | kernel_rfl | decide +kernel) (by first | kernel_rfl | decide +kernel) (by rfl)
          · intro y hy xv xr xi Kc hK
            rw [hP]
            have xc0 := Has.cell (ρ := worker k) (Hl y hy.1.rn) xr xi (o := ol + N.B j * 2 + 1) (v := .int .i64 (N.hi (N.B j))) (Hr.hi _ hE)
            go_simp
            exact hK
          · intro y hy xv xr xi xe xhe
            have xhm := mem_listed xhe
            rw [hP] at xhm
            have xc0 := Has.cell (ρ := worker k) (Hl y hy.1.rn) xr xi (o := ol + N.B j * 2 + 1) (v := .int .i64 (N.hi (N.B j))) (Hr.hi _ hE)
            simp [go_sem, *] at xhm
            all_goals (first | subst xhm | (rcases xhm with rfl | rfl) | (rcases xhm with rfl | rfl | rfl | rfl))
            all_goals (exact EvOk.read (Has.rely (Hl y hy.1.rn) xr) xi rfl)
          · exact hS
          try walk_nrm
          co_applyP anyX_rd (by omega) 21 rfl (by first | kernel_rfl | decide +kernel) (by first | kernel_rfl | decide +kernel) (by first | kernel_rfl | decide +kernel) (by first | kernel_rfl | decide +kernel) (by rfl)
          · intro y hy xv xr xi Kc hK
            rw [hP]
            go_simp
            exact hK
          · intro y hy xv xr xi xe xhe
            rw [hP, listed_nil (by simp [go_sem, *])] at xhe
            simp at xhe
          · exact hS
          try walk_nrm
          co_applyP anyX_rd (by omega) 22 rfl (by first | kernel_rfl | decide +kernel) (by first | kernel_rfl | decide +kernel) (by first | kernel_rfl | decide +kernel) (by first | kernel_rfl | decide +kernel) (by rfl)
          · intro y hy xv xr xi Kc hK
            rw [hP]
            go_simp
            exact hK
          · intro y hy xv xr xi xe xhe
            rw [hP, listed_nil (by simp [go_sem, *])] at xhe
            simp at xhe
          · exact hS
          try walk_nrm
          co_applyP anyX_rd (by omega) 23 rfl (by first | kernel_rfl | decide +kernel) (by first | kernel_rfl | decide +kernel) (by first | kernel_rfl | decide +kernel) (by first | kernel_rfl | decide +kernel) (by rfl)
          · intro y hy xv xr xi Kc hK
            rw [hP]
            have xc0 := Has.cell (ρ := worker k) hy.2.has xr xi (o := 2) (show _ = some _ from rfl)
            go_simp
            exact hK
          · intro y hy xv xr xi xe xhe
            have xhm := mem_listed xhe
            rw [hP] at xhm
            have xc0 := Has.cell (ρ := worker k) hy.2.has xr xi (o := 2) (show _ = some _ from rfl)
            simp [go_sem, *] at xhm
            all_goals (first | subst xhm | (rcases xhm with rfl | rfl) | (rcases xhm with rfl | rfl | rfl | rfl))
            all_goals (exact EvOk.read (Has.rely hy.2.has xr) xi rfl)
          · exact hS
          try walk_nrm
          co_applyP anyX_rd (by omega) 24 rfl (by first | kernel_rfl | decide +kernel) (by first | kernel_rfl | decide +kernel) (by first | kernel_rfl | decide +kernel) (by first | kernel_rfl | decide +kernel) (by rfl)
          · intro y hy xv xr xi Kc hK
            rw [hP]
            go_simp
            exact hK
          · intro y hy xv xr xi xe xhe
            rw [hP, listed_nil (by simp [go_sem, *])] at xhe
            simp at xhe
          · exact hS
          try walk_nrm
          co_applyP anyX_rd (by omega) 25 rfl (by first | kernel_rfl | decide +kernel) (by first | kernel_rfl | decide +kernel) (by first | kernel_rfl | decide +kernel) (by first | kernel_rfl | decide +kernel) (by rfl)
          · intro y hy xv xr xi Kc hK
            rw [hP]
            go_simp
            exact hK
          · intro y hy xv xr xi xe xhe
            rw [hP, listed_nil (by simp [go_sem, *])] at xhe
            simp at xhe
          · exact hS
          try walk_nrm
          co_applyP anyX_rd (by omega) 26 rfl (by first | kernel_rfl | decide +kernel) (by first | kernel_rfl | decide +kernel) (by first | kernel_rfl | decide +kernel) (by first | kernel_rfl | decide +kernel) (by rfl)
          · intro y hy xv xr xi Kc hK
            rw [hP]
            go_simp
            exact hK
          · intro y hy xv xr xi xe xhe
            rw [hP, listed_nil (by simp [go_sem, *])] at xhe
            simp at xhe
          · exact hS
          try walk_nrm
          co_applyP anyX_one (i := 27) (by first | kernel_rfl | decide +kernel) rfl (by rfl)
          co_applyP act1_wr hS.1.m7.1 hS.1.m7.2
          · intro xv xr xi xb Kc hK
            rw [hP]
            have xc0 := cell_of xb (o := 0) (show _ = some _ from rfl)
            have xf0 : xv.w.frozen? ⟨b7, 0, none⟩ = false := by simp [World.frozen?, xb]
            have xc1 := cell_of xb (o := 1) (show _ = some _ from rfl)
            have xf1 : xv.w.frozen? ⟨b7, 1, none⟩ = false := by simp [World.frozen?, xb]
            go_simp
            (try unfold stored; go_simp)
            refine hK _ ?_
            rw [setCell_blk xb, setCell_blk (setBlk_self (lt_of_some xb)), setBlk_setBlk]
            (try rfl)
          · intro xv xr xi xb xe xhm
            rw [hP] at xhm
            have xc0 := cell_of xb (o := 0) (show _ = some _ from rfl)
            have xf0 : xv.w.frozen? ⟨b7, 0, none⟩ = false := by simp [World.frozen?, xb]
            have xc1 := cell_of xb (o := 1) (show _ = some _ from rfl)
            have xf1 : xv.w.frozen? ⟨b7, 1, none⟩ = false := by simp [World.frozen?, xb]
            simp [go_sem, *] at xhm
            all_goals (first | subst xhm | (rcases xhm with rfl | rfl) | (rcases xhm with rfl | rfl | rfl | rfl))
            all_goals (exact ⟨_, rfl, rfl⟩)
          intro y2 rb2 hc2 hb2
          refine ⟨.inr rfl, anyX_done (by first | kernel_rfl | decide +kernel) ?_ _⟩
          simp only [XThen]
          refine ⟨⟨hS.1.m6.rb rb2 hS.1.ne, ⟨hc2, ?_⟩, hS.1.rn.write rb2 hS.1.n7 hC, hS.1.n6, hS.1.n7, hS.1.ne⟩, rfl, rfl, rfl, rfl, rfl, rfl, rfl, rfl, rfl, rfl⟩
          unfold meetN stepA
          rw [if_pos hji]
          exact hb2
        · intro ht
          have hji : ¬ N.A j = i := fun e => by rw [e] at ht; simp at ht
          co_apply wpX_skip
          simp only [XThen]
          exact ⟨by unfold meetN stepA; rw [if_neg hji]; exact hF, rfl, rfl, rfl, rfl, rfl, rfl, rfl, rfl, rfl, rfl⟩
      · clear hF m9
        rintro ⟨T, ds⟩ x ⟨hF, hs⟩
        obtain rfl : ds = [] := hs.ds
        obtain ⟨u, hu, hv⟩ := frame_lit hs.sz
        simp only [List.range, List.range.loop, List.map_cons, List.map_nil] at hu
        have e0 := (hv 0).trans hs.s0
        have e1 := (hv 1).trans hs.s1
        have e2 := (hv 2).trans hs.s2
        have e6 := (hv 6).trans hs.s6
        have e7 := (hv 7).trans hs.s7
        have e14 := (hv 14).trans hs.s14
        have e15 := (hv 15).trans hs.s15
        have e16 := (hv 16).trans hs.s16
        rw [e0, e1, e2, e6, e7, e14, e15, e16] at hu
        clear hs hv e0 e1 e2 e6 e7 e14 e15 e16
        subst hu
        simp only [XThen, XBlock, if_true, if_false, reduceIte, Nat.reduceEqDiff]
        have hw : IntKind.i64.wrap ((j : Int) + 1) = ((j + 1 : Nat) : Int) := by rw [wrap_in (by have := hN.small; omega)]; simp
        repeat (co_apply wpX_seq)
        co_apply wpX_region
        simp only [List.size_toArray, List.length_cons, List.length_nil, Nat.reduceAdd, Nat.zero_add, List.range, List.range.loop]
        co_applyP opsX_rd rfl (by rfl)
        · intro xv xr xi Kc hK
          rw [hP]
          go_simp
          exact hK
        · intro xv xr xi xe xhe
          rw [hP, listed_nil (by simp [go_sem, *])] at xhe
          simp at xhe
        try walk_nrm
        co_applyP opsX_rd rfl (by rfl)
        · intro xv xr xi Kc hK
          rw [hP]
          go_simp
          exact hK
        · intro xv xr xi xe xhe
          rw [hP, listed_nil (by simp [go_sem, *])] at xhe
          simp at xhe
        try walk_nrm
        co_apply opsX_nil
        simp only [XThen, XBlock, if_true, if_false, reduceIte, Nat.reduceEqDiff]
        refine ⟨⟨j + 1, hjm, ⟨rfl, rfl, rfl, rfl, rfl, rfl, rfl, rfl, rfl, by first | rfl | (simp; done)⟩, hF⟩, ?_⟩
        show ((N.m : Int) - _).toNat < ((N.m : Int) - (j : Int)).toNat
        simp only [slotI, Array.getD]
        simp
        omega
  · intro ht
    obtain rfl : j = N.m := by simp at ht; omega
    clear ht hj
    co_apply wpX_exit
    simp only [XThen, XBlock, if_true, if_false, reduceIte, Nat.reduceEqDiff]
    repeat (co_apply wpX_seq)
    co_apply wpX_region
    simp only [List.size_toArray, List.length_cons, List.length_nil, Nat.reduceAdd, Nat.zero_add, List.range, List.range.loop]
    co_applyP opsX_rd rfl (by rfl)
    · intro xv xr xi Kc hK
      rw [hP]
      have xc0 := Has.cell (ρ := worker k) hF.m7.has xr xi (o := 0) (show _ = some _ from rfl)
      have xc1 := Has.cell (ρ := worker k) hF.m7.has xr xi (o := 1) (show _ = some _ from rfl)
      go_simp
      exact hK
    · intro xv xr xi xe xhe
      have xhm := mem_listed xhe
      rw [hP] at xhm
      have xc0 := Has.cell (ρ := worker k) hF.m7.has xr xi (o := 0) (show _ = some _ from rfl)
      have xc1 := Has.cell (ρ := worker k) hF.m7.has xr xi (o := 1) (show _ = some _ from rfl)
      simp [go_sem, *] at xhm
      all_goals (first | subst xhm | (rcases xhm with rfl | rfl) | (rcases xhm with rfl | rfl | rfl | rfl))
      all_goals (exact EvOk.read (Has.rely hF.m7.has xr) xi rfl)
    try walk_nrm
    co_applyP opsX_wr hF.m6.1 hF.m6.2 rfl (by rfl)
    · intro xv xr xi xb Kc hK
      rw [hP]
      have xc0 := cell_of xb (o := 0) (show _ = some _ from rfl)
      have xf0 : xv.w.frozen? ⟨b6, 0, none⟩ = false := by simp [World.frozen?, xb]
      have xc1 := cell_of xb (o := 1) (show _ = some _ from rfl)
      have xf1 : xv.w.frozen? ⟨b6, 1, none⟩ = false := by simp [World.frozen?, xb]
      go_simp
      (try unfold stored; go_simp)
      refine hK _ ?_
      rw [setCell_blk xb, setCell_blk (setBlk_self (lt_of_some xb)), setBlk_setBlk]
      (try rfl)
    · intro xv xr xi xb xe xhe
      have xhm := mem_listed xhe
      rw [hP] at xhm
      have xc0 := cell_of xb (o := 0) (show _ = some _ from rfl)
      have xf0 : xv.w.frozen? ⟨b6, 0, none⟩ = false := by simp [World.frozen?, xb]
      have xc1 := cell_of xb (o := 1) (show _ = some _ from rfl)
      have xf1 : xv.w.frozen? ⟨b6, 1, none⟩ = false := by simp [World.frozen?, xb]
      simp [go_sem, *] at xhm
      all_goals (first | subst xhm | (rcases xhm with rfl | rfl) | (rcases xhm with rfl | rfl | rfl | rfl))
      all_goals (exact ⟨_, rfl, rfl⟩)
    try walk_nrm
    intro x9 rb9 hc9 hb9
    co_apply opsX_nil
    simp only [XThen, XBlock, if_true, if_false, reduceIte, Nat.reduceEqDiff]
    co_apply wpX_ret
    refine ⟨rfl, _, fun x₁ r hi => ?_, rfl, hF.rn.write rb9 hF.n6 hC⟩
    have xh := (Has.rely (K := K) (i := k) (.inl ⟨hc9, hb9⟩) r)
    have xc0 := cell_of (xh.at hi) (o := 0) (show _ = some _ from rfl)
    have xc1 := cell_of (xh.at hi) (o := 1) (show _ = some _ from rfl)
    constructor
    · rw [hP]
      simp [results, Try.results19, go_sem, *, spV]
    · intro e he
      have hm := mem_seen he
      rw [hP] at hm
      simp [results, Try.results19, go_sem, *] at hm
      all_goals (first | subst hm | (rcases hm with rfl | rfl))
      all_goals (exact EvOk.read xh hi rfl)
end
end Go.Proofs.Ytplmgbffaeohpaa
