/- A worker's rounds over its own elements. -/
import Derived.Test.YtplmgbffaeohpaaCoMeet
namespace Go.Proofs.Ytplmgbffaeohpaa
open Go.Conc Go.Crew Go.RowKit
set_option linter.unusedSimpArgs false
set_option linter.unusedVariables false

/-- The boxes that a worker is handed. -/
structure WB (K : Crew) (k : Nat) (N : Net) (W wi : Nat) (b0 b1 b2 b3 b4 : Nat) (lb kb : Option Addr) (capl capk : Nat) (x : Sx) : Prop where
  h0 : HasG K k x b0 (.cells #[.int .i64 wi] 3)
  h1 : HasG K k x b1 (.cells #[.slice lb N.n capl] 23)
  h2 : HasG K k x b2 (.cells #[.int .i64 W] 3)
  h3 : HasG K k x b3 (.cells #[.slice kb N.m capk] 26)
  h4 : HasG K k x b4 (.cells #[.slice (some ⟨K.C, 0, none⟩) N.n N.n] 23)
theorem WB.rm {K : Crew} {k : Nat} {N : Net} {W wi b0 b1 b2 b3 b4 : Nat} {lb kb : Option Addr} {capl capk : Nat} {x y : Sx} (h : WB K k N W wi b0 b1 b2 b3 b4 lb kb capl capk x) (r : RM K k x y) : WB K k N W wi b0 b1 b2 b3 b4 lb kb capl capk y :=
  ⟨h.h0.rm r, h.h1.rm r, h.h2.rm r, h.h3.rm r, h.h4.rm r⟩

/-- The rows that all read. -/
structure Shared (K : Crew) (N : Net) (lb kb : Option Addr) : Prop where
  l : 0 < N.n → ∃ bl ol lc e f, lb = some ⟨bl, ol, none⟩ ∧ bl < K.w0.heap.size ∧ ¬ K.nob bl ∧ K.w0.heap[bl]? = some (.cells lc e f) ∧ (∀ i, i < N.n → lc[ol + i * 2]? = some (.int .i64 (N.lo i))) ∧ ∀ i, i < N.n → lc[ol + i * 2 + 1]? = some (.int .i64 (N.hi i))
  k : 0 < N.m → ∃ bk ok kc e f, kb = some ⟨bk, ok, none⟩ ∧ bk < K.w0.heap.size ∧ ¬ K.nob bk ∧ K.w0.heap[bk]? = some (.cells kc e f) ∧ (∀ j, j < N.m → kc[ok + j * 4]? = some (.int .i64 (N.A j))) ∧ (∀ j, j < N.m → kc[ok + j * 4 + 1]? = some (.int .i64 (N.B j))) ∧ (∀ j, j < N.m → kc[ok + j * 4 + 2]? = some (.int .i64 (N.dl j))) ∧ ∀ j, j < N.m → kc[ok + j * 4 + 3]? = some (.int .i64 (N.dh j))

/-- The cells that the workers fill. -/
def valN (N : Net) (o : Nat) : Value := .int .i64 (if o % 2 = 0 then (meetN N (o / 2) N.m).1 else (meetN N (o / 2) N.m).2)
def ownN (c W n : Nat) (k o : Nat) : Prop := o / 2 < n ∧ c ≤ k ∧ k < c + W ∧ (o / 2) % W = k - c

/-- meet as a worker calls it. -/
theorem meet_any (K : Crew) (hP : K.P = Try.prog) (N : Net) (hN : N.Ok) (lb kb : Option Addr) (capl capk : Nat) (hS : Shared K N lb kb) :
    ∃ c, ∀ (k : Nat) (i : Nat) (hin : i < N.n) (x0 : Sx) (hC : K.C < x0.w.heap.size),
      CallX K (worker k) 19 #[] #[.slice lb N.n capl, .slice kb N.m capk, .int .i64 i] c x0 (fun v x' => v = spV (meetN N i N.m).1 (meetN N i N.m).2 ∧ RN K k x0 x') := by
  by_cases hn : 0 < N.n
  · obtain ⟨bl, ol, lc, e, f, rfl, l1, l2, l3, l4, l5⟩ := hS.l hn
    by_cases hm : 0 < N.m
    · obtain ⟨bk, ok, kc, e', f', rfl, k1, k2, k3, k4, k5, k6, k7⟩ := hS.k hm
      obtain ⟨c, h⟩ := meet_ok K hP N hN bl ol capl bk ok capk (some ⟨bk, ok, none⟩) (fun _ => rfl) lc kc e e' f f' ⟨l4, l5, k4, k5, k6, k7⟩
      exact ⟨c, fun k i hin x0 hC => h k i hin x0 (fun x _ => .inr (.inr ⟨l1, l2, l3⟩)) (fun _ x _ => .inr (.inr ⟨k1, k2, k3⟩)) hC⟩
    · obtain ⟨c, h⟩ := meet_ok K hP N hN bl ol capl 0 0 capk kb (fun h => absurd h hm) lc #[] e 0 f (0, 0) ⟨l4, l5, fun j hj => absurd hj (by omega), fun j hj => absurd hj (by omega), fun j hj => absurd hj (by omega), fun j hj => absurd hj (by omega)⟩
      exact ⟨c, fun k i hin x0 hC => h k i hin x0 (fun x _ => .inr (.inr ⟨l1, l2, l3⟩)) (fun h => absurd h hm) hC⟩
  · exact ⟨0, fun k i hin => absurd hin (by omega)⟩

/-- round$1's frame at the head of its loop. -/
structure WSt (b0 b1 b2 b3 b4 : Nat) (t : Nat) (a : Act) : Prop where
  ds : a.defers = []
  sz : a.tmps.size = 21
  s0 : a.tmps.getD 0 undef = .pointer (some ⟨b0, 0, none⟩)
  s1 : a.tmps.getD 1 undef = .pointer (some ⟨b1, 0, none⟩)
  s2 : a.tmps.getD 2 undef = .pointer (some ⟨b2, 0, none⟩)
  s3 : a.tmps.getD 3 undef = .pointer (some ⟨b3, 0, none⟩)
  s4 : a.tmps.getD 4 undef = .pointer (some ⟨b4, 0, none⟩)
  s5 : a.tmps.getD 5 undef = .int .i64 t

theorem mod_gap {W a b : Nat} (hW : 0 < W) (h : a % W = b % W) (hl : b < a) : b + W ≤ a := by
  have ha := Nat.div_add_mod a W
  have hb := Nat.div_add_mod b W
  have hq : b / W + 1 ≤ a / W := by
    rcases Nat.lt_or_ge (b / W) (a / W) with y | y
    · exact y
    · have := Nat.mul_le_mul_left W y
      omega
  have := Nat.mul_le_mul_left W hq
  rw [Nat.mul_add, Nat.mul_one] at this
  omega

section
set_option maxRecDepth 100000 in
set_option maxHeartbeats 4000000 in
theorem work_ok (K : Crew) (hP : K.P = Try.prog) (N : Net) (hN : N.Ok) (W : Nat) (hW : 1 ≤ W ∧ W ≤ 8) (hown : K.own = ownN K.c W N.n) (hval : K.val = valN N) (lb kb : Option Addr) (capl capk : Nat) (hS : Shared K N lb kb) :
    ∃ c, ∀ (k : Nat) (hk0 : k ≠ 0) (wi : Nat) (hwi : wi < W) (hkw : k = K.c + wi) (b0 b1 b2 b3 b4 : Nat) (x0 : Sx) (hB : WB K k N W wi b0 b1 b2 b3 b4 lb kb capl capk x0) (hR : RowTo K k 33 (N.n * 2) 0 x0),
      CallX K (worker k) 18 #[.pointer (some ⟨b0, 0, none⟩), .pointer (some ⟨b1, 0, none⟩), .pointer (some ⟨b2, 0, none⟩), .pointer (some ⟨b3, 0, none⟩), .pointer (some ⟨b4, 0, none⟩)] #[] c x0
        (fun v x' => v = .tuple #[] ∧ RM K k x0 x' ∧ RowTo K k 33 (N.n * 2) (N.n * 2) x') := by
  obtain ⟨cm, hmeet⟩ := meet_any K hP N hN lb kb capl capk hS
  co_apply Exists.intro
  intro k hk0 wi hwi hkw b0 b1 b2 b3 b4 x0 hB hR
  refine ⟨_, _, by rw [hP]; exact Try.func18, by rfl, rfl, ?_⟩
  simp only [Try.ntmps18, List.size_toArray, List.length_cons, List.length_nil, Nat.reduceAdd, Nat.reduceSub, Array.replicate_succ, Array.replicate_zero, List.push_toArray, List.append_toArray, List.nil_append, List.cons_append, Array.append_empty]
  repeat (co_apply wpX_seq)
  co_apply wpX_region
  simp only [List.size_toArray, List.length_cons, List.length_nil, Nat.reduceAdd, Nat.zero_add, List.range, List.range.loop]
  co_applyP opsX_rd rfl (by rfl)
  · intro xv xr xi Kc hK
    rw [hP]
    have xc0 := Has.cell (ρ := worker k) hB.h0.has xr xi (o := 0) (show _ = some _ from rfl)
    go_simp
    exact hK
  · intro xv xr xi xe xhe
    have xhm := mem_listed xhe
    rw [hP] at xhm
    have xc0 := Has.cell (ρ := worker k) hB.h0.has xr xi (o := 0) (show _ = some _ from rfl)
    simp [go_sem, *] at xhm
    all_goals (first | subst xhm | (rcases xhm with rfl | rfl) | (rcases xhm with rfl | rfl | rfl | rfl))
    all_goals (exact EvOk.read (Has.rely hB.h0.has xr) xi rfl)
  try walk_nrm
  co_applyP opsX_rd rfl (by rfl)
  · intro xv xr xi Kc hK
    rw [hP]
    go_simp
    exact hK
  · intro xv xr xi xe xhe
    rw [hP, listed_nil (by simp [go_sem, *])] at xhe
    simp at xhe
  try walk_nrm
  co_apply opsX_nil
  simp only [XThen, XBlock, if_true, if_false, reduceIte, Nat.reduceEqDiff]
  co_apply wpX_block
  co_apply wpX_loop (fun a x => ∃ q, wi + q * W < N.n + W ∧ WSt b0 b1 b2 b3 b4 (wi + q * W) a ∧ RM K k x0 x ∧ RowTo K k 33 (N.n * 2) ((wi + q * W) * 2) x) (fun a _ => (N.n + W - slotI a 5).toNat) _ (N.n + W) ⟨0, by omega, ⟨rfl, rfl, rfl, rfl, rfl, rfl, rfl, by simp⟩, RM.refl .., by
    obtain ⟨cs, h1, h2, h3⟩ := hR
    refine ⟨cs, h1, h2, fun o ho hl => ?_⟩
    exfalso
    rw [hown] at ho
    obtain ⟨_, _, _, h5⟩ := ho
    have h6 : o / 2 < wi := by omega
    rw [Nat.mod_eq_of_lt (by omega)] at h5
    omega⟩ (by simp [slotI]; omega) ?_
  clear hR
  rintro ⟨T, ds⟩ x ⟨q, hq, hs, hM, hRow⟩
  obtain ⟨t, ht⟩ : ∃ t, wi + q * W = t := ⟨_, rfl⟩
  rw [ht] at hq hs hRow
  have htm : t % W = wi := by rw [← ht, Nat.add_mul_mod_self_right]; exact Nat.mod_eq_of_lt hwi
  obtain rfl : ds = [] := hs.ds
  obtain ⟨u, hu, hv⟩ := frame_lit hs.sz
  simp only [List.range, List.range.loop, List.map_cons, List.map_nil] at hu
  have e0 := (hv 0).trans hs.s0
  have e1 := (hv 1).trans hs.s1
  have e2 := (hv 2).trans hs.s2
  have e3 := (hv 3).trans hs.s3
  have e4 := (hv 4).trans hs.s4
  have e5 := (hv 5).trans hs.s5
  rw [e0, e1, e2, e3, e4, e5] at hu
  clear hs hv e0 e1 e2 e3 e4 e5
  subst hu
  have hBx := hB.rm hM
  repeat (co_apply wpX_seq)
  co_apply wpX_region
  simp only [List.size_toArray, List.length_cons, List.length_nil, Nat.reduceAdd, Nat.zero_add, List.range, List.range.loop]
  co_applyP opsX_rd rfl (by rfl)
  · intro xv xr xi Kc hK
    rw [hP]
    go_simp
    exact hK
  · intro xv xr xi xe xhe
    rw [hP, listed_nil (by simp [go_sem, *])] at xhe
    simp at xhe
  try walk_nrm
  co_applyP opsX_rd rfl (by rfl)
  · intro xv xr xi Kc hK
    rw [hP]
    have xc0 := Has.cell (ρ := worker k) hBx.h1.has xr xi (o := 0) (show _ = some _ from rfl)
    go_simp
    exact hK
  · intro xv xr xi xe xhe
    have xhm := mem_listed xhe
    rw [hP] at xhm
    have xc0 := Has.cell (ρ := worker k) hBx.h1.has xr xi (o := 0) (show _ = some _ from rfl)
    simp [go_sem, *] at xhm
    all_goals (first | subst xhm | (rcases xhm with rfl | rfl) | (rcases xhm with rfl | rfl | rfl | rfl))
    all_goals (exact EvOk.read (Has.rely hBx.h1.has xr) xi rfl)
  try walk_nrm
  co_applyP opsX_rd rfl (by rfl)
  · intro xv xr xi Kc hK
    rw [hP]
    go_simp
    exact hK
  · intro xv xr xi xe xhe
    rw [hP, listed_nil (by simp [go_sem, *])] at xhe
    simp at xhe
  try walk_nrm
  co_applyP opsX_rd rfl (by rfl)
  · intro xv xr xi Kc hK
    rw [hP]
    go_simp
    exact hK
  · intro xv xr xi xe xhe
    rw [hP, listed_nil (by simp [go_sem, *])] at xhe
    simp at xhe
  try walk_nrm
  co_apply opsX_nil
  simp only [XThen, XBlock, if_true, if_false, reduceIte, Nat.reduceEqDiff]
  co_apply wpX_split (t := decide ((t : Int) < N.n))
  · simp [Act.eval]
  · intro htt
    have htn : t < N.n := by simpa using htt
    clear htt
    co_apply wpX_skip
    simp only [XThen, XBlock, if_true, if_false, reduceIte, Nat.reduceEqDiff]
    have hoth : K.own k (t * 2) ∧ K.own k (t * 2 + 1) := by
      rw [hown]
      refine ⟨⟨by omega, by omega, by omega, ?_⟩, by omega, by omega, by omega, ?_⟩
      · rw [show t * 2 / 2 = t by omega, htm]; omega
      · rw [show (t * 2 + 1) / 2 = t by omega, htm]; omega
    have hlt : (t : Int) < (N.n : Int) := by omega
    have hC := fun (y : Sx) (h : RowTo K k 33 (N.n * 2) (t * 2) y) => (show K.C < y.w.heap.size from lt_of_some h.choose_spec.1)
    have hS0 : (fun y => RM K k x0 y ∧ RowTo K k 33 (N.n * 2) (t * 2) y) x := ⟨hM, hRow⟩
    repeat (co_apply wpX_seq)
    co_apply wpX_block
    co_applyP wpX_region_held (C := cm + 3) (S := (fun y => RM K k x0 y ∧ RowTo K k 33 (N.n * 2) (t * 2) y)) 7 (by omega) (by rw [hP]; first | kernel_rfl | rfl) (hS0) (fun y r => ⟨hM.trans (.of r), hRow.rely r⟩)
    simp only [List.size_toArray, List.length_cons, List.length_nil, Nat.reduceAdd, Nat.zero_add]
    intro y hS
    co_applyP anyX_rd (by omega) 0 rfl (by first | kernel_rfl | decide +kernel) (by first | kernel_rfl | decide +kernel) (by first | kernel_rfl | decide +kernel) (by first | kernel_rfl | decide +kernel) (by rfl)
    · intro y hy xv xr xi Kc hK
      rw [hP]
      have xc0 := Has.cell (ρ := worker k) (hB.rm hy.1).h4.has xr xi (o := 0) (show _ = some _ from rfl)
      go_simp
      exact hK
    · intro y hy xv xr xi xe xhe
      have xhm := mem_listed xhe
      rw [hP] at xhm
      have xc0 := Has.cell (ρ := worker k) (hB.rm hy.1).h4.has xr xi (o := 0) (show _ = some _ from rfl)
      simp [go_sem, *] at xhm
      all_goals (first | subst xhm | (rcases xhm with rfl | rfl) | (rcases xhm with rfl | rfl | rfl | rfl))
      all_goals (exact EvOk.read (Has.rely (hB.rm hy.1).h4.has xr) xi rfl)
    · exact hS
    try walk_nrm
    co_applyP anyX_rd (by omega) 1 rfl (by first | kernel_rfl | decide +kernel) (by first | kernel_rfl | decide +kernel) (by first | kernel_rfl | decide +kernel) (by first | kernel_rfl | decide +kernel) (by rfl)
    · intro y hy xv xr xi Kc hK
      rw [hP]
      go_simp
      exact hK
    · intro y hy xv xr xi xe xhe
      rw [hP, listed_nil (by simp [go_sem, *])] at xhe
      simp at xhe
    · exact hS
    try walk_nrm
    co_applyP anyX_rd (by omega) 2 rfl (by first | kernel_rfl | decide +kernel) (by first | kernel_rfl | decide +kernel) (by first | kernel_rfl | decide +kernel) (by first | kernel_rfl | decide +kernel) (by rfl)
    · intro y hy xv xr xi Kc hK
      rw [hP]
      have xc0 := Has.cell (ρ := worker k) (hB.rm hy.1).h1.has xr xi (o := 0) (show _ = some _ from rfl)
      go_simp
      exact hK
    · intro y hy xv xr xi xe xhe
      have xhm := mem_listed xhe
      rw [hP] at xhm
      have xc0 := Has.cell (ρ := worker k) (hB.rm hy.1).h1.has xr xi (o := 0) (show _ = some _ from rfl)
      simp [go_sem, *] at xhm
      all_goals (first | subst xhm | (rcases xhm with rfl | rfl) | (rcases xhm with rfl | rfl | rfl | rfl))
      all_goals (exact EvOk.read (Has.rely (hB.rm hy.1).h1.has xr) xi rfl)
    · exact hS
    try walk_nrm
    co_applyP anyX_rd (by omega) 3 rfl (by first | kernel_rfl | decide +kernel) (by first | kernel_rfl | decide +kernel) (by first | kernel_rfl | decide +kernel) (by first | kernel_rfl | decide +kernel) (by rfl)
    · intro y hy xv xr xi Kc hK
      rw [hP]
      have xc0 := Has.cell (ρ := worker k) (hB.rm hy.1).h3.has xr xi (o := 0) (show _ = some _ from rfl)
      go_simp
      exact hK
    · intro y hy xv xr xi xe xhe
      have xhm := mem_listed xhe
      rw [hP] at xhm
      have xc0 := Has.cell (ρ := worker k) (hB.rm hy.1).h3.has xr xi (o := 0) (show _ = some _ from rfl)
      simp [go_sem, *] at xhm
      all_goals (first | subst xhm | (rcases xhm with rfl | rfl) | (rcases xhm with rfl | rfl | rfl | rfl))
      all_goals (exact EvOk.read (Has.rely (hB.rm hy.1).h3.has xr) xi rfl)
    · exact hS
    try walk_nrm
    co_applyP anyX_rd (by omega) 4 rfl (by first | kernel_rfl | decide +kernel) (by first | kernel_rfl | decide +kernel) (by first | kernel_rfl | decide +kernel) (by first | kernel_rfl | decide +kernel) (by rfl)
    · intro y hy xv xr xi Kc hK
      rw [hP]
      go_simp
      exact hK
    · intro y hy xv xr xi xe xhe
      rw [hP, listed_nil (by simp [go_sem, *])] at xhe
      simp at xhe
    · exact hS
    try walk_nrm
    co_applyP anyX_one (i := 5) (by first | kernel_rfl | decide +kernel) rfl (by rfl)
    refine act1_callV rfl ?_ (hmeet k t htn y (hC y hS.2)) ?_
    · simp [Act.eval]
    rintro v y1 ⟨rfl, hrn⟩
    have hS1 : RM K k x0 y1 ∧ RowTo K k 33 (N.n * 2) (t * 2) y1 := ⟨hS.1.trans (.ofN hrn), hS.2.rn hrn⟩
    refine ⟨.inl hS1, ?_⟩
    have hS := hS1
    co_applyP anyX_rd (by omega) 6 rfl (by first | kernel_rfl | decide +kernel) (by first | kernel_rfl | decide +kernel) (by first | kernel_rfl | decide +kernel) (by first | kernel_rfl | decide +kernel) (by rfl)
    · intro y hy xv xr xi Kc hK
      rw [hP]
      go_simp
      exact hK
    · intro y hy xv xr xi xe xhe
      rw [hP, listed_nil (by simp [go_sem, *])] at xhe
      simp at xhe
    · exact hS
    try walk_nrm
    obtain ⟨cs0, hc0, hz0, hv0⟩ := hS1.2
    co_applyP anyX_one (i := 7) (by first | kernel_rfl | decide +kernel) rfl (by rfl)
    refine Act1.mono (c := 1) (act1_rw (show (worker k).i ≠ 0 from hk0) hc0 (fun o => if o = t * 2 then some (.int .i64 (meetN N t N.m).1) else if o = t * 2 + 1 then some (.int .i64 (meetN N t N.m).2) else cs0[o]?)
      (fun cs => (cs.setIfInBounds (t * 2) (.int .i64 (meetN N t N.m).1)).setIfInBounds (t * 2 + 1) (.int .i64 (meetN N t N.m).2)) (fun cs => by simp) ?_ ?_ ?_ ?_ ?_) (by omega) (fun _ _ h => h)
    · intro cs o ho
      have h1 : t * 2 ≠ o := fun e => ho (e ▸ hoth.1)
      have h2 : t * 2 + 1 ≠ o := fun e => ho (e ▸ hoth.2)
      rw [Array.getElem?_setIfInBounds_ne h2, Array.getElem?_setIfInBounds_ne h1]
    · intro cs hz hcs o ho
      have z1 : t * 2 < cs.size := by omega
      have z2 : t * 2 + 1 < cs.size := by omega
      by_cases h1 : o = t * 2
      · subst h1
        rw [Array.getElem?_setIfInBounds_ne (by omega), Array.getElem?_setIfInBounds_self_of_lt z1]
        simp
      · by_cases h2 : o = t * 2 + 1
        · subst h2
          rw [Array.getElem?_setIfInBounds_self_of_lt (by simpa using z2)]
          simp
        · rw [Array.getElem?_setIfInBounds_ne (Ne.symm h2), Array.getElem?_setIfInBounds_ne (Ne.symm h1), hcs o ho]
          simp [h1, h2]
    · intro xv cs xr xi xb hz Kc hK
      rw [hP]
      have xc0 := cell_of xb (o := t * 2) (Array.getElem?_eq_getElem (show t * 2 < cs.size by omega))
      have xc1 := cell_of xb (o := t * 2 + 1) (Array.getElem?_eq_getElem (show t * 2 + 1 < cs.size by omega))
      have xf0 : xv.w.frozen? ⟨K.C, t * 2, none⟩ = false := by simp [World.frozen?, xb]
      have xf1 : xv.w.frozen? ⟨K.C, t * 2 + 1, none⟩ = false := by simp [World.frozen?, xb]
      simp only [spV]
      go_simp
      (try unfold stored; go_simp)
      refine hK _ ?_
      rw [setCell_blk xb, setCell_blk (setBlk_self (lt_of_some xb)), setBlk_setBlk]
    · intro xv cs xr xi xb hz xe xhm
      rw [hP] at xhm
      have xc0 := cell_of xb (o := t * 2) (Array.getElem?_eq_getElem (show t * 2 < cs.size by omega))
      have xc1 := cell_of xb (o := t * 2 + 1) (Array.getElem?_eq_getElem (show t * 2 + 1 < cs.size by omega))
      have xf0 : xv.w.frozen? ⟨K.C, t * 2, none⟩ = false := by simp [World.frozen?, xb]
      have xf1 : xv.w.frozen? ⟨K.C, t * 2 + 1, none⟩ = false := by simp [World.frozen?, xb]
      simp [go_sem, spV, *] at xhm
      rcases xhm with rfl | rfl
      · exact ⟨_, rfl, rfl, hoth.1⟩
      · exact ⟨_, rfl, rfl, hoth.2⟩
    intro x' cs' rb hcs' hz' hnew
    refine ⟨.inr rfl, anyX_done (by first | kernel_rfl | decide +kernel) ?_ _⟩
    simp only [XThen, XBlock, if_true, if_false, reduceIte, Nat.reduceEqDiff]
    have hM' : RM K k x0 x' := hS1.1.trans (.ofB rb)
    have hRow' : RowTo K k 33 (N.n * 2) ((t + W) * 2) x' := by
      refine ⟨cs', hcs', hz'.trans hz0, fun o ho hl => ?_⟩
      rw [hnew o ho]
      by_cases h1 : o = t * 2
      · rw [if_pos h1, hval]
        unfold valN
        rw [if_pos (by omega), show o / 2 = t by omega]
      · rw [if_neg h1]
        by_cases h2 : o = t * 2 + 1
        · rw [if_pos h2, hval]
          unfold valN
          rw [if_neg (by omega), show o / 2 = t by omega]
        · rw [if_neg h2]
          refine hv0 o ho ?_
          have ho' := ho
          rw [hown] at ho'
          obtain ⟨_, _, _, h5⟩ := ho'
          have h6 : o / 2 % W = t % W := by rw [h5, htm]; omega
          rcases Nat.lt_trichotomy (o / 2) t with y | y | y
          · omega
          · omega
          · have := mod_gap (by omega) h6 y
            omega
    clear hnew hcs' rb hS1 hrn hS hRow hM hBx hv0 hc0
    have hBx := hB.rm hM'
    have hw : IntKind.i64.wrap ((t : Int) + (W : Int)) = ((t + W : Nat) : Int) := by rw [wrap_in (by have := hN.small; omega)]; simp
    repeat (co_apply wpX_seq)
    co_apply wpX_region
    simp only [List.size_toArray, List.length_cons, List.length_nil, Nat.reduceAdd, Nat.zero_add, List.range, List.range.loop]
    co_applyP opsX_rd rfl (by rfl)
    · intro xv xr xi Kc hK
      rw [hP]
      go_simp
      exact hK
    · intro xv xr xi xe xhe
      rw [hP, listed_nil (by simp [go_sem, *])] at xhe
      simp at xhe
    try walk_nrm
    co_applyP opsX_rd rfl (by rfl)
    · intro xv xr xi Kc hK
      rw [hP]
      have xc0 := Has.cell (ρ := worker k) hBx.h2.has xr xi (o := 0) (show _ = some _ from rfl)
      go_simp
      exact hK
    · intro xv xr xi xe xhe
      have xhm := mem_listed xhe
      rw [hP] at xhm
      have xc0 := Has.cell (ρ := worker k) hBx.h2.has xr xi (o := 0) (show _ = some _ from rfl)
      simp [go_sem, *] at xhm
      all_goals (first | subst xhm | (rcases xhm with rfl | rfl) | (rcases xhm with rfl | rfl | rfl | rfl))
      all_goals (exact EvOk.read (Has.rely hBx.h2.has xr) xi rfl)
    try walk_nrm
    co_applyP opsX_rd rfl (by rfl)
    · intro xv xr xi Kc hK
      rw [hP]
      go_simp
      exact hK
    · intro xv xr xi xe xhe
      rw [hP, listed_nil (by simp [go_sem, *])] at xhe
      simp at xhe
    try walk_nrm
    co_applyP opsX_rd rfl (by rfl)
    · intro xv xr xi Kc hK
      rw [hP]
      go_simp
      exact hK
    · intro xv xr xi xe xhe
      rw [hP, listed_nil (by simp [go_sem, *])] at xhe
      simp at xhe
    try walk_nrm
    co_apply opsX_nil
    simp only [XThen, XBlock, if_true, if_false, reduceIte, Nat.reduceEqDiff]
    refine ⟨⟨q + 1, by rw [Nat.succ_mul]; omega, ?_, hM', ?_⟩, ?_⟩
    · have e : wi + (q + 1) * W = t + W := by rw [Nat.succ_mul]; omega
      rw [e]
      exact ⟨rfl, rfl, rfl, rfl, rfl, rfl, rfl, by first | rfl | (simp; done)⟩
    · have e : wi + (q + 1) * W = t + W := by rw [Nat.succ_mul]; omega
      rw [e]
      exact hRow'
    · simp only [slotI, Array.getD]
      simp
      omega
  · intro htt
    have htn : ¬ t < N.n := by simpa using htt
    clear htt
    co_apply wpX_exit
    simp only [XThen, XBlock, if_true, if_false, reduceIte, Nat.reduceEqDiff]
    refine ⟨rfl, .tuple #[], fun x₁ r hi => ?_, rfl, hM, ?_⟩
    · rw [hP]
      constructor
      · simp [results, Try.results18, go_sem]
      · intro e he
        have hm := mem_seen he
        simp [results, Try.results18, go_sem] at hm
    · obtain ⟨cs, h1, h2, h3⟩ := hRow
      exact ⟨cs, h1, h2, fun o ho hl => h3 o ho (by omega)⟩
end
end Go.Proofs.Ytplmgbffaeohpaa
