/- Goroutine 0 beside goroutines that only leave: append onto a row that the call owns; Clone. -/
import Derived.Test.YtplmgbffaeohpaaBhF
import Derived.Test.YtplmgbffaeohpaaBhV
import Derived.Maps.AppendAt
import Derived.Laws.Cover3
import Derived.Conc.AppendEvents3
set_option linter.unusedSimpArgs false
set_option linter.unusedVariables false
namespace Go.Beh
open Go.Conc

/-- A slice that one has made oneself. -/
structure OwnB (x : M) (base : Nat) (e : TypeId) (size : Nat) (v : Value) (n : Nat) (xs : List Value) : Prop where
  row : ∀ w : World, w.heap = x.h → w.ownsRow base e size v n xs
  ok : ∀ k, v.ownBlock = some k → ¬ x.S k

/-- But for row's block and new ones nothing has turned. -/
structure Grw (row : Option Nat) (x y : M) : Prop where
  size : x.h.size ≤ y.h.size
  old : ∀ b, b < x.h.size → row ≠ some b → y.h[b]? = x.h[b]?
  S : y.S = x.S

section
variable {x y z : M} {base : Nat} {e : TypeId} {size n : Nat} {v : Value} {xs : List Value} {row : Option Nat}
theorem Ext.grw (h : Ext x y) (r : Grw row y z) (hb : ∀ k, row = some k → x.h.size ≤ k) : Ext x z :=
  ⟨Nat.le_trans h.size r.size, fun b hbl => (r.old b (Nat.lt_of_lt_of_le hbl h.size) fun e => absurd (hb b e) (by omega)).trans (h.old b hbl), fun b hbl hs => h.S b hbl (r.S ▸ hs)⟩
theorem HasB.grw {b : Nat} {o : Obj} (h : HasB x b o) (r : Grw row x y) (hne : row ≠ some b) : HasB y b o := ⟨(r.old b h.lt hne).trans h.at_, fun hs => h.ok (r.S ▸ hs)⟩
theorem ownsRow_heap {w w' : World} (h : w.ownsRow base e size v n xs) (hh : w'.heap = w.heap) : w'.ownsRow base e size v n xs := by
  unfold World.ownsRow at *
  rw [hh]
  exact h
theorem OwnB.lt (h : OwnB x base e size v n xs) : ∀ k, v.ownBlock = some k → base ≤ k ∧ k < x.h.size := fun k hk => by
  have := (h.row { (default : World) with heap := x.h } rfl).lt k hk
  exact this
theorem OwnB.keep (h : OwnB x base e size v n xs) (hk : ∀ k, v.ownBlock = some k → y.h[k]? = x.h[k]? ∧ ¬ y.S k) : OwnB y base e size v n xs := by
  refine ⟨fun w hw => ?_, fun k hv => (hk k hv).2⟩
  have h1 := h.row { (default : World) with heap := x.h } rfl
  refine ⟨h1.1, ?_⟩
  rcases h1.2 with ⟨rfl, h0⟩ | ⟨g, cap, cur, rfl, hb, hg, h2⟩
  · exact .inl ⟨rfl, h0⟩
  · refine .inr ⟨g, cap, cur, rfl, hb, ?_, h2⟩
    rw [hw, (hk g rfl).1]
    exact hg
theorem OwnB.ext (h : OwnB x base e size v n xs) (r : Ext x y) : OwnB y base e size v n xs :=
  h.keep fun k hk => ⟨r.old k (h.lt k hk).2, fun hs => h.ok k hk (r.S k (h.lt k hk).2 hs)⟩
theorem OwnB.chg {b : Nat} (h : OwnB x base e size v n xs) (r : Chg b x y) (hne : ∀ k, v.ownBlock = some k → k ≠ b) : OwnB y base e size v n xs :=
  h.keep fun k hk => ⟨r.old k (hne k hk), fun hs => h.ok k hk (r.S ▸ hs)⟩
theorem OwnB.nil (x : M) (base : Nat) (e : TypeId) (size : Nat) : OwnB x base e size (.slice none 0 0) 0 [] :=
  ⟨fun w _ => World.ownsRow_nil w base e size, fun k hk => by simp [Value.ownBlock] at hk⟩
/-- A row just laid. -/
theorem OwnB.made {b cap : Nat} {cur : Array Value} (h : HasB x b (.cells cur e (0, 0))) (hb : base ≤ b) (hm : cap ≤ maxLen) (hs : cur.size = cap * size) : OwnB x base e size (.slice (some ⟨b, 0, none⟩) 0 cap) 0 [] :=
  ⟨fun w hw => ⟨by simp, .inr ⟨b, cap, cur, rfl, hb, by rw [hw]; exact h.at_, Nat.zero_le _, hm, hs, by simp⟩⟩, fun k hk => by
    simp only [Value.ownBlock, Option.some.injEq] at hk
    rw [← hk]; exact h.ok⟩
/-- What it holds. -/
theorem OwnB.form (h : OwnB x base e size v n xs) (hn : 0 < n) : ∃ g cap cur, v = .slice (some ⟨g, 0, none⟩) n cap ∧ base ≤ g ∧ HasB x g (.cells cur e (0, 0)) ∧ ∀ (j : Nat) (u : Value), xs[j]? = some u → cur[j]? = some u := by
  have h1 := h.row { (default : World) with heap := x.h } rfl
  rcases h1.2 with ⟨_, h0⟩ | ⟨g, cap, cur, rfl, hb, hg, _, _, _, ht⟩
  · omega
  · refine ⟨g, cap, cur, rfl, hb, ⟨hg, h.ok g rfl⟩, fun j u hu => ?_⟩
    rw [← ht, List.getElem?_take] at hu
    split at hu
    · simpa using hu
    · cases hu
theorem OwnB.value (h : OwnB x base e size v n xs) : ∃ A cap, v = .slice A n cap := by
  have h1 := h.row { (default : World) with heap := x.h } rfl
  rcases h1.2 with ⟨rfl, rfl⟩ | ⟨g, cap, cur, rfl, _⟩
  · exact ⟨_, _, rfl⟩
  · exact ⟨_, _, rfl⟩
theorem OwnB.len (h : OwnB x base e size v n xs) : xs.length = n * size := (h.row { (default : World) with heap := x.h } rfl).1
end

section
variable {B : Base} {fn : FuncId} {Q : Exit → Act → M → Prop} {a : Act} {x : M} {ops : Array Oper} {i : Nat} {rest : List Nat} {o : Oper}

/-- append(v, x...). -/
theorem actB_append {Kt : Value → M → Prop} (s xo : Operand) (t : TypeId) (ho : o.op = .call { callee := .builtin .append, args := #[s, xo], argTypes := #[t, t] })
    (base : Nat) (e : TypeId) (ti : TypeInfo) (z : Value) (size bytes : Nat) (ht : B.P.underlying t = some (.slice e)) (hi : B.P.info? e = some ti) (hz : ti.zero = some z)
    (hsize : ti.size = size) (hby : ti.bytes = bytes) (hzs : z.cells.size = size) (hsz : 0 < size)
    (v : Value) (n : Nat) (xs : List Value) (hs : a.eval s = v) (hown : OwnB x base e size v n xs)
    (b off m c : Nat) (cs : Array Value) (el : TypeId) (fr : Nat × Nat) (news : List Value) (hx : a.eval xo = .slice (some ⟨b, off, none⟩) m c) (hl : news.length = m * size) (hb : HasB x b (.cells cs el fr)) (hnews : ∀ j u, news[j]? = some u → cs[off + j]? = some u) (h1 : ∀ u ∈ news, u.oneCell' = true)
    (h63 : n + m ≤ maxLen) (hbytes : (n + m) * bytes ≤ 140737488355328) (hbase : base ≤ x.h.size)
    (hk : ∀ v' x', OwnB x' base e size v' (n + m) (xs ++ news) → Grw v.ownBlock x x' → (v'.ownBlock = v.ownBlock ∨ v'.ownBlock = some x.h.size) → Kt v' x') : ActB B fn (execOp a.eval o) Kt x := by
  refine actB_step fun w hw => ?_
  have hcell : ∀ j u, news[j]? = some u → w.cell? ((⟨b, off, none⟩ : Addr).add j) = some u := fun j u hu => by
    have hadd : (⟨b, off, none⟩ : Addr).add j = ⟨b, off + j, none⟩ := by unfold Addr.add; split <;> simp_all
    rw [hadd]
    exact hb.cell hw (hnews j u hu)
  obtain ⟨v', w', hr, h2, h3, _, h5⟩ := run_append_own_at (P := B.P) w base t o.type e ti z size bytes ht hi hz hsize hby hzs hsz v n xs (hown.row w hw.h) ⟨b, off, none⟩ m c news hl hcell h1 h63 hbytes (by rw [hw.h]; exact hbase)
  have hev := events_append_where (P := B.P) w base t o.type e ti z size bytes ht hi hz hsize hby v n xs (hown.row w hw.h) ⟨b, off, none⟩ m c news hl hcell h1 h63 hbytes
  have hsz' : x.h.size ≤ w'.heap.size := by rw [← hw.h]; exact h3.size
  obtain ⟨x', hx'⟩ : ∃ x' : M, x' = ⟨w'.heap, x.S, fun k hk => Nat.lt_of_lt_of_le (x.lt k hk) hsz'⟩ := ⟨_, rfl⟩
  have xh : x'.h = w'.heap := by rw [hx']
  have xS : x'.S = x.S := by rw [hx']
  clear hx'
  have hown' : OwnB x' base e size v' (n + m) (xs ++ news) := ⟨fun w2 hw2 => ownsRow_heap h2 (hw2.trans xh), fun k hk => by
    rw [xS]
    rcases h5 with h5 | h5
    · exact hown.ok k (h5 ▸ hk)
    · rw [hk] at h5
      have : k = w.heap.size := by simpa using h5
      intro hs
      have := x.lt k hs
      rw [← hw.h] at this
      omega⟩
  have hgrw : Grw v.ownBlock x x' := ⟨by rw [xh]; exact hsz', fun k hkl hne => by rw [xh, ← hw.h]; exact h3.block k (by rw [hw.h]; exact hkl) (fun e => hne e.symm), xS⟩
  have hrun : (execOp a.eval o).run B.P w = .ok (.value v') w' := by
    unfold execOp
    simp only [ho, resolve, invoke, builtin, Sem.run_bind, Sem.run_pure, Result.andThen_ok, List.map_toArray, List.map_cons, List.map_nil, hs, hx, hr]
  refine ⟨v', w', x', .inl hrun, ⟨xh.symm, h3.tape.trans hw.T, h3.os.trans hw.O, h3.output.trans hw.U⟩, xS, by rw [xh]; exact hsz', fun ev hev' => ?_, hk v' x' hown' hgrw (by rw [← hw.h]; exact h5)⟩
  have hm := mem_seen hev'
  rw [events_append_op s xo t ho hs hx] at hm
  rcases hev ev hm with ⟨ad, hl, h⟩ | ⟨mk, rfl, hn⟩
  · have hblk : ad.block < x'.h.size ∧ ¬ x'.S ad.block := by
      rcases h with ⟨_, h⟩ | h
      · rw [h, xS]; exact ⟨Nat.lt_of_lt_of_le hb.lt (by rw [xh]; exact hsz'), hb.ok⟩
      · rw [xS]; exact ⟨Nat.lt_of_lt_of_le (hown.lt _ h.symm).2 (by rw [xh]; exact hsz'), hown.ok _ h.symm⟩
    obtain ⟨loc, wr, sy⟩ := ev
    simp only at hl
    subst hl
    refine ⟨fun y hy hS => ?_, by simp, by simp, ?_⟩
    · obtain ⟨ad2, e2, hs2⟩ := hS
      have : y.loc = .cell ad := by cases sy <;> cases wr <;> simp only [MemAct.ofEvent, MemAct.touch?, Option.some.injEq] at hy <;> rw [← hy]
      rw [this] at e2
      cases e2
      exact absurd hs2 hblk.2
    · cases sy <;> cases wr <;> exact hblk.1
  · obtain rfl : mk = .noRoom := hn
    exact ⟨fun y hy => by simp [MemAct.ofEvent, MemAct.touch?] at hy, by simp, by simp, trivial⟩
theorem opsB_append (s xo : Operand) (t : TypeId) (hoi : ops[i]? = some o) (hwt : Region.wanted o (yielded ops a.tmps) = true) (ho : o.op = .call { callee := .builtin .append, args := #[s, xo], argTypes := #[t, t] })
    (base : Nat) (e : TypeId) (ti : TypeInfo) (z : Value) (size bytes : Nat) (ht : B.P.underlying t = some (.slice e)) (hi : B.P.info? e = some ti) (hz : ti.zero = some z)
    (hsize : ti.size = size) (hby : ti.bytes = bytes) (hzs : z.cells.size = size) (hsz : 0 < size)
    (v : Value) (n : Nat) (xs : List Value) (hs : a.eval s = v) (hown : OwnB x base e size v n xs)
    (b off m c : Nat) (cs : Array Value) (el : TypeId) (fr : Nat × Nat) (news : List Value) (hx : a.eval xo = .slice (some ⟨b, off, none⟩) m c) (hl : news.length = m * size) (hb : HasB x b (.cells cs el fr)) (hnews : ∀ j u, news[j]? = some u → cs[off + j]? = some u) (h1 : ∀ u ∈ news, u.oneCell' = true)
    (h63 : n + m ≤ maxLen) (hbytes : (n + m) * bytes ≤ 140737488355328) (hbase : base ≤ x.h.size)
    (hk : ∀ v' x', OwnB x' base e size v' (n + m) (xs ++ news) → Grw v.ownBlock x x' → (v'.ownBlock = v.ownBlock ∨ v'.ownBlock = some x.h.size) → OpsB B fn ops rest Q (a.put o.dst v') x') : OpsB B fn ops (i :: rest) Q a x :=
  opsB_act (Kt := fun v' x' => OpsB B fn ops rest Q (a.put o.dst v') x') hoi hwt (actB_append s xo t ho base e ti z size bytes ht hi hz hsize hby hzs hsz v n xs hs hown b off m c cs el fr news hx hl hb hnews h1 h63 hbytes hbase hk) (fun _ _ h => h)
end
end Go.Beh
namespace Go.Proofs.Ytplmgbffaeohpaa
open Go.Conc Go.Crew Go.Beh Go.RowKit

def spanL (lo hi : Nat → Int) (n : Nat) : List Value := (List.range n).flatMap fun i => [.int .i64 (lo i), .int .i64 (hi i)]
theorem spanL_succ (lo hi : Nat → Int) (n : Nat) : spanL lo hi (n + 1) = spanL lo hi n ++ [.int .i64 (lo n), .int .i64 (hi n)] := by
  simp [spanL, List.range_succ]
theorem spanL_len (lo hi : Nat → Int) : ∀ n, (spanL lo hi n).length = n * 2
  | 0 => rfl
  | n + 1 => by rw [spanL_succ, List.length_append, spanL_len lo hi n]; simp; omega
theorem spanL_at (lo hi : Nat → Int) : ∀ n i, i < n → (spanL lo hi n)[i * 2]? = some (.int .i64 (lo i)) ∧ (spanL lo hi n)[i * 2 + 1]? = some (.int .i64 (hi i))
  | 0, _, h => absurd h (by omega)
  | n + 1, i, h => by
    rw [spanL_succ]
    have hl := spanL_len lo hi n
    rcases Nat.lt_or_ge i n with h1 | h1
    · obtain ⟨a, b⟩ := spanL_at lo hi n i h1
      rw [List.getElem?_append_left (by omega), List.getElem?_append_left (by omega)]
      exact ⟨a, b⟩
    · obtain rfl : i = n := by omega
      rw [List.getElem?_append_right (by omega), List.getElem?_append_right (by omega), hl]
      simp
/-- The cells of a slice, in a list. -/
theorem SpanSl.list {cs : Array Value} {o n : Nat} {lo hi : Nat → Int} (h1 : ∀ i, i < n → cs[o + i * 2]? = some (.int .i64 (lo i))) (h2 : ∀ i, i < n → cs[o + i * 2 + 1]? = some (.int .i64 (hi i))) : ∀ (j : Nat) (u : Value), (spanL lo hi n)[j]? = some u → cs[o + j]? = some u := by
  intro j u hu
  have hj : j < n * 2 := by
    rw [← spanL_len lo hi n]
    exact (List.getElem?_eq_some_iff.1 hu).1
  obtain ⟨a, b⟩ := spanL_at lo hi n (j / 2) (by omega)
  rcases Nat.mod_two_eq_zero_or_one j with e | e
  · have hj2 : j = j / 2 * 2 := by omega
    rw [hj2, a] at hu
    rw [hj2, h1 _ (by omega)]
    exact hu
  · have hj2 : j = j / 2 * 2 + 1 := by omega
    rw [hj2, b] at hu
    rw [hj2, ← Nat.add_assoc, h2 _ (by omega)]
    exact hu
theorem SpanSl.own {x : Go.Beh.M} {base : Nat} {A : Option Addr} {n cap : Nat} {lo hi : Nat → Int} (h : OwnB x base 33 2 (.slice A n cap) n (spanL lo hi n)) : SpanSl x A n lo hi := fun hn => by
  obtain ⟨g, cap', cur, e, hb, hH, hc⟩ := h.form hn
  obtain ⟨rfl, -, -⟩ := Value.slice.inj e
  exact ⟨g, 0, cur, _, _, rfl, hH, fun i hi => by rw [Nat.zero_add]; exact hc _ _ (spanL_at lo _ n i hi).1, fun i hi => by rw [Nat.zero_add]; exact hc _ _ (spanL_at lo _ n i hi).2⟩
theorem spanL_one (lo hi : Nat → Int) (n : Nat) : ∀ u ∈ spanL lo hi n, u.oneCell' = true := by
  intro u hu
  simp only [spanL, List.mem_flatMap, List.mem_cons, List.not_mem_nil, or_false] at hu
  obtain ⟨i, _, rfl | rfl⟩ := hu <;> rfl

theorem ev_eqInSlice (P : Program) (d : Nat) (t e : TypeId) (A : Option Addr) (n cap : Nat) (h : P.underlying t = some (.slice e)) (w : World) (es : Array Event) : (Op.equalIn (d + 1) t (.slice A n cap) (.slice none 0 0)).events P w es = es := by
  cases A <;> simp [Op.equalIn, run_underlying h]
theorem run_appendZero {P : Program} (w : World) (t ty e : TypeId) (i : TypeInfo) (ht : P.underlying t = some (.slice e)) (hi : P.info? e = some i) (b : Nat) (ad : Addr) (c : Nat) :
    (Builtin.append_ #[t, t] ty #[.slice (some ⟨b, 0, none⟩) 0 0, .slice (some ad) 0 c]).run P w = .ok (.slice (some ⟨b, 0, none⟩) 0 0) w := by
  simp [Builtin.append_, run_underlying ht, sizeOf, typeInfo, hi, Builtin.lenOf, Builtin.firstCells, loadCells, loadCellsFrom, storeCells]
theorem ev_appendZero {P : Program} (w : World) (es : Array Event) (t ty e : TypeId) (i : TypeInfo) (ht : P.underlying t = some (.slice e)) (hi : P.info? e = some i) (b : Nat) (ad : Addr) (c : Nat) :
    (Builtin.append_ #[t, t] ty #[.slice (some ⟨b, 0, none⟩) 0 0, .slice (some ad) 0 c]).events P w es = es := by
  simp [Builtin.append_, run_underlying ht, sizeOf, typeInfo, hi, Builtin.lenOf, Builtin.firstCells, loadCells, loadCellsFrom, storeCells]
theorem run_eqlNil (A : Option Addr) (n cap : Nat) (w : World) : (binOp .eql 23 (.slice A n cap) (.slice none 0 0)).run Try.prog w = .ok (.bool A.isNone) w := by
  simp only [binOp]
  simp [run_equal_slice_nil (P := Try.prog) w 23 33 A n cap Try.underlying23]
theorem ev_eqlNil (A : Option Addr) (n cap : Nat) (w : World) (es : Array Event) : (binOp .eql 23 (.slice A n cap) (.slice none 0 0)).events Try.prog w es = es := by
  have e1 := ev_eqInSlice Try.prog 9999 23 _ A n cap Try.underlying23 w es
  have e2 : (binOp .eql 23 (.slice A n cap) (.slice none 0 0)) = (do pure (.bool (← Op.equal 23 (.slice A n cap) (.slice none 0 0)))) := rfl
  rw [e2]
  simp only [Sem.events_bind]
  rw [show Op.equal 23 (.slice A n cap) (.slice none 0 0) = Op.equalIn (9999 + 1) 23 (.slice A n cap) (.slice none 0 0) from rfl, e1]
  exact evThen_same fun _ _ => rfl
set_option maxHeartbeats 1000000 in
theorem bclone_ok (B : Base) (hP : B.P = Try.prog) (A : Option Addr) (n cap : Nat) (hn : n ≤ 1000000) (lo hi : Nat → Int) (x : Go.Beh.M) (hA : SpanSl x A n lo hi) (hAn : A = none → n = 0) :
    CallB B 13 #[] #[.slice A n cap] x (fun v x' => ∃ A' cap', v = .slice A' n cap' ∧ SpanSl x' A' n lo hi ∧ Ext x x') := by
  refine ⟨_, _, by rw [hP]; exact Try.func13, by rfl, rfl, ?_⟩
  simp only [Try.ntmps13, List.size_toArray, List.length_cons, List.length_nil, Nat.reduceAdd, Nat.reduceSub, Array.replicate_succ, Array.replicate_zero, List.push_toArray, List.append_toArray, List.nil_append, List.cons_append, Array.append_empty]
  repeat (refine wpB_seq ?_)
  refine wpB_region ?_
  simp only [List.size_toArray, List.length_cons, List.length_nil, Nat.reduceAdd, Nat.zero_add, List.range, List.range.loop]
  repeat (
    co_applyP opsB_rd rfl (by rfl)
    · intro xv xr Kc hK
      rw [hP]
      go_simp
      first | exact hK | (rw [if_neg (by omega)]; exact hK) | (rw [if_pos (by omega)]; exact hK)
    · intro xv xr xe xhe
      rw [hP] at xhe
      simp [go_sem, *] at xhe
    try walk_nrm
  )
  refine opsB_nil ?_
  simp only [BThen, BBlock, if_true, if_false, reduceIte, Nat.reduceEqDiff]
  repeat (refine wpB_seq ?_)
  refine wpB_region ?_
  simp only [List.size_toArray, List.length_cons, List.length_nil, Nat.reduceAdd, Nat.zero_add, List.range, List.range.loop]
  repeat (
    co_applyP opsB_rd rfl (by rfl)
    · intro xv xr Kc hK
      rw [hP]
      go_simp
      first | exact hK | (rw [if_neg (by omega)]; exact hK) | (rw [if_pos (by omega)]; exact hK)
    · intro xv xr xe xhe
      rw [hP] at xhe
      simp [go_sem, *] at xhe
    try walk_nrm
  )
  co_applyP opsB_rd rfl (by rfl)
  · intro xv xr Kc hK
    rw [hP]
    have q := run_eqlNil A n cap xv
    have q2 := ev_eqlNil A n cap xv
    go_simp
    first | exact hK | (rw [if_neg (by omega)]; exact hK) | (rw [if_pos (by omega)]; exact hK)
  · intro xv xr xe xhe
    rw [hP] at xhe
    have q := run_eqlNil A n cap xv
    have q2 := ev_eqlNil A n cap xv
    simp [go_sem, *] at xhe
  try walk_nrm
  refine opsB_nil ?_
  simp only [BThen, BBlock, if_true, if_false, reduceIte, Nat.reduceEqDiff]
  repeat (refine wpB_seq ?_)
  refine wpB_split (t := A.isNone) (by first | rfl | simp [Act.eval]) (fun ht => ?_) (fun ht => ?_)
  · obtain rfl : A = none := by simpa using ht
    obtain rfl := hAn rfl
    repeat (refine wpB_seq ?_)
    refine wpB_region ?_
    simp only [List.size_toArray, List.length_cons, List.length_nil, Nat.reduceAdd, Nat.zero_add, List.range, List.range.loop]
    repeat (
      co_applyP opsB_rd rfl (by rfl)
      · intro xv xr Kc hK
        rw [hP]
        go_simp
        first | exact hK | (rw [if_neg (by omega)]; exact hK) | (rw [if_pos (by omega)]; exact hK)
      · intro xv xr xe xhe
        rw [hP] at xhe
        simp [go_sem, *] at xhe
      try walk_nrm
    )
    refine opsB_nil ?_
    simp only [BThen, BBlock, if_true, if_false, reduceIte, Nat.reduceEqDiff]
    refine wpB_ret ?_
    refine ⟨rfl, .slice none 0 0, fun xv xr => ⟨?_, fun xe xhe => ?_⟩, ?_⟩
    · rw [hP]
      simp [results, Try.results13, go_sem]
    · have xhm := mem_seen xhe
      rw [hP] at xhm
      simp [results, Try.results13, go_sem] at xhm
    exact ⟨_, _, rfl, fun h => absurd h (by omega), Ext.refl x⟩
  · refine wpB_skip ?_
    simp only [BThen, BBlock, if_true, if_false, reduceIte, Nat.reduceEqDiff]
    repeat (refine wpB_seq ?_)
    refine wpB_region ?_
    simp only [List.size_toArray, List.length_cons, List.length_nil, Nat.reduceAdd, Nat.zero_add, List.range, List.range.loop]
    co_applyP opsB_nw (fun b => .slice (some ⟨b, 0, none⟩) 0 0) rfl (by rfl)
    · intro xv xr Kc hK
      rw [hP]
      go_simp
      exact hK
    · intro xv xr xe xhe
      rw [hP] at xhe
      simp [go_sem, *] at xhe
    intro x1 b1 m1 r1 h1 s1 q1
    try walk_nrm
    repeat (
      co_applyP opsB_rd rfl (by rfl)
      · intro xv xr Kc hK
        rw [hP]
        go_simp
        first | exact hK | (rw [if_neg (by omega)]; exact hK) | (rw [if_pos (by omega)]; exact hK)
      · intro xv xr xe xhe
        rw [hP] at xhe
        simp [go_sem, *] at xhe
      try walk_nrm
    )
    obtain ⟨iS, hS0, hS1, hS2, hS3⟩ := info_parts infoSpanN
    obtain ⟨ad, rfl⟩ : ∃ ad, A = some ad := by cases A with
      | none => simp at ht
      | some ad => exact ⟨ad, rfl⟩
    clear ht
    rcases Nat.eq_zero_or_pos n with h0 | h0
    · subst h0
      co_applyP opsB_rd rfl (by rfl)
      · intro xv xr Kc hK
        rw [hP]
        have q := run_appendZero xv 23 23 33 iS Try.underlying23 hS0 b1 ad cap
        have q2 := ev_appendZero (P := Try.prog) xv #[] 23 23 33 iS Try.underlying23 hS0 b1 ad cap
        go_simp
        first | exact hK | (rw [if_neg (by omega)]; exact hK) | (rw [if_pos (by omega)]; exact hK)
      · intro xv xr xe xhe
        rw [hP] at xhe
        have q := run_appendZero xv 23 23 33 iS Try.underlying23 hS0 b1 ad cap
        have q2 := ev_appendZero (P := Try.prog) xv #[] 23 23 33 iS Try.underlying23 hS0 b1 ad cap
        simp [go_sem, *] at xhe
      try walk_nrm
      repeat (
        co_applyP opsB_rd rfl (by rfl)
        · intro xv xr Kc hK
          rw [hP]
          go_simp
          first | exact hK | (rw [if_neg (by omega)]; exact hK) | (rw [if_pos (by omega)]; exact hK)
        · intro xv xr xe xhe
          rw [hP] at xhe
          simp [go_sem, *] at xhe
        try walk_nrm
      )
      refine opsB_nil ?_
      simp only [BThen, BBlock, if_true, if_false, reduceIte, Nat.reduceEqDiff]
      refine wpB_ret ?_
      refine ⟨rfl, .slice (some ⟨b1, 0, none⟩) 0 0, fun xv xr => ⟨?_, fun xe xhe => ?_⟩, ?_⟩
      · rw [hP]
        simp [results, Try.results13, go_sem]
      · have xhm := mem_seen xhe
        rw [hP] at xhm
        simp [results, Try.results13, go_sem] at xhm
      exact ⟨_, _, rfl, fun h => absurd h (by omega), r1⟩
    · obtain ⟨b, o, cs, e, f, hE, hH, c1, c2⟩ := hA h0
      obtain rfl := Option.some.inj hE
      have hO : OwnB x1 b1 33 2 (.slice (some ⟨b1, 0, none⟩) 0 0) 0 [] := .made h1 (Nat.le_refl _) (Nat.zero_le _) rfl
      refine opsB_append _ _ 23 rfl (by rfl) rfl b1 33 iS (.agg #[.int .i64 0, .int .i64 0]) 2 16 (by rw [hP]; exact Try.underlying23) (by rw [hP]; exact hS0) hS1 hS2 hS3 rfl (by omega)
        (.slice (some ⟨b1, 0, none⟩) 0 0) 0 [] (by rfl) hO b o n cap cs e f (spanL lo hi n) (by rfl) (spanL_len lo hi n) (hH.ext r1) (SpanSl.list c1 c2) (spanL_one lo hi n) (by unfold maxLen; omega) (by omega) (by omega) ?_
      intro v x2 g1 g2 g3
      try walk_nrm
      obtain ⟨A', cap', rfl⟩ := g1.value
      rw [Nat.zero_add, List.nil_append] at g1
      repeat (
        co_applyP opsB_rd rfl (by rfl)
        · intro xv xr Kc hK
          rw [hP]
          go_simp
          first | exact hK | (rw [if_neg (by omega)]; exact hK) | (rw [if_pos (by omega)]; exact hK)
        · intro xv xr xe xhe
          rw [hP] at xhe
          simp [go_sem, *] at xhe
        try walk_nrm
      )
      refine opsB_nil ?_
      simp only [BThen, BBlock, if_true, if_false, reduceIte, Nat.reduceEqDiff]
      refine wpB_ret ?_
      refine ⟨rfl, .slice A' (0 + n) cap', fun xv xr => ⟨?_, fun xe xhe => ?_⟩, ?_⟩
      · rw [hP]
        simp [results, Try.results13, go_sem]
      · have xhm := mem_seen xhe
        rw [hP] at xhm
        simp [results, Try.results13, go_sem] at xhm
      exact ⟨A', cap', by rw [Nat.zero_add], SpanSl.own g1, r1.grw g2 (fun k hk => by simp only [Value.ownBlock, Option.some.injEq] at hk; omega)⟩
end Go.Proofs.Ytplmgbffaeohpaa
