/- A network of notices in memory: what stands, what a call may turn. newer, isNode, isAuthor. -/
import Derived.Test.YtocdboopmfgkpaaDoorNoticeWorks
import Derived.Deep.AppendLies
import Derived.Laws.AppendOwn
namespace Go.Proofs.YtocdboopmfgkpaaDoor
open Go.RowKit
set_option linter.unusedSimpArgs false
set_option linter.unusedVariables false

/-- Block b holds n values, and may be written. -/
structure VRow (w : World) (b n : Nat) (f : Nat → Value) : Prop where
  cell : ∀ j, j < n → w.cell? ⟨b, j, none⟩ = some (f j)
  free : ∀ j, j < n → w.frozen? ⟨b, j, none⟩ = false
  lt : b < w.heap.size
section
variable {w w' : World} {b n : Nat} {f g : Nat → Value}
theorem VRow.congr (h : VRow w b n f) (e : ∀ j, j < n → f j = g j) : VRow w b n g :=
  ⟨fun j hj => by rw [← e j hj]; exact h.cell j hj, h.free, h.lt⟩
theorem VRow.set (h : VRow w b n f) (i : Nat) (hi : i < n) (v : Value) : VRow (w.setCell ⟨b, i, none⟩ v) b n (fun j => if j = i then v else f j) := by
  refine ⟨fun j hj => ?_, fun j hj => by rw [World.frozen?_setCell]; exact h.free j hj, by simpa using h.lt⟩
  by_cases e : j = i
  · subst e; rw [if_pos rfl]; exact World.cell?_setCell_same w _ _ (h.cell j hj)
  · rw [if_neg e, World.cell?_setCell_other w _ _ _ (by intro e2; apply e; injection e2 with _ e3; exact e3.symm)]
    exact h.cell j hj
theorem VRow.below (h : VRow w b n f) (hb : Below w.heap.size w w') : VRow w' b n f :=
  ⟨fun j hj => (hb.cell (p := ⟨b, j, none⟩) h.lt).trans (h.cell j hj), fun j hj => (hb.frozen (p := ⟨b, j, none⟩) h.lt).trans (h.free j hj), Nat.lt_of_lt_of_le h.lt hb.size⟩
theorem VRow.grown {r : Option Nat} (h : VRow w b n f) (hg : w.grownBy w' r) (hr : some b ≠ r) : VRow w' b n f :=
  ⟨fun j hj => (hg.cell_far ⟨b, j, none⟩ h.lt hr).trans (h.cell j hj), fun j hj => (hg.frozen_far ⟨b, j, none⟩ h.lt hr).trans (h.free j hj), Nat.lt_of_lt_of_le h.lt hg.size⟩
end

/-- What a network is, but for what its nodes hold: the text of all notices, their sums, the number of authors and of nodes, the keys, the neighbours. -/
structure NetD where
  T : ByteArray
  S : Nat → Int → Int
  K : Nat
  n : Nat
  keys : Nat → Int
  deg : Nat → Nat
  nbr : Nat → Nat → Nat
/-- The fields of the notice of author a with number m (0: none). -/
def ntA (a : Nat) (m : Int) : Int := if m = 0 then 0 else (a : Int)
def ntT (D : NetD) (m : Int) : ByteArray := if m = 0 then ⟨#[]⟩ else D.T
def ntS (D : NetD) (a : Nat) (m : Int) : Int := if m = 0 then 0 else D.S a m
def ntc (D : NetD) (a : Nat) (m : Int) : Nat → Value := ntF (ntA a m) m (ntT D m) (ntS D a m)
/-- A node's row: four cells for each author. -/
def rowF (D : NetD) (h : Nat → Int) (j : Nat) : Value := ntc D (j / 4) (h (j / 4)) (j % 4)
theorem rowF_at (D : NetD) (h : Nat → Int) (a c : Nat) (hc : c < 4) : rowF D h (a * 4 + c) = ntc D a (h a) c := by
  unfold rowF
  rw [show (a * 4 + c) / 4 = a by omega, show (a * 4 + c) % 4 = c by omega]

/-- Where a network lies. -/
structure NetL where
  b : Nat
  bk : Nat
  ck : Nat
  bn : Nat
  nb : Nat → Nat
  cn : Nat → Nat
  bh : Nat
  ch : Nat
  hb : Nat → Nat
  hc : Nat → Nat
structure NetW (D : NetD) (L : NetL) (base : Nat) (w : World) (H : Nat → Nat → Int) : Prop where
  c0 : w.cell? ⟨L.b, 0, none⟩ = some (.slice (some ⟨L.bk, 0, none⟩) D.K L.ck)
  c1 : w.cell? ⟨L.b, 1, none⟩ = some (.slice (some ⟨L.bn, 0, none⟩) D.n D.n)
  c2 : w.cell? ⟨L.b, 2, none⟩ = some (.slice (some ⟨L.bh, 0, none⟩) D.n L.ch)
  f2 : w.frozen? ⟨L.b, 2, none⟩ = false
  key : ∀ a, a < D.K → w.cell? ⟨L.bk, a, none⟩ = some (.int .i64 (D.keys a))
  near : ∀ i, i < D.n → w.cell? ⟨L.bn, i, none⟩ = some (.slice (some ⟨L.nb i, 0, none⟩) (D.deg i) (L.cn i))
  nears : ∀ i, i < D.n → ∀ j, j < D.deg i → w.cell? ⟨L.nb i, j, none⟩ = some (.int .i64 (D.nbr i j))
  held : ∀ i, i < D.n → w.cell? ⟨L.bh, i, none⟩ = some (.slice (some ⟨L.hb i, 0, none⟩) D.K (L.hc i))
  row : ∀ i, i < D.n → VRow w (L.hb i) (D.K * 4) (rowF D (H i))
  lb : L.b < w.heap.size
  lk : L.bk < w.heap.size
  ln : L.bn < w.heap.size
  lnb : ∀ i, i < D.n → L.nb i < w.heap.size
  lh : L.bh < w.heap.size
  kk : D.K ≤ L.ck
  kn : ∀ i, i < D.n → D.deg i ≤ L.cn i
  kh : D.n ≤ L.ch
  kc : ∀ i, i < D.n → D.K ≤ L.hc i
  ab : ∀ i, i < D.n → L.hb i ≠ L.b
  ak : ∀ i, i < D.n → L.hb i ≠ L.bk
  an : ∀ i, i < D.n → L.hb i ≠ L.bn
  ah : ∀ i, i < D.n → L.hb i ≠ L.bh
  anb : ∀ i, i < D.n → ∀ j, j < D.n → L.hb i ≠ L.nb j
  inj : ∀ i, i < D.n → ∀ j, j < D.n → i ≠ j → L.hb i ≠ L.hb j
  bbk : L.b ≠ L.bk
  bbn : L.b ≠ L.bn
  bbh : L.b ≠ L.bh
  bnb : ∀ j, j < D.n → L.b ≠ L.nb j
  ob : base ≤ L.b
  oh : ∀ i, i < D.n → base ≤ L.hb i
/-- No block of the network is block r. -/
structure NetFar (D : NetD) (L : NetL) (r : Option Nat) : Prop where
  b : some L.b ≠ r
  k : some L.bk ≠ r
  n : some L.bn ≠ r
  h : some L.bh ≠ r
  nb : ∀ i, i < D.n → some (L.nb i) ≠ r
  hb : ∀ i, i < D.n → some (L.hb i) ≠ r
theorem netFar_none (D : NetD) (L : NetL) : NetFar D L none := ⟨by simp, by simp, by simp, by simp, fun _ _ => by simp, fun _ _ => by simp⟩
section
variable {D : NetD} {L : NetL} {base : Nat} {w w' : World} {H H' : Nat → Nat → Int}
theorem NetW.grown {r : Option Nat} (h : NetW D L base w H) (hg : w.grownBy w' r) (hr : NetFar D L r) : NetW D L base w' H :=
  { h with
    c0 := (hg.cell_far ⟨L.b, 0, none⟩ h.lb hr.b).trans h.c0
    c1 := (hg.cell_far ⟨L.b, 1, none⟩ h.lb hr.b).trans h.c1
    c2 := (hg.cell_far ⟨L.b, 2, none⟩ h.lb hr.b).trans h.c2
    f2 := (hg.frozen_far ⟨L.b, 2, none⟩ h.lb hr.b).trans h.f2
    key := fun a ha => (hg.cell_far ⟨L.bk, a, none⟩ h.lk hr.k).trans (h.key a ha)
    near := fun i hi => (hg.cell_far ⟨L.bn, i, none⟩ h.ln hr.n).trans (h.near i hi)
    nears := fun i hi j hj => (hg.cell_far ⟨L.nb i, j, none⟩ (h.lnb i hi) (hr.nb i hi)).trans (h.nears i hi j hj)
    held := fun i hi => (hg.cell_far ⟨L.bh, i, none⟩ h.lh hr.h).trans (h.held i hi)
    row := fun i hi => (h.row i hi).grown hg (hr.hb i hi)
    lb := Nat.lt_of_lt_of_le h.lb hg.size
    lk := Nat.lt_of_lt_of_le h.lk hg.size
    ln := Nat.lt_of_lt_of_le h.ln hg.size
    lnb := fun i hi => Nat.lt_of_lt_of_le (h.lnb i hi) hg.size
    lh := Nat.lt_of_lt_of_le h.lh hg.size }
theorem NetW.below (h : NetW D L base w H) (hb : Below w.heap.size w w') : NetW D L base w' H := h.grown (r := none) ⟨hb.os, hb.tape, hb.output, hb.size, fun k hk _ => hb.block k hk⟩ (netFar_none D L)
theorem NetW.congr (h : NetW D L base w H) (e : ∀ i, i < D.n → ∀ a, a < D.K → H i a = H' i a) : NetW D L base w H' :=
  { h with row := fun i hi => (h.row i hi).congr (fun j hj => by unfold rowF; rw [e i hi (j / 4) (by omega)]) }
end

/-- One notice is newer than another one, where the number alone decides. -/
theorem newer_num (a x m a' y m' : Int) (s t : ByteArray) (w : World) (hst : x = y → s = t) :
    Calls Tryd.prog 30 #[.agg #[.int .i64 a, .int .i64 x, .string s, .int .i64 m], .agg #[.int .i64 a', .int .i64 y, .string t, .int .i64 m']] w fun e w' => e = .returned (.bool (decide (y < x))) ∧ Below w.heap.size w w' := by
  by_cases h1 : y < x
  · have HS := Lib.hid hst
    clear hst
    go_enter Tryd.func30, Tryd.ntmps30
    go_wp2_with fail
    all_goals
      go_ret
      exact ⟨by simp [h1], (by repeat' (first | (with_reducible refine below_drewN ?_ _) | go_grown))⟩
  · by_cases h2 : x = y
    · obtain rfl := hst h2
      subst h2
      clear hst
      go_enter Tryd.func30, Tryd.ntmps30
      go_wp2_with fail
      go_ret
      exact ⟨by simp, (by repeat' (first | (with_reducible refine below_drewN ?_ _) | go_grown))⟩
    · have h3 : (x == y) = false := by rw [beq_eq_false_iff_ne]; exact h2
      clear hst h2
      go_enter Tryd.func30, Tryd.ntmps30
      go_wp2_with fail
      all_goals
        go_ret
        exact ⟨by simp [h1], (by repeat' (first | (with_reducible refine below_drewN ?_ _) | go_grown))⟩

section
variable {D : NetD} {L : NetL} {base : Nat} {w : World} {H : Nat → Nat → Int}
theorem isNode_ok (h : NetW D L base w H) (i : Nat) (hi : i < D.n) : Calls Tryd.prog 28 #[.pointer (some ⟨L.b, 0, none⟩), .int .i64 i] w fun e w' => e = .returned (.bool true) ∧ w = w' := by
  have c2 := h.c2
  have i0 : (0 : Int) ≤ (i : Int) := by omega
  have i1 : (i : Int) < (D.n : Int) := by omega
  clear h
  go_enter Tryd.func28, Tryd.ntmps28
  go_wp2_with fail
  go_ret
  exact ⟨rfl, rfl⟩
theorem isAuthor_ok (h : NetW D L base w H) (i : Nat) (hi : i < D.K) : Calls Tryd.prog 29 #[.pointer (some ⟨L.b, 0, none⟩), .int .i64 i] w fun e w' => e = .returned (.bool true) ∧ w = w' := by
  have c0 := h.c0
  have i0 : (0 : Int) ≤ (i : Int) := by omega
  have i1 : (i : Int) < (D.K : Int) := by omega
  clear h
  go_enter Tryd.func29, Tryd.ntmps29
  go_wp2_with fail
  go_ret
  exact ⟨rfl, rfl⟩

/-- What Held tells. -/
def heldV (D : NetD) (a : Nat) (m : Int) : Value := .tuple #[.agg #[.int .i64 (ntA a m), .int .i64 m, .string (ntT D m), .int .i64 (ntS D a m)], .int .i64 (if m = 0 then 6 else 0)]
set_option maxRecDepth 100000 in
set_option maxHeartbeats 4000000 in
theorem held_ok (h : NetW D L base w H) (i a : Nat) (hi : i < D.n) (ha : a < D.K) : Calls Tryd.prog 18 #[.pointer (some ⟨L.b, 0, none⟩), .int .i64 i, .int .i64 a] w fun e w' => e = .returned (heldV D a (H i a)) ∧ Below w.heap.size w w' := by
  have HN := Lib.hid h
  have c2 := h.c2
  have c3 := h.held i hi
  have r0 := (h.row i hi).cell (a * 4) (by omega)
  have r1 := (h.row i hi).cell (a * 4 + 1) (by omega)
  have r2 := (h.row i hi).cell (a * 4 + 2) (by omega)
  have r3 := (h.row i hi).cell (a * 4 + 3) (by omega)
  rw [show a * 4 = a * 4 + 0 from rfl, rowF_at _ _ _ _ (by omega)] at r0
  rw [rowF_at _ _ _ _ (by omega)] at r1 r2 r3
  have l0 := h.lb; have l1 := h.lh; have l2 := (h.row i hi).lt
  have b0 : w.heap.size ≠ L.b := by omega
  have b1 : w.heap.size ≠ L.bh := by omega
  have b2 : w.heap.size ≠ L.hb i := by omega
  have i0 : (0 : Int) ≤ (i : Int) := by omega
  have i1 : (i : Int) < (D.n : Int) := by omega
  have j0 : (0 : Int) ≤ (a : Int) := by omega
  have j1 : (a : Int) < (D.K : Int) := by omega
  obtain ⟨m, hm⟩ : ∃ m, m = H i a := ⟨_, rfl⟩
  rw [← hm] at r0 r1 r2 r3 ⊢
  obtain ⟨q, hq⟩ : ∃ q, q = L.hb i := ⟨_, rfl⟩
  obtain ⟨qc, hqc⟩ : ∃ q, q = L.hc i := ⟨_, rfl⟩
  rw [← hq] at r0 r1 r2 r3 c3 b2 l2
  rw [← hqc] at c3
  clear h hm hq hqc
  simp only [ntc, ntF] at r0 r1 r2 r3
  simp at r0 r1 r2 r3
  obtain ⟨va, hva⟩ : ∃ v, v = ntA a m := ⟨_, rfl⟩
  obtain ⟨vt, hvt⟩ : ∃ v, v = ntT D m := ⟨_, rfl⟩
  obtain ⟨vs, hvs⟩ : ∃ v, v = ntS D a m := ⟨_, rfl⟩
  rw [← hva] at r0; rw [← hvt] at r2; rw [← hvs] at r3
  have HA := Lib.hid hva; have HT := Lib.hid hvt; have HS := Lib.hid hvs
  clear hva hvt hvs
  by_cases hz : m = 0
  · subst hz
    have e1 : heldV D a 0 = .tuple #[.agg #[.int .i64 0, .int .i64 0, .string ⟨#[]⟩, .int .i64 0], .int .i64 6] := by simp [heldV, ntA, ntT, ntS]
    rw [e1]
    clear e1
    go_enter Tryd.func18, Tryd.ntmps18
    go_wp2_with fail
    refine Calls.mono (isNode_ok (HN.out.below ((Below.refl w.heap.size w).alloc (Nat.le_refl _) _)) i hi) ?_
    rintro e _ ⟨rfl, rfl⟩
    go_wp2_with fail
    refine Calls.mono (isAuthor_ok (HN.out.below ((Below.refl w.heap.size w).alloc (Nat.le_refl _) _)) a ha) ?_
    rintro e _ ⟨rfl, rfl⟩
    go_wp2_with fail
    refine bodyPost_ret (v := .tuple #[.agg #[.int .i64 0, .int .i64 0, .string ⟨#[]⟩, .int .i64 0], .int .i64 6]) ?_ rfl ⟨rfl, (by repeat' (first | (with_reducible refine below_drewN ?_ _) | go_grown))⟩
    simp [results, Tryd.results18, go_sem, *]
  · have hz2 : (m == 0) = false := by rw [beq_eq_false_iff_ne]; exact hz
    have e1 : heldV D a m = .tuple #[.agg #[.int .i64 va, .int .i64 m, .string vt, .int .i64 vs], .int .i64 0] := by rw [HA.out, HT.out, HS.out]; simp [heldV, hz]
    rw [e1]
    clear e1
    go_enter Tryd.func18, Tryd.ntmps18
    go_wp2_with fail
    refine Calls.mono (isNode_ok (HN.out.below ((Below.refl w.heap.size w).alloc (Nat.le_refl _) _)) i hi) ?_
    rintro e _ ⟨rfl, rfl⟩
    go_wp2_with fail
    refine Calls.mono (isAuthor_ok (HN.out.below ((Below.refl w.heap.size w).alloc (Nat.le_refl _) _)) a ha) ?_
    rintro e _ ⟨rfl, rfl⟩
    go_wp2_with fail
    refine bodyPost_ret (v := .tuple #[.agg #[.int .i64 va, .int .i64 m, .string vt, .int .i64 vs], .int .i64 0]) ?_ rfl ⟨rfl, (by repeat' (first | (with_reducible refine below_drewN ?_ _) | go_grown))⟩
    simp [results, Tryd.results18, go_sem, *]
end

end Go.Proofs.YtocdboopmfgkpaaDoor
