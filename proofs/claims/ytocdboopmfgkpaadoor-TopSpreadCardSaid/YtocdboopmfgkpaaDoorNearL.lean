/- A network while New lays it: the lists of the neighbours. -/
import Derived.Test.YtocdboopmfgkpaaDoorStep
import Derived.Test.YtocdboopmfgkpaaDoorRegG
import Derived.Test.YtocdboopmfgkpaaDoorAppend
namespace Go.Proofs.YtocdboopmfgkpaaDoor
open Go.RowKit
set_option linter.unusedSimpArgs false
set_option linter.unusedVariables false

def natsV (l : List Nat) : List Value := l.map fun (x : Nat) => Value.int .i64 (x : Int)
theorem natsV_snoc (l : List Nat) (y : Nat) : natsV (l ++ [y]) = natsV l ++ [.int .i64 (y : Int)] := by simp [natsV]
theorem one_cell {w : World} {q : Nat} {u : Value} (h : w.cell? ⟨q, 0, none⟩ = some u) : ∀ j u', [u][j]? = some u' → w.cell? ((⟨q, 0, none⟩ : Addr).add j) = some u' := by
  intro j u' hj
  match j, hj with
  | 0, hj => simp at hj; subst hj; rw [add_at]; exact h
/-- Where the new network lies; how many authors and nodes. -/
structure NewL where
  b : Nat
  bk : Nat
  ck : Nat
  bn : Nat
  n : Nat
  K : Nat
  keys : Nat → Int
  hv : Value
structure NearL (w : World) (B : Nat) (L : NewL) (v : Nat → Value) (lst : Nat → List Nat) : Prop where
  c0 : w.cell? ⟨L.b, 0, none⟩ = some (.slice (some ⟨L.bk, 0, none⟩) L.K L.ck)
  c1 : w.cell? ⟨L.b, 1, none⟩ = some (.slice (some ⟨L.bn, 0, none⟩) L.n L.n)
  c2 : w.cell? ⟨L.b, 2, none⟩ = some L.hv
  f2 : w.frozen? ⟨L.b, 2, none⟩ = false
  key : ∀ a, a < L.K → w.cell? ⟨L.bk, a, none⟩ = some (.int .i64 (L.keys a))
  hdr : VRow w L.bn L.n v
  own : ∀ i, i < L.n → w.ownsRow B 3 1 (v i) (lst i).length (natsV (lst i))
  far : ∀ i, i < L.n → ∀ q, (v i).ownBlock = some q → q ≠ L.b ∧ q ≠ L.bk ∧ q ≠ L.bn
  inj : ∀ i, i < L.n → ∀ j, j < L.n → i ≠ j → ∀ q, (v i).ownBlock = some q → (v j).ownBlock ≠ some q
  lb : L.b < w.heap.size
  lk : L.bk < w.heap.size
  bbk : L.b ≠ L.bk
  bbn : L.b ≠ L.bn
  bkn : L.bk ≠ L.bn
  ob : B ≤ L.b
  on : B ≤ L.bn
  kk : L.K ≤ L.ck
section
variable {w w' : World} {B : Nat} {L : NewL} {v : Nat → Value} {lst : Nat → List Nat}
theorem NearL.blk (h : NearL w B L v lst) {i : Nat} (hi : i < L.n) {q : Nat} (hq : (v i).ownBlock = some q) : B ≤ q ∧ q < w.heap.size := (h.own i hi).lt q hq
theorem own_kept_none {e : TypeId} {sz : Nat} {u : Value} {m : Nat} {xs : List Value} (h : w.ownsRow B e sz u m xs) (hb : Below w.heap.size w w') : w'.ownsRow B e sz u m xs :=
  h.kept (row := none) ⟨hb.os, hb.tape, hb.output, hb.size, fun k hk _ => hb.block k hk⟩ (by cases hv : u.ownBlock <;> simp)
theorem NearL.below (h : NearL w B L v lst) (hb : Below w.heap.size w w') : NearL w' B L v lst :=
  { h with
    c0 := (hb.cell (p := ⟨L.b, 0, none⟩) h.lb).trans h.c0
    c1 := (hb.cell (p := ⟨L.b, 1, none⟩) h.lb).trans h.c1
    c2 := (hb.cell (p := ⟨L.b, 2, none⟩) h.lb).trans h.c2
    f2 := (hb.frozen (p := ⟨L.b, 2, none⟩) h.lb).trans h.f2
    key := fun a ha => (hb.cell (p := ⟨L.bk, a, none⟩) h.lk).trans (h.key a ha)
    hdr := h.hdr.below hb
    own := fun i hi => own_kept_none (h.own i hi) hb
    lb := Nat.lt_of_lt_of_le h.lb hb.size
    lk := Nat.lt_of_lt_of_le h.lk hb.size }
theorem own_kept_if {e : TypeId} {sz : Nat} {u : Value} {m : Nat} {xs : List Value} {row : Option Nat} (h : w.ownsRow B e sz u m xs) (hg : w.grownBy w' row) (hne : ∀ q, u.ownBlock = some q → row ≠ some q) : w'.ownsRow B e sz u m xs :=
  h.kept hg (by
    cases hv : u.ownBlock with
    | none => exact .inl rfl
    | some q => exact .inr (fun e => hne q hv e.symm))
/-- The two appends of an edge have been made, and stored. -/
theorem NearL.edge (h : NearL w B L v lst) {x y : Nat} (hx : x < L.n) (hy : y < L.n) (hxy : x ≠ y) {W1 wb W2 wd : World} {v1 v2 : Value} (b1 : Below w.heap.size w W1) (hB : B ≤ w.heap.size)
    (g1 : W1.grownBy wb (v x).ownBlock) (o1 : wb.ownsRow B 3 1 v1 (lst x ++ [y]).length (natsV (lst x ++ [y]))) (t1 : v1.ownBlock = (v x).ownBlock ∨ v1.ownBlock = some W1.heap.size)
    (b2 : Below wb.heap.size wb W2) (g2 : W2.grownBy wd (v y).ownBlock) (o2 : wd.ownsRow B 3 1 v2 (lst y ++ [x]).length (natsV (lst y ++ [x]))) (t2 : v2.ownBlock = (v y).ownBlock ∨ v2.ownBlock = some W2.heap.size) :
    NearL ((wd.setCell ⟨L.bn, x, none⟩ v1).setCell ⟨L.bn, y, none⟩ v2) B L (fun i => if i = x then v1 else if i = y then v2 else v i) (fun i => if i = x then lst x ++ [y] else if i = y then lst y ++ [x] else lst i) ∧
    Below B w ((wd.setCell ⟨L.bn, x, none⟩ v1).setCell ⟨L.bn, y, none⟩ v2) := by
  have s1 := b1.size; have s2 := g1.size; have s3 := b2.size; have s4 := g2.size
  have lx : ∀ q, (v x).ownBlock = some q → B ≤ q ∧ q < w.heap.size := fun q hq => h.blk hx hq
  have ly : ∀ q, (v y).ownBlock = some q → B ≤ q ∧ q < w.heap.size := fun q hq => h.blk hy hq
  -- what stands of the old blocks
  have keep : ∀ q, q < w.heap.size → some q ≠ (v x).ownBlock → some q ≠ (v y).ownBlock → wd.heap[q]? = w.heap[q]? := fun q hq n1 n2 => by
    rw [g2.block q (by omega) n2, b2.block q (by omega), g1.block q (by omega) n1, b1.block q hq]
  have nbx : some L.bn ≠ (v x).ownBlock := fun e => (h.far x hx _ e.symm).2.2 rfl
  have nby : some L.bn ≠ (v y).ownBlock := fun e => (h.far y hy _ e.symm).2.2 rfl
  have hrow : VRow wd L.bn L.n v := by
    have r1 := (h.hdr.below b1).grown g1 nbx
    exact (r1.below b2).grown g2 nby
  -- v1 stands behind the second append
  have n12 : ∀ q, v1.ownBlock = some q → (v y).ownBlock ≠ some q := fun q hq e => by
    rcases t1 with t | t
    · rw [t] at hq; exact h.inj x hx y hy hxy q hq e
    · rw [t] at hq
      have := (ly q e).2
      have := Option.some.inj hq
      omega
  have o1d : wd.ownsRow B 3 1 v1 (lst x ++ [y]).length (natsV (lst x ++ [y])) := own_kept_if (own_kept_none o1 b2) g2 n12
  have l1 : ∀ q, v1.ownBlock = some q → q < wb.heap.size := fun q hq => (o1.lt q hq).2
  have f1 : ∀ q, v1.ownBlock = some q → q ≠ L.b ∧ q ≠ L.bk ∧ q ≠ L.bn := fun q hq => by
    rcases t1 with t | t
    · rw [t] at hq; exact h.far x hx q hq
    · rw [t] at hq
      have := Option.some.inj hq
      have := h.lb; have := h.lk; have := h.hdr.lt
      omega
  have f2 : ∀ q, v2.ownBlock = some q → q ≠ L.b ∧ q ≠ L.bk ∧ q ≠ L.bn := fun q hq => by
    rcases t2 with t | t
    · rw [t] at hq; exact h.far y hy q hq
    · rw [t] at hq
      have := Option.some.inj hq
      have := h.lb; have := h.lk; have := h.hdr.lt
      omega
  have n21 : ∀ q, v1.ownBlock = some q → v2.ownBlock ≠ some q := fun q hq e => by
    rcases t2 with t | t
    · rw [t] at e; exact n12 q hq e
    · rw [t] at e
      have := l1 q hq
      have := Option.some.inj e
      omega
  have gs : wd.grownBy ((wd.setCell ⟨L.bn, x, none⟩ v1).setCell ⟨L.bn, y, none⟩ v2) (some L.bn) := (setCell_grown wd L.bn x v1).trans (setCell_grown _ L.bn y v2)
  have far1 : ∀ {u : Value}, (∀ q, u.ownBlock = some q → q ≠ L.bn) → ∀ q, u.ownBlock = some q → some L.bn ≠ some q := fun hu q hq e => hu q hq (Option.some.inj e).symm
  have old : ∀ q, q < w.heap.size → q ≠ L.bn → some q ≠ (v x).ownBlock → some q ≠ (v y).ownBlock → ((wd.setCell ⟨L.bn, x, none⟩ v1).setCell ⟨L.bn, y, none⟩ v2).heap[q]? = w.heap[q]? := fun q hq hn n1 n2 => by
    rw [gs.block q (by omega) (fun e => hn (Option.some.inj e)), keep q hq n1 n2]
  have nfb : ∀ {i : Nat}, i < L.n → some L.b ≠ (v i).ownBlock := fun hi e => (h.far _ hi _ e.symm).1 rfl
  have nfk : ∀ {i : Nat}, i < L.n → some L.bk ≠ (v i).ownBlock := fun hi e => (h.far _ hi _ e.symm).2.1 rfl
  have ob := old L.b h.lb h.bbn (nfb hx) (nfb hy)
  have ok := old L.bk h.lk h.bkn (nfk hx) (nfk hy)
  refine ⟨{ h with
    c0 := (World.cell?_of_block (w := w) ob).trans h.c0
    c1 := (World.cell?_of_block (w := w) ob).trans h.c1
    c2 := (World.cell?_of_block (w := w) ob).trans h.c2
    f2 := by
      have := h.f2
      unfold World.frozen? at this ⊢
      rw [ob]; exact this
    key := fun a ha => (World.cell?_of_block (w := w) ok).trans (h.key a ha)
    hdr := ((hrow.set x hx v1).set y hy v2).congr (fun j _ => by
      by_cases e : j = y
      · subst e; rw [if_pos rfl, if_neg (Ne.symm hxy), if_pos rfl]
      · rw [if_neg e]
        by_cases e2 : j = x
        · rw [if_pos e2, if_pos e2]
        · rw [if_neg e2, if_neg e2, if_neg e])
    own := fun i hi => ?_
    far := fun i hi q hq => ?_
    inj := fun i hi j hj hij q hq => ?_
    lb := by have := gs.size; have := h.lb; omega
    lk := by have := gs.size; have := h.lk; omega }, ⟨?_, ?_, ?_, ?_, fun q hq => ?_⟩⟩
  · by_cases e : i = x
    · simp only [if_pos e]; exact own_kept_if o1d gs (far1 (fun q hq => (f1 q hq).2.2))
    · by_cases e2 : i = y
      · simp only [if_neg e, if_pos e2]; exact own_kept_if o2 gs (far1 (fun q hq => (f2 q hq).2.2))
      · simp only [if_neg e, if_neg e2]
        have k1 := own_kept_none (h.own i hi) b1
        have k2 := own_kept_if k1 g1 (fun q hq => h.inj i hi x hx e q hq)
        have k3 := own_kept_if (own_kept_none k2 b2) g2 (fun q hq => h.inj i hi y hy e2 q hq)
        exact own_kept_if k3 gs (far1 (fun q hq => (h.far i hi q hq).2.2))
  · by_cases e : i = x
    · simp only [if_pos e] at hq; exact f1 q hq
    · by_cases e2 : i = y
      · simp only [if_neg e, if_pos e2] at hq; exact f2 q hq
      · simp only [if_neg e, if_neg e2] at hq; exact h.far i hi q hq
  · have old1 : ∀ k, k < L.n → k ≠ x → ∀ q, (v k).ownBlock = some q → v1.ownBlock ≠ some q := fun k hk hkx q hq e => by
      rcases t1 with t | t
      · rw [t] at e; exact h.inj x hx k hk (Ne.symm hkx) q e hq
      · rw [t] at e; have := (h.blk hk hq).2; have := Option.some.inj e; omega
    have old2 : ∀ k, k < L.n → k ≠ y → ∀ q, (v k).ownBlock = some q → v2.ownBlock ≠ some q := fun k hk hky q hq e => by
      rcases t2 with t | t
      · rw [t] at e; exact h.inj y hy k hk (Ne.symm hky) q e hq
      · rw [t] at e; have := (h.blk hk hq).2; have := Option.some.inj e; omega
    by_cases ix : i = x
    · simp only [if_pos ix] at hq
      by_cases jx : j = x
      · omega
      · by_cases jy : j = y
        · simp only [if_neg jx, if_pos jy]; exact n21 q hq
        · simp only [if_neg jx, if_neg jy]; exact fun e => old1 j hj jx q e hq
    · by_cases iy : i = y
      · simp only [if_neg ix, if_pos iy] at hq
        by_cases jx : j = x
        · simp only [if_pos jx]; exact fun e => n21 q e hq
        · by_cases jy : j = y
          · omega
          · simp only [if_neg jx, if_neg jy]; exact fun e => old2 j hj jy q e hq
      · simp only [if_neg ix, if_neg iy] at hq
        by_cases jx : j = x
        · simp only [if_pos jx]; exact old1 i hi ix q hq
        · by_cases jy : j = y
          · simp only [if_neg jx, if_pos jy]; exact old2 i hi iy q hq
          · simp only [if_neg jx, if_neg jy]; exact h.inj i hi j hj hij q hq
  · rw [gs.os, g2.os, b2.os, g1.os, b1.os]
  · rw [gs.tape, g2.tape, b2.tape, g1.tape, b1.tape]
  · rw [gs.output, g2.output, b2.output, g1.output, b1.output]
  · have := gs.size; omega
  · have hqw : q < w.heap.size := by omega
    have hon := h.on
    exact old q hqw (by omega) (fun e => by have := (lx q e.symm).1; omega) (fun e => by have := (ly q e.symm).1; omega)
end
/-- What the statement that adds an edge reads. -/
structure EdgeD (w : World) (L : NewL) (t x y : Nat) : Prop where
  c1 : w.cell? ⟨L.b, 1, none⟩ = some (.slice (some ⟨L.bn, 0, none⟩) L.n L.n)
  t0 : w.cell? ⟨t, 0, none⟩ = some (.int .i64 (x : Int))
  t1 : w.cell? ⟨t, 1, none⟩ = some (.int .i64 (y : Int))
  lb : L.b < w.heap.size
  lt : t < w.heap.size
structure EdgeC (w : World) (L : NewL) (t x y : Nat) (vx vy : Value) : Prop where
  d : EdgeD w L t x y
  cx : w.cell? ⟨L.bn, x, none⟩ = some vx
  cy : w.cell? ⟨L.bn, y, none⟩ = some vy
  fx : w.frozen? ⟨L.bn, x, none⟩ = false
  fy : w.frozen? ⟨L.bn, y, none⟩ = false
  ln : L.bn < w.heap.size
section
variable {w w' : World} {L : NewL} {t x y : Nat} {vx vy : Value}
theorem EdgeD.grown {r : Option Nat} (h : EdgeD w L t x y) (hg : w.grownBy w' r) (h1 : some L.b ≠ r) (h2 : some t ≠ r) : EdgeD w' L t x y :=
  ⟨(hg.cell_far ⟨L.b, 1, none⟩ h.lb h1).trans h.c1, (hg.cell_far ⟨t, 0, none⟩ h.lt h2).trans h.t0, (hg.cell_far ⟨t, 1, none⟩ h.lt h2).trans h.t1, Nat.lt_of_lt_of_le h.lb hg.size, Nat.lt_of_lt_of_le h.lt hg.size⟩
theorem EdgeC.grown {r : Option Nat} (h : EdgeC w L t x y vx vy) (hg : w.grownBy w' r) (h1 : some L.b ≠ r) (h2 : some t ≠ r) (h3 : some L.bn ≠ r) : EdgeC w' L t x y vx vy :=
  ⟨h.d.grown hg h1 h2, (hg.cell_far ⟨L.bn, x, none⟩ h.ln h3).trans h.cx, (hg.cell_far ⟨L.bn, y, none⟩ h.ln h3).trans h.cy, (hg.frozen_far ⟨L.bn, x, none⟩ h.ln h3).trans h.fx, (hg.frozen_far ⟨L.bn, y, none⟩ h.ln h3).trans h.fy, Nat.lt_of_lt_of_le h.ln hg.size⟩
theorem below_grownN (hb : Below w.heap.size w w') : w.grownBy w' none := ⟨hb.os, hb.tape, hb.output, hb.size, fun k hk _ => hb.block k hk⟩
theorem EdgeC.below (h : EdgeC w L t x y vx vy) (hb : Below w.heap.size w w') : EdgeC w' L t x y vx vy := h.grown (below_grownN hb) (by simp) (by simp) (by simp)
end
end Go.Proofs.YtocdboopmfgkpaaDoor
