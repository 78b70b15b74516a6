/- A network as New leaves it: its headers, its neighbours, rows without notices. -/
import Derived.Test.YtocdboopmfgkpaaDoorNearL
namespace Go.Proofs.YtocdboopmfgkpaaDoor
open Go.RowKit
set_option linter.unusedSimpArgs false
set_option linter.unusedVariables false

/-- A row without notices. -/
def zeroF (j : Nat) : Value := ntF 0 0 ⟨#[]⟩ 0 (j % 4)
theorem zeroF_row (D : NetD) (j : Nat) : zeroF j = rowF D (fun _ => 0) j := by
  simp [zeroF, rowF, ntc, ntA, ntT, ntS]

theorem NetW.made {wE wv : World} {B : Nat} {L : NewL} {v : Nat → Value} {lst : Nat → List Nat} {hv : Value} {rb rc : Nat → Nat} (T : ByteArray) (S : Nat → Int → Int)
    (N : NearL wE B L v lst) (hB : B ≤ wE.heap.size) (hne : ∀ i, i < L.n → 0 < (lst i).length) (hn : 1 ≤ L.n) (hg : wE.grownBy wv (some L.b))
    (c0 : wv.cell? ⟨L.b, 0, none⟩ = some (.slice (some ⟨L.bk, 0, none⟩) L.K L.ck)) (c1 : wv.cell? ⟨L.b, 1, none⟩ = some (.slice (some ⟨L.bn, 0, none⟩) L.n L.n))
    (c2 : wv.cell? ⟨L.b, 2, none⟩ = some hv) (f2 : wv.frozen? ⟨L.b, 2, none⟩ = false) (hL : NLay wv wE.heap.size L.K L.n hv rb rc (fun _ => zeroF)) :
    ∃ L' : NetL, L'.b = L.b ∧ NetW ⟨T, S, L.K, L.n, L.keys, fun i => (lst i).length, fun i j => ((lst i)[j]?).getD 0⟩ L' B wv (fun _ _ => 0) := by
  obtain ⟨g, gc, rfl, _, _⟩ := hL.own.form (by omega)
  obtain ⟨g1, g2⟩ := hL.own.lt g rfl
  have hex : ∀ i, ∃ p : Nat × Nat, i < L.n → v i = .slice (some ⟨p.1, 0, none⟩) (lst i).length p.2 := fun i => by
    by_cases hi : i < L.n
    · obtain ⟨q, qc, h1, _, _⟩ := (N.own i hi).form (hne i hi)
      exact ⟨(q, qc), fun _ => h1⟩
    · exact ⟨(0, 0), fun h => absurd h hi⟩
  obtain ⟨f, hf⟩ : ∃ f : Nat → Nat × Nat, ∀ i, i < L.n → v i = .slice (some ⟨(f i).1, 0, none⟩) (lst i).length (f i).2 := ⟨fun i => Classical.choose (hex i), fun i => Classical.choose_spec (hex i)⟩
  have hown : ∀ i, i < L.n → wE.ownsRow B 3 1 (.slice (some ⟨(f i).1, 0, none⟩) (lst i).length (f i).2) (lst i).length (natsV (lst i)) := fun i hi => by rw [← hf i hi]; exact N.own i hi
  have hfar : ∀ i, i < L.n → (f i).1 ≠ L.b ∧ (f i).1 ≠ L.bk ∧ (f i).1 ≠ L.bn := fun i hi => N.far i hi _ (by rw [hf i hi]; rfl)
  have hlt : ∀ i, i < L.n → (f i).1 < wE.heap.size := fun i hi => ((hown i hi).lt _ rfl).2
  have s := hg.size
  have lb := N.lb; have lk := N.lk; have ln := N.hdr.lt
  refine ⟨⟨L.b, L.bk, L.ck, L.bn, fun i => (f i).1, fun i => (f i).2, g, gc, rb, rc⟩, rfl, ?_⟩
  exact
  { c0 := c0
    c1 := c1
    c2 := c2
    f2 := f2
    key := fun a ha => (hg.cell_far ⟨L.bk, a, none⟩ lk (fun e => N.bbk (Option.some.inj e).symm)).trans (N.key a ha)
    near := fun i hi => by
      refine (hg.cell_far ⟨L.bn, i, none⟩ ln (fun e => N.bbn (Option.some.inj e).symm)).trans ?_
      rw [N.hdr.cell i hi, hf i hi]
    nears := fun i hi j hj => by
      refine (hg.cell_far ⟨(f i).1, j, none⟩ (hlt i hi) (fun e => (hfar i hi).1 (Option.some.inj e))).trans ?_
      rw [(hown i hi).cellAt j (by simpa using hj)]
      have hj' : j < (lst i).length := hj
      simp [natsV, hj']
    held := fun i hi => by
      show wv.cell? ⟨g, i, none⟩ = _
      rw [hL.own.cellAt i (by show i < L.n * 1; have : i < L.n := hi; omega), List.getElem?_map, List.getElem?_range hi]
      rfl
    row := fun i hi => (hL.row i hi).congr (fun j _ => zeroF_row _ j)
    lb := by show L.b < _; omega
    lk := by show L.bk < _; omega
    ln := by show L.bn < _; omega
    lnb := fun i hi => by have := hlt i hi; show (f i).1 < _; omega
    lh := g2
    kk := N.kk
    kn := fun i hi => own_cap (hown i hi)
    kh := own_cap hL.own
    kc := fun i hi => hL.cap i hi
    ab := fun i hi => by have := hL.lo i hi; show rb i ≠ L.b; omega
    ak := fun i hi => by have := hL.lo i hi; show rb i ≠ L.bk; omega
    an := fun i hi => by have := hL.lo i hi; show rb i ≠ L.bn; omega
    ah := fun i hi => hL.ne i g hi rfl
    anb := fun i hi j hj => by have := hL.lo i hi; have := hlt j hj; show rb i ≠ (f j).1; omega
    inj := hL.inj
    bbk := N.bbk
    bbn := N.bbn
    bbh := by show L.b ≠ g; omega
    bnb := fun j hj => (hfar j hj).1.symm
    ob := N.ob
    oh := fun i hi => Nat.le_trans hB (hL.lo i hi) }
end Go.Proofs.YtocdboopmfgkpaaDoor
