/- Step: all nodes take over the newest notices of their neighbours. -/
import Derived.Test.YtocdboopmfgkpaaDoorNetRows
import Derived.Test.YtocdboopmfgkpaaDoorOwn
import Derived.Deep.OwnRows
import Derived.Deep.DeepCutAuto
namespace Go.Proofs.YtocdboopmfgkpaaDoor
open Go.RowKit
set_option linter.unusedSimpArgs false
set_option linter.unusedVariables false

/-- The greatest number that node i or one of its first j neighbours holds. -/
def bestN (D : NetD) (H : Nat → Nat → Int) (i a : Nat) : Nat → Int
  | 0 => H i a
  | j + 1 => if bestN D H i a j < H (D.nbr i j) a then H (D.nbr i j) a else bestN D H i a j
def stepN (D : NetD) (H : Nat → Nat → Int) (i a : Nat) : Int := bestN D H i a (D.deg i)
/-- How many of the first i nodes come to hold something else. -/
def cntN (D : NetD) (H : Nat → Nat → Int) : Nat → Int
  | 0 => 0
  | i + 1 => cntN D H i + if EqNt D.K (stepN D H i) (H i) = true then 0 else 1
theorem cntN_range (D : NetD) (H : Nat → Nat → Int) (i : Nat) : 0 ≤ cntN D H i ∧ cntN D H i ≤ i := by
  induction i with
  | zero => simp [cntN]
  | succ i ih => unfold cntN; split <;> omega
theorem cntN_zero (D : NetD) (H : Nat → Nat → Int) (i : Nat) : cntN D H i = 0 ↔ ∀ x, x < i → ∀ a, a < D.K → stepN D H x a = H x a := by
  induction i with
  | zero => simp [cntN]
  | succ i ih =>
    have hr := cntN_range D H i
    unfold cntN
    constructor
    · intro h x hx
      split at h
      · rename_i he
        by_cases e : x = i
        · subst e; exact (eqNt_iff _ _ _).1 he
        · exact ih.1 (by omega) x (by omega)
      · omega
    · intro h
      have h1 := ih.2 (fun x hx => h x (by omega))
      have h2 : EqNt D.K (stepN D H i) (H i) = true := (eqNt_iff _ _ _).2 (h i (by omega))
      rw [if_pos h2]; omega

/-- The rows that have been made; the list of the rows has its own block. -/
structure NLay (w : World) (B K i : Nat) (v : Value) (rb rc : Nat → Nat) (F : Nat → Nat → Value) : Prop where
  own : w.ownsRow B 59 1 v i ((List.range i).map fun x => .slice (some ⟨rb x, 0, none⟩) K (rc x))
  row : ∀ x, x < i → VRow w (rb x) (K * 4) (F x)
  ne : ∀ x q, x < i → v.ownBlock = some q → rb x ≠ q
  inj : ∀ x, x < i → ∀ y, y < i → x ≠ y → rb x ≠ rb y
  cap : ∀ x, x < i → K ≤ rc x
  lo : ∀ x, x < i → B ≤ rb x
theorem NLay.start (w : World) (B K : Nat) (rb rc : Nat → Nat) (F : Nat → Nat → Value) : NLay w B K 0 (.slice none 0 0) rb rc F :=
  ⟨World.ownsRow_nil _ _ _ _, fun x hx => absurd hx (by omega), fun x q hx => absurd hx (by omega), fun x hx => absurd hx (by omega), fun x hx => absurd hx (by omega), fun x hx => absurd hx (by omega)⟩
theorem NLay.below {w w' : World} {B K i : Nat} {v : Value} {rb rc : Nat → Nat} {F : Nat → Nat → Value} (h : NLay w B K i v rb rc F) (hb : Below w.heap.size w w') : NLay w' B K i v rb rc F := by
  refine ⟨?_, fun x hx => (h.row x hx).below hb, h.ne, h.inj, h.cap, h.lo⟩
  exact h.own.kept (row := none) ⟨hb.os, hb.tape, hb.output, hb.size, fun k hk _ => hb.block k hk⟩ (by cases hv : v.ownBlock <;> simp)
theorem NLay.step {w w' : World} {B K i g gc : Nat} {v v' : Value} {rb rc : Nat → Nat} {F : Nat → Nat → Value} (hL : NLay w B K i v rb rc F) (hrow : VRow w g (K * 4) (F i)) (hgB : B ≤ g)
    (hgne : ∀ q, v.ownBlock = some q → g ≠ q) (hgr : ∀ x, x < i → rb x ≠ g) (hgc : K ≤ gc) (o : Obj) (hown' : w'.ownsRow B 59 1 v' (i + 1) (((List.range i).map fun x => .slice (some ⟨rb x, 0, none⟩) K (rc x)) ++ [.slice (some ⟨g, 0, none⟩) K gc]))
    (hg : (w.alloc o).grownBy w' v.ownBlock) (hat : v'.ownBlock = v.ownBlock ∨ v'.ownBlock = some (w.alloc o).heap.size) :
    NLay w' B K (i + 1) v' (fun x => if x = i then g else rb x) (fun x => if x = i then gc else rc x) F := by
  have up : ∀ {b : Nat} {f : Nat → Value}, VRow w b (K * 4) f → some b ≠ v.ownBlock → VRow w' b (K * 4) f := fun h hne =>
    (h.below ((Below.refl w.heap.size w).alloc (Nat.le_refl _) o)).grown hg hne
  refine ⟨?_, fun x hx => ?_, fun x q hx hq => ?_, fun x hx y hy hxy => ?_, fun x hx => ?_, fun x hx => ?_⟩
  · rw [List.range_succ, List.map_append]
    simp only [List.map_cons, List.map_nil, if_true]
    have e : (List.range i).map (fun x => Value.slice (some ⟨if x = i then g else rb x, 0, none⟩) K (if x = i then gc else rc x)) = (List.range i).map (fun x => Value.slice (some ⟨rb x, 0, none⟩) K (rc x)) := by
      apply List.map_congr_left
      intro x hx
      have : x ≠ i := by have := List.mem_range.1 hx; omega
      simp [this]
    rw [e]
    exact hown'
  · by_cases e : x = i
    · subst e
      simp only [if_true]
      exact up hrow (fun e => hgne _ e.symm rfl)
    · simp only [if_neg e]
      exact up (hL.row x (by omega)) (fun e2 => hL.ne x _ (by omega) e2.symm rfl)
  · by_cases e : x = i
    · simp only [if_pos e]
      rcases hat with h | h
      · rw [h] at hq; exact hgne q hq
      · rw [h] at hq; simp at hq; have := hrow.lt; omega
    · simp only [if_neg e]
      rcases hat with h | h
      · rw [h] at hq; exact hL.ne x q (by omega) hq
      · rw [h] at hq; simp at hq; have := (hL.row x (by omega)).lt; omega
  · by_cases e : x = i
    · by_cases e2 : y = i
      · omega
      · simp only [if_pos e, if_neg e2]; exact fun h => hgr y (by omega) h.symm
    · by_cases e2 : y = i
      · simp only [if_neg e, if_pos e2]; exact hgr x (by omega)
      · simp only [if_neg e, if_neg e2]; exact hL.inj x (by omega) y (by omega) hxy
  · by_cases e : x = i
    · simp only [if_pos e]; exact hgc
    · simp only [if_neg e]; exact hL.cap x (by omega)
  · by_cases e : x = i
    · simp only [if_pos e]; exact hgB
    · simp only [if_neg e]; exact hL.lo x (by omega)

/-- The rows have been made: the network holds them. -/
theorem NetW.turned {D : NetD} {L : NetL} {base : Nat} {w wo : World} {H H' : Nat → Nat → Int} {g gc : Nat} {rb rc : Nat → Nat} (h : NetW D L base w H) (hbase : base ≤ w.heap.size) (hb : Below w.heap.size w wo)
    (hL : NLay wo w.heap.size D.K D.n (.slice (some ⟨g, 0, none⟩) D.n gc) rb rc (fun x => rowF D (H' x))) (hn : 1 ≤ D.n) :
    NetW D { L with bh := g, ch := gc, hb := rb, hc := rc } base (wo.setCell ⟨L.b, 2, none⟩ (.slice (some ⟨g, 0, none⟩) D.n gc)) H' := by
  have N := h.below hb
  have hg := setCell_grown wo L.b 2 (.slice (some ⟨g, 0, none⟩) D.n gc)
  obtain ⟨g1, g2⟩ := hL.own.lt g rfl
  have lb := h.lb
  have lk := h.lk; have ln := h.ln
  have gb : g ≠ L.b := by omega
  have rbb : ∀ i, i < D.n → rb i ≠ L.b := fun i hi => by have := hL.lo i hi; omega
  exact
  { c0 := (World.cell?_setCell_other wo _ _ _ (by intro e; injection e with _ e; omega)).trans N.c0
    c1 := (World.cell?_setCell_other wo _ _ _ (by intro e; injection e with _ e; omega)).trans N.c1
    c2 := World.cell?_setCell_same wo _ _ N.c2
    f2 := by rw [World.frozen?_setCell]; exact N.f2
    key := fun a ha => (hg.cell_far ⟨L.bk, a, none⟩ N.lk (fun e => h.bbk (Option.some.inj e).symm)).trans (N.key a ha)
    near := fun i hi => (hg.cell_far ⟨L.bn, i, none⟩ N.ln (fun e => h.bbn (Option.some.inj e).symm)).trans (N.near i hi)
    nears := fun i hi j hj => (hg.cell_far ⟨L.nb i, j, none⟩ (N.lnb i hi) (fun e => h.bnb i hi (Option.some.inj e).symm)).trans (N.nears i hi j hj)
    held := fun i hi => by
      refine (hg.cell_far ⟨g, i, none⟩ g2 (fun e => gb (Option.some.inj e))).trans ?_
      rw [hL.own.cellAt i (by omega), List.getElem?_map, List.getElem?_range hi]
      rfl
    row := fun i hi => (hL.row i hi).grown hg (fun e => rbb i hi (Option.some.inj e))
    lb := by simpa using N.lb
    lk := by simpa using N.lk
    ln := by simpa using N.ln
    lnb := fun i hi => by simpa using N.lnb i hi
    lh := by simpa using g2
    kk := h.kk
    kn := h.kn
    kh := own_cap hL.own
    kc := fun i hi => hL.cap i hi
    ab := rbb
    ak := fun i hi => by have := hL.lo i hi; show rb i ≠ L.bk; omega
    an := fun i hi => by have := hL.lo i hi; show rb i ≠ L.bn; omega
    ah := fun i hi => hL.ne i g hi rfl
    anb := fun i hi j hj => by have := hL.lo i hi; have := h.lnb j hj; show rb i ≠ L.nb j; omega
    inj := hL.inj
    bbk := h.bbk
    bbn := h.bbn
    bbh := gb.symm
    bnb := h.bnb
    ob := h.ob
    oh := fun i hi => Nat.le_trans hbase (hL.lo i hi) }

def StepPost (D : NetD) (L : NetL) (base : Nat) (H : Nat → Nat → Int) (w : World) (e : Ending) (w' : World) : Prop :=
  ∃ L' : NetL, e = .returned (.int .i64 (cntN D H D.n)) ∧ NetW D L' base w' (stepN D H) ∧ w.grownBy w' (some L.b) ∧ L'.b = L.b ∧ L'.bk = L.bk ∧ L'.bn = L.bn ∧ L'.nb = L.nb ∧ w.heap.size ≤ L'.bh ∧ ∀ i, i < D.n → w.heap.size ≤ L'.hb i
/-- What of a network Step leans on. -/
structure NetOk (D : NetD) : Prop where
  n1 : 1 ≤ D.n
  n12 : D.n ≤ 12
  k1 : 1 ≤ D.K
  k8 : D.K ≤ 8
  d : ∀ i, i < D.n → D.deg i ≤ 80
  nb : ∀ i, i < D.n → ∀ j, j < D.deg i → D.nbr i j < D.n

set_option maxRecDepth 100000 in
set_option maxHeartbeats 16000000 in
theorem step_ok (D : NetD) (L : NetL) (base : Nat) (H : Nat → Nat → Int) (w : World) (hD : NetOk D) (h : NetW D L base w H) (hbase : base ≤ w.heap.size) :
    Calls Tryd.prog 17 #[.pointer (some ⟨L.b, 0, none⟩)] w (StepPost D L base H w) := by
  obtain ⟨iS, hS0, hS1, hS2, hS3⟩ := info_parts Tryd.infoNs
  have n1 := hD.n1; have n12 := hD.n12; have k1 := hD.k1; have k8 := hD.k8
  have c2 := h.c2
  have HD := Lib.hid hD; have HN := Lib.hid h
  clear hD h
  go_enter Tryd.func17, Tryd.ntmps17
  go_wp2_with fail
  go_loopw [3, 4, 17] (fun v c' i' wv => ∃ (i : Nat) (rb rc : Nat → Nat), i ≤ D.n ∧ i' = .int .i64 i ∧ c' = .int .i64 (cntN D H i) ∧ NLay wv w.heap.size D.K i v rb rc (fun x => rowF D (stepN D H x)) ∧ Below w.heap.size w wv) (fun _ _ i' _ => D.n - (intOf i').toNat)
  case atStart => exact ⟨0, fun _ => 0, fun _ => 0, Nat.zero_le _, rfl, rfl, NLay.start _ _ _ _ _ _, Below.refl _ _⟩
  case round =>
    clear c2
    obtain ⟨i, rb, rc, hi, rfl, rfl, hL, hbw⟩ := hrel
    have HL := Lib.hid hL
    obtain ⟨wo, rfl⟩ : ∃ wo : World, wo = wr := ⟨wr, rfl⟩
    have hws := hbw.size
    clear hL
    by_cases hlt : i < D.n
    · have i0 : (0 : Int) ≤ (i : Int) := by omega
      have i1 : (i : Int) < (D.n : Int) := by omega
      have N1 := HN.out.below hbw
      have HN1 := Lib.hid N1
      have c3 := N1.held i hlt
      obtain ⟨q, hq⟩ : ∃ q, q = L.hb i := ⟨_, rfl⟩
      obtain ⟨qc, hqc⟩ : ∃ q, q = L.hc i := ⟨_, rfl⟩
      rw [← hq, ← hqc] at c3
      have hr := N1.row i hlt
      rw [← hq] at hr
      have HR := Lib.hid hr; have HQ := Lib.hid hq; have HQC := Lib.hid hqc
      clear hq hqc hr N1
      go_wp2_with fail
      refine Calls.mono (clone_nt q D.K qc _ _ HR.out (fun j _ => rowF_one _ _ _) k1 k8) ?_
      rintro e w1 ⟨g, gc, rfl, hrow, hg, hgc, hb⟩
      have hs1 := hb.size
      have N2 := HN1.out.below hb
      have e1 := N2.c1
      have e2 := N2.near i hlt
      obtain ⟨qn, hqn⟩ : ∃ q, q = L.nb i := ⟨_, rfl⟩
      obtain ⟨cn, hcn⟩ : ∃ q, q = L.cn i := ⟨_, rfl⟩
      obtain ⟨dg, hdg⟩ : ∃ q, q = D.deg i := ⟨_, rfl⟩
      rw [← hqn, ← hcn, ← hdg] at e2
      have hd80 := HD.out.d i hlt
      rw [← hdg] at hd80
      have HQN := Lib.hid hqn; have HCN := Lib.hid hcn; have HDG := Lib.hid hdg
      have HROW := Lib.hid hrow; have HB1 := Lib.hid hb
      clear hqn hcn hdg N2 hrow hb c3
      go_wp2_with fail
      go_loopw [32] (fun j' wv => ∃ j : Nat, j ≤ dg ∧ j' = .int .i64 j ∧ VRow wv g (D.K * 4) (rowF D (fun a => bestN D H i a j)) ∧ Below wo.heap.size wo wv) (fun j' _ => dg - (intOf j').toNat)
      case atStart => exact ⟨0, Nat.zero_le _, rfl, HROW.out, HB1.out⟩
      case round =>
        clear e1 e2
        obtain ⟨j, hj, rfl, hrow, hb⟩ := hrel
        obtain ⟨wm, rfl⟩ : ∃ wm : World, wm = wr := ⟨wr, rfl⟩
        have HROW2 := Lib.hid hrow; have HB2 := Lib.hid hb
        have N3 := HN1.out.below hb
        have hs2 := hb.size
        clear hrow hb
        by_cases hjd : j < dg
        · have j0 : (0 : Int) ≤ (j : Int) := by omega
          have j1 : (j : Int) < (dg : Int) := by omega
          have j2 : j < D.deg i := by rw [← HDG.out]; exact hjd
          obtain ⟨x, hx⟩ : ∃ x, x = D.nbr i j := ⟨_, rfl⟩
          have e3 := N3.nears i hlt j j2
          rw [← hx, ← HQN.out] at e3
          have hxn : x < D.n := by rw [hx]; exact HD.out.nb i hlt j j2
          have x0 : (0 : Int) ≤ (x : Int) := by omega
          have x1 : (x : Int) < (D.n : Int) := by omega
          have e4 := N3.c2
          have e5 := N3.held x hxn
          have HV := Lib.hid (HN1.out.row x hxn)
          obtain ⟨p, hp⟩ : ∃ q, q = L.hb x := ⟨_, rfl⟩
          obtain ⟨pc, hpc⟩ : ∃ q, q = L.hc x := ⟨_, rfl⟩
          rw [← hp] at HV
          rw [← hp, ← hpc] at e5
          have HX := Lib.hid hx
          clear hx hp hpc N3
          go_wp2_with fail
          go_loopw [44] (fun a' wv => ∃ a : Nat, a ≤ D.K ∧ a' = .int .i64 a ∧ VRow wv g (D.K * 4) (rowF D (fun b => if b < a then bestN D H i b (j + 1) else bestN D H i b j)) ∧ Below wo.heap.size wo wv) (fun a' _ => D.K - (intOf a').toNat)
          case atStart => exact ⟨0, Nat.zero_le _, rfl, HROW2.out.congr (fun _ _ => by simp), HB2.out⟩
          case round =>
            clear e3 e4 e5
            obtain ⟨a, ha, rfl, hrow, hb⟩ := hrel
            by_cases hak : a < D.K
            · have a0 : (0 : Int) ≤ (a : Int) := by omega
              have a1 : (a : Int) < (D.K : Int) := by omega
              have vp := HV.out.below hb
              have x0 := vp.cell (a * 4) (by omega)
              have x1 := vp.cell (a * 4 + 1) (by omega)
              have x2 := vp.cell (a * 4 + 2) (by omega)
              have x3 := vp.cell (a * 4 + 3) (by omega)
              rw [show a * 4 = a * 4 + 0 from rfl, rowF_at _ _ _ _ (by omega)] at x0
              rw [rowF_at _ _ _ _ (by omega)] at x1 x2 x3
              have y0 := hrow.cell (a * 4) (by omega)
              have y1 := hrow.cell (a * 4 + 1) (by omega)
              have y2 := hrow.cell (a * 4 + 2) (by omega)
              have y3 := hrow.cell (a * 4 + 3) (by omega)
              rw [show a * 4 = a * 4 + 0 from rfl, rowF_at _ _ _ _ (by omega), if_neg (Nat.lt_irrefl a)] at y0
              rw [rowF_at _ _ _ _ (by omega), if_neg (Nat.lt_irrefl a)] at y1 y2 y3
              simp only [ntc, ntF] at x0 x1 x2 x3 y0 y1 y2 y3
              simp at x0 x1 x2 x3 y0 y1 y2 y3
              have pl := vp.lt
              have gl := hrow.lt
              clear vp
              obtain ⟨X0, hX0⟩ : ∃ z, z = H x a := ⟨_, rfl⟩
              obtain ⟨Y0, hY0⟩ : ∃ z, z = bestN D H i a j := ⟨_, rfl⟩
              rw [← hX0] at x0 x1 x2 x3
              rw [← hY0] at y0 y1 y2 y3
              obtain ⟨ax, hax⟩ : ∃ v, v = ntA a X0 := ⟨_, rfl⟩
              obtain ⟨tx, htx⟩ : ∃ v, v = ntT D X0 := ⟨_, rfl⟩
              obtain ⟨sx, hsx⟩ : ∃ v, v = ntS D a X0 := ⟨_, rfl⟩
              obtain ⟨ay, hay⟩ : ∃ v, v = ntA a Y0 := ⟨_, rfl⟩
              obtain ⟨ty, hty⟩ : ∃ v, v = ntT D Y0 := ⟨_, rfl⟩
              obtain ⟨sy, hsy⟩ : ∃ v, v = ntS D a Y0 := ⟨_, rfl⟩
              rw [← hax] at x0; rw [← htx] at x2; rw [← hsx] at x3
              rw [← hay] at y0; rw [← hty] at y2; rw [← hsy] at y3
              have hst : X0 = Y0 → tx = ty := fun e => by rw [htx, hty, e]
              have HST := Lib.hid hst
              have hbest : bestN D H i a (j + 1) = if Y0 < X0 then X0 else Y0 := by
                show (if bestN D H i a j < H (D.nbr i j) a then H (D.nbr i j) a else bestN D H i a j) = _
                rw [← hY0, ← HX.out, ← hX0]
              have HBEST := Lib.hid hbest; have HAX := Lib.hid hax; have HTX := Lib.hid htx; have HSX := Lib.hid hsx; have HY0 := Lib.hid hY0
              have HRW := Lib.hid hrow; have HBB := Lib.hid hb
              have hgo : wo.heap.size ≤ g := hg
              have hwo := hb.size
              clear hst hbest hX0 hY0 hax htx hsx hay hty hsy hrow hb
              go_wp2_with fail
              have gA : Below wr.heap.size wr ((wr.alloc (.cells #[.int .i64 ax, .int .i64 X0, .string tx, .int .i64 sx] 23)).drew) := ((Below.refl wr.heap.size wr).alloc (Nat.le_refl _) _).drew
              have HGA := Lib.hid gA
              clear gA
              have NB := NtBox.new wr ax X0 tx sx
              obtain ⟨X, hXX⟩ : ∃ X, X = (wr.alloc (.cells #[.int .i64 ax, .int .i64 X0, .string tx, .int .i64 sx] 23)).drew := ⟨_, rfl⟩
              have NX : NtBox X wr.heap.size ax X0 tx sx := by rw [hXX]; exact NB
              have GA := HGA.out
              rw [← hXX] at GA
              have z0 := NX.c0; have z1 := NX.c1; have z2 := NX.c2; have z3 := NX.c3; have zl := NX.lt
              have u0 := (GA.cell (p := ⟨g, a * 4, none⟩) gl).trans y0
              have u1 := (GA.cell (p := ⟨g, a * 4 + 1, none⟩) gl).trans y1
              have u2 := (GA.cell (p := ⟨g, a * 4 + 2, none⟩) gl).trans y2
              have u3 := (GA.cell (p := ⟨g, a * 4 + 3, none⟩) gl).trans y3
              have ul : g < X.heap.size := Nat.lt_of_lt_of_le gl GA.size
              have HXX := Lib.hid hXX; have Z0 := Lib.hid z0; have Z1 := Lib.hid z1; have Z2 := Lib.hid z2; have Z3 := Lib.hid z3; have ZL := Lib.hid zl
              have U0 := Lib.hid u0; have U1 := Lib.hid u1; have U2 := Lib.hid u2; have U3 := Lib.hid u3; have UL := Lib.hid ul; have HGX := Lib.hid GA
              clear hXX z0 z1 z2 z3 zl u0 u1 u2 u3 ul GA NB NX x0 x1 x2 x3 y0 y1 y2 y3
              go_region_held3 (fun w' => w'.cell? ⟨wr.heap.size, 0, none⟩ = some (.int .i64 ax) ∧ w'.cell? ⟨wr.heap.size, 1, none⟩ = some (.int .i64 X0) ∧ w'.cell? ⟨wr.heap.size, 2, none⟩ = some (.string tx) ∧ w'.cell? ⟨wr.heap.size, 3, none⟩ = some (.int .i64 sx) ∧ w'.cell? ⟨g, a * 4, none⟩ = some (.int .i64 ay) ∧ w'.cell? ⟨g, a * 4 + 1, none⟩ = some (.int .i64 Y0) ∧ w'.cell? ⟨g, a * 4 + 2, none⟩ = some (.string ty) ∧ w'.cell? ⟨g, a * 4 + 3, none⟩ = some (.int .i64 sy) ∧ Below X.heap.size X w')
                (((try dsimp only); repeat' apply And.intro) <;> (first | (with_reducible assumption) | (go_split_ands; (with_reducible assumption)) | (rw [← HXX.out]; (first | exact Below.refl _ _ | exact Z0.out | exact Z1.out | exact Z2.out | exact Z3.out | exact U0.out | exact U1.out | exact U2.out | exact U3.out))))
                (first
                  | (go_at_call 30; refine Calls.mono (newer_num _ _ _ _ _ _ _ _ _ HST.out) ?_; rintro e wq ⟨rfl, hb⟩; (try go_split_ands); have qB : Below X.heap.size X wq := (bX_more (by with_reducible assumption) hb); have m0 := bX_oldc qB ZL.out Z0.out; have m1 := bX_oldc qB ZL.out Z1.out; have m2 := bX_oldc qB ZL.out Z2.out; have m3 := bX_oldc qB ZL.out Z3.out; have m4 := bX_oldc qB UL.out U0.out; have m5 := bX_oldc qB UL.out U1.out; have m6 := bX_oldc qB UL.out U2.out; have m7 := bX_oldc qB UL.out U3.out; clear hb))
              all_goals
                have GQ := HGX.out
                have vX : VRow X g (D.K * 4) (rowF D (fun b => if b < a then bestN D H i b (j + 1) else bestN D H i b j)) := by rw [HXX.out]; exact HRW.out.below HGA.out
                have vq := vX.below qB
                have hbq : Below wo.heap.size wo wq := HBB.out.trans ((GQ.trans (qB.mono GQ.size)).mono hwo)
                have f0 := vq.free (a * 4) (by omega); have f1 := vq.free (a * 4 + 1) (by omega); have f2 := vq.free (a * 4 + 2) (by omega); have f3 := vq.free (a * 4 + 3) (by omega)
                have HVQ := Lib.hid vq
                have ne1 : wr.heap.size ≠ g := by omega
                clear vX vq qB GQ
                by_cases hxy : Y0 < X0
                · have R3 := (HVQ.out.set4 a hak (.int .i64 ax) (.int .i64 X0) (.string tx) (.int .i64 sx)).congr (g := rowF D (fun b => if b < a + 1 then bestN D H i b (j + 1) else bestN D H i b j)) (fun y hy => by
                    show _ = ntc D (y / 4) (if y / 4 < a + 1 then bestN D H i (y / 4) (j + 1) else bestN D H i (y / 4) j) (y % 4)
                    by_cases e : y / 4 = a
                    · rw [if_pos e, e, show (if a < a + 1 then bestN D H i a (j + 1) else bestN D H i a j) = X0 by rw [if_pos (by omega), HBEST.out, if_pos hxy], HAX.out, HTX.out, HSX.out]; exact ntc_if D a X0 _
                    · rw [if_neg e]
                      show ntc D (y / 4) (if y / 4 < a then bestN D H i (y / 4) (j + 1) else bestN D H i (y / 4) j) (y % 4) = _
                      by_cases e2 : y / 4 < a
                      · rw [if_pos e2, if_pos (by omega)]
                      · rw [if_neg e2, if_neg (by omega)])
                  have hbs := (((hbq.setCell (show wo.heap.size ≤ (⟨g, a * 4, none⟩ : Addr).block from hgo) (.int .i64 ax)).setCell (show wo.heap.size ≤ (⟨g, a * 4 + 1, none⟩ : Addr).block from hgo) (.int .i64 X0)).setCell (show wo.heap.size ≤ (⟨g, a * 4 + 2, none⟩ : Addr).block from hgo) (.string tx)).setCell (show wo.heap.size ≤ (⟨g, a * 4 + 3, none⟩ : Addr).block from hgo) (.int .i64 sx)
                  have HR3 := Lib.hid R3; have HBS := Lib.hid hbs
                  clear R3 hbs hbq
                  go_wp2_with fail
                  go_roundw
                  case rel => exact ⟨a + 1, by omega, by go_num, HR3.out, HBS.out⟩
                  case measure => simp [intOf]; omega
                · have R3 := HVQ.out.congr (g := rowF D (fun b => if b < a + 1 then bestN D H i b (j + 1) else bestN D H i b j)) (fun y hy => by
                    show ntc D (y / 4) (if y / 4 < a then bestN D H i (y / 4) (j + 1) else bestN D H i (y / 4) j) (y % 4) = ntc D (y / 4) (if y / 4 < a + 1 then bestN D H i (y / 4) (j + 1) else bestN D H i (y / 4) j) (y % 4)
                    by_cases e : y / 4 = a
                    · rw [e, if_neg (by omega), if_pos (by omega), HBEST.out, if_neg hxy, HY0.out]
                    · by_cases e2 : y / 4 < a
                      · rw [if_pos e2, if_pos (by omega)]
                      · rw [if_neg e2, if_neg (by omega)])
                  have HR3 := Lib.hid R3
                  clear R3
                  go_wp2_with fail
                  go_roundw
                  case rel => exact ⟨a + 1, by omega, by go_num, HR3.out, hbq⟩
                  case measure => simp [intOf]; omega
            · obtain rfl : a = D.K := by omega
              have R2 := hrow.congr (g := rowF D (fun b => bestN D H i b (j + 1))) (fun y hy => by
                show ntc D (y / 4) (if y / 4 < D.K then bestN D H i (y / 4) (j + 1) else bestN D H i (y / 4) j) (y % 4) = _
                rw [if_pos (by omega)]; rfl)
              have HR2 := Lib.hid R2
              clear R2 hrow
              go_wp2_with fail
              go_roundw
              case rel => exact ⟨j + 1, by omega, by go_num, HR2.out, hb⟩
              case measure => simp [intOf]; omega
        · obtain rfl : j = dg := by omega
          have R4 : VRow wm g (D.K * 4) (rowF D (stepN D H i)) := by
            have e : (fun a => bestN D H i a j) = stepN D H i := by funext a; unfold stepN; rw [← HDG.out]
            rw [← e]; exact HROW2.out
          have HR4 := Lib.hid R4
          have HQ4 := Lib.hid (HR.out.below HB2.out)
          clear R4 N3
          go_wp2_with fail
          refine Calls.mono (equal_nt D g q D.K gc qc (stepN D H i) (H i) _ HR4.out HQ4.out k8) ?_
          rintro e w5 ⟨rfl, hb⟩
          have hb5 := HB2.out.trans (hb.mono hs2)
          have HL5 := Lib.hid (HL.out.below hb5)
          have HR5 := Lib.hid (HR4.out.below hb)
          have hs5 := hb5.size
          have hbw5 := hbw.trans (hb5.mono hws)
          have hcr := cntN_range D H i
          obtain ⟨cr0, cr1⟩ := hcr
          obtain ⟨cc, hcc⟩ : ∃ c, c = cntN D H i := ⟨_, rfl⟩
          have hcn : cntN D H (i + 1) = cc + if EqNt D.K (stepN D H i) (H i) = true then 0 else 1 := by rw [hcc]; rfl
          rw [← hcc] at cr0 cr1 ⊢
          obtain ⟨bE, hbE⟩ : ∃ b, b = EqNt D.K (stepN D H i) (H i) := ⟨_, rfl⟩
          rw [← hbE] at hcn ⊢
          have HCN := Lib.hid hcn; have HBW5 := Lib.hid hbw5
          have hcl : cc ≤ 12 := by omega
          have p1 : IntKind.i64.wrap (cc + 1) = cc + 1 := IntWalk.i64_in _ (by omega)
          clear hcc hcn hbE hbw5 hb hb5
          cases bE
          all_goals
            go_wp2_with (at_builtin; refine wpList_append_own_at _ rfl _ _ 56 rfl w.heap.size 59 iS (.slice none 0 0) 1 24 Tryd.underlying56 hS0 hS1 hS2 hS3 rfl (by decide) _ _ _ rfl (HL5.out.own.alloc _) ⟨w5.heap.size, 0, none⟩ 1 1 [.slice (some ⟨g, 0, none⟩) D.K gc] rfl rfl (cells_one) (by simp [Value.oneCell']) (by unfold maxLen; omega) (by omega) (by simp; omega) ?_)
            intro v3 w6 hown3 hgrow3 _ hat3
            have S := HL5.out.step HR5.out (by omega) (fun r hr e => by have := (HL.out.own.lt r hr).2; omega) (fun y hy e => by have := (HL.out.row y hy).lt; omega) hgc _ hown3 hgrow3 (by simpa using hat3)
            have hbw6 := (HBW5.out.alloc HBW5.out.size (.cells #[.slice (some ⟨g, 0, none⟩) D.K gc] 59)).grown hgrow3 (by simp; omega) (fun r hr => (HL5.out.own.lt r hr).1)
            have HSS := Lib.hid S
            clear S hown3 hgrow3 hat3
            go_wp2_with fail
            go_roundw
            case rel => exact ⟨i + 1, _, _, by omega, by go_num, by rw [HCN.out]; simp, HSS.out, hbw6⟩
            case measure => simp [intOf]; omega
    · obtain rfl : i = D.n := by omega
      have N1 := HN.out.below hbw
      obtain ⟨g, gc, hv, hg1, hg2⟩ := HL.out.own.form (by omega)
      subst hv
      have T := HN.out.turned (H' := stepN D H) hbase hbw HL.out n1
      have d2 := N1.c2; have d3 := N1.f2; have d4 := N1.lb
      have hgr : w.grownBy (wo.setCell ⟨L.b, 2, none⟩ (.slice (some ⟨g, 0, none⟩) D.n gc)) (some L.b) := (World.grownBy.mk hbw.os hbw.tape hbw.output hbw.size (fun k hk _ => hbw.block k hk) : w.grownBy wo (some L.b)).trans (setCell_grown wo L.b 2 _)
      have HTT := Lib.hid T; have HGR := Lib.hid hgr
      have hlo := HL.out.lo
      have HLO := Lib.hid hlo
      clear T hgr N1 hlo
      go_wp2_with fail
      go_ret
      exact ⟨_, rfl, HTT.out, HGR.out, rfl, rfl, rfl, rfl, hg1, HLO.out⟩

end Go.Proofs.YtocdboopmfgkpaaDoor
