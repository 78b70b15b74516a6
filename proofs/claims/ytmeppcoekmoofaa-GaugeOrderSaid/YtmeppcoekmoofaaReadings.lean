/- Slices of slices of integers that came in; the contract of readings. -/
import Derived.Test.YtmeppcoekmoofaaResid
namespace Go.Proofs.Ytmeppcoekmoofaa
open Go.RowKit Go.ChangeShapes Go.WideShapes Go.ChangeAt Go.Deep
set_option linter.unusedSimpArgs false
set_option linter.unusedVariables false

section
variable {H : Type} {enc : TypeId × Value → H} {P : Program} {w : World} {base : Nat} {spare : Nat → Bool} {held : Bool}
/-- A slice of elements of integers, by its cells. -/
theorem flat_cells {t e : TypeId} {sz fuel : Nat} {cs : List Value} {d : DataW H × List MemPlace} (ht : P.underlying t = some (.slice e)) (hF : Flat P e) (hsz : P.cellsOf e = sz) (h0 : 0 < sz)
    (hf : DataW.trod enc P w base (fun _ => true) held fuel t cs = some d) : ∃ a n cap zs, cs = [.slice a n cap] ∧ FlatSl w sz a n cap zs := by
  subst hsz
  rcases open_slice ht hf with ⟨hcs, _⟩ | ⟨x, l, c, m, k, D, Pl, hcs, _, hl, hm, hmm, _, hx⟩
  · exact ⟨none, 0, 0, [], hcs, by omega, by simp [maxLen], by simp, fun h => absurd h (by omega)⟩
  · simp only [if_true] at hmm
    subst hmm
    have key : ∀ j, j < l * P.cellsOf e → ∃ z, w.cell? (x.add j) = some (.int .i64 z) := by
      intro j hj
      have hi : j / P.cellsOf e < l := by rw [Nat.div_lt_iff_lt_mul h0]; omega
      obtain ⟨cs', h1, h2⟩ := hx (j / P.cellsOf e) (by omega)
      obtain ⟨_, hcl, hat⟩ := World.cells?_some h1
      obtain ⟨_, hz⟩ := hF H enc w base (fun _ => true) held _ _ _ h2
      have hmod := Nat.div_add_mod j (P.cellsOf e)
      have hlt := Nat.mod_lt j h0
      obtain ⟨z, hz⟩ := hz (j % P.cellsOf e) (by omega)
      refine ⟨z, ?_⟩
      have := hat (j % P.cellsOf e) hlt
      rw [Go.Deep.add_add, hz, show j / P.cellsOf e * P.cellsOf e + j % P.cellsOf e = j by rw [Nat.mul_comm]; exact hmod] at this
      exact this
    obtain ⟨f, hf⟩ := choose_lt key
    refine ⟨some x, l, m, (List.range (l * P.cellsOf e)).map f, hcs, hl, hm, by simp, fun hn => ?_⟩
    have h00 := hf 0 (Nat.mul_pos hn h0)
    obtain ⟨b, off, spot⟩ := x
    have hspot : spot = none := by simpa [Addr.add] using World.cell?_spot h00
    subst hspot
    refine ⟨b, off, rfl, fun j hj => ?_⟩
    have := hf j hj
    rw [add_plain] at this
    rw [this]
    simp [ix, List.getD, hj]

/-- A slice of slices of integers that came in: n rows, row i of rn i numbers. -/
structure SlSl (w : World) (A : Option Addr) (n cap : Nat) (ra : Nat → Option Addr) (rn rcp : Nat → Nat) (Z : Nat → List Int) : Prop where
  le : n ≤ cap
  most : cap ≤ maxLen
  at' : 0 < n → ∃ b off, A = some ⟨b, off, none⟩ ∧ ∀ i, i < n → w.cell? ⟨b, off + i, none⟩ = some (.slice (ra i) (rn i) (rcp i))
  row : ∀ i, i < n → FlatSl w 1 (ra i) (rn i) (rcp i) (Z i)

theorem open_slsl {t e e2 : TypeId} {a : Option Addr} {n cap : Nat} {d : DataW H} {p : List MemPlace} (ht : P.underlying t = some (.slice e)) (he : P.underlying e = some (.slice e2)) (hF : Flat P e2) (hsz : P.cellsOf e2 = 1) (hce : P.cellsOf e = 1)
    (h : DataW.Trod enc P w base (fun _ => true) held t (.slice a n cap) d p) : ∃ ra rn rcp Z, SlSl w a n cap ra rn rcp Z := by
  obtain ⟨fuel, hf⟩ := h
  rcases open_slice ht hf with ⟨hcs, _⟩ | ⟨x, l, c, m, k, D, Pl, hcs, _, hl, hm, hmm, _, hx⟩
  · simp [Value.cells] at hcs
    obtain ⟨rfl, rfl, rfl⟩ := hcs
    exact ⟨fun _ => none, fun _ => 0, fun _ => 0, fun _ => [], by omega, by simp [maxLen], fun h => absurd h (by omega), fun i hi => absurd hi (by omega)⟩
  · simp [Value.cells] at hcs
    obtain ⟨rfl, rfl, rfl⟩ := hcs
    simp only [if_true] at hmm
    subst hmm
    have key : ∀ i, i < n → ∃ r : Option Addr × Nat × Nat × List Int, w.cell? (x.add i) = some (.slice r.1 r.2.1 r.2.2.1) ∧ FlatSl w 1 r.1 r.2.1 r.2.2.1 r.2.2.2 := by
      intro i hi
      obtain ⟨cs', h1, h2⟩ := hx i (by omega)
      obtain ⟨a', n', cap', zs', hc', hfl⟩ := flat_cells he hF hsz (by omega) h2
      obtain ⟨_, hcl, hat⟩ := World.cells?_some h1
      have := hat 0 (by omega)
      rw [hce, Nat.mul_one, hc'] at this
      refine ⟨(a', n', cap', zs'), ?_, hfl⟩
      simpa [Addr.add] using this
    obtain ⟨f, hf⟩ := choose_lt key
    refine ⟨fun i => (f i).1, fun i => (f i).2.1, fun i => (f i).2.2.1, fun i => (f i).2.2.2, hl, hm, fun hn => ?_, fun i hi => (hf i hi).2⟩
    have h00 := (hf 0 hn).1
    obtain ⟨b, off, spot⟩ := x
    have hspot : spot = none := by simpa [Addr.add] using World.cell?_spot h00
    subst hspot
    refine ⟨b, off, rfl, fun j hj => ?_⟩
    have := (hf j hj).1
    rw [add_plain] at this
    exact this
end

theorem SlSl.below {w w' : World} {A : Option Addr} {n cap : Nat} {ra : Nat → Option Addr} {rn rcp : Nat → Nat} {Z : Nat → List Int} (h : SlSl w A n cap ra rn rcp Z) (hb : Below w.heap.size w w') : SlSl w' A n cap ra rn rcp Z := by
  refine ⟨h.le, h.most, fun hn => ?_, fun i hi => (h.row i hi).keep (by omega) hb⟩
  obtain ⟨b, off, rfl, hc⟩ := h.at' hn
  have hlt := World.block_lt_of_cell? w _ (hc 0 hn)
  exact ⟨b, off, rfl, fun i hi => (hb.cell (p := ⟨b, off + i, none⟩) hlt).trans (hc i hi)⟩

/-- The readings that the laws make of what comes in. -/
def rdR (rn : Nat → Nat) (Z : Nat → List Int) : Gm := fun i c => if c < rn i then (ix (Z i) c).tmod 11 else 0
theorem rdR_bound (rn : Nat → Nat) (Z : Nat → List Int) (i c : Nat) : -10 ≤ rdR rn Z i c ∧ rdR rn Z i c ≤ 10 := by
  unfold rdR
  split
  · have h1 := Int.lt_tmod_of_pos (ix (Z i) c) (show 0 < 11 by omega)
    have h2 := Int.tmod_lt_of_pos (ix (Z i) c) (show 0 < 11 by omega)
    omega
  · omega
def ReadPost (k q : Nat) (R : Gm) (w : World) (e : Ending) (w' : World) : Prop :=
  ∃ v rb rc, e = .returned v ∧ GLay w' w.heap.size k q v rb rc R ∧ Below w.heap.size w w'

set_option maxRecDepth 100000 in
set_option maxHeartbeats 8000000 in
theorem readings_ok (A : Option Addr) (n cap k : Nat) (ra : Nat → Option Addr) (rn rcp : Nat → Nat) (Z : Nat → List Int) (w : World) (h : SlSl w A n cap ra rn rcp Z) (k1 : 1 ≤ k) (k3 : k ≤ 3) :
    Calls Try.prog 27 #[.slice A n cap, .int .i64 k] w (ReadPost k (min n 6) (rdR rn Z) w) := by
  obtain ⟨iR, hR0, hR1, hR2, hR3⟩ := info_parts Try.infoGr
  have mk := mk_ints k (by omega)
  have hle := h.le
  have hm : n ≤ 9223372036854775807 := by have := h.most; unfold maxLen at this; omega
  have hat := h.at'
  have HS := Lib.hid h
  have q3 : (k : Int) ≤ 3 := by omega
  clear h
  go_enter Try.func27, Try.ntmps27
  go_wp2_with fail
  go_loopw [5, 12] (fun v i' wv => ∃ (i : Nat) (rb rc : Nat → Nat), i ≤ n ∧ i ≤ 6 ∧ i' = .int .i64 i ∧ GLay wv w.heap.size k i v rb rc (rdR rn Z) ∧ Below w.heap.size w wv) (fun _ i' _ => n - (intOf i').toNat)
  case atStart => exact ⟨0, fun _ => 0, fun _ => 0, by omega, by omega, rfl, GLay.start _ _ _ _ _ _, Below.refl _ _⟩
  case round =>
    obtain ⟨i, rb, rc, hi, hi6, rfl, hL, hbw⟩ := hrel
    have hbs := hbw.size
    have HL := Lib.hid hL; clear hL
    by_cases hlt : i < n
    · obtain ⟨b, off, rfl, hcell⟩ := hat (by omega)
      have hbl := World.block_lt_of_cell? w _ (hcell 0 (by omega))
      simp at hbl
      have c0 := (hbw.cell (p := ⟨b, off + i, none⟩) hbl).trans (hcell i hlt)
      have hbr : b < wr.heap.size := by omega
      clear hcell hat
      by_cases h6 : i = 6
      · subst h6
        go_wp2_with fail
        go_returns
        refine ⟨_, rb, rc, rfl, ?_, hbw⟩
        rw [show min n 6 = 6 by omega]
        exact HL.out
      · have q1 : ((i : Int) == 6) = false := by simp; omega
        have hrow := HS.out.row i hlt
        obtain ⟨rA, hrA⟩ : ∃ x, x = ra i := ⟨_, rfl⟩
        obtain ⟨rN, hrN⟩ : ∃ x, x = rn i := ⟨_, rfl⟩
        obtain ⟨rC, hrC⟩ : ∃ x, x = rcp i := ⟨_, rfl⟩
        rw [← hrA, ← hrN, ← hrC] at hrow c0
        have hrm : rN ≤ 9223372036854775807 := by have h1 := hrow.most; have h2 := hrow.le; unfold maxLen at h1; omega
        have hrle := hrow.le
        have HROW := Lib.hid hrow; have HRN := Lib.hid hrN
        clear hrA hrN hrC hrow
        go_wp2_with fail
        have hrowA := World.rowIs_made wr (.int .i64 0) k 3
        have hbw1 := hbw.alloc hbs (.cells (madeCells #[.int .i64 0] k) 3)
        obtain ⟨g, hg⟩ : ∃ g, g = wr.heap.size := ⟨_, rfl⟩
        obtain ⟨wo, hwo⟩ : ∃ wo, wo = wr := ⟨_, rfl⟩
        rw [← hg] at hrowA
        rw [← hg]
        rw [← hwo] at HL
        have hfar : Hid (∀ b, b < wo.heap.size → (wr.alloc (.cells (madeCells #[.int .i64 0] k) 3)).heap[b]? = wo.heap[b]?) := Lib.hid (by rw [hwo]; exact fun b hb => Below.heap_alloc wr _ b hb)
        have hgo : g = wo.heap.size := by rw [hg, hwo]
        have HGO := Lib.hid hgo
        have hwg : w.heap.size ≤ g := by omega
        have hst : Hid (wo.heap.size ≤ (wr.alloc (.cells (madeCells #[.int .i64 0] k) 3)).heap.size) := Lib.hid (by rw [hwo]; simp)
        clear hg hwo hgo hbs hbw
        go_loopw [23] (fun c' wv => ∃ c : Nat, c ≤ k ∧ c' = .int .i64 c ∧ wv.rowIs g 3 k (fun j => .int .i64 (if j < c then rdR rn Z i j else 0)) ∧ Below w.heap.size w wv ∧ Hid (∀ b, b < wo.heap.size → wv.heap[b]? = wo.heap[b]?) ∧ Hid (wo.heap.size ≤ wv.heap.size)) (fun c' _ => k - (intOf c').toNat)
        case atStart => exact ⟨0, by omega, rfl, hrowA.congr (fun j hj => by simp), hbw1, hfar, hst⟩
        case round =>
          clear hrowA hbw1 hfar hst
          obtain ⟨c, hc, rfl, hrw, hbw, hfar, hst⟩ := hrel
          have l0 := hrw.lt
          by_cases hck : c < k
          · have z0 : (0 : Int) ≤ (c : Int) := by omega
            have z1 : (c : Int) < (k : Int) := by omega
            by_cases hcn : c < rN
            · obtain ⟨ab, ao, rfl, hce⟩ := HROW.out.at' (by omega)
              have hab := World.block_lt_of_cell? w _ (hce 0 (by omega))
              simp at hab
              have x0 := (hbw.cell (p := ⟨ab, ao + c, none⟩) hab).trans (hce c (by omega))
              have z2 : (c : Int) < (rN : Int) := by omega
              have x1 := hrw.cell hck
              rw [if_neg (by omega)] at x1
              have x2 := hrw.frozen c
              have hab2 : ab < wr.heap.size := by have := hbw.size; omega
              obtain ⟨y, hy⟩ : ∃ y, y = ix (Z i) c := ⟨_, rfl⟩
              rw [← hy] at x0
              have hyv : Hid (y.tmod 11 = rdR rn Z i c) := Lib.hid (by rw [hy]; unfold rdR; rw [if_pos (by rw [← HRN.out]; exact hcn)])
              have R1 := (hrw.set c (.int .i64 (y.tmod 11))).congr (g := fun j => .int .i64 (if j < c + 1 then rdR rn Z i j else 0)) (fun j hj => by
                by_cases e : j = c
                · subst e; rw [if_pos rfl, if_pos (by omega), hyv.out]
                · rw [if_neg e]
                  by_cases e2 : j < c
                  · rw [if_pos e2, if_pos (by omega)]
                  · rw [if_neg e2, if_neg (by omega)])
              have hbw2 := hbw.setCell (show w.heap.size ≤ (⟨g, c, none⟩ : Addr).block by show w.heap.size ≤ g; omega) (.int .i64 (y.tmod 11))
              have hfar2 : Hid (∀ b, b < wo.heap.size → (wr.setCell ⟨g, c, none⟩ (.int .i64 (y.tmod 11))).heap[b]? = wo.heap[b]?) := Lib.hid (fun b hb => by
                rw [Go.Deep.blk_setCell_other _ _ _ _ (show b ≠ g by have := HGO.out; omega)]
                exact hfar.out b hb)
              have hst2 : Hid (wo.heap.size ≤ (wr.setCell ⟨g, c, none⟩ (.int .i64 (y.tmod 11))).heap.size) := Lib.hid (by simpa using hst.out)
              have HR1 := Lib.hid R1
              clear hce hrw hbw hfar hst hy R1
              go_wp2_with fail
              go_roundw
              case rel => exact ⟨c + 1, by omega, by go_num, HR1.out, hbw2, hfar2, hst2⟩
              case measure => simp [intOf]; omega
            · have z2 : ¬ (c : Int) < (rN : Int) := by omega
              have R1 := hrw.congr (g := fun j => .int .i64 (if j < c + 1 then rdR rn Z i j else 0)) (fun j hj => by
                by_cases e : j = c
                · subst e
                  rw [if_neg (by omega), if_pos (by omega)]
                  unfold rdR
                  rw [if_neg (by rw [← HRN.out]; exact hcn)]
                · by_cases e2 : j < c
                  · rw [if_pos e2, if_pos (by omega)]
                  · rw [if_neg e2, if_neg (by omega)])
              have HR1 := Lib.hid R1
              clear hrw R1
              go_wp2_with fail
              go_roundw
              case rel => exact ⟨c + 1, by omega, by go_num, HR1.out, hbw, hfar, hst⟩
              case measure => simp [intOf]; omega
          · obtain rfl : c = k := by omega
            have hLr := HL.out.above hst.out hfar.out HL.out.ltR (fun q hq => (HL.out.own.lt q hq).2)
            have HLR := Lib.hid hLr
            have hrowc : ∀ j, j < c → wr.cell? ⟨g, j, none⟩ = some (.int .i64 (rdR rn Z i j)) := fun j hj => by
              have := hrw.cell hj
              rwa [if_pos hj] at this
            have HRC := Lib.hid hrowc
            have hsz := hbw.size
            clear hLr hrowc hrw
            go_wp2_with (at_builtin; refine wpList_append_own_at _ rfl _ _ 50 rfl w.heap.size 22 iR (.slice none 0 0) 1 24 Try.underlying50 hR0 hR1 hR2 hR3 rfl (by decide) _ _ _ rfl (HLR.out.own.alloc _) ⟨wr.heap.size, 0, none⟩ 1 1 [.slice (some ⟨g, 0, none⟩) c c] rfl rfl ?d1 ?d2 ?d3 ?d4 ?d5 ?_)
            case d1 => exact cells_one
            case d2 => simp [Value.oneCell']
            case d3 => unfold maxLen; omega
            case d4 => omega
            case d5 => simp; omega
            · intro v3 w3 hown3 hgrow3 _ hat3
              have S := HLR.out.step HRC.out l0 (fun q hq e => by have := (HL.out.own.lt q hq).2; have := HGO.out; omega) (Nat.le_refl _) _ hown3 hgrow3 (by simpa using hat3)
              have hbw4 := (hbw.alloc hsz (.cells #[.slice (some ⟨g, 0, none⟩) c c] 22)).grown hgrow3 (by simp; omega) (fun q hq => (HLR.out.own.lt q hq).1)
              have HSS := Lib.hid S
              clear S hown3 hgrow3 hat3 hbw
              go_wp2_with fail
              go_roundw
              case rel => exact ⟨i + 1, _, _, by omega, by omega, by go_num, HSS.out, hbw4⟩
              case measure => simp [intOf]; omega
    · obtain rfl : i = n := by omega
      go_wp2_with fail
      go_returns
      refine ⟨_, rb, rc, rfl, ?_, hbw⟩
      rw [show min i 6 = i by omega]
      exact HL.out

end Go.Proofs.Ytmeppcoekmoofaa
