/- The contract of chron.Tightest. -/
import Derived.Test.YtmeppcoekmoofaaFar
import Derived.Test.YtmeppcoekmoofaaAppend
import Derived.Deep.RegionHeld3
namespace Go.Proofs.Ytmeppcoekmoofaa
open Go.RowKit
set_option linter.unusedSimpArgs false
set_option linter.unusedVariables false

/-- Row i of the tightest intervals, in block b. -/
def TRow (w : World) (b n i : Nat) (D : Mx) : Prop := ∀ j, j < n → w.cell? ⟨b, j * 2, none⟩ = some (.int .i64 (-D j i)) ∧ w.cell? ⟨b, j * 2 + 1, none⟩ = some (.int .i64 (D i j))
/-- The tightest intervals in memory. -/
structure TMat (w : World) (ob n : Nat) (rb rc : Nat → Nat) (D : Mx) : Prop where
  out : ∀ i, i < n → w.cell? ⟨ob, i, none⟩ = some (.slice (some ⟨rb i, 0, none⟩) n (rc i))
  row : ∀ i, i < n → TRow w (rb i) n i D
  lt : ob < w.heap.size
  ltR : ∀ i, i < n → rb i < w.heap.size

theorem TMat.below {w w' : World} {ob n : Nat} {rb rc : Nat → Nat} {D : Mx} (h : TMat w ob n rb rc D) (hb : Below w.heap.size w w') : TMat w' ob n rb rc D :=
  ⟨fun i hi => (hb.cell (p := ⟨ob, i, none⟩) h.lt).trans (h.out i hi), fun i hi j hj => ⟨(hb.cell (p := ⟨rb i, j * 2, none⟩) (h.ltR i hi)).trans (h.row i hi j hj).1, (hb.cell (p := ⟨rb i, j * 2 + 1, none⟩) (h.ltR i hi)).trans (h.row i hi j hj).2⟩,
    Nat.lt_of_lt_of_le h.lt hb.size, fun i hi => Nat.lt_of_lt_of_le (h.ltR i hi) hb.size⟩

/-- What Tightest tells: the intervals, a contradiction, or what Check tells. -/
def TightPost (n : Int) (l : List Bd) (w : World) (e : Ending) (w' : World) : Prop :=
  Below w.heap.size w w' ∧ ((∃ N : Nat, n = N ∧ ChronOk N l ∧ Free N l ∧ ∃ ob cap rb rc, e = .returned (.tuple #[.slice (some ⟨ob, 0, none⟩) N cap, .int .i64 0]) ∧ N ≤ cap ∧ TMat w' ob N rb rc (fin N l)) ∨
    (∃ N : Nat, n = N ∧ ChronOk N l ∧ ¬ Free N l ∧ e = .returned (.tuple #[.slice none 0 0, .int .i64 10])) ∨
    (chronChk n l ≠ 0 ∧ e = .returned (.tuple #[.slice none 0 0, .int .i64 (chronChk n l)])))

/-- The first i rows have been laid; the list of the rows has its own block. -/
structure TLay (w : World) (B n i : Nat) (v : Value) (rb rc : Nat → Nat) (D : Mx) : Prop where
  own : w.ownsRow B 33 1 v i ((List.range i).map fun x => .slice (some ⟨rb x, 0, none⟩) n (rc x))
  row : ∀ x, x < i → TRow w (rb x) n x D
  ltR : ∀ x, x < i → rb x < w.heap.size
  ne : ∀ x q, x < i → v.ownBlock = some q → rb x ≠ q

/-- While row i is being laid: the rows before it, the list, and the matrix stand. -/
structure RLay (w : World) (O B Bi n i : Nat) (v : Value) (rb rc : Nat → Nat) (D : Mx) : Prop where
  t : TLay w B n i v rb rc D
  rb : ∀ x, x < i → rb x < Bi
  ob : ∀ q, v.ownBlock = some q → q < Bi
  mat : Mat w O n D
  low : ∀ x, x < n → O + 1 + x < Bi
  lowO : O < Bi

theorem RLay.grown {w w' : World} {O B Bi n i : Nat} {v : Value} {rb rc : Nat → Nat} {D : Mx} {row : Option Nat} (h : RLay w O B Bi n i v rb rc D) (hg : w.grownBy w' row) (hr : ∀ q, row = some q → Bi ≤ q) : RLay w' O B Bi n i v rb rc D := by
  have hne : ∀ q, q < Bi → some q ≠ row := fun q hq e => by have := hr q e.symm; omega
  refine ⟨⟨?_, fun x hx j hj => ?_, fun x hx => Nat.lt_of_lt_of_le (h.t.ltR x hx) hg.size, h.t.ne⟩, h.rb, h.ob, ?_, h.low, h.lowO⟩
  · apply h.t.own.kept hg
    cases hv : v.ownBlock with
    | none => exact Or.inl rfl
    | some q => exact Or.inr (hne q (h.ob q hv))
  · have := h.t.row x hx j hj
    have hb := hg.block (rb x) (h.t.ltR x hx) (hne _ (h.rb x hx))
    exact ⟨(World.cell?_of_block (w := w) hb).trans this.1, (World.cell?_of_block (w := w) hb).trans this.2⟩
  · exact ⟨h.mat.out.of_block (hg.block _ h.mat.out.lt (hne _ h.lowO)), fun x hx => (h.mat.row x hx).of_block (hg.block _ (h.mat.row x hx).lt (hne _ (h.low x hx)))⟩
theorem grown_drew (w : World) (row : Option Nat) : w.grownBy w.drew row := ⟨rfl, rfl, rfl, Nat.le_refl _, fun _ _ _ => rfl⟩
theorem RLay.alloc {w : World} {O B Bi n i : Nat} {v : Value} {rb rc : Nat → Nat} {D : Mx} (h : RLay w O B Bi n i v rb rc D) (o : Obj) : RLay (w.alloc o) O B Bi n i v rb rc D := h.grown (World.grownBy_alloc w o none) (fun q hq => by cases hq)
theorem RLay.drew {w : World} {O B Bi n i : Nat} {v : Value} {rb rc : Nat → Nat} {D : Mx} (h : RLay w O B Bi n i v rb rc D) : RLay w.drew O B Bi n i v rb rc D := h.grown (grown_drew w none) (fun q hq => by cases hq)

def rowNums (D : Mx) (i : Nat) : Nat → List Int
  | 0 => []
  | j + 1 => rowNums D i j ++ [-D j i, D i j]

theorem rowNums_len (D : Mx) (i k : Nat) : (rowNums D i k).length = k * 2 := by
  induction k with
  | zero => rfl
  | succ k ih => simp [rowNums, ih]; omega
theorem rowNums_at (D : Mx) (i m j : Nat) (h : j < m) : (rowNums D i m)[j * 2]? = some (-D j i) ∧ (rowNums D i m)[j * 2 + 1]? = some (D i j) := by
  induction m with
  | zero => omega
  | succ m ih =>
    have hl := rowNums_len D i m
    simp only [rowNums]
    rcases Nat.lt_or_eq_of_le (Nat.le_of_lt_succ h) with h1 | rfl
    · rw [List.getElem?_append_left (by omega), List.getElem?_append_left (by omega)]
      exact ih h1
    · rw [List.getElem?_append_right (by omega), List.getElem?_append_right (by omega), hl]
      simp
theorem own_trow {w : World} {Bi n i g gc : Nat} {D : Mx} (h : w.ownsRow Bi 35 2 (.slice (some ⟨g, 0, none⟩) n gc) n ((rowNums D i n).map (Value.int .i64))) : TRow w g n i D := by
  intro j hj
  have h1 := rowNums_at D i n j hj
  constructor
  · rw [h.cellAt (j * 2) (by omega), List.getElem?_map, h1.1]; rfl
  · rw [h.cellAt (j * 2 + 1) (by omega), List.getElem?_map, h1.2]; rfl

theorem TLay.step {w w' : World} {O B Bi n i g gc : Nat} {v v' : Value} {rb rc : Nat → Nat} {D : Mx} (hL : RLay w O B Bi n i v rb rc D) (hrow : w.ownsRow Bi 35 2 (.slice (some ⟨g, 0, none⟩) n gc) n ((rowNums D i n).map (Value.int .i64)))
    (hg1 : Bi ≤ g) (hg2 : g < w.heap.size) (o : Obj) (hown' : w'.ownsRow B 33 1 v' (i + 1) (((List.range i).map fun x => .slice (some ⟨rb x, 0, none⟩) n (rc x)) ++ [.slice (some ⟨g, 0, none⟩) n gc]))
    (hg : (w.alloc o).grownBy w' v.ownBlock) (hat : v'.ownBlock = v.ownBlock ∨ v'.ownBlock = some (w.alloc o).heap.size) (hB1 : ∀ x, x < n → O + 1 + x < B) (hB0 : O < B) :
    TLay w' B n (i + 1) v' (fun x => if x = i then g else rb x) (fun x => if x = i then gc else rc x) D ∧ Mat w' O n D := by
  have hLa := hL.alloc o
  have keep : ∀ b, b < w.heap.size → (∀ q, v.ownBlock = some q → b ≠ q) → w'.heap[b]? = w.heap[b]? := fun b hb hne => by
    have h1 := hg.block b (by simp; omega) (fun e => hne b e.symm rfl)
    rw [h1]
    exact Below.heap_alloc w o b hb
  have low : ∀ b, b < B → ∀ q, v.ownBlock = some q → b ≠ q := fun b hb q hq e => by have := (hL.t.own.lt q hq).1; omega
  have trow : ∀ b y, b < w.heap.size → (∀ q, v.ownBlock = some q → b ≠ q) → TRow w b n y D → TRow w' b n y D := fun b y hb hne h j hj =>
    ⟨(World.cell?_of_block (w := w) (keep b hb hne)).trans (h j hj).1, (World.cell?_of_block (w := w) (keep b hb hne)).trans (h j hj).2⟩
  have hgne : ∀ q, v.ownBlock = some q → g ≠ q := fun q hq e => by have := hL.ob q hq; omega
  refine ⟨⟨?_, fun x hx => ?_, fun x hx => ?_, fun x q hx hq => ?_⟩, ?_⟩
  · rw [List.range_succ, List.map_append]
    simp only [List.map_cons, List.map_nil, if_true]
    have e : (List.range i).map (fun x => Value.slice (some ⟨if x = i then g else rb x, 0, none⟩) n (if x = i then gc else rc x)) = (List.range i).map (fun x => Value.slice (some ⟨rb x, 0, none⟩) n (rc x)) := by
      apply List.map_congr_left
      intro x hx
      have : x ≠ i := by have := List.mem_range.1 hx; omega
      simp [this]
    rw [e]
    exact hown'
  · by_cases e : x = i
    · subst e
      simp only [if_true]
      exact trow g x hg2 hgne (own_trow hrow)
    · simp only [if_neg e]
      have hxi : x < i := by omega
      exact trow (rb x) x (hL.t.ltR x hxi) (fun q hq => hL.t.ne x q hxi hq) (hL.t.row x hxi)
  · have hsz := hg.size
    simp at hsz
    by_cases e : x = i
    · simp only [if_pos e]; omega
    · simp only [if_neg e]
      have := hL.t.ltR x (by omega)
      omega
  · by_cases e : x = i
    · simp only [if_pos e]
      rcases hat with h | h
      · rw [h] at hq; exact hgne q hq
      · rw [h] at hq; simp at hq; omega
    · simp only [if_neg e]
      have hxi : x < i := by omega
      rcases hat with h | h
      · rw [h] at hq; exact hL.t.ne x q hxi hq
      · rw [h] at hq; simp at hq; have := hL.t.ltR x hxi; omega
  · exact ⟨hL.mat.out.of_block (keep _ hL.mat.out.lt (low _ hB0)), fun x hx => (hL.mat.row x hx).of_block (keep _ (hL.mat.row x hx).lt (low _ (hB1 x hx)))⟩

theorem Try.infoSpT : (Try.prog.info? 35).map (fun i => (i.zero, i.size, i.bytes)) = some (some (.agg #[.int .i64 0, .int .i64 0]), 2, 16) := by kernel_rfl
theorem Try.infoSps : (Try.prog.info? 33).map (fun i => (i.zero, i.size, i.bytes)) = some (some (.slice none 0 0), 1, 24) := by kernel_rfl

theorem fin_bounds {n : Nat} {l : List Bd} (h : Within n 8000000 l) (hn : n ≤ 12) (hf : Free n l) (i j : Nat) (hi : i < n) (hj : j < n) : -35000000000 ≤ fin n l i j ∧ fin n l i j ≤ 1000000000 := by
  have hlo := h.low
  have hp : (2 : Int) ^ n * 8000000 ≤ 35000000000 := (by decide : ∀ k, k < 13 → (2 : Int) ^ k * 8000000 ≤ 35000000000) n (by omega)
  have h1 := fw_low h.w0 (Nat.le_refl n) hlo.2 hlo.1 hf i j hi hj
  have h3 := fw_le n (initM l) n i j hi hj
  have h4 : initM l i j ≤ init0 i j := foldB_le l init0 i j
  have h5 : init0 i j ≤ 1000000000 := by unfold init0 far; split <;> omega
  unfold fin
  omega

set_option maxRecDepth 100000 in
set_option maxHeartbeats 16000000 in
theorem tightest_any (A : Option Addr) (m cap : Nat) (zs : List Int) (n : Int) (w : World) (h : FlatSl w 4 A m cap zs) :
    Calls Try.prog 18 #[.int .i64 n, .slice A m cap] w (TightPost n (bds zs m) w) := by
  obtain ⟨iS, hS0, hS1, hS2, hS3⟩ := info_parts Try.infoSpT
  obtain ⟨iR, hR0, hR1, hR2, hR3⟩ := info_parts Try.infoSps
  have H := Lib.hid h; clear h
  obtain ⟨l, hl⟩ : ∃ l, l = bds zs m := ⟨_, rfl⟩
  rw [← hl]
  have HL := Lib.hid hl; clear hl
  by_cases hz : chronChk n l = 0
  · have hok : ∃ N : Nat, n = N := by
      refine ⟨n.toNat, ?_⟩
      unfold chronChk at hz
      split at hz
      · omega
      · split at hz <;> omega
    obtain ⟨N, rfl⟩ := hok
    have hC := chronChk_zero.1 hz
    have hn1 := hC.n1
    have hn12 := hC.n12
    have HC := Lib.hid hC
    have hz2 : chronChk (N : Int) (bds zs m) = 0 := by rw [← HL.out]; exact hz
    have hC2 : ChronOk N (bds zs m) := by rw [← HL.out]; exact hC
    have HZ := Lib.hid hz2; have HC2 := Lib.hid hC2
    clear hC hz hz2 hC2
    go_enter Try.func18, Try.ntmps18
    go_wp2_with fail
    refine Calls.mono (chronCheck_any _ _ _ _ _ _ H.out) ?_
    rintro e w1 ⟨rfl, hb⟩
    rw [HZ.out]
    have hF1 := H.out.keepC (by omega) hb
    have hs1 := hb.size
    go_wp2_with fail
    refine Calls.mono (farthest_any _ _ _ _ _ _ hF1 HC2.out) ?_
    rintro e w2 ⟨hb2, ⟨hf, rfl, hM⟩ | ⟨hf, rfl⟩⟩
    · have hb3 := hb.trans (hb2.mono hs1)
      have wd : Within N 8000000 l := ⟨by omega, by unfold far; omega, fun d hd => by
        have := HC.out.each d hd
        obtain ⟨_, _, _, _, h5, h6, _, h8⟩ := this
        exact ⟨HC.out.each d hd, by omega, by omega, by omega, by omega⟩⟩
      rw [← HL.out] at hf hM
      have fb := fin_bounds wd hn12 hf
      have HF := Lib.hid hf
      obtain ⟨D, hD⟩ : ∃ D, D = fin N l := ⟨_, rfl⟩
      rw [← hD] at hM fb
      have HD := Lib.hid hD; have FB := Lib.hid fb
      obtain ⟨O, hO⟩ : ∃ O, O = w1.heap.size := ⟨_, rfl⟩
      rw [← hO] at hM
      rw [← hO]
      have hB0 := hM.out.lt
      obtain ⟨B, hBB⟩ : ∃ B, B = w2.heap.size := ⟨_, rfl⟩
      have hwB : w.heap.size ≤ B := by have := hb3.size; omega
      have hB1 : ∀ i, i < N → O + 1 + i < B := fun i hi => by have := hM.lt hi; omega
      have hOB : O < B := by omega
      have hB2 : B ≤ w2.heap.size := by omega
      have HB1 := Lib.hid hB1
      clear hf hD fb wd hb hb2 hs1 hO hF1 hBB hB0 hB1
      go_wp2_with fail
      go_loopw [9, 28] (fun v i' wv => ∃ (i : Nat) (rb rc : Nat → Nat), i ≤ N ∧ i' = .int .i64 i ∧ TLay wv B N i v rb rc D ∧ Mat wv O N D ∧ B ≤ wv.heap.size ∧ Below w.heap.size w wv) (fun _ i' _ => N - (intOf i').toNat)
      case atStart => exact ⟨0, fun _ => 0, fun _ => 0, by omega, rfl, ⟨World.ownsRow_nil _ _ _ _, fun x hx => absurd hx (by omega), fun x hx => absurd hx (by omega), fun x q hx => absurd hx (by omega)⟩, hM, hB2, hb3⟩
      case round =>
        clear hM hb3 hB2
        obtain ⟨i, rb, rc, hi, rfl, hT, hM, hB2, hbw⟩ := hrel
        have hbs := hbw.size
        by_cases hiN : i < N
        · have k1 : (0 : Int) ≤ (i : Int) := by omega
          have k2 : (i : Int) < (N : Int) := by omega
          go_wp2_with fail
          obtain ⟨Bi, hBi⟩ : ∃ Bi, Bi = wr.heap.size := ⟨_, rfl⟩
          have hL : RLay wr O B Bi N i u9 rb rc D := ⟨hT, fun x hx => by rw [hBi]; exact hT.ltR x hx, fun q hq => by rw [hBi]; exact (hT.own.lt q hq).2, hM, fun x hx => by rw [hBi]; exact hM.lt hx, by rw [hBi]; exact hM.out.lt⟩
          have hBi2 : Bi ≤ wr.heap.size := by omega
          have hBi3 : w.heap.size ≤ Bi := by omega
          have hBi4 : B ≤ Bi := by omega
          clear hT hM hBi hbs
          go_loopw [11, 32] (fun v j' wv => ∃ j : Nat, j ≤ N ∧ j' = .int .i64 j ∧ wv.ownsRow Bi 35 2 v j ((rowNums D i j).map (Value.int .i64)) ∧ RLay wv O B Bi N i u9 rb rc D ∧ Bi ≤ wv.heap.size ∧ Below w.heap.size w wv) (fun _ j' _ => N - (intOf j').toNat)
          case atStart => exact ⟨0, by omega, rfl, World.ownsRow_nil _ _ _ _, hL, hBi2, hbw⟩
          case round =>
            clear hL hbw hBi2
            obtain ⟨j, hj, rfl, hown, hL, hBi2, hbw⟩ := hrel
            have hbs := hbw.size
            by_cases hjN : j < N
            · have k3 : (0 : Int) ≤ (j : Int) := by omega
              have k4 : (j : Int) < (N : Int) := by omega
              obtain ⟨f1, f2⟩ := FB.out j i hjN hiN
              have x1 := hL.mat.cO hjN
              have x2 := hL.mat.cO hiN
              have x3 := hL.mat.c hjN hiN
              have x4 := hL.mat.c hiN hjN
              have x5 := hL.mat.lt hjN
              have x6 := hL.mat.lt hiN
              have x7 := hL.mat.out.lt
              have l1 := hL.low j hjN
              have l2 := hL.low i hiN
              have l3 := hL.lowO
              have e1 : IntKind.i64.wrap (-D j i) = -D j i := IntWalk.i64_in _ (by omega)
              have n1 : some O ≠ u11.ownBlock := fun e => by have := (hown.lt _ e.symm).1; omega
              have n2 : some (O + 1 + j) ≠ u11.ownBlock := fun e => by have := (hown.lt _ e.symm).1; omega
              have n3 : some (O + 1 + i) ≠ u11.ownBlock := fun e => by have := (hown.lt _ e.symm).1; omega
              have HLL := Lib.hid hL; clear hL
              go_wp2_with fail
              go_region_held3 (fun w' => w'.cell? ⟨O, j, none⟩ = some (.slice (some ⟨O + 1 + j, 0, none⟩) N N) ∧ w'.cell? ⟨O, i, none⟩ = some (.slice (some ⟨O + 1 + i, 0, none⟩) N N) ∧ w'.cell? ⟨O + 1 + j, i, none⟩ = some (.int .i64 (D j i)) ∧ w'.cell? ⟨O + 1 + i, j, none⟩ = some (.int .i64 (D i j)))
                (first
                  | go_keep
                  | (go_split_ands
                     refine ⟨?_, ?_, ?_, ?_⟩
                     · (rw [hgrow.cell_far _ (by simp; omega) n1]; assumption)
                     · (rw [hgrow.cell_far _ (by simp; omega) n1]; assumption)
                     · (rw [hgrow.cell_far _ (by simp; omega) n2]; assumption)
                     · (rw [hgrow.cell_far _ (by simp; omega) n3]; assumption)))
                ((refine step_append_any (by rfl) _ _ _ (by rfl) Bi 35 iS _ 2 16 Try.underlying33 hS0 hS1 hS2 hS3 rfl (by omega) u11 j ((rowNums D i j).map (Value.int .i64)) (by rfl) ((hown.alloc _).drew) ⟨wr.heap.size, 0, none⟩ 1 1 [.int .i64 (-D j i), .int .i64 (D i j)] (by rfl) (by rfl) (World.news_of_block (cs := #[.int .i64 (-D j i), .int .i64 (D i j)]) (t := 35) (fr := (0, 0)) (heap_alloc_new wr _)) (by simp [Value.oneCell']) (by unfold maxLen; omega) (by omega) (by simp; omega) ?_; intro v' w3 hown' hgrow hat))
              have R2 := Lib.hid (((HLL.out.alloc (.cells #[.int .i64 (-D j i), .int .i64 (D i j)] 35)).drew).grown hgrow (fun q hq => (hown.lt q hq).1))
              have hb4 := (hbw.alloc hbs (.cells #[.int .i64 (-D j i), .int .i64 (D i j)] 35)).drew.grown hgrow (by simp; omega) (fun q hq => Nat.le_trans hBi3 (hown.lt q hq).1)
              have hsz := hgrow.size
              simp at hsz
              have R1 : Hid (w3.ownsRow Bi 35 2 v' (j + 1) ((rowNums D i (j + 1)).map (Value.int .i64))) := Lib.hid (by simpa only [rowNums, List.map_append, List.map_cons, List.map_nil] using hown')
              clear hown hown' hgrow hat HLL n1 n2 n3 x1 x2 x3 x4
              go_wp2_with fail
              go_roundw
              case rel => exact ⟨j + 1, by omega, by go_num, R1.out, R2.out, by omega, hb4⟩
              case measure => simp [intOf]; omega
            · obtain rfl : j = N := by omega
              obtain ⟨g, gc, hv, hg1, hg2⟩ := hown.form (by omega)
              subst hv
              have HLL := Lib.hid hL; clear hL
              have HO := Lib.hid hown; clear hown
              go_wp2_with (at_builtin; refine wpList_append_own_at _ rfl _ _ 30 rfl B 33 iR (.slice none 0 0) 1 24 Try.underlying30 hR0 hR1 hR2 hR3 rfl (by decide) _ _ _ rfl (HLL.out.t.own.alloc _) ⟨wr.heap.size, 0, none⟩ 1 1 [.slice (some ⟨g, 0, none⟩) j gc] rfl rfl ?c1 ?c2 ?c3 ?c4 ?c5 ?_)
              case c1 => exact cells_one
              case c2 => intro u hu; simp at hu; subst hu; rfl
              case c3 => unfold maxLen; omega
              case c4 => omega
              case c5 => simp; omega
              · intro v' w3 hown' hgrow _ hat
                have S := TLay.step HLL.out HO.out hg1 hg2 _ hown' hgrow (by simpa using hat) HB1.out hOB
                have hb4 := (hbw.alloc hbw.size (.cells #[.slice (some ⟨g, 0, none⟩) j gc] 33)).grown hgrow (by have := hbw.size; simp; omega) (fun q hq => Nat.le_trans hwB (HLL.out.t.own.lt q hq).1)
                have hsz := hgrow.size
                simp at hsz
                have S1 := Lib.hid S.1; have S2 := Lib.hid S.2
                clear S hown' hgrow hat HLL HO
                go_wp2_with fail
                go_roundw
                case rel => exact ⟨i + 1, _, _, by omega, by go_num, S1.out, S2.out, by omega, hb4⟩
                case measure => simp [intOf]; omega
        · obtain rfl : i = N := by omega
          obtain ⟨ob, oc, hv, hg1, hg2⟩ := hT.own.form (by omega)
          subst hv
          have hcap : i ≤ oc := by
            rcases hT.own.2 with ⟨h, _⟩ | ⟨_, _, _, h, _, _, h2, _⟩
            · cases h
            · simp only [Value.slice.injEq] at h; omega
          have HT := Lib.hid hT; clear hT hM
          go_wp2_with fail
          go_returns
          refine ⟨hbw, Or.inl ⟨i, rfl, HC.out, HF.out, ob, oc, rb, rc, rfl, hcap, ?_⟩⟩
          rw [← HD.out]
          refine ⟨fun x hx => ?_, HT.out.row, hg2, HT.out.ltR⟩
          rw [HT.out.own.cellAt x (by omega), List.getElem?_map, List.getElem?_range hx]
          rfl
    · go_wp2_with fail
      go_returns
      exact ⟨hb.trans (hb2.mono hs1), Or.inr (Or.inl ⟨N, rfl, HC.out, by rw [HL.out]; exact hf, rfl⟩)⟩
  · obtain ⟨r, hr⟩ : ∃ r, r = chronChk n l := ⟨_, rfl⟩
    rw [← hr] at hz
    have r0 : (r != 0) = true := by simpa using hz
    have HR := Lib.hid hr; have HZ := Lib.hid hz; clear hr hz
    go_enter Try.func18, Try.ntmps18
    go_wp2_with fail
    refine Calls.mono (chronCheck_any _ _ _ _ _ _ H.out) ?_
    rintro e w1 ⟨rfl, hb⟩
    rw [← HL.out, ← HR.out]
    go_wp2_with fail
    go_returns
    exact ⟨hb, Or.inr (Or.inr ⟨by rw [← HR.out]; exact HZ.out, by rw [← HR.out]; rfl⟩)⟩

end Go.Proofs.Ytmeppcoekmoofaa
