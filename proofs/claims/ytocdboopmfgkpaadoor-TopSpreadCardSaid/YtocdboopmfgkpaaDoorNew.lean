/- New lays a network without notices. -/
import Derived.Test.YtocdboopmfgkpaaDoorMade
import Derived.Test.YtocdboopmfgkpaaDoorOpen
import Derived.Deep.DeepCutAuto
import Derived.Deep.OwnRows
namespace Go.Proofs.YtocdboopmfgkpaaDoor
open Go.RowKit
set_option linter.unusedSimpArgs false
set_option linter.unusedVariables false

theorem Tryd.infoRow : (Tryd.prog.info? 35).map (fun i => (i.zero, i.size, i.bytes)) = some (some (.slice none 0 0), 1, 24) := by kernel_rfl
set_option maxHeartbeats 1000000 in
theorem newFn_ok (k : Int) (w : World) (k0 : 1 ≤ k) (k1 : k ≤ 1000000000) : Calls Tryd.prog 26 #[.int .i64 k] w fun e w' => e = .returned (.bool false) ∧ w = w' := by
  have h1 : ¬ k < 1 := by omega
  have h2 : ¬ (1000000000 : Int) < k := by omega
  go_enter Tryd.func26, Tryd.ntmps26
  go_wp2_with fail
  go_ret
  exact ⟨rfl, rfl⟩

set_option maxRecDepth 100000 in
set_option maxHeartbeats 4000000 in
theorem indexFn_ok (A : Option Addr) (K cap : Nat) (zs : List Int) (w : World) (h : FlatSl w 1 A K cap zs) (hz : ∀ j, j < K → 1 ≤ ix zs j ∧ ix zs j ≤ 1000000000) (hK : K ≤ 100) :
    Calls Tryd.prog 37 #[.slice A K cap, .func (.func 26) #[] #[]] w fun e w' => e = .returned (.int .i64 (-1)) ∧ w = w' := by
  have HF := Lib.hid h; have HZ := Lib.hid hz
  clear h hz
  go_enter Tryd.func37, Tryd.ntmps37
  go_wp2_with fail
  go_loop [8] (fun i' => ∃ k : Nat, k ≤ K ∧ i' = .int .i64 k) (fun i' => K - (intOf i').toNat)
  case atStart => exact ⟨0, Nat.zero_le _, rfl⟩
  case round =>
    obtain ⟨k, hk, rfl⟩ := hrel
    by_cases hlt : k < K
    · have k2 : (0 : Int) ≤ (k : Int) := by omega
      have k3 : (k : Int) < (K : Int) := by omega
      obtain ⟨b, off, hA, hc⟩ := HF.out.at' (by omega)
      subst hA
      have c0 := hc k (by omega)
      obtain ⟨y, hy⟩ : ∃ y, y = ix zs k := ⟨_, rfl⟩
      have hr := HZ.out k hlt
      rw [← hy] at c0 hr
      obtain ⟨y0, y1⟩ := hr
      clear hc hy
      go_wp2_with fail
      refine Calls.mono (newFn_ok y _ y0 y1) ?_
      rintro e _ ⟨rfl, rfl⟩
      go_wp2_with fail
      go_round
      case rel => exact ⟨k + 1, by omega, by go_num⟩
      case measure => simp [intOf]; omega
    · obtain rfl : k = K := by omega
      go_wp2_with fail
      go_ret
      exact ⟨rfl, rfl⟩

set_option maxHeartbeats 1000000 in
theorem containsFn_ok (A : Option Addr) (K cap : Nat) (zs : List Int) (w : World) (h : FlatSl w 1 A K cap zs) (hz : ∀ j, j < K → 1 ≤ ix zs j ∧ ix zs j ≤ 1000000000) (hK : K ≤ 100) :
    Calls Tryd.prog 25 #[.slice A K cap, .func (.func 26) #[] #[]] w fun e w' => e = .returned (.bool false) ∧ w = w' := by
  have HF := Lib.hid h; have HZ := Lib.hid hz
  clear h hz
  go_enter Tryd.func25, Tryd.ntmps25
  go_wp2_with fail
  refine Calls.mono (indexFn_ok _ _ _ _ _ HF.out HZ.out hK) ?_
  rintro e _ ⟨rfl, rfl⟩
  go_wp2_with fail
  go_ret
  exact ⟨rfl, rfl⟩

theorem FlatSl.stay {w w' : World} {sz : Nat} {A : Option Addr} {n cap : Nat} {zs : List Int} (h : FlatSl w sz A n cap zs) (h0 : 0 < sz) (hb : Below w.heap.size w w') : FlatSl w' sz A n cap zs := by
  refine ⟨h.le, h.most, h.len, fun hn => ?_⟩
  obtain ⟨b, off, rfl, hc⟩ := h.at' hn
  have hlt := World.block_lt_of_cell? w _ (hc 0 (Nat.mul_pos hn h0))
  exact ⟨b, off, rfl, fun j hj => (hb.cell (p := ⟨b, off + j, none⟩) hlt).trans (hc j hj)⟩
theorem cloneInt_ok (kb ko K kc : Nat) (zs : List Int) (w : World) (h : FlatSl w 1 (some ⟨kb, ko, none⟩) K kc zs) (h1 : 1 ≤ K) (h8 : K ≤ 8) :
    Calls Tryd.prog 27 #[.slice (some ⟨kb, ko, none⟩) K kc] w fun e w' => ∃ g gc, e = .returned (.slice (some ⟨g, 0, none⟩) K gc) ∧ w'.ownsRow w.heap.size 3 1 (.slice (some ⟨g, 0, none⟩) K gc) K (zs.map (Value.int .i64)) ∧ Below w.heap.size w w' := by
  have hl := h.len
  refine (Tryd.slices_Clone_int kb ko K kc zs w (by omega) (by omega) (fun j hj => ?_)).mono fun e w' ⟨v, he, ho, _, hb⟩ => ?_
  · obtain ⟨b, o, hA, hc⟩ := h.at' (by omega)
    simp only [Option.some.injEq, Addr.mk.injEq, and_true] at hA
    obtain ⟨rfl, rfl⟩ := hA
    exact hc j (by omega)
  · rw [show zs.take K = zs by rw [List.take_of_length_le]; omega] at ho
    obtain ⟨g, gc, hv, _, _⟩ := ho.form (by omega)
    subst hv
    exact ⟨g, gc, he, ho, hb⟩
theorem own_lower {w : World} {B B' : Nat} {e : TypeId} {sz : Nat} {u : Value} {m : Nat} {xs : List Value} (hB : B ≤ B') (h : w.ownsRow B' e sz u m xs) : w.ownsRow B e sz u m xs := by
  obtain ⟨h1, h2⟩ := h
  refine ⟨h1, h2.imp id ?_⟩
  rintro ⟨g, cap, cur, hv, hb, r⟩
  exact ⟨g, cap, cur, hv, Nat.le_trans hB hb, r⟩
theorem mk_rows (n : Nat) (hn : n ≤ 40) (w : World) : (Instr.makeSlice 55 (.int .i64 (n : Int)) (.int .i64 (n : Int))).run Tryd.prog w = .ok (.slice (some ⟨w.heap.size, 0, none⟩) n n) (w.alloc (.cells (madeCells #[.slice none 0 0] n) 35)) :=
  run_make_row' (P := Tryd.prog) 55 35 (.slice none 0 0) 24 Tryd.underlying55 Tryd.infoRow rfl .i64 .i64 n (by omega) (by omega) w
theorem rowIs_vrow {w : World} {b n : Nat} {t : TypeId} {f : Nat → Value} (h : w.rowIs b t n f) : VRow w b n f := ⟨fun j hj => World.rowIs.cell h hj, fun j _ => World.rowIs.frozen h j, World.rowIs.lt h⟩
/-- The beginning: the record has been laid. -/
theorem NearL.start {w : World} {B g gc bn n K : Nat} {zs : List Int} (hg : w.ownsRow B 3 1 (.slice (some ⟨g, 0, none⟩) K gc) K (zs.map (Value.int .i64))) (hr : VRow w bn n (fun _ => .slice none 0 0)) (hne : g ≠ bn) (hB : B ≤ w.heap.size) (hbn : B ≤ bn) (hl : zs.length = K) :
    NearL (w.alloc (.cells #[.slice (some ⟨g, 0, none⟩) K gc, .slice (some ⟨bn, 0, none⟩) n n, .slice none 0 0] 58)) B ⟨w.heap.size, g, gc, bn, n, K, ix zs, .slice none 0 0⟩ (fun _ => .slice none 0 0) (fun _ => []) := by
  have b0 := (Below.refl w.heap.size w).alloc (Nat.le_refl _) (.cells #[.slice (some ⟨g, 0, none⟩) K gc, .slice (some ⟨bn, 0, none⟩) n n, .slice none 0 0] 58)
  obtain ⟨g1, g2⟩ := hg.lt g rfl
  have lr := hr.lt
  exact
  { c0 := by simp
    c1 := by simp
    c2 := by simp
    f2 := by simp
    key := fun a ha => by
      refine (b0.cell (p := ⟨g, a, none⟩) g2).trans ?_
      have ha' : a < K := ha
      rw [hg.cellAt a (by omega), List.getElem?_map, List.getElem?_eq_getElem (show a < zs.length by omega)]
      simp [ix, List.getD, List.getElem?_eq_getElem (show a < zs.length by omega)]
    hdr := hr.below b0
    own := fun _ _ => World.ownsRow_nil _ _ _ _
    far := fun i _ q hq => by simp [Value.ownBlock] at hq
    inj := fun i _ j _ _ q hq => by simp [Value.ownBlock] at hq
    lb := by simp
    lk := by simp; omega
    bbk := by show w.heap.size ≠ g; omega
    bbn := by show w.heap.size ≠ bn; omega
    bkn := hne
    ob := hB
    on := hbn
    kk := own_cap hg }
/-- Where New stands when the record has been laid. -/
def NewR (K n : Nat) (zs : List Int) (w : World) (v : Nat → Value) (lst : Nat → List Nat) (p : Value) (wv : World) : Prop :=
  ∃ L : NewL, L.n = n ∧ L.K = K ∧ L.keys = ix zs ∧ L.hv = .slice none 0 0 ∧ p = .pointer (some ⟨L.b, 0, none⟩) ∧ NearL wv w.heap.size L v lst ∧ Below w.heap.size w wv

/-- The neighbours of node i by the first j edges. -/
def adjN (ex ey : Nat → Nat) (i : Nat) : Nat → List Nat
  | 0 => []
  | j + 1 => if i = ex j then adjN ex ey i j ++ [ey j] else if i = ey j then adjN ex ey i j ++ [ex j] else adjN ex ey i j
theorem adjN_len (ex ey : Nat → Nat) (i j : Nat) : (adjN ex ey i j).length ≤ j := by
  induction j with
  | zero => simp [adjN]
  | succ j ih =>
    unfold adjN
    split
    · rw [List.length_append]; show _ + 1 ≤ _; omega
    · split
      · rw [List.length_append]; show _ + 1 ≤ _; omega
      · omega
theorem adj_edge {w : World} {B : Nat} {L : NewL} {v : Nat → Value} {ex ey : Nat → Nat} {j x y : Nat} (hx : x = ex j) (hy : y = ey j) (hxy : x ≠ y)
    (h : NearL w B L v (fun i => if i = x then adjN ex ey x j ++ [y] else if i = y then adjN ex ey y j ++ [x] else adjN ex ey i j)) : NearL w B L v (fun i => adjN ex ey i (j + 1)) := by
  have e : (fun i => adjN ex ey i (j + 1)) = (fun i => if i = x then adjN ex ey x j ++ [y] else if i = y then adjN ex ey y j ++ [x] else adjN ex ey i j) := by
    funext i
    show (if i = ex j then adjN ex ey i j ++ [ey j] else if i = ey j then adjN ex ey i j ++ [ex j] else adjN ex ey i j) = _
    rw [← hx, ← hy]
    by_cases e1 : i = x
    · rw [if_pos e1, if_pos e1, e1]
    · rw [if_neg e1, if_neg e1]
      by_cases e2 : i = y
      · rw [if_pos e2, if_pos e2, e2]
      · rw [if_neg e2, if_neg e2]
  rw [e]; exact h
theorem mk_nts (K : Nat) (hK : K ≤ 8) (w : World) : (Instr.makeSlice 59 (.int .i64 (K : Int)) (.int .i64 (K : Int))).run Tryd.prog w = .ok (.slice (some ⟨w.heap.size, 0, none⟩) K K) (w.alloc (.cells (madeCells #[.int .i64 0, .int .i64 0, .string ⟨#[]⟩, .int .i64 0] (K * 4)) 23)) := by
  obtain ⟨iN, h0, h1, h2, h3⟩ := info_parts Tryd.infoNt
  have hr := run_make (P := Tryd.prog) w 59 23 iN (.agg #[.int .i64 0, .int .i64 0, .string ⟨#[]⟩, .int .i64 0]) Tryd.underlying59 h0 h1 .i64 .i64 K K (by omega) (Int.le_refl _) (by rw [h3]; omega) (by omega)
  simp only [Int.toNat_natCast, h2] at hr
  exact hr
theorem made_zero (w : World) (K : Nat) : VRow (w.alloc (.cells (madeCells #[.int .i64 0, .int .i64 0, .string ⟨#[]⟩, .int .i64 0] (K * 4)) 23)) w.heap.size (K * 4) zeroF := by
  have hc : ∀ j, j < K * 4 → (madeCells #[.int .i64 0, .int .i64 0, .string ⟨#[]⟩, .int .i64 0] (K * 4))[j]? = some (zeroF j) := fun j hj => by
    unfold madeCells zeroF ntF
    have h4 : j % 4 = 0 ∨ j % 4 = 1 ∨ j % 4 = 2 ∨ j % 4 = 3 := by omega
    simp [hj]
    rcases h4 with e | e | e | e <;> simp [e]
  have R := World.rowIs_alloc w (madeCells #[.int .i64 0, .int .i64 0, .string ⟨#[]⟩, .int .i64 0] (K * 4)) 23 zeroF (fun j hj => hc j (by rwa [size_madeCells] at hj))
  rw [size_madeCells] at R
  exact rowIs_vrow R
theorem NLay.far {w w' : World} {B K i b : Nat} {v : Value} {rb rc : Nat → Nat} {F : Nat → Nat → Value} (h : NLay w B K i v rb rc F) (hg : w.grownBy w' (some b)) (hb : b < B) : NLay w' B K i v rb rc F :=
  ⟨own_kept_if h.own hg (fun q hq e => by have := (h.own.lt q hq).1; have := Option.some.inj e; omega), fun x hx => (h.row x hx).grown hg (fun e => by have := h.lo x hx; have := Option.some.inj e; omega), h.ne, h.inj, h.cap, h.lo⟩
/-- Between two rows. -/
def HeldR (L : NewL) (wE : World) (s : Value) (wv : World) : Prop :=
  ∃ (i : Nat) (hv : Value) (rb rc : Nat → Nat), i ≤ L.n ∧ s = .int .i64 i ∧ wE.grownBy wv (some L.b) ∧ wv.cell? ⟨L.b, 0, none⟩ = some (.slice (some ⟨L.bk, 0, none⟩) L.K L.ck) ∧ wv.cell? ⟨L.b, 1, none⟩ = some (.slice (some ⟨L.bn, 0, none⟩) L.n L.n) ∧
    wv.cell? ⟨L.b, 2, none⟩ = some hv ∧ wv.frozen? ⟨L.b, 2, none⟩ = false ∧ NLay wv wE.heap.size L.K i hv rb rc (fun _ => zeroF)
def EdgeR (L : NewL) (ex ey : Nat → Nat) (j : Nat) (w : World) (wv : World) : Prop := ∃ v, NearL wv w.heap.size L v (fun i => adjN ex ey i j) ∧ Below w.heap.size w wv
/-- What of New's arguments is leant on: keys in their range; edges between two different nodes. -/
structure NewOk (zs : List Int) (K n m : Nat) (ex ey : Nat → Nat) : Prop where
  k1 : 1 ≤ K
  k8 : K ≤ 8
  n1 : 1 ≤ n
  n12 : n ≤ 12
  m40 : m ≤ 40
  key : ∀ j, j < K → 1 ≤ ix zs j ∧ ix zs j ≤ 1000000000
  x : ∀ j, j < m → ex j < n
  y : ∀ j, j < m → ey j < n
  ne : ∀ j, j < m → ex j ≠ ey j

set_option maxRecDepth 100000 in
set_option maxHeartbeats 16000000 in
theorem new_ok (kb ko K kc : Nat) (zs : List Int) (n : Nat) (A : Option Addr) (m ec : Nat) (es : List Int) (ex ey : Nat → Nat) (w : World) (hk : FlatSl w 1 (some ⟨kb, ko, none⟩) K kc zs) (he : FlatSl w 2 A m ec es)
    (hE : ∀ j, j < m → ix es (j * 2) = (ex j : Int) ∧ ix es (j * 2 + 1) = (ey j : Int)) (hO : NewOk zs K n m ex ey)
    (T : ByteArray) (S : Nat → Int → Int) (hne : ∀ i, i < n → 0 < (adjN ex ey i m).length) :
    Calls Tryd.prog 14 #[.slice (some ⟨kb, ko, none⟩) K kc, .int .i64 n, .slice A m ec] w fun e w' =>
      ∃ L : NetL, e = .returned (.tuple #[.pointer (some ⟨L.b, 0, none⟩), .int .i64 0]) ∧ NetW ⟨T, S, K, n, ix zs, fun i => (adjN ex ey i m).length, fun i j => ((adjN ex ey i m)[j]?).getD 0⟩ L w.heap.size w' (fun _ _ => 0) ∧ Below w.heap.size w w' := by
  obtain ⟨iI, hI0, hI1, hI2, hI3⟩ := info_parts Tryd.infoInt
  obtain ⟨iS, hS0, hS1, hS2, hS3⟩ := info_parts Tryd.infoNs
  have k1 := hO.k1; have k8 := hO.k8; have n1 := hO.n1; have n12 := hO.n12; have m40 := hO.m40
  have HK := Lib.hid hk; have HE := Lib.hid he; have HEE := Lib.hid hE; have HO := Lib.hid hO; have HNE := Lib.hid hne
  have q1 : ¬ (8 : Int) < (K : Int) := by omega
  have q2 : ¬ (12 : Int) < (n : Int) := by omega
  have q3 : ¬ (40 : Int) < (m : Int) := by omega
  have q4 : ¬ (n : Int) < 1 := by omega
  clear hk he hE hO hne
  go_enter Tryd.func14, Tryd.ntmps14
  go_wp2_with fail
  refine Calls.mono (containsFn_ok _ _ _ _ _ HK.out HO.out.key (by omega)) ?_
  rintro e _ ⟨rfl, rfl⟩
  go_wp2_with fail
  have mk := mk_rows n (by omega)
  have hlen := HK.out.len
  go_cut [8] (fun p wx => NewR K n zs w (fun _ => .slice none 0 0) (fun _ => []) p wx)
  case first =>
    go_region_held3 (fun w' => Below w.heap.size w w') (first | exact (Below.refl _ _).drew | (with_reducible assumption) | exact Below.alloc (Below.refl _ _).drew (by simp) _ | exact Below.alloc (by with_reducible assumption) (Below.size (by with_reducible assumption)) _)
      (first
        | (go_at_call 27; refine Calls.mono (cloneInt_ok kb ko K kc zs _ (HK.out.stay (by omega) (by with_reducible assumption)) k1 k8) ?_; rintro e wq ⟨g, gc, rfl, hown, hb⟩; have qB : Below w.heap.size w wq := bX_more (by with_reducible assumption) hb))
    · have h1 := World.ownsRow.alloc (own_lower (B := w.heap.size) (by simp) hown) (.cells (madeCells #[.slice none 0 0] n) 35)
      have h2 := rowIs_vrow (World.rowIs_made wq (.slice none 0 0) n 35)
      have hg := hown.lt g rfl
      have qs := qB.size
      have N := NearL.start (B := w.heap.size) h1 h2 (by omega) (by simp; omega) (by omega) (by omega : zs.length = K)
      have e1 : (wq.alloc (.cells (madeCells #[.slice none 0 0] n) 35)).heap.size = wq.heap.size + 1 := by simp
      rw [e1] at N
      have bb := (qB.alloc qs (.cells (madeCells #[.slice none 0 0] n) 35)).alloc (by simp; omega) (.cells #[.slice (some ⟨g, 0, none⟩) K gc, .slice (some ⟨wq.heap.size, 0, none⟩) n n, .slice none 0 0] 58)
      have HN := Lib.hid N; have HB := Lib.hid bb
      clear N h1 h2 hown hb bb hg e1
      go_wp2_with fail
      go_meet
      exact ⟨_, rfl, rfl, rfl, rfl, rfl, HN.out, HB.out⟩
    · have h0 := rowIs_vrow (World.rowIs_made w (.slice none 0 0) n 35)
      have hb' : Below (w.alloc (.cells (madeCells #[.slice none 0 0] n) 35)).heap.size (w.alloc (.cells (madeCells #[.slice none 0 0] n) 35)) wq := (Below.refl _ (w.alloc (.cells (madeCells #[.slice none 0 0] n) 35))).drew.trans hb
      have h2 := h0.below hb'
      have hg := hown.lt g rfl
      have hg1 := hg.1
      simp at hg1
      have h1 := own_lower (B := w.heap.size) (by simp) hown
      have qs := qB.size
      have N := NearL.start (B := w.heap.size) h1 h2 (by omega) (by omega) (Nat.le_refl _) (by omega : zs.length = K)
      have bb := qB.alloc qs (.cells #[.slice (some ⟨g, 0, none⟩) K gc, .slice (some ⟨w.heap.size, 0, none⟩) n n, .slice none 0 0] 58)
      have HN := Lib.hid N; have HB := Lib.hid bb
      clear N h0 h1 h2 hown hb hb' bb hg hg1
      go_wp2_with fail
      go_meet
      exact ⟨_, rfl, rfl, rfl, rfl, rfl, HN.out, HB.out⟩
  case rest =>
    obtain ⟨L, rfl, rfl, hkeys, hhv, rfl, hN, hbc⟩ := hcut
    have HKEYS := Lib.hid hkeys; have HHV := Lib.hid hhv; have HN := Lib.hid hN; have HBC := Lib.hid hbc
    clear hkeys hhv hN hbc mk hlen
    go_wp2_with fail
    go_loopw [37] (fun j' wv => ∃ (j : Nat) (v : Nat → Value), j ≤ m ∧ j' = .int .i64 j ∧ NearL wv w.heap.size L v (fun i => adjN ex ey i j) ∧ Below w.heap.size w wv) (fun j' _ => m - (intOf j').toNat)
    case atStart => exact ⟨0, _, Nat.zero_le _, rfl, HN.out, HBC.out⟩
    case round =>
      obtain ⟨j, v, hj, rfl, hN, hb⟩ := hrel
      have HN1 := Lib.hid hN; have HB1 := Lib.hid hb
      have hs := hb.size
      clear hN
      by_cases hjm : j < m
      · obtain ⟨eb, eo, rfl, hc⟩ := (HE.out.stay (by omega) hb).at' (by omega)
        have c0 := hc (j * 2) (by omega)
        have c1 := hc (j * 2 + 1) (by omega)
        have hel := World.block_lt_of_cell? wr _ (hc 0 (by omega))
        simp at hel
        obtain ⟨e0, e1⟩ := HEE.out j hjm
        rw [e0] at c0
        rw [e1, ← Nat.add_assoc] at c1
        obtain ⟨x, hx⟩ : ∃ x, x = ex j := ⟨_, rfl⟩
        obtain ⟨y, hy⟩ : ∃ y, y = ey j := ⟨_, rfl⟩
        have x1 := HO.out.x j hjm
        have y1 := HO.out.y j hjm
        have xy := HO.out.ne j hjm
        rw [← hx] at c0 x1 xy
        rw [← hy] at c1 y1 xy
        have HX := Lib.hid hx; have HY := Lib.hid hy; have HXY := Lib.hid xy
        have j0 : (0 : Int) ≤ (j : Int) := by omega
        have j1 : (j : Int) < (m : Int) := by omega
        have x2 : ¬ (x : Int) < 0 := by omega
        have x3 : ¬ (L.n : Int) ≤ (x : Int) := by omega
        have y2 : ¬ (y : Int) < 0 := by omega
        have y3 : ¬ (L.n : Int) ≤ (y : Int) := by omega
        have a0 : ∀ w, (Instr.index 39 (.agg #[.int .i64 (x : Int), .int .i64 (y : Int)]) (.int .i64 0)).run Tryd.prog w = .ok (.int .i64 (x : Int)) w := fun _ => by kernel_rfl
        have a1 : ∀ w, (Instr.index 39 (.agg #[.int .i64 (x : Int), .int .i64 (y : Int)]) (.int .i64 1)).run Tryd.prog w = .ok (.int .i64 (y : Int)) w := fun _ => by kernel_rfl
        clear hc e0 e1 hx hy xy hb
        go_wp2_with fail
        refine wp_loop_rounds 3 ?_
        rw [rounds_succ]
        go_wp2_with fail
        rw [rounds_succ]
        go_wp2_with fail
        rw [rounds_succ]
        go_wp2_with fail
        obtain ⟨W, hW⟩ : ∃ W, W = wr.alloc (.cells #[.int .i64 (x : Int), .int .i64 (y : Int)] 39) := ⟨_, rfl⟩
        obtain ⟨t, ht⟩ : ∃ t, t = wr.heap.size := ⟨_, rfl⟩
        rw [← hW, ← ht]
        have b0 := (Below.refl wr.heap.size wr).alloc (Nat.le_refl _) (.cells #[.int .i64 (x : Int), .int .i64 (y : Int)] 39)
        rw [← hW] at b0
        have NW := HN1.out.below b0
        have BW := HB1.out.trans (b0.mono hs)
        have ec : EdgeC W L t x y (v x) (v y) := ⟨⟨NW.c1, by rw [hW, ht]; simp, by rw [hW, ht]; simp, NW.lb, by rw [hW, ht]; simp⟩, NW.hdr.cell x x1, NW.hdr.cell y y1, NW.hdr.free x x1, NW.hdr.free y y1, NW.hdr.lt⟩
        have tfar : ∀ i, i < L.n → some t ≠ (v i).ownBlock := fun i hi e => by
          have := (HN1.out.blk hi e.symm).2
          omega
        have tb : t ≠ L.b := by have := HN1.out.lb; omega
        have tn : t ≠ L.bn := by have := HN1.out.hdr.lt; omega
        have HNW := Lib.hid NW; have HBW := Lib.hid BW; have HEC := Lib.hid ec; have HTF := Lib.hid tfar
        clear hW ht b0 NW BW ec tfar c0 c1 a0 a1
        have x4 : (0 : Int) ≤ (x : Int) := by omega
        have x5 : (x : Int) < (L.n : Int) := by omega
        have y4 : (0 : Int) ≤ (y : Int) := by omega
        have y5 : (y : Int) < (L.n : Int) := by omega
        have ecd : EdgeC W.drew L t x y (v x) (v y) := HEC.out.below (Below.refl _ _).drew
        refine wp_region_G [(37, fun w' => EdgeC w' L t x y (v x) (v y)), (39, fun w' => EdgeD w' L t x y)] (by kernel_rfl) (heldC_two (fun _ => ecd) (fun _ => ecd.d)) (fun hF => ?_)
        obtain ⟨X, hX⟩ : ∃ X, X = W.drew := ⟨_, rfl⟩
        have bX : Below W.heap.size W X := by rw [hX]; exact (Below.refl _ _).drew
        have NX := Lib.hid (HNW.out.below bX)
        have BX := Lib.hid (HBW.out.trans (bX.mono HBW.out.size))
        have xW2 : W.heap.size ≤ X.heap.size := bX.size
        rw [← hX] at hF ecd ⊢
        have EX := Lib.hid ecd
        have xs := BX.out.size
        clear hX bX ecd
        refine wpG_take (oi := ?oi1) (v := ?vv1) 0 _ ?hi1 (List.Mem.head _) ?hc1 ?hQ1 hF ?hw1 ?hy1 (fun hF => ?hh1)
        case hi1 => (simp only [List.getElem?_toArray, List.getElem?_cons_succ, List.getElem?_cons_zero]; rfl)
        case hc1 => kernel_rfl
        case hQ1 => exact fun _ _ _ h => h
        case hw1 => rfl
        case hy1 => (intro wz hz; skip; go_simp; try (with_reducible rfl))
        try simp only [Act.put, List.setIfInBounds_toArray, List.set_cons_zero, List.set_cons_succ]
        refine wpG_take (oi := ?oi2) (v := ?vv2) 1 _ ?hi2 (List.Mem.head _) ?hc2 ?hQ2 hF ?hw2 ?hy2 (fun hF => ?hh2)
        case hi2 => (simp only [List.getElem?_toArray, List.getElem?_cons_succ, List.getElem?_cons_zero]; rfl)
        case hc2 => kernel_rfl
        case hQ2 => exact fun _ _ _ h => h
        case hw2 => rfl
        case hy2 => (intro wz hz; skip; go_simp; try (with_reducible rfl))
        try simp only [Act.put, List.setIfInBounds_toArray, List.set_cons_zero, List.set_cons_succ]
        refine wpG_take (oi := ?oi3) (v := ?vv3) 2 _ ?hi3 (List.Mem.head _) ?hc3 ?hQ3 hF ?hw3 ?hy3 (fun hF => ?hh3)
        case hi3 => (simp only [List.getElem?_toArray, List.getElem?_cons_succ, List.getElem?_cons_zero]; rfl)
        case hc3 => kernel_rfl
        case hQ3 => exact fun _ _ _ h => h
        case hw3 => rfl
        case hy3 => (intro wz hz; skip; go_simp; try (with_reducible rfl))
        try simp only [Act.put, List.setIfInBounds_toArray, List.set_cons_zero, List.set_cons_succ]
        refine wpG_take (oi := ?oi4) (v := ?vv4) 3 _ ?hi4 (List.Mem.head _) ?hc4 ?hQ4 hF ?hw4 ?hy4 (fun hF => ?hh4)
        case hi4 => (simp only [List.getElem?_toArray, List.getElem?_cons_succ, List.getElem?_cons_zero]; rfl)
        case hc4 => kernel_rfl
        case hQ4 => exact fun _ _ _ h => h
        case hw4 => rfl
        case hy4 => (intro wz hz; have zc := hz.d.c1; go_simp; try (with_reducible rfl))
        try simp only [Act.put, List.setIfInBounds_toArray, List.set_cons_zero, List.set_cons_succ]
        refine wpG_take (oi := ?oi5) (v := ?vv5) 4 _ ?hi5 (List.Mem.head _) ?hc5 ?hQ5 hF ?hw5 ?hy5 (fun hF => ?hh5)
        case hi5 => (simp only [List.getElem?_toArray, List.getElem?_cons_succ, List.getElem?_cons_zero]; rfl)
        case hc5 => kernel_rfl
        case hQ5 => exact fun _ _ _ h => h
        case hw5 => rfl
        case hy5 => (intro wz hz; skip; go_simp; try (with_reducible rfl))
        try simp only [Act.put, List.setIfInBounds_toArray, List.set_cons_zero, List.set_cons_succ]
        refine wpG_take (oi := ?oi6) (v := ?vv6) 5 _ ?hi6 (List.Mem.head _) ?hc6 ?hQ6 hF ?hw6 ?hy6 (fun hF => ?hh6)
        case hi6 => (simp only [List.getElem?_toArray, List.getElem?_cons_succ, List.getElem?_cons_zero]; rfl)
        case hc6 => kernel_rfl
        case hQ6 => exact fun _ _ _ h => h
        case hw6 => rfl
        case hy6 => (intro wz hz; have zc := hz.d.t0; go_simp; try (with_reducible rfl))
        try simp only [Act.put, List.setIfInBounds_toArray, List.set_cons_zero, List.set_cons_succ]
        refine wpG_take (oi := ?oi7) (v := ?vv7) 6 _ ?hi7 (List.Mem.tail _ (List.Mem.head _)) ?hc7 ?hQ7 hF ?hw7 ?hy7 (fun hF => ?hh7)
        case hi7 => (simp only [List.getElem?_toArray, List.getElem?_cons_succ, List.getElem?_cons_zero]; rfl)
        case hc7 => kernel_rfl
        case hQ7 => exact fun _ _ _ h => h
        case hw7 => rfl
        case hy7 => (intro wz hz; skip; go_simp; try (with_reducible rfl))
        try simp only [Act.put, List.setIfInBounds_toArray, List.set_cons_zero, List.set_cons_succ]
        refine wpG_take (oi := ?oi8) (v := ?vv8) 7 _ ?hi8 (List.Mem.tail _ (List.Mem.head _)) ?hc8 ?hQ8 hF ?hw8 ?hy8 (fun hF => ?hh8)
        case hi8 => (simp only [List.getElem?_toArray, List.getElem?_cons_succ, List.getElem?_cons_zero]; rfl)
        case hc8 => kernel_rfl
        case hQ8 => exact fun _ _ _ h => h
        case hw8 => rfl
        case hy8 => (intro wz hz; skip; go_simp; try (with_reducible rfl))
        try simp only [Act.put, List.setIfInBounds_toArray, List.set_cons_zero, List.set_cons_succ]
        refine wpG_take (oi := ?oi9) (v := ?vv9) 8 _ ?hi9 (List.Mem.tail _ (List.Mem.head _)) ?hc9 ?hQ9 hF ?hw9 ?hy9 (fun hF => ?hh9)
        case hi9 => (simp only [List.getElem?_toArray, List.getElem?_cons_succ, List.getElem?_cons_zero]; rfl)
        case hc9 => kernel_rfl
        case hQ9 => exact fun _ _ _ h => h
        case hw9 => rfl
        case hy9 => (intro wz hz; skip; go_simp; try (with_reducible rfl))
        try simp only [Act.put, List.setIfInBounds_toArray, List.set_cons_zero, List.set_cons_succ]
        refine wpG_take (oi := ?oi10) (v := ?vv10) 9 _ ?hi10 (List.Mem.head _) ?hc10 ?hQ10 hF ?hw10 ?hy10 (fun hF => ?hh10)
        case hi10 => (simp only [List.getElem?_toArray, List.getElem?_cons_succ, List.getElem?_cons_zero]; rfl)
        case hc10 => kernel_rfl
        case hQ10 => exact fun _ _ _ h => h
        case hw10 => rfl
        case hy10 => (intro wz hz; have zc := hz.d.c1; go_simp; try (with_reducible rfl))
        try simp only [Act.put, List.setIfInBounds_toArray, List.set_cons_zero, List.set_cons_succ]
        refine wpG_take (oi := ?oi11) (v := ?vv11) 10 _ ?hi11 (List.Mem.tail _ (List.Mem.head _)) ?hc11 ?hQ11 hF ?hw11 ?hy11 (fun hF => ?hh11)
        case hi11 => (simp only [List.getElem?_toArray, List.getElem?_cons_succ, List.getElem?_cons_zero]; rfl)
        case hc11 => kernel_rfl
        case hQ11 => exact fun _ _ _ h => h
        case hw11 => rfl
        case hy11 => (intro wz hz; skip; go_simp; try (with_reducible rfl))
        try simp only [Act.put, List.setIfInBounds_toArray, List.set_cons_zero, List.set_cons_succ]
        refine wpG_take (oi := ?oi12) (v := ?vv12) 11 _ ?hi12 (List.Mem.tail _ (List.Mem.head _)) ?hc12 ?hQ12 hF ?hw12 ?hy12 (fun hF => ?hh12)
        case hi12 => (simp only [List.getElem?_toArray, List.getElem?_cons_succ, List.getElem?_cons_zero]; rfl)
        case hc12 => kernel_rfl
        case hQ12 => exact fun _ _ _ h => h
        case hw12 => rfl
        case hy12 => (intro wz hz; have zc := hz.t1; go_simp; try (with_reducible rfl))
        try simp only [Act.put, List.setIfInBounds_toArray, List.set_cons_zero, List.set_cons_succ]
        refine wpG_take (oi := ?oi13) (v := ?vv13) 12 _ ?hi13 (List.Mem.head _) ?hc13 ?hQ13 hF ?hw13 ?hy13 (fun hF => ?hh13)
        case hi13 => (simp only [List.getElem?_toArray, List.getElem?_cons_succ, List.getElem?_cons_zero]; rfl)
        case hc13 => kernel_rfl
        case hQ13 => exact fun _ _ _ h => h
        case hw13 => rfl
        case hy13 => (intro wz hz; skip; go_simp; try (with_reducible rfl))
        try simp only [Act.put, List.setIfInBounds_toArray, List.set_cons_zero, List.set_cons_succ]
        refine wpG_take (oi := ?oi14) (v := ?vv14) 13 _ ?hi14 (List.Mem.head _) ?hc14 ?hQ14 hF ?hw14 ?hy14 (fun hF => ?hh14)
        case hi14 => (simp only [List.getElem?_toArray, List.getElem?_cons_succ, List.getElem?_cons_zero]; rfl)
        case hc14 => kernel_rfl
        case hQ14 => exact fun _ _ _ h => h
        case hw14 => rfl
        case hy14 => (intro wz hz; skip; go_simp; try (with_reducible rfl))
        try simp only [Act.put, List.setIfInBounds_toArray, List.set_cons_zero, List.set_cons_succ]
        refine wpG_take (oi := ?oi15) (v := ?vv15) 14 _ ?hi15 (List.Mem.head _) ?hc15 ?hQ15 hF ?hw15 ?hy15 (fun hF => ?hh15)
        case hi15 => (simp only [List.getElem?_toArray, List.getElem?_cons_succ, List.getElem?_cons_zero]; rfl)
        case hc15 => kernel_rfl
        case hQ15 => exact fun _ _ _ h => h
        case hw15 => rfl
        case hy15 => (intro wz hz; skip; go_simp; try (with_reducible rfl))
        try simp only [Act.put, List.setIfInBounds_toArray, List.set_cons_zero, List.set_cons_succ]
        refine wpG_take (oi := ?oi16) (v := ?vv16) 15 _ ?hi16 (List.Mem.head _) ?hc16 ?hQ16 hF ?hw16 ?hy16 (fun hF => ?hh16)
        case hi16 => (simp only [List.getElem?_toArray, List.getElem?_cons_succ, List.getElem?_cons_zero]; rfl)
        case hc16 => kernel_rfl
        case hQ16 => exact fun _ _ _ h => h
        case hw16 => rfl
        case hy16 => (intro wz hz; have zc := hz.d.c1; go_simp; try (with_reducible rfl))
        try simp only [Act.put, List.setIfInBounds_toArray, List.set_cons_zero, List.set_cons_succ]
        refine wpG_take (oi := ?oi17) (v := ?vv17) 16 _ ?hi17 (List.Mem.head _) ?hc17 ?hQ17 hF ?hw17 ?hy17 (fun hF => ?hh17)
        case hi17 => (simp only [List.getElem?_toArray, List.getElem?_cons_succ, List.getElem?_cons_zero]; rfl)
        case hc17 => kernel_rfl
        case hQ17 => exact fun _ _ _ h => h
        case hw17 => rfl
        case hy17 => (intro wz hz; skip; go_simp; try (with_reducible rfl))
        try simp only [Act.put, List.setIfInBounds_toArray, List.set_cons_zero, List.set_cons_succ]
        refine wpG_take (oi := ?oi18) (v := ?vv18) 17 _ ?hi18 (List.Mem.head _) ?hc18 ?hQ18 hF ?hw18 ?hy18 (fun hF => ?hh18)
        case hi18 => (simp only [List.getElem?_toArray, List.getElem?_cons_succ, List.getElem?_cons_zero]; rfl)
        case hc18 => kernel_rfl
        case hQ18 => exact fun _ _ _ h => h
        case hw18 => rfl
        case hy18 => (intro wz hz; have zc := hz.d.t0; go_simp; try (with_reducible rfl))
        try simp only [Act.put, List.setIfInBounds_toArray, List.set_cons_zero, List.set_cons_succ]
        refine wpG_take (oi := ?oi19) (v := ?vv19) 18 _ ?hi19 (List.Mem.head _) ?hc19 ?hQ19 hF ?hw19 ?hy19 (fun hF => ?hh19)
        case hi19 => (simp only [List.getElem?_toArray, List.getElem?_cons_succ, List.getElem?_cons_zero]; rfl)
        case hc19 => kernel_rfl
        case hQ19 => exact fun _ _ _ h => h
        case hw19 => rfl
        case hy19 => (intro wz hz; skip; go_simp; try (with_reducible rfl))
        try simp only [Act.put, List.setIfInBounds_toArray, List.set_cons_zero, List.set_cons_succ]
        refine wpG_take (oi := ?oi20) (v := ?vv20) 19 _ ?hi20 (List.Mem.head _) ?hc20 ?hQ20 hF ?hw20 ?hy20 (fun hF => ?hh20)
        case hi20 => (simp only [List.getElem?_toArray, List.getElem?_cons_succ, List.getElem?_cons_zero]; rfl)
        case hc20 => kernel_rfl
        case hQ20 => exact fun _ _ _ h => h
        case hw20 => rfl
        case hy20 => (intro wz hz; have zc := hz.cx; go_simp; try (with_reducible rfl))
        try simp only [Act.put, List.setIfInBounds_toArray, List.set_cons_zero, List.set_cons_succ]
        refine wpG_take (oi := ?oi21) (v := ?vv21) 20 _ ?hi21 (List.Mem.head _) ?hc21 ?hQ21 hF ?hw21 ?hy21 (fun hF => ?hh21)
        case hi21 => (simp only [List.getElem?_toArray, List.getElem?_cons_succ, List.getElem?_cons_zero]; rfl)
        case hc21 => kernel_rfl
        case hQ21 => exact fun _ _ _ h => h
        case hw21 => rfl
        case hy21 => (intro wz hz; skip; go_simp; try (with_reducible rfl))
        try simp only [Act.put, List.setIfInBounds_toArray, List.set_cons_zero, List.set_cons_succ]
        refine wpG_take (oi := ?oi22) (v := ?vv22) 21 _ ?hi22 (List.Mem.head _) ?hc22 ?hQ22 hF ?hw22 ?hy22 (fun hF => ?hh22)
        case hi22 => (simp only [List.getElem?_toArray, List.getElem?_cons_succ, List.getElem?_cons_zero]; rfl)
        case hc22 => kernel_rfl
        case hQ22 => exact fun _ _ _ h => h
        case hw22 => rfl
        case hy22 => (intro wz hz; have zc := hz.d.t1; go_simp; try (with_reducible rfl))
        try simp only [Act.put, List.setIfInBounds_toArray, List.set_cons_zero, List.set_cons_succ]
        refine wpG_take (oi := ?oi23) (v := ?vv23) 24 _ ?hi23 (List.Mem.tail _ (List.Mem.head _)) ?hc23 ?hQ23 hF ?hw23 ?hy23 (fun hF => ?hh23)
        case hi23 => (simp only [List.getElem?_toArray, List.getElem?_cons_succ, List.getElem?_cons_zero]; rfl)
        case hc23 => kernel_rfl
        case hQ23 => exact fun _ _ _ h => h
        case hw23 => rfl
        case hy23 => (intro wz hz; skip; go_simp; try (with_reducible rfl))
        try simp only [Act.put, List.setIfInBounds_toArray, List.set_cons_zero, List.set_cons_succ]
        refine wpG_take (oi := ?oi24) (v := ?vv24) 25 _ ?hi24 (List.Mem.tail _ (List.Mem.head _)) ?hc24 ?hQ24 hF ?hw24 ?hy24 (fun hF => ?hh24)
        case hi24 => (simp only [List.getElem?_toArray, List.getElem?_cons_succ, List.getElem?_cons_zero]; rfl)
        case hc24 => kernel_rfl
        case hQ24 => exact fun _ _ _ h => h
        case hw24 => rfl
        case hy24 => (intro wz hz; skip; go_simp; try (with_reducible rfl))
        try simp only [Act.put, List.setIfInBounds_toArray, List.set_cons_zero, List.set_cons_succ]
        refine wpG_take (oi := ?oi25) (v := ?vv25) 26 _ ?hi25 (List.Mem.tail _ (List.Mem.head _)) ?hc25 ?hQ25 hF ?hw25 ?hy25 (fun hF => ?hh25)
        case hi25 => (simp only [List.getElem?_toArray, List.getElem?_cons_succ, List.getElem?_cons_zero]; rfl)
        case hc25 => kernel_rfl
        case hQ25 => exact fun _ _ _ h => h
        case hw25 => rfl
        case hy25 => (intro wz hz; skip; go_simp; try (with_reducible rfl))
        try simp only [Act.put, List.setIfInBounds_toArray, List.set_cons_zero, List.set_cons_succ]
        refine wpG_take (oi := ?oi26) (v := ?vv26) 27 _ ?hi26 (List.Mem.head _) ?hc26 ?hQ26 hF ?hw26 ?hy26 (fun hF => ?hh26)
        case hi26 => (simp only [List.getElem?_toArray, List.getElem?_cons_succ, List.getElem?_cons_zero]; rfl)
        case hc26 => kernel_rfl
        case hQ26 => exact fun _ _ _ h => h
        case hw26 => rfl
        case hy26 => (intro wz hz; have zc := hz.d.c1; go_simp; try (with_reducible rfl))
        try simp only [Act.put, List.setIfInBounds_toArray, List.set_cons_zero, List.set_cons_succ]
        refine wpG_take (oi := ?oi27) (v := ?vv27) 28 _ ?hi27 (List.Mem.tail _ (List.Mem.head _)) ?hc27 ?hQ27 hF ?hw27 ?hy27 (fun hF => ?hh27)
        case hi27 => (simp only [List.getElem?_toArray, List.getElem?_cons_succ, List.getElem?_cons_zero]; rfl)
        case hc27 => kernel_rfl
        case hQ27 => exact fun _ _ _ h => h
        case hw27 => rfl
        case hy27 => (intro wz hz; skip; go_simp; try (with_reducible rfl))
        try simp only [Act.put, List.setIfInBounds_toArray, List.set_cons_zero, List.set_cons_succ]
        refine wpG_take (oi := ?oi28) (v := ?vv28) 29 _ ?hi28 (List.Mem.tail _ (List.Mem.head _)) ?hc28 ?hQ28 hF ?hw28 ?hy28 (fun hF => ?hh28)
        case hi28 => (simp only [List.getElem?_toArray, List.getElem?_cons_succ, List.getElem?_cons_zero]; rfl)
        case hc28 => kernel_rfl
        case hQ28 => exact fun _ _ _ h => h
        case hw28 => rfl
        case hy28 => (intro wz hz; have zc := hz.t1; go_simp; try (with_reducible rfl))
        try simp only [Act.put, List.setIfInBounds_toArray, List.set_cons_zero, List.set_cons_succ]
        refine wpG_take (oi := ?oi29) (v := ?vv29) 30 _ ?hi29 (List.Mem.tail _ (List.Mem.head _)) ?hc29 ?hQ29 hF ?hw29 ?hy29 (fun hF => ?hh29)
        case hi29 => (simp only [List.getElem?_toArray, List.getElem?_cons_succ, List.getElem?_cons_zero]; rfl)
        case hc29 => kernel_rfl
        case hQ29 => exact fun _ _ _ h => h
        case hw29 => rfl
        case hy29 => (intro wz hz; skip; go_simp; try (with_reducible rfl))
        try simp only [Act.put, List.setIfInBounds_toArray, List.set_cons_zero, List.set_cons_succ]
        refine wpG_take (oi := ?oi30) (v := ?vv30) 31 _ ?hi30 (List.Mem.head _) ?hc30 ?hQ30 hF ?hw30 ?hy30 (fun hF => ?hh30)
        case hi30 => (simp only [List.getElem?_toArray, List.getElem?_cons_succ, List.getElem?_cons_zero]; rfl)
        case hc30 => kernel_rfl
        case hQ30 => exact fun _ _ _ h => h
        case hw30 => rfl
        case hy30 => (intro wz hz; have zc := hz.cy; go_simp; try (with_reducible rfl))
        try simp only [Act.put, List.setIfInBounds_toArray, List.set_cons_zero, List.set_cons_succ]
        refine wpG_take (oi := ?oi31) (v := ?vv31) 32 _ ?hi31 (List.Mem.tail _ (List.Mem.head _)) ?hc31 ?hQ31 hF ?hw31 ?hy31 (fun hF => ?hh31)
        case hi31 => (simp only [List.getElem?_toArray, List.getElem?_cons_succ, List.getElem?_cons_zero]; rfl)
        case hc31 => kernel_rfl
        case hQ31 => exact fun _ _ _ h => h
        case hw31 => rfl
        case hy31 => (intro wz hz; skip; go_simp; try (with_reducible rfl))
        try simp only [Act.put, List.setIfInBounds_toArray, List.set_cons_zero, List.set_cons_succ]
        refine wpG_take (oi := ?oi32) (v := ?vv32) 33 _ ?hi32 (List.Mem.tail _ (List.Mem.head _)) ?hc32 ?hQ32 hF ?hw32 ?hy32 (fun hF => ?hh32)
        case hi32 => (simp only [List.getElem?_toArray, List.getElem?_cons_succ, List.getElem?_cons_zero]; rfl)
        case hc32 => kernel_rfl
        case hQ32 => exact fun _ _ _ h => h
        case hw32 => rfl
        case hy32 => (intro wz hz; have zc := hz.t0; go_simp; try (with_reducible rfl))
        try simp only [Act.put, List.setIfInBounds_toArray, List.set_cons_zero, List.set_cons_succ]
        have fbx : some L.b ≠ (v x).ownBlock := fun e => (HNW.out.far x x1 _ e.symm).1 rfl
        have fby : some L.b ≠ (v y).ownBlock := fun e => (HNW.out.far y y1 _ e.symm).1 rfl
        have fnx : some L.bn ≠ (v x).ownBlock := fun e => (HNW.out.far x x1 _ e.symm).2.2 rfl
        have fny : some L.bn ≠ (v y).ownBlock := fun e => (HNW.out.far y y1 _ e.symm).2.2 rfl
        have ftx := HTF.out x x1
        have fty := HTF.out y y1
        have ixy := HNW.out.inj y y1 x x1 (Ne.symm HXY.out)
        have blx := fun q hq => HNW.out.blk x1 (q := q) hq
        have bly := fun q hq => HNW.out.blk y1 (q := q) hq
        have xW := NX.out.lb
        have lenx : (adjN ex ey x j).length ≤ 40 := Nat.le_trans (adjN_len ex ey x j) (by omega)
        have leny : (adjN ex ey y j).length ≤ 40 := Nat.le_trans (adjN_len ex ey y j) (by omega)
        have HIX := Lib.hid ixy; have HBLX := Lib.hid blx; have HBLY := Lib.hid bly
        clear ixy blx bly
        refine wpG_ready (rs := [22, 34]) (by kernel_rfl) (by simp) ?_
        refine all_two ?_ ?_
        · skip
          refine wpOp_hand (oi := ?oi33) ?hi33 (fun K hK => ?hh33)
          case hi33 => (simp only [List.getElem?_toArray, List.getElem?_cons_succ, List.getElem?_cons_zero]; rfl)
          go_simp
          obtain ⟨Xa, hXa⟩ : ∃ X', X' = X.alloc (.cells #[.int .i64 (y : Int)] 3) := ⟨_, rfl⟩
          have bXa : Below X.heap.size X Xa := by rw [hXa]; exact (Below.refl _ _).alloc (Nat.le_refl _) _
          have pXa : Xa.cell? ⟨X.heap.size, 0, none⟩ = some (.int .i64 (y : Int)) := by rw [hXa]; simp
          have lXa : X.heap.size < Xa.heap.size := by rw [hXa]; simp
          rw [← hXa]
          have BXa := Lib.hid bXa; have PXa := Lib.hid pXa; have EXa := Lib.hid (EX.out.below bXa)
          clear hXa bXa pXa
          refine hK.out _ _ (heldC_two (fun _ => EXa.out) (fun _ => EXa.out.d)) (fun hF => ?_)
          clear hK K
          try simp only [Act.put, List.setIfInBounds_toArray, List.set_cons_zero, List.set_cons_succ]
          refine wpG_ready (rs := [23, 34]) (by kernel_rfl) (by simp) ?_
          refine all_two ?_ ?_
          · skip
            have own10 : Xa.ownsRow w.heap.size 3 1 (v x) (adjN ex ey x j).length (natsV (adjN ex ey x j)) := own_kept_none (NX.out.own x x1) BXa.out
            have pc1 := PXa.out
            have sz1 : w.heap.size ≤ Xa.heap.size := by omega
            refine wpOp_hand (oi := ?oi34) ?hi34 (fun K hK => ?hh34)
            case hi34 => (simp only [List.getElem?_toArray, List.getElem?_cons_succ, List.getElem?_cons_zero]; rfl)
            refine step_append_any (by rfl) (.tmp 72) (.tmp 75) _ (by rfl) w.heap.size 3 iI _ 1 8 Tryd.underlying35 hI0 hI1 hI2 hI3 rfl (by omega) (v x) (adjN ex ey x j).length (natsV (adjN ex ey x j)) (by rfl) own10 ⟨X.heap.size, 0, none⟩ 1 1 [.int .i64 (y : Int)] (by rfl) rfl (one_cell pc1) (fun u hu => by simp at hu; subst hu; rfl) (by unfold maxLen; omega) (by omega) sz1 ?_
            intro v1 Wb hown1 hgr1 hat1
            obtain ⟨g1, gc1, hv1, _, _⟩ := hown1.form (by omega)
            subst hv1
            have EWb := Lib.hid (EXa.out.grown hgr1 fbx ftx fnx)
            have HOWN1 := Lib.hid hown1; have HGR1 := Lib.hid hgr1; have HAT1 := Lib.hid hat1
            have sw1 := hgr1.size
            clear hown1 hgr1 hat1 own10 pc1
            refine hK.out _ _ (heldC_two (fun _ => EWb.out) (fun _ => EWb.out.d)) (fun hF => ?_)
            clear hK K
            try simp only [Act.put, List.setIfInBounds_toArray, List.set_cons_zero, List.set_cons_succ]
            refine wpG_ready (rs := [34]) (by kernel_rfl) (by simp) ?_
            refine all_one ?_
            refine wpOp_hand (oi := ?oi35) ?hi35 (fun K hK => ?hh35)
            case hi35 => (simp only [List.getElem?_toArray, List.getElem?_cons_succ, List.getElem?_cons_zero]; rfl)
            go_simp
            obtain ⟨Xc, hXc⟩ : ∃ X', X' = Wb.alloc (.cells #[.int .i64 (x : Int)] 3) := ⟨_, rfl⟩
            have bXc : Below Wb.heap.size Wb Xc := by rw [hXc]; exact (Below.refl _ _).alloc (Nat.le_refl _) _
            have pXc : Xc.cell? ⟨Wb.heap.size, 0, none⟩ = some (.int .i64 (x : Int)) := by rw [hXc]; simp
            have lXc : Wb.heap.size < Xc.heap.size := by rw [hXc]; simp
            rw [← hXc]
            have BXc := Lib.hid bXc; have PXc := Lib.hid pXc; have EXc := Lib.hid (EWb.out.below bXc)
            clear hXc bXc pXc
            refine hK.out _ _ (heldC_two (fun _ => EXc.out) (fun _ => EXc.out.d)) (fun hF => ?_)
            clear hK K
            try simp only [Act.put, List.setIfInBounds_toArray, List.set_cons_zero, List.set_cons_succ]
            refine wpG_ready (rs := [35]) (by kernel_rfl) (by simp) ?_
            refine all_one ?_
            have own20 : Xc.ownsRow w.heap.size 3 1 (v y) (adjN ex ey y j).length (natsV (adjN ex ey y j)) := own_kept_none (own_kept_if (own_kept_none (NX.out.own y y1) BXa.out) HGR1.out HIX.out) BXc.out
            have pc2 := PXc.out
            have sz2 : w.heap.size ≤ Xc.heap.size := by omega
            refine wpOp_hand (oi := ?oi36) ?hi36 (fun K hK => ?hh36)
            case hi36 => (simp only [List.getElem?_toArray, List.getElem?_cons_succ, List.getElem?_cons_zero]; rfl)
            refine step_append_any (by rfl) (.tmp 84) (.tmp 87) _ (by rfl) w.heap.size 3 iI _ 1 8 Tryd.underlying35 hI0 hI1 hI2 hI3 rfl (by omega) (v y) (adjN ex ey y j).length (natsV (adjN ex ey y j)) (by rfl) own20 ⟨Wb.heap.size, 0, none⟩ 1 1 [.int .i64 (x : Int)] (by rfl) rfl (one_cell pc2) (fun u hu => by simp at hu; subst hu; rfl) (by unfold maxLen; omega) (by omega) sz2 ?_
            intro v2 Wd hown2 hgr2 hat2
            obtain ⟨g2, gc2, hv2, _, _⟩ := hown2.form (by omega)
            subst hv2
            have EWd := Lib.hid (EXc.out.grown hgr2 fby fty fny)
            have HOWN2 := Lib.hid hown2; have HGR2 := Lib.hid hgr2; have HAT2 := Lib.hid hat2
            have sw2 := hgr2.size
            clear hown2 hgr2 hat2 own20 pc2
            refine hK.out _ _ (heldC_two (fun _ => EWd.out) (fun _ => EWd.out.d)) (fun hF => ?_)
            clear hK K
            try simp only [Act.put, List.setIfInBounds_toArray, List.set_cons_zero, List.set_cons_succ]
            refine wpG_take (oi := ?oi37) (v := ?vv37) 36 _ ?hi37 (List.Mem.head _) ?hc37 ?hQ37 hF ?hw37 ?hy37 (fun hF => ?hh37)
            case hi37 => (simp only [List.getElem?_toArray, List.getElem?_cons_succ, List.getElem?_cons_zero]; rfl)
            case hc37 => kernel_rfl
            case hQ37 => exact fun _ _ _ h => h
            case hw37 => rfl
            case hy37 => (intro wz hz; skip; go_simp; try (with_reducible rfl))
            try simp only [Act.put, List.setIfInBounds_toArray, List.set_cons_zero, List.set_cons_succ]
            have cx := EWd.out.cx; have fx := EWd.out.fx
            refine wpG_ready (rs := [37]) (by kernel_rfl) (by simp) ?_
            refine all_one ?_
            refine wpOp_hand (oi := ?oi38) ?hi38 (fun K hK => ?hh38)
            case hi38 => (simp only [List.getElem?_toArray, List.getElem?_cons_succ, List.getElem?_cons_zero]; rfl)
            go_simp
            have D1 := Lib.hid (EWd.out.d.grown (setCell_grown Wd L.bn x (.slice (some ⟨g1, 0, none⟩) ((adjN ex ey x j).length + 1) gc1)) (fun e => HNW.out.bbn (Option.some.inj e)) (fun e => tn (Option.some.inj e)))
            refine hK.out _ _ (heldC_two (fun h => absurd h (by simp)) (fun _ => D1.out)) (fun hF => ?_)
            clear hK K
            try simp only [Act.put, List.setIfInBounds_toArray, List.set_cons_zero, List.set_cons_succ]
            refine wpG_take (oi := ?oi39) (v := ?vv39) 38 _ ?hi39 (List.Mem.tail _ (List.Mem.head _)) ?hc39 ?hQ39 hF ?hw39 ?hy39 (fun hF => ?hh39)
            case hi39 => (simp only [List.getElem?_toArray, List.getElem?_cons_succ, List.getElem?_cons_zero]; rfl)
            case hc39 => kernel_rfl
            case hQ39 => exact fun _ _ _ h => h
            case hw39 => rfl
            case hy39 => (intro wz hz; skip; go_simp; try (with_reducible rfl))
            try simp only [Act.put, List.setIfInBounds_toArray, List.set_cons_zero, List.set_cons_succ]
            have cy : (Wd.setCell ⟨L.bn, x, none⟩ (.slice (some ⟨g1, 0, none⟩) ((adjN ex ey x j).length + 1) gc1)).cell? ⟨L.bn, y, none⟩ = some (v y) := (World.cell?_setCell_other Wd _ _ _ (by intro e; injection e with _ e; exact HXY.out e)).trans EWd.out.cy
            have fy : (Wd.setCell ⟨L.bn, x, none⟩ (.slice (some ⟨g1, 0, none⟩) ((adjN ex ey x j).length + 1) gc1)).frozen? ⟨L.bn, y, none⟩ = false := by rw [World.frozen?_setCell]; exact EWd.out.fy
            refine wpG_ready (rs := [39]) (by kernel_rfl) (by simp) ?_
            refine all_one ?_
            refine wpOp_hand (oi := ?oi40) ?hi40 (fun K hK => ?hh40)
            case hi40 => (simp only [List.getElem?_toArray, List.getElem?_cons_succ, List.getElem?_cons_zero]; rfl)
            go_simp
            refine hK.out _ _ (heldC_two (fun h => absurd h (by simp)) (fun h => absurd h (by simp))) (fun hF => ?_)
            clear hK K
            try simp only [Act.put, List.setIfInBounds_toArray, List.set_cons_zero, List.set_cons_succ]
            refine wpG_done (by kernel_rfl) ?_ _
            have ed := NX.out.edge x1 y1 HXY.out BXa.out (by omega) HGR1.out (by rw [natsV_snoc, List.length_append]; exact HOWN1.out) HAT1.out BXc.out HGR2.out (by rw [natsV_snoc, List.length_append]; exact HOWN2.out) HAT2.out
            have ED := Lib.hid ed
            clear ed cx fx cy fy
            go_wp2_with fail
            go_roundw
            case rel => exact ⟨j + 1, _, by omega, by go_num, adj_edge HX.out HY.out HXY.out ED.out.1, BX.out.trans ED.out.2⟩
            case measure => simp [intOf]; omega
          · skip
            refine wpOp_hand (oi := ?oi41) ?hi41 (fun K hK => ?hh41)
            case hi41 => (simp only [List.getElem?_toArray, List.getElem?_cons_succ, List.getElem?_cons_zero]; rfl)
            go_simp
            obtain ⟨Xb, hXb⟩ : ∃ X', X' = Xa.alloc (.cells #[.int .i64 (x : Int)] 3) := ⟨_, rfl⟩
            have bXb : Below Xa.heap.size Xa Xb := by rw [hXb]; exact (Below.refl _ _).alloc (Nat.le_refl _) _
            have pXb : Xb.cell? ⟨Xa.heap.size, 0, none⟩ = some (.int .i64 (x : Int)) := by rw [hXb]; simp
            have lXb : Xa.heap.size < Xb.heap.size := by rw [hXb]; simp
            rw [← hXb]
            have BXb := Lib.hid bXb; have PXb := Lib.hid pXb; have EXb := Lib.hid (EXa.out.below bXb)
            clear hXb bXb pXb
            refine hK.out _ _ (heldC_two (fun _ => EXb.out) (fun _ => EXb.out.d)) (fun hF => ?_)
            clear hK K
            try simp only [Act.put, List.setIfInBounds_toArray, List.set_cons_zero, List.set_cons_succ]
            refine wpG_ready (rs := [23]) (by kernel_rfl) (by simp) ?_
            refine all_one ?_
            have own10 : Xb.ownsRow w.heap.size 3 1 (v x) (adjN ex ey x j).length (natsV (adjN ex ey x j)) := own_kept_none (own_kept_none (NX.out.own x x1) BXa.out) BXb.out
            have pc1 := ((BXb.out.cell (p := ⟨X.heap.size, 0, none⟩) lXa).trans PXa.out)
            have sz1 : w.heap.size ≤ Xb.heap.size := by omega
            refine wpOp_hand (oi := ?oi42) ?hi42 (fun K hK => ?hh42)
            case hi42 => (simp only [List.getElem?_toArray, List.getElem?_cons_succ, List.getElem?_cons_zero]; rfl)
            refine step_append_any (by rfl) (.tmp 72) (.tmp 75) _ (by rfl) w.heap.size 3 iI _ 1 8 Tryd.underlying35 hI0 hI1 hI2 hI3 rfl (by omega) (v x) (adjN ex ey x j).length (natsV (adjN ex ey x j)) (by rfl) own10 ⟨X.heap.size, 0, none⟩ 1 1 [.int .i64 (y : Int)] (by rfl) rfl (one_cell pc1) (fun u hu => by simp at hu; subst hu; rfl) (by unfold maxLen; omega) (by omega) sz1 ?_
            intro v1 Wb hown1 hgr1 hat1
            obtain ⟨g1, gc1, hv1, _, _⟩ := hown1.form (by omega)
            subst hv1
            have EWb := Lib.hid (EXb.out.grown hgr1 fbx ftx fnx)
            have HOWN1 := Lib.hid hown1; have HGR1 := Lib.hid hgr1; have HAT1 := Lib.hid hat1
            have sw1 := hgr1.size
            clear hown1 hgr1 hat1 own10 pc1
            refine hK.out _ _ (heldC_two (fun _ => EWb.out) (fun _ => EWb.out.d)) (fun hF => ?_)
            clear hK K
            try simp only [Act.put, List.setIfInBounds_toArray, List.set_cons_zero, List.set_cons_succ]
            refine wpG_ready (rs := [35]) (by kernel_rfl) (by simp) ?_
            refine all_one ?_
            have own20 : Wb.ownsRow w.heap.size 3 1 (v y) (adjN ex ey y j).length (natsV (adjN ex ey y j)) := own_kept_if (own_kept_none (own_kept_none (NX.out.own y y1) BXa.out) BXb.out) HGR1.out HIX.out
            have pc2 := ((HGR1.out.cell_far ⟨Xa.heap.size, 0, none⟩ lXb (fun e => by have := (HBLX.out Xa.heap.size e.symm).2; omega)).trans PXb.out)
            have sz2 : w.heap.size ≤ Wb.heap.size := by omega
            refine wpOp_hand (oi := ?oi43) ?hi43 (fun K hK => ?hh43)
            case hi43 => (simp only [List.getElem?_toArray, List.getElem?_cons_succ, List.getElem?_cons_zero]; rfl)
            refine step_append_any (by rfl) (.tmp 84) (.tmp 87) _ (by rfl) w.heap.size 3 iI _ 1 8 Tryd.underlying35 hI0 hI1 hI2 hI3 rfl (by omega) (v y) (adjN ex ey y j).length (natsV (adjN ex ey y j)) (by rfl) own20 ⟨Xa.heap.size, 0, none⟩ 1 1 [.int .i64 (x : Int)] (by rfl) rfl (one_cell pc2) (fun u hu => by simp at hu; subst hu; rfl) (by unfold maxLen; omega) (by omega) sz2 ?_
            intro v2 Wd hown2 hgr2 hat2
            obtain ⟨g2, gc2, hv2, _, _⟩ := hown2.form (by omega)
            subst hv2
            have EWd := Lib.hid (EWb.out.grown hgr2 fby fty fny)
            have HOWN2 := Lib.hid hown2; have HGR2 := Lib.hid hgr2; have HAT2 := Lib.hid hat2
            have sw2 := hgr2.size
            clear hown2 hgr2 hat2 own20 pc2
            refine hK.out _ _ (heldC_two (fun _ => EWd.out) (fun _ => EWd.out.d)) (fun hF => ?_)
            clear hK K
            try simp only [Act.put, List.setIfInBounds_toArray, List.set_cons_zero, List.set_cons_succ]
            refine wpG_take (oi := ?oi44) (v := ?vv44) 36 _ ?hi44 (List.Mem.head _) ?hc44 ?hQ44 hF ?hw44 ?hy44 (fun hF => ?hh44)
            case hi44 => (simp only [List.getElem?_toArray, List.getElem?_cons_succ, List.getElem?_cons_zero]; rfl)
            case hc44 => kernel_rfl
            case hQ44 => exact fun _ _ _ h => h
            case hw44 => rfl
            case hy44 => (intro wz hz; skip; go_simp; try (with_reducible rfl))
            try simp only [Act.put, List.setIfInBounds_toArray, List.set_cons_zero, List.set_cons_succ]
            have cx := EWd.out.cx; have fx := EWd.out.fx
            refine wpG_ready (rs := [37]) (by kernel_rfl) (by simp) ?_
            refine all_one ?_
            refine wpOp_hand (oi := ?oi45) ?hi45 (fun K hK => ?hh45)
            case hi45 => (simp only [List.getElem?_toArray, List.getElem?_cons_succ, List.getElem?_cons_zero]; rfl)
            go_simp
            have D1 := Lib.hid (EWd.out.d.grown (setCell_grown Wd L.bn x (.slice (some ⟨g1, 0, none⟩) ((adjN ex ey x j).length + 1) gc1)) (fun e => HNW.out.bbn (Option.some.inj e)) (fun e => tn (Option.some.inj e)))
            refine hK.out _ _ (heldC_two (fun h => absurd h (by simp)) (fun _ => D1.out)) (fun hF => ?_)
            clear hK K
            try simp only [Act.put, List.setIfInBounds_toArray, List.set_cons_zero, List.set_cons_succ]
            refine wpG_take (oi := ?oi46) (v := ?vv46) 38 _ ?hi46 (List.Mem.tail _ (List.Mem.head _)) ?hc46 ?hQ46 hF ?hw46 ?hy46 (fun hF => ?hh46)
            case hi46 => (simp only [List.getElem?_toArray, List.getElem?_cons_succ, List.getElem?_cons_zero]; rfl)
            case hc46 => kernel_rfl
            case hQ46 => exact fun _ _ _ h => h
            case hw46 => rfl
            case hy46 => (intro wz hz; skip; go_simp; try (with_reducible rfl))
            try simp only [Act.put, List.setIfInBounds_toArray, List.set_cons_zero, List.set_cons_succ]
            have cy : (Wd.setCell ⟨L.bn, x, none⟩ (.slice (some ⟨g1, 0, none⟩) ((adjN ex ey x j).length + 1) gc1)).cell? ⟨L.bn, y, none⟩ = some (v y) := (World.cell?_setCell_other Wd _ _ _ (by intro e; injection e with _ e; exact HXY.out e)).trans EWd.out.cy
            have fy : (Wd.setCell ⟨L.bn, x, none⟩ (.slice (some ⟨g1, 0, none⟩) ((adjN ex ey x j).length + 1) gc1)).frozen? ⟨L.bn, y, none⟩ = false := by rw [World.frozen?_setCell]; exact EWd.out.fy
            refine wpG_ready (rs := [39]) (by kernel_rfl) (by simp) ?_
            refine all_one ?_
            refine wpOp_hand (oi := ?oi47) ?hi47 (fun K hK => ?hh47)
            case hi47 => (simp only [List.getElem?_toArray, List.getElem?_cons_succ, List.getElem?_cons_zero]; rfl)
            go_simp
            refine hK.out _ _ (heldC_two (fun h => absurd h (by simp)) (fun h => absurd h (by simp))) (fun hF => ?_)
            clear hK K
            try simp only [Act.put, List.setIfInBounds_toArray, List.set_cons_zero, List.set_cons_succ]
            refine wpG_done (by kernel_rfl) ?_ _
            have ed := NX.out.edge x1 y1 HXY.out (BXa.out.trans (BXb.out.mono BXa.out.size)) (by omega) HGR1.out (by rw [natsV_snoc, List.length_append]; exact HOWN1.out) HAT1.out (Below.refl _ _) HGR2.out (by rw [natsV_snoc, List.length_append]; exact HOWN2.out) HAT2.out
            have ED := Lib.hid ed
            clear ed cx fx cy fy
            go_wp2_with fail
            go_roundw
            case rel => exact ⟨j + 1, _, by omega, by go_num, adj_edge HX.out HY.out HXY.out ED.out.1, BX.out.trans ED.out.2⟩
            case measure => simp [intOf]; omega
        · skip
          refine wpOp_hand (oi := ?oi48) ?hi48 (fun K hK => ?hh48)
          case hi48 => (simp only [List.getElem?_toArray, List.getElem?_cons_succ, List.getElem?_cons_zero]; rfl)
          go_simp
          obtain ⟨Xa, hXa⟩ : ∃ X', X' = X.alloc (.cells #[.int .i64 (x : Int)] 3) := ⟨_, rfl⟩
          have bXa : Below X.heap.size X Xa := by rw [hXa]; exact (Below.refl _ _).alloc (Nat.le_refl _) _
          have pXa : Xa.cell? ⟨X.heap.size, 0, none⟩ = some (.int .i64 (x : Int)) := by rw [hXa]; simp
          have lXa : X.heap.size < Xa.heap.size := by rw [hXa]; simp
          rw [← hXa]
          have BXa := Lib.hid bXa; have PXa := Lib.hid pXa; have EXa := Lib.hid (EX.out.below bXa)
          clear hXa bXa pXa
          refine hK.out _ _ (heldC_two (fun _ => EXa.out) (fun _ => EXa.out.d)) (fun hF => ?_)
          clear hK K
          try simp only [Act.put, List.setIfInBounds_toArray, List.set_cons_zero, List.set_cons_succ]
          refine wpG_ready (rs := [22]) (by kernel_rfl) (by simp) ?_
          refine all_one ?_
          refine wpOp_hand (oi := ?oi49) ?hi49 (fun K hK => ?hh49)
          case hi49 => (simp only [List.getElem?_toArray, List.getElem?_cons_succ, List.getElem?_cons_zero]; rfl)
          go_simp
          obtain ⟨Xb, hXb⟩ : ∃ X', X' = Xa.alloc (.cells #[.int .i64 (y : Int)] 3) := ⟨_, rfl⟩
          have bXb : Below Xa.heap.size Xa Xb := by rw [hXb]; exact (Below.refl _ _).alloc (Nat.le_refl _) _
          have pXb : Xb.cell? ⟨Xa.heap.size, 0, none⟩ = some (.int .i64 (y : Int)) := by rw [hXb]; simp
          have lXb : Xa.heap.size < Xb.heap.size := by rw [hXb]; simp
          rw [← hXb]
          have BXb := Lib.hid bXb; have PXb := Lib.hid pXb; have EXb := Lib.hid (EXa.out.below bXb)
          clear hXb bXb pXb
          refine hK.out _ _ (heldC_two (fun _ => EXb.out) (fun _ => EXb.out.d)) (fun hF => ?_)
          clear hK K
          try simp only [Act.put, List.setIfInBounds_toArray, List.set_cons_zero, List.set_cons_succ]
          refine wpG_ready (rs := [23]) (by kernel_rfl) (by simp) ?_
          refine all_one ?_
          have own10 : Xb.ownsRow w.heap.size 3 1 (v x) (adjN ex ey x j).length (natsV (adjN ex ey x j)) := own_kept_none (own_kept_none (NX.out.own x x1) BXa.out) BXb.out
          have pc1 := PXb.out
          have sz1 : w.heap.size ≤ Xb.heap.size := by omega
          refine wpOp_hand (oi := ?oi50) ?hi50 (fun K hK => ?hh50)
          case hi50 => (simp only [List.getElem?_toArray, List.getElem?_cons_succ, List.getElem?_cons_zero]; rfl)
          refine step_append_any (by rfl) (.tmp 72) (.tmp 75) _ (by rfl) w.heap.size 3 iI _ 1 8 Tryd.underlying35 hI0 hI1 hI2 hI3 rfl (by omega) (v x) (adjN ex ey x j).length (natsV (adjN ex ey x j)) (by rfl) own10 ⟨Xa.heap.size, 0, none⟩ 1 1 [.int .i64 (y : Int)] (by rfl) rfl (one_cell pc1) (fun u hu => by simp at hu; subst hu; rfl) (by unfold maxLen; omega) (by omega) sz1 ?_
          intro v1 Wb hown1 hgr1 hat1
          obtain ⟨g1, gc1, hv1, _, _⟩ := hown1.form (by omega)
          subst hv1
          have EWb := Lib.hid (EXb.out.grown hgr1 fbx ftx fnx)
          have HOWN1 := Lib.hid hown1; have HGR1 := Lib.hid hgr1; have HAT1 := Lib.hid hat1
          have sw1 := hgr1.size
          clear hown1 hgr1 hat1 own10 pc1
          refine hK.out _ _ (heldC_two (fun _ => EWb.out) (fun _ => EWb.out.d)) (fun hF => ?_)
          clear hK K
          try simp only [Act.put, List.setIfInBounds_toArray, List.set_cons_zero, List.set_cons_succ]
          refine wpG_ready (rs := [35]) (by kernel_rfl) (by simp) ?_
          refine all_one ?_
          have own20 : Wb.ownsRow w.heap.size 3 1 (v y) (adjN ex ey y j).length (natsV (adjN ex ey y j)) := own_kept_if (own_kept_none (own_kept_none (NX.out.own y y1) BXa.out) BXb.out) HGR1.out HIX.out
          have pc2 := ((HGR1.out.cell_far ⟨X.heap.size, 0, none⟩ (Nat.lt_of_lt_of_le lXa BXb.out.size) (fun e => by have := (HBLX.out X.heap.size e.symm).2; omega)).trans ((BXb.out.cell (p := ⟨X.heap.size, 0, none⟩) lXa).trans PXa.out))
          have sz2 : w.heap.size ≤ Wb.heap.size := by omega
          refine wpOp_hand (oi := ?oi51) ?hi51 (fun K hK => ?hh51)
          case hi51 => (simp only [List.getElem?_toArray, List.getElem?_cons_succ, List.getElem?_cons_zero]; rfl)
          refine step_append_any (by rfl) (.tmp 84) (.tmp 87) _ (by rfl) w.heap.size 3 iI _ 1 8 Tryd.underlying35 hI0 hI1 hI2 hI3 rfl (by omega) (v y) (adjN ex ey y j).length (natsV (adjN ex ey y j)) (by rfl) own20 ⟨X.heap.size, 0, none⟩ 1 1 [.int .i64 (x : Int)] (by rfl) rfl (one_cell pc2) (fun u hu => by simp at hu; subst hu; rfl) (by unfold maxLen; omega) (by omega) sz2 ?_
          intro v2 Wd hown2 hgr2 hat2
          obtain ⟨g2, gc2, hv2, _, _⟩ := hown2.form (by omega)
          subst hv2
          have EWd := Lib.hid (EWb.out.grown hgr2 fby fty fny)
          have HOWN2 := Lib.hid hown2; have HGR2 := Lib.hid hgr2; have HAT2 := Lib.hid hat2
          have sw2 := hgr2.size
          clear hown2 hgr2 hat2 own20 pc2
          refine hK.out _ _ (heldC_two (fun _ => EWd.out) (fun _ => EWd.out.d)) (fun hF => ?_)
          clear hK K
          try simp only [Act.put, List.setIfInBounds_toArray, List.set_cons_zero, List.set_cons_succ]
          refine wpG_take (oi := ?oi52) (v := ?vv52) 36 _ ?hi52 (List.Mem.head _) ?hc52 ?hQ52 hF ?hw52 ?hy52 (fun hF => ?hh52)
          case hi52 => (simp only [List.getElem?_toArray, List.getElem?_cons_succ, List.getElem?_cons_zero]; rfl)
          case hc52 => kernel_rfl
          case hQ52 => exact fun _ _ _ h => h
          case hw52 => rfl
          case hy52 => (intro wz hz; skip; go_simp; try (with_reducible rfl))
          try simp only [Act.put, List.setIfInBounds_toArray, List.set_cons_zero, List.set_cons_succ]
          have cx := EWd.out.cx; have fx := EWd.out.fx
          refine wpG_ready (rs := [37]) (by kernel_rfl) (by simp) ?_
          refine all_one ?_
          refine wpOp_hand (oi := ?oi53) ?hi53 (fun K hK => ?hh53)
          case hi53 => (simp only [List.getElem?_toArray, List.getElem?_cons_succ, List.getElem?_cons_zero]; rfl)
          go_simp
          have D1 := Lib.hid (EWd.out.d.grown (setCell_grown Wd L.bn x (.slice (some ⟨g1, 0, none⟩) ((adjN ex ey x j).length + 1) gc1)) (fun e => HNW.out.bbn (Option.some.inj e)) (fun e => tn (Option.some.inj e)))
          refine hK.out _ _ (heldC_two (fun h => absurd h (by simp)) (fun _ => D1.out)) (fun hF => ?_)
          clear hK K
          try simp only [Act.put, List.setIfInBounds_toArray, List.set_cons_zero, List.set_cons_succ]
          refine wpG_take (oi := ?oi54) (v := ?vv54) 38 _ ?hi54 (List.Mem.tail _ (List.Mem.head _)) ?hc54 ?hQ54 hF ?hw54 ?hy54 (fun hF => ?hh54)
          case hi54 => (simp only [List.getElem?_toArray, List.getElem?_cons_succ, List.getElem?_cons_zero]; rfl)
          case hc54 => kernel_rfl
          case hQ54 => exact fun _ _ _ h => h
          case hw54 => rfl
          case hy54 => (intro wz hz; skip; go_simp; try (with_reducible rfl))
          try simp only [Act.put, List.setIfInBounds_toArray, List.set_cons_zero, List.set_cons_succ]
          have cy : (Wd.setCell ⟨L.bn, x, none⟩ (.slice (some ⟨g1, 0, none⟩) ((adjN ex ey x j).length + 1) gc1)).cell? ⟨L.bn, y, none⟩ = some (v y) := (World.cell?_setCell_other Wd _ _ _ (by intro e; injection e with _ e; exact HXY.out e)).trans EWd.out.cy
          have fy : (Wd.setCell ⟨L.bn, x, none⟩ (.slice (some ⟨g1, 0, none⟩) ((adjN ex ey x j).length + 1) gc1)).frozen? ⟨L.bn, y, none⟩ = false := by rw [World.frozen?_setCell]; exact EWd.out.fy
          refine wpG_ready (rs := [39]) (by kernel_rfl) (by simp) ?_
          refine all_one ?_
          refine wpOp_hand (oi := ?oi55) ?hi55 (fun K hK => ?hh55)
          case hi55 => (simp only [List.getElem?_toArray, List.getElem?_cons_succ, List.getElem?_cons_zero]; rfl)
          go_simp
          refine hK.out _ _ (heldC_two (fun h => absurd h (by simp)) (fun h => absurd h (by simp))) (fun hF => ?_)
          clear hK K
          try simp only [Act.put, List.setIfInBounds_toArray, List.set_cons_zero, List.set_cons_succ]
          refine wpG_done (by kernel_rfl) ?_ _
          have ed := NX.out.edge x1 y1 HXY.out (BXa.out.trans (BXb.out.mono BXa.out.size)) (by omega) HGR1.out (by rw [natsV_snoc, List.length_append]; exact HOWN1.out) HAT1.out (Below.refl _ _) HGR2.out (by rw [natsV_snoc, List.length_append]; exact HOWN2.out) HAT2.out
          have ED := Lib.hid ed
          clear ed cx fx cy fy
          go_wp2_with fail
          go_roundw
          case rel => exact ⟨j + 1, _, by omega, by go_num, adj_edge HX.out HY.out HXY.out ED.out.1, BX.out.trans ED.out.2⟩
          case measure => simp [intOf]; omega
      · obtain rfl : j = m := by omega
        obtain ⟨wE, rfl⟩ : ∃ wE : World, wE = wr := ⟨wr, rfl⟩
        have mk2 := mk_nts L.K k8
        have el := HN1.out.lb
        clear hb
        go_wp2_with fail
        go_loopw [93] (fun s wv => HeldR L wE s wv) (fun s _ => L.n - (intOf s).toNat)
        case atStart => exact ⟨0, .slice none 0 0, fun _ => 0, fun _ => 0, Nat.zero_le _, rfl, ⟨rfl, rfl, rfl, Nat.le_refl _, fun _ _ _ => rfl⟩, HN1.out.c0, HN1.out.c1, by rw [← HHV.out]; exact HN1.out.c2, HN1.out.f2, NLay.start _ _ _ _ _ _⟩
        case round =>
          obtain ⟨i, hv, rb, rc, hi, rfl, hg, c0, c1, c2, f2, hL⟩ := hrel
          have hes := hg.size
          have HG := Lib.hid hg; have HL := Lib.hid hL
          have wl : L.b < wr.heap.size := by omega
          clear hg hL
          by_cases hin : i < L.n
          · have i1 : (i : Int) < (L.n : Int) := by omega
            go_wp2_with fail
            have ec : wr.drew.cell? ⟨L.b, 2, none⟩ = some hv := c2
            refine wp_region_F (fun w' => w'.cell? ⟨L.b, 2, none⟩ = some hv) 12 (by kernel_rfl) ?_
            have hF := ec
            refine wpF_take (oi := ?oi56) (v := ?vv56) 0 ?hi56 ?hc56 ?hQ56 hF ?hw56 ?hy56 ?hh56
            case hi56 => (simp only [List.getElem?_toArray, List.getElem?_cons_succ, List.getElem?_cons_zero]; rfl)
            case hc56 => kernel_rfl
            case hQ56 => exact fun _ _ _ h => h
            case hw56 => rfl
            case hy56 => (intro wz hz; skip; go_simp; try (with_reducible rfl))
            try simp only [Act.put, List.setIfInBounds_toArray, List.set_cons_zero, List.set_cons_succ]
            refine wpF_take (oi := ?oi57) (v := ?vv57) 1 ?hi57 ?hc57 ?hQ57 hF ?hw57 ?hy57 ?hh57
            case hi57 => (simp only [List.getElem?_toArray, List.getElem?_cons_succ, List.getElem?_cons_zero]; rfl)
            case hc57 => kernel_rfl
            case hQ57 => exact fun _ _ _ h => h
            case hw57 => rfl
            case hy57 => (intro wz hz; skip; go_simp; try (with_reducible rfl))
            try simp only [Act.put, List.setIfInBounds_toArray, List.set_cons_zero, List.set_cons_succ]
            refine wpF_take (oi := ?oi58) (v := ?vv58) 2 ?hi58 ?hc58 ?hQ58 hF ?hw58 ?hy58 ?hh58
            case hi58 => (simp only [List.getElem?_toArray, List.getElem?_cons_succ, List.getElem?_cons_zero]; rfl)
            case hc58 => kernel_rfl
            case hQ58 => exact fun _ _ _ h => h
            case hw58 => rfl
            case hy58 => (intro wz hz; skip; go_simp; try (with_reducible rfl))
            try simp only [Act.put, List.setIfInBounds_toArray, List.set_cons_zero, List.set_cons_succ]
            refine wpF_take (oi := ?oi59) (v := ?vv59) 3 ?hi59 ?hc59 ?hQ59 hF ?hw59 ?hy59 ?hh59
            case hi59 => (simp only [List.getElem?_toArray, List.getElem?_cons_succ, List.getElem?_cons_zero]; rfl)
            case hc59 => kernel_rfl
            case hQ59 => exact fun _ _ _ h => h
            case hw59 => rfl
            case hy59 => (intro wz hz; skip; go_simp; try (with_reducible rfl))
            try simp only [Act.put, List.setIfInBounds_toArray, List.set_cons_zero, List.set_cons_succ]
            refine wpF_take (oi := ?oi60) (v := ?vv60) 4 ?hi60 ?hc60 ?hQ60 hF ?hw60 ?hy60 ?hh60
            case hi60 => (simp only [List.getElem?_toArray, List.getElem?_cons_succ, List.getElem?_cons_zero]; rfl)
            case hc60 => kernel_rfl
            case hQ60 => exact fun _ _ _ h => h
            case hw60 => rfl
            case hy60 => (intro wz hz; have zc := hz; go_simp; try (with_reducible rfl))
            try simp only [Act.put, List.setIfInBounds_toArray, List.set_cons_zero, List.set_cons_succ]
            refine wpF_take (oi := ?oi61) (v := ?vv61) 5 ?hi61 ?hc61 ?hQ61 hF ?hw61 ?hy61 ?hh61
            case hi61 => (simp only [List.getElem?_toArray, List.getElem?_cons_succ, List.getElem?_cons_zero]; rfl)
            case hc61 => kernel_rfl
            case hQ61 => exact fun _ _ _ h => h
            case hw61 => rfl
            case hy61 => (intro wz hz; skip; go_simp; try (with_reducible rfl))
            try simp only [Act.put, List.setIfInBounds_toArray, List.set_cons_zero, List.set_cons_succ]
            refine wpF_take (oi := ?oi62) (v := ?vv62) 6 ?hi62 ?hc62 ?hQ62 hF ?hw62 ?hy62 ?hh62
            case hi62 => (simp only [List.getElem?_toArray, List.getElem?_cons_succ, List.getElem?_cons_zero]; rfl)
            case hc62 => kernel_rfl
            case hQ62 => exact fun _ _ _ h => h
            case hw62 => rfl
            case hy62 => (intro wz hz; skip; go_simp; try (with_reducible rfl))
            try simp only [Act.put, List.setIfInBounds_toArray, List.set_cons_zero, List.set_cons_succ]
            obtain ⟨X, hX⟩ : ∃ X, X = wr.drew := ⟨_, rfl⟩
            rw [← hX] at hF ⊢
            have bX : Below wr.heap.size wr X := by rw [hX]; exact (Below.refl _ _).drew
            have HBX := Lib.hid bX
            have wX := bX.size
            clear hX bX ec c2
            refine wpF_step (oi := ?oi63) 7 ?hi63 ?hr63 (fun K hK => ?hh63)
            case hi63 => (simp only [List.getElem?_toArray, List.getElem?_cons_succ, List.getElem?_cons_zero]; rfl)
            case hr63 => kernel_rfl
            go_simp
            have V7 := made_zero X L.K
            have b7 := (Below.refl X.heap.size X).alloc (Nat.le_refl _) (.cells (madeCells #[.int .i64 0, .int .i64 0, .string ⟨#[]⟩, .int .i64 0] (L.K * 4)) 23)
            obtain ⟨X7, hX7⟩ : ∃ X7, X7 = X.alloc (.cells (madeCells #[.int .i64 0, .int .i64 0, .string ⟨#[]⟩, .int .i64 0] (L.K * 4)) 23) := ⟨_, rfl⟩
            obtain ⟨g, hgx⟩ : ∃ g, g = X.heap.size := ⟨_, rfl⟩
            rw [← hX7] at V7 b7 ⊢
            rw [← hgx] at V7 ⊢
            have hglo : wr.heap.size ≤ g := by omega
            have B7 := Lib.hid (HBX.out.trans (b7.mono wX))
            have F7 := (b7.cell (p := ⟨L.b, 2, none⟩) (by show L.b < _; omega)).trans hF
            have HV7 := Lib.hid V7
            have w7 := b7.size
            clear hX7 hgx V7 b7 hF
            have hF := F7
            refine hK.out _ _ (fun _ => hF) (fun _ => ?_)
            clear hK K
            try simp only [Act.put, List.setIfInBounds_toArray, List.set_cons_zero, List.set_cons_succ]
            refine wpF_step (oi := ?oi64) 8 ?hi64 ?hr64 (fun K hK => ?hh64)
            case hi64 => (simp only [List.getElem?_toArray, List.getElem?_cons_succ, List.getElem?_cons_zero]; rfl)
            case hr64 => kernel_rfl
            go_simp
            have b8 := (Below.refl X7.heap.size X7).alloc (Nat.le_refl _) (.cells #[.slice (some ⟨g, 0, none⟩) L.K L.K] 59)
            have NL7 := Lib.hid (HL.out.below B7.out)
            have F8 := (b8.cell (p := ⟨L.b, 2, none⟩) (by show L.b < _; omega)).trans hF
            have w8 := b8.size
            have own8 := own_kept_none NL7.out.own b8
            clear hF F7
            have hF := F8
            refine hK.out _ _ (fun _ => hF) (fun _ => ?_)
            clear hK K
            try simp only [Act.put, List.setIfInBounds_toArray, List.set_cons_zero, List.set_cons_succ]
            refine wpF_step (oi := ?oi65) 9 ?hi65 ?hr65 (fun K hK => ?hh65)
            case hi65 => (simp only [List.getElem?_toArray, List.getElem?_cons_succ, List.getElem?_cons_zero]; rfl)
            case hr65 => kernel_rfl
            refine step_append_any (by rfl) (.tmp 99) (.tmp 103) _ (by rfl) wE.heap.size 59 iS _ 1 24 Tryd.underlying56 hS0 hS1 hS2 hS3 rfl (by omega) hv i _ (by rfl) own8 ⟨X7.heap.size, 0, none⟩ 1 1 [.slice (some ⟨g, 0, none⟩) L.K L.K] (by rfl) rfl cells_one (fun u hu => by simp at hu; subst hu; rfl) (by unfold maxLen; omega) (by omega) (by omega) ?_
            intro v9 X9 hown9 hgr9 hat9
            obtain ⟨g9, gc9, hv9, _, _⟩ := hown9.form (by omega)
            subst hv9
            have F9 := (hgr9.cell_far ⟨L.b, 2, none⟩ (by show L.b < _; omega) (fun e => by have := (NL7.out.own.lt L.b e.symm).1; omega)).trans hF
            have bb8 := B7.out.trans ((Below.refl X7.heap.size X7).alloc (Nat.le_refl _) (.cells #[.slice (some ⟨g, 0, none⟩) L.K L.K] 59) |>.mono (by omega))
            have nfb : some L.b ≠ hv.ownBlock := fun e => by have := (NL7.out.own.lt L.b e.symm).1; omega
            have d0 := (hgr9.cell_far ⟨L.b, 0, none⟩ (by show L.b < _; omega) nfb).trans ((bb8.cell (p := ⟨L.b, 0, none⟩) wl).trans c0)
            have d1 := (hgr9.cell_far ⟨L.b, 1, none⟩ (by show L.b < _; omega) nfb).trans ((bb8.cell (p := ⟨L.b, 1, none⟩) wl).trans c1)
            have d2 := (hgr9.frozen_far ⟨L.b, 2, none⟩ (by show L.b < _; omega) nfb).trans ((bb8.frozen (p := ⟨L.b, 2, none⟩) wl).trans f2)
            have NS := NL7.out.step (F := fun _ => zeroF) HV7.out (by omega) (fun q hq e => by have := (HL.out.own.lt q hq).2; omega) (fun x hx e => by have := (HL.out.row x hx).lt; omega) (Nat.le_refl _) _ hown9 hgr9 (by simpa using hat9)
            have G9 : wE.grownBy X9 (some L.b) := by
              have g1 := HG.out
              refine ⟨by rw [hgr9.os, bb8.os, g1.os], by rw [hgr9.tape, bb8.tape, g1.tape], by rw [hgr9.output, bb8.output, g1.output], by have := hgr9.size; have := bb8.size; have := g1.size; omega, fun k hk hne => ?_⟩
              have hkw : k < wr.heap.size := by omega
              rw [hgr9.block k (by have := bb8.size; omega) (fun e => by have := (NL7.out.own.lt k e.symm).1; omega), bb8.block k hkw, g1.block k hk hne]
            have s9 := hgr9.size
            have D0 := Lib.hid d0; have D1 := Lib.hid d1; have HNS := Lib.hid NS; have HG9 := Lib.hid G9; have D2 := Lib.hid d2
            clear own8 hown9 hat9 d0 d1 NS G9 bb8 b8 nfb c0 c1 f2
            clear hF F8
            have hF := F9
            refine hK.out _ _ (fun _ => hF) (fun _ => ?_)
            clear hK K
            try simp only [Act.put, List.setIfInBounds_toArray, List.set_cons_zero, List.set_cons_succ]
            refine wpF_step (oi := ?oi66) 10 ?hi66 ?hr66 (fun K hK => ?hh66)
            case hi66 => (simp only [List.getElem?_toArray, List.getElem?_cons_succ, List.getElem?_cons_zero]; rfl)
            case hr66 => kernel_rfl
            go_simp
            refine hK.out _ _ (fun _ => hF) (fun _ => ?_)
            clear hK K
            try simp only [Act.put, List.setIfInBounds_toArray, List.set_cons_zero, List.set_cons_succ]
            refine wpF_step (oi := ?oi67) 11 ?hi67 ?hr67 (fun K hK => ?hh67)
            case hi67 => (simp only [List.getElem?_toArray, List.getElem?_cons_succ, List.getElem?_cons_zero]; rfl)
            case hr67 => kernel_rfl
            go_simp
            refine hK.out _ _ (fun _ => hF) (fun _ => ?_)
            clear hK K
            try simp only [Act.put, List.setIfInBounds_toArray, List.set_cons_zero, List.set_cons_succ]
            refine wpF_step (oi := ?oi68) 12 ?hi68 ?hr68 (fun K hK => ?hh68)
            case hi68 => (simp only [List.getElem?_toArray, List.getElem?_cons_succ, List.getElem?_cons_zero]; rfl)
            case hr68 => kernel_rfl
            go_simp
            have wl9 : L.b < X9.heap.size := by omega
            have sg := setCell_grown X9 L.b 2 (.slice (some ⟨g9, 0, none⟩) (i + 1) gc9)
            have HSG := Lib.hid sg
            have hF9 := hF
            refine hK.out _ _ (fun h => absurd h (by simp)) (fun _ => ?_)
            clear hK K
            try simp only [Act.put, List.setIfInBounds_toArray, List.set_cons_zero, List.set_cons_succ]
            refine wpF_done (by kernel_rfl) ?_ _
            clear hgr9 sg
            clear hF F9 d2
            have HF9 := Lib.hid hF9
            clear hF9
            go_wp2_with fail
            go_roundw
            case rel => exact ⟨i + 1, _, _, _, by omega, by go_num, HG9.out.trans HSG.out, (World.cell?_setCell_other X9 _ _ _ (by intro e; injection e with _ e; omega)).trans D0.out, (World.cell?_setCell_other X9 _ _ _ (by intro e; injection e with _ e; omega)).trans D1.out, World.cell?_setCell_same X9 _ _ HF9.out, by rw [World.frozen?_setCell]; exact D2.out, HNS.out.far HSG.out el⟩
            case measure => simp [intOf]; omega
          · obtain rfl : i = L.n := by omega
            obtain ⟨L', hb', hw'⟩ := NetW.made T S HN1.out hs HNE.out n1 HG.out c0 c1 c2 f2 HL.out
            have bE : Below w.heap.size w wr := ⟨HG.out.os.trans HB1.out.os, HG.out.tape.trans HB1.out.tape, HG.out.output.trans HB1.out.output, by have := HG.out.size; have := HB1.out.size; omega, fun k hk => (HG.out.block k (by have := HB1.out.size; omega) (fun e => by have := HN1.out.ob; have := Option.some.inj e; omega)).trans (HB1.out.block k hk)⟩
            have HW' := Lib.hid hw'; have HBE := Lib.hid bE
            clear hw' bE c0 c1 c2 f2
            go_wp2_with fail
            refine bodyPost_ret (v := .tuple #[.pointer (some ⟨L.b, 0, none⟩), .int .i64 0]) ?_ rfl ⟨L', by rw [hb'], by rw [← HKEYS.out]; exact HW'.out, HBE.out⟩
            simp [results, Tryd.results14, go_sem]

end Go.Proofs.YtocdboopmfgkpaaDoor
