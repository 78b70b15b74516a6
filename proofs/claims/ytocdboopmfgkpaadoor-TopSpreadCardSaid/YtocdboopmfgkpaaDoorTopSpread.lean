/- TopSpread, the walk: in a ring of nodes all hold the same notices in the end, whatever their order was, and each of them is right. -/
import Derived.Test.YtocdboopmfgkpaaDoorTwoNets
import Derived.Test.YtocdboopmfgkpaaDoorNoticeNumbers
import Derived.Test.YtocdboopmfgkpaaDoorOpen
import Derived.Test.YtocdboopmfgkpaaDoorRegH
import Derived.Test.YtocdboopmfgkpaaDoorSClocks
namespace Go.Proofs.YtocdboopmfgkpaaDoor
open Go.RowKit
set_option linter.unusedSimpArgs false
set_option linter.unusedVariables false

theorem sAtS_any (k n : Int) (w : World) (hn : 1 ≤ n) (hn' : n ≤ 4611686018427387904) :
    Calls Tryd.prog 20 #[.int .i64 k, .int .i64 n] w fun e w' => e = .returned (.int .i64 (k % n)) ∧ w = w' := by
  go_enter Tryd.func20, Tryd.ntmps20
  go_wp2_with fail
  go_ret
  exact ⟨ret_int (at_eq k n hn hn'), rfl⟩
theorem sAt_as (k n r : Int) (w : World) (hr : Hid (r = k % n)) (hn : 1 ≤ n) (hn' : n ≤ 4611686018427387904) :
    Calls Tryd.prog 20 #[.int .i64 k, .int .i64 n] w fun e w' => e = .returned (.int .i64 r) ∧ w = w' := by
  rw [hr.out]; exact sAtS_any k n w hn hn'

def ex6 (j : Nat) : Nat := j
def ey6 (j : Nat) : Nat := if j = 5 then 0 else j + 1
def chB : ByteArray := ⟨#[99, 104, 97, 110, 103, 101]⟩
def D6 : NetD := ⟨chB, fun a m => sumAll (ix [11, 12, 13] a) (ntL a m chB), 3, 6, ix [11, 12, 13], fun i => (adjN ex6 ey6 i 6).length, fun i j => ((adjN ex6 ey6 i 6)[j]?).getD 0⟩
theorem ok6 : NetOk D6 := ⟨(by decide : 1 ≤ 6), (by decide : 6 ≤ 12), (by decide : 1 ≤ 3), (by decide : 3 ≤ 8), (by decide : ∀ i, i < 6 → (adjN ex6 ey6 i 6).length ≤ 80), (by decide : ∀ i, i < 6 → ∀ j, j < (adjN ex6 ey6 i 6).length → ((adjN ex6 ey6 i 6)[j]?).getD 0 < 6)⟩
theorem nok6 : NewOk [11, 12, 13] 3 6 6 ex6 ey6 := ⟨by decide, by decide, by decide, by decide, by decide, by decide, by decide, by decide, by decide⟩
theorem reach6 : ∀ i, i < D6.n → ∀ j, j < D6.n → reachN D6 3 i j = true := by
  show ∀ i, i < 6 → ∀ j, j < 6 → reachN D6 3 i j = true
  decide
theorem deg6 : ∀ i, i < D6.n → 2 ≤ D6.deg i ∧ D6.deg i ≠ D6.K ∧ (D6.nbr i 0 ≠ 0 ∨ D6.nbr i 1 ≠ 0) := by
  show ∀ i, i < 6 → 2 ≤ (adjN ex6 ey6 i 6).length ∧ (adjN ex6 ey6 i 6).length ≠ 3 ∧ (((adjN ex6 ey6 i 6)[0]?).getD 0 ≠ 0 ∨ ((adjN ex6 ey6 i 6)[1]?).getD 0 ≠ 0)
  decide
theorem ch_ok (a : Nat) (n : Int) (a1 : a < 3) (n0 : 1 ≤ n) (n1 : n ≤ 9) : NtOk a n chB 0 := ⟨by omega, by omega, n0, by omega, by decide, by decide, by decide, by decide⟩
theorem key6 (a : Nat) (ha : a < 3) : 1 ≤ ix [11, 12, 13] a ∧ ix [11, 12, 13] a ≤ 1000000000 := by
  match a, ha with
  | 0, _ => decide
  | 1, _ => decide
  | 2, _ => decide
/-- The author, the number and the node of notice k. -/
def auS (zs : List Int) (k : Nat) : Nat := (ix zs k % 3).toNat
def nuS (zs : List Int) (k : Nat) : Int := 1 + IntKind.i64.wrap ((ix zs k).tdiv 3) % 9
def ndS (zs : List Int) (k : Nat) : Nat := (ix zs k % 6).toNat
theorem auS_lt (zs : List Int) (k : Nat) : auS zs k < 3 := by unfold auS; omega
theorem ndS_lt (zs : List Int) (k : Nat) : ndS zs k < 6 := by unfold ndS; omega
theorem nuS_r (zs : List Int) (k : Nat) : 1 ≤ nuS zs k ∧ nuS zs k ≤ 9 := by unfold nuS; omega

/-- Two networks and the keys. -/
structure T2 (La Lb : NetL) (A B kb : Nat) (wv : World) (Ha Hb : Nat → Nat → Int) : Prop where
  na : NetW D6 La A wv Ha
  nb : NetW D6 Lb B wv Hb
  pa : ∀ x y, 0 ≤ Ha x y ∧ Ha x y ≤ 9
  pb : ∀ x y, 0 ≤ Hb x y ∧ Hb x y ≤ 9
  key : ∀ j, j < 3 → wv.cell? ⟨kb, j, none⟩ = some (.int .i64 (ix [11, 12, 13] j))
  kl : kb < wv.heap.size
theorem T2.below {La Lb : NetL} {A B kb : Nat} {w w' : World} {Ha Hb : Nat → Nat → Int} (h : T2 La Lb A B kb w Ha Hb) (hb : Below w.heap.size w w') : T2 La Lb A B kb w' Ha Hb :=
  ⟨h.na.below hb, h.nb.below hb, h.pa, h.pb, fun j hj => (hb.cell (p := ⟨kb, j, none⟩) h.kl).trans (h.key j hj), Nat.lt_of_lt_of_le h.kl hb.size⟩
theorem T2.putA {La Lb : NetL} {A B kb : Nat} {w w6 : World} {Ha Hb : Nat → Nat → Int} (h : T2 La Lb A B kb w Ha Hb) (hF : ∀ i, i < D6.n → NetFar D6 Lb (some (La.hb i))) (hk : kb < A) (nd a : Nat) (m : Int) (hnd : nd < 6) (m0 : 0 ≤ m) (m9 : m ≤ 9)
    (hN : NetW D6 La A w6 (putH Ha nd a m)) (hg : w.grownBy w6 (some (La.hb nd))) : T2 La Lb A B kb w6 (putH Ha nd a m) Hb :=
  ⟨hN, h.nb.grown hg (hF nd hnd), putH_range nd a m 9 m0 m9 h.pa, h.pb, fun j hj => (hg.cell_far ⟨kb, j, none⟩ h.kl (fun e => by have := Option.some.inj e; have := h.na.oh nd hnd; simp at *; omega)).trans (h.key j hj), Nat.lt_of_lt_of_le h.kl hg.size⟩
theorem T2.putB {La Lb : NetL} {A B kb : Nat} {w w6 : World} {Ha Hb : Nat → Nat → Int} (h : T2 La Lb A B kb w Ha Hb) (hF : ∀ i, i < D6.n → NetFar D6 La (some (Lb.hb i))) (hk : kb < B) (nd a : Nat) (m : Int) (hnd : nd < 6) (m0 : 0 ≤ m) (m9 : m ≤ 9)
    (hN : NetW D6 Lb B w6 (putH Hb nd a m)) (hg : w.grownBy w6 (some (Lb.hb nd))) : T2 La Lb A B kb w6 Ha (putH Hb nd a m) :=
  ⟨h.na.grown hg (hF nd hnd), hN, h.pa, putH_range nd a m 9 m0 m9 h.pb, fun j hj => (hg.cell_far ⟨kb, j, none⟩ h.kl (fun e => by have := Option.some.inj e; have := h.nb.oh nd hnd; simp at *; omega)).trans (h.key j hj), Nat.lt_of_lt_of_le h.kl hg.size⟩

/-- The block of the two networks' pointers. -/
structure P2 (pb : Nat) (La Lb : NetL) (wv : World) : Prop where
  c0 : wv.cell? ⟨pb, 0, none⟩ = some (.pointer (some ⟨La.b, 0, none⟩))
  c1 : wv.cell? ⟨pb, 1, none⟩ = some (.pointer (some ⟨Lb.b, 0, none⟩))
  lt : pb < wv.heap.size
  na : ∀ i, i < 6 → La.hb i < pb
  nb : ∀ i, i < 6 → Lb.hb i < pb
theorem P2.below {pb : Nat} {La Lb : NetL} {w w' : World} (h : P2 pb La Lb w) (hb : Below w.heap.size w w') : P2 pb La Lb w' :=
  ⟨(hb.cell (p := ⟨pb, 0, none⟩) h.lt).trans h.c0, (hb.cell (p := ⟨pb, 1, none⟩) h.lt).trans h.c1, Nat.lt_of_lt_of_le h.lt hb.size, h.na, h.nb⟩
theorem P2.put {pb x : Nat} {La Lb : NetL} {w w' : World} (h : P2 pb La Lb w) (hg : w.grownBy w' (some x)) (hx : x < pb) : P2 pb La Lb w' :=
  have ne : some pb ≠ some x := fun e => by have := Option.some.inj e; omega
  ⟨(hg.cell_far ⟨pb, 0, none⟩ h.lt ne).trans h.c0, (hg.cell_far ⟨pb, 1, none⟩ h.lt ne).trans h.c1, Nat.lt_of_lt_of_le h.lt hg.size, h.na, h.nb⟩

set_option maxRecDepth 100000 in
set_option maxHeartbeats 40000000 in
theorem topSpread_walk (A1 : Option Addr) (n1 c1 : Nat) (zs1 : List Int) (A2 : Option Addr) (n2 c2 : Nat) (zs2 : List Int) (turn : Int) (w : World) (ht : Tab w) (h1 : FlatSl w 1 A1 n1 c1 zs1) (h2 : FlatSl w 1 A2 n2 c2 zs2) :
    Calls Tryd.prog 7 #[.slice A1 n1 c1, .slice A2 n2 c2, .int .i64 turn] w fun e w' => e = .returned (.bool true) ∧ Below w.heap.size w w' := by
  have HT := Lib.hid ht
  have g1 := h1.le; have g2 := h2.le; have g3 := h1.most; have g4 := h2.most
  unfold maxLen at g3 g4
  have H1 := Lib.hid h1; have H2 := Lib.hid h2
  obtain ⟨N, hN⟩ : ∃ N : Nat, N = (if 20 < (if n2 < n1 then n2 else n1) then 20 else (if n2 < n1 then n2 else n1)) := ⟨_, rfl⟩
  have N1 : N ≤ n1 := by rw [hN]; (repeat' split) <;> omega
  have N2 : N ≤ n2 := by rw [hN]; (repeat' split) <;> omega
  have N20 : N ≤ 20 := by rw [hN]; (repeat' split) <;> omega
  have hmin : (if (20 : Int) < (if (n2 : Int) < (n1 : Int) then (n2 : Int) else (n1 : Int)) then (20 : Int) else (if (n2 : Int) < (n1 : Int) then (n2 : Int) else (n1 : Int))) = (N : Int) := by rw [hN]; (repeat' split) <;> omega
  clear ht h1 h2 hN
  go_enter Tryd.func7, Tryd.ntmps7
  go_wp2_with fail
  refine Calls.mono (sClocks_ok _) ?_
  rintro e w1 ⟨rfl, hb⟩
  have B1 := Lib.hid hb
  clear hb
  go_wp2_with fail
  obtain ⟨W, hW⟩ : ∃ W, W = (w1.alloc (.cells #[.int .i64 11, .int .i64 12, .int .i64 13] 3)).alloc (.cells #[.int .i64 0, .int .i64 1, .int .i64 1, .int .i64 2, .int .i64 2, .int .i64 3, .int .i64 3, .int .i64 4, .int .i64 4, .int .i64 5, .int .i64 5, .int .i64 0] 39) := ⟨_, rfl⟩
  rw [← hW]
  have bW : Below w1.heap.size w1 W := by rw [hW]; exact ((Below.refl _ w1).alloc (Nat.le_refl _) _).alloc (by simp) _
  have hk : FlatSl W 1 (some ⟨w1.heap.size, 0, none⟩) 3 3 [11, 12, 13] := ⟨by omega, by unfold maxLen; omega, rfl, fun _ => ⟨_, _, rfl, fun j hj => by
    match j, hj with
    | 0, _ => rw [hW]; simp [ix]
    | 1, _ => rw [hW]; simp [ix]
    | 2, _ => rw [hW]; simp [ix]⟩⟩
  have he : FlatSl W 2 (some ⟨w1.heap.size + 1, 0, none⟩) 6 6 [0, 1, 1, 2, 2, 3, 3, 4, 4, 5, 5, 0] := ⟨by omega, by unfold maxLen; omega, rfl, fun _ => ⟨_, _, rfl, fun j hj => by
    match j, hj with
    | 0, _ => rw [hW]; simp [ix]
    | 1, _ => rw [hW]; simp [ix]
    | 2, _ => rw [hW]; simp [ix]
    | 3, _ => rw [hW]; simp [ix]
    | 4, _ => rw [hW]; simp [ix]
    | 5, _ => rw [hW]; simp [ix]
    | 6, _ => rw [hW]; simp [ix]
    | 7, _ => rw [hW]; simp [ix]
    | 8, _ => rw [hW]; simp [ix]
    | 9, _ => rw [hW]; simp [ix]
    | 10, _ => rw [hW]; simp [ix]
    | 11, _ => rw [hW]; simp [ix]⟩⟩
  have hK : ∀ j, j < 3 → W.cell? ⟨w1.heap.size, j, none⟩ = some (.int .i64 (ix [11, 12, 13] j)) := fun j hj => by
    match j, hj with
    | 0, _ => rw [hW]; simp [ix]
    | 1, _ => rw [hW]; simp [ix]
    | 2, _ => rw [hW]; simp [ix]
  have hE : ∀ j, j < 6 → ix [0, 1, 1, 2, 2, 3, 3, 4, 4, 5, 5, 0] (j * 2) = (ex6 j : Int) ∧ ix [0, 1, 1, 2, 2, 3, 3, 4, 4, 5, 5, 0] (j * 2 + 1) = (ey6 j : Int) := by decide
  have sW : w1.heap.size + 2 = W.heap.size := by rw [hW]; simp
  have s1 := B1.out.size
  have BW := Lib.hid (B1.out.trans (bW.mono s1))
  clear hW bW
  refine Calls.mono (new_ok w1.heap.size 0 3 3 [11, 12, 13] 6 (some ⟨w1.heap.size + 1, 0, none⟩) 6 6 [0, 1, 1, 2, 2, 3, 3, 4, 4, 5, 5, 0] ex6 ey6 W hk he hE nok6 chB (fun a m => sumAll (ix [11, 12, 13] a) (ntL a m chB)) (by decide)) ?_
  rintro e w2 ⟨La, rfl, hN, hb⟩
  have B2 := Lib.hid (BW.out.trans (hb.mono (by omega)))
  have s2 := hb.size
  have HN2 := Lib.hid (show NetW D6 La W.heap.size w2 (fun _ _ => 0) from hN)
  have HK2 := Lib.hid (fun j (hj : j < 3) => (hb.cell (p := ⟨w1.heap.size, j, none⟩) (show w1.heap.size < W.heap.size by omega)).trans (hK j hj))
  have HSK := Lib.hid (hk.stay (by decide) hb)
  have HSE := Lib.hid (he.stay (by decide) hb)
  clear hN hb hk he hK
  go_wp2_with fail
  refine Calls.mono (new_ok w1.heap.size 0 3 3 [11, 12, 13] 6 (some ⟨w1.heap.size + 1, 0, none⟩) 6 6 [0, 1, 1, 2, 2, 3, 3, 4, 4, 5, 5, 0] ex6 ey6 w2 HSK.out HSE.out hE nok6 chB (fun a m => sumAll (ix [11, 12, 13] a) (ntL a m chB)) (by decide)) ?_
  rintro e w3 ⟨Lb, rfl, hN, hb⟩
  have B3 := Lib.hid (B2.out.trans (hb.mono (by omega)))
  have s3 := hb.size
  have HNB := Lib.hid (show NetW D6 Lb w2.heap.size w3 (fun _ _ => 0) from hN)
  have HNA := Lib.hid (HN2.out.below hb)
  have hfar := two_far HNA.out HNB.out (by decide) (by decide) (by decide) deg6 HN2.out.lb HN2.out.lk (fun i hi => (HN2.out.row i hi).lt)
  have HFB := Lib.hid hfar.1; have HFBb := Lib.hid hfar.2
  have HFA := Lib.hid (show ∀ i, i < D6.n → NetFar D6 La (some (Lb.hb i)) from fun i hi => by
    have oh := HNB.out.oh i hi
    have ne : ∀ {x : Nat}, x < w2.heap.size → some x ≠ some (Lb.hb i) := fun hx e => by have := Option.some.inj e; omega
    exact ⟨ne HN2.out.lb, ne HN2.out.lk, ne HN2.out.ln, ne HN2.out.lh, fun j hj => ne (HN2.out.lnb j hj), fun j hj => ne (HN2.out.row j hj).lt⟩)
  have HFAb := Lib.hid (show NetFar D6 La (some Lb.b) from by
    have oh := HNB.out.ob
    have ne : ∀ {x : Nat}, x < w2.heap.size → some x ≠ some Lb.b := fun hx e => by have := Option.some.inj e; omega
    exact ⟨ne HN2.out.lb, ne HN2.out.lk, ne HN2.out.ln, ne HN2.out.lh, fun j hj => ne (HN2.out.lnb j hj), fun j hj => ne (HN2.out.row j hj).lt⟩)
  have hT2 : T2 La Lb W.heap.size w2.heap.size w1.heap.size w3 (fun _ _ => 0) (fun _ _ => 0) := ⟨HNA.out, HNB.out, fun _ _ => ⟨by omega, by omega⟩, fun _ _ => ⟨by omega, by omega⟩, fun j hj => (hb.cell (p := ⟨w1.heap.size, j, none⟩) (show w1.heap.size < w2.heap.size by omega)).trans (HK2.out j hj), by omega⟩
  have HT2 := Lib.hid hT2
  have la2 := HN2.out.lb
  have lab := HN2.out.ob
  have lbb := HNB.out.ob
  obtain ⟨kb, hkb⟩ : ∃ b, b = w1.heap.size := ⟨_, rfl⟩
  obtain ⟨bA, hbA⟩ : ∃ b, b = W.heap.size := ⟨_, rfl⟩
  obtain ⟨bB, hbB⟩ : ∃ b, b = w2.heap.size := ⟨_, rfl⟩
  rw [← hkb, ← hbA, ← hbB] at HT2
  rw [← hkb]
  have wk : w.heap.size ≤ kb := by omega
  have kA : kb < bA := by omega
  have AB : bA ≤ bB := by omega
  have B3s : bB ≤ w3.heap.size := by omega
  have laB : La.b < bB := by omega
  have laA : bA ≤ La.b := by omega
  have lbB : bB ≤ Lb.b := by omega
  clear hN hb hE HN2 HK2 HSK HSE HNA HNB hfar hT2 hkb hbA hbB
  go_upto_region 9 with fail
  go_cut [13] (fun v wx => v = .int .i64 (N : Int) ∧ wx = w3)
  case first =>
    go_wp2_with fail
    all_goals go_meet
    all_goals exact ⟨by (have q := hmin; (repeat' split at q)) <;> (first | omega | (congr 1 <;> omega)), rfl⟩
  case rest =>
    obtain ⟨rfl, rfl⟩ := hcut
    obtain ⟨t, htt⟩ : ∃ t : Nat, t = (turn % (N : Int)).toNat := ⟨_, rfl⟩
    have HTT := Lib.hid htt
    clear htt hmin
    go_wp2_with fail
    go_loopw [74] (fun i' wv => ∃ (i : Nat) (Ha Hb : Nat → Nat → Int), i ≤ N ∧ i' = .int .i64 i ∧ T2 La Lb bA bB kb wv Ha Hb ∧ (∀ a, mxN Ha a 6 = mxS (auS zs2) (nuS zs2) (fun x => x) a i) ∧ (∀ a, mxN Hb a 6 = mxS (auS zs2) (nuS zs2) (fun x => (x + t) % N) a i) ∧ Below w.heap.size w wv) (fun i' _ => N - (intOf i').toNat)
    case atStart => exact ⟨0, fun _ _ => 0, fun _ _ => 0, by omega, rfl, HT2.out, fun a => mxN_zero a 6, fun a => mxN_zero a 6, B3.out⟩
    case round =>
      clear HT2
      obtain ⟨i, Ha, Hb, hi, rfl, hR, hXA, hXB, hb⟩ := hrel
      by_cases hin : i < N
      · have i0 : (0 : Int) ≤ (i : Int) := by omega
        have i1 : (i : Int) < (N : Int) := by omega
        have n0 : ¬ (N : Int) = 0 := by omega
        have htN : (t : Int) = turn % (N : Int) := by rw [HTT.out]; have := Int.emod_nonneg turn (by omega : (N : Int) ≠ 0); omega
        have tN : t < N := by have := Int.emod_lt_of_pos turn (by omega : (0 : Int) < (N : Int)); omega
        have HTN := Lib.hid htN
        obtain ⟨pb, hpb⟩ : ∃ b, b = wr.heap.size := ⟨_, rfl⟩
        have hP : P2 pb La Lb (wr.alloc (.cells #[.pointer (some ⟨La.b, 0, none⟩), .pointer (some ⟨Lb.b, 0, none⟩)] 36)) := ⟨by rw [hpb]; simp, by rw [hpb]; simp, by rw [hpb]; simp, fun i hi => by rw [hpb]; exact (hR.na.row i hi).lt, fun i hi => by rw [hpb]; exact (hR.nb.row i hi).lt⟩
        have bp : Below wr.heap.size wr (wr.alloc (.cells #[.pointer (some ⟨La.b, 0, none⟩), .pointer (some ⟨Lb.b, 0, none⟩)] 36)) := (Below.refl _ _).alloc (Nat.le_refl _) _
        have HR0 := Lib.hid (hR.below bp)
        have HB0 := Lib.hid (hb.trans (bp.mono hb.size))
        have HP0 := Lib.hid hP
        have HX0 := Lib.hid hXA; have HX1 := Lib.hid hXB
        clear hR hXA hXB hb hP bp htN
        go_wp2_with fail
        rw [← hpb]
        clear hpb
        go_loopw [81] (fun s' wv => ∃ (s : Nat) (Ha Hb : Nat → Nat → Int), s ≤ 2 ∧ s' = .int .i64 s ∧ T2 La Lb bA bB kb wv Ha Hb ∧ (∀ a, mxN Ha a 6 = mxS (auS zs2) (nuS zs2) (fun x => x) a (if 1 ≤ s then i + 1 else i)) ∧ (∀ a, mxN Hb a 6 = mxS (auS zs2) (nuS zs2) (fun x => (x + t) % N) a (if 2 ≤ s then i + 1 else i)) ∧ P2 pb La Lb wv ∧ Below w.heap.size w wv) (fun s' _ => 2 - (intOf s').toNat)
        case atStart => exact ⟨0, Ha, Hb, by omega, rfl, HR0.out, HX0.out, HX1.out, HP0.out, HB0.out⟩
        case round =>
          clear HR0 HB0 HP0 HX0 HX1
          obtain ⟨s, Ha, Hb, hs, rfl, hR, hXA, hXB, hP, hb⟩ := hrel
          have HR := Lib.hid hR; have HPC := Lib.hid hP; have HB := Lib.hid hb
          have pc0 := hP.c0; have pc1 := hP.c1; have pc2 := hP.lt
          rcases (by omega : s = 0 ∨ s = 1 ∨ s = 2) with rfl | rfl | rfl
          · have HXA := Lib.hid (fun x => hXA x); have HXB := Lib.hid (fun x => (hXB x).trans (by rw [if_neg (by omega)]))
            replace HXA := Lib.hid (fun x => (HXA.out x).trans (by rw [if_neg (by omega)]))
            clear hR hXA hXB hP hb
            have kkN : i < N := by omega
            have h2' := H2.out.stay (by decide) HB.out
            obtain ⟨q2, o2, hA2, hc⟩ := h2'.at' (by omega)
            have x0 := hc i (by omega)
            subst hA2
            obtain ⟨z, hz⟩ : ∃ z, z = ix zs2 i := ⟨_, rfl⟩
            rw [← hz] at x0
            have hX0 := Lib.hid x0
            clear hc h2' x0
            have k3 : (0 : Int) ≤ (i : Int) := by omega
            have k4 : (i : Int) < (n2 : Int) := by omega
            have k5 : (i : Int) < (n1 : Int) := by omega
            obtain ⟨a, ha⟩ : ∃ a, a = auS zs2 i := ⟨_, rfl⟩
            have a1 : a < 3 := by rw [ha]; exact auS_lt _ _
            have hav : (a : Int) = z % 3 := by rw [ha, hz]; unfold auS; omega
            obtain ⟨q, hq⟩ : ∃ q, q = IntKind.i64.wrap (z.tdiv 3) := ⟨_, rfl⟩
            obtain ⟨r, hr⟩ : ∃ r, r = q % 9 := ⟨_, rfl⟩
            have r0 : 0 ≤ r := by omega
            have r1 : r < 9 := by omega
            have hnu : Hid (1 + r = nuS zs2 i) := Lib.hid (by rw [hr, hq, hz]; rfl)
            have p1 : IntKind.i64.wrap (1 + r) = 1 + r := IntWalk.i64_in _ (by omega)
            obtain ⟨ky, hky⟩ : ∃ x, x = ix [11, 12, 13] a := ⟨_, rfl⟩
            obtain ⟨k0, k1⟩ := key6 a a1
            rw [← hky] at k0 k1
            obtain ⟨M, hM⟩ : ∃ x, x = sumAll ky (ntL a (1 + r) ⟨#[99, 104, 97, 110, 103, 101]⟩) := ⟨_, rfl⟩
            have hMr := sumAll_range ky (ntL a (1 + r) ⟨#[99, 104, 97, 110, 103, 101]⟩)
            rw [← hM] at hMr
            obtain ⟨M0, M1⟩ := hMr
            have hsg : ∀ W, Tab W → Calls Tryd.prog 11 #[.int .i64 ky, .agg #[.int .i64 a, .int .i64 (1 + r), .string ⟨#[99, 104, 97, 110, 103, 101]⟩, .int .i64 0]] W fun e w' => e = .returned (.tuple #[.agg #[.int .i64 a, .int .i64 (1 + r), .string ⟨#[99, 104, 97, 110, 103, 101]⟩, .int .i64 M], .int .i64 0]) ∧ Below W.heap.size W w' := fun W hW => by
              rw [hM]; exact sign_ok ky a (1 + r) ⟨#[99, 104, 97, 110, 103, 101]⟩ 0 W hW (ch_ok a (1 + r) a1 (by omega) (by omega)) k0 k1
            have HS := Lib.hid hsg
            have HKC := Lib.hid (show wr.cell? ⟨kb, a, none⟩ = some (.int .i64 ky) by rw [hky]; exact HR.out.key a a1)
            have Hr := Lib.hid hr; have Hky := Lib.hid hky; have HM := Lib.hid hM
            have a0 : (0 : Int) ≤ (a : Int) := by omega
            have a2 : (a : Int) < 3 := by omega
            have Hav := Lib.hid hav; have HAE := Lib.hid ha; have HQ := Lib.hid hq
            have e4 : IntKind.i64.wrap (z.tdiv 3) = q := hq.symm
            clear hsg hr hky hM hav ha hz hq
            have x0 := hX0.out
            go_wp2_with fail
            refine Calls.mono (sAt_as z 3 a _ Hav (by omega) (by omega)) ?_
            rintro e _ ⟨rfl, rfl⟩
            clear x0
            go_wp2_with fail
            obtain ⟨X, hX⟩ : ∃ X, X = wr.drew := ⟨_, rfl⟩
            have BX := Lib.hid (show Below wr.heap.size wr X by rw [hX]; exact (Below.refl _ _).drew)
            have HhX := Lib.hid hX
            clear hX
            go_cut [19, 20] (fun p e wx => ∃ b3, p = .pointer (some ⟨b3, 0, none⟩) ∧ e = .int .i64 0 ∧ wr.heap.size ≤ b3 ∧ NtBox wx b3 a (1 + r) ⟨#[99, 104, 97, 110, 103, 101]⟩ M ∧ Below wr.heap.size wr wx)
            case first =>
              have hf : X.cell? ⟨kb, a, none⟩ = some (.int .i64 ky) ∧ X.cell? ⟨q2, o2 + i, none⟩ = some (.int .i64 z) ∧ Below wr.heap.size wr X := ⟨(BX.out.cell (p := ⟨kb, a, none⟩) HR.out.kl).trans HKC.out, (BX.out.cell (p := ⟨q2, o2 + i, none⟩) (cell_lt hX0.out)).trans hX0.out, BX.out⟩
              refine wp_region_G [(18, fun w' => w'.cell? ⟨kb, a, none⟩ = some (.int .i64 ky) ∧ w'.cell? ⟨q2, o2 + i, none⟩ = some (.int .i64 z) ∧ Below wr.heap.size wr w'), (19, fun _ => True)] (by kernel_rfl) (heldC_two (fun _ => by rw [← HhX.out]; exact hf) (fun _ => trivial)) (fun hF => ?_)
              rw [← HhX.out] at hF ⊢
              refine wpG_take (oi := ?oi1) (v := ?vv1) 0 _ ?hi1 (List.Mem.head _) ?hc1 ?hQ1 hF ?hw1 ?hy1 (fun hF => ?hh1)
              case hi1 => (simp only [List.getElem?_toArray, List.getElem?_cons_succ, List.getElem?_cons_zero]; rfl)
              case hc1 => kernel_rfl
              case hQ1 => exact fun _ _ _ h => h
              case hw1 => rfl
              case hy1 => (intro wz hz; skip; go_simp; try (with_reducible rfl))
              try simp only [Act.put, List.setIfInBounds_toArray, List.set_cons_zero, List.set_cons_succ]
              refine wpG_take (oi := ?oi2) (v := ?vv2) 1 _ ?hi2 (List.Mem.head _) ?hc2 ?hQ2 hF ?hw2 ?hy2 (fun hF => ?hh2)
              case hi2 => (simp only [List.getElem?_toArray, List.getElem?_cons_succ, List.getElem?_cons_zero]; rfl)
              case hc2 => kernel_rfl
              case hQ2 => exact fun _ _ _ h => h
              case hw2 => rfl
              case hy2 => (intro wz hz; skip; go_simp; try (with_reducible rfl))
              try simp only [Act.put, List.setIfInBounds_toArray, List.set_cons_zero, List.set_cons_succ]
              refine wpG_take (oi := ?oi3) (v := ?vv3) 2 _ ?hi3 (List.Mem.head _) ?hc3 ?hQ3 hF ?hw3 ?hy3 (fun hF => ?hh3)
              case hi3 => (simp only [List.getElem?_toArray, List.getElem?_cons_succ, List.getElem?_cons_zero]; rfl)
              case hc3 => kernel_rfl
              case hQ3 => exact fun _ _ _ h => h
              case hw3 => rfl
              case hy3 => (intro wz hz; skip; go_simp; try (with_reducible rfl))
              try simp only [Act.put, List.setIfInBounds_toArray, List.set_cons_zero, List.set_cons_succ]
              refine wpG_take (oi := ?oi4) (v := ?vv4) 3 _ ?hi4 (List.Mem.head _) ?hc4 ?hQ4 hF ?hw4 ?hy4 (fun hF => ?hh4)
              case hi4 => (simp only [List.getElem?_toArray, List.getElem?_cons_succ, List.getElem?_cons_zero]; rfl)
              case hc4 => kernel_rfl
              case hQ4 => exact fun _ _ _ h => h
              case hw4 => rfl
              case hy4 => (intro wz hz; have zc := hz.1; go_simp; try (with_reducible rfl))
              try simp only [Act.put, List.setIfInBounds_toArray, List.set_cons_zero, List.set_cons_succ]
              refine wpG_take (oi := ?oi5) (v := ?vv5) 4 _ ?hi5 (List.Mem.head _) ?hc5 ?hQ5 hF ?hw5 ?hy5 (fun hF => ?hh5)
              case hi5 => (simp only [List.getElem?_toArray, List.getElem?_cons_succ, List.getElem?_cons_zero]; rfl)
              case hc5 => kernel_rfl
              case hQ5 => exact fun _ _ _ h => h
              case hw5 => rfl
              case hy5 => (intro wz hz; skip; go_simp; try (with_reducible rfl))
              try simp only [Act.put, List.setIfInBounds_toArray, List.set_cons_zero, List.set_cons_succ]
              refine wpG_take (oi := ?oi6) (v := ?vv6) 5 _ ?hi6 (List.Mem.head _) ?hc6 ?hQ6 hF ?hw6 ?hy6 (fun hF => ?hh6)
              case hi6 => (simp only [List.getElem?_toArray, List.getElem?_cons_succ, List.getElem?_cons_zero]; rfl)
              case hc6 => kernel_rfl
              case hQ6 => exact fun _ _ _ h => h
              case hw6 => rfl
              case hy6 => (intro wz hz; skip; go_simp; try (with_reducible rfl))
              try simp only [Act.put, List.setIfInBounds_toArray, List.set_cons_zero, List.set_cons_succ]
              refine wpG_take (oi := ?oi7) (v := ?vv7) 6 _ ?hi7 (List.Mem.head _) ?hc7 ?hQ7 hF ?hw7 ?hy7 (fun hF => ?hh7)
              case hi7 => (simp only [List.getElem?_toArray, List.getElem?_cons_succ, List.getElem?_cons_zero]; rfl)
              case hc7 => kernel_rfl
              case hQ7 => exact fun _ _ _ h => h
              case hw7 => rfl
              case hy7 => (intro wz hz; skip; go_simp; try (with_reducible rfl))
              try simp only [Act.put, List.setIfInBounds_toArray, List.set_cons_zero, List.set_cons_succ]
              refine wpG_take (oi := ?oi8) (v := ?vv8) 7 _ ?hi8 (List.Mem.head _) ?hc8 ?hQ8 hF ?hw8 ?hy8 (fun hF => ?hh8)
              case hi8 => (simp only [List.getElem?_toArray, List.getElem?_cons_succ, List.getElem?_cons_zero]; rfl)
              case hc8 => kernel_rfl
              case hQ8 => exact fun _ _ _ h => h
              case hw8 => rfl
              case hy8 => (intro wz hz; skip; go_simp; try (with_reducible rfl))
              try simp only [Act.put, List.setIfInBounds_toArray, List.set_cons_zero, List.set_cons_succ]
              refine wpG_take (oi := ?oi9) (v := ?vv9) 8 _ ?hi9 (List.Mem.head _) ?hc9 ?hQ9 hF ?hw9 ?hy9 (fun hF => ?hh9)
              case hi9 => (simp only [List.getElem?_toArray, List.getElem?_cons_succ, List.getElem?_cons_zero]; rfl)
              case hc9 => kernel_rfl
              case hQ9 => exact fun _ _ _ h => h
              case hw9 => rfl
              case hy9 => (intro wz hz; have zc := hz.2.1; go_simp; try (with_reducible rfl))
              try simp only [Act.put, List.setIfInBounds_toArray, List.set_cons_zero, List.set_cons_succ]
              refine wpG_take (oi := ?oi10) (v := ?vv10) 9 _ ?hi10 (List.Mem.head _) ?hc10 ?hQ10 hF ?hw10 ?hy10 (fun hF => ?hh10)
              case hi10 => (simp only [List.getElem?_toArray, List.getElem?_cons_succ, List.getElem?_cons_zero]; rfl)
              case hc10 => kernel_rfl
              case hQ10 => exact fun _ _ _ h => h
              case hw10 => rfl
              case hy10 => (intro wz hz; skip; go_simp; try (with_reducible rfl))
              try simp only [Act.put, List.setIfInBounds_toArray, List.set_cons_zero, List.set_cons_succ]
              refine wpG_ready (rs := [10, 17]) (by kernel_rfl) (by simp) ?_
              refine all_two ?_ ?_
              · skip
                refine wpOp_hand (oi := ?oi11) ?hi11 (fun K hK => ?hh11)
                case hi11 => (simp only [List.getElem?_toArray, List.getElem?_cons_succ, List.getElem?_cons_zero]; rfl)
                go_simp
                refine Calls.mono (sAt_as q 9 r _ Hr (by omega) (by omega)) ?_
                rintro e _ ⟨rfl, rfl⟩
                refine hK.out _ _ (heldC_two (fun _ => hf) (fun _ => trivial)) (fun hF => ?_)
                clear hK K
                try simp only [Act.put, List.setIfInBounds_toArray, List.set_cons_zero, List.set_cons_succ]
                refine wpG_take (oi := ?oi12) (v := ?vv12) 11 _ ?hi12 (List.Mem.head _) ?hc12 ?hQ12 hF ?hw12 ?hy12 (fun hF => ?hh12)
                case hi12 => (simp only [List.getElem?_toArray, List.getElem?_cons_succ, List.getElem?_cons_zero]; rfl)
                case hc12 => kernel_rfl
                case hQ12 => exact fun _ _ _ h => h
                case hw12 => rfl
                case hy12 => (intro wz hz; skip; go_simp; try (with_reducible rfl))
                try simp only [Act.put, List.setIfInBounds_toArray, List.set_cons_zero, List.set_cons_succ]
                refine wpG_take (oi := ?oi13) (v := ?vv13) 12 _ ?hi13 (List.Mem.head _) ?hc13 ?hQ13 hF ?hw13 ?hy13 (fun hF => ?hh13)
                case hi13 => (simp only [List.getElem?_toArray, List.getElem?_cons_succ, List.getElem?_cons_zero]; rfl)
                case hc13 => kernel_rfl
                case hQ13 => exact fun _ _ _ h => h
                case hw13 => rfl
                case hy13 => (intro wz hz; skip; go_simp; try (with_reducible rfl))
                try simp only [Act.put, List.setIfInBounds_toArray, List.set_cons_zero, List.set_cons_succ]
                refine wpG_ready (rs := [13, 17]) (by kernel_rfl) (by simp) ?_
                refine all_two ?_ ?_
                · skip
                  refine wpOp_hand (oi := ?oi14) ?hi14 (fun K hK => ?hh14)
                  case hi14 => (simp only [List.getElem?_toArray, List.getElem?_cons_succ, List.getElem?_cons_zero]; rfl)
                  go_simp
                  refine Calls.mono (HS.out _ ((HT.out.below HB.out).below hf.2.2)) ?_
                  rintro e wq ⟨rfl, hb⟩
                  have hfn : wq.cell? ⟨kb, a, none⟩ = some (.int .i64 ky) ∧ wq.cell? ⟨q2, o2 + i, none⟩ = some (.int .i64 z) ∧ Below wr.heap.size wr wq := ⟨(hb.cell (p := ⟨kb, a, none⟩) (cell_lt hf.1)).trans hf.1, (hb.cell (p := ⟨q2, o2 + i, none⟩) (cell_lt hf.2.1)).trans hf.2.1, hf.2.2.trans (hb.mono hf.2.2.size)⟩
                  clear hf hb
                  have hf := hfn
                  clear hfn
                  refine hK.out _ _ (heldC_two (fun _ => hf) (fun _ => trivial)) (fun hF => ?_)
                  clear hK K
                  try simp only [Act.put, List.setIfInBounds_toArray, List.set_cons_zero, List.set_cons_succ]
                  refine wpG_take (oi := ?oi15) (v := ?vv15) 14 _ ?hi15 (List.Mem.head _) ?hc15 ?hQ15 hF ?hw15 ?hy15 (fun hF => ?hh15)
                  case hi15 => (simp only [List.getElem?_toArray, List.getElem?_cons_succ, List.getElem?_cons_zero]; rfl)
                  case hc15 => kernel_rfl
                  case hQ15 => exact fun _ _ _ h => h
                  case hw15 => rfl
                  case hy15 => (intro wz hz; skip; go_simp; try (with_reducible rfl))
                  try simp only [Act.put, List.setIfInBounds_toArray, List.set_cons_zero, List.set_cons_succ]
                  refine wpG_take (oi := ?oi16) (v := ?vv16) 15 _ ?hi16 (List.Mem.head _) ?hc16 ?hQ16 hF ?hw16 ?hy16 (fun hF => ?hh16)
                  case hi16 => (simp only [List.getElem?_toArray, List.getElem?_cons_succ, List.getElem?_cons_zero]; rfl)
                  case hc16 => kernel_rfl
                  case hQ16 => exact fun _ _ _ h => h
                  case hw16 => rfl
                  case hy16 => (intro wz hz; skip; go_simp; try (with_reducible rfl))
                  try simp only [Act.put, List.setIfInBounds_toArray, List.set_cons_zero, List.set_cons_succ]
                  refine wpG_take (oi := ?oi17) (v := ?vv17) 16 _ ?hi17 (List.Mem.tail _ (List.Mem.head _)) ?hc17 ?hQ17 hF ?hw17 ?hy17 (fun hF => ?hh17)
                  case hi17 => (simp only [List.getElem?_toArray, List.getElem?_cons_succ, List.getElem?_cons_zero]; rfl)
                  case hc17 => kernel_rfl
                  case hQ17 => exact fun _ _ _ h => h
                  case hw17 => rfl
                  case hy17 => (intro wz hz; skip; go_simp; try (with_reducible rfl))
                  try simp only [Act.put, List.setIfInBounds_toArray, List.set_cons_zero, List.set_cons_succ]
                  refine wpG_ready (rs := [17]) (by kernel_rfl) (by simp) ?_
                  refine all_one ?_
                  refine wpOp_hand (oi := ?oi18) ?hi18 (fun K hK => ?hh18)
                  case hi18 => (simp only [List.getElem?_toArray, List.getElem?_cons_succ, List.getElem?_cons_zero]; rfl)
                  go_simp
                  have hN := NtBox.new wq 0 0 ⟨#[]⟩ 0
                  have hs3 := hf.2.2.size
                  obtain ⟨b3, hb3⟩ : ∃ b, b = wq.heap.size := ⟨_, rfl⟩
                  obtain ⟨Y, hY⟩ : ∃ Y, Y = wq.alloc (.cells #[.int .i64 0, .int .i64 0, .string ⟨#[]⟩, .int .i64 0] 23) := ⟨_, rfl⟩
                  have hfn : Y.cell? ⟨kb, a, none⟩ = some (.int .i64 ky) ∧ Y.cell? ⟨q2, o2 + i, none⟩ = some (.int .i64 z) ∧ Below wr.heap.size wr Y := by rw [hY]; exact ⟨(((Below.refl _ _).alloc (Nat.le_refl _) _).cell (p := ⟨kb, a, none⟩) (cell_lt hf.1)).trans hf.1, (((Below.refl _ _).alloc (Nat.le_refl _) _).cell (p := ⟨q2, o2 + i, none⟩) (cell_lt hf.2.1)).trans hf.2.1, hf.2.2.alloc hs3 _⟩
                  rw [← hb3] at hs3
                  rw [← hY, ← hb3] at hN ⊢
                  clear hf
                  have hf := hfn
                  clear hfn hY hb3
                  refine hK.out _ _ (heldC_two (fun _ => hf) (fun _ => trivial)) (fun hF => ?_)
                  clear hK K
                  try simp only [Act.put, List.setIfInBounds_toArray, List.set_cons_zero, List.set_cons_succ]
                  refine wpG_ready (rs := [18]) (by kernel_rfl) (by simp) ?_
                  refine all_one ?_
                  have x0 := hN.c0; have x1 := hN.c1; have x2 := hN.c2; have x3 := hN.c3; have xf0 := hN.free 0; have xf1 := hN.free 1; have xf2 := hN.free 2; have xf3 := hN.free 3; have xl := hN.lt
                  refine wpOp_hand (oi := ?oi19) ?hi19 (fun K hK => ?hh19)
                  case hi19 => (simp only [List.getElem?_toArray, List.getElem?_cons_succ, List.getElem?_cons_zero]; rfl)
                  go_simp
                  refine hK.out _ _ (heldC_two (fun h => absurd h (by simp)) (fun _ => trivial)) (fun hF => ?_)
                  clear hK K
                  try simp only [Act.put, List.setIfInBounds_toArray, List.set_cons_zero, List.set_cons_succ]
                  refine wpG_ready (rs := [19]) (by kernel_rfl) (by simp) ?_
                  refine all_one ?_
                  refine wpOp_hand (oi := ?oi20) ?hi20 (fun K hK => ?hh20)
                  case hi20 => (simp only [List.getElem?_toArray, List.getElem?_cons_succ, List.getElem?_cons_zero]; rfl)
                  go_simp
                  refine hK.out _ _ (heldC_two (fun h => absurd h (by simp)) (fun h => absurd h (by simp))) (fun hF => ?_)
                  clear hK K
                  try simp only [Act.put, List.setIfInBounds_toArray, List.set_cons_zero, List.set_cons_succ]
                  refine wpG_done (by kernel_rfl) ?_ _
                  have hNn := hN.set a (1 + r) ⟨#[99, 104, 97, 110, 103, 101]⟩ M
                  have hbl := (((hf.2.2.setCell (p := ⟨b3, 0, none⟩) hs3 (.int .i64 a)).setCell (p := ⟨b3, 1, none⟩) hs3 (.int .i64 (1 + r))).setCell (p := ⟨b3, 2, none⟩) hs3 (.string ⟨#[99, 104, 97, 110, 103, 101]⟩)).setCell (p := ⟨b3, 3, none⟩) hs3 (.int .i64 M)
                  clear x0 xf0 x1 xf1 x2 xf2 x3 xf3 xl
                  clear hf hN
                  go_wp2_with fail
                  go_meet
                  exact ⟨b3, rfl, rfl, hs3, hNn, hbl⟩
                · skip
                  refine wpOp_hand (oi := ?oi21) ?hi21 (fun K hK => ?hh21)
                  case hi21 => (simp only [List.getElem?_toArray, List.getElem?_cons_succ, List.getElem?_cons_zero]; rfl)
                  go_simp
                  have hN := NtBox.new X 0 0 ⟨#[]⟩ 0
                  have hs3 := hf.2.2.size
                  obtain ⟨b3, hb3⟩ : ∃ b, b = X.heap.size := ⟨_, rfl⟩
                  obtain ⟨Y, hY⟩ : ∃ Y, Y = X.alloc (.cells #[.int .i64 0, .int .i64 0, .string ⟨#[]⟩, .int .i64 0] 23) := ⟨_, rfl⟩
                  have hfn : Y.cell? ⟨kb, a, none⟩ = some (.int .i64 ky) ∧ Y.cell? ⟨q2, o2 + i, none⟩ = some (.int .i64 z) ∧ Below wr.heap.size wr Y := by rw [hY]; exact ⟨(((Below.refl _ _).alloc (Nat.le_refl _) _).cell (p := ⟨kb, a, none⟩) (cell_lt hf.1)).trans hf.1, (((Below.refl _ _).alloc (Nat.le_refl _) _).cell (p := ⟨q2, o2 + i, none⟩) (cell_lt hf.2.1)).trans hf.2.1, hf.2.2.alloc hs3 _⟩
                  rw [← hb3] at hs3
                  rw [← hY, ← hb3] at hN ⊢
                  clear hf
                  have hf := hfn
                  clear hfn hY hb3
                  refine hK.out _ _ (heldC_two (fun _ => hf) (fun _ => trivial)) (fun hF => ?_)
                  clear hK K
                  try simp only [Act.put, List.setIfInBounds_toArray, List.set_cons_zero, List.set_cons_succ]
                  refine wpG_ready (rs := [13]) (by kernel_rfl) (by simp) ?_
                  refine all_one ?_
                  refine wpOp_hand (oi := ?oi22) ?hi22 (fun K hK => ?hh22)
                  case hi22 => (simp only [List.getElem?_toArray, List.getElem?_cons_succ, List.getElem?_cons_zero]; rfl)
                  go_simp
                  refine Calls.mono (HS.out _ ((HT.out.below HB.out).below hf.2.2)) ?_
                  rintro e wq ⟨rfl, hb⟩
                  have hfn : wq.cell? ⟨kb, a, none⟩ = some (.int .i64 ky) ∧ wq.cell? ⟨q2, o2 + i, none⟩ = some (.int .i64 z) ∧ Below wr.heap.size wr wq := ⟨(hb.cell (p := ⟨kb, a, none⟩) (cell_lt hf.1)).trans hf.1, (hb.cell (p := ⟨q2, o2 + i, none⟩) (cell_lt hf.2.1)).trans hf.2.1, hf.2.2.trans (hb.mono hf.2.2.size)⟩
                  have hNn := hN.below hb
                  clear hN
                  have hN := hNn
                  clear hNn
                  clear hf hb
                  have hf := hfn
                  clear hfn
                  refine hK.out _ _ (heldC_two (fun _ => hf) (fun _ => trivial)) (fun hF => ?_)
                  clear hK K
                  try simp only [Act.put, List.setIfInBounds_toArray, List.set_cons_zero, List.set_cons_succ]
                  refine wpG_take (oi := ?oi23) (v := ?vv23) 14 _ ?hi23 (List.Mem.head _) ?hc23 ?hQ23 hF ?hw23 ?hy23 (fun hF => ?hh23)
                  case hi23 => (simp only [List.getElem?_toArray, List.getElem?_cons_succ, List.getElem?_cons_zero]; rfl)
                  case hc23 => kernel_rfl
                  case hQ23 => exact fun _ _ _ h => h
                  case hw23 => rfl
                  case hy23 => (intro wz hz; skip; go_simp; try (with_reducible rfl))
                  try simp only [Act.put, List.setIfInBounds_toArray, List.set_cons_zero, List.set_cons_succ]
                  refine wpG_take (oi := ?oi24) (v := ?vv24) 15 _ ?hi24 (List.Mem.head _) ?hc24 ?hQ24 hF ?hw24 ?hy24 (fun hF => ?hh24)
                  case hi24 => (simp only [List.getElem?_toArray, List.getElem?_cons_succ, List.getElem?_cons_zero]; rfl)
                  case hc24 => kernel_rfl
                  case hQ24 => exact fun _ _ _ h => h
                  case hw24 => rfl
                  case hy24 => (intro wz hz; skip; go_simp; try (with_reducible rfl))
                  try simp only [Act.put, List.setIfInBounds_toArray, List.set_cons_zero, List.set_cons_succ]
                  refine wpG_take (oi := ?oi25) (v := ?vv25) 16 _ ?hi25 (List.Mem.tail _ (List.Mem.head _)) ?hc25 ?hQ25 hF ?hw25 ?hy25 (fun hF => ?hh25)
                  case hi25 => (simp only [List.getElem?_toArray, List.getElem?_cons_succ, List.getElem?_cons_zero]; rfl)
                  case hc25 => kernel_rfl
                  case hQ25 => exact fun _ _ _ h => h
                  case hw25 => rfl
                  case hy25 => (intro wz hz; skip; go_simp; try (with_reducible rfl))
                  try simp only [Act.put, List.setIfInBounds_toArray, List.set_cons_zero, List.set_cons_succ]
                  refine wpG_ready (rs := [18]) (by kernel_rfl) (by simp) ?_
                  refine all_one ?_
                  have x0 := hN.c0; have x1 := hN.c1; have x2 := hN.c2; have x3 := hN.c3; have xf0 := hN.free 0; have xf1 := hN.free 1; have xf2 := hN.free 2; have xf3 := hN.free 3; have xl := hN.lt
                  refine wpOp_hand (oi := ?oi26) ?hi26 (fun K hK => ?hh26)
                  case hi26 => (simp only [List.getElem?_toArray, List.getElem?_cons_succ, List.getElem?_cons_zero]; rfl)
                  go_simp
                  refine hK.out _ _ (heldC_two (fun h => absurd h (by simp)) (fun _ => trivial)) (fun hF => ?_)
                  clear hK K
                  try simp only [Act.put, List.setIfInBounds_toArray, List.set_cons_zero, List.set_cons_succ]
                  refine wpG_ready (rs := [19]) (by kernel_rfl) (by simp) ?_
                  refine all_one ?_
                  refine wpOp_hand (oi := ?oi27) ?hi27 (fun K hK => ?hh27)
                  case hi27 => (simp only [List.getElem?_toArray, List.getElem?_cons_succ, List.getElem?_cons_zero]; rfl)
                  go_simp
                  refine hK.out _ _ (heldC_two (fun h => absurd h (by simp)) (fun h => absurd h (by simp))) (fun hF => ?_)
                  clear hK K
                  try simp only [Act.put, List.setIfInBounds_toArray, List.set_cons_zero, List.set_cons_succ]
                  refine wpG_done (by kernel_rfl) ?_ _
                  have hNn := hN.set a (1 + r) ⟨#[99, 104, 97, 110, 103, 101]⟩ M
                  have hbl := (((hf.2.2.setCell (p := ⟨b3, 0, none⟩) hs3 (.int .i64 a)).setCell (p := ⟨b3, 1, none⟩) hs3 (.int .i64 (1 + r))).setCell (p := ⟨b3, 2, none⟩) hs3 (.string ⟨#[99, 104, 97, 110, 103, 101]⟩)).setCell (p := ⟨b3, 3, none⟩) hs3 (.int .i64 M)
                  clear x0 xf0 x1 xf1 x2 xf2 x3 xf3 xl
                  clear hf hN
                  go_wp2_with fail
                  go_meet
                  exact ⟨b3, rfl, rfl, hs3, hNn, hbl⟩
              · skip
                refine wpOp_hand (oi := ?oi28) ?hi28 (fun K hK => ?hh28)
                case hi28 => (simp only [List.getElem?_toArray, List.getElem?_cons_succ, List.getElem?_cons_zero]; rfl)
                go_simp
                have hN := NtBox.new X 0 0 ⟨#[]⟩ 0
                have hs3 := hf.2.2.size
                obtain ⟨b3, hb3⟩ : ∃ b, b = X.heap.size := ⟨_, rfl⟩
                obtain ⟨Y, hY⟩ : ∃ Y, Y = X.alloc (.cells #[.int .i64 0, .int .i64 0, .string ⟨#[]⟩, .int .i64 0] 23) := ⟨_, rfl⟩
                have hfn : Y.cell? ⟨kb, a, none⟩ = some (.int .i64 ky) ∧ Y.cell? ⟨q2, o2 + i, none⟩ = some (.int .i64 z) ∧ Below wr.heap.size wr Y := by rw [hY]; exact ⟨(((Below.refl _ _).alloc (Nat.le_refl _) _).cell (p := ⟨kb, a, none⟩) (cell_lt hf.1)).trans hf.1, (((Below.refl _ _).alloc (Nat.le_refl _) _).cell (p := ⟨q2, o2 + i, none⟩) (cell_lt hf.2.1)).trans hf.2.1, hf.2.2.alloc hs3 _⟩
                rw [← hb3] at hs3
                rw [← hY, ← hb3] at hN ⊢
                clear hf
                have hf := hfn
                clear hfn hY hb3
                refine hK.out _ _ (heldC_two (fun _ => hf) (fun _ => trivial)) (fun hF => ?_)
                clear hK K
                try simp only [Act.put, List.setIfInBounds_toArray, List.set_cons_zero, List.set_cons_succ]
                refine wpG_ready (rs := [10]) (by kernel_rfl) (by simp) ?_
                refine all_one ?_
                refine wpOp_hand (oi := ?oi29) ?hi29 (fun K hK => ?hh29)
                case hi29 => (simp only [List.getElem?_toArray, List.getElem?_cons_succ, List.getElem?_cons_zero]; rfl)
                go_simp
                refine Calls.mono (sAt_as q 9 r _ Hr (by omega) (by omega)) ?_
                rintro e _ ⟨rfl, rfl⟩
                refine hK.out _ _ (heldC_two (fun _ => hf) (fun _ => trivial)) (fun hF => ?_)
                clear hK K
                try simp only [Act.put, List.setIfInBounds_toArray, List.set_cons_zero, List.set_cons_succ]
                refine wpG_take (oi := ?oi30) (v := ?vv30) 11 _ ?hi30 (List.Mem.head _) ?hc30 ?hQ30 hF ?hw30 ?hy30 (fun hF => ?hh30)
                case hi30 => (simp only [List.getElem?_toArray, List.getElem?_cons_succ, List.getElem?_cons_zero]; rfl)
                case hc30 => kernel_rfl
                case hQ30 => exact fun _ _ _ h => h
                case hw30 => rfl
                case hy30 => (intro wz hz; skip; go_simp; try (with_reducible rfl))
                try simp only [Act.put, List.setIfInBounds_toArray, List.set_cons_zero, List.set_cons_succ]
                refine wpG_take (oi := ?oi31) (v := ?vv31) 12 _ ?hi31 (List.Mem.head _) ?hc31 ?hQ31 hF ?hw31 ?hy31 (fun hF => ?hh31)
                case hi31 => (simp only [List.getElem?_toArray, List.getElem?_cons_succ, List.getElem?_cons_zero]; rfl)
                case hc31 => kernel_rfl
                case hQ31 => exact fun _ _ _ h => h
                case hw31 => rfl
                case hy31 => (intro wz hz; skip; go_simp; try (with_reducible rfl))
                try simp only [Act.put, List.setIfInBounds_toArray, List.set_cons_zero, List.set_cons_succ]
                refine wpG_ready (rs := [13]) (by kernel_rfl) (by simp) ?_
                refine all_one ?_
                refine wpOp_hand (oi := ?oi32) ?hi32 (fun K hK => ?hh32)
                case hi32 => (simp only [List.getElem?_toArray, List.getElem?_cons_succ, List.getElem?_cons_zero]; rfl)
                go_simp
                refine Calls.mono (HS.out _ ((HT.out.below HB.out).below hf.2.2)) ?_
                rintro e wq ⟨rfl, hb⟩
                have hfn : wq.cell? ⟨kb, a, none⟩ = some (.int .i64 ky) ∧ wq.cell? ⟨q2, o2 + i, none⟩ = some (.int .i64 z) ∧ Below wr.heap.size wr wq := ⟨(hb.cell (p := ⟨kb, a, none⟩) (cell_lt hf.1)).trans hf.1, (hb.cell (p := ⟨q2, o2 + i, none⟩) (cell_lt hf.2.1)).trans hf.2.1, hf.2.2.trans (hb.mono hf.2.2.size)⟩
                have hNn := hN.below hb
                clear hN
                have hN := hNn
                clear hNn
                clear hf hb
                have hf := hfn
                clear hfn
                refine hK.out _ _ (heldC_two (fun _ => hf) (fun _ => trivial)) (fun hF => ?_)
                clear hK K
                try simp only [Act.put, List.setIfInBounds_toArray, List.set_cons_zero, List.set_cons_succ]
                refine wpG_take (oi := ?oi33) (v := ?vv33) 14 _ ?hi33 (List.Mem.head _) ?hc33 ?hQ33 hF ?hw33 ?hy33 (fun hF => ?hh33)
                case hi33 => (simp only [List.getElem?_toArray, List.getElem?_cons_succ, List.getElem?_cons_zero]; rfl)
                case hc33 => kernel_rfl
                case hQ33 => exact fun _ _ _ h => h
                case hw33 => rfl
                case hy33 => (intro wz hz; skip; go_simp; try (with_reducible rfl))
                try simp only [Act.put, List.setIfInBounds_toArray, List.set_cons_zero, List.set_cons_succ]
                refine wpG_take (oi := ?oi34) (v := ?vv34) 15 _ ?hi34 (List.Mem.head _) ?hc34 ?hQ34 hF ?hw34 ?hy34 (fun hF => ?hh34)
                case hi34 => (simp only [List.getElem?_toArray, List.getElem?_cons_succ, List.getElem?_cons_zero]; rfl)
                case hc34 => kernel_rfl
                case hQ34 => exact fun _ _ _ h => h
                case hw34 => rfl
                case hy34 => (intro wz hz; skip; go_simp; try (with_reducible rfl))
                try simp only [Act.put, List.setIfInBounds_toArray, List.set_cons_zero, List.set_cons_succ]
                refine wpG_take (oi := ?oi35) (v := ?vv35) 16 _ ?hi35 (List.Mem.tail _ (List.Mem.head _)) ?hc35 ?hQ35 hF ?hw35 ?hy35 (fun hF => ?hh35)
                case hi35 => (simp only [List.getElem?_toArray, List.getElem?_cons_succ, List.getElem?_cons_zero]; rfl)
                case hc35 => kernel_rfl
                case hQ35 => exact fun _ _ _ h => h
                case hw35 => rfl
                case hy35 => (intro wz hz; skip; go_simp; try (with_reducible rfl))
                try simp only [Act.put, List.setIfInBounds_toArray, List.set_cons_zero, List.set_cons_succ]
                refine wpG_ready (rs := [18]) (by kernel_rfl) (by simp) ?_
                refine all_one ?_
                have x0 := hN.c0; have x1 := hN.c1; have x2 := hN.c2; have x3 := hN.c3; have xf0 := hN.free 0; have xf1 := hN.free 1; have xf2 := hN.free 2; have xf3 := hN.free 3; have xl := hN.lt
                refine wpOp_hand (oi := ?oi36) ?hi36 (fun K hK => ?hh36)
                case hi36 => (simp only [List.getElem?_toArray, List.getElem?_cons_succ, List.getElem?_cons_zero]; rfl)
                go_simp
                refine hK.out _ _ (heldC_two (fun h => absurd h (by simp)) (fun _ => trivial)) (fun hF => ?_)
                clear hK K
                try simp only [Act.put, List.setIfInBounds_toArray, List.set_cons_zero, List.set_cons_succ]
                refine wpG_ready (rs := [19]) (by kernel_rfl) (by simp) ?_
                refine all_one ?_
                refine wpOp_hand (oi := ?oi37) ?hi37 (fun K hK => ?hh37)
                case hi37 => (simp only [List.getElem?_toArray, List.getElem?_cons_succ, List.getElem?_cons_zero]; rfl)
                go_simp
                refine hK.out _ _ (heldC_two (fun h => absurd h (by simp)) (fun h => absurd h (by simp))) (fun hF => ?_)
                clear hK K
                try simp only [Act.put, List.setIfInBounds_toArray, List.set_cons_zero, List.set_cons_succ]
                refine wpG_done (by kernel_rfl) ?_ _
                have hNn := hN.set a (1 + r) ⟨#[99, 104, 97, 110, 103, 101]⟩ M
                have hbl := (((hf.2.2.setCell (p := ⟨b3, 0, none⟩) hs3 (.int .i64 a)).setCell (p := ⟨b3, 1, none⟩) hs3 (.int .i64 (1 + r))).setCell (p := ⟨b3, 2, none⟩) hs3 (.string ⟨#[99, 104, 97, 110, 103, 101]⟩)).setCell (p := ⟨b3, 3, none⟩) hs3 (.int .i64 M)
                clear x0 xf0 x1 xf1 x2 xf2 x3 xf3 xl
                clear hf hN
                go_wp2_with fail
                go_meet
                exact ⟨b3, rfl, rfl, hs3, hNn, hbl⟩
            case rest =>
              obtain ⟨b3, rfl, rfl, hb3, hN, hb⟩ := hcut
              have HR1 := Lib.hid (HR.out.below hb)
              have HB1 := Lib.hid (HB.out.trans (hb.mono HB.out.size))
              have hP1 := HPC.out.below hb
              have HP1 := Lib.hid hP1
              have h1' := H1.out.stay (by decide) HB1.out
              obtain ⟨q1, o1, hA1, hc⟩ := h1'.at' (by omega)
              have y0 := hc i (by omega)
              subst hA1
              obtain ⟨z1, hz1⟩ : ∃ z, z = ix zs1 i := ⟨_, rfl⟩
              rw [← hz1] at y0
              obtain ⟨nd, hnd⟩ : ∃ x, x = ndS zs1 i := ⟨_, rfl⟩
              have nd6 : nd < 6 := by rw [hnd]; exact ndS_lt _ _
              have hnd' : (nd : Int) = z1 % 6 := by rw [hnd, hz1]; unfold ndS; omega
              have HND := Lib.hid hnd'
              have HN3 := Lib.hid hN
              have HY0 := Lib.hid y0
              have sb := hb.size
              clear hN hb hc h1' hz1 y0 hnd hnd' HS HKC BX HhX hP1
              go_wp2_with fail
              have hf : wc.drew.cell? ⟨q1, o1 + i, none⟩ = some (.int .i64 z1) ∧ NtBox wc.drew b3 a (1 + r) ⟨#[99, 104, 97, 110, 103, 101]⟩ M ∧ Below wc.heap.size wc wc.drew := ⟨HY0.out, HN3.out, (Below.refl _ _).drew⟩
              refine wp_region_G [(7, fun w' => w'.cell? ⟨q1, o1 + i, none⟩ = some (.int .i64 z1) ∧ NtBox w' b3 a (1 + r) ⟨#[99, 104, 97, 110, 103, 101]⟩ M ∧ Below wc.heap.size wc w')] (by kernel_rfl) (heldC_one (fun _ => hf)) (fun hF => ?_)
              refine wpG_take (oi := ?oi38) (v := ?vv38) 0 _ ?hi38 (List.Mem.head _) ?hc38 ?hQ38 hF ?hw38 ?hy38 (fun hF => ?hh38)
              case hi38 => (simp only [List.getElem?_toArray, List.getElem?_cons_succ, List.getElem?_cons_zero]; rfl)
              case hc38 => kernel_rfl
              case hQ38 => exact fun _ _ _ h => h
              case hw38 => rfl
              case hy38 => (intro wz hz; skip; go_simp; try (with_reducible rfl))
              try simp only [Act.put, List.setIfInBounds_toArray, List.set_cons_zero, List.set_cons_succ]
              refine wpG_takeC (oi := ?oi39) (v := ?vv39) 1 _ [5,4,3] ?hi39 (List.Mem.head _) ?hc39 ?hQ39 hF ?hw39 ?hy39 (fun hF => ?hh39)
              case hi39 => (simp only [List.getElem?_toArray, List.getElem?_cons_succ, List.getElem?_cons_zero]; rfl)
              case hc39 => kernel_rfl
              case hQ39 => exact fun _ _ _ h => h
              case hw39 => rfl
              case hy39 => (intro wz hz; skip; go_simp; try (with_reducible rfl))
              try simp only [Act.put, List.setIfInBounds_toArray, List.set_cons_zero, List.set_cons_succ]
              refine wpG_takeC (oi := ?oi40) (v := ?vv40) 2 _ [5,4,3] ?hi40 (List.Mem.head _) ?hc40 ?hQ40 hF ?hw40 ?hy40 (fun hF => ?hh40)
              case hi40 => (simp only [List.getElem?_toArray, List.getElem?_cons_succ, List.getElem?_cons_zero]; rfl)
              case hc40 => kernel_rfl
              case hQ40 => exact fun _ _ _ h => h
              case hw40 => rfl
              case hy40 => (intro wz hz; skip; go_simp; try (with_reducible rfl))
              try simp only [Act.put, List.setIfInBounds_toArray, List.set_cons_zero, List.set_cons_succ]
              refine wpG_takeC (oi := ?oi41) (v := ?vv41) 3 _ [5,4] ?hi41 (List.Mem.head _) ?hc41 ?hQ41 hF ?hw41 ?hy41 (fun hF => ?hh41)
              case hi41 => (simp only [List.getElem?_toArray, List.getElem?_cons_succ, List.getElem?_cons_zero]; rfl)
              case hc41 => kernel_rfl
              case hQ41 => exact fun _ _ _ h => h
              case hw41 => rfl
              case hy41 => (intro wz hz; skip; go_simp; try (with_reducible rfl))
              try simp only [Act.put, List.setIfInBounds_toArray, List.set_cons_zero, List.set_cons_succ]
              refine wpG_takeC (oi := ?oi42) (v := ?vv42) 4 _ [5] ?hi42 (List.Mem.head _) ?hc42 ?hQ42 hF ?hw42 ?hy42 (fun hF => ?hh42)
              case hi42 => (simp only [List.getElem?_toArray, List.getElem?_cons_succ, List.getElem?_cons_zero]; rfl)
              case hc42 => kernel_rfl
              case hQ42 => exact fun _ _ _ h => h
              case hw42 => rfl
              case hy42 => (intro wz hz; have zc := hz.1; go_simp; try (with_reducible rfl))
              try simp only [Act.put, List.setIfInBounds_toArray, List.set_cons_zero, List.set_cons_succ]
              refine wpG_take (oi := ?oi43) (v := ?vv43) 6 _ ?hi43 (List.Mem.head _) ?hc43 ?hQ43 hF ?hw43 ?hy43 (fun hF => ?hh43)
              case hi43 => (simp only [List.getElem?_toArray, List.getElem?_cons_succ, List.getElem?_cons_zero]; rfl)
              case hc43 => kernel_rfl
              case hQ43 => exact fun _ _ _ h => h
              case hw43 => rfl
              case hy43 => (intro wz hz; have z0 := hz.2.1.c0; have z1 := hz.2.1.c1; have z2 := hz.2.1.c2; have z3 := hz.2.1.c3; go_simp; try (with_reducible rfl))
              try simp only [Act.put, List.setIfInBounds_toArray, List.set_cons_zero, List.set_cons_succ]
              refine wpG_ready (rs := [5]) (by kernel_rfl) (by simp) ?_
              refine all_one ?_
              refine wpOp_hand (oi := ?oi44) ?hi44 (fun K hK => ?hh44)
              case hi44 => (simp only [List.getElem?_toArray, List.getElem?_cons_succ, List.getElem?_cons_zero]; rfl)
              go_simp
              refine Calls.mono (sAt_as z1 _ nd _ HND (by omega) (by omega)) ?_
              rintro e _ ⟨rfl, rfl⟩
              refine hK.out _ _ (heldC_one (fun _ => hf)) (fun hF => ?_)
              clear hK K
              try simp only [Act.put, List.setIfInBounds_toArray, List.set_cons_zero, List.set_cons_succ]
              refine wpG_ready (rs := [7]) (by kernel_rfl) (by simp) ?_
              refine all_one ?_
              refine wpOp_hand (oi := ?oi45) ?hi45 (fun K hK => ?hh45)
              case hi45 => (simp only [List.getElem?_toArray, List.getElem?_cons_succ, List.getElem?_cons_zero]; rfl)
              go_simp
              have hT := (ch_ok a (1 + r) a1 (by omega) (by omega)).sum M0 M1
              refine Calls.mono (put_right D6 La bA Ha nd a (1 + r) M _ ((HT.out.below HB1.out).drew) (HR1.out.na.below (Below.refl _ _).drew) nd6 a1 (by decide : 3 ≤ 8) (by show 1 ≤ ix [11, 12, 13] a ∧ ix [11, 12, 13] a ≤ 1000000000; exact key6 a a1) hT (by show M = sumAll (ix [11, 12, 13] a) (ntL a (1 + r) chB); rw [← Hky.out]; exact HM.out) (by show sumAll (ix [11, 12, 13] a) (ntL a (1 + r) chB) = M; rw [← Hky.out]; exact HM.out.symm) (HR1.out.pa nd a).1) ?_
              rintro e w6 ⟨rfl, hN6, hg6⟩
              refine hK.out _ _ (heldC_one (fun h => absurd h (by simp))) (fun hF => ?_)
              clear hK K
              try simp only [Act.put, List.setIfInBounds_toArray, List.set_cons_zero, List.set_cons_succ]
              refine wpG_ready (rs := [8]) (by kernel_rfl) (by simp) ?_
              refine all_one ?_
              refine wpOp_hand (oi := ?oi46) ?hi46 (fun K hK => ?hh46)
              case hi46 => (simp only [List.getElem?_toArray, List.getElem?_cons_succ, List.getElem?_cons_zero]; rfl)
              go_simp
              refine hK.out _ _ (heldC_one (fun h => absurd h (by simp))) (fun hF => ?_)
              clear hK K
              try simp only [Act.put, List.setIfInBounds_toArray, List.set_cons_zero, List.set_cons_succ]
              refine wpG_done (by kernel_rfl) ?_ _
              clear hf hF hT
              have oh := HR1.out.na.oh nd nd6
              have hg := (below_grownR (Below.refl wc.heap.size wc).drew (some (La.hb nd))).trans hg6
              have R6 := Lib.hid (HR1.out.putA HFB.out kA nd a (1 + r) nd6 (by omega) (by omega) hN6 hg)
              have B6 := Lib.hid (below_then HB1.out (Nat.le_refl _) hg (by omega))
              have P6 := Lib.hid (HP1.out.put hg (HPC.out.na nd nd6))
              have HMX := Lib.hid (show ∀ x, mxN (putH Ha nd a (1 + r)) x 6 = mxS (auS zs2) (nuS zs2) (fun x => x) x (i + 1) from fun x => by
                have h := mxS_put (auS zs2) (nuS zs2) (fun x => x) i Ha nd 6 nd6 (Int.le_trans (by decide) (nuS_r zs2 _).1) x (HXA.out x)
                have e1 : auS zs2 ((fun x => x) i) = a := by show auS zs2 i = a; exact HAE.out.symm
                have e2 : nuS zs2 ((fun x => x) i) = 1 + r := by show nuS zs2 i = 1 + r; exact hnu.out.symm
                rw [e1, e2] at h
                exact h)
              obtain ⟨g, hgg⟩ : ∃ g : Int, g = if Ha nd a < 1 + r then 0 else 9 := ⟨_, rfl⟩
              rw [← hgg]
              have hg2 : g = 0 ∨ g = 9 := by rw [hgg]; split <;> simp
              clear hgg hg hN6 hg6
              rcases hg2 with rfl | rfl
              all_goals
                go_wp2_with fail
                go_roundw
                case rel => exact ⟨1, _, Hb, by omega, rfl, R6.out, (fun x => by rw [if_pos (by omega)]; exact HMX.out x), (fun x => by rw [if_neg (by omega)]; exact HXB.out x), P6.out, B6.out⟩
                case measure => simp [intOf]
          · have HXA := Lib.hid (fun x => (hXA x).trans (by rw [if_pos (by omega)])); have HXB := Lib.hid (fun x => (hXB x).trans (by rw [if_neg (by omega)]))
            clear hR hXA hXB hP hb
            obtain ⟨kk, hkk⟩ : ∃ k, k = (i + t) % N := ⟨_, rfl⟩
            have kkN : kk < N := by rw [hkk]; exact Nat.mod_lt _ (by omega)
            have w1 : IntKind.i64.wrap ((i : Int) + (t : Int)) = (i : Int) + (t : Int) := IntWalk.i64_in _ (by omega)
            have w2 : ((i : Int) + (t : Int)).tmod (N : Int) = (kk : Int) := by rw [Int.tmod_eq_emod_of_nonneg (by omega), hkk]; simp
            have HKK := Lib.hid hkk
            clear hkk
            go_wp2_with fail
            refine Calls.mono (sAt_as turn N t _ HTN (by omega) (by omega)) ?_
            rintro e _ ⟨rfl, rfl⟩
            have kkN : kk < N := by omega
            have h2' := H2.out.stay (by decide) HB.out
            obtain ⟨q2, o2, hA2, hc⟩ := h2'.at' (by omega)
            have x0 := hc kk (by omega)
            subst hA2
            obtain ⟨z, hz⟩ : ∃ z, z = ix zs2 kk := ⟨_, rfl⟩
            rw [← hz] at x0
            have hX0 := Lib.hid x0
            clear hc h2' x0
            have k3 : (0 : Int) ≤ (kk : Int) := by omega
            have k4 : (kk : Int) < (n2 : Int) := by omega
            have k5 : (kk : Int) < (n1 : Int) := by omega
            obtain ⟨a, ha⟩ : ∃ a, a = auS zs2 kk := ⟨_, rfl⟩
            have a1 : a < 3 := by rw [ha]; exact auS_lt _ _
            have hav : (a : Int) = z % 3 := by rw [ha, hz]; unfold auS; omega
            obtain ⟨q, hq⟩ : ∃ q, q = IntKind.i64.wrap (z.tdiv 3) := ⟨_, rfl⟩
            obtain ⟨r, hr⟩ : ∃ r, r = q % 9 := ⟨_, rfl⟩
            have r0 : 0 ≤ r := by omega
            have r1 : r < 9 := by omega
            have hnu : Hid (1 + r = nuS zs2 kk) := Lib.hid (by rw [hr, hq, hz]; rfl)
            have p1 : IntKind.i64.wrap (1 + r) = 1 + r := IntWalk.i64_in _ (by omega)
            obtain ⟨ky, hky⟩ : ∃ x, x = ix [11, 12, 13] a := ⟨_, rfl⟩
            obtain ⟨k0, k1⟩ := key6 a a1
            rw [← hky] at k0 k1
            obtain ⟨M, hM⟩ : ∃ x, x = sumAll ky (ntL a (1 + r) ⟨#[99, 104, 97, 110, 103, 101]⟩) := ⟨_, rfl⟩
            have hMr := sumAll_range ky (ntL a (1 + r) ⟨#[99, 104, 97, 110, 103, 101]⟩)
            rw [← hM] at hMr
            obtain ⟨M0, M1⟩ := hMr
            have hsg : ∀ W, Tab W → Calls Tryd.prog 11 #[.int .i64 ky, .agg #[.int .i64 a, .int .i64 (1 + r), .string ⟨#[99, 104, 97, 110, 103, 101]⟩, .int .i64 0]] W fun e w' => e = .returned (.tuple #[.agg #[.int .i64 a, .int .i64 (1 + r), .string ⟨#[99, 104, 97, 110, 103, 101]⟩, .int .i64 M], .int .i64 0]) ∧ Below W.heap.size W w' := fun W hW => by
              rw [hM]; exact sign_ok ky a (1 + r) ⟨#[99, 104, 97, 110, 103, 101]⟩ 0 W hW (ch_ok a (1 + r) a1 (by omega) (by omega)) k0 k1
            have HS := Lib.hid hsg
            have HKC := Lib.hid (show wr.cell? ⟨kb, a, none⟩ = some (.int .i64 ky) by rw [hky]; exact HR.out.key a a1)
            have Hr := Lib.hid hr; have Hky := Lib.hid hky; have HM := Lib.hid hM
            have a0 : (0 : Int) ≤ (a : Int) := by omega
            have a2 : (a : Int) < 3 := by omega
            have Hav := Lib.hid hav; have HAE := Lib.hid ha; have HQ := Lib.hid hq
            have e4 : IntKind.i64.wrap (z.tdiv 3) = q := hq.symm
            clear hsg hr hky hM hav ha hz hq
            have x0 := hX0.out
            go_wp2_with fail
            refine Calls.mono (sAt_as z 3 a _ Hav (by omega) (by omega)) ?_
            rintro e _ ⟨rfl, rfl⟩
            clear x0
            go_wp2_with fail
            obtain ⟨X, hX⟩ : ∃ X, X = wr.drew := ⟨_, rfl⟩
            have BX := Lib.hid (show Below wr.heap.size wr X by rw [hX]; exact (Below.refl _ _).drew)
            have HhX := Lib.hid hX
            clear hX
            go_cut [19, 20] (fun p e wx => ∃ b3, p = .pointer (some ⟨b3, 0, none⟩) ∧ e = .int .i64 0 ∧ wr.heap.size ≤ b3 ∧ NtBox wx b3 a (1 + r) ⟨#[99, 104, 97, 110, 103, 101]⟩ M ∧ Below wr.heap.size wr wx)
            case first =>
              have hf : X.cell? ⟨kb, a, none⟩ = some (.int .i64 ky) ∧ X.cell? ⟨q2, o2 + kk, none⟩ = some (.int .i64 z) ∧ Below wr.heap.size wr X := ⟨(BX.out.cell (p := ⟨kb, a, none⟩) HR.out.kl).trans HKC.out, (BX.out.cell (p := ⟨q2, o2 + kk, none⟩) (cell_lt hX0.out)).trans hX0.out, BX.out⟩
              refine wp_region_G [(18, fun w' => w'.cell? ⟨kb, a, none⟩ = some (.int .i64 ky) ∧ w'.cell? ⟨q2, o2 + kk, none⟩ = some (.int .i64 z) ∧ Below wr.heap.size wr w'), (19, fun _ => True)] (by kernel_rfl) (heldC_two (fun _ => by rw [← HhX.out]; exact hf) (fun _ => trivial)) (fun hF => ?_)
              rw [← HhX.out] at hF ⊢
              refine wpG_take (oi := ?oi47) (v := ?vv47) 0 _ ?hi47 (List.Mem.head _) ?hc47 ?hQ47 hF ?hw47 ?hy47 (fun hF => ?hh47)
              case hi47 => (simp only [List.getElem?_toArray, List.getElem?_cons_succ, List.getElem?_cons_zero]; rfl)
              case hc47 => kernel_rfl
              case hQ47 => exact fun _ _ _ h => h
              case hw47 => rfl
              case hy47 => (intro wz hz; skip; go_simp; try (with_reducible rfl))
              try simp only [Act.put, List.setIfInBounds_toArray, List.set_cons_zero, List.set_cons_succ]
              refine wpG_take (oi := ?oi48) (v := ?vv48) 1 _ ?hi48 (List.Mem.head _) ?hc48 ?hQ48 hF ?hw48 ?hy48 (fun hF => ?hh48)
              case hi48 => (simp only [List.getElem?_toArray, List.getElem?_cons_succ, List.getElem?_cons_zero]; rfl)
              case hc48 => kernel_rfl
              case hQ48 => exact fun _ _ _ h => h
              case hw48 => rfl
              case hy48 => (intro wz hz; skip; go_simp; try (with_reducible rfl))
              try simp only [Act.put, List.setIfInBounds_toArray, List.set_cons_zero, List.set_cons_succ]
              refine wpG_take (oi := ?oi49) (v := ?vv49) 2 _ ?hi49 (List.Mem.head _) ?hc49 ?hQ49 hF ?hw49 ?hy49 (fun hF => ?hh49)
              case hi49 => (simp only [List.getElem?_toArray, List.getElem?_cons_succ, List.getElem?_cons_zero]; rfl)
              case hc49 => kernel_rfl
              case hQ49 => exact fun _ _ _ h => h
              case hw49 => rfl
              case hy49 => (intro wz hz; skip; go_simp; try (with_reducible rfl))
              try simp only [Act.put, List.setIfInBounds_toArray, List.set_cons_zero, List.set_cons_succ]
              refine wpG_take (oi := ?oi50) (v := ?vv50) 3 _ ?hi50 (List.Mem.head _) ?hc50 ?hQ50 hF ?hw50 ?hy50 (fun hF => ?hh50)
              case hi50 => (simp only [List.getElem?_toArray, List.getElem?_cons_succ, List.getElem?_cons_zero]; rfl)
              case hc50 => kernel_rfl
              case hQ50 => exact fun _ _ _ h => h
              case hw50 => rfl
              case hy50 => (intro wz hz; have zc := hz.1; go_simp; try (with_reducible rfl))
              try simp only [Act.put, List.setIfInBounds_toArray, List.set_cons_zero, List.set_cons_succ]
              refine wpG_take (oi := ?oi51) (v := ?vv51) 4 _ ?hi51 (List.Mem.head _) ?hc51 ?hQ51 hF ?hw51 ?hy51 (fun hF => ?hh51)
              case hi51 => (simp only [List.getElem?_toArray, List.getElem?_cons_succ, List.getElem?_cons_zero]; rfl)
              case hc51 => kernel_rfl
              case hQ51 => exact fun _ _ _ h => h
              case hw51 => rfl
              case hy51 => (intro wz hz; skip; go_simp; try (with_reducible rfl))
              try simp only [Act.put, List.setIfInBounds_toArray, List.set_cons_zero, List.set_cons_succ]
              refine wpG_take (oi := ?oi52) (v := ?vv52) 5 _ ?hi52 (List.Mem.head _) ?hc52 ?hQ52 hF ?hw52 ?hy52 (fun hF => ?hh52)
              case hi52 => (simp only [List.getElem?_toArray, List.getElem?_cons_succ, List.getElem?_cons_zero]; rfl)
              case hc52 => kernel_rfl
              case hQ52 => exact fun _ _ _ h => h
              case hw52 => rfl
              case hy52 => (intro wz hz; skip; go_simp; try (with_reducible rfl))
              try simp only [Act.put, List.setIfInBounds_toArray, List.set_cons_zero, List.set_cons_succ]
              refine wpG_take (oi := ?oi53) (v := ?vv53) 6 _ ?hi53 (List.Mem.head _) ?hc53 ?hQ53 hF ?hw53 ?hy53 (fun hF => ?hh53)
              case hi53 => (simp only [List.getElem?_toArray, List.getElem?_cons_succ, List.getElem?_cons_zero]; rfl)
              case hc53 => kernel_rfl
              case hQ53 => exact fun _ _ _ h => h
              case hw53 => rfl
              case hy53 => (intro wz hz; skip; go_simp; try (with_reducible rfl))
              try simp only [Act.put, List.setIfInBounds_toArray, List.set_cons_zero, List.set_cons_succ]
              refine wpG_take (oi := ?oi54) (v := ?vv54) 7 _ ?hi54 (List.Mem.head _) ?hc54 ?hQ54 hF ?hw54 ?hy54 (fun hF => ?hh54)
              case hi54 => (simp only [List.getElem?_toArray, List.getElem?_cons_succ, List.getElem?_cons_zero]; rfl)
              case hc54 => kernel_rfl
              case hQ54 => exact fun _ _ _ h => h
              case hw54 => rfl
              case hy54 => (intro wz hz; skip; go_simp; try (with_reducible rfl))
              try simp only [Act.put, List.setIfInBounds_toArray, List.set_cons_zero, List.set_cons_succ]
              refine wpG_take (oi := ?oi55) (v := ?vv55) 8 _ ?hi55 (List.Mem.head _) ?hc55 ?hQ55 hF ?hw55 ?hy55 (fun hF => ?hh55)
              case hi55 => (simp only [List.getElem?_toArray, List.getElem?_cons_succ, List.getElem?_cons_zero]; rfl)
              case hc55 => kernel_rfl
              case hQ55 => exact fun _ _ _ h => h
              case hw55 => rfl
              case hy55 => (intro wz hz; have zc := hz.2.1; go_simp; try (with_reducible rfl))
              try simp only [Act.put, List.setIfInBounds_toArray, List.set_cons_zero, List.set_cons_succ]
              refine wpG_take (oi := ?oi56) (v := ?vv56) 9 _ ?hi56 (List.Mem.head _) ?hc56 ?hQ56 hF ?hw56 ?hy56 (fun hF => ?hh56)
              case hi56 => (simp only [List.getElem?_toArray, List.getElem?_cons_succ, List.getElem?_cons_zero]; rfl)
              case hc56 => kernel_rfl
              case hQ56 => exact fun _ _ _ h => h
              case hw56 => rfl
              case hy56 => (intro wz hz; skip; go_simp; try (with_reducible rfl))
              try simp only [Act.put, List.setIfInBounds_toArray, List.set_cons_zero, List.set_cons_succ]
              refine wpG_ready (rs := [10, 17]) (by kernel_rfl) (by simp) ?_
              refine all_two ?_ ?_
              · skip
                refine wpOp_hand (oi := ?oi57) ?hi57 (fun K hK => ?hh57)
                case hi57 => (simp only [List.getElem?_toArray, List.getElem?_cons_succ, List.getElem?_cons_zero]; rfl)
                go_simp
                refine Calls.mono (sAt_as q 9 r _ Hr (by omega) (by omega)) ?_
                rintro e _ ⟨rfl, rfl⟩
                refine hK.out _ _ (heldC_two (fun _ => hf) (fun _ => trivial)) (fun hF => ?_)
                clear hK K
                try simp only [Act.put, List.setIfInBounds_toArray, List.set_cons_zero, List.set_cons_succ]
                refine wpG_take (oi := ?oi58) (v := ?vv58) 11 _ ?hi58 (List.Mem.head _) ?hc58 ?hQ58 hF ?hw58 ?hy58 (fun hF => ?hh58)
                case hi58 => (simp only [List.getElem?_toArray, List.getElem?_cons_succ, List.getElem?_cons_zero]; rfl)
                case hc58 => kernel_rfl
                case hQ58 => exact fun _ _ _ h => h
                case hw58 => rfl
                case hy58 => (intro wz hz; skip; go_simp; try (with_reducible rfl))
                try simp only [Act.put, List.setIfInBounds_toArray, List.set_cons_zero, List.set_cons_succ]
                refine wpG_take (oi := ?oi59) (v := ?vv59) 12 _ ?hi59 (List.Mem.head _) ?hc59 ?hQ59 hF ?hw59 ?hy59 (fun hF => ?hh59)
                case hi59 => (simp only [List.getElem?_toArray, List.getElem?_cons_succ, List.getElem?_cons_zero]; rfl)
                case hc59 => kernel_rfl
                case hQ59 => exact fun _ _ _ h => h
                case hw59 => rfl
                case hy59 => (intro wz hz; skip; go_simp; try (with_reducible rfl))
                try simp only [Act.put, List.setIfInBounds_toArray, List.set_cons_zero, List.set_cons_succ]
                refine wpG_ready (rs := [13, 17]) (by kernel_rfl) (by simp) ?_
                refine all_two ?_ ?_
                · skip
                  refine wpOp_hand (oi := ?oi60) ?hi60 (fun K hK => ?hh60)
                  case hi60 => (simp only [List.getElem?_toArray, List.getElem?_cons_succ, List.getElem?_cons_zero]; rfl)
                  go_simp
                  refine Calls.mono (HS.out _ ((HT.out.below HB.out).below hf.2.2)) ?_
                  rintro e wq ⟨rfl, hb⟩
                  have hfn : wq.cell? ⟨kb, a, none⟩ = some (.int .i64 ky) ∧ wq.cell? ⟨q2, o2 + kk, none⟩ = some (.int .i64 z) ∧ Below wr.heap.size wr wq := ⟨(hb.cell (p := ⟨kb, a, none⟩) (cell_lt hf.1)).trans hf.1, (hb.cell (p := ⟨q2, o2 + kk, none⟩) (cell_lt hf.2.1)).trans hf.2.1, hf.2.2.trans (hb.mono hf.2.2.size)⟩
                  clear hf hb
                  have hf := hfn
                  clear hfn
                  refine hK.out _ _ (heldC_two (fun _ => hf) (fun _ => trivial)) (fun hF => ?_)
                  clear hK K
                  try simp only [Act.put, List.setIfInBounds_toArray, List.set_cons_zero, List.set_cons_succ]
                  refine wpG_take (oi := ?oi61) (v := ?vv61) 14 _ ?hi61 (List.Mem.head _) ?hc61 ?hQ61 hF ?hw61 ?hy61 (fun hF => ?hh61)
                  case hi61 => (simp only [List.getElem?_toArray, List.getElem?_cons_succ, List.getElem?_cons_zero]; rfl)
                  case hc61 => kernel_rfl
                  case hQ61 => exact fun _ _ _ h => h
                  case hw61 => rfl
                  case hy61 => (intro wz hz; skip; go_simp; try (with_reducible rfl))
                  try simp only [Act.put, List.setIfInBounds_toArray, List.set_cons_zero, List.set_cons_succ]
                  refine wpG_take (oi := ?oi62) (v := ?vv62) 15 _ ?hi62 (List.Mem.head _) ?hc62 ?hQ62 hF ?hw62 ?hy62 (fun hF => ?hh62)
                  case hi62 => (simp only [List.getElem?_toArray, List.getElem?_cons_succ, List.getElem?_cons_zero]; rfl)
                  case hc62 => kernel_rfl
                  case hQ62 => exact fun _ _ _ h => h
                  case hw62 => rfl
                  case hy62 => (intro wz hz; skip; go_simp; try (with_reducible rfl))
                  try simp only [Act.put, List.setIfInBounds_toArray, List.set_cons_zero, List.set_cons_succ]
                  refine wpG_take (oi := ?oi63) (v := ?vv63) 16 _ ?hi63 (List.Mem.tail _ (List.Mem.head _)) ?hc63 ?hQ63 hF ?hw63 ?hy63 (fun hF => ?hh63)
                  case hi63 => (simp only [List.getElem?_toArray, List.getElem?_cons_succ, List.getElem?_cons_zero]; rfl)
                  case hc63 => kernel_rfl
                  case hQ63 => exact fun _ _ _ h => h
                  case hw63 => rfl
                  case hy63 => (intro wz hz; skip; go_simp; try (with_reducible rfl))
                  try simp only [Act.put, List.setIfInBounds_toArray, List.set_cons_zero, List.set_cons_succ]
                  refine wpG_ready (rs := [17]) (by kernel_rfl) (by simp) ?_
                  refine all_one ?_
                  refine wpOp_hand (oi := ?oi64) ?hi64 (fun K hK => ?hh64)
                  case hi64 => (simp only [List.getElem?_toArray, List.getElem?_cons_succ, List.getElem?_cons_zero]; rfl)
                  go_simp
                  have hN := NtBox.new wq 0 0 ⟨#[]⟩ 0
                  have hs3 := hf.2.2.size
                  obtain ⟨b3, hb3⟩ : ∃ b, b = wq.heap.size := ⟨_, rfl⟩
                  obtain ⟨Y, hY⟩ : ∃ Y, Y = wq.alloc (.cells #[.int .i64 0, .int .i64 0, .string ⟨#[]⟩, .int .i64 0] 23) := ⟨_, rfl⟩
                  have hfn : Y.cell? ⟨kb, a, none⟩ = some (.int .i64 ky) ∧ Y.cell? ⟨q2, o2 + kk, none⟩ = some (.int .i64 z) ∧ Below wr.heap.size wr Y := by rw [hY]; exact ⟨(((Below.refl _ _).alloc (Nat.le_refl _) _).cell (p := ⟨kb, a, none⟩) (cell_lt hf.1)).trans hf.1, (((Below.refl _ _).alloc (Nat.le_refl _) _).cell (p := ⟨q2, o2 + kk, none⟩) (cell_lt hf.2.1)).trans hf.2.1, hf.2.2.alloc hs3 _⟩
                  rw [← hb3] at hs3
                  rw [← hY, ← hb3] at hN ⊢
                  clear hf
                  have hf := hfn
                  clear hfn hY hb3
                  refine hK.out _ _ (heldC_two (fun _ => hf) (fun _ => trivial)) (fun hF => ?_)
                  clear hK K
                  try simp only [Act.put, List.setIfInBounds_toArray, List.set_cons_zero, List.set_cons_succ]
                  refine wpG_ready (rs := [18]) (by kernel_rfl) (by simp) ?_
                  refine all_one ?_
                  have x0 := hN.c0; have x1 := hN.c1; have x2 := hN.c2; have x3 := hN.c3; have xf0 := hN.free 0; have xf1 := hN.free 1; have xf2 := hN.free 2; have xf3 := hN.free 3; have xl := hN.lt
                  refine wpOp_hand (oi := ?oi65) ?hi65 (fun K hK => ?hh65)
                  case hi65 => (simp only [List.getElem?_toArray, List.getElem?_cons_succ, List.getElem?_cons_zero]; rfl)
                  go_simp
                  refine hK.out _ _ (heldC_two (fun h => absurd h (by simp)) (fun _ => trivial)) (fun hF => ?_)
                  clear hK K
                  try simp only [Act.put, List.setIfInBounds_toArray, List.set_cons_zero, List.set_cons_succ]
                  refine wpG_ready (rs := [19]) (by kernel_rfl) (by simp) ?_
                  refine all_one ?_
                  refine wpOp_hand (oi := ?oi66) ?hi66 (fun K hK => ?hh66)
                  case hi66 => (simp only [List.getElem?_toArray, List.getElem?_cons_succ, List.getElem?_cons_zero]; rfl)
                  go_simp
                  refine hK.out _ _ (heldC_two (fun h => absurd h (by simp)) (fun h => absurd h (by simp))) (fun hF => ?_)
                  clear hK K
                  try simp only [Act.put, List.setIfInBounds_toArray, List.set_cons_zero, List.set_cons_succ]
                  refine wpG_done (by kernel_rfl) ?_ _
                  have hNn := hN.set a (1 + r) ⟨#[99, 104, 97, 110, 103, 101]⟩ M
                  have hbl := (((hf.2.2.setCell (p := ⟨b3, 0, none⟩) hs3 (.int .i64 a)).setCell (p := ⟨b3, 1, none⟩) hs3 (.int .i64 (1 + r))).setCell (p := ⟨b3, 2, none⟩) hs3 (.string ⟨#[99, 104, 97, 110, 103, 101]⟩)).setCell (p := ⟨b3, 3, none⟩) hs3 (.int .i64 M)
                  clear x0 xf0 x1 xf1 x2 xf2 x3 xf3 xl
                  clear hf hN
                  go_wp2_with fail
                  go_meet
                  exact ⟨b3, rfl, rfl, hs3, hNn, hbl⟩
                · skip
                  refine wpOp_hand (oi := ?oi67) ?hi67 (fun K hK => ?hh67)
                  case hi67 => (simp only [List.getElem?_toArray, List.getElem?_cons_succ, List.getElem?_cons_zero]; rfl)
                  go_simp
                  have hN := NtBox.new X 0 0 ⟨#[]⟩ 0
                  have hs3 := hf.2.2.size
                  obtain ⟨b3, hb3⟩ : ∃ b, b = X.heap.size := ⟨_, rfl⟩
                  obtain ⟨Y, hY⟩ : ∃ Y, Y = X.alloc (.cells #[.int .i64 0, .int .i64 0, .string ⟨#[]⟩, .int .i64 0] 23) := ⟨_, rfl⟩
                  have hfn : Y.cell? ⟨kb, a, none⟩ = some (.int .i64 ky) ∧ Y.cell? ⟨q2, o2 + kk, none⟩ = some (.int .i64 z) ∧ Below wr.heap.size wr Y := by rw [hY]; exact ⟨(((Below.refl _ _).alloc (Nat.le_refl _) _).cell (p := ⟨kb, a, none⟩) (cell_lt hf.1)).trans hf.1, (((Below.refl _ _).alloc (Nat.le_refl _) _).cell (p := ⟨q2, o2 + kk, none⟩) (cell_lt hf.2.1)).trans hf.2.1, hf.2.2.alloc hs3 _⟩
                  rw [← hb3] at hs3
                  rw [← hY, ← hb3] at hN ⊢
                  clear hf
                  have hf := hfn
                  clear hfn hY hb3
                  refine hK.out _ _ (heldC_two (fun _ => hf) (fun _ => trivial)) (fun hF => ?_)
                  clear hK K
                  try simp only [Act.put, List.setIfInBounds_toArray, List.set_cons_zero, List.set_cons_succ]
                  refine wpG_ready (rs := [13]) (by kernel_rfl) (by simp) ?_
                  refine all_one ?_
                  refine wpOp_hand (oi := ?oi68) ?hi68 (fun K hK => ?hh68)
                  case hi68 => (simp only [List.getElem?_toArray, List.getElem?_cons_succ, List.getElem?_cons_zero]; rfl)
                  go_simp
                  refine Calls.mono (HS.out _ ((HT.out.below HB.out).below hf.2.2)) ?_
                  rintro e wq ⟨rfl, hb⟩
                  have hfn : wq.cell? ⟨kb, a, none⟩ = some (.int .i64 ky) ∧ wq.cell? ⟨q2, o2 + kk, none⟩ = some (.int .i64 z) ∧ Below wr.heap.size wr wq := ⟨(hb.cell (p := ⟨kb, a, none⟩) (cell_lt hf.1)).trans hf.1, (hb.cell (p := ⟨q2, o2 + kk, none⟩) (cell_lt hf.2.1)).trans hf.2.1, hf.2.2.trans (hb.mono hf.2.2.size)⟩
                  have hNn := hN.below hb
                  clear hN
                  have hN := hNn
                  clear hNn
                  clear hf hb
                  have hf := hfn
                  clear hfn
                  refine hK.out _ _ (heldC_two (fun _ => hf) (fun _ => trivial)) (fun hF => ?_)
                  clear hK K
                  try simp only [Act.put, List.setIfInBounds_toArray, List.set_cons_zero, List.set_cons_succ]
                  refine wpG_take (oi := ?oi69) (v := ?vv69) 14 _ ?hi69 (List.Mem.head _) ?hc69 ?hQ69 hF ?hw69 ?hy69 (fun hF => ?hh69)
                  case hi69 => (simp only [List.getElem?_toArray, List.getElem?_cons_succ, List.getElem?_cons_zero]; rfl)
                  case hc69 => kernel_rfl
                  case hQ69 => exact fun _ _ _ h => h
                  case hw69 => rfl
                  case hy69 => (intro wz hz; skip; go_simp; try (with_reducible rfl))
                  try simp only [Act.put, List.setIfInBounds_toArray, List.set_cons_zero, List.set_cons_succ]
                  refine wpG_take (oi := ?oi70) (v := ?vv70) 15 _ ?hi70 (List.Mem.head _) ?hc70 ?hQ70 hF ?hw70 ?hy70 (fun hF => ?hh70)
                  case hi70 => (simp only [List.getElem?_toArray, List.getElem?_cons_succ, List.getElem?_cons_zero]; rfl)
                  case hc70 => kernel_rfl
                  case hQ70 => exact fun _ _ _ h => h
                  case hw70 => rfl
                  case hy70 => (intro wz hz; skip; go_simp; try (with_reducible rfl))
                  try simp only [Act.put, List.setIfInBounds_toArray, List.set_cons_zero, List.set_cons_succ]
                  refine wpG_take (oi := ?oi71) (v := ?vv71) 16 _ ?hi71 (List.Mem.tail _ (List.Mem.head _)) ?hc71 ?hQ71 hF ?hw71 ?hy71 (fun hF => ?hh71)
                  case hi71 => (simp only [List.getElem?_toArray, List.getElem?_cons_succ, List.getElem?_cons_zero]; rfl)
                  case hc71 => kernel_rfl
                  case hQ71 => exact fun _ _ _ h => h
                  case hw71 => rfl
                  case hy71 => (intro wz hz; skip; go_simp; try (with_reducible rfl))
                  try simp only [Act.put, List.setIfInBounds_toArray, List.set_cons_zero, List.set_cons_succ]
                  refine wpG_ready (rs := [18]) (by kernel_rfl) (by simp) ?_
                  refine all_one ?_
                  have x0 := hN.c0; have x1 := hN.c1; have x2 := hN.c2; have x3 := hN.c3; have xf0 := hN.free 0; have xf1 := hN.free 1; have xf2 := hN.free 2; have xf3 := hN.free 3; have xl := hN.lt
                  refine wpOp_hand (oi := ?oi72) ?hi72 (fun K hK => ?hh72)
                  case hi72 => (simp only [List.getElem?_toArray, List.getElem?_cons_succ, List.getElem?_cons_zero]; rfl)
                  go_simp
                  refine hK.out _ _ (heldC_two (fun h => absurd h (by simp)) (fun _ => trivial)) (fun hF => ?_)
                  clear hK K
                  try simp only [Act.put, List.setIfInBounds_toArray, List.set_cons_zero, List.set_cons_succ]
                  refine wpG_ready (rs := [19]) (by kernel_rfl) (by simp) ?_
                  refine all_one ?_
                  refine wpOp_hand (oi := ?oi73) ?hi73 (fun K hK => ?hh73)
                  case hi73 => (simp only [List.getElem?_toArray, List.getElem?_cons_succ, List.getElem?_cons_zero]; rfl)
                  go_simp
                  refine hK.out _ _ (heldC_two (fun h => absurd h (by simp)) (fun h => absurd h (by simp))) (fun hF => ?_)
                  clear hK K
                  try simp only [Act.put, List.setIfInBounds_toArray, List.set_cons_zero, List.set_cons_succ]
                  refine wpG_done (by kernel_rfl) ?_ _
                  have hNn := hN.set a (1 + r) ⟨#[99, 104, 97, 110, 103, 101]⟩ M
                  have hbl := (((hf.2.2.setCell (p := ⟨b3, 0, none⟩) hs3 (.int .i64 a)).setCell (p := ⟨b3, 1, none⟩) hs3 (.int .i64 (1 + r))).setCell (p := ⟨b3, 2, none⟩) hs3 (.string ⟨#[99, 104, 97, 110, 103, 101]⟩)).setCell (p := ⟨b3, 3, none⟩) hs3 (.int .i64 M)
                  clear x0 xf0 x1 xf1 x2 xf2 x3 xf3 xl
                  clear hf hN
                  go_wp2_with fail
                  go_meet
                  exact ⟨b3, rfl, rfl, hs3, hNn, hbl⟩
              · skip
                refine wpOp_hand (oi := ?oi74) ?hi74 (fun K hK => ?hh74)
                case hi74 => (simp only [List.getElem?_toArray, List.getElem?_cons_succ, List.getElem?_cons_zero]; rfl)
                go_simp
                have hN := NtBox.new X 0 0 ⟨#[]⟩ 0
                have hs3 := hf.2.2.size
                obtain ⟨b3, hb3⟩ : ∃ b, b = X.heap.size := ⟨_, rfl⟩
                obtain ⟨Y, hY⟩ : ∃ Y, Y = X.alloc (.cells #[.int .i64 0, .int .i64 0, .string ⟨#[]⟩, .int .i64 0] 23) := ⟨_, rfl⟩
                have hfn : Y.cell? ⟨kb, a, none⟩ = some (.int .i64 ky) ∧ Y.cell? ⟨q2, o2 + kk, none⟩ = some (.int .i64 z) ∧ Below wr.heap.size wr Y := by rw [hY]; exact ⟨(((Below.refl _ _).alloc (Nat.le_refl _) _).cell (p := ⟨kb, a, none⟩) (cell_lt hf.1)).trans hf.1, (((Below.refl _ _).alloc (Nat.le_refl _) _).cell (p := ⟨q2, o2 + kk, none⟩) (cell_lt hf.2.1)).trans hf.2.1, hf.2.2.alloc hs3 _⟩
                rw [← hb3] at hs3
                rw [← hY, ← hb3] at hN ⊢
                clear hf
                have hf := hfn
                clear hfn hY hb3
                refine hK.out _ _ (heldC_two (fun _ => hf) (fun _ => trivial)) (fun hF => ?_)
                clear hK K
                try simp only [Act.put, List.setIfInBounds_toArray, List.set_cons_zero, List.set_cons_succ]
                refine wpG_ready (rs := [10]) (by kernel_rfl) (by simp) ?_
                refine all_one ?_
                refine wpOp_hand (oi := ?oi75) ?hi75 (fun K hK => ?hh75)
                case hi75 => (simp only [List.getElem?_toArray, List.getElem?_cons_succ, List.getElem?_cons_zero]; rfl)
                go_simp
                refine Calls.mono (sAt_as q 9 r _ Hr (by omega) (by omega)) ?_
                rintro e _ ⟨rfl, rfl⟩
                refine hK.out _ _ (heldC_two (fun _ => hf) (fun _ => trivial)) (fun hF => ?_)
                clear hK K
                try simp only [Act.put, List.setIfInBounds_toArray, List.set_cons_zero, List.set_cons_succ]
                refine wpG_take (oi := ?oi76) (v := ?vv76) 11 _ ?hi76 (List.Mem.head _) ?hc76 ?hQ76 hF ?hw76 ?hy76 (fun hF => ?hh76)
                case hi76 => (simp only [List.getElem?_toArray, List.getElem?_cons_succ, List.getElem?_cons_zero]; rfl)
                case hc76 => kernel_rfl
                case hQ76 => exact fun _ _ _ h => h
                case hw76 => rfl
                case hy76 => (intro wz hz; skip; go_simp; try (with_reducible rfl))
                try simp only [Act.put, List.setIfInBounds_toArray, List.set_cons_zero, List.set_cons_succ]
                refine wpG_take (oi := ?oi77) (v := ?vv77) 12 _ ?hi77 (List.Mem.head _) ?hc77 ?hQ77 hF ?hw77 ?hy77 (fun hF => ?hh77)
                case hi77 => (simp only [List.getElem?_toArray, List.getElem?_cons_succ, List.getElem?_cons_zero]; rfl)
                case hc77 => kernel_rfl
                case hQ77 => exact fun _ _ _ h => h
                case hw77 => rfl
                case hy77 => (intro wz hz; skip; go_simp; try (with_reducible rfl))
                try simp only [Act.put, List.setIfInBounds_toArray, List.set_cons_zero, List.set_cons_succ]
                refine wpG_ready (rs := [13]) (by kernel_rfl) (by simp) ?_
                refine all_one ?_
                refine wpOp_hand (oi := ?oi78) ?hi78 (fun K hK => ?hh78)
                case hi78 => (simp only [List.getElem?_toArray, List.getElem?_cons_succ, List.getElem?_cons_zero]; rfl)
                go_simp
                refine Calls.mono (HS.out _ ((HT.out.below HB.out).below hf.2.2)) ?_
                rintro e wq ⟨rfl, hb⟩
                have hfn : wq.cell? ⟨kb, a, none⟩ = some (.int .i64 ky) ∧ wq.cell? ⟨q2, o2 + kk, none⟩ = some (.int .i64 z) ∧ Below wr.heap.size wr wq := ⟨(hb.cell (p := ⟨kb, a, none⟩) (cell_lt hf.1)).trans hf.1, (hb.cell (p := ⟨q2, o2 + kk, none⟩) (cell_lt hf.2.1)).trans hf.2.1, hf.2.2.trans (hb.mono hf.2.2.size)⟩
                have hNn := hN.below hb
                clear hN
                have hN := hNn
                clear hNn
                clear hf hb
                have hf := hfn
                clear hfn
                refine hK.out _ _ (heldC_two (fun _ => hf) (fun _ => trivial)) (fun hF => ?_)
                clear hK K
                try simp only [Act.put, List.setIfInBounds_toArray, List.set_cons_zero, List.set_cons_succ]
                refine wpG_take (oi := ?oi79) (v := ?vv79) 14 _ ?hi79 (List.Mem.head _) ?hc79 ?hQ79 hF ?hw79 ?hy79 (fun hF => ?hh79)
                case hi79 => (simp only [List.getElem?_toArray, List.getElem?_cons_succ, List.getElem?_cons_zero]; rfl)
                case hc79 => kernel_rfl
                case hQ79 => exact fun _ _ _ h => h
                case hw79 => rfl
                case hy79 => (intro wz hz; skip; go_simp; try (with_reducible rfl))
                try simp only [Act.put, List.setIfInBounds_toArray, List.set_cons_zero, List.set_cons_succ]
                refine wpG_take (oi := ?oi80) (v := ?vv80) 15 _ ?hi80 (List.Mem.head _) ?hc80 ?hQ80 hF ?hw80 ?hy80 (fun hF => ?hh80)
                case hi80 => (simp only [List.getElem?_toArray, List.getElem?_cons_succ, List.getElem?_cons_zero]; rfl)
                case hc80 => kernel_rfl
                case hQ80 => exact fun _ _ _ h => h
                case hw80 => rfl
                case hy80 => (intro wz hz; skip; go_simp; try (with_reducible rfl))
                try simp only [Act.put, List.setIfInBounds_toArray, List.set_cons_zero, List.set_cons_succ]
                refine wpG_take (oi := ?oi81) (v := ?vv81) 16 _ ?hi81 (List.Mem.tail _ (List.Mem.head _)) ?hc81 ?hQ81 hF ?hw81 ?hy81 (fun hF => ?hh81)
                case hi81 => (simp only [List.getElem?_toArray, List.getElem?_cons_succ, List.getElem?_cons_zero]; rfl)
                case hc81 => kernel_rfl
                case hQ81 => exact fun _ _ _ h => h
                case hw81 => rfl
                case hy81 => (intro wz hz; skip; go_simp; try (with_reducible rfl))
                try simp only [Act.put, List.setIfInBounds_toArray, List.set_cons_zero, List.set_cons_succ]
                refine wpG_ready (rs := [18]) (by kernel_rfl) (by simp) ?_
                refine all_one ?_
                have x0 := hN.c0; have x1 := hN.c1; have x2 := hN.c2; have x3 := hN.c3; have xf0 := hN.free 0; have xf1 := hN.free 1; have xf2 := hN.free 2; have xf3 := hN.free 3; have xl := hN.lt
                refine wpOp_hand (oi := ?oi82) ?hi82 (fun K hK => ?hh82)
                case hi82 => (simp only [List.getElem?_toArray, List.getElem?_cons_succ, List.getElem?_cons_zero]; rfl)
                go_simp
                refine hK.out _ _ (heldC_two (fun h => absurd h (by simp)) (fun _ => trivial)) (fun hF => ?_)
                clear hK K
                try simp only [Act.put, List.setIfInBounds_toArray, List.set_cons_zero, List.set_cons_succ]
                refine wpG_ready (rs := [19]) (by kernel_rfl) (by simp) ?_
                refine all_one ?_
                refine wpOp_hand (oi := ?oi83) ?hi83 (fun K hK => ?hh83)
                case hi83 => (simp only [List.getElem?_toArray, List.getElem?_cons_succ, List.getElem?_cons_zero]; rfl)
                go_simp
                refine hK.out _ _ (heldC_two (fun h => absurd h (by simp)) (fun h => absurd h (by simp))) (fun hF => ?_)
                clear hK K
                try simp only [Act.put, List.setIfInBounds_toArray, List.set_cons_zero, List.set_cons_succ]
                refine wpG_done (by kernel_rfl) ?_ _
                have hNn := hN.set a (1 + r) ⟨#[99, 104, 97, 110, 103, 101]⟩ M
                have hbl := (((hf.2.2.setCell (p := ⟨b3, 0, none⟩) hs3 (.int .i64 a)).setCell (p := ⟨b3, 1, none⟩) hs3 (.int .i64 (1 + r))).setCell (p := ⟨b3, 2, none⟩) hs3 (.string ⟨#[99, 104, 97, 110, 103, 101]⟩)).setCell (p := ⟨b3, 3, none⟩) hs3 (.int .i64 M)
                clear x0 xf0 x1 xf1 x2 xf2 x3 xf3 xl
                clear hf hN
                go_wp2_with fail
                go_meet
                exact ⟨b3, rfl, rfl, hs3, hNn, hbl⟩
            case rest =>
              obtain ⟨b3, rfl, rfl, hb3, hN, hb⟩ := hcut
              have HR1 := Lib.hid (HR.out.below hb)
              have HB1 := Lib.hid (HB.out.trans (hb.mono HB.out.size))
              have hP1 := HPC.out.below hb
              have HP1 := Lib.hid hP1
              have h1' := H1.out.stay (by decide) HB1.out
              obtain ⟨q1, o1, hA1, hc⟩ := h1'.at' (by omega)
              have y0 := hc kk (by omega)
              subst hA1
              obtain ⟨z1, hz1⟩ : ∃ z, z = ix zs1 kk := ⟨_, rfl⟩
              rw [← hz1] at y0
              obtain ⟨nd, hnd⟩ : ∃ x, x = ndS zs1 kk := ⟨_, rfl⟩
              have nd6 : nd < 6 := by rw [hnd]; exact ndS_lt _ _
              have hnd' : (nd : Int) = z1 % 6 := by rw [hnd, hz1]; unfold ndS; omega
              have HND := Lib.hid hnd'
              have HN3 := Lib.hid hN
              have HY0 := Lib.hid y0
              have sb := hb.size
              clear hN hb hc h1' hz1 y0 hnd hnd' HS HKC BX HhX hP1
              go_wp2_with fail
              have hf : wc.drew.cell? ⟨q1, o1 + kk, none⟩ = some (.int .i64 z1) ∧ NtBox wc.drew b3 a (1 + r) ⟨#[99, 104, 97, 110, 103, 101]⟩ M ∧ Below wc.heap.size wc wc.drew := ⟨HY0.out, HN3.out, (Below.refl _ _).drew⟩
              refine wp_region_G [(7, fun w' => w'.cell? ⟨q1, o1 + kk, none⟩ = some (.int .i64 z1) ∧ NtBox w' b3 a (1 + r) ⟨#[99, 104, 97, 110, 103, 101]⟩ M ∧ Below wc.heap.size wc w')] (by kernel_rfl) (heldC_one (fun _ => hf)) (fun hF => ?_)
              refine wpG_take (oi := ?oi84) (v := ?vv84) 0 _ ?hi84 (List.Mem.head _) ?hc84 ?hQ84 hF ?hw84 ?hy84 (fun hF => ?hh84)
              case hi84 => (simp only [List.getElem?_toArray, List.getElem?_cons_succ, List.getElem?_cons_zero]; rfl)
              case hc84 => kernel_rfl
              case hQ84 => exact fun _ _ _ h => h
              case hw84 => rfl
              case hy84 => (intro wz hz; skip; go_simp; try (with_reducible rfl))
              try simp only [Act.put, List.setIfInBounds_toArray, List.set_cons_zero, List.set_cons_succ]
              refine wpG_takeC (oi := ?oi85) (v := ?vv85) 1 _ [5,4,3] ?hi85 (List.Mem.head _) ?hc85 ?hQ85 hF ?hw85 ?hy85 (fun hF => ?hh85)
              case hi85 => (simp only [List.getElem?_toArray, List.getElem?_cons_succ, List.getElem?_cons_zero]; rfl)
              case hc85 => kernel_rfl
              case hQ85 => exact fun _ _ _ h => h
              case hw85 => rfl
              case hy85 => (intro wz hz; skip; go_simp; try (with_reducible rfl))
              try simp only [Act.put, List.setIfInBounds_toArray, List.set_cons_zero, List.set_cons_succ]
              refine wpG_takeC (oi := ?oi86) (v := ?vv86) 2 _ [5,4,3] ?hi86 (List.Mem.head _) ?hc86 ?hQ86 hF ?hw86 ?hy86 (fun hF => ?hh86)
              case hi86 => (simp only [List.getElem?_toArray, List.getElem?_cons_succ, List.getElem?_cons_zero]; rfl)
              case hc86 => kernel_rfl
              case hQ86 => exact fun _ _ _ h => h
              case hw86 => rfl
              case hy86 => (intro wz hz; skip; go_simp; try (with_reducible rfl))
              try simp only [Act.put, List.setIfInBounds_toArray, List.set_cons_zero, List.set_cons_succ]
              refine wpG_takeC (oi := ?oi87) (v := ?vv87) 3 _ [5,4] ?hi87 (List.Mem.head _) ?hc87 ?hQ87 hF ?hw87 ?hy87 (fun hF => ?hh87)
              case hi87 => (simp only [List.getElem?_toArray, List.getElem?_cons_succ, List.getElem?_cons_zero]; rfl)
              case hc87 => kernel_rfl
              case hQ87 => exact fun _ _ _ h => h
              case hw87 => rfl
              case hy87 => (intro wz hz; skip; go_simp; try (with_reducible rfl))
              try simp only [Act.put, List.setIfInBounds_toArray, List.set_cons_zero, List.set_cons_succ]
              refine wpG_takeC (oi := ?oi88) (v := ?vv88) 4 _ [5] ?hi88 (List.Mem.head _) ?hc88 ?hQ88 hF ?hw88 ?hy88 (fun hF => ?hh88)
              case hi88 => (simp only [List.getElem?_toArray, List.getElem?_cons_succ, List.getElem?_cons_zero]; rfl)
              case hc88 => kernel_rfl
              case hQ88 => exact fun _ _ _ h => h
              case hw88 => rfl
              case hy88 => (intro wz hz; have zc := hz.1; go_simp; try (with_reducible rfl))
              try simp only [Act.put, List.setIfInBounds_toArray, List.set_cons_zero, List.set_cons_succ]
              refine wpG_take (oi := ?oi89) (v := ?vv89) 6 _ ?hi89 (List.Mem.head _) ?hc89 ?hQ89 hF ?hw89 ?hy89 (fun hF => ?hh89)
              case hi89 => (simp only [List.getElem?_toArray, List.getElem?_cons_succ, List.getElem?_cons_zero]; rfl)
              case hc89 => kernel_rfl
              case hQ89 => exact fun _ _ _ h => h
              case hw89 => rfl
              case hy89 => (intro wz hz; have z0 := hz.2.1.c0; have z1 := hz.2.1.c1; have z2 := hz.2.1.c2; have z3 := hz.2.1.c3; go_simp; try (with_reducible rfl))
              try simp only [Act.put, List.setIfInBounds_toArray, List.set_cons_zero, List.set_cons_succ]
              refine wpG_ready (rs := [5]) (by kernel_rfl) (by simp) ?_
              refine all_one ?_
              refine wpOp_hand (oi := ?oi90) ?hi90 (fun K hK => ?hh90)
              case hi90 => (simp only [List.getElem?_toArray, List.getElem?_cons_succ, List.getElem?_cons_zero]; rfl)
              go_simp
              refine Calls.mono (sAt_as z1 _ nd _ HND (by omega) (by omega)) ?_
              rintro e _ ⟨rfl, rfl⟩
              refine hK.out _ _ (heldC_one (fun _ => hf)) (fun hF => ?_)
              clear hK K
              try simp only [Act.put, List.setIfInBounds_toArray, List.set_cons_zero, List.set_cons_succ]
              refine wpG_ready (rs := [7]) (by kernel_rfl) (by simp) ?_
              refine all_one ?_
              refine wpOp_hand (oi := ?oi91) ?hi91 (fun K hK => ?hh91)
              case hi91 => (simp only [List.getElem?_toArray, List.getElem?_cons_succ, List.getElem?_cons_zero]; rfl)
              go_simp
              have hT := (ch_ok a (1 + r) a1 (by omega) (by omega)).sum M0 M1
              refine Calls.mono (put_right D6 Lb bB Hb nd a (1 + r) M _ ((HT.out.below HB1.out).drew) (HR1.out.nb.below (Below.refl _ _).drew) nd6 a1 (by decide : 3 ≤ 8) (by show 1 ≤ ix [11, 12, 13] a ∧ ix [11, 12, 13] a ≤ 1000000000; exact key6 a a1) hT (by show M = sumAll (ix [11, 12, 13] a) (ntL a (1 + r) chB); rw [← Hky.out]; exact HM.out) (by show sumAll (ix [11, 12, 13] a) (ntL a (1 + r) chB) = M; rw [← Hky.out]; exact HM.out.symm) (HR1.out.pb nd a).1) ?_
              rintro e w6 ⟨rfl, hN6, hg6⟩
              refine hK.out _ _ (heldC_one (fun h => absurd h (by simp))) (fun hF => ?_)
              clear hK K
              try simp only [Act.put, List.setIfInBounds_toArray, List.set_cons_zero, List.set_cons_succ]
              refine wpG_ready (rs := [8]) (by kernel_rfl) (by simp) ?_
              refine all_one ?_
              refine wpOp_hand (oi := ?oi92) ?hi92 (fun K hK => ?hh92)
              case hi92 => (simp only [List.getElem?_toArray, List.getElem?_cons_succ, List.getElem?_cons_zero]; rfl)
              go_simp
              refine hK.out _ _ (heldC_one (fun h => absurd h (by simp))) (fun hF => ?_)
              clear hK K
              try simp only [Act.put, List.setIfInBounds_toArray, List.set_cons_zero, List.set_cons_succ]
              refine wpG_done (by kernel_rfl) ?_ _
              clear hf hF hT
              have oh := HR1.out.nb.oh nd nd6
              have hg := (below_grownR (Below.refl wc.heap.size wc).drew (some (Lb.hb nd))).trans hg6
              have R6 := Lib.hid (HR1.out.putB HFA.out (show kb < bB by omega) nd a (1 + r) nd6 (by omega) (by omega) hN6 hg)
              have B6 := Lib.hid (below_then HB1.out (Nat.le_refl _) hg (by omega))
              have P6 := Lib.hid (HP1.out.put hg (HPC.out.nb nd nd6))
              have HMX := Lib.hid (show ∀ x, mxN (putH Hb nd a (1 + r)) x 6 = mxS (auS zs2) (nuS zs2) (fun x => (x + t) % N) x (i + 1) from fun x => by
                have h := mxS_put (auS zs2) (nuS zs2) (fun x => (x + t) % N) i Hb nd 6 nd6 (Int.le_trans (by decide) (nuS_r zs2 _).1) x (HXB.out x)
                have e1 : auS zs2 ((fun x => (x + t) % N) i) = a := by show auS zs2 ((i + t) % N) = a; rw [← HKK.out]; exact HAE.out.symm
                have e2 : nuS zs2 ((fun x => (x + t) % N) i) = 1 + r := by show nuS zs2 ((i + t) % N) = 1 + r; rw [← HKK.out]; exact hnu.out.symm
                rw [e1, e2] at h
                exact h)
              obtain ⟨g, hgg⟩ : ∃ g : Int, g = if Hb nd a < 1 + r then 0 else 9 := ⟨_, rfl⟩
              rw [← hgg]
              have hg2 : g = 0 ∨ g = 9 := by rw [hgg]; split <;> simp
              clear hgg hg hN6 hg6
              rcases hg2 with rfl | rfl
              all_goals
                go_wp2_with fail
                go_roundw
                case rel => exact ⟨2, Ha, _, by omega, rfl, R6.out, (fun x => by rw [if_pos (by omega)]; exact HXA.out x), (fun x => by rw [if_pos (by omega)]; exact HMX.out x), P6.out, B6.out⟩
                case measure => simp [intOf]
          · have hXA2 : ∀ a, mxN Ha a 6 = mxS (auS zs2) (nuS zs2) (fun x => x) a (i + 1) := hXA
            have hXB2 : ∀ a, mxN Hb a 6 = mxS (auS zs2) (nuS zs2) (fun x => (x + t) % N) a (i + 1) := hXB
            clear pc0 pc1 pc2
            go_wp2_with fail
            go_roundw
            case rel => exact ⟨i + 1, Ha, Hb, by omega, by go_num, hR, hXA2, hXB2, hb⟩
            case measure => simp [intOf]; omega
      · obtain rfl : i = N := by omega
        have hMM : ∀ a, mxN Hb a 6 = mxN Ha a 6 := fun a => by
          rw [hXA a, hXB a]
          by_cases e : i = 0
          · subst e; rfl
          · exact mxS_turn _ _ _ _ _ (by rw [HTT.out]; have := Int.emod_lt_of_pos turn (by omega : (0 : Int) < (i : Int)); have := Int.emod_nonneg turn (by omega : (i : Int) ≠ 0); omega)
        have hmaxA : ∀ x, x < D6.n → ∀ a, a < D6.K → iterN D6 Ha 3 x a = mxN Ha a 6 := fun x hx a ha => iter_max ok6 Ha a 3 _ reach6 (fun i hi => (mxN_ge Ha a 6).2 i hi) (mxN_is Ha a 6 (by decide) (fun i _ => (hR.pa i a).1)) x hx
        have hmaxB : ∀ x, x < D6.n → ∀ a, a < D6.K → iterN D6 Hb 3 x a = mxN Ha a 6 := fun x hx a ha => by
          rw [← hMM a]
          exact iter_max ok6 Hb a 3 _ reach6 (fun i hi => (mxN_ge Hb a 6).2 i hi) (mxN_is Hb a 6 (by decide) (fun i _ => (hR.pb i a).1)) x hx
        have FXA := Lib.hid (fix_of_max ok6 Ha 3 (fun a => mxN Ha a 6) hmaxA)
        have FXB := Lib.hid (fix_of_max ok6 Hb 3 (fun a => mxN Ha a 6) hmaxB)
        have HMA := Lib.hid hmaxA; have HMB := Lib.hid hmaxB
        have HLIM := Lib.hid (fun a => And.intro (mxN_ge Ha a 6).1 (mxN_lim Ha a 9 (by decide) (fun x y => (hR.pa x y).2) 6))
        have HR := Lib.hid hR; have HB := Lib.hid hb
        have lar := hR.na.lb; have lbr := hR.nb.lb
        have szr := hb.size
        clear hMM hmaxA hmaxB hR hb hXA hXB
        go_wp2_with fail
        refine Calls.mono (settle_ok D6 La bA Ha 3 _ ok6 HR.out.na (by omega) (by omega) FXA.out) ?_
        rintro e w9 ⟨L9, q, hq, rfl, hf, hN, hg, hLb, hLk, hLn, hLnb, hbh, hhb⟩
        have q4 : ¬ (3 : Int) < (q : Int) := by omega
        have B9 := Lib.hid (below_then HB.out (Nat.le_refl _) hg (by omega))
        have HNb9 := Lib.hid (HR.out.nb.grown hg HFBb.out)
        have HNa9 := Lib.hid hN
        have HK9 := Lib.hid (fun j (hj : j < 3) => (hg.cell_far ⟨kb, j, none⟩ HR.out.kl (fun e => by have := Option.some.inj e; simp at this; omega)).trans (HR.out.key j hj))
        have HVA := Lib.hid (fun (x : Nat) (hx : x < 6) (a : Nat) (ha : a < 3) => show iterN D6 Ha q x a = mxN Ha a 6 from (rest_max ok6 Ha q 3 hq hf a ha x hx).trans (HMA.out x hx a ha))
        have HF9 := Lib.hid (show NetFar D6 L9 (some Lb.b) from
          ⟨by rw [hLb]; exact HFAb.out.b, by rw [hLk]; exact HFAb.out.k, by rw [hLn]; exact HFAb.out.n, fun e => by have := Option.some.inj e; omega, fun j hj => by rw [hLnb]; exact HFAb.out.nb j hj, fun j hj e => by have := Option.some.inj e; have := hhb j hj; omega⟩)
        have HL9 := Lib.hid hLb
        have sz9 := hg.size
        have kl9 : kb < w9.heap.size := Nat.lt_of_lt_of_le HR.out.kl hg.size
        clear hf hN hg hLb hLk hLn hLnb hbh hhb
        go_wp2_with fail
        refine Calls.mono (settle_ok D6 Lb bB Hb 3 _ ok6 HNb9.out (by omega) (by omega) FXB.out) ?_
        rintro e wS ⟨L10, q', hq', rfl, hf, hN, hg, hLb, _, _, _, _, _⟩
        have q5 : ¬ (3 : Int) < (q' : Int) := by omega
        have BS := Lib.hid (below_then B9.out (Nat.le_refl _) hg (by omega))
        have HNa := Lib.hid (HNa9.out.grown hg HF9.out)
        have HNb := Lib.hid hN
        have HKS := Lib.hid (fun j (hj : j < 3) => (hg.cell_far ⟨kb, j, none⟩ kl9 (fun e => by have := Option.some.inj e; simp at this; omega)).trans (HK9.out j hj))
        have HVB := Lib.hid (fun (x : Nat) (hx : x < 6) (a : Nat) (ha : a < 3) => show iterN D6 Hb q' x a = mxN Ha a 6 from (rest_max ok6 Hb q' 3 hq' hf a ha x hx).trans (HMB.out x hx a ha))
        have HL10 := Lib.hid hLb
        have szS := hg.size
        have klS : kb < wS.heap.size := Nat.lt_of_lt_of_le kl9 hg.size
        clear hf hN hg hLb HNb9 HNa9 HK9 HR FXA FXB HMA HMB HF9
        go_wp2_with fail
        go_loopw [146] (fun a' wv => ∃ a : Nat, a ≤ 3 ∧ a' = .int .i64 a ∧ Below wS.heap.size wS wv) (fun a' _ => 3 - (intOf a').toNat)
        case atStart => exact ⟨0, by omega, rfl, Below.refl _ _⟩
        case round =>
          obtain ⟨a, ha, rfl, hb⟩ := hrel
          have HB1 := Lib.hid hb
          clear hb
          by_cases ha3 : a < 3
          · have a0 : (0 : Int) ≤ (a : Int) := by omega
            have a1 : (a : Int) < 3 := by omega
            obtain ⟨m, hm⟩ : ∃ m, m = mxN Ha a 6 := ⟨_, rfl⟩
            have hlim := HLIM.out a
            rw [← hm] at hlim
            obtain ⟨m0, m9⟩ := hlim
            obtain ⟨p, hp⟩ : ∃ p, p = ntA a m := ⟨_, rfl⟩
            obtain ⟨tx, htx⟩ : ∃ t, t = ntT D6 m := ⟨_, rfl⟩
            obtain ⟨s, hs⟩ : ∃ s, s = ntS D6 a m := ⟨_, rfl⟩
            obtain ⟨f, hf⟩ : ∃ f : Int, f = if m = 0 then 6 else 0 := ⟨_, rfl⟩
            have hv : heldV D6 a m = .tuple #[.agg #[.int .i64 p, .int .i64 m, .string tx, .int .i64 s], .int .i64 f] := by rw [hp, htx, hs, hf]; rfl
            have HHA := Lib.hid (fun (x : Nat) (hx : x < 6) (W : World) (hW : Below wS.heap.size wS W) => show Calls Tryd.prog 18 #[.pointer (some ⟨La.b, 0, none⟩), .int .i64 x, .int .i64 a] W fun e w' => e = .returned (.tuple #[.agg #[.int .i64 p, .int .i64 m, .string tx, .int .i64 s], .int .i64 f]) ∧ Below W.heap.size W w' from by
              have h := held_ok (HNa.out.below hW) x a hx ha3
              rw [HL9.out, HVA.out x hx a ha3, ← hm, hv] at h
              exact h)
            have HHB := Lib.hid (fun (x : Nat) (hx : x < 6) (W : World) (hW : Below wS.heap.size wS W) => show Calls Tryd.prog 18 #[.pointer (some ⟨Lb.b, 0, none⟩), .int .i64 x, .int .i64 a] W fun e w' => e = .returned (.tuple #[.agg #[.int .i64 p, .int .i64 m, .string tx, .int .i64 s], .int .i64 f]) ∧ Below W.heap.size W w' from by
              have h := held_ok (HNb.out.below hW) x a hx ha3
              rw [HL10.out, HVB.out x hx a ha3, ← hm, hv] at h
              exact h)
            have HFM := Lib.hid (show (m = 0 → f = 6) ∧ (0 < m → f = 0 ∧ p = a ∧ tx = chB ∧ s = sumAll (ix [11, 12, 13] a) (ntL a m chB)) from
              ⟨fun e => by rw [hf, if_pos e], fun e => by
                have e' : ¬ m = 0 := by omega
                exact ⟨by rw [hf, if_neg e'], by rw [hp]; unfold ntA; rw [if_neg e'], by rw [htx]; unfold ntT; rw [if_neg e']; rfl, by rw [hs]; unfold ntS; rw [if_neg e']; rfl⟩⟩)
            clear hm hp htx hs hf hv
            go_wp2_with fail
            refine Calls.mono (HHA.out 0 (by omega) _ HB1.out) ?_
            rintro e wH ⟨rfl, hb⟩
            have bH := HB1.out.trans (hb.mono HB1.out.size)
            have sH := bH.size
            have NH := NtBox.new wH p m tx s
            have bH2 := bH.alloc sH (.cells #[.int .i64 p, .int .i64 m, .string tx, .int .i64 s] 23)
            obtain ⟨b1, hb1⟩ : ∃ b, b = wH.heap.size := ⟨_, rfl⟩
            have sb1 : wS.heap.size ≤ b1 := by omega
            have HNH := Lib.hid NH; have HBH := Lib.hid bH2
            rw [← hb1] at HNH
            clear hb bH NH bH2
            go_wp2_with fail
            rw [← hb1]
            clear hb1 HB1
            go_loopw [155] (fun x' wv => ∃ x : Nat, x ≤ 6 ∧ x' = .int .i64 x ∧ NtBox wv b1 p m tx s ∧ Below wS.heap.size wS wv) (fun x' _ => 6 - (intOf x').toNat)
            case atStart => exact ⟨0, by omega, rfl, HNH.out, HBH.out⟩
            case round =>
              clear HNH HBH
              obtain ⟨x, hx, rfl, hN, hb⟩ := hrel
              have HN1 := Lib.hid hN; have HB2 := Lib.hid hb
              clear hN hb
              by_cases hx6 : x < 6
              · have x0 : (0 : Int) ≤ (x : Int) := by omega
                have x1 : (x : Int) < 6 := by omega
                go_wp2_with fail
                refine Calls.mono (HHA.out x hx6 _ HB2.out) ?_
                rintro e wP ⟨rfl, hb⟩
                have N2 := (HN1.out.below hb).alloc (.cells #[.int .i64 p, .int .i64 m, .string tx, .int .i64 s] 23)
                have N3 := NtBox.new wP p m tx s
                have bP := (HB2.out.trans (hb.mono HB2.out.size)).alloc (by have := HB2.out.size; have := hb.size; omega) (.cells #[.int .i64 p, .int .i64 m, .string tx, .int .i64 s] 23)
                have HN2 := Lib.hid N2; have HN3 := Lib.hid N3; have HBP := Lib.hid bP
                clear hb N2 N3 bP
                go_wp2_with fail
                refine Calls.mono (HHB.out x hx6 _ HBP.out) ?_
                rintro e wR ⟨rfl, hb⟩
                have N2 := (HN2.out.below hb).alloc (.cells #[.int .i64 p, .int .i64 m, .string tx, .int .i64 s] 23)
                have N3 := (HN3.out.below hb).alloc (.cells #[.int .i64 p, .int .i64 m, .string tx, .int .i64 s] 23)
                have N4 := NtBox.new wR p m tx s
                have bR := (HBP.out.trans (hb.mono HBP.out.size)).alloc (by have := HBP.out.size; have := hb.size; omega) (.cells #[.int .i64 p, .int .i64 m, .string tx, .int .i64 s] 23)
                obtain ⟨b2, hb2⟩ : ∃ b, b = wP.heap.size := ⟨_, rfl⟩
                obtain ⟨b3, hb3⟩ : ∃ b, b = wR.heap.size := ⟨_, rfl⟩
                obtain ⟨Y, hY⟩ : ∃ Y, Y = wR.alloc (.cells #[.int .i64 p, .int .i64 m, .string tx, .int .i64 s] 23) := ⟨_, rfl⟩
                rw [← hY] at N2 N3 N4 bR
                rw [← hb2] at N3; rw [← hb3] at N4
                have HN5 := Lib.hid N2; have HN6 := Lib.hid N3; have HN7 := Lib.hid N4; have HBR := Lib.hid bR
                clear hb N2 N3 N4 bR HN2 HN3 HBP
                go_upto_region 37 with fail
                rw [← hY, ← hb2, ← hb3]
                clear hY hb2 hb3
                have z0 := HN5.out.c0; have z1 := HN5.out.c1; have z2 := HN5.out.c2; have z3 := HN5.out.c3
                have y0 := HN6.out.c0; have y1 := HN6.out.c1; have y2 := HN6.out.c2; have y3 := HN6.out.c3
                have v0 := HN7.out.c0; have v1 := HN7.out.c1; have v2 := HN7.out.c2; have v3 := HN7.out.c3
                go_wp2_with fail
                go_roundw
                case rel => exact ⟨x + 1, by omega, by go_num, HN5.out, HBR.out⟩
                case measure => simp [intOf]; omega
              · obtain rfl : x = 6 := by omega
                rcases (by omega : m = 0 ∨ 0 < m) with hm0 | hm0
                · have f6 := HFM.out.1 hm0
                  subst f6
                  go_wp2_with fail
                  go_roundw
                  case rel => exact ⟨a + 1, by omega, by go_num, HB2.out⟩
                  case measure => simp [intOf]; omega
                · obtain ⟨f0, fp, ft, fs⟩ := HFM.out.2 hm0
                  subst f0
                  obtain ⟨ky, hky⟩ : ∃ x, x = ix [11, 12, 13] a := ⟨_, rfl⟩
                  obtain ⟨k0, k1⟩ := key6 a ha3
                  rw [← hky] at k0 k1
                  have hsr := sumAll_range ky (ntL a m chB)
                  have hs' : s = sumAll ky (ntL p m tx) := by rw [fs, fp, ft, hky]
                  rw [← hky] at fs
                  rw [← fs] at hsr
                  have hOK : NtOk p m tx s := by rw [fp, ft]; exact (ch_ok a m ha3 (by omega) m9).sum hsr.1 hsr.2
                  have hTS := HT.out.below BS.out
                  have HRT := Lib.hid (fun (W : World) (hW : Below wS.heap.size wS W) => show Calls Tryd.prog 12 #[.int .i64 ky, .agg #[.int .i64 p, .int .i64 m, .string tx, .int .i64 s]] W fun e w' => e = .returned (.tuple #[.bool true, .int .i64 0]) ∧ Below W.heap.size W w' from
                    (right_ok ky p m tx s W (hTS.below hW) hOK k0 k1).mono fun e w' ⟨he, hb⟩ => ⟨by rw [he, beq_iff_eq.2 hs'], hb⟩)
                  have HKC := Lib.hid (show wr.cell? ⟨kb, a, none⟩ = some (.int .i64 ky) by rw [hky]; exact (HB2.out.cell (p := ⟨kb, a, none⟩) klS).trans (HKS.out a ha3))
                  have lkw : kb < wr.heap.size := Nat.lt_of_lt_of_le klS HB2.out.size
                  clear hs' fp ft fs hsr hOK hTS hky
                  go_wp2_with fail
                  obtain ⟨X, hX⟩ : ∃ X, X = (wr).drew := ⟨_, rfl⟩
                  have xX0 : X.cell? ⟨kb, a, none⟩ = some (.int .i64 ky) := by rw [hX]; exact (HKC.out)
                  have xX1 : X.cell? ⟨b1, 0, none⟩ = some (.int .i64 p) := by rw [hX]; exact (HN1.out.c0)
                  have xX2 : X.cell? ⟨b1, 1, none⟩ = some (.int .i64 m) := by rw [hX]; exact (HN1.out.c1)
                  have xX3 : X.cell? ⟨b1, 2, none⟩ = some (.string tx) := by rw [hX]; exact (HN1.out.c2)
                  have xX4 : X.cell? ⟨b1, 3, none⟩ = some (.int .i64 s) := by rw [hX]; exact (HN1.out.c3)
                  have lX0 : kb < X.heap.size := by rw [hX]; exact (lkw)
                  have lX1 : b1 < X.heap.size := by rw [hX]; exact (HN1.out.lt)
                  have HxX0 := Lib.hid xX0
                  have HxX1 := Lib.hid xX1
                  have HxX2 := Lib.hid xX2
                  have HxX3 := Lib.hid xX3
                  have HxX4 := Lib.hid xX4
                  have HlX0 := Lib.hid lX0
                  have HlX1 := Lib.hid lX1
                  have HhX := Lib.hid hX
                  clear xX0 xX1 xX2 xX3 xX4 lX0 lX1 hX
                  go_region_held3 (fun w' => w'.cell? ⟨kb, a, none⟩ = some (.int .i64 ky) ∧ w'.cell? ⟨b1, 0, none⟩ = some (.int .i64 p) ∧ w'.cell? ⟨b1, 1, none⟩ = some (.int .i64 m) ∧ w'.cell? ⟨b1, 2, none⟩ = some (.string tx) ∧ w'.cell? ⟨b1, 3, none⟩ = some (.int .i64 s) ∧ Below X.heap.size X w')
                    (((try dsimp only); repeat' apply And.intro) <;> (first | (with_reducible assumption) | (go_split_ands; (with_reducible assumption)) | (rw [← HhX.out]; (first | exact Below.refl _ _ | exact HxX0.out | exact HxX1.out | exact HxX2.out | exact HxX3.out | exact HxX4.out)) | go_keep))
                    (first
                      | ((try go_split_ands); go_at_call 12; refine Calls.mono (HRT.out _ (HB2.out.drew.trans ((show Below wr.drew.heap.size wr.drew _ from by rw [HhX.out] at *; with_reducible assumption).mono HB2.out.drew.size))) ?_; rintro e wq ⟨rfl, hb⟩; (try go_split_ands); have qB : Below X.heap.size X wq := (bX_more (by with_reducible assumption) hb); have m0 := bX_oldc qB HlX0.out HxX0.out; have m1 := bX_oldc qB HlX1.out HxX1.out; have m2 := bX_oldc qB HlX1.out HxX2.out; have m3 := bX_oldc qB HlX1.out HxX3.out; have m4 := bX_oldc qB HlX1.out HxX4.out; clear hb))
                  all_goals
                    have hbq : Below wS.heap.size wS wq := by
                      have qq := qB
                      rw [HhX.out] at qq
                      exact HB2.out.drew.trans (qq.mono HB2.out.drew.size)
                    go_wp2_with fail
                    go_roundw
                    case rel => exact ⟨a + 1, by omega, by go_num, hbq⟩
                    case measure => simp [intOf]; omega
          · obtain rfl : a = 3 := by omega
            go_wp2_with fail
            go_ret
            exact ⟨rfl, BS.out.trans (HB1.out.mono BS.out.size)⟩
end Go.Proofs.YtocdboopmfgkpaaDoor
