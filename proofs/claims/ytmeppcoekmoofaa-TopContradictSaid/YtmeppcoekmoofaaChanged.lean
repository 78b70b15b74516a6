/- The contract of contradict.Changed, where nothing contradicts. -/
import Derived.Test.YtmeppcoekmoofaaNeed
namespace Go.Proofs.Ytmeppcoekmoofaa
open Go.RowKit
set_option linter.unusedSimpArgs false
set_option linter.unusedVariables false

/-- Of the pairs x < y that lie before the pair (i, j), none has changed. -/
def SameTo (N : Nat) (D E : Mx) (i j : Nat) : Prop := ∀ x y, x < y → y < N → (x < i ∨ (x = i ∧ y < j)) → D x y = E x y ∧ D y x = E y x
theorem SameTo.step {N i j : Nat} {D E : Mx} (h : SameTo N D E i j) (e1 : D i j = E i j) (e2 : D j i = E j i) : SameTo N D E i (j + 1) := by
  intro x y hxy hy hc
  by_cases h1 : x = i ∧ y = j
  · rw [h1.1, h1.2]; exact ⟨e1, e2⟩
  · exact h x y hxy hy (by omega)
theorem SameTo.row {N i : Nat} {D E : Mx} : SameTo N D E i N ↔ SameTo N D E (i + 1) (i + 2) := by
  constructor
  · intro h x y hxy hy hc
    exact h x y hxy hy (by omega)
  · intro h x y hxy hy hc
    exact h x y hxy hy (by omega)
theorem SameTo.back {N i j : Nat} {D E : Mx} (hij : i < j) (hj : j < N) (h : SameTo N D E i (j + 1)) : SameTo N D E i j ∧ D i j = E i j ∧ D j i = E j i :=
  ⟨fun x y hxy hy hc => h x y hxy hy (by omega), h i j hij hj (Or.inr ⟨rfl, by omega⟩)⟩

def ChangedPost (N : Nat) (D E : Mx) (w : World) (e : Ending) (w' : World) : Prop :=
  Below w.heap.size w w' ∧ ∃ v p xs, e = .returned (.tuple #[v, .int .i64 0]) ∧ w'.ownsRow w.heap.size 51 2 v p xs ∧ (p = 0 ↔ SameTo N D E N 0)

/-- Tightest, where nothing contradicts. -/
def TightFree (N : Nat) (D : Mx) (w : World) (e : Ending) (w' : World) : Prop :=
  Below w.heap.size w w' ∧ ∃ ob cap rb rc, e = .returned (.tuple #[.slice (some ⟨ob, 0, none⟩) N cap, .int .i64 0]) ∧ N ≤ cap ∧ TMat w' ob N rb rc D
theorem tightest_free (A : Option Addr) (m cap : Nat) (zs : List Int) (N : Nat) (l : List Bd) (w : World) (hl : bds zs m = l) (h : FlatSl w 4 A m cap zs) (hC : ChronOk N l) (hf : Free N l) :
    Calls Try.prog 18 #[.int .i64 N, .slice A m cap] w (TightFree N (fin N l) w) := by
  subst hl
  refine (tightest_any A m cap zs N w h).mono fun e w' hp => ?_
  obtain ⟨hb, ⟨N', hN, -, -, ob, oc, rb, rc, he, hcap, hT⟩ | ⟨N', hN, -, hbad, -⟩ | ⟨hbad, -⟩⟩ := hp
  · obtain rfl : N' = N := by omega
    exact ⟨hb, ob, oc, rb, rc, he, hcap, hT⟩
  · obtain rfl : N' = N := by omega
    exact absurd hf hbad
  · exact absurd (chronChk_zero.2 hC) hbad
theorem own_base {w : World} {B C : Nat} {e : TypeId} {size : Nat} {v : Value} {n : Nat} {xs : List Value} (h : w.ownsRow B e size v n xs) (hC : C ≤ B) : w.ownsRow C e size v n xs := by
  obtain ⟨h1, h2⟩ := h
  refine ⟨h1, h2.imp id ?_⟩
  rintro ⟨g, cap, cur, hv, hb, r⟩
  exact ⟨g, cap, cur, hv, Nat.le_trans hC hb, r⟩
theorem far_own {w w' : World} {B b o : Nat} {e : TypeId} {size : Nat} {v u : Value} {n : Nat} {xs : List Value} (h : w.ownsRow B e size v n xs) (hg : w.grownBy w' v.ownBlock) (hb : b < B) (hB : b < w.heap.size) (hc : w.cell? ⟨b, o, none⟩ = some u) : w'.cell? ⟨b, o, none⟩ = some u := by
  rw [hg.cell_far ⟨b, o, none⟩ (by simpa using hB) (fun e1 => by have := (h.lt _ e1.symm).1; simp at this; omega)]
  exact hc

theorem addr_at (b o j : Nat) : (⟨b, o, none⟩ : Addr).add j = ⟨b, o + j, none⟩ := by unfold Addr.add; split <;> simp_all
theorem four_below {w w' : World} {x y z q : Value} {t : TypeId} (hb : Below (w.alloc (.cells #[x, y, z, q] t)).drew.heap.size (w.alloc (.cells #[x, y, z, q] t)).drew w') : ∀ j u, [x, y, z, q][j]? = some u → w'.cell? ((⟨w.heap.size, 0, none⟩ : Addr).add j) = some u := by
  intro j u hj
  have h := cells_four (w := w) (x := x) (y := y) (z := z) (q := q) (t := t) j u hj
  rw [addr_at] at h ⊢
  exact (hb.cell (p := ⟨w.heap.size, 0 + j, none⟩) (by simp)).trans h

theorem keep_first {w X : World} (hX : X = w.drew) (o : Obj) : Below X.heap.size X (w.alloc o).drew := by subst hX; exact bX_alloc (Below.refl _ _) o

theorem Try.infoPair : (Try.prog.info? 51).map (fun i => (i.zero, i.size, i.bytes)) = some (some (.agg #[.int .i64 0, .int .i64 0]), 2, 16) := by kernel_rfl

set_option maxRecDepth 100000 in
set_option maxHeartbeats 16000000 in
theorem changed_ok (A : Option Addr) (m cap : Nat) (zs : List Int) (N : Nat) (a b lo hi : Int) (w : World) (h : FlatSl w 4 A m cap zs) (hC : ChronOk N (bds zs m ++ [⟨a, b, lo, hi⟩])) (hf : Free N (bds zs m ++ [⟨a, b, lo, hi⟩])) :
    Calls Try.prog 33 #[.int .i64 N, .slice A m cap, .agg #[.int .i64 a, .int .i64 b, .int .i64 lo, .int .i64 hi]] w (ChangedPost N (fin N (bds zs m)) (fin N (bds zs m ++ [⟨a, b, lo, hi⟩])) w) := by
  obtain ⟨iB, hB0, hB1, hB2, hB3⟩ := info_parts Try.infoBd
  obtain ⟨iP, hP0, hP1, hP2, hP3⟩ := info_parts Try.infoPair
  have hfew := hC.few
  rw [List.length_append, bds_len] at hfew
  simp at hfew
  have hn1 := hC.n1
  have hn12 := hC.n12
  have hC1 : ChronOk N (bds zs m) := ⟨hC.n1, hC.n12, by rw [bds_len]; omega, fun c hc => hC.each c (List.mem_append_left _ hc)⟩
  have hf1 : Free N (bds zs m) := free_sub (fun d hd => List.mem_append_left _ hd) hf
  have hZ1 := chronChk_zero.2 hC1
  have hZ2 := chronChk_zero.2 hC
  obtain ⟨D, hD⟩ : ∃ D, D = fin N (bds zs m) := ⟨_, rfl⟩
  obtain ⟨E, hE⟩ : ∃ E, E = fin N (bds zs m ++ [⟨a, b, lo, hi⟩]) := ⟨_, rfl⟩
  rw [← hD, ← hE]
  have hz4 := h.len
  have HS : Hid (bds (zs ++ [a, b, lo, hi]) (m + 1) = bds zs m ++ [⟨a, b, lo, hi⟩]) := Lib.hid (bds_snoc zs m a b lo hi hz4)
  have H := Lib.hid h; have HZ1 := Lib.hid hZ1; have HZ2 := Lib.hid hZ2; have HF1 := Lib.hid hf1; have HF2 := Lib.hid hf; have HD := Lib.hid hD; have HE := Lib.hid hE
  clear h hC hf hC1 hf1 hZ1 hZ2 hD hE hz4
  go_enter Try.func33, Try.ntmps33
  go_wp2_with fail
  refine Calls.mono (tightest_any _ _ _ _ (N : Nat) _ (H.out.keepC (by omega) ((Below.refl _ _).alloc (Nat.le_refl _) _))) ?_
  rintro e w1 ⟨hb, ⟨N', hN, -, -, ob, oc, rb, rc, rfl, hcap, hT⟩ | ⟨N', hN, -, hbad, -⟩ | ⟨hbad, -⟩⟩
  · obtain rfl : N' = N := by omega
    rw [← HD.out] at hT
    have hb1 : Below w.heap.size w w1 := ((Below.refl w.heap.size w).alloc (Nat.le_refl _) _).trans (hb.mono (by simp))
    have hs1 := hb1.size
    have z0 : w.heap.size < w1.heap.size := by have := hb.size; simp at this; omega
    have hX : Below w.heap.size (w.alloc (.cells #[.int .i64 a, .int .i64 b, .int .i64 lo, .int .i64 hi] 64)) w1 := hb.mono (by simp)
    have x0 : w1.cell? ⟨w.heap.size, 0, none⟩ = some (.int .i64 a) := (hb.cell (p := ⟨w.heap.size, 0, none⟩) (by simp)).trans (by simp [go_sem])
    have x1 : w1.cell? ⟨w.heap.size, 1, none⟩ = some (.int .i64 b) := (hb.cell (p := ⟨w.heap.size, 1, none⟩) (by simp)).trans (by simp [go_sem])
    have x2 : w1.cell? ⟨w.heap.size, 2, none⟩ = some (.int .i64 lo) := (hb.cell (p := ⟨w.heap.size, 2, none⟩) (by simp)).trans (by simp [go_sem])
    have x3 : w1.cell? ⟨w.heap.size, 3, none⟩ = some (.int .i64 hi) := (hb.cell (p := ⟨w.heap.size, 3, none⟩) (by simp)).trans (by simp [go_sem])
    have HF := Lib.hid (H.out.keepC (by omega) hb1)
    have HT := Lib.hid hT
    clear hb hX hT
    go_wp2_with fail
    obtain ⟨X, hX⟩ : ∃ X, X = w1.drew := ⟨_, rfl⟩
    have y0 : X.cell? ⟨w.heap.size, 0, none⟩ = some (.int .i64 a) := by rw [hX]; simp [go_sem, *]
    have y1 : X.cell? ⟨w.heap.size, 1, none⟩ = some (.int .i64 b) := by rw [hX]; simp [go_sem, *]
    have y2 : X.cell? ⟨w.heap.size, 2, none⟩ = some (.int .i64 lo) := by rw [hX]; simp [go_sem, *]
    have y3 : X.cell? ⟨w.heap.size, 3, none⟩ = some (.int .i64 hi) := by rw [hX]; simp [go_sem, *]
    have lX : w.heap.size < X.heap.size := by rw [hX]; simp; omega
    have bX : Below w1.heap.size w1 X := by rw [hX]; exact (Below.refl _ _).drew
    have FX : FlatSl X 4 A m cap zs := HF.out.keepC (by omega) bX
    have HY0 := Lib.hid y0; have HY1 := Lib.hid y1; have HY2 := Lib.hid y2; have HY3 := Lib.hid y3; have HLX := Lib.hid lX; have HBX := Lib.hid bX; have HFX := Lib.hid FX; have HX := Lib.hid hX
    clear x0 x1 x2 x3 y0 y1 y2 y3 lX bX FX hX
    go_region_held3 (fun w' => w'.cell? ⟨w.heap.size, 0, none⟩ = some (.int .i64 a) ∧ w'.cell? ⟨w.heap.size, 1, none⟩ = some (.int .i64 b) ∧ w'.cell? ⟨w.heap.size, 2, none⟩ = some (.int .i64 lo) ∧ w'.cell? ⟨w.heap.size, 3, none⟩ = some (.int .i64 hi) ∧ Below X.heap.size X w')
      (((try dsimp only); repeat' apply And.intro) <;> (first | (with_reducible assumption) | (go_split_ands; (with_reducible assumption)) | (rw [← HX.out]; (first | exact Below.refl _ _ | exact HY0.out | exact HY1.out | exact HY2.out | exact HY3.out)) | exact bX_oldc (keep_first HX.out _) HLX.out HY0.out | exact bX_oldc (keep_first HX.out _) HLX.out HY1.out | exact bX_oldc (keep_first HX.out _) HLX.out HY2.out | exact bX_oldc (keep_first HX.out _) HLX.out HY3.out | exact keep_first HX.out _ | (go_split_ands; exact bX_alloc (by with_reducible assumption) _) | go_keep))
      ((first
        | (go_at_call 57; refine Calls.mono (clone_any _ _ _ _ _ (HFX.out.keepC (by omega) (by go_split_ands; with_reducible assumption)) (by omega)) ?_; rintro e wq ⟨v, rfl, hown, hb⟩; go_split_ands; have qB : Below X.heap.size X wq := (bX_more (by with_reducible assumption) hb); have m0 := bX_oldc qB HLX.out HY0.out; have m1 := bX_oldc qB HLX.out HY1.out; have m2 := bX_oldc qB HLX.out HY2.out; have m3 := bX_oldc qB HLX.out HY3.out)
        | (refine step_append_any (by rfl) _ _ _ (by rfl) w1.heap.size 64 iB _ 4 32 Try.underlying23 hB0 hB1 hB2 hB3 rfl (by omega) v m (zs.map (Value.int .i64)) (by rfl) ((own_base hown (by simp)).alloc _) ⟨wq.heap.size, 0, none⟩ 1 1 [.int .i64 a, .int .i64 b, .int .i64 lo, .int .i64 hi] (by rfl) (by rfl) (World.news_of_block (cs := #[.int .i64 a, .int .i64 b, .int .i64 lo, .int .i64 hi]) (t := 64) (fr := (0, 0)) (heap_alloc_new wq _)) (by simp [Value.oneCell']) (by unfold maxLen; omega) (by omega) (by have q1 := qB.size; have q2 := HBX.out.size; simp; omega) ?_; intro v' w5 hown' hgrow hat; go_split_ands; have qE : Below X.heap.size X w5 := Below.grown (by with_reducible assumption) hgrow (by have q1 := qB.size; simp; omega) (fun q hq => by have q1 := (hown.lt q hq).1; rw [HX.out]; simp at q1 ⊢; omega); have n0 := bX_oldc qE HLX.out HY0.out; have n1 := bX_oldc qE HLX.out HY1.out; have n2 := bX_oldc qE HLX.out HY2.out; have n3 := bX_oldc qE HLX.out HY3.out)
        | (refine step_append_any (by rfl) _ _ _ (by rfl) w1.heap.size 64 iB _ 4 32 Try.underlying23 hB0 hB1 hB2 hB3 rfl (by omega) v m (zs.map (Value.int .i64)) (by rfl) (own_base hown (by simp)) ⟨w1.heap.size, 0, none⟩ 1 1 [.int .i64 a, .int .i64 b, .int .i64 lo, .int .i64 hi] (by rfl) (by rfl) (four_below hb) (by simp [Value.oneCell']) (by unfold maxLen; omega) (by omega) (by have q1 := qB.size; have q2 := HBX.out.size; simp; omega) ?_; intro v' w5 hown' hgrow hat; go_split_ands; have qE : Below X.heap.size X w5 := Below.grown (by with_reducible assumption) hgrow (by have q1 := qB.size; simp; omega) (fun q hq => by have q1 := (hown.lt q hq).1; rw [HX.out]; simp at q1 ⊢; omega); have n0 := bX_oldc qE HLX.out HY0.out; have n1 := bX_oldc qE HLX.out HY1.out; have n2 := bX_oldc qE HLX.out HY2.out; have n3 := bX_oldc qE HLX.out HY3.out)
        | (go_at_call 18; obtain ⟨A5, cap5, hv5, hF5⟩ := own_flat (zs := zs ++ [a, b, lo, hi]) (by simpa only [List.map_append, List.map_cons, List.map_nil] using hown'); subst hv5; refine Calls.mono (tightest_free _ _ _ _ N' _ _ HS.out hF5 (chronChk_zero.1 HZ2.out) HF2.out) ?_; rintro e w6 ⟨hbT, ob2, oc2, rb2, rc2, rfl, hcap2, hT2⟩; go_split_ands; have qT : Below X.heap.size X w6 := bX_more qE hbT; have p0 := bX_oldc qT HLX.out HY0.out; have p1 := bX_oldc qT HLX.out HY1.out; have p2 := bX_oldc qT HLX.out HY2.out; have p3 := bX_oldc qT HLX.out HY3.out)))
    all_goals
      rw [← HE.out] at hT2
      have hv6 : Below w1.heap.size w1 w6 := HBX.out.trans (qT.mono HBX.out.size)
      have hw6 := hb1.trans (hv6.mono hs1)
      have hs6 := hw6.size
      have hTa : TMat w6 ob N' rb rc D := HT.out.below hv6
      have HTA := Lib.hid hTa; have HTB := Lib.hid hT2
      have HS6 := Lib.hid hs6
      clear hTa hT2 qT hbT qE hown' hgrow hat hb qB hown hF5 hv6 p0 p1 p2 p3
      go_wp2_with fail
      go_loopw [11, 37] (fun v i' wv => ∃ (i p : Nat) (xs : List Value), i ≤ N' ∧ i' = .int .i64 i ∧ wv.ownsRow w6.heap.size 51 2 v p xs ∧ p ≤ i * N' ∧ Hid (p = 0 ↔ SameTo N' D E i (i + 1)) ∧ Below w6.heap.size w6 wv ∧ Below w.heap.size w wv) (fun _ i' _ => N' - (intOf i').toNat)
      case atStart => exact ⟨0, 0, [], by omega, rfl, World.ownsRow_nil _ _ _ _, by omega, Lib.hid ⟨fun _ x y hxy hy hc => by omega, fun _ => rfl⟩, Below.refl _ _, hw6⟩
      case round =>
        clear hw6 hs6
        obtain ⟨i, p, xs, hi, rfl, hown, hp, hsame, hbv, hbw⟩ := hrel
        by_cases hiN : i < N'
        · have k1 : (0 : Int) ≤ (i : Int) := by omega
          have k2 : (i : Int) < (N' : Int) := by omega
          have k3 : (i : Int) < (oc : Int) := by omega
          have k4 : (i : Int) < (oc2 : Int) := by omega
          go_wp2_with fail
          go_loopw [11, 13] (fun v j' wv => ∃ (j p : Nat) (xs : List Value), i < j ∧ j ≤ N' ∧ j' = .int .i64 j ∧ wv.ownsRow w6.heap.size 51 2 v p xs ∧ p ≤ i * N' + j ∧ Hid (p = 0 ↔ SameTo N' D E i j) ∧ Below w6.heap.size w6 wv ∧ Below w.heap.size w wv) (fun _ j' _ => N' - (intOf j').toNat)
          case atStart => exact ⟨i + 1, p, xs, by omega, by omega, by go_num, hown, by omega, hsame, hbv, hbw⟩
          case round =>
            clear hown hbv hbw hp hsame
            obtain ⟨j, p, xs, hij, hj, rfl, hown, hp, hsame, hbv, hbw⟩ := hrel
            by_cases hjN : j < N'
            · have k5 : (0 : Int) ≤ (j : Int) := by omega
              have k6 : (j : Int) < (N' : Int) := by omega
              have hA := HTA.out.below hbv
              have hB := HTB.out.below hbv
              have c1 := hA.out i hiN
              obtain ⟨c2, c3⟩ := hA.row i hiN j hjN
              have c4 := hB.out i hiN
              obtain ⟨c5, c6⟩ := hB.row i hiN j hjN
              have l1 := hA.lt
              have l2 := hA.ltR i hiN
              have l3 := hB.lt
              have l4 := hB.ltR i hiN
              obtain ⟨x, hx⟩ : ∃ x, x = -D j i := ⟨_, rfl⟩
              obtain ⟨y, hy⟩ : ∃ x, x = D i j := ⟨_, rfl⟩
              obtain ⟨z, hz⟩ : ∃ x, x = -E j i := ⟨_, rfl⟩
              obtain ⟨u, hu⟩ : ∃ x, x = E i j := ⟨_, rfl⟩
              rw [← hx] at c2
              rw [← hy] at c3
              rw [← hz] at c5
              rw [← hu] at c6
              have HX1 := Lib.hid hx; have HY1' := Lib.hid hy; have HZ1' := Lib.hid hz; have HU1 := Lib.hid hu
              clear hx hy hz hu hA hB
              by_cases q : x = z ∧ y = u
              · obtain ⟨rfl, rfl⟩ := q
                have hs2 : Hid (p = 0 ↔ SameTo N' D E i (j + 1)) := Lib.hid ⟨fun h0 => (hsame.out.1 h0).step (by have := HY1'.out; have := HU1.out; omega) (by have := HX1.out; have := HZ1'.out; omega), fun h => hsame.out.2 (SameTo.back hij hjN h).1⟩
                go_wp2_with fail
                go_quiet (fail)
                go_wp2_with fail
                go_roundw
                case rel => exact ⟨j + 1, p, xs, by omega, by omega, by go_num, hown, by omega, hs2, below_drewN hbv _, below_drewN hbw _⟩
                case measure => simp [intOf]; omega
              · have hs2 : Hid (p + 1 = 0 ↔ SameTo N' D E i (j + 1)) := Lib.hid ⟨fun h0 => by omega, fun h => absurd ⟨by have := (SameTo.back hij hjN h).2; have := HX1.out; have := HZ1'.out; omega, by have := (SameTo.back hij hjN h).2; have := HY1'.out; have := HU1.out; omega⟩ q⟩
                have q2 : (x = z ∧ ¬ y = u) ∨ ¬ x = z := by
                  by_cases h1 : x = z
                  · exact Or.inl ⟨h1, fun h2 => q ⟨h1, h2⟩⟩
                  · exact Or.inr h1
                clear q
                have hbvs := hbv.size
                have hbws := hbw.size
                have hpn : p < 200 := by
                  have : i * N' ≤ 12 * 12 := Nat.mul_le_mul (by omega) (by omega)
                  omega
                rcases q2 with ⟨rfl, q1⟩ | q1
                all_goals
                  go_wp2_with fail
                  go_quiet (fail)
                  obtain ⟨W, hW⟩ : ∃ W, W = wr.drewN nq := ⟨_, rfl⟩
                  rw [← hW]
                  have hoW : W.ownsRow w6.heap.size 51 2 u11 p xs := by rw [hW]; exact hown
                  have hbV : Below w6.heap.size w6 W := by rw [hW]; exact below_drewN hbv _
                  have hbW : Below w.heap.size w W := by rw [hW]; exact below_drewN hbw _
                  have hsV := hbV.size
                  have hsW := hbW.size
                  clear hW hown hbv hbw c1 c2 c3 c4 c5 c6
                  go_wp2_with (at_builtin; refine wpList_append_own _ rfl _ _ 67 rfl w6.heap.size 51 iP _ 2 16 Try.underlying67 hP0 hP1 hP2 hP3 rfl (by decide) _ _ _ rfl (hoW.alloc _) ⟨W.heap.size, 0, none⟩ 1 1 [.int .i64 (i : Int), .int .i64 (j : Int)] rfl rfl ?c1 ?c2 ?c3 ?c4 ?c5 ?_)
                  case c1 => exact cells_two
                  case c2 => simp [Value.oneCell']
                  case c3 => unfold maxLen; omega
                  case c4 => omega
                  case c5 => simp; omega
                  · intro v' w8 hown' hgrow _
                    have R1 := (hbV.alloc hsV (.cells #[.int .i64 (i : Int), .int .i64 (j : Int)] 51)).grown hgrow (by simp; omega) (fun q hq => (hoW.lt q hq).1)
                    have R2 := (hbW.alloc hsW (.cells #[.int .i64 (i : Int), .int .i64 (j : Int)] 51)).grown hgrow (by simp; omega) (fun q hq => Nat.le_trans HS6.out (hoW.lt q hq).1)
                    clear hgrow hoW
                    go_wp2_with fail
                    go_roundw
                    case rel => exact ⟨j + 1, p + 1, _, by omega, by omega, by go_num, hown', by omega, hs2, R1, R2⟩
                    case measure => simp [intOf]; omega
            · obtain rfl : j = N' := by omega
              go_wp2_with fail
              go_roundw
              case rel => exact ⟨i + 1, p, xs, by omega, by go_num, hown, by rw [Nat.add_mul]; omega, Lib.hid (hsame.out.trans SameTo.row), hbv, hbw⟩
              case measure => simp [intOf]; omega
        · obtain rfl : i = N' := by omega
          go_wp2_with fail
          go_returns
          exact ⟨hbw, _, p, xs, rfl, own_base hown HS6.out, hsame.out.trans ⟨fun h x y hxy hy hc => h x y hxy hy (by omega), fun h x y hxy hy hc => h x y hxy hy (by omega)⟩⟩
  · obtain rfl : N' = N := by omega
    exact absurd HF1.out hbad
  · exact absurd HZ1.out hbad

end Go.Proofs.Ytmeppcoekmoofaa
