/- TopContradict, the walk: a constraint beyond a tightest bound yields a contradiction that contains it, and without it there is none. -/
import Derived.Test.YtmeppcoekmoofaaTopContra
import Derived.Deep.DeepCutAuto
namespace Go.Proofs.Ytmeppcoekmoofaa
open Go.RowKit
set_option linter.unusedSimpArgs false
set_option linter.unusedVariables false

theorem keep_second {w X : World} (hX : X = w.drew) (o o2 : Obj) : Below X.heap.size X ((w.alloc o).alloc o2).drew := by subst hX; exact bX_alloc (bX_alloc (Below.refl _ _) o) o2
theorem size_1c (w : World) (a : Obj) : (w.alloc a).heap.size = w.heap.size + 1 := by simp
theorem needCnt_one (j : Nat) : needCnt 1 (j + 1) = j := by
  induction j with
  | zero => rfl
  | succ j ih => rw [needCnt, if_neg (by omega), ih]
theorem src_cells {X W : World} {b o q : Nat} {Z : List Int} (hB : Below X.heap.size X W) (hl : b < X.heap.size) (hz : Z.length = q * 4) (hc : ∀ j, j < q * 4 → X.cell? ⟨b, o + j, none⟩ = some (.int .i64 (ix Z j))) :
    ∀ j u, (Z.map (Value.int .i64))[j]? = some u → W.cell? ((⟨b, o, none⟩ : Addr).add j) = some u := by
  intro j u hu
  rw [List.getElem?_map] at hu
  by_cases hj : j < q * 4
  · rw [List.getElem?_eq_getElem (by omega)] at hu
    simp only [Option.map_some, Option.some.injEq] at hu
    rw [addr_at]
    refine (hB.cell (p := ⟨b, o + j, none⟩) hl).trans ?_
    rw [hc j hj, ← hu, ix, List.getD_eq_getElem?_getD, List.getElem?_eq_getElem (by omega)]
    rfl
  · rw [List.getElem?_eq_none (by omega)] at hu
    simp at hu
theorem kept_news {W W' : World} {row : Option Nat} {b : Nat} {C : List Value} (hg : W.grownBy W' row) (hlt : b < W.heap.size) (hne : some b ≠ row) (h : ∀ j u, C[j]? = some u → W.cell? ((⟨b, 0, none⟩ : Addr).add j) = some u) :
    ∀ j u, C[j]? = some u → W'.cell? ((⟨b, 0, none⟩ : Addr).add j) = some u := by
  intro j u hu
  have := h j u hu
  rw [addr_at] at this ⊢
  rw [hg.cell_far ⟨b, 0 + j, none⟩ hlt hne]
  exact this
theorem one_cells (Z : List Int) : ∀ u ∈ Z.map (Value.int .i64), u.oneCell' = true := fun u hu => by
  obtain ⟨x, _, rfl⟩ := List.mem_map.1 hu; rfl

set_option maxRecDepth 100000 in
set_option maxHeartbeats 16000000 in
theorem topContradict_walk (Ad : Option Addr) (nd capd : Nat) (zd : List Int) (Al : Option Addr) (ml capl : Nat) (zl : List Int) (i0 k0 : Int) (w : World) (hd : FlatSl w 1 Ad nd capd zd) (hl : FlatSl w 4 Al ml capl zl) :
    Calls Try.prog 12 #[.slice Ad nd capd, .slice Al ml capl, .int .i64 i0, .int .i64 k0] w fun e w' => e = .returned (.bool true) ∧ Below w.heap.size w w' := by
  obtain ⟨iB, hB0, hB1, hB2, hB3⟩ := info_parts Try.infoBd
  have HD := Lib.hid hd; have HL := Lib.hid hl
  obtain ⟨q20, hh⟩ := evQ_facts nd ml
  clear hd hl
  go_enter Try.func12, Try.ntmps12
  go_wp2_with fail
  refine Calls.mono (sChron_ok _) ?_
  rintro e w1 ⟨rfl, hb⟩
  obtain ⟨hb1, hz1, hc1, hf1⟩ := took (w := w) (by repeat' (first | (with_reducible refine below_drewN ?_ _) | go_grown)) (by first | (simp only [World.size_alloc, World.size_setCell, World.size_drew, size_drewN]; done) | (simp only [World.size_alloc, World.size_setCell, World.size_drew, size_drewN]; rfl) | rfl) hb; clear hb
  have hs1 := hb1.size
  clear hc1 hf1
  go_wp2_with fail
  refine Calls.mono (sEvents_any _ _ _ _ _ _ _ _ _ (HD.out.keepC (by omega) hb1) (HL.out.keepC (by omega) hb1)) ?_
  rintro e w2 ⟨v, rfl, hown, hb⟩
  obtain ⟨A2, cap2, rfl, hF2⟩ := own_flat hown
  obtain ⟨n, hn⟩ : ∃ n, n = min nd 8 := ⟨_, rfl⟩
  obtain ⟨q, hq⟩ : ∃ q, q = evQ nd ml := ⟨_, rfl⟩
  rw [← hn, ← hq] at hF2
  rw [← hq] at q20
  rw [← hn, ← hq] at hh
  rw [← hn, ← hq]
  have n8 : n ≤ 8 := by omega
  have hb2 := hb1.trans (hb.mono hs1)
  have hs2 := hb2.size
  clear hown hb hn hq hb1 hs1
  by_cases hn2 : n < 2
  · have n2 : (n : Int) < 2 := by omega
    go_wp2_with fail
    go_returns
    exact ⟨rfl, hb2⟩
  · have n2 : ¬ (n : Int) < 2 := by omega
    have hC := evA_ok zd zl (n := n) (q := q) (by omega) n8 q20 hh
    obtain ⟨hfr, hpot⟩ := evA_free zd zl hh
    have hcap2 := hF2.le
    obtain ⟨i, hi⟩ : ∃ x : Nat, (x : Int) = i0 % (n : Int) := ⟨(i0 % (n : Int)).toNat, by have := Int.emod_nonneg i0 (show (n : Int) ≠ 0 by omega); omega⟩
    have hin : i < n := by have := Int.emod_lt_of_pos i0 (show 0 < (n : Int) by omega); omega
    obtain ⟨b, hbb⟩ : ∃ x, x = k0 % ((n : Int) - 1) := ⟨_, rfl⟩
    have b0 : 0 ≤ b := by rw [hbb]; exact Int.emod_nonneg _ (by omega)
    have b1 : b < (n : Int) - 1 := by rw [hbb]; exact Int.emod_lt_of_pos _ (by omega)
    obtain ⟨k, hk⟩ : ∃ x : Nat, (x : Int) = ((i : Int) + 1 + b) % (n : Int) := ⟨(((i : Int) + 1 + b) % (n : Int)).toNat, by have := Int.emod_nonneg ((i : Int) + 1 + b) (show (n : Int) ≠ 0 by omega); omega⟩
    have hkn : k < n := by have := Int.emod_lt_of_pos ((i : Int) + 1 + b) (show 0 < (n : Int) by omega); omega
    have hik : i ≠ k := by
      intro e
      by_cases h : (i : Int) + 1 + b < n
      · rw [Int.emod_eq_of_lt (by omega) h] at hk; omega
      · have : ((i : Int) + 1 + b) % n = (i : Int) + 1 + b - n := by
          rw [← Int.sub_emod_right, Int.emod_eq_of_lt (by omega) (by omega)]
        omega
    have hk2 : ((i : Int) + 1 + b).tmod (n : Int) = (k : Int) := by rw [Int.tmod_eq_emod_of_nonneg (by omega)]; exact hk.symm
    have HI := Lib.hid hi; have HBB := Lib.hid hbb; have HK := Lib.hid hk; have HK2 := Lib.hid hk2
    have HC := Lib.hid hC; have HFR := Lib.hid hfr; have HPOT := Lib.hid hpot; have HH := Lib.hid hh; have HF2 := Lib.hid hF2
    clear hi hbb hk hk2 hC hfr hpot hh hF2
    go_wp2_with fail
    refine Calls.mono (sAt_any _ _ _ (by omega) (by omega)) ?_
    rintro e _ ⟨rfl, rfl⟩
    rw [← HI.out]
    go_wp2_with fail
    refine Calls.mono (sAt_any _ _ _ (by omega) (by omega)) ?_
    rintro e _ ⟨rfl, rfl⟩
    rw [← HBB.out]
    have en0 : ((n : Int) == 0) = false := by simp; omega
    have i00 : (0 : Int) ≤ (i : Int) := by omega
    have i01 : (i : Int) < (n : Int) := by omega
    go_wp2_with fail
    rw [← HK.out]
    refine Calls.mono (tightest_free _ _ _ _ n _ _ rfl HF2.out HC.out HFR.out) ?_
    rintro e w3 ⟨hb, ob, oc, rb, rc, rfl, hcap, hT⟩
    have hb3 := hb2.trans (hb.mono hs2)
    have hs3 := hb3.size
    have hF3 := HF2.out.keepC (by omega) hb
    obtain ⟨D, hD⟩ : ∃ D, D = fin n (bds (evNums zd zl n q) q) := ⟨_, rfl⟩
    rw [← hD] at hT
    have c0 := hT.out i hin
    obtain ⟨-, c1⟩ := hT.row i hin k hkn
    have l0 := hT.lt
    have l1 := hT.ltR i hin
    have k00 : (0 : Int) ≤ (k : Int) := by omega
    have k01 : (k : Int) < (n : Int) := by omega
    have i02 : (i : Int) < (oc : Int) := by omega
    obtain ⟨x, hx⟩ : ∃ x, x = D i k := ⟨_, rfl⟩
    rw [← hx] at c1
    have HDD := Lib.hid hD; have HX := Lib.hid hx; have HF3 := Lib.hid hF3
    clear hb hT hD hx hF3 hb2 hs2
    by_cases hbig : 1000000 ≤ x
    · go_wp2_with fail
      go_returns
      exact ⟨rfl, hb3⟩
    · have hsm : x < 1000000 := by omega
      clear hbig
      have hq0 : 0 < q := by
        rcases Nat.eq_zero_or_pos q with h0 | h0
        · exfalso
          subst h0
          have := fin_nil n i k hin hkn hik
          have hxx := HX.out
          rw [HDD.out] at hxx
          have e0 : bds (evNums zd zl n 0) 0 = [] := rfl
          rw [e0] at hxx
          unfold far at this
          omega
        · exact h0
      have hx0 : -20000 ≤ x := by
        have h1 := HPOT.out i k hin hkn
        have hxx := HX.out
        rw [HDD.out] at hxx
        have e1 : fin n (bds (evNums zd zl n q) q) i k = fin n (evL zd zl n q) i k := rfl
        rw [e1] at hxx
        have d1 : ∀ i, -10000 < evD zd i ∧ evD zd i < 10000 := fun i => ⟨Int.lt_tmod_of_pos _ (by omega), Int.tmod_lt_of_pos _ (by omega)⟩
        have d2 := d1 i
        have d3 := d1 k
        unfold Pot at h1
        omega
      obtain ⟨g, hg⟩ : ∃ g, g = rb i := ⟨_, rfl⟩
      obtain ⟨gc, hgc⟩ : ∃ g, g = rc i := ⟨_, rfl⟩
      rw [← hg, ← hgc] at c0
      rw [← hg] at c1 l1
      obtain ⟨A3, o3, rfl, hcell⟩ := HF3.out.at' hq0
      have hbl := World.block_lt_of_cell? w3 _ (hcell 0 (by omega))
      simp at hbl
      have hlen := HF3.out.len
      have k02 : (k : Int) < (n : Int) := k01
      clear hg hgc
      go_upto_region 13 with (fail)
      go_cut [12] (fun s wx => ∃ A cap, s = .slice A (q + 1) cap ∧ FlatSl wx 4 A (q + 1) cap (evNums zd zl n q ++ [(i : Int), (k : Int), x + 1, x + 2]) ∧ Below w3.heap.size w3 wx)
      case first =>
        obtain ⟨X, hX⟩ : ∃ X, X = w3.drew := ⟨_, rfl⟩
        have y0 : X.cell? ⟨ob, i, none⟩ = some (.slice (some ⟨g, 0, none⟩) n gc) := by rw [hX]; exact c0
        have y1 : X.cell? ⟨g, k * 2 + 1, none⟩ = some (.int .i64 x) := by rw [hX]; exact c1
        have lX0 : ob < X.heap.size := by rw [hX]; exact l0
        have lX1 : g < X.heap.size := by rw [hX]; exact l1
        have lX2 : A3 < X.heap.size := by rw [hX]; exact hbl
        have bX : Below w3.heap.size w3 X := by rw [hX]; exact (Below.refl _ _).drew
        have hcX : ∀ j, j < q * 4 → X.cell? ⟨A3, o3 + j, none⟩ = some (.int .i64 (ix (evNums zd zl n q) j)) := by rw [hX]; exact hcell
        have e1 : IntKind.i64.wrap (x + 1) = x + 1 := IntWalk.i64_in _ (by omega)
        have e2 : IntKind.i64.wrap (x + 2) = x + 2 := IntWalk.i64_in _ (by omega)
        have HY0 := Lib.hid y0; have HY1 := Lib.hid y1; have HLX0 := Lib.hid lX0; have HLX1 := Lib.hid lX1; have HLX2 := Lib.hid lX2; have HBX := Lib.hid bX; have HCX := Lib.hid hcX; have HX3 := Lib.hid hX; have HLEN := Lib.hid hlen
        clear y0 y1 lX0 lX1 lX2 bX hcX hX hlen hcell c0 c1
        obtain ⟨Z, hZ⟩ : ∃ Z, Z = evNums zd zl n q := ⟨_, rfl⟩
        rw [← hZ] at HCX HLEN
        have O1 : Hid ((w3.alloc (.cells #[] 64)).drew.ownsRow w3.heap.size 64 4 (.slice (some ⟨w3.heap.size, 0, none⟩) 0 0) 0 []) := Lib.hid (World.ownsRow_made w3 #[] 0 (Nat.le_refl _) (by unfold maxLen; omega) rfl).drew
        have O2 : Hid (((w3.alloc (.cells #[] 64)).alloc (.cells #[.int .i64 (i : Int), .int .i64 (k : Int), .int .i64 (x + 1), .int .i64 (x + 2)] 64)).drew.ownsRow w3.heap.size 64 4 (.slice (some ⟨w3.heap.size, 0, none⟩) 0 0) 0 []) := Lib.hid ((World.ownsRow_made w3 #[] 0 (Nat.le_refl _) (by unfold maxLen; omega) rfl).alloc _).drew
        have O3 : Hid (((w3.alloc (.cells #[.int .i64 (i : Int), .int .i64 (k : Int), .int .i64 (x + 1), .int .i64 (x + 2)] 64)).alloc (.cells #[] 64)).drew.ownsRow w3.heap.size 64 4 (.slice (some ⟨w3.heap.size + 1, 0, none⟩) 0 0) 0 []) := Lib.hid (by
          have := (World.ownsRow_made (base := w3.heap.size) (size := 4) (e := 64) (w3.alloc (.cells #[.int .i64 (i : Int), .int .i64 (k : Int), .int .i64 (x + 1), .int .i64 (x + 2)] 64)) #[] 0 (by simp) (by unfold maxLen; omega) rfl).drew
          rw [size_1c] at this
          exact this)
        have N2 : Hid (∀ j u, [Value.int .i64 (i : Int), .int .i64 (k : Int), .int .i64 (x + 1), .int .i64 (x + 2)][j]? = some u → ((w3.alloc (.cells #[] 64)).alloc (.cells #[.int .i64 (i : Int), .int .i64 (k : Int), .int .i64 (x + 1), .int .i64 (x + 2)] 64)).drew.cell? ((⟨w3.heap.size + 1, 0, none⟩ : Addr).add j) = some u) := Lib.hid (by
          have := cells_four (w := w3.alloc (.cells #[] 64)) (x := .int .i64 (i : Int)) (y := .int .i64 (k : Int)) (z := .int .i64 (x + 1)) (q := .int .i64 (x + 2)) (t := 64)
          rw [size_1c] at this
          exact this)
        have N3 : Hid (∀ j u, [Value.int .i64 (i : Int), .int .i64 (k : Int), .int .i64 (x + 1), .int .i64 (x + 2)][j]? = some u → ((w3.alloc (.cells #[.int .i64 (i : Int), .int .i64 (k : Int), .int .i64 (x + 1), .int .i64 (x + 2)] 64)).alloc (.cells #[] 64)).drew.cell? ((⟨w3.heap.size, 0, none⟩ : Addr).add j) = some u) := Lib.hid (by
          intro j u hu
          have := cells_four (w := w3) (x := .int .i64 (i : Int)) (y := .int .i64 (k : Int)) (z := .int .i64 (x + 1)) (q := .int .i64 (x + 2)) (t := 64) j u hu
          exact (World.cell?_alloc_lt (w3.alloc (.cells #[.int .i64 (i : Int), .int .i64 (k : Int), .int .i64 (x + 1), .int .i64 (x + 2)] 64)) (.cells #[] 64) ((⟨w3.heap.size, 0, none⟩ : Addr).add j) (by rw [addr_at]; simp)).trans this)
        have HZ := Lib.hid hZ; clear hZ
        go_region_held3 (fun w' => w'.cell? ⟨ob, i, none⟩ = some (.slice (some ⟨g, 0, none⟩) n gc) ∧ w'.cell? ⟨g, k * 2 + 1, none⟩ = some (.int .i64 x) ∧ Below X.heap.size X w')
          (((try dsimp only); repeat' apply And.intro) <;> (first | (with_reducible assumption) | (go_split_ands; (with_reducible assumption)) | (rw [← HX3.out]; (first | exact Below.refl _ _ | exact HY0.out | exact HY1.out)) | exact bX_oldc (keep_first HX3.out _) HLX0.out HY0.out | exact bX_oldc (keep_first HX3.out _) HLX1.out HY1.out | exact keep_first HX3.out _ | exact bX_oldc (keep_second HX3.out _ _) HLX0.out HY0.out | exact bX_oldc (keep_second HX3.out _ _) HLX1.out HY1.out | exact keep_second HX3.out _ _ | (go_split_ands; exact bX_alloc (by with_reducible assumption) _) | go_keep))
          ((first
            | (refine step_append_any (by rfl) (.tmp 76) (.tmp 77) _ (by rfl) w3.heap.size 64 iB _ 4 32 Try.underlying23 hB0 hB1 hB2 hB3 rfl (by omega) (.slice (some ⟨w3.heap.size, 0, none⟩) 0 0) 0 [] (by rfl) O1.out ⟨A3, o3, none⟩ q cap2 (Z.map (Value.int .i64)) (by rfl) (by rw [List.length_map]; exact HLEN.out) (src_cells (by go_split_ands; with_reducible assumption) HLX2.out HLEN.out HCX.out) (one_cells Z) (by unfold maxLen; omega) (by omega) (by simp; (try omega)) ?_; intro v1 w7 hown1 hgrow1 hat1; go_split_ands; have qE : Below X.heap.size X w7 := Below.grown (by with_reducible assumption) hgrow1 (by rw [HX3.out]; simp; (try omega)) (fun r hr => by have r1 := (O1.out.lt r hr).1; rw [HX3.out]; simpa using r1); have m0 := bX_oldc qE HLX0.out HY0.out; have m1 := bX_oldc qE HLX1.out HY1.out)
            | (refine step_append_any (by rfl) (.tmp 76) (.tmp 77) _ (by rfl) w3.heap.size 64 iB _ 4 32 Try.underlying23 hB0 hB1 hB2 hB3 rfl (by omega) (.slice (some ⟨w3.heap.size, 0, none⟩) 0 0) 0 [] (by rfl) O2.out ⟨A3, o3, none⟩ q cap2 (Z.map (Value.int .i64)) (by rfl) (by rw [List.length_map]; exact HLEN.out) (src_cells (by go_split_ands; with_reducible assumption) HLX2.out HLEN.out HCX.out) (one_cells Z) (by unfold maxLen; omega) (by omega) (by simp; (try omega)) ?_; intro v1 w7 hown1 hgrow1 hat1; go_split_ands; have qE : Below X.heap.size X w7 := Below.grown (by with_reducible assumption) hgrow1 (by rw [HX3.out]; simp; (try omega)) (fun r hr => by have r1 := (O2.out.lt r hr).1; rw [HX3.out]; simpa using r1); have m0 := bX_oldc qE HLX0.out HY0.out; have m1 := bX_oldc qE HLX1.out HY1.out)
            | (refine step_append_any (by rfl) (.tmp 76) (.tmp 77) _ (by rfl) w3.heap.size 64 iB _ 4 32 Try.underlying23 hB0 hB1 hB2 hB3 rfl (by omega) (.slice (some ⟨w3.heap.size + 1, 0, none⟩) 0 0) 0 [] (by rfl) O3.out ⟨A3, o3, none⟩ q cap2 (Z.map (Value.int .i64)) (by rfl) (by rw [List.length_map]; exact HLEN.out) (src_cells (by go_split_ands; with_reducible assumption) HLX2.out HLEN.out HCX.out) (one_cells Z) (by unfold maxLen; omega) (by omega) (by simp; (try omega)) ?_; intro v1 w7 hown1 hgrow1 hat1; go_split_ands; have qE : Below X.heap.size X w7 := Below.grown (by with_reducible assumption) hgrow1 (by rw [HX3.out]; simp; (try omega)) (fun r hr => by have r1 := (O3.out.lt r hr).1; rw [HX3.out]; simpa using r1); have m0 := bX_oldc qE HLX0.out HY0.out; have m1 := bX_oldc qE HLX1.out HY1.out)
            | (refine step_append_any (by rfl) (.tmp 78) (.tmp 100) _ (by rfl) w3.heap.size 64 iB _ 4 32 Try.underlying23 hB0 hB1 hB2 hB3 rfl (by omega) v1 (0 + q) _ (by rfl) (hown1.alloc _) ⟨w7.heap.size, 0, none⟩ 1 1 [.int .i64 (i : Int), .int .i64 (k : Int), .int .i64 (x + 1), .int .i64 (x + 2)] (by rfl) (by rfl) (World.news_of_block (cs := #[.int .i64 (i : Int), .int .i64 (k : Int), .int .i64 (x + 1), .int .i64 (x + 2)]) (t := 64) (fr := (0, 0)) (heap_alloc_new w7 _)) (by simp [Value.oneCell']) (by unfold maxLen; omega) (by omega) (by have r1 := hgrow1.size; simp at r1 ⊢; omega) ?_; intro v2 w8 hown2 hgrow2 hat2; go_split_ands; have qF : Below X.heap.size X w8 := Below.grown (by with_reducible assumption) hgrow2 (by have r1 := qE.size; simp; omega) (fun r hr => by have r1 := (hown1.lt r hr).1; rw [HX3.out]; simpa using r1); have p0 := bX_oldc qF HLX0.out HY0.out; have p1 := bX_oldc qF HLX1.out HY1.out)
            | (refine step_append_any (by rfl) (.tmp 78) (.tmp 100) _ (by rfl) w3.heap.size 64 iB _ 4 32 Try.underlying23 hB0 hB1 hB2 hB3 rfl (by omega) v1 (0 + q) _ (by rfl) hown1 ⟨w3.heap.size + 1, 0, none⟩ 1 1 [.int .i64 (i : Int), .int .i64 (k : Int), .int .i64 (x + 1), .int .i64 (x + 2)] (by rfl) (by rfl) (kept_news hgrow1 (by simp) (by simp [Value.ownBlock]) N2.out) (by simp [Value.oneCell']) (by unfold maxLen; omega) (by omega) (by have r1 := hgrow1.size; simp at r1 ⊢; omega) ?_; intro v2 w8 hown2 hgrow2 hat2; go_split_ands; have qF : Below X.heap.size X w8 := Below.grown (by with_reducible assumption) hgrow2 (by have r1 := qE.size; simp; omega) (fun r hr => by have r1 := (hown1.lt r hr).1; rw [HX3.out]; simpa using r1); have p0 := bX_oldc qF HLX0.out HY0.out; have p1 := bX_oldc qF HLX1.out HY1.out)
            | (refine step_append_any (by rfl) (.tmp 78) (.tmp 100) _ (by rfl) w3.heap.size 64 iB _ 4 32 Try.underlying23 hB0 hB1 hB2 hB3 rfl (by omega) v1 (0 + q) _ (by rfl) hown1 ⟨w3.heap.size, 0, none⟩ 1 1 [.int .i64 (i : Int), .int .i64 (k : Int), .int .i64 (x + 1), .int .i64 (x + 2)] (by rfl) (by rfl) (kept_news hgrow1 (by simp; (try omega)) (by simp [Value.ownBlock]) N3.out) (by simp [Value.oneCell']) (by unfold maxLen; omega) (by omega) (by have r1 := hgrow1.size; simp at r1 ⊢; omega) ?_; intro v2 w8 hown2 hgrow2 hat2; go_split_ands; have qF : Below X.heap.size X w8 := Below.grown (by with_reducible assumption) hgrow2 (by have r1 := qE.size; simp; omega) (fun r hr => by have r1 := (hown1.lt r hr).1; rw [HX3.out]; simpa using r1); have p0 := bX_oldc qF HLX0.out HY0.out; have p1 := bX_oldc qF HLX1.out HY1.out)))
        all_goals
          obtain ⟨A5, cap5, hv5, hF5⟩ := own_flat (zs := Z ++ [(i : Int), (k : Int), x + 1, x + 2]) (n := q + 1) (by
            have e0 : 0 + q + 1 = q + 1 := by omega
            rw [e0] at hown2
            simpa only [List.map_append, List.nil_append, List.map_cons, List.map_nil] using hown2)
          subst hv5
          have hbXX := HBX.out.trans (qF.mono HBX.out.size)
          have HF5 := Lib.hid hF5
          clear hown1 hown2 hgrow1 hgrow2 hat1 hat2 hF5 m0 m1 p0 p1 qE qF
          go_wp2_with fail
          go_meet
          exact ⟨A5, cap5, rfl, by rw [← HZ.out]; exact HF5.out, hbXX⟩
      case rest =>
        obtain ⟨A5, cap5, rfl, hF5, hbX⟩ := hcut
        have hb5 := hb3.trans (hbX.mono hs3)
        have hs5 := hb5.size
        have hF6 := HF3.out.keepC (by omega) hbX
        obtain ⟨l, hl⟩ : ∃ l, l = bds (evNums zd zl n q) q := ⟨_, rfl⟩
        have hall : bds (evNums zd zl n q ++ [(i : Int), (k : Int), x + 1, x + 2]) (q + 1) = l ++ [⟨i, k, x + 1, x + 2⟩] := by rw [hl]; exact bds_snoc _ _ _ _ _ _ hlen
        have hll : l.length = q := by rw [hl, bds_len]
        have hbo : BdOk (n : Nat) ⟨i, k, x + 1, x + 2⟩ := by constructor <;> dsimp only <;> omega
        have hfl : Free n l := by rw [hl]; exact HFR.out
        have hwl : Within n 20100 l := by rw [hl]; exact evA_within zd zl HH.out
        have hw2 : Within n 1000002 (l ++ [⟨i, k, x + 1, x + 2⟩]) := ⟨by omega, by unfold far; omega, fun c hc => by
          rcases List.mem_append.1 hc with h1 | h1
          · obtain ⟨g1, g2, g3, g4, g5⟩ := hwl.each c h1
            exact ⟨g1, by omega, by omega, by omega, by omega⟩
          · rw [List.mem_singleton] at h1
            subst h1
            exact ⟨hbo, by dsimp only; omega, by dsimp only; omega, by dsimp only; omega, by dsimp only; omega⟩⟩
        have hbad := beyond_bad hw2 (evL_pow n8 1000002 (by omega) (by omega)) (by
          have h1 := HX.out
          rw [HDD.out, ← hl] at h1
          dsimp only
          rw [Int.toNat_natCast, Int.toNat_natCast, h1])
        have hCl : ChronOk n l := by rw [hl]; exact HC.out
        have hCa : ChronOk n (l ++ [⟨i, k, x + 1, x + 2⟩]) := ⟨hCl.n1, hCl.n12, by rw [List.length_append, hll]; simp; omega, fun c hc => by
          rcases List.mem_append.1 hc with h1 | h1
          · exact hCl.each c h1
          · rw [List.mem_singleton] at h1
            subst h1
            exact hbo⟩
        have HALL := Lib.hid hall; have HLL := Lib.hid hll; have HBO := Lib.hid hbo; have HFL := Lib.hid hfl; have HBAD := Lib.hid hbad; have HCA := Lib.hid hCa; have HCL := Lib.hid hCl; have HF5 := Lib.hid hF5; have HF6 := Lib.hid hF6; have HLB := Lib.hid hl
        clear hall hll hbo hfl hwl hw2 hbad hCl hCa hF5 hF6 hl hcell hlen c0 c1 hb3 hs3 hbX
        go_wp2_with fail
        refine Calls.mono (least_any _ _ _ _ (n : Nat) _ HF5.out) ?_
        rw [HALL.out]
        rintro e w6 ⟨hb, ⟨N, hN, -, -, out, v, rfl, hout, hown⟩ | ⟨N, hN, -, hgood, -⟩ | ⟨hno, -⟩⟩
        · obtain rfl : N = n := by omega
          have hlen1 : (l ++ [(⟨i, k, x + 1, x + 2⟩ : Bd)]).length = l.length + 1 := by simp
          rw [hlen1] at hout
          obtain ⟨p2, plast, pfree⟩ := last_least HFL.out HBO.out hout
          have e2 := hout.lt
          rw [HLL.out] at e2 plast
          obtain ⟨p, hp⟩ : ∃ p, p = out.length := ⟨_, rfl⟩
          rw [← hp] at hown p2 plast
          have hpq : p ≤ q + 1 := by have := hout.few; rw [HLL.out] at this; omega
          have hcl : ∀ j, j < p → (out.map fun (x : Nat) => Value.int .i64 (x : Int))[j]? = some (.int .i64 ((out.getD j 0 : Nat) : Int)) := fun j hj => by
            rw [List.getElem?_map, List.getElem?_eq_getElem (by omega), List.getD_eq_getElem?_getD, List.getElem?_eq_getElem (by omega)]
            rfl
          have hxo : ∀ j, j < p → out.getD j 0 < q + 1 := fun j hj => e2 _ (by rw [List.getD_eq_getElem?_getD, List.getElem?_eq_getElem (by omega)]; exact List.getElem_mem _)
          obtain ⟨go, gc2, hv, hg1, hg2⟩ := hown.form (by omega)
          subst hv
          have hcapO : p ≤ gc2 := by
            rcases hown.2 with ⟨h, _⟩ | ⟨_, _, _, h, _, _, h2, _⟩
            · cases h
            · simp only [Value.slice.injEq] at h; omega
          have hoc : ∀ j, j < p → w6.cell? ⟨go, j, none⟩ = some (.int .i64 ((out.getD j 0 : Nat) : Int)) := fun j hj => by
            have := hown.cellAt j (by omega)
            rwa [hcl j hj] at this
          have hb6 := hb5.trans (hb.mono hs5)
          have hs6 := hb6.size
          have HF7 := Lib.hid (HF6.out.keepC (by omega) hb)
          have HF8 := Lib.hid (HF5.out.keepC (by omega) hb)
          have HP := Lib.hid hp; have HXO := Lib.hid hxo; have HOC := Lib.hid hoc; have PL := Lib.hid plast; have PF := Lib.hid pfree; have E2 := Lib.hid e2
          clear hlen1 hout e2 hp hcl hxo hown hoc plast pfree hb hb5 hs5
          go_wp2_with fail
          refine Calls.mono (least_any _ _ _ _ (N : Nat) _ HF7.out) ?_
          rintro e w7 ⟨hb, ⟨N2, hN2, -, hbad2, -⟩ | ⟨N2, hN2, -, -, rfl⟩ | ⟨hno, -⟩⟩
          · obtain rfl : N2 = N := by omega
            exact absurd HFR.out hbad2
          · obtain rfl : N2 = N := by omega
            have hb7 := hb6.trans (hb.mono hs6)
            have hs7 := hb7.size
            obtain ⟨r, hr⟩ : ∃ r : Nat, p = r + 1 := ⟨p - 1, by omega⟩
            have d0 : w7.cell? ⟨go, r, none⟩ = some (.int .i64 (q : Int)) := by
              have h1 := (hb.cell (p := ⟨go, r, none⟩) hg2).trans (HOC.out r (by omega))
              have h2 := PL.out
              rw [show p - 1 = r by omega] at h2
              rwa [h2] at h1
            have q1 : (p : Int) - 1 = (r : Int) := by omega
            have q2 : ¬ (p : Int) < 2 := by omega
            have q3 : (0 : Int) ≤ (r : Int) := by omega
            have q4 : (r : Int) < (p : Int) := by omega
            have q5 : (1 : Int) ≤ (p : Int) := by omega
            have q6 : (p : Int) ≤ (gc2 : Int) := by omega
            have q7 : ¬ gc2 = 1 := by omega
            have q8 : (1 : Int) ≤ (gc2 : Int) := by omega
            have hg7 : go < w7.heap.size := by have := hb.size; omega
            have HF9 := Lib.hid (HF8.out.keepC (by omega) hb)
            have hocc : ∀ j, j < p → w7.cell? ⟨go, j, none⟩ = some (.int .i64 ((out.getD j 0 : Nat) : Int)) := fun j hj => (hb.cell (p := ⟨go, j, none⟩) hg2).trans (HOC.out j hj)
            have HOC7 := Lib.hid hocc; have HR := Lib.hid hr
            have HS7 := Lib.hid hs7
            clear hocc hr hb hb6 hs6
            go_wp2_with fail
            obtain ⟨M, hM⟩ : ∃ M, M = q + 1 := ⟨_, rfl⟩
            rw [show p - 1 = r by have := HR.out; omega, ← hM]
            have hF9 := HF9.out
            obtain ⟨ZZ, hZZ⟩ : ∃ ZZ, ZZ = evNums zd zl N2 q ++ [(i : Int), (k : Int), x + 1, x + 2] := ⟨_, rfl⟩
            rw [← hM, ← hZZ] at hF9
            obtain ⟨A6, o6, rfl, hc6⟩ := hF9.at' (by omega)
            have hb66 := World.block_lt_of_cell? w7 _ (hc6 0 (by omega))
            simp at hb66
            have hM20 : M ≤ 21 := by omega
            have hcap9 := hF9.le
            have hZall : bds ZZ M = l ++ [⟨i, k, x + 1, x + 2⟩] := by rw [hM, hZZ]; exact HALL.out
            have hxM : ∀ j, j < p → out.getD j 0 < M := fun j hj => by rw [hM]; exact HXO.out j hj
            have e2M : ∀ x, x ∈ out → x < M := fun x hx => by rw [hM]; exact E2.out x hx
            have HC6 := Lib.hid hc6; have HXM := Lib.hid hxM; have E2M := Lib.hid e2M; have HM := Lib.hid hM; have HZA := Lib.hid hZall
            clear hF9 hc6 hxM e2M hM hZall hZZ d0 q1
            go_loopw [17, 139] (fun vl i' wv => ∃ j : Nat, j ≤ r ∧ i' = .int .i64 j ∧ wv.ownsRow w7.heap.size 64 4 vl j ((needNums ZZ out 1 (j + 1)).map (Value.int .i64)) ∧ Below w7.heap.size w7 wv ∧ Below w.heap.size w wv) (fun _ i' _ => r - (intOf i').toNat)
            case atStart => exact ⟨0, by omega, rfl, World.ownsRow_nil _ _ _ _, Below.refl _ _, hb7⟩
            case round =>
              clear hb7 hs7
              obtain ⟨j, hj, rfl, hown, hbv, hbw⟩ := hrel
              have hbs := hbw.size
              have hbvs := hbv.size
              by_cases hjr : j < r
              · obtain ⟨y, hy⟩ : ∃ y, y = out.getD (j + 1) 0 := ⟨_, rfl⟩
                have hyM : y < M := by rw [hy]; exact HXM.out (j + 1) (by have := HR.out; omega)
                have f0 : wr.cell? ⟨go, 1 + j, none⟩ = some (.int .i64 (y : Int)) := by
                  rw [hy, Nat.add_comm]; exact (hbv.cell (p := ⟨go, j + 1, none⟩) hg7).trans (HOC7.out (j + 1) (by have := HR.out; omega))
                have y0 : (0 : Int) ≤ (y : Int) := by omega
                have ym : (y : Int) < (M : Int) := by omega
                have kd1 : decide ((y : Int) < 0) = false := by simp
                have kd2 : decide ((M : Int) ≤ (y : Int)) = false := by simp; omega
                have kd3 : decide (M ≤ y) = false := by simp; omega
                have j0 : (0 : Int) ≤ (j : Int) := by omega
                have j1 : (j : Int) < (r : Int) := by omega
                have g0 : wr.cell? ⟨A6, o6 + y * 4, none⟩ = some (.int .i64 (ix ZZ (y * 4))) := (hbv.cell (p := ⟨A6, o6 + y * 4, none⟩) hb66).trans (HC6.out (y * 4) (by omega))
                have g1 : wr.cell? ⟨A6, o6 + y * 4 + 1, none⟩ = some (.int .i64 (ix ZZ (y * 4 + 1))) := (hbv.cell (p := ⟨A6, o6 + y * 4 + 1, none⟩) hb66).trans (HC6.out (y * 4 + 1) (by omega))
                have g2 : wr.cell? ⟨A6, o6 + y * 4 + 2, none⟩ = some (.int .i64 (ix ZZ (y * 4 + 2))) := (hbv.cell (p := ⟨A6, o6 + y * 4 + 2, none⟩) hb66).trans (HC6.out (y * 4 + 2) (by omega))
                have g3 : wr.cell? ⟨A6, o6 + y * 4 + 3, none⟩ = some (.int .i64 (ix ZZ (y * 4 + 3))) := (hbv.cell (p := ⟨A6, o6 + y * 4 + 3, none⟩) hb66).trans (HC6.out (y * 4 + 3) (by omega))
                have q9 : needNums ZZ out 1 (j + 1 + 1) = needNums ZZ out 1 (j + 1) ++ [ix ZZ (y * 4), ix ZZ (y * 4 + 1), ix ZZ (y * 4 + 2), ix ZZ (y * 4 + 3)] := by rw [hy, needNums, if_neg (by omega)]
                obtain ⟨n0, hn0⟩ : ∃ n0, n0 = ix ZZ (y * 4) := ⟨_, rfl⟩
                obtain ⟨n1, hn1⟩ : ∃ n1, n1 = ix ZZ (y * 4 + 1) := ⟨_, rfl⟩
                obtain ⟨n3, hn3⟩ : ∃ n3, n3 = ix ZZ (y * 4 + 2) := ⟨_, rfl⟩
                obtain ⟨n4, hn4⟩ : ∃ n4, n4 = ix ZZ (y * 4 + 3) := ⟨_, rfl⟩
                rw [← hn0] at g0
                rw [← hn1] at g1
                rw [← hn3] at g2
                rw [← hn4] at g3
                rw [← hn0, ← hn1, ← hn3, ← hn4] at q9
                have Q9 := Lib.hid q9
                clear hn0 hn1 hn3 hn4 q9 hy
                go_wp2_with (at_builtin; refine wpList_append_own _ rfl _ _ 23 rfl w7.heap.size 64 iB _ 4 32 Try.underlying23 hB0 hB1 hB2 hB3 rfl (by decide) _ _ _ rfl (hown.alloc _) ⟨wr.heap.size, 0, none⟩ 1 1 [.int .i64 n0, .int .i64 n1, .int .i64 n3, .int .i64 n4] rfl rfl ?c1 ?c2 ?c3 ?c4 ?c5 ?_)
                case c1 => exact cells_four
                case c2 => simp [Value.oneCell']
                case c3 => unfold maxLen; omega
                case c4 => omega
                case c5 => simp; omega
                · intro v' w8 hown' hgrow _
                  have R : Hid (w8.ownsRow w7.heap.size 64 4 v' (j + 1) ((needNums ZZ out 1 (j + 1 + 1)).map (Value.int .i64))) := Lib.hid (by
                    rw [Q9.out]
                    simpa only [List.map_append, List.map_cons, List.map_nil] using hown')
                  have R1 := (hbv.alloc hbvs (.cells #[.int .i64 n0, .int .i64 n1, .int .i64 n3, .int .i64 n4] 64)).grown hgrow (by simp; omega) (fun q hq => (hown.lt q hq).1)
                  have R2 := (hbw.alloc hbs (.cells #[.int .i64 n0, .int .i64 n1, .int .i64 n3, .int .i64 n4] 64)).grown hgrow (by simp; omega) (fun q hq => Nat.le_trans HS7.out (hown.lt q hq).1)
                  clear hown' hgrow hown
                  go_wp2_with fail
                  go_roundw
                  case rel => exact ⟨j + 1, by omega, by go_num, R.out, R1, R2⟩
                  case measure => simp [intOf]; omega
              · obtain rfl : j = r := by omega
                obtain ⟨A7, cap7, hv, hF10⟩ := own_flat hown
                subst hv
                have hbd : bds (needNums ZZ out 1 (j + 1)) j = (pick (l ++ [⟨i, k, x + 1, x + 2⟩]) out).eraseIdx 0 := by
                  have h1 := need_bds ZZ M out 1 (j + 1) E2M.out (by rw [← HP.out, HR.out]; exact Nat.le_refl _)
                  rw [needCnt_one, HZA.out, needL_succ _ _ _ _ (by rw [← HP.out, HR.out]; exact Nat.le_refl _)] at h1
                  rw [h1, List.take_of_length_le (by rw [pick_len, ← HP.out, HR.out]; exact Nat.le_refl _)]
                have hok : ChronOk N2 ((pick (l ++ [⟨i, k, x + 1, x + 2⟩]) out).eraseIdx 0) := ⟨HCA.out.n1, HCA.out.n12, by rw [← hbd, bds_len]; omega, fun c hc => HCA.out.each c (by
                  obtain ⟨z, hz, rfl⟩ := List.mem_map.1 (List.mem_of_mem_eraseIdx hc)
                  have hzl := E2M.out z hz
                  have hl2 : z < (l ++ [(⟨i, k, x + 1, x + 2⟩ : Bd)]).length := by rw [← HZA.out, bds_len]; exact hzl
                  rw [List.getD_eq_getElem?_getD, List.getElem?_eq_getElem hl2]
                  exact List.getElem_mem hl2)⟩
                have HBD := Lib.hid hbd; have HOK := Lib.hid hok
                clear hbd hok hown
                go_wp2_with fail
                refine Calls.mono (tightest_free _ _ _ _ N2 _ _ HBD.out hF10 HOK.out PF.out) ?_
                rintro e w9 ⟨hb9, ob9, oc9, rb9, rc9, rfl, hcap99, hT9⟩
                have hb10 := hbw.trans (hb9.mono hbs)
                clear hb9 hbw hT9 hbv
                go_wp2_with fail
                go_ret
                exact ⟨rfl, hb10⟩
          · exact absurd (chronChk_zero.2 HC.out) hno
        · obtain rfl : N = n := by omega
          exact absurd hgood HBAD.out
        · exact absurd (chronChk_zero.2 HCA.out) hno

end Go.Proofs.Ytmeppcoekmoofaa
