/- ContradictSpare, the walk: a constraint that is implied changes no interval. -/
import Derived.Test.YtmeppcoekmoofaaChanged
import Derived.Test.YtmeppcoekmoofaaEvAny
namespace Go.Proofs.Ytmeppcoekmoofaa
open Go.RowKit
set_option linter.unusedSimpArgs false
set_option linter.unusedVariables false

theorem spare_law {n : Nat} {W : Int} {l : List Bd} {c : Bd} (h : Within n W l) (hb : 2 ^ (n + 1) * W < far) (hf : Free n l) (hc : BdOk n c) :
    (c.lo ≤ -fin n l c.b.toNat c.a.toNat ∧ fin n l c.a.toNat c.b.toNat ≤ c.hi) ↔ SameTo n (fin n l) (fin n (l ++ [c])) n 0 := by
  obtain ⟨a0, a1, b0, b1, -, -, ab, -⟩ := id hc
  constructor
  · rintro ⟨h1, h2⟩ x y hxy hy -
    have := implied_same h hb hf hc h2 (by omega)
    exact ⟨(this x y (by omega) hy).symm, (this y x hy (by omega)).symm⟩
  · intro hs
    have hit := fin_hits (n := n) (l := l ++ [c]) c (List.mem_append_right _ (List.mem_singleton.2 rfl)) hc
    have key : fin n l c.a.toNat c.b.toNat = fin n (l ++ [c]) c.a.toNat c.b.toNat ∧ fin n l c.b.toNat c.a.toNat = fin n (l ++ [c]) c.b.toNat c.a.toNat := by
      rcases Nat.lt_or_gt_of_ne (show c.a.toNat ≠ c.b.toNat by omega) with h1 | h1
      · exact hs _ _ h1 (by omega) (Or.inl (by omega))
      · exact (hs _ _ h1 (by omega) (Or.inl (by omega))).symm
    rw [key.1, key.2]
    omega

set_option maxRecDepth 100000 in
set_option maxHeartbeats 16000000 in
theorem contradictSpare_walk (Ad : Option Addr) (nd capd : Nat) (zd : List Int) (Al : Option Addr) (ml capl : Nat) (zl : List Int) (w : World) (hd : FlatSl w 1 Ad nd capd zd) (hl : FlatSl w 4 Al ml capl zl) :
    Calls Try.prog 11 #[.slice Ad nd capd, .slice Al ml capl] w fun e w' => e = .returned (.bool true) ∧ Below w.heap.size w w' := by
  have HD := Lib.hid hd; have HL := Lib.hid hl
  obtain ⟨q20, hh⟩ := evQ_facts nd ml
  clear hd hl
  go_enter Try.func11, Try.ntmps11
  go_wp2_with fail
  refine Calls.mono (contradictWorks_ok _) ?_
  rintro e w1 ⟨rfl, hb⟩
  obtain ⟨hb1, hz1, hc1, hf1⟩ := took (w := w) (by repeat' (first | (with_reducible refine below_drewN ?_ _) | go_grown)) (by first | (simp only [World.size_alloc, World.size_setCell, World.size_drew, size_drewN]; done) | (simp only [World.size_alloc, World.size_setCell, World.size_drew, size_drewN]; rfl) | rfl) hb; clear hb
  have hs1 := hb1.size
  clear hc1 hf1
  go_wp2_with fail
  refine Calls.mono (events_any _ _ _ _ _ _ _ _ _ (HD.out.keepC (by omega) hb1) (HL.out.keepC (by omega) hb1)) ?_
  rintro e w2 ⟨v, rfl, hown, hb⟩
  obtain ⟨A2, cap2, rfl, hF2⟩ := own_flat hown
  obtain ⟨n, hn⟩ : ∃ n, n = min nd 8 := ⟨_, rfl⟩
  obtain ⟨q, hq⟩ : ∃ q, q = evQ nd ml := ⟨_, rfl⟩
  rw [← hn, ← hq] at hF2
  rw [← hq] at q20
  rw [← hn, ← hq] at hh
  rw [← hn, ← hq]
  have n8 : n ≤ 8 := by omega
  have hb2 := hb1.trans (hb.mono hs1)
  have hs2 := hb2.size
  clear hown hb hn hq hb1 hs1
  rcases q with _ | k
  · clear hh
    go_wp2_with fail
    go_returns
    exact ⟨rfl, hb2⟩
  · have h2 : 2 ≤ n := hh.resolve_right (by omega)
    have hC := evL_ok zd zl h2 n8 q20
    have hfr := (evL_free zd zl (q := k + 1) h2).1
    have e1 := evL_succ zd zl n k
    rw [e1] at hC hfr
    obtain ⟨a, ha⟩ : ∃ x, x = evA zl n k := ⟨_, rfl⟩
    obtain ⟨b, hb⟩ : ∃ x, x = evB zl n k := ⟨_, rfl⟩
    obtain ⟨lo, hlo⟩ : ∃ x, x = evLo zd zl n k := ⟨_, rfl⟩
    obtain ⟨hi, hhi⟩ : ∃ x, x = evHi zd zl n k := ⟨_, rfl⟩
    rw [← ha, ← hb, ← hlo, ← hhi] at hC hfr
    have hbd : bdAt (evNums zd zl n (k + 1)) k = ⟨a, b, lo, hi⟩ := by rw [ha, hb, hlo, hhi]; exact ix_evNums zd zl n (k + 1) k (by omega)
    have hbd2 := hbd
    simp only [bdAt, Bd.mk.injEq] at hbd2
    obtain ⟨i0, i1, i2, i3⟩ := hbd2
    have hlaw := spare_law (evL_within zd zl (q := k) h2) (evL_pow n8 20100 (by omega) (by omega)) (evL_free zd zl (q := k) h2).1 (hC.each _ (List.mem_append_right _ (List.mem_singleton.2 rfl)))
    obtain ⟨A3, o3, rfl, hcell⟩ := hF2.at' (by omega)
    have hbl := World.block_lt_of_cell? w2 _ (hcell 0 (by omega))
    simp at hbl
    have c0 := hcell (k * 4) (by omega)
    have c1 := hcell (k * 4 + 1) (by omega)
    have c2 := hcell (k * 4 + 2) (by omega)
    have c3 := hcell (k * 4 + 3) (by omega)
    rw [i0] at c0
    rw [i1] at c1
    rw [i2] at c2
    rw [i3] at c3
    have hst : bds (strike (evNums zd zl n (k + 1)) k) (k + 0) = evL zd zl n k := by
      rw [bds_strike (evNums zd zl n (k + 1)) k 0 (evNums_len _ _ _ _)]
      show (evL zd zl n (k + 1)).eraseIdx k = _
      rw [e1, List.eraseIdx_append_of_length_le (by unfold evL; rw [bds_len]; exact Nat.le_refl _)]
      simp [evL, bds_len]
    have hC0 : ChronOk n (bds (evNums zd zl n (k + 1)) (k + 1 + 0)) := evL_ok zd zl h2 n8 q20
    have hfr0 := (evL_free zd zl (q := k) h2).1
    have hle := hF2.le
    have HF2 := Lib.hid hF2; have HC := Lib.hid hC; have HC0 := Lib.hid hC0; have HFR := Lib.hid hfr; have HFR0 := Lib.hid hfr0; have HLAW := Lib.hid hlaw; have HST := Lib.hid hst; have HBD := Lib.hid hbd
    have C0 := Lib.hid c0; have C1 := Lib.hid c1; have C2 := Lib.hid c2; have C3 := Lib.hid c3
    clear hh hF2 hC hC0 hfr hfr0 hlaw hst hbd e1 ha hb hlo hhi i0 i1 i2 i3 hcell c0 c1 c2 c3
    obtain ⟨M, hM⟩ : ∃ M, M = k + 1 := ⟨_, rfl⟩
    rw [← hM]
    rw [← hM] at hle
    have q0 : (M : Int) - 1 = (k : Int) := by omega
    have q1 : ((M : Int) == 0) = false := by simp; omega
    have k0 : (0 : Int) ≤ (k : Int) := by omega
    have k1 : (k : Int) < (M : Int) := by omega
    have k2 : (k : Int) ≤ (cap2 : Int) := by omega
    have M1 : 1 ≤ (M : Int) := by omega
    have M2 : (M : Int) ≤ 20 := by omega
    have himp : ∀ w', FlatSl w' 4 (some ⟨A3, o3, none⟩) (k + 1) cap2 (evNums zd zl n (k + 1)) → Calls Try.prog 32 #[.int .i64 n, .slice (some ⟨A3, o3, none⟩) M cap2, .int .i64 k] w' (ImpliedPost n (bds (strike (evNums zd zl n (k + 1)) k) (k + 0)) (bdAt (evNums zd zl n (k + 1)) k) w') := fun w' hF => by
      rw [hM]
      exact implied_ok _ k 0 _ _ _ _ hF HC0.out
    have Q0 := Lib.hid q0; have HIMP := Lib.hid himp
    clear q0 himp hM q20
    go_wp2_with fail
    rw [Q0.out]
    refine Calls.mono (HIMP.out _ HF2.out) ?_
    rw [HST.out, HBD.out]
    rintro e w3 ⟨hb, ⟨-, rfl⟩ | ⟨hbad, -⟩⟩
    · obtain ⟨B, hB⟩ : ∃ B, B = decide (lo ≤ -fin n (evL zd zl n k) b.toNat a.toNat ∧ fin n (evL zd zl n k) a.toNat b.toNat ≤ hi) := ⟨_, rfl⟩
      have hB' : (B = true) ↔ SameTo n (fin n (evL zd zl n k)) (fin n (evL zd zl n k ++ [⟨a, b, lo, hi⟩])) n 0 := by
        rw [hB, decide_eq_true_iff]; exact HLAW.out
      rw [← hB]
      have HB := Lib.hid hB'; clear hB hB'
      have hb3 := hb2.trans (hb.mono hs2)
      have hs3 := hb3.size
      have d0 := (hb.cell (p := ⟨A3, o3 + k * 4, none⟩) hbl).trans C0.out
      have d1 := (hb.cell (p := ⟨A3, o3 + k * 4 + 1, none⟩) hbl).trans C1.out
      have d2 := (hb.cell (p := ⟨A3, o3 + k * 4 + 2, none⟩) hbl).trans C2.out
      have d3 := (hb.cell (p := ⟨A3, o3 + k * 4 + 3, none⟩) hbl).trans C3.out
      have hF4 := ev_prefix (HF2.out.keepC (by omega) hb)
      have HF4 := Lib.hid hF4
      clear hb hF4 hb2 hs2
      go_wp2_with fail
      obtain ⟨X, hX⟩ : ∃ X, X = w3.drew := ⟨_, rfl⟩
      have y0 : X.cell? ⟨A3, o3 + k * 4, none⟩ = some (.int .i64 a) := by rw [hX]; simp [go_sem, *]
      have y1 : X.cell? ⟨A3, o3 + k * 4 + 1, none⟩ = some (.int .i64 b) := by rw [hX]; simp [go_sem, *]
      have y2 : X.cell? ⟨A3, o3 + k * 4 + 2, none⟩ = some (.int .i64 lo) := by rw [hX]; simp [go_sem, *]
      have y3 : X.cell? ⟨A3, o3 + k * 4 + 3, none⟩ = some (.int .i64 hi) := by rw [hX]; simp [go_sem, *]
      have lX : A3 < X.heap.size := World.block_lt_of_cell? X _ y0
      have bX : Below w3.heap.size w3 X := by rw [hX]; exact (Below.refl _ _).drew
      have HY0 := Lib.hid y0; have HY1 := Lib.hid y1; have HY2 := Lib.hid y2; have HY3 := Lib.hid y3; have HLX := Lib.hid lX; have HBX := Lib.hid bX; have HX := Lib.hid hX
      clear d0 d1 d2 d3 y0 y1 y2 y3 lX bX hX
      go_region_held3 (fun w' => w'.cell? ⟨A3, o3 + k * 4, none⟩ = some (.int .i64 a) ∧ w'.cell? ⟨A3, o3 + k * 4 + 1, none⟩ = some (.int .i64 b) ∧ w'.cell? ⟨A3, o3 + k * 4 + 2, none⟩ = some (.int .i64 lo) ∧ w'.cell? ⟨A3, o3 + k * 4 + 3, none⟩ = some (.int .i64 hi) ∧ Below X.heap.size X w')
        (((try dsimp only); repeat' apply And.intro) <;> (first | (with_reducible assumption) | (go_split_ands; (with_reducible assumption)) | (rw [← HX.out]; (first | exact Below.refl _ _ | exact HY0.out | exact HY1.out | exact HY2.out | exact HY3.out)) | go_keep))
        ((first
          | (go_at_call 33; go_split_ands; refine Calls.mono (changed_ok _ _ _ _ _ _ _ _ _ _ (HF4.out.keepC (by omega) (HBX.out.trans (Below.mono (by with_reducible assumption) HBX.out.size))) HC.out HFR.out) ?_; rintro e w5 ⟨hb, v5, p5, xs5, rfl, hown5, hp5⟩; have qB : Below X.heap.size X w5 := (bX_more (by with_reducible assumption) hb); have m0 := bX_oldc qB HLX.out HY0.out; have m1 := bX_oldc qB HLX.out HY1.out; have m2 := bX_oldc qB HLX.out HY2.out; have m3 := bX_oldc qB HLX.out HY3.out; have HP5 := Lib.hid hp5; clear hp5 hb)))
      obtain ⟨A5, cap5, hv5⟩ : ∃ A5 cap5, v5 = .slice A5 p5 cap5 := by
        rcases hown5.2 with ⟨h1, h2⟩ | ⟨g, cap, cur, h1, -⟩
        · exact ⟨none, 0, by rw [h1, h2]⟩
        · exact ⟨_, _, h1⟩
      subst hv5
      have hb5 : Below w.heap.size w w5 := hb3.trans ((HBX.out.trans (qB.mono HBX.out.size)).mono hs3)
      clear hown5 qB m0 m1 m2 m3 hb3 hs3
      by_cases hp0 : p5 = 0
      · subst hp0
        obtain rfl : B = true := HB.out.2 (HP5.out.1 rfl)
        go_wp2_with fail
        go_returns
        exact ⟨rfl, hb5⟩
      · obtain rfl : B = false := by
          cases B
          · rfl
          · exact absurd (HP5.out.2 (HB.out.1 rfl)) hp0
        have e0 : ((p5 : Int) == 0) = false := by simp; omega
        go_wp2_with fail
        go_returns
        exact ⟨rfl, hb5⟩
    · exact absurd HFR0.out hbad

end Go.Proofs.Ytmeppcoekmoofaa
