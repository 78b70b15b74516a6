/- The contracts of gauge.Fit, gauge.Residual. -/
import Derived.Test.YtmeppcoekmoofaaSolve
import Derived.Test.YtmeppcoekmoofaaLeap
namespace Go.Proofs.Ytmeppcoekmoofaa
open Go.RowKit
set_option linter.unusedSimpArgs false
set_option linter.unusedVariables false

theorem GRead.small {R : Gm} {H : Nat → Int} {m n : Nat} (h : GRead R H m n) : Small n (Proofs.Ytmeppcoekmoofaa.gm R m) := fun i j hi hj => by
  have := h.gm m i j (Nat.le_refl _) hi hj
  omega

set_option maxHeartbeats 1000000 in
theorem fit_nil (A Ah : Option Addr) (cap nh ch : Nat) (w : World) :
    Calls Try.prog 28 #[.slice A 0 cap, .slice Ah nh ch] w fun e w' => e = .returned (.tuple #[.agg #[.slice none 0 0, .int .i64 0], .int .i64 8]) ∧ Below w.heap.size w w' := by
  go_enter Try.func28, Try.ntmps28
  go_wp2_with fail
  refine Calls.mono (gcheck_nil _ _ _ _ _ _) ?_
  rintro e _ ⟨rfl, rfl⟩
  go_wp2_with fail
  refine bodyPost_ret (v := .tuple #[.agg #[.slice none 0 0, .int .i64 0], .int .i64 8]) ?_ rfl ⟨rfl, (by repeat' (first | (with_reducible refine below_drewN ?_ _) | go_grown))⟩
  simp [results, Try.results28, go_sem]

set_option maxRecDepth 100000 in
set_option maxHeartbeats 4000000 in
theorem fit_ok (rO oo rcap : Nat) (rb0 rc0 : Nat → Nat) (R : Gm) (m n : Nat) (Ah : Option Addr) (hcap : Nat) (hs : List Int) (w : World) (hM : GMat w rO oo m n rb0 rc0 R) (hH : FlatSl w 1 Ah m hcap hs) (hG : GRead R (ix hs) m n) (hrc : m ≤ rcap) :
    Calls Try.prog 28 #[.slice (some ⟨rO, oo, none⟩) m rcap, .slice Ah m hcap] w (SolvePost n (gm R m) (gr R (ix hs) m) w) := by
  have n1 := hG.n1; have n3 := hG.n3
  have HM := Lib.hid hM; have HH := Lib.hid hH; have HG := Lib.hid hG
  clear hM hH hG
  have b0 : Below w.heap.size w (w.alloc (.cells #[.slice none 0 0, .int .i64 0] 54)) := (Below.refl _ _).alloc (Nat.le_refl _) _
  have F0 := FitBox.new w (.slice none 0 0) 0
  go_enter Try.func28, Try.ntmps28
  go_wp2_with fail
  refine Calls.mono (gcheck_ok _ _ _ _ _ _ _ _ _ _ _ _ (HM.out.below b0) (HH.out.keep (by omega) b0) HG.out hrc) ?_
  rintro e _ ⟨rfl, rfl⟩
  go_wp2_with fail
  refine Calls.mono (system_ok _ _ _ _ _ _ _ _ _ _ _ _ (HM.out.below b0) (HH.out.keep (by omega) b0) HG.out hrc) ?_
  rintro e w1 ⟨ob, g, rb, rc, rfl, hGM, hgr, hg, hb⟩
  have hb1 := b0.trans (hb.mono b0.size)
  have F1 := F0.below hb
  have hs1 := hb1.size
  have z0 : w.heap.size < w1.heap.size := F1.lt
  have HGM := Lib.hid hGM; have HGR := Lib.hid hgr
  clear hb hGM hgr b0 F0
  by_cases h0 : detF n (gm R m) = 0
  · go_wp2_with fail
    refine Calls.mono (solve_zero ob rb rc _ (gr R (ix hs) m) g n _ HGM.out HG.out.small n1 n3 h0) ?_
    rintro e w2 ⟨hb, ⟨-, rfl⟩ | ⟨hne, -⟩⟩
    · have F2 := F1.below hb
      have f0 := F2.c0; have f1 := F2.c1; have f2 := F2.free 0; have f3 := F2.free 1; have f4 := F2.lt
      have hb2 := hb1.trans (hb.mono hs1)
      have H0 := Lib.hid h0
      clear hb F1 h0 hb1
      go_wp2_with fail
      refine bodyPost_ret (v := .tuple #[.agg #[.slice none 0 0, .int .i64 0], .int .i64 6]) ?_ rfl ⟨(hb2.setCell (show w.heap.size ≤ (⟨w.heap.size, 0, none⟩ : Addr).block from Nat.le_refl _) _).setCell (show w.heap.size ≤ (⟨w.heap.size, 1, none⟩ : Addr).block from Nat.le_refl _) _, Or.inl ⟨H0.out, rfl⟩⟩
      simp [results, Try.results28, go_sem, *]
    · exact absurd h0 hne
  · go_wp2_with fail
    refine Calls.mono (solve_some ob rb rc _ _ g n _ HGM.out HGR.out hg HG.out.small (fun i hi => by have := HG.out.gr m i (Nat.le_refl _) hi; omega) n1 n3 h0) ?_
    rintro e w2 ⟨hb, ⟨hz, -⟩ | ⟨hne, v, rfl, hown⟩⟩
    · exact absurd hz h0
    · have F2 := F1.below hb
      have f0 := F2.c0; have f1 := F2.c1; have f2 := F2.free 0; have f3 := F2.free 1; have f4 := F2.lt
      have hb2 := hb1.trans (hb.mono hs1)
      obtain ⟨gv, cv, hv, hgv1, hgv2⟩ := hown.form (by omega)
      subst hv
      obtain ⟨d, hd⟩ : ∃ d, d = (detF n (gm R m)).tdiv (fitG (detF n (gm R m)) (detN n (gm R m) (gr R (ix hs) m)) n) := ⟨_, rfl⟩
      rw [← hd]
      have HO := Lib.hid hown; have HDD := Lib.hid hd; have HNE := Lib.hid hne
      clear hb F1 h0 hb1 hown hd hne
      go_wp2_with fail
      have hown6 : ((w2.setCell ⟨w.heap.size, 0, none⟩ (.slice (some ⟨gv, 0, none⟩) n cv)).setCell ⟨w.heap.size, 1, none⟩ (.int .i64 d)).ownsRow w.heap.size 3 1 (.slice (some ⟨gv, 0, none⟩) n cv) n ((facts n (gm R m) (gr R (ix hs) m)).map (Value.int .i64)) := by
        obtain ⟨r1, r2⟩ := HO.out
        refine ⟨r1, r2.imp id ?_⟩
        rintro ⟨gg, cap, cur, hv, hb, hh, rest⟩
        refine ⟨gg, cap, cur, hv, by omega, ?_, rest⟩
        rw [Go.Deep.blk_setCell_other _ _ _ _ (show gg ≠ w.heap.size by omega), Go.Deep.blk_setCell_other _ _ _ _ (show gg ≠ w.heap.size by omega)]
        exact hh
      refine bodyPost_ret (v := .tuple #[.agg #[.slice (some ⟨gv, 0, none⟩) n cv, .int .i64 d], .int .i64 0]) ?_ rfl ⟨(hb2.setCell (show w.heap.size ≤ (⟨w.heap.size, 0, none⟩ : Addr).block from Nat.le_refl _) _).setCell (show w.heap.size ≤ (⟨w.heap.size, 1, none⟩ : Addr).block from Nat.le_refl _) _, Or.inr ⟨HNE.out, _, by rw [HDD.out], hown6⟩⟩
      simp [results, Try.results28, go_sem, *]

end Go.Proofs.Ytmeppcoekmoofaa
