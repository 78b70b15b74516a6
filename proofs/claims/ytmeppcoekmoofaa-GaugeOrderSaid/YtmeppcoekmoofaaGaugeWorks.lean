/- gaugeWorks. -/
import Derived.Test.YtmeppcoekmoofaaReadings
namespace Go.Proofs.Ytmeppcoekmoofaa
open Go.RowKit
set_option linter.unusedSimpArgs false
set_option linter.unusedVariables false

def gwW (w : World) : World := ((((w.alloc (.cells #[.int .i64 1] 3)).alloc (.cells #[.int .i64 1] 3)).alloc (.cells #[.int .i64 1] 3)).alloc (.cells #[.slice (some ⟨w.heap.size, 0, none⟩) 1 1, .slice (some ⟨w.heap.size + 1, 0, none⟩) 1 1, .slice (some ⟨w.heap.size + 1 + 1, 0, none⟩) 1 1] 22)).alloc (.cells #[.int .i64 1, .int .i64 2, .int .i64 6] 3)
theorem gw_mat (w : World) : GMat (gwW w) (w.heap.size + 1 + 1 + 1) 0 3 1 (fun k => w.heap.size + k) (fun _ => 1) (fun _ _ => 1) := by
  refine ⟨fun k hk => ?_, fun k hk i hi => ?_, by simp [gwW], fun k hk => by simp [gwW]; omega, fun _ _ => Nat.le_refl _⟩
  · match k, hk with
    | 0, _ => simp [gwW, go_sem]
    | 1, _ => simp [gwW, go_sem]
    | 2, _ => simp [gwW, go_sem]
  · obtain rfl : i = 0 := by omega
    match k, hk with
    | 0, _ => simp [gwW, go_sem]
    | 1, _ => simp [gwW, go_sem]
    | 2, _ => simp [gwW, go_sem]
theorem gw_flat (w : World) : FlatSl (gwW w) 1 (some ⟨w.heap.size + 1 + 1 + 1 + 1, 0, none⟩) 3 3 [1, 2, 6] := by
  refine ⟨by omega, by simp [maxLen], rfl, fun _ => ⟨_, _, rfl, fun j hj => ?_⟩⟩
  match j, hj with
  | 0, _ => simp [gwW, go_sem, ix]
  | 1, _ => simp [gwW, go_sem, ix]
  | 2, _ => simp [gwW, go_sem, ix]
theorem gw_read : GRead (fun _ _ => 1) (ix [1, 2, 6]) 3 1 := by
  refine ⟨by omega, by omega, by omega, by omega, fun k i hk hi => by omega, fun k hk => ?_⟩
  match k, hk with
  | 0, _ => decide
  | 1, _ => decide
  | 2, _ => decide
theorem gw_below (w : World) : Below w.heap.size w (gwW w) := by
  unfold gwW
  exact (((((Below.refl _ _).alloc (Nat.le_refl _) _).alloc (by simp) _).alloc (by simp; omega) _).alloc (by simp; omega) _).alloc (by simp; omega) _
theorem gw_nums : detF 1 (gm (fun _ _ => 1) 3) ≠ 0 ∧ fitD 1 (gm (fun _ _ => 1) 3) (gr (fun _ _ => 1) (ix [1, 2, 6]) 3) = 1 ∧ fitF 1 (gm (fun _ _ => 1) 3) (gr (fun _ _ => 1) (ix [1, 2, 6]) 3) 0 = 3 ∧ resN 1 (gm (fun _ _ => 1) 3) (gr (fun _ _ => 1) (ix [1, 2, 6]) 3) (ix [1, 2, 6]) 3 = 14 := by
  refine ⟨by decide +kernel, by decide +kernel, by decide +kernel, by decide +kernel⟩

set_option maxRecDepth 100000 in
set_option maxHeartbeats 4000000 in
theorem gaugeWorks_ok (w : World) : Calls Try.prog 26 #[] w fun e w' => e = .returned (.bool true) ∧ Below w.heap.size w w' := by
  obtain ⟨g1, g2, g3, g4⟩ := gw_nums
  have G1 := Lib.hid g1; have G2 := Lib.hid g2; have G3 := Lib.hid g3; have G4 := Lib.hid g4
  clear g1 g2 g3 g4
  have hfit := fun w' => fit_ok (w'.heap.size + 1 + 1 + 1) 0 3 _ _ _ 3 1 _ 3 [1, 2, 6] (gwW w') (gw_mat w') (gw_flat w') gw_read (by omega)
  have hres := fun w' => resid_ok (w'.heap.size + 1 + 1 + 1) 0 3 _ _ _ 3 1 _ 3 [1, 2, 6] (gwW w') (gw_mat w') (gw_flat w') gw_read (by omega) (by omega)
  have HFIT := Lib.hid hfit; have HRES := Lib.hid hres
  clear hfit hres
  go_enter Try.func26, Try.ntmps26
  go_wp2_with fail
  refine Calls.mono (HFIT.out w) ?_
  rintro e w1 ⟨hb, ⟨hz, -⟩ | ⟨-, v, rfl, hown⟩⟩
  · exact absurd hz G1.out
  · obtain ⟨gv, cv, hv, hgv1, hgv2⟩ := hown.form (by omega)
    subst hv
    have hd : (detF 1 (gm (fun _ _ => 1) 3)).tdiv (fitG (detF 1 (gm (fun _ _ => 1) 3)) (detN 1 (gm (fun _ _ => 1) 3) (gr (fun _ _ => 1) (ix [1, 2, 6]) 3)) 1) = 1 := G2.out
    rw [hd]
    have x0 : w1.cell? ⟨gv, 0, none⟩ = some (.int .i64 3) := by
      rw [hown.cellAt 0 (by omega), facts_at 1 _ _ 0 (by omega), G3.out]
    have hb1 := (gw_below w).trans (hb.mono (gw_below w).size)
    have hs1 := hb1.size
    have F1 := FitBox.new w1 (.slice (some ⟨gv, 0, none⟩) 1 cv) 1
    have hb2 := hb1.alloc hs1 (.cells #[.slice (some ⟨gv, 0, none⟩) 1 cv, .int .i64 1] 54)
    have hs2 := hb2.size
    have B1 : Below w1.heap.size w1 (w1.alloc (.cells #[.slice (some ⟨gv, 0, none⟩) 1 cv, .int .i64 1] 54)) := (Below.refl _ _).alloc (Nat.le_refl _) _
    have HR2 := HRES.out (w1.alloc (.cells #[.slice (some ⟨gv, 0, none⟩) 1 cv, .int .i64 1] 54))
    have hbX := gw_below (w1.alloc (.cells #[.slice (some ⟨gv, 0, none⟩) 1 cv, .int .i64 1] 54))
    simp only [gwW, World.size_alloc] at HR2 hbX
    have HRX := Lib.hid HR2; have HBX := Lib.hid hbX
    clear hown hb hd HR2 hbX
    go_wp2_with fail
    refine Calls.mono HRX.out ?_
    rintro e w2 ⟨hb, ⟨hz, -⟩ | ⟨-, rfl⟩⟩
    · exact absurd hz G1.out
    · rw [G4.out, G2.out]
      have hbY := HBX.out.trans (hb.mono (by simp; (try omega)))
      have hbZ : Below (w1.alloc (.cells #[.slice (some ⟨gv, 0, none⟩) 1 cv, .int .i64 1] 54)).heap.size (w1.alloc (.cells #[.slice (some ⟨gv, 0, none⟩) 1 cv, .int .i64 1] 54)) w2 := by rw [World.size_alloc]; exact hbY
      have F2 := F1.below hbZ
      have y0 := ((B1.trans (hbZ.mono B1.size)).cell (p := ⟨gv, 0, none⟩) hgv2).trans x0
      have f0 := F2.c0; have f1 := F2.c1; have f2 := F2.lt
      have hb5 := hb2.trans (hbZ.mono hs2)
      have hgl : gv < w2.heap.size := by omega
      have e14 : (14 : Int).tdiv (Int.gcd 14 1 : Int) = 14 := by decide
      have e1 : (1 : Int).tdiv (Int.gcd 14 1 : Int) = 1 := by decide
      rw [e14, e1]
      clear hb hbY hbZ B1 F1 F2 hb2
      go_wp2_with fail
      go_ret
      exact ⟨rfl, hb5⟩

end Go.Proofs.Ytmeppcoekmoofaa
