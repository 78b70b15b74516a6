/- OscillAdds, the walk: the time of ticks is within the sum of the times of two parts. -/
import Derived.Test.YtaemgglkdeklmaaOscillSet
import Derived.Deep.RegionHeld3
namespace Go.Proofs.Ytaemgglkdeklmaa
open Go.RowKit
set_option linter.unusedSimpArgs false
set_option linter.unusedVariables false

set_option maxHeartbeats 1000000 in
theorem oscillAdds_walk (a0 a1 a2 : Int) (w : World) (_ : (Lit.int .i64 a0).wf = true) (_ : (Lit.int .i64 a1).wf = true) (_ : (Lit.int .i64 a2).wf = true) :
    Calls Try.prog 6 #[.int .i64 a0, .int .i64 a1, .int .i64 a2] w fun e w' => e = .returned (.bool true) ∧ Below w.heap.size w w' := by
  have h0 : 0 ≤ a0 % 100001 := by omega
  have h0' : a0 % 100001 ≤ 100000 := by omega
  have h1 : 0 ≤ a1 % 100000000000 := by omega
  have h1' : a1 % 100000000000 ≤ 99999999999 := by omega
  have h2 : 0 ≤ a2 % 100000000000 := by omega
  have h2' : a2 % 100000000000 ≤ 99999999999 := by omega
  obtain ⟨d, hd⟩ : ∃ d, d = a0 % 100001 := ⟨_, rfl⟩
  obtain ⟨a, ha⟩ : ∃ d, d = a1 % 100000000000 := ⟨_, rfl⟩
  obtain ⟨b, hb⟩ : ∃ d, d = a2 % 100000000000 := ⟨_, rfl⟩
  have HD := Lib.hid hd; have HA := Lib.hid ha; have HB := Lib.hid hb
  rw [← hd] at h0 h0'; rw [← ha] at h1 h1'; rw [← hb] at h2 h2'
  clear hd ha hb
  have ba := el_bounds d a h0 h0' h1 (by omega)
  have bb := el_bounds d b h0 h0' h2 (by omega)
  have bc := el_bounds d (a + b) h0 h0' (by omega) (by omega)
  have s1 := elLo_adds d a b h0
  have s2 := elHi_adds d a b h0'
  go_enter Try.func6, Try.ntmps6
  go_wp2_with fail
  refine Calls.mono (oscillWorks_ok _) ?_
  rintro e w1 ⟨rfl, hb⟩
  obtain ⟨hb1, hz1, hc1, hf1⟩ := took (w := w) (by repeat' (first | (with_reducible refine below_drewN ?_ _) | go_grown)) (by first | (simp only [World.size_alloc, World.size_setCell, World.size_drew, size_drewN]; done) | (simp only [World.size_alloc, World.size_setCell, World.size_drew, size_drewN]; rfl) | rfl) hb; clear hb
  go_wp2_with fail
  refine Calls.mono (at_any _ _ _ (by omega) (by omega)) ?_
  rintro e _ ⟨rfl, rfl⟩
  rw [← HD.out]
  go_wp2_with fail
  refine Calls.mono (at_any _ _ _ (by omega) (by omega)) ?_
  rintro e _ ⟨rfl, rfl⟩
  rw [← HA.out]
  go_wp2_with fail
  refine Calls.mono (at_any _ _ _ (by omega) (by omega)) ?_
  rintro e _ ⟨rfl, rfl⟩
  rw [← HB.out]
  go_wp2_with fail
  refine Calls.mono (elapsed_any _ _ _ h0 h0' h1 (by omega)) ?_
  rintro e w2 ⟨rfl, hb⟩
  obtain ⟨hb2, hz2, hc2, hf2⟩ := took (w := w) (by repeat' (first | (with_reducible refine below_drewN ?_ _) | go_grown)) (by first | (simp only [World.size_alloc, World.size_setCell, World.size_drew, size_drewN]; done) | (simp only [World.size_alloc, World.size_setCell, World.size_drew, size_drewN]; rfl) | rfl) hb; clear hb
  go_wp2_with fail
  refine Calls.mono (elapsed_any _ _ _ h0 h0' h2 (by omega)) ?_
  rintro e w3 ⟨rfl, hb⟩
  obtain ⟨hb3, hz3, hc3, hf3⟩ := took (w := w) (by repeat' (first | (with_reducible refine below_drewN ?_ _) | go_grown)) (by first | (simp only [World.size_alloc, World.size_setCell, World.size_drew, size_drewN]; done) | (simp only [World.size_alloc, World.size_setCell, World.size_drew, size_drewN]; rfl) | rfl) hb; clear hb
  go_wp2_with fail
  refine Calls.mono (elapsed_any _ _ _ h0 h0' (by omega) (by omega)) ?_
  rintro e w4 ⟨rfl, hb⟩
  obtain ⟨hb4, hz4, hc4, hf4⟩ := took (w := w) (by repeat' (first | (with_reducible refine below_drewN ?_ _) | go_grown)) (by first | (simp only [World.size_alloc, World.size_setCell, World.size_drew, size_drewN]; done) | (simp only [World.size_alloc, World.size_setCell, World.size_drew, size_drewN]; rfl) | rfl) hb; clear hb
  have z2 : w2.heap.size < w3.heap.size := by omega
  have z3 : w3.heap.size < w4.heap.size := by omega
  have z4 : w2.heap.size < w4.heap.size := by omega
  go_wp2_with fail
  have n1 : w2.heap.size ≠ w3.heap.size := by omega
  have n2 : w2.heap.size ≠ w4.heap.size := by omega
  have n3 : w3.heap.size ≠ w4.heap.size := by omega
  have e1 : IntKind.i64.wrap (a + b) = a + b := IntWalk.i64_in _ (by omega)
  obtain ⟨X, hX⟩ : ∃ X, X = (w4.alloc (.cells #[.int .i64 (elLo d (a + b)), .int .i64 (elHi d (a + b))] 25)).drew := ⟨_, rfl⟩
  have xX0 : X.cell? ⟨w2.heap.size, 0, none⟩ = some (.int .i64 (elLo d a)) := by rw [hX]; simp [go_sem, *]
  have xX1 : X.cell? ⟨w2.heap.size, 1, none⟩ = some (.int .i64 (elHi d a)) := by rw [hX]; simp [go_sem, *]
  have xX2 : X.cell? ⟨w3.heap.size, 0, none⟩ = some (.int .i64 (elLo d b)) := by rw [hX]; simp [go_sem, *]
  have xX3 : X.cell? ⟨w3.heap.size, 1, none⟩ = some (.int .i64 (elHi d b)) := by rw [hX]; simp [go_sem, *]
  have xX4 : X.cell? ⟨w4.heap.size, 0, none⟩ = some (.int .i64 (elLo d (a + b))) := by rw [hX]; simp [go_sem, *]
  have xX5 : X.cell? ⟨w4.heap.size, 1, none⟩ = some (.int .i64 (elHi d (a + b))) := by rw [hX]; simp [go_sem, *]
  have lX0 : w2.heap.size < X.heap.size := by rw [hX]; simp; (try omega)
  have lX1 : w3.heap.size < X.heap.size := by rw [hX]; simp; (try omega)
  have lX2 : w4.heap.size < X.heap.size := by rw [hX]; simp; (try omega)
  have bX : Below w.heap.size w X := by rw [hX]; exact (by repeat' (first | (with_reducible refine below_drewN ?_ _) | go_grown))
  have HxX0 := Lib.hid xX0
  have HxX1 := Lib.hid xX1
  have HxX2 := Lib.hid xX2
  have HxX3 := Lib.hid xX3
  have HxX4 := Lib.hid xX4
  have HxX5 := Lib.hid xX5
  have HlX0 := Lib.hid lX0
  have HlX1 := Lib.hid lX1
  have HlX2 := Lib.hid lX2
  have HbX := Lib.hid bX
  have HhX := Lib.hid hX
  clear xX0 xX1 xX2 xX3 xX4 xX5 lX0 lX1 lX2 bX hX
  go_region_held3 (fun w' => w'.cell? ⟨w2.heap.size, 0, none⟩ = some (.int .i64 (elLo d a)) ∧ w'.cell? ⟨w2.heap.size, 1, none⟩ = some (.int .i64 (elHi d a)) ∧ w'.cell? ⟨w3.heap.size, 0, none⟩ = some (.int .i64 (elLo d b)) ∧ w'.cell? ⟨w3.heap.size, 1, none⟩ = some (.int .i64 (elHi d b)) ∧ w'.cell? ⟨w4.heap.size, 0, none⟩ = some (.int .i64 (elLo d (a + b))) ∧ w'.cell? ⟨w4.heap.size, 1, none⟩ = some (.int .i64 (elHi d (a + b))) ∧ Below X.heap.size X w')
    (((try dsimp only); repeat' apply And.intro) <;> (first | (with_reducible assumption) | (go_split_ands; (with_reducible assumption)) | (rw [← HhX.out]; (first | exact Below.refl _ _ | exact HxX0.out | exact HxX1.out | exact HxX2.out | exact HxX3.out | exact HxX4.out | exact HxX5.out)) | go_keep))
    (first
      | (go_at_call 26; refine Calls.mono (plus_any _ _ _ _ _ (by omega) (by omega) (by omega) (by omega)) ?_; rintro e wq ⟨rfl, hb⟩; go_split_ands; have qB : Below X.heap.size X wq := (bX_more (by with_reducible assumption) hb); have m0 := bX_oldc qB HlX0.out HxX0.out; have m1 := bX_oldc qB HlX0.out HxX1.out; have m2 := bX_oldc qB HlX1.out HxX2.out; have m3 := bX_oldc qB HlX1.out HxX3.out; have m4 := bX_oldc qB HlX2.out HxX4.out; have m5 := bX_oldc qB HlX2.out HxX5.out; clear hb)
      | (go_at_call 20; refine Calls.mono (holds_true _ _ _ _ _ (by omega) (by omega)) ?_; rintro e wq ⟨rfl, hb⟩; go_split_ands; have qB : Below X.heap.size X wq := (bX_more (by with_reducible assumption) hb); have m0 := bX_oldc qB HlX0.out HxX0.out; have m1 := bX_oldc qB HlX0.out HxX1.out; have m2 := bX_oldc qB HlX1.out HxX2.out; have m3 := bX_oldc qB HlX1.out HxX3.out; have m4 := bX_oldc qB HlX2.out HxX4.out; have m5 := bX_oldc qB HlX2.out HxX5.out; clear hb))
  go_wp2_with fail
  go_returns
  exact ⟨rfl, bX_back HbX.out (by go_split_ands; (with_reducible assumption))⟩

end Go.Proofs.Ytaemgglkdeklmaa
