/- series.Part. -/
import Derived.Test.YtdeoahgcppbmkaaDoorPartP
import Derived.Test.YtdeoahgcppbmkaaDoorTrigW
import Derived.Test.YtdeoahgcppbmkaaDoorAngle0
namespace Go.Proofs.YtdeoahgcppbmkaaDoor
open Go.RowKit
set_option linter.unusedSimpArgs false
set_option linter.unusedVariables false

theorem SinT.drewN {w : World} (h : SinT w) (n : Nat) : SinT (w.drewN n) := ⟨h.s0, h.s1, h.s2, h.s3, h.s4, h.s5, h.c0, h.c1, h.c2, h.c3, h.c4, h.c5⟩
set_option maxRecDepth 100000 in
set_option maxHeartbeats 4000000 in
theorem Part_ok (A P R t : Int) (w : World) (ht : SinT w) (hA : -1000000000 ≤ A ∧ A ≤ 1000000000) (hP : 0 ≤ P ∧ P ≤ 1000000000) (hR : -4000000000000000 ≤ R ∧ R ≤ 4000000000000000) (hT : -350000000000000 ≤ t ∧ t ≤ 350000000000000) :
    Calls Tryd.prog 108 #[.agg #[.int .i64 A, .int .i64 P, .int .i64 R], .int .i64 t] w fun e w' => e = .returned (.float .f64 (partW A P R t)) ∧ Below w.heap.size w w' := by
  obtain ⟨e, hp⟩ := part_ok A P R t hA
  have G := Lib.hid (fun w => grown_ok R t w hR hT)
  have qb : -20000000000000000 ≤ R * t / 86400000000000 ∧ R * t / 86400000000000 ≤ 20000000000000000 := by
    have := mul_bd hR hT
    omega
  have i1 := hp.i1; have i2 := hp.i2; have i3 := hp.i3; have i4 := hp.i4; have i5 := hp.i5; have i6 := hp.i6
  have S := Lib.hid (fun w ht => Sin_ok (radW (partA P R t)) hp.rf hp.r0 hp.r7 w ht)
  have rb : 0 ≤ R * t % 86400000000000 ∧ R * t % 86400000000000 < 86400000000000 := by omega
  generalize partA P R t = pa at *
  generalize R * t / 86400000000000 = q at *
  generalize R * t % 86400000000000 = r at *
  have M := Lib.hid (fun w => mod_all (P + q) 1000000000 w (by omega) (by omega) (by omega) (by omega))
  generalize (P + q) % 1000000000 = m at *
  obtain ⟨P0, P1⟩ := hP
  obtain ⟨q0, q1⟩ := qb
  obtain ⟨fm, hfm⟩ : ∃ y, floatOfInt .f64 m = y := ⟨_, rfl⟩
  obtain ⟨fr, hfr⟩ : ∃ y, floatOfInt .f64 r = y := ⟨_, rfl⟩
  obtain ⟨fA, hfA⟩ : ∃ y, floatOfInt .f64 A = y := ⟨_, rfl⟩
  rw [hfr] at i1 i2
  rw [hfm] at i2
  rw [hfA] at i6
  generalize fdiv fr 4815374002031689728 = x1 at *
  generalize fdiv pa 4741671816366391296 = x2 at *
  generalize fmul x2 4611686018427387904 = x3 at *
  generalize radW pa = x4 at *
  generalize sinB x4 = x5 at *
  generalize partW A P R t = x6 at *
  have j1 := fop i1; have j2 := fop i2; have j3 := fop i3; have j4 := fop i4; have j5 := fop i5; have j6 := fop i6
  have HT := Lib.hid ht
  clear hp i1 i2 i3 i4 i5 i6 hA hR hT ht rb
  go_enter Tryd.func108, Tryd.ntmps108
  go_wp2_with fail
  refine Calls.mono (G.out _) ?_
  rintro e w1 ⟨rfl, hb⟩
  obtain ⟨hb1, hz1, hc1, hf1⟩ := took (w := w) (by repeat' (first | (with_reducible refine below_drewN ?_ _) | go_grown)) (by first | (simp only [World.size_alloc, World.size_setCell, World.size_drew, size_drewN]; done) | (simp only [World.size_alloc, World.size_setCell, World.size_drew, size_drewN]; rfl) | rfl) hb; clear hb
  have z1 : w.heap.size < w1.heap.size := by omega
  go_wp2_with fail
  refine Calls.mono (M.out _) ?_
  rintro e w2 ⟨rfl, hb⟩
  obtain ⟨hb2, hz2, hc2, hf2⟩ := took (w := w) (by repeat' (first | (with_reducible refine below_drewN ?_ _) | go_grown)) (by first | (simp only [World.size_alloc, World.size_setCell, World.size_drew, size_drewN]; done) | (simp only [World.size_alloc, World.size_setCell, World.size_drew, size_drewN]; rfl) | rfl) hb; clear hb
  have z2 : w.heap.size < w2.heap.size := by omega
  have HB2 := Lib.hid hb2
  have T2 := Lib.hid (HT.out.below hb2)
  go_wp2_with fail
  go_quiet ((go_at_call 96; exact Calls.quiet_of_same (S.out _ (T2.out.drewN _))))
  go_wp2_with fail
  go_ret
  exact ⟨rfl, below_drewN HB2.out nq⟩
end Go.Proofs.YtdeoahgcppbmkaaDoor
