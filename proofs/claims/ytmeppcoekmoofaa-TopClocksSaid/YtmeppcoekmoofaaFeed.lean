/- The contract of (*Keeper).Feed. -/
import Derived.Test.YtmeppcoekmoofaaKeeper
import Derived.Deep.RegionHeld3
namespace Go.Proofs.Ytmeppcoekmoofaa
open Go.RowKit
set_option linter.unusedSimpArgs false
set_option linter.unusedVariables false

def setRd (R : Nat → Int) (i : Nat) (t lo hi : Int) : Nat → Int := fun j => if j = i * 3 then t else if j = i * 3 + 1 then lo else if j = i * 3 + 2 then hi else R j
def setHd (H : Nat → Bool) (i : Nat) : Nat → Bool := fun j => if j = i then true else H j

def FeedPost (kb rb hb n i : Nat) (d f t lo hi : Int) (R : Nat → Int) (H : Nat → Bool) (w : World) (e : Ending) (w' : World) : Prop :=
  e = .returned (.int .i64 0) ∧ Keep w' kb rb hb n d f t (setRd R i t lo hi) (setHd H i) ∧ w.heap.size ≤ w'.heap.size ∧ ∀ B, B ≤ kb → B ≤ rb → B ≤ hb → Below B w w'

theorem keep_fed {W : World} {kb rb hb n i : Nat} {d f last t lo hi : Int} {R : Nat → Int} {H : Nat → Bool} (hK : Keep W kb rb hb n d f last R H) (hin : i < n) :
    Keep ((((((W.setCell ⟨rb, i * 3, none⟩ (.int .i64 t)).setCell ⟨rb, i * 3 + 1, none⟩ (.int .i64 lo)).setCell ⟨rb, i * 3 + 2, none⟩ (.int .i64 hi)).setCell ⟨hb, i, none⟩ (.bool true)).setCell ⟨kb, 4, none⟩ (.int .i64 t)).drew) kb rb hb n d f t (setRd R i t lo hi) (setHd H i) := by
  obtain ⟨h1, h2, h3, n1, n2, n3⟩ := hK
  refine ⟨?_, ?_, ?_, n1, n2, n3⟩
  · refine World.rowIs.drew (World.rowIs.congr (World.rowIs.set ((((h1.setOther n1 _).setOther n1 _).setOther n1 _).setOther n2 _) 4 _) (fun j hj => ?_))
    match j, hj with
    | 0, _ => rfl
    | 1, _ => rfl
    | 2, _ => rfl
    | 3, _ => rfl
    | 4, _ => rfl
  · refine World.rowIs.drew (World.rowIs.congr (((((h2.set (i * 3) _).set (i * 3 + 1) _).set (i * 3 + 2) _).setOther n3 _).setOther (Ne.symm n1) _) (fun j hj => ?_))
    unfold setRd
    by_cases e0 : j = i * 3
    · subst e0; simp
    · by_cases e1 : j = i * 3 + 1
      · subst e1; simp
      · by_cases e2 : j = i * 3 + 2
        · subst e2; simp
        · rw [if_neg e2, if_neg e1, if_neg e0, if_neg e0, if_neg e1, if_neg e2]
  · refine World.rowIs.drew (World.rowIs.congr ((World.rowIs.set (((h3.setOther (Ne.symm n3) _).setOther (Ne.symm n3) _).setOther (Ne.symm n3) _) i _).setOther (Ne.symm n2) _) (fun j hj => ?_))
    unfold setHd
    split <;> rfl

set_option maxRecDepth 100000 in
set_option maxHeartbeats 4000000 in
theorem feed_ok (kb rb hb n i : Nat) (d f last t lo hi : Int) (R : Nat → Int) (H : Nat → Bool) (w : World) (hK : Keep w kb rb hb n d f last R H) (hn : n ≤ 40) (hin : i < n) (t0 : 0 ≤ t) (t1 : t ≤ 1000000000000) (hl : last ≤ t) (h1 : -100000000000000000 ≤ lo) (h2 : hi ≤ 100000000000000000) (h3 : lo ≤ hi) :
    Calls Try.prog 41 #[.pointer (some ⟨kb, 0, none⟩), .int .i64 i, .agg #[.int .i64 t, .int .i64 lo, .int .i64 hi]] w (FeedPost kb rb hb n i d f t lo hi R H w) := by
  have i0 : (0 : Int) ≤ (i : Int) := by omega
  have i1 : (i : Int) < (n : Int) := by omega
  have n40 : (n : Int) ≤ 40 := by omega
  have k2 := hK.k.cell (i := 2) (by omega)
  have k3 := hK.k.cell (i := 3) (by omega)
  have k4 := hK.k.cell (i := 4) (by omega)
  simp only [kpF] at k2 k3 k4
  have l0 := hK.k.lt; have l1 := hK.r.lt; have l2 := hK.h.lt
  have HK := Lib.hid hK; clear hK
  go_enter Try.func41, Try.ntmps41
  go_wp2_with fail
  refine Calls.mono (sourceCheck_ok _ _ _ _ ⟨t0, t1⟩ h1 h2 h3) ?_
  rintro e w1 ⟨rfl, hb1⟩
  have b1 : Below w.heap.size w w1 := ((Below.refl w.heap.size w).alloc (Nat.le_refl _) _).trans (hb1.mono (by simp))
  have hK1 := HK.out.below b1
  have z0 : w.heap.size < w1.heap.size := by have := hb1.size; simp at this; omega
  have x0 : w1.cell? ⟨w.heap.size, 0, none⟩ = some (.int .i64 t) := (hb1.cell (p := ⟨w.heap.size, 0, none⟩) (by simp)).trans (by simp [go_sem])
  have x1 : w1.cell? ⟨w.heap.size, 1, none⟩ = some (.int .i64 lo) := (hb1.cell (p := ⟨w.heap.size, 1, none⟩) (by simp)).trans (by simp [go_sem])
  have x2 : w1.cell? ⟨w.heap.size, 2, none⟩ = some (.int .i64 hi) := (hb1.cell (p := ⟨w.heap.size, 2, none⟩) (by simp)).trans (by simp [go_sem])
  have y2 := hK1.k.cell (i := 2) (by omega)
  have y3 := hK1.k.cell (i := 3) (by omega)
  have y4 := hK1.k.cell (i := 4) (by omega)
  simp only [kpF] at y2 y3 y4
  have ly0 := hK1.k.lt; have ly1 := hK1.r.lt; have ly2 := hK1.h.lt
  have HK1 := Lib.hid hK1; have HB1 := Lib.hid b1
  clear hb1 hK1 b1 k2 k3 k4
  go_wp2_with fail
  go_quiet (fail)
  go_wp2_with fail
  obtain ⟨W, hW⟩ : ∃ W, W = w1.drewN nq := ⟨_, rfl⟩
  rw [← hW]
  have hKW : Keep W kb rb hb n d f last R H := by rw [hW]; exact ⟨HK1.out.k, HK1.out.r, HK1.out.h, HK1.out.n1, HK1.out.n2, HK1.out.n3⟩
  have u0 : W.cell? ⟨w.heap.size, 0, none⟩ = some (.int .i64 t) := by rw [hW]; exact x0
  have u1 : W.cell? ⟨w.heap.size, 1, none⟩ = some (.int .i64 lo) := by rw [hW]; exact x1
  have u2 : W.cell? ⟨w.heap.size, 2, none⟩ = some (.int .i64 hi) := by rw [hW]; exact x2
  have bW : Below w.heap.size w W := by rw [hW]; exact below_drewN HB1.out _
  have zW : w.heap.size < W.heap.size := by rw [hW]; exact z0
  have v2 := hKW.k.cell (i := 2) (by omega)
  have v3 := hKW.k.cell (i := 3) (by omega)
  have v4 := hKW.k.cell (i := 4) (by omega)
  simp only [kpF] at v2 v3 v4
  have g4 := hKW.k.frozen 4
  have r0 := hKW.r.cell (i := i * 3) (by omega)
  have r1 := hKW.r.cell (i := i * 3 + 1) (by omega)
  have r2 := hKW.r.cell (i := i * 3 + 2) (by omega)
  have rf0 := hKW.r.frozen (i * 3)
  have rf1 := hKW.r.frozen (i * 3 + 1)
  have rf2 := hKW.r.frozen (i * 3 + 2)
  have c0 := hKW.h.cell (i := i) hin
  have cf0 := hKW.h.frozen i
  have ne1 := hKW.n1; have ne2 := hKW.n2; have ne3 := hKW.n3
  have ne4 := Ne.symm hKW.n1; have ne5 := Ne.symm hKW.n2; have ne6 := Ne.symm hKW.n3
  have ne7 : w.heap.size ≠ kb := by omega
  have ne8 : w.heap.size ≠ rb := by omega
  have ne9 : w.heap.size ≠ hb := by omega
  clear x0 x1 x2 y2 y3 y4 hW z0
  go_region
  go_wp2_with fail
  go_returns
  exact ⟨rfl, keep_fed hKW hin, by simp; have := bW.size; omega, fun B h1 h2 h3 => ((((((bW.mono (by omega)).setCell h2 _).setCell h2 _).setCell h2 _).setCell h3 _).setCell h1 _).drew⟩

end Go.Proofs.Ytmeppcoekmoofaa
