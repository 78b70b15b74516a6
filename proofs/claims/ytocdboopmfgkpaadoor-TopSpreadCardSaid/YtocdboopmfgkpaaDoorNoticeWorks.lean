/- The contracts of notice.Write at one notice, of noticeWorks. -/
import Derived.Test.YtocdboopmfgkpaaDoorBytes
namespace Go.Proofs.YtocdboopmfgkpaaDoor
open Go.RowKit
set_option linter.unusedSimpArgs false
set_option linter.unusedVariables false

theorem dec0 : Lib.itoa 0 = [48] := by rw [show (0 : Int) = ((0 : Nat) : Int) from rfl, Lib.itoa_nonneg, Lib.decDigits_one (by omega)]; rfl
theorem dec1 : Lib.itoa 1 = [49] := by rw [show (1 : Int) = ((1 : Nat) : Int) from rfl, Lib.itoa_nonneg, Lib.decDigits_one (by omega)]; rfl
theorem decW : Lib.itoa 930818648 = [57, 51, 48, 56, 49, 56, 54, 52, 56] := by
  rw [show (930818648 : Int) = ((930818648 : Nat) : Int) from rfl, Lib.itoa_nonneg]
  simp [Lib.decDigits]
def aB : ByteArray := ⟨#[97]⟩
theorem ntL_a : ntL 0 1 aB = [48, 32, 49, 32, 97] := by unfold ntL aB; rw [dec0, dec1]; rfl
theorem sum_a : sumAll 1 (ntL 0 1 aB) = 930818648 := by rw [ntL_a]; rfl
theorem nt_a (m : Int) (h0 : 0 ≤ m) (h1 : m < 2147483647) : NtOk 0 1 aB m := ⟨by omega, by omega, by omega, by omega, h0, h1, by decide, fun b hb => by
  have : b = 97 := by simpa [aB] using hb
  subst this; decide⟩

set_option maxRecDepth 100000 in
set_option maxHeartbeats 4000000 in
theorem write_a (w : World) (ht : Tab w) : Calls Tryd.prog 21 #[.agg #[.int .i64 0, .int .i64 1, .string ⟨#[97]⟩, .int .i64 930818648]] w fun e w' => e = .returned (.tuple #[.string ⟨#[48, 32, 49, 32, 57, 51, 48, 56, 49, 56, 54, 52, 56, 32, 97]⟩, .int .i64 0]) ∧ Below w.heap.size w w' := by
  have HK := Lib.hid (nt_a 930818648 (by omega) (by omega))
  have HT := Lib.hid ht
  clear ht
  obtain ⟨sA, hA⟩ : ∃ x, x = (⟨(Lib.itoa 0).toArray⟩ : ByteArray) := ⟨_, rfl⟩
  obtain ⟨sB, hB⟩ : ∃ x, x = (⟨(Lib.itoa 1).toArray⟩ : ByteArray) := ⟨_, rfl⟩
  obtain ⟨sC, hC⟩ : ∃ x, x = (⟨(Lib.itoa 930818648).toArray⟩ : ByteArray) := ⟨_, rfl⟩
  obtain ⟨s1, h1⟩ : ∃ x, x = sA ++ (⟨#[32]⟩ : ByteArray) := ⟨_, rfl⟩
  obtain ⟨s2, h2⟩ : ∃ x, x = s1 ++ sB := ⟨_, rfl⟩
  obtain ⟨s3, h3⟩ : ∃ x, x = s2 ++ (⟨#[32]⟩ : ByteArray) := ⟨_, rfl⟩
  obtain ⟨s4, h4⟩ : ∃ x, x = s3 ++ sC := ⟨_, rfl⟩
  obtain ⟨s5, h5⟩ : ∃ x, x = s4 ++ (⟨#[32]⟩ : ByteArray) := ⟨_, rfl⟩
  obtain ⟨s6, h6⟩ : ∃ x, x = s5 ++ (⟨#[97]⟩ : ByteArray) := ⟨_, rfl⟩
  have lA : sA.size = 1 := by rw [hA, dec0]; rfl
  have lB : sB.size = 1 := by rw [hB, dec1]; rfl
  have lC : sC.size = 9 := by rw [hC, decW]; rfl
  have l1 : s1.size = sA.size + 1 := cat_size h1
  have l2 := cat_size h2
  have l3 : s3.size = s2.size + 1 := cat_size h3
  have l4 := cat_size h4
  have l5 : s5.size = s4.size + 1 := cat_size h5
  have c1 := cat_run Tryd.prog _ _ _ h1 (by show sA.size + 1 ≤ _; omega)
  have c2 := cat_run Tryd.prog _ _ _ h2 (by omega)
  have c3 := cat_run Tryd.prog _ _ _ h3 (by show s2.size + 1 ≤ _; omega)
  have c4 := cat_run Tryd.prog _ _ _ h4 (by omega)
  have c5 := cat_run Tryd.prog _ _ _ h5 (by show s4.size + 1 ≤ _; omega)
  have c6 := cat_run Tryd.prog _ _ _ h6 (by show s5.size + 1 ≤ _; omega)
  have hL : s6 = ⟨#[48, 32, 49, 32, 57, 51, 48, 56, 49, 56, 54, 52, 56, 32, 97]⟩ := by
    rw [h6, h5, h4, h3, h2, h1, hA, hB, hC, dec0, dec1, decW]; rfl
  have HA := Lib.hid hA; have HB := Lib.hid hB; have HC := Lib.hid hC; have HL := Lib.hid hL
  clear hA hB hC hL h1 h2 h3 h4 h5 h6 l1 l2 l3 l4 l5 lA lB lC
  go_enter Tryd.func21, Tryd.ntmps21
  go_wp2_with fail
  refine Calls.mono (check_ok _ _ _ _ _ HK.out) ?_
  rintro e w1 ⟨rfl, hb⟩
  have N0 := (NtBox.new w 0 1 aB 930818648).below hb
  have b0 := (Below.refl w.heap.size w).alloc (Nat.le_refl _) (.cells #[.int .i64 0, .int .i64 1, .string aB, .int .i64 930818648] 23)
  have hb1 := b0.trans (hb.mono b0.size)
  have HTX := Lib.hid ((HT.out.below hb1).drew)
  clear hb b0
  have x0 := N0.c0; have x1 := N0.c1; have x2 := N0.c2; have x3 := N0.c3; have xf0 := N0.free 0; have xf1 := N0.free 1; have xf2 := N0.free 2; have xf3 := N0.free 3; have xl := N0.lt
  have x2' : w1.cell? ⟨w.heap.size, 2, none⟩ = some (.string ⟨#[97]⟩) := x2
  clear x2 N0
  go_wp2_with fail
  obtain ⟨X, hX⟩ : ∃ X, X = (w1).drew := ⟨_, rfl⟩
  have xX0 : X.cell? ⟨w.heap.size, 0, none⟩ = some (.int .i64 0) := by rw [hX]; simp [go_sem, *]
  have xX1 : X.cell? ⟨w.heap.size, 1, none⟩ = some (.int .i64 1) := by rw [hX]; simp [go_sem, *]
  have xX2 : X.cell? ⟨w.heap.size, 2, none⟩ = some (.string ⟨#[97]⟩) := by rw [hX]; simp [go_sem, *]
  have xX3 : X.cell? ⟨w.heap.size, 3, none⟩ = some (.int .i64 930818648) := by rw [hX]; simp [go_sem, *]
  have lX0 : w.heap.size < X.heap.size := by rw [hX]; simp; (try omega)
  have bX : Below w.heap.size w X := by rw [hX]; exact (by repeat' (first | (with_reducible refine below_drewN ?_ _) | go_grown))
  have HxX0 := Lib.hid xX0
  have HxX1 := Lib.hid xX1
  have HxX2 := Lib.hid xX2
  have HxX3 := Lib.hid xX3
  have HlX0 := Lib.hid lX0
  have HbX := Lib.hid bX
  have HhX := Lib.hid hX
  clear xX0 xX1 xX2 xX3 lX0 bX hX
  go_region_held3 (fun w' => w'.cell? ⟨w.heap.size, 0, none⟩ = some (.int .i64 0) ∧ w'.cell? ⟨w.heap.size, 1, none⟩ = some (.int .i64 1) ∧ w'.cell? ⟨w.heap.size, 2, none⟩ = some (.string ⟨#[97]⟩) ∧ w'.cell? ⟨w.heap.size, 3, none⟩ = some (.int .i64 930818648) ∧ Below X.heap.size X w')
    (((try dsimp only); repeat' apply And.intro) <;> (first | (with_reducible assumption) | (go_split_ands; (with_reducible assumption)) | (rw [← HhX.out]; (first | exact Below.refl _ _ | exact HxX0.out | exact HxX1.out | exact HxX2.out | exact HxX3.out)) | go_keep))
    (first
      | ((try go_split_ands); go_at_call 36; refine Calls.mono (itoa_as 0 sA HA (by omega) (by omega) _ (HTX.out.below (by rw [HhX.out] at *; with_reducible assumption))) ?_; rintro e wq ⟨rfl, hb⟩; (try go_split_ands); have qB : Below X.heap.size X wq := (bX_more (by with_reducible assumption) hb); have m0 := bX_oldc qB HlX0.out HxX0.out; have m1 := bX_oldc qB HlX0.out HxX1.out; have m2 := bX_oldc qB HlX0.out HxX2.out; have m3 := bX_oldc qB HlX0.out HxX3.out; clear hb)
      | ((try go_split_ands); go_at_call 36; refine Calls.mono (itoa_as 1 sB HB (by omega) (by omega) _ (HTX.out.below (by rw [HhX.out] at *; with_reducible assumption))) ?_; rintro e wq ⟨rfl, hb⟩; (try go_split_ands); have qB : Below X.heap.size X wq := (bX_more (by with_reducible assumption) hb); have m0 := bX_oldc qB HlX0.out HxX0.out; have m1 := bX_oldc qB HlX0.out HxX1.out; have m2 := bX_oldc qB HlX0.out HxX2.out; have m3 := bX_oldc qB HlX0.out HxX3.out; clear hb)
      | ((try go_split_ands); go_at_call 36; refine Calls.mono (itoa_as 930818648 sC HC (by omega) (by omega) _ (HTX.out.below (by rw [HhX.out] at *; with_reducible assumption))) ?_; rintro e wq ⟨rfl, hb⟩; (try go_split_ands); have qB : Below X.heap.size X wq := (bX_more (by with_reducible assumption) hb); have m0 := bX_oldc qB HlX0.out HxX0.out; have m1 := bX_oldc qB HlX0.out HxX1.out; have m2 := bX_oldc qB HlX0.out HxX2.out; have m3 := bX_oldc qB HlX0.out HxX3.out; clear hb))
  all_goals
    have hbq : Below w.heap.size w wq := bX_back HbX.out qB
    go_wp2_with fail
    go_returns
    exact ⟨by rw [HL.out]; rfl, hbq⟩

set_option maxRecDepth 100000 in
set_option maxHeartbeats 4000000 in
theorem noticeWorks_ok (w : World) (ht : Tab w) : Calls Tryd.prog 8 #[] w fun e w' => e = .returned (.bool true) ∧ Below w.heap.size w w' := by
  have HT := Lib.hid ht
  have HK := Lib.hid (nt_a 0 (by omega) (by omega))
  clear ht
  go_enter Tryd.func8, Tryd.ntmps8
  go_wp2_with fail
  refine Calls.mono (sign_ok 1 0 1 aB 0 _ HT.out HK.out (by omega) (by omega)) ?_
  rintro e w1 ⟨rfl, hb1⟩
  rw [sum_a]
  have N0 := NtBox.new w1 0 1 aB 930818648
  have b2 := hb1.alloc hb1.size (.cells #[.int .i64 0, .int .i64 1, .string aB, .int .i64 930818648] 23)
  have HT2 := Lib.hid (HT.out.below b2)
  unfold aB at *
  go_wp2_with fail
  refine Calls.mono (write_a _ HT2.out) ?_
  rintro e w2 ⟨rfl, hb⟩
  have hb3 := b2.trans (hb.mono b2.size)
  have N1 := N0.below hb
  have x0 := N1.c0; have x1 := N1.c1; have x2 := N1.c2; have x3 := N1.c3; have xf0 := N1.free 0; have xf1 := N1.free 1; have xf2 := N1.free 2; have xf3 := N1.free 3; have xl := N1.lt
  clear hb b2 N0 N1
  go_wp2_with fail
  go_ret
  exact ⟨rfl, hb3⟩

end Go.Proofs.YtocdboopmfgkpaaDoor
