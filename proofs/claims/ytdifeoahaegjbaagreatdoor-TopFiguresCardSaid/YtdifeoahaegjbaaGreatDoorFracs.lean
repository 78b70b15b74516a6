/- Add, Cmp, the text of a fraction. -/
import Derived.Test.YtdifeoahaegjbaaGreatDoorFrac
namespace Go.Proofs.YtdifeoahaegjbaaGreatDoor
open Go.RowKit
set_option linter.unusedSimpArgs false
set_option linter.unusedVariables false

set_option maxRecDepth 100000 in
set_option maxHeartbeats 4000000 in
theorem fadd_one (x y : Int) (w : World) (hx : FrOk x 1) (hy : FrOk y 1) (hz : FrOk (x + y) 1) : Calls Tryz.prog 38 #[.agg #[.int .i64 x, .int .i64 1], .agg #[.int .i64 y, .int .i64 1]] w fun e w' => e = .returned (.tuple #[.agg #[.int .i64 (x + y), .int .i64 1], .int .i64 0]) ∧ Below w.heap.size w w' := by
  have H1 := Lib.hid hx; have H2 := Lib.hid hy
  obtain ⟨z, hzz⟩ : ∃ z, z = x + y := ⟨_, rfl⟩
  have z0 := hz.n0; have z1 := hz.n1
  rw [← hzz] at z0 z1
  have p2 : IntKind.i64.wrap x = x := IntWalk.i64_in _ (by have := hx.n0; have := hx.n1; omega)
  have p3 : IntKind.i64.wrap y = y := IntWalk.i64_in _ (by have := hy.n0; have := hy.n1; omega)
  have p1 : IntKind.i64.wrap (x + y) = z := by rw [← hzz]; exact IntWalk.i64_in _ (by omega)
  rw [← hzz]
  clear hx hy hz hzz
  go_enter Tryz.func38, Tryz.ntmps38
  go_wp2_with fail
  refine Calls.mono (both_ok x 1 y 1 _ H1.out H2.out) ?_
  rintro e w1 ⟨rfl, hb⟩
  have P0 := (((FrBox.new w x 1).alloc (.cells #[.int .i64 y, .int .i64 1] 30)).alloc (.cells #[.int .i64 0, .int .i64 0] 30)).below hb
  have P1 := ((FrBox.new (w.alloc (.cells #[.int .i64 x, .int .i64 1] 30)) y 1).alloc (.cells #[.int .i64 0, .int .i64 0] 30)).below hb
  have P2 := (FrBox.new ((w.alloc (.cells #[.int .i64 x, .int .i64 1] 30)).alloc (.cells #[.int .i64 y, .int .i64 1] 30)) 0 0).below hb
  have hb1 := (((Below.refl w.heap.size w).alloc (Nat.le_refl _) (.cells #[.int .i64 x, .int .i64 1] 30)).alloc (by simp) (.cells #[.int .i64 y, .int .i64 1] 30)).alloc (by simp; omega) (.cells #[.int .i64 0, .int .i64 0] 30)
  have hb2 := hb1.trans (hb.mono hb1.size)
  simp only [World.size_alloc] at P1 P2
  have x0 := P0.c0; have x1 := P0.c1; have xl := P0.lt; have y0 := P1.c0; have y1 := P1.c1; have yl := P1.lt
  have HP2 := Lib.hid P2; have HB2 := Lib.hid hb2
  clear hb hb1 hb2 P0 P1 P2
  go_wp2_with fail
  refine Calls.mono (of_one z _ z0 z1) ?_
  rintro e w2 ⟨rfl, hb⟩
  have P3 := HP2.out.below hb
  have hb3 := HB2.out.trans (hb.mono HB2.out.size)
  have u0 := P3.c0; have u1 := P3.c1; have ul := P3.lt; have uf0 := P3.free 0; have uf1 := P3.free 1
  clear hb x0 x1 y0 y1
  go_wp2_with fail
  have hbl := hb3
  refine bodyPost_ret (v := .tuple #[.agg #[.int .i64 z, .int .i64 1], .int .i64 0]) ?_ rfl ⟨rfl, by go_grown⟩
  simp [results, Tryz.results38, go_sem, *]

def cmpF (a b : Int) : Int := if a < b then -1 else if b < a then 1 else 0
/-- The text of a fraction. -/
def frL (n d : Int) : List UInt8 := if d = 1 then Lib.itoa n else Lib.itoa n ++ 47 :: Lib.itoa d
def frT (n d : Int) : ByteArray := ⟨(frL n d).toArray⟩
theorem frT_size (n d : Int) (h : FrOk n d) : (frT n d).size ≤ 43 := by
  obtain ⟨d1, d2, n0, n1, _⟩ := h
  have e1 := itoa_size n (by omega) (by omega)
  have e2 := itoa_size d (by omega) (by omega)
  have e3 : (Lib.itoa n).length ≤ 21 := by simpa [ByteArray.size] using e1
  have e4 : (Lib.itoa d).length ≤ 21 := by simpa [ByteArray.size] using e2
  unfold frT frL
  split <;> simp [ByteArray.size] <;> omega

set_option maxHeartbeats 4000000 in
theorem show_ok (n d : Int) (w : World) (ht : Tab w) (h : FrOk n d) : Calls Tryz.prog 33 #[.agg #[.int .i64 n, .int .i64 d]] w fun e w' => e = .returned (.string (frT n d)) ∧ Below w.heap.size w w' := by
  obtain ⟨d1, d2, n0, n1, _⟩ := h
  obtain ⟨sA, hA⟩ : ∃ x, x = (⟨(Lib.itoa n).toArray⟩ : ByteArray) := ⟨_, rfl⟩
  obtain ⟨sB, hB⟩ : ∃ x, x = (⟨(Lib.itoa d).toArray⟩ : ByteArray) := ⟨_, rfl⟩
  have lA : sA.size ≤ 21 := by rw [hA]; exact itoa_size n (by omega) (by omega)
  have lB : sB.size ≤ 21 := by rw [hB]; exact itoa_size d (by omega) (by omega)
  obtain ⟨s1, h1⟩ : ∃ x, x = (⟨#[47]⟩ : ByteArray) ++ sB := ⟨_, rfl⟩
  obtain ⟨s2, h2⟩ : ∃ x, x = sA ++ s1 := ⟨_, rfl⟩
  have l1 : s1.size = 1 + sB.size := cat_size h1
  have c1 := cat_run Tryz.prog _ _ _ h1 (by show 1 + sB.size ≤ _; omega)
  have c2 := cat_run Tryz.prog _ _ _ h2 (by omega)
  have hT1 : d = 1 → frT n d = sA := fun e => by unfold frT frL; rw [if_pos e, hA]
  have hT2 : ¬ d = 1 → frT n d = s2 := fun e => by
    have e1 : s2.data.toList = frL n d := by
      rw [cat_list h2, cat_list h1, hA, hB]
      unfold frL; rw [if_neg e]; simp
    unfold frT; rw [← e1]
  obtain ⟨T, hTT⟩ : ∃ T, T = frT n d := ⟨_, rfl⟩
  rw [← hTT] at hT1 hT2 ⊢
  have HA := Lib.hid hA; have HB := Lib.hid hB; have HT := Lib.hid ht; have HT1 := Lib.hid hT1; have HT2 := Lib.hid hT2
  clear ht hA hB h1 h2 l1 lA lB hT1 hT2 hTT
  go_enter Tryz.func33, Tryz.ntmps33
  go_wp2_with fail
  refine Calls.mono (itoa_as n sA HA (by omega) (by omega) _ (HT.out.below ((Below.refl w.heap.size w).alloc (Nat.le_refl _) _))) ?_
  rintro e w1 ⟨rfl, hb⟩
  have P0 := (FrBox.new w n d).below hb
  have hb1 := (Below.refl w.heap.size w).alloc (Nat.le_refl _) (.cells #[.int .i64 n, .int .i64 d] 30)
  have hb2 := hb1.trans (hb.mono hb1.size)
  have x0 := P0.c0; have x1 := P0.c1; have xl := P0.lt
  clear hb hb1 P0
  by_cases e : d = 1
  · go_wp2_with fail
    go_ret
    exact ⟨by rw [HT1.out e]; rfl, hb2⟩
  · go_wp2_with fail
    refine Calls.mono (itoa_as d sB HB (by omega) (by omega) _ (HT.out.below hb2)) ?_
    rintro e w2 ⟨rfl, hb⟩
    have hb3 := hb2.trans (hb.mono hb2.size)
    clear hb hb2 x0 x1 xl
    go_wp2_with fail
    go_ret
    exact ⟨by rw [HT2.out e]; rfl, hb3⟩

set_option maxHeartbeats 4000000 in
theorem ftext_ok (n d : Int) (w : World) (ht : Tab w) (h : FrOk n d) : Calls Tryz.prog 16 #[.agg #[.int .i64 n, .int .i64 d]] w fun e w' => e = .returned (.tuple #[.string (frT n d), .int .i64 0]) ∧ Below w.heap.size w w' := by
  have H1 := Lib.hid h; have HT := Lib.hid ht
  clear h ht
  go_enter Tryz.func16, Tryz.ntmps16
  go_wp2_with fail
  refine Calls.mono (fcheck_ok n d _ H1.out) ?_
  rintro e w1 ⟨rfl, hb⟩
  have P0 := (FrBox.new w n d).below hb
  have hb1 := (Below.refl w.heap.size w).alloc (Nat.le_refl _) (.cells #[.int .i64 n, .int .i64 d] 30)
  have hb2 := hb1.trans (hb.mono hb1.size)
  have x0 := P0.c0; have x1 := P0.c1; have xl := P0.lt
  clear hb hb1 P0
  go_wp2_with fail
  refine Calls.mono (show_ok n d _ (HT.out.below hb2) H1.out) ?_
  rintro e w2 ⟨rfl, hb⟩
  have hb3 := hb2.trans (hb.mono hb2.size)
  clear hb hb2 x0 x1 xl
  go_wp2_with fail
  go_returns
  exact ⟨rfl, hb3⟩
end Go.Proofs.YtdifeoahaegjbaaGreatDoor
