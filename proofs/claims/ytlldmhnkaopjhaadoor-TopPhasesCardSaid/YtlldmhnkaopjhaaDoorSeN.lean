/- line.NewYear, season.Find, seasonWorks. -/
import Derived.Test.YtlldmhnkaopjhaaDoorSeW
import Derived.Test.YtlldmhnkaopjhaaDoorSeQ
import Derived.Test.YtlldmhnkaopjhaaDoorAt
import Derived.Test.YtlldmhnkaopjhaaDoorWhole
namespace Go.Proofs.YtlldmhnkaopjhaaDoor
open Go.RowKit
set_option linter.unusedSimpArgs false
set_option linter.unusedVariables false
set_option maxHeartbeats 4000000 in
theorem newYear_is (y : Int) (w : World) (h : -9100 ≤ y ∧ y ≤ 9100) : Calls Tryd.prog 45 #[.int .i64 y] w fun e w' => e = .returned (.int .i64 (newY y)) ∧ Below w.heap.size w w' := by
  obtain ⟨z, hz⟩ : ∃ z, z = y - 1 := ⟨_, rfl⟩
  have p0 : IntKind.i64.wrap (y - 1) = z := by rw [hz]; exact IntWalk.i64_in _ (by omega)
  have p1 : wrap64 (y - 1) = z := by rw [hz]; exact IntWalk.wrap64_in _ (by omega)
  have eN : newY y = 365 * z + z / 4 - z / 100 + z / 400 + 1 := by rw [hz]; rfl
  have zb : -10001 ≤ z ∧ z ≤ 9999 := by omega
  have D4 := Lib.hid (fun w => down_all z 4 w (by omega) (by omega) (by omega) (by omega))
  have D100 := Lib.hid (fun w => down_all z 100 w (by omega) (by omega) (by omega) (by omega))
  have D400 := Lib.hid (fun w => down_all z 400 w (by omega) (by omega) (by omega) (by omega))
  have ab : -3000 ≤ z / 4 ∧ z / 4 ≤ 3000 := by omega
  have bb : -3000 ≤ z / 100 ∧ z / 100 ≤ 3000 := by omega
  have cb : -3000 ≤ z / 400 ∧ z / 400 ≤ 3000 := by omega
  rw [eN]
  generalize z / 4 = a at *
  generalize z / 100 = b at *
  generalize z / 400 = c at *
  obtain ⟨zb1, zb2⟩ := zb
  obtain ⟨ab1, ab2⟩ := ab
  obtain ⟨bb1, bb2⟩ := bb
  obtain ⟨cb1, cb2⟩ := cb
  clear eN h hz
  go_enter Tryd.func45, Tryd.ntmps45
  go_wp2_with fail
  refine Calls.mono (D4.out _) ?_
  rintro e w1 ⟨rfl, hb1⟩
  have HB1 := Lib.hid hb1
  clear hb1
  go_wp2_with fail
  refine Calls.mono (D100.out _) ?_
  rintro e w2 ⟨rfl, hb⟩
  have HB2 := Lib.hid (HB1.out.trans (hb.mono HB1.out.size))
  clear hb
  go_wp2_with fail
  refine Calls.mono (D400.out _) ?_
  rintro e w3 ⟨rfl, hb⟩
  have HB3 := Lib.hid (HB2.out.trans (hb.mono HB2.out.size))
  clear hb
  go_wp2_with fail
  go_ret
  exact ⟨rfl, HB3.out⟩
set_option maxRecDepth 100000 in
set_option maxHeartbeats 8000000 in
theorem SFind_ok (q y : Int) (hq : 0 ≤ q ∧ q ≤ 3) (hy : -9100 ≤ y ∧ y ≤ 9100) (w : World) (hT : SinT w) : Calls Tryd.prog 25 #[.int .i64 q, .int .i64 y] w fun e w' => e = .returned (.tuple #[.agg #[.int .i64 (seY q y).1, .int .i64 (seY q y).2], .int .i64 0]) ∧ Below w.heap.size w w' := by
  have B := (se_find hq.1 hq.2 hy.1 hy.2).1
  obtain ⟨n0, n1⟩ := newY_ms hy.1 hy.2
  have F := fun W (hT : SinT W) => Next_ok (250000000 * q) (newY y * 86400000) (by omega) ⟨n0, n1⟩ B W hT
  have NY := Lib.hid (fun w => newYear_is y w hy)
  have eS : seF (250000000 * q) (newY y * 86400000) = seY q y := rfl
  rw [eS] at F
  have HT := Lib.hid hT
  obtain ⟨q1, q2⟩ := hq
  obtain ⟨y1, y2⟩ := hy
  generalize (seY q y).1 = r1 at *
  generalize (seY q y).2 = r2 at *
  generalize newY y = ny at *
  clear hT B eS
  rcases (by omega : q = 0 ∨ q = 1 ∨ q = 2 ∨ q = 3) with rfl | rfl | rfl | rfl
  all_goals
    simp only [Int.reduceMul] at F
    have HF := Lib.hid F
    clear F
    go_enter Tryd.func25, Tryd.ntmps25
    have HB := Lib.hid (Below.refl w.heap.size w)
    obtain ⟨k1, hk1⟩ : ∃ x, x = w.heap.size := ⟨_, rfl⟩
    have s1 := SpBox.new w (0) (0)
    rw [← hk1] at s1
    have Hkl1 := Lib.hid (show w.heap.size ≤ k1 by rw [hk1]; omega)
    go_upto_region 1 with fail
    rw [← hk1]
    have HBn := show Below w.heap.size w (w.alloc (.cells #[.int .i64 (0), .int .i64 (0)] 24)) from (by repeat' (first | (with_reducible refine below_drewN ?_ _) | go_grown))
    obtain ⟨X1, hX1⟩ : ∃ X, X = (w.alloc (.cells #[.int .i64 (0), .int .i64 (0)] 24)) := ⟨_, rfl⟩
    rw [← hX1] at s1 HBn ⊢
    clear hX1  HB
    replace s1 := Lib.hid s1
    have HB := Lib.hid HBn; have HK1 := Lib.hid hk1; clear HBn hk1
    go_wp2_with fail
    refine Calls.mono (NY.out _) ?_
    rintro e w1 ⟨rfl, hb⟩
    replace s1 := Lib.hid (s1.out.below hb)
    replace HB := Lib.hid (HB.out.trans (hb.mono HB.out.size))
    clear hb
    go_wp2_with fail
    refine Calls.mono (HF.out _ (HT.out.below HB.out)) ?_
    rintro e w2 ⟨rfl, hb⟩
    replace s1 := Lib.hid (s1.out.below hb)
    replace HB := Lib.hid (HB.out.trans (hb.mono HB.out.size))
    clear hb
    have c1_0 := s1.out.c0; have c1_1 := s1.out.c1; have c1_f := s1.out.free 0; have c1_g := s1.out.free 1; have c1_l := s1.out.lt; have c1_k := Hkl1.out
    go_wp2_with fail
    refine bodyPost_ret (v := .tuple #[.agg #[.int .i64 r1, .int .i64 r2], .int .i64 0]) ?_ rfl ⟨rfl, ?_⟩
    · simp [results, Tryd.results25, go_sem, *]
    · exact (HB.out.setCell (p := ⟨k1, 0, none⟩) c1_k _).setCell (p := ⟨k1, 1, none⟩) c1_k _
theorem sw0 : (seY 0 2000).1 ≤ 63089219834394 ∧ 63089219834394 ≤ (seY 0 2000).2 := by decide +kernel
set_option maxRecDepth 100000 in
set_option maxHeartbeats 4000000 in
theorem seasonWorks_ok (w : World) (hT : SinT w) : Calls Tryd.prog 24 #[] w fun e w' => e = .returned (.bool true) ∧ Below w.heap.size w w' := by
  obtain ⟨B, c, P⟩ := se_find (q := 0) (y := 2000) (by omega) (by omega) (by omega) (by omega)
  have a4 := P.w
  rw [show seF (250000000 * 0) (newY 2000 * 86400000) = seY 0 2000 from rfl] at a4
  obtain ⟨p1, p2⟩ := sw0
  have F := Lib.hid (fun W (hT : SinT W) => SFind_ok 0 2000 (by omega) (by omega) W hT)
  have HT := Lib.hid hT
  generalize (seY 0 2000).1 = a at *
  generalize (seY 0 2000).2 = b at *
  have H := Lib.hid (fun w => has_true a b 63089219834394 600000 w p1 p2 a4 ⟨by omega, by omega⟩)
  clear P B a4 p1 p2 hT
  go_enter Tryd.func24, Tryd.ntmps24
  have HB := Lib.hid (Below.refl w.heap.size w)
  go_wp2_with fail
  refine Calls.mono (F.out _ (HT.out.below HB.out)) ?_
  rintro e wn1 ⟨rfl, hb⟩
  have HB1 := HB.out.trans (hb.mono HB.out.size)
  clear hb
  have Hkl1 := Lib.hid HB1.size; replace HB := Lib.hid (HB1.alloc HB1.size (.cells #[.int .i64 (a), .int .i64 (b)] 24))
  clear HB1
  have s1 := Lib.hid (SpBox.new wn1 (a) (b))
  obtain ⟨k1, hk1⟩ : ∃ x, x = wn1.heap.size := ⟨_, rfl⟩
  rw [← hk1] at s1 Hkl1
  go_upto_region 2 with fail
  rw [← hk1]
  obtain ⟨X1, hX1⟩ : ∃ X, X = wn1.alloc (.cells #[.int .i64 (a), .int .i64 (b)] 24) := ⟨_, rfl⟩
  rw [← hX1] at s1 HB ⊢
  clear hk1 hX1
  have sc1_0 := s1.out.c0; have sc1_1 := s1.out.c1; have sc1_l := s1.out.lt
  go_wp2_with fail
  refine Calls.mono (H.out _) ?_
  rintro e wc1 ⟨rfl, hb⟩
  replace s1 := Lib.hid (s1.out.below hb)
  replace HB := Lib.hid (HB.out.trans (hb.mono HB.out.size))
  clear sc1_0 sc1_1 sc1_l
  clear hb
  go_wp2_with fail
  go_ret
  exact ⟨rfl, HB.out⟩
end Go.Proofs.YtlldmhnkaopjhaaDoor
