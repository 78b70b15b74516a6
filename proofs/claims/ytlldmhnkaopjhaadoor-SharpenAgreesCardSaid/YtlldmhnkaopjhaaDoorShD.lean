/- sharpen: Decide. -/
import Derived.Test.YtlldmhnkaopjhaaDoorShQ
namespace Go.Proofs.YtlldmhnkaopjhaaDoor
open Go.RowKit
set_option linter.unusedSimpArgs false
set_option linter.unusedVariables false
set_option maxRecDepth 100000 in
set_option maxHeartbeats 16000000 in
theorem Decide_ok (q y k p : Int) (hq : 0 ≤ q ∧ q ≤ 3) (hy : -9100 ≤ y ∧ y ≤ 9100) (hk : -100000 ≤ k ∧ k ≤ 100000) (hp : 0 ≤ p ∧ p ≤ 3) (w : World) (hT : SinT w) : Calls Tryd.prog 30 #[.int .i64 q, .int .i64 y, .int .i64 k, .int .i64 p] w fun e w' => ∃ n g : Int, e = .returned (.tuple #[.int .i64 n, .int .i64 g]) ∧ DecOk q y k p n g ∧ Below w.heap.size w w' := by
  have SE := Lib.hid (fun wd (h : 1 ≤ wd ∧ wd ≤ 600000) W (hT : SinT W) => ShSeason_ok q y wd hq hy h W hT)
  have PH := Lib.hid (fun wd (h : 1 ≤ wd ∧ wd ≤ 600000) W (hT : SinT W) => ShPhase_ok k p wd hk hp h W hT)
  have YA := Lib.hid (fun v (h : 1 ≤ v) => shY_any (q := q) (y := y) (v := v) hq.1 hq.2 hy.1 hy.2 h)
  have PA := Lib.hid (fun v (h : 1 ≤ v) => shP_any (k := k) (q := p) (v := v) hk.1 hk.2 hp.1 hp.2 h)
  have D1 := Lib.hid (fun wd (h : WdOk q y k p wd) => dec_y (wd := wd) hq.1 hq.2 hy.1 hy.2 h)
  have D2 := Lib.hid (fun wd (h : WdOk q y k p wd) => dec_p (wd := wd) hk.1 hk.2 hp.1 hp.2 h)
  have D3 := Lib.hid (fun wd (h : WdOk q y k p wd) => dec_in (wd := wd) hq.1 hq.2 hy.1 hy.2 hk.1 hk.2 hp.1 hp.2 h)
  have D4 := Lib.hid (fun wd (h : WdOk q y k p wd) => dec_next (wd := wd) hq.1 hq.2 hy.1 hy.2 hk.1 hk.2 hp.1 hp.2 h)
  have W0 := Lib.hid (show WdOk q y k p 600000 from ⟨by omega, by omega, .inl rfl⟩)
  have HT := Lib.hid hT
  clear hT hq hy hk hp
  go_enter Tryd.func30, Tryd.ntmps30
  have HB := Lib.hid (Below.refl w.heap.size w)
  go_upto_region 2 with fail
  go_loopw [10] (fun wv wr => ∃ wd : Int, Hid (WdOk q y k p wd) ∧ wv = .int .i64 wd ∧ Hid (Below w.heap.size w wr)) (fun wv _ => (intOf wv).toNat)
  case atStart => exact ⟨600000, W0, rfl, HB⟩
  case round =>
    clear W0 HB
    obtain ⟨wd, hw, rfl, HB⟩ := hrel
    have wd0 := hw.out.1
    have wd1 := hw.out.2.1
    by_cases c : wd ≤ 0
    · obtain rfl : wd = 0 := by omega
      clear c wd0 wd1
      go_wp2_with fail
      go_ret2
      exact ⟨0, 11, rfl, dec_end hw.out, HB.out⟩
    · have c' : 0 < wd := by omega
      clear c
      have S := Lib.hid (SE.out wd ⟨by omega, by omega⟩)
      have P := Lib.hid (PH.out wd ⟨by omega, by omega⟩)
      obtain ⟨ye, yl, ym, yh⟩ := YA.out wd (by omega)
      obtain ⟨pe, pl, pm, ph⟩ := PA.out wd (by omega)
      have E := Lib.hid (fun W => Earlier_ok (shY q y wd).1 (shY q y wd).2.1 (shP k p wd).1 (shP k p wd).2.1 W ⟨by omega, by omega, by omega⟩ ⟨by omega, by omega, by omega⟩)
      have G1 := Lib.hid (D1.out wd hw.out)
      have G2 := Lib.hid (D2.out wd hw.out)
      have G3 := Lib.hid (D3.out wd hw.out)
      have G4 := Lib.hid (D4.out wd hw.out)
      have he := ear_2 (shY q y wd).1 (shY q y wd).2.1 (shP k p wd).1 (shP k p wd).2.1
      have hd : wd.tdiv 2 = wd / 2 := Int.tdiv_eq_ediv_of_nonneg wd0
      generalize earF (shY q y wd).1 (shY q y wd).2.1 (shP k p wd).1 (shP k p wd).2.1 = er at *
      generalize er.1 = e1 at *
      generalize er.2 = e2 at *
      generalize (shY q y wd).1 = r1 at *
      generalize (shY q y wd).2.1 = r2 at *
      generalize (shY q y wd).2.2 = r3 at *
      generalize (shP k p wd).1 = p1 at *
      generalize (shP k p wd).2.1 = p2 at *
      generalize (shP k p wd).2.2 = p3 at *
      clear SE PH YA PA D1 D2 D3 D4 yl ym yh pl pm ph
      have G5 : Hid ((e2 = 0 ∧ DecOk q y k p e1 0) ∨ (e2 = 11 ∧ WdOk q y k p (wd.tdiv 2))) := Lib.hid (by
        rcases he with h | h
        · rcases G3.out with g | g
          · exact .inl ⟨h, g⟩
          · exact absurd g (by omega)
        · exact .inr ⟨h, G4.out h⟩)
      clear G3 G4 he
      obtain ⟨v, hv⟩ : ∃ v, v = wd / 2 := ⟨_, rfl⟩
      rw [← hv] at hd
      rw [hd] at G5
      have wv : wrap64 v = v := IntWalk.wrap64_in _ (by omega)
      have hv' := Lib.hid hv
      clear hv
      rcases ye with rfl | rfl
      case inr =>
        have G1' := Lib.hid (G1.out rfl)
        clear G1
        go_wp2_with fail
        refine Calls.mono (S.out _ (HT.out.below HB.out)) ?_
        rintro e wn1 ⟨rfl, hb⟩
        have HB1 := HB.out.trans (hb.mono HB.out.size)
        clear hb
        have Hkl1 := Lib.hid HB1.size; replace HB := Lib.hid (HB1.alloc HB1.size (.cells #[.int .i64 (r1), .int .i64 (r2)] 24))
        clear HB1
        have s1 := Lib.hid (SpBox.new wn1 (r1) (r2))
        obtain ⟨k1, hk1⟩ : ∃ x, x = wn1.heap.size := ⟨_, rfl⟩
        rw [← hk1] at s1 Hkl1
        go_upto_region 5 with fail
        rw [← hk1]
        obtain ⟨X1, hX1⟩ : ∃ X, X = wn1.alloc (.cells #[.int .i64 (r1), .int .i64 (r2)] 24) := ⟨_, rfl⟩
        rw [← hX1] at s1 HB ⊢
        clear hk1 hX1
        go_wp2_with fail
        go_ret2
        exact ⟨0, 11, rfl, G1'.out, HB.out⟩
      case inl =>
        go_wp2_with fail
        refine Calls.mono (S.out _ (HT.out.below HB.out)) ?_
        rintro e wn1 ⟨rfl, hb⟩
        have HB1 := HB.out.trans (hb.mono HB.out.size)
        clear hb
        have Hkl1 := Lib.hid HB1.size; replace HB := Lib.hid (HB1.alloc HB1.size (.cells #[.int .i64 (r1), .int .i64 (r2)] 24))
        clear HB1
        have s1 := Lib.hid (SpBox.new wn1 (r1) (r2))
        obtain ⟨k1, hk1⟩ : ∃ x, x = wn1.heap.size := ⟨_, rfl⟩
        rw [← hk1] at s1 Hkl1
        go_upto_region 5 with fail
        rw [← hk1]
        obtain ⟨X1, hX1⟩ : ∃ X, X = wn1.alloc (.cells #[.int .i64 (r1), .int .i64 (r2)] 24) := ⟨_, rfl⟩
        rw [← hX1] at s1 HB ⊢
        clear hk1 hX1
        rcases pe with rfl | rfl
        case inr =>
          have G2' := Lib.hid (G2.out rfl)
          clear G2
          go_wp2_with fail
          refine Calls.mono (P.out _ (HT.out.below HB.out)) ?_
          rintro e wn2 ⟨rfl, hb⟩
          replace s1 := Lib.hid ((s1.out.below hb).alloc (.cells #[.int .i64 (p1), .int .i64 (p2)] 24))
          have HB2 := HB.out.trans (hb.mono HB.out.size)
          clear hb
          have Hkl2 := Lib.hid HB2.size; replace HB := Lib.hid (HB2.alloc HB2.size (.cells #[.int .i64 (p1), .int .i64 (p2)] 24))
          clear HB2
          have s2 := Lib.hid (SpBox.new wn2 (p1) (p2))
          obtain ⟨k2, hk2⟩ : ∃ x, x = wn2.heap.size := ⟨_, rfl⟩
          rw [← hk2] at s2 Hkl2
          go_upto_region 8 with fail
          rw [← hk2]
          obtain ⟨X2, hX2⟩ : ∃ X, X = wn2.alloc (.cells #[.int .i64 (p1), .int .i64 (p2)] 24) := ⟨_, rfl⟩
          rw [← hX2] at s1 s2 HB ⊢
          clear hk2 hX2
          go_wp2_with fail
          go_ret2
          exact ⟨0, 11, rfl, G2'.out, HB.out⟩
        case inl =>
          go_wp2_with fail
          refine Calls.mono (P.out _ (HT.out.below HB.out)) ?_
          rintro e wn2 ⟨rfl, hb⟩
          replace s1 := Lib.hid ((s1.out.below hb).alloc (.cells #[.int .i64 (p1), .int .i64 (p2)] 24))
          have HB2 := HB.out.trans (hb.mono HB.out.size)
          clear hb
          have Hkl2 := Lib.hid HB2.size; replace HB := Lib.hid (HB2.alloc HB2.size (.cells #[.int .i64 (p1), .int .i64 (p2)] 24))
          clear HB2
          have s2 := Lib.hid (SpBox.new wn2 (p1) (p2))
          obtain ⟨k2, hk2⟩ : ∃ x, x = wn2.heap.size := ⟨_, rfl⟩
          rw [← hk2] at s2 Hkl2
          go_upto_region 8 with fail
          rw [← hk2]
          obtain ⟨X2, hX2⟩ : ∃ X, X = wn2.alloc (.cells #[.int .i64 (p1), .int .i64 (p2)] 24) := ⟨_, rfl⟩
          rw [← hX2] at s1 s2 HB ⊢
          clear hk2 hX2
          have sc1_0 := s1.out.c0; have sc1_1 := s1.out.c1; have sc1_l := s1.out.lt
          have sc2_0 := s2.out.c0; have sc2_1 := s2.out.c1; have sc2_l := s2.out.lt
          rcases G5.out with ⟨rfl, g⟩ | ⟨rfl, g⟩
          · have g' := Lib.hid g
            clear g G5 G1 G2
            go_wp2_with fail
            refine Calls.mono (E.out _) ?_
            rintro e wc1 ⟨rfl, hb⟩
            replace s1 := Lib.hid (s1.out.below hb)
            replace s2 := Lib.hid (s2.out.below hb)
            replace HB := Lib.hid (HB.out.trans (hb.mono HB.out.size))
            clear sc1_0 sc1_1 sc1_l sc2_0 sc2_1 sc2_l
            clear hb
            go_wp2_with fail
            go_ret2
            exact ⟨e1, 0, rfl, g'.out, HB.out⟩
          · have g' := Lib.hid g
            clear g G5 G1 G2
            go_wp2_with fail
            refine Calls.mono (E.out _) ?_
            rintro e wc1 ⟨rfl, hb⟩
            replace s1 := Lib.hid (s1.out.below hb)
            replace s2 := Lib.hid (s2.out.below hb)
            replace HB := Lib.hid (HB.out.trans (hb.mono HB.out.size))
            clear sc1_0 sc1_1 sc1_l sc2_0 sc2_1 sc2_l
            clear hb
            go_wp2_with fail
            go_roundw
            case rel => exact ⟨v, g', by go_num, HB⟩
            case measure => have := hv'.out; simp [intOf]; omega
end Go.Proofs.YtlldmhnkaopjhaaDoor
