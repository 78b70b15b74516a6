/- NoticeNumbers, the walk: a notice with another sum is not right. -/
import Derived.Test.YtocdboopmfgkpaaDoorNoticeWorks
import Derived.Test.YtocdboopmfgkpaaDoorAt
import Derived.Deep.DeepCutAuto
import Derived.Test.YtocdboopmfgkpaaDoorRegF
namespace Go.Proofs.YtocdboopmfgkpaaDoor
open Go.RowKit
set_option linter.unusedSimpArgs false
set_option linter.unusedVariables false

theorem at_as (k n r : Int) (w : World) (hr : Hid (r = k % n)) (hn : 1 ≤ n) (hn' : n ≤ 4611686018427387904) :
    Calls Tryd.prog 9 #[.int .i64 k, .int .i64 n] w fun e w' => e = .returned (.int .i64 r) ∧ w = w' := by
  rw [hr.out]; exact at_any k n w hn hn'
theorem plain_nt (s0 : ByteArray) (a n : Int) (a0 : 0 ≤ a) (a1 : a < 8) (n0 : 1 ≤ n) (n1 : n ≤ 2147483647) : NtOk a n (plainB s0) 0 := by
  have h := plainL_ok s0.data.toList
  refine ⟨a0, a1, n0, n1, by omega, by omega, ?_, fun b hb => h.2 b (by simpa [plainB] using hb)⟩
  show (plainL s0.data.toList).toArray.size ≤ 200
  simpa using h.1

set_option maxRecDepth 100000 in
set_option maxHeartbeats 40000000 in
theorem noticeNumbers_walk (key0 a00 n00 : Int) (s0 : ByteArray) (m00 more : Int) (w : World) (ht : Tab w) (hs : s0.size ≤ 9223372036854775807) :
    Calls Tryd.prog 4 #[.int .i64 key0, .agg #[.int .i64 a00, .int .i64 n00, .string s0, .int .i64 m00], .int .i64 more] w fun e w' => e = .returned (.bool true) ∧ Below w.heap.size w w' := by
  have HT := Lib.hid ht
  obtain ⟨k, hk⟩ : ∃ x, x = key0 % 1000000000 := ⟨_, rfl⟩
  obtain ⟨a, ha⟩ : ∃ x, x = a00 % 8 := ⟨_, rfl⟩
  obtain ⟨n, hn⟩ : ∃ x, x = n00 % 2147483647 := ⟨_, rfl⟩
  obtain ⟨m, hm⟩ : ∃ x, x = more % 2147483646 := ⟨_, rfl⟩
  obtain ⟨s, hs1⟩ : ∃ x, x = plainB s0 := ⟨_, rfl⟩
  have k0 : 0 ≤ k := by omega
  have k1 : k < 1000000000 := by omega
  have a0 : 0 ≤ a := by omega
  have a1 : a < 8 := by omega
  have n0 : 0 ≤ n := by omega
  have n1 : n < 2147483647 := by omega
  have m0 : 0 ≤ m := by omega
  have m1 : m < 2147483646 := by omega
  have HK := Lib.hid (show NtOk a (1 + n) s 0 by rw [hs1]; exact plain_nt s0 a (1 + n) (by omega) (by omega) (by omega) (by omega))
  have p1 : IntKind.i64.wrap (1 + k) = 1 + k := IntWalk.i64_in _ (by omega)
  have p2 : IntKind.i64.wrap (1 + n) = 1 + n := IntWalk.i64_in _ (by omega)
  have Hk := Lib.hid hk; have Ha := Lib.hid ha; have Hn := Lib.hid hn; have Hm := Lib.hid hm; have Hs := Lib.hid hs1
  have hp : ∀ W, Calls Tryd.prog 10 #[.string s0] W fun e w' => e = .returned (.string s) ∧ Below W.heap.size W w' := fun W => by rw [hs1]; exact plain_ok s0 W hs
  have HP := Lib.hid hp
  clear ht hk ha hn hm hs1 hp
  go_enter Tryd.func4, Tryd.ntmps4
  go_wp2_with fail
  refine Calls.mono (noticeWorks_ok _ (HT.out.below ((Below.refl w.heap.size w).alloc (Nat.le_refl _) _))) ?_
  rintro e w1 ⟨rfl, hb⟩
  have N0 := (NtBox.new w a00 n00 s0 m00).below hb
  have b0 := (Below.refl w.heap.size w).alloc (Nat.le_refl _) (.cells #[.int .i64 a00, .int .i64 n00, .string s0, .int .i64 m00] 23)
  have hb1 := b0.trans (hb.mono b0.size)
  clear hb b0
  obtain ⟨b, hbn⟩ : ∃ b, b = w.heap.size := ⟨_, rfl⟩
  rw [← hbn] at N0 ⊢
  have HB := Lib.hid hbn
  clear hbn
  have HN0 := Lib.hid N0; have Hb1 := Lib.hid hb1
  clear N0 hb1
  go_upto_region 3 with fail
  go_cut [0] (fun v0 wx => v0 = .int .i64 (1 + k) ∧ NtBox wx b a (1 + n) s 0 ∧ Below w.heap.size w wx)
  case first =>
    have N0d : NtBox w1.drew b a00 n00 s0 m00 := HN0.out
    have hb1d : Below w.heap.size w w1.drew := Hb1.out.drew
    have hF : NtBox w1.drew b a00 n00 s0 m00 ∧ Below w.heap.size w w1.drew := ⟨N0d, hb1d⟩
    clear N0d hb1d
    refine wp_region_F (fun w' => NtBox w' b a00 n00 s0 m00 ∧ Below w.heap.size w w') 15 (by kernel_rfl) ?_
    refine wpF_take (oi := ?oi69) (v := ?vv69) 0 ?hi69 ?hc69 ?hQ69 hF ?hw69 ?hy69 ?hh69
    case hi69 => (simp only [List.getElem?_toArray, List.getElem?_cons_succ, List.getElem?_cons_zero]; rfl)
    case hc69 => kernel_rfl
    case hQ69 => exact fun _ _ _ h => h
    case hw69 => rfl
    case hy69 => (intro wz hz; skip; go_simp; try (with_reducible rfl))
    try simp only [Act.put, List.setIfInBounds_toArray, List.set_cons_zero, List.set_cons_succ]
    refine wpF_take (oi := ?oi70) (v := ?vv70) 3 ?hi70 ?hc70 ?hQ70 hF ?hw70 ?hy70 ?hh70
    case hi70 => (simp only [List.getElem?_toArray, List.getElem?_cons_succ, List.getElem?_cons_zero]; rfl)
    case hc70 => kernel_rfl
    case hQ70 => exact fun _ _ _ h => h
    case hw70 => rfl
    case hy70 => (intro wz hz; skip; go_simp; try (with_reducible rfl))
    try simp only [Act.put, List.setIfInBounds_toArray, List.set_cons_zero, List.set_cons_succ]
    refine wpF_take (oi := ?oi71) (v := ?vv71) 4 ?hi71 ?hc71 ?hQ71 hF ?hw71 ?hy71 ?hh71
    case hi71 => (simp only [List.getElem?_toArray, List.getElem?_cons_succ, List.getElem?_cons_zero]; rfl)
    case hc71 => kernel_rfl
    case hQ71 => exact fun _ _ _ h => h
    case hw71 => rfl
    case hy71 => (intro wz hz; have zc := hz.1.c0; go_simp; try (with_reducible rfl))
    try simp only [Act.put, List.setIfInBounds_toArray, List.set_cons_zero, List.set_cons_succ]
    refine wpF_take (oi := ?oi72) (v := ?vv72) 6 ?hi72 ?hc72 ?hQ72 hF ?hw72 ?hy72 ?hh72
    case hi72 => (simp only [List.getElem?_toArray, List.getElem?_cons_succ, List.getElem?_cons_zero]; rfl)
    case hc72 => kernel_rfl
    case hQ72 => exact fun _ _ _ h => h
    case hw72 => rfl
    case hy72 => (intro wz hz; skip; go_simp; try (with_reducible rfl))
    try simp only [Act.put, List.setIfInBounds_toArray, List.set_cons_zero, List.set_cons_succ]
    refine wpF_take (oi := ?oi73) (v := ?vv73) 7 ?hi73 ?hc73 ?hQ73 hF ?hw73 ?hy73 ?hh73
    case hi73 => (simp only [List.getElem?_toArray, List.getElem?_cons_succ, List.getElem?_cons_zero]; rfl)
    case hc73 => kernel_rfl
    case hQ73 => exact fun _ _ _ h => h
    case hw73 => rfl
    case hy73 => (intro wz hz; have zc := hz.1.c1; go_simp; try (with_reducible rfl))
    try simp only [Act.put, List.setIfInBounds_toArray, List.set_cons_zero, List.set_cons_succ]
    refine wpF_take (oi := ?oi74) (v := ?vv74) 10 ?hi74 ?hc74 ?hQ74 hF ?hw74 ?hy74 ?hh74
    case hi74 => (simp only [List.getElem?_toArray, List.getElem?_cons_succ, List.getElem?_cons_zero]; rfl)
    case hc74 => kernel_rfl
    case hQ74 => exact fun _ _ _ h => h
    case hw74 => rfl
    case hy74 => (intro wz hz; skip; go_simp; try (with_reducible rfl))
    try simp only [Act.put, List.setIfInBounds_toArray, List.set_cons_zero, List.set_cons_succ]
    refine wpF_take (oi := ?oi75) (v := ?vv75) 11 ?hi75 ?hc75 ?hQ75 hF ?hw75 ?hy75 ?hh75
    case hi75 => (simp only [List.getElem?_toArray, List.getElem?_cons_succ, List.getElem?_cons_zero]; rfl)
    case hc75 => kernel_rfl
    case hQ75 => exact fun _ _ _ h => h
    case hw75 => rfl
    case hy75 => (intro wz hz; have zc := hz.1.c2; go_simp; try (with_reducible rfl))
    try simp only [Act.put, List.setIfInBounds_toArray, List.set_cons_zero, List.set_cons_succ]
    refine wpF_step (oi := ?oi76) 1 ?hi76 ?hr76 (fun K hK => ?hh76)
    case hi76 => (simp only [List.getElem?_toArray, List.getElem?_cons_succ, List.getElem?_cons_zero]; rfl)
    case hr76 => kernel_rfl
    go_simp
    refine Calls.mono (at_as key0 _ k _ Hk (by omega) (by omega)) ?_
    rintro e _ ⟨rfl, rfl⟩
    refine hK.out _ _ (fun _ => hF) (fun _ => ?_)
    clear hK K
    try simp only [Act.put, List.setIfInBounds_toArray, List.set_cons_zero, List.set_cons_succ]
    refine wpF_take (oi := ?oi77) (v := ?vv77) 2 ?hi77 ?hc77 ?hQ77 hF ?hw77 ?hy77 ?hh77
    case hi77 => (simp only [List.getElem?_toArray, List.getElem?_cons_succ, List.getElem?_cons_zero]; rfl)
    case hc77 => kernel_rfl
    case hQ77 => exact fun _ _ _ h => h
    case hw77 => rfl
    case hy77 => (intro wz hz; skip; go_simp; try (with_reducible rfl))
    try simp only [Act.put, List.setIfInBounds_toArray, List.set_cons_zero, List.set_cons_succ]
    refine wpF_step (oi := ?oi78) 5 ?hi78 ?hr78 (fun K hK => ?hh78)
    case hi78 => (simp only [List.getElem?_toArray, List.getElem?_cons_succ, List.getElem?_cons_zero]; rfl)
    case hr78 => kernel_rfl
    go_simp
    refine Calls.mono (at_as a00 _ a _ Ha (by omega) (by omega)) ?_
    rintro e _ ⟨rfl, rfl⟩
    refine hK.out _ _ (fun _ => hF) (fun _ => ?_)
    clear hK K
    try simp only [Act.put, List.setIfInBounds_toArray, List.set_cons_zero, List.set_cons_succ]
    refine wpF_step (oi := ?oi79) 8 ?hi79 ?hr79 (fun K hK => ?hh79)
    case hi79 => (simp only [List.getElem?_toArray, List.getElem?_cons_succ, List.getElem?_cons_zero]; rfl)
    case hr79 => kernel_rfl
    go_simp
    refine Calls.mono (at_as n00 _ n _ Hn (by omega) (by omega)) ?_
    rintro e _ ⟨rfl, rfl⟩
    refine hK.out _ _ (fun _ => hF) (fun _ => ?_)
    clear hK K
    try simp only [Act.put, List.setIfInBounds_toArray, List.set_cons_zero, List.set_cons_succ]
    refine wpF_take (oi := ?oi80) (v := ?vv80) 9 ?hi80 ?hc80 ?hQ80 hF ?hw80 ?hy80 ?hh80
    case hi80 => (simp only [List.getElem?_toArray, List.getElem?_cons_succ, List.getElem?_cons_zero]; rfl)
    case hc80 => kernel_rfl
    case hQ80 => exact fun _ _ _ h => h
    case hw80 => rfl
    case hy80 => (intro wz hz; skip; go_simp; try (with_reducible rfl))
    try simp only [Act.put, List.setIfInBounds_toArray, List.set_cons_zero, List.set_cons_succ]
    refine wpF_step (oi := ?oi81) 12 ?hi81 ?hr81 (fun K hK => ?hh81)
    case hi81 => (simp only [List.getElem?_toArray, List.getElem?_cons_succ, List.getElem?_cons_zero]; rfl)
    case hr81 => kernel_rfl
    go_simp
    refine Calls.mono (HP.out _) ?_
    rintro e w2 ⟨rfl, hb⟩
    have hF := And.intro (hF.1.below hb) (hF.2.trans (hb.mono hF.2.size))
    clear hb
    refine hK.out _ _ (fun _ => hF) (fun _ => ?_)
    clear hK K
    try simp only [Act.put, List.setIfInBounds_toArray, List.set_cons_zero, List.set_cons_succ]
    refine wpF_take (oi := ?oi82) (v := ?vv82) 13 ?hi82 ?hc82 ?hQ82 hF ?hw82 ?hy82 ?hh82
    case hi82 => (simp only [List.getElem?_toArray, List.getElem?_cons_succ, List.getElem?_cons_zero]; rfl)
    case hc82 => kernel_rfl
    case hQ82 => exact fun _ _ _ h => h
    case hw82 => rfl
    case hy82 => (intro wz hz; skip; go_simp; try (with_reducible rfl))
    try simp only [Act.put, List.setIfInBounds_toArray, List.set_cons_zero, List.set_cons_succ]
    refine wpF_take (oi := ?oi83) (v := ?vv83) 14 ?hi83 ?hc83 ?hQ83 hF ?hw83 ?hy83 ?hh83
    case hi83 => (simp only [List.getElem?_toArray, List.getElem?_cons_succ, List.getElem?_cons_zero]; rfl)
    case hc83 => kernel_rfl
    case hQ83 => exact fun _ _ _ h => h
    case hw83 => rfl
    case hy83 => (intro wz hz; skip; go_simp; try (with_reducible rfl))
    try simp only [Act.put, List.setIfInBounds_toArray, List.set_cons_zero, List.set_cons_succ]
    have N2 := hF.1
    have x0 := N2.c0; have x1 := N2.c1; have x2 := N2.c2; have x3 := N2.c3; have xf0 := N2.free 0; have xf1 := N2.free 1; have xf2 := N2.free 2; have xf3 := N2.free 3; have xl := N2.lt
    refine wpF_step (oi := ?oi84) 15 ?hi84 ?hr84 (fun K hK => ?hh84)
    case hi84 => (simp only [List.getElem?_toArray, List.getElem?_cons_succ, List.getElem?_cons_zero]; rfl)
    case hr84 => kernel_rfl
    go_simp
    refine hK.out _ _ (fun h => absurd h (by simp)) (fun _ => ?_)
    clear hK K
    try simp only [Act.put, List.setIfInBounds_toArray, List.set_cons_zero, List.set_cons_succ]
    refine wpF_done (by kernel_rfl) ?_ _
    have hbw := hF.2
    clear hF
    go_wp2_with fail
    go_meet
    have q := HB.out
    exact ⟨rfl, N2.set a (1 + n) s 0, by rw [q] at *; go_grown⟩
  case rest =>
    obtain ⟨rfl, N1, hbw⟩ := hcut
    obtain ⟨M, hM⟩ : ∃ x, x = sumAll (1 + k) (ntL a (1 + n) s) := ⟨_, rfl⟩
    have hr := sumAll_range (1 + k) (ntL a (1 + n) s)
    rw [← hM] at hr
    obtain ⟨M0, M1⟩ := hr
    obtain ⟨M', hM'⟩ : ∃ x, x = (M + 1 + m) % 2147483647 := ⟨_, rfl⟩
    have ht := sum_turned M m M0 M1 m0 m1
    rw [← hM'] at ht
    obtain ⟨t1, t2, t3⟩ := ht
    have HMM := Lib.hid hM; have HM' := Lib.hid hM'
    have hbs := hbw.size
    have HTc := Lib.hid (HT.out.below hbw)
    have x0 := N1.c0; have x1 := N1.c1; have x2 := N1.c2; have x3 := N1.c3; have xf0 := N1.free 0; have xf1 := N1.free 1; have xf2 := N1.free 2; have xf3 := N1.free 3; have xl := N1.lt
    clear hM hM'
    go_wp2_with fail
    refine Calls.mono (sign_ok (1 + k) a (1 + n) s 0 _ HTc.out HK.out (by omega) (by omega)) ?_
    rintro e w3 ⟨rfl, hb⟩
    rw [← HMM.out]
    have hb3 := hbw.trans (hb.mono hbs)
    have hlo0 : w.heap.size ≤ w3.heap.size := hb3.size
    have P0 := NtBox.new w3 a (1 + n) s M
    have hb4 := hb3.alloc hb3.size (.cells #[.int .i64 a, .int .i64 (1 + n), .string s, .int .i64 M] 23)
    clear x0 xf0 x1 xf1 x2 xf2 x3 xf3 xl
    clear hb hbw N1 hb3
    have x0 := P0.c0; have x1 := P0.c1; have x2 := P0.c2; have x3 := P0.c3; have xf0 := P0.free 0; have xf1 := P0.free 1; have xf2 := P0.free 2; have xf3 := P0.free 3; have xl := P0.lt
    have p3 : IntKind.i64.wrap (M + 1) = M + 1 := IntWalk.i64_in _ (by omega)
    have p4 : IntKind.i64.wrap (M + 1 + m) = M + 1 + m := IntWalk.i64_in _ (by omega)
    have p5 : (M + 1 + m).tmod 2147483647 = M' := by rw [HM'.out, Int.tmod_eq_emod_of_nonneg (by omega)]
    go_wp2_with fail
    obtain ⟨W4, hW4⟩ : ∃ W, W = w3.alloc (.cells #[.int .i64 a, .int .i64 (1 + n), .string s, .int .i64 M] 23) := ⟨_, rfl⟩
    obtain ⟨b3, hb3⟩ : ∃ b, b = w3.heap.size := ⟨_, rfl⟩
    rw [← hW4] at P0 hb4 ⊢
    rw [← hb3] at P0 ⊢
    have hlo : w.heap.size ≤ b3 := by rw [hb3]; exact hlo0
    clear x0 xf0 x1 xf1 x2 xf2 x3 xf3 xl
    clear hW4 hb3
    have HP0 := Lib.hid P0; have Hb4 := Lib.hid hb4
    clear P0 hb4
    go_cut [] (fun wx => NtBox wx b3 a (1 + n) s M' ∧ Below w.heap.size w wx)
    case first =>
      have Q0 : NtBox W4.drew b3 a (1 + n) s M := HP0.out
      have hb4 : Below w.heap.size w W4.drew := Hb4.out.drew
      have x0 := Q0.c0; have x1 := Q0.c1; have x2 := Q0.c2; have x3 := Q0.c3; have xf0 := Q0.free 0; have xf1 := Q0.free 1; have xf2 := Q0.free 2; have xf3 := Q0.free 3; have xl := Q0.lt
      go_region_with (first
        | (go_at_call 9; (with_reducible refine Calls.mono (at_as more _ m _ Hm (by omega) (by omega)) ?_); rintro e _ ⟨rfl, rfl⟩))
      all_goals (go_wp2_with fail; go_meet; exact ⟨Q0.set3 M', hb4.setCell (show w.heap.size ≤ (⟨b3, 3, none⟩ : Addr).block from hlo) _⟩)
    case rest =>
      obtain ⟨N4, hb5⟩ := hcut
      have HT5 := Lib.hid (HT.out.below hb5)
      have HK5 := Lib.hid (HK.out.sum t2 t3)
      have y0 := N4.c0; have y1 := N4.c1; have y2 := N4.c2; have y3 := N4.c3; have yf0 := N4.free 0; have yf1 := N4.free 1; have yf2 := N4.free 2; have yf3 := N4.free 3; have yl := N4.lt
      go_wp2_with fail
      refine Calls.mono (right_ok (1 + k) a (1 + n) s M' _ HT5.out HK5.out (by omega) (by omega)) ?_
      rintro e w6 ⟨rfl, hb⟩
      rw [← HMM.out]
      have e1 : (M' == M) = false := by rw [beq_eq_false_iff_ne]; exact t1
      rw [e1]
      have hb6 := hb5.trans (hb.mono hb5.size)
      clear y0 yf0 y1 yf1 y2 yf2 y3 yf3 yl
      clear hb hb5 N4
      go_wp2_with fail
      go_ret
      exact ⟨rfl, hb6⟩

end Go.Proofs.YtocdboopmfgkpaaDoor
