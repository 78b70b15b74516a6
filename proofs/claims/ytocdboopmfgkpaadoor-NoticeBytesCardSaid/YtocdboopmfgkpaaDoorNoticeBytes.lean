/- NoticeBytes, the walk: a notice of which a byte of the text was changed is not right. -/
import Derived.Test.YtocdboopmfgkpaaDoorNoticeNumbers
namespace Go.Proofs.YtocdboopmfgkpaaDoor
open Go.RowKit
set_option linter.unusedSimpArgs false
set_option linter.unusedVariables false

/-- The text with byte k turned to d. -/
def setL (l : List UInt8) (k : Nat) (d : UInt8) : List UInt8 := l.take k ++ d :: l.drop (k + 1)
def setB (s : ByteArray) (k : Nat) (d : UInt8) : ByteArray := ⟨(setL s.data.toList k d).toArray⟩
theorem size_list (s : ByteArray) : s.data.toList.length = s.size := by simp
theorem setL_len (l : List UInt8) (k : Nat) (d : UInt8) (h : k < l.length) : (setL l k d).length = l.length := by
  unfold setL; rw [List.length_append, List.length_cons, List.length_take, List.length_drop]; omega
theorem setB_size (s : ByteArray) (k : Nat) (d : UInt8) (h : k < s.size) : (setB s k d).size = s.size := by
  have := setL_len s.data.toList k d (by rw [size_list]; exact h)
  rw [size_list] at this
  rw [← this]; rfl
theorem setB_list (s : ByteArray) (k : Nat) (d : UInt8) : (setB s k d).data.toList = setL s.data.toList k d := by unfold setB; rfl
theorem setL_at (s : ByteArray) (k : Nat) (d : UInt8) (h : k < s.size) (j : Nat) (hj : j < (setL s.data.toList k d).length) : (if j = k then (d.toNat : Int) else byteAt s j) = ((setL s.data.toList k d)[j].toNat : Int) := by
  have hl := size_list s
  have hj2 : j < s.data.toList.length := by rw [setL_len _ _ _ (by omega)] at hj; exact hj
  have e := List.getElem?_eq_getElem hj
  have e2 : (setL s.data.toList k d)[j]? = some (if j = k then d else s.data.toList[j]) := by
    unfold setL
    by_cases h1 : j < k
    · rw [List.getElem?_append_left (by rw [List.length_take]; omega), List.getElem?_take, if_pos h1, if_neg (by omega), List.getElem?_eq_getElem hj2]
    · rw [List.getElem?_append_right (by rw [List.length_take]; omega), List.length_take, Nat.min_eq_left (by omega)]
      by_cases h2 : j = k
      · subst h2; simp
      · rw [if_neg h2, show j - k = (j - k - 1) + 1 by omega, List.getElem?_cons_succ, List.getElem?_drop, show k + 1 + (j - k - 1) = j by omega, List.getElem?_eq_getElem hj2]
  rw [e2] at e
  rw [← Option.some.inj e]
  unfold byteAt
  split
  · rfl
  · rw [List.getD_eq_getElem?_getD, List.getElem?_eq_getElem hj2, Option.getD_some]
theorem setL_ok {a n m : Int} {s : ByteArray} (h : NtOk a n s m) (k : Nat) (d : UInt8) (hk : k < s.size) (d0 : 32 ≤ d.toNat) (d1 : d.toNat ≤ 126) : NtOk a n (setB s k d) m :=
  ⟨h.a0, h.a1, h.n0, h.n1, h.m0, h.m1, by rw [setB_size s k d hk]; exact h.s0, fun b hb => by
    rw [setB_list] at hb
    unfold setL at hb
    rcases List.mem_append.1 hb with hb | hb
    · exact h.st b (List.mem_of_mem_take hb)
    · rcases List.mem_cons.1 hb with rfl | hb
      · exact ⟨d0, d1⟩
      · exact h.st b (List.mem_of_mem_drop hb)⟩
theorem setL_sum (key a n : Int) (s : ByteArray) (k : Nat) (d : UInt8) (h : k < s.size) (k0 : 0 ≤ key) (k1 : key < 2147483647) (hne : byteAt s k ≠ (d.toNat : Int)) : sumAll key (ntL a n s) ≠ sumAll key (ntL a n (setB s k d)) := by
  have hl := size_list s
  have hk : k < s.data.toList.length := by omega
  have e1 : s.data.toList = s.data.toList.take k ++ s.data.toList[k] :: s.data.toList.drop (k + 1) := by
    rw [← List.drop_eq_getElem_cons hk, List.take_append_drop]
  have e2 : ntL a n s = (Lib.itoa a ++ [32] ++ Lib.itoa n ++ [32] ++ s.data.toList.take k) ++ s.data.toList[k] :: s.data.toList.drop (k + 1) := by
    unfold ntL
    rw [List.append_assoc _ (s.data.toList.take k), ← e1]
  have e3 : ntL a n (setB s k d) = (Lib.itoa a ++ [32] ++ Lib.itoa n ++ [32] ++ s.data.toList.take k) ++ d :: s.data.toList.drop (k + 1) := by
    unfold ntL
    rw [setB_list, List.append_assoc _ (s.data.toList.take k)]; rfl
  rw [e2, e3]
  refine sumAll_other key _ _ _ _ k0 k1 (fun e => hne ?_)
  unfold byteAt
  rw [List.getD_eq_getElem?_getD, List.getElem?_eq_getElem hk, Option.getD_some, e]

set_option maxRecDepth 100000 in
set_option maxHeartbeats 40000000 in
theorem noticeBytes_walk (key0 a00 n00 : Int) (s0 : ByteArray) (m00 kk0 c0 : Int) (w : World) (ht : Tab w) (_ : (Lit.int .i64 key0).wf = true) (hs : s0.size ≤ 9223372036854775807) (_ : (Lit.int .i64 kk0).wf = true) (hc : (Lit.int .u8 c0).wf = true) :
    Calls Tryd.prog 3 #[.int .i64 key0, .agg #[.int .i64 a00, .int .i64 n00, .string s0, .int .i64 m00], .int .i64 kk0, .int .u8 c0] w fun e w' => e = .returned (.bool true) ∧ Below w.heap.size w w' := by
  have HT := Lib.hid ht
  have hc0 : 0 ≤ c0 ∧ c0 < 256 := by
    have h1 : (decide (IntKind.u8.min ≤ c0) && decide (c0 ≤ IntKind.u8.max)) = true := hc
    rw [show IntKind.u8.min = 0 from rfl, show IntKind.u8.max = 255 from rfl] at h1
    simp at h1
    omega
  obtain ⟨c0a, c0b⟩ := hc0
  clear hc
  obtain ⟨k, hk⟩ : ∃ x, x = key0 % 1000000000 := ⟨_, rfl⟩
  obtain ⟨a, ha⟩ : ∃ x, x = a00 % 8 := ⟨_, rfl⟩
  obtain ⟨n, hn⟩ : ∃ x, x = n00 % 2147483647 := ⟨_, rfl⟩
  obtain ⟨s, hs1⟩ : ∃ x, x = plainB s0 := ⟨_, rfl⟩
  have k0 : 0 ≤ k := by omega
  have k1 : k < 1000000000 := by omega
  have a0 : 0 ≤ a := by omega
  have a1 : a < 8 := by omega
  have n0 : 0 ≤ n := by omega
  have n1 : n < 2147483647 := by omega
  have HK := Lib.hid (show NtOk a (1 + n) s 0 by rw [hs1]; exact plain_nt s0 a (1 + n) (by omega) (by omega) (by omega) (by omega))
  have p1 : IntKind.i64.wrap (1 + k) = 1 + k := IntWalk.i64_in _ (by omega)
  have p2 : IntKind.i64.wrap (1 + n) = 1 + n := IntWalk.i64_in _ (by omega)
  have Hk := Lib.hid hk; have Ha := Lib.hid ha; have Hn := Lib.hid hn; have Hs := Lib.hid hs1
  have hp : ∀ W, Calls Tryd.prog 10 #[.string s0] W fun e w' => e = .returned (.string s) ∧ Below W.heap.size W w' := fun W => by rw [hs1]; exact plain_ok s0 W hs
  have HP := Lib.hid hp
  clear ht hk ha hn hs1 hp
  go_enter Tryd.func3, Tryd.ntmps3
  go_wp2_with fail
  refine Calls.mono (noticeWorks_ok _ (HT.out.below ((Below.refl w.heap.size w).alloc (Nat.le_refl _) _))) ?_
  rintro e w1 ⟨rfl, hb⟩
  have N0 := (NtBox.new w a00 n00 s0 m00).below hb
  have b0 := (Below.refl w.heap.size w).alloc (Nat.le_refl _) (.cells #[.int .i64 a00, .int .i64 n00, .string s0, .int .i64 m00] 23)
  have hb1 := b0.trans (hb.mono b0.size)
  clear hb b0
  obtain ⟨b, hbn⟩ : ∃ b, b = w.heap.size := ⟨_, rfl⟩
  rw [← hbn] at N0 ⊢
  have HB := Lib.hid hbn
  clear hbn
  have HN0 := Lib.hid N0; have Hb1 := Lib.hid hb1
  clear N0 hb1
  go_upto_region 3 with fail
  go_cut [0] (fun v0 wx => v0 = .int .i64 (1 + k) ∧ NtBox wx b a (1 + n) s 0 ∧ Below w.heap.size w wx)
  case first =>
    have N0d : NtBox w1.drew b a00 n00 s0 m00 := HN0.out
    have hb1d : Below w.heap.size w w1.drew := Hb1.out.drew
    have hF : NtBox w1.drew b a00 n00 s0 m00 ∧ Below w.heap.size w w1.drew := ⟨N0d, hb1d⟩
    clear N0d hb1d
    refine wp_region_F (fun w' => NtBox w' b a00 n00 s0 m00 ∧ Below w.heap.size w w') 15 (by kernel_rfl) ?_
    refine wpF_take (oi := ?oi1) (v := ?vv1) 0 ?hi1 ?hc1 ?hQ1 hF ?hw1 ?hy1 ?hh1
    case hi1 => (simp only [List.getElem?_toArray, List.getElem?_cons_succ, List.getElem?_cons_zero]; rfl)
    case hc1 => kernel_rfl
    case hQ1 => exact fun _ _ _ h => h
    case hw1 => rfl
    case hy1 => (intro wz hz; skip; go_simp; try (with_reducible rfl))
    try simp only [Act.put, List.setIfInBounds_toArray, List.set_cons_zero, List.set_cons_succ]
    refine wpF_take (oi := ?oi2) (v := ?vv2) 3 ?hi2 ?hc2 ?hQ2 hF ?hw2 ?hy2 ?hh2
    case hi2 => (simp only [List.getElem?_toArray, List.getElem?_cons_succ, List.getElem?_cons_zero]; rfl)
    case hc2 => kernel_rfl
    case hQ2 => exact fun _ _ _ h => h
    case hw2 => rfl
    case hy2 => (intro wz hz; skip; go_simp; try (with_reducible rfl))
    try simp only [Act.put, List.setIfInBounds_toArray, List.set_cons_zero, List.set_cons_succ]
    refine wpF_take (oi := ?oi3) (v := ?vv3) 4 ?hi3 ?hc3 ?hQ3 hF ?hw3 ?hy3 ?hh3
    case hi3 => (simp only [List.getElem?_toArray, List.getElem?_cons_succ, List.getElem?_cons_zero]; rfl)
    case hc3 => kernel_rfl
    case hQ3 => exact fun _ _ _ h => h
    case hw3 => rfl
    case hy3 => (intro wz hz; have zc := hz.1.c0; go_simp; try (with_reducible rfl))
    try simp only [Act.put, List.setIfInBounds_toArray, List.set_cons_zero, List.set_cons_succ]
    refine wpF_take (oi := ?oi4) (v := ?vv4) 6 ?hi4 ?hc4 ?hQ4 hF ?hw4 ?hy4 ?hh4
    case hi4 => (simp only [List.getElem?_toArray, List.getElem?_cons_succ, List.getElem?_cons_zero]; rfl)
    case hc4 => kernel_rfl
    case hQ4 => exact fun _ _ _ h => h
    case hw4 => rfl
    case hy4 => (intro wz hz; skip; go_simp; try (with_reducible rfl))
    try simp only [Act.put, List.setIfInBounds_toArray, List.set_cons_zero, List.set_cons_succ]
    refine wpF_take (oi := ?oi5) (v := ?vv5) 7 ?hi5 ?hc5 ?hQ5 hF ?hw5 ?hy5 ?hh5
    case hi5 => (simp only [List.getElem?_toArray, List.getElem?_cons_succ, List.getElem?_cons_zero]; rfl)
    case hc5 => kernel_rfl
    case hQ5 => exact fun _ _ _ h => h
    case hw5 => rfl
    case hy5 => (intro wz hz; have zc := hz.1.c1; go_simp; try (with_reducible rfl))
    try simp only [Act.put, List.setIfInBounds_toArray, List.set_cons_zero, List.set_cons_succ]
    refine wpF_take (oi := ?oi6) (v := ?vv6) 10 ?hi6 ?hc6 ?hQ6 hF ?hw6 ?hy6 ?hh6
    case hi6 => (simp only [List.getElem?_toArray, List.getElem?_cons_succ, List.getElem?_cons_zero]; rfl)
    case hc6 => kernel_rfl
    case hQ6 => exact fun _ _ _ h => h
    case hw6 => rfl
    case hy6 => (intro wz hz; skip; go_simp; try (with_reducible rfl))
    try simp only [Act.put, List.setIfInBounds_toArray, List.set_cons_zero, List.set_cons_succ]
    refine wpF_take (oi := ?oi7) (v := ?vv7) 11 ?hi7 ?hc7 ?hQ7 hF ?hw7 ?hy7 ?hh7
    case hi7 => (simp only [List.getElem?_toArray, List.getElem?_cons_succ, List.getElem?_cons_zero]; rfl)
    case hc7 => kernel_rfl
    case hQ7 => exact fun _ _ _ h => h
    case hw7 => rfl
    case hy7 => (intro wz hz; have zc := hz.1.c2; go_simp; try (with_reducible rfl))
    try simp only [Act.put, List.setIfInBounds_toArray, List.set_cons_zero, List.set_cons_succ]
    refine wpF_step (oi := ?oi8) 1 ?hi8 ?hr8 (fun K hK => ?hh8)
    case hi8 => (simp only [List.getElem?_toArray, List.getElem?_cons_succ, List.getElem?_cons_zero]; rfl)
    case hr8 => kernel_rfl
    go_simp
    refine Calls.mono (at_as key0 _ k _ Hk (by omega) (by omega)) ?_
    rintro e _ ⟨rfl, rfl⟩
    refine hK.out _ _ (fun _ => hF) (fun _ => ?_)
    clear hK K
    try simp only [Act.put, List.setIfInBounds_toArray, List.set_cons_zero, List.set_cons_succ]
    refine wpF_take (oi := ?oi9) (v := ?vv9) 2 ?hi9 ?hc9 ?hQ9 hF ?hw9 ?hy9 ?hh9
    case hi9 => (simp only [List.getElem?_toArray, List.getElem?_cons_succ, List.getElem?_cons_zero]; rfl)
    case hc9 => kernel_rfl
    case hQ9 => exact fun _ _ _ h => h
    case hw9 => rfl
    case hy9 => (intro wz hz; skip; go_simp; try (with_reducible rfl))
    try simp only [Act.put, List.setIfInBounds_toArray, List.set_cons_zero, List.set_cons_succ]
    refine wpF_step (oi := ?oi10) 5 ?hi10 ?hr10 (fun K hK => ?hh10)
    case hi10 => (simp only [List.getElem?_toArray, List.getElem?_cons_succ, List.getElem?_cons_zero]; rfl)
    case hr10 => kernel_rfl
    go_simp
    refine Calls.mono (at_as a00 _ a _ Ha (by omega) (by omega)) ?_
    rintro e _ ⟨rfl, rfl⟩
    refine hK.out _ _ (fun _ => hF) (fun _ => ?_)
    clear hK K
    try simp only [Act.put, List.setIfInBounds_toArray, List.set_cons_zero, List.set_cons_succ]
    refine wpF_step (oi := ?oi11) 8 ?hi11 ?hr11 (fun K hK => ?hh11)
    case hi11 => (simp only [List.getElem?_toArray, List.getElem?_cons_succ, List.getElem?_cons_zero]; rfl)
    case hr11 => kernel_rfl
    go_simp
    refine Calls.mono (at_as n00 _ n _ Hn (by omega) (by omega)) ?_
    rintro e _ ⟨rfl, rfl⟩
    refine hK.out _ _ (fun _ => hF) (fun _ => ?_)
    clear hK K
    try simp only [Act.put, List.setIfInBounds_toArray, List.set_cons_zero, List.set_cons_succ]
    refine wpF_take (oi := ?oi12) (v := ?vv12) 9 ?hi12 ?hc12 ?hQ12 hF ?hw12 ?hy12 ?hh12
    case hi12 => (simp only [List.getElem?_toArray, List.getElem?_cons_succ, List.getElem?_cons_zero]; rfl)
    case hc12 => kernel_rfl
    case hQ12 => exact fun _ _ _ h => h
    case hw12 => rfl
    case hy12 => (intro wz hz; skip; go_simp; try (with_reducible rfl))
    try simp only [Act.put, List.setIfInBounds_toArray, List.set_cons_zero, List.set_cons_succ]
    refine wpF_step (oi := ?oi13) 12 ?hi13 ?hr13 (fun K hK => ?hh13)
    case hi13 => (simp only [List.getElem?_toArray, List.getElem?_cons_succ, List.getElem?_cons_zero]; rfl)
    case hr13 => kernel_rfl
    go_simp
    refine Calls.mono (HP.out _) ?_
    rintro e w2 ⟨rfl, hb⟩
    have hF := And.intro (hF.1.below hb) (hF.2.trans (hb.mono hF.2.size))
    clear hb
    refine hK.out _ _ (fun _ => hF) (fun _ => ?_)
    clear hK K
    try simp only [Act.put, List.setIfInBounds_toArray, List.set_cons_zero, List.set_cons_succ]
    refine wpF_take (oi := ?oi14) (v := ?vv14) 13 ?hi14 ?hc14 ?hQ14 hF ?hw14 ?hy14 ?hh14
    case hi14 => (simp only [List.getElem?_toArray, List.getElem?_cons_succ, List.getElem?_cons_zero]; rfl)
    case hc14 => kernel_rfl
    case hQ14 => exact fun _ _ _ h => h
    case hw14 => rfl
    case hy14 => (intro wz hz; skip; go_simp; try (with_reducible rfl))
    try simp only [Act.put, List.setIfInBounds_toArray, List.set_cons_zero, List.set_cons_succ]
    refine wpF_take (oi := ?oi15) (v := ?vv15) 14 ?hi15 ?hc15 ?hQ15 hF ?hw15 ?hy15 ?hh15
    case hi15 => (simp only [List.getElem?_toArray, List.getElem?_cons_succ, List.getElem?_cons_zero]; rfl)
    case hc15 => kernel_rfl
    case hQ15 => exact fun _ _ _ h => h
    case hw15 => rfl
    case hy15 => (intro wz hz; skip; go_simp; try (with_reducible rfl))
    try simp only [Act.put, List.setIfInBounds_toArray, List.set_cons_zero, List.set_cons_succ]
    have N2 := hF.1
    have x0 := N2.c0; have x1 := N2.c1; have x2 := N2.c2; have x3 := N2.c3; have xf0 := N2.free 0; have xf1 := N2.free 1; have xf2 := N2.free 2; have xf3 := N2.free 3; have xl := N2.lt
    refine wpF_step (oi := ?oi16) 15 ?hi16 ?hr16 (fun K hK => ?hh16)
    case hi16 => (simp only [List.getElem?_toArray, List.getElem?_cons_succ, List.getElem?_cons_zero]; rfl)
    case hr16 => kernel_rfl
    go_simp
    refine hK.out _ _ (fun h => absurd h (by simp)) (fun _ => ?_)
    clear hK K
    try simp only [Act.put, List.setIfInBounds_toArray, List.set_cons_zero, List.set_cons_succ]
    refine wpF_done (by kernel_rfl) ?_ _
    have hbw := hF.2
    clear hF
    go_wp2_with fail
    go_meet
    have q := HB.out
    exact ⟨rfl, N2.set a (1 + n) s 0, by rw [q] at *; go_grown⟩
  case rest =>
    obtain ⟨rfl, N1, hbw⟩ := hcut
    obtain ⟨M, hM⟩ : ∃ x, x = sumAll (1 + k) (ntL a (1 + n) s) := ⟨_, rfl⟩
    have hr := sumAll_range (1 + k) (ntL a (1 + n) s)
    rw [← hM] at hr
    obtain ⟨M0, M1⟩ := hr
    have HMM := Lib.hid hM
    have hbs := hbw.size
    have HTc := Lib.hid (HT.out.below hbw)
    have x0 := N1.c0; have x1 := N1.c1; have x2 := N1.c2; have x3 := N1.c3; have xf0 := N1.free 0; have xf1 := N1.free 1; have xf2 := N1.free 2; have xf3 := N1.free 3; have xl := N1.lt
    clear hM
    go_wp2_with fail
    refine Calls.mono (sign_ok (1 + k) a (1 + n) s 0 _ HTc.out HK.out (by omega) (by omega)) ?_
    rintro e w3 ⟨rfl, hb⟩
    rw [← HMM.out]
    have hb3 := hbw.trans (hb.mono hbs)
    have hlo0 : w.heap.size ≤ w3.heap.size := hb3.size
    have P0 := NtBox.new w3 a (1 + n) s M
    have hb4 := hb3.alloc hb3.size (.cells #[.int .i64 a, .int .i64 (1 + n), .string s, .int .i64 M] 23)
    have HT4 := Lib.hid (HT.out.below hb4)
    have HK4 := Lib.hid (HK.out.sum M0 M1)
    clear x0 xf0 x1 xf1 x2 xf2 x3 xf3 xl
    clear hb hbw N1 hb3
    have x0 := P0.c0; have x1 := P0.c1; have x2 := P0.c2; have x3 := P0.c3; have xf0 := P0.free 0; have xf1 := P0.free 1; have xf2 := P0.free 2; have xf3 := P0.free 3; have xl := P0.lt
    go_wp2_with fail
    refine Calls.mono (right_ok (1 + k) a (1 + n) s M _ HT4.out HK4.out (by omega) (by omega)) ?_
    rintro e w6 ⟨rfl, hb⟩
    rw [← HMM.out]
    have e1 : (M == M) = true := by simp
    rw [e1]
    have P6 := P0.below hb
    have hb6 := hb4.trans (hb.mono hb4.size)
    obtain ⟨b3, hb3⟩ : ∃ b, b = w3.heap.size := ⟨_, rfl⟩
    rw [← hb3] at P6 ⊢
    have hlo : w.heap.size ≤ b3 := by rw [hb3]; exact hlo0
    have hs6 := hb6.size
    clear x0 xf0 x1 xf1 x2 xf2 x3 xf3 xl
    clear hb hb4 P0 hb3 e1
    have x0 := P6.c0; have x1 := P6.c1; have x2 := P6.c2; have x3 := P6.c3; have xf0 := P6.free 0; have xf1 := P6.free 1; have xf2 := P6.free 2; have xf3 := P6.free 3; have xl := P6.lt
    by_cases hz : s.size = 0
    · have z1 : s = ⟨#[]⟩ := by
        have : s.data.toList.length = 0 := by rw [size_list]; exact hz
        have h2 : s.data.toList = [] := List.length_eq_zero_iff.1 this
        cases s; simp at h2; rw [h2]
      go_wp2_with fail
      go_ret
      exact ⟨rfl, hb6⟩
    · have hz2 : ¬ s.size = 0 := hz
      have hz3 : ((s.size : Int) == 0) = false := by rw [beq_eq_false_iff_ne]; omega
      obtain ⟨cap, hcap⟩ : ∃ c, c = grownCap w6 s.size 0 5 := ⟨_, rfl⟩
      have hge : s.size ≤ cap := by rw [hcap]; exact grownCap_ge _ _ _ _
      have cv1 := Lib.run_convert_string_bytes (P := Tryd.prog) w6 9 32 5 s Tryd.underlying9 Tryd.underlying32 Tryd.underlying5
      rw [← hcap] at cv1
      obtain ⟨W, hW⟩ : ∃ W, W = Lib.bytesWorld w6 5 s := ⟨_, rfl⟩
      rw [← hW] at cv1
      have hrow : BRow W w6.heap.size s.size (byteAt s) := by rw [hW]; exact BRow.made w6 s _
      have hbW : Below w6.heap.size w6 W := by rw [hW]; exact Lib.bytesWorld_below w6 _ s
      obtain ⟨b7, hb7⟩ : ∃ b, b = w6.heap.size := ⟨_, rfl⟩
      rw [← hb7] at hrow cv1
      have hlo7 : w.heap.size ≤ b7 := by rw [hb7]; exact hs6
      have hne7 : b3 ≠ b7 := by have := P6.lt; omega
      have P7 := P6.below hbW
      have hbw7 := hb6.trans (hbW.mono hs6)
      obtain ⟨j, hj⟩ : ∃ j : Nat, (j : Int) = kk0 % (s.size : Int) := ⟨(kk0 % (s.size : Int)).toNat, by have := Int.emod_nonneg kk0 (show (s.size : Int) ≠ 0 by omega); omega⟩
      have hjs : j < s.size := by have := Int.emod_lt_of_pos kk0 (show 0 < (s.size : Int) by omega); omega
      have HJ := Lib.hid hj
      have s200 : s.size ≤ 200 := HK.out.s0
      clear hj hcap hW hbW hb7
      obtain ⟨d, hd⟩ : ∃ d : UInt8, (d.toNat : Int) = 32 + c0 % 95 := ⟨UInt8.ofNat (32 + c0 % 95).toNat, by rw [UInt8.toNat_ofNat_of_lt' (by show _ < 256; omega)]; omega⟩
      have hd0 : 32 ≤ d.toNat := by omega
      have hd1 : d.toNat ≤ 126 := by omega
      obtain ⟨y, hy⟩ : ∃ y, y = byteAt s j := ⟨_, rfl⟩
      have yr := byteAt_range s j
      rw [← hy] at yr
      obtain ⟨y0, y1⟩ := yr
      have g0 := hrow.cell j hjs
      have g1 := hrow.free j hjs
      rw [← hy] at g0
      have HROW := Lib.hid hrow; have HD := Lib.hid hd; have HY := Lib.hid hy; have HP7 := Lib.hid P7; have Hbw7 := Lib.hid hbw7
      clear hrow hd hy P7 hbw7
      go_wp2_with fail
      refine Calls.mono (at_any _ _ _ (by omega) (by omega)) ?_
      rintro e _ ⟨rfl, rfl⟩
      rw [← HJ.out]
      have i0 : (0 : Int) ≤ (j : Int) := by omega
      have i1 : (j : Int) < (s.size : Int) := by omega
      have r0 : (0 : Int) ≤ c0 % 95 := by omega
      have r1 : c0 % 95 < 95 := by omega
      by_cases he : y = 32 + c0 % 95
      · have he2 : (y == 32 + c0 % 95) = true := by rw [beq_iff_eq]; exact he
        have HE := Lib.hid he
        clear he
        have Hb := Lib.hid Hbw7.out
        go_wp2_with fail
        go_ret
        exact ⟨rfl, Hbw7.out⟩
      · have he2 : (y == 32 + c0 % 95) = false := by rw [beq_eq_false_iff_ne]; exact he
        have HE := Lib.hid he
        clear he
        have R2 : BRow (W.setCell ⟨b7, j, none⟩ (.int .u8 (32 + c0 % 95))) b7 s.size (fun i => if i = j then (d.toNat : Int) else byteAt s i) := (HROW.out.set j hjs (32 + c0 % 95)).congr (fun i _ => by rw [HD.out])
        have cv2 := str_run _ b7 s.size cap _ (setL s.data.toList j d) R2 s.size (Nat.le_refl _) (by rw [setL_len _ _ _ (by rw [size_list]; exact hjs), size_list]) (fun i hi => setL_at s j d hjs i hi)
        have P8 := HP7.out.other (p := ⟨b7, j, none⟩) hne7 (.int .u8 (32 + c0 % 95))
        have hb8 := Hbw7.out.setCell (show w.heap.size ≤ (⟨b7, j, none⟩ : Addr).block from hlo7) (.int .u8 (32 + c0 % 95))
        have P9 := P8.set2 (setB s j d)
        have hb9 := hb8.setCell (show w.heap.size ≤ (⟨b3, 2, none⟩ : Addr).block from hlo) (.string (setB s j d))
        have z0 := P8.c0; have z1 := P8.c1; have z2 := P8.c2; have z3 := P8.c3; have zf0 := P8.free 0; have zf1 := P8.free 1; have zf2 := P8.free 2; have zf3 := P8.free 3; have zl := P8.lt
        have HP9 := Lib.hid P9; have Hb9 := Lib.hid hb9
        clear P9 hb9 P8 hb8 R2
        go_wp2_with fail
        have HT9 := Lib.hid (HT.out.below Hb9.out)
        have HK9 := Lib.hid (setL_ok (HK.out.sum M0 M1) j d hjs hd0 hd1)
        refine Calls.mono (right_ok (1 + k) a (1 + n) (setB s j d) M _ HT9.out HK9.out (by omega) (by omega)) ?_
        rintro e w10 ⟨rfl, hb⟩
        have hne := setL_sum (1 + k) a (1 + n) s j d hjs (by omega) (by omega) (by rw [HD.out, ← HY.out]; exact HE.out)
        rw [← HMM.out] at hne
        have e2 : (M == sumAll (1 + k) (ntL a (1 + n) (setB s j d))) = false := by rw [beq_eq_false_iff_ne]; exact hne
        rw [e2]
        have hb10 := Hb9.out.trans (hb.mono Hb9.out.size)
        clear hb hne e2
        go_wp2_with fail
        go_ret
        exact ⟨rfl, hb10⟩

end Go.Proofs.YtocdboopmfgkpaaDoor
