/- forecast.changes: the changes of a year. -/
import Derived.Test.YtdifeoahaegjbaaDoorZDay
import Derived.Test.YtdifeoahaegjbaaDoorZRow
import Derived.Test.YtdifeoahaegjbaaDoorApps
import Derived.Test.YtdifeoahaegjbaaDoorReg
namespace Go.Proofs.YtdifeoahaegjbaaDoor
open Go.RowKit
set_option linter.unusedSimpArgs false
set_option linter.unusedVariables false

/-- What is in force ahead of rule i. -/
def bef (b : Int) (l : List Rul) : Nat → Int
  | 0 => b
  | i + 1 => (rl l i).off
def MadeC (c : Chg) (r : Rul) (b : Int) : Prop := ∃ d : Int, -4000000 ≤ d ∧ d ≤ 4000000 ∧ c = ⟨d * 86400000 + r.ms - b, r.off, r.lab⟩
/-- The changes that the rules make of a year. -/
def Made (l : List Rul) (b : Int) (cs : List Chg) : Prop := ∀ i, i < cs.length → MadeC (ch cs i) (rl l i) (bef b l i)
theorem Made.nil (l : List Rul) (b : Int) : Made l b [] := fun i hi => absurd hi (by simp)
theorem Made.add {l : List Rul} {b : Int} {cs : List Chg} {c : Chg} (h : Made l b cs) (hc : MadeC c (rl l cs.length) (bef b l cs.length)) : Made l b (cs ++ [c]) := by
  intro i hi
  rw [List.length_append] at hi
  by_cases hl : i < cs.length
  · rw [ch_app_l hl]; exact h i hl
  · have e : i = cs.length + 0 := by simp at hi; omega
    rw [e, ch_app_r]
    exact hc
theorem offOk_bd {n : Int} (h : offOk n = true) : -64800000 ≤ n ∧ n ≤ 64800000 := by
  have := of_decide_eq_true h
  omega
theorem rules_at {l : List Rul} (h : RulesOk l) {i : Nat} (hi : i < l.length) : RulOk (rl l i) := (h.2.2 i hi).1
theorem bef_bd {b : Int} {l : List Rul} (h : RulesOk l) (hb : -64800000 ≤ b ∧ b ≤ 64800000) : ∀ i, i ≤ l.length → -64800000 ≤ bef b l i ∧ bef b l i ≤ 64800000
  | 0, _ => hb
  | i + 1, hi => offOk_bd (rules_at h (by omega)).o
theorem MadeC.rng {c : Chg} {r : Rul} {b : Int} (h : MadeC c r b) (hr : RulOk r) (hl : r.lab.size ≤ 9223372036854775807) (hb : -64800000 ≤ b ∧ b ≤ 64800000) : ChRng c := by
  obtain ⟨d, h1, h2, rfl⟩ := h
  have o := offOk_bd hr.o
  have := hr.s1; have := hr.s2
  exact ⟨⟨by show _ ≤ d * 86400000 + r.ms - b; omega, by show d * 86400000 + r.ms - b ≤ _; omega⟩, ⟨by show _ ≤ r.off; omega, by show r.off ≤ _; omega⟩, hl⟩
theorem labOk_size {s : ByteArray} (h : labOk s = true) : s.size ≤ 6 := by
  unfold labOk at h
  simp at h
  omega
theorem Made.rngs {l : List Rul} {b : Int} {cs : List Chg} (h : Made l b cs) (hr : RulesOk l) (hb : -64800000 ≤ b ∧ b ≤ 64800000) (hl : cs.length ≤ l.length) : ChRngs cs := fun i hi => by
  have h1 := rules_at hr (i := i) (by omega)
  exact (h i hi).rng h1 (by have := labOk_size h1.l; omega) (bef_bd hr hb i (by omega))

theorem Tryd.infoCh : (Tryd.prog.info? 36).map (fun i => (i.zero, i.size, i.bytes)) = some (some (.agg #[.int .i64 0, .int .i64 0, .string ⟨#[]⟩]), 3, 32) := by kernel_rfl

set_option maxRecDepth 100000 in
set_option maxHeartbeats 8000000 in
theorem changes_ok (A : Option Addr) (n cap : Nat) (l : List Rul) (b0 y : Int) (w : World) (h : RlSl w A n cap l) (hok : RulesOk l) (hb0 : -64800000 ≤ b0 ∧ b0 ≤ 64800000) (hy : -10000 ≤ y ∧ y ≤ 10000) :
    Calls Tryd.prog 14 #[.slice A n cap, .int .i64 b0, .int .i64 y] w fun e w' => ∃ v news, e = .returned v ∧ Made l b0 news ∧ news.length = n ∧ w'.ownsRow w.heap.size 36 3 v n (chCs news) ∧ Below w.heap.size w w' := by
  obtain ⟨iC, hC0, hC1, hC2, hC3⟩ := info_parts Tryd.infoCh
  have HL := Lib.hid h.len
  have H := Lib.hid h; have HOK := Lib.hid hok
  have HBE := Lib.hid (bef_bd (b := b0) hok hb0)
  have HDY := Lib.hid (fun r (hr : RulOk r) W => fday_ok r y W hr hy)
  have hm := h.most; have hle := h.le
  have n4 : n ≤ 4 := by have := hok.2.1; rw [h.len] at this; exact this
  unfold maxLen at hm
  clear h hok hb0 hy
  go_enter Tryd.func14, Tryd.ntmps14
  go_wp2_with fail
  go_loopw [1, 7, 12] (fun s1 s7 i' wv => ∃ (i : Nat) (news : List Chg), i ≤ n ∧ i' = .int .i64 i ∧ s1 = .int .i64 (bef b0 l i) ∧ news.length = i ∧ Made l b0 news ∧ wv.ownsRow w.heap.size 36 3 s7 i (chCs news) ∧ Below w.heap.size w wv) (fun _ _ i' _ => n - (intOf i').toNat)
  case atStart => exact ⟨0, [], by omega, rfl, rfl, rfl, Made.nil _ _, World.ownsRow_nil _ _ _ _, Below.refl _ _⟩
  case round =>
    obtain ⟨i, news, hi, rfl, rfl, hln, hmd, hown, hb⟩ := hrel
    have Hb := Lib.hid hb; have HLN := Lib.hid hln; have HMD := Lib.hid hmd; have HO := Lib.hid hown
    clear hb hln hmd hown
    by_cases hin : i < n
    · have i0 : (0 : Int) ≤ (i : Int) := by omega
      have i1 : (i : Int) < (n : Int) := by omega
      have i2 : (i : Int) < (cap : Int) := by omega
      obtain ⟨q, o, hA, hc⟩ := H.out.mem (by omega)
      obtain ⟨c, hcd⟩ : ∃ c, c = rl l i := ⟨_, rfl⟩
      have hx := (hc i hin).stay Hb.out
      have hrok := rules_at HOK.out (i := i) (by rw [HL.out]; exact hin)
      have hoff : bef b0 l (i + 1) = c.off := by rw [hcd]; rfl
      have hbe := HBE.out i (by rw [HL.out]; omega)
      rw [← hcd] at hx hrok
      have HCD := Lib.hid hcd; have HRK := Lib.hid hrok; have HOF := Lib.hid hoff
      obtain ⟨bb, hbb⟩ : ∃ x, x = bef b0 l i := ⟨_, rfl⟩
      rw [← hbb] at hbe ⊢
      have HBB := Lib.hid hbb; have HBD := Lib.hid hbe
      obtain ⟨x0, x1, x2, x3, x4, x5⟩ := hx
      subst hA
      clear hc hcd hrok hoff hbb hbe
      have bw := (Below.refl wr.heap.size wr).alloc (Nat.le_refl _) (.cells #[.int .i64 c.mo, .int .i64 c.we, .int .i64 c.wd, .int .i64 c.ms, .int .i64 c.off, .string c.lab] 27)
      have HP := Lib.hid (RbBox.new wr c)
      have Hb2 := Lib.hid (Hb.out.trans (bw.mono Hb.out.size))
      have HO2 := Lib.hid (own_below HO.out bw)
      have hnb : ∀ q, u7.ownBlock = some q → q < wr.heap.size := fun q hq => (HO.out.lt q hq).2
      go_upto_region 5 with fail
      obtain ⟨kp, hkp⟩ : ∃ b, b = wr.heap.size := ⟨_, rfl⟩
      obtain ⟨U, hU⟩ : ∃ U, U = wr.alloc (.cells #[.int .i64 c.mo, .int .i64 c.we, .int .i64 c.wd, .int .i64 c.ms, .int .i64 c.off, .string c.lab] 27) := ⟨_, rfl⟩
      rw [← hU, ← hkp] at HP ⊢
      rw [← hU] at Hb2 HO2
      rw [← hkp] at hnb
      clear bw hkp hU Hb HO x0 x1 x2 x3 x4 x5
      have HN1 := Lib.hid (show some kp ≠ u7.ownBlock from fun e => by have := hnb _ e.symm; omega)
      have HPR := Lib.hid (fun w' (hb : Below U.heap.size U w') => HP.out.below hb)
      obtain ⟨X, hX⟩ : ∃ X, X = U.drew := ⟨_, rfl⟩
      have bX : Below U.heap.size U X := by rw [hX]; exact (Below.refl _ _).drew
      have HPX := Lib.hid (HP.out.below bX)
      have HbX := Lib.hid (Hb2.out.trans (bX.mono Hb2.out.size))
      have HoX := Lib.hid (own_below HO2.out bX)
      refine wp_region_G [(16, fun w' => RbBox w' kp c)] (by kernel_rfl) (heldC_one (fun _ => by rw [← hX]; exact HPX.out)) (fun hF => ?_)
      rw [← hX] at hF ⊢
      clear hX bX HP Hb2 HO2 hnb HPR
      refine wpG_take (oi := ?oi1) (v := ?vv1) 0 _ ?hi1 (List.Mem.head _) ?hc1 ?hQ1 hF ?hw1 ?hy1 (fun hF => ?hh1)
      case hi1 => (simp only [List.getElem?_toArray, List.getElem?_cons_succ, List.getElem?_cons_zero]; rfl)
      case hc1 => kernel_rfl
      case hQ1 => exact fun _ _ _ h => h
      case hw1 => rfl
      case hy1 => (intro wz hz; skip; go_simp; try (with_reducible rfl))
      try simp only [Act.put, List.setIfInBounds_toArray, List.set_cons_zero, List.set_cons_succ]
      refine wpG_takeC (oi := ?oi2) (v := ?vv2) 1 _ [15,14,9,7,4,3] ?hi2 (List.Mem.head _) ?hc2 ?hQ2 hF ?hw2 ?hy2 (fun hF => ?hh2)
      case hi2 => (simp only [List.getElem?_toArray, List.getElem?_cons_succ, List.getElem?_cons_zero]; rfl)
      case hc2 => kernel_rfl
      case hQ2 => exact fun _ _ _ h => h
      case hw2 => rfl
      case hy2 => (intro wz hz; have z0 := hz.c0; have z1 := hz.c1; have z2 := hz.c2; have z3 := hz.c3; have z4 := hz.c4; have z5 := hz.c5; go_simp; try (with_reducible rfl))
      try simp only [Act.put, List.setIfInBounds_toArray, List.set_cons_zero, List.set_cons_succ]
      refine wpG_takeC (oi := ?oi3) (v := ?vv3) 2 _ [15,14,9,7,4,3] ?hi3 (List.Mem.head _) ?hc3 ?hQ3 hF ?hw3 ?hy3 (fun hF => ?hh3)
      case hi3 => (simp only [List.getElem?_toArray, List.getElem?_cons_succ, List.getElem?_cons_zero]; rfl)
      case hc3 => kernel_rfl
      case hQ3 => exact fun _ _ _ h => h
      case hw3 => rfl
      case hy3 => (intro wz hz; skip; go_simp; try (with_reducible rfl))
      try simp only [Act.put, List.setIfInBounds_toArray, List.set_cons_zero, List.set_cons_succ]
      refine wpG_takeC (oi := ?oi4) (v := ?vv4) 5 _ [15,14,9,7,6] ?hi4 (List.Mem.head _) ?hc4 ?hQ4 hF ?hw4 ?hy4 (fun hF => ?hh4)
      case hi4 => (simp only [List.getElem?_toArray, List.getElem?_cons_succ, List.getElem?_cons_zero]; rfl)
      case hc4 => kernel_rfl
      case hQ4 => exact fun _ _ _ h => h
      case hw4 => rfl
      case hy4 => (intro wz hz; skip; go_simp; try (with_reducible rfl))
      try simp only [Act.put, List.setIfInBounds_toArray, List.set_cons_zero, List.set_cons_succ]
      refine wpG_takeC (oi := ?oi5) (v := ?vv5) 6 _ [15,14,9,7] ?hi5 (List.Mem.head _) ?hc5 ?hQ5 hF ?hw5 ?hy5 (fun hF => ?hh5)
      case hi5 => (simp only [List.getElem?_toArray, List.getElem?_cons_succ, List.getElem?_cons_zero]; rfl)
      case hc5 => kernel_rfl
      case hQ5 => exact fun _ _ _ h => h
      case hw5 => rfl
      case hy5 => (intro wz hz; have z3 := hz.c3; go_simp; try (with_reducible rfl))
      try simp only [Act.put, List.setIfInBounds_toArray, List.set_cons_zero, List.set_cons_succ]
      refine wpG_takeC (oi := ?oi6) (v := ?vv6) 8 _ [15,14,9] ?hi6 (List.Mem.head _) ?hc6 ?hQ6 hF ?hw6 ?hy6 (fun hF => ?hh6)
      case hi6 => (simp only [List.getElem?_toArray, List.getElem?_cons_succ, List.getElem?_cons_zero]; rfl)
      case hc6 => kernel_rfl
      case hQ6 => exact fun _ _ _ h => h
      case hw6 => rfl
      case hy6 => (intro wz hz; skip; go_simp; try (with_reducible rfl))
      try simp only [Act.put, List.setIfInBounds_toArray, List.set_cons_zero, List.set_cons_succ]
      refine wpG_takeC (oi := ?oi7) (v := ?vv7) 10 _ [15,14,11] ?hi7 (List.Mem.head _) ?hc7 ?hQ7 hF ?hw7 ?hy7 (fun hF => ?hh7)
      case hi7 => (simp only [List.getElem?_toArray, List.getElem?_cons_succ, List.getElem?_cons_zero]; rfl)
      case hc7 => kernel_rfl
      case hQ7 => exact fun _ _ _ h => h
      case hw7 => rfl
      case hy7 => (intro wz hz; skip; go_simp; try (with_reducible rfl))
      try simp only [Act.put, List.setIfInBounds_toArray, List.set_cons_zero, List.set_cons_succ]
      refine wpG_takeC (oi := ?oi8) (v := ?vv8) 11 _ [15,14] ?hi8 (List.Mem.head _) ?hc8 ?hQ8 hF ?hw8 ?hy8 (fun hF => ?hh8)
      case hi8 => (simp only [List.getElem?_toArray, List.getElem?_cons_succ, List.getElem?_cons_zero]; rfl)
      case hc8 => kernel_rfl
      case hQ8 => exact fun _ _ _ h => h
      case hw8 => rfl
      case hy8 => (intro wz hz; have z4 := hz.c4; go_simp; try (with_reducible rfl))
      try simp only [Act.put, List.setIfInBounds_toArray, List.set_cons_zero, List.set_cons_succ]
      refine wpG_takeC (oi := ?oi9) (v := ?vv9) 12 _ [15,14,13] ?hi9 (List.Mem.head _) ?hc9 ?hQ9 hF ?hw9 ?hy9 (fun hF => ?hh9)
      case hi9 => (simp only [List.getElem?_toArray, List.getElem?_cons_succ, List.getElem?_cons_zero]; rfl)
      case hc9 => kernel_rfl
      case hQ9 => exact fun _ _ _ h => h
      case hw9 => rfl
      case hy9 => (intro wz hz; skip; go_simp; try (with_reducible rfl))
      try simp only [Act.put, List.setIfInBounds_toArray, List.set_cons_zero, List.set_cons_succ]
      refine wpG_takeC (oi := ?oi10) (v := ?vv10) 13 _ [15,14] ?hi10 (List.Mem.head _) ?hc10 ?hQ10 hF ?hw10 ?hy10 (fun hF => ?hh10)
      case hi10 => (simp only [List.getElem?_toArray, List.getElem?_cons_succ, List.getElem?_cons_zero]; rfl)
      case hc10 => kernel_rfl
      case hQ10 => exact fun _ _ _ h => h
      case hw10 => rfl
      case hy10 => (intro wz hz; have z5 := hz.c5; go_simp; try (with_reducible rfl))
      try simp only [Act.put, List.setIfInBounds_toArray, List.set_cons_zero, List.set_cons_succ]
      refine wpG_ready (rs := [3]) (by kernel_rfl) (by simp) ?_
      refine all_one ?_
      refine wpOp_hand (oi := ?oi11) ?hi11 (fun K hK => ?hh11)
      case hi11 => (simp only [List.getElem?_toArray, List.getElem?_cons_succ, List.getElem?_cons_zero]; rfl)
      go_simp
      go_at_call 31
      refine Calls.mono (HDY.out c HRK.out _) ?_
      rintro e wq ⟨d, hd, rfl, hb⟩
      have HPq := Lib.hid (HPX.out.below hb); have Hbq := Lib.hid (HbX.out.trans (hb.mono HbX.out.size)); have Hoq := Lib.hid (own_below HoX.out hb)
      have HDD := Lib.hid hd
      clear hb hd HPX HbX HoX
      go_simp
      refine hK.out _ _ (heldC_one (fun _ => HPq.out)) (fun hF => ?_)
      clear hK K
      try simp only [Act.put, List.setIfInBounds_toArray, List.set_cons_zero, List.set_cons_succ]
      have pd1 : IntKind.i64.wrap (d * 86400000) = d * 86400000 := IntWalk.i64_in _ (by have := HDD.out; omega)
      have pd2 : IntKind.i64.wrap (d * 86400000 + c.ms) = d * 86400000 + c.ms := IntWalk.i64_in _ (by have := HDD.out; have := HRK.out.s1; have := HRK.out.s2; omega)
      have pd3 : IntKind.i64.wrap (d * 86400000 + c.ms - bb) = d * 86400000 + c.ms - bb := IntWalk.i64_in _ (by have := HDD.out; have := HRK.out.s1; have := HRK.out.s2; have := HBD.out; omega)
      refine wpG_takeC (oi := ?oi12) (v := ?vv12) 4 _ [15,14,9,7] ?hi12 (List.Mem.head _) ?hc12 ?hQ12 hF ?hw12 ?hy12 (fun hF => ?hh12)
      case hi12 => (simp only [List.getElem?_toArray, List.getElem?_cons_succ, List.getElem?_cons_zero]; rfl)
      case hc12 => kernel_rfl
      case hQ12 => exact fun _ _ _ h => h
      case hw12 => rfl
      case hy12 => (intro wz hz; skip; go_simp; try (with_reducible rfl))
      try simp only [Act.put, List.setIfInBounds_toArray, List.set_cons_zero, List.set_cons_succ]
      refine wpG_takeC (oi := ?oi13) (v := ?vv13) 7 _ [15,14,9] ?hi13 (List.Mem.head _) ?hc13 ?hQ13 hF ?hw13 ?hy13 (fun hF => ?hh13)
      case hi13 => (simp only [List.getElem?_toArray, List.getElem?_cons_succ, List.getElem?_cons_zero]; rfl)
      case hc13 => kernel_rfl
      case hQ13 => exact fun _ _ _ h => h
      case hw13 => rfl
      case hy13 => (intro wz hz; skip; go_simp; try (with_reducible rfl))
      try simp only [Act.put, List.setIfInBounds_toArray, List.set_cons_zero, List.set_cons_succ]
      refine wpG_takeC (oi := ?oi14) (v := ?vv14) 9 _ [15,14] ?hi14 (List.Mem.head _) ?hc14 ?hQ14 hF ?hw14 ?hy14 (fun hF => ?hh14)
      case hi14 => (simp only [List.getElem?_toArray, List.getElem?_cons_succ, List.getElem?_cons_zero]; rfl)
      case hc14 => kernel_rfl
      case hQ14 => exact fun _ _ _ h => h
      case hw14 => rfl
      case hy14 => (intro wz hz; skip; go_simp; try (with_reducible rfl))
      try simp only [Act.put, List.setIfInBounds_toArray, List.set_cons_zero, List.set_cons_succ]
      refine wpG_takeC (oi := ?oi15) (v := ?vv15) 14 _ [15] ?hi15 (List.Mem.head _) ?hc15 ?hQ15 hF ?hw15 ?hy15 (fun hF => ?hh15)
      case hi15 => (simp only [List.getElem?_toArray, List.getElem?_cons_succ, List.getElem?_cons_zero]; rfl)
      case hc15 => kernel_rfl
      case hQ15 => exact fun _ _ _ h => h
      case hw15 => rfl
      case hy15 => (intro wz hz; skip; go_simp; try (with_reducible rfl))
      try simp only [Act.put, List.setIfInBounds_toArray, List.set_cons_zero, List.set_cons_succ]
      clear pd1 pd2 pd3
      refine wpG_ready (rs := [15]) (by kernel_rfl) (by simp) ?_
      refine all_one ?_
      refine wpOp_hand (oi := ?oi16) ?hi16 (fun K hK => ?hh16)
      case hi16 => (simp only [List.getElem?_toArray, List.getElem?_cons_succ, List.getElem?_cons_zero]; rfl)
      go_simp
      obtain ⟨Z, hZ⟩ : ∃ Z, Z = wq.alloc (.cells #[.int .i64 (d * 86400000 + c.ms - bb), .int .i64 c.off, .string c.lab] 36) := ⟨_, rfl⟩
      have bZ : Below wq.heap.size wq Z := by rw [hZ]; exact (Below.refl _ _).alloc (Nat.le_refl _) _
      have hnews : ∀ j u, [.int .i64 (d * 86400000 + c.ms - bb), .int .i64 c.off, .string c.lab][j]? = some u → Z.cell? ((⟨wq.heap.size, 0, none⟩ : Addr).add j) = some u := by rw [hZ]; exact World.news_of_block (cs := #[.int .i64 (d * 86400000 + c.ms - bb), .int .i64 c.off, .string c.lab]) (t := 36) (fr := (0, 0)) (heap_alloc_new wq _)
      rw [← hZ]
      have HPZ := Lib.hid (HPq.out.below bZ); have HbZ := Lib.hid (Hbq.out.trans (bZ.mono Hbq.out.size)); have HoZ := Lib.hid (own_below Hoq.out bZ)
      clear hZ bZ HPq Hbq Hoq
      refine hK.out _ _ (heldC_one (fun _ => HPZ.out)) (fun hF => ?_)
      clear hK K
      try simp only [Act.put, List.setIfInBounds_toArray, List.set_cons_zero, List.set_cons_succ]
      refine wpG_ready (rs := [16]) (by kernel_rfl) (by simp) ?_
      refine all_one ?_
      refine wpOp_hand (oi := ?oi17) ?hi17 (fun K hK => ?hh17)
      case hi17 => (simp only [List.getElem?_toArray, List.getElem?_cons_succ, List.getElem?_cons_zero]; rfl)
      refine step_append_any (by rfl) (.tmp 16) (.tmp 31) _ (by rfl) w.heap.size 36 iC _ 3 32 Tryd.underlying22 hC0 hC1 hC2 hC3 rfl (by omega) u7 i (chCs news) (by rfl) HoZ.out ⟨wq.heap.size, 0, none⟩ 1 1 [.int .i64 (d * 86400000 + c.ms - bb), .int .i64 c.off, .string c.lab] (by rfl) (by rfl) hnews (by simp [Value.oneCell']) (by unfold maxLen; omega) (by omega) HbZ.out.size ?_
      intro v' w3 hown' hgrow hat
      have hR1 : w3.ownsRow w.heap.size 36 3 v' (i + 1) (chCs (news ++ [⟨d * 86400000 + c.ms - bb, c.off, c.lab⟩])) := by rw [chCs_app]; exact hown'
      have HR1 := Lib.hid hR1
      have Hb3 := Lib.hid (below_grew HbZ.out hgrow HoZ.out)
      have hP3 : RbBox w3 kp c := World.rowIs.of_block HPZ.out (hgrow.block kp HPZ.out.lt HN1.out)
      have HP3 := Lib.hid hP3
      clear hP3 hR1 hown' hgrow hat hnews HPZ HbZ HoZ
      go_simp
      refine hK.out _ _ (heldC_one (fun h => absurd h (by simp))) (fun hF => ?_)
      clear hK K
      try simp only [Act.put, List.setIfInBounds_toArray, List.set_cons_zero, List.set_cons_succ]
      refine wpG_ready (rs := [17]) (by kernel_rfl) (by simp) ?_
      refine all_one ?_
      refine wpOp_hand (oi := ?oi18) ?hi18 (fun K hK => ?hh18)
      case hi18 => (simp only [List.getElem?_toArray, List.getElem?_cons_succ, List.getElem?_cons_zero]; rfl)
      go_simp
      refine hK.out _ _ (heldC_one (fun h => absurd h (by simp))) (fun hF => ?_)
      clear hK K
      try simp only [Act.put, List.setIfInBounds_toArray, List.set_cons_zero, List.set_cons_succ]
      refine wpG_done (by kernel_rfl) ?_ _
      clear hF
      have y4 := HP3.out.c4; have yl := HP3.out.lt
      go_wp2_with fail
      go_roundw
      case rel => exact ⟨i + 1, news ++ [⟨d * 86400000 + c.ms - bb, c.off, c.lab⟩], by omega, by go_num, by rw [HOF.out], by simp [HLN.out], HMD.out.add ⟨d, HDD.out.1, HDD.out.2, by rw [HLN.out, ← HCD.out, ← HBB.out]⟩, HR1.out, Hb3.out⟩
      case measure => simp [intOf]; omega
    · obtain rfl : i = n := by omega
      go_wp2_with fail
      go_returns
      exact ⟨_, news, rfl, HMD.out, HLN.out, HO.out, Hb.out⟩
end Go.Proofs.YtdifeoahaegjbaaDoor
