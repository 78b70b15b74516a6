/- starmap.Map, starmap.Up. -/
import Derived.Test.YtcopmgnfakjdhaaDoorMapP
import Derived.Test.YtcopmgnfakjdhaaDoorOwn
import Derived.Test.YtcopmgnfakjdhaaDoorWhole
namespace Go.Proofs.YtcopmgnfakjdhaaDoor
open Go.RowKit
set_option linter.unusedSimpArgs false
set_option linter.unusedVariables false
theorem infoDot : (Tryd.prog.info? 46).map (fun i => (i.zero, i.size, i.bytes)) = some (some (.agg #[.string ⟨#[]⟩, .int .i64 0, .int .i64 0, .int .i64 0, .int .i64 0, .bool false]), 6, 56) := by kernel_rfl
theorem cells_six {w : World} {x y z q r s : Value} {t : TypeId} : ∀ j u, [x, y, z, q, r, s][j]? = some u → (w.alloc (.cells #[x, y, z, q, r, s] t)).cell? ((⟨w.heap.size, 0, none⟩ : Addr).add j) = some u := by
  intro j u hj
  match j, hj with
  | 0, hj => simp at hj; subst hj; simp [Addr.add]
  | 1, hj => simp at hj; subst hj; simp [Addr.add]
  | 2, hj => simp at hj; subst hj; simp [Addr.add]
  | 3, hj => simp at hj; subst hj; simp [Addr.add]
  | 4, hj => simp at hj; subst hj; simp [Addr.add]
  | 5, hj => simp at hj; subst hj; simp [Addr.add]
/-- The dots that a call owns, in blocks from b on. -/
def OwnP (w : World) (b : Nat) (v : Value) (n : Nat) (xs : List Value) : Prop := b ≤ w.heap.size ∧ w.ownsRow b 46 6 v n xs
theorem OwnP.below {w w' : World} {b n : Nat} {v : Value} {xs : List Value} (h : OwnP w b v n xs) (hb : Below w.heap.size w w') : OwnP w' b v n xs := ⟨Nat.le_trans h.1 hb.size, own_below h.2 hb⟩
theorem OwnP.alloc {w : World} {b n : Nat} {v : Value} {xs : List Value} (h : OwnP w b v n xs) (o : Obj) : OwnP (w.alloc o) b v n xs := ⟨by have := h.1; simp; omega, h.2.alloc o⟩
set_option maxRecDepth 100000 in
set_option maxHeartbeats 16000000 in
theorem Map_ok (lon lat t : Int) (pl : PlOk lon lat) (ti : instOk t = true) (w : World) (hT : SinT w) (hS : StarT w) : Calls Tryd.prog 16 #[.agg #[.int .i64 lon, .int .i64 lat], .int .i64 t] w fun e w' => ∃ v B, e = .returned (.tuple #[v, .int .i64 0]) ∧ w.heap.size ≤ B ∧ w'.ownsRow B 46 6 v (dotN lon lat t 8) (dots lon lat t 8) ∧ Below w.heap.size w w' := by
  obtain ⟨i0, hi, hy0, hy1, hy2⟩ := info_parts infoDot
  have tb : -9223372036854775808 ≤ t ∧ t ≤ 9223372036854775807 := by
    unfold instOk dayOk at ti
    simp only [decide_eq_true_eq] at ti
    omega
  have CH := Lib.hid (fun w => plCheck_ok lon lat w pl)
  have IS := Lib.hid (fun w => ti ▸ isInst_ok t w tb.1 tb.2)
  have NM := Lib.hid (fun w (h : StarT w) => names_ok w h)
  have ST := Lib.hid (fun i (h : i < 8) W (hS : StarT W) => starAt_ok i h t W hS ti)
  have HE := Lib.hid (fun i (h : i < 8) W (hT : SinT W) => Height_ok lon lat (smRL t i) (smRH t i) (stDec i - 100) (stDec i + 100) t W hT (sm_lk pl ti h))
  have GR := Lib.hid (fun i (h : i < 8) W (hT : SinT W) => Ground_ok lon lat (smRL t i) (smRH t i) (stDec i - 100) (stDec i + 100) t W hT (sm_lk pl ti h))
  have HT := Lib.hid hT
  have HS := Lib.hid hS
  clear hT hS tb pl ti
  have P1 := PlBox.new w lon lat
  have HB0 := (Below.refl w.heap.size w).alloc (Nat.le_refl _) (.cells #[.int .i64 lon, .int .i64 lat] 35)
  obtain ⟨k0, hk0⟩ : ∃ x, x = w.heap.size := ⟨_, rfl⟩
  rw [← hk0] at P1
  have HB := Lib.hid (Below.refl w.heap.size w)
  clear HB
  go_enter Tryd.func16, Tryd.ntmps16
  go_upto_region 1 with fail
  rw [← hk0]
  obtain ⟨X0, hX0⟩ : ∃ X, X = w.alloc (.cells #[.int .i64 lon, .int .i64 lat] 35) := ⟨_, rfl⟩
  rw [← hX0] at P1 HB0 ⊢
  have HB := Lib.hid HB0
  have HP := Lib.hid P1
  clear hX0 P1 HB0 hk0
  have p0 := HP.out.c0; have p1 := HP.out.c1; have pz := HP.out.lt
  go_wp2_with fail
  refine Calls.mono (CH.out _) ?_
  rintro e w1 ⟨rfl, hb⟩
  replace HP := Lib.hid (HP.out.below hb)
  replace HB := Lib.hid (HB.out.trans (hb.mono HB.out.size))
  clear hb p0 p1 pz
  go_wp2_with fail
  refine Calls.mono (IS.out _) ?_
  rintro e w2 ⟨rfl, hb⟩
  replace HP := Lib.hid (HP.out.below hb)
  replace HB := Lib.hid (HB.out.trans (hb.mono HB.out.size))
  clear hb
  go_wp2_with fail
  refine Calls.mono (NM.out _ (HS.out.below HB.out)) ?_
  rintro e wN ⟨vn, rfl, hN, hb⟩
  replace HP := Lib.hid (HP.out.below hb)
  replace HB := Lib.hid (HB.out.trans (hb.mono HB.out.size))
  obtain ⟨g, cap, rfl, -, -, hcell, hg⟩ := hN.form
  clear hb hN
  have HC := Lib.hid hcell
  clear hcell NM CH IS
  go_wp2_with fail
  have HBN := Lib.hid HB.out
  clear HB
  go_loopw [7, 28] (fun v i wr => ∃ k : Nat, k ≤ 8 ∧ i = .int .i64 k ∧ Hid (OwnP wr wN.heap.size v (dotN lon lat t k) (dots lon lat t k)) ∧ Hid (Below wN.heap.size wN wr)) (fun _ i _ => 8 - (intOf i).toNat)
  case atStart => exact ⟨0, by omega, rfl, Lib.hid ⟨Nat.le_refl _, World.ownsRow_nil _ _ _ _⟩, Lib.hid (Below.refl _ _)⟩
  case round =>
    obtain ⟨k, hk, rfl, s2, HB⟩ := hrel
    replace HP := Lib.hid (HP.out.below HB.out)
    have s1 := HP
    by_cases hlt : k < 8
    · have hlt2 : (k : Int) < 8 := by omega
      have hlt3 : (0 : Int) ≤ (k : Int) := by omega
      have nm : wr.cell? ⟨g, k, none⟩ = some (.string (stN k)) := (HB.out.cell (p := ⟨g, k, none⟩) hg).trans (HC.out k hlt)
      have BW := Lib.hid (HBN.out.trans (HB.out.mono HBN.out.size))
      have ST1 := Lib.hid (fun W (hS : StarT W) => show Calls Tryd.prog 28 #[.string (stN k), .int .i64 t] W fun e w' => e = .returned (.tuple #[.agg #[.int .i64 (smRL t k), .int .i64 (smRH t k)], .agg #[.int .i64 (stDec k - 100), .int .i64 (stDec k + 100)], .int .i64 0]) ∧ Below W.heap.size W w' from ST.out k hlt W hS)
      have HE1 := Lib.hid (fun W (hT : SinT W) => show Calls Tryd.prog 29 #[.agg #[.int .i64 lon, .int .i64 lat], .agg #[.int .i64 (smRL t k), .int .i64 (smRH t k)], .agg #[.int .i64 (stDec k - 100), .int .i64 (stDec k + 100)], .int .i64 t] W fun e w' => e = .returned (.tuple #[.agg #[.int .i64 (smHL lon lat t k), .int .i64 (smHH lon lat t k)], .int .i64 0]) ∧ Below W.heap.size W w' from HE.out k hlt W hT)
      have GR1 := Lib.hid (fun W (hT : SinT W) => show Calls Tryd.prog 30 #[.agg #[.int .i64 lon, .int .i64 lat], .agg #[.int .i64 (smRL t k), .int .i64 (smRH t k)], .agg #[.int .i64 (stDec k - 100), .int .i64 (stDec k + 100)], .int .i64 t] W fun e w' => e = .returned (.tuple #[.agg #[.int .i64 (smXL lon lat t k), .int .i64 (smXH lon lat t k)], .agg #[.int .i64 (smYL lon lat t k), .int .i64 (smYH lon lat t k)], .int .i64 0]) ∧ Below W.heap.size W w' from GR.out k hlt W hT)
      have EN : Hid (dotN lon lat t (k + 1) = if smHH lon lat t k < 0 then dotN lon lat t k else dotN lon lat t k + 1) := Lib.hid rfl
      have ED : Hid (dots lon lat t (k + 1) = if smHH lon lat t k < 0 then dots lon lat t k else dots lon lat t k ++ dotRow lon lat t k) := Lib.hid rfl
      have ER : Hid (dotRow lon lat t k = [.string (stN k), .int .i64 (smXL lon lat t k), .int .i64 (smXH lon lat t k), .int .i64 (smYL lon lat t k), .int .i64 (smYH lon lat t k), .bool (decide (0 < smHL lon lat t k))]) := Lib.hid rfl
      have NB := Lib.hid (dotN_le lon lat t k)
      clear ST HE GR HP
      generalize smRL t k = r1 at *
      generalize smRH t k = r2 at *
      generalize stDec k - 100 = d1 at *
      generalize stDec k + 100 = d2 at *
      generalize smHL lon lat t k = h1 at *
      generalize smHH lon lat t k = h2 at *
      generalize smXL lon lat t k = x1 at *
      generalize smXH lon lat t k = x2 at *
      generalize smYL lon lat t k = y1 at *
      generalize smYH lon lat t k = y2 at *
      generalize stN k = nmv at *
      go_wp2_with fail
      refine Calls.mono (ST1.out _ (HS.out.below BW.out)) ?_
      rintro e wn3 ⟨rfl, hb⟩
      replace s1 := Lib.hid (((s1.out.below hb).alloc (.cells #[.int .i64 (r1), .int .i64 (r2)] 25)).alloc (.cells #[.int .i64 (d1), .int .i64 (d2)] 25))
      replace s2 := Lib.hid (((s2.out.below hb).alloc (.cells #[.int .i64 (r1), .int .i64 (r2)] 25)).alloc (.cells #[.int .i64 (d1), .int .i64 (d2)] 25))
      have HB3 := HB.out.trans (hb.mono HB.out.size)
      clear hb
      have Hkl3 := Lib.hid HB3.size; have HBq := HB3.alloc HB3.size (.cells #[.int .i64 (r1), .int .i64 (r2)] 25); replace HB := Lib.hid (HBq.alloc HBq.size (.cells #[.int .i64 (d1), .int .i64 (d2)] 25)); clear HB3 HBq
      obtain ⟨k3, hk3⟩ : ∃ x, x = wn3.heap.size := ⟨_, rfl⟩
      have hk4 : (wn3.alloc (.cells #[.int .i64 (r1), .int .i64 (r2)] 25)).heap.size = k3 + 1 := by simp [hk3]
      have s3 := Lib.hid ((SpBox.new wn3 (r1) (r2)).alloc (.cells #[.int .i64 (d1), .int .i64 (d2)] 25))
      have s40 := SpBox.new (wn3.alloc (.cells #[.int .i64 (r1), .int .i64 (r2)] 25)) (d1) (d2)
      rw [hk4] at s40
      have s4 := Lib.hid s40; clear s40
      rw [← hk3] at s3 Hkl3
      have Hkl4 := Lib.hid (Nat.le_trans Hkl3.out (Nat.le_succ k3))
      go_upto_region 11 with fail
      (try rw [hk4])
      rw [← hk3]
      obtain ⟨X4, hX4⟩ : ∃ X, X = (wn3.alloc (.cells #[.int .i64 (r1), .int .i64 (r2)] 25)).alloc (.cells #[.int .i64 (d1), .int .i64 (d2)] 25) := ⟨_, rfl⟩
      rw [← hX4] at s1 s2 s3 s4 HB ⊢
      clear hk4 hk3 hX4
      clear nm
      have sc3_0 := s3.out.c0; have sc3_1 := s3.out.c1; have sc3_l := s3.out.lt
      have sc4_0 := s4.out.c0; have sc4_1 := s4.out.c1; have sc4_l := s4.out.lt
      have p0 := s1.out.c0; have p1 := s1.out.c1; have pz := s1.out.lt
      go_wp2_with fail
      refine Calls.mono (HE1.out _ (HT.out.below (HBN.out.trans (HB.out.mono HBN.out.size)))) ?_
      rintro e wn5 ⟨rfl, hb⟩
      replace s1 := Lib.hid ((s1.out.below hb).alloc (.cells #[.int .i64 (h1), .int .i64 (h2)] 25))
      replace s2 := Lib.hid ((s2.out.below hb).alloc (.cells #[.int .i64 (h1), .int .i64 (h2)] 25))
      replace s3 := Lib.hid ((s3.out.below hb).alloc (.cells #[.int .i64 (h1), .int .i64 (h2)] 25))
      replace s4 := Lib.hid ((s4.out.below hb).alloc (.cells #[.int .i64 (h1), .int .i64 (h2)] 25))
      have HB5 := HB.out.trans (hb.mono HB.out.size)
      clear sc3_0 sc3_1 sc3_l sc4_0 sc4_1 sc4_l
      clear hb
      have Hkl5 := Lib.hid HB5.size; replace HB := Lib.hid (HB5.alloc HB5.size (.cells #[.int .i64 (h1), .int .i64 (h2)] 25))
      clear HB5
      have s5 := Lib.hid (SpBox.new wn5 (h1) (h2))
      obtain ⟨k5, hk5⟩ : ∃ x, x = wn5.heap.size := ⟨_, rfl⟩
      rw [← hk5] at s5 Hkl5
      go_upto_region 12 with fail
      rw [← hk5]
      obtain ⟨X5, hX5⟩ : ∃ X, X = wn5.alloc (.cells #[.int .i64 (h1), .int .i64 (h2)] 25) := ⟨_, rfl⟩
      rw [← hX5] at s1 s2 s3 s4 s5 HB ⊢
      clear hk5 hX5
      clear p0 p1 pz
      by_cases c : h2 < 0
      · rw [if_pos c] at EN ED
        have hc5 := s5.out.c1
        go_wp2_with fail
        go_roundw
        case rel => exact ⟨k + 1, by omega, by go_num, Lib.hid (by rw [EN.out, ED.out]; exact s2.out), HB⟩
        case measure => simp [intOf]; omega
      · rw [if_neg c] at EN ED
        have hc5 := s5.out.c1
        have sc3_0 := s3.out.c0; have sc3_1 := s3.out.c1; have sc3_l := s3.out.lt
        have sc4_0 := s4.out.c0; have sc4_1 := s4.out.c1; have sc4_l := s4.out.lt
        have p0 := s1.out.c0; have p1 := s1.out.c1; have pz := s1.out.lt
        go_wp2_with fail
        refine Calls.mono (GR1.out _ (HT.out.below (HBN.out.trans (HB.out.mono HBN.out.size)))) ?_
        rintro e wn6 ⟨rfl, hb⟩
        replace s1 := Lib.hid (((s1.out.below hb).alloc (.cells #[.int .i64 (x1), .int .i64 (x2)] 25)).alloc (.cells #[.int .i64 (y1), .int .i64 (y2)] 25))
        replace s2 := Lib.hid (((s2.out.below hb).alloc (.cells #[.int .i64 (x1), .int .i64 (x2)] 25)).alloc (.cells #[.int .i64 (y1), .int .i64 (y2)] 25))
        replace s3 := Lib.hid (((s3.out.below hb).alloc (.cells #[.int .i64 (x1), .int .i64 (x2)] 25)).alloc (.cells #[.int .i64 (y1), .int .i64 (y2)] 25))
        replace s4 := Lib.hid (((s4.out.below hb).alloc (.cells #[.int .i64 (x1), .int .i64 (x2)] 25)).alloc (.cells #[.int .i64 (y1), .int .i64 (y2)] 25))
        replace s5 := Lib.hid (((s5.out.below hb).alloc (.cells #[.int .i64 (x1), .int .i64 (x2)] 25)).alloc (.cells #[.int .i64 (y1), .int .i64 (y2)] 25))
        have HB6 := HB.out.trans (hb.mono HB.out.size)
        clear sc3_0 sc3_1 sc3_l sc4_0 sc4_1 sc4_l
        clear hb
        have Hkl6 := Lib.hid HB6.size; have HBq := HB6.alloc HB6.size (.cells #[.int .i64 (x1), .int .i64 (x2)] 25); replace HB := Lib.hid (HBq.alloc HBq.size (.cells #[.int .i64 (y1), .int .i64 (y2)] 25)); clear HB6 HBq
        obtain ⟨k6, hk6⟩ : ∃ x, x = wn6.heap.size := ⟨_, rfl⟩
        have hk7 : (wn6.alloc (.cells #[.int .i64 (x1), .int .i64 (x2)] 25)).heap.size = k6 + 1 := by simp [hk6]
        have s6 := Lib.hid ((SpBox.new wn6 (x1) (x2)).alloc (.cells #[.int .i64 (y1), .int .i64 (y2)] 25))
        have s70 := SpBox.new (wn6.alloc (.cells #[.int .i64 (x1), .int .i64 (x2)] 25)) (y1) (y2)
        rw [hk7] at s70
        have s7 := Lib.hid s70; clear s70
        rw [← hk6] at s6 Hkl6
        have Hkl7 := Lib.hid (Nat.le_trans Hkl6.out (Nat.le_succ k6))
        go_upto_region 14 with fail
        (try rw [hk7])
        rw [← hk6]
        obtain ⟨X7, hX7⟩ : ∃ X, X = (wn6.alloc (.cells #[.int .i64 (x1), .int .i64 (x2)] 25)).alloc (.cells #[.int .i64 (y1), .int .i64 (y2)] 25) := ⟨_, rfl⟩
        rw [← hX7] at s1 s2 s3 s4 s5 s6 s7 HB ⊢
        clear hk7 hk6 hX7
        clear p0 p1 pz hc5
        have sc6_0 := s6.out.c0; have sc6_1 := s6.out.c1; have sc6_l := s6.out.lt
        have sc7_0 := s7.out.c0; have sc7_1 := s7.out.c1; have sc7_l := s7.out.lt
        have hc5 := s5.out.c0
        have hown := s2.out.2
        have hsz := s2.out.1
        have nb := NB.out
        go_wp2_with (at_builtin; refine wpList_append_own _ rfl _ _ 38 rfl wN.heap.size 46 i0 (.agg #[.string ⟨#[]⟩, .int .i64 0, .int .i64 0, .int .i64 0, .int .i64 0, .bool false]) 6 56 Tryd.underlying38 hi hy0 hy1 hy2 rfl (by decide) _ _ _ rfl (hown.alloc _) ⟨X7.heap.size, 0, none⟩ 1 1 [.string nmv, .int .i64 x1, .int .i64 x2, .int .i64 y1, .int .i64 y2, .bool (decide (0 < h1))] rfl rfl ?c1 ?c2 ?c3 ?c4 ?c5 ?_)
        case c1 => have := cells_six (w := X7) (x := .string nmv) (y := .int .i64 x1) (z := .int .i64 x2) (q := .int .i64 y1) (r := .int .i64 y2) (s := .bool (decide (0 < h1))) (t := 46); simpa using this
        case c2 => intro u hu; simp at hu; rcases hu with rfl | rfl | rfl | rfl | rfl | rfl <;> rfl
        case c3 => unfold maxLen; omega
        case c4 => omega
        case c5 => simp; omega
        · intro v' w3 hown' hgrow _
          have hs3 := hgrow.size
          have R : Hid (OwnP w3 wN.heap.size v' (dotN lon lat t (k + 1)) (dots lon lat t (k + 1))) := Lib.hid ⟨by simp at hs3; omega, by rw [EN.out, ED.out, ER.out]; exact hown'⟩
          have hb3 := Lib.hid (below_grew (HB.out.alloc HB.out.size (.cells #[.string nmv, .int .i64 x1, .int .i64 x2, .int .i64 y1, .int .i64 y2, .bool (decide (0 < h1))] 46)) hgrow (hown.alloc _))
          clear hown' hgrow hown hs3 hsz hc5
          go_wp2_with fail
          go_roundw
          case rel => exact ⟨k + 1, by omega, by go_num, R, hb3⟩
          case measure => simp [intOf]; omega
    · obtain rfl : k = 8 := by omega
      clear ST HE GR
      go_wp2_with fail
      go_ret2
      exact ⟨_, _, rfl, HBN.out.size, s2.out.2, HBN.out.trans (HB.out.mono HBN.out.size)⟩
/-- What Up hands back. -/
def upN (lon lat t : Int) (i : Nat) : Int := if 0 < smHL lon lat t i then 1 else if smHH lon lat t i < 0 then -1 else 0
def upE (lon lat t : Int) (i : Nat) : Int := if 0 < smHL lon lat t i then 0 else if smHH lon lat t i < 0 then 0 else 11
set_option maxRecDepth 100000 in
set_option maxHeartbeats 16000000 in
theorem Up_ok (lon lat t : Int) (pl : PlOk lon lat) (ti : instOk t = true) (k : Nat) (hlt : k < 8) (w : World) (hT : SinT w) (hS : StarT w) : Calls Tryd.prog 18 #[.agg #[.int .i64 lon, .int .i64 lat], .string (stN k), .int .i64 t] w fun e w' => e = .returned (.tuple #[.int .i64 (upN lon lat t k), .int .i64 (upE lon lat t k)]) ∧ Below w.heap.size w w' := by
  have CH := Lib.hid (fun w => plCheck_ok lon lat w pl)
  have ST1 := Lib.hid (fun W (hS : StarT W) => show Calls Tryd.prog 28 #[.string (stN k), .int .i64 t] W fun e w' => e = .returned (.tuple #[.agg #[.int .i64 (smRL t k), .int .i64 (smRH t k)], .agg #[.int .i64 (stDec k - 100), .int .i64 (stDec k + 100)], .int .i64 0]) ∧ Below W.heap.size W w' from starAt_ok k hlt t W hS ti)
  have HE1 := Lib.hid (fun W (hT : SinT W) => show Calls Tryd.prog 29 #[.agg #[.int .i64 lon, .int .i64 lat], .agg #[.int .i64 (smRL t k), .int .i64 (smRH t k)], .agg #[.int .i64 (stDec k - 100), .int .i64 (stDec k + 100)], .int .i64 t] W fun e w' => e = .returned (.tuple #[.agg #[.int .i64 (smHL lon lat t k), .int .i64 (smHH lon lat t k)], .int .i64 0]) ∧ Below W.heap.size W w' from Height_ok lon lat (smRL t k) (smRH t k) (stDec k - 100) (stDec k + 100) t W hT (sm_lk pl ti hlt))
  unfold upN upE
  have HT := Lib.hid hT
  have HS := Lib.hid hS
  clear hT hS pl ti
  generalize smRL t k = r1 at *
  generalize smRH t k = r2 at *
  generalize stDec k - 100 = d1 at *
  generalize stDec k + 100 = d2 at *
  generalize smHL lon lat t k = h1 at *
  generalize smHH lon lat t k = h2 at *
  generalize stN k = nmv at *
  obtain ⟨nn, hn⟩ : ∃ n, n = (if 0 < h1 then (1 : Int) else if h2 < 0 then -1 else 0) := ⟨_, rfl⟩
  obtain ⟨ee, he⟩ : ∃ n, n = (if 0 < h1 then (0 : Int) else if h2 < 0 then 0 else 11) := ⟨_, rfl⟩
  rw [← hn, ← he]
  have HN := Lib.hid hn; have HEE := Lib.hid he
  clear hn he
  have P1 := PlBox.new w lon lat
  have HB0 := (Below.refl w.heap.size w).alloc (Nat.le_refl _) (.cells #[.int .i64 lon, .int .i64 lat] 35)
  obtain ⟨k0, hk0⟩ : ∃ x, x = w.heap.size := ⟨_, rfl⟩
  rw [← hk0] at P1
  have HB := Lib.hid (Below.refl w.heap.size w)
  clear HB
  go_enter Tryd.func18, Tryd.ntmps18
  go_upto_region 1 with fail
  rw [← hk0]
  obtain ⟨X0, hX0⟩ : ∃ X, X = w.alloc (.cells #[.int .i64 lon, .int .i64 lat] 35) := ⟨_, rfl⟩
  rw [← hX0] at P1 HB0 ⊢
  have HB := Lib.hid HB0
  have s1 := Lib.hid P1
  clear hX0 P1 HB0 hk0
  have p0 := s1.out.c0; have p1 := s1.out.c1; have pz := s1.out.lt
  go_wp2_with fail
  refine Calls.mono (CH.out _) ?_
  rintro e wc1 ⟨rfl, hb⟩
  replace s1 := Lib.hid (s1.out.below hb)
  replace HB := Lib.hid (HB.out.trans (hb.mono HB.out.size))
  clear hb
  clear p0 p1 pz
  go_wp2_with fail
  refine Calls.mono (ST1.out _ (HS.out.below HB.out)) ?_
  rintro e wn2 ⟨rfl, hb⟩
  replace s1 := Lib.hid (((s1.out.below hb).alloc (.cells #[.int .i64 (r1), .int .i64 (r2)] 25)).alloc (.cells #[.int .i64 (d1), .int .i64 (d2)] 25))
  have HB2 := HB.out.trans (hb.mono HB.out.size)
  clear hb
  have Hkl2 := Lib.hid HB2.size; have HBq := HB2.alloc HB2.size (.cells #[.int .i64 (r1), .int .i64 (r2)] 25); replace HB := Lib.hid (HBq.alloc HBq.size (.cells #[.int .i64 (d1), .int .i64 (d2)] 25)); clear HB2 HBq
  obtain ⟨k2, hk2⟩ : ∃ x, x = wn2.heap.size := ⟨_, rfl⟩
  have hk3 : (wn2.alloc (.cells #[.int .i64 (r1), .int .i64 (r2)] 25)).heap.size = k2 + 1 := by simp [hk2]
  have s2 := Lib.hid ((SpBox.new wn2 (r1) (r2)).alloc (.cells #[.int .i64 (d1), .int .i64 (d2)] 25))
  have s30 := SpBox.new (wn2.alloc (.cells #[.int .i64 (r1), .int .i64 (r2)] 25)) (d1) (d2)
  rw [hk3] at s30
  have s3 := Lib.hid s30; clear s30
  rw [← hk2] at s2 Hkl2
  have Hkl3 := Lib.hid (Nat.le_trans Hkl2.out (Nat.le_succ k2))
  go_upto_region 5 with fail
  (try rw [hk3])
  rw [← hk2]
  obtain ⟨X3, hX3⟩ : ∃ X, X = (wn2.alloc (.cells #[.int .i64 (r1), .int .i64 (r2)] 25)).alloc (.cells #[.int .i64 (d1), .int .i64 (d2)] 25) := ⟨_, rfl⟩
  rw [← hX3] at s1 s2 s3 HB ⊢
  clear hk3 hk2 hX3
  have sc2_0 := s2.out.c0; have sc2_1 := s2.out.c1; have sc2_l := s2.out.lt
  have sc3_0 := s3.out.c0; have sc3_1 := s3.out.c1; have sc3_l := s3.out.lt
  have p0 := s1.out.c0; have p1 := s1.out.c1; have pz := s1.out.lt
  go_wp2_with fail
  refine Calls.mono (HE1.out _ (HT.out.below HB.out)) ?_
  rintro e wn4 ⟨rfl, hb⟩
  replace s1 := Lib.hid ((s1.out.below hb).alloc (.cells #[.int .i64 (h1), .int .i64 (h2)] 25))
  replace s2 := Lib.hid ((s2.out.below hb).alloc (.cells #[.int .i64 (h1), .int .i64 (h2)] 25))
  replace s3 := Lib.hid ((s3.out.below hb).alloc (.cells #[.int .i64 (h1), .int .i64 (h2)] 25))
  have HB4 := HB.out.trans (hb.mono HB.out.size)
  clear sc2_0 sc2_1 sc2_l sc3_0 sc3_1 sc3_l
  clear hb
  have Hkl4 := Lib.hid HB4.size; replace HB := Lib.hid (HB4.alloc HB4.size (.cells #[.int .i64 (h1), .int .i64 (h2)] 25))
  clear HB4
  have s4 := Lib.hid (SpBox.new wn4 (h1) (h2))
  obtain ⟨k4, hk4⟩ : ∃ x, x = wn4.heap.size := ⟨_, rfl⟩
  rw [← hk4] at s4 Hkl4
  go_upto_region 8 with fail
  rw [← hk4]
  obtain ⟨X4, hX4⟩ : ∃ X, X = wn4.alloc (.cells #[.int .i64 (h1), .int .i64 (h2)] 25) := ⟨_, rfl⟩
  rw [← hX4] at s1 s2 s3 s4 HB ⊢
  clear hk4 hX4
  clear p0 p1 pz
  have sc4_0 := s4.out.c0; have sc4_1 := s4.out.c1; have sc4_l := s4.out.lt
  by_cases c1 : 0 < h1
  · obtain rfl : nn = 1 := by have := HN.out; rw [if_pos c1] at this; exact this
    obtain rfl : ee = 0 := by have := HEE.out; rw [if_pos c1] at this; exact this
    clear HN HEE
    go_wp2_with fail
    go_ret2
    exact ⟨rfl, HB.out⟩
  · by_cases c2 : h2 < 0
    · obtain rfl : nn = -1 := by have := HN.out; rw [if_neg c1, if_pos c2] at this; exact this
      obtain rfl : ee = 0 := by have := HEE.out; rw [if_neg c1, if_pos c2] at this; exact this
      clear HN HEE
      go_wp2_with fail
      go_ret2
      exact ⟨rfl, HB.out⟩
    · obtain rfl : nn = 0 := by have := HN.out; rw [if_neg c1, if_neg c2] at this; exact this
      obtain rfl : ee = 11 := by have := HEE.out; rw [if_neg c1, if_neg c2] at this; exact this
      clear HN HEE
      go_wp2_with fail
      go_ret2
      exact ⟨rfl, HB.out⟩
end Go.Proofs.YtcopmgnfakjdhaaDoor
