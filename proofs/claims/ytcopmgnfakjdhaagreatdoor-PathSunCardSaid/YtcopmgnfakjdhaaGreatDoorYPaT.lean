/- path.Track. -/
import Derived.Test.YtcopmgnfakjdhaaGreatDoorYPaC
import Derived.Test.YtcopmgnfakjdhaaGreatDoorYEcF
import Derived.Test.YtcopmgnfakjdhaaGreatDoorYApps
namespace Go.Proofs.YtcopmgnfakjdhaaGreatDoor
open Go.RowKit
set_option linter.unusedSimpArgs false
set_option linter.unusedVariables false
theorem infoPt : (Tryz.prog.info? 40).map (fun i => (i.zero, i.size, i.bytes)) = some (some (.agg #[.int .i64 0, .int .i64 0, .int .i64 0, .int .i64 0, .int .i64 0]), 5, 40) := by kernel_rfl
theorem cells_five {w : World} {x y z q r : Value} {t : TypeId} : ∀ j u, [x, y, z, q, r][j]? = some u → (w.alloc (.cells #[x, y, z, q, r] t)).cell? ((⟨w.heap.size, 0, none⟩ : Addr).add j) = some u := by
  intro j u hj
  match j, hj with
  | 0, hj => simp at hj; subst hj; simp [Addr.add]
  | 1, hj => simp at hj; subst hj; simp [Addr.add]
  | 2, hj => simp at hj; subst hj; simp [Addr.add]
  | 3, hj => simp at hj; subst hj; simp [Addr.add]
  | 4, hj => simp at hj; subst hj; simp [Addr.add]
def trC (T : Int) (j : Nat) : PaR := ceF (T + ((j : Int) - 24) * 600000)
def trRow (r : PaR) : List Value := [.int .i64 r.at', .int .i64 r.l1, .int .i64 r.l2, .int .i64 r.b1, .int .i64 r.b2]
def trN (T : Int) : Nat → Nat
  | 0 => 0
  | j + 1 => if (trC T j).e = 0 then trN T j + 1 else trN T j
def trP (T : Int) : Nat → List Value
  | 0 => []
  | j + 1 => if (trC T j).e = 0 then trP T j ++ trRow (trC T j) else trP T j
theorem trN_le (T : Int) : ∀ j, trN T j ≤ j
  | 0 => Nat.le_refl 0
  | j + 1 => by
    have := trN_le T j
    unfold trN
    split <;> omega
theorem trN_mono (T : Int) {i : Nat} : ∀ {j : Nat}, i ≤ j → trN T i ≤ trN T j
  | 0, h => by obtain rfl : i = 0 := by omega
               exact Nat.le_refl _
  | j + 1, h => by
    by_cases c : i = j + 1
    · rw [c]; exact Nat.le_refl _
    · have := trN_mono T (show i ≤ j by omega)
      show trN T i ≤ (if (trC T j).e = 0 then trN T j + 1 else trN T j)
      split <;> omega
theorem trN_hit {T : Int} {j : Nat} (h : (trC T j).e = 0) : trN T (j + 1) = trN T j + 1 := by
  show (if (trC T j).e = 0 then trN T j + 1 else trN T j) = trN T j + 1
  rw [if_pos h]
def OwnT (w : World) (b : Nat) (v : Value) (n : Nat) (xs : List Value) : Prop := b ≤ w.heap.size ∧ w.ownsRow b 40 5 v n xs
theorem OwnT.below {w w' : World} {b n : Nat} {v : Value} {xs : List Value} (h : OwnT w b v n xs) (hb : Below w.heap.size w w') : OwnT w' b v n xs := ⟨Nat.le_trans h.1 hb.size, own_below h.2 hb⟩
theorem OwnT.alloc {w : World} {b n : Nat} {v : Value} {xs : List Value} (h : OwnT w b v n xs) (o : Obj) : OwnT (w.alloc o) b v n xs := ⟨by have := h.1; simp; omega, h.2.alloc o⟩
def trE (k : Int) : Int := if (ecF k 0).e = 0 then (if (ecF k 0).k = 2 then 0 else 6) else (ecF k 0).e
def TrPostP (te : Int) (n : Nat) (xs : List Value) (w : World) (e : Ending) (w' : World) : Prop := ∃ v, e = .returned (.tuple #[v, .int .i64 te]) ∧ Below w.heap.size w w' ∧ (te = 0 → ∃ B, w.heap.size ≤ B ∧ w'.ownsRow B 40 5 v n xs) ∧ (te ≠ 0 → v = .slice none 0 0)
theorem TrPostP.mk0 {n : Nat} {xs : List Value} {w w' : World} {v : Value} {B : Nat} (hb : Below w.heap.size w w') (h1 : w.heap.size ≤ B) (h2 : w'.ownsRow B 40 5 v n xs) : TrPostP 0 n xs w (.returned (.tuple #[v, .int .i64 0])) w' :=
  ⟨v, rfl, hb, fun _ => ⟨B, h1, h2⟩, fun h => absurd rfl h⟩
theorem TrPostP.mkE {te : Int} {n : Nat} {xs : List Value} {w w' : World} (h : te ≠ 0) (hb : Below w.heap.size w w') : TrPostP te n xs w (.returned (.tuple #[.slice none 0 0, .int .i64 te])) w' :=
  ⟨_, rfl, hb, fun q => absurd q h, fun _ => rfl⟩
def TrPost (k : Int) (w : World) (e : Ending) (w' : World) : Prop := TrPostP (trE k) (trN (ecF k 0).a 49) (trP (ecF k 0).a 49) w e w'
def CeAt (aa : Int) : Prop := ∀ (j : Nat), j < 49 → ∀ W, SinT W → Calls Tryz.prog 22 #[.int .i64 (aa + ((j : Int) - 24) * 600000)] W fun e w' => e = .returned (.tuple #[.agg #[.int .i64 (trC aa j).at', .int .i64 (trC aa j).l1, .int .i64 (trC aa j).l2, .int .i64 (trC aa j).b1, .int .i64 (trC aa j).b2], .int .i64 (trC aa j).e]) ∧ Below W.heap.size W w'
theorem CeAt.of {aa : Int} (h : -300000000000001 ≤ aa ∧ aa ≤ 300000000000001) : CeAt aa := fun j hj W hT => Center_ok (aa + ((j : Int) - 24) * 600000) W hT (by unfold instOk dayOk; exact decide_eq_true (by omega))
theorem ec_a (k : Int) : (ecF k 0).e = 0 → (ecF k 0).a = (phF k 0).1 ∧ (ecF k 0).b = (phF k 0).2 := by
  intro h
  unfold ecF ecW at *
  split at h
  · rename_i c; rw [if_pos c]; exact ⟨rfl, rfl⟩
  · rename_i c
    rw [if_neg c]
    split at h
    · rename_i d; rw [if_pos d]; exact ⟨rfl, rfl⟩
    · rename_i d
      rw [if_neg d]
      split at h
      · rename_i f; rw [if_pos f]; exact ⟨rfl, rfl⟩
      · exact absurd h (by decide)
theorem ec_a0 (k : Int) : (ecF k 0).e ≠ 0 → (ecF k 0).a = 0 := by
  intro h
  unfold ecF ecW at *
  split at h
  · exact absurd rfl h
  · rename_i c
    rw [if_neg c]
    split at h
    · exact absurd rfl h
    · rename_i d
      rw [if_neg d]
      split at h
      · exact absurd rfl h
      · rename_i f; rw [if_neg f]
set_option maxRecDepth 100000 in
set_option maxHeartbeats 16000000 in
theorem Track_ok (k : Int) (hk : -100000 ≤ k ∧ k ≤ 100000) (w : World) (hT : SinT w) : Calls Tryz.prog 39 #[.int .i64 k] w (TrPost k w) := by
  obtain ⟨i0, hi, hy0, hy1, hy2⟩ := info_parts infoPt
  have FI := Lib.hid (fun W (hT : SinT W) => eFindA_ok k 0 hk rfl W hT)
  have bd := phF_bd (k := k) (q := 0) hk.1 hk.2 (by omega) (by omega)
  have eA := ec_a k
  have AB : Hid (-300000000000001 ≤ (ecF k 0).a ∧ (ecF k 0).a ≤ 300000000000001) := Lib.hid (by
    by_cases h0 : (ecF k 0).e = 0
    · rw [(eA h0).1]; omega
    · rw [ec_a0 k h0]; omega)
  have TP : TrPost k w = TrPostP (trE k) (trN (ecF k 0).a 49) (trP (ecF k 0).a 49) w := rfl
  rw [TP]
  clear TP
  have E0 : trE k = if (ecF k 0).e = 0 then (if (ecF k 0).k = 2 then 0 else 6) else (ecF k 0).e := rfl
  generalize (ecF k 0).e = ee at *
  generalize (ecF k 0).k = kk at *
  generalize (ecF k 0).a = aa at *
  generalize (ecF k 0).b = bb at *
  generalize (ecF k 0).l = ll at *
  generalize (ecF k 0).h = hh at *
  generalize (ecF k 0).p = pp at *
  generalize (ecF k 0).q = qq' at *
  generalize trE k = te at *
  have HT := Lib.hid hT
  have HE := Lib.hid E0
  obtain ⟨NN, hNN⟩ : ∃ n, n = trN aa 49 := ⟨_, rfl⟩
  obtain ⟨XS, hXS⟩ : ∃ n, n = trP aa 49 := ⟨_, rfl⟩
  rw [← hNN, ← hXS]
  have HNN := Lib.hid hNN; have HXS := Lib.hid hXS
  clear hT bd eA E0 hk hNN hXS
  have HB := Lib.hid (Below.refl w.heap.size w)
  go_enter Tryz.func39, Tryz.ntmps39
  go_wp2_with fail
  refine Calls.mono (FI.out _ (HT.out.below HB.out)) ?_
  rintro e wn1 ⟨rfl, hb⟩
  have HB1 := HB.out.trans (hb.mono HB.out.size)
  clear hb
  have Hkl1 := Lib.hid HB1.size; replace HB := Lib.hid (HB1.alloc HB1.size (.cells #[.int .i64 kk, .int .i64 aa, .int .i64 bb, .int .i64 ll, .int .i64 hh, .int .i64 pp, .int .i64 qq'] 44)); clear HB1
  have s1 := Lib.hid (EcBox.new wn1 (.int .i64 kk) (.int .i64 aa) (.int .i64 bb) (.int .i64 ll) (.int .i64 hh) (.int .i64 pp) (.int .i64 qq'))
  obtain ⟨k1, hk1⟩ : ∃ x, x = wn1.heap.size := ⟨_, rfl⟩
  rw [← hk1] at s1 Hkl1
  go_upto_region 2 with fail
  rw [← hk1]
  obtain ⟨X1, hX1⟩ : ∃ X, X = wn1.alloc (.cells #[.int .i64 kk, .int .i64 aa, .int .i64 bb, .int .i64 ll, .int .i64 hh, .int .i64 pp, .int .i64 qq'] 44) := ⟨_, rfl⟩
  rw [← hX1] at s1 HB ⊢
  clear hk1 hX1
  clear FI
  by_cases c0 : ee = 0
  · subst c0
    obtain ⟨ab1, ab2⟩ := AB.out
    have CE := Lib.hid (CeAt.of ⟨ab1, ab2⟩)
    have x0 := s1.out.c0; have x1 := s1.out.c1; have xl := s1.out.lt
    by_cases c1 : kk = 2
    · obtain rfl : te = 0 := by have := HE.out; rw [if_pos rfl, if_pos c1] at this; exact this
      subst c1
      clear HE AB
      have A1 := Lib.hid ab1; have A2 := Lib.hid ab2
      go_wp2_with fail
      clear x0 x1 xl ab1 ab2
      have HBN := Lib.hid HB.out
      obtain ⟨wN, hwN⟩ : ∃ W, W = X1 := ⟨_, rfl⟩
      rw [← hwN] at s1 HB HBN ⊢
      have s0 := s1
      clear hwN HB s1
      go_loopw [6, 7] (fun v i wr => ∃ j : Nat, j ≤ 49 ∧ i = .int .i64 ((j : Int) - 24) ∧ Hid (OwnT wr wN.heap.size v (trN aa j) (trP aa j)) ∧ Hid (Below wN.heap.size wN wr)) (fun _ i _ => (25 - intOf i).toNat)
      case atStart => exact ⟨0, by omega, rfl, Lib.hid ⟨Nat.le_refl _, World.ownsRow_nil _ _ _ _⟩, Lib.hid (Below.refl _ _)⟩
      case round =>
        obtain ⟨j, hj, rfl, s2, HB⟩ := hrel
        have s1 := Lib.hid (s0.out.below HB.out)
        by_cases hlt : j < 49
        · have hlt2 : (j : Int) - 24 ≤ 24 := by omega
          have g1 : wrap64 (((j : Int) - 24) * 600000) = ((j : Int) - 24) * 600000 := IntWalk.wrap64_in _ (by omega)
          have g2 : wrap64 (aa + ((j : Int) - 24) * 600000) = aa + ((j : Int) - 24) * 600000 := IntWalk.wrap64_in _ (by have := A1.out; have := A2.out; omega)
          have GI := Lib.hid (show wrap64 ((j : Int) - 24 + 1) = ((j + 1 : Nat) : Int) - 24 by rw [IntWalk.wrap64_in _ (by omega)]; omega)
          have CJ := Lib.hid (show ∀ W, SinT W → Calls Tryz.prog 22 #[.int .i64 (aa + ((j : Int) - 24) * 600000)] W fun e w' => e = .returned (.tuple #[.agg #[.int .i64 (trC aa j).at', .int .i64 (trC aa j).l1, .int .i64 (trC aa j).l2, .int .i64 (trC aa j).b1, .int .i64 (trC aa j).b2], .int .i64 (trC aa j).e]) ∧ Below W.heap.size W w' from CE.out j hlt)
          have EN : Hid (trN aa (j + 1) = if (trC aa j).e = 0 then trN aa j + 1 else trN aa j) := Lib.hid rfl
          have ED : Hid (trP aa (j + 1) = if (trC aa j).e = 0 then trP aa j ++ trRow (trC aa j) else trP aa j) := Lib.hid rfl
          have ER : Hid (trRow (trC aa j) = [.int .i64 (trC aa j).at', .int .i64 (trC aa j).l1, .int .i64 (trC aa j).l2, .int .i64 (trC aa j).b1, .int .i64 (trC aa j).b2]) := Lib.hid rfl
          have NB := Lib.hid (trN_le aa j)
          clear CE s0
          generalize (trC aa j).at' = y0 at *
          generalize (trC aa j).l1 = y1 at *
          generalize (trC aa j).l2 = y2 at *
          generalize (trC aa j).b1 = y3 at *
          generalize (trC aa j).b2 = y4 at *
          generalize (trC aa j).e = ye at *
          have x1 := s1.out.c1; have xl := s1.out.lt
          go_wp2_with fail
          refine Calls.mono (CJ.out _ (HT.out.below (HBN.out.trans (HB.out.mono HBN.out.size)))) ?_
          rintro e wn3 ⟨rfl, hb⟩
          replace s1 := Lib.hid ((s1.out.below hb).alloc (.cells #[.int .i64 y0, .int .i64 y1, .int .i64 y2, .int .i64 y3, .int .i64 y4] 40))
          replace s2 := Lib.hid ((s2.out.below hb).alloc (.cells #[.int .i64 y0, .int .i64 y1, .int .i64 y2, .int .i64 y3, .int .i64 y4] 40))
          have HB3 := HB.out.trans (hb.mono HB.out.size)
          clear hb
          have Hkl3 := Lib.hid HB3.size; replace HB := Lib.hid (HB3.alloc HB3.size (.cells #[.int .i64 y0, .int .i64 y1, .int .i64 y2, .int .i64 y3, .int .i64 y4] 40)); clear HB3
          have s3 := Lib.hid (PtBox.new wn3 (.int .i64 y0) (.int .i64 y1) (.int .i64 y2) (.int .i64 y3) (.int .i64 y4))
          obtain ⟨k3, hk3⟩ : ∃ x, x = wn3.heap.size := ⟨_, rfl⟩
          rw [← hk3] at s3 Hkl3
          go_upto_region 11 with fail
          rw [← hk3]
          obtain ⟨X3, hX3⟩ : ∃ X, X = wn3.alloc (.cells #[.int .i64 y0, .int .i64 y1, .int .i64 y2, .int .i64 y3, .int .i64 y4] 40) := ⟨_, rfl⟩
          rw [← hX3] at s1 s2 s3 HB ⊢
          clear hk3 hX3
          clear x1 xl g1 g2 CJ
          by_cases c : ye = 0
          · subst c
            rw [if_pos rfl] at EN ED
            have z0 := s3.out.c0; have z1 := s3.out.c1; have z2 := s3.out.c2; have z3 := s3.out.c3; have z4 := s3.out.c4; have zl := s3.out.lt
            have hown := s2.out.2
            have hsz := s2.out.1
            have nb := NB.out
            go_wp2_with (at_builtin; refine wpList_append_own _ rfl _ _ 55 rfl wN.heap.size 40 i0 (.agg #[.int .i64 0, .int .i64 0, .int .i64 0, .int .i64 0, .int .i64 0]) 5 40 Tryz.underlying55 hi hy0 hy1 hy2 rfl (by decide) _ _ _ rfl (hown.alloc _) ⟨X3.heap.size, 0, none⟩ 1 1 [.int .i64 y0, .int .i64 y1, .int .i64 y2, .int .i64 y3, .int .i64 y4] rfl rfl ?c1 ?c2 ?c3 ?c4 ?c5 ?_)
            case c1 => have := cells_five (w := X3) (x := .int .i64 y0) (y := .int .i64 y1) (z := .int .i64 y2) (q := .int .i64 y3) (r := .int .i64 y4) (t := 40); simpa using this
            case c2 => intro u hu; simp at hu; rcases hu with rfl | rfl | rfl | rfl | rfl <;> rfl
            case c3 => unfold maxLen; omega
            case c4 => omega
            case c5 => simp; omega
            · intro v' w3 hown' hgrow _
              have hs3 := hgrow.size
              have R : Hid (OwnT w3 wN.heap.size v' (trN aa (j + 1)) (trP aa (j + 1))) := Lib.hid ⟨by simp at hs3; omega, by rw [EN.out, ED.out, ER.out]; exact hown'⟩
              have hb3 := Lib.hid (below_grew (HB.out.alloc HB.out.size (.cells #[.int .i64 y0, .int .i64 y1, .int .i64 y2, .int .i64 y3, .int .i64 y4] 40)) hgrow (hown.alloc _))
              clear hown' hgrow hown hs3 hsz z0 z1 z2 z3 z4 zl
              go_wp2_with fail
              go_roundw
              case rel => exact ⟨j + 1, by omega, by rw [show (j : Int) - 24 + 1 = ((j + 1 : Nat) : Int) - 24 by omega], R, hb3⟩
              case measure => simp [intOf]; omega
          · rw [if_neg c] at EN ED
            have c' : (ye == 0) = false := by simp [c]
            go_wp2_with fail
            go_roundw
            case rel => exact ⟨j + 1, by omega, by rw [show (j : Int) - 24 + 1 = ((j + 1 : Nat) : Int) - 24 by omega], Lib.hid (by rw [EN.out, ED.out]; exact s2.out), HB⟩
            case measure => simp [intOf]; omega
        · obtain rfl : j = 49 := by omega
          clear CE
          go_wp2_with fail
          go_ret2
          have own := s2.out.2
          rw [← HNN.out, ← HXS.out] at own
          exact TrPostP.mk0 (HBN.out.trans (HB.out.mono HBN.out.size)) HBN.out.size own
    · have c1' : (kk == 2) = false := by simp [c1]
      have c1'' : (kk != 2) = true := by simp [c1]
      obtain rfl : te = 6 := by have := HE.out; rw [if_pos rfl, if_neg c1] at this; exact this
      clear HE CE AB
      go_wp2_with fail
      go_ret2
      exact TrPostP.mkE (by decide) HB.out
  · have c0' : (ee == 0) = false := by simp [c0]
    have c0'' : (ee != 0) = true := by simp [c0]
    obtain rfl : te = ee := by have := HE.out; rw [if_neg c0] at this; exact this
    clear HE AB
    go_wp2_with fail
    go_ret2
    exact TrPostP.mkE c0 HB.out
end Go.Proofs.YtcopmgnfakjdhaaGreatDoor
