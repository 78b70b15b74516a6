/- The contract of gauge.system. -/
import Derived.Test.YtmeppcoekmoofaaDet
import Derived.RegionTactic
import Derived.BigRegion
import Derived.Deep.DeepCutAuto
namespace Go.Proofs.Ytmeppcoekmoofaa
open Go.RowKit
set_option linter.unusedSimpArgs false
set_option linter.unusedVariables false

theorem mk_rows (n : Nat) (hn : n ≤ 40) (w : World) : (Instr.makeSlice 50 (.int .i64 (n : Int)) (.int .i64 (n : Int))).run Try.prog w = .ok (.slice (some ⟨w.heap.size, 0, none⟩) n n) (w.alloc (.cells (madeCells #[.slice none 0 0] n) 22)) :=
  run_make_row' (P := Try.prog) 50 22 (.slice none 0 0) 24 Try.underlying50 Try.infoGr rfl .i64 .i64 n (by omega) (by omega) w
theorem mk_ints (n : Nat) (hn : n ≤ 40) (w : World) : (Instr.makeSlice 22 (.int .i64 (n : Int)) (.int .i64 (n : Int))).run Try.prog w = .ok (.slice (some ⟨w.heap.size, 0, none⟩) n n) (w.alloc (.cells (madeCells #[.int .i64 0] n) 3)) :=
  run_make_row' (P := Try.prog) 22 3 (.int .i64 0) 8 Try.underlying22 Try.infoGi rfl .i64 .i64 n (by omega) (by omega) w

/-- The matrix and the right side while they are reckoned: ni rows have been made. -/
structure SysL (w wv : World) (ob g n ni : Nat) (rb : Nat → Nat) (F : Gm) (r : Nat → Int) : Prop where
  out : wv.rowIs ob 22 n (fun x => if x < ni then .slice (some ⟨rb x, 0, none⟩) n n else .slice none 0 0)
  row : ∀ x, x < ni → wv.rowIs (rb x) 3 n (fun j => .int .i64 (F x j))
  rg : wv.rowIs g 3 n (fun x => .int .i64 (r x))
  n1 : ob ≠ g
  n2 : ∀ x, x < ni → rb x ≠ ob
  n3 : ∀ x, x < ni → rb x ≠ g
  n4 : ∀ x y, x < y → y < ni → rb x ≠ rb y
  lo : w.heap.size ≤ ob
  lg : w.heap.size ≤ g
  lr : ∀ x, x < ni → w.heap.size ≤ rb x
  bel : Below w.heap.size w wv
theorem SysL.drew {w wv : World} {ob g n ni : Nat} {rb : Nat → Nat} {F : Gm} {r : Nat → Int} (h : SysL w wv ob g n ni rb F r) : SysL w wv.drew ob g n ni rb F r :=
  ⟨h.out, h.row, h.rg, h.n1, h.n2, h.n3, h.n4, h.lo, h.lg, h.lr, h.bel.drew⟩
theorem SysL.congr {w wv : World} {ob g n ni : Nat} {rb : Nat → Nat} {F F' : Gm} {r r' : Nat → Int} (h : SysL w wv ob g n ni rb F r) (e1 : ∀ x j, x < ni → j < n → F x j = F' x j) (e2 : ∀ x, x < n → r x = r' x) : SysL w wv ob g n ni rb F' r' :=
  ⟨h.out, fun x hx => (h.row x hx).congr (fun j hj => by rw [e1 x j hx hj]), h.rg.congr (fun x hx => by rw [e2 x hx]), h.n1, h.n2, h.n3, h.n4, h.lo, h.lg, h.lr, h.bel⟩
theorem SysL.setM {w wv : World} {ob g n ni : Nat} {rb : Nat → Nat} {F : Gm} {r : Nat → Int} (h : SysL w wv ob g n ni rb F r) (x j : Nat) (hx : x < ni) (v : Int) :
    SysL w (wv.setCell ⟨rb x, j, none⟩ (.int .i64 v)) ob g n ni rb (fun a b => if a = x ∧ b = j then v else F a b) r := by
  refine ⟨h.out.setOther (h.n2 x hx).symm _, fun y hy => ?_, h.rg.setOther (h.n3 x hx).symm _, h.n1, h.n2, h.n3, h.n4, h.lo, h.lg, h.lr, h.bel.setCell (h.lr x hx) _⟩
  by_cases e : y = x
  · subst e
    refine ((h.row y hy).set j (.int .i64 v)).congr (fun b hb => ?_)
    by_cases e2 : b = j
    · rw [if_pos e2, if_pos ⟨rfl, e2⟩]
    · rw [if_neg e2, if_neg (fun h => e2 h.2)]
  · have hne : rb y ≠ rb x := by
      rcases Nat.lt_or_gt_of_ne e with h1 | h1
      · exact h.n4 y x h1 hx
      · exact (h.n4 x y h1 hy).symm
    refine ((h.row y hy).setOther hne _).congr (fun b hb => ?_)
    rw [if_neg (fun h => e h.1)]
theorem SysL.setG {w wv : World} {ob g n ni : Nat} {rb : Nat → Nat} {F : Gm} {r : Nat → Int} (h : SysL w wv ob g n ni rb F r) (i : Nat) (v : Int) :
    SysL w (wv.setCell ⟨g, i, none⟩ (.int .i64 v)) ob g n ni rb F (fun a => if a = i then v else r a) := by
  refine ⟨h.out.setOther h.n1 _, fun y hy => (h.row y hy).setOther (h.n3 y hy) _, (h.rg.set i (.int .i64 v)).congr (fun b hb => ?_), h.n1, h.n2, h.n3, h.n4, h.lo, h.lg, h.lr, h.bel.setCell h.lg _⟩
  by_cases e : b = i
  · rw [if_pos e, if_pos e]
  · rw [if_neg e, if_neg e]
theorem SysL.addRow {w wv : World} {ob g n ni : Nat} {rb : Nat → Nat} {F : Gm} {r : Nat → Int} (h : SysL w wv ob g n ni rb F r) (h0 : ∀ j, F ni j = 0) :
    SysL w ((wv.setCell ⟨ob, ni, none⟩ (.slice (some ⟨wv.heap.size, 0, none⟩) n n)).alloc (.cells (madeCells #[.int .i64 0] n) 3)) ob g n (ni + 1) (fun x => if x = ni then wv.heap.size else rb x) F r := by
  have hs := h.bel.size
  have l1 := h.out.lt
  have l2 := h.rg.lt
  refine ⟨?_, fun y hy => ?_, (h.rg.setOther h.n1.symm _).alloc _, h.n1, fun y hy => ?_, fun y hy => ?_, fun y z hyz hz => ?_, h.lo, h.lg, fun y hy => ?_, (h.bel.setCell h.lo _).alloc (by simpa using hs) _⟩
  · refine ((h.out.set ni _).alloc _).congr (fun x hx => ?_)
    by_cases e : x = ni
    · subst e; simp
    · rw [if_neg e]
      by_cases e2 : x < ni
      · rw [if_pos e2, if_pos (by omega), if_neg e]
      · rw [if_neg e2, if_neg (by omega)]
  · by_cases e : y = ni
    · subst e
      simp only [if_true]
      have := World.rowIs_made (wv.setCell ⟨ob, y, none⟩ (.slice (some ⟨wv.heap.size, 0, none⟩) n n)) (.int .i64 0) n 3
      rw [World.size_setCell] at this
      refine this.congr (fun j hj => ?_)
      rw [h0 j]
    · simp only [if_neg e]
      exact ((h.row y (by omega)).setOther (h.n2 y (by omega)) _).alloc _
  · by_cases e : y = ni
    · simp only [if_pos e]; omega
    · simp only [if_neg e]; exact h.n2 y (by omega)
  · by_cases e : y = ni
    · simp only [if_pos e]; omega
    · simp only [if_neg e]; exact h.n3 y (by omega)
  · have hyl := (h.row y (by omega)).lt
    by_cases e : z = ni
    · rw [if_neg (by omega), if_pos e]; omega
    · rw [if_neg (by omega), if_neg e]; exact h.n4 y z hyz (by omega)
  · by_cases e : y = ni
    · simp only [if_pos e]; omega
    · simp only [if_neg e]; exact h.lr y (by omega)

theorem size_1s (w : World) (a : Obj) : (w.alloc a).heap.size = w.heap.size + 1 := by simp
theorem sys_ab (w : World) (n : Nat) : SysL w ((w.alloc (.cells (madeCells #[.slice none 0 0] n) 22)).alloc (.cells (madeCells #[.int .i64 0] n) 3)).drew w.heap.size (w.heap.size + 1) n 0 (fun _ => 0) (fun _ _ => 0) (fun _ => 0) := by
  refine ⟨((World.rowIs_made w (.slice none 0 0) n 22).alloc _).congr (fun x hx => by simp), fun x hx => by omega, ?_, by omega, fun x hx => by omega, fun x hx => by omega, fun x y h1 h2 => by omega, by omega, by omega, fun x hx => by omega, (((Below.refl _ _).alloc (Nat.le_refl _) _).alloc (by simp) _).drew⟩
  have := World.rowIs_made (w.alloc (.cells (madeCells #[.slice none 0 0] n) 22)) (.int .i64 0) n 3
  rw [size_1s] at this
  exact this
theorem sys_ba (w : World) (n : Nat) : SysL w ((w.alloc (.cells (madeCells #[.int .i64 0] n) 3)).alloc (.cells (madeCells #[.slice none 0 0] n) 22)).drew (w.heap.size + 1) w.heap.size n 0 (fun _ => 0) (fun _ _ => 0) (fun _ => 0) := by
  refine ⟨?_, fun x hx => by omega, ((World.rowIs_made w (.int .i64 0) n 3).alloc _).drew, by omega, fun x hx => by omega, fun x hx => by omega, fun x y h1 h2 => by omega, by omega, by omega, fun x hx => by omega, (((Below.refl _ _).alloc (Nat.le_refl _) _).alloc (by simp) _).drew⟩
  have := World.rowIs_made (w.alloc (.cells (madeCells #[.int .i64 0] n) 3)) (.slice none 0 0) n 22
  rw [size_1s] at this
  exact this.drew.congr (fun x hx => by simp)

def SysPost (n m : Nat) (R : Gm) (H : Nat → Int) (w : World) (e : Ending) (w' : World) : Prop :=
  ∃ ob g rb rc, e = .returned (.tuple #[.slice (some ⟨ob, 0, none⟩) n n, .slice (some ⟨g, 0, none⟩) n n]) ∧ GMat w' ob 0 n n rb rc (gm R m) ∧ (∀ i, i < n → w'.cell? ⟨g, i, none⟩ = some (.int .i64 (gr R H m i))) ∧ g < w'.heap.size ∧ Below w.heap.size w w'

/-- Readings that are permitted. -/
structure GRead (R : Gm) (H : Nat → Int) (m n : Nat) : Prop where
  m1 : 1 ≤ m
  m8 : m ≤ 8
  n1 : 1 ≤ n
  n3 : n ≤ 3
  r : ∀ k i, k < m → i < n → -10 ≤ R k i ∧ R k i ≤ 10
  h : ∀ k, k < m → -1000 ≤ H k ∧ H k ≤ 1000
theorem GRead.gm {R : Gm} {H : Nat → Int} {m n : Nat} (h : GRead R H m n) (k i j : Nat) (hk : k ≤ m) (hi : i < n) (hj : j < n) : -800 ≤ gm R k i j ∧ gm R k i j ≤ 800 := by
  have := sumTo_bound (f := fun k => R k i * R k j) (B := 100) k (fun x hx => by have := mul_abs (h.r x i (by omega) hi) (h.r x j (by omega) hj); omega)
  have h8 := h.m8
  have : (k : Int) ≤ 8 := by omega
  unfold Proofs.Ytmeppcoekmoofaa.gm
  omega
theorem GRead.gr {R : Gm} {H : Nat → Int} {m n : Nat} (h : GRead R H m n) (k i : Nat) (hk : k ≤ m) (hi : i < n) : -80000 ≤ gr R H k i ∧ gr R H k i ≤ 80000 := by
  have := sumTo_bound (f := fun k => R k i * H k) (B := 10000) k (fun x hx => by have := mul_abs (h.r x i (by omega) hi) (h.h x (by omega)); omega)
  have h8 := h.m8
  have : (k : Int) ≤ 8 := by omega
  unfold Proofs.Ytmeppcoekmoofaa.gr
  omega

set_option maxRecDepth 100000 in
set_option maxHeartbeats 16000000 in
theorem system_ok (rO oo rcap : Nat) (rb0 rc0 : Nat → Nat) (R : Gm) (m n : Nat) (Ah : Option Addr) (hcap : Nat) (hs : List Int) (w : World) (hM : GMat w rO oo m n rb0 rc0 R) (hH : FlatSl w 1 Ah m hcap hs) (hG : GRead R (ix hs) m n) (hrc : m ≤ rcap) :
    Calls Try.prog 54 #[.slice (some ⟨rO, oo, none⟩) m rcap, .slice Ah m hcap] w (SysPost n m R (ix hs) w) := by
  have m1 := hG.m1; have m8 := hG.m8; have n1 := hG.n1; have n3 := hG.n3
  have k1 := mk_rows n (by omega)
  have k2 := mk_ints n (by omega)
  obtain ⟨hb, ho, hA, hcell⟩ := hH.at' (by omega)
  subst hA
  have hbl := World.block_lt_of_cell? w _ (hcell 0 (by omega))
  simp at hbl
  have hhc := hH.le
  have c0 := hM.out 0 (by omega)
  rw [Nat.add_zero] at c0
  have lO := hM.lt
  have q1 : 0 < m := m1
  have q2 : (m : Int) ≤ 8 := by omega
  have q3 : (n : Int) ≤ 3 := by omega
  have HM := Lib.hid hM; have HG := Lib.hid hG; have HC := Lib.hid hcell
  clear hM hH hG hcell
  go_enter Try.func54, Try.ntmps54
  go_upto_region 2 with (fail)
  go_cut [7, 8] (fun a b wx => ∃ ob g, a = .slice (some ⟨ob, 0, none⟩) n n ∧ b = .slice (some ⟨g, 0, none⟩) n n ∧ SysL w wx ob g n 0 (fun _ => 0) (fun _ _ => 0) (fun _ => 0))
  case first =>
    go_region
    all_goals go_wp2_with fail
    all_goals go_meet
    all_goals first
      | exact ⟨w.heap.size, w.heap.size + 1, rfl, rfl, sys_ab w n⟩
      | exact ⟨w.heap.size + 1, w.heap.size, rfl, rfl, sys_ba w n⟩
  case rest =>
    obtain ⟨ob, g, rfl, rfl, hS⟩ := hcut
    have HS := Lib.hid hS
    clear hS c0
    obtain ⟨H, hH⟩ : ∃ H, H = ix hs := ⟨_, rfl⟩
    have HHH := Lib.hid hH
    rw [← hH] at HG HC
    clear hH
    go_wp2_with fail
    go_loopw [22] (fun i' wv => ∃ (i : Nat) (rb : Nat → Nat), i ≤ n ∧ i' = .int .i64 i ∧ SysL w wv ob g n i rb (gm R m) (fun x => if x < i then gr R H m x else 0)) (fun i' _ => n - (intOf i').toNat)
    case atStart => exact ⟨0, fun _ => 0, by omega, rfl, HS.out.congr (fun x j hx => by omega) (fun x hx => by simp)⟩
    case round =>
      clear HS
      obtain ⟨i, rb, hi, rfl, hS⟩ := hrel
      by_cases hin : i < n
      · have i0 : (0 : Int) ≤ (i : Int) := by omega
        have i1 : (i : Int) < (n : Int) := by omega
        have x0 := hS.out.cell hin
        rw [if_neg (by omega)] at x0
        have x1 := hS.out.frozen i
        have x2 := hS.out.lt
        have HS1 := Lib.hid (SysL.addRow (hS.congr (F' := fun x j => if x = i then 0 else gm R m x j) (fun x j hx hj => by rw [if_neg (by omega)]) (fun x hx => rfl)) (fun j => by rw [if_pos rfl]))
        have neq : wr.heap.size ≠ ob := by omega
        clear hS
        go_wp2_with fail
        obtain ⟨rb', hrb⟩ : ∃ rb' : Nat → Nat, rb' = fun x => if x = i then wr.heap.size else rb x := ⟨_, rfl⟩
        rw [← hrb] at HS1
        clear hrb x0 x1 x2 neq
        go_loopw [32] (fun k' wv => ∃ k : Nat, k ≤ m ∧ k' = .int .i64 k ∧ SysL w wv ob g n (i + 1) rb' (fun x j => if x = i then gm R k i j else gm R m x j) (fun x => if x < i then gr R H m x else if x = i then gr R H k i else 0)) (fun k' _ => m - (intOf k').toNat)
        case atStart => exact ⟨0, by omega, rfl, HS1.out.congr (r' := fun x => if x < i then gr R H m x else if x = i then gr R H 0 i else 0) (fun x j hx hj => rfl) (fun x hx => by
          by_cases e : x < i
          · rw [if_pos e, if_pos e]
          · rw [if_neg e, if_neg e]; split <;> rfl)⟩
        case round =>
          clear HS1
          obtain ⟨k, hk, rfl, hS⟩ := hrel
          by_cases hkm : k < m
          · have k0 : (0 : Int) ≤ (k : Int) := by omega
            have kk1 : (k : Int) < (m : Int) := by omega
            have hMr := HM.out.below hS.bel
            have y0 := hMr.out k hkm
            have y1 := hMr.lt
            have HS2 := Lib.hid hS
            clear hS hMr
            go_wp2_with fail
            obtain ⟨rk, hrk⟩ : ∃ x, x = rb0 k := ⟨_, rfl⟩
            obtain ⟨ck, hck⟩ : ∃ x, x = rc0 k := ⟨_, rfl⟩
            rw [← hrk, ← hck] at y0
            rw [← hrk, ← hck]
            have HRK := Lib.hid hrk; have HCK := Lib.hid hck
            clear hrk hck y0 y1
            go_loopw [38] (fun j' wv => ∃ j : Nat, j ≤ n ∧ j' = .int .i64 j ∧ SysL w wv ob g n (i + 1) rb' (fun x c => if x = i then (if c < j then gm R (k + 1) i c else gm R k i c) else gm R m x c) (fun x => if x < i then gr R H m x else if x = i then gr R H k i else 0)) (fun j' _ => n - (intOf j').toNat)
            case atStart => exact ⟨0, by omega, rfl, HS2.out.congr (fun x j hx hj => by simp) (fun x hx => rfl)⟩
            case round =>
              clear HS2
              obtain ⟨j, hj, rfl, hS⟩ := hrel
              by_cases hjn : j < n
              · have j0 : (0 : Int) ≤ (j : Int) := by omega
                have j1 : (j : Int) < (n : Int) := by omega
                have hMr := HM.out.below hS.bel
                have x0 := hS.out.cell hin
                rw [if_pos (by omega)] at x0
                have x1 := (hS.row i (by omega)).cell hjn
                rw [if_pos rfl, if_neg (by omega)] at x1
                have x2 := (hS.row i (by omega)).frozen j
                have x3 := hS.out.lt
                have x4 := (hS.row i (by omega)).lt
                have y1 := hMr.row k hkm i hin
                have y2 := hMr.row k hkm j hjn
                have y3 := hMr.ltR k hkm
                rw [← HRK.out] at y1 y2 y3
                have hcc := hMr.cap k hkm
                rw [← HCK.out] at hcc
                have i2 : (i : Int) < (ck : Int) := by omega
                have j2 : (j : Int) < (ck : Int) := by omega
                obtain ⟨u, hu⟩ : ∃ x, x = R k i := ⟨_, rfl⟩
                obtain ⟨v, hv⟩ : ∃ x, x = R k j := ⟨_, rfl⟩
                obtain ⟨s, hs'⟩ : ∃ x, x = gm R k i j := ⟨_, rfl⟩
                have ru := HG.out.r k i hkm hin
                have rv := HG.out.r k j hkm hjn
                have rs := HG.out.gm k i j (by omega) hin hjn
                rw [← hu] at y1 ru
                rw [← hv] at y2 rv
                rw [← hs'] at x1 rs
                have ruv := mul_abs ru rv
                have p1 : IntKind.i64.wrap (u * v) = u * v := IntWalk.i64_in _ (by omega)
                have p2 : IntKind.i64.wrap (s + u * v) = s + u * v := IntWalk.i64_in _ (by omega)
                have hnx : Hid (s + u * v = gm R (k + 1) i j) := Lib.hid (by rw [hu, hv, hs']; rfl)
                have HS3 := Lib.hid (hS.setM i j (by omega) (s + u * v))
                obtain ⟨b, hbb⟩ : ∃ b, b = rb' i := ⟨_, rfl⟩
                rw [← hbb] at x0 x1 x2 x4 HS3
                have ne1 : b ≠ ob := by rw [hbb]; exact hS.n2 i (by omega)
                have HU := Lib.hid ruv
                clear hS hMr hu hv hs' hbb ruv ru rv
                go_wp2_with fail
                go_region
                all_goals
                  go_wp2_with fail
                  go_roundw
                  case rel => exact ⟨j + 1, by omega, by go_num, (HS3.out.drew).congr (fun x c hx hc => by
                    by_cases e : x = i
                    · subst e
                      rw [if_pos rfl, if_pos rfl]
                      by_cases e2 : c = j
                      · subst e2; rw [if_pos ⟨rfl, rfl⟩, if_pos (by omega), hnx.out]
                      · rw [if_neg (fun h => e2 h.2)]
                        by_cases e3 : c < j
                        · rw [if_pos e3, if_pos (by omega)]
                        · rw [if_neg e3, if_neg (by omega)]
                    · rw [if_neg e, if_neg e, if_neg (fun h => e h.1)]) (fun x hx => rfl)⟩
                  case measure => simp [intOf]; omega
              · have ejn : j = n := by omega
                have hMr := HM.out.below hS.bel
                have x0 := hS.rg.cell hin
                rw [if_neg (by omega), if_pos rfl] at x0
                have x2 := hS.rg.frozen i
                have x3 := hS.rg.lt
                have y1 := hMr.row k hkm i hin
                have y3 := hMr.ltR k hkm
                rw [← HRK.out] at y1 y3
                have hcc := hMr.cap k hkm
                rw [← HCK.out] at hcc
                have i2 : (i : Int) < (ck : Int) := by omega
                have z0 := (hS.bel.cell (p := ⟨hb, ho + k, none⟩) hbl).trans (HC.out k (by omega))
                have kk2 : (k : Int) < (hcap : Int) := by omega
                obtain ⟨u, hu⟩ : ∃ x, x = R k i := ⟨_, rfl⟩
                obtain ⟨v, hv⟩ : ∃ x, x = H k := ⟨_, rfl⟩
                obtain ⟨s, hs'⟩ : ∃ x, x = gr R H k i := ⟨_, rfl⟩
                have ru := HG.out.r k i hkm hin
                have rv := HG.out.h k hkm
                have rs := HG.out.gr k i (by omega) hin
                rw [← hu] at y1 ru
                rw [← hv] at z0 rv
                rw [← hs'] at x0 rs
                have ruv := mul_abs ru rv
                have p1 : IntKind.i64.wrap (u * v) = u * v := IntWalk.i64_in _ (by omega)
                have p2 : IntKind.i64.wrap (s + u * v) = s + u * v := IntWalk.i64_in _ (by omega)
                have hnx : Hid (s + u * v = gr R H (k + 1) i) := Lib.hid (by rw [hu, hv, hs']; rfl)
                have HS3 := Lib.hid (hS.setG i (s + u * v))
                have hbr : hb < wr.heap.size := by have := hS.bel.size; omega
                have hj3 : ¬ (j : Int) < (n : Int) := by omega
                have HEJ := Lib.hid ejn
                have HU := Lib.hid ruv
                clear hS hMr hu hv hs' ruv ru rv ejn
                go_wp2_with fail
                go_region
                all_goals
                  go_wp2_with fail
                  go_roundw
                  case rel => exact ⟨k + 1, by omega, by go_num, (HS3.out.drew).congr (fun x c hx hc => by
                    by_cases e : x = i
                    · subst e
                      rw [if_pos rfl, if_pos rfl, if_pos (by have := HEJ.out; omega)]
                    · rw [if_neg e, if_neg e]) (fun x hx => by
                    by_cases e : x = i
                    · subst e
                      rw [if_pos rfl, if_neg (by omega), if_pos rfl, hnx.out]
                    · rw [if_neg e, if_neg e, if_neg e])⟩
                  case measure => simp [intOf]; omega
          · obtain rfl : k = m := by omega
            have HS2 := Lib.hid hS
            clear hS
            go_wp2_with fail
            go_roundw
            case rel => exact ⟨i + 1, rb', by omega, by go_num, HS2.out.congr (fun x c hx hc => by
              by_cases e : x = i
              · subst e; rw [if_pos rfl]
              · rw [if_neg e]) (fun x hx => by
              by_cases e : x < i
              · rw [if_pos e, if_pos (by omega)]
              · rw [if_neg e]
                by_cases e2 : x = i
                · subst e2; rw [if_pos rfl, if_pos (by omega)]
                · rw [if_neg e2, if_neg (by omega)])⟩
            case measure => simp [intOf]; omega
      · obtain rfl : i = n := by omega
        have HS2 := Lib.hid hS
        clear hS
        go_wp2_with fail
        go_returns
        refine ⟨ob, g, rb, fun _ => i, rfl, ⟨fun k hk => ?_, fun k hk j hj => (HS2.out.row k hk).cell hj, HS2.out.out.lt, fun k hk => (HS2.out.row k hk).lt, fun k hk => Nat.le_refl _⟩, fun k hk => ?_, HS2.out.rg.lt, HS2.out.bel⟩
        · rw [Nat.zero_add]
          have := HS2.out.out.cell hk
          rw [if_pos hk] at this
          exact this
        · have := HS2.out.rg.cell hk
          rw [if_pos hk] at this
          rw [← HHH.out]
          exact this

end Go.Proofs.Ytmeppcoekmoofaa
