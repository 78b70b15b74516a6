/- Rules in memory; forecast.Check. -/
import Derived.Test.YtdifeoahaegjbaaDoorZone
namespace Go.Proofs.YtdifeoahaegjbaaDoor
open Go.RowKit
set_option linter.unusedSimpArgs false
set_option linter.unusedVariables false

structure Rul where
  mo : Int
  we : Int
  wd : Int
  ms : Int
  off : Int
  lab : ByteArray
def rulD : Rul := ⟨0, 0, 0, 0, 0, ⟨#[]⟩⟩
def rl (l : List Rul) (i : Nat) : Rul := l.getD i rulD
structure RulRng (c : Rul) : Prop where
  mo : I64 c.mo
  we : I64 c.we
  wd : I64 c.wd
  ms : I64 c.ms
  off : I64 c.off
  lab : c.lab.size ≤ 9223372036854775807
structure RulCells (w : World) (b o : Nat) (c : Rul) : Prop where
  c0 : w.cell? ⟨b, o, none⟩ = some (.int .i64 c.mo)
  c1 : w.cell? ⟨b, o + 1, none⟩ = some (.int .i64 c.we)
  c2 : w.cell? ⟨b, o + 2, none⟩ = some (.int .i64 c.wd)
  c3 : w.cell? ⟨b, o + 3, none⟩ = some (.int .i64 c.ms)
  c4 : w.cell? ⟨b, o + 4, none⟩ = some (.int .i64 c.off)
  c5 : w.cell? ⟨b, o + 5, none⟩ = some (.string c.lab)
theorem RulCells.stay {w w' : World} {b o : Nat} {c : Rul} (h : RulCells w b o c) (hb : Below w.heap.size w w') : RulCells w' b o c :=
  ⟨(hb.cell (p := ⟨b, o, none⟩) (cell_lt h.c0)).trans h.c0, (hb.cell (p := ⟨b, o + 1, none⟩) (cell_lt h.c1)).trans h.c1, (hb.cell (p := ⟨b, o + 2, none⟩) (cell_lt h.c2)).trans h.c2,
   (hb.cell (p := ⟨b, o + 3, none⟩) (cell_lt h.c3)).trans h.c3, (hb.cell (p := ⟨b, o + 4, none⟩) (cell_lt h.c4)).trans h.c4, (hb.cell (p := ⟨b, o + 5, none⟩) (cell_lt h.c5)).trans h.c5⟩
/-- A slice of rules. -/
structure RlSl (w : World) (A : Option Addr) (n cap : Nat) (l : List Rul) : Prop where
  le : n ≤ cap
  most : cap ≤ maxLen
  len : l.length = n
  rng : ∀ i, i < n → RulRng (rl l i)
  mem : 0 < n → ∃ b off, A = some ⟨b, off, none⟩ ∧ ∀ i, i < n → RulCells w b (off + i * 6) (rl l i)
theorem RlSl.stay {w w' : World} {A : Option Addr} {n cap : Nat} {l : List Rul} (h : RlSl w A n cap l) (hb : Below w.heap.size w w') : RlSl w' A n cap l := by
  refine ⟨h.le, h.most, h.len, h.rng, fun hn => ?_⟩
  obtain ⟨b, off, hA, hc⟩ := h.mem hn
  exact ⟨b, off, hA, fun i hi => (hc i hi).stay hb⟩
def rbF (c : Rul) : Nat → Value := fun i => if i = 0 then .int .i64 c.mo else if i = 1 then .int .i64 c.we else if i = 2 then .int .i64 c.wd else if i = 3 then .int .i64 c.ms else if i = 4 then .int .i64 c.off else .string c.lab
/-- Block b holds a rule. -/
def RbBox (w : World) (b : Nat) (c : Rul) : Prop := w.rowIs b 27 6 (rbF c)
section
variable {w w' : World} {b : Nat} {c : Rul}
theorem RbBox.c0 (h : RbBox w b c) : w.cell? ⟨b, 0, none⟩ = some (.int .i64 c.mo) := World.rowIs.cell h (i := 0) (by omega)
theorem RbBox.c1 (h : RbBox w b c) : w.cell? ⟨b, 1, none⟩ = some (.int .i64 c.we) := World.rowIs.cell h (i := 1) (by omega)
theorem RbBox.c2 (h : RbBox w b c) : w.cell? ⟨b, 2, none⟩ = some (.int .i64 c.wd) := World.rowIs.cell h (i := 2) (by omega)
theorem RbBox.c3 (h : RbBox w b c) : w.cell? ⟨b, 3, none⟩ = some (.int .i64 c.ms) := World.rowIs.cell h (i := 3) (by omega)
theorem RbBox.c4 (h : RbBox w b c) : w.cell? ⟨b, 4, none⟩ = some (.int .i64 c.off) := World.rowIs.cell h (i := 4) (by omega)
theorem RbBox.c5 (h : RbBox w b c) : w.cell? ⟨b, 5, none⟩ = some (.string c.lab) := World.rowIs.cell h (i := 5) (by omega)
theorem RbBox.lt (h : RbBox w b c) : b < w.heap.size := World.rowIs.lt h
theorem RbBox.below (h : RbBox w b c) (hb : Below w.heap.size w w') : RbBox w' b c := World.rowIs.of_block h (hb.block b (World.rowIs.lt h))
theorem RbBox.new (w : World) (c : Rul) : RbBox (w.alloc (.cells #[.int .i64 c.mo, .int .i64 c.we, .int .i64 c.wd, .int .i64 c.ms, .int .i64 c.off, .string c.lab] 27)) w.heap.size c :=
  World.rowIs_alloc w #[.int .i64 c.mo, .int .i64 c.we, .int .i64 c.wd, .int .i64 c.ms, .int .i64 c.off, .string c.lab] 27 (rbF c) (fun i hi => by
    match i, hi with
    | 0, _ => rfl
    | 1, _ => rfl
    | 2, _ => rfl
    | 3, _ => rfl
    | 4, _ => rfl
    | 5, _ => rfl)
end
structure RulOk (c : Rul) : Prop where
  m1 : 1 ≤ c.mo
  m2 : c.mo ≤ 12
  w1 : 1 ≤ c.we
  w2 : c.we ≤ 5
  d1 : 0 ≤ c.wd
  d2 : c.wd ≤ 6
  s1 : 0 ≤ c.ms
  s2 : c.ms < 86400000
  o : offOk c.off = true
  l : labOk c.lab = true
def RulOk1 (l : List Rul) (i : Nat) : Prop := RulOk (rl l i) ∧ (0 < i → (rl l (i - 1)).mo < (rl l i).mo)
def RulesOk (l : List Rul) : Prop := 1 ≤ l.length ∧ l.length ≤ 4 ∧ ∀ i, i < l.length → RulOk1 l i

set_option maxRecDepth 100000 in
set_option maxHeartbeats 16000000 in
theorem fcCheck_ok (A : Option Addr) (n cap : Nat) (l : List Rul) (w : World) (h : RlSl w A n cap l) :
    Calls Tryd.prog 10 #[.slice A n cap] w fun e w' => ∃ r : Int, e = .returned (.int .i64 r) ∧ (r = 0 ↔ RulesOk l) ∧ Below w.heap.size w w' := by
  have H := Lib.hid h
  have HL := Lib.hid h.len
  have hm := h.most; have hle := h.le
  unfold maxLen at hm
  clear h
  by_cases g0 : (n : Int) < 1
  · have G := Lib.hid (show ¬ 1 ≤ n by omega)
    go_enter Tryd.func10, Tryd.ntmps10
    go_wp2_with fail
    go_ret
    exact ⟨2, rfl, ⟨fun h => absurd h (by decide), fun h => absurd (HL.out ▸ h.1) G.out⟩, Below.refl _ _⟩
  by_cases g1 : (4 : Int) < (n : Int)
  · have G := Lib.hid (show ¬ n ≤ 4 by omega)
    go_enter Tryd.func10, Tryd.ntmps10
    go_wp2_with fail
    go_ret
    exact ⟨2, rfl, ⟨fun h => absurd h (by decide), fun h => absurd (HL.out ▸ h.2.1) G.out⟩, Below.refl _ _⟩
  have g2 : decide ((n : Int) < 1) = false := decide_eq_false g0
  have g3 : decide ((4 : Int) < (n : Int)) = false := decide_eq_false g1
  have G := Lib.hid (show 1 ≤ n ∧ n ≤ 4 by omega)
  go_enter Tryd.func10, Tryd.ntmps10
  go_wp2_with fail
  (try rw [g2])
  (try rw [g3])
  clear g2 g3 g0 g1
  go_loopw [15] (fun i' wv => ∃ i : Nat, i ≤ n ∧ i' = .int .i64 i ∧ Hid (∀ j, j < i → RulOk1 l j) ∧ Below w.heap.size w wv) (fun i' _ => n - (intOf i').toNat)
  case atStart => exact ⟨0, by omega, rfl, Lib.hid (fun j hj => absurd hj (by omega)), Below.refl _ _⟩
  case round =>
    obtain ⟨i, hi, rfl, HO, hb⟩ := hrel
    have Hb := Lib.hid hb
    clear hb
    by_cases hin : i < n
    · have i0 : (0 : Int) ≤ (i : Int) := by omega
      have i1 : (i : Int) < (n : Int) := by omega
      have i2 : (i : Int) < (cap : Int) := by omega
      obtain ⟨q, o, hA, hc⟩ := H.out.mem (by omega)
      have HC := Lib.hid (fun W (hb : Below w.heap.size w W) j (hj : j < n) => (hc j hj).stay hb)
      obtain ⟨c, hcd⟩ : ∃ c, c = rl l i := ⟨_, rfl⟩
      have hx := HC.out _ Hb.out i hin
      have rg := H.out.rng i hin
      rw [← hcd] at hx rg
      have HCD := Lib.hid hcd; have HRG := Lib.hid rg
      obtain ⟨x0, x1, x2, x3, x4, x5⟩ := hx
      subst hA
      clear hc hcd rg
      have bw := (Below.refl wr.heap.size wr).alloc (Nat.le_refl _) (.cells #[.int .i64 c.mo, .int .i64 c.we, .int .i64 c.wd, .int .i64 c.ms, .int .i64 c.off, .string c.lab] 27)
      have HP := Lib.hid (RbBox.new wr c)
      have Hb2 := Lib.hid (Hb.out.trans (bw.mono Hb.out.size))
      go_upto_region 6 with fail
      obtain ⟨kp, hkp⟩ : ∃ b, b = wr.heap.size := ⟨_, rfl⟩
      obtain ⟨U, hU⟩ : ∃ U, U = wr.alloc (.cells #[.int .i64 c.mo, .int .i64 c.we, .int .i64 c.wd, .int .i64 c.ms, .int .i64 c.off, .string c.lab] 27) := ⟨_, rfl⟩
      rw [← hU, ← hkp] at HP ⊢
      rw [← hU] at Hb2
      clear bw hkp hU Hb x0 x1 x2 x3 x4 x5
      have x0 := HP.out.c0; have x1 := HP.out.c1; have x2 := HP.out.c2; have x3 := HP.out.c3; have x4 := HP.out.c4; have x5 := HP.out.c5; have xl := HP.out.lt
      by_cases k0 : c.mo < 1
      · have hno : ¬ RulOk1 l i := fun h => by
          have h1 := h.1
          rw [← HCD.out] at h1
          have h2 := h1.m1
          omega
        have HNO := Lib.hid hno
        clear hno
        go_wp2_with fail
        go_ret
        exact ⟨3, rfl, ⟨fun h => absurd h (by decide), fun h => absurd (h.2.2 i (by rw [HL.out]; exact hin)) HNO.out⟩, Hb2.out⟩
      by_cases k1 : (12 : Int) < c.mo
      · have hno : ¬ RulOk1 l i := fun h => by
          have h1 := h.1
          rw [← HCD.out] at h1
          have h2 := h1.m2
          omega
        have HNO := Lib.hid hno
        clear hno
        go_wp2_with fail
        go_ret
        exact ⟨3, rfl, ⟨fun h => absurd h (by decide), fun h => absurd (h.2.2 i (by rw [HL.out]; exact hin)) HNO.out⟩, Hb2.out⟩
      by_cases k2 : c.we < 1
      · have hno : ¬ RulOk1 l i := fun h => by
          have h1 := h.1
          rw [← HCD.out] at h1
          have h2 := h1.w1
          omega
        have HNO := Lib.hid hno
        clear hno
        go_wp2_with fail
        go_ret
        exact ⟨3, rfl, ⟨fun h => absurd h (by decide), fun h => absurd (h.2.2 i (by rw [HL.out]; exact hin)) HNO.out⟩, Hb2.out⟩
      by_cases k3 : (5 : Int) < c.we
      · have hno : ¬ RulOk1 l i := fun h => by
          have h1 := h.1
          rw [← HCD.out] at h1
          have h2 := h1.w2
          omega
        have HNO := Lib.hid hno
        clear hno
        go_wp2_with fail
        go_ret
        exact ⟨3, rfl, ⟨fun h => absurd h (by decide), fun h => absurd (h.2.2 i (by rw [HL.out]; exact hin)) HNO.out⟩, Hb2.out⟩
      by_cases k4 : c.wd < 0
      · have hno : ¬ RulOk1 l i := fun h => by
          have h1 := h.1
          rw [← HCD.out] at h1
          have h2 := h1.d1
          omega
        have HNO := Lib.hid hno
        clear hno
        go_wp2_with fail
        go_ret
        exact ⟨3, rfl, ⟨fun h => absurd h (by decide), fun h => absurd (h.2.2 i (by rw [HL.out]; exact hin)) HNO.out⟩, Hb2.out⟩
      by_cases k5 : (6 : Int) < c.wd
      · have hno : ¬ RulOk1 l i := fun h => by
          have h1 := h.1
          rw [← HCD.out] at h1
          have h2 := h1.d2
          omega
        have HNO := Lib.hid hno
        clear hno
        go_wp2_with fail
        go_ret
        exact ⟨3, rfl, ⟨fun h => absurd h (by decide), fun h => absurd (h.2.2 i (by rw [HL.out]; exact hin)) HNO.out⟩, Hb2.out⟩
      by_cases k6 : c.ms < 0
      · have hno : ¬ RulOk1 l i := fun h => by
          have h1 := h.1
          rw [← HCD.out] at h1
          have h2 := h1.s1
          omega
        have HNO := Lib.hid hno
        clear hno
        go_wp2_with fail
        go_ret
        exact ⟨3, rfl, ⟨fun h => absurd h (by decide), fun h => absurd (h.2.2 i (by rw [HL.out]; exact hin)) HNO.out⟩, Hb2.out⟩
      by_cases k7 : (86400000 : Int) ≤ c.ms
      · have hno : ¬ RulOk1 l i := fun h => by
          have h1 := h.1
          rw [← HCD.out] at h1
          have h2 := h1.s2
          omega
        have HNO := Lib.hid hno
        clear hno
        go_wp2_with fail
        go_ret
        exact ⟨3, rfl, ⟨fun h => absurd h (by decide), fun h => absurd (h.2.2 i (by rw [HL.out]; exact hin)) HNO.out⟩, Hb2.out⟩
      have HK := Lib.hid (And.intro k0 (And.intro k1 (And.intro k2 (And.intro k3 (And.intro k4 (And.intro k5 (And.intro k6 k7)))))))
      by_cases k8 : offOk c.off = true
      · have hof := Lib.hid (fun w => k8 ▸ isOff_ok c.off w)
        have HK8 := Lib.hid k8
        clear k8
        go_wp2_with fail
        refine Calls.mono (hof.out _) ?_
        rintro e _ ⟨rfl, rfl⟩
        clear k0 k1 k2 k3 k4 k5 k6 k7
        by_cases k9 : labOk c.lab = true
        · have hlb := Lib.hid (fun w => k9 ▸ isLabel_ok c.lab w HRG.out.lab)
          have HK9 := Lib.hid k9
          clear k9
          go_wp2_with fail
          refine Calls.mono (hlb.out _) ?_
          rintro e _ ⟨rfl, rfl⟩
          have hok : RulOk c := by
            obtain ⟨k0, k1, k2, k3, k4, k5, k6, k7⟩ := HK.out
            exact ⟨by omega, by omega, by omega, by omega, by omega, by omega, by omega, by omega, HK8.out, HK9.out⟩
          have HOKC := Lib.hid hok
          clear hok
          rcases Nat.eq_zero_or_pos i with hz | hp
          · subst hz
            have hk : RulOk1 l 0 := ⟨by rw [← HCD.out]; exact HOKC.out, fun h => absurd h (by omega)⟩
            have HOK := Lib.hid hk
            clear hk x1 x2 x3 x4 x5
            go_wp2_with fail
            go_quiet (fail)
            go_wp2_with fail
            have Hb5 := Lib.hid (below_drewN Hb2.out nq)
            go_roundw
            case rel => exact ⟨1, by omega, rfl, Lib.hid (fun j hj => by
              have hj0 : j = 0 := by omega
              rw [hj0]; exact HOK.out), Hb5.out⟩
            case measure => simp [intOf]; omega
          · obtain ⟨p, hp1⟩ : ∃ p, i = p + 1 := ⟨i - 1, by omega⟩
            have hsub : (i : Int) - 1 = (p : Int) := by omega
            have p0 : (0 : Int) ≤ (p : Int) := by omega
            have p1 : (p : Int) < (n : Int) := by omega
            have p2 : (p : Int) < (cap : Int) := by omega
            have i3 : (0 : Int) < (i : Int) := by omega
            have hy := HC.out _ Hb2.out p (by omega)
            have y0 := hy.c0
            obtain ⟨mp, hmp⟩ : ∃ a, a = (rl l p).mo := ⟨_, rfl⟩
            rw [← hmp] at y0
            have HMP := Lib.hid hmp; have HPI := Lib.hid hp1
            clear hy hmp hp1 x1 x2 x3 x4 x5
            by_cases c5 : c.mo ≤ mp
            · have hno : ¬ RulOk1 l i := fun h => by
                have h1 := h.2 hp
                rw [show i - 1 = p by have := HPI.out; omega, ← HMP.out, ← HCD.out] at h1
                omega
              have HNO := Lib.hid hno
              clear hno
              go_wp2_with fail
              go_quiet (fail)
              go_wp2_with fail
              go_ret
              exact ⟨9, rfl, ⟨fun h => absurd h (by decide), fun h => absurd (h.2.2 i (by rw [HL.out]; exact hin)) HNO.out⟩, below_drewN Hb2.out nq⟩
            · have hk : RulOk1 l i := ⟨by rw [← HCD.out]; exact HOKC.out, fun _ => by
                rw [show i - 1 = p by have := HPI.out; omega, ← HMP.out, ← HCD.out]; omega⟩
              have HOK := Lib.hid hk
              have c6 : mp < c.mo := by omega
              clear hk c5
              go_wp2_with fail
              go_quiet (fail)
              go_wp2_with fail
              have Hb5 := Lib.hid (below_drewN Hb2.out nq)
              go_roundw
              case rel => exact ⟨i + 1, by omega, by go_num, Lib.hid (fun j hj => by
                rcases (by omega : j < i ∨ j = i) with h | h
                · exact HO.out j h
                · rw [h]; exact HOK.out), Hb5.out⟩
              case measure => simp [intOf]; omega
        · have k10 : labOk c.lab = false := by simpa using k9
          have hlb := Lib.hid (fun w => k10 ▸ isLabel_ok c.lab w HRG.out.lab)
          have hno : ¬ RulOk1 l i := fun h => k9 (by rw [HCD.out]; exact h.1.l)
          have HNO := Lib.hid hno
          clear hno k9 k10
          go_wp2_with fail
          refine Calls.mono (hlb.out _) ?_
          rintro e _ ⟨rfl, rfl⟩
          go_wp2_with fail
          go_ret
          exact ⟨8, rfl, ⟨fun h => absurd h (by decide), fun h => absurd (h.2.2 i (by rw [HL.out]; exact hin)) HNO.out⟩, Hb2.out⟩
      · have k10 : offOk c.off = false := by simpa using k8
        have hof := Lib.hid (fun w => k10 ▸ isOff_ok c.off w)
        have hno : ¬ RulOk1 l i := fun h => k8 (by rw [HCD.out]; exact h.1.o)
        have HNO := Lib.hid hno
        clear hno k8 k10
        go_wp2_with fail
        refine Calls.mono (hof.out _) ?_
        rintro e _ ⟨rfl, rfl⟩
        clear k0 k1 k2 k3 k4 k5 k6 k7
        go_wp2_with fail
        go_ret
        exact ⟨3, rfl, ⟨fun h => absurd h (by decide), fun h => absurd (h.2.2 i (by rw [HL.out]; exact hin)) HNO.out⟩, Hb2.out⟩
    · obtain rfl : i = n := by omega
      go_wp2_with fail
      go_ret
      exact ⟨0, rfl, ⟨fun _ => ⟨by rw [HL.out]; exact G.out.1, by rw [HL.out]; exact G.out.2, fun j hj => HO.out j (by rw [HL.out] at hj; exact hj)⟩, fun _ => rfl⟩, Hb.out⟩
end Go.Proofs.YtdifeoahaegjbaaDoor
