/- Settle: steps are repeated until nothing changes. -/
import Derived.Test.YtocdboopmfgkpaaDoorStep
namespace Go.Proofs.YtocdboopmfgkpaaDoor
open Go.RowKit
set_option linter.unusedSimpArgs false
set_option linter.unusedVariables false

def iterN (D : NetD) (H : Nat → Nat → Int) : Nat → Nat → Nat → Int
  | 0 => H
  | k + 1 => stepN D (iterN D H k)
def SettlePost (D : NetD) (L : NetL) (base : Nat) (H : Nat → Nat → Int) (m : Nat) (w : World) (e : Ending) (w' : World) : Prop :=
  ∃ (L' : NetL) (k : Nat), k ≤ m ∧ e = .returned (.int .i64 k) ∧ (∀ i, i < D.n → ∀ a, a < D.K → stepN D (iterN D H k) i a = iterN D H k i a) ∧ NetW D L' base w' (iterN D H k) ∧ w.grownBy w' (some L.b) ∧ L'.b = L.b ∧ L'.bk = L.bk ∧ L'.bn = L.bn ∧ L'.nb = L.nb ∧ w.heap.size ≤ L'.bh ∧ ∀ i, i < D.n → w.heap.size ≤ L'.hb i
/-- Between two steps. -/
def SetR (D : NetD) (L : NetL) (base : Nat) (H : Nat → Nat → Int) (m : Nat) (w : World) (s : Value) (wv : World) : Prop :=
  ∃ (L1 : NetL) (k : Nat), k ≤ m ∧ s = .int .i64 k ∧ NetW D L1 base wv (iterN D H k) ∧ w.grownBy wv (some L.b) ∧ L1.b = L.b ∧ L1.bk = L.bk ∧ L1.bn = L.bn ∧ L1.nb = L.nb ∧ w.heap.size ≤ wv.heap.size

set_option maxRecDepth 100000 in
set_option maxHeartbeats 4000000 in
theorem settle_ok (D : NetD) (L : NetL) (base : Nat) (H : Nat → Nat → Int) (m : Nat) (w : World) (hD : NetOk D) (h : NetW D L base w H) (hbase : base ≤ w.heap.size) (hm : m ≤ 1000)
    (hfix : ∀ i, i < D.n → ∀ a, a < D.K → stepN D (iterN D H m) i a = iterN D H m i a) :
    Calls Tryd.prog 16 #[.pointer (some ⟨L.b, 0, none⟩)] w (SettlePost D L base H m w) := by
  have HD := Lib.hid hD; have HN := Lib.hid h; have HF := Lib.hid hfix
  clear hD h hfix
  go_enter Tryd.func16, Tryd.ntmps16
  go_wp2_with fail
  go_loopw [3] (fun s wv => SetR D L base H m w s wv) (fun s _ => m + 1 - (intOf s).toNat)
  case atStart => exact ⟨L, 0, Nat.zero_le _, rfl, HN.out, ⟨rfl, rfl, rfl, Nat.le_refl _, fun _ _ _ => rfl⟩, rfl, rfl, rfl, rfl, Nat.le_refl _⟩
  case round =>
    obtain ⟨L1, k, hk, rfl, hN, hg, e1, e2, e3, e4, hsz⟩ := hrel
    have hst := step_ok D L1 base (iterN D H k) _ HD.out hN (Nat.le_trans hbase hsz)
    rw [e1] at hst
    have HST := Lib.hid hst; have HG := Lib.hid hg; have E1 := Lib.hid e1; have E2 := Lib.hid e2; have E3 := Lib.hid e3; have E4 := Lib.hid e4
    clear hN hst hg e1 e2 e3 e4
    go_wp2_with fail
    refine Calls.mono HST.out ?_
    rintro e w1 ⟨L2, rfl, hN2, hg2, f1, f2, f3, f4, f5, f6⟩
    rw [E1.out] at hg2
    have hgr := HG.out.trans hg2
    obtain ⟨c, hc⟩ : ∃ c, c = cntN D (iterN D H k) D.n := ⟨_, rfl⟩
    have hr := cntN_range D (iterN D H k) D.n
    have hz := cntN_zero D (iterN D H k) D.n
    rw [← hc] at hr hz ⊢
    obtain ⟨c0, c1⟩ := hr
    have HZ := Lib.hid hz; have HN2 := Lib.hid hN2; have HGR := Lib.hid hgr; have F1 := Lib.hid f1; have F2 := Lib.hid f2; have F3 := Lib.hid f3; have F4 := Lib.hid f4; have F6 := Lib.hid f6
    have hs1 : w.heap.size ≤ w1.heap.size := hgr.size
    clear hc hz hN2 hgr f1 f2 f3 f4 f6 hg2
    by_cases hpos : 0 < c
    · have hkm : k < m := by
        rcases Nat.lt_or_ge k m with h1 | h1
        · exact h1
        · have e : k = m := by omega
          have := HZ.out.2 (by rw [e]; exact HF.out)
          omega
      go_wp2_with fail
      go_roundw
      case rel => exact ⟨L2, k + 1, by omega, by go_num, HN2.out, HGR.out, F1.out.trans E1.out, F2.out.trans E2.out, F3.out.trans E3.out, F4.out.trans E4.out, hs1⟩
      case measure => simp [intOf]; omega
    · have hfx := HZ.out.1 (by omega)
      have HFX := Lib.hid hfx
      clear hfx
      go_wp2_with fail
      go_ret
      exact ⟨L2, k, hk, rfl, HFX.out, HN2.out.congr HFX.out, HGR.out, F1.out.trans E1.out, F2.out.trans E2.out, F3.out.trans E3.out, F4.out.trans E4.out, by omega, fun i hi => Nat.le_trans hsz (F6.out i hi)⟩

end Go.Proofs.YtocdboopmfgkpaaDoor
