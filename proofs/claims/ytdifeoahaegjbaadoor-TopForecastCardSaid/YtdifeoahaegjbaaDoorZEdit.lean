/- slices.BinarySearchFunc behind all changes; zonetext.edit of an addition at the end. -/
import Derived.Test.YtdifeoahaegjbaaDoorZClone
namespace Go.Proofs.YtdifeoahaegjbaaDoor
open Go.RowKit
set_option linter.unusedSimpArgs false
set_option linter.unusedVariables false

set_option maxRecDepth 100000 in
set_option maxHeartbeats 4000000 in
theorem cmpB_ok (a t : Int) (o : Int) (s : ByteArray) (w : World) (h : a < t) :
    Calls Tryd.prog 36 #[.agg #[.int .i64 a, .int .i64 o, .string s], .int .i64 t] w fun e w' => e = .returned (.int .i64 (-1)) ∧ Below w.heap.size w w' := by
  go_enter Tryd.func36, Tryd.ntmps36
  go_wp2_with fail
  go_ret
  exact ⟨rfl, (by repeat' (first | (with_reducible refine below_drewN ?_ _) | go_grown))⟩

set_option maxRecDepth 100000 in
set_option maxHeartbeats 8000000 in
theorem bsearch_ok (A : Option Addr) (n cap : Nat) (cs : List Chg) (t : Int) (w : World) (h : ChSl w A n cap cs) (hn : n ≤ 400) (ht : ∀ i, i < n → (ch cs i).at' < t) :
    Calls Tryd.prog 35 #[.slice A n cap, .int .i64 t, .func (.func 36) #[] #[]] w fun e w' => e = .returned (.tuple #[.int .i64 n, .bool false]) ∧ Below w.heap.size w w' := by
  have H := Lib.hid h; have HT := Lib.hid ht
  have hle := h.le; have hm := h.most
  unfold maxLen at hm
  clear h ht
  go_enter Tryd.func35, Tryd.ntmps35
  go_wp2_with fail
  go_loopw [9, 10] (fun i' j' wv => ∃ i : Nat, i ≤ n ∧ i' = .int .i64 i ∧ j' = .int .i64 n ∧ Below w.heap.size w wv) (fun i' _ _ => n - (intOf i').toNat)
  case atStart => exact ⟨0, by omega, rfl, rfl, Below.refl _ _⟩
  case round =>
    obtain ⟨i, hi, rfl, rfl, hb⟩ := hrel
    have Hb := Lib.hid hb
    clear hb
    by_cases hin : i < n
    · have i1 : (i : Int) < (n : Int) := by omega
      obtain ⟨q, o, hA, hc⟩ := (H.out.stay Hb.out).mem (by omega)
      subst hA
      obtain ⟨k, hk⟩ : ∃ k, k = (i + n) / 2 := ⟨_, rfl⟩
      have hkn : k < n := by omega
      have hki : i ≤ k := by omega
      obtain ⟨x0, x1, x2⟩ := hc k hkn
      have hlt := HT.out k hkn
      obtain ⟨c, hcc⟩ : ∃ c, c = ch cs k := ⟨_, rfl⟩
      rw [← hcc] at x0 x1 x2 hlt
      have CM := Lib.hid (fun W => cmpB_ok c.at' t c.off c.lab W hlt)
      have p0 : IntKind.i64.wrap ((i : Int) + (n : Int)) = ((i + n : Nat) : Int) := by rw [show (i : Int) + (n : Int) = ((i + n : Nat) : Int) by omega]; exact IntWalk.i64_in _ (by omega)
      subst hk
      have HKI := Lib.hid hki
      clear hcc hc hlt hki
      go_wp2_with fail
      refine Calls.mono (CM.out _) ?_
      rintro e w1 ⟨rfl, hb⟩
      have Hb1 := Lib.hid (Hb.out.trans (hb.mono Hb.out.size))
      have p1 : IntKind.i64.wrap (((i : Int) + (n : Int)) / 2 + 1) = ((i : Int) + (n : Int)) / 2 + 1 := IntWalk.i64_in _ (by omega)
      clear hb x0 x1 x2
      go_wp2_with fail
      go_roundw
      case rel => exact ⟨(i + n) / 2 + 1, by have := HKI.out; omega, by go_num, rfl, Hb1.out⟩
      case measure => have := HKI.out; simp [intOf]; omega
    · obtain rfl : i = n := by omega
      have i1 : ¬ (i : Int) < (i : Int) := by omega
      go_wp2_with fail
      go_returns
      exact ⟨rfl, Hb.out⟩

def ebF (c : Chg) : Nat → Value := fun i => if i = 0 then .int .i64 2 else if i = 1 then .int .i64 c.at' else if i = 2 then .int .i64 c.off else .string c.lab
/-- Block b holds an edit that adds. -/
def EbBox (w : World) (b : Nat) (c : Chg) : Prop := w.rowIs b 38 4 (ebF c)
section
variable {w w' : World} {b : Nat} {c : Chg}
theorem EbBox.c0 (h : EbBox w b c) : w.cell? ⟨b, 0, none⟩ = some (.int .i64 2) := World.rowIs.cell h (i := 0) (by omega)
theorem EbBox.c1 (h : EbBox w b c) : w.cell? ⟨b, 1, none⟩ = some (.int .i64 c.at') := World.rowIs.cell h (i := 1) (by omega)
theorem EbBox.c2 (h : EbBox w b c) : w.cell? ⟨b, 2, none⟩ = some (.int .i64 c.off) := World.rowIs.cell h (i := 2) (by omega)
theorem EbBox.c3 (h : EbBox w b c) : w.cell? ⟨b, 3, none⟩ = some (.string c.lab) := World.rowIs.cell h (i := 3) (by omega)
theorem EbBox.lt (h : EbBox w b c) : b < w.heap.size := World.rowIs.lt h
theorem EbBox.alloc (h : EbBox w b c) (o : Obj) : EbBox (w.alloc o) b c := World.rowIs.alloc h o
theorem EbBox.below (h : EbBox w b c) (hb : Below w.heap.size w w') : EbBox w' b c := World.rowIs.of_block h (hb.block b (World.rowIs.lt h))
theorem EbBox.new (w : World) (c : Chg) : EbBox (w.alloc (.cells #[.int .i64 2, .int .i64 c.at', .int .i64 c.off, .string c.lab] 38)) w.heap.size c :=
  World.rowIs_alloc w #[.int .i64 2, .int .i64 c.at', .int .i64 c.off, .string c.lab] 38 (ebF c) (fun i hi => by
    match i, hi with
    | 0, _ => rfl
    | 1, _ => rfl
    | 2, _ => rfl
    | 3, _ => rfl)
end

set_option maxRecDepth 100000 in
set_option maxHeartbeats 8000000 in
theorem edit_ok (A : Option Addr) (n cap : Nat) (cs : List Chg) (c : Chg) (base : Nat) (w : World) (hr : ChRngs cs) (h : w.ownsRow base 36 3 (.slice A n cap) n (chCs cs)) (hbs : base ≤ w.heap.size) (hn : n ≤ 399) (ht : ∀ i, i < n → (ch cs i).at' < c.at') :
    Calls Tryd.prog 21 #[.slice A n cap, .agg #[.int .i64 2, .int .i64 c.at', .int .i64 c.off, .string c.lab]] w fun e w' => ∃ v, e = .returned (.tuple #[v, .int .i64 0]) ∧ w'.ownsRow base 36 3 v (n + 1) (chCs (cs ++ [c])) ∧ Below base w w' := by
  have H := Lib.hid h
  have HB := Lib.hid hbs
  have HS := Lib.hid (fun W hW => bsearch_ok A n cap cs c.at' W hW (by omega) ht)
  have HC := Lib.hid (show ∀ W, W.ownsRow base 36 3 (.slice A n cap) n (chCs cs) → ChSl W A n cap cs from fun W hW => by
    obtain ⟨A', cap', e, hs⟩ := own_ch hr hW
    simp at e
    obtain ⟨rfl, rfl⟩ := e
    exact hs)
  have HI := Lib.hid (fun b W hW hb hc => insert_ok (.slice A n cap) n cs c b base W hW (by omega) hb hc)
  clear h hbs ht
  have HP := Lib.hid (EbBox.new w c)
  have bw := (Below.refl w.heap.size w).alloc (Nat.le_refl _) (.cells #[.int .i64 2, .int .i64 c.at', .int .i64 c.off, .string c.lab] 38)
  have HO := Lib.hid (own_below H.out bw)
  have Hb := Lib.hid ((Below.refl base w).alloc HB.out (.cells #[.int .i64 2, .int .i64 c.at', .int .i64 c.off, .string c.lab] 38))
  have HZ := Lib.hid (Nat.le_trans HB.out bw.size)
  obtain ⟨k, hk⟩ : ∃ k, k = w.heap.size := ⟨_, rfl⟩
  clear bw
  go_enter Tryd.func21, Tryd.ntmps21
  go_upto_region 8 with fail
  obtain ⟨V, hV⟩ : ∃ V, V = w.alloc (.cells #[.int .i64 2, .int .i64 c.at', .int .i64 c.off, .string c.lab] 38) := ⟨_, rfl⟩
  rw [← hV] at HP HO Hb HZ ⊢
  rw [← hk] at HP ⊢
  clear hV hk H HB
  have x1 := HP.out.c1; have xl := HP.out.lt
  go_wp2_with fail
  refine Calls.mono (HS.out _ (HC.out _ HO.out)) ?_
  rintro e w1 ⟨rfl, hb⟩
  have HP1 := Lib.hid (HP.out.below hb); have HO1 := Lib.hid (own_below HO.out hb); have Hb1 := Lib.hid (Hb.out.trans (hb.mono HZ.out)); have HZ1 := Lib.hid (Nat.le_trans HZ.out hb.size)
  clear hb x1 xl HP HO Hb HZ
  have x1 := HP1.out.c1; have x2 := HP1.out.c2; have x3 := HP1.out.c3; have xl := HP1.out.lt
  have HG := Lib.hid (CgBox.new w1 (.int .i64 c.at') (.int .i64 c.off) (.string c.lab))
  have bw := (Below.refl w1.heap.size w1).alloc (Nat.le_refl _) (.cells #[.int .i64 c.at', .int .i64 c.off, .string c.lab] 36)
  have HO2 := Lib.hid (own_below HO1.out bw)
  have Hb2 := Lib.hid (Hb1.out.trans (bw.mono HZ1.out))
  have HZ2 := Lib.hid (Nat.le_trans HZ1.out bw.size)
  clear bw HO1 Hb1 HP1
  go_wp2_with fail
  refine Calls.mono (HI.out _ _ HO2.out HZ2.out HG.out) ?_
  rintro e w2 ⟨v, rfl, hown, hb⟩
  have HR := Lib.hid hown; have Hb3 := Lib.hid (Hb2.out.trans hb)
  clear hown hb x1 x2 x3 xl
  go_wp2_with fail
  go_returns
  exact ⟨v, rfl, HR.out, Hb3.out⟩
end Go.Proofs.YtdifeoahaegjbaaDoor
