/- slices.SortStableFunc over edits that are in order: nothing moves. -/
import Derived.Test.YtdifeoahaegjbaaDoorZMake
namespace Go.Proofs.YtdifeoahaegjbaaDoor
open Go.RowKit
set_option linter.unusedSimpArgs false
set_option linter.unusedVariables false

def IncAt (cs : List Chg) : Prop := ∀ i, i + 1 < cs.length → (ch cs i).at' < (ch cs (i + 1)).at'
def InstBd (cs : List Chg) : Prop := ∀ i, i < cs.length → -1000000000000000 ≤ (ch cs i).at' ∧ (ch cs i).at' ≤ 1000000000000000
set_option maxRecDepth 100000 in
set_option maxHeartbeats 4000000 in
theorem cmpE_ok (a b : Int) (o p : Int) (s t : ByteArray) (k l : Int) (w : World) (ha : -1000000000000000 ≤ a ∧ a ≤ 1000000000000000) (hb : -1000000000000000 ≤ b ∧ b ≤ 1000000000000000) :
    Calls Tryd.prog 18 #[.agg #[.int .i64 k, .int .i64 a, .int .i64 o, .string s], .agg #[.int .i64 l, .int .i64 b, .int .i64 p, .string t]] w fun e w' => e = .returned (.int .i64 (a - b)) ∧ Below w.heap.size w w' := by
  have p1 : IntKind.i64.wrap (a - b) = a - b := IntWalk.i64_in _ (by omega)
  clear ha hb
  go_enter Tryd.func18, Tryd.ntmps18
  go_wp2_with fail
  go_ret
  exact ⟨rfl, (by repeat' (first | (with_reducible refine below_drewN ?_ _) | go_grown))⟩

set_option maxRecDepth 100000 in
set_option maxHeartbeats 8000000 in
theorem insSort_ok (A : Option Addr) (n cap : Nat) (cs : List Chg) (a : Nat) (w : World) (h : EdSl w A n cap cs) (hi : IncAt cs) (hbd : InstBd cs) (hn : n ≤ 1000) (ha : a ≤ n) :
    Calls Tryd.prog 46 #[.slice A n cap, .int .i64 a, .int .i64 n, .func (.func 18) #[] #[]] w fun e w' => e = .returned (.tuple #[]) ∧ Below w.heap.size w w' := by
  have H := Lib.hid h; have HI := Lib.hid hi; have HB := Lib.hid hbd
  have hl := h.len; have hle := h.le; have hm := h.most
  have HL := Lib.hid hl
  unfold maxLen at hm
  have p0 : IntKind.i64.wrap ((a : Int) + 1) = (a : Int) + 1 := IntWalk.i64_in _ (by omega)
  clear h hi hbd hl
  go_enter Tryd.func46, Tryd.ntmps46
  go_wp2_with fail
  go_loopw [8] (fun i' wv => ∃ i : Nat, a + 1 ≤ i ∧ i ≤ n + 1 ∧ i' = .int .i64 i ∧ Below w.heap.size w wv) (fun i' _ => n + 1 - (intOf i').toNat)
  case atStart => exact ⟨a + 1, by omega, by omega, by go_num, Below.refl _ _⟩
  case round =>
    obtain ⟨i, hai, hi, rfl, hb⟩ := hrel
    have Hb := Lib.hid hb
    clear hb p0
    by_cases hin : i < n
    · obtain ⟨p, hp⟩ : ∃ p, i = p + 1 := ⟨i - 1, by omega⟩
      have i1 : (i : Int) < (n : Int) := by omega
      obtain ⟨q, o, hA, hc⟩ := (H.out.stay Hb.out).mem (by omega)
      subst hA
      obtain ⟨x0, x1, x2, x3⟩ := hc i (by omega)
      obtain ⟨y0, y1, y2, y3⟩ := hc p (by omega)
      have hlt := HI.out p (by rw [HL.out]; omega)
      have b1 := HB.out i (by rw [HL.out]; omega)
      have b2 := HB.out p (by rw [HL.out]; omega)
      rw [← hp] at hlt
      obtain ⟨c, hcc⟩ : ∃ c, c = ch cs i := ⟨_, rfl⟩
      obtain ⟨d, hd⟩ : ∃ c, c = ch cs p := ⟨_, rfl⟩
      rw [← hcc] at x1 x2 x3 hlt b1
      rw [← hd] at y1 y2 y3 hlt b2
      have CM := Lib.hid (fun W => cmpE_ok c.at' d.at' c.off d.off c.lab d.lab 2 2 W b1 b2)
      have hql : q < wr.heap.size := cell_lt x0
      have hsub : (i : Int) - 1 = (p : Int) := by omega
      have p0 : (0 : Int) ≤ (p : Int) := by omega
      have p1 : (p : Int) < (n : Int) := by omega
      have i0 : (0 : Int) ≤ (i : Int) := by omega
      have p2 : (p : Int) < (cap : Int) := by omega
      have i2 : (i : Int) < (cap : Int) := by omega
      have ai : (a : Int) < (i : Int) := by omega
      have hng : ¬ c.at' - d.at' < 0 := by omega
      have HP := Lib.hid hp
      have HX := Lib.hid (fun W (hb : Below wr.heap.size wr W) => (⟨(hb.cell (p := ⟨q, o + i * 4, none⟩) hql).trans x0, (hb.cell (p := ⟨q, o + i * 4 + 1, none⟩) hql).trans x1, (hb.cell (p := ⟨q, o + i * 4 + 2, none⟩) hql).trans x2, (hb.cell (p := ⟨q, o + i * 4 + 3, none⟩) hql).trans x3,
        (hb.cell (p := ⟨q, o + p * 4, none⟩) hql).trans y0, (hb.cell (p := ⟨q, o + p * 4 + 1, none⟩) hql).trans y1, (hb.cell (p := ⟨q, o + p * 4 + 2, none⟩) hql).trans y2, (hb.cell (p := ⟨q, o + p * 4 + 3, none⟩) hql).trans y3, Nat.lt_of_lt_of_le hql hb.size⟩ :
        W.cell? ⟨q, o + i * 4, none⟩ = some (.int .i64 2) ∧ W.cell? ⟨q, o + i * 4 + 1, none⟩ = some (.int .i64 c.at') ∧ W.cell? ⟨q, o + i * 4 + 2, none⟩ = some (.int .i64 c.off) ∧ W.cell? ⟨q, o + i * 4 + 3, none⟩ = some (.string c.lab) ∧
        W.cell? ⟨q, o + p * 4, none⟩ = some (.int .i64 2) ∧ W.cell? ⟨q, o + p * 4 + 1, none⟩ = some (.int .i64 d.at') ∧ W.cell? ⟨q, o + p * 4 + 2, none⟩ = some (.int .i64 d.off) ∧ W.cell? ⟨q, o + p * 4 + 3, none⟩ = some (.string d.lab) ∧ q < W.heap.size))
      have HBW := Lib.hid (fun W (hb : Below wr.heap.size wr W) => Hb.out.trans (hb.mono Hb.out.size))
      clear hcc hd hc hp hlt b1 b2 x0 x1 x2 x3 y0 y1 y2 y3 hql
      have HN := Lib.hid hng
      have HF := Lib.hid (And.intro p0 (And.intro p1 (And.intro i0 (And.intro p2 (And.intro i2 (And.intro ai hsub))))))
      clear hng p0 p1 i0 p2 i2 ai hsub
      go_wp2_with fail
      obtain ⟨w0, hw0⟩ : ∃ x, x = wr := ⟨_, rfl⟩
      rw [← hw0] at HX HBW ⊢
      clear hw0 Hb
      go_loopw [9] (fun j' wv => j' = .int .i64 i ∧ Below w0.heap.size w0 wv) (fun _ _ => 0)
      case atStart => exact ⟨rfl, Below.refl _ _⟩
      case round =>
        obtain ⟨rfl, hb⟩ := hrel
        have Hb := Lib.hid hb
        obtain ⟨x0, x1, x2, x3, y0, y1, y2, y3, hql⟩ := HX.out _ hb
        obtain ⟨p0, p1, i0, p2, i2, ai, hsub⟩ := HF.out
        have hwp : IntKind.i64.wrap (p : Int) = (p : Int) := IntWalk.i64_in _ (by omega)
        clear hb
        go_wp2_with fail
        obtain ⟨Q, hQ⟩ : ∃ Q, Q = (wr).drew := ⟨_, rfl⟩
        have xQ0 : Q.cell? ⟨q, o + i * 4, none⟩ = some (.int .i64 2) := by rw [hQ]; exact (x0)
        have xQ1 : Q.cell? ⟨q, o + i * 4 + 1, none⟩ = some (.int .i64 c.at') := by rw [hQ]; exact (x1)
        have xQ2 : Q.cell? ⟨q, o + i * 4 + 2, none⟩ = some (.int .i64 c.off) := by rw [hQ]; exact (x2)
        have xQ3 : Q.cell? ⟨q, o + i * 4 + 3, none⟩ = some (.string c.lab) := by rw [hQ]; exact (x3)
        have xQ4 : Q.cell? ⟨q, o + p * 4, none⟩ = some (.int .i64 2) := by rw [hQ]; exact (y0)
        have xQ5 : Q.cell? ⟨q, o + p * 4 + 1, none⟩ = some (.int .i64 d.at') := by rw [hQ]; exact (y1)
        have xQ6 : Q.cell? ⟨q, o + p * 4 + 2, none⟩ = some (.int .i64 d.off) := by rw [hQ]; exact (y2)
        have xQ7 : Q.cell? ⟨q, o + p * 4 + 3, none⟩ = some (.string d.lab) := by rw [hQ]; exact (y3)
        have lQ0 : q < Q.heap.size := by rw [hQ]; exact (hql)
        have bQ : Below w.heap.size w Q := by rw [hQ]; exact (HBW.out _ Hb.out).drew
        have HxQ0 := Lib.hid xQ0
        have HxQ1 := Lib.hid xQ1
        have HxQ2 := Lib.hid xQ2
        have HxQ3 := Lib.hid xQ3
        have HxQ4 := Lib.hid xQ4
        have HxQ5 := Lib.hid xQ5
        have HxQ6 := Lib.hid xQ6
        have HxQ7 := Lib.hid xQ7
        have HlQ0 := Lib.hid lQ0
        have HbQ := Lib.hid bQ
        have HhQ := Lib.hid hQ
        clear xQ0 xQ1 xQ2 xQ3 xQ4 xQ5 xQ6 xQ7 lQ0 bQ hQ
        go_region_held3 (fun w' => w'.cell? ⟨q, o + i * 4, none⟩ = some (.int .i64 2) ∧ w'.cell? ⟨q, o + i * 4 + 1, none⟩ = some (.int .i64 c.at') ∧ w'.cell? ⟨q, o + i * 4 + 2, none⟩ = some (.int .i64 c.off) ∧ w'.cell? ⟨q, o + i * 4 + 3, none⟩ = some (.string c.lab) ∧ w'.cell? ⟨q, o + p * 4, none⟩ = some (.int .i64 2) ∧ w'.cell? ⟨q, o + p * 4 + 1, none⟩ = some (.int .i64 d.at') ∧ w'.cell? ⟨q, o + p * 4 + 2, none⟩ = some (.int .i64 d.off) ∧ w'.cell? ⟨q, o + p * 4 + 3, none⟩ = some (.string d.lab) ∧ Below Q.heap.size Q w')
          (((try dsimp only); repeat' apply And.intro) <;> (first | (with_reducible assumption) | (go_split_ands; (with_reducible assumption)) | (rw [← HhQ.out]; (first | exact Below.refl _ _ | exact HxQ0.out | exact HxQ1.out | exact HxQ2.out | exact HxQ3.out | exact HxQ4.out | exact HxQ5.out | exact HxQ6.out | exact HxQ7.out)) | go_keep))
          (first
            | ((try go_split_ands); go_at_call 18; refine Calls.mono (CM.out _) ?_; rintro e wq ⟨rfl, hb⟩; (try go_split_ands); have qB : Below Q.heap.size Q wq := (bX_more (by with_reducible assumption) hb); have m0 := bX_oldc qB HlQ0.out HxQ0.out; have m1 := bX_oldc qB HlQ0.out HxQ1.out; have m2 := bX_oldc qB HlQ0.out HxQ2.out; have m3 := bX_oldc qB HlQ0.out HxQ3.out; have m4 := bX_oldc qB HlQ0.out HxQ4.out; have m5 := bX_oldc qB HlQ0.out HxQ5.out; have m6 := bX_oldc qB HlQ0.out HxQ6.out; have m7 := bX_oldc qB HlQ0.out HxQ7.out; clear hb))
        have hYq : Below wr.heap.size wr wq := bX_back (by rw [HhQ.out]; exact (Below.refl _ _).drew) qB
        have Hbq := Lib.hid (Hb.out.trans (hYq.mono Hb.out.size))
        have e0 : decide (c.at' - d.at' < 0) = false := decide_eq_false (by have := HN.out; omega)
        go_split_ands
        rw [e0]
        clear e0 qB hYq
        go_wp2_with fail
        go_roundw
        case rel => exact ⟨i + 1, by omega, by omega, by go_num, HBW.out _ Hbq.out⟩
        case measure => simp [intOf]; omega
    · have i1 : ¬ (i : Int) < (n : Int) := by omega
      go_wp2_with fail
      go_returns
      exact ⟨rfl, Hb.out⟩

set_option maxRecDepth 100000 in
set_option maxHeartbeats 8000000 in
theorem stable_ok (A : Option Addr) (n cap : Nat) (cs : List Chg) (w : World) (h : EdSl w A n cap cs) (hi : IncAt cs) (hbd : InstBd cs) (hn : n ≤ 20) :
    Calls Tryd.prog 33 #[.slice A n cap, .int .i64 n, .func (.func 18) #[] #[]] w fun e w' => e = .returned (.tuple #[]) ∧ Below w.heap.size w w' := by
  have HS := Lib.hid (fun a (ha : a ≤ n) W hW => insSort_ok A n cap cs a W hW hi hbd (by omega) ha)
  have H := Lib.hid h
  clear h hi hbd
  go_enter Tryd.func33, Tryd.ntmps33
  go_wp2_with fail
  go_loopw [7, 8] (fun a' b' wv => ∃ k : Nat, k * 20 ≤ n ∧ a' = .int .i64 ((k * 20 : Nat) : Int) ∧ b' = .int .i64 ((k * 20 + 20 : Nat) : Int) ∧ Below w.heap.size w wv) (fun a' _ _ => 40 - (intOf a').toNat)
  case atStart => exact ⟨0, by omega, rfl, rfl, Below.refl _ _⟩
  case round =>
    obtain ⟨k, hk, rfl, rfl, hb⟩ := hrel
    have Hb := Lib.hid hb
    clear hb
    by_cases h20 : k * 20 + 20 ≤ n
    · obtain rfl : k = 0 := by omega
      obtain rfl : n = 20 := by omega
      go_wp2_with fail
      refine Calls.mono (HS.out 0 (by omega) _ (H.out.stay Hb.out)) ?_
      rintro e w1 ⟨rfl, hb⟩
      have Hb1 := Lib.hid (Hb.out.trans (hb.mono Hb.out.size))
      clear hb
      go_wp2_with fail
      go_roundw
      case rel => exact ⟨_, _, _, _, _, _, _, _, _, _, _, _, _, _, ⟨1, by omega, rfl, rfl, Hb1.out⟩, rfl⟩
      case measure => simp [intOf]
    · have c1 : ¬ (k : Int) * 20 + 20 ≤ (n : Int) := by omega
      have c2 : ¬ (20 : Int) < (n : Int) := by omega
      go_wp2_with fail
      refine Calls.mono (HS.out (k * 20) hk _ (H.out.stay Hb.out)) ?_
      rintro e w1 ⟨rfl, hb⟩
      have Hb1 := Lib.hid (Hb.out.trans (hb.mono Hb.out.size))
      clear hb
      go_wp2_with fail
      go_loopw [6] (fun s6 wv => s6 = .int .i64 20 ∧ Below w.heap.size w wv) (fun _ _ => 0)
      case atStart => exact ⟨rfl, Hb1.out⟩
      case round =>
        obtain ⟨rfl, hb⟩ := hrel
        go_wp2_with fail
        go_returns
        exact ⟨rfl, hb⟩

set_option maxRecDepth 100000 in
set_option maxHeartbeats 4000000 in
theorem sortE_ok (A : Option Addr) (n cap : Nat) (cs : List Chg) (w : World) (h : EdSl w A n cap cs) (hi : IncAt cs) (hbd : InstBd cs) (hn : n ≤ 20) :
    Calls Tryd.prog 17 #[.slice A n cap, .func (.func 18) #[] #[]] w fun e w' => e = .returned (.tuple #[]) ∧ Below w.heap.size w w' := by
  have HS := Lib.hid (stable_ok A n cap cs w h hi hbd hn)
  clear h hi hbd
  go_enter Tryd.func17, Tryd.ntmps17
  go_wp2_with fail
  refine Calls.mono HS.out ?_
  rintro e w1 ⟨rfl, hb⟩
  go_wp2_with fail
  go_returns
  exact ⟨rfl, hb⟩
end Go.Proofs.YtdifeoahaegjbaaDoor
