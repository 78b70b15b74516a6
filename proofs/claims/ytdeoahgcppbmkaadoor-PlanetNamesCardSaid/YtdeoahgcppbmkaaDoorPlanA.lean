/- Merged by wip/tools/pack.py out of XPlanT, XPlanW, XPlanL. -/
import Derived.Test.YtdeoahgcppbmkaaDoorSer
import Derived.Test.YtdeoahgcppbmkaaDoorOwn
import Derived.Laws.Rows
import Derived.RegionTactic
import Derived.ChangeAlike
import Derived.BigRegion
import Derived.Test.YtdeoahgcppbmkaaDoorMoon
import Derived.Test.YtdeoahgcppbmkaaDoorEqu
import Derived.Test.YtdeoahgcppbmkaaDoorSkyLaw
/- Package planet: the table, find, Names, Radius. -/
namespace Go.Proofs.YtdeoahgcppbmkaaDoor
open Go.RowKit
set_option linter.unusedSimpArgs false
set_option linter.unusedVariables false

def pnNames : List (List UInt8) := [[109, 101, 114, 99, 117, 114, 121], [118, 101, 110, 117, 115], [109, 97, 114, 115], [106, 117, 112, 105, 116, 101, 114], [115, 97, 116, 117, 114, 110]]
def pnN (i : Nat) : ByteArray := ⟨(pnNames.getD i []).toArray⟩
def pnRad (i : Nat) : Int := [387, 723, 1524, 5203, 9537].getD i 0
def pnMean (i : Nat) : Int := [986042219, 204930817, 214414189, 589101452, 310632725].getD i 0
def pnRate (i : Nat) : Int := [11367595694444, 4450362055556, 1455613000000, 230792472222, 92900388889].getD i 0
def pnCells : Array Value := #[.string (pnN 0), .int .i64 (pnRad 0), .int .i64 (pnMean 0), .int .i64 (pnRate 0), .string (pnN 1), .int .i64 (pnRad 1), .int .i64 (pnMean 1), .int .i64 (pnRate 1), .string (pnN 2), .int .i64 (pnRad 2), .int .i64 (pnMean 2), .int .i64 (pnRate 2), .string (pnN 3), .int .i64 (pnRad 3), .int .i64 (pnMean 3), .int .i64 (pnRate 3), .string (pnN 4), .int .i64 (pnRad 4), .int .i64 (pnMean 4), .int .i64 (pnRate 4)]
/-- The table of the planets stands. -/
def PlanT (w : World) : Prop := ∃ t fr, w.heap[0]? = some (.cells pnCells t fr)
theorem PlanT.below {w w' : World} (h : PlanT w) (hb : Below w.heap.size w w') : PlanT w' := by
  obtain ⟨t, fr, h⟩ := h
  have hl : 0 < w.heap.size := by
    rcases Nat.lt_or_ge 0 w.heap.size with c | c
    · exact c
    · rw [Array.getElem?_eq_none c] at h; cases h
  exact ⟨t, fr, (hb.block _ hl).trans h⟩
theorem pn_index (k : Nat) (hk : k < 5) : ∀ w : World, (Instr.index 100 (.agg pnCells) (.int .i64 (k : Int))).run Tryd.prog w = .ok (.agg #[.string (pnN k), .int .i64 (pnRad k), .int .i64 (pnMean k), .int .i64 (pnRate k)]) w := fun w => by
  rcases (by omega : k = 0 ∨ k = 1 ∨ k = 2 ∨ k = 3 ∨ k = 4) with rfl | rfl | rfl | rfl | rfl <;> kernel_rfl
theorem infoPStr : (Tryd.prog.info? 9).map (fun i => (i.zero, i.size, i.bytes)) = some (some (.string ⟨#[]⟩), 1, 16) := by kernel_rfl
def pnL (k : Nat) : List Value := (List.range k).map fun i => Value.string (pnN i)
theorem pnL_succ (k : Nat) : pnL (k + 1) = pnL k ++ [.string (pnN k)] := by unfold pnL; rw [List.range_succ, List.map_append]; rfl
theorem pnL_len (k : Nat) : (pnL k).length = k := by unfold pnL; simp
/-- A slice of the names. -/
structure PnSl (w : World) (base : Nat) (v : Value) : Prop where
  own : w.ownsRow base 9 1 v 5 (pnL 5)
theorem PnSl.form {w : World} {base : Nat} {v : Value} (h : PnSl w base v) : ∃ g cap, v = .slice (some ⟨g, 0, none⟩) 5 cap ∧ 5 ≤ cap ∧ cap ≤ maxLen ∧ (∀ i, i < 5 → w.cell? ⟨g, i, none⟩ = some (.string (pnN i))) ∧ g < w.heap.size := by
  obtain ⟨_, h2⟩ := id h.own
  rcases h2 with ⟨rfl, h0⟩ | ⟨g, cap, cur, rfl, hb, hg, hn, hc, hs, ht⟩
  · omega
  · refine ⟨g, cap, rfl, hn, hc, fun i hi => ?_, ?_⟩
    · have := h.own.cellAt i (by omega)
      rw [this]
      rcases (by omega : i = 0 ∨ i = 1 ∨ i = 2 ∨ i = 3 ∨ i = 4) with rfl | rfl | rfl | rfl | rfl <;> rfl
    · rcases Nat.lt_or_ge g w.heap.size with c | c
      · exact c
      · rw [Array.getElem?_eq_none c] at hg; cases hg
set_option maxRecDepth 100000 in
set_option maxHeartbeats 4000000 in
theorem pNames_ok (w : World) (ht : PlanT w) : Calls Tryd.prog 53 #[] w fun e w' => ∃ v, e = .returned v ∧ PnSl w' w.heap.size v ∧ Below w.heap.size w w' := by
  obtain ⟨i0, hi, hy0, hy1, hy2⟩ := info_parts infoPStr
  obtain ⟨t, fr, ht⟩ := ht
  obtain ⟨B, hB⟩ : ∃ B, B = w.heap.size := ⟨_, rfl⟩
  rw [← hB]
  have hbw := Below.refl w.heap.size w
  rw [← hB] at hbw
  have HIX := Lib.hid pn_index
  have HB := Lib.hid hB
  clear hB
  go_enter Tryd.func53, Tryd.ntmps53
  go_wp2_with (first | (refine wpList_load_row rfl 100 _ rfl 0 rfl t pnCells fr _ ht Tryd.underlying100 rfl (by kernel_rfl) ?_))
  generalize pnCells = CS at *
  go_loopw [1, 5] (fun v i wr => ∃ k : Nat, k ≤ 5 ∧ i = .int .i64 k ∧ wr.ownsRow B 9 1 v k (pnL k) ∧ B ≤ wr.heap.size ∧ Below B w wr) (fun _ i _ => 5 - (intOf i).toNat)
  case atStart => exact ⟨0, by omega, rfl, World.ownsRow_nil _ _ _ _, by have := HB.out; omega, hbw⟩
  case round =>
    obtain ⟨k, hk, rfl, hown, hsz, hbl⟩ := hrel
    by_cases hlt : k < 5
    · have ix := HIX.out k hlt
      have hlt2 : (k : Int) < 5 := by omega
      have hlt3 : (0 : Int) ≤ (k : Int) := by omega
      obtain ⟨nmK, hnm⟩ : ∃ x, x = pnN k := ⟨_, rfl⟩
      obtain ⟨r1, h1⟩ : ∃ x, x = pnRad k := ⟨_, rfl⟩
      obtain ⟨r2, h2⟩ : ∃ x, x = pnMean k := ⟨_, rfl⟩
      obtain ⟨r3, h3⟩ : ∃ x, x = pnRate k := ⟨_, rfl⟩
      rw [← hnm, ← h1, ← h2, ← h3] at ix
      have HN := Lib.hid hnm
      have hown1 := hown.alloc (.cells #[.string nmK, .int .i64 r1, .int .i64 r2, .int .i64 r3] 99)
      have hbl1 := hbl.alloc hsz (.cells #[.string nmK, .int .i64 r1, .int .i64 r2, .int .i64 r3] 99)
      clear hnm h1 h2 h3 hown hbl ht
      go_wp2_with (at_builtin; refine wpList_append_own _ rfl _ _ 63 rfl B 9 i0 (.string ⟨#[]⟩) 1 16 Tryd.underlying63 hi hy0 hy1 hy2 rfl (by decide) _ _ _ rfl (hown1.alloc _) ⟨wr.heap.size + 1, 0, none⟩ 1 1 [.string nmK] rfl rfl ?c1 ?c2 ?c3 ?c4 ?c5 ?_)
      case c1 => have := cells_one (w := wr.alloc (.cells #[.string nmK, .int .i64 r1, .int .i64 r2, .int .i64 r3] 99)) (x := .string nmK) (t := 9); simpa using this
      case c2 => intro u hu; simp at hu; subst hu; rfl
      case c3 => unfold maxLen; omega
      case c4 => omega
      case c5 => simp; omega
      · intro v' w3 hown' hgrow _
        have R : w3.ownsRow B 9 1 v' (k + 1) (pnL (k + 1)) := by
          rw [pnL_succ, ← HN.out]; exact hown'
        have hb3 := (hbl1.alloc (by simp; omega) (.cells #[.string nmK] 9)).grown hgrow (by simp; omega) (fun q hq => (hown1.lt q hq).1)
        have hs3 := hgrow.size
        have hs4 : B ≤ w3.heap.size := by simp at hs3; omega
        clear hown' hgrow hown1 hbl1
        go_wp2_with fail
        go_roundw
        case rel => exact ⟨k + 1, by omega, by go_num, R, hs4, hb3⟩
        case measure => simp [intOf]; omega
    · obtain rfl : k = 5 := by omega
      go_wp2_with fail
      go_ret
      exact ⟨_, rfl, ⟨hown⟩, hbl⟩
theorem pn_ne (i k : Nat) (hi : i < 5) (hk : k < i) : ((pnN k).toList == (pnN i).toList) = false := by
  rcases (by omega : i = 0 ∨ i = 1 ∨ i = 2 ∨ i = 3 ∨ i = 4) with rfl | rfl | rfl | rfl | rfl <;>
  rcases (by omega : k = 0 ∨ k = 1 ∨ k = 2 ∨ k = 3) with rfl | rfl | rfl | rfl <;> first | omega | kernel_rfl
/-- A row in memory. -/
def RwBox (w : World) (b : Nat) (x y z u : Value) : Prop := w.rowIs b 99 4 (q4 x y z u)
section
variable {w w' : World} {b : Nat} {x y z u : Value}
theorem RwBox.c0 (h : RwBox w b x y z u) : w.cell? ⟨b, 0, none⟩ = some x := World.rowIs.cell h (i := 0) (by omega)
theorem RwBox.c1 (h : RwBox w b x y z u) : w.cell? ⟨b, 1, none⟩ = some y := World.rowIs.cell h (i := 1) (by omega)
theorem RwBox.c2 (h : RwBox w b x y z u) : w.cell? ⟨b, 2, none⟩ = some z := World.rowIs.cell h (i := 2) (by omega)
theorem RwBox.c3 (h : RwBox w b x y z u) : w.cell? ⟨b, 3, none⟩ = some u := World.rowIs.cell h (i := 3) (by omega)
theorem RwBox.free (h : RwBox w b x y z u) (i : Nat) : w.frozen? ⟨b, i, none⟩ = false := World.rowIs.frozen h i
theorem RwBox.lt (h : RwBox w b x y z u) : b < w.heap.size := World.rowIs.lt h
theorem RwBox.alloc (h : RwBox w b x y z u) (o : Obj) : RwBox (w.alloc o) b x y z u := World.rowIs.alloc h o
theorem RwBox.drew (h : RwBox w b x y z u) : RwBox w.drew b x y z u := h
theorem RwBox.below (h : RwBox w b x y z u) (hb : Below w.heap.size w w') : RwBox w' b x y z u := World.rowIs.of_block h (hb.block b (World.rowIs.lt h))
end
theorem RwBox.new (w : World) (x y z u : Value) : RwBox (w.alloc (.cells #[x, y, z, u] 99)) w.heap.size x y z u :=
  World.rowIs_alloc w #[x, y, z, u] 99 (q4 x y z u) (fun i hi => by
    match i, hi with
    | 0, _ => rfl
    | 1, _ => rfl
    | 2, _ => rfl
    | 3, _ => rfl)
theorem RwBox.put {w : World} {b : Nat} {x y z u : Value} (h : RwBox w b x y z u) (x' y' z' u' : Value) : RwBox ((((w.setCell ⟨b, 0, none⟩ x').setCell ⟨b, 1, none⟩ y').setCell ⟨b, 2, none⟩ z').setCell ⟨b, 3, none⟩ u') b x' y' z' u' :=
  ((((World.rowIs.set h 0 x').set 1 y').set 2 z').set 3 u').congr (fun i hi => by
    match i, hi with
    | 0, _ => rfl
    | 1, _ => rfl
    | 2, _ => rfl
    | 3, _ => rfl)
theorem RwBox.other {w : World} {b : Nat} {x y z u : Value} (h : RwBox w b x y z u) {a : Addr} (ha : b ≠ a.block) (v : Value) : RwBox (w.setCell a v) b x y z u := World.rowIs.setOther h ha v
set_option maxRecDepth 100000 in
set_option maxHeartbeats 8000000 in
theorem pFind_ok (i : Nat) (hi : i < 5) (w : World) (ht : PlanT w) : Calls Tryd.prog 90 #[.string (pnN i)] w fun e w' => e = .returned (.tuple #[.agg #[.string (pnN i), .int .i64 (pnRad i), .int .i64 (pnMean i), .int .i64 (pnRate i)], .int .i64 0]) ∧ Below w.heap.size w w' := by
  have NE := Lib.hid (fun k hk => pn_ne i k hi hk)
  have HIX := Lib.hid pn_index
  obtain ⟨tt, fr, ht⟩ := ht
  obtain ⟨nm, hnm⟩ : ∃ x, x = pnN i := ⟨_, rfl⟩
  obtain ⟨q1, hq1⟩ : ∃ x, x = pnRad i := ⟨_, rfl⟩
  obtain ⟨q2, hq2⟩ : ∃ x, x = pnMean i := ⟨_, rfl⟩
  obtain ⟨q3, hq3⟩ : ∃ x, x = pnRate i := ⟨_, rfl⟩
  rw [← hnm, ← hq1, ← hq2, ← hq3]
  rw [← hnm] at NE
  have HN := Lib.hid hnm; have HQ1 := Lib.hid hq1; have HQ2 := Lib.hid hq2; have HQ3 := Lib.hid hq3
  have B4 := Lib.hid (RwBox.new w (.string ⟨#[]⟩) (.int .i64 0) (.int .i64 0) (.int .i64 0))
  have HBW := Lib.hid (show Below w.heap.size w (w.alloc (.cells #[.string ⟨#[]⟩, .int .i64 0, .int .i64 0, .int .i64 0] 99)) from (by repeat' (first | (with_reducible refine below_drewN ?_ _) | go_grown)))
  obtain ⟨b, hb⟩ : ∃ b, b = w.heap.size := ⟨_, rfl⟩
  rw [← hb] at B4
  have ht2 : (w.alloc (.cells #[.string ⟨#[]⟩, .int .i64 0, .int .i64 0, .int .i64 0] 99)).heap[0]? = some (.cells pnCells tt fr) := by
    have hl : 0 < w.heap.size := by
      rcases Nat.lt_or_ge 0 w.heap.size with c | c
      · exact c
      · rw [Array.getElem?_eq_none c] at ht; cases ht
    exact (HBW.out.block _ hl).trans ht
  clear hnm hq1 hq2 hq3 ht
  go_enter Tryd.func90, Tryd.ntmps90
  go_wp2_with (first | (refine wpList_load_row rfl 100 _ rfl 0 rfl tt pnCells fr _ ht2 Tryd.underlying100 rfl (by kernel_rfl) ?_))
  rw [← hb]
  have HBQ := Lib.hid hb
  clear ht2 hb
  generalize pnCells = CS at *
  go_loopw [7] (fun i' wv => ∃ k : Nat, k ≤ i ∧ i' = .int .i64 k ∧ RwBox wv b (.string ⟨#[]⟩) (.int .i64 0) (.int .i64 0) (.int .i64 0) ∧ Below w.heap.size w wv) (fun i' _ => 5 - (intOf i').toNat)
  case atStart => exact ⟨0, by omega, rfl, B4.out, HBW.out⟩
  case round =>
    clear B4 HBW
    obtain ⟨k, hk, rfl, hB4, hbl⟩ := hrel
    have hsz := hbl.size
    have ix := HIX.out k (by omega)
    have hlt2 : (k : Int) < 5 := by omega
    have hlt3 : (0 : Int) ≤ (k : Int) := by omega
    rcases (by omega : k < i ∨ k = i) with hki | rfl
    · obtain ⟨nmK, hnm⟩ : ∃ x, x = pnN k := ⟨_, rfl⟩
      obtain ⟨r1, h1⟩ : ∃ x, x = pnRad k := ⟨_, rfl⟩
      obtain ⟨r2, h2⟩ : ∃ x, x = pnMean k := ⟨_, rfl⟩
      obtain ⟨r3, h3⟩ : ∃ x, x = pnRate k := ⟨_, rfl⟩
      have ne := NE.out k hki
      rw [← hnm, ← h1, ← h2, ← h3] at ix
      rw [← hnm] at ne
      have g1 := Lib.hid (hB4.alloc (.cells #[.string nmK, .int .i64 r1, .int .i64 r2, .int .i64 r3] 99))
      have g3 := Lib.hid (hbl.alloc hsz (.cells #[.string nmK, .int .i64 r1, .int .i64 r2, .int .i64 r3] 99))
      clear hnm h1 h2 h3 hB4 hbl
      go_wp2_with fail
      go_roundw
      case rel => exact ⟨k + 1, by omega, by go_num, g1.out, g3.out⟩
      case measure => simp [intOf]; omega
    · rw [← HN.out, ← HQ1.out, ← HQ2.out, ← HQ3.out] at ix
      have g1 := Lib.hid (hB4.alloc (.cells #[.string nm, .int .i64 q1, .int .i64 q2, .int .i64 q3] 99))
      have g2 := Lib.hid (RwBox.new wr (.string nm) (.int .i64 q1) (.int .i64 q2) (.int .i64 q3))
      have g3 := Lib.hid (hbl.alloc hsz (.cells #[.string nm, .int .i64 q1, .int .i64 q2, .int .i64 q3] 99))
      clear hB4 hbl
      obtain ⟨kq, hkq⟩ : ∃ x, x = wr.heap.size := ⟨_, rfl⟩
      obtain ⟨U, hU⟩ : ∃ x, x = wr.alloc (.cells #[.string nm, .int .i64 q1, .int .i64 q2, .int .i64 q3] 99) := ⟨_, rfl⟩
      rw [← hU] at g1 g2 g3
      rw [← hkq] at g2
      go_upto_region 4 with fail
      rw [← hU, ← hkq]
      clear hU hkq
      have u0 := g2.out.c0; have u1 := g2.out.c1; have u2 := g2.out.c2; have u3 := g2.out.c3
      have v0 := g1.out.c0; have v1 := g1.out.c1; have v2 := g1.out.c2; have v3 := g1.out.c3; have vl := g1.out.lt
      have f0 := g1.out.free 0; have f1 := g1.out.free 1; have f2 := g1.out.free 2; have f3 := g1.out.free 3
      have P := g1.out.put (.string nm) (.int .i64 q1) (.int .i64 q2) (.int .i64 q3)
      have p0 := P.c0; have p1 := P.c1; have p2 := P.c2; have p3 := P.c3
      have HP := Lib.hid P
      have p0' := Lib.hid p0; have p1' := Lib.hid p1; have p2' := Lib.hid p2; have p3' := Lib.hid p3
      clear p0 p1 p2 p3 P
      go_wp2_with fail
      refine bodyPost_ret (v := .tuple #[.agg #[.string nm, .int .i64 q1, .int .i64 q2, .int .i64 q3], .int .i64 0]) ?_ rfl ⟨rfl, ?_⟩
      · have p0 := p0'.out; have p1 := p1'.out; have p2 := p2'.out; have p3 := p3'.out
        simp [results, Tryd.results90, go_sem, *]
      · have hB := HBQ.out
        refine Below.setCell (Below.setCell (Below.setCell (Below.setCell g3.out ?_ _) ?_ _) ?_ _) ?_ _
        all_goals (dsimp only; omega)
set_option maxRecDepth 100000 in
set_option maxHeartbeats 8000000 in
theorem pFind_bad (nm : ByteArray) (hn : ∀ k, k < 5 → ((pnN k).toList == nm.toList) = false) (w : World) (ht : PlanT w) : Calls Tryd.prog 90 #[.string nm] w fun e w' => e = .returned (.tuple #[.agg #[.string ⟨#[]⟩, .int .i64 0, .int .i64 0, .int .i64 0], .int .i64 5]) ∧ Below w.heap.size w w' := by
  have NE := Lib.hid hn
  have HIX := Lib.hid pn_index
  obtain ⟨tt, fr, ht⟩ := ht
  have B4 := Lib.hid (RwBox.new w (.string ⟨#[]⟩) (.int .i64 0) (.int .i64 0) (.int .i64 0))
  have HBW := Lib.hid (show Below w.heap.size w (w.alloc (.cells #[.string ⟨#[]⟩, .int .i64 0, .int .i64 0, .int .i64 0] 99)) from (by repeat' (first | (with_reducible refine below_drewN ?_ _) | go_grown)))
  obtain ⟨b, hb⟩ : ∃ b, b = w.heap.size := ⟨_, rfl⟩
  rw [← hb] at B4
  have ht2 : (w.alloc (.cells #[.string ⟨#[]⟩, .int .i64 0, .int .i64 0, .int .i64 0] 99)).heap[0]? = some (.cells pnCells tt fr) := by
    have hl : 0 < w.heap.size := by
      rcases Nat.lt_or_ge 0 w.heap.size with c | c
      · exact c
      · rw [Array.getElem?_eq_none c] at ht; cases ht
    exact (HBW.out.block _ hl).trans ht
  clear ht hn
  go_enter Tryd.func90, Tryd.ntmps90
  go_wp2_with (first | (refine wpList_load_row rfl 100 _ rfl 0 rfl tt pnCells fr _ ht2 Tryd.underlying100 rfl (by kernel_rfl) ?_))
  rw [← hb]
  have HBQ := Lib.hid hb
  clear ht2 hb
  generalize pnCells = CS at *
  go_loopw [7] (fun i' wv => ∃ k : Nat, k ≤ 5 ∧ i' = .int .i64 k ∧ RwBox wv b (.string ⟨#[]⟩) (.int .i64 0) (.int .i64 0) (.int .i64 0) ∧ Below w.heap.size w wv) (fun i' _ => 5 - (intOf i').toNat)
  case atStart => exact ⟨0, by omega, rfl, B4.out, HBW.out⟩
  case round =>
    clear B4 HBW
    obtain ⟨k, hk, rfl, hB4, hbl⟩ := hrel
    have hsz := hbl.size
    by_cases hlt : k < 5
    · have ix := HIX.out k hlt
      have hlt2 : (k : Int) < 5 := by omega
      have hlt3 : (0 : Int) ≤ (k : Int) := by omega
      obtain ⟨nmK, hnm⟩ : ∃ x, x = pnN k := ⟨_, rfl⟩
      obtain ⟨r1, h1⟩ : ∃ x, x = pnRad k := ⟨_, rfl⟩
      obtain ⟨r2, h2⟩ : ∃ x, x = pnMean k := ⟨_, rfl⟩
      obtain ⟨r3, h3⟩ : ∃ x, x = pnRate k := ⟨_, rfl⟩
      have ne := NE.out k hlt
      rw [← hnm, ← h1, ← h2, ← h3] at ix
      rw [← hnm] at ne
      have g1 := Lib.hid (hB4.alloc (.cells #[.string nmK, .int .i64 r1, .int .i64 r2, .int .i64 r3] 99))
      have g3 := Lib.hid (hbl.alloc hsz (.cells #[.string nmK, .int .i64 r1, .int .i64 r2, .int .i64 r3] 99))
      clear hnm h1 h2 h3 hB4 hbl
      go_wp2_with fail
      go_roundw
      case rel => exact ⟨k + 1, by omega, by go_num, g1.out, g3.out⟩
      case measure => simp [intOf]; omega
    · obtain rfl : k = 5 := by omega
      have v0 := hB4.c0; have v1 := hB4.c1; have v2 := hB4.c2; have v3 := hB4.c3; have vl := hB4.lt
      have f0 := hB4.free 0; have f1 := hB4.free 1; have f2 := hB4.free 2; have f3 := hB4.free 3
      have P := hB4.put (.string ⟨#[]⟩) (.int .i64 0) (.int .i64 0) (.int .i64 0)
      have p0 := P.c0; have p1 := P.c1; have p2 := P.c2; have p3 := P.c3
      have p0' := Lib.hid p0; have p1' := Lib.hid p1; have p2' := Lib.hid p2; have p3' := Lib.hid p3
      have HBL := Lib.hid hbl
      clear p0 p1 p2 p3 P hB4 hbl
      go_wp2_with fail
      refine bodyPost_ret (v := .tuple #[.agg #[.string ⟨#[]⟩, .int .i64 0, .int .i64 0, .int .i64 0], .int .i64 5]) ?_ rfl ⟨rfl, ?_⟩
      · have p0 := p0'.out; have p1 := p1'.out; have p2 := p2'.out; have p3 := p3'.out
        simp [results, Tryd.results90, go_sem, *]
      · have hB := HBQ.out
        refine Below.setCell (Below.setCell (Below.setCell (Below.setCell HBL.out ?_ _) ?_ _) ?_ _) ?_ _
        all_goals (dsimp only; omega)
end Go.Proofs.YtdeoahgcppbmkaaDoor
/- Package planet: Radius, Helio, times, Longitude, Elongation. -/
namespace Go.Proofs.YtdeoahgcppbmkaaDoor
open Go.RowKit
set_option linter.unusedSimpArgs false
set_option linter.unusedVariables false
set_option maxRecDepth 100000 in
set_option maxHeartbeats 4000000 in
theorem Radius_ok (i : Nat) (hi : i < 5) (w : World) (ht : PlanT w) : Calls Tryd.prog 54 #[.string (pnN i)] w fun e w' => e = .returned (.tuple #[.int .i64 (pnRad i), .int .i64 0]) ∧ Below w.heap.size w w' := by
  have P := Lib.hid (fun W h => pFind_ok i hi W h)
  have HT := Lib.hid ht
  generalize pnN i = nm at *
  generalize pnRad i = q1 at *
  generalize pnMean i = q2 at *
  generalize pnRate i = q3 at *
  clear ht
  go_enter Tryd.func54, Tryd.ntmps54
  have HB := Lib.hid (Below.refl w.heap.size w)
  go_wp2_with fail
  refine Calls.mono (P.out _ (HT.out.below HB.out)) ?_
  rintro e wn1 ⟨rfl, hb⟩
  have HB1 := HB.out.trans (hb.mono HB.out.size)
  clear hb
  have Hkl1 := Lib.hid HB1.size; replace HB := Lib.hid (HB1.alloc HB1.size (.cells #[.string nm, .int .i64 q1, .int .i64 q2, .int .i64 q3] 99)); clear HB1
  have s1 := Lib.hid (RwBox.new wn1 (.string nm) (.int .i64 q1) (.int .i64 q2) (.int .i64 q3))
  obtain ⟨k1, hk1⟩ : ∃ x, x = wn1.heap.size := ⟨_, rfl⟩
  rw [← hk1] at s1 Hkl1
  go_upto_region 2 with fail
  rw [← hk1]
  obtain ⟨X1, hX1⟩ : ∃ X, X = wn1.alloc (.cells #[.string nm, .int .i64 q1, .int .i64 q2, .int .i64 q3] 99) := ⟨_, rfl⟩
  rw [← hX1] at s1 HB ⊢
  clear hk1 hX1
  have u1 := s1.out.c1
  go_wp2_with fail
  refine bodyPost_ret (v := .tuple #[.int .i64 q1, .int .i64 0]) ?_ rfl ⟨rfl, HB.out⟩
  simp [results, Tryd.results54, go_sem, *]
set_option maxRecDepth 100000 in
set_option maxHeartbeats 4000000 in
theorem Radius_bad (nm : ByteArray) (hn : ∀ k, k < 5 → ((pnN k).toList == nm.toList) = false) (w : World) (ht : PlanT w) : Calls Tryd.prog 54 #[.string nm] w fun e w' => e = .returned (.tuple #[.int .i64 0, .int .i64 5]) ∧ Below w.heap.size w w' := by
  have P := Lib.hid (fun W h => pFind_bad nm hn W h)
  have HT := Lib.hid ht
  clear ht hn
  go_enter Tryd.func54, Tryd.ntmps54
  have HB := Lib.hid (Below.refl w.heap.size w)
  go_wp2_with fail
  refine Calls.mono (P.out _ (HT.out.below HB.out)) ?_
  rintro e wn1 ⟨rfl, hb⟩
  have HB1 := HB.out.trans (hb.mono HB.out.size)
  clear hb
  have Hkl1 := Lib.hid HB1.size; replace HB := Lib.hid (HB1.alloc HB1.size (.cells #[.string ⟨#[]⟩, .int .i64 0, .int .i64 0, .int .i64 0] 99)); clear HB1
  have s1 := Lib.hid (RwBox.new wn1 (.string ⟨#[]⟩) (.int .i64 0) (.int .i64 0) (.int .i64 0))
  obtain ⟨k1, hk1⟩ : ∃ x, x = wn1.heap.size := ⟨_, rfl⟩
  rw [← hk1] at s1 Hkl1
  go_upto_region 2 with fail
  rw [← hk1]
  obtain ⟨X1, hX1⟩ : ∃ X, X = wn1.alloc (.cells #[.string ⟨#[]⟩, .int .i64 0, .int .i64 0, .int .i64 0] 99) := ⟨_, rfl⟩
  rw [← hX1] at s1 HB ⊢
  clear hk1 hX1
  have u1 := s1.out.c1
  go_wp2_with fail
  refine bodyPost_ret (v := .tuple #[.int .i64 0, .int .i64 5]) ?_ rfl ⟨rfl, HB.out⟩
  simp [results, Tryd.results54, go_sem, *]
theorem pn_bd (i : Nat) (hi : i < 5) : 0 ≤ pnMean i ∧ pnMean i ≤ 1000000000 ∧ 0 ≤ pnRate i ∧ pnRate i ≤ 12000000000000 ∧ 387 ≤ pnRad i ∧ pnRad i ≤ 9537 := by
  rcases (by omega : i = 0 ∨ i = 1 ∨ i = 2 ∨ i = 3 ∨ i = 4) with rfl | rfl | rfl | rfl | rfl <;> decide
theorem pn_sum (i : Nat) (hi : i < 5) : SumIn (pnMean i) (pnRate i) 5000 0 [] := by
  have := pn_bd i hi
  exact ⟨by omega, by omega, by omega, by omega, by omega, by omega, by omega, fun j hj => absurd hj (by omega)⟩
/-- The longitude as seen from the sun. -/
def heLo (i : Nat) (t : Int) : Int := anLo (pnMean i) (pnRate i) 5000 [] 0 t
def heHi (i : Nat) (t : Int) : Int := anHi (pnMean i) (pnRate i) 5000 [] 0 t
set_option maxRecDepth 100000 in
set_option maxHeartbeats 4000000 in
theorem Helio_ok (i : Nat) (hi : i < 5) (t : Int) (w : World) (hT : SinT w) (ht : PlanT w) (hin : instOk t = true) : Calls Tryd.prog 89 #[.string (pnN i), .int .i64 t] w fun e w' => e = .returned (.tuple #[.agg #[.int .i64 (heLo i t), .int .i64 (heHi i t)], .int .i64 0]) ∧ Below w.heap.size w w' := by
  have P := Lib.hid (fun W h => pFind_ok i hi W h)
  have A := Lib.hid (fun W (hT : SinT W) => Angle_ok (pnMean i) (pnRate i) 5000 t none 0 0 [] W hT ⟨by omega, by unfold maxLen; omega, rfl, fun h => absurd h (by omega)⟩ (pn_sum i hi) hin)
  have e1 : heLo i t = anLo (pnMean i) (pnRate i) 5000 [] 0 t := rfl
  have e2 : heHi i t = anHi (pnMean i) (pnRate i) 5000 [] 0 t := rfl
  rw [← e1, ← e2] at A
  have HP := Lib.hid ht
  have HT := Lib.hid hT
  clear e1 e2 ht hT
  generalize pnN i = nm at *
  generalize pnRad i = q1 at *
  generalize pnMean i = q2 at *
  generalize pnRate i = q3 at *
  generalize heLo i t = lo at *
  generalize heHi i t = hi' at *
  go_enter Tryd.func89, Tryd.ntmps89
  have HB := Lib.hid (Below.refl w.heap.size w)
  obtain ⟨k1, hk1⟩ : ∃ x, x = w.heap.size := ⟨_, rfl⟩
  have s1 := SpBox.new w (0) (0)
  rw [← hk1] at s1
  have Hkl1 := Lib.hid (show w.heap.size ≤ k1 by rw [hk1]; omega)
  go_upto_region 1 with fail
  rw [← hk1]
  have HBn := show Below w.heap.size w (w.alloc (.cells #[.int .i64 (0), .int .i64 (0)] 24)) from (by repeat' (first | (with_reducible refine below_drewN ?_ _) | go_grown))
  obtain ⟨X1, hX1⟩ : ∃ X, X = (w.alloc (.cells #[.int .i64 (0), .int .i64 (0)] 24)) := ⟨_, rfl⟩
  rw [← hX1] at s1 HBn ⊢
  clear hX1  HB
  replace s1 := Lib.hid s1
  have HB := Lib.hid HBn; have HK1 := Lib.hid hk1; clear HBn hk1
  go_wp2_with fail
  refine Calls.mono (P.out _ (HP.out.below HB.out)) ?_
  rintro e wn2 ⟨rfl, hb⟩
  replace s1 := Lib.hid ((s1.out.below hb).alloc (.cells #[.string nm, .int .i64 q1, .int .i64 q2, .int .i64 q3] 99))
  have HB2 := HB.out.trans (hb.mono HB.out.size)
  clear hb
  have Hkl2 := Lib.hid HB2.size; replace HB := Lib.hid (HB2.alloc HB2.size (.cells #[.string nm, .int .i64 q1, .int .i64 q2, .int .i64 q3] 99)); clear HB2
  have s2 := Lib.hid (RwBox.new wn2 (.string nm) (.int .i64 q1) (.int .i64 q2) (.int .i64 q3))
  obtain ⟨k2, hk2⟩ : ∃ x, x = wn2.heap.size := ⟨_, rfl⟩
  rw [← hk2] at s2 Hkl2
  go_upto_region 2 with fail
  rw [← hk2]
  obtain ⟨X2, hX2⟩ : ∃ X, X = wn2.alloc (.cells #[.string nm, .int .i64 q1, .int .i64 q2, .int .i64 q3] 99) := ⟨_, rfl⟩
  rw [← hX2] at s1 s2 HB ⊢
  clear hk2 hX2
  have u2 := s2.out.c2; have u3 := s2.out.c3
  go_wp2_with fail
  refine Calls.mono (A.out _ (HT.out.below HB.out)) ?_
  rintro e wf ⟨rfl, hb⟩
  clear u2 u3
  replace s1 := Lib.hid (s1.out.below hb)
  replace HB := Lib.hid (HB.out.trans (hb.mono HB.out.size))
  clear hb
  have c1_0 := s1.out.c0; have c1_1 := s1.out.c1; have c1_f := s1.out.free 0; have c1_g := s1.out.free 1; have c1_l := s1.out.lt; have c1_k := Hkl1.out
  go_wp2_with fail
  refine bodyPost_ret (v := .tuple #[.agg #[.int .i64 lo, .int .i64 hi'], .int .i64 0]) ?_ rfl ⟨rfl, ?_⟩
  · simp [results, Tryd.results89, go_sem, *]
  · exact (HB.out.setCell (p := ⟨k1, 0, none⟩) c1_k _).setCell (p := ⟨k1, 1, none⟩) c1_k _
/-- A span times a number. -/
theorem tn_eq {a b n : Int} (h : a ≤ b) (hn : 0 ≤ n) : pLo a b n n 1 = a * n ∧ pHi a b n n 1 = b * n := by
  have m := Int.mul_le_mul_of_nonneg_right h hn
  rw [pLo_one, pHi_one]; omega
set_option maxRecDepth 100000 in
set_option maxHeartbeats 4000000 in
theorem pTimes_ok (a b n : Int) (w : World) (h : a ≤ b) (hn : 0 ≤ n) (hn2 : n ≤ 100000) (ha : -1000000000 ≤ a) (hb : b ≤ 1000000000) : Calls Tryd.prog 92 #[.agg #[.int .i64 a, .int .i64 b], .int .i64 n] w fun e w' => e = .returned (.agg #[.int .i64 (a * n), .int .i64 (b * n)]) ∧ Below w.heap.size w w' := by
  have bb : ∀ x : Int, -1000000000 ≤ x → x ≤ 1000000000 → x.natAbs * n.natAbs ≤ 1000000000000000000 := fun x h1 h2 => by
    have := Nat.mul_le_mul (show x.natAbs ≤ 1000000000 by omega) (show n.natAbs ≤ 100000 by omega)
    omega
  have P := Lib.hid (fun w => product_ok a b n n 1 w (by omega) (by omega) (by omega) (by omega) (by omega) (by omega) (bb a (by omega) (by omega)) (bb a (by omega) (by omega)) (bb b (by omega) (by omega)) (bb b (by omega) (by omega)))
  obtain ⟨e1, e2⟩ := tn_eq h hn
  have e3 : ((1 : Nat) : Int) = 1 := rfl
  rw [e3, e1, e2] at P
  clear e1 e2 e3 bb
  generalize a * n = lo at *
  generalize b * n = hi at *
  go_enter Tryd.func92, Tryd.ntmps92
  have HB := Lib.hid (Below.refl w.heap.size w)
  obtain ⟨k1, hk1⟩ : ∃ x, x = w.heap.size := ⟨_, rfl⟩
  have he2 : (w.alloc (.cells #[.int .i64 (a), .int .i64 (b)] 24)).heap.size = k1 + 1 := by simp [hk1]
  have s1 := (SpBox.new w (a) (b)).alloc (.cells #[.int .i64 (0), .int .i64 (0)] 24)
  rw [← hk1] at s1
  have Hkl1 := Lib.hid (show w.heap.size ≤ k1 by rw [hk1]; omega)
  have s2 := SpBox.new (w.alloc (.cells #[.int .i64 (a), .int .i64 (b)] 24)) (0) (0)
  rw [he2] at s2
  have Hkl2 := Lib.hid (show w.heap.size ≤ k1 + 1 by rw [hk1]; omega)
  go_upto_region 1 with fail
  (try rw [he2])
  rw [← hk1]
  obtain ⟨k2, hk2⟩ : ∃ x, x = k1 + 1 := ⟨_, rfl⟩
  rw [← hk2] at s2 Hkl2
  (try rw [← hk2])
  have Hd2_1 := Lib.hid (show k1 < k2 by omega)
  clear hk2
  have HBn := show Below w.heap.size w ((w.alloc (.cells #[.int .i64 (a), .int .i64 (b)] 24)).alloc (.cells #[.int .i64 (0), .int .i64 (0)] 24)) from (by repeat' (first | (with_reducible refine below_drewN ?_ _) | go_grown))
  obtain ⟨X2, hX2⟩ : ∃ X, X = ((w.alloc (.cells #[.int .i64 (a), .int .i64 (b)] 24)).alloc (.cells #[.int .i64 (0), .int .i64 (0)] 24)) := ⟨_, rfl⟩
  rw [← hX2] at s1 s2 HBn ⊢
  clear hX2 he2 HB
  replace s1 := Lib.hid s1
  replace s2 := Lib.hid s2
  have HB := Lib.hid HBn; have HK1 := Lib.hid hk1; clear HBn hk1
  have sc1_0 := s1.out.c0; have sc1_1 := s1.out.c1; have sc1_l := s1.out.lt
  go_wp2_with fail
  refine Calls.mono (P.out _) ?_
  rintro e wf ⟨rfl, hb⟩
  clear sc1_0 sc1_1 sc1_l
  replace s2 := Lib.hid (s2.out.below hb)
  replace HB := Lib.hid (HB.out.trans (hb.mono HB.out.size))
  clear hb
  have c2_0 := s2.out.c0; have c2_1 := s2.out.c1; have c2_f := s2.out.free 0; have c2_g := s2.out.free 1; have c2_l := s2.out.lt; have c2_k := Hkl2.out
  go_wp2_with fail
  refine bodyPost_ret (v := .agg #[.int .i64 lo, .int .i64 hi]) ?_ rfl ⟨rfl, ?_⟩
  · simp [results, Tryd.results92, go_sem, *]
  · exact (HB.out.setCell (p := ⟨k2, 0, none⟩) c2_k _).setCell (p := ⟨k2, 1, none⟩) c2_k _
end Go.Proofs.YtdeoahgcppbmkaaDoor
/- planet.Longitude, Elongation, planetWorks. -/
namespace Go.Proofs.YtdeoahgcppbmkaaDoor
open Go.RowKit
set_option linter.unusedSimpArgs false
set_option linter.unusedVariables false
/-- The box of the direction as seen from the earth. -/
def gYL (i : Nat) (t : Int) : Int := soLo (heLo i t) (heHi i t) * pnRad i + soLo (slLo t) (slHi t) * 1000
def gYH (i : Nat) (t : Int) : Int := soHi (heLo i t) (heHi i t) * pnRad i + soHi (slLo t) (slHi t) * 1000
def gXL (i : Nat) (t : Int) : Int := coLo (heLo i t) (heHi i t) * pnRad i + coLo (slLo t) (slHi t) * 1000
def gXH (i : Nat) (t : Int) : Int := coHi (heLo i t) (heHi i t) * pnRad i + coHi (slLo t) (slHi t) * 1000
/-- The longitude as seen from the earth. -/
def gaL (i : Nat) (t : Int) : Int := arcLo (gYL i t) (gYH i t) (gXL i t) (gXH i t)
def gaH (i : Nat) (t : Int) : Int := arcHi (gYL i t) (gYH i t) (gXL i t) (gXH i t)
def pgLo (i : Nat) (t : Int) : Int := gaL i t % 1000000000
def pgHi (i : Nat) (t : Int) : Int := gaL i t % 1000000000 + gaH i t - gaL i t
structure PgOk (i : Nat) (t : Int) : Prop where
  arc : ArcIn (gYL i t) (gYH i t) (gXL i t) (gXH i t)
  nw : ¬ 400000000 < gaH i t - gaL i t
theorem he_iv (i : Nat) (hi : i < 5) (t : Int) : 0 ≤ heLo i t ∧ heLo i t < 1000000000 ∧ heLo i t ≤ heHi i t ∧ heHi i t ≤ 130000000000 := an_bd (pn_sum i hi)
set_option maxRecDepth 100000 in
set_option maxHeartbeats 16000000 in
theorem pLong_ok (i : Nat) (hi : i < 5) (t : Int) (w : World) (hT : SinT w) (ht : PlanT w) (hin : instOk t = true) (hg : PgOk i t) : Calls Tryd.prog 55 #[.string (pnN i), .int .i64 t] w fun e w' => e = .returned (.tuple #[.agg #[.int .i64 (pgLo i t), .int .i64 (pgHi i t)], .int .i64 0]) ∧ Below w.heap.size w w' := by
  have H := Lib.hid (fun W (hT : SinT W) (h : PlanT W) => Helio_ok i hi t W hT h hin)
  have P := Lib.hid (fun W h => pFind_ok i hi W h)
  have L := Lib.hid (fun W (hT : SinT W) => sunLong_ok t W hT hin)
  have bh := he_iv i hi t
  have bs : 0 ≤ slLo t ∧ slLo t < 1000000000 ∧ slLo t ≤ slHi t ∧ slHi t ≤ 130000000000 := an_bd sun_in
  have bd := pn_bd i hi
  have S1 := Lib.hid (fun W (hT : SinT W) => SinOver_ok (heLo i t) (heHi i t) W hT ⟨by omega, by omega, by omega⟩)
  have S2 := Lib.hid (fun W (hT : SinT W) => CosOver_ok (heLo i t) (heHi i t) W hT ⟨by omega, by omega, by omega⟩)
  have S3 := Lib.hid (fun W (hT : SinT W) => SinOver_ok (slLo t) (slHi t) W hT ⟨by omega, by omega, by omega⟩)
  have S4 := Lib.hid (fun W (hT : SinT W) => CosOver_ok (slLo t) (slHi t) W hT ⟨by omega, by omega, by omega⟩)
  have t1 := so_tms (heLo i t) (heHi i t); have t2 := co_tms (heLo i t) (heHi i t); have t3 := so_tms (slLo t) (slHi t); have t4 := co_tms (slLo t) (slHi t)
  have M1 := Lib.hid (fun w => pTimes_ok (soLo (heLo i t) (heHi i t)) (soHi (heLo i t) (heHi i t)) (pnRad i) w (by omega) (by omega) (by omega) (by omega) (by omega))
  have M2 := Lib.hid (fun w => pTimes_ok (coLo (heLo i t) (heHi i t)) (coHi (heLo i t) (heHi i t)) (pnRad i) w (by omega) (by omega) (by omega) (by omega) (by omega))
  have M3 := Lib.hid (fun w => pTimes_ok (soLo (slLo t) (slHi t)) (soHi (slLo t) (slHi t)) 1000 w (by omega) (by omega) (by omega) (by omega) (by omega))
  have M4 := Lib.hid (fun w => pTimes_ok (coLo (slLo t) (slHi t)) (coHi (slLo t) (slHi t)) 1000 w (by omega) (by omega) (by omega) (by omega) (by omega))
  have e1 : gYL i t = soLo (heLo i t) (heHi i t) * pnRad i + soLo (slLo t) (slHi t) * 1000 := rfl
  have e2 : gYH i t = soHi (heLo i t) (heHi i t) * pnRad i + soHi (slLo t) (slHi t) * 1000 := rfl
  have e3 : gXL i t = coLo (heLo i t) (heHi i t) * pnRad i + coLo (slLo t) (slHi t) * 1000 := rfl
  have e4 : gXH i t = coHi (heLo i t) (heHi i t) * pnRad i + coHi (slLo t) (slHi t) * 1000 := rfl
  obtain ⟨arc, nw⟩ := hg
  have sy := arc.sa; have sz := arc.sb; have sx := arc.sc'; have sw := arc.sd
  have P1 := Lib.hid (fun w => tPlus_ok (soLo (heLo i t) (heHi i t) * pnRad i) (soHi (heLo i t) (heHi i t) * pnRad i) (soLo (slLo t) (slHi t) * 1000) (soHi (slLo t) (slHi t) * 1000) w (by rw [← e1]; unfold Sml at sy; omega) (by rw [← e2]; unfold Sml at sz; omega))
  have P2 := Lib.hid (fun w => tPlus_ok (coLo (heLo i t) (heHi i t) * pnRad i) (coHi (heLo i t) (heHi i t) * pnRad i) (coLo (slLo t) (slHi t) * 1000) (coHi (slLo t) (slHi t) * 1000) w (by rw [← e3]; unfold Sml at sx; omega) (by rw [← e4]; unfold Sml at sw; omega))
  rw [← e1, ← e2] at P1
  rw [← e3, ← e4] at P2
  have AR := Lib.hid (fun w => arcOut_nw (show ¬ 400000000 < arcHi (gYL i t) (gYH i t) (gXL i t) (gXH i t) - arcLo (gYL i t) (gYH i t) (gXL i t) (gXH i t) from nw) ▸ Arc_ok (gYL i t) (gYH i t) (gXL i t) (gXH i t) arc w)
  have q1 : gaL i t = arcLo (gYL i t) (gYH i t) (gXL i t) (gXH i t) := rfl
  have q2 : gaH i t = arcHi (gYL i t) (gYH i t) (gXL i t) (gXH i t) := rfl
  have q3 : pgLo i t = gaL i t % 1000000000 := rfl
  have q4' : pgHi i t = gaL i t % 1000000000 + gaH i t - gaL i t := rfl
  rw [← q1, ← q2, ← q3] at AR
  rw [← q3] at q4'
  rw [← q4'] at AR
  have HT := Lib.hid hT; have HP := Lib.hid ht
  clear bh bs bd t1 t2 t3 t4 e1 e2 e3 e4 arc nw sy sz sx sw q1 q2 q3 q4' hT ht hin
  generalize pgLo i t = lo at *
  generalize pgHi i t = hi' at *
  generalize gYL i t = yl at *
  generalize gYH i t = yh at *
  generalize gXL i t = xl at *
  generalize gXH i t = xh at *
  generalize soLo (heLo i t) (heHi i t) * pnRad i = m1 at *
  generalize soHi (heLo i t) (heHi i t) * pnRad i = m2 at *
  generalize soLo (slLo t) (slHi t) * 1000 = m3 at *
  generalize soHi (slLo t) (slHi t) * 1000 = m4 at *
  generalize coLo (heLo i t) (heHi i t) * pnRad i = m5 at *
  generalize coHi (heLo i t) (heHi i t) * pnRad i = m6 at *
  generalize coLo (slLo t) (slHi t) * 1000 = m7 at *
  generalize coHi (slLo t) (slHi t) * 1000 = m8 at *
  generalize soLo (heLo i t) (heHi i t) = a1 at *
  generalize soHi (heLo i t) (heHi i t) = a2 at *
  generalize coLo (heLo i t) (heHi i t) = a3 at *
  generalize coHi (heLo i t) (heHi i t) = a4 at *
  generalize soLo (slLo t) (slHi t) = b1 at *
  generalize soHi (slLo t) (slHi t) = b2 at *
  generalize coLo (slLo t) (slHi t) = b3 at *
  generalize coHi (slLo t) (slHi t) = b4 at *
  generalize heLo i t = h1 at *
  generalize heHi i t = h2 at *
  generalize slLo t = s1' at *
  generalize slHi t = s2' at *
  generalize pnN i = nm at *
  generalize pnRad i = r1 at *
  generalize pnMean i = r2 at *
  generalize pnRate i = r3 at *
  go_enter Tryd.func55, Tryd.ntmps55
  have HB := Lib.hid (Below.refl w.heap.size w)
  obtain ⟨k1, hk1⟩ : ∃ x, x = w.heap.size := ⟨_, rfl⟩
  have s1 := SpBox.new w (0) (0)
  rw [← hk1] at s1
  have Hkl1 := Lib.hid (show w.heap.size ≤ k1 by rw [hk1]; omega)
  go_upto_region 1 with fail
  rw [← hk1]
  have HBn := show Below w.heap.size w (w.alloc (.cells #[.int .i64 (0), .int .i64 (0)] 24)) from (by repeat' (first | (with_reducible refine below_drewN ?_ _) | go_grown))
  obtain ⟨X1, hX1⟩ : ∃ X, X = (w.alloc (.cells #[.int .i64 (0), .int .i64 (0)] 24)) := ⟨_, rfl⟩
  rw [← hX1] at s1 HBn ⊢
  clear hX1  HB
  replace s1 := Lib.hid s1
  have HB := Lib.hid HBn; have HK1 := Lib.hid hk1; clear HBn hk1
  go_wp2_with fail
  refine Calls.mono (H.out _ (HT.out.below HB.out) (HP.out.below HB.out)) ?_
  rintro e wn2 ⟨rfl, hb⟩
  have Hd2_1 := Lib.hid (s1.out.below hb).lt
  replace s1 := Lib.hid ((s1.out.below hb).alloc (.cells #[.int .i64 (h1), .int .i64 (h2)] 24))
  have HB2 := HB.out.trans (hb.mono HB.out.size)
  clear hb
  have Hkl2 := Lib.hid HB2.size; replace HB := Lib.hid (HB2.alloc HB2.size (.cells #[.int .i64 (h1), .int .i64 (h2)] 24))
  clear HB2
  have s2 := Lib.hid (SpBox.new wn2 (h1) (h2))
  obtain ⟨k2, hk2⟩ : ∃ x, x = wn2.heap.size := ⟨_, rfl⟩
  rw [← hk2] at s2 Hkl2 Hd2_1
  go_upto_region 2 with fail
  rw [← hk2]
  obtain ⟨X2, hX2⟩ : ∃ X, X = wn2.alloc (.cells #[.int .i64 (h1), .int .i64 (h2)] 24) := ⟨_, rfl⟩
  rw [← hX2] at s1 s2 HB ⊢
  clear hk2 hX2
  go_upto_region 4 with fail
  go_wp2_with fail
  refine Calls.mono (P.out _ (HP.out.below HB.out)) ?_
  rintro e wn3 ⟨rfl, hb⟩
  have Hd3_1 := Lib.hid (s1.out.below hb).lt
  have Hd3_2 := Lib.hid (s2.out.below hb).lt
  replace s1 := Lib.hid ((s1.out.below hb).alloc (.cells #[.string nm, .int .i64 r1, .int .i64 r2, .int .i64 r3] 99))
  replace s2 := Lib.hid ((s2.out.below hb).alloc (.cells #[.string nm, .int .i64 r1, .int .i64 r2, .int .i64 r3] 99))
  have HB3 := HB.out.trans (hb.mono HB.out.size)
  clear hb
  have Hkl3 := Lib.hid HB3.size; replace HB := Lib.hid (HB3.alloc HB3.size (.cells #[.string nm, .int .i64 r1, .int .i64 r2, .int .i64 r3] 99)); clear HB3
  have s3 := Lib.hid (RwBox.new wn3 (.string nm) (.int .i64 r1) (.int .i64 r2) (.int .i64 r3))
  obtain ⟨k3, hk3⟩ : ∃ x, x = wn3.heap.size := ⟨_, rfl⟩
  rw [← hk3] at s3 Hkl3 Hd3_1 Hd3_2
  go_upto_region 5 with fail
  rw [← hk3]
  obtain ⟨X3, hX3⟩ : ∃ X, X = wn3.alloc (.cells #[.string nm, .int .i64 r1, .int .i64 r2, .int .i64 r3] 99) := ⟨_, rfl⟩
  rw [← hX3] at s1 s2 s3 HB ⊢
  clear hk3 hX3
  go_wp2_with fail
  refine Calls.mono (L.out _ (HT.out.below HB.out)) ?_
  rintro e wn4 ⟨rfl, hb⟩
  have Hd4_1 := Lib.hid (s1.out.below hb).lt
  have Hd4_2 := Lib.hid (s2.out.below hb).lt
  have Hd4_3 := Lib.hid (s3.out.below hb).lt
  replace s1 := Lib.hid ((s1.out.below hb).alloc (.cells #[.int .i64 (s1'), .int .i64 (s2')] 24))
  replace s2 := Lib.hid ((s2.out.below hb).alloc (.cells #[.int .i64 (s1'), .int .i64 (s2')] 24))
  replace s3 := Lib.hid ((s3.out.below hb).alloc (.cells #[.int .i64 (s1'), .int .i64 (s2')] 24))
  have HB4 := HB.out.trans (hb.mono HB.out.size)
  clear hb
  have Hkl4 := Lib.hid HB4.size; replace HB := Lib.hid (HB4.alloc HB4.size (.cells #[.int .i64 (s1'), .int .i64 (s2')] 24))
  clear HB4
  have s4 := Lib.hid (SpBox.new wn4 (s1') (s2'))
  obtain ⟨k4, hk4⟩ : ∃ x, x = wn4.heap.size := ⟨_, rfl⟩
  rw [← hk4] at s4 Hkl4 Hd4_1 Hd4_2 Hd4_3
  go_upto_region 6 with fail
  rw [← hk4]
  obtain ⟨X4, hX4⟩ : ∃ X, X = wn4.alloc (.cells #[.int .i64 (s1'), .int .i64 (s2')] 24) := ⟨_, rfl⟩
  rw [← hX4] at s1 s2 s3 s4 HB ⊢
  clear hk4 hX4
  have sc2_0 := s2.out.c0; have sc2_1 := s2.out.c1; have sc2_l := s2.out.lt
  go_wp2_with fail
  refine Calls.mono (S1.out _ (HT.out.below HB.out)) ?_
  rintro e wn5 ⟨rfl, hb⟩
  have Hd5_1 := Lib.hid (s1.out.below hb).lt
  have Hd5_2 := Lib.hid (s2.out.below hb).lt
  have Hd5_3 := Lib.hid (s3.out.below hb).lt
  have Hd5_4 := Lib.hid (s4.out.below hb).lt
  replace s1 := Lib.hid ((s1.out.below hb).alloc (.cells #[.int .i64 (a1), .int .i64 (a2)] 24))
  replace s2 := Lib.hid ((s2.out.below hb).alloc (.cells #[.int .i64 (a1), .int .i64 (a2)] 24))
  replace s3 := Lib.hid ((s3.out.below hb).alloc (.cells #[.int .i64 (a1), .int .i64 (a2)] 24))
  replace s4 := Lib.hid ((s4.out.below hb).alloc (.cells #[.int .i64 (a1), .int .i64 (a2)] 24))
  have HB5 := HB.out.trans (hb.mono HB.out.size)
  clear sc2_0 sc2_1 sc2_l
  clear hb
  have Hkl5 := Lib.hid HB5.size; replace HB := Lib.hid (HB5.alloc HB5.size (.cells #[.int .i64 (a1), .int .i64 (a2)] 24))
  clear HB5
  have s5 := Lib.hid (SpBox.new wn5 (a1) (a2))
  obtain ⟨k5, hk5⟩ : ∃ x, x = wn5.heap.size := ⟨_, rfl⟩
  rw [← hk5] at s5 Hkl5 Hd5_1 Hd5_2 Hd5_3 Hd5_4
  go_upto_region 7 with fail
  rw [← hk5]
  obtain ⟨X5, hX5⟩ : ∃ X, X = wn5.alloc (.cells #[.int .i64 (a1), .int .i64 (a2)] 24) := ⟨_, rfl⟩
  rw [← hX5] at s1 s2 s3 s4 s5 HB ⊢
  clear hk5 hX5
  have sc2_0 := s2.out.c0; have sc2_1 := s2.out.c1; have sc2_l := s2.out.lt
  go_wp2_with fail
  refine Calls.mono (S2.out _ (HT.out.below HB.out)) ?_
  rintro e wn6 ⟨rfl, hb⟩
  have Hd6_1 := Lib.hid (s1.out.below hb).lt
  have Hd6_2 := Lib.hid (s2.out.below hb).lt
  have Hd6_3 := Lib.hid (s3.out.below hb).lt
  have Hd6_4 := Lib.hid (s4.out.below hb).lt
  have Hd6_5 := Lib.hid (s5.out.below hb).lt
  replace s1 := Lib.hid ((s1.out.below hb).alloc (.cells #[.int .i64 (a3), .int .i64 (a4)] 24))
  replace s2 := Lib.hid ((s2.out.below hb).alloc (.cells #[.int .i64 (a3), .int .i64 (a4)] 24))
  replace s3 := Lib.hid ((s3.out.below hb).alloc (.cells #[.int .i64 (a3), .int .i64 (a4)] 24))
  replace s4 := Lib.hid ((s4.out.below hb).alloc (.cells #[.int .i64 (a3), .int .i64 (a4)] 24))
  replace s5 := Lib.hid ((s5.out.below hb).alloc (.cells #[.int .i64 (a3), .int .i64 (a4)] 24))
  have HB6 := HB.out.trans (hb.mono HB.out.size)
  clear sc2_0 sc2_1 sc2_l
  clear hb
  have Hkl6 := Lib.hid HB6.size; replace HB := Lib.hid (HB6.alloc HB6.size (.cells #[.int .i64 (a3), .int .i64 (a4)] 24))
  clear HB6
  have s6 := Lib.hid (SpBox.new wn6 (a3) (a4))
  obtain ⟨k6, hk6⟩ : ∃ x, x = wn6.heap.size := ⟨_, rfl⟩
  rw [← hk6] at s6 Hkl6 Hd6_1 Hd6_2 Hd6_3 Hd6_4 Hd6_5
  go_upto_region 8 with fail
  rw [← hk6]
  obtain ⟨X6, hX6⟩ : ∃ X, X = wn6.alloc (.cells #[.int .i64 (a3), .int .i64 (a4)] 24) := ⟨_, rfl⟩
  rw [← hX6] at s1 s2 s3 s4 s5 s6 HB ⊢
  clear hk6 hX6
  clear s2
  have sc4_0 := s4.out.c0; have sc4_1 := s4.out.c1; have sc4_l := s4.out.lt
  go_wp2_with fail
  refine Calls.mono (S3.out _ (HT.out.below HB.out)) ?_
  rintro e wn7 ⟨rfl, hb⟩
  have Hd7_1 := Lib.hid (s1.out.below hb).lt
  have Hd7_3 := Lib.hid (s3.out.below hb).lt
  have Hd7_4 := Lib.hid (s4.out.below hb).lt
  have Hd7_5 := Lib.hid (s5.out.below hb).lt
  have Hd7_6 := Lib.hid (s6.out.below hb).lt
  replace s1 := Lib.hid ((s1.out.below hb).alloc (.cells #[.int .i64 (b1), .int .i64 (b2)] 24))
  replace s3 := Lib.hid ((s3.out.below hb).alloc (.cells #[.int .i64 (b1), .int .i64 (b2)] 24))
  replace s4 := Lib.hid ((s4.out.below hb).alloc (.cells #[.int .i64 (b1), .int .i64 (b2)] 24))
  replace s5 := Lib.hid ((s5.out.below hb).alloc (.cells #[.int .i64 (b1), .int .i64 (b2)] 24))
  replace s6 := Lib.hid ((s6.out.below hb).alloc (.cells #[.int .i64 (b1), .int .i64 (b2)] 24))
  have HB7 := HB.out.trans (hb.mono HB.out.size)
  clear sc4_0 sc4_1 sc4_l
  clear hb
  have Hkl7 := Lib.hid HB7.size; replace HB := Lib.hid (HB7.alloc HB7.size (.cells #[.int .i64 (b1), .int .i64 (b2)] 24))
  clear HB7
  have s7 := Lib.hid (SpBox.new wn7 (b1) (b2))
  obtain ⟨k7, hk7⟩ : ∃ x, x = wn7.heap.size := ⟨_, rfl⟩
  rw [← hk7] at s7 Hkl7 Hd7_1 Hd7_3 Hd7_4 Hd7_5 Hd7_6
  go_upto_region 9 with fail
  rw [← hk7]
  obtain ⟨X7, hX7⟩ : ∃ X, X = wn7.alloc (.cells #[.int .i64 (b1), .int .i64 (b2)] 24) := ⟨_, rfl⟩
  rw [← hX7] at s1 s3 s4 s5 s6 s7 HB ⊢
  clear hk7 hX7
  have sc4_0 := s4.out.c0; have sc4_1 := s4.out.c1; have sc4_l := s4.out.lt
  go_wp2_with fail
  refine Calls.mono (S4.out _ (HT.out.below HB.out)) ?_
  rintro e wn8 ⟨rfl, hb⟩
  have Hd8_1 := Lib.hid (s1.out.below hb).lt
  have Hd8_3 := Lib.hid (s3.out.below hb).lt
  have Hd8_4 := Lib.hid (s4.out.below hb).lt
  have Hd8_5 := Lib.hid (s5.out.below hb).lt
  have Hd8_6 := Lib.hid (s6.out.below hb).lt
  have Hd8_7 := Lib.hid (s7.out.below hb).lt
  replace s1 := Lib.hid ((s1.out.below hb).alloc (.cells #[.int .i64 (b3), .int .i64 (b4)] 24))
  replace s3 := Lib.hid ((s3.out.below hb).alloc (.cells #[.int .i64 (b3), .int .i64 (b4)] 24))
  replace s4 := Lib.hid ((s4.out.below hb).alloc (.cells #[.int .i64 (b3), .int .i64 (b4)] 24))
  replace s5 := Lib.hid ((s5.out.below hb).alloc (.cells #[.int .i64 (b3), .int .i64 (b4)] 24))
  replace s6 := Lib.hid ((s6.out.below hb).alloc (.cells #[.int .i64 (b3), .int .i64 (b4)] 24))
  replace s7 := Lib.hid ((s7.out.below hb).alloc (.cells #[.int .i64 (b3), .int .i64 (b4)] 24))
  have HB8 := HB.out.trans (hb.mono HB.out.size)
  clear sc4_0 sc4_1 sc4_l
  clear hb
  have Hkl8 := Lib.hid HB8.size; replace HB := Lib.hid (HB8.alloc HB8.size (.cells #[.int .i64 (b3), .int .i64 (b4)] 24))
  clear HB8
  have s8 := Lib.hid (SpBox.new wn8 (b3) (b4))
  obtain ⟨k8, hk8⟩ : ∃ x, x = wn8.heap.size := ⟨_, rfl⟩
  rw [← hk8] at s8 Hkl8 Hd8_1 Hd8_3 Hd8_4 Hd8_5 Hd8_6 Hd8_7
  go_upto_region 10 with fail
  rw [← hk8]
  obtain ⟨X8, hX8⟩ : ∃ X, X = wn8.alloc (.cells #[.int .i64 (b3), .int .i64 (b4)] 24) := ⟨_, rfl⟩
  rw [← hX8] at s1 s3 s4 s5 s6 s7 s8 HB ⊢
  clear hk8 hX8
  clear s4
  obtain ⟨XD1, hXD1⟩ : ∃ x, x = X8.drew := ⟨_, rfl⟩
  have hf : SpBox XD1 (k1) (0) (0) ∧ RwBox XD1 (k3) (.string nm) (.int .i64 r1) (.int .i64 r2) (.int .i64 r3) ∧ SpBox XD1 (k5) (a1) (a2) ∧ SpBox XD1 (k6) (a3) (a4) ∧ SpBox XD1 (k7) (b1) (b2) ∧ SpBox XD1 (k8) (b3) (b4) ∧ Below w.heap.size w XD1 := by rw [hXD1]; exact ⟨s1.out.drew, s3.out.drew, s5.out.drew, s6.out.drew, s7.out.drew, s8.out.drew, HB.out.drew⟩
  have HXD1 := Lib.hid hXD1; clear hXD1 s1 s3 s5 s6 s7 s8 HB
  go_cut [20] (fun sv wx => ∃ bn : Nat, sv = .pointer (some ⟨bn, 0, none⟩) ∧ Hid (w.heap.size ≤ bn) ∧ Hid (SpBox wx bn (yl) (yh)) ∧ Hid (SpBox wx (k1) (0) (0)) ∧ Hid (RwBox wx (k3) (.string nm) (.int .i64 r1) (.int .i64 r2) (.int .i64 r3)) ∧ Hid (SpBox wx (k5) (a1) (a2)) ∧ Hid (SpBox wx (k6) (a3) (a4)) ∧ Hid (SpBox wx (k7) (b1) (b2)) ∧ Hid (SpBox wx (k8) (b3) (b4)) ∧ Hid (k1 < bn) ∧ Hid (k3 < bn) ∧ Hid (k5 < bn) ∧ Hid (k6 < bn) ∧ Hid (k7 < bn) ∧ Hid (k8 < bn) ∧ Hid (Below w.heap.size w wx))
  case first =>
    refine wp_region_G [(8, fun w' => SpBox w' (k1) (0) (0) ∧ RwBox w' (k3) (.string nm) (.int .i64 r1) (.int .i64 r2) (.int .i64 r3) ∧ SpBox w' (k5) (a1) (a2) ∧ SpBox w' (k6) (a3) (a4) ∧ SpBox w' (k7) (b1) (b2) ∧ SpBox w' (k8) (b3) (b4) ∧ Below w.heap.size w w')] (by kernel_rfl) (heldC_one (fun _ => by rw [← HXD1.out]; exact hf)) (fun hF => ?_)
    rw [← HXD1.out] at hF ⊢
    refine wpG_take (oi := ?oi125) (v := ?vv125) 0 _ ?hi125 (List.Mem.head _) ?hc125 ?hQ125 hF ?hw125 ?hy125 (fun hF => ?hh125)
    case hi125 => (simp only [List.getElem?_toArray, List.getElem?_cons_succ, List.getElem?_cons_zero]; rfl)
    case hc125 => kernel_rfl
    case hQ125 => exact fun _ _ _ h => h
    case hw125 => rfl
    case hy125 => (intro wz hz; have z0 := hz.2.2.1.c0; have z1 := hz.2.2.1.c1; go_simp; try (with_reducible rfl))
    try simp only [Act.put, List.setIfInBounds_toArray, List.set_cons_zero, List.set_cons_succ]
    refine wpG_take (oi := ?oi126) (v := ?vv126) 1 _ ?hi126 (List.Mem.head _) ?hc126 ?hQ126 hF ?hw126 ?hy126 (fun hF => ?hh126)
    case hi126 => (simp only [List.getElem?_toArray, List.getElem?_cons_succ, List.getElem?_cons_zero]; rfl)
    case hc126 => kernel_rfl
    case hQ126 => exact fun _ _ _ h => h
    case hw126 => rfl
    case hy126 => (intro wz hz; skip; go_simp; try (with_reducible rfl))
    try simp only [Act.put, List.setIfInBounds_toArray, List.set_cons_zero, List.set_cons_succ]
    refine wpG_take (oi := ?oi127) (v := ?vv127) 2 _ ?hi127 (List.Mem.head _) ?hc127 ?hQ127 hF ?hw127 ?hy127 (fun hF => ?hh127)
    case hi127 => (simp only [List.getElem?_toArray, List.getElem?_cons_succ, List.getElem?_cons_zero]; rfl)
    case hc127 => kernel_rfl
    case hQ127 => exact fun _ _ _ h => h
    case hw127 => rfl
    case hy127 => (intro wz hz; have z0 := hz.2.1.c1; go_simp; try (with_reducible rfl))
    try simp only [Act.put, List.setIfInBounds_toArray, List.set_cons_zero, List.set_cons_succ]
    refine wpG_take (oi := ?oi128) (v := ?vv128) 4 _ ?hi128 (List.Mem.head _) ?hc128 ?hQ128 hF ?hw128 ?hy128 (fun hF => ?hh128)
    case hi128 => (simp only [List.getElem?_toArray, List.getElem?_cons_succ, List.getElem?_cons_zero]; rfl)
    case hc128 => kernel_rfl
    case hQ128 => exact fun _ _ _ h => h
    case hw128 => rfl
    case hy128 => (intro wz hz; have z0 := hz.2.2.2.2.1.c0; have z1 := hz.2.2.2.2.1.c1; go_simp; try (with_reducible rfl))
    try simp only [Act.put, List.setIfInBounds_toArray, List.set_cons_zero, List.set_cons_succ]
    refine wpG_ready (rs := [3, 7]) (by kernel_rfl) (by simp) ?_
    refine all_two ?_ ?_
    · skip
      refine wpOp_hand (oi := ?oi129) ?hi129 (fun K hK => ?hh129)
      case hi129 => (simp only [List.getElem?_toArray, List.getElem?_cons_succ, List.getElem?_cons_zero]; rfl)
      go_simp
      refine Calls.mono (M1.out _) ?_
      rintro e Va1_1 ⟨rfl, hb⟩
      have hfn : SpBox Va1_1 (k1) (0) (0) ∧ RwBox Va1_1 (k3) (.string nm) (.int .i64 r1) (.int .i64 r2) (.int .i64 r3) ∧ SpBox Va1_1 (k5) (a1) (a2) ∧ SpBox Va1_1 (k6) (a3) (a4) ∧ SpBox Va1_1 (k7) (b1) (b2) ∧ SpBox Va1_1 (k8) (b3) (b4) ∧ Below w.heap.size w Va1_1 := ⟨hf.1.below hb, hf.2.1.below hb, hf.2.2.1.below hb, hf.2.2.2.1.below hb, hf.2.2.2.2.1.below hb, hf.2.2.2.2.2.1.below hb, hf.2.2.2.2.2.2.trans (hb.mono hf.2.2.2.2.2.2.size)⟩
      clear hf hb
      have hf := hfn
      clear hfn
      refine hK.out _ _ (heldC_one (fun _ => hf)) (fun hF => ?_)
      clear hK K
      try simp only [Act.put, List.setIfInBounds_toArray, List.set_cons_zero, List.set_cons_succ]
      refine wpG_ready (rs := [5, 7]) (by kernel_rfl) (by simp) ?_
      refine all_two ?_ ?_
      · skip
        refine wpOp_hand (oi := ?oi130) ?hi130 (fun K hK => ?hh130)
        case hi130 => (simp only [List.getElem?_toArray, List.getElem?_cons_succ, List.getElem?_cons_zero]; rfl)
        go_simp
        refine Calls.mono (M3.out _) ?_
        rintro e Va1_2 ⟨rfl, hb⟩
        have hfn : SpBox Va1_2 (k1) (0) (0) ∧ RwBox Va1_2 (k3) (.string nm) (.int .i64 r1) (.int .i64 r2) (.int .i64 r3) ∧ SpBox Va1_2 (k5) (a1) (a2) ∧ SpBox Va1_2 (k6) (a3) (a4) ∧ SpBox Va1_2 (k7) (b1) (b2) ∧ SpBox Va1_2 (k8) (b3) (b4) ∧ Below w.heap.size w Va1_2 := ⟨hf.1.below hb, hf.2.1.below hb, hf.2.2.1.below hb, hf.2.2.2.1.below hb, hf.2.2.2.2.1.below hb, hf.2.2.2.2.2.1.below hb, hf.2.2.2.2.2.2.trans (hb.mono hf.2.2.2.2.2.2.size)⟩
        clear hf hb
        have hf := hfn
        clear hfn
        refine hK.out _ _ (heldC_one (fun _ => hf)) (fun hF => ?_)
        clear hK K
        try simp only [Act.put, List.setIfInBounds_toArray, List.set_cons_zero, List.set_cons_succ]
        refine wpG_ready (rs := [6, 7]) (by kernel_rfl) (by simp) ?_
        refine all_two ?_ ?_
        · skip
          refine wpOp_hand (oi := ?oi131) ?hi131 (fun K hK => ?hh131)
          case hi131 => (simp only [List.getElem?_toArray, List.getElem?_cons_succ, List.getElem?_cons_zero]; rfl)
          go_simp
          refine Calls.mono (P1.out _) ?_
          rintro e Va1_3 ⟨rfl, hb⟩
          have hfn : SpBox Va1_3 (k1) (0) (0) ∧ RwBox Va1_3 (k3) (.string nm) (.int .i64 r1) (.int .i64 r2) (.int .i64 r3) ∧ SpBox Va1_3 (k5) (a1) (a2) ∧ SpBox Va1_3 (k6) (a3) (a4) ∧ SpBox Va1_3 (k7) (b1) (b2) ∧ SpBox Va1_3 (k8) (b3) (b4) ∧ Below w.heap.size w Va1_3 := ⟨hf.1.below hb, hf.2.1.below hb, hf.2.2.1.below hb, hf.2.2.2.1.below hb, hf.2.2.2.2.1.below hb, hf.2.2.2.2.2.1.below hb, hf.2.2.2.2.2.2.trans (hb.mono hf.2.2.2.2.2.2.size)⟩
          clear hf hb
          have hf := hfn
          clear hfn
          refine hK.out _ _ (heldC_one (fun _ => hf)) (fun hF => ?_)
          clear hK K
          try simp only [Act.put, List.setIfInBounds_toArray, List.set_cons_zero, List.set_cons_succ]
          refine wpG_ready (rs := [7]) (by kernel_rfl) (by simp) ?_
          refine all_one ?_
          refine wpOp_hand (oi := ?oi132) ?hi132 (fun K hK => ?hh132)
          case hi132 => (simp only [List.getElem?_toArray, List.getElem?_cons_succ, List.getElem?_cons_zero]; rfl)
          go_simp
          have dl0 := hf.1.lt
          have dl1 := hf.2.1.lt
          have dl2 := hf.2.2.1.lt
          have dl3 := hf.2.2.2.1.lt
          have dl4 := hf.2.2.2.2.1.lt
          have dl5 := hf.2.2.2.2.2.1.lt
          have ds := hf.2.2.2.2.2.2.size
          have hn := SpBox.new Va1_3 0 0
          obtain ⟨bn, hbn⟩ : ∃ b, b = Va1_3.heap.size := ⟨_, rfl⟩
          obtain ⟨Ya1_4, hY⟩ : ∃ Y, Y = Va1_3.alloc (.cells #[.int .i64 0, .int .i64 0] 24) := ⟨_, rfl⟩
          have hfn : SpBox Ya1_4 (k1) (0) (0) ∧ RwBox Ya1_4 (k3) (.string nm) (.int .i64 r1) (.int .i64 r2) (.int .i64 r3) ∧ SpBox Ya1_4 (k5) (a1) (a2) ∧ SpBox Ya1_4 (k6) (a3) (a4) ∧ SpBox Ya1_4 (k7) (b1) (b2) ∧ SpBox Ya1_4 (k8) (b3) (b4) ∧ Below w.heap.size w Ya1_4 := by rw [hY]; exact ⟨hf.1.alloc _, hf.2.1.alloc _, hf.2.2.1.alloc _, hf.2.2.2.1.alloc _, hf.2.2.2.2.1.alloc _, hf.2.2.2.2.2.1.alloc _, hf.2.2.2.2.2.2.alloc ds _⟩
          rw [← hY] at hn ⊢
          rw [← hbn] at hn ds dl0 dl1 dl2 dl3 dl4 dl5 ⊢
          clear hf
          have hf := hfn
          clear hfn hY hbn
          refine hK.out _ _ (heldC_one (fun _ => hf)) (fun hF => ?_)
          clear hK K
          try simp only [Act.put, List.setIfInBounds_toArray, List.set_cons_zero, List.set_cons_succ]
          refine wpG_ready (rs := [8]) (by kernel_rfl) (by simp) ?_
          refine all_one ?_
          have zz0 := hn.c0; have zz1 := hn.c1; have zz0f := hn.free 0; have zz1f := hn.free 1; have zzl := hn.lt
          refine wpOp_hand (oi := ?oi133) ?hi133 (fun K hK => ?hh133)
          case hi133 => (simp only [List.getElem?_toArray, List.getElem?_cons_succ, List.getElem?_cons_zero]; rfl)
          go_simp
          have hnn := hn.set (yl) (yh)
          have hfn : SpBox ((Ya1_4.setCell ⟨bn, 0, none⟩ (.int .i64 (yl))).setCell ⟨bn, 1, none⟩ (.int .i64 (yh))) (k1) (0) (0) ∧ RwBox ((Ya1_4.setCell ⟨bn, 0, none⟩ (.int .i64 (yl))).setCell ⟨bn, 1, none⟩ (.int .i64 (yh))) (k3) (.string nm) (.int .i64 r1) (.int .i64 r2) (.int .i64 r3) ∧ SpBox ((Ya1_4.setCell ⟨bn, 0, none⟩ (.int .i64 (yl))).setCell ⟨bn, 1, none⟩ (.int .i64 (yh))) (k5) (a1) (a2) ∧ SpBox ((Ya1_4.setCell ⟨bn, 0, none⟩ (.int .i64 (yl))).setCell ⟨bn, 1, none⟩ (.int .i64 (yh))) (k6) (a3) (a4) ∧ SpBox ((Ya1_4.setCell ⟨bn, 0, none⟩ (.int .i64 (yl))).setCell ⟨bn, 1, none⟩ (.int .i64 (yh))) (k7) (b1) (b2) ∧ SpBox ((Ya1_4.setCell ⟨bn, 0, none⟩ (.int .i64 (yl))).setCell ⟨bn, 1, none⟩ (.int .i64 (yh))) (k8) (b3) (b4) ∧ Below w.heap.size w ((Ya1_4.setCell ⟨bn, 0, none⟩ (.int .i64 (yl))).setCell ⟨bn, 1, none⟩ (.int .i64 (yh))) := ⟨(hf.1.other (by (try dsimp only); omega) _).other (by (try dsimp only); omega) _, (hf.2.1.other (by (try dsimp only); omega) _).other (by (try dsimp only); omega) _, (hf.2.2.1.other (by (try dsimp only); omega) _).other (by (try dsimp only); omega) _, (hf.2.2.2.1.other (by (try dsimp only); omega) _).other (by (try dsimp only); omega) _, (hf.2.2.2.2.1.other (by (try dsimp only); omega) _).other (by (try dsimp only); omega) _, (hf.2.2.2.2.2.1.other (by (try dsimp only); omega) _).other (by (try dsimp only); omega) _, (hf.2.2.2.2.2.2.setCell (p := ⟨bn, 0, none⟩) ds _).setCell (p := ⟨bn, 1, none⟩) ds _⟩
          refine hK.out _ _ (heldC_one (fun h => absurd h (by simp))) (fun hF => ?_)
          clear hK K
          try simp only [Act.put, List.setIfInBounds_toArray, List.set_cons_zero, List.set_cons_succ]
          refine wpG_done (by kernel_rfl) ?_ _
          clear hf zz0 zz1 zz0f zz1f zzl hn
          go_wp2_with fail
          go_meet
          exact ⟨bn, rfl, Lib.hid ds, Lib.hid hnn, Lib.hid hfn.1, Lib.hid hfn.2.1, Lib.hid hfn.2.2.1, Lib.hid hfn.2.2.2.1, Lib.hid hfn.2.2.2.2.1, Lib.hid hfn.2.2.2.2.2.1, Lib.hid dl0, Lib.hid dl1, Lib.hid dl2, Lib.hid dl3, Lib.hid dl4, Lib.hid dl5, Lib.hid hfn.2.2.2.2.2.2⟩
        · skip
          refine wpOp_hand (oi := ?oi134) ?hi134 (fun K hK => ?hh134)
          case hi134 => (simp only [List.getElem?_toArray, List.getElem?_cons_succ, List.getElem?_cons_zero]; rfl)
          go_simp
          have dl0 := hf.1.lt
          have dl1 := hf.2.1.lt
          have dl2 := hf.2.2.1.lt
          have dl3 := hf.2.2.2.1.lt
          have dl4 := hf.2.2.2.2.1.lt
          have dl5 := hf.2.2.2.2.2.1.lt
          have ds := hf.2.2.2.2.2.2.size
          have hn := SpBox.new Va1_2 0 0
          obtain ⟨bn, hbn⟩ : ∃ b, b = Va1_2.heap.size := ⟨_, rfl⟩
          obtain ⟨Ya1_5, hY⟩ : ∃ Y, Y = Va1_2.alloc (.cells #[.int .i64 0, .int .i64 0] 24) := ⟨_, rfl⟩
          have hfn : SpBox Ya1_5 (k1) (0) (0) ∧ RwBox Ya1_5 (k3) (.string nm) (.int .i64 r1) (.int .i64 r2) (.int .i64 r3) ∧ SpBox Ya1_5 (k5) (a1) (a2) ∧ SpBox Ya1_5 (k6) (a3) (a4) ∧ SpBox Ya1_5 (k7) (b1) (b2) ∧ SpBox Ya1_5 (k8) (b3) (b4) ∧ Below w.heap.size w Ya1_5 := by rw [hY]; exact ⟨hf.1.alloc _, hf.2.1.alloc _, hf.2.2.1.alloc _, hf.2.2.2.1.alloc _, hf.2.2.2.2.1.alloc _, hf.2.2.2.2.2.1.alloc _, hf.2.2.2.2.2.2.alloc ds _⟩
          rw [← hY] at hn ⊢
          rw [← hbn] at hn ds dl0 dl1 dl2 dl3 dl4 dl5 ⊢
          clear hf
          have hf := hfn
          clear hfn hY hbn
          refine hK.out _ _ (heldC_one (fun _ => hf)) (fun hF => ?_)
          clear hK K
          try simp only [Act.put, List.setIfInBounds_toArray, List.set_cons_zero, List.set_cons_succ]
          refine wpG_ready (rs := [6]) (by kernel_rfl) (by simp) ?_
          refine all_one ?_
          refine wpOp_hand (oi := ?oi135) ?hi135 (fun K hK => ?hh135)
          case hi135 => (simp only [List.getElem?_toArray, List.getElem?_cons_succ, List.getElem?_cons_zero]; rfl)
          go_simp
          refine Calls.mono (P1.out _) ?_
          rintro e Va1_6 ⟨rfl, hb⟩
          have hnn := hn.below hb; clear hn; have hn := hnn; clear hnn
          have hfn : SpBox Va1_6 (k1) (0) (0) ∧ RwBox Va1_6 (k3) (.string nm) (.int .i64 r1) (.int .i64 r2) (.int .i64 r3) ∧ SpBox Va1_6 (k5) (a1) (a2) ∧ SpBox Va1_6 (k6) (a3) (a4) ∧ SpBox Va1_6 (k7) (b1) (b2) ∧ SpBox Va1_6 (k8) (b3) (b4) ∧ Below w.heap.size w Va1_6 := ⟨hf.1.below hb, hf.2.1.below hb, hf.2.2.1.below hb, hf.2.2.2.1.below hb, hf.2.2.2.2.1.below hb, hf.2.2.2.2.2.1.below hb, hf.2.2.2.2.2.2.trans (hb.mono hf.2.2.2.2.2.2.size)⟩
          clear hf hb
          have hf := hfn
          clear hfn
          refine hK.out _ _ (heldC_one (fun _ => hf)) (fun hF => ?_)
          clear hK K
          try simp only [Act.put, List.setIfInBounds_toArray, List.set_cons_zero, List.set_cons_succ]
          refine wpG_ready (rs := [8]) (by kernel_rfl) (by simp) ?_
          refine all_one ?_
          have zz0 := hn.c0; have zz1 := hn.c1; have zz0f := hn.free 0; have zz1f := hn.free 1; have zzl := hn.lt
          refine wpOp_hand (oi := ?oi136) ?hi136 (fun K hK => ?hh136)
          case hi136 => (simp only [List.getElem?_toArray, List.getElem?_cons_succ, List.getElem?_cons_zero]; rfl)
          go_simp
          have hnn := hn.set (yl) (yh)
          have hfn : SpBox ((Va1_6.setCell ⟨bn, 0, none⟩ (.int .i64 (yl))).setCell ⟨bn, 1, none⟩ (.int .i64 (yh))) (k1) (0) (0) ∧ RwBox ((Va1_6.setCell ⟨bn, 0, none⟩ (.int .i64 (yl))).setCell ⟨bn, 1, none⟩ (.int .i64 (yh))) (k3) (.string nm) (.int .i64 r1) (.int .i64 r2) (.int .i64 r3) ∧ SpBox ((Va1_6.setCell ⟨bn, 0, none⟩ (.int .i64 (yl))).setCell ⟨bn, 1, none⟩ (.int .i64 (yh))) (k5) (a1) (a2) ∧ SpBox ((Va1_6.setCell ⟨bn, 0, none⟩ (.int .i64 (yl))).setCell ⟨bn, 1, none⟩ (.int .i64 (yh))) (k6) (a3) (a4) ∧ SpBox ((Va1_6.setCell ⟨bn, 0, none⟩ (.int .i64 (yl))).setCell ⟨bn, 1, none⟩ (.int .i64 (yh))) (k7) (b1) (b2) ∧ SpBox ((Va1_6.setCell ⟨bn, 0, none⟩ (.int .i64 (yl))).setCell ⟨bn, 1, none⟩ (.int .i64 (yh))) (k8) (b3) (b4) ∧ Below w.heap.size w ((Va1_6.setCell ⟨bn, 0, none⟩ (.int .i64 (yl))).setCell ⟨bn, 1, none⟩ (.int .i64 (yh))) := ⟨(hf.1.other (by (try dsimp only); omega) _).other (by (try dsimp only); omega) _, (hf.2.1.other (by (try dsimp only); omega) _).other (by (try dsimp only); omega) _, (hf.2.2.1.other (by (try dsimp only); omega) _).other (by (try dsimp only); omega) _, (hf.2.2.2.1.other (by (try dsimp only); omega) _).other (by (try dsimp only); omega) _, (hf.2.2.2.2.1.other (by (try dsimp only); omega) _).other (by (try dsimp only); omega) _, (hf.2.2.2.2.2.1.other (by (try dsimp only); omega) _).other (by (try dsimp only); omega) _, (hf.2.2.2.2.2.2.setCell (p := ⟨bn, 0, none⟩) ds _).setCell (p := ⟨bn, 1, none⟩) ds _⟩
          refine hK.out _ _ (heldC_one (fun h => absurd h (by simp))) (fun hF => ?_)
          clear hK K
          try simp only [Act.put, List.setIfInBounds_toArray, List.set_cons_zero, List.set_cons_succ]
          refine wpG_done (by kernel_rfl) ?_ _
          clear hf zz0 zz1 zz0f zz1f zzl hn
          go_wp2_with fail
          go_meet
          exact ⟨bn, rfl, Lib.hid ds, Lib.hid hnn, Lib.hid hfn.1, Lib.hid hfn.2.1, Lib.hid hfn.2.2.1, Lib.hid hfn.2.2.2.1, Lib.hid hfn.2.2.2.2.1, Lib.hid hfn.2.2.2.2.2.1, Lib.hid dl0, Lib.hid dl1, Lib.hid dl2, Lib.hid dl3, Lib.hid dl4, Lib.hid dl5, Lib.hid hfn.2.2.2.2.2.2⟩
      · skip
        refine wpOp_hand (oi := ?oi137) ?hi137 (fun K hK => ?hh137)
        case hi137 => (simp only [List.getElem?_toArray, List.getElem?_cons_succ, List.getElem?_cons_zero]; rfl)
        go_simp
        have dl0 := hf.1.lt
        have dl1 := hf.2.1.lt
        have dl2 := hf.2.2.1.lt
        have dl3 := hf.2.2.2.1.lt
        have dl4 := hf.2.2.2.2.1.lt
        have dl5 := hf.2.2.2.2.2.1.lt
        have ds := hf.2.2.2.2.2.2.size
        have hn := SpBox.new Va1_1 0 0
        obtain ⟨bn, hbn⟩ : ∃ b, b = Va1_1.heap.size := ⟨_, rfl⟩
        obtain ⟨Ya1_7, hY⟩ : ∃ Y, Y = Va1_1.alloc (.cells #[.int .i64 0, .int .i64 0] 24) := ⟨_, rfl⟩
        have hfn : SpBox Ya1_7 (k1) (0) (0) ∧ RwBox Ya1_7 (k3) (.string nm) (.int .i64 r1) (.int .i64 r2) (.int .i64 r3) ∧ SpBox Ya1_7 (k5) (a1) (a2) ∧ SpBox Ya1_7 (k6) (a3) (a4) ∧ SpBox Ya1_7 (k7) (b1) (b2) ∧ SpBox Ya1_7 (k8) (b3) (b4) ∧ Below w.heap.size w Ya1_7 := by rw [hY]; exact ⟨hf.1.alloc _, hf.2.1.alloc _, hf.2.2.1.alloc _, hf.2.2.2.1.alloc _, hf.2.2.2.2.1.alloc _, hf.2.2.2.2.2.1.alloc _, hf.2.2.2.2.2.2.alloc ds _⟩
        rw [← hY] at hn ⊢
        rw [← hbn] at hn ds dl0 dl1 dl2 dl3 dl4 dl5 ⊢
        clear hf
        have hf := hfn
        clear hfn hY hbn
        refine hK.out _ _ (heldC_one (fun _ => hf)) (fun hF => ?_)
        clear hK K
        try simp only [Act.put, List.setIfInBounds_toArray, List.set_cons_zero, List.set_cons_succ]
        refine wpG_ready (rs := [5]) (by kernel_rfl) (by simp) ?_
        refine all_one ?_
        refine wpOp_hand (oi := ?oi138) ?hi138 (fun K hK => ?hh138)
        case hi138 => (simp only [List.getElem?_toArray, List.getElem?_cons_succ, List.getElem?_cons_zero]; rfl)
        go_simp
        refine Calls.mono (M3.out _) ?_
        rintro e Va1_8 ⟨rfl, hb⟩
        have hnn := hn.below hb; clear hn; have hn := hnn; clear hnn
        have hfn : SpBox Va1_8 (k1) (0) (0) ∧ RwBox Va1_8 (k3) (.string nm) (.int .i64 r1) (.int .i64 r2) (.int .i64 r3) ∧ SpBox Va1_8 (k5) (a1) (a2) ∧ SpBox Va1_8 (k6) (a3) (a4) ∧ SpBox Va1_8 (k7) (b1) (b2) ∧ SpBox Va1_8 (k8) (b3) (b4) ∧ Below w.heap.size w Va1_8 := ⟨hf.1.below hb, hf.2.1.below hb, hf.2.2.1.below hb, hf.2.2.2.1.below hb, hf.2.2.2.2.1.below hb, hf.2.2.2.2.2.1.below hb, hf.2.2.2.2.2.2.trans (hb.mono hf.2.2.2.2.2.2.size)⟩
        clear hf hb
        have hf := hfn
        clear hfn
        refine hK.out _ _ (heldC_one (fun _ => hf)) (fun hF => ?_)
        clear hK K
        try simp only [Act.put, List.setIfInBounds_toArray, List.set_cons_zero, List.set_cons_succ]
        refine wpG_ready (rs := [6]) (by kernel_rfl) (by simp) ?_
        refine all_one ?_
        refine wpOp_hand (oi := ?oi139) ?hi139 (fun K hK => ?hh139)
        case hi139 => (simp only [List.getElem?_toArray, List.getElem?_cons_succ, List.getElem?_cons_zero]; rfl)
        go_simp
        refine Calls.mono (P1.out _) ?_
        rintro e Va1_9 ⟨rfl, hb⟩
        have hnn := hn.below hb; clear hn; have hn := hnn; clear hnn
        have hfn : SpBox Va1_9 (k1) (0) (0) ∧ RwBox Va1_9 (k3) (.string nm) (.int .i64 r1) (.int .i64 r2) (.int .i64 r3) ∧ SpBox Va1_9 (k5) (a1) (a2) ∧ SpBox Va1_9 (k6) (a3) (a4) ∧ SpBox Va1_9 (k7) (b1) (b2) ∧ SpBox Va1_9 (k8) (b3) (b4) ∧ Below w.heap.size w Va1_9 := ⟨hf.1.below hb, hf.2.1.below hb, hf.2.2.1.below hb, hf.2.2.2.1.below hb, hf.2.2.2.2.1.below hb, hf.2.2.2.2.2.1.below hb, hf.2.2.2.2.2.2.trans (hb.mono hf.2.2.2.2.2.2.size)⟩
        clear hf hb
        have hf := hfn
        clear hfn
        refine hK.out _ _ (heldC_one (fun _ => hf)) (fun hF => ?_)
        clear hK K
        try simp only [Act.put, List.setIfInBounds_toArray, List.set_cons_zero, List.set_cons_succ]
        refine wpG_ready (rs := [8]) (by kernel_rfl) (by simp) ?_
        refine all_one ?_
        have zz0 := hn.c0; have zz1 := hn.c1; have zz0f := hn.free 0; have zz1f := hn.free 1; have zzl := hn.lt
        refine wpOp_hand (oi := ?oi140) ?hi140 (fun K hK => ?hh140)
        case hi140 => (simp only [List.getElem?_toArray, List.getElem?_cons_succ, List.getElem?_cons_zero]; rfl)
        go_simp
        have hnn := hn.set (yl) (yh)
        have hfn : SpBox ((Va1_9.setCell ⟨bn, 0, none⟩ (.int .i64 (yl))).setCell ⟨bn, 1, none⟩ (.int .i64 (yh))) (k1) (0) (0) ∧ RwBox ((Va1_9.setCell ⟨bn, 0, none⟩ (.int .i64 (yl))).setCell ⟨bn, 1, none⟩ (.int .i64 (yh))) (k3) (.string nm) (.int .i64 r1) (.int .i64 r2) (.int .i64 r3) ∧ SpBox ((Va1_9.setCell ⟨bn, 0, none⟩ (.int .i64 (yl))).setCell ⟨bn, 1, none⟩ (.int .i64 (yh))) (k5) (a1) (a2) ∧ SpBox ((Va1_9.setCell ⟨bn, 0, none⟩ (.int .i64 (yl))).setCell ⟨bn, 1, none⟩ (.int .i64 (yh))) (k6) (a3) (a4) ∧ SpBox ((Va1_9.setCell ⟨bn, 0, none⟩ (.int .i64 (yl))).setCell ⟨bn, 1, none⟩ (.int .i64 (yh))) (k7) (b1) (b2) ∧ SpBox ((Va1_9.setCell ⟨bn, 0, none⟩ (.int .i64 (yl))).setCell ⟨bn, 1, none⟩ (.int .i64 (yh))) (k8) (b3) (b4) ∧ Below w.heap.size w ((Va1_9.setCell ⟨bn, 0, none⟩ (.int .i64 (yl))).setCell ⟨bn, 1, none⟩ (.int .i64 (yh))) := ⟨(hf.1.other (by (try dsimp only); omega) _).other (by (try dsimp only); omega) _, (hf.2.1.other (by (try dsimp only); omega) _).other (by (try dsimp only); omega) _, (hf.2.2.1.other (by (try dsimp only); omega) _).other (by (try dsimp only); omega) _, (hf.2.2.2.1.other (by (try dsimp only); omega) _).other (by (try dsimp only); omega) _, (hf.2.2.2.2.1.other (by (try dsimp only); omega) _).other (by (try dsimp only); omega) _, (hf.2.2.2.2.2.1.other (by (try dsimp only); omega) _).other (by (try dsimp only); omega) _, (hf.2.2.2.2.2.2.setCell (p := ⟨bn, 0, none⟩) ds _).setCell (p := ⟨bn, 1, none⟩) ds _⟩
        refine hK.out _ _ (heldC_one (fun h => absurd h (by simp))) (fun hF => ?_)
        clear hK K
        try simp only [Act.put, List.setIfInBounds_toArray, List.set_cons_zero, List.set_cons_succ]
        refine wpG_done (by kernel_rfl) ?_ _
        clear hf zz0 zz1 zz0f zz1f zzl hn
        go_wp2_with fail
        go_meet
        exact ⟨bn, rfl, Lib.hid ds, Lib.hid hnn, Lib.hid hfn.1, Lib.hid hfn.2.1, Lib.hid hfn.2.2.1, Lib.hid hfn.2.2.2.1, Lib.hid hfn.2.2.2.2.1, Lib.hid hfn.2.2.2.2.2.1, Lib.hid dl0, Lib.hid dl1, Lib.hid dl2, Lib.hid dl3, Lib.hid dl4, Lib.hid dl5, Lib.hid hfn.2.2.2.2.2.2⟩
    · skip
      refine wpOp_hand (oi := ?oi141) ?hi141 (fun K hK => ?hh141)
      case hi141 => (simp only [List.getElem?_toArray, List.getElem?_cons_succ, List.getElem?_cons_zero]; rfl)
      go_simp
      have dl0 := hf.1.lt
      have dl1 := hf.2.1.lt
      have dl2 := hf.2.2.1.lt
      have dl3 := hf.2.2.2.1.lt
      have dl4 := hf.2.2.2.2.1.lt
      have dl5 := hf.2.2.2.2.2.1.lt
      have ds := hf.2.2.2.2.2.2.size
      have hn := SpBox.new XD1 0 0
      obtain ⟨bn, hbn⟩ : ∃ b, b = XD1.heap.size := ⟨_, rfl⟩
      obtain ⟨Ya1_10, hY⟩ : ∃ Y, Y = XD1.alloc (.cells #[.int .i64 0, .int .i64 0] 24) := ⟨_, rfl⟩
      have hfn : SpBox Ya1_10 (k1) (0) (0) ∧ RwBox Ya1_10 (k3) (.string nm) (.int .i64 r1) (.int .i64 r2) (.int .i64 r3) ∧ SpBox Ya1_10 (k5) (a1) (a2) ∧ SpBox Ya1_10 (k6) (a3) (a4) ∧ SpBox Ya1_10 (k7) (b1) (b2) ∧ SpBox Ya1_10 (k8) (b3) (b4) ∧ Below w.heap.size w Ya1_10 := by rw [hY]; exact ⟨hf.1.alloc _, hf.2.1.alloc _, hf.2.2.1.alloc _, hf.2.2.2.1.alloc _, hf.2.2.2.2.1.alloc _, hf.2.2.2.2.2.1.alloc _, hf.2.2.2.2.2.2.alloc ds _⟩
      rw [← hY] at hn ⊢
      rw [← hbn] at hn ds dl0 dl1 dl2 dl3 dl4 dl5 ⊢
      clear hf
      have hf := hfn
      clear hfn hY hbn
      refine hK.out _ _ (heldC_one (fun _ => hf)) (fun hF => ?_)
      clear hK K
      try simp only [Act.put, List.setIfInBounds_toArray, List.set_cons_zero, List.set_cons_succ]
      refine wpG_ready (rs := [3]) (by kernel_rfl) (by simp) ?_
      refine all_one ?_
      refine wpOp_hand (oi := ?oi142) ?hi142 (fun K hK => ?hh142)
      case hi142 => (simp only [List.getElem?_toArray, List.getElem?_cons_succ, List.getElem?_cons_zero]; rfl)
      go_simp
      refine Calls.mono (M1.out _) ?_
      rintro e Va1_11 ⟨rfl, hb⟩
      have hnn := hn.below hb; clear hn; have hn := hnn; clear hnn
      have hfn : SpBox Va1_11 (k1) (0) (0) ∧ RwBox Va1_11 (k3) (.string nm) (.int .i64 r1) (.int .i64 r2) (.int .i64 r3) ∧ SpBox Va1_11 (k5) (a1) (a2) ∧ SpBox Va1_11 (k6) (a3) (a4) ∧ SpBox Va1_11 (k7) (b1) (b2) ∧ SpBox Va1_11 (k8) (b3) (b4) ∧ Below w.heap.size w Va1_11 := ⟨hf.1.below hb, hf.2.1.below hb, hf.2.2.1.below hb, hf.2.2.2.1.below hb, hf.2.2.2.2.1.below hb, hf.2.2.2.2.2.1.below hb, hf.2.2.2.2.2.2.trans (hb.mono hf.2.2.2.2.2.2.size)⟩
      clear hf hb
      have hf := hfn
      clear hfn
      refine hK.out _ _ (heldC_one (fun _ => hf)) (fun hF => ?_)
      clear hK K
      try simp only [Act.put, List.setIfInBounds_toArray, List.set_cons_zero, List.set_cons_succ]
      refine wpG_ready (rs := [5]) (by kernel_rfl) (by simp) ?_
      refine all_one ?_
      refine wpOp_hand (oi := ?oi143) ?hi143 (fun K hK => ?hh143)
      case hi143 => (simp only [List.getElem?_toArray, List.getElem?_cons_succ, List.getElem?_cons_zero]; rfl)
      go_simp
      refine Calls.mono (M3.out _) ?_
      rintro e Va1_12 ⟨rfl, hb⟩
      have hnn := hn.below hb; clear hn; have hn := hnn; clear hnn
      have hfn : SpBox Va1_12 (k1) (0) (0) ∧ RwBox Va1_12 (k3) (.string nm) (.int .i64 r1) (.int .i64 r2) (.int .i64 r3) ∧ SpBox Va1_12 (k5) (a1) (a2) ∧ SpBox Va1_12 (k6) (a3) (a4) ∧ SpBox Va1_12 (k7) (b1) (b2) ∧ SpBox Va1_12 (k8) (b3) (b4) ∧ Below w.heap.size w Va1_12 := ⟨hf.1.below hb, hf.2.1.below hb, hf.2.2.1.below hb, hf.2.2.2.1.below hb, hf.2.2.2.2.1.below hb, hf.2.2.2.2.2.1.below hb, hf.2.2.2.2.2.2.trans (hb.mono hf.2.2.2.2.2.2.size)⟩
      clear hf hb
      have hf := hfn
      clear hfn
      refine hK.out _ _ (heldC_one (fun _ => hf)) (fun hF => ?_)
      clear hK K
      try simp only [Act.put, List.setIfInBounds_toArray, List.set_cons_zero, List.set_cons_succ]
      refine wpG_ready (rs := [6]) (by kernel_rfl) (by simp) ?_
      refine all_one ?_
      refine wpOp_hand (oi := ?oi144) ?hi144 (fun K hK => ?hh144)
      case hi144 => (simp only [List.getElem?_toArray, List.getElem?_cons_succ, List.getElem?_cons_zero]; rfl)
      go_simp
      refine Calls.mono (P1.out _) ?_
      rintro e Va1_13 ⟨rfl, hb⟩
      have hnn := hn.below hb; clear hn; have hn := hnn; clear hnn
      have hfn : SpBox Va1_13 (k1) (0) (0) ∧ RwBox Va1_13 (k3) (.string nm) (.int .i64 r1) (.int .i64 r2) (.int .i64 r3) ∧ SpBox Va1_13 (k5) (a1) (a2) ∧ SpBox Va1_13 (k6) (a3) (a4) ∧ SpBox Va1_13 (k7) (b1) (b2) ∧ SpBox Va1_13 (k8) (b3) (b4) ∧ Below w.heap.size w Va1_13 := ⟨hf.1.below hb, hf.2.1.below hb, hf.2.2.1.below hb, hf.2.2.2.1.below hb, hf.2.2.2.2.1.below hb, hf.2.2.2.2.2.1.below hb, hf.2.2.2.2.2.2.trans (hb.mono hf.2.2.2.2.2.2.size)⟩
      clear hf hb
      have hf := hfn
      clear hfn
      refine hK.out _ _ (heldC_one (fun _ => hf)) (fun hF => ?_)
      clear hK K
      try simp only [Act.put, List.setIfInBounds_toArray, List.set_cons_zero, List.set_cons_succ]
      refine wpG_ready (rs := [8]) (by kernel_rfl) (by simp) ?_
      refine all_one ?_
      have zz0 := hn.c0; have zz1 := hn.c1; have zz0f := hn.free 0; have zz1f := hn.free 1; have zzl := hn.lt
      refine wpOp_hand (oi := ?oi145) ?hi145 (fun K hK => ?hh145)
      case hi145 => (simp only [List.getElem?_toArray, List.getElem?_cons_succ, List.getElem?_cons_zero]; rfl)
      go_simp
      have hnn := hn.set (yl) (yh)
      have hfn : SpBox ((Va1_13.setCell ⟨bn, 0, none⟩ (.int .i64 (yl))).setCell ⟨bn, 1, none⟩ (.int .i64 (yh))) (k1) (0) (0) ∧ RwBox ((Va1_13.setCell ⟨bn, 0, none⟩ (.int .i64 (yl))).setCell ⟨bn, 1, none⟩ (.int .i64 (yh))) (k3) (.string nm) (.int .i64 r1) (.int .i64 r2) (.int .i64 r3) ∧ SpBox ((Va1_13.setCell ⟨bn, 0, none⟩ (.int .i64 (yl))).setCell ⟨bn, 1, none⟩ (.int .i64 (yh))) (k5) (a1) (a2) ∧ SpBox ((Va1_13.setCell ⟨bn, 0, none⟩ (.int .i64 (yl))).setCell ⟨bn, 1, none⟩ (.int .i64 (yh))) (k6) (a3) (a4) ∧ SpBox ((Va1_13.setCell ⟨bn, 0, none⟩ (.int .i64 (yl))).setCell ⟨bn, 1, none⟩ (.int .i64 (yh))) (k7) (b1) (b2) ∧ SpBox ((Va1_13.setCell ⟨bn, 0, none⟩ (.int .i64 (yl))).setCell ⟨bn, 1, none⟩ (.int .i64 (yh))) (k8) (b3) (b4) ∧ Below w.heap.size w ((Va1_13.setCell ⟨bn, 0, none⟩ (.int .i64 (yl))).setCell ⟨bn, 1, none⟩ (.int .i64 (yh))) := ⟨(hf.1.other (by (try dsimp only); omega) _).other (by (try dsimp only); omega) _, (hf.2.1.other (by (try dsimp only); omega) _).other (by (try dsimp only); omega) _, (hf.2.2.1.other (by (try dsimp only); omega) _).other (by (try dsimp only); omega) _, (hf.2.2.2.1.other (by (try dsimp only); omega) _).other (by (try dsimp only); omega) _, (hf.2.2.2.2.1.other (by (try dsimp only); omega) _).other (by (try dsimp only); omega) _, (hf.2.2.2.2.2.1.other (by (try dsimp only); omega) _).other (by (try dsimp only); omega) _, (hf.2.2.2.2.2.2.setCell (p := ⟨bn, 0, none⟩) ds _).setCell (p := ⟨bn, 1, none⟩) ds _⟩
      refine hK.out _ _ (heldC_one (fun h => absurd h (by simp))) (fun hF => ?_)
      clear hK K
      try simp only [Act.put, List.setIfInBounds_toArray, List.set_cons_zero, List.set_cons_succ]
      refine wpG_done (by kernel_rfl) ?_ _
      clear hf zz0 zz1 zz0f zz1f zzl hn
      go_wp2_with fail
      go_meet
      exact ⟨bn, rfl, Lib.hid ds, Lib.hid hnn, Lib.hid hfn.1, Lib.hid hfn.2.1, Lib.hid hfn.2.2.1, Lib.hid hfn.2.2.2.1, Lib.hid hfn.2.2.2.2.1, Lib.hid hfn.2.2.2.2.2.1, Lib.hid dl0, Lib.hid dl1, Lib.hid dl2, Lib.hid dl3, Lib.hid dl4, Lib.hid dl5, Lib.hid hfn.2.2.2.2.2.2⟩
  case rest =>
  obtain ⟨k9, rfl, Hkl9, s9, s1, s3, s5, s6, s7, s8, Hd9_1, Hd9_3, Hd9_5, Hd9_6, Hd9_7, Hd9_8, HB⟩ := hcut
  obtain ⟨X9, hX9⟩ : ∃ X, X = wc := ⟨_, rfl⟩
  subst hX9
  clear HXD1 hf
  go_upto_region 11 with fail
  obtain ⟨XD2, hXD2⟩ : ∃ x, x = X9.drew := ⟨_, rfl⟩
  have hf : SpBox XD2 (k1) (0) (0) ∧ RwBox XD2 (k3) (.string nm) (.int .i64 r1) (.int .i64 r2) (.int .i64 r3) ∧ SpBox XD2 (k5) (a1) (a2) ∧ SpBox XD2 (k6) (a3) (a4) ∧ SpBox XD2 (k7) (b1) (b2) ∧ SpBox XD2 (k8) (b3) (b4) ∧ SpBox XD2 (k9) (yl) (yh) ∧ Below w.heap.size w XD2 := by rw [hXD2]; exact ⟨s1.out.drew, s3.out.drew, s5.out.drew, s6.out.drew, s7.out.drew, s8.out.drew, s9.out.drew, HB.out.drew⟩
  have HXD2 := Lib.hid hXD2; clear hXD2 s1 s3 s5 s6 s7 s8 s9 HB
  go_cut [21] (fun sv wx => ∃ bn : Nat, sv = .pointer (some ⟨bn, 0, none⟩) ∧ Hid (w.heap.size ≤ bn) ∧ Hid (SpBox wx bn (xl) (xh)) ∧ Hid (SpBox wx (k1) (0) (0)) ∧ Hid (RwBox wx (k3) (.string nm) (.int .i64 r1) (.int .i64 r2) (.int .i64 r3)) ∧ Hid (SpBox wx (k5) (a1) (a2)) ∧ Hid (SpBox wx (k6) (a3) (a4)) ∧ Hid (SpBox wx (k7) (b1) (b2)) ∧ Hid (SpBox wx (k8) (b3) (b4)) ∧ Hid (SpBox wx (k9) (yl) (yh)) ∧ Hid (k1 < bn) ∧ Hid (k3 < bn) ∧ Hid (k5 < bn) ∧ Hid (k6 < bn) ∧ Hid (k7 < bn) ∧ Hid (k8 < bn) ∧ Hid (k9 < bn) ∧ Hid (Below w.heap.size w wx))
  case first =>
    refine wp_region_G [(8, fun w' => SpBox w' (k1) (0) (0) ∧ RwBox w' (k3) (.string nm) (.int .i64 r1) (.int .i64 r2) (.int .i64 r3) ∧ SpBox w' (k5) (a1) (a2) ∧ SpBox w' (k6) (a3) (a4) ∧ SpBox w' (k7) (b1) (b2) ∧ SpBox w' (k8) (b3) (b4) ∧ SpBox w' (k9) (yl) (yh) ∧ Below w.heap.size w w')] (by kernel_rfl) (heldC_one (fun _ => by rw [← HXD2.out]; exact hf)) (fun hF => ?_)
    rw [← HXD2.out] at hF ⊢
    refine wpG_take (oi := ?oi146) (v := ?vv146) 0 _ ?hi146 (List.Mem.head _) ?hc146 ?hQ146 hF ?hw146 ?hy146 (fun hF => ?hh146)
    case hi146 => (simp only [List.getElem?_toArray, List.getElem?_cons_succ, List.getElem?_cons_zero]; rfl)
    case hc146 => kernel_rfl
    case hQ146 => exact fun _ _ _ h => h
    case hw146 => rfl
    case hy146 => (intro wz hz; have z0 := hz.2.2.2.1.c0; have z1 := hz.2.2.2.1.c1; go_simp; try (with_reducible rfl))
    try simp only [Act.put, List.setIfInBounds_toArray, List.set_cons_zero, List.set_cons_succ]
    refine wpG_take (oi := ?oi147) (v := ?vv147) 1 _ ?hi147 (List.Mem.head _) ?hc147 ?hQ147 hF ?hw147 ?hy147 (fun hF => ?hh147)
    case hi147 => (simp only [List.getElem?_toArray, List.getElem?_cons_succ, List.getElem?_cons_zero]; rfl)
    case hc147 => kernel_rfl
    case hQ147 => exact fun _ _ _ h => h
    case hw147 => rfl
    case hy147 => (intro wz hz; skip; go_simp; try (with_reducible rfl))
    try simp only [Act.put, List.setIfInBounds_toArray, List.set_cons_zero, List.set_cons_succ]
    refine wpG_take (oi := ?oi148) (v := ?vv148) 2 _ ?hi148 (List.Mem.head _) ?hc148 ?hQ148 hF ?hw148 ?hy148 (fun hF => ?hh148)
    case hi148 => (simp only [List.getElem?_toArray, List.getElem?_cons_succ, List.getElem?_cons_zero]; rfl)
    case hc148 => kernel_rfl
    case hQ148 => exact fun _ _ _ h => h
    case hw148 => rfl
    case hy148 => (intro wz hz; have z0 := hz.2.1.c1; go_simp; try (with_reducible rfl))
    try simp only [Act.put, List.setIfInBounds_toArray, List.set_cons_zero, List.set_cons_succ]
    refine wpG_take (oi := ?oi149) (v := ?vv149) 4 _ ?hi149 (List.Mem.head _) ?hc149 ?hQ149 hF ?hw149 ?hy149 (fun hF => ?hh149)
    case hi149 => (simp only [List.getElem?_toArray, List.getElem?_cons_succ, List.getElem?_cons_zero]; rfl)
    case hc149 => kernel_rfl
    case hQ149 => exact fun _ _ _ h => h
    case hw149 => rfl
    case hy149 => (intro wz hz; have z0 := hz.2.2.2.2.2.1.c0; have z1 := hz.2.2.2.2.2.1.c1; go_simp; try (with_reducible rfl))
    try simp only [Act.put, List.setIfInBounds_toArray, List.set_cons_zero, List.set_cons_succ]
    refine wpG_ready (rs := [3, 7]) (by kernel_rfl) (by simp) ?_
    refine all_two ?_ ?_
    · skip
      refine wpOp_hand (oi := ?oi150) ?hi150 (fun K hK => ?hh150)
      case hi150 => (simp only [List.getElem?_toArray, List.getElem?_cons_succ, List.getElem?_cons_zero]; rfl)
      go_simp
      refine Calls.mono (M2.out _) ?_
      rintro e Va2_1 ⟨rfl, hb⟩
      have hfn : SpBox Va2_1 (k1) (0) (0) ∧ RwBox Va2_1 (k3) (.string nm) (.int .i64 r1) (.int .i64 r2) (.int .i64 r3) ∧ SpBox Va2_1 (k5) (a1) (a2) ∧ SpBox Va2_1 (k6) (a3) (a4) ∧ SpBox Va2_1 (k7) (b1) (b2) ∧ SpBox Va2_1 (k8) (b3) (b4) ∧ SpBox Va2_1 (k9) (yl) (yh) ∧ Below w.heap.size w Va2_1 := ⟨hf.1.below hb, hf.2.1.below hb, hf.2.2.1.below hb, hf.2.2.2.1.below hb, hf.2.2.2.2.1.below hb, hf.2.2.2.2.2.1.below hb, hf.2.2.2.2.2.2.1.below hb, hf.2.2.2.2.2.2.2.trans (hb.mono hf.2.2.2.2.2.2.2.size)⟩
      clear hf hb
      have hf := hfn
      clear hfn
      refine hK.out _ _ (heldC_one (fun _ => hf)) (fun hF => ?_)
      clear hK K
      try simp only [Act.put, List.setIfInBounds_toArray, List.set_cons_zero, List.set_cons_succ]
      refine wpG_ready (rs := [5, 7]) (by kernel_rfl) (by simp) ?_
      refine all_two ?_ ?_
      · skip
        refine wpOp_hand (oi := ?oi151) ?hi151 (fun K hK => ?hh151)
        case hi151 => (simp only [List.getElem?_toArray, List.getElem?_cons_succ, List.getElem?_cons_zero]; rfl)
        go_simp
        refine Calls.mono (M4.out _) ?_
        rintro e Va2_2 ⟨rfl, hb⟩
        have hfn : SpBox Va2_2 (k1) (0) (0) ∧ RwBox Va2_2 (k3) (.string nm) (.int .i64 r1) (.int .i64 r2) (.int .i64 r3) ∧ SpBox Va2_2 (k5) (a1) (a2) ∧ SpBox Va2_2 (k6) (a3) (a4) ∧ SpBox Va2_2 (k7) (b1) (b2) ∧ SpBox Va2_2 (k8) (b3) (b4) ∧ SpBox Va2_2 (k9) (yl) (yh) ∧ Below w.heap.size w Va2_2 := ⟨hf.1.below hb, hf.2.1.below hb, hf.2.2.1.below hb, hf.2.2.2.1.below hb, hf.2.2.2.2.1.below hb, hf.2.2.2.2.2.1.below hb, hf.2.2.2.2.2.2.1.below hb, hf.2.2.2.2.2.2.2.trans (hb.mono hf.2.2.2.2.2.2.2.size)⟩
        clear hf hb
        have hf := hfn
        clear hfn
        refine hK.out _ _ (heldC_one (fun _ => hf)) (fun hF => ?_)
        clear hK K
        try simp only [Act.put, List.setIfInBounds_toArray, List.set_cons_zero, List.set_cons_succ]
        refine wpG_ready (rs := [6, 7]) (by kernel_rfl) (by simp) ?_
        refine all_two ?_ ?_
        · skip
          refine wpOp_hand (oi := ?oi152) ?hi152 (fun K hK => ?hh152)
          case hi152 => (simp only [List.getElem?_toArray, List.getElem?_cons_succ, List.getElem?_cons_zero]; rfl)
          go_simp
          refine Calls.mono (P2.out _) ?_
          rintro e Va2_3 ⟨rfl, hb⟩
          have hfn : SpBox Va2_3 (k1) (0) (0) ∧ RwBox Va2_3 (k3) (.string nm) (.int .i64 r1) (.int .i64 r2) (.int .i64 r3) ∧ SpBox Va2_3 (k5) (a1) (a2) ∧ SpBox Va2_3 (k6) (a3) (a4) ∧ SpBox Va2_3 (k7) (b1) (b2) ∧ SpBox Va2_3 (k8) (b3) (b4) ∧ SpBox Va2_3 (k9) (yl) (yh) ∧ Below w.heap.size w Va2_3 := ⟨hf.1.below hb, hf.2.1.below hb, hf.2.2.1.below hb, hf.2.2.2.1.below hb, hf.2.2.2.2.1.below hb, hf.2.2.2.2.2.1.below hb, hf.2.2.2.2.2.2.1.below hb, hf.2.2.2.2.2.2.2.trans (hb.mono hf.2.2.2.2.2.2.2.size)⟩
          clear hf hb
          have hf := hfn
          clear hfn
          refine hK.out _ _ (heldC_one (fun _ => hf)) (fun hF => ?_)
          clear hK K
          try simp only [Act.put, List.setIfInBounds_toArray, List.set_cons_zero, List.set_cons_succ]
          refine wpG_ready (rs := [7]) (by kernel_rfl) (by simp) ?_
          refine all_one ?_
          refine wpOp_hand (oi := ?oi153) ?hi153 (fun K hK => ?hh153)
          case hi153 => (simp only [List.getElem?_toArray, List.getElem?_cons_succ, List.getElem?_cons_zero]; rfl)
          go_simp
          have dl0 := hf.1.lt
          have dl1 := hf.2.1.lt
          have dl2 := hf.2.2.1.lt
          have dl3 := hf.2.2.2.1.lt
          have dl4 := hf.2.2.2.2.1.lt
          have dl5 := hf.2.2.2.2.2.1.lt
          have dl6 := hf.2.2.2.2.2.2.1.lt
          have ds := hf.2.2.2.2.2.2.2.size
          have hn := SpBox.new Va2_3 0 0
          obtain ⟨bn, hbn⟩ : ∃ b, b = Va2_3.heap.size := ⟨_, rfl⟩
          obtain ⟨Ya2_4, hY⟩ : ∃ Y, Y = Va2_3.alloc (.cells #[.int .i64 0, .int .i64 0] 24) := ⟨_, rfl⟩
          have hfn : SpBox Ya2_4 (k1) (0) (0) ∧ RwBox Ya2_4 (k3) (.string nm) (.int .i64 r1) (.int .i64 r2) (.int .i64 r3) ∧ SpBox Ya2_4 (k5) (a1) (a2) ∧ SpBox Ya2_4 (k6) (a3) (a4) ∧ SpBox Ya2_4 (k7) (b1) (b2) ∧ SpBox Ya2_4 (k8) (b3) (b4) ∧ SpBox Ya2_4 (k9) (yl) (yh) ∧ Below w.heap.size w Ya2_4 := by rw [hY]; exact ⟨hf.1.alloc _, hf.2.1.alloc _, hf.2.2.1.alloc _, hf.2.2.2.1.alloc _, hf.2.2.2.2.1.alloc _, hf.2.2.2.2.2.1.alloc _, hf.2.2.2.2.2.2.1.alloc _, hf.2.2.2.2.2.2.2.alloc ds _⟩
          rw [← hY] at hn ⊢
          rw [← hbn] at hn ds dl0 dl1 dl2 dl3 dl4 dl5 dl6 ⊢
          clear hf
          have hf := hfn
          clear hfn hY hbn
          refine hK.out _ _ (heldC_one (fun _ => hf)) (fun hF => ?_)
          clear hK K
          try simp only [Act.put, List.setIfInBounds_toArray, List.set_cons_zero, List.set_cons_succ]
          refine wpG_ready (rs := [8]) (by kernel_rfl) (by simp) ?_
          refine all_one ?_
          have zz0 := hn.c0; have zz1 := hn.c1; have zz0f := hn.free 0; have zz1f := hn.free 1; have zzl := hn.lt
          refine wpOp_hand (oi := ?oi154) ?hi154 (fun K hK => ?hh154)
          case hi154 => (simp only [List.getElem?_toArray, List.getElem?_cons_succ, List.getElem?_cons_zero]; rfl)
          go_simp
          have hnn := hn.set (xl) (xh)
          have hfn : SpBox ((Ya2_4.setCell ⟨bn, 0, none⟩ (.int .i64 (xl))).setCell ⟨bn, 1, none⟩ (.int .i64 (xh))) (k1) (0) (0) ∧ RwBox ((Ya2_4.setCell ⟨bn, 0, none⟩ (.int .i64 (xl))).setCell ⟨bn, 1, none⟩ (.int .i64 (xh))) (k3) (.string nm) (.int .i64 r1) (.int .i64 r2) (.int .i64 r3) ∧ SpBox ((Ya2_4.setCell ⟨bn, 0, none⟩ (.int .i64 (xl))).setCell ⟨bn, 1, none⟩ (.int .i64 (xh))) (k5) (a1) (a2) ∧ SpBox ((Ya2_4.setCell ⟨bn, 0, none⟩ (.int .i64 (xl))).setCell ⟨bn, 1, none⟩ (.int .i64 (xh))) (k6) (a3) (a4) ∧ SpBox ((Ya2_4.setCell ⟨bn, 0, none⟩ (.int .i64 (xl))).setCell ⟨bn, 1, none⟩ (.int .i64 (xh))) (k7) (b1) (b2) ∧ SpBox ((Ya2_4.setCell ⟨bn, 0, none⟩ (.int .i64 (xl))).setCell ⟨bn, 1, none⟩ (.int .i64 (xh))) (k8) (b3) (b4) ∧ SpBox ((Ya2_4.setCell ⟨bn, 0, none⟩ (.int .i64 (xl))).setCell ⟨bn, 1, none⟩ (.int .i64 (xh))) (k9) (yl) (yh) ∧ Below w.heap.size w ((Ya2_4.setCell ⟨bn, 0, none⟩ (.int .i64 (xl))).setCell ⟨bn, 1, none⟩ (.int .i64 (xh))) := ⟨(hf.1.other (by (try dsimp only); omega) _).other (by (try dsimp only); omega) _, (hf.2.1.other (by (try dsimp only); omega) _).other (by (try dsimp only); omega) _, (hf.2.2.1.other (by (try dsimp only); omega) _).other (by (try dsimp only); omega) _, (hf.2.2.2.1.other (by (try dsimp only); omega) _).other (by (try dsimp only); omega) _, (hf.2.2.2.2.1.other (by (try dsimp only); omega) _).other (by (try dsimp only); omega) _, (hf.2.2.2.2.2.1.other (by (try dsimp only); omega) _).other (by (try dsimp only); omega) _, (hf.2.2.2.2.2.2.1.other (by (try dsimp only); omega) _).other (by (try dsimp only); omega) _, (hf.2.2.2.2.2.2.2.setCell (p := ⟨bn, 0, none⟩) ds _).setCell (p := ⟨bn, 1, none⟩) ds _⟩
          refine hK.out _ _ (heldC_one (fun h => absurd h (by simp))) (fun hF => ?_)
          clear hK K
          try simp only [Act.put, List.setIfInBounds_toArray, List.set_cons_zero, List.set_cons_succ]
          refine wpG_done (by kernel_rfl) ?_ _
          clear hf zz0 zz1 zz0f zz1f zzl hn
          go_wp2_with fail
          go_meet
          exact ⟨bn, rfl, Lib.hid ds, Lib.hid hnn, Lib.hid hfn.1, Lib.hid hfn.2.1, Lib.hid hfn.2.2.1, Lib.hid hfn.2.2.2.1, Lib.hid hfn.2.2.2.2.1, Lib.hid hfn.2.2.2.2.2.1, Lib.hid hfn.2.2.2.2.2.2.1, Lib.hid dl0, Lib.hid dl1, Lib.hid dl2, Lib.hid dl3, Lib.hid dl4, Lib.hid dl5, Lib.hid dl6, Lib.hid hfn.2.2.2.2.2.2.2⟩
        · skip
          refine wpOp_hand (oi := ?oi155) ?hi155 (fun K hK => ?hh155)
          case hi155 => (simp only [List.getElem?_toArray, List.getElem?_cons_succ, List.getElem?_cons_zero]; rfl)
          go_simp
          have dl0 := hf.1.lt
          have dl1 := hf.2.1.lt
          have dl2 := hf.2.2.1.lt
          have dl3 := hf.2.2.2.1.lt
          have dl4 := hf.2.2.2.2.1.lt
          have dl5 := hf.2.2.2.2.2.1.lt
          have dl6 := hf.2.2.2.2.2.2.1.lt
          have ds := hf.2.2.2.2.2.2.2.size
          have hn := SpBox.new Va2_2 0 0
          obtain ⟨bn, hbn⟩ : ∃ b, b = Va2_2.heap.size := ⟨_, rfl⟩
          obtain ⟨Ya2_5, hY⟩ : ∃ Y, Y = Va2_2.alloc (.cells #[.int .i64 0, .int .i64 0] 24) := ⟨_, rfl⟩
          have hfn : SpBox Ya2_5 (k1) (0) (0) ∧ RwBox Ya2_5 (k3) (.string nm) (.int .i64 r1) (.int .i64 r2) (.int .i64 r3) ∧ SpBox Ya2_5 (k5) (a1) (a2) ∧ SpBox Ya2_5 (k6) (a3) (a4) ∧ SpBox Ya2_5 (k7) (b1) (b2) ∧ SpBox Ya2_5 (k8) (b3) (b4) ∧ SpBox Ya2_5 (k9) (yl) (yh) ∧ Below w.heap.size w Ya2_5 := by rw [hY]; exact ⟨hf.1.alloc _, hf.2.1.alloc _, hf.2.2.1.alloc _, hf.2.2.2.1.alloc _, hf.2.2.2.2.1.alloc _, hf.2.2.2.2.2.1.alloc _, hf.2.2.2.2.2.2.1.alloc _, hf.2.2.2.2.2.2.2.alloc ds _⟩
          rw [← hY] at hn ⊢
          rw [← hbn] at hn ds dl0 dl1 dl2 dl3 dl4 dl5 dl6 ⊢
          clear hf
          have hf := hfn
          clear hfn hY hbn
          refine hK.out _ _ (heldC_one (fun _ => hf)) (fun hF => ?_)
          clear hK K
          try simp only [Act.put, List.setIfInBounds_toArray, List.set_cons_zero, List.set_cons_succ]
          refine wpG_ready (rs := [6]) (by kernel_rfl) (by simp) ?_
          refine all_one ?_
          refine wpOp_hand (oi := ?oi156) ?hi156 (fun K hK => ?hh156)
          case hi156 => (simp only [List.getElem?_toArray, List.getElem?_cons_succ, List.getElem?_cons_zero]; rfl)
          go_simp
          refine Calls.mono (P2.out _) ?_
          rintro e Va2_6 ⟨rfl, hb⟩
          have hnn := hn.below hb; clear hn; have hn := hnn; clear hnn
          have hfn : SpBox Va2_6 (k1) (0) (0) ∧ RwBox Va2_6 (k3) (.string nm) (.int .i64 r1) (.int .i64 r2) (.int .i64 r3) ∧ SpBox Va2_6 (k5) (a1) (a2) ∧ SpBox Va2_6 (k6) (a3) (a4) ∧ SpBox Va2_6 (k7) (b1) (b2) ∧ SpBox Va2_6 (k8) (b3) (b4) ∧ SpBox Va2_6 (k9) (yl) (yh) ∧ Below w.heap.size w Va2_6 := ⟨hf.1.below hb, hf.2.1.below hb, hf.2.2.1.below hb, hf.2.2.2.1.below hb, hf.2.2.2.2.1.below hb, hf.2.2.2.2.2.1.below hb, hf.2.2.2.2.2.2.1.below hb, hf.2.2.2.2.2.2.2.trans (hb.mono hf.2.2.2.2.2.2.2.size)⟩
          clear hf hb
          have hf := hfn
          clear hfn
          refine hK.out _ _ (heldC_one (fun _ => hf)) (fun hF => ?_)
          clear hK K
          try simp only [Act.put, List.setIfInBounds_toArray, List.set_cons_zero, List.set_cons_succ]
          refine wpG_ready (rs := [8]) (by kernel_rfl) (by simp) ?_
          refine all_one ?_
          have zz0 := hn.c0; have zz1 := hn.c1; have zz0f := hn.free 0; have zz1f := hn.free 1; have zzl := hn.lt
          refine wpOp_hand (oi := ?oi157) ?hi157 (fun K hK => ?hh157)
          case hi157 => (simp only [List.getElem?_toArray, List.getElem?_cons_succ, List.getElem?_cons_zero]; rfl)
          go_simp
          have hnn := hn.set (xl) (xh)
          have hfn : SpBox ((Va2_6.setCell ⟨bn, 0, none⟩ (.int .i64 (xl))).setCell ⟨bn, 1, none⟩ (.int .i64 (xh))) (k1) (0) (0) ∧ RwBox ((Va2_6.setCell ⟨bn, 0, none⟩ (.int .i64 (xl))).setCell ⟨bn, 1, none⟩ (.int .i64 (xh))) (k3) (.string nm) (.int .i64 r1) (.int .i64 r2) (.int .i64 r3) ∧ SpBox ((Va2_6.setCell ⟨bn, 0, none⟩ (.int .i64 (xl))).setCell ⟨bn, 1, none⟩ (.int .i64 (xh))) (k5) (a1) (a2) ∧ SpBox ((Va2_6.setCell ⟨bn, 0, none⟩ (.int .i64 (xl))).setCell ⟨bn, 1, none⟩ (.int .i64 (xh))) (k6) (a3) (a4) ∧ SpBox ((Va2_6.setCell ⟨bn, 0, none⟩ (.int .i64 (xl))).setCell ⟨bn, 1, none⟩ (.int .i64 (xh))) (k7) (b1) (b2) ∧ SpBox ((Va2_6.setCell ⟨bn, 0, none⟩ (.int .i64 (xl))).setCell ⟨bn, 1, none⟩ (.int .i64 (xh))) (k8) (b3) (b4) ∧ SpBox ((Va2_6.setCell ⟨bn, 0, none⟩ (.int .i64 (xl))).setCell ⟨bn, 1, none⟩ (.int .i64 (xh))) (k9) (yl) (yh) ∧ Below w.heap.size w ((Va2_6.setCell ⟨bn, 0, none⟩ (.int .i64 (xl))).setCell ⟨bn, 1, none⟩ (.int .i64 (xh))) := ⟨(hf.1.other (by (try dsimp only); omega) _).other (by (try dsimp only); omega) _, (hf.2.1.other (by (try dsimp only); omega) _).other (by (try dsimp only); omega) _, (hf.2.2.1.other (by (try dsimp only); omega) _).other (by (try dsimp only); omega) _, (hf.2.2.2.1.other (by (try dsimp only); omega) _).other (by (try dsimp only); omega) _, (hf.2.2.2.2.1.other (by (try dsimp only); omega) _).other (by (try dsimp only); omega) _, (hf.2.2.2.2.2.1.other (by (try dsimp only); omega) _).other (by (try dsimp only); omega) _, (hf.2.2.2.2.2.2.1.other (by (try dsimp only); omega) _).other (by (try dsimp only); omega) _, (hf.2.2.2.2.2.2.2.setCell (p := ⟨bn, 0, none⟩) ds _).setCell (p := ⟨bn, 1, none⟩) ds _⟩
          refine hK.out _ _ (heldC_one (fun h => absurd h (by simp))) (fun hF => ?_)
          clear hK K
          try simp only [Act.put, List.setIfInBounds_toArray, List.set_cons_zero, List.set_cons_succ]
          refine wpG_done (by kernel_rfl) ?_ _
          clear hf zz0 zz1 zz0f zz1f zzl hn
          go_wp2_with fail
          go_meet
          exact ⟨bn, rfl, Lib.hid ds, Lib.hid hnn, Lib.hid hfn.1, Lib.hid hfn.2.1, Lib.hid hfn.2.2.1, Lib.hid hfn.2.2.2.1, Lib.hid hfn.2.2.2.2.1, Lib.hid hfn.2.2.2.2.2.1, Lib.hid hfn.2.2.2.2.2.2.1, Lib.hid dl0, Lib.hid dl1, Lib.hid dl2, Lib.hid dl3, Lib.hid dl4, Lib.hid dl5, Lib.hid dl6, Lib.hid hfn.2.2.2.2.2.2.2⟩
      · skip
        refine wpOp_hand (oi := ?oi158) ?hi158 (fun K hK => ?hh158)
        case hi158 => (simp only [List.getElem?_toArray, List.getElem?_cons_succ, List.getElem?_cons_zero]; rfl)
        go_simp
        have dl0 := hf.1.lt
        have dl1 := hf.2.1.lt
        have dl2 := hf.2.2.1.lt
        have dl3 := hf.2.2.2.1.lt
        have dl4 := hf.2.2.2.2.1.lt
        have dl5 := hf.2.2.2.2.2.1.lt
        have dl6 := hf.2.2.2.2.2.2.1.lt
        have ds := hf.2.2.2.2.2.2.2.size
        have hn := SpBox.new Va2_1 0 0
        obtain ⟨bn, hbn⟩ : ∃ b, b = Va2_1.heap.size := ⟨_, rfl⟩
        obtain ⟨Ya2_7, hY⟩ : ∃ Y, Y = Va2_1.alloc (.cells #[.int .i64 0, .int .i64 0] 24) := ⟨_, rfl⟩
        have hfn : SpBox Ya2_7 (k1) (0) (0) ∧ RwBox Ya2_7 (k3) (.string nm) (.int .i64 r1) (.int .i64 r2) (.int .i64 r3) ∧ SpBox Ya2_7 (k5) (a1) (a2) ∧ SpBox Ya2_7 (k6) (a3) (a4) ∧ SpBox Ya2_7 (k7) (b1) (b2) ∧ SpBox Ya2_7 (k8) (b3) (b4) ∧ SpBox Ya2_7 (k9) (yl) (yh) ∧ Below w.heap.size w Ya2_7 := by rw [hY]; exact ⟨hf.1.alloc _, hf.2.1.alloc _, hf.2.2.1.alloc _, hf.2.2.2.1.alloc _, hf.2.2.2.2.1.alloc _, hf.2.2.2.2.2.1.alloc _, hf.2.2.2.2.2.2.1.alloc _, hf.2.2.2.2.2.2.2.alloc ds _⟩
        rw [← hY] at hn ⊢
        rw [← hbn] at hn ds dl0 dl1 dl2 dl3 dl4 dl5 dl6 ⊢
        clear hf
        have hf := hfn
        clear hfn hY hbn
        refine hK.out _ _ (heldC_one (fun _ => hf)) (fun hF => ?_)
        clear hK K
        try simp only [Act.put, List.setIfInBounds_toArray, List.set_cons_zero, List.set_cons_succ]
        refine wpG_ready (rs := [5]) (by kernel_rfl) (by simp) ?_
        refine all_one ?_
        refine wpOp_hand (oi := ?oi159) ?hi159 (fun K hK => ?hh159)
        case hi159 => (simp only [List.getElem?_toArray, List.getElem?_cons_succ, List.getElem?_cons_zero]; rfl)
        go_simp
        refine Calls.mono (M4.out _) ?_
        rintro e Va2_8 ⟨rfl, hb⟩
        have hnn := hn.below hb; clear hn; have hn := hnn; clear hnn
        have hfn : SpBox Va2_8 (k1) (0) (0) ∧ RwBox Va2_8 (k3) (.string nm) (.int .i64 r1) (.int .i64 r2) (.int .i64 r3) ∧ SpBox Va2_8 (k5) (a1) (a2) ∧ SpBox Va2_8 (k6) (a3) (a4) ∧ SpBox Va2_8 (k7) (b1) (b2) ∧ SpBox Va2_8 (k8) (b3) (b4) ∧ SpBox Va2_8 (k9) (yl) (yh) ∧ Below w.heap.size w Va2_8 := ⟨hf.1.below hb, hf.2.1.below hb, hf.2.2.1.below hb, hf.2.2.2.1.below hb, hf.2.2.2.2.1.below hb, hf.2.2.2.2.2.1.below hb, hf.2.2.2.2.2.2.1.below hb, hf.2.2.2.2.2.2.2.trans (hb.mono hf.2.2.2.2.2.2.2.size)⟩
        clear hf hb
        have hf := hfn
        clear hfn
        refine hK.out _ _ (heldC_one (fun _ => hf)) (fun hF => ?_)
        clear hK K
        try simp only [Act.put, List.setIfInBounds_toArray, List.set_cons_zero, List.set_cons_succ]
        refine wpG_ready (rs := [6]) (by kernel_rfl) (by simp) ?_
        refine all_one ?_
        refine wpOp_hand (oi := ?oi160) ?hi160 (fun K hK => ?hh160)
        case hi160 => (simp only [List.getElem?_toArray, List.getElem?_cons_succ, List.getElem?_cons_zero]; rfl)
        go_simp
        refine Calls.mono (P2.out _) ?_
        rintro e Va2_9 ⟨rfl, hb⟩
        have hnn := hn.below hb; clear hn; have hn := hnn; clear hnn
        have hfn : SpBox Va2_9 (k1) (0) (0) ∧ RwBox Va2_9 (k3) (.string nm) (.int .i64 r1) (.int .i64 r2) (.int .i64 r3) ∧ SpBox Va2_9 (k5) (a1) (a2) ∧ SpBox Va2_9 (k6) (a3) (a4) ∧ SpBox Va2_9 (k7) (b1) (b2) ∧ SpBox Va2_9 (k8) (b3) (b4) ∧ SpBox Va2_9 (k9) (yl) (yh) ∧ Below w.heap.size w Va2_9 := ⟨hf.1.below hb, hf.2.1.below hb, hf.2.2.1.below hb, hf.2.2.2.1.below hb, hf.2.2.2.2.1.below hb, hf.2.2.2.2.2.1.below hb, hf.2.2.2.2.2.2.1.below hb, hf.2.2.2.2.2.2.2.trans (hb.mono hf.2.2.2.2.2.2.2.size)⟩
        clear hf hb
        have hf := hfn
        clear hfn
        refine hK.out _ _ (heldC_one (fun _ => hf)) (fun hF => ?_)
        clear hK K
        try simp only [Act.put, List.setIfInBounds_toArray, List.set_cons_zero, List.set_cons_succ]
        refine wpG_ready (rs := [8]) (by kernel_rfl) (by simp) ?_
        refine all_one ?_
        have zz0 := hn.c0; have zz1 := hn.c1; have zz0f := hn.free 0; have zz1f := hn.free 1; have zzl := hn.lt
        refine wpOp_hand (oi := ?oi161) ?hi161 (fun K hK => ?hh161)
        case hi161 => (simp only [List.getElem?_toArray, List.getElem?_cons_succ, List.getElem?_cons_zero]; rfl)
        go_simp
        have hnn := hn.set (xl) (xh)
        have hfn : SpBox ((Va2_9.setCell ⟨bn, 0, none⟩ (.int .i64 (xl))).setCell ⟨bn, 1, none⟩ (.int .i64 (xh))) (k1) (0) (0) ∧ RwBox ((Va2_9.setCell ⟨bn, 0, none⟩ (.int .i64 (xl))).setCell ⟨bn, 1, none⟩ (.int .i64 (xh))) (k3) (.string nm) (.int .i64 r1) (.int .i64 r2) (.int .i64 r3) ∧ SpBox ((Va2_9.setCell ⟨bn, 0, none⟩ (.int .i64 (xl))).setCell ⟨bn, 1, none⟩ (.int .i64 (xh))) (k5) (a1) (a2) ∧ SpBox ((Va2_9.setCell ⟨bn, 0, none⟩ (.int .i64 (xl))).setCell ⟨bn, 1, none⟩ (.int .i64 (xh))) (k6) (a3) (a4) ∧ SpBox ((Va2_9.setCell ⟨bn, 0, none⟩ (.int .i64 (xl))).setCell ⟨bn, 1, none⟩ (.int .i64 (xh))) (k7) (b1) (b2) ∧ SpBox ((Va2_9.setCell ⟨bn, 0, none⟩ (.int .i64 (xl))).setCell ⟨bn, 1, none⟩ (.int .i64 (xh))) (k8) (b3) (b4) ∧ SpBox ((Va2_9.setCell ⟨bn, 0, none⟩ (.int .i64 (xl))).setCell ⟨bn, 1, none⟩ (.int .i64 (xh))) (k9) (yl) (yh) ∧ Below w.heap.size w ((Va2_9.setCell ⟨bn, 0, none⟩ (.int .i64 (xl))).setCell ⟨bn, 1, none⟩ (.int .i64 (xh))) := ⟨(hf.1.other (by (try dsimp only); omega) _).other (by (try dsimp only); omega) _, (hf.2.1.other (by (try dsimp only); omega) _).other (by (try dsimp only); omega) _, (hf.2.2.1.other (by (try dsimp only); omega) _).other (by (try dsimp only); omega) _, (hf.2.2.2.1.other (by (try dsimp only); omega) _).other (by (try dsimp only); omega) _, (hf.2.2.2.2.1.other (by (try dsimp only); omega) _).other (by (try dsimp only); omega) _, (hf.2.2.2.2.2.1.other (by (try dsimp only); omega) _).other (by (try dsimp only); omega) _, (hf.2.2.2.2.2.2.1.other (by (try dsimp only); omega) _).other (by (try dsimp only); omega) _, (hf.2.2.2.2.2.2.2.setCell (p := ⟨bn, 0, none⟩) ds _).setCell (p := ⟨bn, 1, none⟩) ds _⟩
        refine hK.out _ _ (heldC_one (fun h => absurd h (by simp))) (fun hF => ?_)
        clear hK K
        try simp only [Act.put, List.setIfInBounds_toArray, List.set_cons_zero, List.set_cons_succ]
        refine wpG_done (by kernel_rfl) ?_ _
        clear hf zz0 zz1 zz0f zz1f zzl hn
        go_wp2_with fail
        go_meet
        exact ⟨bn, rfl, Lib.hid ds, Lib.hid hnn, Lib.hid hfn.1, Lib.hid hfn.2.1, Lib.hid hfn.2.2.1, Lib.hid hfn.2.2.2.1, Lib.hid hfn.2.2.2.2.1, Lib.hid hfn.2.2.2.2.2.1, Lib.hid hfn.2.2.2.2.2.2.1, Lib.hid dl0, Lib.hid dl1, Lib.hid dl2, Lib.hid dl3, Lib.hid dl4, Lib.hid dl5, Lib.hid dl6, Lib.hid hfn.2.2.2.2.2.2.2⟩
    · skip
      refine wpOp_hand (oi := ?oi162) ?hi162 (fun K hK => ?hh162)
      case hi162 => (simp only [List.getElem?_toArray, List.getElem?_cons_succ, List.getElem?_cons_zero]; rfl)
      go_simp
      have dl0 := hf.1.lt
      have dl1 := hf.2.1.lt
      have dl2 := hf.2.2.1.lt
      have dl3 := hf.2.2.2.1.lt
      have dl4 := hf.2.2.2.2.1.lt
      have dl5 := hf.2.2.2.2.2.1.lt
      have dl6 := hf.2.2.2.2.2.2.1.lt
      have ds := hf.2.2.2.2.2.2.2.size
      have hn := SpBox.new XD2 0 0
      obtain ⟨bn, hbn⟩ : ∃ b, b = XD2.heap.size := ⟨_, rfl⟩
      obtain ⟨Ya2_10, hY⟩ : ∃ Y, Y = XD2.alloc (.cells #[.int .i64 0, .int .i64 0] 24) := ⟨_, rfl⟩
      have hfn : SpBox Ya2_10 (k1) (0) (0) ∧ RwBox Ya2_10 (k3) (.string nm) (.int .i64 r1) (.int .i64 r2) (.int .i64 r3) ∧ SpBox Ya2_10 (k5) (a1) (a2) ∧ SpBox Ya2_10 (k6) (a3) (a4) ∧ SpBox Ya2_10 (k7) (b1) (b2) ∧ SpBox Ya2_10 (k8) (b3) (b4) ∧ SpBox Ya2_10 (k9) (yl) (yh) ∧ Below w.heap.size w Ya2_10 := by rw [hY]; exact ⟨hf.1.alloc _, hf.2.1.alloc _, hf.2.2.1.alloc _, hf.2.2.2.1.alloc _, hf.2.2.2.2.1.alloc _, hf.2.2.2.2.2.1.alloc _, hf.2.2.2.2.2.2.1.alloc _, hf.2.2.2.2.2.2.2.alloc ds _⟩
      rw [← hY] at hn ⊢
      rw [← hbn] at hn ds dl0 dl1 dl2 dl3 dl4 dl5 dl6 ⊢
      clear hf
      have hf := hfn
      clear hfn hY hbn
      refine hK.out _ _ (heldC_one (fun _ => hf)) (fun hF => ?_)
      clear hK K
      try simp only [Act.put, List.setIfInBounds_toArray, List.set_cons_zero, List.set_cons_succ]
      refine wpG_ready (rs := [3]) (by kernel_rfl) (by simp) ?_
      refine all_one ?_
      refine wpOp_hand (oi := ?oi163) ?hi163 (fun K hK => ?hh163)
      case hi163 => (simp only [List.getElem?_toArray, List.getElem?_cons_succ, List.getElem?_cons_zero]; rfl)
      go_simp
      refine Calls.mono (M2.out _) ?_
      rintro e Va2_11 ⟨rfl, hb⟩
      have hnn := hn.below hb; clear hn; have hn := hnn; clear hnn
      have hfn : SpBox Va2_11 (k1) (0) (0) ∧ RwBox Va2_11 (k3) (.string nm) (.int .i64 r1) (.int .i64 r2) (.int .i64 r3) ∧ SpBox Va2_11 (k5) (a1) (a2) ∧ SpBox Va2_11 (k6) (a3) (a4) ∧ SpBox Va2_11 (k7) (b1) (b2) ∧ SpBox Va2_11 (k8) (b3) (b4) ∧ SpBox Va2_11 (k9) (yl) (yh) ∧ Below w.heap.size w Va2_11 := ⟨hf.1.below hb, hf.2.1.below hb, hf.2.2.1.below hb, hf.2.2.2.1.below hb, hf.2.2.2.2.1.below hb, hf.2.2.2.2.2.1.below hb, hf.2.2.2.2.2.2.1.below hb, hf.2.2.2.2.2.2.2.trans (hb.mono hf.2.2.2.2.2.2.2.size)⟩
      clear hf hb
      have hf := hfn
      clear hfn
      refine hK.out _ _ (heldC_one (fun _ => hf)) (fun hF => ?_)
      clear hK K
      try simp only [Act.put, List.setIfInBounds_toArray, List.set_cons_zero, List.set_cons_succ]
      refine wpG_ready (rs := [5]) (by kernel_rfl) (by simp) ?_
      refine all_one ?_
      refine wpOp_hand (oi := ?oi164) ?hi164 (fun K hK => ?hh164)
      case hi164 => (simp only [List.getElem?_toArray, List.getElem?_cons_succ, List.getElem?_cons_zero]; rfl)
      go_simp
      refine Calls.mono (M4.out _) ?_
      rintro e Va2_12 ⟨rfl, hb⟩
      have hnn := hn.below hb; clear hn; have hn := hnn; clear hnn
      have hfn : SpBox Va2_12 (k1) (0) (0) ∧ RwBox Va2_12 (k3) (.string nm) (.int .i64 r1) (.int .i64 r2) (.int .i64 r3) ∧ SpBox Va2_12 (k5) (a1) (a2) ∧ SpBox Va2_12 (k6) (a3) (a4) ∧ SpBox Va2_12 (k7) (b1) (b2) ∧ SpBox Va2_12 (k8) (b3) (b4) ∧ SpBox Va2_12 (k9) (yl) (yh) ∧ Below w.heap.size w Va2_12 := ⟨hf.1.below hb, hf.2.1.below hb, hf.2.2.1.below hb, hf.2.2.2.1.below hb, hf.2.2.2.2.1.below hb, hf.2.2.2.2.2.1.below hb, hf.2.2.2.2.2.2.1.below hb, hf.2.2.2.2.2.2.2.trans (hb.mono hf.2.2.2.2.2.2.2.size)⟩
      clear hf hb
      have hf := hfn
      clear hfn
      refine hK.out _ _ (heldC_one (fun _ => hf)) (fun hF => ?_)
      clear hK K
      try simp only [Act.put, List.setIfInBounds_toArray, List.set_cons_zero, List.set_cons_succ]
      refine wpG_ready (rs := [6]) (by kernel_rfl) (by simp) ?_
      refine all_one ?_
      refine wpOp_hand (oi := ?oi165) ?hi165 (fun K hK => ?hh165)
      case hi165 => (simp only [List.getElem?_toArray, List.getElem?_cons_succ, List.getElem?_cons_zero]; rfl)
      go_simp
      refine Calls.mono (P2.out _) ?_
      rintro e Va2_13 ⟨rfl, hb⟩
      have hnn := hn.below hb; clear hn; have hn := hnn; clear hnn
      have hfn : SpBox Va2_13 (k1) (0) (0) ∧ RwBox Va2_13 (k3) (.string nm) (.int .i64 r1) (.int .i64 r2) (.int .i64 r3) ∧ SpBox Va2_13 (k5) (a1) (a2) ∧ SpBox Va2_13 (k6) (a3) (a4) ∧ SpBox Va2_13 (k7) (b1) (b2) ∧ SpBox Va2_13 (k8) (b3) (b4) ∧ SpBox Va2_13 (k9) (yl) (yh) ∧ Below w.heap.size w Va2_13 := ⟨hf.1.below hb, hf.2.1.below hb, hf.2.2.1.below hb, hf.2.2.2.1.below hb, hf.2.2.2.2.1.below hb, hf.2.2.2.2.2.1.below hb, hf.2.2.2.2.2.2.1.below hb, hf.2.2.2.2.2.2.2.trans (hb.mono hf.2.2.2.2.2.2.2.size)⟩
      clear hf hb
      have hf := hfn
      clear hfn
      refine hK.out _ _ (heldC_one (fun _ => hf)) (fun hF => ?_)
      clear hK K
      try simp only [Act.put, List.setIfInBounds_toArray, List.set_cons_zero, List.set_cons_succ]
      refine wpG_ready (rs := [8]) (by kernel_rfl) (by simp) ?_
      refine all_one ?_
      have zz0 := hn.c0; have zz1 := hn.c1; have zz0f := hn.free 0; have zz1f := hn.free 1; have zzl := hn.lt
      refine wpOp_hand (oi := ?oi166) ?hi166 (fun K hK => ?hh166)
      case hi166 => (simp only [List.getElem?_toArray, List.getElem?_cons_succ, List.getElem?_cons_zero]; rfl)
      go_simp
      have hnn := hn.set (xl) (xh)
      have hfn : SpBox ((Va2_13.setCell ⟨bn, 0, none⟩ (.int .i64 (xl))).setCell ⟨bn, 1, none⟩ (.int .i64 (xh))) (k1) (0) (0) ∧ RwBox ((Va2_13.setCell ⟨bn, 0, none⟩ (.int .i64 (xl))).setCell ⟨bn, 1, none⟩ (.int .i64 (xh))) (k3) (.string nm) (.int .i64 r1) (.int .i64 r2) (.int .i64 r3) ∧ SpBox ((Va2_13.setCell ⟨bn, 0, none⟩ (.int .i64 (xl))).setCell ⟨bn, 1, none⟩ (.int .i64 (xh))) (k5) (a1) (a2) ∧ SpBox ((Va2_13.setCell ⟨bn, 0, none⟩ (.int .i64 (xl))).setCell ⟨bn, 1, none⟩ (.int .i64 (xh))) (k6) (a3) (a4) ∧ SpBox ((Va2_13.setCell ⟨bn, 0, none⟩ (.int .i64 (xl))).setCell ⟨bn, 1, none⟩ (.int .i64 (xh))) (k7) (b1) (b2) ∧ SpBox ((Va2_13.setCell ⟨bn, 0, none⟩ (.int .i64 (xl))).setCell ⟨bn, 1, none⟩ (.int .i64 (xh))) (k8) (b3) (b4) ∧ SpBox ((Va2_13.setCell ⟨bn, 0, none⟩ (.int .i64 (xl))).setCell ⟨bn, 1, none⟩ (.int .i64 (xh))) (k9) (yl) (yh) ∧ Below w.heap.size w ((Va2_13.setCell ⟨bn, 0, none⟩ (.int .i64 (xl))).setCell ⟨bn, 1, none⟩ (.int .i64 (xh))) := ⟨(hf.1.other (by (try dsimp only); omega) _).other (by (try dsimp only); omega) _, (hf.2.1.other (by (try dsimp only); omega) _).other (by (try dsimp only); omega) _, (hf.2.2.1.other (by (try dsimp only); omega) _).other (by (try dsimp only); omega) _, (hf.2.2.2.1.other (by (try dsimp only); omega) _).other (by (try dsimp only); omega) _, (hf.2.2.2.2.1.other (by (try dsimp only); omega) _).other (by (try dsimp only); omega) _, (hf.2.2.2.2.2.1.other (by (try dsimp only); omega) _).other (by (try dsimp only); omega) _, (hf.2.2.2.2.2.2.1.other (by (try dsimp only); omega) _).other (by (try dsimp only); omega) _, (hf.2.2.2.2.2.2.2.setCell (p := ⟨bn, 0, none⟩) ds _).setCell (p := ⟨bn, 1, none⟩) ds _⟩
      refine hK.out _ _ (heldC_one (fun h => absurd h (by simp))) (fun hF => ?_)
      clear hK K
      try simp only [Act.put, List.setIfInBounds_toArray, List.set_cons_zero, List.set_cons_succ]
      refine wpG_done (by kernel_rfl) ?_ _
      clear hf zz0 zz1 zz0f zz1f zzl hn
      go_wp2_with fail
      go_meet
      exact ⟨bn, rfl, Lib.hid ds, Lib.hid hnn, Lib.hid hfn.1, Lib.hid hfn.2.1, Lib.hid hfn.2.2.1, Lib.hid hfn.2.2.2.1, Lib.hid hfn.2.2.2.2.1, Lib.hid hfn.2.2.2.2.2.1, Lib.hid hfn.2.2.2.2.2.2.1, Lib.hid dl0, Lib.hid dl1, Lib.hid dl2, Lib.hid dl3, Lib.hid dl4, Lib.hid dl5, Lib.hid dl6, Lib.hid hfn.2.2.2.2.2.2.2⟩
  case rest =>
  obtain ⟨k10, rfl, Hkl10, s10, s1, s3, s5, s6, s7, s8, s9, Hd10_1, Hd10_3, Hd10_5, Hd10_6, Hd10_7, Hd10_8, Hd10_9, HB⟩ := hcut
  obtain ⟨X10, hX10⟩ : ∃ X, X = wc := ⟨_, rfl⟩
  subst hX10
  clear HXD2 hf
  go_upto_region 12 with fail
  clear s5
  clear s6
  clear s7
  clear s8
  clear s3
  have sc9_0 := s9.out.c0; have sc9_1 := s9.out.c1; have sc9_l := s9.out.lt
  have sc10_0 := s10.out.c0; have sc10_1 := s10.out.c1; have sc10_l := s10.out.lt
  go_wp2_with fail
  refine Calls.mono (AR.out _) ?_
  rintro e wf ⟨rfl, hb⟩
  replace s1 := Lib.hid (s1.out.below hb)
  replace HB := Lib.hid (HB.out.trans (hb.mono HB.out.size))
  clear sc9_0 sc9_1 sc9_l sc10_0 sc10_1 sc10_l hb
  have c1_0 := s1.out.c0; have c1_1 := s1.out.c1; have c1_f := s1.out.free 0; have c1_g := s1.out.free 1; have c1_l := s1.out.lt; have c1_k := Hkl1.out
  go_wp2_with fail
  refine bodyPost_ret (v := .tuple #[.agg #[.int .i64 lo, .int .i64 hi'], .int .i64 0]) ?_ rfl ⟨rfl, ?_⟩
  · simp [results, Tryd.results55, go_sem, *]
  · exact (HB.out.setCell (p := ⟨k1, 0, none⟩) c1_k _).setCell (p := ⟨k1, 1, none⟩) c1_k _
end Go.Proofs.YtdeoahgcppbmkaaDoor
