/- Package star: the table, Names, At. -/
import Derived.Test.YtcopmgnfakjdhaaDoorGrow
import Derived.Test.YtcopmgnfakjdhaaDoorOwn
import Derived.Laws.Rows
import Derived.Test.YtcopmgnfakjdhaaDoorBox
import Derived.RegionTactic
import Derived.ChangeAlike
import Derived.BigRegion
namespace Go.Proofs.YtcopmgnfakjdhaaDoor
open Go.RowKit
set_option linter.unusedSimpArgs false
set_option linter.unusedVariables false

def stNames : List (List UInt8) := [[112, 111, 108, 97, 114, 105, 115], [97, 108, 100, 101, 98, 97, 114, 97, 110], [114, 105, 103, 101, 108], [115, 105, 114, 105, 117, 115], [114, 101, 103, 117, 108, 117, 115], [115, 112, 105, 99, 97], [97, 110, 116, 97, 114, 101, 115], [118, 101, 103, 97]]
def stN (i : Nat) : ByteArray := ⟨(stNames.getD i []).toArray⟩
def stRa (i : Nat) : Int := [105428000, 191609000, 218426000, 281354000, 422477000, 559167000, 687083000, 775650000].getD i 0
def stDec (i : Nat) : Int := [247955800, 45859200, -22782200, -46433600, 33242200, -31003900, -73422200, 107732500].getD i 0
def stCells : Array Value := #[.string (stN 0), .int .i64 (stRa 0), .int .i64 (stDec 0), .string (stN 1), .int .i64 (stRa 1), .int .i64 (stDec 1), .string (stN 2), .int .i64 (stRa 2), .int .i64 (stDec 2), .string (stN 3), .int .i64 (stRa 3), .int .i64 (stDec 3),
  .string (stN 4), .int .i64 (stRa 4), .int .i64 (stDec 4), .string (stN 5), .int .i64 (stRa 5), .int .i64 (stDec 5), .string (stN 6), .int .i64 (stRa 6), .int .i64 (stDec 6), .string (stN 7), .int .i64 (stRa 7), .int .i64 (stDec 7)]
/-- The table of the stars stands. -/
def StarT (w : World) : Prop := ∃ t fr, w.heap[0]? = some (.cells stCells t fr)
theorem StarT.below {w w' : World} (h : StarT w) (hb : Below w.heap.size w w') : StarT w' := by
  obtain ⟨t, fr, h⟩ := h
  have hl : 0 < w.heap.size := by
    rcases Nat.lt_or_ge 0 w.heap.size with c | c
    · exact c
    · rw [Array.getElem?_eq_none c] at h; cases h
  exact ⟨t, fr, (hb.block _ hl).trans h⟩
theorem st_index (k : Nat) (hk : k < 8) : ∀ w : World, (Instr.index 60 (.agg stCells) (.int .i64 (k : Int))).run Tryd.prog w = .ok (.agg #[.string (stN k), .int .i64 (stRa k), .int .i64 (stDec k)]) w := fun w => by
  rcases (by omega : k = 0 ∨ k = 1 ∨ k = 2 ∨ k = 3 ∨ k = 4 ∨ k = 5 ∨ k = 6 ∨ k = 7) with rfl | rfl | rfl | rfl | rfl | rfl | rfl | rfl <;> kernel_rfl
theorem infoStr : (Tryd.prog.info? 9).map (fun i => (i.zero, i.size, i.bytes)) = some (some (.string ⟨#[]⟩), 1, 16) := by kernel_rfl
def stL (k : Nat) : List Value := (List.range k).map fun i => Value.string (stN i)
theorem stL_succ (k : Nat) : stL (k + 1) = stL k ++ [.string (stN k)] := by unfold stL; rw [List.range_succ, List.map_append]; rfl
theorem stL_len (k : Nat) : (stL k).length = k := by unfold stL; simp
/-- A slice of the names. -/
structure NmSl (w : World) (base : Nat) (v : Value) : Prop where
  own : w.ownsRow base 9 1 v 8 (stL 8)
theorem NmSl.form {w : World} {base : Nat} {v : Value} (h : NmSl w base v) : ∃ g cap, v = .slice (some ⟨g, 0, none⟩) 8 cap ∧ 8 ≤ cap ∧ cap ≤ maxLen ∧ (∀ i, i < 8 → w.cell? ⟨g, i, none⟩ = some (.string (stN i))) ∧ g < w.heap.size := by
  obtain ⟨_, h2⟩ := id h.own
  rcases h2 with ⟨rfl, h0⟩ | ⟨g, cap, cur, rfl, hb, hg, hn, hc, hs, ht⟩
  · omega
  · refine ⟨g, cap, rfl, hn, hc, fun i hi => ?_, ?_⟩
    · have := h.own.cellAt i (by omega)
      rw [this]
      rcases (by omega : i = 0 ∨ i = 1 ∨ i = 2 ∨ i = 3 ∨ i = 4 ∨ i = 5 ∨ i = 6 ∨ i = 7) with rfl | rfl | rfl | rfl | rfl | rfl | rfl | rfl <;> rfl
    · rcases Nat.lt_or_ge g w.heap.size with c | c
      · exact c
      · rw [Array.getElem?_eq_none c] at hg; cases hg
set_option maxRecDepth 100000 in
set_option maxHeartbeats 4000000 in
theorem names_ok (w : World) (ht : StarT w) : Calls Tryd.prog 17 #[] w fun e w' => ∃ v, e = .returned v ∧ NmSl w' w.heap.size v ∧ Below w.heap.size w w' := by
  obtain ⟨i0, hi, hy0, hy1, hy2⟩ := info_parts infoStr
  obtain ⟨t, fr, ht⟩ := ht
  obtain ⟨B, hB⟩ : ∃ B, B = w.heap.size := ⟨_, rfl⟩
  rw [← hB]
  have hbw := Below.refl w.heap.size w
  rw [← hB] at hbw
  have HIX := Lib.hid st_index
  have HB := Lib.hid hB
  clear hB
  go_enter Tryd.func17, Tryd.ntmps17
  go_wp2_with (first | (refine wpList_load_row rfl 60 _ rfl 0 rfl t stCells fr _ ht Tryd.underlying60 rfl (by kernel_rfl) ?_))
  generalize stCells = CS at *
  go_loopw [1, 5] (fun v i wr => ∃ k : Nat, k ≤ 8 ∧ i = .int .i64 k ∧ wr.ownsRow B 9 1 v k (stL k) ∧ B ≤ wr.heap.size ∧ Below B w wr) (fun _ i _ => 8 - (intOf i).toNat)
  case atStart => exact ⟨0, by omega, rfl, World.ownsRow_nil _ _ _ _, by have := HB.out; omega, hbw⟩
  case round =>
    obtain ⟨k, hk, rfl, hown, hsz, hbl⟩ := hrel
    by_cases hlt : k < 8
    · have ix := HIX.out k hlt
      have hlt2 : (k : Int) < 8 := by omega
      have hlt3 : (0 : Int) ≤ (k : Int) := by omega
      obtain ⟨nm, hnm⟩ : ∃ x, x = stN k := ⟨_, rfl⟩
      obtain ⟨ra, hra⟩ : ∃ x, x = stRa k := ⟨_, rfl⟩
      obtain ⟨dec, hdec⟩ : ∃ x, x = stDec k := ⟨_, rfl⟩
      rw [← hnm, ← hra, ← hdec] at ix
      have HN := Lib.hid hnm
      have hown1 := hown.alloc (.cells #[.string nm, .int .i64 ra, .int .i64 dec] 59)
      have hbl1 := hbl.alloc hsz (.cells #[.string nm, .int .i64 ra, .int .i64 dec] 59)
      clear hnm hra hdec hown hbl ht
      go_wp2_with (at_builtin; refine wpList_append_own _ rfl _ _ 41 rfl B 9 i0 (.string ⟨#[]⟩) 1 16 Tryd.underlying41 hi hy0 hy1 hy2 rfl (by decide) _ _ _ rfl (hown1.alloc _) ⟨wr.heap.size + 1, 0, none⟩ 1 1 [.string nm] rfl rfl ?c1 ?c2 ?c3 ?c4 ?c5 ?_)
      case c1 => have := cells_one (w := wr.alloc (.cells #[.string nm, .int .i64 ra, .int .i64 dec] 59)) (x := .string nm) (t := 9); simpa using this
      case c2 => intro u hu; simp at hu; subst hu; rfl
      case c3 => unfold maxLen; omega
      case c4 => omega
      case c5 => simp; omega
      · intro v' w3 hown' hgrow _
        have R : w3.ownsRow B 9 1 v' (k + 1) (stL (k + 1)) := by
          rw [stL_succ, ← HN.out]; exact hown'
        have hb3 := (hbl1.alloc (by simp; omega) (.cells #[.string nm] 9)).grown hgrow (by simp; omega) (fun q hq => (hown1.lt q hq).1)
        have hs3 := hgrow.size
        have hs4 : B ≤ w3.heap.size := by simp at hs3; omega
        clear hown' hgrow hown1 hbl1
        go_wp2_with fail
        go_roundw
        case rel => exact ⟨k + 1, by omega, by go_num, R, hs4, hb3⟩
        case measure => simp [intOf]; omega
    · obtain rfl : k = 8 := by omega
      go_wp2_with fail
      go_ret
      exact ⟨_, rfl, ⟨hown⟩, hbl⟩
theorem st_ne (i k : Nat) (hi : i < 8) (hk : k < i) : ((stN k).toList == (stN i).toList) = false := by
  rcases (by omega : i = 0 ∨ i = 1 ∨ i = 2 ∨ i = 3 ∨ i = 4 ∨ i = 5 ∨ i = 6 ∨ i = 7) with rfl | rfl | rfl | rfl | rfl | rfl | rfl | rfl <;>
  rcases (by omega : k = 0 ∨ k = 1 ∨ k = 2 ∨ k = 3 ∨ k = 4 ∨ k = 5 ∨ k = 6) with rfl | rfl | rfl | rfl | rfl | rfl | rfl <;> first | omega | kernel_rfl
theorem st_bd (i : Nat) (hi : i < 8) : 0 ≤ stRa i ∧ stRa i ≤ 1000000000 ∧ -250000000 ≤ stDec i ∧ stDec i ≤ 250000000 := by
  rcases (by omega : i = 0 ∨ i = 1 ∨ i = 2 ∨ i = 3 ∨ i = 4 ∨ i = 5 ∨ i = 6 ∨ i = 7) with rfl | rfl | rfl | rfl | rfl | rfl | rfl | rfl <;> decide
set_option maxRecDepth 100000 in
set_option maxHeartbeats 8000000 in
theorem starAt_ok (i : Nat) (hi : i < 8) (t : Int) (w : World) (ht : StarT w) (hin : instOk t = true) : Calls Tryd.prog 28 #[.string (stN i), .int .i64 t] w fun e w' =>
    e = .returned (.tuple #[.agg #[.int .i64 (a0Lo (stRa i) 97300000 100 t), .int .i64 (a0Hi (stRa i) 97300000 100 t)], .agg #[.int .i64 (stDec i - 100), .int .i64 (stDec i + 100)], .int .i64 0]) ∧ Below w.heap.size w w' := by
  have bd := st_bd i hi
  have A := Lib.hid (fun w => Angle0_ok (stRa i) 97300000 100 t w (by omega) (by omega) (by omega) hin)
  have NE := Lib.hid (fun k hk => st_ne i k hi hk)
  have HIX := Lib.hid st_index
  obtain ⟨tt, fr, ht⟩ := ht
  obtain ⟨nm, hnm⟩ : ∃ x, x = stN i := ⟨_, rfl⟩
  obtain ⟨ra, hra⟩ : ∃ x, x = stRa i := ⟨_, rfl⟩
  obtain ⟨dec, hdec⟩ : ∃ x, x = stDec i := ⟨_, rfl⟩
  rw [← hra, ← hdec] at bd ⊢
  rw [← hnm] at NE ⊢
  rw [← hra] at A
  obtain ⟨lo, hlo⟩ : ∃ x, x = a0Lo ra 97300000 100 t := ⟨_, rfl⟩
  obtain ⟨hi', hhi⟩ : ∃ x, x = a0Hi ra 97300000 100 t := ⟨_, rfl⟩
  rw [← hlo, ← hhi] at A ⊢
  have HN := Lib.hid hnm; have HRA := Lib.hid hra; have HDEC := Lib.hid hdec
  obtain ⟨-, -, d1, d2⟩ := bd
  have B4 := SpBox.new w 0 0
  have B5 := SpBox.new (w.alloc (.cells #[.int .i64 0, .int .i64 0] 25)) 0 0
  have B4' := B4.alloc (.cells #[.int .i64 0, .int .i64 0] 25)
  have e5 : (w.alloc (.cells #[.int .i64 0, .int .i64 0] 25)).heap.size = w.heap.size + 1 := by simp
  rw [e5] at B5
  have hbw : Below w.heap.size w ((w.alloc (.cells #[.int .i64 0, .int .i64 0] 25)).alloc (.cells #[.int .i64 0, .int .i64 0] 25)) := (by repeat' (first | (with_reducible refine below_drewN ?_ _) | go_grown))
  have HB4 := Lib.hid B4'; have HB5 := Lib.hid B5; have HBW := Lib.hid hbw
  obtain ⟨b, hb⟩ : ∃ b, b = w.heap.size := ⟨_, rfl⟩
  rw [← hb] at HB4 HB5
  have ht2 : ((w.alloc (.cells #[.int .i64 0, .int .i64 0] 25)).alloc (.cells #[.int .i64 0, .int .i64 0] 25)).heap[0]? = some (.cells stCells tt fr) := by
    have hl : 0 < w.heap.size := by
      rcases Nat.lt_or_ge 0 w.heap.size with c | c
      · exact c
      · rw [Array.getElem?_eq_none c] at ht; cases ht
    exact (hbw.block _ hl).trans ht
  clear hnm hra hdec hlo hhi B4 B5 B4' e5 hbw ht
  go_enter Tryd.func28, Tryd.ntmps28
  go_wp2_with (first | (refine wpList_load_row rfl 60 _ rfl 0 rfl tt stCells fr _ ht2 Tryd.underlying60 rfl (by kernel_rfl) ?_))
  rw [← hb]
  have HBQ := Lib.hid hb
  clear ht2 hb
  generalize stCells = CS at *
  go_loopw [12] (fun i' wv => ∃ k : Nat, k ≤ i ∧ i' = .int .i64 k ∧ SpBox wv b 0 0 ∧ SpBox wv (b + 1) 0 0 ∧ Below w.heap.size w wv) (fun i' _ => 8 - (intOf i').toNat)
  case atStart => exact ⟨0, by omega, rfl, HB4.out, HB5.out, HBW.out⟩
  case round =>
    clear HB4 HB5 HBW
    obtain ⟨k, hk, rfl, hB4, hB5, hbl⟩ := hrel
    have hsz := hbl.size
    have ix := HIX.out k (by omega)
    have hlt2 : (k : Int) < 8 := by omega
    have hlt3 : (0 : Int) ≤ (k : Int) := by omega
    rcases (by omega : k < i ∨ k = i) with hki | rfl
    · obtain ⟨nmk, hnm⟩ : ∃ x, x = stN k := ⟨_, rfl⟩
      obtain ⟨rak, hra⟩ : ∃ x, x = stRa k := ⟨_, rfl⟩
      obtain ⟨deck, hdec⟩ : ∃ x, x = stDec k := ⟨_, rfl⟩
      have ne := NE.out k hki
      rw [← hnm, ← hra, ← hdec] at ix
      rw [← hnm] at ne
      have h1 := Lib.hid (hB4.alloc (.cells #[.string nmk, .int .i64 rak, .int .i64 deck] 59))
      have h2 := Lib.hid (hB5.alloc (.cells #[.string nmk, .int .i64 rak, .int .i64 deck] 59))
      have h3 := Lib.hid (hbl.alloc hsz (.cells #[.string nmk, .int .i64 rak, .int .i64 deck] 59))
      clear hnm hra hdec hB4 hB5 hbl
      go_wp2_with fail
      go_roundw
      case rel => exact ⟨k + 1, by omega, by go_num, h1.out, h2.out, h3.out⟩
      case measure => simp [intOf]; omega
    · rw [← HN.out, ← HRA.out, ← HDEC.out] at ix
      have h1 := Lib.hid (hB4.alloc (.cells #[.string nm, .int .i64 ra, .int .i64 dec] 59))
      have h2 := Lib.hid (hB5.alloc (.cells #[.string nm, .int .i64 ra, .int .i64 dec] 59))
      have h3 := Lib.hid (hbl.alloc hsz (.cells #[.string nm, .int .i64 ra, .int .i64 dec] 59))
      clear hB4 hB5 hbl
      obtain ⟨kq, hkq⟩ : ∃ x, x = wr.heap.size := ⟨_, rfl⟩
      obtain ⟨U, hU⟩ : ∃ x, x = wr.alloc (.cells #[.string nm, .int .i64 ra, .int .i64 dec] 59) := ⟨_, rfl⟩
      have u0 : U.cell? ⟨kq, 0, none⟩ = some (.string nm) := by rw [hU, hkq]; simp [go_sem]
      have u1 : U.cell? ⟨kq, 1, none⟩ = some (.int .i64 ra) := by rw [hU, hkq]; simp [go_sem]
      have u2 : U.cell? ⟨kq, 2, none⟩ = some (.int .i64 dec) := by rw [hU, hkq]; simp [go_sem]
      have ul : kq < U.heap.size := by rw [hU, hkq]; simp
      rw [← hU] at h1 h2 h3
      go_upto_region 4 with fail
      rw [← hU, ← hkq]
      clear hU hkq
      have Hu2 := Lib.hid u2; have Hul := Lib.hid ul
      go_wp2_with fail
      refine Calls.mono (A.out _) ?_
      rintro e w1 ⟨rfl, hbb⟩
      have g1 := h1.out.below hbb; have g2 := h2.out.below hbb; have g3 := Lib.hid (h3.out.trans (hbb.mono h3.out.size))
      have v2 : w1.cell? ⟨kq, 2, none⟩ = some (.int .i64 dec) := (hbb.cell (p := ⟨kq, 2, none⟩) ul).trans u2
      have vl : kq < w1.heap.size := Nat.lt_of_lt_of_le ul hbb.size
      have G1 := Lib.hid (g1.alloc (.cells #[.int .i64 lo, .int .i64 hi'] 25)); have G2 := Lib.hid (g2.alloc (.cells #[.int .i64 lo, .int .i64 hi'] 25))
      have G3 := Lib.hid (g3.out.alloc g3.out.size (.cells #[.int .i64 lo, .int .i64 hi'] 25))
      have G4 := Lib.hid (SpBox.new w1 lo hi')
      obtain ⟨k9, hk9⟩ : ∃ x, x = w1.heap.size := ⟨_, rfl⟩
      obtain ⟨X, hX⟩ : ∃ x, x = w1.alloc (.cells #[.int .i64 lo, .int .i64 hi'] 25) := ⟨_, rfl⟩
      have x2 : X.cell? ⟨kq, 2, none⟩ = some (.int .i64 dec) := by rw [hX]; simp [go_sem, vl, v2]
      have xl : kq < X.heap.size := by rw [hX]; simp; omega
      have n1 : b ≠ k9 := by have := g1.lt; omega
      have n2 : b + 1 ≠ k9 := by have := g2.lt; omega
      rw [← hX] at G1 G2 G3 G4
      rw [← hk9] at G4
      clear g1 g2 g3 v2 u0 u1 u2 ul hbb h1 h2 h3
      go_upto_region 8 with fail
      rw [← hX, ← hk9]
      clear hX hk9 vl
      have p40 := G1.out.c0; have p41 := G1.out.c1; have p4f := G1.out.free; have p4l := G1.out.lt
      have p50 := G2.out.c0; have p51 := G2.out.c1; have p5f := G2.out.free; have p5l := G2.out.lt
      have p90 := G4.out.c0; have p91 := G4.out.c1
      have p4f0 := p4f 0; have p4f1 := p4f 1; have p5f0 := p5f 0; have p5f1 := p5f 1
      clear p4f p5f
      go_region
      all_goals
        go_wp2_with fail
        refine bodyPost_ret (v := .tuple #[.agg #[.int .i64 lo, .int .i64 hi'], .agg #[.int .i64 (dec - 100), .int .i64 (dec + 100)], .int .i64 0]) ?_ rfl ⟨rfl, ?_⟩
        · simp [results, Tryd.results28, go_sem, *]
        · exact (((((G3.out.setCell (by have := HBQ.out; show w.heap.size ≤ b; omega) _).setCell (by have := HBQ.out; show w.heap.size ≤ b; omega) _).setCell (by have := HBQ.out; show w.heap.size ≤ b + 1; omega) _).setCell (by have := HBQ.out; show w.heap.size ≤ b + 1; omega) _)).drew
end Go.Proofs.YtcopmgnfakjdhaaDoor
