/- A row of bytes that a call has laid; []byte(s), string(b). The contract of plain. -/
import Derived.Test.YtocdboopmfgkpaaDoorNotice
import Derived.Lib.ConvBytes
import Derived.Lib.AtoiErrMem
import Derived.Laws.BytesArg
import Derived.Laws.AppendOwn
namespace Go.Proofs.YtocdboopmfgkpaaDoor
open Go.RowKit
set_option linter.unusedSimpArgs false
set_option linter.unusedVariables false

/-- Block b holds n bytes, and may be written. -/
structure BRow (w : World) (b n : Nat) (f : Nat → Int) : Prop where
  cell : ∀ j, j < n → w.cell? ⟨b, j, none⟩ = some (.int .u8 (f j))
  free : ∀ j, j < n → w.frozen? ⟨b, j, none⟩ = false
  lt : b < w.heap.size
theorem BRow.congr {w : World} {b n : Nat} {f g : Nat → Int} (h : BRow w b n f) (e : ∀ j, j < n → f j = g j) : BRow w b n g :=
  ⟨fun j hj => by rw [← e j hj]; exact h.cell j hj, h.free, h.lt⟩
theorem BRow.set {w : World} {b n : Nat} {f : Nat → Int} (h : BRow w b n f) (i : Nat) (hi : i < n) (v : Int) : BRow (w.setCell ⟨b, i, none⟩ (.int .u8 v)) b n (fun j => if j = i then v else f j) := by
  refine ⟨fun j hj => ?_, fun j hj => by rw [World.frozen?_setCell]; exact h.free j hj, by simpa using h.lt⟩
  by_cases e : j = i
  · subst e; rw [if_pos rfl]; exact World.cell?_setCell_same w _ _ (h.cell j hj)
  · rw [if_neg e, World.cell?_setCell_other w _ _ _ (by intro e2; apply e; injection e2 with _ e3; exact e3.symm)]
    exact h.cell j hj
theorem BRow.below {w w' : World} {b n : Nat} {f : Nat → Int} (h : BRow w b n f) (hb : Below w.heap.size w w') : BRow w' b n f :=
  ⟨fun j hj => (hb.cell (p := ⟨b, j, none⟩) h.lt).trans (h.cell j hj), fun j hj => (hb.frozen (p := ⟨b, j, none⟩) h.lt).trans (h.free j hj), Nat.lt_of_lt_of_le h.lt hb.size⟩
def byteAt (s : ByteArray) (j : Nat) : Int := ((s.data.toList.getD j 0).toNat : Int)
theorem byteAt_range (s : ByteArray) (j : Nat) : 0 ≤ byteAt s j ∧ byteAt s j < 256 := by
  unfold byteAt; have := byte_lt (s.data.toList.getD j 0); omega
theorem BRow.made (w : World) (s : ByteArray) (e : TypeId) : BRow (Lib.bytesWorld w e s) w.heap.size s.size (byteAt s) := by
  refine ⟨fun j hj => Lib.bytesWorld_cell w e s j hj, fun j hj => ?_, by rw [Lib.bytesWorld_size]; omega⟩
  have hc := Lib.bytesWorld_cell w e s j hj
  have hn := Lib.bytesWorld_at_new w e s
  have hsz : s.size ≤ (Lib.bytesCells w e s).size := by
    unfold Lib.bytesCells
    rw [Array.size_append, Array.size_map]
    exact Nat.le_add_right _ _
  unfold World.frozen?
  rw [hn]
  simp
  omega

theorem strOf_bytes (l : List UInt8) : strOfNums (l.map fun c => (c.toNat : Int)) = ⟨l.toArray⟩ := by
  unfold strOfNums
  congr 2
  rw [List.map_map]
  conv => rhs; rw [← List.map_id l]
  apply List.map_congr_left
  intro c _
  simp
/-- string(b) of a row that holds the bytes of l. -/
theorem str_run (w : World) (b n cap : Nat) (f : Nat → Int) (l : List UInt8) (h : BRow w b n f) (m : Nat) (hm : m ≤ n) (hl : l.length = m) (e : ∀ j (hj : j < l.length), f j = (l[j].toNat : Int)) :
    (convert 32 9 (.slice (some ⟨b, 0, none⟩) m cap)).run Tryd.prog w = .ok (.string ⟨l.toArray⟩) w := by
  have := run_convert_bytes_arg (P := Tryd.prog) w 32 5 Tryd.underlying32 Tryd.underlying5 b 0 m cap (l.map fun c => (c.toNat : Int)) (by rw [List.length_map, hl]) (fun i hi => by
    rw [Nat.zero_add, h.cell i (by omega), e i (by omega)]
    simp [List.getD, List.getElem?_eq_getElem (show i < l.length by omega)]) 9 Tryd.underlying9
  rw [this, strOf_bytes]

/-- What plain makes of a text. -/
def plainL (l : List UInt8) : List UInt8 := (l.map fun c => UInt8.ofNat (32 + c.toNat % 95)).take 200
theorem plainL_at (s : ByteArray) (j : Nat) (hj : j < (plainL s.data.toList).length) : 32 + byteAt s j % 95 = ((plainL s.data.toList)[j].toNat : Int) := by
  have h1 : j < s.data.toList.length := by
    unfold plainL at hj
    rw [List.length_take, List.length_map] at hj
    omega
  have h2 : j < 200 := by
    unfold plainL at hj
    rw [List.length_take] at hj
    omega
  have e := List.getElem?_eq_getElem hj
  have e2 : (plainL s.data.toList)[j]? = some (UInt8.ofNat (32 + (s.data.toList[j]).toNat % 95)) := by
    unfold plainL
    rw [List.getElem?_take, if_pos h2, List.getElem?_map, List.getElem?_eq_getElem h1]
    rfl
  rw [e2] at e
  rw [← Option.some.inj e]
  unfold byteAt
  rw [List.getD_eq_getElem?_getD, List.getElem?_eq_getElem h1, Option.getD_some, UInt8.toNat_ofNat_of_lt' (by show _ < 256; omega)]
  omega
theorem plainL_ok (l : List UInt8) : (plainL l).length ≤ 200 ∧ ∀ b, b ∈ plainL l → 32 ≤ b.toNat ∧ b.toNat ≤ 126 := by
  refine ⟨by unfold plainL; rw [List.length_take]; omega, fun b hb => ?_⟩
  unfold plainL at hb
  obtain ⟨c, _, rfl⟩ := List.mem_map.1 (List.mem_of_mem_take hb)
  rw [UInt8.toNat_ofNat_of_lt' (by show _ < 256; omega)]
  omega
theorem plainL_len (s : ByteArray) : (plainL s.data.toList).length = min 200 s.size := by
  unfold plainL
  rw [List.length_take, List.length_map, show s.data.toList.length = s.size by simp]
def plainB (s : ByteArray) : ByteArray := ⟨(plainL s.data.toList).toArray⟩

set_option maxRecDepth 100000 in
set_option maxHeartbeats 4000000 in
theorem plain_ok (s : ByteArray) (w : World) (hs : s.size ≤ 9223372036854775807) :
    Calls Tryd.prog 10 #[.string s] w fun e w' => e = .returned (.string (plainB s)) ∧ Below w.heap.size w w' := by
  have cv := fun (w : World) => Lib.run_convert_string_bytes (P := Tryd.prog) w 9 32 5 s Tryd.underlying9 Tryd.underlying32 Tryd.underlying5
  obtain ⟨cap, hcap⟩ : ∃ c, c = grownCap w s.size 0 5 := ⟨_, rfl⟩
  have hge : s.size ≤ cap := by rw [hcap]; exact grownCap_ge _ _ _ _
  have cv1 := cv w
  rw [← hcap] at cv1
  obtain ⟨W, hW⟩ : ∃ W, W = Lib.bytesWorld w 5 s := ⟨_, rfl⟩
  rw [← hW] at cv1
  have hrow : BRow W w.heap.size s.size (byteAt s) := by rw [hW]; exact BRow.made w s _
  have hbw : Below w.heap.size w W := by rw [hW]; exact Lib.bytesWorld_below w _ s
  obtain ⟨b, hb⟩ : ∃ b, b = w.heap.size := ⟨_, rfl⟩
  rw [← hb] at hrow cv1
  have HB := Lib.hid hb
  have HROW := Lib.hid hrow; have HBW := Lib.hid hbw
  clear hb hcap cv hW hrow hbw
  go_enter Tryd.func10, Tryd.ntmps10
  go_wp2_with fail
  go_loopw [9] (fun i' wv => ∃ k : Nat, k ≤ s.size ∧ i' = .int .i64 k ∧ BRow wv b s.size (fun j => if j < k then 32 + byteAt s j % 95 else byteAt s j) ∧ Below w.heap.size w wv) (fun i' _ => s.size - (intOf i').toNat)
  case atStart => exact ⟨0, Nat.zero_le _, rfl, HROW.out.congr (fun j hj => by simp), HBW.out⟩
  case round =>
    obtain ⟨k, hk, rfl, hrow, hbw⟩ := hrel
    by_cases hlt : k < s.size
    · have k2 : (0 : Int) ≤ (k : Int) := by omega
      have k3 : (k : Int) < (s.size : Int) := by omega
      have c0 := hrow.cell k hlt
      rw [if_neg (by omega)] at c0
      have f0 := hrow.free k hlt
      obtain ⟨y, hy⟩ : ∃ y, y = byteAt s k := ⟨_, rfl⟩
      have yr := byteAt_range s k
      rw [← hy] at c0 yr
      obtain ⟨y0, y1⟩ := yr
      have R1 := (hrow.set k hlt (32 + y % 95)).congr (g := fun j => if j < k + 1 then 32 + byteAt s j % 95 else byteAt s j) (fun j hj => by
        by_cases e : j = k
        · subst e; rw [if_pos rfl, if_pos (by omega), hy]
        · rw [if_neg e]
          by_cases e2 : j < k
          · rw [if_pos e2, if_pos (by omega)]
          · rw [if_neg e2, if_neg (by omega)])
      have hbw2 := hbw.setCell (show w.heap.size ≤ (⟨b, k, none⟩ : Addr).block by show w.heap.size ≤ b; rw [HB.out]; exact Nat.le_refl _) (.int .u8 (32 + y % 95))
      have HR1 := Lib.hid R1
      have q0 : (0 : Int) ≤ y % 95 := by omega
      have q1 : y % 95 < 95 := by omega
      clear hrow hbw hy R1
      go_wp2_with fail
      go_roundw
      case rel => exact ⟨k + 1, by omega, by go_num, HR1.out, hbw2⟩
      case measure => simp [intOf]; omega
    · obtain rfl : k = s.size := by omega
      by_cases h200 : 200 < s.size
      · have g1 : (200 : Int) < (s.size : Int) := by omega
        have g2 : (200 : Int) ≤ (cap : Int) := by omega
        have pl := plainL_len s
        have cv2 := str_run wr b s.size cap _ (plainL s.data.toList) hrow 200 (by omega) (by omega) (fun j hj => by rw [if_pos (by omega)]; exact plainL_at s j hj)
        clear pl
        clear hrow
        go_wp2_with fail
        go_ret
        exact ⟨rfl, hbw⟩
      · have g1 : ¬ (200 : Int) < (s.size : Int) := by omega
        have pl := plainL_len s
        have cv2 := str_run wr b s.size cap _ (plainL s.data.toList) hrow s.size (by omega) (by omega) (fun j hj => by rw [if_pos (by omega)]; exact plainL_at s j hj)
        clear pl
        clear hrow
        go_wp2_with fail
        go_ret
        exact ⟨rfl, hbw⟩

end Go.Proofs.YtocdboopmfgkpaaDoor
