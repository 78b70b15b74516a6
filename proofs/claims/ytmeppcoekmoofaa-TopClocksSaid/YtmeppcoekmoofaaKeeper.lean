/- Keepers: what one is in memory; the contract of New. -/
import Derived.Test.YtmeppcoekmoofaaSource
import Derived.Test.YtmeppcoekmoofaaBox
import Derived.RegionTactic
import Derived.BigRegion
import Derived.Deep.OwnRows
namespace Go.Proofs.Ytmeppcoekmoofaa
open Go.RowKit
set_option linter.unusedSimpArgs false
set_option linter.unusedVariables false

def kpF (d f : Int) (rb hb n : Nat) (last : Int) : Nat → Value
  | 0 => .int .i64 d
  | 1 => .int .i64 f
  | 2 => .slice (some ⟨rb, 0, none⟩) n n
  | 3 => .slice (some ⟨hb, 0, none⟩) n n
  | _ => .int .i64 last
/-- A keeper in memory: of n sources, with what it has heard. -/
structure Keep (w : World) (kb rb hb n : Nat) (d f last : Int) (R : Nat → Int) (H : Nat → Bool) : Prop where
  k : w.rowIs kb 103 5 (kpF d f rb hb n last)
  r : w.rowIs rb 78 (n * 3) (fun j => .int .i64 (R j))
  h : w.rowIs hb 4 n (fun j => .bool (H j))
  n1 : kb ≠ rb
  n2 : kb ≠ hb
  n3 : rb ≠ hb
theorem Keep.below {w w' : World} {kb rb hb n : Nat} {d f last : Int} {R : Nat → Int} {H : Nat → Bool} (h : Keep w kb rb hb n d f last R H) (hw : Below w.heap.size w w') : Keep w' kb rb hb n d f last R H :=
  ⟨h.k.of_block (hw.block kb h.k.lt), h.r.of_block (hw.block rb h.r.lt), h.h.of_block (hw.block hb h.h.lt), h.n1, h.n2, h.n3⟩

theorem Try.infoRd : (Try.prog.info? 78).map (fun i => (i.zero, i.size, i.bytes)) = some (some (.agg #[.int .i64 0, .int .i64 0, .int .i64 0]), 3, 24) := by kernel_rfl
theorem Try.infoBl : (Try.prog.info? 4).map (fun i => (i.zero, i.size, i.bytes)) = some (some (.bool false), 1, 1) := by kernel_rfl

theorem made_at (z : Array Value) (n j : Nat) (hj : j < n) : (madeCells z n)[j]? = some (z[j % z.size]!) := by
  unfold madeCells
  rw [Array.getElem?_map, Array.getElem?_range, if_pos hj]
  rfl
theorem mk_reads (n : Nat) (hn : n ≤ 40) (w : World) : (Instr.makeSlice 100 (.int .i64 (n : Int)) (.int .i64 (n : Int))).run Try.prog w = .ok (.slice (some ⟨w.heap.size, 0, none⟩) n n) (w.alloc (.cells (madeCells #[.int .i64 0, .int .i64 0, .int .i64 0] (n * 3)) 78)) := by
  obtain ⟨i, hi, hz, hs, hb⟩ := info_parts Try.infoRd
  have hr := run_make (P := Try.prog) w 100 78 i _ Try.underlying100 hi hz .i64 .i64 (n : Int) (n : Int) (by omega) (Int.le_refl _) (by rw [hb]; omega) (by omega)
  simp only [Int.toNat_natCast, hs] at hr
  exact hr
theorem mk_bools (n : Nat) (hn : n ≤ 40) (w : World) : (Instr.makeSlice 101 (.int .i64 (n : Int)) (.int .i64 (n : Int))).run Try.prog w = .ok (.slice (some ⟨w.heap.size, 0, none⟩) n n) (w.alloc (.cells (madeCells #[.bool false] n) 4)) := by
  obtain ⟨i, hi, hz, hs, hb⟩ := info_parts Try.infoBl
  have hr := run_make (P := Try.prog) w 101 4 i _ Try.underlying101 hi hz .i64 .i64 (n : Int) (n : Int) (by omega) (Int.le_refl _) (by rw [hb]; omega) (by omega)
  simp only [Int.toNat_natCast, hs, Nat.mul_one] at hr
  exact hr
theorem made_reads (w : World) (n : Nat) : (w.alloc (.cells (madeCells #[.int .i64 0, .int .i64 0, .int .i64 0] (n * 3)) 78)).rowIs w.heap.size 78 (n * 3) (fun _ => .int .i64 0) := by
  have := World.rowIs_alloc w (madeCells #[.int .i64 0, .int .i64 0, .int .i64 0] (n * 3)) 78 (fun _ => .int .i64 0) (fun j hj => by
    rw [size_madeCells] at hj
    rw [made_at _ _ _ hj]
    have h3 : j % 3 < 3 := Nat.mod_lt _ (by omega)
    show some ((#[Value.int .i64 0, .int .i64 0, .int .i64 0] : Array Value)[j % 3]!) = _
    match j % 3, h3 with
    | 0, _ => rfl
    | 1, _ => rfl
    | 2, _ => rfl)
  rwa [size_madeCells] at this
theorem made_bools (w : World) (n : Nat) : (w.alloc (.cells (madeCells #[.bool false] n) 4)).rowIs w.heap.size 4 n (fun _ => .bool false) := by
  have := World.rowIs_alloc w (madeCells #[.bool false] n) 4 (fun _ => .bool false) (fun j hj => by
    rw [size_madeCells] at hj
    rw [made_at _ _ _ hj]
    show some ((#[Value.bool false] : Array Value)[j % 1]!) = _
    rw [Nat.mod_one]; rfl)
  rwa [size_madeCells] at this

def NewPost (d f : Int) (n : Nat) (w : World) (e : Ending) (w' : World) : Prop :=
  ∃ kb rb hb, e = .returned (.tuple #[.pointer (some ⟨kb, 0, none⟩), .int .i64 0]) ∧ Keep w' kb rb hb n d f 0 (fun _ => 0) (fun _ => false) ∧ w.heap.size ≤ kb ∧ w.heap.size ≤ rb ∧ w.heap.size ≤ hb ∧ Below w.heap.size w w'

def kpCells (d f : Int) (rb hb n : Nat) : Array Value := #[.int .i64 d, .int .i64 f, .slice (some ⟨rb, 0, none⟩) n n, .slice (some ⟨hb, 0, none⟩) n n, .int .i64 0]
theorem kp_row (w : World) (d f : Int) (rb hb n : Nat) : (w.alloc (.cells (kpCells d f rb hb n) 103)).rowIs w.heap.size 103 5 (kpF d f rb hb n 0) :=
  World.rowIs_alloc w (kpCells d f rb hb n) 103 (kpF d f rb hb n 0) (fun i hi => by
    have hi5 : i < 5 := hi
    match i, hi5 with
    | 0, _ => rfl
    | 1, _ => rfl
    | 2, _ => rfl
    | 3, _ => rfl
    | 4, _ => rfl)
theorem size_2 (w : World) (a b : Obj) : ((w.alloc a).alloc b).heap.size = w.heap.size + 1 + 1 := by simp
theorem size_1 (w : World) (a : Obj) : (w.alloc a).heap.size = w.heap.size + 1 := by simp
theorem keep_ab (d f : Int) (n : Nat) (w : World) : Keep (((w.alloc (.cells (madeCells #[.int .i64 0, .int .i64 0, .int .i64 0] (n * 3)) 78)).alloc (.cells (madeCells #[.bool false] n) 4)).alloc (.cells (kpCells d f w.heap.size (w.heap.size + 1) n) 103)).drew (w.heap.size + 1 + 1) w.heap.size (w.heap.size + 1) n d f 0 (fun _ => 0) (fun _ => false) := by
  refine ⟨?_, ((made_reads w n).alloc _).alloc _, ?_, by omega, by omega, by omega⟩
  · have := kp_row ((w.alloc (.cells (madeCells #[.int .i64 0, .int .i64 0, .int .i64 0] (n * 3)) 78)).alloc (.cells (madeCells #[.bool false] n) 4)) d f w.heap.size (w.heap.size + 1) n
    rw [size_2] at this
    exact this
  · have := (made_bools (w.alloc (.cells (madeCells #[.int .i64 0, .int .i64 0, .int .i64 0] (n * 3)) 78)) n).alloc (.cells (kpCells d f w.heap.size (w.heap.size + 1) n) 103)
    rw [size_1] at this
    exact this
theorem keep_ba (d f : Int) (n : Nat) (w : World) : Keep (((w.alloc (.cells (madeCells #[.bool false] n) 4)).alloc (.cells (madeCells #[.int .i64 0, .int .i64 0, .int .i64 0] (n * 3)) 78)).alloc (.cells (kpCells d f (w.heap.size + 1) w.heap.size n) 103)).drew (w.heap.size + 1 + 1) (w.heap.size + 1) w.heap.size n d f 0 (fun _ => 0) (fun _ => false) := by
  refine ⟨?_, ?_, ((made_bools w n).alloc _).alloc _, by omega, by omega, by omega⟩
  · have := kp_row ((w.alloc (.cells (madeCells #[.bool false] n) 4)).alloc (.cells (madeCells #[.int .i64 0, .int .i64 0, .int .i64 0] (n * 3)) 78)) d f (w.heap.size + 1) w.heap.size n
    rw [size_2] at this
    exact this
  · have := (made_reads (w.alloc (.cells (madeCells #[.bool false] n) 4)) n).alloc (.cells (kpCells d f (w.heap.size + 1) w.heap.size n) 103)
    rw [size_1] at this
    exact this

set_option maxHeartbeats 1000000 in
theorem keepNew_ok (d : Int) (n f : Nat) (w : World) (h0 : 0 ≤ d) (h1 : d ≤ 100000) (hn : 1 ≤ n) (hn' : n ≤ 40) (hf : 2 * f < n) :
    Calls Try.prog 38 #[.int .i64 d, .int .i64 n, .int .i64 f] w (NewPost d f n w) := by
  have m1 := mk_reads n hn'
  have m2 := mk_bools n hn'
  have q1 : (1 : Int) ≤ (n : Int) := by omega
  have q2 : (n : Int) ≤ 40 := by omega
  have q3 : (0 : Int) ≤ (f : Int) := by omega
  have q4 : ¬ ((n : Int) ≤ (f : Int)) := by omega
  have q5 : ¬ ((n : Int) ≤ 2 * (f : Int)) := by omega
  have q6 : (f : Int) ≤ 40 := by omega
  go_enter Try.func38, Try.ntmps38
  go_wp2_with fail
  refine Calls.mono (isDrift_any _ _) ?_
  rintro e _ ⟨rfl, rfl⟩
  rw [decide_eq_true (show 0 ≤ d ∧ d ≤ 100000 from ⟨h0, h1⟩)]
  go_wp2_with fail
  go_region
  all_goals go_wp2_with fail
  all_goals go_returns
  all_goals first
    | exact ⟨w.heap.size + 1 + 1, w.heap.size, w.heap.size + 1, rfl, keep_ab d f n w, by omega, by omega, by omega, (by repeat' (first | (with_reducible refine below_drewN ?_ _) | go_grown))⟩
    | exact ⟨w.heap.size + 1 + 1, w.heap.size + 1, w.heap.size, rfl, keep_ba d f n w, by omega, by omega, by omega, (by repeat' (first | (with_reducible refine below_drewN ?_ _) | go_grown))⟩

end Go.Proofs.Ytmeppcoekmoofaa
