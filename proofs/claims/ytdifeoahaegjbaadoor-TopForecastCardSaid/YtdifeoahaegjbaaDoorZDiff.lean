/- slices.Contains of a change; zonetext.Diff of a zone and of what it was extended to. -/
import Derived.Test.YtdifeoahaegjbaaDoorZEdit
import Derived.Test.YtdifeoahaegjbaaDoorZSort
import Derived.Laws.StructEq
namespace Go.Proofs.YtdifeoahaegjbaaDoor
open Go.RowKit
set_option linter.unusedSimpArgs false
set_option linter.unusedVariables false

instance chgInhabited : Inhabited Chg := ⟨chD⟩
def eqC (x y : Chg) : Bool := x.at' == y.at' && x.off == y.off && x.lab.toList == y.lab.toList
theorem eqC_self (x : Chg) : eqC x x = true := by simp [eqC]
theorem eqC_at {x y : Chg} (h : x.at' ≠ y.at') : eqC x y = false := by simp [eqC, h]

open Go.Lib in
theorem eqCh : EqlAt Tryd.prog 36 (fun x => .agg (chC x).toArray) eqC := by
  refine ⟨fun x y w => ?_, GuardAt.agg _ (by kernel_rfl)⟩
  have u3 := Tryd.underlying3
  have a3 := Tryd.isAgg3
  have z3 := Tryd.sizeOf3
  have u9 := Tryd.underlying9
  have a9 := Tryd.isAgg9
  have z9 := Tryd.sizeOf9
  have hS : Tryd.prog.underlying 36 = some (.struct (Tryd.prog.fieldsOf 36)) := by kernel_rfl
  have hp : Tryd.prog.stoodInHeld 36 = false := by kernel_rfl
  simp only [chC]
  rw [run_eql_struct, show (10000 : Nat) = 9999 + 1 from rfl, run_equalIn_agg w 9999 36 _ _ hS hp]
  simp only [Program.fieldsOf, Tryd.underlying36]
  go_simp
  by_cases h1 : x.at' = y.at' <;> by_cases h2 : x.off = y.off <;> by_cases h3 : x.lab.toList = y.lab.toList <;> simp [eqC, h1, h2, h3]

set_option maxRecDepth 100000 in
set_option maxHeartbeats 4000000 in
theorem index_nil (A : Option Addr) (cap : Nat) (x y : Int) (s : ByteArray) (w : World) :
    Calls Tryd.prog 32 #[.slice A 0 cap, .agg #[.int .i64 x, .int .i64 y, .string s]] w fun e w' => e = .returned (.int .i64 (-1)) ∧ Below w.heap.size w w' := by
  go_enter Tryd.func32, Tryd.ntmps32
  go_wp2_with fail
  go_loopw [8] (fun i' wv => i' = .int .i64 0 ∧ Below w.heap.size w wv) (fun _ _ => 0)
  case atStart => exact ⟨rfl, (by repeat' (first | (with_reducible refine below_drewN ?_ _) | go_grown))⟩
  case round =>
    obtain ⟨rfl, hb⟩ := hrel
    go_wp2_with fail
    go_returns
    exact ⟨rfl, hb⟩

set_option maxRecDepth 100000 in
set_option maxHeartbeats 4000000 in
theorem contains_ok (A : Option Addr) (n cap : Nat) (cs : List Chg) (c : Chg) (r : Bool) (w : World) (h : ChSl w A n cap cs) (hn : n ≤ 400) (hr : (cs.any fun y => eqC c y) = r) :
    Calls Tryd.prog 16 #[.slice A n cap, .agg #[.int .i64 c.at', .int .i64 c.off, .string c.lab]] w fun e w' => e = .returned (.bool r) ∧ Below w.heap.size w w' := by
  rcases Nat.eq_zero_or_pos n with rfl | hn0
  · have hcs : cs = [] := List.eq_nil_of_length_eq_zero h.len
    have hr' : false = r := by rw [← hr, hcs]; rfl
    subst hr'
    have HI := Lib.hid (fun W => index_nil A cap c.at' c.off c.lab W)
    have bw := Lib.hid ((Below.refl w.heap.size w).alloc (Nat.le_refl _) (.cells #[.int .i64 c.at', .int .i64 c.off, .string c.lab] 36))
    clear h hr hcs
    go_enter Tryd.func16, Tryd.ntmps16
    go_wp2_with fail
    refine Calls.mono (HI.out _) ?_
    rintro e w1 ⟨rfl, hb⟩
    have Hb := Lib.hid (bw.out.trans (hb.mono bw.out.size))
    clear hb bw
    go_wp2_with fail
    go_returns
    exact ⟨rfl, Hb.out⟩
  · obtain ⟨b, o, rfl, hc⟩ := h.mem hn0
    have hl := h.len
    refine Calls.mono (Tryd.containsCh 3 Tryd.isAgg36 Tryd.sizeOf36 chC (fun _ => rfl) eqC eqCh b o n cap cs c w (by omega) (by omega) ?_) ?_
    · intro j hj i v hv
      have e : cs[j]! = ch cs j := by unfold ch; simp [List.getElem!_eq_getElem?_getD, List.getD]; rfl
      rw [e] at hv
      obtain ⟨x0, x1, x2⟩ := hc j (by omega)
      match i, hv with
      | 0, hv => simp [chC] at hv; rw [← hv]; exact x0
      | 1, hv => simp [chC] at hv; rw [← hv]; exact x1
      | 2, hv => simp [chC] at hv; rw [← hv]; exact x2
    · rintro e w1 ⟨rfl, hb⟩
      rw [← hl, List.take_length, hr]
      exact ⟨rfl, hb⟩

theorem ch_get {cs : List Chg} {i : Nat} (h : i < cs.length) : ch cs i = cs[i] := by unfold ch; simp [List.getD, h]
theorem any_in {cs : List Chg} {i : Nat} (h : i < cs.length) : (cs.any fun y => eqC (ch cs i) y) = true := by
  rw [List.any_eq_true]
  exact ⟨ch cs i, by rw [ch_get h]; exact List.getElem_mem h, eqC_self _⟩
theorem any_in_l {cs news : List Chg} {i : Nat} (h : i < cs.length) : ((cs ++ news).any fun y => eqC (ch cs i) y) = true := by
  rw [List.any_append, any_in h]; rfl
theorem zone_lt {s : ByteArray} {f : Int} {cs : List Chg} (h : ZoneOk s f cs) : ∀ {i j : Nat}, i < j → j < cs.length → (ch cs i).at' < (ch cs j).at'
  | i, 0, hij, _ => absurd hij (by omega)
  | i, j + 1, hij, hj => by
    have h1 := (h.2.2.2 (j + 1) hj).2.2.2 (by omega)
    rw [Nat.add_sub_cancel] at h1
    rcases Nat.lt_succ_iff_lt_or_eq.1 hij with h2 | rfl
    · exact Int.lt_trans (zone_lt h h2 (by omega)) h1
    · exact h1
theorem any_out {s : ByteArray} {f : Int} {cs news : List Chg} (h : ZoneOk s f (cs ++ news)) {i : Nat} (h1 : cs.length ≤ i) (h2 : i < (cs ++ news).length) : (cs.any fun y => eqC (ch (cs ++ news) i) y) = false := by
  rw [List.any_eq_false]
  intro y hy
  obtain ⟨k, hk, rfl⟩ := List.getElem_of_mem hy
  have := zone_lt h (i := k) (j := i) (by omega) h2
  rw [ch_app_l hk, ch_get hk] at this
  rw [eqC_at (by omega)]
  simp
theorem inst_bd {n : Int} (h : instOk n = true) : -1000000000000000 ≤ n ∧ n ≤ 1000000000000000 := by
  simp [instOk, dayOk] at h
  omega
theorem news_at {cs news : List Chg} {j : Nat} : ch news j = ch (cs ++ news) (cs.length + j) := ch_app_r.symm
theorem news_inc {s : ByteArray} {f : Int} {cs news : List Chg} (h : ZoneOk s f (cs ++ news)) : IncAt news := fun i hi => by
  rw [news_at (cs := cs), news_at (cs := cs) (j := i + 1)]
  exact zone_lt h (by omega) (by rw [List.length_append]; omega)
theorem news_bd {s : ByteArray} {f : Int} {cs news : List Chg} (h : ZoneOk s f (cs ++ news)) : InstBd news := fun i hi => by
  rw [news_at (cs := cs)]
  exact inst_bd (h.2.2.2 _ (by rw [List.length_append]; omega)).1

theorem zone1_ok (s : ByteArray) (f : Int) (A : Option Addr) (n cap : Nat) (cs : List Chg) (w : World) (h : ChSl w A n cap cs) (hs : s.size ≤ 9223372036854775807) (hz : ZoneOk s f cs) :
    Calls Tryd.prog 11 #[.agg #[.string s, .int .i64 f, .slice A n cap]] w fun e w' => e = .returned (.int .i64 0) ∧ Below w.heap.size w w' := by
  refine Calls.mono (zCheck_ok s f A n cap cs w h hs) ?_
  rintro e w1 ⟨r, rfl, hr, hb⟩
  rw [hr.2 hz]
  exact ⟨rfl, hb⟩
theorem ZBox.belowB {w w' : World} {b B : Nat} {x y z : Value} (h : ZBox w b x y z) (hb : Below B w w') (hB : b < B) : ZBox w' b x y z := World.rowIs.of_block h (hb.block b hB)
theorem take_edC {news : List Chg} {j : Nat} (h : j < news.length) : edCs (news.take (j + 1)) = edCs (news.take j) ++ edC (ch news j) := by
  rw [List.take_succ_eq_append_getElem h, edCs_app, ch_get h]
  simp [edCs]
theorem Tryd.infoEd : (Tryd.prog.info? 38).map (fun i => (i.zero, i.size, i.bytes)) = some (some (.agg #[.int .i64 0, .int .i64 0, .int .i64 0, .string ⟨#[]⟩]), 4, 40) := by kernel_rfl
end Go.Proofs.YtdifeoahaegjbaaDoor
