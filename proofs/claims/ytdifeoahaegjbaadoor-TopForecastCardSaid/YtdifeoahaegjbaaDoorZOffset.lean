/- zone.Offset at a change of a zone that is well. -/
import Derived.Test.YtdifeoahaegjbaaDoorZone
namespace Go.Proofs.YtdifeoahaegjbaaDoor
open Go.RowKit
set_option linter.unusedSimpArgs false
set_option linter.unusedVariables false

theorem inc_lt {cs : List Chg} {n : Nat} (h : ∀ i, i < n → chOk1 cs i) {i j : Nat} (hij : i < j) (hj : j < n) : (ch cs i).at' < (ch cs j).at' := by
  induction j with
  | zero => omega
  | succ j ih =>
    have h1 := (h (j + 1) hj).2.2.2 (by omega)
    rw [Nat.add_sub_cancel] at h1
    rcases (by omega : i < j ∨ i = j) with h2 | h2
    · exact Int.lt_trans (ih h2 (by omega)) h1
    · rw [h2]; exact h1
/-- What the loop's variables hold behind i changes. -/
def offAt (f : Int) (cs : List Chg) : Nat → Int
  | 0 => f
  | p + 1 => (ch cs p).off
def labAt (cs : List Chg) : Nat → ByteArray
  | 0 => ⟨#[]⟩
  | p + 1 => (ch cs p).lab

set_option maxRecDepth 100000 in
set_option maxHeartbeats 8000000 in
theorem zoffset_ok (s : ByteArray) (f : Int) (A : Option Addr) (n cap : Nat) (cs : List Chg) (j : Nat) (w : World) (h : ChSl w A n cap cs) (hz : ∀ i, i < n → chOk1 cs i) (hj : j < n) (hn : n ≤ 200) (t : Int) (ht : t = (ch cs j).at') :
    Calls Tryd.prog 20 #[.agg #[.string s, .int .i64 f, .slice A n cap], .int .i64 t] w fun e w' => e = .returned (.tuple #[.int .i64 (ch cs j).off, .string (ch cs j).lab]) ∧ Below w.heap.size w w' := by
  have HB := Lib.hid (ZBox.new w (.string s) (.int .i64 f) (.slice A n cap))
  have Hb := Lib.hid ((Below.refl w.heap.size w).alloc (Nat.le_refl _) (.cells #[.string s, .int .i64 f, .slice A n cap] 24))
  have H := Lib.hid h; have HZ := Lib.hid hz; have HT := Lib.hid ht
  have hm := h.most; have hle := h.le
  unfold maxLen at hm
  clear h hz ht
  go_enter Tryd.func20, Tryd.ntmps20
  go_upto_region 1 with fail
  obtain ⟨k, hk⟩ : ∃ k, k = w.heap.size := ⟨_, rfl⟩
  obtain ⟨V, hV⟩ : ∃ V, V = w.alloc (.cells #[.string s, .int .i64 f, .slice A n cap] 24) := ⟨_, rfl⟩
  rw [← hV] at HB Hb ⊢
  rw [← hk] at HB ⊢
  clear hV hk
  have x0 := HB.out.c0; have x1 := HB.out.c1; have x2 := HB.out.c2; have xl := HB.out.lt
  go_wp2_with fail
  clear x0 x1 x2 xl
  go_loopw [6, 7, 15] (fun s6 s7 i' wv => ∃ i : Nat, i ≤ j + 1 ∧ i' = .int .i64 i ∧ s6 = .int .i64 (offAt f cs i) ∧ s7 = .string (labAt cs i) ∧ Below w.heap.size w wv) (fun _ _ i' _ => n - (intOf i').toNat)
  case atStart => exact ⟨0, by omega, rfl, rfl, rfl, Hb.out⟩
  case round =>
    clear HB Hb
    obtain ⟨i, hi, rfl, rfl, rfl, hb⟩ := hrel
    have Hb := Lib.hid hb
    clear hb
    obtain ⟨vo, hvo⟩ : ∃ x, x = offAt f cs i := ⟨_, rfl⟩
    obtain ⟨vl, hvl⟩ : ∃ x, x = labAt cs i := ⟨_, rfl⟩
    rw [← hvo, ← hvl]
    have HVO := Lib.hid hvo; have HVL := Lib.hid hvl
    clear hvo hvl
    by_cases hin : i < n
    · have i0 : (0 : Int) ≤ (i : Int) := by omega
      have i1 : (i : Int) < (n : Int) := by omega
      have i2 : (i : Int) < (cap : Int) := by omega
      obtain ⟨q, o, hA, hc⟩ := (H.out.stay Hb.out).mem (by omega)
      obtain ⟨x0, x1, x2⟩ := hc i hin
      subst hA
      obtain ⟨a, ha⟩ : ∃ a, a = (ch cs i).at' := ⟨_, rfl⟩
      obtain ⟨of, hof2⟩ : ∃ a, a = (ch cs i).off := ⟨_, rfl⟩
      obtain ⟨lb, hlb⟩ : ∃ a, a = (ch cs i).lab := ⟨_, rfl⟩
      rw [← ha] at x0; rw [← hof2] at x1; rw [← hlb] at x2
      have HD := Lib.hid (And.intro ha (And.intro hof2 hlb))
      clear hc ha hof2 hlb
      have bw := (Below.refl wr.heap.size wr).alloc (Nat.le_refl _) (.cells #[.int .i64 a, .int .i64 of, .string lb] 36)
      have HP := Lib.hid (CgBox.new wr (.int .i64 a) (.int .i64 of) (.string lb))
      have Hb2 := Lib.hid (Hb.out.trans (bw.mono Hb.out.size))
      go_upto_region 5 with fail
      obtain ⟨kp, hkp⟩ : ∃ b, b = wr.heap.size := ⟨_, rfl⟩
      obtain ⟨U, hU⟩ : ∃ U, U = wr.alloc (.cells #[.int .i64 a, .int .i64 of, .string lb] 36) := ⟨_, rfl⟩
      rw [← hU, ← hkp] at HP ⊢
      rw [← hU] at Hb2
      clear bw hkp hU Hb x0 x1 x2
      have x0 := HP.out.c0; have x1 := HP.out.c1; have x2 := HP.out.c2; have xl := HP.out.lt
      by_cases hij : i ≤ j
      · have c1 : ¬ t < a := by
          rw [HD.out.1, HT.out]
          rcases (by omega : i < j ∨ i = j) with h2 | h2
          · have := inc_lt HZ.out h2 hj; omega
          · rw [h2]; omega
        go_wp2_with fail
        go_quiet (fail)
        go_wp2_with fail
        have Hb3 := Lib.hid (below_drewN Hb2.out nq)
        go_roundw
        case rel => exact ⟨i + 1, by omega, by go_num, by rw [HD.out.2.1]; rfl, by rw [HD.out.2.2]; rfl, Hb3.out⟩
        case measure => simp [intOf]; omega
      · have c1 : t < a := by
          rw [HD.out.1, HT.out]
          exact inc_lt HZ.out (by omega) hin
        have hi2 : i = j + 1 := by omega
        have HI := Lib.hid hi2
        clear hi2
        go_wp2_with fail
        go_returns
        exact ⟨by rw [HVO.out, HVL.out, HI.out]; rfl, Hb2.out⟩
    · have hi2 : i = j + 1 := by omega
      have HI := Lib.hid hi2
      clear hi2
      have i1 : ¬ (i : Int) < (n : Int) := by omega
      go_wp2_with fail
      go_returns
      exact ⟨by rw [HVO.out, HVL.out, HI.out]; rfl, Hb.out⟩

theorem zCheck_yes (s : ByteArray) (f : Int) (A : Option Addr) (n cap : Nat) (cs : List Chg) (w : World) (h : ChSl w A n cap cs) (hs : s.size ≤ 9223372036854775807) (hz : ZoneOk s f cs) :
    Calls Tryd.prog 11 #[.agg #[.string s, .int .i64 f, .slice A n cap]] w fun e w' => e = .returned (.int .i64 0) ∧ Below w.heap.size w w' :=
  (zCheck_ok s f A n cap cs w h hs).mono fun e w' ⟨r, he, hr, hb⟩ => ⟨by rw [he, hr.2 hz], hb⟩

set_option maxRecDepth 100000 in
set_option maxHeartbeats 8000000 in
theorem zcheckAt_ok (s : ByteArray) (f : Int) (A : Option Addr) (n cap : Nat) (cs : List Chg) (t : Int) (w : World) (h : ChSl w A n cap cs) (hs : s.size ≤ 9223372036854775807) (hz : ZoneOk s f cs) (ht : instOk t = true) (h64 : I64 t) :
    Calls Tryd.prog 19 #[.agg #[.string s, .int .i64 f, .slice A n cap], .int .i64 t] w fun e w' => e = .returned (.int .i64 0) ∧ Below w.heap.size w w' := by
  have HB := Lib.hid (ZBox.new w (.string s) (.int .i64 f) (.slice A n cap))
  have Hb := Lib.hid ((Below.refl w.heap.size w).alloc (Nat.le_refl _) (.cells #[.string s, .int .i64 f, .slice A n cap] 24))
  have HC := Lib.hid (fun W hW => zCheck_yes s f A n cap cs W hW hs hz)
  have HI := Lib.hid (fun W => ht ▸ isInst_ok t W h64.1 h64.2)
  have H := Lib.hid h
  clear h hz ht h64
  go_enter Tryd.func19, Tryd.ntmps19
  go_upto_region 1 with fail
  obtain ⟨k, hk⟩ : ∃ k, k = w.heap.size := ⟨_, rfl⟩
  obtain ⟨V, hV⟩ : ∃ V, V = w.alloc (.cells #[.string s, .int .i64 f, .slice A n cap] 24) := ⟨_, rfl⟩
  rw [← hV] at HB Hb ⊢
  rw [← hk] at HB ⊢
  clear hV hk
  have x0 := HB.out.c0; have x1 := HB.out.c1; have x2 := HB.out.c2; have xl := HB.out.lt
  go_wp2_with fail
  refine Calls.mono (HC.out _ (H.out.stay Hb.out)) ?_
  rintro e w1 ⟨rfl, hb⟩
  have Hb1 := Lib.hid (Hb.out.trans (hb.mono Hb.out.size))
  clear hb HB Hb x0 x1 x2 xl
  go_wp2_with fail
  refine Calls.mono (HI.out _) ?_
  rintro e w2 ⟨rfl, hb⟩
  have Hb2 := Lib.hid (Hb1.out.trans (hb.mono Hb1.out.size))
  clear hb Hb1
  go_wp2_with fail
  go_ret
  exact ⟨rfl, Hb2.out⟩

set_option maxRecDepth 100000 in
set_option maxHeartbeats 8000000 in
theorem zOffset_ok (s : ByteArray) (f : Int) (A : Option Addr) (n cap : Nat) (cs : List Chg) (j : Nat) (w : World) (h : ChSl w A n cap cs) (hs : s.size ≤ 9223372036854775807) (hz : ZoneOk s f cs) (hj : j < n) (t : Int) (ht : t = (ch cs j).at') :
    Calls Tryd.prog 7 #[.agg #[.string s, .int .i64 f, .slice A n cap], .int .i64 t] w fun e w' => e = .returned (.tuple #[.int .i64 (ch cs j).off, .string (ch cs j).lab, .int .i64 0]) ∧ Below w.heap.size w w' := by
  have hl := h.len
  have HB := Lib.hid (ZBox.new w (.string s) (.int .i64 f) (.slice A n cap))
  have Hb := Lib.hid ((Below.refl w.heap.size w).alloc (Nat.le_refl _) (.cells #[.string s, .int .i64 f, .slice A n cap] 24))
  have HC := Lib.hid (fun W hW => zcheckAt_ok s f A n cap cs t W hW hs hz (by rw [ht]; exact (hz.2.2.2 j (by omega)).1) (by rw [ht]; exact (h.rng j hj).a))
  have HO := Lib.hid (fun W hW => zoffset_ok s f A n cap cs j W hW (fun i hi => hz.2.2.2 i (by omega)) hj (by have := hz.2.2.1; omega) t ht)
  have H := Lib.hid h
  obtain ⟨vo, hvo⟩ : ∃ x, x = (ch cs j).off := ⟨_, rfl⟩
  obtain ⟨vl, hvl⟩ : ∃ x, x = (ch cs j).lab := ⟨_, rfl⟩
  rw [← hvo, ← hvl] at HO ⊢
  clear h hz ht hl hvo hvl
  go_enter Tryd.func7, Tryd.ntmps7
  go_upto_region 1 with fail
  obtain ⟨k, hk⟩ : ∃ k, k = w.heap.size := ⟨_, rfl⟩
  obtain ⟨V, hV⟩ : ∃ V, V = w.alloc (.cells #[.string s, .int .i64 f, .slice A n cap] 24) := ⟨_, rfl⟩
  rw [← hV] at HB Hb ⊢
  rw [← hk] at HB ⊢
  clear hV hk
  have x0 := HB.out.c0; have x1 := HB.out.c1; have x2 := HB.out.c2; have xl := HB.out.lt
  go_wp2_with fail
  refine Calls.mono (HC.out _ (H.out.stay Hb.out)) ?_
  rintro e w1 ⟨rfl, hb⟩
  have HB1 := Lib.hid (HB.out.below hb); have Hb1 := Lib.hid (Hb.out.trans (hb.mono Hb.out.size))
  clear hb HB Hb x0 x1 x2 xl
  have x0 := HB1.out.c0; have x1 := HB1.out.c1; have x2 := HB1.out.c2; have xl := HB1.out.lt
  go_wp2_with fail
  refine Calls.mono (HO.out _ (H.out.stay Hb1.out)) ?_
  rintro e w2 ⟨rfl, hb⟩
  have Hb2 := Lib.hid (Hb1.out.trans (hb.mono Hb1.out.size))
  clear hb HB1 Hb1 x0 x1 x2 xl
  go_wp2_with fail
  go_returns
  exact ⟨rfl, Hb2.out⟩
end Go.Proofs.YtdifeoahaegjbaaDoor
