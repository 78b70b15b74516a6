/- Zones: names and labels. -/
import Derived.Test.YtdifeoahaegjbaaDoorZSmall
namespace Go.Proofs.YtdifeoahaegjbaaDoor
open Go.RowKit
set_option linter.unusedSimpArgs false
set_option linter.unusedVariables false

def byAt (s : ByteArray) (j : Nat) : Int := ((s.data.toList.getD j 0).toNat : Int)
/-- The first k bytes are from lo to hi. -/
def inAll (s : ByteArray) (lo hi : Int) : Nat → Bool
  | 0 => true
  | k + 1 => inAll s lo hi k && decide (lo ≤ byAt s k ∧ byAt s k ≤ hi)
def labOk (s : ByteArray) : Bool := inAll s 65 90 s.size && decide (1 ≤ s.size ∧ s.size ≤ 6)
theorem inAll_stop {s : ByteArray} {lo hi : Int} {k : Nat} (h : ¬ (lo ≤ byAt s k ∧ byAt s k ≤ hi)) : ∀ n, k < n → inAll s lo hi n = false
  | 0, hk => by omega
  | n + 1, hk => by
    unfold inAll
    by_cases e : k = n
    · subst e; rw [decide_eq_false h, Bool.and_false]
    · rw [inAll_stop h n (by omega), Bool.false_and]
theorem index_by (s : ByteArray) (i : Nat) (hi : i < s.size) : ∀ w : World, (Instr.index 9 (.string s) (.int .i64 i)).run Tryd.prog w = .ok (.int .u8 (byAt s i)) w := fun w => by
  have h := run_index_string (P := Tryd.prog) (w := w) 9 s .i64 (i : Int) Tryd.underlying9
  rw [h, dif_pos ⟨by omega, by omega⟩]
  have e : (((s[(i : Int).toNat]'(by omega)).toNat : Nat) : Int) = byAt s i := by
    have h1 : s.data.toList.getD i 0 = s.data[i]'hi := by
      rw [List.getD_eq_getElem?_getD, Array.getElem?_toList, Array.getElem?_eq_getElem hi]
      rfl
    unfold byAt
    rw [h1]
    rfl
  rw [e]
theorem byAt_range (s : ByteArray) (j : Nat) : 0 ≤ byAt s j ∧ byAt s j < 256 := by
  unfold byAt; have := (s.data.toList.getD j 0).toBitVec.isLt; have h : (s.data.toList.getD j 0).toNat < 256 := this; omega

set_option maxHeartbeats 2000000 in
theorem isLabel_ok (s : ByteArray) (w : World) (hs : s.size ≤ 9223372036854775807) : Calls Tryd.prog 28 #[.string s] w fun e w' => e = .returned (.bool (labOk s)) ∧ w' = w := by
  obtain ⟨n, hn⟩ : ∃ n, n = s.size := ⟨_, rfl⟩
  have HN := Lib.hid hn
  obtain ⟨f, hf⟩ : ∃ f, f = byAt s := ⟨_, rfl⟩
  have HF := Lib.hid hf
  have HI := Lib.hid (fun i (hi : i < s.size) => index_by s i hi)
  rw [← hf] at HI
  have hn9 : (n : Int) ≤ 9223372036854775807 := by omega
  clear hs hf
  go_enter Tryd.func28, Tryd.ntmps28
  go_wp2_with fail
  rw [← hn]
  clear hn
  go_loop [3, 6] (fun s3 i' => ∃ i : Nat, i ≤ n ∧ i' = .int .i64 i ∧ inAll s 65 90 i = true) (fun _ i' => n - (intOf i').toNat)
  case atStart => exact ⟨0, by omega, rfl, rfl⟩
  case round =>
    obtain ⟨i, hi, rfl, hall⟩ := hrel
    have HL := Lib.hid hall
    clear hall
    by_cases hin : i < n
    · have i0 : (0 : Int) ≤ (i : Int) := by omega
      have i1 : (i : Int) < (n : Int) := by omega
      have ix := HI.out i (by have := HN.out; omega)
      obtain ⟨c, hc⟩ : ∃ c, c = f i := ⟨_, rfl⟩
      rw [← hc] at ix
      have HC := Lib.hid hc
      clear hc
      by_cases h1 : c < 65
      · have hx : labOk s = false := by unfold labOk; rw [inAll_stop (k := i) (by rw [← HF.out, ← HC.out]; omega) s.size (by have := HN.out; omega), Bool.false_and]
        have HX := Lib.hid hx
        clear hx
        go_wp2_with fail
        go_ret
        exact ⟨by rw [HX.out]; rfl, rfl⟩
      · by_cases h2 : 90 < c
        · have hx : labOk s = false := by unfold labOk; rw [inAll_stop (k := i) (by rw [← HF.out, ← HC.out]; omega) s.size (by have := HN.out; omega), Bool.false_and]
          have HX := Lib.hid hx
          clear hx
          go_wp2_with fail
          go_ret
          exact ⟨by rw [HX.out]; rfl, rfl⟩
        · have hx : inAll s 65 90 (i + 1) = true := by unfold inAll; rw [HL.out, decide_eq_true (by rw [← HF.out, ← HC.out]; omega)]; rfl
          have HX := Lib.hid hx
          clear hx
          go_wp2_with fail
          go_round
          case rel => exact ⟨i + 1, by omega, by go_num, HX.out⟩
          case measure => simp [intOf]; omega
    · obtain rfl : i = n := by omega
      by_cases h1 : 1 ≤ i
      · by_cases h2 : i ≤ 6
        · have hx : labOk s = true := by unfold labOk; rw [← HN.out, HL.out, decide_eq_true ⟨h1, h2⟩]; rfl
          have HX := Lib.hid hx
          clear hx
          have g1 : (1 : Int) ≤ (s.size : Int) := by have := HN.out; omega
          have g2 : (s.size : Int) ≤ 6 := by have := HN.out; omega
          go_wp2_with fail
          go_ret
          exact ⟨by rw [HX.out]; rfl, rfl⟩
        · have hx : labOk s = false := by unfold labOk; rw [← HN.out, decide_eq_false (fun h => h2 h.2), Bool.and_false]
          have HX := Lib.hid hx
          clear hx
          have g1 : (1 : Int) ≤ (s.size : Int) := by have := HN.out; omega
          have g2 : ¬ (s.size : Int) ≤ 6 := by have := HN.out; omega
          go_wp2_with fail
          go_ret
          exact ⟨by rw [HX.out]; rfl, rfl⟩
      · have hx : labOk s = false := by unfold labOk; rw [← HN.out, decide_eq_false (fun h => h1 h.1), Bool.and_false]
        have HX := Lib.hid hx
        clear hx
        have g1 : ¬ (1 : Int) ≤ (s.size : Int) := by have := HN.out; omega
        go_wp2_with fail
        go_ret
        exact ⟨by rw [HX.out]; rfl, rfl⟩

def nameBad (s : ByteArray) : Bool := decide ((s.size : Int) < 1 ∨ (12 : Int) < (s.size : Int) ∨ s.toList = [121] ∨ s.toList = [97, 110, 100] ∨ s.toList = [111, 114] ∨ s.toList = [110, 111, 116])
def nameOk (s : ByteArray) : Bool := !nameBad s && inAll s 97 122 s.size
theorem nameOk_bad {s : ByteArray} (h : (s.size : Int) < 1 ∨ (12 : Int) < (s.size : Int) ∨ s.toList = [121] ∨ s.toList = [97, 110, 100] ∨ s.toList = [111, 114] ∨ s.toList = [110, 111, 116]) : nameOk s = false := by
  unfold nameOk nameBad; rw [decide_eq_true h]; rfl
theorem nameOk_len {s : ByteArray} (h : nameOk s = true) : s.size ≤ 12 := by
  by_cases hk : (12 : Int) < (s.size : Int)
  · rw [nameOk_bad (.inr (.inl hk))] at h; cases h
  · omega
set_option maxHeartbeats 4000000 in
theorem isName_ok (s : ByteArray) (w : World) (hs : s.size ≤ 9223372036854775807) : Calls Tryd.prog 29 #[.string s] w fun e w' => e = .returned (.bool (nameOk s)) ∧ w' = w := by
  by_cases h0 : (s.size : Int) < 1
  · have hx := nameOk_bad (s := s) (.inl h0)
    rw [hx]
    clear hx
    go_enter Tryd.func29, Tryd.ntmps29
    go_wp2_with fail
    go_ret
    exact ⟨rfl, rfl⟩
  by_cases h1 : (12 : Int) < (s.size : Int)
  · have hx := nameOk_bad (s := s) (.inr (.inl h1))
    rw [hx]
    clear hx
    go_enter Tryd.func29, Tryd.ntmps29
    go_wp2_with fail
    go_ret
    exact ⟨rfl, rfl⟩
  by_cases h2 : s.toList = [121]
  · have hx := nameOk_bad (s := s) (.inr (.inr (.inl h2)))
    rw [hx]
    clear hx
    go_enter Tryd.func29, Tryd.ntmps29
    go_wp2_with fail
    go_ret
    exact ⟨rfl, rfl⟩
  by_cases h3 : s.toList = [97, 110, 100]
  · have hx := nameOk_bad (s := s) (.inr (.inr (.inr (.inl h3))))
    rw [hx]
    clear hx
    go_enter Tryd.func29, Tryd.ntmps29
    go_wp2_with fail
    go_ret
    exact ⟨rfl, rfl⟩
  by_cases h4 : s.toList = [111, 114]
  · have hx := nameOk_bad (s := s) (.inr (.inr (.inr (.inr (.inl h4)))))
    rw [hx]
    clear hx
    go_enter Tryd.func29, Tryd.ntmps29
    go_wp2_with fail
    go_ret
    exact ⟨rfl, rfl⟩
  by_cases h5 : s.toList = [110, 111, 116]
  · have hx := nameOk_bad (s := s) (.inr (.inr (.inr (.inr (.inr (h5))))))
    rw [hx]
    clear hx
    go_enter Tryd.func29, Tryd.ntmps29
    go_wp2_with fail
    go_ret
    exact ⟨rfl, rfl⟩
  have hbad : nameBad s = false := decide_eq_false (fun h => by
    rcases h with h | h | h | h | h | h
    · exact h0 h
    · exact h1 h
    · exact h2 h
    · exact h3 h
    · exact h4 h
    · exact h5 h)
  have HBD := Lib.hid hbad
  have q2 : (s.toList == [121]) = false := beq_eq_false_iff_ne.2 h2
  have q3 : (s.toList == [97, 110, 100]) = false := beq_eq_false_iff_ne.2 h3
  have q4 : (s.toList == [111, 114]) = false := beq_eq_false_iff_ne.2 h4
  have q5 : (s.toList == [110, 111, 116]) = false := beq_eq_false_iff_ne.2 h5
  obtain ⟨n, hn⟩ : ∃ n, n = s.size := ⟨_, rfl⟩
  have HN := Lib.hid hn
  obtain ⟨f, hf⟩ : ∃ f, f = byAt s := ⟨_, rfl⟩
  have HF := Lib.hid hf
  have HI := Lib.hid (fun i (hi : i < s.size) => index_by s i hi)
  rw [← hf] at HI
  have hn9 : (n : Int) ≤ 9223372036854775807 := by omega
  clear hs hf hbad
  go_enter Tryd.func29, Tryd.ntmps29
  go_wp2_with fail
  clear h0 h1 h2 h3 h4 h5 q2 q3 q4 q5
  rw [← hn]
  clear hn
  go_loop [3, 30] (fun s3 i' => ∃ i : Nat, i ≤ n ∧ i' = .int .i64 i ∧ inAll s 97 122 i = true) (fun _ i' => n - (intOf i').toNat)
  case atStart => exact ⟨0, by omega, rfl, rfl⟩
  case round =>
    obtain ⟨i, hi, rfl, hall⟩ := hrel
    have HL := Lib.hid hall
    clear hall
    by_cases hin : i < n
    · have i0 : (0 : Int) ≤ (i : Int) := by omega
      have i1 : (i : Int) < (n : Int) := by omega
      have ix := HI.out i (by have := HN.out; omega)
      obtain ⟨c, hc⟩ : ∃ c, c = f i := ⟨_, rfl⟩
      rw [← hc] at ix
      have HC := Lib.hid hc
      clear hc
      by_cases h1 : c < 97
      · have hx : nameOk s = false := by unfold nameOk; rw [inAll_stop (k := i) (by rw [← HF.out, ← HC.out]; omega) s.size (by have := HN.out; omega), Bool.and_false]
        have HX := Lib.hid hx
        clear hx
        go_wp2_with fail
        go_ret
        exact ⟨by rw [HX.out]; rfl, rfl⟩
      · by_cases h2 : 122 < c
        · have hx : nameOk s = false := by unfold nameOk; rw [inAll_stop (k := i) (by rw [← HF.out, ← HC.out]; omega) s.size (by have := HN.out; omega), Bool.and_false]
          have HX := Lib.hid hx
          clear hx
          go_wp2_with fail
          go_ret
          exact ⟨by rw [HX.out]; rfl, rfl⟩
        · have hx : inAll s 97 122 (i + 1) = true := by unfold inAll; rw [HL.out, decide_eq_true (by rw [← HF.out, ← HC.out]; omega)]; rfl
          have HX := Lib.hid hx
          clear hx
          go_wp2_with fail
          go_round
          case rel => exact ⟨i + 1, by omega, by go_num, HX.out⟩
          case measure => simp [intOf]; omega
    · obtain rfl : i = n := by omega
      have hx : nameOk s = true := by unfold nameOk; rw [HBD.out, ← HN.out, HL.out]; rfl
      have HX := Lib.hid hx
      clear hx
      go_wp2_with fail
      go_ret
      exact ⟨by rw [HX.out]; rfl, rfl⟩
end Go.Proofs.YtdifeoahaegjbaaDoor
