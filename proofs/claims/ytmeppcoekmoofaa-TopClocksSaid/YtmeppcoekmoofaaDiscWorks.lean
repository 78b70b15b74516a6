/- disciplineWorks; what a keeper holds when its sources have been fed one behind the other. -/
import Derived.Test.YtmeppcoekmoofaaRead
namespace Go.Proofs.Ytmeppcoekmoofaa
open Go.RowKit
set_option linter.unusedSimpArgs false
set_option linter.unusedVariables false

def fedR (t lo hi : Nat → Int) : Nat → Nat → Int
  | 0 => fun _ => 0
  | i + 1 => setRd (fedR t lo hi i) i (t i) (lo i) (hi i)
def fedH : Nat → Nat → Bool
  | 0 => fun _ => false
  | i + 1 => setHd (fedH i) i
theorem fedH_true (i j : Nat) (h : j < i) : fedH i j = true := by
  induction i with
  | zero => omega
  | succ i ih =>
    unfold fedH setHd
    by_cases e : j = i
    · rw [if_pos e]
    · rw [if_neg e]; exact ih (by omega)
theorem fedR_at (t lo hi : Nat → Int) (i j : Nat) (h : j < i) : fedR t lo hi i (j * 3) = t j ∧ fedR t lo hi i (j * 3 + 1) = lo j ∧ fedR t lo hi i (j * 3 + 2) = hi j := by
  induction i with
  | zero => omega
  | succ i ih =>
    unfold fedR setRd
    by_cases e : j = i
    · subst e; simp
    · have := ih (by omega)
      rw [if_neg (by omega), if_neg (by omega), if_neg (by omega), if_neg (by omega), if_neg (by omega), if_neg (by omega), if_neg (by omega), if_neg (by omega), if_neg (by omega)]
      exact this
theorem fed_nums (t lo hi : Nat → Int) (n j : Nat) (h : j < n) : ix (rdNums (fedR t lo hi n) n) (j * 3) = t j ∧ ix (rdNums (fedR t lo hi n) n) (j * 3 + 1) = lo j ∧ ix (rdNums (fedR t lo hi n) n) (j * 3 + 2) = hi j := by
  obtain ⟨e1, e2, e3⟩ := rdNums_at (fedR t lo hi n) n j h
  obtain ⟨f1, f2, f3⟩ := fedR_at t lo hi n j h
  rw [e1, e2, e3]
  exact ⟨f1, f2, f3⟩
/-- If all intervals from the k-th on contain t, all but k do. -/
theorem dep_but {zs : List Int} {t : Int} (k n : Nat) (h : ∀ j, k ≤ j → j < n → Cont zs j t) : n ≤ dep zs t n + k := by
  induction n with
  | zero => omega
  | succ n ih =>
    have h1 := ih (fun j h1 h2 => h j h1 (by omega))
    have h2 := dep_step zs t n
    by_cases hk : k ≤ n
    · rw [h2.1 (h n hk (by omega))]; omega
    · omega
/-- What Read tells when the sources from the k-th on are right, and k is at most f. -/
theorem fed_right {t lo hi : Nat → Int} {n f k : Nat} {d tick T : Int} (h0 : 0 ≤ d) (h1 : d ≤ 100000) (hf : 2 * f < n) (hk : k ≤ f) (hR : RdsOk (rdNums (fedR t lo hi n) n) n tick)
    (hT : ∀ j, k ≤ j → j < n → lo j + (tick - t j) ≤ T ∧ T ≤ hi j + (tick - t j)) :
    (rdV (fedR t lo hi n) d tick n f).is = true ∧ (rdV (fedR t lo hi n) d tick n f).lo ≤ T ∧ T ≤ (rdV (fedR t lo hi n) d tick n f).hi := by
  have hd : n ≤ dep (mvNums (rdNums (fedR t lo hi n) n) d tick n) T n + k := dep_but k n (fun j hj hn => by
    obtain ⟨e1, e2⟩ := mvNums_at (rdNums (fedR t lo hi n) n) d tick n j hn
    obtain ⟨f1, f2, f3⟩ := fed_nums t lo hi n j hn
    obtain ⟨g1, g2, g3, g4, g5⟩ := hR.each j hn
    have ht := hR.top
    rw [f1] at g1 g2 e1 e2
    rw [f2] at e1
    rw [f3] at e2
    have he := el_bounds d (tick - t j) h0 h1 (by omega) (by omega)
    have := hT j hj hn
    unfold Cont
    rw [e1, e2]
    omega)
  exact within_has (by omega) (by omega)

def wkT (i : Nat) : Int := i
def wkLo (i : Nat) : Int := 10 * i
def wkHi (i : Nat) : Int := 10 * i + 15
theorem wk_rds : RdsOk (rdNums (fedR wkT wkLo wkHi 3) 3) 3 2 := by
  refine ⟨by omega, by omega, fun j hj => ?_⟩
  obtain ⟨e1, e2, e3⟩ := fed_nums wkT wkLo wkHi 3 j hj
  rw [e1, e2, e3]
  unfold wkT wkLo wkHi
  omega
theorem wk_val : (rdV (fedR wkT wkLo wkHi 3) 0 2 3 1).is = true ∧ (rdV (fedR wkT wkLo wkHi 3) 0 2 3 1).lo = 11 ∧ (rdV (fedR wkT wkLo wkHi 3) 0 2 3 1).hi = 26 := by decide +kernel

set_option maxRecDepth 100000 in
set_option maxHeartbeats 4000000 in
theorem disciplineWorks_ok (w : World) : Calls Try.prog 37 #[] w fun e w' => e = .returned (.bool true) ∧ Below w.heap.size w w' := by
  have his : (rdV (fedR wkT wkLo wkHi 3) 0 2 3 1).is = true := wk_val.1
  have HIS := Lib.hid his; clear his
  go_enter Try.func37, Try.ntmps37
  go_wp2_with fail
  refine Calls.mono (keepNew_ok 0 3 1 _ (by omega) (by omega) (by omega) (by omega) (by omega)) ?_
  rintro e w1 ⟨kb, rb, hb, rfl, hK, b1, b2, b3, hb1⟩
  go_wp2_with fail
  go_loopw [16] (fun i' wr => ∃ (i : Nat) (last : Int), i ≤ 3 ∧ i' = .int .i64 i ∧ last ≤ i ∧ Hid (0 < i → last ≤ (i : Int) - 1) ∧ Keep wr kb rb hb 3 0 1 last (fedR wkT wkLo wkHi i) (fedH i) ∧ Below w.heap.size w wr) (fun i' _ => 3 - (intOf i').toNat)
  case atStart => exact ⟨0, 0, by omega, rfl, by omega, Lib.hid (fun h => by omega), hK, hb1⟩
  case round =>
    clear hK hb1
    obtain ⟨i, last, hi, rfl, hl, hl2, hK, hbw⟩ := hrel
    have HK := Lib.hid hK; clear hK
    by_cases hlt : i < 3
    · have i0 : (0 : Int) ≤ (i : Int) := by omega
      have i1 : (i : Int) < 3 := by omega
      go_wp2_with fail
      refine Calls.mono (feed_ok kb rb hb 3 i 0 1 last _ _ _ _ _ _ HK.out (by omega) hlt (by omega) (by omega) hl (by omega) (by omega) (by omega)) ?_
      rintro e w2 ⟨rfl, hK2, hs2, hB⟩
      have hb2 := hbw.trans ((hB w.heap.size b1 b2 b3))
      clear hB
      go_wp2_with fail
      go_roundw
      case rel => exact ⟨i + 1, i, by omega, by go_num, by omega, Lib.hid (fun _ => by omega), hK2, hb2⟩
      case measure => simp [intOf]; omega
    · obtain rfl : i = 3 := by omega
      go_wp2_with fail
      refine Calls.mono (read_ok kb rb hb 3 1 0 last 2 _ _ _ HK.out (by omega) (by omega) (by omega) (fun j hj => fedH_true 3 j hj) wk_rds (by omega) (by have := hl2.out (by omega); omega) HIS.out) ?_
      rw [wk_val.2.1, wk_val.2.2]
      rintro e w2 ⟨rfl, hb2⟩
      have hK2 := HK.out.below hb2
      have HK2 := Lib.hid (Keep.below hK2 ((Below.refl _ _).alloc (Nat.le_refl _) (.cells #[.int .i64 11, .int .i64 26] 35)))
      have hb3 := hbw.trans (hb2.mono hbw.size)
      clear hb2 hK2 hbw
      go_wp2_with fail
      refine Calls.mono (heard_ok _ _ _ 3 _ _ _ _ _ _ HK2.out (by omega) (fun j hj => fedH_true 3 j hj)) ?_
      rintro e _ ⟨rfl, rfl⟩
      go_wp2_with fail
      go_ret
      exact ⟨rfl, hb3.alloc hb3.size _⟩

end Go.Proofs.Ytmeppcoekmoofaa
