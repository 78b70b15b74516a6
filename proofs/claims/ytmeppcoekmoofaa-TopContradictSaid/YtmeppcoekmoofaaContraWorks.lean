/- The contract of contradictWorks. -/
import Derived.Test.YtmeppcoekmoofaaChronWorks
import Derived.Test.YtmeppcoekmoofaaLeast
import Derived.Test.YtmeppcoekmoofaaImplied
namespace Go.Proofs.Ytmeppcoekmoofaa
open Go.RowKit
set_option linter.unusedSimpArgs false
set_option linter.unusedVariables false

def numsA : List Int := [0, 1, 10, 20, 1, 2, 5, 5, 0, 2, 30, 40]
def numsB : List Int := [0, 1, 10, 20, 1, 2, 5, 5, 0, 2, 0, 40]
def listA : List Bd := [⟨0, 1, 10, 20⟩, ⟨1, 2, 5, 5⟩, ⟨0, 2, 30, 40⟩]
def listB : List Bd := [⟨0, 1, 10, 20⟩, ⟨1, 2, 5, 5⟩, ⟨0, 2, 0, 40⟩]
theorem listA_bds : bds numsA 3 = listA := rfl
theorem listB_bds : bds numsB 3 = listB := rfl
theorem listA_each : ∀ c, c ∈ listA → BdOk (3 : Nat) c := by
  intro c hc
  simp only [listA, List.mem_cons, List.not_mem_nil, or_false] at hc
  rcases hc with rfl | rfl | rfl <;> constructor <;> decide
theorem listB_each : ∀ c, c ∈ listB → BdOk (3 : Nat) c := by
  intro c hc
  simp only [listB, List.mem_cons, List.not_mem_nil, or_false] at hc
  rcases hc with rfl | rfl | rfl <;> constructor <;> decide
theorem listA_ok : ChronOk 3 listA := ⟨by omega, by omega, by decide, listA_each⟩
theorem listB_ok : ChronOk 3 listB := ⟨by omega, by omega, by decide, listB_each⟩
theorem listA_within : Within 3 40 listA := ⟨by omega, by unfold far; omega, by
  intro c hc
  have := listA_each c hc
  simp only [listA, List.mem_cons, List.not_mem_nil, or_false] at hc
  rcases hc with rfl | rfl | rfl <;> exact ⟨this, by decide, by decide, by decide, by decide⟩⟩
theorem three_free (a b : Int) (ha : 0 ≤ a ∧ a ≤ 30) (hb : 0 ≤ b ∧ b ≤ 30) (l : List Bd) (h : ∀ c, c ∈ l → Sat (threeP a b) c) : Free 3 l :=
  (sat_free (fun i j _ _ => by
    unfold threeP far
    split <;> split <;> (try split) <;> (try split) <;> omega) h).1
theorem free_diag {n : Nat} {W : Int} {l : List Bd} (h : Within n W l) (hf : Free n l) (i : Nat) (hi : i < n) : 0 ≤ fin n l i i := hf.diag h.low.2 n (Nat.le_refl _) i hi
theorem listA_bad : ¬ Free 3 listA := by
  intro hf
  have hcl := fin_closed listA_within (by unfold far; decide) hf
  have e1 := fin_hits (n := 3) (l := listA) ⟨0, 2, 30, 40⟩ (by simp [listA]) (listA_each _ (by simp [listA]))
  have e2 := fin_sub (n := 3) (l1 := threeL) (l2 := listA) (fun d hd => by
    simp only [threeL, listA, List.mem_cons, List.not_mem_nil, or_false] at hd ⊢
    rcases hd with rfl | rfl <;> simp) 0 2 (by omega) (by omega)
  rw [three_fin.1] at e2
  simp only [show Int.toNat 0 = 0 from rfl, show Int.toNat 2 = 2 from rfl] at e1
  have f1 : (40 : Int) < far := by unfold far; omega
  have b1 := hcl 0 2 0 (by omega) (by omega) (by omega) (by omega) (by omega)
  have d0 : 0 ≤ fin 3 listA 0 0 := free_diag listA_within hf 0 (by omega)
  omega
theorem listA_sat (x y : Nat) (hx : x < 3) (hy : y < 3) (h : y ≠ x) : Sat (threeP (if x = 0 then 25 else 10) (if x = 2 then 15 else 30)) (listA.getD y ⟨0, 0, 0, 0⟩) := by
  have hxx : x = 0 ∨ x = 1 ∨ x = 2 := by omega
  have hyy : y = 0 ∨ y = 1 ∨ y = 2 := by omega
  rcases hxx with rfl | rfl | rfl <;> rcases hyy with rfl | rfl | rfl <;> first | omega | (unfold Sat; decide)
theorem len3 (out : List Nat) (h0 : 0 ∈ out) (h1 : 1 ∈ out) (h2 : 2 ∈ out) (h3 : out.length ≤ 3) : out.length = 3 := by
  rcases out with _ | ⟨a, _ | ⟨b, _ | ⟨c, _ | ⟨d, r⟩⟩⟩⟩
  · simp at h0
  · simp only [List.mem_cons, List.not_mem_nil, or_false] at h0 h1; omega
  · simp only [List.mem_cons, List.not_mem_nil, or_false] at h0 h1 h2; omega
  · rfl
  · simp only [List.length_cons] at h3; omega
theorem listA_least (out : List Nat) (h : LeastIn 3 listA 3 out) : out.length = 3 := by
  obtain ⟨hbad, hlt, -⟩ := least_end (l := listA) h
  have key : ∀ x, x < 3 → x ∈ out := by
    intro x hx
    apply Classical.byContradiction
    intro hno
    apply hbad
    refine three_free (if x = 0 then 25 else 10) (if x = 2 then 15 else 30) (by split <;> omega) (by split <;> omega) _ (fun c hc => ?_)
    obtain ⟨y, hy, rfl⟩ := List.mem_map.1 hc
    exact listA_sat x y hx (hlt y hy) (fun e => hno (e ▸ hy))
  exact len3 out (key 0 (by omega)) (key 1 (by omega)) (key 2 (by omega)) h.few

theorem three_own (w : World) : (w.alloc (.cells #[.int .i64 0, .int .i64 1, .int .i64 10, .int .i64 20, .int .i64 1, .int .i64 2, .int .i64 5, .int .i64 5] 64)).ownsRow w.heap.size 64 4 (.slice (some ⟨w.heap.size, 0, none⟩) 2 2) 2 (threeNums.map (Value.int .i64)) :=
  ⟨by simp [threeNums], .inr ⟨w.heap.size, 2, _, rfl, Nat.le_refl _, heap_alloc_new w _, by omega, by unfold maxLen; omega, rfl, by simp [threeNums]⟩⟩

set_option maxRecDepth 100000 in
set_option maxHeartbeats 8000000 in
theorem contradictWorks_ok (w : World) : Calls Try.prog 30 #[] w fun e w' => e = .returned (.bool true) ∧ Below w.heap.size w w' := by
  obtain ⟨iB, hB0, hB1, hB2, hB3⟩ := info_parts Try.infoBd
  have hzA := chronChk_zero.2 listA_ok
  have HZA := Lib.hid hzA
  have hzB := chronChk_zero.2 listB_ok
  have HZB := Lib.hid hzB
  clear hzA hzB
  go_enter Try.func30, Try.ntmps30
  go_wp2_with fail
  refine Calls.mono (three_any _) ?_
  rintro e _ ⟨rfl, rfl⟩
  obtain ⟨w1, hw1⟩ : ∃ w1, w1 = w.alloc (.cells #[.int .i64 0, .int .i64 1, .int .i64 10, .int .i64 20, .int .i64 1, .int .i64 2, .int .i64 5, .int .i64 5] 64) := ⟨_, rfl⟩
  rw [← hw1]
  have hown : w1.ownsRow w.heap.size 64 4 (.slice (some ⟨w.heap.size, 0, none⟩) 2 2) 2 (threeNums.map (Value.int .i64)) := by rw [hw1]; exact three_own w
  have hb1 : Below w.heap.size w w1 := by rw [hw1]; exact (Below.refl _ _).alloc (Nat.le_refl _) _
  have hs1 := hb1.size
  clear hw1
  go_wp2_with (at_builtin; refine wpList_append_own _ rfl _ _ 23 rfl w.heap.size 64 iB _ 4 32 Try.underlying23 hB0 hB1 hB2 hB3 rfl (by decide) _ _ _ rfl (hown.alloc _) ⟨w1.heap.size, 0, none⟩ 1 1 [.int .i64 0, .int .i64 2, .int .i64 30, .int .i64 40] rfl rfl ?c1 ?c2 ?c3 ?c4 ?c5 ?_)
  case c1 => exact World.news_of_block (cs := #[.int .i64 0, .int .i64 2, .int .i64 30, .int .i64 40]) (t := 64) (fr := (0, 0)) (heap_alloc_new w1 _)
  case c2 => simp [Value.oneCell']
  case c3 => unfold maxLen; omega
  case c4 => omega
  case c5 => simp; omega
  · intro v' w2 hown' hgrow _
    have R : w2.ownsRow w.heap.size 64 4 v' 3 (numsA.map (Value.int .i64)) := hown'
    obtain ⟨A2, cap2, rfl, hF2⟩ := own_flat R
    have hb2 := (hb1.alloc hs1 (.cells #[.int .i64 0, .int .i64 2, .int .i64 30, .int .i64 40] 64)).grown hgrow (by simp; omega) (fun q hq => (hown.lt q hq).1)
    have hs2 := hb2.size
    clear R hown' hgrow hown hb1 hs1
    go_wp2_with fail
    refine Calls.mono (least_any _ _ _ _ (3 : Nat) _ hF2) ?_
    rw [listA_bds]
    rintro e w3 ⟨hb, ⟨N, hN, -, -, out, v, rfl, hout, hown⟩ | ⟨N, hN, -, hbad, -⟩ | ⟨hbad, -⟩⟩
    · obtain rfl : N = 3 := by omega
      have hl := listA_least out hout
      rw [hl] at hown
      obtain ⟨g, gc, hv, hg1, hg2⟩ := hown.form (by omega)
      subst hv
      have hb3 := hb2.trans (hb.mono hs2)
      have hs3 := hb3.size
      clear hown hb hb2 hs2 hF2 hout hl hg1 hg2
      go_wp2_with fail
      refine Calls.mono (three_any _) ?_
      rintro e _ ⟨rfl, rfl⟩
      obtain ⟨w4, hw4⟩ : ∃ w4, w4 = w3.alloc (.cells #[.int .i64 0, .int .i64 1, .int .i64 10, .int .i64 20, .int .i64 1, .int .i64 2, .int .i64 5, .int .i64 5] 64) := ⟨_, rfl⟩
      rw [← hw4]
      have hown : w4.ownsRow w3.heap.size 64 4 (.slice (some ⟨w3.heap.size, 0, none⟩) 2 2) 2 (threeNums.map (Value.int .i64)) := by rw [hw4]; exact three_own w3
      have hb4 : Below w3.heap.size w3 w4 := by rw [hw4]; exact (Below.refl _ _).alloc (Nat.le_refl _) _
      have hs4 := hb4.size
      clear hw4
      go_wp2_with (at_builtin; refine wpList_append_own _ rfl _ _ 23 rfl w3.heap.size 64 iB _ 4 32 Try.underlying23 hB0 hB1 hB2 hB3 rfl (by decide) _ _ _ rfl (hown.alloc _) ⟨w4.heap.size, 0, none⟩ 1 1 [.int .i64 0, .int .i64 2, .int .i64 0, .int .i64 40] rfl rfl ?c1 ?c2 ?c3 ?c4 ?c5 ?_)
      case c1 => exact World.news_of_block (cs := #[.int .i64 0, .int .i64 2, .int .i64 0, .int .i64 40]) (t := 64) (fr := (0, 0)) (heap_alloc_new w4 _)
      case c2 => simp [Value.oneCell']
      case c3 => unfold maxLen; omega
      case c4 => omega
      case c5 => simp; omega
      · intro v' w5 hown' hgrow _
        have R : w5.ownsRow w3.heap.size 64 4 v' 3 (numsB.map (Value.int .i64)) := hown'
        obtain ⟨A5, cap5, rfl, hF5⟩ := own_flat R
        have hb5 := hb3.trans (((hb4.alloc hs4 (.cells #[.int .i64 0, .int .i64 2, .int .i64 0, .int .i64 40] 64)).grown hgrow (by simp; omega) (fun q hq => (hown.lt q hq).1)).mono hs3)
        have hs5 := hb5.size
        clear R hown' hgrow hown hb4 hs4 hb3 hs3
        go_wp2_with fail
        refine Calls.mono (implied_ok _ 2 0 _ numsB 3 _ hF5 listB_ok) ?_
        rintro e w6 ⟨hb, ⟨hf, rfl⟩ | ⟨hbad, -⟩⟩
        · have e1 : decide ((bdAt numsB 2).lo ≤ -fin 3 (bds (strike numsB 2) (2 + 0)) (bdAt numsB 2).b.toNat (bdAt numsB 2).a.toNat ∧ fin 3 (bds (strike numsB 2) (2 + 0)) (bdAt numsB 2).a.toNat (bdAt numsB 2).b.toNat ≤ (bdAt numsB 2).hi) = true := by
            have t1 := three_fin.1
            have t2 := three_fin.2.1
            have e1 : bds (strike numsB 2) (2 + 0) = threeL := rfl
            have e2 : bdAt numsB 2 = ⟨0, 2, 0, 40⟩ := rfl
            rw [e1, e2]
            simp only [show Int.toNat 0 = 0 from rfl, show Int.toNat 2 = 2 from rfl, t1, t2]
            decide
          rw [e1]
          have hb6 := hb5.trans (hb.mono hs5)
          clear hb hb5 hs5 hF5 hf e1
          go_wp2_with fail
          go_returns
          exact ⟨rfl, by repeat' (first | (with_reducible refine below_drewN ?_ _) | go_grown)⟩
        · exact absurd three_sat.1 hbad
    · obtain rfl : N = 3 := by omega
      exact absurd hbad listA_bad
    · exact absurd HZA.out hbad

end Go.Proofs.Ytmeppcoekmoofaa
