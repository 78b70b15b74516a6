/- ContradictLoose, the walk: constraints that days satisfy do not contradict each other. -/
import Derived.Test.YtmeppcoekmoofaaEvAny
import Derived.Test.YtmeppcoekmoofaaContraWorks
namespace Go.Proofs.Ytmeppcoekmoofaa
open Go.RowKit
set_option linter.unusedSimpArgs false
set_option linter.unusedVariables false

set_option maxRecDepth 100000 in
set_option maxHeartbeats 8000000 in
theorem contradictLoose_walk (Ad : Option Addr) (nd capd : Nat) (zd : List Int) (Al : Option Addr) (ml capl : Nat) (zl : List Int) (w : World) (hd : FlatSl w 1 Ad nd capd zd) (hl : FlatSl w 4 Al ml capl zl) :
    Calls Try.prog 9 #[.slice Ad nd capd, .slice Al ml capl] w fun e w' => e = .returned (.bool true) ∧ Below w.heap.size w w' := by
  have HD := Lib.hid hd; have HL := Lib.hid hl
  obtain ⟨q20, hh⟩ := evQ_facts nd ml
  clear hd hl
  go_enter Try.func9, Try.ntmps9
  go_wp2_with fail
  refine Calls.mono (contradictWorks_ok _) ?_
  rintro e w1 ⟨rfl, hb⟩
  obtain ⟨hb1, hz1, hc1, hf1⟩ := took (w := w) (by repeat' (first | (with_reducible refine below_drewN ?_ _) | go_grown)) (by first | (simp only [World.size_alloc, World.size_setCell, World.size_drew, size_drewN]; done) | (simp only [World.size_alloc, World.size_setCell, World.size_drew, size_drewN]; rfl) | rfl) hb; clear hb
  have hs1 := hb1.size
  clear hc1 hf1
  go_wp2_with fail
  refine Calls.mono (events_any _ _ _ _ _ _ _ _ _ (HD.out.keepC (by omega) hb1) (HL.out.keepC (by omega) hb1)) ?_
  rintro e w2 ⟨v, rfl, hown, hb⟩
  obtain ⟨A2, cap2, rfl, hF2⟩ := own_flat hown
  obtain ⟨n, hn⟩ : ∃ n, n = min nd 8 := ⟨_, rfl⟩
  obtain ⟨q, hq⟩ : ∃ q, q = evQ nd ml := ⟨_, rfl⟩
  rw [← hn, ← hq] at hF2
  rw [← hq] at q20
  rw [← hn, ← hq] at hh
  rw [← hn, ← hq]
  have n8 : n ≤ 8 := by omega
  have hb2 := hb1.trans (hb.mono hs1)
  have hs2 := hb2.size
  have hfr := (evA_free zd zl hh).1
  have HFR := Lib.hid hfr
  have HH := Lib.hid hh
  clear hown hb hn hq hb1 hs1 hh hfr
  go_wp2_with fail
  refine Calls.mono (least_any _ _ _ _ (n : Nat) _ hF2) ?_
  rintro e w3 ⟨hb, ⟨N, hN, -, hbad, -⟩ | ⟨N, hN, -, hf, rfl⟩ | ⟨hbad, rfl⟩⟩
  · obtain rfl : N = n := by omega
    exact absurd HFR.out hbad
  · have hb3 := hb2.trans (hb.mono hs2)
    clear hb hb2 hf hN
    by_cases n0 : n = 0
    · subst n0
      go_wp2_with fail
      go_returns
      exact ⟨rfl, hb3⟩
    · have e0 : ((n : Int) == 0) = false := by simp; omega
      go_wp2_with fail
      go_returns
      exact ⟨rfl, by repeat' (first | (with_reducible refine below_drewN ?_ _) | go_grown)⟩
  · by_cases n0 : n = 0
    · subst n0
      have hb3 := hb2.trans (hb.mono hs2)
      clear hb hb2
      obtain ⟨r, hr⟩ : ∃ r, r = chronChk ((0 : Nat) : Int) (bds (evNums zd zl 0 q) q) := ⟨_, rfl⟩
      rw [← hr]
      go_wp2_with fail
      go_returns
      exact ⟨rfl, hb3⟩
    · exact absurd (chronChk_zero.2 (evA_ok zd zl (by omega) n8 q20 HH.out)) hbad

end Go.Proofs.Ytmeppcoekmoofaa
