/- EclipseSeasons: within 24 lunations there is an eclipse (within eight, or none is sure). -/
import Derived.Test.YtlldmhnkaopjhaaDoorEcN
import Derived.Test.YtlldmhnkaopjhaaDoorEcJ
namespace Go.Proofs.YtlldmhnkaopjhaaDoor
open Go.RowKit
set_option linter.unusedSimpArgs false
set_option linter.unusedVariables false
theorem next_in {k n g : Int} (k0 : -99000 ≤ k) (k1 : k ≤ 99000) (h : NextP k 0 n g) : (g = 11 ∧ n = 0) ∨ (g = 0 ∧ k ≤ n ∧ n < k + 8) := by
  rcases h with ⟨j, j0, j1, hq, h⟩ | ⟨hq, -, -⟩
  · rcases h with ⟨a, b, -⟩ | ⟨a, b, -, -⟩
    · exact .inl ⟨a, b⟩
    · by_cases c : j < 8
      · exact .inr ⟨a, by omega, by omega⟩
      · exact (ec_seasons k0 k1 (fun i h0 h1 => hq i h0 (by omega))).elim
  · exact (ec_seasons k0 k1 (fun i h0 h1 => hq i h0 (by omega))).elim
set_option maxRecDepth 100000 in
set_option maxHeartbeats 16000000 in
theorem eclipseSeasons_walk (a0 : Int) (w : World) (hT : SinT w) : Calls Tryd.prog 8 #[.int .i64 a0] w fun e w' => e = .returned (.bool true) ∧ Below w.heap.size w w' := by
  have HW := Lib.hid (eclipseWorks_ok w hT)
  have HT := Lib.hid hT
  obtain ⟨k, hk⟩ : ∃ k, k = a0.tmod 90000 := ⟨_, rfl⟩
  obtain ⟨kb1, kb2⟩ := rem_bd a0
  rw [← hk] at kb1 kb2
  have ek2 : a0.tmod 90000 = k := hk.symm
  have ej : wrap64 (k + 8) = k + 8 := IntWalk.wrap64_in _ (by omega)
  have N := Lib.hid (fun W (hT : SinT W) => eNext_ok k 0 (by omega) (.inl rfl) W hT)
  have I := Lib.hid (fun n g (h : NextP k 0 n g) => next_in (n := n) (g := g) (by omega) (by omega) h)
  clear hk hT kb1 kb2
  generalize NextP k 0 = P at *
  go_enter Tryd.func8, Tryd.ntmps8
  have HB := Lib.hid (Below.refl w.heap.size w)
  go_wp2_with fail
  refine Calls.mono (HW.out) ?_
  rintro e wc1 ⟨rfl, hb⟩
  replace HB := Lib.hid (HB.out.trans (hb.mono HB.out.size))
  clear hb
  go_wp2_with fail
  refine Calls.mono (N.out _ (HT.out.below HB.out)) ?_
  rintro e wD ⟨n, g, rfl, hd, hb⟩
  have hi := I.out n g hd
  replace HB := Lib.hid (HB.out.trans (hb.mono HB.out.size))
  clear hb hd I N
  rcases hi with ⟨rfl, rfl⟩ | ⟨rfl, h1, h2⟩
  · go_wp2_with fail
    go_ret
    exact ⟨rfl, HB.out⟩
  · go_wp2_with fail
    go_ret
    exact ⟨rfl, HB.out⟩
end Go.Proofs.YtlldmhnkaopjhaaDoor
