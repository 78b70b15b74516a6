/- What known hands back is right: plain. -/
import Derived.Test.YtplmgbffaeohpaaBhP
import Derived.Test.YtplmgbffaeohpaaBhR
import Derived.Test.YtplmgbffaeohpaaBhL
set_option linter.unusedSimpArgs false
set_option linter.unusedVariables false
namespace Go.Proofs.Ytplmgbffaeohpaa
open Go.Conc Go.Crew Go.Beh Go.RowKit

section
variable {n1 n m : Nat} {ti elo ehi p q : Nat → Int}
theorem kn_times (i : Nat) : timesE (kLo n1 ti elo i) (kHi n1 ti ehi i) = 0 ∧ kLo n1 ti elo i ≤ tauK ti i ∧ tauK ti i ≤ kHi n1 ti ehi i := by
  have h1 := tmod_bd (ti i)
  have h2 := atN_bd (k := elo i) (n := 50) (by omega)
  have h3 := atN_bd (k := ehi i) (n := 50) (by omega)
  have key : -100000000000000000 ≤ kLo n1 ti elo i ∧ kHi n1 ti ehi i ≤ 100000000000000000 ∧ kLo n1 ti elo i ≤ tauK ti i ∧ tauK ti i ≤ kHi n1 ti ehi i := by
    unfold kLo kHi tauK
    split <;> omega
  exact ⟨timesE_of key.1 key.2.1 (by omega), key.2.2⟩
theorem kn_link (j : Nat) (hn : 2 ≤ n) : linkE n (kA p n j) (kB p q n j) (kDl ti p q n j) (kDh ti p q n j) = 0 := by
  obtain ⟨a1, a2, a3, a4, a5, -, -⟩ := kAB (p := p) (q := q) (n := n) (j := j) hn
  have h2 := atN_bd (k := IntKind.i64.wrap ((p j).tdiv 7)) (n := 20) (by omega)
  have h3 := atN_bd (k := IntKind.i64.wrap ((q j).tdiv 7)) (n := 20) (by omega)
  have b1 := tmod_bd (ti (kB p q n j).toNat)
  have b2 := tmod_bd (ti (kA p n j).toNat)
  have hd : -2000 < kD ti p q n j ∧ kD ti p q n j < 2000 := by unfold kD tauK; omega
  exact linkE_of ⟨a1, a2, a3, a4, a5⟩ (timesE_of (by unfold kDl; omega) (by unfold kDh; omega) (by unfold kDl kDh; omega))
theorem kn_feas (hm : 0 < m → 2 ≤ n) : Feas (netOf n m (kLo n1 ti elo) (kHi n1 ti ehi) (kA p n) (kB p q n) (kDl ti p q n) (kDh ti p q n)) (tauK ti) := by
  refine ⟨fun i _ => (kn_times i).2, fun j hj => ?_⟩
  have h2 := atN_bd (k := IntKind.i64.wrap ((p j).tdiv 7)) (n := 20) (by omega)
  have h3 := atN_bd (k := IntKind.i64.wrap ((q j).tdiv 7)) (n := 20) (by omega)
  show kDl ti p q n j ≤ kD ti p q n j ∧ kD ti p q n j ≤ kDh ti p q n j
  unfold kDl kDh
  omega
theorem itN_net {n m : Nat} {lo hi ka kb dl dh : Nat → Int} : ∀ t, itN (netOf n m lo hi ka kb dl dh) t = netOf n m (itN (netOf n m lo hi ka kb dl dh) t).lo (itN (netOf n m lo hi ka kb dl dh) t).hi ka kb dl dh
  | 0 => rfl
  | t + 1 => by
    have h := itN_net (n := n) (m := m) (lo := lo) (hi := hi) (ka := ka) (kb := kb) (dl := dl) (dh := dh) t
    show (itN (netOf n m lo hi ka kb dl dh) t).next = netOf n m (itN (netOf n m lo hi ka kb dl dh) t).next.lo (itN (netOf n m lo hi ka kb dl dh) t).next.hi ka kb dl dh
    rw [h]
    rfl

/-- What Tight finds of it. -/
theorem kn_tight {W : Nat} (hn : n ≤ 8) (hm : m ≤ 20) (hm2 : 0 < m → 2 ≤ n) (hW : 1 ≤ W ∧ W ≤ 8) {x y : Go.Beh.M} {v : Value} (h : TightQ n m (kLo n1 ti elo) (kHi n1 ti ehi) (kA p n) (kB p q n) (kDl ti p q n) (kDh ti p q n) W x v y) :
    ∃ (A : Option Addr) (cap : Nat) (lo' hi' : Nat → Int), v = .tuple #[.slice A n cap, .int .i64 0] ∧ SpanSl y A n lo' hi' ∧ Ext x y ∧ (∀ i, i < n → kLo n1 ti elo i ≤ lo' i ∧ lo' i ≤ tauK ti i ∧ tauK ti i ≤ hi' i ∧ hi' i ≤ kHi n1 ti ehi i) ∧
      (netOf n m lo' hi' (kA p n) (kB p q n) (kDl ti p q n) (kDh ti p q n)).Fine ∧ ∀ i, i < n → nlo (netOf n m lo' hi' (kA p n) (kB p q n) (kDl ti p q n) (kDh ti p q n)) i = lo' i ∧ nhi (netOf n m lo' hi' (kA p n) (kB p q n) (kDl ti p q n) (kDh ti p q n)) i = hi' i := by
  obtain ⟨e, hc, e1, h⟩ := h
  obtain rfl : e = 0 := hc.of (by omega) (by omega) (fun i hi => (kn_times i).1) (fun j hj => kn_link j (hm2 (by omega))) (by omega)
  rcases h with ⟨h, _⟩ | ⟨_, h⟩
  · exact absurd rfl h
  obtain ⟨hF, -, -, -⟩ := hc.zero
  obtain ⟨t, ht, hs⟩ := tight_rests hF (kn_feas hm2)
  obtain ⟨g1, g2⟩ := itN_feas hF (kn_feas hm2) t
  have hin := fun i => itN_in (netOf n m (kLo n1 ti elo) (kHi n1 ti ehi) (kA p n) (kB p q n) (kDl ti p q n) (kDh ti p q n)) i t
  have hnet := itN_net (n := n) (m := m) (lo := kLo n1 ti elo) (hi := kHi n1 ti ehi) (ka := kA p n) (kb := kB p q n) (dl := kDl ti p q n) (dh := kDh ti p q n) t
  have hsame := itN_same (netOf n m (kLo n1 ti elo) (kHi n1 ti ehi) (kA p n) (kB p q n) (kDl ti p q n) (kDh ti p q n)) t
  unfold TightP at h
  rw [ht] at h
  obtain ⟨A, cap, hv, hsp⟩ := h
  have hss := (Net.same_iff _ _).1 hs
  have hn' : (itN (netOf n m (kLo n1 ti elo) (kHi n1 ti ehi) (kA p n) (kB p q n) (kDl ti p q n) (kDh ti p q n)) t).n = n := hsame.1
  refine ⟨A, cap, _, _, hv, hsp, e1, fun i hi => ?_, by rw [← hnet]; exact g2, fun i hi => ?_⟩
  · have := g1.i i (by rw [hn']; exact hi)
    exact ⟨(hin i).1, this.1, this.2, (hin i).2⟩
  · rw [← hnet]
    have := hss i (by rw [hn']; exact hi)
    exact ⟨this.1.symm, this.2.symm⟩
end
end Go.Proofs.Ytplmgbffaeohpaa
