/- spreadWorks: a network of three nodes; one notice spreads in two steps. -/
import Derived.Test.YtocdboopmfgkpaaDoorNew
import Derived.Test.YtocdboopmfgkpaaDoorPut
import Derived.Test.YtocdboopmfgkpaaDoorSettle
import Derived.Test.YtocdboopmfgkpaaDoorNoticeWorks
namespace Go.Proofs.YtocdboopmfgkpaaDoor
open Go.RowKit
set_option linter.unusedSimpArgs false
set_option linter.unusedVariables false

theorem below_then {B q : Nat} {w w1 w2 : World} (hb : Below B w w1) (hs : B ≤ w.heap.size) (hg : w1.grownBy w2 (some q)) (hq : B ≤ q) : Below B w w2 :=
  ⟨hg.os.trans hb.os, hg.tape.trans hb.tape, hg.output.trans hb.output, by have := hg.size; have := hb.size; omega, fun k hk => (hg.block k (by have := hb.size; omega) (fun e => by have := Option.some.inj e; omega)).trans (hb.block k hk)⟩

/-- The network of spreadWorks. -/
def ex3 (j : Nat) : Nat := j
def ey3 (j : Nat) : Nat := j + 1
def D3 : NetD := ⟨⟨#[97]⟩, fun _ _ => 930818648, 1, 3, ix [1], fun i => (adjN ex3 ey3 i 2).length, fun i j => ((adjN ex3 ey3 i 2)[j]?).getD 0⟩
def H3 : Nat → Nat → Int := putH (fun _ _ => 0) 0 0 1
theorem fix3 : ∀ i, i < D3.n → ∀ a, a < D3.K → stepN D3 (iterN D3 H3 2) i a = iterN D3 H3 2 i a := by
  show ∀ i, i < 3 → ∀ a, a < 1 → _
  decide
theorem two3 (k : Nat) (hk : k ≤ 2) (h : ∀ i, i < D3.n → ∀ a, a < D3.K → stepN D3 (iterN D3 H3 k) i a = iterN D3 H3 k i a) : k = 2 := by
  have h' : ∀ i, i < 3 → stepN D3 (iterN D3 H3 k) i 0 = iterN D3 H3 k i 0 := fun i hi => h i hi 0 (by decide)
  match k, hk with
  | 0, _ => exact absurd (h' 1 (by omega)) (by decide)
  | 1, _ => exact absurd (h' 2 (by omega)) (by decide)
  | 2, _ => rfl
theorem held3 : iterN D3 H3 2 2 0 = 1 := by decide
theorem ok3 : NetOk D3 := ⟨by decide, by decide, by decide, by decide, by decide, by decide⟩
theorem nok3 : NewOk [1] 1 3 2 ex3 ey3 := ⟨by decide, by decide, by decide, by decide, by decide, by decide, by decide, by decide, by decide⟩
theorem sum3 : (930818648 : Int) = sumAll (D3.keys 0) (ntL 0 1 D3.T) := by decide +kernel

set_option maxRecDepth 100000 in
set_option maxHeartbeats 8000000 in
theorem spreadWorks_ok (w : World) (ht : Tab w) : Calls Tryd.prog 13 #[] w fun e w' => e = .returned (.bool true) ∧ Below w.heap.size w w' := by
  have HT := Lib.hid ht
  clear ht
  go_enter Tryd.func13, Tryd.ntmps13
  go_wp2_with fail
  obtain ⟨W, hW⟩ : ∃ W, W = (w.alloc (.cells #[.int .i64 1] 3)).alloc (.cells #[.int .i64 0, .int .i64 1, .int .i64 1, .int .i64 2] 39) := ⟨_, rfl⟩
  rw [← hW]
  have bW : Below w.heap.size w W := by rw [hW]; exact (by repeat' (first | (with_reducible refine below_drewN ?_ _) | go_grown))
  have hk : FlatSl W 1 (some ⟨w.heap.size, 0, none⟩) 1 1 [1] := ⟨by omega, by unfold maxLen; omega, rfl, fun _ => ⟨_, _, rfl, fun j hj => by
    match j, hj with
    | 0, _ => rw [hW]; simp [ix]⟩⟩
  have he : FlatSl W 2 (some ⟨w.heap.size + 1, 0, none⟩) 2 2 [0, 1, 1, 2] := ⟨by omega, by unfold maxLen; omega, rfl, fun _ => ⟨_, _, rfl, fun j hj => by
    match j, hj with
    | 0, _ => rw [hW]; simp [ix]
    | 1, _ => rw [hW]; simp [ix]
    | 2, _ => rw [hW]; simp [ix]
    | 3, _ => rw [hW]; simp [ix]⟩⟩
  have hE : ∀ j, j < 2 → ix [0, 1, 1, 2] (j * 2) = (ex3 j : Int) ∧ ix [0, 1, 1, 2] (j * 2 + 1) = (ey3 j : Int) := by decide
  have sW := bW.size
  have HBW := Lib.hid bW
  clear hW bW
  refine Calls.mono (new_ok w.heap.size 0 1 1 [1] 3 (some ⟨w.heap.size + 1, 0, none⟩) 2 2 [0, 1, 1, 2] ex3 ey3 W hk he hE nok3 ⟨#[97]⟩ (fun _ _ => 930818648) (by decide)) ?_
  rintro e w1 ⟨L, rfl, hN, hb⟩
  have B1 := Lib.hid (HBW.out.trans (hb.mono sW))
  have HN1 := Lib.hid (show NetW D3 L W.heap.size w1 (fun _ _ => 0) from hN)
  have s1 := hb.size
  clear hN hb hk he hE
  go_wp2_with fail
  have oh := HN1.out.oh 0 (by decide)
  refine Calls.mono (put_right D3 L W.heap.size (fun _ _ => 0) 0 0 1 930818648 w1 (HT.out.below B1.out) HN1.out (by decide) (by decide) (by decide) (by decide) ⟨by decide, by decide, by decide, by decide, by decide, by decide, by decide, by decide⟩ sum3 rfl (by decide)) ?_
  rintro e w2 ⟨rfl, hN, hg⟩
  have B2 := Lib.hid (below_then B1.out (Nat.le_refl _) hg (by omega))
  have HN2 := Lib.hid (show NetW D3 L W.heap.size w2 H3 from hN)
  have s2 := hg.size
  clear hN hg oh
  go_wp2_with fail
  have ob := HN2.out.ob
  refine Calls.mono (settle_ok D3 L W.heap.size H3 2 w2 ok3 HN2.out (by omega) (by omega) fix3) ?_
  rintro e w3 ⟨L3, k, hk, rfl, hf, hN, hg, hLb, _, _, _, _, _⟩
  obtain rfl := two3 k hk hf
  have B3 := Lib.hid (below_then B2.out (Nat.le_refl _) hg (by omega))
  have HN3 := Lib.hid hN
  have HLB := Lib.hid hLb
  have s3 := hg.size
  clear hN hg ob hf hk hLb
  go_wp2_with fail
  have hh := held_ok HN3.out 2 0 (by decide) (by decide)
  rw [HLB.out, held3] at hh
  refine Calls.mono hh ?_
  rintro e w4 ⟨rfl, hb⟩
  have B4 := Lib.hid (B3.out.trans (hb.mono B3.out.size))
  have s4 := hb.size
  have ev : heldV D3 0 1 = .tuple #[.agg #[.int .i64 0, .int .i64 1, .string ⟨#[97]⟩, .int .i64 930818648], .int .i64 0] := rfl
  rw [ev]
  clear hb hh ev
  go_wp2_with fail
  go_ret
  exact ⟨rfl, B4.out.alloc (by have := B4.out.size; omega) _⟩
end Go.Proofs.YtocdboopmfgkpaaDoor
