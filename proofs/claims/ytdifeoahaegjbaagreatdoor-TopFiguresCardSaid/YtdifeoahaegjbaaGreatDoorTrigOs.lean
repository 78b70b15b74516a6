/- Merged by wip/tools/pack.py out of XTrigO, XTrigO2, XTms. -/
import Derived.Test.YtdifeoahaegjbaaGreatDoorTrigA
import Derived.Test.YtdifeoahaegjbaaGreatDoorIval
import Derived.Test.YtdifeoahaegjbaaGreatDoorBasic
import Derived.Deep.RegionHeld3
import Derived.Test.YtdifeoahaegjbaaGreatDoorReg
import Derived.Deep.QuietTactic
import Derived.BigQuiet
/- trig.contains, SinOver, CosOver, Times, Plus, Minus. -/
namespace Go.Proofs.YtdifeoahaegjbaaGreatDoor
open Go.RowKit
set_option linter.unusedSimpArgs false
section
set_option linter.unusedVariables false
theorem wpG_marks {P : Program} {ops : Array Oper} {Q C} {fuel : Nat} {l l' : Array Bool} {a : Act} {w : World} (h : l = l') (k : wpG P ops Q C fuel l' a w) : wpG P ops Q C fuel l a w := h ▸ k
/-- A state of a region that several orders lead to: shown once. -/
theorem mergeW {G : Prop} {S H : World → Prop} (main : (∀ W, S W → H W) → G) (proof : ∀ W, S W → H W) : G := main proof
theorem mergeWN {G : Prop} {S H : World → Nat → Prop} (main : (∀ W b, S W b → H W b) → G) (proof : ∀ W b, S W b → H W b) : G := main proof
theorem mergeWNN {G : Prop} {S H : World → Nat → Nat → Prop} (main : (∀ W b c, S W b c → H W b c) → G) (proof : ∀ W b c, S W b c → H W b c) : G := main proof
end
set_option linter.unusedVariables false
/-- Whether a span of angles contains an angle, up to whole turns. -/
def conB (a b t : Int) : Prop := 1000000000 ≤ b - a ∨ (t - a) % 1000000000 ≤ b - a
instance (a b t : Int) : Decidable (conB a b t) := by unfold conB; exact inferInstance
theorem SpBox.set0 {w : World} {b : Nat} {x y : Int} (h : SpBox w b x y) (v : Int) : SpBox (w.setCell ⟨b, 0, none⟩ (.int .i64 v)) b v y :=
  (World.rowIs.set h 0 (.int .i64 v)).congr (fun i hi => by
    match i, hi with
    | 0, _ => rfl
    | 1, _ => rfl)
theorem all_three {p : Nat → Prop} {a b c : Nat} (h : p a) (g : p b) (f : p c) : ∀ i, i ∈ [a, b, c] → p i := fun i hi => by
  rcases (by simpa using hi : i = a ∨ i = b ∨ i = c) with rfl | rfl | rfl
  · exact h
  · exact g
  · exact f
/-- The span of the sines over a span of angles. -/
def soLo (a b : Int) : Int := if conB a b 750000000 then -1000000000 else min (sLo a) (sLo b)
def soHi (a b : Int) : Int := if conB a b 250000000 then 1000000000 else max (sHi a) (sHi b)
end Go.Proofs.YtdifeoahaegjbaaGreatDoor
/- trig.CosOver, Times, Plus, Minus; place.clip. -/
namespace Go.Proofs.YtdifeoahaegjbaaGreatDoor
open Go.RowKit
set_option linter.unusedSimpArgs false
set_option linter.unusedVariables false
/-- The span of the cosines over a span of angles. -/
def coLo (a b : Int) : Int := soLo (a % 1000000000 + 250000000) (a % 1000000000 + 250000000 + min (b - a) 2000000000)
def coHi (a b : Int) : Int := soHi (a % 1000000000 + 250000000) (a % 1000000000 + 250000000 + min (b - a) 2000000000)
/-- Bounds for a product in the unit 1 / Turn. -/
structure TmsOk (a b c d : Int) : Prop where
  ab : a ≤ b
  cd : c ≤ d
  la : -1000000000 ≤ a
  lb : b ≤ 1000000000
  lc : -1000000000 ≤ c
  ld : d ≤ 1000000000
theorem TmsOk.mul {a b c d : Int} (h : TmsOk a b c d) : MulOk a b c d := mulOk_of h.la h.ab h.lb h.lc h.cd h.ld (by omega)
def tmLo (a b c d : Int) : Int := pLo a b c d 1000000000
def tmHi (a b c d : Int) : Int := pHi a b c d 1000000000
set_option maxHeartbeats 1000000 in
theorem tMinus_ok (a b c d : Int) (w : World) (h1 : -4000000000000000000 ≤ a - d ∧ a - d ≤ 4000000000000000000) (h2 : -4000000000000000000 ≤ b - c ∧ b - c ≤ 4000000000000000000) :
    Calls Tryz.prog 96 #[.agg #[.int .i64 a, .int .i64 b], .agg #[.int .i64 c, .int .i64 d]] w fun e w' => e = .returned (.agg #[.int .i64 (a - d), .int .i64 (b - c)]) ∧ Below w.heap.size w w' := by
  have e1 : wrap64 (a - d) = a - d := IntWalk.wrap64_in _ (by omega)
  have e2 : wrap64 (b - c) = b - c := IntWalk.wrap64_in _ (by omega)
  clear h1 h2
  go_enter Tryz.func96, Tryz.ntmps96
  go_wp2_with fail
  refine bodyPost_ret (v := .agg #[.int .i64 (a - d), .int .i64 (b - c)]) ?_ rfl ⟨rfl, (by repeat' (first | (with_reducible refine below_drewN ?_ _) | go_grown))⟩
  simp [results, Tryz.results96, go_sem, *]
end Go.Proofs.YtdifeoahaegjbaaGreatDoor
/- Spans of sines, cosines and their products: bounds. Plain. -/
namespace Go.Proofs.YtdifeoahaegjbaaGreatDoor
set_option linter.unusedSimpArgs false
set_option linter.unusedVariables false
theorem s_tms (a : Int) : -1000000000 ≤ sLo a ∧ sLo a ≤ sHi a ∧ sHi a ≤ 1000000000 := by
  have h := sine_in a; exact ⟨h.bl, h.le, h.bh⟩
theorem c_tms (a : Int) : -1000000000 ≤ cLo a ∧ cLo a ≤ cHi a ∧ cHi a ≤ 1000000000 := by unfold cLo cHi; exact s_tms _
theorem so_tms (a b : Int) : -1000000000 ≤ soLo a b ∧ soLo a b ≤ soHi a b ∧ soHi a b ≤ 1000000000 := by
  have h := s_tms a; have g := s_tms b
  unfold soLo soHi
  split <;> split <;> omega
theorem co_tms (a b : Int) : -1000000000 ≤ coLo a b ∧ coLo a b ≤ coHi a b ∧ coHi a b ≤ 1000000000 := by unfold coLo coHi; exact so_tms _ _
theorem tms_of {a b c d : Int} (h : -1000000000 ≤ a ∧ a ≤ b ∧ b ≤ 1000000000) (g : -1000000000 ≤ c ∧ c ≤ d ∧ d ≤ 1000000000) : TmsOk a b c d := ⟨h.2.1, g.2.1, h.1, h.2.2, g.1, g.2.2⟩
theorem div_bd9 {x : Int} (h1 : -1000000000000000000 ≤ x) (h2 : x ≤ 1000000000000000000) : -1000000000 ≤ x / 1000000000 ∧ x / 1000000000 ≤ upQ x 1000000000 ∧ upQ x 1000000000 ≤ 1000000000 := by unfold upQ; omega
theorem tm_tms {a b c d : Int} (h : TmsOk a b c d) : -1000000000 ≤ tmLo a b c d ∧ tmLo a b c d ≤ tmHi a b c d ∧ tmHi a b c d ≤ 1000000000 := by
  obtain ⟨h1, h2, h3, h4, h5, h6⟩ := h
  have p0 := mul_bound h3 (show a ≤ 1000000000 by omega) h5 (show c ≤ 1000000000 by omega)
  have p1 := mul_bound h3 (show a ≤ 1000000000 by omega) (show -1000000000 ≤ d by omega) h6
  have p2 := mul_bound (show -1000000000 ≤ b by omega) h4 h5 (show c ≤ 1000000000 by omega)
  have p3 := mul_bound (show -1000000000 ≤ b by omega) h4 (show -1000000000 ≤ d by omega) h6
  have q0 := div_bd9 (x := a * c) (by omega) (by omega)
  have q1 := div_bd9 (x := a * d) (by omega) (by omega)
  have q2 := div_bd9 (x := b * c) (by omega) (by omega)
  have q3 := div_bd9 (x := b * d) (by omega) (by omega)
  unfold tmLo tmHi pLo pHi
  generalize a * c / 1000000000 = x0 at *
  generalize a * d / 1000000000 = x1 at *
  generalize b * c / 1000000000 = x2 at *
  generalize b * d / 1000000000 = x3 at *
  generalize upQ (a * c) 1000000000 = y0 at *
  generalize upQ (a * d) 1000000000 = y1 at *
  generalize upQ (b * c) 1000000000 = y2 at *
  generalize upQ (b * d) 1000000000 = y3 at *
  omega
end Go.Proofs.YtdifeoahaegjbaaGreatDoor
