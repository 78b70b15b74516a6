/- StarmapRound: all stars of a map lie in a circle of radius 1. -/
import Derived.Test.YtcopmgnfakjdhaaDoorStarmapW
import Derived.Deep.RegionHeld3
namespace Go.Proofs.YtcopmgnfakjdhaaDoor
open Go.RowKit
set_option linter.unusedSimpArgs false
set_option linter.unusedVariables false
section
variable {P : Program} {w : World}
theorem run_max_max3 (ts : Array TypeId) (t : TypeId) (k k' k'' : IntKind) (x y z : Int) : (Builtin.max_ ts t #[.int k x, .int k' y, .int k'' z]).run P w = .ok (.int k (max (max x y) z)) w := by
  have e : ∀ x y : Int, (if x < y then y else x) = max x y := by
    intro x y
    rw [Int.max_def]; split <;> split <;> omega
  simp [Builtin.max_, Builtin.max2, e]
end
attribute [go_sem high] run_max_max3
set_option maxRecDepth 100000 in
set_option maxHeartbeats 16000000 in
theorem starmapRound_walk (p1 p2 t : Int) (w : World) (hT : SinT w) (hS : StarT w) : Calls Tryd.prog 6 #[.agg #[.int .i64 p1, .int .i64 p2], .int .i64 t] w fun e w' => e = .returned (.bool true) ∧ Below w.heap.size w w' := by
  have HW := Lib.hid (fun W (hT : SinT W) (hS : StarT W) => starmapWorks_ok W hT hS)
  have SI := Lib.hid (fun w => site_ok p1 p2 w)
  have I := Lib.hid (fun w => instant_ok t w)
  have k1 := instant_in t
  have pl := site_pl p1 p2
  generalize t % 604800000000000 - 302400000000000 = x at *
  generalize p1.tmod 500000001 = lon at *
  generalize p2.tmod 220000001 = lat at *
  have M := Lib.hid (fun W (hT : SinT W) (hS : StarT W) => Map_ok lon lat x pl k1 W hT hS)
  have N8 := dotN_le lon lat x 8
  have DC := Lib.hid (fun (W : World) (g j : Nat) hc (hj : j < dotN lon lat x 8) => dot_cells (w := W) (lon := lon) (lat := lat) (t := x) (g := g) (j := j) hc hj)
  have HT := Lib.hid hT
  have HS := Lib.hid hS
  clear hT hS k1 pl
  have P1 := PlBox.new w p1 p2
  have HB0 := (Below.refl w.heap.size w).alloc (Nat.le_refl _) (.cells #[.int .i64 p1, .int .i64 p2] 35)
  obtain ⟨k0, hk0⟩ : ∃ x, x = w.heap.size := ⟨_, rfl⟩
  rw [← hk0] at P1
  have HB := Lib.hid (Below.refl w.heap.size w)
  clear HB
  go_enter Tryd.func6, Tryd.ntmps6
  go_upto_region 1 with fail
  rw [← hk0]
  obtain ⟨X0, hX0⟩ : ∃ X, X = w.alloc (.cells #[.int .i64 p1, .int .i64 p2] 35) := ⟨_, rfl⟩
  rw [← hX0] at P1 HB0 ⊢
  have HB := Lib.hid HB0
  have s1 := Lib.hid P1
  clear hX0 P1 HB0 hk0
  go_wp2_with fail
  refine Calls.mono (HW.out _ (HT.out.below HB.out) (HS.out.below HB.out)) ?_
  rintro e wc1 ⟨rfl, hb⟩
  replace s1 := Lib.hid (s1.out.below hb)
  replace HB := Lib.hid (HB.out.trans (hb.mono HB.out.size))
  clear hb
  have p0 := s1.out.c0; have p1' := s1.out.c1; have pz := s1.out.lt
  go_wp2_with fail
  refine Calls.mono (SI.out _) ?_
  rintro e wc2 ⟨rfl, hb⟩
  replace s1 := Lib.hid (s1.out.below hb)
  replace HB := Lib.hid (HB.out.trans (hb.mono HB.out.size))
  clear hb
  clear p0 p1' pz
  go_wp2_with fail
  refine Calls.mono (I.out _) ?_
  rintro e wq ⟨rfl, rfl⟩
  go_wp2_with fail
  refine Calls.mono (M.out _ (HT.out.below HB.out) (HS.out.below HB.out)) ?_
  rintro e wM ⟨v, B, rfl, -, own, hb⟩
  replace HB := Lib.hid (HB.out.trans (hb.mono HB.out.size))
  obtain ⟨A, cap, rfl, ho⟩ := own_dots own
  have HO := Lib.hid ho
  clear own hb ho s1 M SI I HW
  obtain ⟨n, hn⟩ : ∃ n, n = dotN lon lat x 8 := ⟨_, rfl⟩
  rw [← hn] at N8 HO ⊢
  have HNN := Lib.hid hn
  clear hn
  go_wp2_with fail
  go_loopw [23] (fun i wr => ∃ j : Nat, j ≤ n ∧ i = .int .i64 j ∧ Hid (Below wM.heap.size wM wr)) (fun i _ => n - (intOf i).toNat)
  case atStart => exact ⟨0, by omega, rfl, Lib.hid (Below.refl _ _)⟩
  case round =>
    obtain ⟨j, hj, rfl, HR⟩ := hrel
    by_cases c : j < n
    · obtain ⟨g, rfl, hg, hcap, hcm, cells⟩ := HO.out (by omega)
      have hc : ∀ p, p < dotN lon lat x 8 * 6 → wr.cell? ⟨g, p, none⟩ = (dots lon lat x 8)[p]? := fun p hp => (HR.out.cell (p := ⟨g, p, none⟩) hg).trans (cells p (by rw [HNN.out]; exact hp))
      obtain ⟨i, hi, -, -, d0, d1, d2, d3, d4, d5⟩ := DC.out wr g j hc (by rw [← HNN.out]; exact c)
      have sr := sm_round lon lat x i
      obtain ⟨-, ⟨x0, x1, x2⟩, y0, y1, y2⟩ := sm_tri lon lat x i
      generalize smXL lon lat x i = xl at *
      generalize smXH lon lat x i = xh at *
      generalize smYL lon lat x i = yl at *
      generalize smYH lon lat x i = yh at *
      generalize decide (0 < smHL lon lat x i) = su at *
      generalize stN i = nm at *
      have lt2 : (j : Int) < (n : Int) := by omega
      have lt3 : (0 : Int) ≤ (j : Int) := by omega
      clear cells hc
      go_wp2_with fail
      obtain ⟨b, hb⟩ : ∃ b, b = wr.heap.size := ⟨_, rfl⟩
      have e1 : (wr.alloc (.cells #[.string nm, .int .i64 xl, .int .i64 xh, .int .i64 yl, .int .i64 yh, .bool su] 46)).cell? ⟨b, 1, none⟩ = some (.int .i64 xl) := by rw [hb]; simp [go_sem]
      have e2' : (wr.alloc (.cells #[.string nm, .int .i64 xl, .int .i64 xh, .int .i64 yl, .int .i64 yh, .bool su] 46)).cell? ⟨b, 2, none⟩ = some (.int .i64 xh) := by rw [hb]; simp [go_sem]
      have e3 : (wr.alloc (.cells #[.string nm, .int .i64 xl, .int .i64 xh, .int .i64 yl, .int .i64 yh, .bool su] 46)).cell? ⟨b, 3, none⟩ = some (.int .i64 yl) := by rw [hb]; simp [go_sem]
      have e4 : (wr.alloc (.cells #[.string nm, .int .i64 xl, .int .i64 xh, .int .i64 yl, .int .i64 yh, .bool su] 46)).cell? ⟨b, 4, none⟩ = some (.int .i64 yh) := by rw [hb]; simp [go_sem]
      have el : b < (wr.alloc (.cells #[.string nm, .int .i64 xl, .int .i64 xh, .int .i64 yl, .int .i64 yh, .bool su] 46)).heap.size := by rw [hb]; simp
      have eb := HR.out.alloc HR.out.size (.cells #[.string nm, .int .i64 xl, .int .i64 xh, .int .i64 yl, .int .i64 yh, .bool su] 46)
      rw [← hb]
      obtain ⟨Y, hY⟩ : ∃ Y, Y = wr.alloc (.cells #[.string nm, .int .i64 xl, .int .i64 xh, .int .i64 yl, .int .i64 yh, .bool su] 46) := ⟨_, rfl⟩
      rw [← hY] at e1 e2' e3 e4 el eb ⊢
      have E1 := Lib.hid e1; have E2 := Lib.hid e2'; have E3 := Lib.hid e3; have E4 := Lib.hid e4; have EL := Lib.hid el; have EB := Lib.hid eb
      have n1 : IntKind.i64.wrap (-xh) = -xh := IntWalk.i64_in _ (by omega)
      have n2 : IntKind.i64.wrap (-yh) = -yh := IntWalk.i64_in _ (by omega)
      clear e1 e2' e3 e4 el eb hY hb d0 d1 d2 d3 d4 d5 x0 x1 x2 y0 y1 y2
      rw [show max (max 0 xl) (-xh) = max 0 (max xl (-xh)) by omega, show max (max 0 yl) (-yh) = max 0 (max yl (-yh)) by omega] at sr
      obtain ⟨X, hX⟩ : ∃ X, max 0 (max xl (-xh)) = X := ⟨_, rfl⟩
      obtain ⟨Z, hZ⟩ : ∃ X, max 0 (max yl (-yh)) = X := ⟨_, rfl⟩
      rw [hX, hZ] at sr
      have SR := Lib.hid sr
      clear sr
      go_cut [9, 10] (fun sa sb wx => sa = .int .i64 X ∧ sb = .int .i64 Z ∧ Hid (Below wM.heap.size wM wx))
      case first =>
        obtain ⟨Q, hQ⟩ : ∃ Q, Q = (Y).drew := ⟨_, rfl⟩
        have xQ0 : Q.cell? ⟨b, 1, none⟩ = some (.int .i64 xl) := by rw [hQ]; exact (E1.out)
        have xQ1 : Q.cell? ⟨b, 2, none⟩ = some (.int .i64 xh) := by rw [hQ]; exact (E2.out)
        have xQ2 : Q.cell? ⟨b, 3, none⟩ = some (.int .i64 yl) := by rw [hQ]; exact (E3.out)
        have xQ3 : Q.cell? ⟨b, 4, none⟩ = some (.int .i64 yh) := by rw [hQ]; exact (E4.out)
        have lQ0 : b < Q.heap.size := by rw [hQ]; exact (EL.out)
        have HxQ0 := Lib.hid xQ0
        have HxQ1 := Lib.hid xQ1
        have HxQ2 := Lib.hid xQ2
        have HxQ3 := Lib.hid xQ3
        have HlQ0 := Lib.hid lQ0
        have HhQ := Lib.hid hQ
        clear xQ0 xQ1 xQ2 xQ3 lQ0 hQ
        go_region_held3 (fun w' => w'.cell? ⟨b, 1, none⟩ = some (.int .i64 xl) ∧ w'.cell? ⟨b, 2, none⟩ = some (.int .i64 xh) ∧ w'.cell? ⟨b, 3, none⟩ = some (.int .i64 yl) ∧ w'.cell? ⟨b, 4, none⟩ = some (.int .i64 yh) ∧ Below Q.heap.size Q w')
          (((try dsimp only); repeat' apply And.intro) <;> (first | (with_reducible assumption) | (go_split_ands; (with_reducible assumption)) | (rw [← HhQ.out]; (first | exact Below.refl _ _ | exact HxQ0.out | exact HxQ1.out | exact HxQ2.out | exact HxQ3.out)) | go_keep))
          (fail)
        all_goals (go_wp2_with fail; go_meet; exact ⟨rfl, rfl, Lib.hid EB.out.drew⟩)
      case rest =>
        obtain ⟨rfl, rfl, HR2⟩ := hcut
        have sr := SR.out
        have x0 : 0 ≤ X * X := by
          rcases Int.le_total 0 X with h | h
          · exact Int.mul_nonneg h h
          · have := Int.mul_nonneg (show 0 ≤ -X by omega) (show 0 ≤ -X by omega); rw [Int.neg_mul_neg] at this; exact this
        have z0 : 0 ≤ Z * Z := by
          rcases Int.le_total 0 Z with h | h
          · exact Int.mul_nonneg h h
          · have := Int.mul_nonneg (show 0 ≤ -Z by omega) (show 0 ≤ -Z by omega); rw [Int.neg_mul_neg] at this; exact this
        have q1 : wrap64 (X * X) = X * X := IntWalk.wrap64_in _ (by omega)
        have q2 : wrap64 (Z * Z) = Z * Z := IntWalk.wrap64_in _ (by omega)
        have q3 : wrap64 (X * X + Z * Z) = X * X + Z * Z := IntWalk.wrap64_in _ (by omega)
        clear SR x0 z0 hX hZ n1 n2 E1 E2 E3 E4 EL EB HR
        go_wp2_with fail
        go_roundw
        case rel => exact ⟨j + 1, by omega, by go_num, HR2⟩
        case measure => simp [intOf]; omega
    · obtain rfl : j = n := by omega
      have n8 : (j : Int) ≤ 8 := by omega
      clear HO DC
      go_wp2_with fail
      go_ret
      exact ⟨rfl, HB.out.trans (HR.out.mono HB.out.size)⟩
end Go.Proofs.YtcopmgnfakjdhaaDoor
