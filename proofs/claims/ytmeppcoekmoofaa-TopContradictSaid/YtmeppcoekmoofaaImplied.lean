/- The contract of contradict.Implied. -/
import Derived.Test.YtmeppcoekmoofaaContra
import Derived.Deep.RegionHeld3
import Derived.StillTailTactics
namespace Go.Proofs.Ytmeppcoekmoofaa
open Go.RowKit
set_option linter.unusedSimpArgs false
set_option linter.unusedVariables false

def ImpliedPost (N : Nat) (l : List Bd) (c : Bd) (w : World) (e : Ending) (w' : World) : Prop :=
  Below w.heap.size w w' ∧ ((Free N l ∧ e = .returned (.tuple #[.bool (decide (c.lo ≤ -fin N l c.b.toNat c.a.toNat ∧ fin N l c.a.toNat c.b.toNat ≤ c.hi)), .int .i64 0])) ∨ (¬ Free N l ∧ e = .returned (.tuple #[.bool false, .int .i64 10])))

theorem bds_mem (zs : List Int) (m k : Nat) (h : k < m) : bdAt zs k ∈ bds zs m := List.mem_map.2 ⟨k, List.mem_range.2 h, rfl⟩

set_option maxRecDepth 100000 in
set_option maxHeartbeats 8000000 in
theorem implied_ok (A : Option Addr) (k r cap : Nat) (zs : List Int) (N : Nat) (w : World) (h : FlatSl w 4 A (k + 1 + r) cap zs) (hC : ChronOk N (bds zs (k + 1 + r))) :
    Calls Try.prog 32 #[.int .i64 N, .slice A (k + 1 + r) cap, .int .i64 k] w (ImpliedPost N (bds (strike zs k) (k + r)) (bdAt zs k) w) := by
  have hfew := hC.few
  rw [bds_len] at hfew
  have hn1 := hC.n1
  have hn12 := hC.n12
  have hokE : ChronOk N (bds (strike zs k) (k + r)) := ⟨hC.n1, hC.n12, by rw [bds_len]; omega, fun c hc => hC.each c (by
    rw [bds_strike zs k r h.len] at hc
    exact List.mem_of_mem_eraseIdx hc)⟩
  have hb := hC.each _ (bds_mem zs (k + 1 + r) k (by omega))
  obtain ⟨a, ha⟩ : ∃ a : Nat, ix zs (k * 4) = (a : Int) := ⟨(ix zs (k * 4)).toNat, by have := hb.a0; simp only [bdAt] at this; omega⟩
  obtain ⟨b, hbb⟩ : ∃ b : Nat, ix zs (k * 4 + 1) = (b : Int) := ⟨(ix zs (k * 4 + 1)).toNat, by have := hb.b0; simp only [bdAt] at this; omega⟩
  have haN : a < N := by have := hb.a1; simp only [bdAt] at this; omega
  have hbN : b < N := by have := hb.b1; simp only [bdAt] at this; omega
  obtain ⟨lo, hlo⟩ : ∃ lo, lo = ix zs (k * 4 + 2) := ⟨_, rfl⟩
  obtain ⟨hi, hhi⟩ : ∃ hi, hi = ix zs (k * 4 + 3) := ⟨_, rfl⟩
  have hbd : bdAt zs k = ⟨(a : Int), (b : Int), lo, hi⟩ := by unfold bdAt; rw [ha, hbb, hlo, hhi]
  rw [hbd]
  have HZ := Lib.hid (chronChk_zero.2 hC); have HZE := Lib.hid (chronChk_zero.2 hokE)
  obtain ⟨b0, o0, rfl, hcell⟩ := h.at' (by omega)
  have hcb := World.block_lt_of_cell? w _ (hcell 0 (by omega))
  simp at hcb
  have x0 := hcell (k * 4) (by omega)
  have x1 := hcell (k * 4 + 1) (by omega)
  have x2 := hcell (k * 4 + 2) (by omega)
  have x3 := hcell (k * 4 + 3) (by omega)
  rw [ha] at x0
  rw [hbb] at x1
  rw [← hlo] at x2
  rw [← hhi] at x3
  have hcap : ((k + 1 + r : Nat) : Int) ≤ cap := by have := h.le; omega
  have H := Lib.hid h; have X0 := Lib.hid x0; have X1 := Lib.hid x1; have X2 := Lib.hid x2; have X3 := Lib.hid x3
  obtain ⟨D, hD⟩ : ∃ D, D = fin N (bds (strike zs k) (k + r)) := ⟨_, rfl⟩
  have HD := Lib.hid hD
  have k0 : (0 : Int) ≤ (k : Int) := by omega
  have k1 : (k : Int) < ((k + 1 + r : Nat) : Int) := by omega
  have kd1 : decide ((k : Int) < 0) = false := by simp
  have kd2 : decide (((k + 1 + r : Nat) : Int) ≤ (k : Int)) = false := by simp; omega
  have kd3 : decide (k + 1 + r ≤ k) = false := by simp; omega
  clear h hC hokE hb ha hbb hlo hhi hbd hcell x0 x1 x2 x3 hD
  go_enter Try.func32, Try.ntmps32
  go_wp2_with fail
  refine Calls.mono (chronCheck_any _ _ _ _ _ _ H.out) ?_
  rintro e w1 ⟨rfl, hb1⟩
  rw [HZ.out]
  have hs1 := hb1.size
  have hF1 := H.out.keepC (by omega) hb1
  go_wp2_with fail
  refine Calls.mono (without_ok _ _ _ _ _ _ hF1 (by omega)) ?_
  rintro e w4 ⟨g, gc, rfl, hg, hownS, hb4⟩
  obtain ⟨AS, capS, hvS, hFS⟩ := own_flat hownS
  have hAS : AS = some ⟨g, 0, none⟩ ∧ capS = gc := by simp only [Value.slice.injEq, true_and] at hvS; exact ⟨hvS.1.symm, hvS.2.symm⟩
  obtain ⟨rfl, rfl⟩ := hAS
  have hb5 := hb1.trans (hb4.mono hs1)
  have hs5 := hb5.size
  clear hvS hownS hb4 hb1 hs1 hF1
  go_wp2_with fail
  refine Calls.mono (tightest_any _ _ _ _ (N : Nat) _ hFS) ?_
  rintro e w6 ⟨hb6, ⟨N', hN, -, hf, ob, oc, rb, rc, rfl, hcap2, hT⟩ | ⟨N', hN, -, hbad, rfl⟩ | ⟨hbad, -⟩⟩
  · obtain rfl : N' = N := by omega
    have hb7 := hb5.trans (hb6.mono hs5)
    have hT' : TMat w6 ob N' rb rc D := by rw [HD.out]; exact hT
    have y0 := hT'.out a haN
    obtain ⟨y1, y2⟩ := hT'.row a haN b hbN
    have y3 := hT'.lt
    have y4 := hT'.ltR a haN
    have z0 := (hb7.cell (p := ⟨b0, o0 + k * 4, none⟩) hcb).trans X0.out
    have z1 := (hb7.cell (p := ⟨b0, o0 + k * 4 + 1, none⟩) hcb).trans X1.out
    have z2 := (hb7.cell (p := ⟨b0, o0 + k * 4 + 2, none⟩) hcb).trans X2.out
    have z3 := (hb7.cell (p := ⟨b0, o0 + k * 4 + 3, none⟩) hcb).trans X3.out
    have hs7 := hb7.size
    have HF := Lib.hid hf
    have ka : (a : Int) < (N' : Int) := by omega
    have ka2 : (a : Int) < (oc : Int) := by omega
    have kb : (b : Int) < (N' : Int) := by omega
    have a0 : (0 : Int) ≤ (a : Int) := by omega
    have b00 : (0 : Int) ≤ (b : Int) := by omega
    obtain ⟨p, hp⟩ : ∃ p, p = -D b a := ⟨_, rfl⟩
    obtain ⟨q, hq⟩ : ∃ q, q = D a b := ⟨_, rfl⟩
    rw [← hp] at y1
    rw [← hq] at y2
    have HP := Lib.hid hp; have HQ := Lib.hid hq
    clear hT hT' hf hb6 hb5 hs5 hFS hp hq
    go_wp2_with fail
    go_region_held3 (fun w' => w'.cell? ⟨b0, o0 + k * 4, none⟩ = some (.int .i64 a) ∧ w'.cell? ⟨b0, o0 + k * 4 + 1, none⟩ = some (.int .i64 b) ∧ w'.cell? ⟨ob, a, none⟩ = some (.slice (some ⟨rb a, 0, none⟩) N' (rc a)) ∧ w'.cell? ⟨rb a, b * 2, none⟩ = some (.int .i64 p) ∧ w'.cell? ⟨rb a, b * 2 + 1, none⟩ = some (.int .i64 q))
      (first
        | go_keep)
      ((first | fail))
    all_goals
      obtain ⟨W, hW⟩ : ∃ W, W = (w6.alloc (.cells #[.int .i64 p, .int .i64 q] 35)).drew := ⟨_, rfl⟩
      rw [← hW]
      have v0 : W.cell? ⟨w6.heap.size, 0, none⟩ = some (.int .i64 p) := by rw [hW]; simp [go_sem]
      have v1 : W.cell? ⟨w6.heap.size, 1, none⟩ = some (.int .i64 q) := by rw [hW]; simp [go_sem]
      have hK : Below w6.heap.size w6 W := by rw [hW]; exact ((Below.refl _ _).alloc (Nat.le_refl _) _).drew
      have hbW : Below w.heap.size w W := hb7.trans (hK.mono hs7)
      have v2 := (hK.cell (p := ⟨b0, o0 + k * 4 + 2, none⟩) (by simp; omega)).trans z2
      have v3 := (hK.cell (p := ⟨b0, o0 + k * 4 + 3, none⟩) (by simp; omega)).trans z3
      clear hK hW y0 y1 y2 z0 z1 z2 z3 hb7
      by_cases h1 : lo ≤ p
      · by_cases h2 : q ≤ hi
        · go_wp2_with fail
          go_quiet (fail)
          go_wp2_with fail
          go_returns
          refine ⟨below_drewN hbW _, Or.inl ⟨HF.out, ?_⟩⟩
          simp [← HD.out, ← HP.out, ← HQ.out, h1, h2]
        · go_wp2_with fail
          go_quiet (fail)
          go_wp2_with fail
          go_returns
          refine ⟨below_drewN hbW _, Or.inl ⟨HF.out, ?_⟩⟩
          simp [← HD.out, ← HP.out, ← HQ.out, h1, h2]
      · have h3 : p < lo := by omega
        have h4 : decide (lo ≤ p) = false := by simpa using h3
        go_wp2_with fail
        go_quiet (fail)
        go_wp2_with fail
        go_returns
        refine ⟨below_drewN hbW _, Or.inl ⟨HF.out, ?_⟩⟩
        simp [← HD.out, ← HP.out, ← HQ.out, h1]
        intro hx; omega
  · obtain rfl : N' = N := by omega
    have HF := Lib.hid hbad; clear hbad
    have hb7 := hb5.trans (hb6.mono hs5)
    go_wp2_with fail
    go_returns
    exact ⟨hb7, Or.inr ⟨HF.out, rfl⟩⟩
  · exact absurd HZE.out hbad

end Go.Proofs.Ytmeppcoekmoofaa
