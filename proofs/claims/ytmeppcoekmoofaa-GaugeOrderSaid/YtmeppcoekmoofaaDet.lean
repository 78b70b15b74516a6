/- The contract of gauge.det. -/
import Derived.Test.YtmeppcoekmoofaaGMat
import Derived.Deep.QuietTactic
import Derived.BigQuiet
namespace Go.Proofs.Ytmeppcoekmoofaa
open Go.RowKit
set_option linter.unusedSimpArgs false
set_option linter.unusedVariables false

theorem Try.infoGi : (Try.prog.info? 3).map (fun i => (i.zero, i.size, i.bytes)) = some (some (.int .i64 0), 1, 8) := by kernel_rfl
theorem Try.infoGr : (Try.prog.info? 22).map (fun i => (i.zero, i.size, i.bytes)) = some (some (.slice none 0 0), 1, 24) := by kernel_rfl

set_option maxHeartbeats 1000000 in
theorem det_one (ob oo cap : Nat) (rb rc : Nat → Nat) (M : Gm) (w : World) (h : GMat w ob oo 1 1 rb rc M) :
    Calls Try.prog 71 #[.slice (some ⟨ob, oo, none⟩) 1 cap] w fun e w' => e = .returned (.int .i64 (M 0 0)) ∧ Below w.heap.size w w' := by
  have c0 := h.out 0 (by omega)
  have c1 := h.row 0 (by omega) 0 (by omega)
  rw [Nat.add_zero] at c0
  have hc := h.cap 0 (by omega)
  have l0 := h.lt
  have l1 := h.ltR 0 (by omega)
  clear h
  go_enter Try.func71, Try.ntmps71
  go_wp2_with fail
  go_returns
  exact ⟨rfl, Below.refl _ _⟩

set_option maxRecDepth 100000 in
set_option maxHeartbeats 8000000 in
/-- One size greater. -/
theorem det_step (N : Nat) (hN : 1 ≤ N) (hN3 : N ≤ 2) (IH : ∀ (ob oo cap : Nat) (rb rc : Nat → Nat) (M : Gm) (w : World), GMat w ob oo N N rb rc M → Small N M → N ≤ cap →
      Calls Try.prog 71 #[.slice (some ⟨ob, oo, none⟩) N cap] w fun e w' => e = .returned (.int .i64 (detF N M)) ∧ Below w.heap.size w w')
    (ob oo cap : Nat) (rb rc : Nat → Nat) (M : Gm) (w : World) (h : GMat w ob oo (N + 1) (N + 1) rb rc M) (hS : Small (N + 1) M) (hcap : N + 1 ≤ cap) :
    Calls Try.prog 71 #[.slice (some ⟨ob, oo, none⟩) (N + 1) cap] w fun e w' => e = .returned (.int .i64 (detS (detF N) M (N + 1))) ∧ Below w.heap.size w w' := by
  obtain ⟨iI, hI0, hI1, hI2, hI3⟩ := info_parts Try.infoGi
  obtain ⟨iR, hR0, hR1, hR2, hR3⟩ := info_parts Try.infoGr
  have HM := Lib.hid h; have HS := Lib.hid hS; have HIH := Lib.hid IH
  have l0 := h.lt
  have hbS : ∀ k, k ≤ N + 1 → -70000000000000000 ≤ detS (detF N) M k ∧ detS (detF N) M k ≤ 70000000000000000 := fun k hk => by
    have h1 := detS_bound (f := detF N) (M := M) (n := N + 1) (B := 20000000000) hS (fun k _ => by
      have := detF_bound (n := N) (M := minorM M k) hN (by omega) hS.minor
      rcases (by omega : N = 1 ∨ N = 2) with e | e <;> subst e <;> unfold dB at this <;> simp at this <;> omega) k hk
    rcases (by omega : k = 0 ∨ k = 1 ∨ k = 2 ∨ k = 3) with e | e | e | e <;> subst e <;> omega
  have hbF : ∀ k, -20000000000 ≤ detF N (minorM M k) ∧ detF N (minorM M k) ≤ 20000000000 := fun k => by
    have := detF_bound (n := N) (M := minorM M k) hN (by omega) hS.minor
    rcases (by omega : N = 1 ∨ N = 2) with e | e <;> subst e <;> unfold dB at this <;> simp at this <;> omega
  have HBS := Lib.hid hbS; have HBF := Lib.hid hbF
  clear h hS hbS hbF IH
  obtain ⟨P, hP⟩ : ∃ P, P = N + 1 := ⟨_, rfl⟩
  rw [← hP]
  rw [← hP] at hcap
  have q0 : ((P : Int) == 1) = false := by simp; omega
  have q1 : (1 : Int) ≤ (P : Int) := by omega
  have q2 : (P : Int) ≤ (cap : Int) := by omega
  have q3 : ¬ cap = 1 := by omega
  have q4 : (P : Int) ≤ 3 := by omega
  have q5 : 0 < P := by omega
  have HP := Lib.hid hP; clear hP
  go_enter Try.func71, Try.ntmps71
  go_wp2_with fail
  go_loopw [3, 4, 19] (fun a s i' wv => ∃ k : Nat, k ≤ P ∧ i' = .int .i64 k ∧ a = .int .i64 (detS (detF N) M k) ∧ s = .int .i64 (sgn k) ∧ Below w.heap.size w wv) (fun _ _ i' _ => P - (intOf i').toNat)
  case atStart => exact ⟨0, by omega, rfl, rfl, rfl, Below.refl _ _⟩
  case round =>
    obtain ⟨k, hk, rfl, rfl, rfl, hbw⟩ := hrel
    have hbs := hbw.size
    obtain ⟨a, ha⟩ : ∃ a, a = detS (detF N) M k := ⟨_, rfl⟩
    obtain ⟨s, hs⟩ : ∃ s, s = sgn k := ⟨_, rfl⟩
    have ha1 := HBS.out k (by have := HP.out; omega)
    rw [← ha] at ha1
    rw [← ha, ← hs]
    have hs1 : s = 1 ∨ s = -1 := by rw [hs]; exact sgn_cases k
    have HA := Lib.hid ha; have HSG := Lib.hid hs
    clear ha hs
    by_cases hlt : k < P
    · have k0 : (0 : Int) ≤ (k : Int) := by omega
      have k1 : (k : Int) < (P : Int) := by omega
      go_wp2_with fail
      rw [show P - 1 = N by have := HP.out; omega]
      obtain ⟨B, hB⟩ : ∃ B, B = wr.heap.size := ⟨_, rfl⟩
      have hB1 : w.heap.size ≤ B := by omega
      have hB2 : B ≤ wr.heap.size := by omega
      clear hB
      go_loopw [6, 25] (fun v j' wv => ∃ (j : Nat) (rb' rc' : Nat → Nat), j ≤ N ∧ j' = .int .i64 j ∧ GLay wv B N j v rb' rc' (minorM M k) ∧ B ≤ wv.heap.size ∧ Below w.heap.size w wv) (fun _ j' _ => N - (intOf j').toNat)
      case atStart => exact ⟨0, fun _ => 0, fun _ => 0, by omega, rfl, GLay.start _ _ _ _ _ _, hB2, hbw⟩
      case round =>
        clear hbw hbs hB2
        obtain ⟨j, rb', rc', hj, rfl, hL, hB2, hbw⟩ := hrel
        have hbs := hbw.size
        have HL := Lib.hid hL; clear hL
        by_cases hjN : j < N
        · have hMr := HM.out.below hbw
          have c0 := hMr.out (j + 1) (by omega)
          rw [← HP.out, show oo + (j + 1) = oo + 1 + j by omega] at c0
          have hcg := hMr.cap (j + 1) (by omega)
          rw [← HP.out] at hcg
          have hrow := hMr.row (j + 1) (by omega)
          obtain ⟨g, hg⟩ : ∃ g, g = rb (j + 1) := ⟨_, rfl⟩
          obtain ⟨gc, hgc⟩ : ∃ g, g = rc (j + 1) := ⟨_, rfl⟩
          rw [← hg, ← hgc] at c0
          rw [← hgc] at hcg
          rw [← hg] at hrow
          have lO := hMr.lt
          have HC : Hid (∀ i, i < N + 1 → wr.drew.cell? ⟨g, i, none⟩ = some (.int .i64 (M (j + 1) i))) := Lib.hid hrow
          have lR : g < wr.heap.size := by rw [hg]; exact hMr.ltR (j + 1) (by omega)
          have j0 : (0 : Int) ≤ (j : Int) := by omega
          have j1 : (j : Int) < (N : Int) := by omega
          have k2 : (k : Int) ≤ (gc : Int) := by omega
          have k3 : (k : Int) + 1 ≤ (P : Int) := by omega
          have k4 : (k : Int) + 1 ≤ (gc : Int) := by omega
          have k5 : IntKind.i64.wrap ((k : Int) + 1) = (k : Int) + 1 := IntWalk.i64_in _ (by omega)
          have k6 : ((k : Int) + 1).toNat = k + 1 := by omega
          have k7 : (0 : Int) ≤ (k : Int) + 1 := by omega
          have k8 : (P : Int) ≤ (gc : Int) := by omega
          clear hMr hrow hg hgc
          by_cases hgk : gc = k + 1
          · have hif : (gc = k + 1) = True := by rw [hgk]; simp
            have HGK := Lib.hid hgk
            clear hgk
            go_wp2_with fail
            go_region_held3 (fun w' => True) (trivial)
              ((first
                | (refine step_append_any (by rfl) (.const (.slice none 0 0)) (.tmp 32) _ (by rfl) wr.heap.size 3 iI _ 1 8 Try.underlying22 hI0 hI1 hI2 hI3 rfl (by omega) (.slice none 0 0) 0 [] (by rfl) (World.ownsRow_nil _ _ _ _) ⟨g, 0, none⟩ k gc ((seg (M (j + 1)) 0 k).map (Value.int .i64)) (by rfl) (by rw [List.length_map, seg_len]; omega) (seg_cells 0 k (by omega) HC.out) (seg_one _ _ _) (by unfold maxLen; omega) (by omega) (by simp) ?_; intro v1 w1 hown1 hgrow1 hat1; have f1 : Hid (∀ b, b < wr.heap.size → w1.heap[b]? = wr.heap[b]?) := Lib.hid (fun b hb => hgrow1.block b hb (fun e => by cases e)); have s1 : wr.heap.size ≤ w1.heap.size := hgrow1.size)
                | (refine step_append_any (by rfl) (.tmp 33) (.tmp 37) _ (by rfl) wr.heap.size 3 iI _ 1 8 Try.underlying22 hI0 hI1 hI2 hI3 rfl (by omega) v1 (0 + k) _ (by rfl) hown1 ⟨g, 0, none⟩ (P - (k + 1)) (gc - (k + 1)) ((seg (M (j + 1)) (k + 1) (P - (k + 1))).map (Value.int .i64)) (by rfl) (by rw [List.length_map, seg_len]; omega) (fun jj u hu => by rw [show P - (k + 1) = 0 by have := HGK.out; omega] at hu; simp [seg] at hu) (seg_one _ _ _) (by unfold maxLen; omega) (by omega) s1 ?_; intro v2 w2 hown2 hgrow2 hat2; have f2 : Hid (∀ b, b < wr.heap.size → w2.heap[b]? = wr.heap[b]?) := Lib.hid (fun b hb => (hgrow2.block b (by omega) (fun e => by have := (hown1.lt b e.symm).1; omega)).trans (f1.out b hb)); have s2 : wr.heap.size ≤ w2.heap.size := Nat.le_trans s1 hgrow2.size; rw [show 0 + k + (P - (k + 1)) = N by have := HP.out; omega, show P - (k + 1) = N - k by have := HP.out; omega] at hown2; obtain ⟨g2, gc2, hv2, hg2a, hg2b⟩ := hown2.form (by omega); subst hv2)
                | (refine step_append_any (by rfl) (.tmp 29) (.tmp 39) _ (by rfl) B 22 iR _ 1 24 Try.underlying50 hR0 hR1 hR2 hR3 rfl (by omega) u6 j ((List.range j).map fun x => .slice (some ⟨rb' x, 0, none⟩) N (rc' x)) (by rfl) ((HL.out.above s2 f2.out HL.out.ltR (fun q hq => (HL.out.own.lt q hq).2)).own.alloc _) ⟨w2.heap.size, 0, none⟩ 1 1 [.slice (some ⟨g2, 0, none⟩) N gc2] (by rfl) (by rfl) cells_one (by simp [Value.oneCell']) (by unfold maxLen; omega) (by omega) (by simp; omega) ?_; intro v3 w3 hown3 hgrow3 hat3)))
            have hbw2 := (hbw.drew.grown hgrow1 (by simpa using hbs) (fun q hq => by cases hq)).grown hgrow2 (by omega) (fun q hq => by have := (hown1.lt q hq).1; omega)
            have hL2 := HL.out.above s2 f2.out HL.out.ltR (fun q hq => (HL.out.own.lt q hq).2)
            have hrow2 : ∀ jj, jj < N → w2.cell? ⟨g2, jj, none⟩ = some (.int .i64 (minorM M k j jj)) := fun jj hjj => by
              have h1 := hown2.cellAt jj (by omega)
              rw [seg_two (M (j + 1)) N k jj (by have := HP.out; omega) hjj] at h1
              exact h1
            have hgc2 : N ≤ gc2 := by
              rcases hown2.2 with ⟨h, _⟩ | ⟨_, _, _, h, _, _, h2, _⟩
              · cases h
              · simp only [Value.slice.injEq] at h; omega
            have S := hL2.step hrow2 hg2b (fun q hq e => by have := (HL.out.own.lt q hq).2; omega) hgc2 _ hown3 hgrow3 hat3
            have hbw3 := (hbw2.alloc (by omega) _).grown hgrow3 (by simp; omega) (fun q hq => Nat.le_trans hB1 (HL.out.own.lt q hq).1)
            have hB3 : B ≤ w3.heap.size := by have := hgrow3.size; simp at this; omega
            have HS3 := Lib.hid S
            clear hL2 hrow2 S hown1 hown2 hown3 hgrow1 hgrow2 hgrow3 hat1 hat2 hat3 hbw hbw2
            go_wp2_with fail
            go_roundw
            case rel => exact ⟨j + 1, _, _, by omega, by go_num, HS3.out, hB3, hbw3⟩
            case measure => simp [intOf]; omega
          · have hif : (gc = k + 1) = False := by simp [hgk]
            have HGK := Lib.hid hgk
            clear hgk
            go_wp2_with fail
            go_region_held3 (fun w' => True) (trivial)
              ((first
                | (refine step_append_any (by rfl) (.const (.slice none 0 0)) (.tmp 32) _ (by rfl) wr.heap.size 3 iI _ 1 8 Try.underlying22 hI0 hI1 hI2 hI3 rfl (by omega) (.slice none 0 0) 0 [] (by rfl) (World.ownsRow_nil _ _ _ _) ⟨g, 0, none⟩ k gc ((seg (M (j + 1)) 0 k).map (Value.int .i64)) (by rfl) (by rw [List.length_map, seg_len]; omega) (seg_cells 0 k (by omega) HC.out) (seg_one _ _ _) (by unfold maxLen; omega) (by omega) (by simp) ?_; intro v1 w1 hown1 hgrow1 hat1; have f1 : Hid (∀ b, b < wr.heap.size → w1.heap[b]? = wr.heap[b]?) := Lib.hid (fun b hb => hgrow1.block b hb (fun e => by cases e)); have s1 : wr.heap.size ≤ w1.heap.size := hgrow1.size)
                | (refine step_append_any (by rfl) (.tmp 33) (.tmp 37) _ (by rfl) wr.heap.size 3 iI _ 1 8 Try.underlying22 hI0 hI1 hI2 hI3 rfl (by omega) v1 (0 + k) _ (by rfl) hown1 ⟨g, k + 1, none⟩ (P - (k + 1)) (gc - (k + 1)) ((seg (M (j + 1)) (k + 1) (P - (k + 1))).map (Value.int .i64)) (by rfl) (by rw [List.length_map, seg_len]; omega) (seg_cells (k + 1) (P - (k + 1)) (by have := HP.out; omega) (fun i hi => (World.cell?_of_block (w := wr) (f1.out g lR)).trans (HC.out i hi))) (seg_one _ _ _) (by unfold maxLen; omega) (by omega) s1 ?_; intro v2 w2 hown2 hgrow2 hat2; have f2 : Hid (∀ b, b < wr.heap.size → w2.heap[b]? = wr.heap[b]?) := Lib.hid (fun b hb => (hgrow2.block b (by omega) (fun e => by have := (hown1.lt b e.symm).1; omega)).trans (f1.out b hb)); have s2 : wr.heap.size ≤ w2.heap.size := Nat.le_trans s1 hgrow2.size; rw [show 0 + k + (P - (k + 1)) = N by have := HP.out; omega, show P - (k + 1) = N - k by have := HP.out; omega] at hown2; obtain ⟨g2, gc2, hv2, hg2a, hg2b⟩ := hown2.form (by omega); subst hv2)
                | (refine step_append_any (by rfl) (.tmp 29) (.tmp 39) _ (by rfl) B 22 iR _ 1 24 Try.underlying50 hR0 hR1 hR2 hR3 rfl (by omega) u6 j ((List.range j).map fun x => .slice (some ⟨rb' x, 0, none⟩) N (rc' x)) (by rfl) ((HL.out.above s2 f2.out HL.out.ltR (fun q hq => (HL.out.own.lt q hq).2)).own.alloc _) ⟨w2.heap.size, 0, none⟩ 1 1 [.slice (some ⟨g2, 0, none⟩) N gc2] (by rfl) (by rfl) cells_one (by simp [Value.oneCell']) (by unfold maxLen; omega) (by omega) (by simp; omega) ?_; intro v3 w3 hown3 hgrow3 hat3)))
            have hbw2 := (hbw.drew.grown hgrow1 (by simpa using hbs) (fun q hq => by cases hq)).grown hgrow2 (by omega) (fun q hq => by have := (hown1.lt q hq).1; omega)
            have hL2 := HL.out.above s2 f2.out HL.out.ltR (fun q hq => (HL.out.own.lt q hq).2)
            have hrow2 : ∀ jj, jj < N → w2.cell? ⟨g2, jj, none⟩ = some (.int .i64 (minorM M k j jj)) := fun jj hjj => by
              have h1 := hown2.cellAt jj (by omega)
              rw [seg_two (M (j + 1)) N k jj (by have := HP.out; omega) hjj] at h1
              exact h1
            have hgc2 : N ≤ gc2 := by
              rcases hown2.2 with ⟨h, _⟩ | ⟨_, _, _, h, _, _, h2, _⟩
              · cases h
              · simp only [Value.slice.injEq] at h; omega
            have S := hL2.step hrow2 hg2b (fun q hq e => by have := (HL.out.own.lt q hq).2; omega) hgc2 _ hown3 hgrow3 hat3
            have hbw3 := (hbw2.alloc (by omega) _).grown hgrow3 (by simp; omega) (fun q hq => Nat.le_trans hB1 (HL.out.own.lt q hq).1)
            have hB3 : B ≤ w3.heap.size := by have := hgrow3.size; simp at this; omega
            have HS3 := Lib.hid S
            clear hL2 hrow2 S hown1 hown2 hown3 hgrow1 hgrow2 hgrow3 hat1 hat2 hat3 hbw hbw2
            go_wp2_with fail
            go_roundw
            case rel => exact ⟨j + 1, _, _, by omega, by go_num, HS3.out, hB3, hbw3⟩
            case measure => simp [intOf]; omega
        · obtain rfl : j = N := by omega
          obtain ⟨g, gc, hv, hg1, hg2⟩ := HL.out.own.form (by omega)
          subst hv
          have hgc : j ≤ gc := by
            rcases HL.out.own.2 with ⟨h, _⟩ | ⟨_, _, _, h, _, _, h2, _⟩
            · cases h
            · simp only [Value.slice.injEq] at h; omega
          have hGM := HL.out.mat
          have hMr := HM.out.below hbw
          have c0 := hMr.out 0 (by omega)
          rw [← HP.out, Nat.add_zero] at c0
          have c1 := hMr.row 0 (by omega) k (by have := HP.out; omega)
          have hcg := hMr.cap 0 (by omega)
          rw [← HP.out] at hcg
          obtain ⟨b0, hb0⟩ : ∃ g, g = rb 0 := ⟨_, rfl⟩
          obtain ⟨d0, hd0⟩ : ∃ g, g = rc 0 := ⟨_, rfl⟩
          obtain ⟨m0, hm0⟩ : ∃ x, x = M 0 k := ⟨_, rfl⟩
          rw [← hb0, ← hd0] at c0
          rw [← hb0, ← hm0] at c1
          rw [← hd0] at hcg
          have hS0 := HS.out 0 k (by omega) (by have := HP.out; omega)
          rw [← hm0] at hS0
          have hF0 := HBF.out k
          obtain ⟨F, hF⟩ : ∃ x, x = detF j (minorM M k) := ⟨_, rfl⟩
          rw [← hF] at hF0
          have hnx : Hid (detS (detF j) M (k + 1) = a + s * m0 * F) := Lib.hid (by rw [HA.out, HSG.out, hm0, hF]; rfl)
          have hsn : Hid (sgn (k + 1) = -s) := Lib.hid (by rw [HSG.out]; exact sgn_succ k)
          have HF := Lib.hid hF; have HGM := Lib.hid hGM
          have lO := hMr.lt
          have lR : b0 < wr.heap.size := by rw [hb0]; exact hMr.ltR 0 (by omega)
          have kd : (k : Int) < (d0 : Int) := by omega
          have hsm : -100000 ≤ s * m0 ∧ s * m0 ≤ 100000 := by rcases hs1 with e | e <;> rw [e] <;> omega
          have hsmF := mul_abs hsm hF0
          have p1 : IntKind.i64.wrap (s * m0) = s * m0 := IntWalk.i64_in _ (by omega)
          have p2 : IntKind.i64.wrap (s * m0 * F) = s * m0 * F := IntWalk.i64_in _ (by omega)
          have p3 : IntKind.i64.wrap (a + s * m0 * F) = a + s * m0 * F := IntWalk.i64_in _ (by omega)
          have HHH := Lib.hid hsmF
          clear hGM hMr hb0 hd0 hm0 hF hS0 hsmF
          go_wp2_with fail
          obtain ⟨X, hX⟩ : ∃ X, X = wr.drew := ⟨_, rfl⟩
          have HX := Lib.hid hX
          clear hX
          go_region_held3 (fun w' => w'.cell? ⟨ob, oo, none⟩ = some (.slice (some ⟨b0, 0, none⟩) P d0) ∧ w'.cell? ⟨b0, k, none⟩ = some (.int .i64 m0) ∧ Below wr.heap.size wr w')
            (((try dsimp only); repeat' apply And.intro) <;> (first | (with_reducible assumption) | (go_split_ands; (with_reducible assumption)) | exact (Below.refl _ _).drew | exact c0 | exact c1 | go_keep))
            ((first
              | (go_at_call 71; go_split_ands; refine Calls.mono (HIH.out _ _ _ _ _ _ _ (HGM.out.below (by with_reducible assumption)) (HS.out.minor) hgc) ?_; rintro e wq ⟨rfl, hb⟩; rw [← HF.out]; have qB : Below wr.heap.size wr wq := (bX_more (by with_reducible assumption) hb); have m1 := bX_oldc qB lO c0; have m2 := bX_oldc qB lR c1; clear hb)))
          all_goals
            have hbw4 : Below w.heap.size w wq := hbw.trans (qB.mono hbs)
            clear m1 m2 qB c0 c1 hbw
            go_wp2_with fail
            go_roundw
            case rel => exact ⟨k + 1, by omega, by go_num, by rw [hnx.out], by rw [hsn.out], hbw4⟩
            case measure => simp [intOf]; omega
    · obtain rfl : k = P := by omega
      go_wp2_with fail
      go_returns
      exact ⟨ret_int (by rw [HA.out, HP.out]), hbw⟩

theorem det_ok (n : Nat) : 1 ≤ n → n ≤ 3 → ∀ (ob oo cap : Nat) (rb rc : Nat → Nat) (M : Gm) (w : World), GMat w ob oo n n rb rc M → Small n M → n ≤ cap →
    Calls Try.prog 71 #[.slice (some ⟨ob, oo, none⟩) n cap] w fun e w' => e = .returned (.int .i64 (detF n M)) ∧ Below w.heap.size w w' := by
  induction n with
  | zero => intro h; omega
  | succ n ih =>
    intro h1 h3 ob oo cap rb rc M w hM hS hc
    match n, ih with
    | 0, _ => exact det_one ob oo cap rb rc M w hM
    | N + 1, ih => exact det_step (N + 1) (by omega) (by omega) (fun ob oo cap rb rc M w => ih (by omega) (by omega) ob oo cap rb rc M w) ob oo cap rb rc M w hM hS hc

end Go.Proofs.Ytmeppcoekmoofaa
