/- StarmapAgrees: the stars that are surely up are those for which Up is 1. -/
import Derived.Test.YtcopmgnfakjdhaaDoorStarmapW
namespace Go.Proofs.YtcopmgnfakjdhaaDoor
open Go.RowKit
set_option linter.unusedSimpArgs false
set_option linter.unusedVariables false
theorem PlBox.put2 {w : World} {b : Nat} {x y : Int} (h : PlBox w b x y) (u v : Int) : PlBox ((w.setCell ⟨b, 0, none⟩ (.int .i64 u)).setCell ⟨b, 1, none⟩ (.int .i64 v)) b u v :=
  ((World.rowIs.set h 0 (.int .i64 u)).set 1 (.int .i64 v)).congr (fun i hi => by
    match i, hi with
    | 0, _ => rfl
    | 1, _ => rfl)
set_option maxRecDepth 100000 in
set_option maxHeartbeats 16000000 in
theorem starmapAgrees_walk (p1 p2 t : Int) (w : World) (hT : SinT w) (hS : StarT w) : Calls Tryd.prog 5 #[.agg #[.int .i64 p1, .int .i64 p2], .int .i64 t] w fun e w' => e = .returned (.bool true) ∧ Below w.heap.size w w' := by
  have HW := Lib.hid (fun W (hT : SinT W) (hS : StarT W) => starmapWorks_ok W hT hS)
  have SI := Lib.hid (fun w => site_ok p1 p2 w)
  have I := Lib.hid (fun w => instant_ok t w)
  have k1 := instant_in t
  have pl := site_pl p1 p2
  generalize t % 604800000000000 - 302400000000000 = x at *
  generalize p1.tmod 500000001 = lon at *
  generalize p2.tmod 220000001 = lat at *
  have M := Lib.hid (fun W (hT : SinT W) (hS : StarT W) => Map_ok lon lat x pl k1 W hT hS)
  have UP := Lib.hid (fun k (h : k < 8) W (hT : SinT W) (hS : StarT W) => Up_ok lon lat x pl k1 k h W hT hS)
  have NM := Lib.hid (fun w (h : StarT w) => names_ok w h)
  have N8 := dotN_le lon lat x 8
  have HT := Lib.hid hT
  have HS := Lib.hid hS
  clear hT hS k1 pl
  have P1 := PlBox.new w p1 p2
  have HB0 := (Below.refl w.heap.size w).alloc (Nat.le_refl _) (.cells #[.int .i64 p1, .int .i64 p2] 35)
  obtain ⟨k0, hk0⟩ : ∃ x, x = w.heap.size := ⟨_, rfl⟩
  rw [← hk0] at P1
  have HB := Lib.hid (Below.refl w.heap.size w)
  clear HB
  go_enter Tryd.func5, Tryd.ntmps5
  go_upto_region 1 with fail
  rw [← hk0]
  have HK0 := Lib.hid hk0
  obtain ⟨X0, hX0⟩ : ∃ X, X = w.alloc (.cells #[.int .i64 p1, .int .i64 p2] 35) := ⟨_, rfl⟩
  rw [← hX0] at P1 HB0 ⊢
  have HB := Lib.hid HB0
  have s1 := Lib.hid P1
  clear hX0 P1 HB0 hk0
  go_wp2_with fail
  refine Calls.mono (HW.out _ (HT.out.below HB.out) (HS.out.below HB.out)) ?_
  rintro e wc1 ⟨rfl, hb⟩
  replace s1 := Lib.hid (s1.out.below hb)
  replace HB := Lib.hid (HB.out.trans (hb.mono HB.out.size))
  clear hb
  have p0 := s1.out.c0; have p1' := s1.out.c1; have pz := s1.out.lt
  go_wp2_with fail
  refine Calls.mono (SI.out _) ?_
  rintro e wc2 ⟨rfl, hb⟩
  replace s1 := Lib.hid (s1.out.below hb)
  replace HB := Lib.hid (HB.out.trans (hb.mono HB.out.size))
  clear hb
  clear p0 p1' pz
  go_wp2_with fail
  refine Calls.mono (I.out _) ?_
  rintro e wq ⟨rfl, rfl⟩
  have p0 := s1.out.c0; have p1' := s1.out.c1; have pz := s1.out.lt; have pf0 := s1.out.free 0; have pf1 := s1.out.free 1
  go_upto_region 4 with fail
  have S1 := s1.out.put2 lon lat
  have B1 := (HB.out.setCell (p := ⟨k0, 0, none⟩) (by have := HK0.out; dsimp only; omega) (.int .i64 lon)).setCell (p := ⟨k0, 1, none⟩) (by have := HK0.out; dsimp only; omega) (.int .i64 lat)
  obtain ⟨Y, hY⟩ : ∃ Y, Y = ((wq.setCell ⟨k0, 0, none⟩ (.int .i64 lon)).setCell ⟨k0, 1, none⟩ (.int .i64 lat)) := ⟨_, rfl⟩
  rw [← hY] at S1 B1 ⊢
  replace s1 := Lib.hid S1
  replace HB := Lib.hid B1
  clear S1 B1 hY p0 p1' pz pf0 pf1 HW SI I HK0
  have p0 := s1.out.c0; have p1' := s1.out.c1; have pz := s1.out.lt
  go_wp2_with fail
  refine Calls.mono (M.out _ (HT.out.below HB.out) (HS.out.below HB.out)) ?_
  rintro e wM ⟨v, B, rfl, -, own, hb⟩
  replace HB := Lib.hid (HB.out.trans (hb.mono HB.out.size))
  replace s1 := Lib.hid (s1.out.below hb)
  obtain ⟨A, cap, rfl, ho⟩ := own_dots own
  have HO := Lib.hid ho
  clear own hb ho M p0 p1' pz
  obtain ⟨n, hn⟩ : ∃ n, n = dotN lon lat x 8 := ⟨_, rfl⟩
  rw [← hn] at N8 HO ⊢
  have HNN := Lib.hid hn
  clear hn
  go_wp2_with fail
  refine Calls.mono (NM.out _ (HS.out.below HB.out)) ?_
  rintro e wN ⟨vn, rfl, hN, hb⟩
  have HMN := Lib.hid hb
  replace s1 := Lib.hid (s1.out.below hb)
  replace HB := Lib.hid (HB.out.trans (hb.mono HB.out.size))
  obtain ⟨gn, capn, rfl, -, -, hcell, hg⟩ := hN.form
  have HC := Lib.hid hcell
  have HP := s1
  clear hb hN hcell NM s1
  go_wp2_with fail
  go_loopw [7, 26] (fun iv kv wr => ∃ k : Nat, k ≤ 8 ∧ iv = .int .i64 (dotN lon lat x k) ∧ kv = .int .i64 k ∧ Hid (Below wN.heap.size wN wr)) (fun _ kv _ => 8 - (intOf kv).toNat)
  case atStart => exact ⟨0, by omega, rfl, rfl, Lib.hid (Below.refl _ _)⟩
  case round =>
    obtain ⟨k, hk, rfl, rfl, HR⟩ := hrel
    by_cases hlt : k < 8
    · have hlt2 : (k : Int) < 8 := by omega
      have hlt3 : (0 : Int) ≤ (k : Int) := by omega
      have nm : wr.cell? ⟨gn, k, none⟩ = some (.string (stN k)) := (HR.out.cell (p := ⟨gn, k, none⟩) hg).trans (HC.out k hlt)
      have P2 := HP.out.below HR.out
      have p0 := P2.c0; have p1' := P2.c1; have pz := P2.lt
      have BW := HB.out.trans (HR.out.mono HB.out.size)
      have U := UP.out k hlt wr (HT.out.below BW) (HS.out.below BW)
      have HU := Lib.hid U
      clear U
      obtain ⟨dn, hdn⟩ : ∃ d, d = dotN lon lat x k := ⟨_, rfl⟩
      rw [← hdn]
      have e1 : dotN lon lat x (k + 1) = if smHH lon lat x k < 0 then dotN lon lat x k else dotN lon lat x k + 1 := rfl
      have tri := (sm_tri lon lat x k).1
      by_cases c : smHH lon lat x k < 0
      · have un : upN lon lat x k = -1 := by unfold upN; rw [if_neg (by omega), if_pos c]
        have ue : upE lon lat x k = 0 := by unfold upE; rw [if_neg (by omega), if_pos c]
        rw [un, ue] at HU
        rw [if_pos c, ← hdn] at e1
        have E1 := Lib.hid e1
        clear e1 tri c un ue hdn
        generalize stN k = nmv at *
        go_wp2_with fail
        refine Calls.mono HU.out ?_
        rintro e wU ⟨rfl, hb⟩
        have HR2 := Lib.hid (HR.out.trans (hb.mono HR.out.size))
        clear hb nm p0 p1' pz P2 BW
        go_wp2_with fail
        go_roundw
        case rel => exact ⟨k + 1, by omega, by rw [E1.out], by go_num, HR2⟩
        case measure => simp [intOf]; omega
      · rw [if_neg c, ← hdn] at e1
        have m8 := dotN_mono lon lat x (j := k + 1) (k := 8) (by omega)
        rw [e1, ← HNN.out] at m8
        obtain ⟨g, rfl, hgd, hcap, hcm, cells⟩ := HO.out (by omega)
        have h0 := dots_at lon lat x (i := k) (k := 8) hlt c 0 (by omega)
        have h5 := dots_at lon lat x (i := k) (k := 8) hlt c 5 (by omega)
        rw [← hdn] at h0 h5
        have r0 := (cells (dn * 6 + 0) (by omega)).trans h0
        have r5 := (cells (dn * 6 + 5) (by omega)).trans h5
        clear h0 h5
        have q0 : wM.cell? ⟨g, dn * 6, none⟩ = some (.string (stN k)) := r0
        have q5 : wM.cell? ⟨g, dn * 6 + 5, none⟩ = some (.bool (decide (0 < smHL lon lat x k))) := r5
        have RC := Lib.hid (fun W (h : Below wM.heap.size wM W) => And.intro ((h.cell (p := ⟨g, dn * 6, none⟩) hgd).trans q0) ((h.cell (p := ⟨g, dn * 6 + 5, none⟩) hgd).trans q5))
        have E1 := Lib.hid e1
        clear e1 r0 r5 q0 q5 cells hdn
        have lt4 : dn < n := by omega
        have lt5 : (dn : Int) < (n : Int) := by omega
        have lt6 : (0 : Int) ≤ (dn : Int) := by omega
        by_cases d : 0 < smHL lon lat x k
        · have un : upN lon lat x k = 1 := by unfold upN; rw [if_pos d]
          have ue : upE lon lat x k = 0 := by unfold upE; rw [if_pos d]
          rw [un, ue] at HU
          rw [decide_eq_true d] at RC
          clear tri c d un ue
          generalize stN k = nmv at *
          go_wp2_with fail
          refine Calls.mono HU.out ?_
          rintro e wU ⟨rfl, hb⟩
          have HR2 := Lib.hid (HR.out.trans (hb.mono HR.out.size))
          obtain ⟨f0, f5⟩ := RC.out wU (HMN.out.trans (HR2.out.mono HMN.out.size))
          clear hb nm p0 p1' pz P2 BW
          go_wp2_with fail
          go_roundw
          case rel => exact ⟨k + 1, by omega, by rw [E1.out]; go_num, by go_num, HR2⟩
          case measure => simp [intOf]; omega
        · have un : upN lon lat x k = 0 := by unfold upN; rw [if_neg d, if_neg c]
          have ue : upE lon lat x k = 11 := by unfold upE; rw [if_neg d, if_neg c]
          rw [un, ue] at HU
          rw [decide_eq_false d] at RC
          clear tri c d un ue
          generalize stN k = nmv at *
          go_wp2_with fail
          refine Calls.mono HU.out ?_
          rintro e wU ⟨rfl, hb⟩
          have HR2 := Lib.hid (HR.out.trans (hb.mono HR.out.size))
          obtain ⟨f0, f5⟩ := RC.out wU (HMN.out.trans (HR2.out.mono HMN.out.size))
          clear hb nm p0 p1' pz P2 BW
          go_wp2_with fail
          go_roundw
          case rel => exact ⟨k + 1, by omega, by rw [E1.out]; go_num, by go_num, HR2⟩
          case measure => simp [intOf]; omega
    · obtain rfl : k = 8 := by omega
      rw [← HNN.out]
      clear HO UP
      go_wp2_with fail
      go_ret
      exact ⟨rfl, HB.out.trans (HR.out.mono HB.out.size)⟩
end Go.Proofs.YtcopmgnfakjdhaaDoor
