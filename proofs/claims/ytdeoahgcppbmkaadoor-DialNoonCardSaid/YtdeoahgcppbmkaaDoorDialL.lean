/- dial.Lines and dialWorks. -/
import Derived.Test.YtdeoahgcppbmkaaDoorDials
import Derived.Test.YtdeoahgcppbmkaaDoorApps
import Derived.Test.YtdeoahgcppbmkaaDoorSkyLaw
import Derived.Deep.RegionHeld3
namespace Go.Proofs.YtdeoahgcppbmkaaDoor
open Go.RowKit
set_option linter.unusedSimpArgs false
set_option linter.unusedVariables false
theorem dwL : dlL 125000000 15 ≤ 97956638 ∧ 97956638 ≤ dlH 125000000 15 ∧ dlH 125000000 15 - dlL 125000000 15 ≤ 50 := by decide +kernel
set_option maxRecDepth 100000 in
set_option maxHeartbeats 4000000 in
theorem dialWorks_ok (w : World) (hT : SinT w) : Calls Tryd.prog 39 #[] w fun e w' => e = .returned (.bool true) ∧ Below w.heap.size w w' := by
  have B := dl_ok (lat := 125000000) (hour := 15) (by omega) (by omega) (by omega) (by omega)
  have L := Lib.hid (fun W (hT : SinT W) => Line_ok 125000000 15 W hT B.ok)
  obtain ⟨a1, a2, a3⟩ := dwL
  obtain ⟨a4, a5, a6, a7⟩ := B.bd
  clear B
  have HT := Lib.hid hT
  generalize dlL 125000000 15 = ll at *
  generalize dlH 125000000 15 = lh at *
  have H1 := Lib.hid (fun w => has_true ll lh 97956638 50 w a1 a2 a3 ⟨by omega, by omega⟩)
  clear a1 a2 a3 a4 a5 a6 a7 hT
  go_enter Tryd.func39, Tryd.ntmps39
  have HB := Lib.hid (Below.refl w.heap.size w)
  go_wp2_with fail
  refine Calls.mono (L.out _ (HT.out.below HB.out)) ?_
  rintro e wn1 ⟨rfl, hb⟩
  have HB1 := HB.out.trans (hb.mono HB.out.size)
  clear hb
  have Hkl1 := Lib.hid HB1.size; replace HB := Lib.hid (HB1.alloc HB1.size (.cells #[.int .i64 (ll), .int .i64 (lh)] 24))
  clear HB1
  have s1 := Lib.hid (SpBox.new wn1 (ll) (lh))
  obtain ⟨k1, hk1⟩ : ∃ x, x = wn1.heap.size := ⟨_, rfl⟩
  rw [← hk1] at s1 Hkl1
  go_upto_region 2 with fail
  rw [← hk1]
  obtain ⟨X1, hX1⟩ : ∃ X, X = wn1.alloc (.cells #[.int .i64 (ll), .int .i64 (lh)] 24) := ⟨_, rfl⟩
  rw [← hX1] at s1 HB ⊢
  clear hk1 hX1
  have sc1_0 := s1.out.c0; have sc1_1 := s1.out.c1; have sc1_l := s1.out.lt
  go_wp2_with fail
  refine Calls.mono (H1.out _) ?_
  rintro e wc1 ⟨rfl, hb⟩
  replace s1 := Lib.hid (s1.out.below hb)
  replace HB := Lib.hid (HB.out.trans (hb.mono HB.out.size))
  clear sc1_0 sc1_1 sc1_l
  clear hb
  go_wp2_with fail
  go_ret
  exact ⟨rfl, HB.out⟩
/-- The numbers of the first k lines. -/
def dlN (lat : Int) : Nat → List Int
  | 0 => []
  | k + 1 => dlN lat k ++ [dlL lat (6 + (k : Int)), dlH lat (6 + (k : Int))]
theorem infoSpanL : (Tryd.prog.info? 24).map (fun i => (i.zero, i.size, i.bytes)) = some (some (.agg #[.int .i64 0, .int .i64 0]), 2, 16) := by kernel_rfl
def LinesPost (lat : Int) (w : World) (e : Ending) (w' : World) : Prop := ∃ v : Value, e = .returned (.tuple #[v, .int .i64 0]) ∧ w'.ownsRow w.heap.size 24 2 v 13 ((dlN lat 13).map (Value.int .i64)) ∧ Below w.heap.size w w'
set_option maxRecDepth 100000 in
set_option maxHeartbeats 16000000 in
theorem Lines_ok (lat : Int) (w : World) (hT : SinT w) (a1 : 10000000 ≤ lat) (a2 : lat ≤ 220000000) : Calls Tryd.prog 41 #[.int .i64 lat] w (LinesPost lat w) := by
  obtain ⟨iS, hi, hy0, hy1, hy2⟩ := info_parts infoSpanL
  have HV := Lib.hid (fun h (g1 : 6 ≤ h) (g2 : h ≤ 18) W (hT : SinT W) => Line_ok lat h W hT (dl_ok a1 a2 g1 g2).ok)
  have HT := Lib.hid hT
  clear hT a1 a2
  go_enter Tryd.func41, Tryd.ntmps41
  go_wp2_with fail
  go_loopw [4, 5] (fun v i wr => ∃ k : Nat, k ≤ 13 ∧ i = .int .i64 (6 + (k : Int)) ∧ wr.ownsRow w.heap.size 24 2 v k ((dlN lat k).map (Value.int .i64)) ∧ Below w.heap.size w wr) (fun _ i _ => (19 - intOf i).toNat)
  case atStart => exact ⟨0, by omega, by simp, World.ownsRow_nil _ _ _ _, by go_grown⟩
  case round =>
    obtain ⟨k, hk, rfl, hown, hbl⟩ := hrel
    have hsz := hbl.size
    by_cases hlt : k < 13
    · obtain ⟨h, hh⟩ : ∃ x, x = 6 + (k : Int) := ⟨_, rfl⟩
      have hnx : h + 1 = 6 + ((k + 1 : Nat) : Int) := by rw [hh]; omega
      have hv := Lib.hid (HV.out h (by omega) (by omega))
      have hle : h ≤ 18 := by omega
      have HA := Lib.hid hh
      obtain ⟨lo, hlo⟩ : ∃ x, x = dlL lat h := ⟨_, rfl⟩
      obtain ⟨hi', hhi⟩ : ∃ x, x = dlH lat h := ⟨_, rfl⟩
      rw [← hlo, ← hhi] at hv
      have HLO := Lib.hid hlo; have HHI := Lib.hid hhi; have HNX := Lib.hid hnx
      have T1 := Lib.hid (HT.out.below hbl)
      have HO := Lib.hid hown; have HBL := Lib.hid hbl
      rw [← hh]
      have h0 : 0 ≤ h := by omega
      clear hh hlo hhi hnx hown hbl
      go_wp2_with fail
      refine Calls.mono (hv.out _ T1.out) ?_
      rintro e w4 ⟨rfl, hb⟩
      have hb4 := HBL.out.trans (hb.mono HBL.out.size)
      have hs4 := hb4.size
      have ho4 := own_below HO.out hb
      clear hb
      go_wp2_with (at_builtin; refine wpList_append_own _ rfl _ _ 39 rfl w.heap.size 24 iS (.agg #[.int .i64 0, .int .i64 0]) 2 16 Tryd.underlying39 hi hy0 hy1 hy2 rfl (by decide) _ _ _ rfl ((ho4.alloc _).alloc _) ⟨w4.heap.size + 1, 0, none⟩ 1 1 [.int .i64 lo, .int .i64 hi'] rfl rfl ?c1 ?c2 ?c3 ?c4 ?c5 ?_)
      case c1 =>
        intro j u hu
        have := cells_two (w := w4.alloc (.cells #[.int .i64 lo, .int .i64 hi'] 24)) (t := 24) (x := .int .i64 lo) (y := .int .i64 hi') j u hu
        simpa using this
      case c2 => intro u hu; simp at hu; rcases hu with rfl | rfl <;> rfl
      case c3 => unfold maxLen; omega
      case c4 => omega
      case c5 => simp; omega
      · intro v' w5 hown' hgrow _
        have R : w5.ownsRow w.heap.size 24 2 v' (k + 1) ((dlN lat (k + 1)).map (Value.int .i64)) := by
          unfold dlN
          rw [← HA.out]
          simpa only [List.map_append, List.map_cons, List.map_nil, ← HLO.out, ← HHI.out] using hown'
        have hs5 : w.heap.size ≤ (w4.alloc (.cells #[.int .i64 lo, .int .i64 hi'] 24)).heap.size := by simp; omega
        have hb5 := below_grew ((hb4.alloc hs4 _).alloc hs5 _) hgrow ((ho4.alloc _).alloc _)
        have HR := Lib.hid R; have HB5 := Lib.hid hb5
        clear hown' hgrow ho4 R hb5 hb4 hs5
        go_wp2_with fail
        go_roundw
        case rel => exact ⟨k + 1, by omega, by rw [HNX.out], HR.out, HB5.out⟩
        case measure => simp [intOf]; omega
    · obtain rfl : k = 13 := by omega
      have HO := Lib.hid hown; have HBL := Lib.hid hbl
      clear hown hbl
      go_wp2_with fail
      refine bodyPost_ret (v := .tuple #[_, .int .i64 0]) ?_ rfl ⟨_, rfl, HO.out, HBL.out⟩
      simp [results, Tryd.results41, go_sem, *]
end Go.Proofs.YtdeoahgcppbmkaaDoor
