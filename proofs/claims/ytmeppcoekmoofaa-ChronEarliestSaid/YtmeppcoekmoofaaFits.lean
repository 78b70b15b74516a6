/- The contract of chron.Fits, at days that satisfy all constraints. -/
import Derived.Test.YtmeppcoekmoofaaEvLaw
namespace Go.Proofs.Ytmeppcoekmoofaa
open Go.RowKit
set_option linter.unusedSimpArgs false
set_option linter.unusedVariables false

set_option maxRecDepth 100000 in
set_option maxHeartbeats 8000000 in
theorem fits_ok (A : Option Addr) (m cap : Nat) (zs : List Int) (Ad : Option Addr) (N capd : Nat) (dz : List Int) (w : World) (h : FlatSl w 4 A m cap zs) (hd : FlatSl w 1 Ad N capd dz) (hC : ChronOk N (bds zs m))
    (hr : ∀ i, i < N → -1000000000 ≤ ix dz i ∧ ix dz i ≤ 1000000000) (hs : ∀ c, c ∈ bds zs m → Sat (ix dz) c) :
    Calls Try.prog 17 #[.int .i64 N, .slice A m cap, .slice Ad N capd] w fun e w' => e = .returned (.tuple #[.bool true, .int .i64 0]) ∧ Below w.heap.size w w' := by
  have hz := chronChk_zero.2 hC
  have hn1 := hC.n1
  have hn12 := hC.n12
  have hm40 := hC.few
  rw [bds_len] at hm40
  have HC := Lib.hid hC; have HZ := Lib.hid hz; have HR := Lib.hid hr; have HS := Lib.hid hs; have H := Lib.hid h; have HD := Lib.hid hd
  obtain ⟨dle, -, -, dat⟩ := hd
  obtain ⟨bd, od, rfl, dcell⟩ := dat (by omega)
  obtain ⟨lle, -, -, lat⟩ := h
  have hbd := World.block_lt_of_cell? w _ (dcell 0 (by omega))
  have DC := Lib.hid dcell; clear dcell dat hC hz hr hs
  go_enter Try.func17, Try.ntmps17
  go_wp2_with fail
  refine Calls.mono (chronCheck_any _ _ _ _ (N : Nat) _ H.out) ?_
  rintro e w1 ⟨rfl, hb1⟩
  rw [HZ.out]
  have hs1 := hb1.size
  go_wp2_with fail
  go_loopw [26] (fun i wr => ∃ k : Nat, k ≤ N ∧ i = .int .i64 k ∧ Below w.heap.size w wr) (fun i _ => N - (intOf i).toNat)
  case atStart => exact ⟨0, by omega, rfl, hb1⟩
  case round =>
    clear hb1 hs1
    obtain ⟨k, hk, rfl, hbw⟩ := hrel
    by_cases hlt : k < N
    · have d1 : wr.cell? ⟨bd, od + k, none⟩ = some (.int .i64 (ix dz k)) := (hbw.cell (p := ⟨bd, od + k, none⟩) hbd).trans (DC.out k (by omega))
      obtain ⟨r1, r2⟩ := HR.out k hlt
      go_wp2_with fail
      go_roundw
      case rel => exact ⟨k + 1, by omega, by go_num, hbw⟩
      case measure => simp [intOf]; omega
    · obtain rfl : k = N := by omega
      go_wp2_with fail
      go_loopw [39] (fun i wr => ∃ j : Nat, j ≤ m ∧ i = .int .i64 j ∧ Below w.heap.size w wr) (fun i _ => m - (intOf i).toNat)
      case atStart => exact ⟨0, by omega, rfl, hbw⟩
      case round =>
        clear hbw
        obtain ⟨j, hj, rfl, hbw⟩ := hrel
        have hbs := hbw.size
        by_cases hjm : j < m
        · obtain ⟨b0, off, rfl, hcell⟩ := lat (by omega)
          obtain ⟨c0, c1, c2, c3, hbl⟩ := bd_cells hcell (World.block_lt_of_cell? w _ (hcell 0 (by omega))) hbw hjm
          clear hcell lat
          have hck := HC.out.each (bdAt zs j) (mem_bds.2 ⟨j, hjm, rfl⟩)
          have hsat := HS.out (bdAt zs j) (mem_bds.2 ⟨j, hjm, rfl⟩)
          obtain ⟨⟨ca, cb, lo, hi⟩, hc⟩ : ∃ x, x = bdAt zs j := ⟨_, rfl⟩
          rw [← hc] at c0 c1 c2 c3 hck hsat
          obtain ⟨p1, p2, p3, p4, p5, p6, p7, p8⟩ := hck
          unfold Sat at hsat
          simp only at c0 c1 c2 c3 p1 p2 p3 p4 p5 p6 p7 p8 hsat
          obtain ⟨a, rfl⟩ : ∃ a : Nat, ca = (a : Int) := ⟨ca.toNat, by omega⟩
          obtain ⟨b, rfl⟩ : ∃ b : Nat, cb = (b : Int) := ⟨cb.toNat, by omega⟩
          simp only [Int.toNat_natCast] at hsat
          obtain ⟨s1, s2⟩ := hsat
          obtain ⟨r1, r2⟩ := HR.out a (by omega)
          obtain ⟨r3, r4⟩ := HR.out b (by omega)
          have d1 : wr.cell? ⟨bd, od + a, none⟩ = some (.int .i64 (ix dz a)) := (hbw.cell (p := ⟨bd, od + a, none⟩) hbd).trans (DC.out a (by omega))
          have d2 : wr.cell? ⟨bd, od + b, none⟩ = some (.int .i64 (ix dz b)) := (hbw.cell (p := ⟨bd, od + b, none⟩) hbd).trans (DC.out b (by omega))
          have d3 : bd < wr.heap.size := by omega
          have e1 : IntKind.i64.wrap (ix dz b - ix dz a) = ix dz b - ix dz a := IntWalk.i64_in _ (by omega)
          clear hc p7
          go_wp2_with fail
          go_quiet (fail)
          go_wp2_with fail
          go_roundw
          case rel => exact ⟨j + 1, by omega, by go_num, below_drewN (hbw.alloc hbs _) _⟩
          case measure => simp [intOf]; omega
        · go_wp2_with fail
          go_returns
          exact ⟨rfl, hbw⟩

end Go.Proofs.Ytmeppcoekmoofaa
