/- The contracts of package smear, at tables that are permitted. -/
import Derived.Test.YtmeppcoekmoofaaSmearPlain
namespace Go.Proofs.Ytmeppcoekmoofaa
open Go.RowKit
set_option linter.unusedSimpArgs false
set_option linter.unusedVariables false

set_option maxHeartbeats 400000 in
theorem smearCheck_ok (A : Option Addr) (n cap : Nat) (zs : List Int) (half : Int) (w : World) (h : FlatSl w 2 A n cap zs) (hL : LeapOk zs n) (h0 : 1000 ≤ half) (h1 : half ≤ 43200000) :
    Calls Try.prog 51 #[.slice A n cap, .int .i64 half] w fun e w' => e = .returned (.int .i64 0) ∧ Below w.heap.size w w' := by
  have H := Lib.hid h; clear h
  go_enter Try.func51, Try.ntmps51
  go_wp2_with fail
  refine Calls.mono (leapCheck_ok _ _ _ _ _ H.out hL) ?_
  rintro e w1 ⟨rfl, hb⟩
  obtain ⟨hb1, hz1, hc1, hf1⟩ := took (w := w) (by repeat' (first | (with_reducible refine below_drewN ?_ _) | go_grown)) (by first | (simp only [World.size_alloc, World.size_setCell, World.size_drew, size_drewN]; done) | (simp only [World.size_alloc, World.size_setCell, World.size_drew, size_drewN]; rfl) | rfl) hb; clear hb
  go_wp2_with fail
  go_returns
  exact ⟨rfl, by repeat' (first | (with_reducible refine below_drewN ?_ _) | go_grown)⟩

def SmearPost (zs : List Int) (half : Int) (n : Nat) (c : Int) (w : World) (e : Ending) (w' : World) : Prop :=
  ∃ out, e = .returned (.tuple #[.int .i64 out, .int .i64 0]) ∧ SmIn zs half c n out ∧ Below w.heap.size w w'

set_option maxRecDepth 100000 in
set_option maxHeartbeats 8000000 in
theorem smear_ok (A : Option Addr) (n cap : Nat) (zs : List Int) (half c : Int) (w : World) (h : FlatSl w 2 A n cap zs) (hL : LeapOk zs n) (h0 : 1000 ≤ half) (h1 : half ≤ 43200000) (hc0 : -100000 ≤ c) (hc1 : c ≤ 800000000000) :
    Calls Try.prog 24 #[.slice A n cap, .int .i64 half, .int .i64 c] w (SmearPost zs half n c w) := by
  have hf := hL.few
  obtain ⟨hl, hm, hz, ha⟩ := id h
  have H := Lib.hid h; clear h
  have HZ := Lib.hid hz; clear hz
  go_enter Try.func24, Try.ntmps24
  go_wp2_with fail
  refine Calls.mono (smearCheck_ok _ _ _ _ _ _ H.out hL h0 h1) ?_
  rintro e w1 ⟨rfl, hb⟩
  obtain ⟨hb1, hz1, hc1, hf1⟩ := took (w := w) (by repeat' (first | (with_reducible refine below_drewN ?_ _) | go_grown)) (by first | (simp only [World.size_alloc, World.size_setCell, World.size_drew, size_drewN]; done) | (simp only [World.size_alloc, World.size_setCell, World.size_drew, size_drewN]; rfl) | rfl) hb; clear hb
  go_wp2_with fail
  refine Calls.mono (far_false _ _ (by omega) (by omega)) ?_
  rintro e _ ⟨rfl, rfl⟩
  go_wp2_with fail
  have hk1 := H.out.keep (by omega) hb1
  go_loopw [9, 10, 27] (fun v o i wr => ∃ (k : Nat) (out : Int), k ≤ n ∧ i = .int .i64 k ∧ v = .int .i64 (nsum zs k) ∧ o = .int .i64 out ∧ SmIn zs half c k out ∧ Below w.heap.size w wr ∧ Below w1.heap.size w1 wr) (fun _ _ i _ => n - (intOf i).toNat)
  case atStart => exact ⟨0, c, by omega, rfl, rfl, rfl, smIn_zero _ _ _, (by repeat' (first | (with_reducible refine below_drewN ?_ _) | go_grown)), (by repeat' (first | (with_reducible refine below_drewN ?_ _) | go_grown))⟩
  case round =>
    obtain ⟨k, out, hk, rfl, rfl, rfl, hpa, hbw, hbv⟩ := hrel
    have HP := Lib.hid hpa; clear hpa
    have hbs := hbw.size
    have hbvs := hbv.size
    have nb := nsum_bounds hL k hk
    have ob := smIn_bounds hL h0 h1 hk HP.out
    by_cases hlt : k < n
    · obtain ⟨b, off, rfl, hcell⟩ := hk1.at' (by omega)
      obtain ⟨c0, c1, hbl⟩ := leap_cells hcell (World.block_lt_of_cell? w1 _ (hcell 0 (by omega))) hbv hlt
      have hs := hL.sh k hlt
      have l1 := hL.lo k hlt
      have l2 := hL.hi k hlt
      clear hcell hk1
      obtain ⟨B, hB⟩ : ∃ B, B = sB zs half k := ⟨_, rfl⟩
      have hB2 : B = (ix zs (k * 2) + 1) * 86400000 - half + 1000 * nsum zs k := hB
      have HB := Lib.hid hB; have HB2 := Lib.hid hB2; 
      have hW : sW zs half k = 2 * half + 1000 * ix zs (k * 2 + 1) := rfl
      have hnx : nsum zs (k + 1) = nsum zs k + ix zs (k * 2 + 1) := rfl
      have HW := Lib.hid hW; have HX := Lib.hid hnx; clear hW hnx hB hB2
      obtain ⟨s, hse⟩ : ∃ s, s = ix zs (k * 2 + 1) := ⟨_, rfl⟩
      rw [← hse] at c1 hs HX HW
      have HS := Lib.hid hse; clear hse
      rcases hs with rfl | rfl
      · have hB3 := HB2.out
        rw [HB.out] at hB3
        have hx1 : sW zs half k = 2 * half + 1000 := by rw [HW.out]; omega
        by_cases q1 : c < (ix zs (k * 2) + 1) * 86400000 - half + 1000 * nsum zs k
        · have R := Lib.hid (smIn_wait (n := n) HP.out (by omega))
          clear hB3 hx1
          go_wp2_with fail
          go_quiet (fail)
          go_wp2_with fail
          go_roundw
          case rel => exact ⟨k + 1, out, by omega, by go_num, by rw [HX.out], rfl, R.out, below_drewN (hbw.alloc hbs _) _, below_drewN (hbv.alloc hbvs _) _⟩
          case measure => simp [intOf]; omega
        · by_cases q2 : c < (ix zs (k * 2) + 1) * 86400000 - half + 1000 * nsum zs k + (2 * half + 1000)
          · have R := smIn_in hL h0 h1 hlt HP.out (by omega) (by omega)
            rw [hB3, hx1] at R
            have R' := Lib.hid R; clear R
            have sq := sm_quot (half := half) (x := c - ((ix zs (k * 2) + 1) * 86400000 - half + 1000 * nsum zs k)) (W := 2 * half + 1000) h0 h1 (by omega) (by omega) (by omega)
            rw [← sq.2.2.1] at sq
            obtain ⟨e1, e2, -, e3, e4⟩ := sq
            clear hB3 hx1
            obtain ⟨Q, hQ⟩ : ∃ Q, ((c - ((ix zs (k * 2) + 1) * 86400000 - half + 1000 * nsum zs k)) * 2 * half).tdiv (2 * half + 1000) = Q := ⟨_, rfl⟩
            rw [hQ] at e3 e4
            have R2 := R'.out
            rw [hQ] at R2
            have R := Lib.hid R2
            clear R' R2
            have e5 : (2 * half + 1000 == 0) = false := by simp; omega
            go_wp2_with fail
            go_quiet (fail)
            go_wp2_with fail
            go_roundw
            case rel => exact ⟨k + 1, _, by omega, by go_num, by rw [HX.out], rfl, R.out, below_drewN (hbw.alloc hbs _) _, below_drewN (hbv.alloc hbvs _) _⟩
            case measure => simp [intOf]; omega
          · have R := Lib.hid (smIn_past hL h0 h1 hlt HP.out (by omega))
            clear hB3 hx1
            go_wp2_with fail
            go_quiet (fail)
            go_wp2_with fail
            go_roundw
            case rel => exact ⟨k + 1, _, by omega, by go_num, by rw [HX.out], rfl, by rw [← HX.out]; exact R.out, below_drewN (hbw.alloc hbs _) _, below_drewN (hbv.alloc hbvs _) _⟩
            case measure => simp [intOf]; omega
      · have hB3 := HB2.out
        rw [HB.out] at hB3
        have hx1 : sW zs half k = 2 * half + -1000 := by rw [HW.out]; omega
        by_cases q1 : c < (ix zs (k * 2) + 1) * 86400000 - half + 1000 * nsum zs k
        · have R := Lib.hid (smIn_wait (n := n) HP.out (by omega))
          clear hB3 hx1
          go_wp2_with fail
          go_quiet (fail)
          go_wp2_with fail
          go_roundw
          case rel => exact ⟨k + 1, out, by omega, by go_num, by rw [HX.out], rfl, R.out, below_drewN (hbw.alloc hbs _) _, below_drewN (hbv.alloc hbvs _) _⟩
          case measure => simp [intOf]; omega
        · by_cases q2 : c < (ix zs (k * 2) + 1) * 86400000 - half + 1000 * nsum zs k + (2 * half + -1000)
          · have R := smIn_in hL h0 h1 hlt HP.out (by omega) (by omega)
            rw [hB3, hx1] at R
            have R' := Lib.hid R; clear R
            have sq := sm_quot (half := half) (x := c - ((ix zs (k * 2) + 1) * 86400000 - half + 1000 * nsum zs k)) (W := 2 * half + -1000) h0 h1 (by omega) (by omega) (by omega)
            rw [← sq.2.2.1] at sq
            obtain ⟨e1, e2, -, e3, e4⟩ := sq
            clear hB3 hx1
            obtain ⟨Q, hQ⟩ : ∃ Q, ((c - ((ix zs (k * 2) + 1) * 86400000 - half + 1000 * nsum zs k)) * 2 * half).tdiv (2 * half + -1000) = Q := ⟨_, rfl⟩
            rw [hQ] at e3 e4
            have R2 := R'.out
            rw [hQ] at R2
            have R := Lib.hid R2
            clear R' R2
            have e5 : (2 * half + -1000 == 0) = false := by simp; omega
            go_wp2_with fail
            go_quiet (fail)
            go_wp2_with fail
            go_roundw
            case rel => exact ⟨k + 1, _, by omega, by go_num, by rw [HX.out], rfl, R.out, below_drewN (hbw.alloc hbs _) _, below_drewN (hbv.alloc hbvs _) _⟩
            case measure => simp [intOf]; omega
          · have R := Lib.hid (smIn_past hL h0 h1 hlt HP.out (by omega))
            clear hB3 hx1
            go_wp2_with fail
            go_quiet (fail)
            go_wp2_with fail
            go_roundw
            case rel => exact ⟨k + 1, _, by omega, by go_num, by rw [HX.out], rfl, by rw [← HX.out]; exact R.out, below_drewN (hbw.alloc hbs _) _, below_drewN (hbv.alloc hbvs _) _⟩
            case measure => simp [intOf]; omega
    · obtain rfl : k = n := by omega
      go_wp2_with fail
      refine Calls.mono (isInstant_true _ _ (by omega) (by omega)) ?_
      rintro e _ ⟨rfl, n1, rfl⟩
      go_wp2_with fail
      go_returns
      exact ⟨_, rfl, HP.out, below_drewN hbw _⟩

end Go.Proofs.Ytmeppcoekmoofaa
