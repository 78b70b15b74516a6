/- LinkBestHonest, the walk: the interval of several exchanges contains the offset, and is within that of each. -/
import Derived.Test.YtaemgglkdeklmaaLinkBest
import Derived.Test.YtaemgglkdeklmaaLinkHonest
import Derived.Test.YtaemgglkdeklmaaAgree
import Derived.Test.YtaemgglkdeklmaaSpan
namespace Go.Proofs.Ytaemgglkdeklmaa
open Go.RowKit
set_option linter.unusedSimpArgs false
set_option linter.unusedVariables false

def exNums (zs : List Int) (o : Int) : Nat → List Int
  | 0 => []
  | k + 1 => exNums zs o k ++ [5000 * (k : Int), 5000 * (k : Int) + ix zs (k * 3) % 1000 + ix zs (k * 3 + 1) % 1000 + ix zs (k * 3 + 2) % 1000, 5000 * (k : Int) + ix zs (k * 3) % 1000 + o, 5000 * (k : Int) + ix zs (k * 3) % 1000 + ix zs (k * 3 + 1) % 1000 + o]
theorem exNums_len (zs : List Int) (o : Int) (k : Nat) : (exNums zs o k).length = k * 4 := by
  induction k with
  | zero => rfl
  | succ k ih => simp [exNums, ih]; omega
theorem exNums_at (zs : List Int) (o : Int) (m j : Nat) (h : j < m) :
    ix (exNums zs o m) (j * 4) = 5000 * (j : Int) ∧ ix (exNums zs o m) (j * 4 + 1) = 5000 * (j : Int) + ix zs (j * 3) % 1000 + ix zs (j * 3 + 1) % 1000 + ix zs (j * 3 + 2) % 1000 ∧ ix (exNums zs o m) (j * 4 + 2) = 5000 * (j : Int) + ix zs (j * 3) % 1000 + o ∧ ix (exNums zs o m) (j * 4 + 3) = 5000 * (j : Int) + ix zs (j * 3) % 1000 + ix zs (j * 3 + 1) % 1000 + o := by
  induction m with
  | zero => omega
  | succ m ih =>
    have hl := exNums_len zs o m
    simp only [exNums, ix, List.getD_eq_getElem?_getD] at ih ⊢
    rcases Nat.lt_or_eq_of_le (Nat.le_of_lt_succ h) with h1 | rfl
    · rw [List.getElem?_append_left (by omega), List.getElem?_append_left (by omega), List.getElem?_append_left (by omega), List.getElem?_append_left (by omega)]
      exact ih h1
    · rw [List.getElem?_append_right (by omega), List.getElem?_append_right (by omega), List.getElem?_append_right (by omega), List.getElem?_append_right (by omega), hl]
      simp
theorem exNums_ok (zs : List Int) (o : Int) (m : Nat) (hm : m ≤ 10) (h0 : -1000000 < o) (h1 : o < 1000000) : ExsOk (exNums zs o m) m o := by
  refine ⟨by omega, fun k hk => ?_, fun k hk => ?_⟩
  · obtain ⟨e0, e1, e2, e3⟩ := exNums_at zs o m k hk
    rw [e0, e1, e2, e3]
    exact exOk_of (by omega) (by omega) (by omega) (by omega) (by omega)
  · obtain ⟨e0, e1, e2, e3⟩ := exNums_at zs o m k hk
    unfold oLo oHi
    rw [e0, e1, e2, e3]
    omega

theorem Try.infoEx : (Try.prog.info? 27).map (fun i => (i.zero, i.size, i.bytes)) = some (some (.agg #[.int .i64 0, .int .i64 0, .int .i64 0, .int .i64 0]), 4, 32) := by kernel_rfl

set_option maxRecDepth 100000 in
set_option maxHeartbeats 8000000 in
theorem linkBestHonest_walk (o0 : Int) (A : Option Addr) (n cap : Nat) (zs : List Int) (w : World) (hF : FlatSl w 3 A n cap zs) :
    Calls Try.prog 4 #[.int .i64 o0, .slice A n cap] w fun e w' => e = .returned (.bool true) ∧ Below w.heap.size w w' := by
  obtain ⟨i0, hi, hz0, hz1, hz2⟩ := info_parts Try.infoEx
  have m1 := Int.lt_tmod_of_pos o0 (show 0 < 1000000 by omega)
  have m2 := Int.tmod_lt_of_pos o0 (show 0 < 1000000 by omega)
  obtain ⟨o, ho⟩ : ∃ t, t = o0.tmod 1000000 := ⟨_, rfl⟩
  rw [← ho] at m1 m2
  have HO := Lib.hid ho; clear ho
  obtain ⟨hle, hmost, hlen, hat⟩ := hF
  have HL := Lib.hid hlen; clear hlen
  have hm : n ≤ 9223372036854775807 := by unfold maxLen at hmost; omega
  clear hmost
  go_enter Try.func4, Try.ntmps4
  go_wp2_with fail
  refine Calls.mono (linkWorks_ok _) ?_
  rintro e w1 ⟨rfl, hb⟩
  obtain ⟨hb1, hz1, hc1, hf1⟩ := took (w := w) (by repeat' (first | (with_reducible refine below_drewN ?_ _) | go_grown)) (by first | (simp only [World.size_alloc, World.size_setCell, World.size_drew, size_drewN]; done) | (simp only [World.size_alloc, World.size_setCell, World.size_drew, size_drewN]; rfl) | rfl) hb; clear hb
  go_wp2_with fail
  rw [← HO.out]
  clear hc1 hf1
  go_loopw [5, 23] (fun v i wr => ∃ k : Nat, k ≤ n ∧ i = .int .i64 k ∧ wr.ownsRow w.heap.size 27 4 v (min k 10) ((exNums zs o (min k 10)).map (Value.int .i64)) ∧ Below w.heap.size w wr)
    (fun _ i _ => n - (intOf i).toNat)
  case atStart => exact ⟨0, by omega, rfl, World.ownsRow_nil _ _ _ _, hb1⟩
  case round =>
    obtain ⟨k, hk, rfl, hown, hbw⟩ := hrel
    have hbs := hbw.size
    clear hb1 hz1
    by_cases hlt : k < n
    · obtain ⟨b, off, rfl, hcell⟩ := hat (by omega)
      have hb := World.block_lt_of_cell? w _ (hcell 0 (by omega))
      simp at hb
      have c0 : wr.cell? ⟨b, off + k * 3, none⟩ = some (.int .i64 (ix zs (k * 3))) := (hbw.cell (p := ⟨b, off + k * 3, none⟩) hb).trans (hcell (k * 3) (by omega))
      have c1 : wr.cell? ⟨b, off + k * 3 + 1, none⟩ = some (.int .i64 (ix zs (k * 3 + 1))) := (hbw.cell (p := ⟨b, off + k * 3 + 1, none⟩) hb).trans (hcell (k * 3 + 1) (by omega))
      have c2 : wr.cell? ⟨b, off + k * 3 + 2, none⟩ = some (.int .i64 (ix zs (k * 3 + 2))) := (hbw.cell (p := ⟨b, off + k * 3 + 2, none⟩) hb).trans (hcell (k * 3 + 2) (by omega))
      clear hcell hat
      by_cases h10 : k < 10
      · have e1 : min k 10 = k := by omega
        have e2 : min (k + 1) 10 = k + 1 := by omega
        rw [e1] at hown
        have E2 := Lib.hid e2
        clear e1 e2
        obtain ⟨x, hx⟩ : ∃ d, d = ix zs (k * 3) := ⟨_, rfl⟩
        obtain ⟨y, hy⟩ : ∃ d, d = ix zs (k * 3 + 1) := ⟨_, rfl⟩
        obtain ⟨z, hz⟩ : ∃ d, d = ix zs (k * 3 + 2) := ⟨_, rfl⟩
        have hnx : exNums zs o (k + 1) = exNums zs o k ++ [5000 * (k : Int), 5000 * (k : Int) + x % 1000 + y % 1000 + z % 1000, 5000 * (k : Int) + x % 1000 + o, 5000 * (k : Int) + x % 1000 + y % 1000 + o] := by rw [hx, hy, hz]; rfl
        rw [← hx] at c0
        rw [← hy] at c1
        rw [← hz] at c2
        have HNX := Lib.hid hnx
        clear hx hy hz hnx
        have k0 : (0 : Int) ≤ (k : Int) := by omega
        have k1 : (k : Int) < 10 := by omega
        have x0 : 0 ≤ x % 1000 := by omega
        have x1 : x % 1000 < 1000 := by omega
        have y0 : 0 ≤ y % 1000 := by omega
        have y1 : y % 1000 < 1000 := by omega
        have z0 : 0 ≤ z % 1000 := by omega
        have z1 : z % 1000 < 1000 := by omega
        go_wp2_with fail
        go_quiet ((first | (go_at_call 16; exact Calls.quiet_of_same ((at_any _ _ _ (by omega) (by omega)).mono fun _ _ h => ⟨h.1, h.2.symm⟩))))
        obtain ⟨W, hW⟩ : ∃ W, W = (wr.alloc (.cells #[.int .i64 x, .int .i64 y, .int .i64 z] 36)).drewN nq := ⟨_, rfl⟩
        rw [← hW]
        have hoW : W.ownsRow w.heap.size 27 4 u5 k ((exNums zs o k).map (Value.int .i64)) := by rw [hW]; exact hown.alloc _
        have hbW : Below w.heap.size w W := by rw [hW]; exact below_drewN (hbw.alloc hbs _) _
        have g0 : W.cell? ⟨wr.heap.size, 0, none⟩ = some (.int .i64 x) := by rw [hW]; simp [go_sem]
        have hbWs := hbW.size
        clear hW hown hbw hbs c0 c1 c2
        go_wp2_with (at_builtin; refine wpList_append_own _ rfl _ _ 35 rfl w.heap.size 27 i0 _ 4 32 Try.underlying35 hi hz0 hz1 hz2 rfl (by decide) _ _ _ rfl (hoW.alloc _) ⟨W.heap.size, 0, none⟩ 1 1 [.int .i64 (5000 * (k : Int)), .int .i64 (5000 * (k : Int) + x % 1000 + y % 1000 + z % 1000), .int .i64 (5000 * (k : Int) + x % 1000 + o), .int .i64 (5000 * (k : Int) + x % 1000 + y % 1000 + o)] rfl rfl ?c1 ?c2 ?c3 ?c4 ?c5 ?_)
        case c1 => exact cells_four
        case c2 => simp [Value.oneCell']
        case c3 => unfold maxLen; omega
        case c4 => omega
        case c5 => simp; omega
        · intro v' w3 hown' hgrow _
          have R : w3.ownsRow w.heap.size 27 4 v' (min (k + 1) 10) ((exNums zs o (min (k + 1) 10)).map (Value.int .i64)) := by
            rw [E2.out, HNX.out]
            simpa only [List.map_append, List.map_cons, List.map_nil] using hown'
          have hb3 := below_grew (hbW.alloc hbWs _) hgrow (hoW.alloc _)
          clear hown' hgrow hoW
          go_wp2_with fail
          go_roundw
          case rel => exact ⟨k + 1, by omega, by go_num, R, hb3⟩
          case measure => simp [intOf]; omega
      · have e1 : min k 10 = min (k + 1) 10 := by omega
        rw [e1] at hown
        clear e1
        go_wp2_with fail
        go_roundw
        case rel => exact ⟨k + 1, by omega, by go_num, hown.alloc _, hbw.alloc hbs _⟩
        case measure => simp [intOf]; omega
    · obtain rfl : k = n := by omega
      obtain ⟨A3, cap3, hv, hF3⟩ := own_flat hown
      subst hv
      obtain ⟨m, hm10⟩ : ∃ m, m = min k 10 := ⟨_, rfl⟩
      rw [← hm10] at hF3
      have hm9 : m ≤ 10 := by omega
      rw [← hm10]
      have HM := Lib.hid hm10
      clear hm10 hown
      have hX := exNums_ok zs o m hm9 m1 m2
      obtain ⟨ys, hys⟩ : ∃ ys, ys = exNums zs o m := ⟨_, rfl⟩
      rw [← hys] at hF3 hX
      clear hys
      by_cases hm0 : m = 0
      · subst hm0
        go_wp2_with fail
        refine Calls.mono (linkBest_nil _ _ _) ?_
        rintro e w2 ⟨rfl, hb⟩
        have hb2 := hbw.trans (hb.mono hbs)
        clear hb
        go_wp2_with fail
        go_ret
        exact ⟨rfl, hb2.alloc hb2.size _⟩
      · have q0 : ((m : Int) == 0) = false := by simp; omega
        obtain ⟨lo, hlo⟩ : ∃ x, x = bLo ys m := ⟨_, rfl⟩
        obtain ⟨hi', hhi⟩ : ∃ x, x = bHi ys m := ⟨_, rfl⟩
        have hmid := bLo_le hX (by omega) m (Nat.le_refl _)
        have heach := bLo_each ys m
        rw [← hlo, ← hhi] at hmid
        obtain ⟨hmid1, hmid2⟩ := hmid
        have HLO := Lib.hid hlo; have HHI := Lib.hid hhi; have HX := Lib.hid hX; have HE := Lib.hid heach
        clear hlo hhi hX heach
        go_wp2_with fail
        refine Calls.mono (linkBest_ok _ _ _ _ o _ hF3 HX.out (by omega)) ?_
        rintro e w2 ⟨rfl, hb⟩
        rw [← HLO.out, ← HHI.out]
        have hF4 := (hF3.keep (by omega) hb).atop (by omega) (.cells #[.int .i64 lo, .int .i64 hi'] 25)
        have hb2 := hbw.trans (hb.mono hbs)
        have hbs2 := hb2.size
        have X1 := SpBox.new w2 lo hi'
        clear hF3 hb hbw hbs
        go_wp2_with fail
        have X2 := X1
        clear X1
        go_loopw [81] (fun i wr => ∃ j : Nat, j ≤ m ∧ i = .int .i64 j ∧ SpBox wr w2.heap.size lo hi' ∧ FlatSl wr 4 A3 m cap3 ys ∧ Below w.heap.size w wr ∧ w2.heap.size < wr.heap.size) (fun i _ => m - (intOf i).toNat)
        case atStart => exact ⟨0, by omega, rfl, X2, hF4, hb2.alloc hbs2 _, by simp⟩
        case round =>
          clear hb2 hF4 X2
          obtain ⟨j, hj, rfl, X1, hF, hbw, hz⟩ := hrel
          have hbs := hbw.size
          have d0 := X1.c0
          have d1 := X1.c1
          by_cases hlt : j < m
          · obtain ⟨b, off, rfl, hcell⟩ := hF.at' (by omega)
            have hb := World.block_lt_of_cell? wr _ (hcell 0 (by omega))
            simp at hb
            have c0 := hcell (j * 4) (by omega)
            have c1 : wr.cell? ⟨b, off + j * 4 + 1, none⟩ = some (.int .i64 (ix ys (j * 4 + 1))) := hcell (j * 4 + 1) (by omega)
            have c2 : wr.cell? ⟨b, off + j * 4 + 2, none⟩ = some (.int .i64 (ix ys (j * 4 + 2))) := hcell (j * 4 + 2) (by omega)
            have c3 : wr.cell? ⟨b, off + j * 4 + 3, none⟩ = some (.int .i64 (ix ys (j * 4 + 3))) := hcell (j * 4 + 3) (by omega)
            obtain ⟨e1, e2⟩ := HE.out j hlt
            have hex := HX.out.each j hlt
            rw [← HLO.out] at e1
            rw [← HHI.out] at e2
            unfold oLo at e1
            unfold oHi at e2
            obtain ⟨s, hs⟩ : ∃ s, s = ix ys (j * 4) := ⟨_, rfl⟩
            obtain ⟨r, hr⟩ : ∃ r, r = ix ys (j * 4 + 1) := ⟨_, rfl⟩
            obtain ⟨p, hp⟩ : ∃ lo, lo = ix ys (j * 4 + 2) := ⟨_, rfl⟩
            obtain ⟨q, hq⟩ : ∃ hi, hi = ix ys (j * 4 + 3) := ⟨_, rfl⟩
            rw [← hs, ← hr, ← hp, ← hq] at hex
            rw [← hs] at c0 e2
            rw [← hr] at c1 e1
            rw [← hp] at c2 e2
            rw [← hq] at c3 e1
            have HEX := Lib.hid hex
            have HFF := Lib.hid hF
            clear hs hr hp hq hex hcell hF
            go_wp2_with fail
            refine Calls.mono (linkOffset_ok _ _ _ _ _ HEX.out) ?_
            rintro e w4 ⟨rfl, hb4⟩
            have X3 := (X1.alloc (.cells #[.int .i64 s, .int .i64 r, .int .i64 p, .int .i64 q] 27)).below hb4
            have F3 := (HFF.out.atop (by omega) (.cells #[.int .i64 s, .int .i64 r, .int .i64 p, .int .i64 q] 27)).keep (by omega) hb4
            have hb5 := (hbw.alloc hbs (.cells #[.int .i64 s, .int .i64 r, .int .i64 p, .int .i64 q] 27)).trans (hb4.mono (by simp; omega))
            have hbs5 := hb5.size
            have hz5 := X3.lt
            have g0 := X3.c0
            have g1 := X3.c1
            have HF3 := Lib.hid F3
            clear X1 hb4 hbw c0 c1 c2 c3 d0 d1 F3
            go_wp2_with fail
            refine Calls.mono (holds_true _ _ _ _ _ e1 e2) ?_
            rintro e w5 ⟨rfl, hb⟩
            have X4 := (X3.alloc (.cells #[.int .i64 (q - r), .int .i64 (p - s)] 25)).below hb
            have F4 := (HF3.out.atop (by omega) (.cells #[.int .i64 (q - r), .int .i64 (p - s)] 25)).keep (by omega) hb
            have hb6 := (hb5.alloc hbs5 (.cells #[.int .i64 (q - r), .int .i64 (p - s)] 25)).trans (hb.mono (by simp; omega))
            have hz6 := X4.lt
            have HF4 := Lib.hid F4
            clear X3 hb hb5 F4 g0 g1
            go_wp2_with fail
            go_roundw
            case rel => exact ⟨j + 1, by omega, by go_num, X4, HF4.out, hb6, hz6⟩
            case measure => simp [intOf]; omega
          · obtain rfl : j = m := by omega
            go_wp2_with fail
            go_ret
            exact ⟨rfl, hbw⟩

end Go.Proofs.Ytaemgglkdeklmaa
