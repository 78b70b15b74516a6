/- DisciplineHonest, the walk: if no more sources are wrong than is stated, the time is in the interval. -/
import Derived.Test.YtmeppcoekmoofaaDiscWorks
import Derived.Deep.RegionHeld3
namespace Go.Proofs.Ytmeppcoekmoofaa
open Go.RowKit
set_option linter.unusedSimpArgs false
set_option linter.unusedVariables false

def dhT (i : Nat) : Int := 10 + i
def dhLo (zs : List Int) (m : Nat) (wr T : Int) (i : Nat) : Int :=
  if i < m then (if (i : Int) < wr then min ((ix zs (i * 2)).tmod (1000000 + 1)) ((ix zs (i * 2 + 1)).tmod (1000000 + 1)) + T else T + i - ix zs (i * 2) % 100) else T + i - 3
def dhHi (zs : List Int) (m : Nat) (wr T : Int) (i : Nat) : Int :=
  if i < m then (if (i : Int) < wr then max ((ix zs (i * 2)).tmod (1000000 + 1)) ((ix zs (i * 2 + 1)).tmod (1000000 + 1)) + T else T + i + ix zs (i * 2 + 1) % 100) else T + i + 3
theorem dh_bounds (zs : List Int) (m : Nat) (wr T : Int) (i : Nat) (hi : i < 7) (h0 : -1000000000 < T) (h1 : T < 1000000000) : -2000000000 ≤ dhLo zs m wr T i ∧ dhLo zs m wr T i ≤ dhHi zs m wr T i ∧ dhHi zs m wr T i ≤ 2000000000 := by
  have := cut_bounds (ix zs (i * 2)) (ix zs (i * 2 + 1)) 1000000 (by omega)
  unfold dhLo dhHi
  split
  · split <;> omega
  · omega
theorem dh_right (zs : List Int) (m : Nat) (wr T : Int) (k i : Nat) (hw : wr = k) (hk : k ≤ i) : dhLo zs m wr T i ≤ T + i ∧ T + i ≤ dhHi zs m wr T i := by
  unfold dhLo dhHi
  split
  · rw [if_neg (by omega), if_neg (by omega)]; omega
  · omega
theorem dh_rds (zs : List Int) (m : Nat) (wr T : Int) (h0 : -1000000000 < T) (h1 : T < 1000000000) : RdsOk (rdNums (fedR dhT (dhLo zs m wr T) (dhHi zs m wr T) 7) 7) 7 66 := by
  refine ⟨by omega, by omega, fun j hj => ?_⟩
  obtain ⟨e1, e2, e3⟩ := fed_nums dhT (dhLo zs m wr T) (dhHi zs m wr T) 7 j hj
  have := dh_bounds zs m wr T j hj h0 h1
  rw [e1, e2, e3]
  unfold dhT
  omega

theorem Keep.other2 {w : World} {kb rb hb n : Nat} {d f last : Int} {R : Nat → Int} {H : Nat → Bool} (h : Keep w kb rb hb n d f last R H) {b : Nat} (h1 : kb ≠ b) (h2 : rb ≠ b) (h3 : hb ≠ b) (u v : Value) :
    Keep ((w.setCell ⟨b, 0, none⟩ u).setCell ⟨b, 1, none⟩ v) kb rb hb n d f last R H :=
  ⟨(h.k.setOther h1 _).setOther h1 _, (h.r.setOther h2 _).setOther h2 _, (h.h.setOther h3 _).setOther h3 _, h.n1, h.n2, h.n3⟩

set_option maxRecDepth 100000 in
set_option maxHeartbeats 8000000 in
theorem disciplineHonest_walk (d0 w0 t0 : Int) (A : Option Addr) (m cap : Nat) (zs : List Int) (w : World) (hF : FlatSl w 2 A m cap zs) :
    Calls Try.prog 13 #[.int .i64 d0, .int .i64 w0, .int .i64 t0, .slice A m cap] w fun e w' => e = .returned (.bool true) ∧ Below w.heap.size w w' := by
  have m1 := Int.lt_tmod_of_pos t0 (show 0 < 1000000000 by omega)
  have m2 := Int.tmod_lt_of_pos t0 (show 0 < 1000000000 by omega)
  obtain ⟨T, hT⟩ : ∃ t, t = t0.tmod 1000000000 := ⟨_, rfl⟩
  rw [← hT] at m1 m2
  obtain ⟨d, hd⟩ : ∃ x, x = d0 % 1000 := ⟨_, rfl⟩
  have d1 : 0 ≤ d := by omega
  have d2 : d ≤ 1000 := by omega
  obtain ⟨k, hk⟩ : ∃ x : Nat, (x : Int) = w0 % 3 := ⟨(w0 % 3).toNat, by omega⟩
  have k2 : k ≤ 2 := by omega
  have HT := Lib.hid hT; have HD := Lib.hid hd; have HK := Lib.hid hk; clear hT hd hk
  have HF := Lib.hid hF
  have hat := hF.at'
  have hmost := hF.most
  have hcap := hF.le
  have hm : m ≤ 9223372036854775807 := by unfold maxLen at hmost; omega
  clear hF hmost
  have hfr := fed_right (t := dhT) (lo := dhLo zs m k T) (hi := dhHi zs m k T) (n := 7) (f := 2) (k := k) (d := d) (tick := 66) (T := T + 56) d1 (by omega) (by omega) k2 (dh_rds zs m k T m1 m2) (fun j hj hn => by
    have := dh_right zs m k T k j rfl hj
    unfold dhT
    omega)
  have HFR := Lib.hid hfr; clear hfr
  go_enter Try.func13, Try.ntmps13
  go_wp2_with fail
  refine Calls.mono (disciplineWorks_ok _) ?_
  rintro e w1 ⟨rfl, hb⟩
  obtain ⟨hb1, hz1, hc1, hf1⟩ := took (w := w) (by repeat' (first | (with_reducible refine below_drewN ?_ _) | go_grown)) (by first | (simp only [World.size_alloc, World.size_setCell, World.size_drew, size_drewN]; done) | (simp only [World.size_alloc, World.size_setCell, World.size_drew, size_drewN]; rfl) | rfl) hb; clear hb
  clear hc1 hf1
  go_wp2_with fail
  refine Calls.mono (at_any _ _ _ (by omega) (by omega)) ?_
  rintro e _ ⟨rfl, rfl⟩
  rw [← HD.out]
  go_wp2_with fail
  refine Calls.mono (at_any _ _ _ (by omega) (by omega)) ?_
  rintro e _ ⟨rfl, rfl⟩
  rw [← HK.out]
  go_wp2_with fail
  rw [← HT.out]
  refine Calls.mono (keepNew_ok d 7 2 _ d1 (by omega) (by omega) (by omega) (by omega)) ?_
  rintro e w2 ⟨kb, rb, hb, rfl, hK, b1, b2, b3, hb2⟩
  have hbw := hb1.trans (hb2.mono hz1)
  have c1 : w.heap.size ≤ kb := by omega
  have c2 : w.heap.size ≤ rb := by omega
  have c3 : w.heap.size ≤ hb := by omega
  clear hb1 hb2 hz1 b1 b2 b3
  go_wp2_with fail
  go_loopw [34] (fun i' wr => ∃ (i : Nat) (last : Int), i ≤ 7 ∧ i' = .int .i64 i ∧ last ≤ 10 + (i : Int) ∧ Keep wr kb rb hb 7 d 2 last (fedR dhT (dhLo zs m k T) (dhHi zs m k T) i) (fedH i) ∧ Below w.heap.size w wr) (fun i' _ => 7 - (intOf i').toNat)
  case atStart => exact ⟨0, 0, by omega, rfl, by omega, hK, hbw⟩
  case round =>
    clear hK hbw
    obtain ⟨i, last, hi, rfl, hl, hK, hbw⟩ := hrel
    have HK := Lib.hid hK; clear hK
    have hbs := hbw.size
    by_cases hlt : i < 7
    · have i0 : (0 : Int) ≤ (i : Int) := by omega
      have i1 : (i : Int) < 7 := by omega
      have hbd := dh_bounds zs m k T i hlt m1 m2
      obtain ⟨lo, hlo⟩ : ∃ x, x = dhLo zs m k T i := ⟨_, rfl⟩
      obtain ⟨hi', hhi⟩ : ∃ x, x = dhHi zs m k T i := ⟨_, rfl⟩
      rw [← hlo, ← hhi] at hbd
      obtain ⟨bd1, bd2, bd3⟩ := hbd
      have HLO := Lib.hid hlo; have HHI := Lib.hid hhi
      by_cases him : i < m
      · obtain ⟨b, off, rfl, hcell⟩ := hat (by omega)
        have hbl := World.block_lt_of_cell? w _ (hcell 0 (by omega))
        simp at hbl
        have x0 := (hbw.cell (p := ⟨b, off + i * 2, none⟩) hbl).trans (hcell (i * 2) (by omega))
        have x1 : wr.cell? ⟨b, off + i * 2 + 1, none⟩ = some (.int .i64 (ix zs (i * 2 + 1))) := (hbw.cell (p := ⟨b, off + i * 2 + 1, none⟩) hbl).trans (hcell (i * 2 + 1) (by omega))
        obtain ⟨x, hx⟩ : ∃ x, x = ix zs (i * 2) := ⟨_, rfl⟩
        obtain ⟨y, hy⟩ : ∃ x, x = ix zs (i * 2 + 1) := ⟨_, rfl⟩
        rw [← hx] at x0
        rw [← hy] at x1
        have i2 : (i : Int) < (m : Int) := by omega
        have z0 : 0 ≤ x % 100 := by omega
        have z1 : x % 100 < 100 := by omega
        have z2 : 0 ≤ y % 100 := by omega
        have z3 : y % 100 < 100 := by omega
        have hbr : b < wr.heap.size := by omega
        clear hcell hat hlo hhi
        go_wp2_with fail
        obtain ⟨W, hW⟩ : ∃ W, W = wr.alloc (.cells #[.int .i64 (T + i - 3), .int .i64 (T + i + 3)] 35) := ⟨_, rfl⟩
        rw [← hW]
        have hKW : Keep W kb rb hb 7 d 2 last (fedR dhT (dhLo zs m k T) (dhHi zs m k T) i) (fedH i) := by rw [hW]; exact HK.out.below ((Below.refl _ _).alloc (Nat.le_refl _) _)
        have hbW : Below w.heap.size w W := by rw [hW]; exact hbw.alloc hbs _
        have X : SpBox W wr.heap.size (T + i - 3) (T + i + 3) := by rw [hW]; exact SpBox.new wr _ _
        have y0 : W.cell? ⟨b, off + i * 2, none⟩ = some (.int .i64 x) := by rw [hW]; simp [go_sem, *]
        have y1 : W.cell? ⟨b, off + i * 2 + 1, none⟩ = some (.int .i64 y) := by rw [hW]; simp [go_sem, *]
        have f0 := X.c0
        have f1 := X.c1
        have f2 := X.free 0
        have f3 := X.free 1
        have e1 : IntKind.i64.wrap (T + (i : Int)) = T + (i : Int) := IntWalk.i64_in _ (by omega)
        have e2 : IntKind.i64.wrap (T + (i : Int) - x % 100) = T + (i : Int) - x % 100 := IntWalk.i64_in _ (by omega)
        have e3 : IntKind.i64.wrap (T + (i : Int) + y % 100) = T + (i : Int) + y % 100 := IntWalk.i64_in _ (by omega)
        have HKW := Lib.hid hKW; have HX0 := Lib.hid X; have HHX := Lib.hid hx; have HHY := Lib.hid hy
        have ne1 : wr.heap.size ≠ kb := by have := HK.out.k.lt; omega
        have ne2 : wr.heap.size ≠ rb := by have := HK.out.r.lt; omega
        have ne3 : wr.heap.size ≠ hb := by have := HK.out.h.lt; omega
        have ltW : wr.heap.size < W.heap.size := X.lt
        have ne4 : wr.heap.size ≠ b := by omega
        have ne5 : b ≠ wr.heap.size := by omega
        clear x0 x1 hW hKW X hx hy hbw
        go_region_held3 (fun w' => w'.cell? ⟨b, off + i * 2, none⟩ = some (.int .i64 x) ∧ w'.cell? ⟨b, off + i * 2 + 1, none⟩ = some (.int .i64 y))
          (first | go_keep)
          ((first | (go_at_call 19; refine Calls.mono (at_any _ _ _ (by omega) (by omega)) ?_; rintro e _ ⟨rfl, rfl⟩)))
        obtain ⟨W2, hW2⟩ : ∃ W2, W2 = ((W.setCell ⟨wr.heap.size, 0, none⟩ (.int .i64 (T + (i : Int) - x % 100))).setCell ⟨wr.heap.size, 1, none⟩ (.int .i64 (T + (i : Int) + y % 100))).drew := ⟨_, rfl⟩
        rw [← hW2]
        have X2 : SpBox W2 wr.heap.size (T + (i : Int) - x % 100) (T + (i : Int) + y % 100) := by rw [hW2]; exact (HX0.out.set _ _).drew
        have hK2 : Keep W2 kb rb hb 7 d 2 last (fedR dhT (dhLo zs m k T) (dhHi zs m k T) i) (fedH i) := by rw [hW2]; exact (HKW.out.other2 ne1.symm ne2.symm ne3.symm _ _).drewN 1
        have hb2 : Below w.heap.size w W2 := by rw [hW2]; exact ((hbW.setCell hbs _).setCell hbs _).drew
        have u0 : W2.cell? ⟨b, off + i * 2, none⟩ = some (.int .i64 x) := by rw [hW2]; simp [go_sem, *]
        have u1 : W2.cell? ⟨b, off + i * 2 + 1, none⟩ = some (.int .i64 y) := by rw [hW2]; simp [go_sem, *]
        have HK2 := Lib.hid hK2
        have hs2 := hb2.size
        have hz2 : wr.heap.size < W2.heap.size := X2.lt
        clear hW2 hK2 y0 y1 f0 f1 f2 f3 hbW e1 e2 e3
        have g0 := X2.c0
        have g1 := X2.c1
        by_cases hik : (i : Int) < (k : Int)
        · have hlo2 : lo = min (x.tmod (1000000 + 1)) (y.tmod (1000000 + 1)) + T := by rw [HLO.out]; unfold dhLo; rw [if_pos him, if_pos hik, HHX.out, HHY.out]
          have hhi2 : hi' = max (x.tmod (1000000 + 1)) (y.tmod (1000000 + 1)) + T := by rw [HHI.out]; unfold dhHi; rw [if_pos him, if_pos hik, HHX.out, HHY.out]
          have hcb := cut_bounds x y 1000000 (by omega)
          obtain ⟨p, hp⟩ : ∃ p, p = min (x.tmod (1000000 + 1)) (y.tmod (1000000 + 1)) := ⟨_, rfl⟩
          obtain ⟨q, hq⟩ : ∃ p, p = max (x.tmod (1000000 + 1)) (y.tmod (1000000 + 1)) := ⟨_, rfl⟩
          rw [← hp] at hlo2
          rw [← hq] at hhi2
          rw [← hp, ← hq] at hcb
          obtain ⟨cb1, cb2, cb3⟩ := hcb
          have HP := Lib.hid hp; have HQ := Lib.hid hq; have HLO2 := Lib.hid hlo2; have HHI2 := Lib.hid hhi2
          clear hp hq hlo2 hhi2
          go_wp2_with fail
          refine Calls.mono (cut_any _ _ _ _ (by omega) (by omega)) ?_
          rintro e w3 ⟨rfl, hb3⟩
          rw [← HP.out, ← HQ.out]
          go_wp2_with fail
          refine Calls.mono (plus_any _ _ _ _ _ (by omega) (by omega) (by omega) (by omega)) ?_
          rintro e w4 ⟨rfl, hb4⟩
          rw [← HLO2.out, ← HHI2.out]
          have hb34 := hb3.trans (hb4.mono hb3.size)
          have X4 := X2.below hb34
          have hK4 := HK2.out.below hb34
          have hb5 := hb2.trans (hb34.mono hs2)
          have v0 := X4.c0
          have v1 := X4.c1
          have v2 := X4.free 0
          have v3 := X4.free 1
          have v4 := X4.lt
          have hK5 := hK4.other2 ne1.symm ne2.symm ne3.symm (.int .i64 lo) (.int .i64 hi')
          have HK5 := Lib.hid hK5
          clear hb3 hb4 hb34 hK4 hK5 X2 g0 g1 u0 u1
          go_wp2_with fail
          refine Calls.mono (feed_ok kb rb hb 7 i d 2 last _ _ _ _ _ _ HK5.out (by omega) hlt (by omega) (by omega) hl (by omega) (by omega) (by omega)) ?_
          rintro e w6 ⟨rfl, hK6, hs6, hB⟩
          have hb6 := ((hb5.setCell hbs _).setCell hbs _).trans (hB w.heap.size c1 c2 c3)
          rw [HLO.out, HHI.out] at hK6
          have HK6 := Lib.hid hK6
          clear hB hK6
          go_wp2_with fail
          go_roundw
          case rel => exact ⟨i + 1, 10 + i, by omega, by go_num, by omega, HK6.out, hb6⟩
          case measure => simp [intOf]; omega
        · have hlo2 : lo = T + i - x % 100 := by rw [HLO.out]; unfold dhLo; rw [if_pos him, if_neg hik, HHX.out]
          have hhi2 : hi' = T + i + y % 100 := by rw [HHI.out]; unfold dhHi; rw [if_pos him, if_neg hik, HHY.out]
          have HLO2 := Lib.hid hlo2; have HHI2 := Lib.hid hhi2
          clear hlo2 hhi2
          go_wp2_with fail
          refine Calls.mono (feed_ok kb rb hb 7 i d 2 last _ _ _ _ _ _ HK2.out (by omega) hlt (by omega) (by omega) hl (by omega) (by omega) (by omega)) ?_
          rintro e w6 ⟨rfl, hK6, hs6, hB⟩
          have hb6 := hb2.trans (hB w.heap.size c1 c2 c3)
          rw [← HLO2.out, ← HHI2.out, HLO.out, HHI.out] at hK6
          have HK6 := Lib.hid hK6
          clear hB hK6
          go_wp2_with fail
          go_roundw
          case rel => exact ⟨i + 1, 10 + i, by omega, by go_num, by omega, HK6.out, hb6⟩
          case measure => simp [intOf]; omega
      · have i2 : ¬ (i : Int) < (m : Int) := by omega
        obtain rfl : lo = T + i - 3 := by rw [hlo]; unfold dhLo; rw [if_neg him]
        obtain rfl : hi' = T + i + 3 := by rw [hhi]; unfold dhHi; rw [if_neg him]
        clear hlo hhi hat
        go_wp2_with fail
        have hK2 := HK.out.below ((Below.refl _ _).alloc (Nat.le_refl _) (.cells #[.int .i64 (T + i - 3), .int .i64 (T + i + 3)] 35))
        refine Calls.mono (feed_ok kb rb hb 7 i d 2 last _ _ _ _ _ _ hK2 (by omega) hlt (by omega) (by omega) hl (by omega) (by omega) (by omega)) ?_
        rintro e w3 ⟨rfl, hK3, hs3, hB⟩
        have hb3 := (hbw.alloc hbs (.cells #[.int .i64 (T + i - 3), .int .i64 (T + i + 3)] 35)).trans (hB w.heap.size c1 c2 c3)
        rw [HLO.out, HHI.out] at hK3
        have HK3 := Lib.hid hK3
        clear hB hK3 hK2
        go_wp2_with fail
        go_roundw
        case rel => exact ⟨i + 1, 10 + i, by omega, by go_num, by omega, HK3.out, hb3⟩
        case measure => simp [intOf]; omega
    · obtain rfl : i = 7 := by omega
      obtain ⟨f1, f2, f3⟩ := HFR.out
      obtain ⟨lo, hlo⟩ : ∃ x, x = (rdV (fedR dhT (dhLo zs m k T) (dhHi zs m k T) 7) d 66 7 2).lo := ⟨_, rfl⟩
      obtain ⟨hi', hhi⟩ : ∃ x, x = (rdV (fedR dhT (dhLo zs m k T) (dhHi zs m k T) 7) d 66 7 2).hi := ⟨_, rfl⟩
      rw [← hlo] at f2
      rw [← hhi] at f3
      have F1 := Lib.hid f1; have HLO := Lib.hid hlo; have HHI := Lib.hid hhi
      clear f1 hlo hhi
      go_wp2_with fail
      refine Calls.mono (read_ok kb rb hb 7 2 d last 66 _ _ _ HK.out d1 (by omega) (by omega) (fun j hj => fedH_true 7 j hj) (dh_rds zs m k T m1 m2) (by omega) (by omega) F1.out) ?_
      rw [← HLO.out, ← HHI.out]
      rintro e w2 ⟨rfl, hb2⟩
      have hb3 := hbw.trans (hb2.mono hbs)
      clear hb2 hbw
      go_wp2_with fail
      go_ret
      exact ⟨ret_bool (by simp; omega), hb3.alloc hb3.size _⟩

end Go.Proofs.Ytmeppcoekmoofaa
