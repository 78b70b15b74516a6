/- The contracts of source.All, (*Keeper).Heard, (*Keeper).Read. -/
import Derived.Test.YtmeppcoekmoofaaFeed
import Derived.Test.YtmeppcoekmoofaaAppend
import Derived.Test.YtmeppcoekmoofaaAgreeLaw
namespace Go.Proofs.Ytmeppcoekmoofaa
open Go.RowKit
set_option linter.unusedSimpArgs false
set_option linter.unusedVariables false

def mvNums (zs : List Int) (d k : Int) : Nat → List Int
  | 0 => []
  | j + 1 => mvNums zs d k j ++ [ix zs (j * 3 + 1) + elLo d (k - ix zs (j * 3)), ix zs (j * 3 + 2) + elHi d (k - ix zs (j * 3))]
theorem mvNums_len (zs : List Int) (d k : Int) (j : Nat) : (mvNums zs d k j).length = j * 2 := by
  induction j with
  | zero => rfl
  | succ j ih => simp [mvNums, ih]; omega
theorem mvNums_at (zs : List Int) (d k : Int) (m j : Nat) (h : j < m) : ix (mvNums zs d k m) (j * 2) = ix zs (j * 3 + 1) + elLo d (k - ix zs (j * 3)) ∧ ix (mvNums zs d k m) (j * 2 + 1) = ix zs (j * 3 + 2) + elHi d (k - ix zs (j * 3)) := by
  induction m with
  | zero => omega
  | succ m ih =>
    have hl := mvNums_len zs d k m
    simp only [mvNums, ix, List.getD_eq_getElem?_getD] at ih ⊢
    rcases Nat.lt_or_eq_of_le (Nat.le_of_lt_succ h) with h1 | rfl
    · rw [List.getElem?_append_left (by omega), List.getElem?_append_left (by omega)]
      exact ih h1
    · rw [List.getElem?_append_right (by omega), List.getElem?_append_right (by omega), hl]
      simp

/-- Readings that can be moved to the tick k. -/
structure RdsOk (zs : List Int) (n : Nat) (k : Int) : Prop where
  few : n ≤ 40
  top : k ≤ 1000000000000
  each : ∀ j, j < n → 0 ≤ ix zs (j * 3) ∧ ix zs (j * 3) ≤ k ∧ -100000000000000000 ≤ ix zs (j * 3 + 1) ∧ ix zs (j * 3 + 1) ≤ ix zs (j * 3 + 2) ∧ ix zs (j * 3 + 2) ≤ 100000000000000000
theorem mvNums_ok {zs : List Int} {n : Nat} {d k : Int} (h : RdsOk zs n k) (h0 : 0 ≤ d) (h1 : d ≤ 100000) (hn : 1 ≤ n) : SpOk (mvNums zs d k n) n := by
  refine ⟨h.few, hn, fun j hj => ?_⟩
  obtain ⟨e1, e2⟩ := mvNums_at zs d k n j hj
  obtain ⟨a, b, c, e, f⟩ := h.each j hj
  have ht := h.top
  have := el_bounds d (k - ix zs (j * 3)) h0 h1 (by omega) (by omega)
  rw [e1, e2]
  omega

def AllPost (zs : List Int) (d k : Int) (n : Nat) (w : World) (e : Ending) (w' : World) : Prop :=
  ∃ v, e = .returned (.tuple #[v, .int .i64 0]) ∧ w'.ownsRow w.heap.size 35 2 v n ((mvNums zs d k n).map (Value.int .i64)) ∧ Below w.heap.size w w'

theorem Try.infoSpR : (Try.prog.info? 35).map (fun i => (i.zero, i.size, i.bytes)) = some (some (.agg #[.int .i64 0, .int .i64 0]), 2, 16) := by kernel_rfl

set_option maxRecDepth 100000 in
set_option maxHeartbeats 4000000 in
theorem all_ok (A : Option Addr) (n cap : Nat) (zs : List Int) (d k : Int) (w : World) (hF : FlatSl w 3 A n cap zs) (hR : RdsOk zs n k) (h0 : 0 ≤ d) (h1 : d ≤ 100000) :
    Calls Try.prog 63 #[.int .i64 d, .slice A n cap, .int .i64 k] w (AllPost zs d k n w) := by
  obtain ⟨i0, hi, hz0, hz1, hz2⟩ := info_parts Try.infoSpR
  have hn := hR.few
  have hcap := hF.le
  have HR := Lib.hid hR; have HF := Lib.hid hF
  have hat := hF.at'
  clear hR hF
  go_enter Try.func63, Try.ntmps63
  go_wp2_with fail
  go_loopw [8, 18] (fun v i wr => ∃ j : Nat, j ≤ n ∧ i = .int .i64 j ∧ wr.ownsRow w.heap.size 35 2 v j ((mvNums zs d k j).map (Value.int .i64)) ∧ Below w.heap.size w wr) (fun _ i _ => n - (intOf i).toNat)
  case atStart => exact ⟨0, by omega, rfl, World.ownsRow_nil _ _ _ _, Below.refl _ _⟩
  case round =>
    obtain ⟨j, hj, rfl, hown, hbw⟩ := hrel
    have hbs := hbw.size
    by_cases hlt : j < n
    · obtain ⟨b, off, rfl, hcell⟩ := hat (by omega)
      have hb := World.block_lt_of_cell? w _ (hcell 0 (by omega))
      simp at hb
      have c0 : wr.cell? ⟨b, off + j * 3, none⟩ = some (.int .i64 (ix zs (j * 3))) := (hbw.cell (p := ⟨b, off + j * 3, none⟩) hb).trans (hcell (j * 3) (by omega))
      have c1 : wr.cell? ⟨b, off + j * 3 + 1, none⟩ = some (.int .i64 (ix zs (j * 3 + 1))) := (hbw.cell (p := ⟨b, off + j * 3 + 1, none⟩) hb).trans (hcell (j * 3 + 1) (by omega))
      have c2 : wr.cell? ⟨b, off + j * 3 + 2, none⟩ = some (.int .i64 (ix zs (j * 3 + 2))) := (hbw.cell (p := ⟨b, off + j * 3 + 2, none⟩) hb).trans (hcell (j * 3 + 2) (by omega))
      obtain ⟨r1, r2, r3, r4, r5⟩ := HR.out.each j hlt
      have r6 := HR.out.top
      have hnx : mvNums zs d k (j + 1) = mvNums zs d k j ++ [ix zs (j * 3 + 1) + elLo d (k - ix zs (j * 3)), ix zs (j * 3 + 2) + elHi d (k - ix zs (j * 3))] := rfl
      obtain ⟨t, ht⟩ : ∃ x, x = ix zs (j * 3) := ⟨_, rfl⟩
      obtain ⟨lo, hlo⟩ : ∃ x, x = ix zs (j * 3 + 1) := ⟨_, rfl⟩
      obtain ⟨hi', hhi⟩ : ∃ x, x = ix zs (j * 3 + 2) := ⟨_, rfl⟩
      rw [← ht, ← hlo, ← hhi] at hnx
      rw [← ht] at c0 r1 r2
      rw [← hlo] at c1 r3 r4
      rw [← hhi] at c2 r4 r5
      obtain ⟨x, hx⟩ : ∃ x, x = lo + elLo d (k - t) := ⟨_, rfl⟩
      obtain ⟨y, hy⟩ : ∃ x, x = hi' + elHi d (k - t) := ⟨_, rfl⟩
      rw [← hx, ← hy] at hnx
      have HX := Lib.hid hx; have HY := Lib.hid hy; have HN := Lib.hid hnx
      clear ht hlo hhi hx hy hnx hcell hat
      go_wp2_with fail
      refine Calls.mono (moved_ok _ _ _ _ _ _ ⟨r1, by omega⟩ r3 r5 r4 ⟨h0, h1⟩ ⟨r2, r6⟩) ?_
      rintro e w1 ⟨rfl, hb1⟩
      rw [← HX.out, ← HY.out]
      have hown1 := own_below (hown.alloc _) hb1
      have hb2 := (hbw.alloc hbs (.cells #[.int .i64 t, .int .i64 lo, .int .i64 hi'] 78)).trans (hb1.mono (by simp; omega))
      have hbs2 := hb2.size
      clear hb1 hown hbw c0 c1 c2
      go_wp2_with (at_builtin; refine wpList_append_own _ rfl _ _ 33 rfl w.heap.size 35 i0 _ 2 16 Try.underlying33 hi hz0 hz1 hz2 rfl (by decide) _ _ _ rfl ((hown1.alloc _).alloc _) ⟨w1.heap.size + 1, 0, none⟩ 1 1 [.int .i64 x, .int .i64 y] rfl rfl ?c1 ?c2 ?c3 ?c4 ?c5 ?_)
      case c1 =>
        have := cells_two (w := w1.alloc (.cells #[.int .i64 x, .int .i64 y] 35)) (x := .int .i64 x) (y := .int .i64 y) (t := 35)
        simpa using this
      case c2 => simp [Value.oneCell']
      case c3 => unfold maxLen; omega
      case c4 => omega
      case c5 => simp; omega
      · intro v' w3 hown' hgrow _
        have R : w3.ownsRow w.heap.size 35 2 v' (j + 1) ((mvNums zs d k (j + 1)).map (Value.int .i64)) := by
          rw [HN.out]
          simpa only [List.map_append, List.map_cons, List.map_nil] using hown'
        have hb3 := below_grew ((hb2.alloc hbs2 (.cells #[.int .i64 x, .int .i64 y] 35)).alloc (by simp; omega) (.cells #[.int .i64 x, .int .i64 y] 35)) hgrow ((hown1.alloc _).alloc _)
        clear hown' hgrow hown1
        go_wp2_with fail
        go_roundw
        case rel => exact ⟨j + 1, by omega, by go_num, R, hb3⟩
        case measure => simp [intOf]; omega
    · obtain rfl : j = n := by omega
      go_wp2_with fail
      go_returns
      exact ⟨_, rfl, hown, hbw⟩

set_option maxHeartbeats 1000000 in
theorem heard_ok (kb rb hb n : Nat) (d f last : Int) (R : Nat → Int) (H : Nat → Bool) (w : World) (hK : Keep w kb rb hb n d f last R H) (hn : n ≤ 40) (hH : ∀ j, j < n → H j = true) :
    Calls Try.prog 59 #[.pointer (some ⟨kb, 0, none⟩)] w fun e w' => e = .returned (.int .i64 n) ∧ w = w' := by
  have k3 := hK.k.cell (i := 3) (by omega)
  simp only [kpF] at k3
  have hc : ∀ j, j < n → w.cell? ⟨hb, j, none⟩ = some (.bool true) := fun j hj => by
    have := hK.h.cell (i := j) hj
    rw [this, hH j hj]
  have HC := Lib.hid hc
  clear hK hH hc
  go_enter Try.func59, Try.ntmps59
  go_wp2_with fail
  go_loop [3, 11] (fun v i => ∃ j : Nat, j ≤ n ∧ i = .int .i64 j ∧ v = .int .i64 j) (fun _ i => n - (intOf i).toNat)
  case atStart => exact ⟨0, by omega, rfl, rfl⟩
  case round =>
    obtain ⟨j, hj, rfl, rfl⟩ := hrel
    by_cases hlt : j < n
    · have c := HC.out j hlt
      go_wp2_with fail
      go_round
      case rel => exact ⟨j + 1, by omega, by go_num, by go_num⟩
      case measure => simp [intOf]; omega
    · obtain rfl : j = n := by omega
      go_wp2_with fail
      go_ret
      exact ⟨rfl, rfl⟩

theorem Keep.drewN {w : World} {kb rb hb n : Nat} {d f last : Int} {R : Nat → Int} {H : Nat → Bool} (h : Keep w kb rb hb n d f last R H) (m : Nat) : Keep (w.drewN m) kb rb hb n d f last R H := ⟨h.k, h.r, h.h, h.n1, h.n2, h.n3⟩

/-- A number that enough intervals contain is within what they agree on. -/
theorem within_has {zs : List Int} {n : Nat} {t need : Int} (h1 : 1 ≤ need) (h : need ≤ dep zs t n) : (wH zs n need n).is = true ∧ (wH zs n need n).lo ≤ t ∧ t ≤ (wH zs n need n).hi := by
  obtain ⟨j0, hj0, hc0⟩ := dep_some (zs := zs) (t := t) (n := n) (by omega)
  obtain ⟨a, ha, hca, hma⟩ := (last_lo (zs := zs) (t := t) n).resolve_left (fun h => h j0 hj0 hc0)
  obtain ⟨b, hb, hcb, hmb⟩ := (first_hi (zs := zs) (t := t) n).resolve_left (fun h => h j0 hj0 hc0)
  have da : dep zs t n ≤ dep zs (ix zs (a * 2)) n := dep_mono n (fun i hi hci => ⟨hma i hi hci, by have := hca.1; have := hci.2; omega⟩)
  have db : dep zs t n ≤ dep zs (ix zs (b * 2 + 1)) n := dep_mono n (fun i hi hci => ⟨by have := hcb.2; have := hci.1; omega, hmb i hi hci⟩)
  have Ea : EndP zs n need n (ix zs (a * 2)) := ⟨⟨a, ha, Or.inl rfl⟩, by omega⟩
  have Eb : EndP zs n need n (ix zs (b * 2 + 1)) := ⟨⟨b, hb, Or.inr rfl⟩, by omega⟩
  rcases wH_hull zs n need n with ⟨_, h2⟩ | ⟨h1, h2, h3, h4⟩
  · exact absurd Ea (h2 _)
  · exact ⟨h1, by have := h4 _ Ea; have := hca.1; omega, by have := h4 _ Eb; have := hcb.2; omega⟩

/-- The first j readings, as numbers. -/
def rdNums (R : Nat → Int) : Nat → List Int
  | 0 => []
  | j + 1 => rdNums R j ++ [R (j * 3), R (j * 3 + 1), R (j * 3 + 2)]
theorem rdNums_len (R : Nat → Int) (j : Nat) : (rdNums R j).length = j * 3 := by
  induction j with
  | zero => rfl
  | succ j ih => simp [rdNums, ih]; omega
theorem rdNums_at (R : Nat → Int) (m j : Nat) (h : j < m) : ix (rdNums R m) (j * 3) = R (j * 3) ∧ ix (rdNums R m) (j * 3 + 1) = R (j * 3 + 1) ∧ ix (rdNums R m) (j * 3 + 2) = R (j * 3 + 2) := by
  induction m with
  | zero => omega
  | succ m ih =>
    have hl := rdNums_len R m
    simp only [rdNums, ix, List.getD_eq_getElem?_getD] at ih ⊢
    rcases Nat.lt_or_eq_of_le (Nat.le_of_lt_succ h) with h1 | rfl
    · rw [List.getElem?_append_left (by omega), List.getElem?_append_left (by omega), List.getElem?_append_left (by omega)]
      exact ih h1
    · rw [List.getElem?_append_right (by omega), List.getElem?_append_right (by omega), List.getElem?_append_right (by omega), hl]
      simp

/-- What Read tells: what the moved readings agree on. -/
def rdV (R : Nat → Int) (d tick : Int) (n f : Nat) : Hull := wH (mvNums (rdNums R n) d tick n) n ((n : Int) - (f : Int)) n

set_option maxRecDepth 100000 in
set_option maxHeartbeats 8000000 in
theorem read_ok (kb rb hb n f : Nat) (d last tick : Int) (R : Nat → Int) (H : Nat → Bool) (w : World) (hK : Keep w kb rb hb n d f last R H) (h0 : 0 ≤ d) (h1 : d ≤ 100000) (hf : 2 * f < n) (hH : ∀ j, j < n → H j = true)
    (hR : RdsOk (rdNums R n) n tick) (ht0 : 0 ≤ tick) (hl : last ≤ tick) (his : (rdV R d tick n f).is = true) :
    Calls Try.prog 42 #[.pointer (some ⟨kb, 0, none⟩), .int .i64 tick] w fun e w' => e = .returned (.tuple #[.agg #[.int .i64 (rdV R d tick n f).lo, .int .i64 (rdV R d tick n f).hi], .int .i64 0]) ∧ Below w.heap.size w w' := by
  obtain ⟨i0, hi, hz0, hz1, hz2⟩ := info_parts Try.infoRd
  have hn := hR.few
  have ht1 := hR.top
  obtain ⟨lo, hlo⟩ : ∃ x, x = (rdV R d tick n f).lo := ⟨_, rfl⟩
  obtain ⟨hi', hhi⟩ : ∃ x, x = (rdV R d tick n f).hi := ⟨_, rfl⟩
  rw [← hlo, ← hhi]
  have hS := mvNums_ok hR h0 h1 (by omega)
  have hv : withinV (mvNums (rdNums R n) d tick n) n ((n : Int) - (f : Int)) = .tuple #[.agg #[.int .i64 lo, .int .i64 hi'], .int .i64 0] := by
    rw [hlo, hhi]
    unfold rdV at his ⊢
    unfold withinV
    rw [his]; rfl
  have q0 : ((tick : Int) < last) = False := by simp; omega
  have q1 : ¬ ((n : Int) ≤ 2 * (f : Int)) := by omega
  have q2 : (0 : Int) ≤ (f : Int) := by omega
  have q3 : (f : Int) ≤ 40 := by omega
  have q4 : (n : Int) ≤ 40 := by omega
  have l0 := hK.k.lt; have l1 := hK.r.lt; have l2 := hK.h.lt
  have k0 := hK.k.cell (i := 0) (by omega)
  have k1 := hK.k.cell (i := 1) (by omega)
  have k2 := hK.k.cell (i := 2) (by omega)
  have k3 := hK.k.cell (i := 3) (by omega)
  have k4 := hK.k.cell (i := 4) (by omega)
  simp only [kpF] at k0 k1 k2 k3 k4
  have HK := Lib.hid hK; have HV := Lib.hid hv; have HS := Lib.hid hS; have HR := Lib.hid hR; have HH := Lib.hid hH
  clear hK hv hS hR hlo hhi his q0 hH
  go_enter Try.func42, Try.ntmps42
  go_wp2_with fail
  refine Calls.mono (isTick_any _ _) ?_
  rintro e _ ⟨rfl, rfl⟩
  rw [decide_eq_true (show 0 ≤ tick ∧ tick ≤ 1000000000000 from ⟨ht0, ht1⟩)]
  go_wp2_with fail
  have hK1 := HK.out.below ((Below.refl w.heap.size w).alloc (Nat.le_refl _) (.cells #[.int .i64 0, .int .i64 0] 35))
  have HK1 := Lib.hid hK1; clear hK1
  go_quiet ((first | (go_at_call 59; exact (heard_ok _ _ _ n _ _ _ _ _ _ (HK1.out.drewN _) hn HH.out).mono fun _ _ h => ⟨h.1, _, h.2.symm⟩)))
  go_wp2_with fail
  obtain ⟨W, hW⟩ : ∃ W, W = (w.alloc (.cells #[.int .i64 0, .int .i64 0] 35)).drewN nq := ⟨_, rfl⟩
  rw [← hW]
  have hKW : Keep W kb rb hb n d f last R H := by rw [hW]; exact HK1.out.drewN _
  have bW : Below w.heap.size w W := by rw [hW]; exact below_drewN ((Below.refl _ _).alloc (Nat.le_refl _) _) _
  have X0 : SpBox W w.heap.size 0 0 := by rw [hW]; exact SpBox.new w 0 0
  have zW : W.heap.size = w.heap.size + 1 := by rw [hW]; simp [size_drewN]
  have u2 := hKW.k.cell (i := 2) (by omega)
  simp only [kpF] at u2
  have HKW := Lib.hid hKW
  clear hKW hW k0 k1 k2 k3 k4
  go_wp2_with fail
  go_loopw [6, 39] (fun v i wr => ∃ j : Nat, j ≤ n ∧ i = .int .i64 j ∧ wr.ownsRow (w.heap.size + 1) 78 3 v j ((rdNums R j).map (Value.int .i64)) ∧ Below w.heap.size w wr ∧ Below W.heap.size W wr) (fun _ i _ => n - (intOf i).toNat)
  case atStart => exact ⟨0, by omega, rfl, World.ownsRow_nil _ _ _ _, bW, Below.refl _ _⟩
  case round =>
    clear bW u2
    obtain ⟨j, hj, rfl, hown, hbw, hbv⟩ := hrel
    have hbs := hbw.size
    have hbvs := hbv.size
    have hKr := HKW.out.below hbv
    by_cases hlt : j < n
    · have j0 : (0 : Int) ≤ (j : Int) := by omega
      have j1 : (j : Int) < (n : Int) := by omega
      have k3 := hKr.k.cell (i := 3) (by omega)
      simp only [kpF] at k3
      have c0 := hKr.r.cell (i := j * 3) (by omega)
      have c1 := hKr.r.cell (i := j * 3 + 1) (by omega)
      have c2 := hKr.r.cell (i := j * 3 + 2) (by omega)
      have c3 := hKr.h.cell (i := j) hlt
      rw [HH.out j hlt] at c3
      have y0 := hKr.k.lt; have y1 := hKr.r.lt; have y2 := hKr.h.lt
      obtain ⟨a, ha⟩ : ∃ x, x = R (j * 3) := ⟨_, rfl⟩
      obtain ⟨b, hb'⟩ : ∃ x, x = R (j * 3 + 1) := ⟨_, rfl⟩
      obtain ⟨c, hc'⟩ : ∃ x, x = R (j * 3 + 2) := ⟨_, rfl⟩
      rw [← ha] at c0
      rw [← hb'] at c1
      rw [← hc'] at c2
      have hnx : rdNums R (j + 1) = rdNums R j ++ [a, b, c] := by rw [ha, hb', hc']; rfl
      have HN := Lib.hid hnx
      clear ha hb' hc' hnx hKr
      go_wp2_with (at_builtin; refine wpList_append_own _ rfl _ _ 100 rfl (w.heap.size + 1) 78 i0 _ 3 24 Try.underlying100 hi hz0 hz1 hz2 rfl (by decide) _ _ _ rfl ((hown.alloc _).alloc _) ⟨wr.heap.size + 1, 0, none⟩ 1 1 [.int .i64 a, .int .i64 b, .int .i64 c] rfl rfl ?c1 ?c2 ?c3 ?c4 ?c5 ?_)
      case c1 =>
        have := World.news_of_block (cs := #[.int .i64 a, .int .i64 b, .int .i64 c]) (t := 78) (fr := (0, 0)) (heap_alloc_new (wr.alloc (.cells #[.int .i64 a, .int .i64 b, .int .i64 c] 78)) _)
        simpa using this
      case c2 => simp [Value.oneCell']
      case c3 => unfold maxLen; omega
      case c4 => omega
      case c5 => simp; omega
      · intro v' w3 hown' hgrow _
        have R1 : Hid (w3.ownsRow (w.heap.size + 1) 78 3 v' (j + 1) ((rdNums R (j + 1)).map (Value.int .i64))) := Lib.hid (by
          rw [HN.out]
          simpa only [List.map_append, List.map_cons, List.map_nil] using hown')
        have hb3 := ((hbw.alloc hbs (.cells #[.int .i64 a, .int .i64 b, .int .i64 c] 78)).alloc (by simp; omega) (.cells #[.int .i64 a, .int .i64 b, .int .i64 c] 78)).grown hgrow (by simp; omega) (fun q hq => Nat.le_trans (Nat.le_succ _) (hown.lt q hq).1)
        have hb4 := ((hbv.alloc hbvs (.cells #[.int .i64 a, .int .i64 b, .int .i64 c] 78)).alloc (by simp; omega) (.cells #[.int .i64 a, .int .i64 b, .int .i64 c] 78)).grown hgrow (by simp; omega) (fun q hq => by have := (hown.lt q hq).1; omega)
        clear hown' hgrow hown
        go_wp2_with fail
        go_roundw
        case rel => exact ⟨j + 1, by omega, by go_num, R1.out, hb3, hb4⟩
        case measure => simp [intOf]; omega
    · obtain rfl : j = n := by omega
      obtain ⟨A3, cap3, hv, hF3⟩ := own_flat hown
      subst hv
      have k0 := hKr.k.cell (i := 0) (by omega)
      simp only [kpF] at k0
      have X1 := X0.below hbv
      have y0 := hKr.k.lt
      have HKr := Lib.hid hKr
      clear hown hKr X0
      go_wp2_with fail
      refine Calls.mono (all_ok _ _ _ _ _ _ _ hF3 HR.out h0 h1) ?_
      rintro e w4 ⟨v, rfl, hown, hb4⟩
      obtain ⟨A4, cap4, hv, hF4⟩ := own_flat hown
      subst hv
      have hbw4 := hbw.trans (hb4.mono hbs)
      have X2 := X1.below hb4
      have k1 := (HKr.out.below hb4).k.cell (i := 1) (by omega)
      simp only [kpF] at k1
      have y1 := (HKr.out.below hb4).k.lt
      have hw4 := hbw4.size
      have e1 : IntKind.i64.wrap ((j : Int) - (f : Int)) = (j : Int) - (f : Int) := IntWalk.i64_in _ (by omega)
      clear hown hb4 hbw X1 hF3 k0
      go_wp2_with fail
      refine Calls.mono (within_any _ _ _ _ _ _ hF4 HS.out (by omega) (by omega)) ?_
      rintro e w5 ⟨rfl, hb5⟩
      rw [HV.out]
      have hbw5 := hbw4.trans (hb5.mono hw4)
      have X3 := X2.below hb5
      have f0 := X3.c0; have f1 := X3.c1; have f2 := X3.free 0; have f3 := X3.free 1
      have lt3 := X3.lt
      clear hb5 hbw4 X2
      go_wp2_with fail
      refine bodyPost_ret (v := .tuple #[.agg #[.int .i64 lo, .int .i64 hi'], .int .i64 0]) ?_ rfl ⟨rfl, (by repeat' (first | (with_reducible refine below_drewN ?_ _) | go_grown))⟩
      simp [results, Try.results42, go_sem, f0, f1]

end Go.Proofs.Ytmeppcoekmoofaa
