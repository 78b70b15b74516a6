/- spans: the intervals that the laws make of what comes in. -/
import Derived.Test.YtaemgglkdeklmaaSpan
import Derived.Test.YtaemgglkdeklmaaOwn
import Derived.Test.YtaemgglkdeklmaaLeap
namespace Go.Proofs.Ytaemgglkdeklmaa
open Go.RowKit
set_option linter.unusedSimpArgs false
set_option linter.unusedVariables false

def spLo (zs : List Int) (m : Int) (k : Nat) : Int := min ((ix zs (k * 2)).tmod (m + 1)) ((ix zs (k * 2 + 1)).tmod (m + 1))
def spHi (zs : List Int) (m : Int) (k : Nat) : Int := max ((ix zs (k * 2)).tmod (m + 1)) ((ix zs (k * 2 + 1)).tmod (m + 1))
def spanNums (zs : List Int) (m : Int) : Nat → List Int
  | 0 => []
  | k + 1 => spanNums zs m k ++ [spLo zs m k, spHi zs m k]

theorem spanNums_len (zs : List Int) (m : Int) (k : Nat) : (spanNums zs m k).length = k * 2 := by
  induction k with
  | zero => rfl
  | succ k ih => simp [spanNums, ih]; omega

theorem ix_spanNums (zs : List Int) (s : Int) (m j : Nat) (h : j < m) : ix (spanNums zs s m) (j * 2) = spLo zs s j ∧ ix (spanNums zs s m) (j * 2 + 1) = spHi zs s j := by
  induction m with
  | zero => omega
  | succ m ih =>
    have hl := spanNums_len zs s m
    simp only [spanNums, ix, List.getD_eq_getElem?_getD] at ih ⊢
    rcases Nat.lt_or_eq_of_le (Nat.le_of_lt_succ h) with h1 | rfl
    · rw [List.getElem?_append_left (by omega), List.getElem?_append_left (by omega)]
      exact ih h1
    · rw [List.getElem?_append_right (by omega), List.getElem?_append_right (by omega), hl]
      simp

theorem Try.infoSpan : (Try.prog.info? 25).map (fun i => (i.zero, i.size, i.bytes)) = some (some (.agg #[.int .i64 0, .int .i64 0]), 2, 16) := by kernel_rfl

def SpansPost (zs : List Int) (k : Nat) (w : World) (e : Ending) (w' : World) : Prop :=
  ∃ v, e = .returned v ∧ w'.ownsRow w.heap.size 25 2 v k ((spanNums zs 1000 k).map (Value.int .i64)) ∧ Below w.heap.size w w'

set_option maxRecDepth 100000 in
set_option maxHeartbeats 4000000 in
theorem spans_any (A : Option Addr) (n cap : Nat) (zs : List Int) (w : World) (hF : FlatSl w 2 A n cap zs) :
    Calls Try.prog 38 #[.slice A n cap] w (SpansPost zs (min n 20) w) := by
  obtain ⟨i0, hi, hz0, hz1, hz2⟩ := info_parts Try.infoSpan
  obtain ⟨hle, hmost, hlen, hat⟩ := hF
  have HL := Lib.hid hlen; clear hlen
  have hm : n ≤ 9223372036854775807 := by unfold maxLen at hmost; omega
  clear hmost
  go_enter Try.func38, Try.ntmps38
  go_wp2_with fail
  go_loopw [3, 8] (fun v i wr => ∃ k : Nat, k ≤ n ∧ i = .int .i64 k ∧ wr.ownsRow w.heap.size 25 2 v (min k 20) ((spanNums zs 1000 (min k 20)).map (Value.int .i64)) ∧ Below w.heap.size w wr)
    (fun _ i _ => n - (intOf i).toNat)
  case atStart => exact ⟨0, by omega, rfl, World.ownsRow_nil _ _ _ _, Below.refl _ _⟩
  case round =>
    obtain ⟨k, hk, rfl, hown, hbw⟩ := hrel
    have hbs := hbw.size
    by_cases hlt : k < n
    · obtain ⟨b, off, rfl, hcell⟩ := hat (by omega)
      obtain ⟨c0, c1, hbl⟩ := leap_cells hcell (World.block_lt_of_cell? w _ (hcell 0 (by omega))) hbw hlt
      clear hcell hat
      by_cases h20 : k < 20
      · have e1 : min k 20 = k := by omega
        have e2 : min (k + 1) 20 = k + 1 := by omega
        rw [e1] at hown
        have E2 := Lib.hid e2
        clear e1 e2
        obtain ⟨l, hl⟩ : ∃ d, d = spLo zs 1000 k := ⟨_, rfl⟩
        obtain ⟨h, hh⟩ : ∃ d, d = spHi zs 1000 k := ⟨_, rfl⟩
        have hl2 : l = min ((ix zs (k * 2)).tmod (1000 + 1)) ((ix zs (k * 2 + 1)).tmod (1000 + 1)) := hl
        have hh2 : h = max ((ix zs (k * 2)).tmod (1000 + 1)) ((ix zs (k * 2 + 1)).tmod (1000 + 1)) := hh
        have HL1 := Lib.hid hl; have HH1 := Lib.hid hh; have HL2 := Lib.hid hl2; have HH2 := Lib.hid hh2
        clear hl hh hl2 hh2
        go_wp2_with fail
        refine Calls.mono (cut_any _ _ _ _ (by omega) (by omega)) ?_
        rintro e w1 ⟨rfl, hb⟩
        rw [← HL2.out, ← HH2.out]
        have hown1 := own_below (hown.alloc _) hb
        have hb1 := (hbw.alloc hbs (.cells #[.int .i64 (ix zs (k * 2)), .int .i64 (ix zs (k * 2 + 1))] 25)).trans (hb.mono (by simp; omega))
        have hbs1 := hb1.size
        clear hb hown
        go_wp2_with (at_builtin; refine wpList_append_own _ rfl _ _ 60 rfl w.heap.size 25 i0 (.agg #[.int .i64 0, .int .i64 0]) 2 16 Try.underlying60 hi hz0 hz1 hz2 rfl (by decide) _ _ _ rfl (hown1.alloc _) ⟨w1.heap.size, 0, none⟩ 1 1 [.int .i64 l, .int .i64 h] rfl rfl ?c1 ?c2 ?c3 ?c4 ?c5 ?_)
        case c1 => exact cells_two
        case c2 => intro u hu; simp at hu; rcases hu with rfl | rfl <;> rfl
        case c3 => unfold maxLen; omega
        case c4 => omega
        case c5 => simp; omega
        · intro v' w2 hown' hgrow _
          have R : w2.ownsRow w.heap.size 25 2 v' (min (k + 1) 20) ((spanNums zs 1000 (min (k + 1) 20)).map (Value.int .i64)) := by
            rw [E2.out]
            simpa only [spanNums, List.map_append, List.map_cons, List.map_nil, ← HL1.out, ← HH1.out] using hown'
          have hb2 := below_grew (hb1.alloc hbs1 _) hgrow (hown1.alloc _)
          clear hown' hgrow hown1
          go_wp2_with fail
          go_roundw
          case rel => exact ⟨k + 1, by omega, by go_num, R, hb2⟩
          case measure => simp [intOf]; omega
      · have e1 : min k 20 = min (k + 1) 20 := by omega
        rw [e1] at hown
        clear e1
        go_wp2_with fail
        go_roundw
        case rel => exact ⟨k + 1, by omega, by go_num, hown.alloc _, hbw.alloc hbs _⟩
        case measure => simp [intOf]; omega
    · obtain rfl : k = n := by omega
      go_wp2_with fail
      go_ret
      exact ⟨_, rfl, hown, hbw⟩

end Go.Proofs.Ytaemgglkdeklmaa
