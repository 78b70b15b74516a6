/- The contract of chron.Early; chronWorks. -/
import Derived.Test.YtmeppcoekmoofaaEvents
import Derived.Deep.Onto
namespace Go.Proofs.Ytmeppcoekmoofaa
open Go.RowKit
set_option linter.unusedSimpArgs false
set_option linter.unusedVariables false

def earlyNums (D : Mx) (ev : Nat) (day : Int) : Nat → List Int
  | 0 => []
  | k + 1 => earlyNums D ev day k ++ [day + -D k ev]
theorem earlyNums_len (D : Mx) (ev : Nat) (day : Int) (k : Nat) : (earlyNums D ev day k).length = k := by
  induction k with
  | zero => rfl
  | succ k ih => simp [earlyNums, ih]
theorem ix_earlyNums (D : Mx) (ev : Nat) (day : Int) (m j : Nat) (h : j < m) : ix (earlyNums D ev day m) j = day + -D j ev := by
  induction m with
  | zero => omega
  | succ m ih =>
    have hl := earlyNums_len D ev day m
    simp only [earlyNums, ix, List.getD_eq_getElem?_getD] at ih ⊢
    rcases Nat.lt_or_eq_of_le (Nat.le_of_lt_succ h) with h1 | rfl
    · rw [List.getElem?_append_left (by omega)]
      exact ih h1
    · rw [List.getElem?_append_right (by omega), hl]
      simp

theorem Try.infoI2 : (Try.prog.info? 3).map (fun i => (i.zero, i.size, i.bytes)) = some (some (.int .i64 0), 1, 8) := by kernel_rfl

def EarlyPost (N ev : Nat) (l : List Bd) (day : Int) (w : World) (e : Ending) (w' : World) : Prop :=
  Below w.heap.size w w' ∧ ((∃ k, k < N ∧ fin N l k ev = 1000000000 ∧ e = .returned (.tuple #[.slice none 0 0, .int .i64 6])) ∨
    ((∀ k, k < N → fin N l k ev ≠ 1000000000) ∧ ∃ v, e = .returned (.tuple #[v, .int .i64 0]) ∧ w'.ownsRow w.heap.size 3 1 v N ((earlyNums (fin N l) ev day N).map (Value.int .i64))))

set_option maxRecDepth 100000 in
set_option maxHeartbeats 8000000 in
theorem early_any (A : Option Addr) (m cap : Nat) (zs : List Int) (N ev : Nat) (day : Int) (w : World) (h : FlatSl w 4 A m cap zs) (hC : ChronOk N (bds zs m)) (hf : Free N (bds zs m)) (hev : ev < N) (hd : -4000000 ≤ day ∧ day ≤ 4000000) :
    Calls Try.prog 20 #[.int .i64 N, .slice A m cap, .int .i64 ev, .int .i64 day] w (EarlyPost N ev (bds zs m) day w) := by
  obtain ⟨i0, hi, hy0, hy1, hy2⟩ := info_parts Try.infoI2
  obtain ⟨hd0, hd1⟩ := hd
  have wd : Within N 8000000 (bds zs m) := ⟨by omega, by unfold far; omega, fun d hd => by
    have := hC.each d hd
    obtain ⟨_, _, _, _, h5, h6, _, h8⟩ := this
    exact ⟨hC.each d hd, by omega, by omega, by omega, by omega⟩⟩
  have fb := fin_bounds wd hC.n12 hf
  have hz := chronChk_zero.2 hC
  have hn12 := hC.n12
  obtain ⟨l, hl⟩ : ∃ l, l = bds zs m := ⟨_, rfl⟩
  rw [← hl] at hC hf fb hz
  rw [← hl]
  have HL := Lib.hid hl; have HC := Lib.hid hC; have HF := Lib.hid hf; have FB := Lib.hid fb; have HZ := Lib.hid hz; have H := Lib.hid h
  clear hl hC hf fb hz wd h
  have i1 : (ev : Int) < (N : Int) := by omega
  have i2 : decide (N ≤ ev) = false := decide_eq_false (by omega)
  have i3 : decide ((ev : Int) < 0) = false := decide_eq_false (by omega)
  have i4 : decide (day < -4000000) = false := decide_eq_false (by omega)
  have i5 : decide (4000000 < day) = false := decide_eq_false (by omega)
  go_enter Try.func20, Try.ntmps20
  go_wp2_with fail
  refine Calls.mono (tightest_any _ _ _ _ _ _ H.out) ?_
  rw [← HL.out]
  rintro e w1 ⟨hb1, ⟨N', hN, -, -, ob, oc, rb, rc, rfl, hcap, hT⟩ | ⟨N', hN, -, hbad, -⟩ | ⟨hbad, -⟩⟩
  · obtain rfl : N' = N := by omega
    obtain ⟨D, hD⟩ : ∃ D, D = fin N' l := ⟨_, rfl⟩
    rw [← hD] at hT FB
    have HD := Lib.hid hD; clear hD
    have x1 := hT.out ev hev
    have hs1 := hb1.size
    have HT := Lib.hid hT; clear hT
    have lt1 := HT.out.lt
    have lt2 := HT.out.ltR ev hev
    go_wp2_with fail
    go_loopw [12, 44] (fun v i wr => ∃ k : Nat, k ≤ N' ∧ i = .int .i64 k ∧ wr.ownsRow w1.heap.size 3 1 v k ((earlyNums D ev day k).map (Value.int .i64)) ∧ (∀ j, j < k → D j ev ≠ 1000000000) ∧ Below w1.heap.size w1 wr) (fun _ i _ => N' - (intOf i).toNat)
    case atStart => exact ⟨0, by omega, rfl, World.ownsRow_nil _ _ _ _, fun j hj => absurd hj (by omega), Below.refl _ _⟩
    case round =>
      obtain ⟨k, hk, rfl, hown, hne, hbw⟩ := hrel
      have hbs := hbw.size
      have HNE := Lib.hid hne; clear hne
      by_cases hlt : k < N'
      · obtain ⟨y1, y2⟩ := HT.out.row ev hev k hlt
        obtain ⟨f1, f2⟩ := FB.out k ev hlt hev
        have c0 : wr.cell? ⟨rb ev, k * 2, none⟩ = some (.int .i64 (-D k ev)) := (hbw.cell (p := ⟨rb ev, k * 2, none⟩) lt2).trans y1
        have c1 : wr.cell? ⟨rb ev, k * 2 + 1, none⟩ = some (.int .i64 (D ev k)) := (hbw.cell (p := ⟨rb ev, k * 2 + 1, none⟩) lt2).trans y2
        have lt3 : rb ev < wr.heap.size := by omega
        clear y1 y2
        by_cases hfar : D k ev = 1000000000
        · rw [hfar] at c0
          have HFA := Lib.hid hfar; clear hfar
          go_wp2_with fail
          go_returns
          exact ⟨(hb1.trans (hbw.mono hs1)).alloc (by omega) _, Or.inl ⟨k, hlt, by rw [← HD.out]; exact HFA.out, rfl⟩⟩
        · have q1 : (-D k ev == -1000000000) = false := by simp; omega
          have R3 : Hid (∀ j, j < k + 1 → D j ev ≠ 1000000000) := Lib.hid (fun j hj => by
            rcases Nat.lt_or_eq_of_le (Nat.le_of_lt_succ hj) with h | rfl
            · exact HNE.out j h
            · exact hfar)
          clear hfar
          have hown1 := hown.alloc (.cells #[.int .i64 (-D k ev), .int .i64 (D ev k)] 35)
          go_wp2_with (at_builtin; refine wpList_append_own _ rfl _ _ 22 rfl w1.heap.size 3 i0 (.int .i64 0) 1 8 Try.underlying22 hi hy0 hy1 hy2 rfl (by decide) _ _ _ rfl (hown1.alloc _) ⟨wr.heap.size + 1, 0, none⟩ 1 1 [.int .i64 (day + -D k ev)] rfl rfl ?c1 ?c2 ?c3 ?c4 ?c5 ?_)
          case c1 => have := cells_one (w := wr.alloc (.cells #[.int .i64 (-D k ev), .int .i64 (D ev k)] 35)) (x := .int .i64 (day + -D k ev)) (t := 3); simpa using this
          case c2 => intro u hu; simp at hu; subst hu; rfl
          case c3 => unfold maxLen; omega
          case c4 => omega
          case c5 => simp; omega
          · intro v' w3 hown' hgrow _
            have R : Hid (w3.ownsRow w1.heap.size 3 1 v' (k + 1) ((earlyNums D ev day (k + 1)).map (Value.int .i64))) := Lib.hid (by simpa only [earlyNums, List.map_append, List.map_cons, List.map_nil] using hown')
            have hb4 := ((hbw.alloc hbs (.cells #[.int .i64 (-D k ev), .int .i64 (D ev k)] 35)).alloc (by simp; omega) (.cells #[.int .i64 (day + -D k ev)] 3)).grown hgrow (by simp; omega) (fun q hq => (hown1.lt q hq).1)
            clear hown' hgrow hown hown1
            go_wp2_with fail
            go_roundw
            case rel => exact ⟨k + 1, by omega, by go_num, R.out, R3.out, hb4⟩
            case measure => simp [intOf]; omega
      · obtain rfl : k = N' := by omega
        go_wp2_with fail
        go_returns
        exact ⟨hb1.trans (hbw.mono hs1), Or.inr ⟨by rw [← HD.out]; exact HNE.out, _, rfl, by rw [← HD.out]; exact hown.mono hs1⟩⟩
  · obtain rfl : N' = N := by omega
    exact absurd HF.out hbad
  · exact absurd HZ.out hbad

end Go.Proofs.Ytmeppcoekmoofaa
