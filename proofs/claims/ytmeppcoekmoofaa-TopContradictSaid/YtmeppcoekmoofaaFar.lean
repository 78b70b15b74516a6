/- The contract of chron.farthest: memory. -/
import Derived.Test.YtmeppcoekmoofaaChron
import Derived.Deep.OwnRows
import Derived.StillTailTactics
namespace Go.Proofs.Ytmeppcoekmoofaa
open Go.RowKit
set_option linter.unusedSimpArgs false
set_option linter.unusedVariables false

/-- The matrix in memory: block O holds the rows, which lie behind it. -/
structure Mat (w : World) (O n : Nat) (M : Mx) : Prop where
  out : w.rowIs O 22 n (fun i => .slice (some ⟨O + 1 + i, 0, none⟩) n n)
  row : ∀ i, i < n → w.rowIs (O + 1 + i) 3 n (fun j => .int .i64 (M i j))

/-- As far as it has been laid. -/
structure PMat (w : World) (O n c : Nat) : Prop where
  out : w.rowIs O 22 n (fun i => if i < c then .slice (some ⟨O + 1 + i, 0, none⟩) n n else .slice none 0 0)
  row : ∀ i, i < c → w.rowIs (O + 1 + i) 3 n (fun j => .int .i64 (init0 i j))

theorem Mat.below {w w' : World} {O n : Nat} {M : Mx} (h : Mat w O n M) (hb : Below w.heap.size w w') : Mat w' O n M :=
  ⟨h.out.of_block (hb.block _ h.out.lt), fun i hi => (h.row i hi).of_block (hb.block _ (h.row i hi).lt)⟩
theorem Mat.alloc {w : World} {O n : Nat} {M : Mx} (h : Mat w O n M) (o : Obj) : Mat (w.alloc o) O n M := ⟨h.out.alloc o, fun i hi => (h.row i hi).alloc o⟩
theorem Mat.drew {w : World} {O n : Nat} {M : Mx} (h : Mat w O n M) : Mat w.drew O n M := ⟨h.out, h.row⟩
theorem Mat.set {w : World} {O n : Nat} {M : Mx} (h : Mat w O n M) (i j : Nat) (hi : i < n) (v : Int) : Mat (w.setCell ⟨O + 1 + i, j, none⟩ (.int .i64 v)) O n (updM M i j v) := by
  refine ⟨h.out.setOther (by simp; omega) _, fun a ha => ?_⟩
  by_cases e : a = i
  · subst e
    refine ((h.row a ha).set j (.int .i64 v)).congr (fun b hb => ?_)
    unfold updM
    by_cases e2 : b = j
    · simp [e2]
    · simp [e2]
  · refine ((h.row a ha).setOther (by simp; omega) _).congr (fun b hb => ?_)
    unfold updM
    simp [e]
theorem Mat.congr {w : World} {O n : Nat} {M N : Mx} (h : Mat w O n M) (e : ∀ i j, i < n → j < n → M i j = N i j) : Mat w O n N :=
  ⟨h.out, fun i hi => (h.row i hi).congr (fun j hj => by rw [e i j hi hj])⟩
theorem Mat.cO {w : World} {O n : Nat} {M : Mx} (h : Mat w O n M) {i : Nat} (hi : i < n) : w.cell? ⟨O, i, none⟩ = some (.slice (some ⟨O + 1 + i, 0, none⟩) n n) := h.out.cell hi
theorem Mat.c {w : World} {O n : Nat} {M : Mx} (h : Mat w O n M) {i j : Nat} (hi : i < n) (hj : j < n) : w.cell? ⟨O + 1 + i, j, none⟩ = some (.int .i64 (M i j)) := (h.row i hi).cell hj
theorem Mat.f {w : World} {O n : Nat} {M : Mx} (h : Mat w O n M) {i : Nat} (hi : i < n) (j : Nat) : w.frozen? ⟨O + 1 + i, j, none⟩ = false := (h.row i hi).frozen j
theorem Mat.lt {w : World} {O n : Nat} {M : Mx} (h : Mat w O n M) {i : Nat} (hi : i < n) : O + 1 + i < w.heap.size := (h.row i hi).lt

/-- While row c is being laid, as far as column j. -/
structure RowIn (w : World) (O n c j : Nat) : Prop where
  out : w.rowIs O 22 n (fun i => if i < c + 1 then .slice (some ⟨O + 1 + i, 0, none⟩) n n else .slice none 0 0)
  row : ∀ i, i < c → w.rowIs (O + 1 + i) 3 n (fun j => .int .i64 (init0 i j))
  this : w.rowIs (O + 1 + c) 3 n (fun x => .int .i64 (if x < j then init0 c x else 0))
  size : w.heap.size = O + 1 + c + 1
theorem RowIn.same {w : World} {O n c j : Nat} (h : RowIn w O n c j) (e : c = j) : RowIn w O n c (j + 1) := by
  refine ⟨h.out, h.row, h.this.congr (fun x hx => ?_), h.size⟩
  subst e
  by_cases e2 : x = c
  · subst e2; simp [init0]
  · have : (x < c + 1) = (x < c) := by simp; omega
    simp [this]
theorem RowIn.put {w : World} {O n c j : Nat} (h : RowIn w O n c j) (e : c ≠ j) (hj : j < n) : RowIn (w.setCell ⟨O + 1 + c, j, none⟩ (.int .i64 1000000000)) O n c (j + 1) := by
  refine ⟨h.out.setOther (by simp; omega) _, fun i hi => (h.row i hi).setOther (by simp; omega) _, (h.this.set j _).congr (fun x hx => ?_), by simpa using h.size⟩
  by_cases e2 : x = j
  · subst e2; simp [init0, e, far]
  · have : (x < j + 1) = (x < j) := by simp; omega
    simp [this, e2]
theorem RowIn.done {w : World} {O n c : Nat} (h : RowIn w O n c n) : PMat w O n (c + 1) ∧ w.heap.size = O + 1 + (c + 1) := by
  refine ⟨⟨h.out, fun i hi => ?_⟩, by have := h.size; omega⟩
  rcases Nat.lt_or_eq_of_le (Nat.le_of_lt_succ hi) with h1 | rfl
  · exact h.row i h1
  · exact h.this.congr (fun x hx => by simp [hx])
theorem PMat.full {w : World} {O n : Nat} (h : PMat w O n n) : Mat w O n init0 := ⟨h.out.congr (fun i hi => by simp [hi]), h.row⟩

def FarPost (n : Nat) (l : List Bd) (w : World) (e : Ending) (w' : World) : Prop :=
  Below w.heap.size w w' ∧ ((Free n l ∧ e = .returned (.tuple #[.slice (some ⟨w.heap.size, 0, none⟩) n n, .bool true]) ∧ Mat w' w.heap.size n (fin n l)) ∨
    (¬ Free n l ∧ e = .returned (.tuple #[.slice none 0 0, .bool false])))

theorem Try.infoInts : (Try.prog.info? 22).map (fun i => (i.zero, i.size, i.bytes)) = some (some (.slice none 0 0), 1, 24) := by kernel_rfl
theorem Try.infoI : (Try.prog.info? 3).map (fun i => (i.zero, i.size, i.bytes)) = some (some (.int .i64 0), 1, 8) := by kernel_rfl

set_option maxRecDepth 100000 in
set_option maxHeartbeats 16000000 in
theorem farthest_any (A : Option Addr) (m cap : Nat) (zs : List Int) (n : Nat) (w : World) (h : FlatSl w 4 A m cap zs) (hC : ChronOk n (bds zs m)) :
    Calls Try.prog 47 #[.int .i64 n, .slice A m cap] w (FarPost n (bds zs m) w) := by
  obtain ⟨hn1, hn12, hm40, heach⟩ := hC
  rw [bds_len] at hm40
  obtain ⟨hle, hmost, hlen, hat⟩ := h
  have HL := Lib.hid hlen; have HE := Lib.hid heach; clear hlen heach
  have mk1 := run_make_row' (P := Try.prog) 50 22 (.slice none 0 0) 24 Try.underlying50 Try.infoInts rfl .i64 .i64 n (by omega) (by omega)
  have mk2 := run_make_row' (P := Try.prog) 22 3 (.int .i64 0) 8 Try.underlying22 Try.infoI rfl .i64 .i64 n (by omega) (by omega)
  go_enter Try.func47, Try.ntmps47
  go_wp2_with fail
  go_loopw [19] (fun i wr => ∃ c : Nat, c ≤ n ∧ i = .int .i64 c ∧ PMat wr w.heap.size n c ∧ wr.heap.size = w.heap.size + 1 + c ∧ Below w.heap.size w wr) (fun i _ => n - (intOf i).toNat)
  case atStart =>
    refine ⟨0, by omega, rfl, ⟨(World.rowIs_made w _ n _).congr (fun i hi => by simp), fun i hi => absurd hi (by omega)⟩, by simp, (by repeat' (first | (with_reducible refine below_drewN ?_ _) | go_grown))⟩
  case round =>
    obtain ⟨c, hc, rfl, ⟨hout, hrow⟩, hsz, hbw⟩ := hrel
    have HSZ := Lib.hid hsz; clear hsz
    have HROW := Lib.hid hrow; clear hrow
    have hbs := hbw.size
    by_cases hlt : c < n
    · have o1 : wr.cell? ⟨w.heap.size, c, none⟩ = some (.slice none 0 0) := by have := hout.cell hlt; simpa using this
      have o2 := hout.frozen c
      have o3 := hout.lt
      have i1 : (0 : Int) ≤ (c : Int) := by omega
      have i2 : (c : Int) < (n : Int) := by omega
      go_wp2_with fail
      obtain ⟨B, hB⟩ : ∃ B, B = wr.heap.size := ⟨_, rfl⟩
      rw [← hB]
      have hB2 : B = w.heap.size + 1 + c := by rw [hB]; exact HSZ.out
      have lay : RowIn ((wr.setCell ⟨w.heap.size, c, none⟩ (.slice (some ⟨B, 0, none⟩) n n)).alloc (.cells (madeCells #[.int .i64 0] n) 3)) w.heap.size n c 0 := by
        refine ⟨((hout.set c _).alloc _).congr (fun i hi => ?_), fun i hi => ((HROW.out i hi).setOther (by simp; omega) _).alloc _, ?_, ?_⟩
        · by_cases e : i = c
          · subst e; simp [hB2]
          · have this : (i < c + 1) ↔ (i < c) := by omega
            simp [e, this]
        · have := World.rowIs_made (wr.setCell ⟨w.heap.size, c, none⟩ (.slice (some ⟨B, 0, none⟩) n n)) (.int .i64 0) n 3
          rw [World.size_setCell, HSZ.out] at this
          exact World.rowIs.congr this (fun i hi => by simp)
        · simp [← hB, hB2]
      have hbw2 : Below w.heap.size w ((wr.setCell ⟨w.heap.size, c, none⟩ (.slice (some ⟨B, 0, none⟩) n n)).alloc (.cells (madeCells #[.int .i64 0] n) 3)) := (by repeat' (first | (with_reducible refine below_drewN ?_ _) | go_grown))
      have HB2 := Lib.hid hB2; clear hB2 hB HROW hout HSZ o1 o2 o3
      clear hbw hbs
      go_loopw [32] (fun i wv => ∃ j : Nat, j ≤ n ∧ i = .int .i64 j ∧ RowIn wv w.heap.size n c j ∧ Below w.heap.size w wv) (fun i _ => n - (intOf i).toNat)
      case atStart => exact ⟨0, by omega, rfl, lay, hbw2⟩
      case round =>
        obtain ⟨j, hj, rfl, hR, hbv⟩ := hrel
        clear lay hbw2
        by_cases hlj : j < n
        · obtain ⟨r1, r2, r3, r4⟩ := hR
          have o1 := r1.cell hlt
          rw [if_pos (by omega), ← HB2.out] at o1
          have o2 := r3.cell hlj
          have o3 := r3.frozen j
          have o4 := r3.lt
          rw [← HB2.out] at o2 o3 o4
          have i3 : (0 : Int) ≤ (j : Int) := by omega
          have i4 : (j : Int) < (n : Int) := by omega
          have R := Lib.hid (RowIn.mk r1 r2 r3 r4)
          clear r1 r2 r3 r4
          by_cases hcj : c = j
          · have e1 : ((c : Int) != (j : Int)) = false := by simp; omega
            have R2 := Lib.hid (R.out.same hcj)
            clear hcj
            go_wp2_with fail
            go_roundw
            case rel => exact ⟨j + 1, by omega, by go_num, R2.out, hbv⟩
            case measure => simp [intOf]; omega
          · have e1 : ((c : Int) != (j : Int)) = true := by simp; omega
            have R2 := R.out.put hcj hlj
            rw [← HB2.out] at R2
            have R3 := Lib.hid R2
            have hBw : w.heap.size ≤ B := by rw [HB2.out]; omega
            clear hcj R2
            go_wp2_with fail
            go_roundw
            case rel => exact ⟨j + 1, by omega, by go_num, R3.out, hbv.setCell hBw _⟩
            case measure => simp [intOf]; omega
        · obtain rfl : j = n := by omega
          have R := Lib.hid (hR.done)
          clear hR
          go_wp2_with fail
          go_roundw
          case rel => exact ⟨c + 1, by omega, by go_num, R.out.1, R.out.2, hbv⟩
          case measure => simp [intOf]; omega
    · obtain rfl : c = n := by omega
      have R := Lib.hid (PMat.mk hout HROW.out).full
      clear hout HROW HSZ
      go_wp2_with fail
      clear mk1 mk2 hbs
      have hO : w.heap.size ≤ w.heap.size := Nat.le_refl _
      go_loopw [48] (fun i wv => ∃ k : Nat, k ≤ m ∧ i = .int .i64 k ∧ Mat wv w.heap.size c (initM (bds zs k)) ∧ Below w.heap.size w wv) (fun i _ => m - (intOf i).toNat)
      case atStart => exact ⟨0, by omega, rfl, R.out, hbw⟩
      case round =>
        obtain ⟨k, hk, rfl, hM, hbw⟩ := hrel
        clear R
        have hbs := hbw.size
        by_cases hlt : k < m
        · obtain ⟨b0, off, rfl, hcell⟩ := hat (by omega)
          obtain ⟨c0, c1, c2, c3, hbl⟩ := bd_cells hcell (World.block_lt_of_cell? w _ (hcell 0 (by omega))) hbw hlt
          clear hcell hat
          have hck := HE.out (bdAt zs k) (mem_bds.2 ⟨k, hlt, rfl⟩)
          have hin := initM_succ zs k
          obtain ⟨⟨ca, cb, lo, hi⟩, hc⟩ : ∃ x, x = bdAt zs k := ⟨_, rfl⟩
          rw [← hc] at c0 c1 c2 c3 hck hin
          obtain ⟨p1, p2, p3, p4, p5, p6, p7, p8⟩ := hck
          simp only at c0 c1 c2 c3 p1 p2 p3 p4 p5 p6 p7 p8
          obtain ⟨a, rfl⟩ : ∃ a : Nat, ca = (a : Int) := ⟨ca.toNat, by omega⟩
          obtain ⟨b, rfl⟩ : ∃ b : Nat, cb = (b : Int) := ⟨cb.toNat, by omega⟩
          have ha : a < c := by omega
          have hb : b < c := by omega
          have hab : a ≠ b := by omega
          have HIN := Lib.hid hin; clear hin hc p7
          obtain ⟨M, hMe⟩ : ∃ M, M = initM (bds zs k) := ⟨_, rfl⟩
          rw [← hMe] at hM HIN
          have HME := Lib.hid hMe; clear hMe
          have x9 := hM.out.lt
          have ne1 : w.heap.size + 1 + a ≠ w.heap.size + 1 + b := by omega
          have q1 : (0 : Int) ≤ (a : Int) := by omega
          have q2 : (a : Int) < (c : Int) := by omega
          have q3 : (0 : Int) ≤ (b : Int) := by omega
          have q4 : (b : Int) < (c : Int) := by omega
          go_wp2_with fail
          obtain ⟨W, hW⟩ : ∃ W, W = wr.alloc (.cells #[.int .i64 a, .int .i64 b, .int .i64 lo, .int .i64 hi] 64) := ⟨_, rfl⟩
          rw [← hW]
          have hMW : Mat W w.heap.size c M := by rw [hW]; exact hM.alloc _
          have hbW : Below w.heap.size w W := by rw [hW]; exact hbw.alloc hbs _
          have y0 : W.cell? ⟨wr.heap.size, 0, none⟩ = some (.int .i64 a) := by rw [hW]; simp [go_sem]
          have y1 : W.cell? ⟨wr.heap.size, 1, none⟩ = some (.int .i64 b) := by rw [hW]; simp [go_sem]
          have y2 : W.cell? ⟨wr.heap.size, 2, none⟩ = some (.int .i64 lo) := by rw [hW]; simp [go_sem]
          have y3 : W.cell? ⟨wr.heap.size, 3, none⟩ = some (.int .i64 hi) := by rw [hW]; simp [go_sem]
          have z1 : w.heap.size + 1 + a ≠ wr.heap.size := by have := hM.lt ha; omega
          have HZ := Lib.hid (fun x (hx : x < c) => (show w.heap.size + 1 + x ≠ wr.heap.size by have := hM.lt hx; omega))
          have z2 : wr.heap.size < W.heap.size := by rw [hW]; simp
          have x1 := hMW.cO ha
          have x2 := hMW.c ha hb
          have x3 := hMW.f ha b
          have x4 := hMW.lt ha
          clear hW hM hbw hbs hbl
          go_still_tail 20, (by kernel_rfl)
          change wpList _ _ _ _ _ W.drew
          go_wp2_with fail
          obtain ⟨V, hV⟩ : ∃ V, V = (W.setCell ⟨w.heap.size + 1 + a, b, none⟩ (.int .i64 (min (M a b) hi))).drew := ⟨_, rfl⟩
          rw [← hV]
          obtain ⟨M1, hM1⟩ : ∃ M1, M1 = updM M a b (min (M a b) hi) := ⟨_, rfl⟩
          have hMV : Mat V w.heap.size c M1 := by rw [hV, hM1]; exact (hMW.set a b ha _).drew
          have hbV : Below w.heap.size w V := by rw [hV]; exact (hbW.setCell (by simp; omega) _).drew
          have v0 : V.cell? ⟨wr.heap.size, 0, none⟩ = some (.int .i64 a) := by rw [hV]; simp [go_sem, y0, Ne.symm z1]
          have v1 : V.cell? ⟨wr.heap.size, 1, none⟩ = some (.int .i64 b) := by rw [hV]; simp [go_sem, y1, Ne.symm z1]
          have v2 : V.cell? ⟨wr.heap.size, 2, none⟩ = some (.int .i64 lo) := by rw [hV]; simp [go_sem, y2, Ne.symm z1]
          have HM1 := Lib.hid hM1
          have z3 : w.heap.size + 1 + b ≠ wr.heap.size := by have := hMW.lt hb; have := HZ.out b hb; omega
          have x5 := hMV.cO hb
          have x6 := hMV.c hb ha
          have x7 := hMV.f hb a
          have x8 := hMV.lt hb
          have R2 := Lib.hid ((hMV.set b a hb (min (M1 b a) (-lo))).drew)
          have e2 : addB M ⟨a, b, lo, hi⟩ = updM M1 b a (min (M1 b a) (-lo)) := by rw [hM1]; rfl
          have E2 := Lib.hid e2
          clear e2 hV hM1 hMW hbW y0 y1 y2 y3 x1 x2 x3 x4 hMV z2
          go_still_tail 21, (by kernel_rfl)
          change wpList _ _ _ _ _ V.drew
          go_wp2_with fail
          go_roundw
          case rel => exact ⟨k + 1, by omega, by go_num, by rw [HIN.out, E2.out]; exact R2.out, (hbV.setCell (by simp; omega) _).drew⟩
          case measure => simp [intOf]; omega
        · obtain rfl : k = m := by omega
          have wd : Within c 8000000 (bds zs k) := ⟨by omega, by unfold far; omega, fun d hd => by
            have := HE.out d hd
            obtain ⟨_, _, _, _, h5, h6, _, h8⟩ := this
            exact ⟨HE.out d hd, by omega, by omega, by omega, by omega⟩⟩
          obtain ⟨l, hl⟩ : ∃ l, l = bds zs k := ⟨_, rfl⟩
          rw [← hl] at hM wd
          rw [← hl]
          have HLL := Lib.hid hl; clear hl HE
          have WD := Lib.hid wd; clear wd
          go_wp2_with fail
          clear hk hlt
          go_loopw [95] (fun i wv => ∃ k : Nat, k ≤ c ∧ i = .int .i64 k ∧ Mat wv w.heap.size c (fw c (initM l) k) ∧ Ok c (initM l) k ∧ Below w.heap.size w wv) (fun i _ => c - (intOf i).toNat)
          case atStart => exact ⟨0, by omega, rfl, hM, fun k' h => absurd h (by omega), hbw⟩
          case round =>
            clear hM hbw
            obtain ⟨k, hk, rfl, hM, hok, hbw⟩ := hrel
            have HOK := Lib.hid hok; clear hok
            by_cases hkc : k < c
            · have k1 : (0 : Int) ≤ (k : Int) := by omega
              have k2 : (k : Int) < (c : Int) := by omega
              go_wp2_with fail
              go_loopw [99] (fun i wv => ∃ i' : Nat, i' ≤ c ∧ i = .int .i64 i' ∧ Mat wv w.heap.size c (sweep c k (fw c (initM l) k) i') ∧ Below w.heap.size w wv) (fun i _ => c - (intOf i).toNat)
              case atStart => exact ⟨0, by omega, rfl, hM, hbw⟩
              case round =>
                clear hM hbw
                obtain ⟨i, hi, rfl, hM, hbw⟩ := hrel
                by_cases hic : i < c
                · have k3 : (0 : Int) ≤ (i : Int) := by omega
                  have k4 : (i : Int) < (c : Int) := by omega
                  go_wp2_with fail
                  go_loopw [103] (fun i' wv => ∃ j : Nat, j ≤ c ∧ i' = .int .i64 j ∧ Mat wv w.heap.size c (rowS k i (sweep c k (fw c (initM l) k) i) j) ∧ Below w.heap.size w wv) (fun i' _ => c - (intOf i').toNat)
                  case atStart => exact ⟨0, by omega, rfl, hM, hbw⟩
                  case round =>
                    clear hM hbw
                    obtain ⟨j, hj, rfl, hM, hbw⟩ := hrel
                    by_cases hjc : j < c
                    · have k5 : (0 : Int) ≤ (j : Int) := by omega
                      have k6 : (j : Int) < (c : Int) := by omega
                      have bd := sweep_bounds WD.out hn12 hkc hi hj HOK.out
                      have hstep : rowS k i (sweep c k (fw c (initM l) k) i) (j + 1) = relax k i j (rowS k i (sweep c k (fw c (initM l) k) i) j) := rfl
                      obtain ⟨S, hS⟩ : ∃ S, S = rowS k i (sweep c k (fw c (initM l) k) i) j := ⟨_, rfl⟩
                      rw [← hS] at bd hM hstep
                      have b1 := bd i k hic hkc
                      have b2 := bd k j hkc hjc
                      have b3 := bd i j hic hjc
                      clear bd hS
                      have HST := Lib.hid hstep; clear hstep
                      have x1 := hM.cO hic
                      have x2 := hM.cO hkc
                      have x3 := hM.c hic hkc
                      have x4 := hM.c hkc hjc
                      have x5 := hM.c hic hjc
                      have x6 := hM.f hic j
                      have x7 := hM.lt hic
                      have x8 := hM.lt hkc
                      obtain ⟨b1, b1'⟩ := b1
                      obtain ⟨b2, b2'⟩ := b2
                      obtain ⟨b3, b3'⟩ := b3
                      by_cases hf : S i k < 1000000000 ∧ S k j < 1000000000
                      · obtain ⟨f1, f2⟩ := hf
                        have e1 := relax_pos (k := k) (i := i) (j := j) (M := S) f1 f2
                        have E1 := Lib.hid (HST.out.trans e1); clear e1
                        have R2 := Lib.hid ((hM.set i j hic (min (S i j) (S i k + S k j))).drew)
                        clear hM
                        go_wp2_with fail
                        go_still_tail 29, (by kernel_rfl)
                        obtain ⟨W, hW⟩ : ∃ W, W = wr := ⟨_, rfl⟩
                        subst hW
                        change wpList _ _ _ _ _ (World.drew _)
                        go_wp2_with fail
                        go_roundw
                        case rel => exact ⟨j + 1, by omega, by go_num, by rw [E1.out]; exact R2.out, (hbw.setCell (by simp; omega) _).drew⟩
                        case measure => simp [intOf]; omega
                      · have e1 := relax_neg (k := k) (i := i) (j := j) (M := S) hf
                        have E1 := Lib.hid (HST.out.trans e1); clear e1
                        have R2 := Lib.hid hM
                        clear hM
                        by_cases f1 : S i k < 1000000000
                        · have f2 : ¬ S k j < 1000000000 := fun h => hf ⟨f1, h⟩
                          clear hf
                          go_wp2_with fail
                          go_roundw
                          case rel => exact ⟨j + 1, by omega, by go_num, by rw [E1.out]; exact R2.out, hbw⟩
                          case measure => simp [intOf]; omega
                        · clear hf
                          go_wp2_with fail
                          go_roundw
                          case rel => exact ⟨j + 1, by omega, by go_num, by rw [E1.out]; exact R2.out, hbw⟩
                          case measure => simp [intOf]; omega
                    · obtain rfl : j = c := by omega
                      have R2 := Lib.hid hM
                      clear hM
                      go_wp2_with fail
                      go_roundw
                      case rel => exact ⟨i + 1, by omega, by go_num, R2.out, hbw⟩
                      case measure => simp [intOf]; omega
                · obtain rfl : i = c := by omega
                  have hM2 : Mat wr w.heap.size i (fw i (initM l) (k + 1)) := hM
                  clear hM
                  go_wp2_with fail
                  go_loopw [156] (fun i' wv => ∃ x : Nat, x ≤ i ∧ i' = .int .i64 x ∧ (∀ y, y < x → 0 ≤ fw i (initM l) (k + 1) y y) ∧ Mat wv w.heap.size i (fw i (initM l) (k + 1)) ∧ Below w.heap.size w wv) (fun i' _ => i - (intOf i').toNat)
                  case atStart => exact ⟨0, by omega, rfl, fun y hy => absurd hy (by omega), hM2, hbw⟩
                  case round =>
                    clear hM2 hbw
                    obtain ⟨x, hx, rfl, hall, hM, hbw⟩ := hrel
                    have HALL := Lib.hid hall; clear hall
                    by_cases hxi : x < i
                    · have k5 : (0 : Int) ≤ (x : Int) := by omega
                      have k6 : (x : Int) < (i : Int) := by omega
                      obtain ⟨D, hD⟩ : ∃ D, D = fw i (initM l) (k + 1) := ⟨_, rfl⟩
                      rw [← hD] at hM HALL
                      have HD := Lib.hid hD; clear hD
                      have x1 := hM.cO hxi
                      have x2 := hM.c hxi hxi
                      have R2 := Lib.hid hM; clear hM
                      by_cases hneg : D x x < 0
                      · have hbad : ¬ Free i l := fun hf => by
                          have := hf k hkc x hxi
                          rw [← HD.out] at this
                          omega
                        have HBAD := Lib.hid hbad; clear hbad
                        go_wp2_with fail
                        go_returns
                        exact ⟨hbw, Or.inr ⟨by rw [← HLL.out]; exact HBAD.out, rfl⟩⟩
                      · have R3 : Hid (∀ y, y < x + 1 → 0 ≤ D y y) := Lib.hid (fun y hy => by
                          rcases Nat.lt_or_eq_of_le (Nat.le_of_lt_succ hy) with h | rfl
                          · exact HALL.out y h
                          · omega)
                        clear HALL
                        go_wp2_with fail
                        go_roundw
                        case rel => exact ⟨x + 1, by omega, by go_num, by rw [← HD.out]; exact R3.out, by rw [← HD.out]; exact R2.out, hbw⟩
                        case measure => simp [intOf]; omega
                    · obtain rfl : x = i := by omega
                      have R3 : Hid (Ok x (initM l) (k + 1)) := Lib.hid (fun k' hk' y hy => by
                        rcases Nat.lt_or_eq_of_le (Nat.le_of_lt_succ hk') with h | rfl
                        · exact HOK.out k' h y hy
                        · exact HALL.out y hy)
                      have R2 := Lib.hid hM; clear hM HALL HOK
                      go_wp2_with fail
                      go_roundw
                      case rel => exact ⟨k + 1, by omega, by go_num, R2.out, R3.out, hbw⟩
                      case measure => simp [intOf]; omega
            · obtain rfl : k = c := by omega
              go_wp2_with fail
              go_returns
              exact ⟨hbw, Or.inl ⟨by rw [← HLL.out]; exact HOK.out, rfl, by rw [← HLL.out]; exact hM⟩⟩

end Go.Proofs.Ytmeppcoekmoofaa
