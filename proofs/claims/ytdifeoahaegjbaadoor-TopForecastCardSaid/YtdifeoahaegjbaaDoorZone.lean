/- Zones in memory; zone.Check. -/
import Derived.Test.YtdifeoahaegjbaaDoorZText
import Derived.Test.YtdifeoahaegjbaaDoorBasic
namespace Go.Proofs.YtdifeoahaegjbaaDoor
open Go.RowKit
set_option linter.unusedSimpArgs false
set_option linter.unusedVariables false

structure Chg where
  at' : Int
  off : Int
  lab : ByteArray
def chD : Chg := ⟨0, 0, ⟨#[]⟩⟩
def ch (cs : List Chg) (i : Nat) : Chg := cs.getD i chD
def I64 (n : Int) : Prop := -9223372036854775808 ≤ n ∧ n ≤ 9223372036854775807
structure ChRng (c : Chg) : Prop where
  a : I64 c.at'
  o : I64 c.off
  l : c.lab.size ≤ 9223372036854775807
/-- A slice of changes. -/
structure ChSl (w : World) (A : Option Addr) (n cap : Nat) (cs : List Chg) : Prop where
  le : n ≤ cap
  most : cap ≤ maxLen
  len : cs.length = n
  rng : ∀ i, i < n → ChRng (ch cs i)
  mem : 0 < n → ∃ b off, A = some ⟨b, off, none⟩ ∧ ∀ i, i < n → w.cell? ⟨b, off + i * 3, none⟩ = some (.int .i64 (ch cs i).at') ∧ w.cell? ⟨b, off + i * 3 + 1, none⟩ = some (.int .i64 (ch cs i).off) ∧ w.cell? ⟨b, off + i * 3 + 2, none⟩ = some (.string (ch cs i).lab)
theorem ChSl.stay {w w' : World} {A : Option Addr} {n cap : Nat} {cs : List Chg} (h : ChSl w A n cap cs) (hb : Below w.heap.size w w') : ChSl w' A n cap cs := by
  refine ⟨h.le, h.most, h.len, h.rng, fun hn => ?_⟩
  obtain ⟨b, off, hA, hc⟩ := h.mem hn
  have hlt : b < w.heap.size := cell_lt (hc 0 hn).1
  exact ⟨b, off, hA, fun i hi => ⟨(hb.cell (p := ⟨b, off + i * 3, none⟩) hlt).trans (hc i hi).1, (hb.cell (p := ⟨b, off + i * 3 + 1, none⟩) hlt).trans (hc i hi).2.1, (hb.cell (p := ⟨b, off + i * 3 + 2, none⟩) hlt).trans (hc i hi).2.2⟩⟩

def zF (s f u : Value) : Nat → Value := fun i => if i = 0 then s else if i = 1 then f else u
/-- Block b holds a zone. -/
def ZBox (w : World) (b : Nat) (s f u : Value) : Prop := w.rowIs b 24 3 (zF s f u)
section
variable {w w' : World} {b : Nat} {s f u : Value}
theorem ZBox.c0 (h : ZBox w b s f u) : w.cell? ⟨b, 0, none⟩ = some s := World.rowIs.cell h (i := 0) (by omega)
theorem ZBox.c1 (h : ZBox w b s f u) : w.cell? ⟨b, 1, none⟩ = some f := World.rowIs.cell h (i := 1) (by omega)
theorem ZBox.c2 (h : ZBox w b s f u) : w.cell? ⟨b, 2, none⟩ = some u := World.rowIs.cell h (i := 2) (by omega)
theorem ZBox.free (h : ZBox w b s f u) (i : Nat) : w.frozen? ⟨b, i, none⟩ = false := World.rowIs.frozen h i
theorem ZBox.lt (h : ZBox w b s f u) : b < w.heap.size := World.rowIs.lt h
theorem ZBox.alloc (h : ZBox w b s f u) (o : Obj) : ZBox (w.alloc o) b s f u := World.rowIs.alloc h o
theorem ZBox.below (h : ZBox w b s f u) (hb : Below w.heap.size w w') : ZBox w' b s f u := World.rowIs.of_block h (hb.block b (World.rowIs.lt h))
theorem ZBox.new (w : World) (s f u : Value) : ZBox (w.alloc (.cells #[s, f, u] 24)) w.heap.size s f u :=
  World.rowIs_alloc w #[s, f, u] 24 (zF s f u) (fun i hi => by
    match i, hi with
    | 0, _ => rfl
    | 1, _ => rfl
    | 2, _ => rfl)
theorem ZBox.other (h : ZBox w b s f u) {a : Addr} (ha : b ≠ a.block) (x : Value) : ZBox (w.setCell a x) b s f u := World.rowIs.setOther h ha x
theorem ZBox.set2 (h : ZBox w b s f u) (x : Value) : ZBox (w.setCell ⟨b, 2, none⟩ x) b s f x :=
  (World.rowIs.set h 2 x).congr (fun i hi => by
    match i, hi with
    | 0, _ => rfl
    | 1, _ => rfl
    | 2, _ => rfl)
end

def cgF (s f u : Value) : Nat → Value := fun i => if i = 0 then s else if i = 1 then f else u
/-- Block b holds a change. -/
def CgBox (w : World) (b : Nat) (s f u : Value) : Prop := w.rowIs b 36 3 (cgF s f u)
section
variable {w w' : World} {b : Nat} {s f u : Value}
theorem CgBox.c0 (h : CgBox w b s f u) : w.cell? ⟨b, 0, none⟩ = some s := World.rowIs.cell h (i := 0) (by omega)
theorem CgBox.c1 (h : CgBox w b s f u) : w.cell? ⟨b, 1, none⟩ = some f := World.rowIs.cell h (i := 1) (by omega)
theorem CgBox.c2 (h : CgBox w b s f u) : w.cell? ⟨b, 2, none⟩ = some u := World.rowIs.cell h (i := 2) (by omega)
theorem CgBox.free (h : CgBox w b s f u) (i : Nat) : w.frozen? ⟨b, i, none⟩ = false := World.rowIs.frozen h i
theorem CgBox.lt (h : CgBox w b s f u) : b < w.heap.size := World.rowIs.lt h
theorem CgBox.alloc (h : CgBox w b s f u) (o : Obj) : CgBox (w.alloc o) b s f u := World.rowIs.alloc h o
theorem CgBox.below (h : CgBox w b s f u) (hb : Below w.heap.size w w') : CgBox w' b s f u := World.rowIs.of_block h (hb.block b (World.rowIs.lt h))
theorem CgBox.new (w : World) (s f u : Value) : CgBox (w.alloc (.cells #[s, f, u] 36)) w.heap.size s f u :=
  World.rowIs_alloc w #[s, f, u] 36 (cgF s f u) (fun i hi => by
    match i, hi with
    | 0, _ => rfl
    | 1, _ => rfl
    | 2, _ => rfl)
theorem CgBox.other (h : CgBox w b s f u) {a : Addr} (ha : b ≠ a.block) (x : Value) : CgBox (w.setCell a x) b s f u := World.rowIs.setOther h ha x
theorem CgBox.set2 (h : CgBox w b s f u) (x : Value) : CgBox (w.setCell ⟨b, 2, none⟩ x) b s f x :=
  (World.rowIs.set h 2 x).congr (fun i hi => by
    match i, hi with
    | 0, _ => rfl
    | 1, _ => rfl
    | 2, _ => rfl)
end

/-- The first k changes are well and in order. -/
def chOk1 (cs : List Chg) (i : Nat) : Prop := instOk (ch cs i).at' = true ∧ offOk (ch cs i).off = true ∧ labOk (ch cs i).lab = true ∧ (0 < i → (ch cs (i - 1)).at' < (ch cs i).at')
def ZoneOk (s : ByteArray) (f : Int) (cs : List Chg) : Prop := nameOk s = true ∧ offOk f = true ∧ cs.length ≤ 200 ∧ ∀ i, i < cs.length → chOk1 cs i
def ZRes (s : ByteArray) (f : Int) (cs : List Chg) (w : World) (e : Ending) (w' : World) : Prop := ∃ r : Int, e = .returned (.int .i64 r) ∧ (r = 0 ↔ ZoneOk s f cs) ∧ Below w.heap.size w w'

set_option maxRecDepth 100000 in
set_option maxHeartbeats 8000000 in
theorem zCheck_ok (s : ByteArray) (f : Int) (A : Option Addr) (n cap : Nat) (cs : List Chg) (w : World) (h : ChSl w A n cap cs) (hs : s.size ≤ 9223372036854775807) :
    Calls Tryd.prog 11 #[.agg #[.string s, .int .i64 f, .slice A n cap]] w (ZRes s f cs w) := by
  have HB := Lib.hid (ZBox.new w (.string s) (.int .i64 f) (.slice A n cap))
  have Hb := Lib.hid ((Below.refl w.heap.size w).alloc (Nat.le_refl _) (.cells #[.string s, .int .i64 f, .slice A n cap] 24))
  have H := Lib.hid h
  have hlen := h.len
  have hm := h.most; have hle := h.le
  unfold maxLen at hm
  obtain ⟨k, hk⟩ : ∃ k, k = w.heap.size := ⟨_, rfl⟩
  have HK := Lib.hid hk
  have HL := Lib.hid hlen
  clear h hlen
  by_cases g0 : nameOk s = true
  · by_cases g1 : offOk f = true
    · by_cases g2 : n ≤ 200
      · have hnm := Lib.hid (fun w => g0 ▸ isName_ok s w hs)
        have hof := Lib.hid (fun w => g1 ▸ isOff_ok f w)
        have G := Lib.hid (And.intro g0 (And.intro g1 g2))
        have e2 : ¬ (200 : Int) < (n : Int) := by omega
        clear g0 g1
        go_enter Tryd.func11, Tryd.ntmps11
        go_upto_region 1 with fail
        obtain ⟨V, hV⟩ : ∃ V, V = w.alloc (.cells #[.string s, .int .i64 f, .slice A n cap] 24) := ⟨_, rfl⟩
        rw [← hV] at HB Hb ⊢
        rw [← hk] at HB ⊢
        clear hV hk
        have x0 := HB.out.c0; have x1 := HB.out.c1; have x2 := HB.out.c2; have xl := HB.out.lt
        go_wp2_with fail
        refine Calls.mono (hnm.out _) ?_
        rintro e _ ⟨rfl, rfl⟩
        go_wp2_with fail
        refine Calls.mono (hof.out _) ?_
        rintro e _ ⟨rfl, rfl⟩
        go_wp2_with fail
        clear x0 x1 x2 xl
        have e2' : decide ((200 : Int) < (n : Int)) = false := decide_eq_false (by omega)
        rw [e2']
        clear e2' e2
        go_loopw [20] (fun i' wv => ∃ i : Nat, i ≤ n ∧ i' = .int .i64 i ∧ Hid (∀ j, j < i → chOk1 cs j) ∧ ZBox wv k (.string s) (.int .i64 f) (.slice A n cap) ∧ Below w.heap.size w wv) (fun i' _ => n - (intOf i').toNat)
        case atStart => exact ⟨0, by omega, rfl, Lib.hid (fun j hj => absurd hj (by omega)), HB.out, Hb.out⟩
        case round =>
          clear HB Hb
          obtain ⟨i, hi, rfl, HO, hB, hb⟩ := hrel
          have HB := Lib.hid hB; have Hb := Lib.hid hb
          clear hB hb
          by_cases hin : i < n
          · have i0 : (0 : Int) ≤ (i : Int) := by omega
            have i1 : (i : Int) < (n : Int) := by omega
            obtain ⟨q, o, hA, hc⟩ := H.out.mem (by omega)
            have HC := Lib.hid (fun W (hb : Below w.heap.size w W) j (hj : j < n) => And.intro ((hb.cell (p := ⟨q, o + j * 3, none⟩) (cell_lt (hc j hj).1)).trans (hc j hj).1) (And.intro ((hb.cell (p := ⟨q, o + j * 3 + 1, none⟩) (cell_lt (hc j hj).2.1)).trans (hc j hj).2.1) ((hb.cell (p := ⟨q, o + j * 3 + 2, none⟩) (cell_lt (hc j hj).2.2)).trans (hc j hj).2.2)))
            obtain ⟨x0, x1, x2⟩ := HC.out _ Hb.out i hin
            subst hA
            have rg := H.out.rng i hin
            have hch : ch cs i = ⟨(ch cs i).at', (ch cs i).off, (ch cs i).lab⟩ := rfl
            obtain ⟨a, ha⟩ : ∃ a, a = (ch cs i).at' := ⟨_, rfl⟩
            obtain ⟨of, hof2⟩ : ∃ a, a = (ch cs i).off := ⟨_, rfl⟩
            obtain ⟨lb, hlb⟩ : ∃ a, a = (ch cs i).lab := ⟨_, rfl⟩
            have r1 := rg.a; have r3 := rg.l
            rw [← ha] at x0 r1; rw [← hof2] at x1; rw [← hlb] at x2 r3
            have HD := Lib.hid (And.intro ha (And.intro hof2 hlb)); have HR1 := Lib.hid r1; have HR3 := Lib.hid r3
            clear hc ha hof2 hlb r1 r3 rg hch
            have bw := (Below.refl wr.heap.size wr).alloc (Nat.le_refl _) (.cells #[.int .i64 a, .int .i64 of, .string lb] 36)
            have HP := Lib.hid (CgBox.new wr (.int .i64 a) (.int .i64 of) (.string lb))
            have HB2 := Lib.hid (HB.out.below bw)
            have Hb2 := Lib.hid (Hb.out.trans (bw.mono Hb.out.size))
            go_upto_region 10 with fail
            obtain ⟨kp, hkp⟩ : ∃ b, b = wr.heap.size := ⟨_, rfl⟩
            obtain ⟨U, hU⟩ : ∃ U, U = wr.alloc (.cells #[.int .i64 a, .int .i64 of, .string lb] 36) := ⟨_, rfl⟩
            rw [← hU, ← hkp] at HP ⊢
            rw [← hU] at HB2 Hb2
            clear bw hkp hU HB Hb x0 x1 x2
            have x0 := HP.out.c0; have xl := HP.out.lt
            go_wp2_with fail
            refine Calls.mono (isInst_ok a _ HR1.out.1 HR1.out.2) ?_
            rintro e w3 ⟨rfl, hb⟩
            have HP3 := Lib.hid (HP.out.below hb); have HB3 := Lib.hid (HB2.out.below hb); have Hb3 := Lib.hid (Hb2.out.trans (hb.mono Hb2.out.size))
            clear hb HP HB2 Hb2 x0 xl
            by_cases c1 : instOk a = true
            · rw [c1]
              have C1 := Lib.hid c1
              clear c1
              have x0 := HP3.out.c1; have xl := HP3.out.lt
              go_wp2_with fail
              refine Calls.mono (isOff_ok of _) ?_
              rintro e _ ⟨rfl, rfl⟩
              clear x0 xl
              by_cases c2 : offOk of = true
              · rw [c2]
                have C2 := Lib.hid c2
                clear c2
                have x0 := HP3.out.c2; have xl := HP3.out.lt
                go_wp2_with fail
                refine Calls.mono (isLabel_ok lb _ HR3.out) ?_
                rintro e _ ⟨rfl, rfl⟩
                clear x0 xl
                have Hb4 := Hb3
                by_cases c3 : labOk lb = true
                · rw [c3]
                  have C3 := Lib.hid c3
                  clear c3
                  rcases Nat.eq_zero_or_pos i with hz | hp
                  · subst hz
                    have hk : chOk1 cs 0 := ⟨by rw [← HD.out.1]; exact C1.out, by rw [← HD.out.2.1]; exact C2.out, by rw [← HD.out.2.2]; exact C3.out, fun h => absurd h (by omega)⟩
                    have HOK := Lib.hid hk
                    clear hk
                    go_wp2_with fail
                    go_quiet (fail)
                    go_wp2_with fail
                    have HB5 := Lib.hid (HB3.out.below (below_drewN (Below.refl _ _) nq)); have Hb5 := Lib.hid (below_drewN Hb3.out nq)
                    go_roundw
                    case rel => exact ⟨1, by omega, rfl, Lib.hid (fun j hj => by
                      have hj0 : j = 0 := by omega
                      rw [hj0]; exact HOK.out), HB5.out, Hb5.out⟩
                    case measure => simp [intOf]; omega
                  · obtain ⟨p, hp1⟩ : ∃ p, i = p + 1 := ⟨i - 1, by omega⟩
                    have hsub : (i : Int) - 1 = (p : Int) := by omega
                    have p0 : (0 : Int) ≤ (p : Int) := by omega
                    have p1 : (p : Int) < (n : Int) := by omega
                    have p2 : (p : Int) < (cap : Int) := by omega
                    have i2 : (0 : Int) < (i : Int) := by omega
                    obtain ⟨y0, _, _⟩ := HC.out _ Hb3.out p (by omega)
                    obtain ⟨ap, hap⟩ : ∃ a, a = (ch cs p).at' := ⟨_, rfl⟩
                    rw [← hap] at y0
                    have HAP := Lib.hid hap
                    have x0 := HP3.out.c0; have xl := HP3.out.lt; have z2 := HB3.out.c2; have zl := HB3.out.lt
                    have HPI := Lib.hid hp1
                    clear hap hp1
                    by_cases c5 : a ≤ ap
                    · have hno : ¬ chOk1 cs i := fun h => by
                        have h1 := h.2.2.2 hp
                        rw [show i - 1 = p by have := HPI.out; omega, ← HAP.out, ← HD.out.1] at h1
                        omega
                      have HNO := Lib.hid hno
                      clear hno
                      go_wp2_with fail
                      go_quiet (fail)
                      go_wp2_with fail
                      go_ret
                      exact ⟨9, rfl, ⟨fun h => absurd h (by decide), fun h => absurd (h.2.2.2 i (by rw [HL.out]; exact hin)) HNO.out⟩, below_drewN Hb3.out nq⟩
                    · have hk : chOk1 cs i := ⟨by rw [← HD.out.1]; exact C1.out, by rw [← HD.out.2.1]; exact C2.out, by rw [← HD.out.2.2]; exact C3.out, fun _ => by
                        rw [show i - 1 = p by have := HPI.out; omega, ← HAP.out, ← HD.out.1]; omega⟩
                      have HOK := Lib.hid hk
                      have c6 : ap < a := by omega
                      clear hk c5
                      go_wp2_with fail
                      go_quiet (fail)
                      go_wp2_with fail
                      have HB5 := Lib.hid (HB3.out.below (below_drewN (Below.refl _ _) nq)); have Hb5 := Lib.hid (below_drewN Hb3.out nq)
                      go_roundw
                      case rel => exact ⟨i + 1, by omega, by go_num, Lib.hid (fun j hj => by
                        rcases (by omega : j < i ∨ j = i) with h | h
                        · exact HO.out j h
                        · rw [h]; exact HOK.out), HB5.out, Hb5.out⟩
                      case measure => simp [intOf]; omega
                · have c4 : labOk lb = false := by simpa using c3
                  rw [c4]
                  have hno : ¬ chOk1 cs i := fun h => c3 (by rw [HD.out.2.2]; exact h.2.2.1)
                  have HNO := Lib.hid hno
                  clear c3 c4 hno
                  go_wp2_with fail
                  go_ret
                  exact ⟨8, rfl, ⟨fun h => absurd h (by decide), fun h => absurd (h.2.2.2 i (by rw [HL.out]; exact hin)) HNO.out⟩, Hb4.out⟩
              · have c4 : offOk of = false := by simpa using c2
                rw [c4]
                have Hb4 := Hb3
                have hno : ¬ chOk1 cs i := fun h => c2 (by rw [HD.out.2.1]; exact h.2.1)
                have HNO := Lib.hid hno
                clear c2 c4 hno
                go_wp2_with fail
                go_ret
                exact ⟨3, rfl, ⟨fun h => absurd h (by decide), fun h => absurd (h.2.2.2 i (by rw [HL.out]; exact hin)) HNO.out⟩, Hb4.out⟩
            · have c4 : instOk a = false := by simpa using c1
              rw [c4]
              have Hb4 := Hb3
              have hno : ¬ chOk1 cs i := fun h => c1 (by rw [HD.out.1]; exact h.1)
              have HNO := Lib.hid hno
              clear c1 c4 hno
              go_wp2_with fail
              go_ret
              exact ⟨3, rfl, ⟨fun h => absurd h (by decide), fun h => absurd (h.2.2.2 i (by rw [HL.out]; exact hin)) HNO.out⟩, Hb4.out⟩
          · obtain rfl : i = n := by omega
            go_wp2_with fail
            go_ret
            exact ⟨0, rfl, ⟨fun _ => ⟨G.out.1, G.out.2.1, by rw [HL.out]; exact G.out.2.2, fun j hj => HO.out j (by rw [HL.out] at hj; exact hj)⟩, fun _ => rfl⟩, Hb.out⟩
      · have hnm := Lib.hid (fun w => g0 ▸ isName_ok s w hs)
        have hof := Lib.hid (fun w => g1 ▸ isOff_ok f w)
        have e2 : (200 : Int) < (n : Int) := by omega
        have HG2 := Lib.hid g2
        clear g0 g1 g2
        go_enter Tryd.func11, Tryd.ntmps11
        go_upto_region 1 with fail
        obtain ⟨V, hV⟩ : ∃ V, V = w.alloc (.cells #[.string s, .int .i64 f, .slice A n cap] 24) := ⟨_, rfl⟩
        rw [← hV] at HB Hb ⊢
        rw [← hk] at HB ⊢
        clear hV hk
        have x0 := HB.out.c0; have x1 := HB.out.c1; have x2 := HB.out.c2; have xl := HB.out.lt
        go_wp2_with fail
        refine Calls.mono (hnm.out _) ?_
        rintro e _ ⟨rfl, rfl⟩
        go_wp2_with fail
        refine Calls.mono (hof.out _) ?_
        rintro e _ ⟨rfl, rfl⟩
        go_wp2_with fail
        go_ret
        exact ⟨2, rfl, ⟨fun h => absurd h (by decide), fun h => absurd h.2.2.1 (by rw [HL.out]; exact HG2.out)⟩, Hb.out⟩
    · have hnm := Lib.hid (fun w => g0 ▸ isName_ok s w hs)
      have g3 : offOk f = false := by simpa using g1
      have hof := Lib.hid (fun w => g3 ▸ isOff_ok f w)
      have HG1 := Lib.hid g1
      clear g0 g1 g3
      go_enter Tryd.func11, Tryd.ntmps11
      go_upto_region 1 with fail
      obtain ⟨V, hV⟩ : ∃ V, V = w.alloc (.cells #[.string s, .int .i64 f, .slice A n cap] 24) := ⟨_, rfl⟩
      rw [← hV] at HB Hb ⊢
      rw [← hk] at HB ⊢
      clear hV hk
      have x0 := HB.out.c0; have x1 := HB.out.c1; have x2 := HB.out.c2; have xl := HB.out.lt
      go_wp2_with fail
      refine Calls.mono (hnm.out _) ?_
      rintro e _ ⟨rfl, rfl⟩
      go_wp2_with fail
      refine Calls.mono (hof.out _) ?_
      rintro e _ ⟨rfl, rfl⟩
      go_wp2_with fail
      go_ret
      exact ⟨3, rfl, ⟨fun h => absurd h (by decide), fun h => absurd h.2.1 HG1.out⟩, Hb.out⟩
  · have g3 : nameOk s = false := by simpa using g0
    have hnm := Lib.hid (fun w => g3 ▸ isName_ok s w hs)
    have HG0 := Lib.hid g0
    clear g0 g3
    go_enter Tryd.func11, Tryd.ntmps11
    go_upto_region 1 with fail
    obtain ⟨V, hV⟩ : ∃ V, V = w.alloc (.cells #[.string s, .int .i64 f, .slice A n cap] 24) := ⟨_, rfl⟩
    rw [← hV] at HB Hb ⊢
    rw [← hk] at HB ⊢
    clear hV hk
    have x0 := HB.out.c0; have x1 := HB.out.c1; have x2 := HB.out.c2; have xl := HB.out.lt
    go_wp2_with fail
    refine Calls.mono (hnm.out _) ?_
    rintro e _ ⟨rfl, rfl⟩
    go_wp2_with fail
    go_ret
    exact ⟨5, rfl, ⟨fun h => absurd h (by decide), fun h => absurd h.1 HG0.out⟩, Hb.out⟩
end Go.Proofs.YtdifeoahaegjbaaDoor
