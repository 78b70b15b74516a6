/- figure.Read at the text of the example. -/
import Derived.Test.YtbehickhaidliaaDoorPolyline
import Derived.Deep.DeepCutAuto
namespace Go.Proofs.YtbehickhaidliaaDoor
open Go.RowKit
set_option linter.unusedSimpArgs false
set_option linter.unusedVariables false

theorem split_at (s sep : ByteArray) (n : Nat) (ws : List ByteArray) (hn : Lib.countB s sep + 1 = n) (hw : Lib.splitB sep 0 (Lib.countB s sep) s = ws) (hs : s.size < 4294967281) (h1 : 1 ≤ sep.size) (w : World) (hm : MaxL w) :
    Calls Tryd.prog 44 #[.string s, .string sep] w fun e w' => e = .returned (.slice (some ⟨w.heap.size, 0, none⟩) n n) ∧ w' = w.alloc (.cells (ws.map Value.string).toArray 9) := by
  obtain ⟨m, hm⟩ := hm
  refine (Tryd.strings_Split s sep m w hs hm h1).mono fun e w' ⟨he, hw'⟩ => ⟨?_, ?_⟩
  · rw [he, hn]
  · rw [hw', hw]
def exS : Nat → ByteArray
  | 0 => ⟨#[112, 32, 48, 32, 48, 10, 112, 32, 49, 47, 50, 32, 49, 10, 108, 32, 48, 32, 49, 10]⟩
  | 1 => ⟨#[112, 32, 49, 47, 50, 32, 49, 10, 108, 32, 48, 32, 49, 10]⟩
  | 2 => ⟨#[108, 32, 48, 32, 49, 10]⟩
  | _ => ⟨#[]⟩
def exN : Nat → List Int
  | 0 => []
  | 1 => [0, 1, 0, 1]
  | _ => [0, 1, 0, 1, 1, 2, 1, 1]
theorem exCut0 : Lib.cut (exS 0).data.toList [10] = ([112, 32, 48, 32, 48], (exS 1).data.toList, true) := by decide +kernel
theorem exCut1 : Lib.cut (exS 1).data.toList [10] = ([112, 32, 49, 47, 50, 32, 49], (exS 2).data.toList, true) := by decide +kernel
theorem exCut2 : Lib.cut (exS 2).data.toList [10] = ([108, 32, 48, 32, 49], (exS 3).data.toList, true) := by decide +kernel
theorem exCnt0 : Lib.countB ⟨#[112, 32, 48, 32, 48]⟩ ⟨#[32]⟩ + 1 = 3 := by decide +kernel
theorem exCnt1 : Lib.countB ⟨#[112, 32, 49, 47, 50, 32, 49]⟩ ⟨#[32]⟩ + 1 = 3 := by decide +kernel
theorem exCnt2 : Lib.countB ⟨#[108, 32, 48, 32, 49]⟩ ⟨#[32]⟩ + 1 = 3 := by decide +kernel
theorem exSp0 : Lib.splitB ⟨#[32]⟩ 0 (Lib.countB ⟨#[112, 32, 48, 32, 48]⟩ ⟨#[32]⟩) ⟨#[112, 32, 48, 32, 48]⟩ = [⟨#[112]⟩, ⟨#[48]⟩, ⟨#[48]⟩] := by decide +kernel
theorem exSp1 : Lib.splitB ⟨#[32]⟩ 0 (Lib.countB ⟨#[112, 32, 49, 47, 50, 32, 49]⟩ ⟨#[32]⟩) ⟨#[112, 32, 49, 47, 50, 32, 49]⟩ = [⟨#[112]⟩, ⟨#[49, 47, 50]⟩, ⟨#[49]⟩] := by decide +kernel
theorem exSp2 : Lib.splitB ⟨#[32]⟩ 0 (Lib.countB ⟨#[108, 32, 48, 32, 49]⟩ ⟨#[32]⟩) ⟨#[108, 32, 48, 32, 49]⟩ = [⟨#[108]⟩, ⟨#[48]⟩, ⟨#[49]⟩] := by decide +kernel
theorem exR0 (w : World) (h : Rd w) : Calls Tryd.prog 69 #[.string ⟨#[48]⟩] w fun e w' => e = .returned (.tuple #[.agg #[.int .i64 0, .int .i64 1], .int .i64 0]) ∧ Below w.heap.size w w' :=
  fracRead_whole ⟨#[48]⟩ 0 w h (by decide +kernel) (by decide) (by decide +kernel) (by decide +kernel) (frOk_one (by omega) (by omega))
theorem exR1 (w : World) (h : Rd w) : Calls Tryd.prog 69 #[.string ⟨#[49]⟩] w fun e w' => e = .returned (.tuple #[.agg #[.int .i64 1, .int .i64 1], .int .i64 0]) ∧ Below w.heap.size w w' :=
  fracRead_whole ⟨#[49]⟩ 1 w h (by decide +kernel) (by decide) (by decide +kernel) (by decide +kernel) (frOk_one (by omega) (by omega))
theorem exR2 (w : World) (h : Rd w) : Calls Tryd.prog 69 #[.string ⟨#[49, 47, 50]⟩] w fun e w' => e = .returned (.tuple #[.agg #[.int .i64 1, .int .i64 2], .int .i64 0]) ∧ Below w.heap.size w w' :=
  fracRead_frac ⟨#[49, 47, 50]⟩ ⟨#[49]⟩ ⟨#[50]⟩ 1 2 w h (by decide) (by decide +kernel) (by decide) (by decide) (by decide +kernel) (by decide +kernel) (by decide +kernel) ⟨by omega, by omega, by omega, by omega, by decide⟩

/-- What stands after t lines. -/
structure RdS (w0 wv : World) (k t : Nat) (u v : Value) : Prop where
  r : FgBox wv k (.slice none 0 0) (.slice none 0 0)
  f : FgBox wv (k + 1) u v
  own : wv.ownsRow (k + 1 + 1) 40 4 u (min t 2) ((exN (min t 2)).map (Value.int .i64))
  lin : LinR wv (k + 1 + 1) v 2 (if t = 3 then 1 else 0)
  sz : k + 1 + 1 ≤ wv.heap.size
  b : Below w0.heap.size w0 wv
theorem LinR.below {w w' : World} {lo : Nat} {u : Value} {n j : Nat} (h : LinR w lo u n j) (hb : Below w.heap.size w w') : LinR w' lo u n j := by
  rcases h with h | ⟨h0, b', bc, g, gc, h1, h2, h3, h4, h5, h6, h7, h8⟩
  · exact .inl h
  · exact .inr ⟨h0, b', bc, g, gc, h1, h2, h3, h4, (hb.cell (p := ⟨b', 0, none⟩) (cell_lt h5)).trans h5, h6, (hb.cell (p := ⟨g, 0, none⟩) (cell_lt h7)).trans h7, (hb.cell (p := ⟨g, 1, none⟩) (cell_lt h8)).trans h8⟩
theorem RdS.below {w0 wv w' : World} {k t : Nat} {u v : Value} (h : RdS w0 wv k t u v) (hb : Below wv.heap.size wv w') : RdS w0 w' k t u v :=
  ⟨h.r.below hb, h.f.below hb, own_below h.own hb, h.lin.below hb, Nat.le_trans h.sz hb.size, h.b.trans (hb.mono h.b.size)⟩

theorem PtBox.set4 {w : World} {b : Nat} {x0 x1 x2 x3 : Int} (h : PtBox w b x0 x1 x2 x3) (a c d e : Int) : PtBox ((((w.setCell ⟨b, 0, none⟩ (.int .i64 a)).setCell ⟨b, 1, none⟩ (.int .i64 c)).setCell ⟨b, 2, none⟩ (.int .i64 d)).setCell ⟨b, 3, none⟩ (.int .i64 e)) b a c d e :=
  ((((World.rowIs.set h 0 (.int .i64 a)).set 1 (.int .i64 c)).set 2 (.int .i64 d)).set 3 (.int .i64 e)).congr (fun i hi => by
    match i, hi with
    | 0, _ => rfl
    | 1, _ => rfl
    | 2, _ => rfl
    | 3, _ => rfl)
theorem RdS.setP {w0 wv : World} {k t kp : Nat} {u : Value} (h : RdS w0 wv k t u (.slice none 0 0)) (ht : t < 3) (hu : ∀ q, u.ownBlock = some q → q ≠ kp) (hk : k + 1 < kp) (h0 : w0.heap.size ≤ kp) (o : Nat) (x : Value) : RdS w0 (wv.setCell ⟨kp, o, none⟩ x) k t u (.slice none 0 0) :=
  ⟨h.r.other (a := ⟨kp, o, none⟩) (by show k ≠ kp; omega) x, h.f.other (a := ⟨kp, o, none⟩) (by show k + 1 ≠ kp; omega) x,
   h.own.kept (row := some kp) (setCell_grown wv kp o x) (by
    cases hv : u.ownBlock with
    | none => simp
    | some q => exact .inr (fun e => hu q hv (Option.some.inj e))),
   .inl ⟨by rw [if_neg (by omega)], rfl⟩, by simpa using h.sz, h.b.setCell (p := ⟨kp, o, none⟩) h0 x⟩

set_option maxRecDepth 100000 in
set_option maxHeartbeats 16000000 in
theorem fread_ok (w : World) (hr : Rd w) : Calls Tryd.prog 19 #[.string (exS 0)] w fun e w' => ∃ A c B bc, e = .returned (.tuple #[.agg #[.slice A 2 c, .slice B 1 bc], .int .i64 0]) ∧ Below w.heap.size w w' := by
  obtain ⟨iP, hP0, hP1, hP2, hP3⟩ := info_parts infoPt
  obtain ⟨iR, hR0, hR1, hR2, hR3⟩ := info_parts infoRw
  have HR := Lib.hid hr
  obtain ⟨k, hk⟩ : ∃ k, k = w.heap.size := ⟨_, rfl⟩
  have HK := Lib.hid hk
  have hS : RdS w ((w.alloc (.cells #[.slice none 0 0, .slice none 0 0] 27)).alloc (.cells #[.slice none 0 0, .slice none 0 0] 27)) k 0 (.slice none 0 0) (.slice none 0 0) := by
    have h2 := FgBox.new (w.alloc (.cells #[.slice none 0 0, .slice none 0 0] 27)) (.slice none 0 0) (.slice none 0 0)
    simp only [World.size_alloc] at h2
    rw [← hk] at h2
    refine ⟨?_, h2, World.ownsRow_nil _ _ _ _, .inl ⟨rfl, rfl⟩, by simp; omega, ((Below.refl w.heap.size w).alloc (Nat.le_refl _) _).alloc (by simp) _⟩
    rw [hk]; exact (FgBox.new w (.slice none 0 0) (.slice none 0 0)).alloc _
  obtain ⟨s0, hs0⟩ : ∃ s, s = exS 0 := ⟨_, rfl⟩
  have l0 : s0.size = 20 := by rw [hs0]; decide
  have HS0 := Lib.hid hs0
  rw [← hs0]
  obtain ⟨V, hV⟩ : ∃ V, V = ((w.alloc (.cells #[.slice none 0 0, .slice none 0 0] 27)).alloc (.cells #[.slice none 0 0, .slice none 0 0] 27)) := ⟨_, rfl⟩
  rw [← hV] at hS
  have HS := Lib.hid hS; have HV := Lib.hid hV
  clear hr hS hs0 hV
  go_enter Tryd.func19, Tryd.ntmps19
  go_upto_region 4 with fail
  rw [← HV.out, ← hk]
  clear HV hk
  go_loopw [0] (fun a0 wv => ∃ (t : Nat) (s : ByteArray) (u v : Value), t ≤ 3 ∧ s = exS t ∧ a0 = .string s ∧ RdS w wv k t u v) (fun a0 _ => match a0 with | .string s => s.size | _ => 0)
  case atStart => exact ⟨0, s0, _, _, by omega, HS0.out, rfl, HS.out⟩
  case round =>
    clear HS HS0 l0
    obtain ⟨t, s, u, v, ht, hs, rfl, hS⟩ := hrel
    have HS := Lib.hid hS
    clear hS
    rcases (by omega : t = 0 ∨ t = 1 ∨ t = 2 ∨ t = 3) with rfl | rfl | rfl | rfl
    · have ne : s.toList.isEmpty = false := by rw [hs]; decide +kernel
      have hcu := hs ▸ exCut0
      have hsz : s.size < 4294967281 := by rw [hs]; decide
      obtain ⟨s', hs'⟩ : ∃ x, x = exS 1 := ⟨_, rfl⟩
      rw [← hs'] at hcu
      have hlt : s'.size < s.size := by rw [hs, hs']; decide
      have HCU := Lib.hid hcu; have HS' := Lib.hid hs'; have HZ := Lib.hid hlt
      clear hs hcu hs' hlt
      go_wp2_with fail
      refine Calls.mono (cut_at s ⟨#[10]⟩ ⟨#[112, 32, 48, 32, 48]⟩ s' true HCU.out hsz _ (HR.out.below HS.out.b).m) ?_
      rintro er w1 ⟨rfl, hb⟩
      have HS1 := Lib.hid (HS.out.below hb)
      clear hb HS ne
      go_wp2_with fail
      refine Calls.mono (split_at ⟨#[112, 32, 48, 32, 48]⟩ ⟨#[32]⟩ 3 _ exCnt0 exSp0 (by decide) (by decide) _ (HR.out.below HS1.out.b).m) ?_
      rintro er w2 ⟨rfl, hw2⟩
      obtain ⟨q, hq⟩ : ∃ q, q = w1.heap.size := ⟨_, rfl⟩
      have b2 : Below w1.heap.size w1 w2 := by rw [hw2]; exact (Below.refl _ _).alloc (Nat.le_refl _) _
      have z0 : w2.cell? ⟨q, 0, none⟩ = some (.string ⟨#[112]⟩) := by rw [hw2, hq]; simp [go_sem]
      have z1 : w2.cell? ⟨q, 1, none⟩ = some (.string ⟨#[48]⟩) := by rw [hw2, hq]; simp [go_sem]
      have z2 : w2.cell? ⟨q, 2, none⟩ = some (.string ⟨#[48]⟩) := by rw [hw2, hq]; simp [go_sem]
      have HS2 := Lib.hid (HS1.out.below b2)
      have HZ1 := Lib.hid z1; have HZ2 := Lib.hid z2
      rw [← hq]
      clear b2 hw2 hq HS1 z1 z2
      have f1 := HS2.out.f.c1; have fl := HS2.out.f.lt
      have hv : v = .slice none 0 0 := by
        rcases HS2.out.lin with ⟨_, hv⟩ | ⟨h, _⟩
        · exact hv
        · exact absurd h (by decide)
      subst hv
      go_wp2_with fail
      have bp : Below w2.heap.size w2 (w2.alloc (.cells #[.int .i64 0, .int .i64 0, .int .i64 0, .int .i64 0] 40)) := (Below.refl _ _).alloc (Nat.le_refl _) _
      have P3 := Lib.hid (PtBox.new w2 0 0 0 0)
      obtain ⟨kp, hkp⟩ : ∃ b, b = w2.heap.size := ⟨_, rfl⟩
      have HS3 := Lib.hid (HS2.out.below bp)
      have kpk : k + 1 < kp := by rw [hkp]; exact HS2.out.f.lt
      have huk := Lib.hid (show ∀ q, u.ownBlock = some q → q ≠ kp from fun q hq e => by have h := (HS2.out.own.lt q hq).2; omega)
      have y1 := (bp.cell (p := ⟨q, 1, none⟩) (cell_lt HZ1.out)).trans HZ1.out
      have y2 := (bp.cell (p := ⟨q, 1 + 1, none⟩) (cell_lt HZ2.out)).trans HZ2.out
      obtain ⟨W3, hW3⟩ : ∃ W, W = w2.alloc (.cells #[.int .i64 0, .int .i64 0, .int .i64 0, .int .i64 0] 40) := ⟨_, rfl⟩
      rw [← hW3, ← hkp] at P3
      rw [← hW3] at HS3 y1 y2
      have rd3 := HR.out.below HS3.out.b
      have hpt := Lib.hid (point_ok q 1 2 ⟨#[48]⟩ ⟨#[48]⟩ 0 1 0 1 W3 (by omega) y1 y2 (fun W hb => exR0 W (rd3.below hb)) (fun W hb => exR0 W (rd3.below hb)))
      rw [← hW3, ← hkp]
      clear bp hkp hW3 y1 y2 HS2 HZ1 HZ2 z0 f1 fl
      refine Calls.mono hpt.out ?_
      rintro er w4 ⟨rfl, hb⟩
      have HS4 := Lib.hid (HS3.out.below hb); have P4 := Lib.hid (P3.out.below hb)
      clear hb HS3 P3 hpt rd3
      have p0 := P4.out.c0; have p1 := P4.out.c1; have p2 := P4.out.c2; have p3 := P4.out.c3; have pl := P4.out.lt
      have pf0 := P4.out.free 0; have pf1 := P4.out.free 1; have pf2 := P4.out.free 2; have pf3 := P4.out.free 3
      go_upto_region 11 with fail
      have wk := HK.out
      have kp0 : w.heap.size ≤ kp := by omega
      have HU5 := Lib.hid (((((HS4.out.setP (by omega) huk.out kpk kp0 0 (.int .i64 0)).setP (by omega) huk.out kpk kp0 1 (.int .i64 1)).setP (by omega) huk.out kpk kp0 2 (.int .i64 0)).setP (by omega) huk.out kpk kp0 3 (.int .i64 1)))
      have P5 := Lib.hid (P4.out.set4 0 1 0 1)
      clear p0 p1 p2 p3 pl pf0 pf1 pf2 pf3 HS4 P4 wk
      obtain ⟨W5, hW5⟩ : ∃ W, W = ((((w4.setCell ⟨kp, 0, none⟩ (.int .i64 0)).setCell ⟨kp, 1, none⟩ (.int .i64 1)).setCell ⟨kp, 2, none⟩ (.int .i64 0)).setCell ⟨kp, 3, none⟩ (.int .i64 1)) := ⟨_, rfl⟩
      rw [← hW5] at HU5 P5 ⊢
      clear hW5
      have p0 := P5.out.c0; have p1 := P5.out.c1; have p2 := P5.out.c2; have p3 := P5.out.c3; have pl := P5.out.lt
      have f0 := HU5.out.f.c0; have fl := HU5.out.f.lt
      have hown : W5.ownsRow (k + 1 + 1) 40 4 u 0 ((exN 0).map (Value.int .i64)) := HU5.out.own
      go_wp2_with (at_builtin; refine wpList_append_own _ rfl _ _ 24 rfl (k + 1 + 1) 40 iP _ 4 32 Tryd.underlying24 hP0 hP1 hP2 hP3 rfl (by decide) _ _ _ rfl (hown.alloc _) ⟨W5.heap.size, 0, none⟩ 1 1 [.int .i64 0, .int .i64 1, .int .i64 0, .int .i64 1] rfl rfl ?c1 ?c2 ?c3 ?c4 ?c5 ?_)
      case c1 => exact cells_four
      case c2 => simp [Value.oneCell']
      case c3 => unfold maxLen; omega
      case c4 => omega
      case c5 => have := HU5.out.sz; simp; omega
      · intro v' Z hown' hgr hat
        have hlo : ∀ q, u.ownBlock = some q → k + 1 + 1 ≤ q := fun q hq => (hown.lt q hq).1
        obtain ⟨g, gc, hv', _, _⟩ := hown'.form (by omega)
        subst hv'
        have bf := (Below.refl W5.heap.size W5).alloc (Nat.le_refl _) (.cells #[.int .i64 0, .int .i64 1, .int .i64 0, .int .i64 1] 40)
        have szf := bf.size
        have R6 := Lib.hid ((HU5.out.r.below bf).grown hgr (fun e => by have := hlo _ e.symm; omega))
        have F6 := Lib.hid ((HU5.out.f.below bf).grown hgr (fun e => by have := hlo _ e.symm; omega))
        have hb5 := HU5.out.b.trans (bf.mono HU5.out.b.size)
        have wk := HK.out
        have B6 := Lib.hid (below_grow hb5 (Nat.le_refl _) hgr (fun q hq => by have := hlo q hq; omega))
        have s6 : k + 1 + 1 ≤ Z.heap.size := Nat.le_trans (Nat.le_trans HU5.out.sz szf) hgr.size
        have W6 := Lib.hid hown'
        clear hown hown' hgr hat hlo bf szf hb5 p0 p1 p2 p3 pl f0 fl HU5 P5
        have f0 := F6.out.c0; have ff := F6.out.free 0; have fl := F6.out.lt
        have S7 := Lib.hid (show RdS w (Z.setCell ⟨k + 1, 0, none⟩ (.slice (some ⟨g, 0, none⟩) 1 gc)) k 1 (.slice (some ⟨g, 0, none⟩) 1 gc) (.slice none 0 0) from
          ⟨R6.out.other (a := ⟨k + 1, 0, none⟩) (by show k ≠ k + 1; omega) _, F6.out.set0 _, own_set W6.out (by omega), .inl ⟨rfl, rfl⟩, by simpa using s6, B6.out.setCell (p := ⟨k + 1, 0, none⟩) (by show w.heap.size ≤ k + 1; omega) _⟩)
        clear R6 F6 B6 W6 s6 wk
        go_wp2_with fail
        go_roundw
        case rel => exact ⟨1, s', _, _, by omega, HS'.out, rfl, S7.out⟩
        case measure => have := HZ.out; simpa using this
    · have ne : s.toList.isEmpty = false := by rw [hs]; decide +kernel
      have hcu := hs ▸ exCut1
      have hsz : s.size < 4294967281 := by rw [hs]; decide
      obtain ⟨s', hs'⟩ : ∃ x, x = exS 2 := ⟨_, rfl⟩
      rw [← hs'] at hcu
      have hlt : s'.size < s.size := by rw [hs, hs']; decide
      have HCU := Lib.hid hcu; have HS' := Lib.hid hs'; have HZ := Lib.hid hlt
      clear hs hcu hs' hlt
      go_wp2_with fail
      refine Calls.mono (cut_at s ⟨#[10]⟩ ⟨#[112, 32, 49, 47, 50, 32, 49]⟩ s' true HCU.out hsz _ (HR.out.below HS.out.b).m) ?_
      rintro er w1 ⟨rfl, hb⟩
      have HS1 := Lib.hid (HS.out.below hb)
      clear hb HS ne
      go_wp2_with fail
      refine Calls.mono (split_at ⟨#[112, 32, 49, 47, 50, 32, 49]⟩ ⟨#[32]⟩ 3 _ exCnt1 exSp1 (by decide) (by decide) _ (HR.out.below HS1.out.b).m) ?_
      rintro er w2 ⟨rfl, hw2⟩
      obtain ⟨q, hq⟩ : ∃ q, q = w1.heap.size := ⟨_, rfl⟩
      have b2 : Below w1.heap.size w1 w2 := by rw [hw2]; exact (Below.refl _ _).alloc (Nat.le_refl _) _
      have z0 : w2.cell? ⟨q, 0, none⟩ = some (.string ⟨#[112]⟩) := by rw [hw2, hq]; simp [go_sem]
      have z1 : w2.cell? ⟨q, 1, none⟩ = some (.string ⟨#[49, 47, 50]⟩) := by rw [hw2, hq]; simp [go_sem]
      have z2 : w2.cell? ⟨q, 2, none⟩ = some (.string ⟨#[49]⟩) := by rw [hw2, hq]; simp [go_sem]
      have HS2 := Lib.hid (HS1.out.below b2)
      have HZ1 := Lib.hid z1; have HZ2 := Lib.hid z2
      rw [← hq]
      clear b2 hw2 hq HS1 z1 z2
      have f1 := HS2.out.f.c1; have fl := HS2.out.f.lt
      have hv : v = .slice none 0 0 := by
        rcases HS2.out.lin with ⟨_, hv⟩ | ⟨h, _⟩
        · exact hv
        · exact absurd h (by decide)
      subst hv
      go_wp2_with fail
      have bp : Below w2.heap.size w2 (w2.alloc (.cells #[.int .i64 0, .int .i64 0, .int .i64 0, .int .i64 0] 40)) := (Below.refl _ _).alloc (Nat.le_refl _) _
      have P3 := Lib.hid (PtBox.new w2 0 0 0 0)
      obtain ⟨kp, hkp⟩ : ∃ b, b = w2.heap.size := ⟨_, rfl⟩
      have HS3 := Lib.hid (HS2.out.below bp)
      have kpk : k + 1 < kp := by rw [hkp]; exact HS2.out.f.lt
      have huk := Lib.hid (show ∀ q, u.ownBlock = some q → q ≠ kp from fun q hq e => by have h := (HS2.out.own.lt q hq).2; omega)
      have y1 := (bp.cell (p := ⟨q, 1, none⟩) (cell_lt HZ1.out)).trans HZ1.out
      have y2 := (bp.cell (p := ⟨q, 1 + 1, none⟩) (cell_lt HZ2.out)).trans HZ2.out
      obtain ⟨W3, hW3⟩ : ∃ W, W = w2.alloc (.cells #[.int .i64 0, .int .i64 0, .int .i64 0, .int .i64 0] 40) := ⟨_, rfl⟩
      rw [← hW3, ← hkp] at P3
      rw [← hW3] at HS3 y1 y2
      have rd3 := HR.out.below HS3.out.b
      have hpt := Lib.hid (point_ok q 1 2 ⟨#[49, 47, 50]⟩ ⟨#[49]⟩ 1 2 1 1 W3 (by omega) y1 y2 (fun W hb => exR2 W (rd3.below hb)) (fun W hb => exR1 W (rd3.below hb)))
      rw [← hW3, ← hkp]
      clear bp hkp hW3 y1 y2 HS2 HZ1 HZ2 z0 f1 fl
      refine Calls.mono hpt.out ?_
      rintro er w4 ⟨rfl, hb⟩
      have HS4 := Lib.hid (HS3.out.below hb); have P4 := Lib.hid (P3.out.below hb)
      clear hb HS3 P3 hpt rd3
      have p0 := P4.out.c0; have p1 := P4.out.c1; have p2 := P4.out.c2; have p3 := P4.out.c3; have pl := P4.out.lt
      have pf0 := P4.out.free 0; have pf1 := P4.out.free 1; have pf2 := P4.out.free 2; have pf3 := P4.out.free 3
      go_upto_region 11 with fail
      have wk := HK.out
      have kp0 : w.heap.size ≤ kp := by omega
      have HU5 := Lib.hid (((((HS4.out.setP (by omega) huk.out kpk kp0 0 (.int .i64 1)).setP (by omega) huk.out kpk kp0 1 (.int .i64 2)).setP (by omega) huk.out kpk kp0 2 (.int .i64 1)).setP (by omega) huk.out kpk kp0 3 (.int .i64 1)))
      have P5 := Lib.hid (P4.out.set4 1 2 1 1)
      clear p0 p1 p2 p3 pl pf0 pf1 pf2 pf3 HS4 P4 wk
      obtain ⟨W5, hW5⟩ : ∃ W, W = ((((w4.setCell ⟨kp, 0, none⟩ (.int .i64 1)).setCell ⟨kp, 1, none⟩ (.int .i64 2)).setCell ⟨kp, 2, none⟩ (.int .i64 1)).setCell ⟨kp, 3, none⟩ (.int .i64 1)) := ⟨_, rfl⟩
      rw [← hW5] at HU5 P5 ⊢
      clear hW5
      have p0 := P5.out.c0; have p1 := P5.out.c1; have p2 := P5.out.c2; have p3 := P5.out.c3; have pl := P5.out.lt
      have f0 := HU5.out.f.c0; have fl := HU5.out.f.lt
      have hown : W5.ownsRow (k + 1 + 1) 40 4 u 1 ((exN 1).map (Value.int .i64)) := HU5.out.own
      go_wp2_with (at_builtin; refine wpList_append_own _ rfl _ _ 24 rfl (k + 1 + 1) 40 iP _ 4 32 Tryd.underlying24 hP0 hP1 hP2 hP3 rfl (by decide) _ _ _ rfl (hown.alloc _) ⟨W5.heap.size, 0, none⟩ 1 1 [.int .i64 1, .int .i64 2, .int .i64 1, .int .i64 1] rfl rfl ?c1 ?c2 ?c3 ?c4 ?c5 ?_)
      case c1 => exact cells_four
      case c2 => simp [Value.oneCell']
      case c3 => unfold maxLen; omega
      case c4 => omega
      case c5 => have := HU5.out.sz; simp; omega
      · intro v' Z hown' hgr hat
        have hlo : ∀ q, u.ownBlock = some q → k + 1 + 1 ≤ q := fun q hq => (hown.lt q hq).1
        obtain ⟨g, gc, hv', _, _⟩ := hown'.form (by omega)
        subst hv'
        have bf := (Below.refl W5.heap.size W5).alloc (Nat.le_refl _) (.cells #[.int .i64 1, .int .i64 2, .int .i64 1, .int .i64 1] 40)
        have szf := bf.size
        have R6 := Lib.hid ((HU5.out.r.below bf).grown hgr (fun e => by have := hlo _ e.symm; omega))
        have F6 := Lib.hid ((HU5.out.f.below bf).grown hgr (fun e => by have := hlo _ e.symm; omega))
        have hb5 := HU5.out.b.trans (bf.mono HU5.out.b.size)
        have wk := HK.out
        have B6 := Lib.hid (below_grow hb5 (Nat.le_refl _) hgr (fun q hq => by have := hlo q hq; omega))
        have s6 : k + 1 + 1 ≤ Z.heap.size := Nat.le_trans (Nat.le_trans HU5.out.sz szf) hgr.size
        have W6 := Lib.hid hown'
        clear hown hown' hgr hat hlo bf szf hb5 p0 p1 p2 p3 pl f0 fl HU5 P5
        have f0 := F6.out.c0; have ff := F6.out.free 0; have fl := F6.out.lt
        have S7 := Lib.hid (show RdS w (Z.setCell ⟨k + 1, 0, none⟩ (.slice (some ⟨g, 0, none⟩) 2 gc)) k 2 (.slice (some ⟨g, 0, none⟩) 2 gc) (.slice none 0 0) from
          ⟨R6.out.other (a := ⟨k + 1, 0, none⟩) (by show k ≠ k + 1; omega) _, F6.out.set0 _, own_set W6.out (by omega), .inl ⟨rfl, rfl⟩, by simpa using s6, B6.out.setCell (p := ⟨k + 1, 0, none⟩) (by show w.heap.size ≤ k + 1; omega) _⟩)
        clear R6 F6 B6 W6 s6 wk
        go_wp2_with fail
        go_roundw
        case rel => exact ⟨2, s', _, _, by omega, HS'.out, rfl, S7.out⟩
        case measure => have := HZ.out; simpa using this
    · have ne : s.toList.isEmpty = false := by rw [hs]; decide +kernel
      have hcu := hs ▸ exCut2
      have hsz : s.size < 4294967281 := by rw [hs]; decide
      obtain ⟨s', hs'⟩ : ∃ x, x = exS 3 := ⟨_, rfl⟩
      rw [← hs'] at hcu
      have hlt : s'.size < s.size := by rw [hs, hs']; decide
      have HCU := Lib.hid hcu; have HS' := Lib.hid hs'; have HZ := Lib.hid hlt
      clear hs hcu hs' hlt
      go_wp2_with fail
      refine Calls.mono (cut_at s ⟨#[10]⟩ ⟨#[108, 32, 48, 32, 49]⟩ s' true HCU.out hsz _ (HR.out.below HS.out.b).m) ?_
      rintro er w1 ⟨rfl, hb⟩
      have HS1 := Lib.hid (HS.out.below hb)
      clear hb HS ne
      go_wp2_with fail
      refine Calls.mono (split_at ⟨#[108, 32, 48, 32, 49]⟩ ⟨#[32]⟩ 3 _ exCnt2 exSp2 (by decide) (by decide) _ (HR.out.below HS1.out.b).m) ?_
      rintro er w2 ⟨rfl, hw2⟩
      obtain ⟨q, hq⟩ : ∃ q, q = w1.heap.size := ⟨_, rfl⟩
      have b2 : Below w1.heap.size w1 w2 := by rw [hw2]; exact (Below.refl _ _).alloc (Nat.le_refl _) _
      have z0 : w2.cell? ⟨q, 0, none⟩ = some (.string ⟨#[108]⟩) := by rw [hw2, hq]; simp [go_sem]
      have z1 : w2.cell? ⟨q, 1, none⟩ = some (.string ⟨#[48]⟩) := by rw [hw2, hq]; simp [go_sem]
      have z2 : w2.cell? ⟨q, 2, none⟩ = some (.string ⟨#[49]⟩) := by rw [hw2, hq]; simp [go_sem]
      have HS2 := Lib.hid (HS1.out.below b2)
      have HZ1 := Lib.hid z1; have HZ2 := Lib.hid z2
      rw [← hq]
      clear b2 hw2 hq HS1 z1 z2
      have f1 := HS2.out.f.c1; have fl := HS2.out.f.lt
      have hv : v = .slice none 0 0 := by
        rcases HS2.out.lin with ⟨_, hv⟩ | ⟨h, _⟩
        · exact hv
        · exact absurd h (by decide)
      subst hv
      go_wp2_with fail
      have hpl := Lib.hid (polyline_ok q 1 2 ⟨#[48]⟩ ⟨#[49]⟩ 0 1 w2 (HR.out.below HS2.out.b).t (by omega) HZ1.out HZ2.out (by decide) (by decide) (by decide +kernel) (by decide +kernel) (by decide +kernel) (by decide +kernel) (by omega) (by omega))
      refine Calls.mono hpl.out ?_
      rintro er w4 ⟨gl, gcl, hgl, rfl, l2, c0, c1, hb⟩
      have hgk : k + 1 + 1 ≤ gl := Nat.le_trans HS2.out.sz hgl
      have HS4 := Lib.hid (HS2.out.below hb)
      have HC0 := Lib.hid c0; have HC1 := Lib.hid c1
      clear hb hpl HS2 HZ1 HZ2 z0 f1 fl c0 c1 hgl
      have f1 := HS4.out.f.c1; have fl := HS4.out.f.lt
      have hown : w4.ownsRow (k + 1 + 1) 22 1 (.slice none 0 0) 0 [] := World.ownsRow_nil _ _ _ _
      go_wp2_with (at_builtin; refine wpList_append_own _ rfl _ _ 25 rfl (k + 1 + 1) 22 iR _ 1 24 Tryd.underlying25 hR0 hR1 hR2 hR3 rfl (by decide) _ _ _ rfl (hown.alloc _) ⟨w4.heap.size, 0, none⟩ 1 1 [.slice (some ⟨gl, 0, none⟩) 2 gcl] rfl rfl ?c1 ?c2 ?c3 ?c4 ?c5 ?_)
      case c1 => exact cells_one
      case c2 => simp [Value.oneCell']
      case c3 => unfold maxLen; omega
      case c4 => omega
      case c5 => have := HS4.out.sz; simp; omega
      · intro v' Z hown' hgr hat
        obtain ⟨g, gc, hv', hlo, _⟩ := hown'.form (by omega)
        subst hv'
        have bf := (Below.refl w4.heap.size w4).alloc (Nat.le_refl _) (.cells #[.slice (some ⟨gl, 0, none⟩) 2 gcl] 22)
        have szf := bf.size
        have R6 := Lib.hid ((HS4.out.r.below bf).grown hgr (by simp [Value.ownBlock]))
        have F6 := Lib.hid ((HS4.out.f.below bf).grown hgr (by simp [Value.ownBlock]))
        have hb5 := HS4.out.b.trans (bf.mono HS4.out.b.size)
        have wk := HK.out
        have hgr' : (w4.alloc (.cells #[.slice (some ⟨gl, 0, none⟩) 2 gcl] 22)).grownBy Z none := hgr
        have B6 := Lib.hid (below_grow hb5 (Nat.le_refl _) hgr' (by simp))
        have s6 : k + 1 + 1 ≤ Z.heap.size := Nat.le_trans (Nat.le_trans HS4.out.sz szf) hgr.size
        have O6 := Lib.hid ((own_below HS4.out.own bf).kept hgr' (by cases hv : u.ownBlock <;> simp))
        have e0 := hown'.cellAt 0 (by omega)
        have e1 := own_cap' hown'
        have d0 := (hgr'.cell_far ⟨gl, 0, none⟩ (cell_lt ((bf.cell (p := ⟨gl, 0, none⟩) (cell_lt HC0.out)).trans HC0.out)) (by simp)).trans ((bf.cell (p := ⟨gl, 0, none⟩) (cell_lt HC0.out)).trans HC0.out)
        have d1 := (hgr'.cell_far ⟨gl, 1, none⟩ (cell_lt ((bf.cell (p := ⟨gl, 1, none⟩) (cell_lt HC1.out)).trans HC1.out)) (by simp)).trans ((bf.cell (p := ⟨gl, 1, none⟩) (cell_lt HC1.out)).trans HC1.out)
        have L6 := Lib.hid (show LinR Z (k + 1 + 1) (.slice (some ⟨g, 0, none⟩) 1 gc) 2 1 from .inr ⟨rfl, g, gc, gl, gcl, rfl, e1, hlo, hgk, by simpa using e0, l2, d0, d1⟩)
        clear hown hown' hgr hgr' hat bf szf hb5 f1 fl HS4 HC0 HC1 e0 e1 d0 d1
        have f1 := F6.out.c1; have ff := F6.out.free 1; have fl := F6.out.lt
        have S7 := Lib.hid (show RdS w (Z.setCell ⟨k + 1, 1, none⟩ (.slice (some ⟨g, 0, none⟩) 1 gc)) k 3 u (.slice (some ⟨g, 0, none⟩) 1 gc) from
          ⟨R6.out.other (a := ⟨k + 1, 1, none⟩) (by show k ≠ k + 1; omega) _, F6.out.set1 _, own_set O6.out (by omega), L6.out.set (by omega), by simpa using s6, B6.out.setCell (p := ⟨k + 1, 1, none⟩) (by show w.heap.size ≤ k + 1; omega) _⟩)
        clear R6 F6 B6 O6 L6 s6 wk
        go_wp2_with fail
        go_roundw
        case rel => exact ⟨3, s', _, _, by omega, HS'.out, rfl, S7.out⟩
        case measure => have := HZ.out; simpa using this
    · have ne : s.toList.isEmpty = true := by rw [hs]; decide +kernel
      clear hs
      have hown : wr.ownsRow (k + 1 + 1) 40 4 u 2 ([0, 1, 0, 1, 1, 2, 1, 1].map (Value.int .i64)) := HS.out.own
      obtain ⟨g, gc, hu, _, _⟩ := hown.form (by omega)
      subst hu
      have hfl := own_flat_of hown
      rcases HS.out.lin with ⟨h, _⟩ | ⟨_, b', bc, gl, gcl, hv, l1, l2, l3, l4, l5, l6, l7⟩
      · exact absurd h (by decide)
      subst hv
      have hF := Lib.hid (show FigW wr (some ⟨g, 0, none⟩) 2 gc [0, 1, 0, 1, 1, 2, 1, 1] (some ⟨b', 0, none⟩) 1 bc from ⟨hfl, by omega, fun i hi => by
        match i, hi with
        | 0, _ => exact frOk_one (by decide) (by decide)
        | 1, _ => exact ⟨by decide, by decide, by decide, by decide, by decide⟩, fun i hi => by
        match i, hi with
        | 0, _ => exact frOk_one (by decide) (by decide)
        | 1, _ => exact frOk_one (by decide) (by decide), by omega, l1, by omega, fun _ => ⟨b', gl, gcl, rfl, l4, l5, l6, l7⟩⟩)
      clear hown hfl l1 l2 l3 l4 l5 l6 l7
      have f0 := HS.out.f.c0; have f1 := HS.out.f.c1; have fl := HS.out.f.lt
      go_wp2_with fail
      refine Calls.mono (figCheck_ok _ 2 gc _ _ 1 bc _ hF.out) ?_
      rintro er w1 ⟨rfl, hb⟩
      have HS1 := Lib.hid (HS.out.below hb)
      clear hb HS f0 f1 fl hF
      have f0 := HS1.out.f.c0; have f1 := HS1.out.f.c1; have fl := HS1.out.f.lt
      have r0 := HS1.out.r.c0; have r1 := HS1.out.r.c1; have rl := HS1.out.r.lt; have rf0 := HS1.out.r.free 0; have rf1 := HS1.out.r.free 1
      have wk := HK.out
      have hbl := Lib.hid (fun u v => (HS1.out.b.setCell (p := ⟨k, 0, none⟩) (show w.heap.size ≤ k by omega) u).setCell (p := ⟨k, 1, none⟩) (show w.heap.size ≤ k by omega) v)
      clear wk
      go_wp2_with fail
      refine bodyPost_ret (v := .tuple #[.agg #[.slice (some ⟨g, 0, none⟩) 2 gc, .slice (some ⟨b', 0, none⟩) 1 bc], .int .i64 0]) ?_ rfl ⟨_, gc, _, bc, rfl, hbl.out _ _⟩
      simp [results, Tryd.results19, go_sem, *]
end Go.Proofs.YtbehickhaidliaaDoor
