/- The text of an offset; a builder carried over calls. -/
import Derived.Test.YtdifeoahaegjbaaDoorBuilder
import Derived.Laws.BytesArg
namespace Go.Proofs.YtdifeoahaegjbaaDoor
open Go.RowKit
set_option linter.unusedSimpArgs false
set_option linter.unusedVariables false

theorem bytesZ {s : ByteArray} {l m : List UInt8} (h : s.data.toList = m) : Lib.byteCells l ++ Lib.strCells s = Lib.byteCells (l ++ m) := by
  unfold Lib.byteCells Lib.strCells
  rw [h, List.map_append]
abbrev BldZ (b : Nat) (l : List UInt8) (w : World) : Prop := Lib.IsBuilder 63 5 b b (Lib.byteCells l) w
theorem bldZ_below {b : Nat} {l : List UInt8} {w w' : World} (h : BldZ b l w) (hb : Below w.heap.size w w') : BldZ b l w' := by
  have aux : ∀ p, Lib.BuilderAt 63 5 b b p (Lib.byteCells l) w → Lib.BuilderAt 63 5 b b p (Lib.byteCells l) w' := fun p h => by
    have hlt := Lib.BuilderAt.lt h
    obtain ⟨hB, v, hk, hown, hne⟩ := h
    exact ⟨hB, v, (hb.block _ hlt).trans hk, own_below hown hb, hne⟩
  rcases h with h | h
  · exact .inl (aux _ h)
  · exact .inr (aux _ h)
theorem bldZ_write (b : Nat) (l m : List UInt8) (s : ByteArray) (w : World) (hs : s.data.toList = m) (h : BldZ b l w) (hlen : l.length + s.size ≤ 140737488355328) (hw : b ≤ w.heap.size) :
    Calls Tryd.prog 22 #[.pointer (some ⟨b, 0, none⟩), .string s] w fun e w' => e = .returned (.tuple #[.int .i64 s.size, .nilIface]) ∧ BldZ b (l ++ m) w' ∧ Below b w w' :=
  (writeString_ok b b (Lib.byteCells l) s w h (by rw [Lib.byteCells_length]; exact hlen) hw).mono fun e w' ⟨h1, h2, h3⟩ => ⟨h1, by show Lib.IsBuilder _ _ _ _ (Lib.byteCells (l ++ m)) w'; rw [← bytesZ hs]; exact .inr h2, h3⟩

def twT (n : Int) : ByteArray := strOfNums [48 + n / 10, 48 + n % 10]
theorem twT_size (n : Int) : (twT n).size = 2 := rfl

set_option maxRecDepth 100000 in
set_option maxHeartbeats 4000000 in
theorem two_ok (n : Int) (w : World) (h : 0 ≤ n ∧ n ≤ 99) :
    Calls Tryd.prog 39 #[.int .i64 n] w fun e w' => e = .returned (.string (twT n)) ∧ Below w.heap.size w w' := by
  obtain ⟨h0, h1⟩ := h
  obtain ⟨a, ha⟩ : ∃ a, a = 48 + n / 10 := ⟨_, rfl⟩
  obtain ⟨b, hb⟩ : ∃ b, b = 48 + n % 10 := ⟨_, rfl⟩
  have q1 : n.tdiv 10 = n / 10 := Int.tdiv_eq_ediv_of_nonneg h0
  have q2 : n.tmod 10 = n % 10 := Int.tmod_eq_emod_of_nonneg h0
  have p1 : IntKind.i64.wrap (n / 10) = n / 10 := IntWalk.i64_in _ (by omega)
  have p2 : IntKind.u8.wrap (n / 10) = n / 10 := IntWalk.u8_in _ (by omega)
  have p3 : IntKind.u8.wrap (n % 10) = n % 10 := IntWalk.u8_in _ (by omega)
  have p4 : IntKind.u8.wrap (48 + n / 10) = 48 + n / 10 := IntWalk.u8_in _ (by omega)
  have p5 : IntKind.u8.wrap (48 + n % 10) = 48 + n % 10 := IntWalk.u8_in _ (by omega)
  have row := World.rowIs_alloc w #[.int .u8 (48 + n / 10), .int .u8 (48 + n % 10)] 5 (fun i => if i = 0 then .int .u8 (48 + n / 10) else .int .u8 (48 + n % 10)) (fun i hi => by
    match i, hi with
    | 0, _ => rfl
    | 1, _ => rfl)
  have cv := run_convert_bytes_arg (P := Tryd.prog) (w.alloc (.cells #[.int .u8 (48 + n / 10), .int .u8 (48 + n % 10)] 5)) 61 5 Tryd.underlying61 Tryd.underlying5 w.heap.size 0 2 2 [48 + n / 10, 48 + n % 10] rfl (fun i hi => by
    match i, hi with
    | 0, _ => exact World.rowIs.cell row (i := 0) (by omega)
    | 1, _ => exact World.rowIs.cell row (i := 1) (by omega)) 9 Tryd.underlying9
  have bw := (Below.refl w.heap.size w).alloc (Nat.le_refl _) (.cells #[.int .u8 (48 + n / 10), .int .u8 (48 + n % 10)] 5)
  go_enter Tryd.func39, Tryd.ntmps39
  go_wp2_with fail
  go_returns
  exact ⟨rfl, bw⟩

/-- The text of an offset: of its sign and of the seconds without it. -/
def offA (f : Int) : Int := (if f < 0 then -f else f) / 1000
def offS (f : Int) : ByteArray := if f < 0 then ⟨#[45]⟩ else ⟨#[43]⟩
def offT (f : Int) : ByteArray := offS f ++ twT (offA f / 3600) ++ ⟨#[58]⟩ ++ twT (offA f / 60 % 60) ++ ⟨#[58]⟩ ++ twT (offA f % 60)
theorem offT_size (f : Int) : (offT f).size = 9 := by
  unfold offT
  simp only [ByteArray.size_append, twT_size]
  unfold offS
  split <;> rfl

set_option maxRecDepth 100000 in
set_option maxHeartbeats 8000000 in
theorem offs_ok (f : Int) (w : World) (h : -64800000 ≤ f ∧ f ≤ 64800000) :
    Calls Tryd.prog 23 #[.int .i64 f] w fun e w' => e = .returned (.string (offT f)) ∧ Below w.heap.size w w' := by
  obtain ⟨a, ha⟩ : ∃ a, a = offA f := ⟨_, rfl⟩
  obtain ⟨sg, hsg⟩ : ∃ s, s = offS f := ⟨_, rfl⟩
  have sgs : sg.size = 1 := by rw [hsg]; unfold offS; split <;> rfl
  have ha0 : 0 ≤ a ∧ a ≤ 64800 := by
    rw [ha]; unfold offA; split <;> omega
  obtain ⟨s1, e1⟩ : ∃ s, s = sg ++ twT (a / 3600) := ⟨_, rfl⟩
  obtain ⟨s2, e2⟩ : ∃ s, s = s1 ++ (⟨#[58]⟩ : ByteArray) := ⟨_, rfl⟩
  obtain ⟨s3, e3⟩ : ∃ s, s = s2 ++ twT (a / 60 % 60) := ⟨_, rfl⟩
  obtain ⟨s4, e4⟩ : ∃ s, s = s3 ++ (⟨#[58]⟩ : ByteArray) := ⟨_, rfl⟩
  obtain ⟨s5, e5⟩ : ∃ s, s = s4 ++ twT (a % 60) := ⟨_, rfl⟩
  have z1 : s1.size = 3 := by rw [cat_size e1, sgs, twT_size]
  have z2 : s2.size = 4 := by rw [cat_size e2, z1]; rfl
  have z3 : s3.size = 6 := by rw [cat_size e3, z2, twT_size]
  have z4 : s4.size = 7 := by rw [cat_size e4, z3]; rfl
  have c1 := cat_run Tryd.prog _ _ _ e1 (by rw [sgs, twT_size]; omega)
  have c2 := cat_run Tryd.prog _ _ _ e2 (by rw [z1]; show 3 + 1 ≤ _; omega)
  have c3 := cat_run Tryd.prog _ _ _ e3 (by rw [z2, twT_size]; omega)
  have c4 := cat_run Tryd.prog _ _ _ e4 (by rw [z3]; show 6 + 1 ≤ _; omega)
  have c5 := cat_run Tryd.prog _ _ _ e5 (by rw [z4, twT_size]; omega)
  have hT : offT f = s5 := by rw [e5, e4, e3, e2, e1, hsg, ha]; rfl
  have C1 := Lib.hid c1; have C2 := Lib.hid c2; have C3 := Lib.hid c3; have C4 := Lib.hid c4; have C5 := Lib.hid c5
  have W1 := Lib.hid (fun W => two_ok (a / 3600) W (by omega))
  have W2 := Lib.hid (fun W => two_ok (a / 60 % 60) W (by omega))
  have W3 := Lib.hid (fun W => two_ok (a % 60) W (by omega))
  obtain ⟨t1, g1⟩ : ∃ t, t = twT (a / 3600) := ⟨_, rfl⟩
  obtain ⟨t2, g2⟩ : ∃ t, t = twT (a / 60 % 60) := ⟨_, rfl⟩
  obtain ⟨t3, g3⟩ : ∃ t, t = twT (a % 60) := ⟨_, rfl⟩
  rw [hT]
  rw [← g1] at W1 C1; rw [← g2] at W2 C3; rw [← g3] at W3 C5
  have A0 := Lib.hid ha0; have HA := Lib.hid ha; have HG := Lib.hid hsg
  have HF := Lib.hid h
  have d1 : wrap64 (a.tdiv 3600) = a / 3600 := by rw [Int.tdiv_eq_ediv_of_nonneg ha0.1]; exact IntWalk.wrap64_in _ (by omega)
  have d2 : wrap64 (a.tdiv 60) = a / 60 := by rw [Int.tdiv_eq_ediv_of_nonneg ha0.1]; exact IntWalk.wrap64_in _ (by omega)
  have d3 : (a / 60).tmod 60 = a / 60 % 60 := Int.tmod_eq_emod_of_nonneg (by omega)
  have d4 : a.tmod 60 = a % 60 := Int.tmod_eq_emod_of_nonneg ha0.1
  clear ha0 ha hsg h e1 e2 e3 e4 e5 z1 z2 z3 z4 c1 c2 c3 c4 c5 g1 g2 g3 hT sgs
  go_enter Tryd.func23, Tryd.ntmps23
  by_cases hf : f < 0
  · have hsg : sg = ⟨#[45]⟩ := by rw [HG.out]; unfold offS; rw [if_pos hf]
    have dn : IntKind.i64.wrap (-f) = -f := IntWalk.i64_in _ (by have := HF.out; omega)
    have dn' : wrap64 (-f) = -f := IntWalk.wrap64_in _ (by have := HF.out; omega)
    have dd : wrap64 (-f.tdiv 1000) = a := by
      have e : -f.tdiv 1000 = (-f) / 1000 := by rw [← Int.neg_tdiv, Int.tdiv_eq_ediv_of_nonneg (by omega)]
      rw [e, HA.out]; unfold offA; rw [if_pos hf]; exact IntWalk.wrap64_in _ (by have := HF.out; omega)
    subst hsg
    clear HG
    go_wp2_with fail
    refine Calls.mono (W1.out _) ?_
    rintro e w1 ⟨rfl, hb⟩
    have Hb1 := Lib.hid hb
    clear hb d1
    have c1 := C1.out; have c2 := C2.out
    go_wp2_with fail
    refine Calls.mono (W2.out _) ?_
    rintro e w2 ⟨rfl, hb⟩
    have Hb2 := Lib.hid (Hb1.out.trans (hb.mono Hb1.out.size))
    clear hb d2 d3 c1 c2
    have c3 := C3.out; have c4 := C4.out
    go_wp2_with fail
    refine Calls.mono (W3.out _) ?_
    rintro e w3 ⟨rfl, hb⟩
    have Hb3 := Lib.hid (Hb2.out.trans (hb.mono Hb2.out.size))
    clear hb d4 c3 c4
    have c5 := C5.out
    go_wp2_with fail
    go_returns
    exact ⟨rfl, Hb3.out⟩
  · have hsg : sg = ⟨#[43]⟩ := by rw [HG.out]; unfold offS; rw [if_neg hf]
    have dd : wrap64 (f.tdiv 1000) = a := by rw [HA.out, Int.tdiv_eq_ediv_of_nonneg (by omega)]; unfold offA; rw [if_neg hf]; exact IntWalk.wrap64_in _ (by have := HF.out; omega)
    subst hsg
    clear HG
    go_wp2_with fail
    refine Calls.mono (W1.out _) ?_
    rintro e w1 ⟨rfl, hb⟩
    have Hb1 := Lib.hid hb
    clear hb d1
    have c1 := C1.out; have c2 := C2.out
    go_wp2_with fail
    refine Calls.mono (W2.out _) ?_
    rintro e w2 ⟨rfl, hb⟩
    have Hb2 := Lib.hid (Hb1.out.trans (hb.mono Hb1.out.size))
    clear hb d2 d3 c1 c2
    have c3 := C3.out; have c4 := C4.out
    go_wp2_with fail
    refine Calls.mono (W3.out _) ?_
    rintro e w3 ⟨rfl, hb⟩
    have Hb3 := Lib.hid (Hb2.out.trans (hb.mono Hb2.out.size))
    clear hb d4 c3 c4
    have c5 := C5.out
    go_wp2_with fail
    go_returns
    exact ⟨rfl, Hb3.out⟩
end Go.Proofs.YtdifeoahaegjbaaDoor
