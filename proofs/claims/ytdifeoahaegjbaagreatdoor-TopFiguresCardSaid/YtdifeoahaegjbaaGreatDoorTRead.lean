/- figure.Read of the text of a figure with the lines 0-1, 1-2, .. -/
import Derived.Test.YtdifeoahaegjbaaGreatDoorTText
import Derived.Test.YtdifeoahaegjbaaGreatDoorTMap
import Derived.Test.YtdifeoahaegjbaaGreatDoorTLaw
import Derived.Test.YtdifeoahaegjbaaGreatDoorPolyline
import Derived.Deep.DeepCutAuto
namespace Go.Proofs.YtdifeoahaegjbaaGreatDoor
open Go.RowKit
set_option linter.unusedSimpArgs false
set_option linter.unusedVariables false

/-! What is read. -/
theorem frL_not {c : UInt8} {n d : Int} (h : c = 10 ∨ c = 32) : c ∉ frL n d := by
  have h1 : c = 10 ∨ c = 32 ∨ c = 47 := by rcases h with h | h <;> simp [h]
  unfold frL
  split
  · exact itoa_not n h1
  · intro hc
    rcases List.mem_append.1 hc with hc | hc
    · exact itoa_not n h1 hc
    · rcases List.mem_cons.1 hc with hc | hc
      · rcases h with rfl | rfl <;> revert hc <;> decide
      · exact itoa_not d h1 hc
theorem fread_fr {n d : Int} (h : FrP n d) (w : World) (hr : Rd w) :
    Calls Tryz.prog 41 #[.string (frT n d)] w fun e w' => e = .returned (.tuple #[.agg #[.int .i64 n, .int .i64 d], .int .i64 0]) ∧ Below w.heap.size w w' := by
  have h1 := h.n; have h2 := h.d; have h3 := h.s.ok.d1
  have l1 := itoa_short n (by omega) (by omega)
  have l2 := itoa_short d (by omega) (by omega)
  by_cases hd : d = 1
  · subst hd
    have e : (frT n 1).data.toList = Lib.itoa n := by simp [frT, frL]
    refine fracRead_whole (frT n 1) n w hr ?_ ?_ ?_ rfl h.s.ok
    · rw [e]; exact cut_miss (itoa_not n (by simp))
    · show (frT n 1).data.size ≤ 18
      rw [← Array.length_toList, e]; omega
    · rw [e]; exact itoa_read n
  · have e : (frT n d).data.toList = Lib.itoa n ++ 47 :: Lib.itoa d := by simp [frT, frL, hd]
    have e1 : ((⟨(Lib.itoa n).toArray⟩ : ByteArray)).data.toList = Lib.itoa n := by simp
    have e2 : ((⟨(Lib.itoa d).toArray⟩ : ByteArray)).data.toList = Lib.itoa d := by simp
    refine fracRead_frac (frT n d) ⟨(Lib.itoa n).toArray⟩ ⟨(Lib.itoa d).toArray⟩ n d w hr ?_ ?_ ?_ ?_ ?_ ?_ rfl h.s.ok
    · show (frT n d).data.size ≤ 40
      rw [← Array.length_toList, e]
      simp
      omega
    · rw [e, e1, e2]; exact cut_hit (itoa_not n (by simp))
    · simp [ByteArray.size]; omega
    · simp [ByteArray.size]; omega
    · rw [e1]; exact itoa_read n
    · rw [e2]; exact itoa_read d

/-- Row t of a text: its three words. -/
def wd0 (n t : Nat) : List UInt8 := if t < n then [112] else [108]
def wd1 (zs : List Int) (n t : Nat) : List UInt8 := if t < n then frL (ix zs (t * 4)) (ix zs (t * 4 + 1)) else Lib.itoa ((t - n : Nat) : Int)
def wd2 (zs : List Int) (n t : Nat) : List UInt8 := if t < n then frL (ix zs (t * 4 + 2)) (ix zs (t * 4 + 3)) else Lib.itoa (((t - n : Nat) : Int) + 1)
def rowB (zs : List Int) (n t : Nat) : List UInt8 := wd0 n t ++ 32 :: (wd1 zs n t ++ 32 :: wd2 zs n t)
def rowsL (zs : List Int) (n : Nat) : Nat → Nat → List UInt8
  | 0, _ => []
  | k + 1, t => rowB zs n t ++ 10 :: rowsL zs n k (t + 1)
theorem rowsL_add (zs : List Int) (n : Nat) : ∀ a b t, rowsL zs n (a + b) t = rowsL zs n a t ++ rowsL zs n b (t + a)
  | 0, b, t => by simp [rowsL]
  | a + 1, b, t => by
    rw [show a + 1 + b = a + b + 1 by omega]
    simp only [rowsL]
    rw [rowsL_add zs n a b (t + 1), show t + 1 + a = t + (a + 1) by omega]
    simp
theorem rowsL_one (zs : List Int) (n t : Nat) : rowsL zs n 1 t = rowB zs n t ++ [10] := rfl
theorem pts_rows (zs : List Int) (n : Nat) : ∀ j, j ≤ n → ptsL zs j = rowsL zs n j 0
  | 0, _ => rfl
  | j + 1, h => by
    rw [rowsL_add, rowsL_one, ← pts_rows zs n j (by omega), Nat.zero_add]
    show ptsL zs j ++ ptL zs j = _
    unfold ptL rowB wd0 wd1 wd2
    rw [if_pos (by omega), if_pos (by omega), if_pos (by omega)]
    simp
theorem lns_rows (zs : List Int) (n : Nat) : ∀ j, lnsL j = rowsL zs n j n
  | 0 => rfl
  | j + 1 => by
    rw [rowsL_add, rowsL_one, ← lns_rows zs n j]
    show lnsL j ++ lineNL j = _
    unfold lineNL rowB wd0 wd1 wd2
    rw [if_neg (by omega), if_neg (by omega), if_neg (by omega), show n + j - n = j by omega]
    simp
theorem fig_rows (zs : List Int) (n m : Nat) : figNL zs n m = rowsL zs n (n + m) 0 := by
  unfold figNL
  rw [rowsL_add, pts_rows zs n n (Nat.le_refl _), lns_rows zs n m, Nat.zero_add]
theorem wd_not {c : UInt8} {zs : List Int} {n t : Nat} (h : c = 10 ∨ c = 32) : c ∉ wd0 n t ∧ c ∉ wd1 zs n t ∧ c ∉ wd2 zs n t := by
  have h1 : c = 10 ∨ c = 32 ∨ c = 47 := by rcases h with h | h <;> simp [h]
  refine ⟨?_, ?_, ?_⟩
  · unfold wd0; split <;> rcases h with rfl | rfl <;> decide
  · unfold wd1; split
    · exact frL_not h
    · exact itoa_not _ h1
  · unfold wd2; split
    · exact frL_not h
    · exact itoa_not _ h1
theorem row_not {zs : List Int} {n t : Nat} : (10 : UInt8) ∉ rowB zs n t := by
  obtain ⟨h0, h1, h2⟩ := wd_not (c := 10) (zs := zs) (n := n) (t := t) (.inl rfl)
  unfold rowB
  intro h
  rcases List.mem_append.1 h with h | h
  · exact h0 h
  · rcases List.mem_cons.1 h with h | h
    · revert h; decide
    · rcases List.mem_append.1 h with h | h
      · exact h1 h
      · rcases List.mem_cons.1 h with h | h
        · revert h; decide
        · exact h2 h

theorem split_at (s sep : ByteArray) (n : Nat) (ws : List ByteArray) (hn : Lib.countB s sep + 1 = n) (hw : Lib.splitB sep 0 (Lib.countB s sep) s = ws) (hs : s.size < 4294967281) (h1 : 1 ≤ sep.size) (w : World) (hm : MaxL w) :
    Calls Tryz.prog 23 #[.string s, .string sep] w fun e w' => e = .returned (.slice (some ⟨w.heap.size, 0, none⟩) n n) ∧ w' = w.alloc (.cells (ws.map Value.string).toArray 9) := by
  obtain ⟨m, hm⟩ := hm
  refine (Tryz.strings_Split s sep m w hs hm h1).mono fun e w' ⟨he, hw'⟩ => ⟨?_, ?_⟩
  · rw [he, hn]
  · rw [hw', hw]

/-- The numbers of the first k points, as they are. -/
abbrev copyZ (zs : List Int) (n : Nat) : List Int := pt4 (fun i => ix zs (i * 4)) (fun i => ix zs (i * 4 + 1)) (fun i => ix zs (i * 4 + 2)) (fun i => ix zs (i * 4 + 3)) n
/-- What stands after t rows. -/
structure RdN (zs : List Int) (n : Nat) (w0 wv : World) (k t : Nat) (u v : Value) : Prop where
  r : FgBox wv k (.slice none 0 0) (.slice none 0 0)
  f : FgBox wv (k + 1) u v
  own : wv.ownsRow (k + 1 + 1) 33 4 u (min t n) ((copyZ zs (min t n)).map (Value.int .i64))
  lin : LinN wv (k + 1 + 1) v (t - n)
  nov : t ≤ n → v = .slice none 0 0
  sz : k + 1 + 1 ≤ wv.heap.size
  b : Below w0.heap.size w0 wv
theorem RdN.below {zs : List Int} {n : Nat} {w0 wv w' : World} {k t : Nat} {u v : Value} (h : RdN zs n w0 wv k t u v) (hb : Below wv.heap.size wv w') : RdN zs n w0 w' k t u v :=
  ⟨h.r.below hb, h.f.below hb, own_below h.own hb, h.lin.below hb, h.nov, Nat.le_trans h.sz hb.size, h.b.trans (hb.mono h.b.size)⟩
theorem ptBox_set4 {w : World} {b : Nat} {x0 x1 x2 x3 : Int} (h : PtBox w b x0 x1 x2 x3) (a c d e : Int) : PtBox ((((w.setCell ⟨b, 0, none⟩ (.int .i64 a)).setCell ⟨b, 1, none⟩ (.int .i64 c)).setCell ⟨b, 2, none⟩ (.int .i64 d)).setCell ⟨b, 3, none⟩ (.int .i64 e)) b a c d e :=
  ((((World.rowIs.set h 0 (.int .i64 a)).set 1 (.int .i64 c)).set 2 (.int .i64 d)).set 3 (.int .i64 e)).congr (fun i hi => by
    match i, hi with
    | 0, _ => rfl
    | 1, _ => rfl
    | 2, _ => rfl
    | 3, _ => rfl)
theorem RdN.setP {zs : List Int} {n : Nat} {w0 wv : World} {k t kp : Nat} {u : Value} (h : RdN zs n w0 wv k t u (.slice none 0 0)) (ht : t < n) (hu : ∀ q, u.ownBlock = some q → q ≠ kp) (hk : k + 1 < kp) (h0 : w0.heap.size ≤ kp) (o : Nat) (x : Value) : RdN zs n w0 (wv.setCell ⟨kp, o, none⟩ x) k t u (.slice none 0 0) :=
  ⟨h.r.other (a := ⟨kp, o, none⟩) (by show k ≠ kp; omega) x, h.f.other (a := ⟨kp, o, none⟩) (by show k + 1 ≠ kp; omega) x,
   h.own.kept (row := some kp) (setCell_grown wv kp o x) (by
    cases hv : u.ownBlock with
    | none => simp
    | some q => exact .inr (fun e => hu q hv (Option.some.inj e))),
   by rw [show t - n = 0 by omega]; exact LinN.nil _ _, fun _ => rfl, by simpa using h.sz, h.b.setCell (p := ⟨kp, o, none⟩) h0 x⟩
end Go.Proofs.YtdifeoahaegjbaaGreatDoor
