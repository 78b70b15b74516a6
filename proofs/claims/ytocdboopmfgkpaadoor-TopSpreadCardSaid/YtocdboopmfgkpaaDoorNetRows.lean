/- slices.Clone and slices.Equal at rows of notices. -/
import Derived.Test.YtocdboopmfgkpaaDoorNet
import Derived.Lib.SliceRun
import Derived.WalkSpells
import Derived.Laws.OwnMore
import Derived.Deep.OwnRows
namespace Go.Proofs.YtocdboopmfgkpaaDoor
open Go.RowKit
set_option linter.unusedSimpArgs false
set_option linter.unusedVariables false

theorem Tryd.infoNt : (Tryd.prog.info? 23).map (fun i => (i.zero, i.size, i.bytes)) = some (some (.agg #[.int .i64 0, .int .i64 0, .string ⟨#[]⟩, .int .i64 0]), 4, 40) := by kernel_rfl
theorem Tryd.infoNs : (Tryd.prog.info? 59).map (fun i => (i.zero, i.size, i.bytes)) = some (some (.slice none 0 0), 1, 24) := by kernel_rfl
theorem Tryd.infoInt : (Tryd.prog.info? 3).map (fun i => (i.zero, i.size, i.bytes)) = some (some (.int .i64 0), 1, 8) := by kernel_rfl

theorem add_at (b o j : Nat) : (⟨b, o, none⟩ : Addr).add j = ⟨b, o + j, none⟩ := by unfold Addr.add; split <;> simp_all
theorem own_cap {w : World} {base g n cap size : Nat} {e : TypeId} {xs : List Value} (h : w.ownsRow base e size (.slice (some ⟨g, 0, none⟩) n cap) n xs) : n ≤ cap := by
  rcases h.2 with ⟨h, _⟩ | ⟨_, _, _, h, _, _, h2, _⟩
  · cases h
  · simp only [Value.slice.injEq] at h; omega
theorem own_frozen {w : World} {base g n cap size : Nat} {e : TypeId} {xs : List Value} (h : w.ownsRow base e size (.slice (some ⟨g, 0, none⟩) n cap) n xs) (j : Nat) : w.frozen? ⟨g, j, none⟩ = false := by
  rcases h.2 with ⟨h, _⟩ | ⟨g', _, cur, h, _, hg, _⟩
  · cases h
  · simp only [Value.slice.injEq, Option.some.injEq, Addr.mk.injEq] at h
    obtain ⟨⟨rfl, _⟩, _⟩ := h
    simp [World.frozen?, hg]
/-- The cells of a list of n values that f tells. -/
def fList (f : Nat → Value) (n : Nat) : List Value := (List.range n).map f
theorem fList_len (f : Nat → Value) (n : Nat) : (fList f n).length = n := by simp [fList]
theorem fList_at (f : Nat → Value) (n j : Nat) (h : j < n) : (fList f n)[j]? = some (f j) := by
  unfold fList; rw [List.getElem?_map, List.getElem?_range h]; rfl
theorem own_vrow {w : World} {base g n cap size : Nat} {e : TypeId} {f : Nat → Value} (h : w.ownsRow base e size (.slice (some ⟨g, 0, none⟩) n cap) n (fList f (n * size))) : VRow w g (n * size) f :=
  ⟨fun j hj => by rw [h.cellAt j hj, fList_at _ _ _ hj], fun j _ => own_frozen h j, (h.lt g rfl).2⟩

/-- Four cells of a row are written. -/
theorem VRow.set4 {w : World} {b n : Nat} {f : Nat → Value} (h : VRow w b (n * 4) f) (a : Nat) (ha : a < n) (v0 v1 v2 v3 : Value) :
    VRow ((((w.setCell ⟨b, a * 4, none⟩ v0).setCell ⟨b, a * 4 + 1, none⟩ v1).setCell ⟨b, a * 4 + 2, none⟩ v2).setCell ⟨b, a * 4 + 3, none⟩ v3) b (n * 4)
      (fun j => if j / 4 = a then (if j % 4 = 0 then v0 else if j % 4 = 1 then v1 else if j % 4 = 2 then v2 else v3) else f j) :=
  ((((h.set (a * 4) (by omega) v0).set (a * 4 + 1) (by omega) v1).set (a * 4 + 2) (by omega) v2).set (a * 4 + 3) (by omega) v3).congr (fun j hj => by
    by_cases e3 : j = a * 4 + 3
    · rw [if_pos e3, if_pos (by omega), if_neg (by omega), if_neg (by omega), if_neg (by omega)]
    · rw [if_neg e3]
      by_cases e2 : j = a * 4 + 2
      · rw [if_pos e2, if_pos (by omega), if_neg (by omega), if_neg (by omega), if_pos (by omega)]
      · rw [if_neg e2]
        by_cases e1 : j = a * 4 + 1
        · rw [if_pos e1, if_pos (by omega), if_neg (by omega), if_pos (by omega)]
        · rw [if_neg e1]
          by_cases e0 : j = a * 4
          · rw [if_pos e0, if_pos (by omega), if_pos (by omega)]
          · rw [if_neg e0, if_neg (by omega)])
theorem ntc_if (D : NetD) (a : Nat) (m : Int) (c : Nat) : (if c = 0 then Value.int .i64 (ntA a m) else if c = 1 then Value.int .i64 m else if c = 2 then Value.string (ntT D m) else Value.int .i64 (ntS D a m)) = ntc D a m c := by
  unfold ntc ntF; rfl

theorem setCell_grown (w : World) (b o : Nat) (v : Value) : w.grownBy (w.setCell ⟨b, o, none⟩ v) (some b) :=
  ⟨rfl, rfl, rfl, by simp, fun k _ hne => Go.Deep.blk_setCell_other _ _ _ _ (fun e => hne (by rw [e]))⟩

def CloneNt (K : Nat) (f : Nat → Value) (w : World) (e : Ending) (w' : World) : Prop :=
  ∃ g gc, e = .returned (.slice (some ⟨g, 0, none⟩) K gc) ∧ VRow w' g (K * 4) f ∧ w.heap.size ≤ g ∧ K ≤ gc ∧ Below w.heap.size w w'
set_option maxRecDepth 100000 in
set_option maxHeartbeats 4000000 in
theorem clone_nt (q K cap : Nat) (f : Nat → Value) (w : World) (h : VRow w q (K * 4) f) (h1 : ∀ j, j < K * 4 → (f j).oneCell' = true) (hK : 1 ≤ K) (hK' : K ≤ 8) :
    Calls Tryd.prog 31 #[.slice (some ⟨q, 0, none⟩) K cap] w (CloneNt K f w) := by
  obtain ⟨iB, hB0, hB1, hB2, hB3⟩ := info_parts Tryd.infoNt
  have hq := fun (wx : World) => Lib.run_eql_slice_nil (P := Tryd.prog) wx 59 23 (some ⟨q, 0, none⟩) K cap 0 0 Tryd.underlying59
  simp only [Option.isNone_some] at hq
  have hnews : ∀ j u, (fList f (K * 4))[j]? = some u → w.cell? ((⟨q, 0, none⟩ : Addr).add j) = some u := by
    intro j u hu
    have hj : j < K * 4 := by
      have := (List.getElem?_eq_some_iff.1 hu).1
      rwa [fList_len] at this
    rw [fList_at _ _ _ hj] at hu
    rw [add_at, Nat.zero_add, h.cell j hj, Option.some.inj hu]
  have hones : ∀ u, u ∈ fList f (K * 4) → u.oneCell' = true := fun u hu => by
    obtain ⟨j, hj, rfl⟩ := List.mem_map.1 hu
    exact h1 j (List.mem_range.1 hj)
  have HNEWS := Lib.hid hnews; have HONE := Lib.hid hones; clear hnews h h1 hones
  go_enter Tryd.func31, Tryd.ntmps31
  have hmade := World.ownsRow_made (base := w.heap.size) (e := 23) (size := 4) w #[] 0 (Nat.le_refl _) (by unfold maxLen; omega) (by simp)
  have hb0 : Below w.heap.size w (w.alloc (.cells #[] 23)) := (Below.refl _ _).alloc (Nat.le_refl _) _
  have HM := Lib.hid hmade; clear hmade
  go_wp2_with (at_builtin; refine wpList_append_own _ rfl _ _ 59 rfl w.heap.size 23 iB (.agg #[.int .i64 0, .int .i64 0, .string ⟨#[]⟩, .int .i64 0]) 4 40 Tryd.underlying59 hB0 hB1 hB2 hB3 rfl (by decide) _ _ _ rfl HM.out ⟨q, 0, none⟩ K cap (fList f (K * 4)) rfl ?c1 ?c2 ?c3 ?c4 ?c5 ?c6 ?_)
  case c1 => exact fList_len _ _
  case c2 =>
    intro j u hu
    have := HNEWS.out j u hu
    exact Lib.cell?_alloc_some _ this
  case c3 => exact HONE.out
  case c4 => unfold maxLen; omega
  case c5 => omega
  case c6 => simp
  · intro v' w2 hown' hgrow _
    have hb2 := hb0.grown hgrow (by simp) (fun q hq => (HM.out.lt q hq).1)
    have R : w2.ownsRow w.heap.size 23 4 v' K (fList f (K * 4)) := by simpa using hown'
    obtain ⟨g, gc, hv, hg1, hg2⟩ := R.form (by omega)
    subst hv
    have hV := own_vrow R
    have hcp := own_cap R
    have HV := Lib.hid hV
    clear hown' hgrow R hV
    go_wp2_with fail
    go_ret
    exact ⟨g, gc, rfl, HV.out, hg1, hcp, hb2⟩

/-- Two notices of one author are one if and only if their numbers are. -/
theorem nt_same {D : NetD} {a : Nat} {x y : Int} (h : x = y) : ntA a x = ntA a y ∧ ntT D x = ntT D y ∧ ntS D a x = ntS D a y := by subst h; exact ⟨rfl, rfl, rfl⟩
theorem rowF_one (D : NetD) (h : Nat → Int) (j : Nat) : (rowF D h j).oneCell' = true := by
  unfold rowF ntc ntF; split <;> (try rfl); split <;> (try rfl); split <;> rfl

def EqNt (K : Nat) (h g : Nat → Int) : Bool := (List.range K).all fun a => decide (h a = g a)
theorem eqNt_iff (K : Nat) (h g : Nat → Int) : EqNt K h g = true ↔ ∀ a, a < K → h a = g a := by
  unfold EqNt
  rw [List.all_eq_true]
  exact ⟨fun h a ha => of_decide_eq_true (h a (List.mem_range.2 ha)), fun h a ha => decide_eq_true (h a (List.mem_range.1 ha))⟩

set_option maxRecDepth 100000 in
set_option maxHeartbeats 4000000 in
theorem equal_nt (D : NetD) (p q K c d : Nat) (h g : Nat → Int) (w : World) (hp : VRow w p (K * 4) (rowF D h)) (hq : VRow w q (K * 4) (rowF D g)) (hK' : K ≤ 8) :
    Calls Tryd.prog 32 #[.slice (some ⟨p, 0, none⟩) K c, .slice (some ⟨q, 0, none⟩) K d] w fun e w' => e = .returned (.bool (EqNt K h g)) ∧ Below w.heap.size w w' := by
  have HP := Lib.hid hp; have HQ := Lib.hid hq
  clear hp hq
  go_enter Tryd.func32, Tryd.ntmps32
  go_wp2_with fail
  go_loopw [13] (fun i' wv => ∃ k : Nat, k ≤ K ∧ i' = .int .i64 k ∧ (∀ a, a < k → h a = g a) ∧ Below w.heap.size w wv) (fun i' _ => K - (intOf i').toNat)
  case atStart => exact ⟨0, Nat.zero_le _, rfl, fun a ha => absurd ha (by omega), Below.refl _ _⟩
  case round =>
    obtain ⟨k, hk, rfl, hsame, hb⟩ := hrel
    have HS := Lib.hid hsame
    clear hsame
    by_cases hlt : k < K
    · have i0 : (0 : Int) ≤ (k : Int) := by omega
      have i1 : (k : Int) < (K : Int) := by omega
      have vp := HP.out.below hb
      have vq := HQ.out.below hb
      have x0 := vp.cell (k * 4) (by omega)
      have x1 := vp.cell (k * 4 + 1) (by omega)
      have x2 := vp.cell (k * 4 + 2) (by omega)
      have x3 := vp.cell (k * 4 + 3) (by omega)
      rw [show k * 4 = k * 4 + 0 from rfl, rowF_at _ _ _ _ (by omega)] at x0
      rw [rowF_at _ _ _ _ (by omega)] at x1 x2 x3
      have y0 := vq.cell (k * 4) (by omega)
      have y1 := vq.cell (k * 4 + 1) (by omega)
      have y2 := vq.cell (k * 4 + 2) (by omega)
      have y3 := vq.cell (k * 4 + 3) (by omega)
      rw [show k * 4 = k * 4 + 0 from rfl, rowF_at _ _ _ _ (by omega)] at y0
      rw [rowF_at _ _ _ _ (by omega)] at y1 y2 y3
      simp only [ntc, ntF] at x0 x1 x2 x3 y0 y1 y2 y3
      simp at x0 x1 x2 x3 y0 y1 y2 y3
      clear vp vq
      obtain ⟨hx, hhx⟩ : ∃ z, z = h k := ⟨_, rfl⟩
      obtain ⟨gx, hgx⟩ : ∃ z, z = g k := ⟨_, rfl⟩
      rw [← hhx] at x0 x1 x2 x3
      rw [← hgx] at y0 y1 y2 y3
      have HX := Lib.hid hhx; have GX := Lib.hid hgx
      clear hhx hgx
      obtain ⟨ax, hax⟩ : ∃ v, v = ntA k hx := ⟨_, rfl⟩
      obtain ⟨tx, htx⟩ : ∃ v, v = ntT D hx := ⟨_, rfl⟩
      obtain ⟨sx, hsx⟩ : ∃ v, v = ntS D k hx := ⟨_, rfl⟩
      obtain ⟨ay, hay⟩ : ∃ v, v = ntA k gx := ⟨_, rfl⟩
      obtain ⟨ty, hty⟩ : ∃ v, v = ntT D gx := ⟨_, rfl⟩
      obtain ⟨sy, hsy⟩ : ∃ v, v = ntS D k gx := ⟨_, rfl⟩
      rw [← hax] at x0; rw [← htx] at x2; rw [← hsx] at x3
      rw [← hay] at y0; rw [← hty] at y2; rw [← hsy] at y3
      by_cases he : hx = gx
      · subst he
        have e1 : ay = ax := by rw [hay, hax]
        have e2 : ty = tx := by rw [hty, htx]
        have e3 : sy = sx := by rw [hsy, hsx]
        subst e1 e2 e3
        have HS2 := Lib.hid (fun a (ha : a < k + 1) => by
          by_cases e : a = k
          · subst e; exact HX.out.symm.trans GX.out
          · exact HS.out a (by omega) : ∀ a, a < k + 1 → h a = g a)
        clear hax htx hsx hay hty hsy
        go_wp2_with fail
        go_quiet (fail)
        go_wp2_with fail
        go_roundw
        case rel => exact ⟨k + 1, by omega, by go_num, HS2.out, below_drewN hb _⟩
        case measure => simp [intOf]; omega
      · have q1 : (hx == gx) = false := by rw [beq_eq_false_iff_ne]; exact he
        have hne : ¬ EqNt K h g = true := fun e => he (by rw [HX.out, GX.out]; exact (eqNt_iff _ _ _).1 e k hlt)
        have e2 : EqNt K h g = false := by simpa using hne
        have HE := Lib.hid e2
        clear hax htx hsx hay hty hsy he hne e2
        by_cases e0 : ax = ay
        · subst e0
          go_wp2_with fail
          go_quiet (fail)
          go_wp2_with fail
          go_ret
          exact ⟨by rw [HE.out]; rfl, below_drewN hb _⟩
        · have q0 : (ax == ay) = false := by rw [beq_eq_false_iff_ne]; exact e0
          clear e0
          go_wp2_with fail
          go_quiet (fail)
          go_wp2_with fail
          go_ret
          exact ⟨by rw [HE.out]; rfl, below_drewN hb _⟩
    · obtain rfl : k = K := by omega
      have e1 : EqNt k h g = true := (eqNt_iff _ _ _).2 HS.out
      have HE := Lib.hid e1
      clear e1
      go_wp2_with fail
      go_ret
      exact ⟨by rw [HE.out]; rfl, hb⟩

end Go.Proofs.YtocdboopmfgkpaaDoor
