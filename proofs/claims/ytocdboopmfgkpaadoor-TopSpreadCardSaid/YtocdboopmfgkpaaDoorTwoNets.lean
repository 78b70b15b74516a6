/- Two networks side by side; the greatest numbers of two rows of notices in different orders. -/
import Derived.Test.YtocdboopmfgkpaaDoorSpreadWorks
import Derived.Test.YtocdboopmfgkpaaDoorSpreadLaw
namespace Go.Proofs.YtocdboopmfgkpaaDoor
open Go.RowKit
set_option linter.unusedSimpArgs false
set_option linter.unusedVariables false

theorem below_grownR {w w' : World} (hb : Below w.heap.size w w') (r : Option Nat) : w.grownBy w' r := ⟨hb.os, hb.tape, hb.output, hb.size, fun k hk _ => hb.block k hk⟩
theorem NtBox.grown {w w' : World} {b : Nat} {a n : Int} {s : ByteArray} {m : Int} {r : Option Nat} (h : NtBox w b a n s m) (hg : w.grownBy w' r) (hr : some b ≠ r) : NtBox w' b a n s m := World.rowIs.of_block h (hg.block b (World.rowIs.lt h) hr)

/-- The network b was made behind the network a: its blocks are none of the rows of a, nor a's head. -/
theorem two_far {D : NetD} {La Lb : NetL} {A B : Nat} {w : World} (ha : NetW D La A w (fun _ _ => 0)) (hb : NetW D Lb B w (fun _ _ => 0)) (hK : 1 ≤ D.K) (hn : 1 ≤ D.n) (hk : D.keys 0 ≠ 0) (hdeg : ∀ i, i < D.n → 2 ≤ D.deg i ∧ D.deg i ≠ D.K ∧ (D.nbr i 0 ≠ 0 ∨ D.nbr i 1 ≠ 0))
    (l1 : La.b < B) (l2 : La.bk < B) (l3 : ∀ i, i < D.n → La.hb i < B) : (∀ i, i < D.n → NetFar D Lb (some (La.hb i))) ∧ NetFar D Lb (some La.b) := by
  have c0 : ∀ i, i < D.n → w.cell? ⟨La.hb i, 0, none⟩ = some (.int .i64 0) := fun i hi => (ha.row i hi).cell 0 (by omega)
  have c1 : ∀ i, i < D.n → w.cell? ⟨La.hb i, 1, none⟩ = some (.int .i64 0) := fun i hi => (ha.row i hi).cell 1 (by omega)
  have d0 := ha.c0
  have k0 := hb.key 0 (by omega)
  have n0 := hb.near 0 (by omega)
  have h0 := hb.held 0 (by omega)
  have oh := hb.oh 0 (by omega)
  refine ⟨fun i hi => ?_, ?_⟩
  · have x0 := c0 i hi; have x1 := c1 i hi; have x3 := l3 i hi
    refine ⟨fun e => by have := Option.some.inj e; have := hb.ob; omega, fun e => ?_, fun e => ?_, fun e => ?_, fun j hj e => ?_, fun j hj e => by have := Option.some.inj e; have := hb.oh j hj; omega⟩
    · rw [Option.some.inj e, x0] at k0
      injection k0 with k0; injection k0 with _ k0; exact hk k0.symm
    · rw [Option.some.inj e, x0] at n0; injection n0 with n0; cases n0
    · rw [Option.some.inj e, x0] at h0; injection h0 with h0; cases h0
    · obtain ⟨g1, _, g2⟩ := hdeg j hj
      have y0 := hb.nears j hj 0 (by omega); have y1 := hb.nears j hj 1 (by omega)
      rw [Option.some.inj e, x0] at y0
      rw [Option.some.inj e, x1] at y1
      injection y0 with y0; injection y0 with _ y0
      injection y1 with y1; injection y1 with _ y1
      omega
  · refine ⟨fun e => by have := Option.some.inj e; have := hb.ob; omega, fun e => ?_, fun e => ?_, fun e => ?_, fun j hj e => ?_, fun j hj e => by have := Option.some.inj e; have := hb.oh j hj; have := hb.oh j hj; omega⟩
    · rw [Option.some.inj e, d0] at k0; injection k0 with k0; cases k0
    · rw [Option.some.inj e, d0] at n0
      injection n0 with n0; injection n0 with _ n0 _
      exact (hdeg 0 (by omega)).2.1 n0.symm
    · rw [Option.some.inj e, d0] at h0
      injection h0 with h0; injection h0 with h0 _ _
      have h0 := Option.some.inj h0
      injection h0 with h0 _ _
      omega
    · obtain ⟨g1, _, g2⟩ := hdeg j hj
      have y0 := hb.nears j hj 0 (by omega)
      rw [Option.some.inj e, d0] at y0
      injection y0 with y0; cases y0

/-- The greatest number of author a among the first i of the notices f 0, f 1, .. -/
def mxS (au : Nat → Nat) (nu : Nat → Int) (f : Nat → Nat) (a : Nat) : Nat → Int
  | 0 => 0
  | i + 1 => if a = au (f i) then (if mxS au nu f a i < nu (f i) then nu (f i) else mxS au nu f a i) else mxS au nu f a i
theorem mxS_ge (au : Nat → Nat) (nu : Nat → Int) (f : Nat → Nat) (a : Nat) : ∀ n, 0 ≤ mxS au nu f a n ∧ ∀ i, i < n → a = au (f i) → nu (f i) ≤ mxS au nu f a n := by
  intro n
  induction n with
  | zero => exact ⟨Int.le_refl _, fun i hi => by omega⟩
  | succ n ih =>
    unfold mxS
    refine ⟨by have := ih.1; (repeat' split) <;> omega, fun i hi he => ?_⟩
    by_cases e : i = n
    · subst e; rw [if_pos he]; split <;> omega
    · have := ih.2 i (by omega) he; (repeat' split) <;> omega
theorem mxS_is (au : Nat → Nat) (nu : Nat → Int) (f : Nat → Nat) (a : Nat) : ∀ n, mxS au nu f a n = 0 ∨ ∃ j, j < n ∧ a = au (f j) ∧ nu (f j) = mxS au nu f a n := by
  intro n
  induction n with
  | zero => exact .inl rfl
  | succ n ih =>
    have hd : mxS au nu f a (n + 1) = mxS au nu f a n ∨ (a = au (f n) ∧ mxS au nu f a (n + 1) = nu (f n)) := by
      by_cases e : a = au (f n)
      · by_cases e2 : mxS au nu f a n < nu (f n)
        · exact .inr ⟨e, by show (if a = au (f n) then (if mxS au nu f a n < nu (f n) then nu (f n) else mxS au nu f a n) else mxS au nu f a n) = _; rw [if_pos e, if_pos e2]⟩
        · exact .inl (by show (if a = au (f n) then (if mxS au nu f a n < nu (f n) then nu (f n) else mxS au nu f a n) else mxS au nu f a n) = _; rw [if_pos e, if_neg e2])
      · exact .inl (by show (if a = au (f n) then (if mxS au nu f a n < nu (f n) then nu (f n) else mxS au nu f a n) else mxS au nu f a n) = _; rw [if_neg e])
    rcases hd with hd | ⟨h1, h2⟩
    · rw [hd]
      rcases ih with h | ⟨j, h1, h2, h3⟩
      · exact .inl h
      · exact .inr ⟨j, by omega, h2, h3⟩
    · exact .inr ⟨n, by omega, h1, h2.symm⟩
theorem mxS_le (au : Nat → Nat) (nu : Nat → Int) (f g : Nat → Nat) (a n : Nat) (h : ∀ j, j < n → ∃ k, k < n ∧ g k = f j) : mxS au nu f a n ≤ mxS au nu g a n := by
  rcases mxS_is au nu f a n with e | ⟨j, h1, h2, h3⟩
  · rw [e]; exact (mxS_ge au nu g a n).1
  · obtain ⟨k, k1, k2⟩ := h j h1
    have := (mxS_ge au nu g a n).2 k k1 (by rw [k2]; exact h2)
    rw [k2] at this; omega
/-- The order of the notices makes no difference. -/
theorem mxS_turn (au : Nat → Nat) (nu : Nat → Int) (a n t : Nat) (ht : t < n) : mxS au nu (fun i => (i + t) % n) a n = mxS au nu (fun i => i) a n := by
  have h1 := mxS_le au nu (fun i => (i + t) % n) (fun i => i) a n (fun j hj => ⟨(j + t) % n, Nat.mod_lt _ (by omega), rfl⟩)
  have h2 := mxS_le au nu (fun i => i) (fun i => (i + t) % n) a n (fun j hj => by
    by_cases e : t ≤ j
    · exact ⟨j - t, by omega, by show (j - t + t) % n = j; rw [Nat.sub_add_cancel e]; exact Nat.mod_eq_of_lt hj⟩
    · exact ⟨j + n - t, by omega, by show (j + n - t + t) % n = j; rw [Nat.sub_add_cancel (by omega), Nat.add_mod_right]; exact Nat.mod_eq_of_lt hj⟩)
  omega
theorem mxS_put (au : Nat → Nat) (nu : Nat → Int) (f : Nat → Nat) (i : Nat) (H : Nat → Nat → Int) (nd n : Nat) (hnd : nd < n) (h0 : 0 ≤ nu (f i)) (a : Nat) (h : mxN H a n = mxS au nu f a i) : mxN (putH H nd (au (f i)) (nu (f i))) a n = mxS au nu f a (i + 1) := by
  rw [mxN_put H nd (au (f i)) (nu (f i)) h0 a n, h]
  show _ = if a = au (f i) then (if mxS au nu f a i < nu (f i) then nu (f i) else mxS au nu f a i) else mxS au nu f a i
  by_cases e : a = au (f i)
  · rw [if_pos e, if_pos ⟨e, hnd⟩]
  · rw [if_neg e, if_neg (fun h => e h.1)]
theorem putH_range {H : Nat → Nat → Int} (i a : Nat) (m c : Int) (h0 : 0 ≤ m) (h1 : m ≤ c) (h : ∀ x y, 0 ≤ H x y ∧ H x y ≤ c) (x y : Nat) : 0 ≤ putH H i a m x y ∧ putH H i a m x y ≤ c := by
  unfold putH; split
  · exact ⟨h0, h1⟩
  · exact h x y
theorem mxN_lim (H : Nat → Nat → Int) (a : Nat) (c : Int) (hc : 0 ≤ c) (h : ∀ x y, H x y ≤ c) : ∀ n, mxN H a n ≤ c := by
  intro n
  induction n with
  | zero => exact hc
  | succ n ih => unfold mxN; have := h n a; split <;> omega
end Go.Proofs.YtocdboopmfgkpaaDoor
