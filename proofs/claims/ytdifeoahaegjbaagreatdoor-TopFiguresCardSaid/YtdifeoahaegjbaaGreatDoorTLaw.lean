/- Plain laws: a text cut at a byte, split at a byte; a numeral is read back. -/
import Derived.Lib.SplitLaws
import Derived.Lib.ItoaLen
import Derived.Lib.Atoi
import Derived.Lib.ItoaMem
namespace Go.Proofs.YtdifeoahaegjbaaGreatDoor
set_option linter.unusedSimpArgs false
set_option linter.unusedVariables false
open Go.Lib

theorem idx_miss {c : UInt8} : ∀ {l : List UInt8}, c ∉ l → index l [c] = -1
  | [], _ => rfl
  | b :: l, h => by
    have h1 : c ≠ b := fun e => h (by rw [e]; exact List.mem_cons_self)
    have h2 := idx_miss (l := l) (fun e => h (List.mem_cons_of_mem _ e))
    have hp : ([c] : List UInt8).isPrefixOf (b :: l) = false := by simp [List.isPrefixOf, h1]
    rw [index, hp, h2]
    simp
theorem idx_hit {c : UInt8} : ∀ {l r : List UInt8}, c ∉ l → index (l ++ c :: r) [c] = (l.length : Int)
  | [], r, _ => by rw [List.nil_append, index]; simp [List.isPrefixOf]
  | b :: l, r, h => by
    have h1 : c ≠ b := fun e => h (by rw [e]; exact List.mem_cons_self)
    have h2 := idx_hit (l := l) (r := r) (fun e => h (List.mem_cons_of_mem _ e))
    have hp : ([c] : List UInt8).isPrefixOf (b :: (l ++ c :: r)) = false := by simp [List.isPrefixOf, h1]
    rw [List.cons_append, index, hp, h2]
    have : ((l.length : Int) == -1) = false := by simp
    simp [this]
theorem cut_hit {c : UInt8} {l r : List UInt8} (h : c ∉ l) : cut (l ++ c :: r) [c] = (l, r, true) := by
  unfold cut
  rw [idx_hit h, if_pos (by omega)]
  simp
theorem cut_miss {c : UInt8} {l : List UInt8} (h : c ∉ l) : cut l [c] = (l, [], false) := by
  unfold cut
  rw [idx_miss h, if_neg (by omega)]
theorem count_add {c : UInt8} {l r : List UInt8} (h : c ∉ l) : count (l ++ c :: r) [c] = 1 + count r [c] := by
  rw [count_hit (by simp) (idx_hit h)]
  simp
theorem splitK_hit {c : UInt8} {l r : List UInt8} (k : Nat) (h : c ∉ l) : splitK [c] 0 (k + 1) (l ++ c :: r) = l :: splitK [c] 0 k r := by
  have e : ((l.length : Int) == -1) = false := by simp
  rw [splitK, idx_hit h, e]
  simp
theorem bytes_inj : ∀ {a b : List ByteArray}, a.map (·.data.toList) = b.map (·.data.toList) → a = b
  | [], [], _ => rfl
  | [], _ :: _, h => by simp at h
  | _ :: _, [], h => by simp at h
  | x :: a, y :: b, h => by
    simp only [List.map_cons, List.cons.injEq] at h
    have h1 : x = y := by
      obtain ⟨⟨x⟩⟩ := x; obtain ⟨⟨y⟩⟩ := y
      simpa using h.1
    rw [h1, bytes_inj h.2]
theorem three_count {c : UInt8} {a b d : List UInt8} (ha : c ∉ a) (hb : c ∉ b) (hd : c ∉ d) (s : ByteArray) (hs : s.data.toList = a ++ c :: (b ++ c :: d)) : countB s ⟨#[c]⟩ + 1 = 3 := by
  show count s.data.toList [c] + 1 = 3
  rw [hs, count_add ha, count_add hb, count_miss (idx_miss hd)]
theorem three_split {c : UInt8} {a b d : List UInt8} (ha : c ∉ a) (hb : c ∉ b) (hd : c ∉ d) (s : ByteArray) (hs : s.data.toList = a ++ c :: (b ++ c :: d)) :
    splitB ⟨#[c]⟩ 0 (countB s ⟨#[c]⟩) s = [⟨a.toArray⟩, ⟨b.toArray⟩, ⟨d.toArray⟩] := by
  have h2 : countB s ⟨#[c]⟩ = 0 + 1 + 1 := by have := three_count ha hb hd s hs; omega
  apply bytes_inj
  rw [splitB_data, h2, hs]
  show splitK [c] 0 (0 + 1 + 1) _ = _
  rw [splitK_hit _ ha, splitK_hit _ hb]
  rfl

/-! Numerals. -/
theorem digit_mk {d : Nat} (h : d < 10) : (UInt8.ofNat (48 + d)).toNat = 48 + d := by
  rw [UInt8.toNat_ofNat']; omega
theorem digitVal_mk {d : Nat} (h : d < 10) : digitVal (UInt8.ofNat (48 + d)) = some d := by
  unfold digitVal
  rw [digit_mk h, if_pos (by omega)]
  simp
theorem decFrom_app : ∀ (l m : List UInt8) (acc n : Nat), decFrom acc l = some n → decFrom acc (l ++ m) = decFrom n m
  | [], m, acc, n, h => by simp [decFrom] at h; rw [h]; rfl
  | b :: l, m, acc, n, h => by
    simp only [decFrom] at h
    rw [List.cons_append]
    simp only [decFrom]
    cases hb : digitVal b with
    | none => rw [hb] at h; cases h
    | some d => rw [hb] at h; exact decFrom_app l m _ n h
theorem dec_read (u : Nat) : decFrom 0 (decDigits u) = some u := by
  induction u using Nat.strongRecOn with
  | _ u ih =>
    rw [decDigits]
    by_cases h : u < 10
    · rw [dif_pos h]
      simp only [decFrom, digitVal_mk h]
      congr 1; omega
    · rw [dif_neg h, decFrom_app _ _ _ _ (ih (u / 10) (by omega))]
      simp only [decFrom, digitVal_mk (show u % 10 < 10 by omega)]
      congr 1
      omega
theorem dec_ne (u : Nat) : decDigits u ≠ [] := by
  rw [decDigits]
  split <;> simp
theorem dec_mem (u : Nat) : ∀ b ∈ decDigits u, 48 ≤ b.toNat ∧ b.toNat ≤ 57 := by
  induction u using Nat.strongRecOn with
  | _ u ih =>
    intro b hb
    rw [decDigits] at hb
    by_cases h : u < 10
    · rw [dif_pos h] at hb
      rw [List.mem_singleton] at hb
      rw [hb, digit_mk h]; omega
    · rw [dif_neg h, List.mem_append, List.mem_singleton] at hb
      rcases hb with hb | hb
      · exact ih (u / 10) (by omega) b hb
      · rw [hb, digit_mk (show u % 10 < 10 by omega)]; omega
theorem decNat_read (u : Nat) : decNat (decDigits u) = some u := by
  unfold decNat
  have : (decDigits u).isEmpty = false := by
    have := dec_ne u
    cases h : decDigits u with
    | nil => exact absurd h this
    | cons _ _ => rfl
  rw [this]
  exact dec_read u
theorem itoa_read (n : Int) : atoi (itoa n) = some n := by
  unfold itoa
  by_cases h : n < 0
  · rw [if_pos h]
    show (decNat (decDigits n.natAbs)).map (fun (m : Nat) => -(m : Int)) = some n
    rw [decNat_read]
    simp
    omega
  · rw [if_neg h]
    have hm := dec_mem n.toNat
    have hr := decNat_read n.toNat
    cases hd : decDigits n.toNat with
    | nil => exact absurd hd (dec_ne _)
    | cons b r =>
      rw [hd] at hm hr
      have hb := hm b List.mem_cons_self
      have h1 : (b == 45) = false := by
        rw [beq_eq_false_iff_ne]; intro e; rw [e] at hb; revert hb; decide
      have h2 : (b == 43) = false := by
        rw [beq_eq_false_iff_ne]; intro e; rw [e] at hb; revert hb; decide
      unfold atoi
      simp only [h1, h2, if_false, Bool.false_eq_true]
      rw [hr]
      simp
      omega
theorem itoa_mem (n : Int) : ∀ b ∈ itoa n, b = 45 ∨ (48 ≤ b.toNat ∧ b.toNat ≤ 57) := by
  intro b hb
  unfold itoa at hb
  split at hb
  · rcases List.mem_cons.1 hb with h | h
    · exact .inl h
    · exact .inr (dec_mem _ b h)
  · exact .inr (dec_mem _ b hb)
theorem itoa_not {c : UInt8} (n : Int) (h : c = 10 ∨ c = 32 ∨ c = 47) : c ∉ itoa n := by
  intro hc
  rcases h with rfl | rfl | rfl <;> rcases itoa_mem n _ hc with h | h <;> revert h <;> decide
theorem itoa_short (n : Int) (h0 : -100000 ≤ n) (h1 : n ≤ 100000) : (itoa n).length ≤ 7 := by
  have hd : ∀ u : Nat, u ≤ 100000 → (decDigits u).length ≤ 6 := by
    intro u hu
    have l1 : ∀ u : Nat, u < 10 → (decDigits u).length = 1 := fun u h => by rw [decDigits, dif_pos h]; rfl
    have ls : ∀ (u k : Nat), (∀ v : Nat, v < 10 ^ k → (decDigits v).length ≤ k) → 1 ≤ k → u < 10 ^ (k + 1) → (decDigits u).length ≤ k + 1 := by
      intro u k ih hk hu
      by_cases h : u < 10
      · rw [l1 u h]; omega
      · rw [decDigits, dif_neg h, List.length_append]
        have := ih (u / 10) (by rw [Nat.pow_succ] at hu; omega)
        simp
        omega
    have a1 : ∀ v : Nat, v < 10 ^ 1 → (decDigits v).length ≤ 1 := fun v hv => by rw [l1 v (by simpa using hv)]; omega
    have a2 := fun v hv => ls v 1 a1 (by omega) hv
    have a3 := fun v hv => ls v 2 a2 (by omega) hv
    have a4 := fun v hv => ls v 3 a3 (by omega) hv
    have a5 := fun v hv => ls v 4 a4 (by omega) hv
    exact ls u 5 a5 (by omega) (by omega)
  unfold itoa
  split
  · have := hd n.natAbs (by omega)
    simp
    omega
  · have := hd n.toNat (by omega)
    omega
end Go.Proofs.YtdifeoahaegjbaaGreatDoor
