/- The sums of notices, plain: another byte, another sum. No program in sight. -/
import Derived.Test.YtocdboopmfgkpaaDoorPlain
namespace Go.Proofs.YtocdboopmfgkpaaDoor
set_option linter.unusedVariables false

def sumStep (h : Int) (c : UInt8) : Int := (h * 257 + (c.toNat : Int) + 1) % 2147483647
def sumBytes (h : Int) (l : List UInt8) : Int := l.foldl sumStep h
/-- The sum of a notice whose text in all is l. -/
def sumAll (key : Int) (l : List UInt8) : Int := (sumBytes key l * 257 + key) % 2147483647

theorem sumStep_range (h : Int) (c : UInt8) : 0 ≤ sumStep h c ∧ sumStep h c < 2147483647 := by unfold sumStep; omega
theorem sumBytes_range (h : Int) (l : List UInt8) (h0 : 0 ≤ h) (h1 : h < 2147483647) : 0 ≤ sumBytes h l ∧ sumBytes h l < 2147483647 := by
  induction l generalizing h with
  | nil => exact ⟨h0, h1⟩
  | cons c t ih => have := sumStep_range h c; exact ih _ this.1 this.2
theorem sumAll_range (key : Int) (l : List UInt8) : 0 ≤ sumAll key l ∧ sumAll key l < 2147483647 := by unfold sumAll; omega
theorem sumBytes_snoc (h : Int) (l : List UInt8) (c : UInt8) : sumBytes h (l ++ [c]) = sumStep (sumBytes h l) c := by
  unfold sumBytes; rw [List.foldl_append]; rfl
theorem byte_lt (c : UInt8) : (c.toNat : Int) < 256 := by have := c.toNat_lt; omega

theorem sumStep_inj {h g : Int} (c : UInt8) (h0 : 0 ≤ h) (h1 : h < 2147483647) (g0 : 0 ≤ g) (g1 : g < 2147483647) (e : sumStep h c = sumStep g c) : h = g := by
  unfold sumStep at e
  omega
theorem sumStep_byte {h : Int} (c d : UInt8) (e : sumStep h c = sumStep h d) : c = d := by
  unfold sumStep at e
  have h1 := byte_lt c
  have h2 := byte_lt d
  have : c.toNat = d.toNat := by omega
  exact UInt8.toNat_inj.1 this
theorem sumBytes_inj {h g : Int} (l : List UInt8) (h0 : 0 ≤ h) (h1 : h < 2147483647) (g0 : 0 ≤ g) (g1 : g < 2147483647) (e : sumBytes h l = sumBytes g l) : h = g := by
  induction l generalizing h g with
  | nil => exact e
  | cons c t ih =>
    have a := sumStep_range h c
    have b := sumStep_range g c
    exact sumStep_inj c h0 h1 g0 g1 (ih a.1 a.2 b.1 b.2 e)
/-- Another byte at one place: another sum. -/
theorem sumAll_other (key : Int) (p q : List UInt8) (c d : UInt8) (h0 : 0 ≤ key) (h1 : key < 2147483647) (h : c ≠ d) : sumAll key (p ++ c :: q) ≠ sumAll key (p ++ d :: q) := by
  intro e
  have e1 : ∀ x : UInt8, sumBytes key (p ++ x :: q) = sumBytes (sumStep (sumBytes key p) x) q := fun x => by
    unfold sumBytes; rw [List.foldl_append]; rfl
  have r1 := sumBytes_range key p h0 h1
  have s1 := sumStep_range (sumBytes key p) c
  have s2 := sumStep_range (sumBytes key p) d
  have t1 := sumBytes_range _ q s1.1 s1.2
  have t2 := sumBytes_range _ q s2.1 s2.2
  unfold sumAll at e
  rw [e1, e1] at e
  have : sumBytes (sumStep (sumBytes key p) c) q = sumBytes (sumStep (sumBytes key p) d) q := by omega
  exact h (sumStep_byte c d (sumBytes_inj q s1.1 s1.2 s2.1 s2.2 this))
/-- A turned sum is another one. -/
theorem sum_turned (s m : Int) (h0 : 0 ≤ s) (h1 : s < 2147483647) (m0 : 0 ≤ m) (m1 : m < 2147483646) : (s + 1 + m) % 2147483647 ≠ s ∧ 0 ≤ (s + 1 + m) % 2147483647 ∧ (s + 1 + m) % 2147483647 < 2147483647 := by omega

end Go.Proofs.YtocdboopmfgkpaaDoor
