/- path, plain: what Center hands back. -/
import Derived.Test.YtcopmgnfakjdhaaGreatDoorVTrigOs
import Derived.Test.YtcopmgnfakjdhaaGreatDoorVDecs
namespace Go.Proofs.YtcopmgnfakjdhaaGreatDoor
set_option linter.unusedSimpArgs false
set_option linter.unusedVariables false
def isqF : Nat → Nat → Nat → Nat
  | 0, _, r => r
  | k + 1, n, r => if (r + 2 ^ k) * (r + 2 ^ k) ≤ n then isqF k n (r + 2 ^ k) else isqF k n r
def isq (n : Int) : Int := ((isqF 30 n.toNat 0 : Nat) : Int)
def rootHi (n : Int) : Int := if isq n * isq n < n then isq n + 1 else isq n
def oxO (t : Int) : Int := if 1000000000 < elLo t + elHi t then 1000000000 else 0
def oxLo (t : Int) : Int := 377 * (elLo t - oxO t)
def oxHi (t : Int) : Int := 377 * (elHi t - oxO t)
def oyLo (t : Int) : Int := 377 * mbLo t
def oyHi (t : Int) : Int := 377 * mbHi t
def sqrLo (a b : Int) : Int := if a ≤ 0 ∧ 0 ≤ b then 0 else tmLo a b a b
def sqrHi (a b : Int) : Int := tmHi a b a b
def smLo (t : Int) : Int := sqrLo (oxLo t) (oxHi t) + sqrLo (oyLo t) (oyHi t)
def smHi (t : Int) : Int := sqrHi (oxLo t) (oxHi t) + sqrHi (oyLo t) (oyHi t)
def zzLo (t : Int) : Int := isq ((1000000000 - smHi t) * 1000000000)
def zzHi (t : Int) : Int := rootHi ((1000000000 - smLo t) * 1000000000)
def sS1 (t : Int) : Int := soLo (slLo t) (slHi t)
def sS2 (t : Int) : Int := soHi (slLo t) (slHi t)
def sC1 (t : Int) : Int := coLo (slLo t) (slHi t)
def sC2 (t : Int) : Int := coHi (slLo t) (slHi t)
def vvLo (t : Int) : Int := tmLo (zzLo t) (zzHi t) (sS1 t) (sS2 t) + tmLo (oxLo t) (oxHi t) (sC1 t) (sC2 t)
def vvHi (t : Int) : Int := tmHi (zzLo t) (zzHi t) (sS1 t) (sS2 t) + tmHi (oxLo t) (oxHi t) (sC1 t) (sC2 t)
def c1Lo (t : Int) : Int := tmLo (zzLo t) (zzHi t) (sC1 t) (sC2 t) - tmHi (oxLo t) (oxHi t) (sS1 t) (sS2 t)
def c1Hi (t : Int) : Int := tmHi (zzLo t) (zzHi t) (sC1 t) (sC2 t) - tmLo (oxLo t) (oxHi t) (sS1 t) (sS2 t)
def c2Lo (t : Int) : Int := tmLo (vvLo t) (vvHi t) (cLo 65109000) (cHi 65109000) - tmHi (oyLo t) (oyHi t) (sLo 65109000) (sHi 65109000)
def c2Hi (t : Int) : Int := tmHi (vvLo t) (vvHi t) (cLo 65109000) (cHi 65109000) - tmLo (oyLo t) (oyHi t) (sLo 65109000) (sHi 65109000)
def ceFar (t : Int) : Prop := 2000000000 < oxLo t ∨ oxHi t < -2000000000 ∨ 2000000000 < oyLo t ∨ oyHi t < -2000000000
instance (t : Int) : Decidable (ceFar t) := by unfold ceFar; exact inferInstance
def ceNo (t : Int) : Prop := c2Lo t ≤ 0 ∧ 0 ≤ c2Hi t ∧ c1Lo t ≤ 0 ∧ 0 ≤ c1Hi t
instance (t : Int) : Decidable (ceNo t) := by unfold ceNo; exact inferInstance
end Go.Proofs.YtcopmgnfakjdhaaGreatDoor
