/- trig.inRange, trig.Sin, trig.Cos. -/
import Derived.Test.YtlldmhnkaopjhaaDoorTrigW
namespace Go.Proofs.YtlldmhnkaopjhaaDoor
open Go.RowKit
set_option linter.unusedSimpArgs false
set_option linter.unusedVariables false
/-- The interval of a cosine. -/
def cLo (a : Int) : Int := sLo (a % 1000000000 + 250000000)
def cHi (a : Int) : Int := sHi (a % 1000000000 + 250000000)
end Go.Proofs.YtlldmhnkaopjhaaDoor
