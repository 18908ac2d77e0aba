/- Elements of a known number of cells. -/
import Derived.Test.YtcobccdeocihbaaSt
set_option linter.unusedVariables false
set_option linter.unusedSimpArgs false
namespace Go.Sx
open Go
/-- An element of k cells, as it lies in memory. -/
structure VK (k : Nat) where
  l : List Value
  h : l.length = k
def VK.f {k : Nat} (x : VK k) : List Value := x.l
theorem VK.len {k : Nat} (x : VK k) : (VK.f x).length = k := x.h
end Go.Sx
