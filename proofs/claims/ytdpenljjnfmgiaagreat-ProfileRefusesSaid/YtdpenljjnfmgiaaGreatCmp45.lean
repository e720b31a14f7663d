/- slices.Compact of pairs: under way. Conditions: none. -/
import Derived.Test.YtdpenljjnfmgiaaGreatProg
import Derived.KernelRfl
import Derived.Test.YtdpenljjnfmgiaaGreatTsJ
namespace Tr
open Go Go.Proofs
abbrev cmE:Ty:= .arr 2 (.int .i64)
abbrev CmL:=List (El cmE)
end Tr
