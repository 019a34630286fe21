/- combine: the bound of a prefix for a multiplier. Conditions: none. -/
import Derived.Test.YtfpobpjandjhjaaDoorCBY
import Derived.Test.YtfpobpjandjhjaaDoorCEX
namespace Go.Proofs.YtfpobpjandjhjaaDoor
open Go Pw
def rrC (n d : Int) : List Value := [.int .i64 n, .int .i64 d]
end Go.Proofs.YtfpobpjandjhjaaDoor
namespace Go.Proofs.YtfpobpjandjhjaaDoor
open Go Pw
def encR (x : Int × Int) : List Value := [.int .i64 x.1, .int .i64 x.2]
@[simp] theorem encR_length (x : Int × Int) : (encR x).length = 2 := rfl
end Go.Proofs.YtfpobpjandjhjaaDoor

namespace Pw
def pointsR (p : Pr) (ri fi : Bool) (f : List Int) : Int := if ri && fi then ptsOf p f else 0
end Pw
namespace Go.Proofs.YtfpobpjandjhjaaDoor
open Go Pw
def betterR (p : Pr) (a b : List Int) : Bool := rightB p && (permB p a && (!permB p b || btB p a b))
end Go.Proofs.YtfpobpjandjhjaaDoor
