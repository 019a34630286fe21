/- combine: the bound of a prefix for a multiplier. Conditions: none. -/
import Derived.Test.YtfpobpjandjhjaaGreatDoorCBY
import Derived.Test.YtfpobpjandjhjaaGreatDoorCG2
namespace Go.Proofs.YtfpobpjandjhjaaGreatDoor
open Go Pw
def rrC (n d : Int) : List Value := [.int .i64 n, .int .i64 d]
end Go.Proofs.YtfpobpjandjhjaaGreatDoor
namespace Go.Proofs.YtfpobpjandjhjaaGreatDoor
open Go Pw
def encR (x : Int × Int) : List Value := [.int .i64 x.1, .int .i64 x.2]
@[simp] theorem encR_length (x : Int × Int) : (encR x).length = 2 := rfl
end Go.Proofs.YtfpobpjandjhjaaGreatDoor

namespace Go.Proofs.YtfpobpjandjhjaaGreatDoor
open Go Pw
def betterR (p : Pr) (a b : List Int) : Bool := rightB p && (permB p a && (!permB p b || btB p a b))
end Go.Proofs.YtfpobpjandjhjaaGreatDoor
