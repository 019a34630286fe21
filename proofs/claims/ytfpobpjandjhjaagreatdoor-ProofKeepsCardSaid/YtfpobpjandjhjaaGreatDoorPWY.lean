/- Natural numbers as digits to the base 65536, the least significant one first: plain laws. Conditions: none. -/
import Derived.Test.YtfpobpjandjhjaaGreatDoorPWX
import Derived.Test.YtfpobpjandjhjaaGreatDoorPwS
import Derived.Test.YtfpobpjandjhjaaGreatDoorCG1
import Derived.Test.YtfpobpjandjhjaaGreatDoorRXZ
import Derived.Test.YtfpobpjandjhjaaGreatDoorRQ0
namespace Pw
open Go
def Tr (l:List Nat):Prop:=l.length=0\/l.getD (l.length-1) 0≠0
end Pw










