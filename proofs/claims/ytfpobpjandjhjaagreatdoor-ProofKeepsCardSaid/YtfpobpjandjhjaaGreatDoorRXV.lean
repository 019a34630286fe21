/- The reference's integers: what is right. Conditions: none. -/
import Derived.Test.YtfpobpjandjhjaaGreatDoorPWY
namespace Go.Proofs.YtfpobpjandjhjaaGreatDoor
open Go Pw
section
variable {w w' w0:World}
def Sm (n:Int):Prop:=-1000000000<n/\n<1000000000
instance (n:Int):Decidable (Sm n):=inferInstanceAs (Decidable (_/\_))
end
end Go.Proofs.YtfpobpjandjhjaaGreatDoor




