/- The reference's integers: what is right. Conditions: none. -/
import Derived.Test.YtfpobpjandjhjaaDoorCFX
namespace Go.Proofs.YtfpobpjandjhjaaDoor
open Go Pw
section
variable {w w' w0 : World}
def Sm (n : Int) : Prop := -1000000000 < n /\ n < 1000000000
instance (n : Int) : Decidable (Sm n) := inferInstanceAs (Decidable (_ /\ _))
end
end Go.Proofs.YtfpobpjandjhjaaDoor




