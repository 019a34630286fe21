/- Opening a law's arguments: arrays of ints, structs of two ints. Conditions: none. -/
import Derived.Test.YtmkjcheafdionaaGreatPwL
import Derived.ChangeSame
namespace Pw
open Go
theorem wf_u8 {a : Int} (h : (Lit.int .u8 a).wf = true) : 0 <= a /\ a < 256 := by
 simp [Lit.wf, IntKind.min, IntKind.max, IntKind.bits, IntKind.signed] at h
 omega
end Pw
