/- The reference's bound of a prefix. Conditions: none. -/
import Derived.Test.YtfpobpjandjhjaaDoorCG5
import Derived.Test.YtfpobpjandjhjaaDoorCFX
import Derived.Test.YtfpobpjandjhjaaDoorRZX
import Derived.Test.YtfpobpjandjhjaaDoorCDY
namespace Go.Proofs.YtfpobpjandjhjaaDoor
open Go Pw
theorem mulQ_one {n d : Int} (h : rightP n d) (hn : I64 n) (hd : I64 d) : mulQ 1 1 n d = ⟨n, d, true⟩ := by
 unfold mulQ
 rw [if_pos ⟨rightP_int 1, h⟩, val_int, show ((1 : Int) : Rat) * val n d = val n d by grind]
 unfold fitQ
 have e1 := val_num h
 have e2 := val_den h
 unfold I64 at hn hd
 rw [if_pos (by omega), e1, e2]
def upR (p : Pr) (f : List Int) (a b : Int) : Int × Bool := match (if rightB p && decsB p p.lots f then upB p f a b else none) with
 | some n => (n, true)
 | none => (0, false)
end Go.Proofs.YtfpobpjandjhjaaDoor
