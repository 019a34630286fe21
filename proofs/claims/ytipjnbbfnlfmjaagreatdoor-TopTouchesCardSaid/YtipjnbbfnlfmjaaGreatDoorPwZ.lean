/- What the formulas ask of a value that is stored. Conditions: none. -/
import Derived.Test.YtipjnbbfnlfmjaaGreatDoorPwY
namespace Pw
open Go
def okk (v:Value)(X:Prop):Prop:=match okC v with
 | true=>X
 | false=>False
theorem qk2 {v:Value}{X:Prop}(h:okC v=true)(hX:X):okk v X:=by unfold okk; rw[h]; exact hX
