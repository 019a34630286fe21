/- Bytes: slices of them, strings, and the two ways between. Conditions: none. -/
import Derived.Test.YtmkjcheafdionaaGreatPwH
namespace Pw
open Go
def bl (s : ByteArray) : List UInt8 := s.data.toList
@[simp] theorem bl_ofL (l : List UInt8) : bl (ofL l) = l := by simp [bl, ofL]
@[simp] theorem ofL_bl (s : ByteArray) : ofL (bl s) = s := by simp [bl, ofL]
@[simp] theorem bl_append (s t : ByteArray) : bl (s ++ t) = bl s ++ bl t := by simp [bl]
end Pw
