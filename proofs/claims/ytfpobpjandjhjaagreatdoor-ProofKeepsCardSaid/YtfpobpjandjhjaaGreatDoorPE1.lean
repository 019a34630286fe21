/- The text of a result: plain. Conditions: none. -/
import Derived.Test.YtfpobpjandjhjaaGreatDoorCXV
import Derived.Test.YtfpobpjandjhjaaGreatDoorPwU
namespace Go.Proofs.YtfpobpjandjhjaaGreatDoor
open Go Pw
def lineT (word:List UInt8)(parts:List (List UInt8)):List UInt8:=word++(parts.flatMap (fun s=>32 :: s)++[10])
def takeW:List UInt8:=[116,97,107,101]
def pointsW:List UInt8:=[112,111,105,110,116,115]
def nodeW:List UInt8:=[110,111,100,101]
def dualT (x:Nd):List UInt8:=Lib.itoa x.num++47 :: Lib.itoa x.den
def nodeT (x:Nd):List UInt8:=lineT nodeW (Lib.itoa x.lot :: dualT x :: x.next.map Lib.itoa)
def encT (T:List Int)(pts bnd:Int)(N:List Nd):List UInt8 :=
 lineT takeW (T.map Lib.itoa)++(lineT pointsW [Lib.itoa pts,Lib.itoa bnd]++N.flatMap nodeT)
theorem enc_example:encT [0] 3 3 [⟨0,1,2,[]⟩]=[116,97,107,101,32,48,10,112,111,105,110,116,115,32,51,32,51,10,110,111,100,101,32,48,32,49,47,50,10]:=by decide +kernel
end Go.Proofs.YtfpobpjandjhjaaGreatDoor
