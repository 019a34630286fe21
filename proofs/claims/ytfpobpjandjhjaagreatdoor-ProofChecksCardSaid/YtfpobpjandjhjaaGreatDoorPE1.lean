/- The text of a result: plain. Conditions: none. -/
import Derived.Test.YtfpobpjandjhjaaGreatDoorCXV
namespace Go.Proofs.YtfpobpjandjhjaaGreatDoor
open Go Pw
def q4c (word:List UInt8)(parts:List (List UInt8)):List UInt8:=word++(parts.flatMap (fun s=>32 :: s)++[10])
def qe9:List UInt8:=[116,97,107,101]
def q61:List UInt8:=[112,111,105,110,116,115]
def qlx:List UInt8:=[110,111,100,101]
def qim (x:Nd):List UInt8:=Lib.itoa x.num++47 :: Lib.itoa x.den
def q62 (x:Nd):List UInt8:=q4c qlx (Lib.itoa x.lot :: qim x :: x.next.map Lib.itoa)
def encT (T:List Int)(pts bnd:Int)(N:List Nd):List UInt8 :=
 q4c qe9 (T.map Lib.itoa)++(q4c q61 [Lib.itoa pts,Lib.itoa bnd]++N.flatMap q62)
theorem q9h:encT [0] 3 3 [⟨0,1,2,[]⟩]=[116,97,107,101,32,48,10,112,111,105,110,116,115,32,51,32,51,10,110,111,100,101,32,48,32,49,47,50,10]:=by decide +kernel
end Go.Proofs.YtfpobpjandjhjaaGreatDoor
