/- Structs of many cells, as records. Printed by mkrec.py. Conditions: none. -/
import Derived.Test.YtipjnbbfnlfmjaaGreatDoorPwQ
import Derived.Test.YtipjnbbfnlfmjaaGreatDoorPwY
namespace Pw
open Go
structure T43 where
 f0:ByteArray
 f1:Sl
 f2:Sl
 f3:Sl
 f4:Int
 f5:Int
 f6:ByteArray
 f7:Int
 f8:Int
 f9:ByteArray
 f10:Sl
 f11:Sl
 f12:Int
 f13:Sl
 f14:Int
 f15:Int
 f16:Int
 f17:Int
 f18:Int
 f19:Int
def T43.cs (x:T43):List Value:=[(Value.string x.f0),(Value.slice x.f1.p x.f1.l x.f1.c),(Value.slice x.f2.p x.f2.l x.f2.c),(Value.slice x.f3.p x.f3.l x.f3.c),(Value.int .i64 x.f4),(Value.int .i64 x.f5),(Value.string x.f6),(Value.int .i64 x.f7),(Value.int .i64 x.f8),(Value.string x.f9),(Value.slice x.f10.p x.f10.l x.f10.c),(Value.slice x.f11.p x.f11.l x.f11.c),(Value.int .i64 x.f12),(Value.slice x.f13.p x.f13.l x.f13.c),(Value.int .i64 x.f14),(Value.int .i64 x.f15),(Value.int .i64 x.f16),(Value.int .i64 x.f17),(Value.int .i64 x.f18),(Value.int .i64 x.f19)]
def T43.ld (w:World)(a:Addr)(K:T43->Prop):Prop :=
 ∃ x0:ByteArray,w.cell? a=some (Value.string x0)/\∃ x1:Sl,w.cell? (a.add 1)=some (Value.slice x1.p x1.l x1.c)/\∃ x2:Sl,w.cell? (a.add 2)=some (Value.slice x2.p x2.l x2.c)/\∃ x3:Sl,w.cell? (a.add 3)=some (Value.slice x3.p x3.l x3.c)/\∃ x4:Int,w.cell? (a.add 4)=some (Value.int .i64 x4)/\∃ x5:Int,w.cell? (a.add 5)=some (Value.int .i64 x5)/\∃ x6:ByteArray,w.cell? (a.add 6)=some (Value.string x6)/\∃ x7:Int,w.cell? (a.add 7)=some (Value.int .i64 x7)/\∃ x8:Int,w.cell? (a.add 8)=some (Value.int .i64 x8)/\∃ x9:ByteArray,w.cell? (a.add 9)=some (Value.string x9)/\∃ x10:Sl,w.cell? (a.add 10)=some (Value.slice x10.p x10.l x10.c)/\∃ x11:Sl,w.cell? (a.add 11)=some (Value.slice x11.p x11.l x11.c)/\∃ x12:Int,w.cell? (a.add 12)=some (Value.int .i64 x12)/\∃ x13:Sl,w.cell? (a.add 13)=some (Value.slice x13.p x13.l x13.c)/\∃ x14:Int,w.cell? (a.add 14)=some (Value.int .i64 x14)/\∃ x15:Int,w.cell? (a.add 15)=some (Value.int .i64 x15)/\∃ x16:Int,w.cell? (a.add 16)=some (Value.int .i64 x16)/\∃ x17:Int,w.cell? (a.add 17)=some (Value.int .i64 x17)/\∃ x18:Int,w.cell? (a.add 18)=some (Value.int .i64 x18)/\∃ x19:Int,w.cell? (a.add 19)=some (Value.int .i64 x19)/\K ⟨x0,x1,x2,x3,x4,x5,x6,x7,x8,x9,x10,x11,x12,x13,x14,x15,x16,x17,x18,x19⟩
def T43.lds (S:World->Prop)(a:Addr)(K:T43->Prop):Prop :=
 ∃ x0:ByteArray,(∀ w':World,S w'->w'.cell? a=some (Value.string x0))/\∃ x1:Sl,(∀ w':World,S w'->w'.cell? (a.add 1)=some (Value.slice x1.p x1.l x1.c))/\∃ x2:Sl,(∀ w':World,S w'->w'.cell? (a.add 2)=some (Value.slice x2.p x2.l x2.c))/\∃ x3:Sl,(∀ w':World,S w'->w'.cell? (a.add 3)=some (Value.slice x3.p x3.l x3.c))/\∃ x4:Int,(∀ w':World,S w'->w'.cell? (a.add 4)=some (Value.int .i64 x4))/\∃ x5:Int,(∀ w':World,S w'->w'.cell? (a.add 5)=some (Value.int .i64 x5))/\∃ x6:ByteArray,(∀ w':World,S w'->w'.cell? (a.add 6)=some (Value.string x6))/\∃ x7:Int,(∀ w':World,S w'->w'.cell? (a.add 7)=some (Value.int .i64 x7))/\∃ x8:Int,(∀ w':World,S w'->w'.cell? (a.add 8)=some (Value.int .i64 x8))/\∃ x9:ByteArray,(∀ w':World,S w'->w'.cell? (a.add 9)=some (Value.string x9))/\∃ x10:Sl,(∀ w':World,S w'->w'.cell? (a.add 10)=some (Value.slice x10.p x10.l x10.c))/\∃ x11:Sl,(∀ w':World,S w'->w'.cell? (a.add 11)=some (Value.slice x11.p x11.l x11.c))/\∃ x12:Int,(∀ w':World,S w'->w'.cell? (a.add 12)=some (Value.int .i64 x12))/\∃ x13:Sl,(∀ w':World,S w'->w'.cell? (a.add 13)=some (Value.slice x13.p x13.l x13.c))/\∃ x14:Int,(∀ w':World,S w'->w'.cell? (a.add 14)=some (Value.int .i64 x14))/\∃ x15:Int,(∀ w':World,S w'->w'.cell? (a.add 15)=some (Value.int .i64 x15))/\∃ x16:Int,(∀ w':World,S w'->w'.cell? (a.add 16)=some (Value.int .i64 x16))/\∃ x17:Int,(∀ w':World,S w'->w'.cell? (a.add 17)=some (Value.int .i64 x17))/\∃ x18:Int,(∀ w':World,S w'->w'.cell? (a.add 18)=some (Value.int .i64 x18))/\∃ x19:Int,(∀ w':World,S w'->w'.cell? (a.add 19)=some (Value.int .i64 x19))/\K ⟨x0,x1,x2,x3,x4,x5,x6,x7,x8,x9,x10,x11,x12,x13,x14,x15,x16,x17,x18,x19⟩
def T43.un {β:Type}(k:ByteArray->Sl->Sl->Sl->Int->Int->ByteArray->Int->Int->ByteArray->Sl->Sl->Int->Sl->Int->Int->Int->Int->Int->Int->β)(x:T43):β:=k x.f0 x.f1 x.f2 x.f3 x.f4 x.f5 x.f6 x.f7 x.f8 x.f9 x.f10 x.f11 x.f12 x.f13 x.f14 x.f15 x.f16 x.f17 x.f18 x.f19
theorem T43.ld_row {w:World}{b:Nat}{x:T43}{K:T43->Prop}(h:Row w b x.cs)(hK:K x):T43.ld w ⟨b,0,none⟩ K :=
 ⟨_,h.at (i:=0) rfl,_,h.at (i:=1) rfl,_,h.at (i:=2) rfl,_,h.at (i:=3) rfl,_,h.at (i:=4) rfl,_,h.at (i:=5) rfl,_,h.at (i:=6) rfl,_,h.at (i:=7) rfl,_,h.at (i:=8) rfl,_,h.at (i:=9) rfl,_,h.at (i:=10) rfl,_,h.at (i:=11) rfl,_,h.at (i:=12) rfl,_,h.at (i:=13) rfl,_,h.at (i:=14) rfl,_,h.at (i:=15) rfl,_,h.at (i:=16) rfl,_,h.at (i:=17) rfl,_,h.at (i:=18) rfl,_,h.at (i:=19) rfl,hK⟩
theorem T43.ld_off {w:World}{b o:Nat}{x:T43}{K:T43->Prop}(h:∀ i v,x.cs[i]?=some v->w.cell? ⟨b,o+i,none⟩=some v)(hK:K x):T43.ld w ⟨b,o,none⟩ K :=
 ⟨_,h 0 _ rfl,_,h 1 _ rfl,_,h 2 _ rfl,_,h 3 _ rfl,_,h 4 _ rfl,_,h 5 _ rfl,_,h 6 _ rfl,_,h 7 _ rfl,_,h 8 _ rfl,_,h 9 _ rfl,_,h 10 _ rfl,_,h 11 _ rfl,_,h 12 _ rfl,_,h 13 _ rfl,_,h 14 _ rfl,_,h 15 _ rfl,_,h 16 _ rfl,_,h 17 _ rfl,_,h 18 _ rfl,_,h 19 _ rfl,hK⟩
theorem T43.lds_row {S:World->Prop}{b:Nat}{x:T43}{K:T43->Prop}(h:∀ w,S w->Row w b x.cs)(hK:K x):T43.lds S ⟨b,0,none⟩ K :=
 ⟨_,fun _ hw=>(h _ hw).at (i:=0) rfl,_,fun _ hw=>(h _ hw).at (i:=1) rfl,_,fun _ hw=>(h _ hw).at (i:=2) rfl,_,fun _ hw=>(h _ hw).at (i:=3) rfl,_,fun _ hw=>(h _ hw).at (i:=4) rfl,_,fun _ hw=>(h _ hw).at (i:=5) rfl,_,fun _ hw=>(h _ hw).at (i:=6) rfl,_,fun _ hw=>(h _ hw).at (i:=7) rfl,_,fun _ hw=>(h _ hw).at (i:=8) rfl,_,fun _ hw=>(h _ hw).at (i:=9) rfl,_,fun _ hw=>(h _ hw).at (i:=10) rfl,_,fun _ hw=>(h _ hw).at (i:=11) rfl,_,fun _ hw=>(h _ hw).at (i:=12) rfl,_,fun _ hw=>(h _ hw).at (i:=13) rfl,_,fun _ hw=>(h _ hw).at (i:=14) rfl,_,fun _ hw=>(h _ hw).at (i:=15) rfl,_,fun _ hw=>(h _ hw).at (i:=16) rfl,_,fun _ hw=>(h _ hw).at (i:=17) rfl,_,fun _ hw=>(h _ hw).at (i:=18) rfl,_,fun _ hw=>(h _ hw).at (i:=19) rfl,hK⟩
structure T29 where
 f0:Sl
 f1:Sl
 f2:Sl
 f3:Sl
 f4:Sl
 f5:Sl
 f6:Int
 f7:Int
 f8:Int
 f9:Int
 f10:Int
 f11:Int
 f12:Int
 f13:Int
 f14:Int
 f15:Int
def T29.cs (x:T29):List Value:=[(Value.slice x.f0.p x.f0.l x.f0.c),(Value.slice x.f1.p x.f1.l x.f1.c),(Value.slice x.f2.p x.f2.l x.f2.c),(Value.slice x.f3.p x.f3.l x.f3.c),(Value.slice x.f4.p x.f4.l x.f4.c),(Value.slice x.f5.p x.f5.l x.f5.c),(Value.int .i64 x.f6),(Value.int .i64 x.f7),(Value.int .i64 x.f8),(Value.int .i64 x.f9),(Value.int .i64 x.f10),(Value.int .i64 x.f11),(Value.int .i64 x.f12),(Value.int .i64 x.f13),(Value.int .i64 x.f14),(Value.int .i64 x.f15)]
def T29.lds (S:World->Prop)(a:Addr)(K:T29->Prop):Prop :=
 ∃ x0:Sl,(∀ w':World,S w'->w'.cell? a=some (Value.slice x0.p x0.l x0.c))/\∃ x1:Sl,(∀ w':World,S w'->w'.cell? (a.add 1)=some (Value.slice x1.p x1.l x1.c))/\∃ x2:Sl,(∀ w':World,S w'->w'.cell? (a.add 2)=some (Value.slice x2.p x2.l x2.c))/\∃ x3:Sl,(∀ w':World,S w'->w'.cell? (a.add 3)=some (Value.slice x3.p x3.l x3.c))/\∃ x4:Sl,(∀ w':World,S w'->w'.cell? (a.add 4)=some (Value.slice x4.p x4.l x4.c))/\∃ x5:Sl,(∀ w':World,S w'->w'.cell? (a.add 5)=some (Value.slice x5.p x5.l x5.c))/\∃ x6:Int,(∀ w':World,S w'->w'.cell? (a.add 6)=some (Value.int .i64 x6))/\∃ x7:Int,(∀ w':World,S w'->w'.cell? (a.add 7)=some (Value.int .i64 x7))/\∃ x8:Int,(∀ w':World,S w'->w'.cell? (a.add 8)=some (Value.int .i64 x8))/\∃ x9:Int,(∀ w':World,S w'->w'.cell? (a.add 9)=some (Value.int .i64 x9))/\∃ x10:Int,(∀ w':World,S w'->w'.cell? (a.add 10)=some (Value.int .i64 x10))/\∃ x11:Int,(∀ w':World,S w'->w'.cell? (a.add 11)=some (Value.int .i64 x11))/\∃ x12:Int,(∀ w':World,S w'->w'.cell? (a.add 12)=some (Value.int .i64 x12))/\∃ x13:Int,(∀ w':World,S w'->w'.cell? (a.add 13)=some (Value.int .i64 x13))/\∃ x14:Int,(∀ w':World,S w'->w'.cell? (a.add 14)=some (Value.int .i64 x14))/\∃ x15:Int,(∀ w':World,S w'->w'.cell? (a.add 15)=some (Value.int .i64 x15))/\K ⟨x0,x1,x2,x3,x4,x5,x6,x7,x8,x9,x10,x11,x12,x13,x14,x15⟩
theorem T29.lds_row {S:World->Prop}{b:Nat}{x:T29}{K:T29->Prop}(h:∀ w,S w->Row w b x.cs)(hK:K x):T29.lds S ⟨b,0,none⟩ K :=
 ⟨_,fun _ hw=>(h _ hw).at (i:=0) rfl,_,fun _ hw=>(h _ hw).at (i:=1) rfl,_,fun _ hw=>(h _ hw).at (i:=2) rfl,_,fun _ hw=>(h _ hw).at (i:=3) rfl,_,fun _ hw=>(h _ hw).at (i:=4) rfl,_,fun _ hw=>(h _ hw).at (i:=5) rfl,_,fun _ hw=>(h _ hw).at (i:=6) rfl,_,fun _ hw=>(h _ hw).at (i:=7) rfl,_,fun _ hw=>(h _ hw).at (i:=8) rfl,_,fun _ hw=>(h _ hw).at (i:=9) rfl,_,fun _ hw=>(h _ hw).at (i:=10) rfl,_,fun _ hw=>(h _ hw).at (i:=11) rfl,_,fun _ hw=>(h _ hw).at (i:=12) rfl,_,fun _ hw=>(h _ hw).at (i:=13) rfl,_,fun _ hw=>(h _ hw).at (i:=14) rfl,_,fun _ hw=>(h _ hw).at (i:=15) rfl,hK⟩
