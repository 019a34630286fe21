/- The bodies' formulas, by program. -/
import Derived.Test.YtfpobpjandjhjaaGreatDoorProg
import Derived.KernelRfl
import Derived.Test.YtfpobpjandjhjaaGreatDoorPwY
import Derived.Test.YtfpobpjandjhjaaGreatDoorCG0
import Derived.Test.YtfpobpjandjhjaaGreatDoorCG1
import Derived.Test.YtfpobpjandjhjaaGreatDoorCG2
import Derived.Test.YtfpobpjandjhjaaGreatDoorCG3
set_option maxRecDepth 20000
namespace Go.Proofs.YtfpobpjandjhjaaGreatDoor
open Go Pw
noncomputable def z15_C:Code:=(Tryz.f110.body).getD .skip
noncomputable def z15_rc1:Code:=rfAt z15_C 0
noncomputable def z15_as1:Code:=rfAs z15_rc1
noncomputable def z15_bd1:Code:=rfBd z15_rc1
def z15_ps1:Array Tmp:=#[108,109]
def z15_k0d (t_4 t_5:Addr)(n_6:Int)(K:Pw.T3)(w:World):Prop :=
 wrOk w t_4/\
 (let w105:=w.setCell t_4 (Value.int .i64 n_6)
 wrOk w105 t_5/\
 (let w106:=w105.setCell t_5 (Value.bool true)
 ∃ x107:Int,w106.cell? t_4=some (Value.int .i64 x107)/\∃ x108:Bool,w106.cell? t_5=some (Value.bool x108)/\K x107 x108 w106))
structure z15_k0 (t_4 t_5:Addr)(n_6:Int)(K:Pw.T3)(w:World):Prop where
 out:z15_k0d t_4 t_5 n_6 K w
def z15_f1d (t_1 t_2:Addr)(take_3 t_4 t_5:Addr)(n_6:Int)(options_10 next_11:Addr)(t_107:Value)(K:Pw.T3)(w:World):Prop :=
 rfF Tryz.prog 139 [(1,(Value.pointer (some t_1))),(2,(Value.pointer (some t_2))),(3,(Value.pointer (some take_3))),(4,(Value.pointer (some t_4))),(5,(Value.pointer (some t_5))),(6,(Value.int .i64 n_6)),(10,(Value.pointer (some options_10))),(11,(Value.pointer (some next_11))),(107,t_107)] t_107 z15_ps1 z15_as1 z15_bd1 w (fun w'=>let w156:=w'.drew
 ∃ S157:World->Prop,S157 w156/\∃ x158:Option Addr,(∀ w':World,S157 w'->w'.cell? t_1=some (Value.pointer x158))/\nz x158 fun a159=>∃ x160:Sl,(∀ w':World,S157 w'->w'.cell? (a159.add 3)=some (Value.slice x160.p x160.l x160.c))/\∃ x161:Sl,(∀ w':World,S157 w'->w'.cell? next_11=some (Value.slice x161.p x161.l x161.c))/\nz x160.p fun a162=>(0<=n_6/\n_6<(x160.l:Nat))/\wrOk w156 ((a162.add (n_6.toNat*4)).add 3)/\
 (let w163:=w156.setCell ((a162.add (n_6.toNat*4)).add 3) (Value.slice x161.p x161.l x161.c)
 wrOk w163 t_4/\
 (let w164:=w163.setCell t_4 (Value.int .i64 n_6)
 wrOk w164 t_5/\
 (let w165:=w164.setCell t_5 (Value.bool true)
 w165.heap[w.heap.size]?=some (Obj.deferred (some []))/\(let w166:=w165.putObj w.heap.size (Obj.deferred none)
 ∃ x167:Int,w166.cell? t_4=some (Value.int .i64 x167)/\∃ x168:Bool,w166.cell? t_5=some (Value.bool x168)/\K x167 x168 w166))))) (fun w'=>w'.heap[w.heap.size]?=some (Obj.deferred (some []))/\(let w123:=w'.putObj w.heap.size (Obj.deferred none)
 ∃ x124:Int,w123.cell? t_4=some (Value.int .i64 x124)/\∃ x125:Bool,w123.cell? t_5=some (Value.bool x125)/\K x124 x125 w123))
structure z15_f1 (t_1 t_2:Addr)(take_3 t_4 t_5:Addr)(n_6:Int)(options_10 next_11:Addr)(t_107:Value)(K:Pw.T3)(w:World):Prop where
 out:z15_f1d t_1 t_2 take_3 t_4 t_5 n_6 options_10 next_11 t_107 K w
def z15_k2d (t_4 t_5 next_11:Addr)(i_12 k_13:Int)(ok_14:Bool)(Nn1:World->Prop)(Nr1:World->Prop)(K:Pw.T3)(w:World):Prop :=
 cnd (!ok_14)
 (wrOk w t_4/\
 (let w151:=w.setCell t_4 (Value.int .i64 0)
 wrOk w151 t_5/\
 (let w152:=w151.setCell t_5 (Value.bool false)
 Nr1 w152)))
 (∃ x153:Sl,w.cell? next_11=some (Value.slice x153.p x153.l x153.c)/\nz x153.p fun a154=>(0<=i_12/\i_12<(x153.l:Nat))/\wrOk w (a154.add (i_12.toNat*1))/\
 (let w155:=w.setCell (a154.add (i_12.toNat*1)) (Value.int .i64 k_13)
 Nn1 w155))
structure z15_k2 (t_4 t_5 next_11:Addr)(i_12 k_13:Int)(ok_14:Bool)(Nn1:World->Prop)(Nr1:World->Prop)(K:Pw.T3)(w:World):Prop where
 out:z15_k2d t_4 t_5 next_11 i_12 k_13 ok_14 Nn1 Nr1 K w
def z15_r1d (t_1 t_2:Addr)(take_3 t_4 t_5:Addr)(n_6:Int)(options_10 next_11:Addr)(t_107:Value)(t_108:Int)(t_109:Value)(M:World->(World->Prop)->Prop)(Nn1 Nr1:World->Prop)(K:Pw.T3)(w:World):Prop :=
 M w (fun w0=>let w126:=w0.drew
 ∃ S127:World->Prop,S127 w126/\∃ x128:Value,(∀ w':World,S127 w'->w'.cell? t_2=some x128)/\∃ x129:Sl,(∀ w':World,S127 w'->w'.cell? take_3=some (Value.slice x129.p x129.l x129.c))/\∃ x130:Sl,(∀ w':World,S127 w'->w'.cell? options_10=some (Value.slice x130.p x130.l x130.c))/\nz x130.p fun a131=>(0<=t_108/\t_108<(x130.l:Nat))/\∃ x132:Int,(∀ w':World,S127 w'->w'.cell? (a131.add (t_108.toNat*1))=some (Value.int .i64 x132))/\(z45_sh x129 (fun r134 w133=>S127 w133/\let w135:=w133.alloc (Obj.cells #[(Value.int .i64 x132)] 3)
 S127 w135/\apS 1 8 [(Value.int .i64 0)] 3 r134 (Sl.mk (some (Addr.mk w133.heap.size 0 none)) 1 1) w135 fun s136 w137=>S127 w137/\CallV Tryz.prog x128 [(Value.slice s136.p s136.l s136.c)] w137 fun u138 w139=>∃ x140:Int,∃ x141:Bool,u138=(Value.tuple #[(Value.int .i64 x140),(Value.bool x141)])/\S127 w139/\z15_k2 t_4 t_5 next_11 t_108 x140 x141 Nn1 Nr1 K w139) w126)
/\(let w142:=w126.alloc (Obj.cells #[(Value.int .i64 x132)] 3)
 S127 w142/\z45_sh x129 (fun r144 w143=>S127 w143/\apS 1 8 [(Value.int .i64 0)] 3 r144 (Sl.mk (some (Addr.mk w126.heap.size 0 none)) 1 1) w143 fun s145 w146=>S127 w146/\CallV Tryz.prog x128 [(Value.slice s145.p s145.l s145.c)] w146 fun u147 w148=>∃ x149:Int,∃ x150:Bool,u147=(Value.tuple #[(Value.int .i64 x149),(Value.bool x150)])/\S127 w148/\z15_k2 t_4 t_5 next_11 t_108 x149 x150 Nn1 Nr1 K w148) w142))
structure z15_r1 (t_1 t_2:Addr)(take_3 t_4 t_5:Addr)(n_6:Int)(options_10 next_11:Addr)(t_107:Value)(t_108:Int)(t_109:Value)(M:World->(World->Prop)->Prop)(Nn1 Nr1:World->Prop)(K:Pw.T3)(w:World):Prop where
 out:z15_r1d t_1 t_2 take_3 t_4 t_5 n_6 options_10 next_11 t_107 t_108 t_109 M Nn1 Nr1 K w
def z15_sd (take_0:Sl)(t_1 t_2:Addr)(K:Pw.T3)(w:World):Prop :=
 let w1:=w.alloc (Obj.cells #[(Value.slice take_0.p take_0.l take_0.c)] 22)
 let w2:=w1.alloc (Obj.cells #[(Value.int .i64 0)] 3)
 let w3:=w2.alloc (Obj.cells #[(Value.bool false)] 4)
 ∃ x4:Option Addr,w3.cell? t_1=some (Value.pointer x4)/\nz x4 fun a5=>∃ x6:Int,w3.cell? (a5.add 9)=some (Value.int .i64 x6)/\inR .i64 (x6-(1:Int))/\nz x4 fun a7=>wrOk w3 (a7.add 9)/\
 (let w8:=w3.setCell (a7.add 9) (Value.int .i64 (x6-(1:Int)))
 ∃ x9:Option Addr,w8.cell? t_1=some (Value.pointer x9)/\nz x9 fun a10=>∃ x11:Int,w8.cell? (a10.add 9)=some (Value.int .i64 x11)/\cnd (decide (x11<(0:Int)))
 (wrOk w8 (Addr.mk w1.heap.size 0 none)/\
 (let w12:=w8.setCell (Addr.mk w1.heap.size 0 none) (Value.int .i64 0)
 wrOk w12 (Addr.mk w2.heap.size 0 none)/\
 (let w13:=w12.setCell (Addr.mk w2.heap.size 0 none) (Value.bool false)
 ∃ x14:Int,w13.cell? (Addr.mk w1.heap.size 0 none)=some (Value.int .i64 x14)/\∃ x15:Bool,w13.cell? (Addr.mk w2.heap.size 0 none)=some (Value.bool x15)/\K x14 x15 w13)))
 (∃ x16:Option Addr,w8.cell? t_1=some (Value.pointer x16)/\nz x16 fun a17=>∃ x18:Sl,w8.cell? (a17.add 3)=some (Value.slice x18.p x18.l x18.c)/\let w19:=w8.drew
 ∃ S20:World->Prop,S20 w19/\∃ x21:Option Addr,(∀ w':World,S20 w'->w'.cell? t_1=some (Value.pointer x21))/\∃ x22:Option Addr,(∀ w':World,S20 w'->w'.cell? t_1=some (Value.pointer x22))/\nz x22 fun a23=>∃ x24:Sl,(∀ w':World,S20 w'->w'.cell? (a23.add 3)=some (Value.slice x24.p x24.l x24.c))/\∃ x25:Sl,(∀ w':World,S20 w'->w'.cell? (Addr.mk w.heap.size 0 none)=some (Value.slice x25.p x25.l x25.c))/\z55_sh (0:Int) (fun r27_0 r27_1 w26=>S20 w26/\let w28:=w26.alloc (Obj.cells #[(Value.int .i64 (x25.l:Int)),(Value.int .i64 r27_0),(Value.int .i64 r27_1),(Value.slice none 0 0)] 55)
 S20 w28/\apS 4 48 [(Value.int .i64 0),(Value.int .i64 0),(Value.int .i64 0),(Value.slice none 0 0)] 55 x24 (Sl.mk (some (Addr.mk w26.heap.size 0 none)) 1 1) w28 fun s29 w30=>S20 w30/\nz x21 fun a31=>wrOk w30 (a31.add 3)/\
 (let w32:=w30.setCell (a31.add 3) (Value.slice s29.p s29.l s29.c)
 let w33:=w32.drew
 ∃ S34:World->Prop,S34 w33/\∃ x35:Option Addr,(∀ w':World,S34 w'->w'.cell? t_1=some (Value.pointer x35))/\nz x35 fun a36=>∃ x37:Sl,(∀ w':World,S34 w'->w'.cell? (a36.add 4)=some (Value.slice x37.p x37.l x37.c))/\∃ x38:Sl,(∀ w':World,S34 w'->w'.cell? (a36.add 5)=some (Value.slice x38.p x38.l x38.c))/\∃ x39:Sl,(∀ w':World,S34 w'->w'.cell? (a36.add 6)=some (Value.slice x39.p x39.l x39.c))/\∃ x40:Int,(∀ w':World,S34 w'->w'.cell? (a36.add 7)=some (Value.int .i64 x40))/\∃ x41:Int,(∀ w':World,S34 w'->w'.cell? (a36.add 8)=some (Value.int .i64 x41))/\∃ x42:Sl,(∀ w':World,S34 w'->w'.cell? (Addr.mk w.heap.size 0 none)=some (Value.slice x42.p x42.l x42.c))/\let w43:=w33.alloc (Obj.cells #[(Value.slice none 0 0),(Value.slice none 0 0),(Value.slice none 0 0),(Value.int .i64 0),(Value.int .i64 0),(Value.slice none 0 0)] 99)
 S34 w43/\stN w43 (Addr.mk w33.heap.size 0 none) [(Value.slice x37.p x37.l x37.c),(Value.slice x38.p x38.l x38.c),(Value.slice x39.p x39.l x39.c),(Value.int .i64 x40),(Value.int .i64 x41),(Value.slice x42.p x42.l x42.c)] fun w44=>∃ x45:Option Addr,w44.cell? t_1=some (Value.pointer x45)/\∃ x46:Sl,w44.cell? (Addr.mk w33.heap.size 0 none)=some (Value.slice x46.p x46.l x46.c)/\∃ x47:Sl,w44.cell? (Addr.mk w33.heap.size 1 none)=some (Value.slice x47.p x47.l x47.c)/\∃ x48:Sl,w44.cell? (Addr.mk w33.heap.size 2 none)=some (Value.slice x48.p x48.l x48.c)/\∃ x49:Int,w44.cell? (Addr.mk w33.heap.size 3 none)=some (Value.int .i64 x49)/\∃ x50:Int,w44.cell? (Addr.mk w33.heap.size 4 none)=some (Value.int .i64 x50)/\∃ x51:Sl,w44.cell? (Addr.mk w33.heap.size 5 none)=some (Value.slice x51.p x51.l x51.c)/\z0f_sh x45 x46 x47 x48 x49 x50 x51 (fun r53_0 r53_1 r54 w52=>let w55:=w52.alloc (Obj.cells #[(Value.int .i64 0),(Value.int .i64 0)] 31)
 wrOk w55 (Addr.mk w52.heap.size 0 none)/\
 (let w56:=w55.setCell (Addr.mk w52.heap.size 0 none) (Value.int .i64 r53_0)
 wrOk w56 (Addr.mk w52.heap.size 1 none)/\
 (let w57:=w56.setCell (Addr.mk w52.heap.size 1 none) (Value.int .i64 r53_1)
 cnd r54
 (let w58:=w57.drew
 ∃ S59:World->Prop,S59 w58/\∃ x60:Option Addr,(∀ w':World,S59 w'->w'.cell? t_1=some (Value.pointer x60))/\nz x60 fun a61=>∃ x62:Sl,(∀ w':World,S59 w'->w'.cell? (a61.add 3)=some (Value.slice x62.p x62.l x62.c))/\∃ x63:Int,(∀ w':World,S59 w'->w'.cell? (Addr.mk w52.heap.size 0 none)=some (Value.int .i64 x63))/\∃ x64:Int,(∀ w':World,S59 w'->w'.cell? (Addr.mk w52.heap.size 1 none)=some (Value.int .i64 x64))/\nz x62.p fun a65=>(0<=(x18.l:Int)/\(x18.l:Int)<(x62.l:Nat))/\wrOk w58 ((a65.add ((x18.l:Int).toNat*4)).add 1)/\
 (let w66:=w58.setCell ((a65.add ((x18.l:Int).toNat*4)).add 1) (Value.int .i64 x63)
 wrOk w66 ((a65.add ((x18.l:Int).toNat*4)).add 2)/\
 (let w67:=w66.setCell ((a65.add ((x18.l:Int).toNat*4)).add 2) (Value.int .i64 x64)
 wrOk w67 (Addr.mk w1.heap.size 0 none)/\
 (let w68:=w67.setCell (Addr.mk w1.heap.size 0 none) (Value.int .i64 (x18.l:Int))
 wrOk w68 (Addr.mk w2.heap.size 0 none)/\
 (let w69:=w68.setCell (Addr.mk w2.heap.size 0 none) (Value.bool true)
 ∃ x70:Int,w69.cell? (Addr.mk w1.heap.size 0 none)=some (Value.int .i64 x70)/\∃ x71:Bool,w69.cell? (Addr.mk w2.heap.size 0 none)=some (Value.bool x71)/\K x70 x71 w69)))))
 (let w72:=w57.drew
 ∃ x73:Sl,w72.cell? (Addr.mk w.heap.size 0 none)=some (Value.slice x73.p x73.l x73.c)/\∃ x74:Option Addr,w72.cell? t_1=some (Value.pointer x74)/\nz x74 fun a75=>∃ x76:Sl,w72.cell? (a75.add 4)=some (Value.slice x76.p x76.l x76.c)/\cnd ((x73.l:Int) == (x76.l:Int))
 (let w77:=w72.drew
 ∃ S78:World->Prop,S78 w77/\∃ x79:Sl,(∀ w':World,S78 w'->w'.cell? (Addr.mk w33.heap.size 0 none)=some (Value.slice x79.p x79.l x79.c))/\∃ x80:Sl,(∀ w':World,S78 w'->w'.cell? (Addr.mk w33.heap.size 1 none)=some (Value.slice x80.p x80.l x80.c))/\∃ x81:Sl,(∀ w':World,S78 w'->w'.cell? (Addr.mk w33.heap.size 2 none)=some (Value.slice x81.p x81.l x81.c))/\∃ x82:Int,(∀ w':World,S78 w'->w'.cell? (Addr.mk w33.heap.size 3 none)=some (Value.int .i64 x82))/\∃ x83:Int,(∀ w':World,S78 w'->w'.cell? (Addr.mk w33.heap.size 4 none)=some (Value.int .i64 x83))/\∃ x84:Sl,(∀ w':World,S78 w'->w'.cell? (Addr.mk w33.heap.size 5 none)=some (Value.slice x84.p x84.l x84.c))/\∃ x85:Option Addr,(∀ w':World,S78 w'->w'.cell? t_1=some (Value.pointer x85))/\nz x85 fun a86=>∃ x87:Sl,(∀ w':World,S78 w'->w'.cell? (a86.add 4)=some (Value.slice x87.p x87.l x87.c))/\∃ x88:Sl,(∀ w':World,S78 w'->w'.cell? (a86.add 5)=some (Value.slice x88.p x88.l x88.c))/\∃ x89:Sl,(∀ w':World,S78 w'->w'.cell? (a86.add 6)=some (Value.slice x89.p x89.l x89.c))/\∃ x90:Int,(∀ w':World,S78 w'->w'.cell? (a86.add 7)=some (Value.int .i64 x90))/\∃ x91:Int,(∀ w':World,S78 w'->w'.cell? (a86.add 8)=some (Value.int .i64 x91))/\∃ x92:Option Addr,(∀ w':World,S78 w'->w'.cell? t_1=some (Value.pointer x92))/\nz x92 fun a93=>∃ x94:Sl,(∀ w':World,S78 w'->w'.cell? a93=some (Value.slice x94.p x94.l x94.c))/\z3g_sh x79 x80 x81 x82 x83 x84 x87 x88 x89 x90 x91 x94 (fun r96 w95=>S78 w95/\cnd r96
 (let w97:=w95.drew
 ∃ S98:World->Prop,S98 w97/\∃ x99:Option Addr,(∀ w':World,S98 w'->w'.cell? t_1=some (Value.pointer x99))/\∃ x100:Sl,(∀ w':World,S98 w'->w'.cell? (Addr.mk w.heap.size 0 none)=some (Value.slice x100.p x100.l x100.c))/\z45_sh x100 (fun r102 w101=>S98 w101/\nz x99 fun a103=>wrOk w101 a103/\
 (let w104:=w101.setCell a103 (Value.slice r102.p r102.l r102.c)
 z15_k0 (Addr.mk w1.heap.size 0 none) (Addr.mk w2.heap.size 0 none) (x18.l:Int) K w104)) w97)
 (z15_k0 (Addr.mk w1.heap.size 0 none) (Addr.mk w2.heap.size 0 none) (x18.l:Int) K w95)) w77)
 (∃ x109:Option Addr,w72.cell? t_1=some (Value.pointer x109)/\∃ x110:Sl,w72.cell? (Addr.mk w.heap.size 0 none)=some (Value.slice x110.p x110.l x110.c)/\z0l_sh x109 (x110.l:Int) (fun r112 w111=>let w113:=w111.alloc (Obj.cells #[(Value.slice none 0 0)] 22)
 wrOk w113 (Addr.mk w111.heap.size 0 none)/\
 (let w114:=w113.setCell (Addr.mk w111.heap.size 0 none) (Value.slice r112.p r112.l r112.c)
 ∃ x115:Sl,w114.cell? (Addr.mk w111.heap.size 0 none)=some (Value.slice x115.p x115.l x115.c)/\mkS 8 [(Value.int .i64 0)] 3 (x115.l:Int) (x115.l:Int) w114 fun s116 w117=>let w118:=w117.alloc (Obj.cells #[(Value.slice none 0 0)] 22)
 wrOk w118 (Addr.mk w117.heap.size 0 none)/\
 (let w119:=w118.setCell (Addr.mk w117.heap.size 0 none) (Value.slice s116.p s116.l s116.c)
 ∃ x120:Sl,w119.cell? (Addr.mk w111.heap.size 0 none)=some (Value.slice x120.p x120.l x120.c)/\z3e_sh x120 (fun r122 w121=>z15_f1 t_1 t_2 (Addr.mk w.heap.size 0 none) (Addr.mk w1.heap.size 0 none) (Addr.mk w2.heap.size 0 none) (x18.l:Int) (Addr.mk w111.heap.size 0 none) (Addr.mk w117.heap.size 0 none) r122 K w121) w119))) w72))))) w44)) w19))
structure z15_sh (take_0:Sl)(t_1 t_2:Addr)(K:Pw.T3)(w:World):Prop where
 out:z15_sd take_0 t_1 t_2 K w
def z15_P0 (Kv:VW)(ρ:Rho)(vs:List Value)(w:World):Prop :=
 match ρ,vs with
 | _,[.pointer (some t_4),.pointer (some t_5),.int .i64 n_6]=>z15_k0 t_4 t_5 n_6 (fun r0 r1 w'=>Kv (Value.tuple #[(Value.int .i64 r0),(Value.bool r1)]) w') w
 | _,_=>False
def z15_P1 (Kv:VW)(ρ:Rho)(vs:List Value)(w:World):Prop :=
 match ρ,vs with
 | _,[.pointer (some t_1),.pointer (some t_2),.pointer (some take_3),.pointer (some t_4),.pointer (some t_5),.int .i64 n_6,.pointer (some options_10),.pointer (some next_11),t_107]=>z15_f1 t_1 t_2 take_3 t_4 t_5 n_6 options_10 next_11 t_107 (fun r0 r1 w'=>Kv (Value.tuple #[(Value.int .i64 r0),(Value.bool r1)]) w') w
 | _,_=>False
def z15_P2 (Kv:VW)(ρ:Rho)(vs:List Value)(w:World):Prop :=
 match ρ,vs with
 | Nn1 :: Nr1 :: _,[.pointer (some t_4),.pointer (some t_5),.pointer (some next_11),.int .i64 i_12,.int .i64 k_13,.bool ok_14]=>z15_k2 t_4 t_5 next_11 i_12 k_13 ok_14 (fun w'=>Nn1 [] w') (fun w'=>Nr1 [] w') (fun r0 r1 w'=>Kv (Value.tuple #[(Value.int .i64 r0),(Value.bool r1)]) w') w
 | _,_=>False
noncomputable def z15_S:Pw.Spec:=fun vs w Kv =>
 match vs with
 | [.slice take_0p take_0l take_0c,.pointer (some t_1),.pointer (some t_2)]=>z15_sh ⟨take_0p,take_0l,take_0c⟩ t_1 t_2 (fun r0 r1 w'=>Kv (Value.tuple #[(Value.int .i64 r0),(Value.bool r1)]) w') w
 | _=>False
noncomputable def z15_E:Pw.Env:=[(55,z0l_S),(75,z55_S),(111,z0f_S),(112,z3g_S),(113,z45_S),(114,z3e_S)]
noncomputable def z15_A (Kv:VW):Pw.A :=
 (qr 3 (qs (qr 8 (qr 5 (qc (qr 2 ql) ql))) (qr 7 (qs (A.drw (dp [0,1,2,3,4,5,6,7] (DA.eff 8 (DA.pur 9 (DA.eff 10 (DA.eff 11 (dp [12,13,14] (DA.eff 15 DA.done)))))))) (qs (A.drw (dp [0,1,2,3,4,5] (DA.eff 6 (DA.eff 7 DA.done)))) (qs (qr 9 (qr 1 (qc (qs (A.drw (dp [0,1,2,3,4,5,6,7,8] (DA.eff 9 DA.done))) (qr 3 ql)) ql))) (qs (qs (A.drp (dp [0,1,2,3,4,5,6,7,8] DA.done)) (qc (qs (qs (A.drw (dp [0,1,2,3,4,5,6,7,8,9,10] (DA.eff 11 DA.done))) (qc (A.drw (dp [0,1] (DA.eff 2 (dp [3,4,5] (DA.eff 6 DA.done))))) ql)) (A.cut [4,5,6] (z15_P0 Kv) (qr 3 ql))) ql)) (qr 6 (qr 5 (qs (qr 2 (qb (A.rf [1,2,3,4,5,6,10,11,107] (z15_P1 Kv) (qb (qs (A.drw (dp [0,1,3,4,5,6] (DA.two 2 (DA.eff 7 (DA.eff 8 (DA.dyn 9 (Value.tuple #[(Value.int .i64 0),(Value.bool false)]) (dp [10,11,12,13,14] DA.done)))) 7 (DA.eff 2 (DA.eff 8 (DA.dyn 9 (Value.tuple #[(Value.int .i64 0),(Value.bool false)]) (dp [10,11,12,13,14] DA.done))))))) (A.cut [4,5,11,12,13,14] (z15_P2 Kv) (qs (qr 2 (qc (qr 2 ql) ql)) (qe 5)))))))) (qs (A.drw (dp [0,1,2,3,4,5,6,7,8] (DA.eff 9 DA.done))) (qr 3 ql))))))))))))
noncomputable def z15_O (Kv:VW):List Ob:=(obs Tryz.prog z15_E 139 (z15_A Kv) z15_C (fun _=>retQ Tryz.prog Tryz.f110.results Kv))
theorem z15_e (Kv:VW)(take_0p:Option Addr)(take_0l take_0c:Nat)(t_1 t_2:Addr)(w:World):z15_sd ⟨take_0p,take_0l,take_0c⟩ t_1 t_2 (fun r0 r1 w'=>Kv (Value.tuple #[(Value.int .i64 r0),(Value.bool r1)]) w') w=W Tryz.prog z15_E 139 (z15_A Kv) z15_C [] (retQ Tryz.prog Tryz.f110.results Kv) [] (startS [(Value.slice take_0p take_0l take_0c),(Value.pointer (some t_1)),(Value.pointer (some t_2))]) w:=by kernel_rfl
theorem z15_e0 (Kv:VW)(ρ:Rho)(t_4 t_5:Addr)(n_6:Int)(w:World):z15_k0d t_4 t_5 n_6 (fun r0 r1 w'=>Kv (Value.tuple #[(Value.int .i64 r0),(Value.bool r1)]) w') w=goalAt Tryz.prog z15_E 139 (z15_O Kv) 0 (ρ) [(Value.pointer (some t_4)),(Value.pointer (some t_5)),(Value.int .i64 n_6)] w:=by kernel_rfl
theorem z15_q0 (Kv:VW)(ρ:Rho)(vs:List Value)(w:World):labAt (z15_O Kv) 0 ρ vs w=z15_P0 Kv ρ vs w:=by kernel_rfl
theorem z15_h0 (Kv:VW):holdsAt Tryz.prog z15_E 139 (z15_O Kv) 0:=holdsAt_cut (.inl (by kernel_rfl)) (fun ρ vs w h=>by
  rw[z15_q0] at h
  unfold z15_P0 at h
  split at h
  · rw[← z15_e0]; exact h.out
  · exact h.elim)
theorem z15_e1 (Kv:VW)(ρ:Rho)(t_1 t_2:Addr)(take_3 t_4 t_5:Addr)(n_6:Int)(options_10 next_11:Addr)(t_107:Value)(w:World):z15_f1d t_1 t_2 take_3 t_4 t_5 n_6 options_10 next_11 t_107 (fun r0 r1 w'=>Kv (Value.tuple #[(Value.int .i64 r0),(Value.bool r1)]) w') w=goalAt Tryz.prog z15_E 139 (z15_O Kv) 1 (ρ) [(Value.pointer (some t_1)),(Value.pointer (some t_2)),(Value.pointer (some take_3)),(Value.pointer (some t_4)),(Value.pointer (some t_5)),(Value.int .i64 n_6),(Value.pointer (some options_10)),(Value.pointer (some next_11)),t_107] w:=by kernel_rfl
theorem z15_q1 (Kv:VW)(ρ:Rho)(vs:List Value)(w:World):labAt (z15_O Kv) 1 ρ vs w=z15_P1 Kv ρ vs w:=by kernel_rfl
theorem z15_h1 (Kv:VW):holdsAt Tryz.prog z15_E 139 (z15_O Kv) 1:=holdsAt_cut (.inr (by kernel_rfl)) (fun ρ vs w h=>by
  rw[z15_q1] at h
  unfold z15_P1 at h
  split at h
  · rw[← z15_e1]; exact h.out
  · exact h.elim)
theorem z15_e2 (Kv:VW)(Nn1 Nr1:List Value->World->Prop)(ρ:Rho)(t_4 t_5 next_11:Addr)(i_12 k_13:Int)(ok_14:Bool)(w:World):z15_k2d t_4 t_5 next_11 i_12 k_13 ok_14 (fun w'=>Nn1 [] w') (fun w'=>Nr1 [] w') (fun r0 r1 w'=>Kv (Value.tuple #[(Value.int .i64 r0),(Value.bool r1)]) w') w=goalAt Tryz.prog z15_E 139 (z15_O Kv) 2 (Nn1 :: Nr1 :: ρ) [(Value.pointer (some t_4)),(Value.pointer (some t_5)),(Value.pointer (some next_11)),(Value.int .i64 i_12),(Value.int .i64 k_13),(Value.bool ok_14)] w:=by kernel_rfl
theorem z15_q2 (Kv:VW)(ρ:Rho)(vs:List Value)(w:World):labAt (z15_O Kv) 2 ρ vs w=z15_P2 Kv ρ vs w:=by kernel_rfl
theorem z15_h2 (Kv:VW):holdsAt Tryz.prog z15_E 139 (z15_O Kv) 2:=holdsAt_cut (.inl (by kernel_rfl)) (fun ρ vs w h=>by
  rw[z15_q2] at h
  unfold z15_P2 at h
  split at h
  · rw[← z15_e2]; exact h.out
  · exact h.elim)
theorem z15_n (Kv:VW):obAt (z15_O Kv) 3=none:=by kernel_rfl
theorem z15_h (Kv:VW):∀ k,holdsAt Tryz.prog z15_E 139 (z15_O Kv) k:=fun k=>match k with
  | 0=>z15_h0 Kv
  | 1=>z15_h1 Kv
  | 2=>z15_h2 Kv
  | k+3=>holdsAt_ge (z15_n Kv) (Nat.le_add_left _ _)
theorem z15_ok:Sound Tryz.prog 110 z15_S:=⟨Tryz.call110,fun vs w Kv h=>by
  unfold z15_S at h
  split at h
  · have h:=h.out
    rw[z15_e] at h
    exact calls_sound (Γ:=z15_E) progMixed ⟨.inl z0l_ok,.inl z55_ok,.inl z0f_ok,.inl z3g_ok,.inl z45_ok,.inl z3e_ok,trivial⟩ Tryz.func110 (code:=z15_C) (by kernel_rfl) (z15_A Kv) Kv (holds_all (z15_h Kv)) (Nat.le_of_ble_eq_true (by kernel_rfl)) h
  · exact h.elim⟩
theorem z15_t1_0 (Kv:VW):obAt (obs Tryz.prog z15_E 139 ((qb (qs (A.drw (dp [0,1,3,4,5,6] (DA.two 2 (DA.eff 7 (DA.eff 8 (DA.dyn 9 (Value.tuple #[(Value.int .i64 0),(Value.bool false)]) (dp [10,11,12,13,14] DA.done)))) 7 (DA.eff 2 (DA.eff 8 (DA.dyn 9 (Value.tuple #[(Value.int .i64 0),(Value.bool false)]) (dp [10,11,12,13,14] DA.done))))))) (A.cut [4,5,11,12,13,14] (z15_P2 Kv) (qs (qr 2 (qc (qr 2 ql) ql)) (qe 5)))))) z15_bd1 rq) 0=obAt (z15_O Kv) 2:=by kernel_rfl
theorem z15_t1_n (Kv:VW):obAt (obs Tryz.prog z15_E 139 ((qb (qs (A.drw (dp [0,1,3,4,5,6] (DA.two 2 (DA.eff 7 (DA.eff 8 (DA.dyn 9 (Value.tuple #[(Value.int .i64 0),(Value.bool false)]) (dp [10,11,12,13,14] DA.done)))) 7 (DA.eff 2 (DA.eff 8 (DA.dyn 9 (Value.tuple #[(Value.int .i64 0),(Value.bool false)]) (dp [10,11,12,13,14] DA.done))))))) (A.cut [4,5,11,12,13,14] (z15_P2 Kv) (qs (qr 2 (qc (qr 2 ql) ql)) (qe 5)))))) z15_bd1 rq) 1=none:=by kernel_rfl
theorem z15_t1 (Kv:VW):∀ k,holdsAt Tryz.prog z15_E 139 (obs Tryz.prog z15_E 139 ((qb (qs (A.drw (dp [0,1,3,4,5,6] (DA.two 2 (DA.eff 7 (DA.eff 8 (DA.dyn 9 (Value.tuple #[(Value.int .i64 0),(Value.bool false)]) (dp [10,11,12,13,14] DA.done)))) 7 (DA.eff 2 (DA.eff 8 (DA.dyn 9 (Value.tuple #[(Value.int .i64 0),(Value.bool false)]) (dp [10,11,12,13,14] DA.done))))))) (A.cut [4,5,11,12,13,14] (z15_P2 Kv) (qs (qr 2 (qc (qr 2 ql) ql)) (qe 5)))))) z15_bd1 rq) k:=fun k=>match k with
  | 0=>fun o ho=>z15_h Kv 2 o (Eq.trans (Eq.symm (z15_t1_0 Kv)) ho)
  | k+1=>holdsAt_ge (z15_t1_n Kv) (Nat.le_add_left _ _)
theorem z15_er1 (Kv:VW)(t_1 t_2:Addr)(take_3 t_4 t_5:Addr)(n_6:Int)(options_10 next_11:Addr)(t_107:Value)(t_108:Int)(t_109:Value)(M:World->(World->Prop)->Prop)(N R:World->Prop)(w:World):z15_r1d t_1 t_2 take_3 t_4 t_5 n_6 options_10 next_11 t_107 t_108 t_109 M N R (fun r0 r1 w'=>Kv (Value.tuple #[(Value.int .i64 r0),(Value.bool r1)]) w') w=rdW Tryz.prog z15_E 139 (qe 1) ((qb (qs (A.drw (dp [0,1,3,4,5,6] (DA.two 2 (DA.eff 7 (DA.eff 8 (DA.dyn 9 (Value.tuple #[(Value.int .i64 0),(Value.bool false)]) (dp [10,11,12,13,14] DA.done)))) 7 (DA.eff 2 (DA.eff 8 (DA.dyn 9 (Value.tuple #[(Value.int .i64 0),(Value.bool false)]) (dp [10,11,12,13,14] DA.done))))))) (A.cut [4,5,11,12,13,14] (z15_P2 Kv) (qs (qr 2 (qc (qr 2 ql) ql)) (qe 5)))))) z15_ps1 z15_as1 z15_bd1 [(1,(Value.pointer (some t_1))),(2,(Value.pointer (some t_2))),(3,(Value.pointer (some take_3))),(4,(Value.pointer (some t_4))),(5,(Value.pointer (some t_5))),(6,(Value.int .i64 n_6)),(10,(Value.pointer (some options_10))),(11,(Value.pointer (some next_11))),(107,t_107)] [(Value.int .i64 t_108),t_109] M N R w:=by kernel_rfl
theorem z15_y1 (Kv:VW)(t_1 t_2:Addr)(take_3 t_4 t_5:Addr)(n_6:Int)(options_10 next_11:Addr)(t_107:Value)(t_108:Int)(t_109:Value){fn d l:Nat}{tmps:Array Value}{K':VW}{w:World}(hag:agrT 139 [(1,(Value.pointer (some t_1))),(2,(Value.pointer (some t_2))),(3,(Value.pointer (some take_3))),(4,(Value.pointer (some t_4))),(5,(Value.pointer (some t_5))),(6,(Value.int .i64 n_6)),(10,(Value.pointer (some options_10))),(11,(Value.pointer (some next_11))),(107,t_107)] tmps)(hl:w.heap[l]?=some (lrec fn tmps z15_ps1 z15_as1 z15_bd1 d .ready none))
    (h:z15_r1 t_1 t_2 take_3 t_4 t_5 n_6 options_10 next_11 t_107 t_108 t_109 (rMid l fn tmps z15_ps1 z15_as1 z15_bd1 d) (rN l fn tmps z15_ps1 z15_as1 z15_bd1 d K') (rR l fn tmps z15_ps1 z15_as1 z15_bd1 d K') (fun r0 r1 w'=>Kv (Value.tuple #[(Value.int .i64 r0),(Value.bool r1)]) w') w):Yl Tryz.prog l #[(Value.int .i64 t_108),t_109] w K' :=
  round_sound (xa:=(qe 1)) (xb:=(qb (qs (A.drw (dp [0,1,3,4,5,6] (DA.two 2 (DA.eff 7 (DA.eff 8 (DA.dyn 9 (Value.tuple #[(Value.int .i64 0),(Value.bool false)]) (dp [10,11,12,13,14] DA.done)))) 7 (DA.eff 2 (DA.eff 8 (DA.dyn 9 (Value.tuple #[(Value.int .i64 0),(Value.bool false)]) (dp [10,11,12,13,14] DA.done))))))) (A.cut [4,5,11,12,13,14] (z15_P2 Kv) (qs (qr 2 (qc (qr 2 ql) ql)) (qe 5)))))) (Γ:=z15_E) progMixed ⟨.inl z0l_ok,.inl z55_ok,.inl z0f_ok,.inl z3g_ok,.inl z45_ok,.inl z3e_ok,trivial⟩ (fun _=>rfl) (holds_all (z15_t1 Kv)) rfl rfl rfl hag hl rfl (by rw[← z15_er1 Kv]; exact h.out)
def z1v_sd (s_0:Option Addr)(K:Pw.T0)(w:World):Prop :=
 let w1:=w.alloc (Obj.cells #[(Value.pointer s_0)] 94)
 let w2:=w1.alloc (Obj.cells #[Value.nilFunc] 149)
 wrOk w2 (Addr.mk w1.heap.size 0 none)/\
 (let w3:=w2.setCell (Addr.mk w1.heap.size 0 none) (Value.func (.func 110) #[] #[(Value.pointer (some (Addr.mk w.heap.size 0 none))),(Value.pointer (some (Addr.mk w1.heap.size 0 none)))])
 ∃ x4:Value,w3.cell? (Addr.mk w1.heap.size 0 none)=some x4/\CallV Tryz.prog x4 [(Value.slice none 0 0)] w3 fun u5 w6=>∃ x7:Int,∃ x8:Bool,u5=(Value.tuple #[(Value.int .i64 x7),(Value.bool x8)])/\K x8 w6)
structure z1v_sh (s_0:Option Addr)(K:Pw.T0)(w:World):Prop where
 out:z1v_sd s_0 K w
noncomputable def z1v_S:Pw.Spec:=fun vs w Kv=>un [tP] (fun s_0=>z1v_sh s_0 (kk [tB] Kv)) nF vs w
def z1v_A (_:VW):A:=(qr 2 (qr 1 (qr 2 (qs (A.reg (qn 1 (RA.dyn (Value.tuple #[(Value.int .i64 0),(Value.bool false)]) (qn 5 RA.done)))) (qr 2 ql)))))
theorem z1v_ok:Sound Tryz.prog 53 z1v_S:=okS (x:=z1v_A) (fun Kv s_0=>z1v_sd s_0 (kk [tB] Kv)) progMixed (Γ:=[]) trivial Tryz.call53 Tryz.func53 (fun _=>hEnd)
def z3l_k0d (t_4:Addr)(K:Pw.T7)(w:World):Prop :=
 stN w t_4 [(Value.slice none 0 0),(Value.int .i64 0),(Value.int .i64 0),(Value.slice none 0 0)] fun w12=>∃ x13:Sl,w12.cell? t_4=some (Value.slice x13.p x13.l x13.c)/\∃ x14:Int,w12.cell? (t_4.add 1)=some (Value.int .i64 x14)/\∃ x15:Int,w12.cell? (t_4.add 2)=some (Value.int .i64 x15)/\∃ x16:Sl,w12.cell? (t_4.add 3)=some (Value.slice x16.p x16.l x16.c)/\K x13 x14 x15 x16 (1:Int) w12
structure z3l_k0 (t_4:Addr)(K:Pw.T7)(w:World):Prop where
 out:z3l_k0d t_4 K w
def z3l_b2 (p_2 t_4 s_6:Addr)(most_9 t_72 t_73:Int)(t_78:Sl)(t_79 t_80:Int)(N2:Addr->Addr->Addr->Int->Int->Int->Sl->Int->Int->World->Prop)(N1:Addr->Addr->Addr->Int->Int->World->Prop)(K:Pw.T7)(w:World):Prop :=
 cnd (decide (t_80<t_79))
 (nz t_78.p fun a57=>(0<=t_80/\t_80<(t_78.l:Nat))/\∃ x58:Int,w.cell? (a57.add (t_80.toNat*1))=some (Value.int .i64 x58)/\cnd (decide (x58>=(0:Int)))
 (∃ x59:Sl,w.cell? (p_2.add 1)=some (Value.slice x59.p x59.l x59.c)/\nz x59.p fun a60=>(0<=x58/\x58<(x59.l:Nat))/\∃ x61:Int,w.cell? ((a60.add (x58.toNat*4)).add 3)=some (Value.int .i64 x61)/\inR .i64 (t_80+(1:Int))/\N2 p_2 t_4 s_6 (max most_9 x61) t_72 t_73 t_78 t_79 (t_80+(1:Int)) w)
 (inR .i64 (t_80+(1:Int))/\N2 p_2 t_4 s_6 most_9 t_72 t_73 t_78 t_79 (t_80+(1:Int)) w))
 (∃ x62:Int,w.cell? (s_6.add 2)=some (Value.int .i64 x62)/\inR .i64 (x62+most_9)/\wrOk w (s_6.add 2)/\
 (let w63:=w.setCell (s_6.add 2) (Value.int .i64 (x62+most_9))
 inR .i64 (t_73+(1:Int))/\N1 p_2 t_4 s_6 t_72 (t_73+(1:Int)) w63))
def z3l_l2d (p_2 t_4 s_6:Addr)(most_9 t_72 t_73:Int)(t_78:Sl)(t_79 t_80:Int)(N1:Addr->Addr->Addr->Int->Int->World->Prop)(K:Pw.T7)(w:World):Prop :=
 ∃ (I:Int->Int->World->Prop) (μ:Int->Int->World->Nat),I most_9 t_80 w/\∀ (most_91 t_801:Int) (w1:World),I most_91 t_801 w1 ->
 z3l_b2 p_2 t_4 s_6 most_91 t_72 t_73 t_78 t_79 t_801 (fun p_2' t_4' s_6' most_9' t_72' t_73' t_78' t_79' t_80' w'=>((p_2'=p_2/\t_4'=t_4/\s_6'=s_6/\t_72'=t_72/\t_73'=t_73/\t_78'=t_78/\t_79'=t_79/\True)/\I most_9' t_80' w')/\μ most_9' t_80' w'<μ most_91 t_801 w1) N1 K w1
structure z3l_l2 (p_2 t_4 s_6:Addr)(most_9 t_72 t_73:Int)(t_78:Sl)(t_79 t_80:Int)(N1:Addr->Addr->Addr->Int->Int->World->Prop)(K:Pw.T7)(w:World):Prop where
 out:z3l_l2d p_2 t_4 s_6 most_9 t_72 t_73 t_78 t_79 t_80 N1 K w
def z3l_b1 (p_2 t_4 s_6:Addr)(t_72 t_73:Int)(N1:Addr->Addr->Addr->Int->Int->World->Prop)(K:Pw.T7)(w:World):Prop :=
 cnd (decide (t_73<t_72))
 (z0l_sh (some s_6) t_73 (fun r56 w55=>z3l_l2 p_2 t_4 s_6 (0:Int) t_72 t_73 r56 (r56.l:Int) (0:Int) N1 K w55) w)
 (∃ x64:Sl,w.cell? s_6=some (Value.slice x64.p x64.l x64.c)/\∃ x65:Int,w.cell? (s_6.add 1)=some (Value.int .i64 x65)/\∃ x66:Int,w.cell? (s_6.add 2)=some (Value.int .i64 x66)/\∃ x67:Sl,w.cell? (s_6.add 3)=some (Value.slice x67.p x67.l x67.c)/\stN w t_4 [(Value.slice x64.p x64.l x64.c),(Value.int .i64 x65),(Value.int .i64 x66),(Value.slice x67.p x67.l x67.c)] fun w68=>∃ x69:Sl,w68.cell? t_4=some (Value.slice x69.p x69.l x69.c)/\∃ x70:Int,w68.cell? (t_4.add 1)=some (Value.int .i64 x70)/\∃ x71:Int,w68.cell? (t_4.add 2)=some (Value.int .i64 x71)/\∃ x72:Sl,w68.cell? (t_4.add 3)=some (Value.slice x72.p x72.l x72.c)/\K x69 x70 x71 x72 (42:Int) w68)
def z3l_l1d (p_2 t_4 s_6:Addr)(t_72 t_73:Int)(K:Pw.T7)(w:World):Prop :=
 ∃ (I:Int->World->Prop) (μ:Int->World->Nat),I t_73 w/\∀ (t_731:Int) (w1:World),I t_731 w1 ->
 z3l_b1 p_2 t_4 s_6 t_72 t_731 (fun p_2' t_4' s_6' t_72' t_73' w'=>((p_2'=p_2/\t_4'=t_4/\s_6'=s_6/\t_72'=t_72/\True)/\I t_73' w')/\μ t_73' w'<μ t_731 w1) K w1
structure z3l_l1 (p_2 t_4 s_6:Addr)(t_72 t_73:Int)(K:Pw.T7)(w:World):Prop where
 out:z3l_l1d p_2 t_4 s_6 t_72 t_73 K w
def z3l_sd (p_0_0 p_0_1 p_0_2:Sl)(p_0_3 p_0_4 work_1:Int)(K:Pw.T7)(w:World):Prop :=
 let w1:=w.alloc (Obj.cells #[(Value.slice p_0_0.p p_0_0.l p_0_0.c),(Value.slice p_0_1.p p_0_1.l p_0_1.c),(Value.slice p_0_2.p p_0_2.l p_0_2.c),(Value.int .i64 p_0_3),(Value.int .i64 p_0_4)] 28)
 let w2:=w1.alloc (Obj.cells #[(Value.slice none 0 0),(Value.int .i64 0),(Value.int .i64 0),(Value.slice none 0 0)] 45)
 ∃ x3:Sl,w2.cell? (Addr.mk w.heap.size 0 none)=some (Value.slice x3.p x3.l x3.c)/\∃ x4:Sl,w2.cell? (Addr.mk w.heap.size 1 none)=some (Value.slice x4.p x4.l x4.c)/\∃ x5:Sl,w2.cell? (Addr.mk w.heap.size 2 none)=some (Value.slice x5.p x5.l x5.c)/\∃ x6:Int,w2.cell? (Addr.mk w.heap.size 3 none)=some (Value.int .i64 x6)/\∃ x7:Int,w2.cell? (Addr.mk w.heap.size 4 none)=some (Value.int .i64 x7)/\z3n_sh x3 x4 x5 x6 x7 (fun r9 w8=>cnd (!r9)
 (z3l_k0 (Addr.mk w1.heap.size 0 none) K w8)
 (z3h_sh work_1 (1048576:Int) (fun r11 w10=>cnd (!r11)
 (z3l_k0 (Addr.mk w1.heap.size 0 none) K w10)
 (∃ x17:Sl,w10.cell? (Addr.mk w.heap.size 0 none)=some (Value.slice x17.p x17.l x17.c)/\∃ x18:Sl,w10.cell? (Addr.mk w.heap.size 1 none)=some (Value.slice x18.p x18.l x18.c)/\∃ x19:Sl,w10.cell? (Addr.mk w.heap.size 2 none)=some (Value.slice x19.p x19.l x19.c)/\∃ x20:Int,w10.cell? (Addr.mk w.heap.size 3 none)=some (Value.int .i64 x20)/\∃ x21:Int,w10.cell? (Addr.mk w.heap.size 4 none)=some (Value.int .i64 x21)/\let w22:=w10.alloc (Obj.cells #[(Value.slice none 0 0),(Value.int .i64 0),(Value.int .i64 0),(Value.slice none 0 0),(Value.slice x17.p x17.l x17.c),(Value.slice x18.p x18.l x18.c),(Value.slice x19.p x19.l x19.c),(Value.int .i64 x20),(Value.int .i64 x21),(Value.int .i64 work_1)] 96)
 let w23:=w22.alloc (Obj.cells #[(Value.int .i64 (-1))] 3)
 ∃ x24:Sl,w23.cell? (Addr.mk w.heap.size 0 none)=some (Value.slice x24.p x24.l x24.c)/\z3v_sh (Sl.mk (some (Addr.mk w22.heap.size 0 none)) 1 1) (x24.l:Int) (fun r26 w25=>wrOk w25 (Addr.mk w10.heap.size 0 none)/\
 (let w27:=w25.setCell (Addr.mk w10.heap.size 0 none) (Value.slice r26.p r26.l r26.c)
 z1v_sh (some (Addr.mk w10.heap.size 0 none)) (fun r29 w28=>let w30:=w28.drew
 ∃ S31:World->Prop,S31 w30/\∃ x32:Sl,(∀ w':World,S31 w'->w'.cell? (Addr.mk w.heap.size 0 none)=some (Value.slice x32.p x32.l x32.c))/\∃ x33:Sl,(∀ w':World,S31 w'->w'.cell? (Addr.mk w.heap.size 1 none)=some (Value.slice x33.p x33.l x33.c))/\∃ x34:Sl,(∀ w':World,S31 w'->w'.cell? (Addr.mk w.heap.size 2 none)=some (Value.slice x34.p x34.l x34.c))/\∃ x35:Int,(∀ w':World,S31 w'->w'.cell? (Addr.mk w.heap.size 3 none)=some (Value.int .i64 x35))/\∃ x36:Int,(∀ w':World,S31 w'->w'.cell? (Addr.mk w.heap.size 4 none)=some (Value.int .i64 x36))/\∃ x37:Sl,(∀ w':World,S31 w'->w'.cell? (Addr.mk w10.heap.size 0 none)=some (Value.slice x37.p x37.l x37.c))/\z0u_sh x32 x33 x34 x35 x36 x37 (fun r39 w38=>S31 w38/\wrOk w38 (Addr.mk w10.heap.size 1 none)/\
 (let w40:=w38.setCell (Addr.mk w10.heap.size 1 none) (Value.int .i64 r39)
 ∃ x41:Int,w40.cell? (Addr.mk w10.heap.size 1 none)=some (Value.int .i64 x41)/\wrOk w40 (Addr.mk w10.heap.size 2 none)/\
 (let w42:=w40.setCell (Addr.mk w10.heap.size 2 none) (Value.int .i64 x41)
 cnd r29
 (∃ x43:Sl,w42.cell? (Addr.mk w10.heap.size 0 none)=some (Value.slice x43.p x43.l x43.c)/\∃ x44:Int,w42.cell? (Addr.mk w10.heap.size 1 none)=some (Value.int .i64 x44)/\∃ x45:Int,w42.cell? (Addr.mk w10.heap.size 2 none)=some (Value.int .i64 x45)/\∃ x46:Sl,w42.cell? (Addr.mk w10.heap.size 3 none)=some (Value.slice x46.p x46.l x46.c)/\stN w42 (Addr.mk w1.heap.size 0 none) [(Value.slice x43.p x43.l x43.c),(Value.int .i64 x44),(Value.int .i64 x45),(Value.slice x46.p x46.l x46.c)] fun w47=>∃ x48:Sl,w47.cell? (Addr.mk w1.heap.size 0 none)=some (Value.slice x48.p x48.l x48.c)/\∃ x49:Int,w47.cell? (Addr.mk w1.heap.size 1 none)=some (Value.int .i64 x49)/\∃ x50:Int,w47.cell? (Addr.mk w1.heap.size 2 none)=some (Value.int .i64 x50)/\∃ x51:Sl,w47.cell? (Addr.mk w1.heap.size 3 none)=some (Value.slice x51.p x51.l x51.c)/\K x48 x49 x50 x51 (0:Int) w47)
 (wrOk w42 (Addr.mk w10.heap.size 3 none)/\
 (let w52:=w42.setCell (Addr.mk w10.heap.size 3 none) (Value.slice none 0 0)
 wrOk w52 (Addr.mk w10.heap.size 2 none)/\
 (let w53:=w52.setCell (Addr.mk w10.heap.size 2 none) (Value.int .i64 0)
 ∃ x54:Sl,w53.cell? (Addr.mk w.heap.size 0 none)=some (Value.slice x54.p x54.l x54.c)/\z3l_l1 (Addr.mk w.heap.size 0 none) (Addr.mk w1.heap.size 0 none) (Addr.mk w10.heap.size 0 none) (x54.l:Int) (0:Int) K w53)))))) w30) w27)) w23)) w8)) w2
structure z3l_sh (p_0_0 p_0_1 p_0_2:Sl)(p_0_3 p_0_4 work_1:Int)(K:Pw.T7)(w:World):Prop where
 out:z3l_sd p_0_0 p_0_1 p_0_2 p_0_3 p_0_4 work_1 K w
def z3l_L0 (Kv:VW):Cur [tQ] WP:=fun t_4=>z3l_k0 t_4 (kk [.u 2,.g 4,tL,tI,tI,tL,tI] Kv)
def z3l_L1 (Kv:VW):Cur [tQ,tQ,tQ,tI,tI] WP:=fun p_2 t_4 s_6 t_72 t_73=>z3l_l1 p_2 t_4 s_6 t_72 t_73 (kk [.u 2,.g 4,tL,tI,tI,tL,tI] Kv)
def z3l_L2 (Kv:VW):Cur [tQ,tQ,tQ,tI,tI] WP->Cur [tQ,tQ,tQ,tI,tI,tI,tL,tI,tI] WP:=fun N1 p_2 t_4 s_6 most_9 t_72 t_73 t_78 t_79 t_80=>z3l_l2 p_2 t_4 s_6 most_9 t_72 t_73 t_78 t_79 t_80 N1 (kk [.u 2,.g 4,tL,tI,tI,tL,tI] Kv)
noncomputable def z3l_S:Pw.Spec:=fun vs w Kv=>un [.g 5,tL,tL,tL,tI,tI,tI] (fun p_0_0 p_0_1 p_0_2 p_0_3 p_0_4 work_1=>z3l_sh p_0_0 p_0_1 p_0_2 p_0_3 p_0_4 work_1 (kk [.u 2,.g 4,tL,tI,tI,tL,tI] Kv)) nF vs w
def z3l_A (Kv:VW):A:=(qr 3 (qs (qs (A.reg (qn 4 (RA.spl 15 (qk 3 (qn 1 RA.done)) (qn 4 RA.done)))) (qc (A.cut [4] (uR0 [tQ] (z3l_L0 Kv)) (qr 3 ql)) ql)) (qr 5 (qr 10 (qr 3 (qs (A.drw (dp [0,1,2,3,4,5,6,7] (DA.eff 8 (dp [9,10,11] (DA.eff 12 DA.done))))) (qr 10 (qs (qr 1 (qc (qr 6 ql) ql)) (qr 5 (qr 5 (qs (qr 4 (qb (A.loop [2,4,6,72,73] (uR0 [tQ,tQ,tQ,tI,tI] (z3l_L1 Kv)) (qr 1 (qs (qc ql ql) (qs (qb (qr 2 (qr 1 (qs (qr 5 (qb (A.loop [2,4,6,9,72,73,78,79,80] (uR1 [tQ,tQ,tQ,tI,tI] [tQ,tQ,tQ,tI,tI,tI,tL,tI,tI] (z3l_L2 Kv)) (qr 1 (qs (qc ql ql) (qs (qb (qr 3 (qr 2 (qc (qe 9) ql)))) (qe 2))))))) (qe 11))))) (qe 2))))))) (qr 6 ql))))))))))))
theorem z3l_ok:Sound Tryz.prog 25 z3l_S:=okS (x:=z3l_A) (fun Kv p_0_0 p_0_1 p_0_2 p_0_3 p_0_4 work_1=>z3l_sd p_0_0 p_0_1 p_0_2 p_0_3 p_0_4 work_1 (kk [.u 2,.g 4,tL,tI,tI,tL,tI] Kv)) progMixed (Γ:=[(50,z3n_S),(51,z3h_S),(52,z3v_S),(53,z1v_S),(54,z0u_S),(55,z0l_S)]) ⟨.inl z3n_ok,.inl z3h_ok,.inl z3v_ok,.inl z1v_ok,.inl z0u_ok,.inl z0l_ok,trivial⟩ Tryz.call25 Tryz.func25 (fun Kv=>hStep (hCut0 (F:=z3l_L0 Kv) (G:=fun t_4=>z3l_k0d t_4 (kk [.u 2,.g 4,tL,tI,tI,tL,tI] Kv))) <| hStep (hLoop0 (L:=z3l_L1 Kv) (fun N1 p_2 t_4 s_6 t_72 t_73=>z3l_b1 p_2 t_4 s_6 t_72 t_73 N1 (kk [.u 2,.g 4,tL,tI,tI,tL,tI] Kv)) (fun⟨a0,a1,a2,a3,_,_⟩ _ h=>let ⟨I,μ,h0,hr⟩:=h.out; ⟨fun b0 b1 b2 b3 b4 w=>(b0=a0/\b1=a1/\b2=a2/\b3=a3/\True)/\I b4 w,fun _ _ _ _ b4 w=>μ b4 w,⟨⟨rfl,rfl,rfl,rfl,trivial⟩,h0⟩,fun⟨_,_,_,_,_,_⟩ _ ⟨⟨e0,e1,e2,e3,_⟩,hI⟩=>by cases e0; cases e1; cases e2; cases e3; exact hr _ _ hI⟩)) <| hStep (hLoop1 (L:=z3l_L2 Kv) (fun N1 N2 p_2 t_4 s_6 most_9 t_72 t_73 t_78 t_79 t_80=>z3l_b2 p_2 t_4 s_6 most_9 t_72 t_73 t_78 t_79 t_80 N2 N1 (kk [.u 2,.g 4,tL,tI,tI,tL,tI] Kv)) (fun _ ⟨a0,a1,a2,_,a4,a5,a6,a7,_,_⟩ _ h=>let ⟨I,μ,h0,hr⟩:=h.out; ⟨fun b0 b1 b2 b3 b4 b5 b6 b7 b8 w=>(b0=a0/\b1=a1/\b2=a2/\b4=a4/\b5=a5/\b6=a6/\b7=a7/\True)/\I b3 b8 w,fun _ _ _ b3 _ _ _ _ b8 w=>μ b3 b8 w,⟨⟨rfl,rfl,rfl,rfl,rfl,rfl,rfl,trivial⟩,h0⟩,fun⟨_,_,_,_,_,_,_,_,_,_⟩ _ ⟨⟨e0,e1,e2,e4,e5,e6,e7,_⟩,hI⟩=>by cases e0; cases e1; cases e2; cases e4; cases e5; cases e6; cases e7; exact hr _ _ _ hI⟩)) <| hEnd)
end Go.Proofs.YtfpobpjandjhjaaGreatDoor
