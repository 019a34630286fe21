/- The bodies' formulas, by program. -/
import Derived.Test.YtfpobpjandjhjaaGreatDoorCG3
set_option maxRecDepth 20000
namespace Go.Proofs.YtfpobpjandjhjaaGreatDoor
open Go Pw
noncomputable def z0u_C:Code:=(Tryz.f110.body).getD .skip
noncomputable def z0u_rc1:Code:=rfAt z0u_C 0
noncomputable def z0u_as1:Code:=rfAs z0u_rc1
noncomputable def z0u_bd1:Code:=rfBd z0u_rc1
def z0u_ps1:Array Tmp:=#[108,109]
def z0u_k0d (p4 p5:Addr)(p6:Int)(K:Pw.T2)(w:World):Prop :=
 wrOk w p4/\
 (let w105:=w.setCell p4 (vI p6)
 wrOk w105 p5/\
 (let w106:=w105.setCell p5 (.bool true)
 lI w106 p4 fun x107=>∃ x108:Bool,w106.cell? p5=some (.bool x108)/\K x107 x108 w106))
structure z0u_k0 (p4 p5:Addr)(p6:Int)(K:Pw.T2)(w:World):Prop where
 out:z0u_k0d p4 p5 p6 K w
def z0u_f1d (t_1 t_2:Addr)(take_3 t_4 t_5:Addr)(n_6:Int)(options_10 next_11:Addr)(t_107:Value)(K:Pw.T2)(w:World):Prop :=
 rfF Tryz.prog 139 [(1,(Value.pointer (some t_1))),(2,(Value.pointer (some t_2))),(3,(Value.pointer (some take_3))),(4,(Value.pointer (some t_4))),(5,(Value.pointer (some t_5))),(6,(Value.int .i64 n_6)),(10,(Value.pointer (some options_10))),(11,(Value.pointer (some next_11))),(107,t_107)] t_107 z0u_ps1 z0u_as1 z0u_bd1 w (fun w'=>let w156:=w'.drew
 ∃ S157:World->Prop,S157 w156/\∃ x158:Option Addr,(∀ w':World,S157 w'->w'.cell? t_1=some (Value.pointer x158))/\nz x158 fun a159=>∃ x160:Sl,(∀ w':World,S157 w'->w'.cell? (a159.add 3)=some (Value.slice x160.p x160.l x160.c))/\∃ x161:Sl,(∀ w':World,S157 w'->w'.cell? next_11=some (Value.slice x161.p x161.l x161.c))/\nz x160.p fun a162=>(0<=n_6/\n_6<(x160.l:Nat))/\wrOk w156 ((a162.add (n_6.toNat*4)).add 3)/\
 (let w163:=w156.setCell ((a162.add (n_6.toNat*4)).add 3) (Value.slice x161.p x161.l x161.c)
 wrOk w163 t_4/\
 (let w164:=w163.setCell t_4 (Value.int .i64 n_6)
 wrOk w164 t_5/\
 (let w165:=w164.setCell t_5 (Value.bool true)
 w165.heap[w.heap.size]?=some (Obj.deferred (some []))/\(let w166:=w165.putObj w.heap.size (Obj.deferred none)
 ∃ x167:Int,w166.cell? t_4=some (Value.int .i64 x167)/\∃ x168:Bool,w166.cell? t_5=some (Value.bool x168)/\K x167 x168 w166))))) (fun w'=>w'.heap[w.heap.size]?=some (Obj.deferred (some []))/\(let w123:=w'.putObj w.heap.size (Obj.deferred none)
 ∃ x124:Int,w123.cell? t_4=some (Value.int .i64 x124)/\∃ x125:Bool,w123.cell? t_5=some (Value.bool x125)/\K x124 x125 w123))
structure z0u_f1 (p1 p2:Addr)(p3 p4 p5:Addr)(p6:Int)(p10 p11:Addr)(p107:Value)(K:Pw.T2)(w:World):Prop where
 out:z0u_f1d p1 p2 p3 p4 p5 p6 p10 p11 p107 K w
def z0u_k2d (p4 p5 p11:Addr)(p12 p13:Int)(p14:Bool)(Nn1:World->Prop)(Nr1:World->Prop)(K:Pw.T2)(w:World):Prop :=
 cnd (!p14)
 (wrOk w p4/\
 (let w151:=w.setCell p4 (vI 0)
 wrOk w151 p5/\
 (let w152:=w151.setCell p5 (.bool false)
 Nr1 w152)))
 (lS w p11 fun x153=>nz x153.p fun a154=>(0<=p12/\p12<(x153.l:Nat))/\wrOk w (a154.add (p12.toNat*1))/\
 (let w155:=w.setCell (a154.add (p12.toNat*1)) (vI p13)
 Nn1 w155))
structure z0u_k2 (p4 p5 p11:Addr)(p12 p13:Int)(p14:Bool)(Nn1:World->Prop)(Nr1:World->Prop)(K:Pw.T2)(w:World):Prop where
 out:z0u_k2d p4 p5 p11 p12 p13 p14 Nn1 Nr1 K w
def z0u_r1d (t_1 t_2:Addr)(take_3 t_4 t_5:Addr)(n_6:Int)(options_10 next_11:Addr)(t_107:Value)(t_108:Int)(t_109:Value)(M:World->(World->Prop)->Prop)(Nn1 Nr1:World->Prop)(K:Pw.T2)(w:World):Prop :=
 M w (fun w0=>let w126:=w0.drew
 ∃ S127:World->Prop,S127 w126/\∃ x128:Value,(∀ w':World,S127 w'->w'.cell? t_2=some x128)/\∃ x129:Sl,(∀ w':World,S127 w'->w'.cell? take_3=some (Value.slice x129.p x129.l x129.c))/\∃ x130:Sl,(∀ w':World,S127 w'->w'.cell? options_10=some (Value.slice x130.p x130.l x130.c))/\nz x130.p fun a131=>(0<=t_108/\t_108<(x130.l:Nat))/\∃ x132:Int,(∀ w':World,S127 w'->w'.cell? (a131.add (t_108.toNat*1))=some (Value.int .i64 x132))/\(z3m_sh x129 (fun r134 w133=>S127 w133/\let w135:=w133.alloc (Obj.cells #[(Value.int .i64 x132)] 3)
 S127 w135/\apS 1 8 [(Value.int .i64 0)] 3 r134 (Sl.mk (some (Addr.mk w133.heap.size 0 none)) 1 1) w135 fun s136 w137=>S127 w137/\q2b Tryz.prog x128 [(Value.slice s136.p s136.l s136.c)] w137 fun u138 w139=>∃ x140:Int,∃ x141:Bool,u138=(Value.tuple #[(Value.int .i64 x140),(Value.bool x141)])/\S127 w139/\z0u_k2 t_4 t_5 next_11 t_108 x140 x141 Nn1 Nr1 K w139) w126)
/\(let w142:=w126.alloc (Obj.cells #[(Value.int .i64 x132)] 3)
 S127 w142/\z3m_sh x129 (fun r144 w143=>S127 w143/\apS 1 8 [(Value.int .i64 0)] 3 r144 (Sl.mk (some (Addr.mk w126.heap.size 0 none)) 1 1) w143 fun s145 w146=>S127 w146/\q2b Tryz.prog x128 [(Value.slice s145.p s145.l s145.c)] w146 fun u147 w148=>∃ x149:Int,∃ x150:Bool,u147=(Value.tuple #[(Value.int .i64 x149),(Value.bool x150)])/\S127 w148/\z0u_k2 t_4 t_5 next_11 t_108 x149 x150 Nn1 Nr1 K w148) w142))
structure z0u_r1 (p1 p2:Addr)(p3 p4 p5:Addr)(p6:Int)(p10 p11:Addr)(p107:Value)(p108:Int)(p109:Value)(M:World->(World->Prop)->Prop)(Nn1 Nr1:World->Prop)(K:Pw.T2)(w:World):Prop where
 out:z0u_r1d p1 p2 p3 p4 p5 p6 p10 p11 p107 p108 p109 M Nn1 Nr1 K w
def z0u_sd (p0:Sl)(p1 p2:Addr)(K:Pw.T2)(w:World):Prop :=
 let w1:=w.alloc (.cells #[(vS p0)] 22)
 let w2:=w1.alloc (.cells #[(vI 0)] 3)
 let w3:=w2.alloc (.cells #[(.bool false)] 4)
 ∃ x4:Option Addr,w3.cell? p1=some (.pointer x4)/\nz x4 fun a5=>lI w3 (a5.add 9) fun x6=>inR .i64 (x6-1)/\nz x4 fun a7=>wrOk w3 (a7.add 9)/\
 (let w8:=w3.setCell (a7.add 9) (vI (x6-1))
 ∃ x9:Option Addr,w8.cell? p1=some (.pointer x9)/\nz x9 fun a10=>lI w8 (a10.add 9) fun x11=>cnd (decide (x11<0))
 (wrOk w8 (hA w1 0)/\
 (let w12:=w8.setCell (hA w1 0) (vI 0)
 wrOk w12 (hA w2 0)/\
 (let w13:=w12.setCell (hA w2 0) (.bool false)
 lI w13 (hA w1 0) fun x14=>∃ x15:Bool,w13.cell? (hA w2 0)=some (.bool x15)/\K x14 x15 w13)))
 (∃ x16:Option Addr,w8.cell? p1=some (.pointer x16)/\nz x16 fun a17=>∃ x18:Sl,w8.cell? (a17.add 3)=some (vS x18)/\let w19:=w8.drew
 ∃ S20:World->Prop,S20 w19/\∃ x21:Option Addr,(∀ w':World,S20 w'->w'.cell? p1=some (.pointer x21))/\∃ x22:Option Addr,(∀ w':World,S20 w'->w'.cell? p1=some (.pointer x22))/\nz x22 fun a23=>mS S20 (a23.add 3) fun x24=>mS S20 (hA w 0) fun x25=>z4j_sh 0 (fun r27_0 r27_1 w26=>S20 w26/\let w28:=w26.alloc (.cells #[(vI (x25.l:Int)),(vI r27_0),(vI r27_1),vN] 55)
 S20 w28/\apS 4 48 [(vI 0),(vI 0),(vI 0),vN] 55 x24 (Sl.mk (some (hA w26 0)) 1 1) w28 fun s29 w30=>S20 w30/\nz x21 fun a31=>wrOk w30 (a31.add 3)/\
 (let w32:=w30.setCell (a31.add 3) (vS s29)
 let w33:=w32.drew
 ∃ S34:World->Prop,S34 w33/\∃ x35:Option Addr,(∀ w':World,S34 w'->w'.cell? p1=some (.pointer x35))/\nz x35 fun a36=>mS S34 (a36.add 4) fun x37=>mS S34 (a36.add 5) fun x38=>mS S34 (a36.add 6) fun x39=>mI S34 (a36.add 7) fun x40=>mI S34 (a36.add 8) fun x41=>∃ x42:Sl,(∀ w':World,S34 w'->w'.cell? (hA w 0)=some (vS x42))/\let w43:=w33.alloc (.cells #[vN,vN,vN,(vI 0),(vI 0),vN] 99)
 S34 w43/\stN w43 (hA w33 0) [(vS x37),(vS x38),(vS x39),(vI x40),(vI x41),(vS x42)] fun w44=>∃ x45:Option Addr,w44.cell? p1=some (.pointer x45)/\lS w44 (hA w33 0) fun x46=>lS w44 (hA w33 1) fun x47=>lS w44 (hA w33 2) fun x48=>lI w44 (hA w33 3) fun x49=>lI w44 (hA w33 4) fun x50=>lS w44 (hA w33 5) fun x51=>z0a_sh x45 x46 x47 x48 x49 x50 x51 (fun r53_0 r53_1 r54 w52=>let w55:=w52.alloc (.cells #[(vI 0),(vI 0)] 31)
 wrOk w55 (hA w52 0)/\
 (let w56:=w55.setCell (hA w52 0) (vI r53_0)
 wrOk w56 (hA w52 1)/\
 (let w57:=w56.setCell (hA w52 1) (vI r53_1)
 cnd r54
 (let w58:=w57.drew
 ∃ S59:World->Prop,S59 w58/\∃ x60:Option Addr,(∀ w':World,S59 w'->w'.cell? p1=some (.pointer x60))/\nz x60 fun a61=>mS S59 (a61.add 3) fun x62=>mI S59 (hA w52 0) fun x63=>mI S59 (hA w52 1) fun x64=>nz x62.p fun a65=>(0<=(x18.l:Int)/\(x18.l:Int)<(x62.l:Nat))/\wrOk w58 ((a65.add ((x18.l:Int).toNat*4)).add 1)/\
 (let w66:=w58.setCell ((a65.add ((x18.l:Int).toNat*4)).add 1) (vI x63)
 wrOk w66 ((a65.add ((x18.l:Int).toNat*4)).add 2)/\
 (let w67:=w66.setCell ((a65.add ((x18.l:Int).toNat*4)).add 2) (vI x64)
 wrOk w67 (hA w1 0)/\
 (let w68:=w67.setCell (hA w1 0) (vI (x18.l:Int))
 wrOk w68 (hA w2 0)/\
 (let w69:=w68.setCell (hA w2 0) (.bool true)
 lI w69 (hA w1 0) fun x70=>∃ x71:Bool,w69.cell? (hA w2 0)=some (.bool x71)/\K x70 x71 w69)))))
 (let w72:=w57.drew
 lS w72 (hA w 0) fun x73=>∃ x74:Option Addr,w72.cell? p1=some (.pointer x74)/\nz x74 fun a75=>lS w72 (a75.add 4) fun x76=>cnd ((x73.l:Int) == (x76.l:Int))
 (let w77:=w72.drew
 ∃ S78:World->Prop,S78 w77/\mS S78 (hA w33 0) fun x79=>mS S78 (hA w33 1) fun x80=>mS S78 (hA w33 2) fun x81=>mI S78 (hA w33 3) fun x82=>mI S78 (hA w33 4) fun x83=>mS S78 (hA w33 5) fun x84=>∃ x85:Option Addr,(∀ w':World,S78 w'->w'.cell? p1=some (.pointer x85))/\nz x85 fun a86=>mS S78 (a86.add 4) fun x87=>mS S78 (a86.add 5) fun x88=>mS S78 (a86.add 6) fun x89=>mI S78 (a86.add 7) fun x90=>mI S78 (a86.add 8) fun x91=>∃ x92:Option Addr,(∀ w':World,S78 w'->w'.cell? p1=some (.pointer x92))/\nz x92 fun a93=>mS S78 a93 fun x94=>z30_sh x79 x80 x81 x82 x83 x84 x87 x88 x89 x90 x91 x94 (fun r96 w95=>S78 w95/\cnd r96
 (let w97:=w95.drew
 ∃ S98:World->Prop,S98 w97/\∃ x99:Option Addr,(∀ w':World,S98 w'->w'.cell? p1=some (.pointer x99))/\mS S98 (hA w 0) fun x100=>z3m_sh x100 (fun r102 w101=>S98 w101/\nz x99 fun a103=>wrOk w101 a103/\
 (let w104:=w101.setCell a103 (vS r102)
 z0u_k0 (hA w1 0) (hA w2 0) (x18.l:Int) K w104)) w97)
 (z0u_k0 (hA w1 0) (hA w2 0) (x18.l:Int) K w95)) w77)
 (∃ x109:Option Addr,w72.cell? p1=some (.pointer x109)/\lS w72 (hA w 0) fun x110=>z0d_sh x109 (x110.l:Int) (fun r112 w111=>let w113:=w111.alloc (.cells #[vN] 22)
 wrOk w113 (hA w111 0)/\
 (let w114:=w113.setCell (hA w111 0) (vS r112)
 lS w114 (hA w111 0) fun x115=>mkS 8 [(vI 0)] 3 (x115.l:Int) (x115.l:Int) w114 fun s116 w117=>let w118:=w117.alloc (.cells #[vN] 22)
 wrOk w118 (hA w117 0)/\
 (let w119:=w118.setCell (hA w117 0) (vS s116)
 lS w119 (hA w111 0) fun x120=>z2y_sh x120 (fun r122 w121=>z0u_f1 p1 p2 (hA w 0) (hA w1 0) (hA w2 0) (x18.l:Int) (hA w111 0) (hA w117 0) r122 K w121) w119))) w72))))) w44)) w19))
structure z0u_sh (p0:Sl)(p1 p2:Addr)(K:Pw.T2)(w:World):Prop where
 out:z0u_sd p0 p1 p2 K w
def z0u_P0 (Kv:VW)(ρ:Rho)(vs:List Value)(w:World):Prop :=
 match ρ,vs with
 | _,[.pointer (some t_4),.pointer (some t_5),.int .i64 n_6]=>z0u_k0 t_4 t_5 n_6 (fun r0 r1 w'=>Kv (Value.tuple #[(Value.int .i64 r0),(Value.bool r1)]) w') w
 | _,_=>False
def z0u_P1 (Kv:VW)(ρ:Rho)(vs:List Value)(w:World):Prop :=
 match ρ,vs with
 | _,[.pointer (some t_1),.pointer (some t_2),.pointer (some take_3),.pointer (some t_4),.pointer (some t_5),.int .i64 n_6,.pointer (some options_10),.pointer (some next_11),t_107]=>z0u_f1 t_1 t_2 take_3 t_4 t_5 n_6 options_10 next_11 t_107 (fun r0 r1 w'=>Kv (Value.tuple #[(Value.int .i64 r0),(Value.bool r1)]) w') w
 | _,_=>False
def z0u_P2 (Kv:VW)(ρ:Rho)(vs:List Value)(w:World):Prop :=
 match ρ,vs with
 | Nn1 :: Nr1 :: _,[.pointer (some t_4),.pointer (some t_5),.pointer (some next_11),.int .i64 i_12,.int .i64 k_13,.bool ok_14]=>z0u_k2 t_4 t_5 next_11 i_12 k_13 ok_14 (fun w'=>Nn1 [] w') (fun w'=>Nr1 [] w') (fun r0 r1 w'=>Kv (Value.tuple #[(Value.int .i64 r0),(Value.bool r1)]) w') w
 | _,_=>False
noncomputable def z0u_S:Pw.Spec:=fun vs w Kv =>
 match vs with
 | [.slice take_0p take_0l take_0c,.pointer (some p1),.pointer (some p2)]=>z0u_sh ⟨take_0p,take_0l,take_0c⟩ p1 p2 (fun r0 r1 w'=>Kv (.tuple #[(vI r0),(.bool r1)]) w') w
 | _=>False
noncomputable def z0u_E:Pw.Env:=[(55,z0d_S),(75,z4j_S),(111,z0a_S),(112,z30_S),(113,z3m_S),(114,z2y_S)]
noncomputable def z0u_A (Kv:VW):Pw.A :=
 (qr 3 (qs (qr 8 (qr 5 (qc (qr 2 ql) ql))) (qr 7 (qs (A.drw (dp [0,1,2,3,4,5,6,7] (DA.eff 8 (DA.pur 9 (DA.eff 10 (DA.eff 11 (dp [12,13,14] (DA.eff 15 DA.done)))))))) (qs (A.drw (dp [0,1,2,3,4,5] (DA.eff 6 (DA.eff 7 DA.done)))) (qs (qr 9 (qr 1 (qc (qs (A.drw (dp [0,1,2,3,4,5,6,7,8] (DA.eff 9 DA.done))) (qr 3 ql)) ql))) (qs (qs (A.drp (dp [0,1,2,3,4,5,6,7,8] DA.done)) (qc (qs (qs (A.drw (dp [0,1,2,3,4,5,6,7,8,9,10] (DA.eff 11 DA.done))) (qc (A.drw (dp [0,1] (DA.eff 2 (dp [3,4,5] (DA.eff 6 DA.done))))) ql)) (A.cut [4,5,6] (z0u_P0 Kv) (qr 3 ql))) ql)) (qr 6 (qr 5 (qs (qr 2 (qb (A.rf [1,2,3,4,5,6,10,11,107] (z0u_P1 Kv) (qb (qs (A.drw (dp [0,1,3,4,5,6] (DA.two 2 (DA.eff 7 (DA.eff 8 (DA.dyn 9 (Value.tuple #[(Value.int .i64 0),(Value.bool false)]) (dp [10,11,12,13,14] DA.done)))) 7 (DA.eff 2 (DA.eff 8 (DA.dyn 9 (Value.tuple #[(Value.int .i64 0),(Value.bool false)]) (dp [10,11,12,13,14] DA.done))))))) (A.cut [4,5,11,12,13,14] (z0u_P2 Kv) (qs (qr 2 (qc (qr 2 ql) ql)) (qe 5)))))))) (qs (A.drw (dp [0,1,2,3,4,5,6,7,8] (DA.eff 9 DA.done))) (qr 3 ql))))))))))))
noncomputable def z0u_O (Kv:VW):List Ob:=(obs Tryz.prog z0u_E 139 (z0u_A Kv) z0u_C (fun _=>retQ Tryz.prog Tryz.f110.results Kv))
theorem z0u_e (Kv:VW)(take_0p:Option Addr)(take_0l take_0c:Nat)(t_1 t_2:Addr)(w:World):z0u_sd ⟨take_0p,take_0l,take_0c⟩ t_1 t_2 (fun r0 r1 w'=>Kv (Value.tuple #[(Value.int .i64 r0),(Value.bool r1)]) w') w=W Tryz.prog z0u_E 139 (z0u_A Kv) z0u_C [] (retQ Tryz.prog Tryz.f110.results Kv) [] (q7h [(Value.slice take_0p take_0l take_0c),(Value.pointer (some t_1)),(Value.pointer (some t_2))]) w:=by kernel_rfl
theorem z0u_e0 (Kv:VW)(ρ:Rho)(t_4 t_5:Addr)(n_6:Int)(w:World):z0u_k0d t_4 t_5 n_6 (fun r0 r1 w'=>Kv (Value.tuple #[(Value.int .i64 r0),(Value.bool r1)]) w') w=q2p Tryz.prog z0u_E 139 (z0u_O Kv) 0 (ρ) [(Value.pointer (some t_4)),(Value.pointer (some t_5)),(Value.int .i64 n_6)] w:=by kernel_rfl
theorem z0u_q0 (Kv:VW)(ρ:Rho)(vs:List Value)(w:World):q4j (z0u_O Kv) 0 ρ vs w=z0u_P0 Kv ρ vs w:=by kernel_rfl
theorem z0u_h0 (Kv:VW):q0x Tryz.prog z0u_E 139 (z0u_O Kv) 0:=q1m (.inl (by kernel_rfl)) (fun ρ vs w h=>by
  rw[z0u_q0] at h
  unfold z0u_P0 at h
  split at h
  · rw[← z0u_e0]; exact h.out
  · exact h.elim)
theorem z0u_e1 (Kv:VW)(ρ:Rho)(t_1 t_2:Addr)(take_3 t_4 t_5:Addr)(n_6:Int)(options_10 next_11:Addr)(t_107:Value)(w:World):z0u_f1d t_1 t_2 take_3 t_4 t_5 n_6 options_10 next_11 t_107 (fun r0 r1 w'=>Kv (Value.tuple #[(Value.int .i64 r0),(Value.bool r1)]) w') w=q2p Tryz.prog z0u_E 139 (z0u_O Kv) 1 (ρ) [(Value.pointer (some t_1)),(Value.pointer (some t_2)),(Value.pointer (some take_3)),(Value.pointer (some t_4)),(Value.pointer (some t_5)),(Value.int .i64 n_6),(Value.pointer (some options_10)),(Value.pointer (some next_11)),t_107] w:=by kernel_rfl
theorem z0u_q1 (Kv:VW)(ρ:Rho)(vs:List Value)(w:World):q4j (z0u_O Kv) 1 ρ vs w=z0u_P1 Kv ρ vs w:=by kernel_rfl
theorem z0u_h1 (Kv:VW):q0x Tryz.prog z0u_E 139 (z0u_O Kv) 1:=q1m (.inr (by kernel_rfl)) (fun ρ vs w h=>by
  rw[z0u_q1] at h
  unfold z0u_P1 at h
  split at h
  · rw[← z0u_e1]; exact h.out
  · exact h.elim)
theorem z0u_e2 (Kv:VW)(Nn1 Nr1:List Value->World->Prop)(ρ:Rho)(t_4 t_5 next_11:Addr)(i_12 k_13:Int)(ok_14:Bool)(w:World):z0u_k2d t_4 t_5 next_11 i_12 k_13 ok_14 (fun w'=>Nn1 [] w') (fun w'=>Nr1 [] w') (fun r0 r1 w'=>Kv (Value.tuple #[(Value.int .i64 r0),(Value.bool r1)]) w') w=q2p Tryz.prog z0u_E 139 (z0u_O Kv) 2 (Nn1 :: Nr1 :: ρ) [(Value.pointer (some t_4)),(Value.pointer (some t_5)),(Value.pointer (some next_11)),(Value.int .i64 i_12),(Value.int .i64 k_13),(Value.bool ok_14)] w:=by kernel_rfl
theorem z0u_q2 (Kv:VW)(ρ:Rho)(vs:List Value)(w:World):q4j (z0u_O Kv) 2 ρ vs w=z0u_P2 Kv ρ vs w:=by kernel_rfl
theorem z0u_h2 (Kv:VW):q0x Tryz.prog z0u_E 139 (z0u_O Kv) 2:=q1m (.inl (by kernel_rfl)) (fun ρ vs w h=>by
  rw[z0u_q2] at h
  unfold z0u_P2 at h
  split at h
  · rw[← z0u_e2]; exact h.out
  · exact h.elim)
theorem z0u_n (Kv:VW):obAt (z0u_O Kv) 3=none:=by kernel_rfl
theorem z0u_h (Kv:VW):∀ k,q0x Tryz.prog z0u_E 139 (z0u_O Kv) k:=fun k=>match k with
  | 0=>z0u_h0 Kv
  | 1=>z0u_h1 Kv
  | 2=>z0u_h2 Kv
  | k+3=>q3o (z0u_n Kv) (Nat.le_add_left _ _)
theorem z0u_ok:q3e Tryz.prog 110 z0u_S:=⟨Tryz.call110,fun vs w Kv h=>by
  unfold z0u_S at h
  split at h
  · have h:=h.out
    rw[z0u_e] at h
    exact q35 (Γ:=z0u_E) progMixed ⟨.inl z0d_ok,.inl z4j_ok,.inl z0a_ok,.inl z30_ok,.inl z3m_ok,.inl z2y_ok,trivial⟩ Tryz.func110 (code:=z0u_C) (by kernel_rfl) (z0u_A Kv) Kv (q36 (z0u_h Kv)) (Nat.le_of_ble_eq_true (by kernel_rfl)) h
  · exact h.elim⟩
theorem z0u_t1_0 (Kv:VW):obAt (obs Tryz.prog z0u_E 139 ((qb (qs (A.drw (dp [0,1,3,4,5,6] (DA.two 2 (DA.eff 7 (DA.eff 8 (DA.dyn 9 (Value.tuple #[(Value.int .i64 0),(Value.bool false)]) (dp [10,11,12,13,14] DA.done)))) 7 (DA.eff 2 (DA.eff 8 (DA.dyn 9 (Value.tuple #[(Value.int .i64 0),(Value.bool false)]) (dp [10,11,12,13,14] DA.done))))))) (A.cut [4,5,11,12,13,14] (z0u_P2 Kv) (qs (qr 2 (qc (qr 2 ql) ql)) (qe 5)))))) z0u_bd1 rq) 0=obAt (z0u_O Kv) 2:=by kernel_rfl
theorem z0u_t1_n (Kv:VW):obAt (obs Tryz.prog z0u_E 139 ((qb (qs (A.drw (dp [0,1,3,4,5,6] (DA.two 2 (DA.eff 7 (DA.eff 8 (DA.dyn 9 (Value.tuple #[(Value.int .i64 0),(Value.bool false)]) (dp [10,11,12,13,14] DA.done)))) 7 (DA.eff 2 (DA.eff 8 (DA.dyn 9 (Value.tuple #[(Value.int .i64 0),(Value.bool false)]) (dp [10,11,12,13,14] DA.done))))))) (A.cut [4,5,11,12,13,14] (z0u_P2 Kv) (qs (qr 2 (qc (qr 2 ql) ql)) (qe 5)))))) z0u_bd1 rq) 1=none:=by kernel_rfl
theorem z0u_t1 (Kv:VW):∀ k,q0x Tryz.prog z0u_E 139 (obs Tryz.prog z0u_E 139 ((qb (qs (A.drw (dp [0,1,3,4,5,6] (DA.two 2 (DA.eff 7 (DA.eff 8 (DA.dyn 9 (Value.tuple #[(Value.int .i64 0),(Value.bool false)]) (dp [10,11,12,13,14] DA.done)))) 7 (DA.eff 2 (DA.eff 8 (DA.dyn 9 (Value.tuple #[(Value.int .i64 0),(Value.bool false)]) (dp [10,11,12,13,14] DA.done))))))) (A.cut [4,5,11,12,13,14] (z0u_P2 Kv) (qs (qr 2 (qc (qr 2 ql) ql)) (qe 5)))))) z0u_bd1 rq) k:=fun k=>match k with
  | 0=>fun o ho=>z0u_h Kv 2 o (Eq.trans (Eq.symm (z0u_t1_0 Kv)) ho)
  | k+1=>q3o (z0u_t1_n Kv) (Nat.le_add_left _ _)
theorem z0u_er1 (Kv:VW)(t_1 t_2:Addr)(take_3 t_4 t_5:Addr)(n_6:Int)(options_10 next_11:Addr)(t_107:Value)(t_108:Int)(t_109:Value)(M:World->(World->Prop)->Prop)(N R:World->Prop)(w:World):z0u_r1d t_1 t_2 take_3 t_4 t_5 n_6 options_10 next_11 t_107 t_108 t_109 M N R (fun r0 r1 w'=>Kv (Value.tuple #[(Value.int .i64 r0),(Value.bool r1)]) w') w=rdW Tryz.prog z0u_E 139 (qe 1) ((qb (qs (A.drw (dp [0,1,3,4,5,6] (DA.two 2 (DA.eff 7 (DA.eff 8 (DA.dyn 9 (Value.tuple #[(Value.int .i64 0),(Value.bool false)]) (dp [10,11,12,13,14] DA.done)))) 7 (DA.eff 2 (DA.eff 8 (DA.dyn 9 (Value.tuple #[(Value.int .i64 0),(Value.bool false)]) (dp [10,11,12,13,14] DA.done))))))) (A.cut [4,5,11,12,13,14] (z0u_P2 Kv) (qs (qr 2 (qc (qr 2 ql) ql)) (qe 5)))))) z0u_ps1 z0u_as1 z0u_bd1 [(1,(Value.pointer (some t_1))),(2,(Value.pointer (some t_2))),(3,(Value.pointer (some take_3))),(4,(Value.pointer (some t_4))),(5,(Value.pointer (some t_5))),(6,(Value.int .i64 n_6)),(10,(Value.pointer (some options_10))),(11,(Value.pointer (some next_11))),(107,t_107)] [(Value.int .i64 t_108),t_109] M N R w:=by kernel_rfl
theorem z0u_y1 (Kv:VW)(t_1 t_2:Addr)(take_3 t_4 t_5:Addr)(n_6:Int)(options_10 next_11:Addr)(t_107:Value)(t_108:Int)(t_109:Value){fn d l:Nat}{tmps:Array Value}{K':VW}{w:World}(hag:agrT 139 [(1,(Value.pointer (some t_1))),(2,(Value.pointer (some t_2))),(3,(Value.pointer (some take_3))),(4,(Value.pointer (some t_4))),(5,(Value.pointer (some t_5))),(6,(Value.int .i64 n_6)),(10,(Value.pointer (some options_10))),(11,(Value.pointer (some next_11))),(107,t_107)] tmps)(hl:w.heap[l]?=some (lrec fn tmps z0u_ps1 z0u_as1 z0u_bd1 d .ready none))
    (h:z0u_r1 t_1 t_2 take_3 t_4 t_5 n_6 options_10 next_11 t_107 t_108 t_109 (rMid l fn tmps z0u_ps1 z0u_as1 z0u_bd1 d) (rN l fn tmps z0u_ps1 z0u_as1 z0u_bd1 d K') (rR l fn tmps z0u_ps1 z0u_as1 z0u_bd1 d K') (fun r0 r1 w'=>Kv (Value.tuple #[(Value.int .i64 r0),(Value.bool r1)]) w') w):Yl Tryz.prog l #[(Value.int .i64 t_108),t_109] w K' :=
  qdk (xa:=(qe 1)) (xb:=(qb (qs (A.drw (dp [0,1,3,4,5,6] (DA.two 2 (DA.eff 7 (DA.eff 8 (DA.dyn 9 (Value.tuple #[(Value.int .i64 0),(Value.bool false)]) (dp [10,11,12,13,14] DA.done)))) 7 (DA.eff 2 (DA.eff 8 (DA.dyn 9 (Value.tuple #[(Value.int .i64 0),(Value.bool false)]) (dp [10,11,12,13,14] DA.done))))))) (A.cut [4,5,11,12,13,14] (z0u_P2 Kv) (qs (qr 2 (qc (qr 2 ql) ql)) (qe 5)))))) (Γ:=z0u_E) progMixed ⟨.inl z0d_ok,.inl z4j_ok,.inl z0a_ok,.inl z30_ok,.inl z3m_ok,.inl z2y_ok,trivial⟩ (fun _=>rfl) (q36 (z0u_t1 Kv)) rfl rfl rfl hag hl rfl (by rw[← z0u_er1 Kv]; exact h.out)
structure z1h_sh (p0:Option Addr)(K:Pw.T0)(w:World):Prop where
 out:let w1:=w.alloc (.cells #[(.pointer p0)] 94)
  let w2:=w1.alloc (.cells #[Value.nilFunc] 149)
  wrOk w2 (hA w1 0)/\
  (let w3:=w2.setCell (hA w1 0) (Value.func (.func 110) #[] #[(.pointer (some (hA w 0))),(.pointer (some (hA w1 0)))])
  ∃ x4:Value,w3.cell? (hA w1 0)=some x4/\q2b Tryz.prog x4 [vN] w3 fun u5 w6=>∃ x7:Int,∃ x8:Bool,u5=(.tuple #[(vI x7),(.bool x8)])/\K x8 w6)
noncomputable def z1h_S:=sp [tP] [tB] z1h_sh
theorem z1h_ok:okP 53 z1h_S:=okR (x:=fun _=>qr 2 (qr 1 (qr 2 (qs (A.reg (qn 1 (RA.dyn (Value.tuple #[(Value.int .i64 0),(Value.bool false)]) (qn 5 RA.done)))) (qr 2 ql))))) (Γ:=[]) trivial Tryz.call53 Tryz.func53 (fun _=>hEnd)
structure z35_k0 (p4:Addr)(K:Pw.T13)(w:World):Prop where
 out:stN w p4 [vN,(vI 0),(vI 0),vN] fun w12=>lS w12 p4 fun x13=>lI w12 (p4.add 1) fun x14=>lI w12 (p4.add 2) fun x15=>lS w12 (p4.add 3) fun x16=>K x13 x14 x15 x16 1 w12
def z35_b2 (p2 p4 p6:Addr)(p9 p72 p73:Int)(p78:Sl)(p79 p80:Int)(N2:Addr->Addr->Addr->Int->Int->Int->Sl->Int->Int->World->Prop)(N1:Pw.T21)(K:Pw.T13)(w:World):Prop :=
 cnd (decide (p80<p79))
 (nz p78.p fun a57=>(0<=p80/\p80<(p78.l:Nat))/\lI w (a57.add (p80.toNat*1)) fun x58=>cnd (decide (x58>=0))
 (lS w (p2.add 1) fun x59=>nz x59.p fun a60=>(0<=x58/\x58<(x59.l:Nat))/\∃ x61:Int,w.cell? ((a60.add (x58.toNat*4)).add 3)=some (vI x61)/\inR .i64 (p80+1)/\N2 p2 p4 p6 (max p9 x61) p72 p73 p78 p79 (p80+1) w)
 (inR .i64 (p80+1)/\N2 p2 p4 p6 p9 p72 p73 p78 p79 (p80+1) w))
 (lI w (p6.add 2) fun x62=>inR .i64 (x62+p9)/\wrOk w (p6.add 2)/\
 (let w63:=w.setCell (p6.add 2) (vI (x62+p9))
 inR .i64 (p73+1)/\N1 p2 p4 p6 p72 (p73+1) w63))
structure z35_l2 (p2 p4 p6:Addr)(p9 p72 p73:Int)(p78:Sl)(p79 p80:Int)(N1:Pw.T21)(K:Pw.T13)(w:World):Prop where
 out:∃ (I:Int->Int->World->Prop) (μ:Int->Int->World->Nat),I p9 p80 w/\∀ (p91 p801:Int) (w1:World),I p91 p801 w1 ->
  z35_b2 p2 p4 p6 p91 p72 p73 p78 p79 p801 (fun p2' p4' p6' p9' p72' p73' p78' p79' p80' w'=>((p2'=p2/\p4'=p4/\p6'=p6/\p72'=p72/\p73'=p73/\p78'=p78/\p79'=p79/\True)/\I p9' p80' w')/\μ p9' p80' w'<μ p91 p801 w1) N1 K w1
def z35_b1 (p2 p4 p6:Addr)(p72 p73:Int)(N1:Pw.T21)(K:Pw.T13)(w:World):Prop :=
 cnd (decide (p73<p72))
 (z0d_sh (some p6) p73 (fun r56 w55=>z35_l2 p2 p4 p6 0 p72 p73 r56 (r56.l:Int) 0 N1 K w55) w)
 (lS w p6 fun x64=>lI w (p6.add 1) fun x65=>lI w (p6.add 2) fun x66=>lS w (p6.add 3) fun x67=>stN w p4 [(vS x64),(vI x65),(vI x66),(vS x67)] fun w68=>lS w68 p4 fun x69=>lI w68 (p4.add 1) fun x70=>lI w68 (p4.add 2) fun x71=>lS w68 (p4.add 3) fun x72=>K x69 x70 x71 x72 42 w68)
structure z35_l1 (p2 p4 p6:Addr)(p72 p73:Int)(K:Pw.T13)(w:World):Prop where
 out:∃ (I:Int->World->Prop) (μ:Int->World->Nat),I p73 w/\∀ (p731:Int) (w1:World),I p731 w1 ->
  z35_b1 p2 p4 p6 p72 p731 (fun p2' p4' p6' p72' p73' w'=>((p2'=p2/\p4'=p4/\p6'=p6/\p72'=p72/\True)/\I p73' w')/\μ p73' w'<μ p731 w1) K w1
structure z35_sh (p0_0 p0_1 p0_2:Sl)(p0_3 p0_4 p1:Int)(K:Pw.T13)(w:World):Prop where
 out:let w1:=w.alloc (.cells #[(vS p0_0),(vS p0_1),(vS p0_2),(vI p0_3),(vI p0_4)] 28)
  let w2:=w1.alloc (.cells #[vN,(vI 0),(vI 0),vN] 45)
  lS w2 (hA w 0) fun x3=>lS w2 (hA w 1) fun x4=>lS w2 (hA w 2) fun x5=>lI w2 (hA w 3) fun x6=>lI w2 (hA w 4) fun x7=>z37_sh x3 x4 x5 x6 x7 (fun r9 w8=>cnd (!r9)
  (z35_k0 (hA w1 0) K w8)
  (z31_sh p1 1048576 (fun r11 w10=>cnd (!r11)
  (z35_k0 (hA w1 0) K w10)
  (lS w10 (hA w 0) fun x17=>lS w10 (hA w 1) fun x18=>lS w10 (hA w 2) fun x19=>lI w10 (hA w 3) fun x20=>∃ x21:Int,w10.cell? (hA w 4)=some (vI x21)/\let w22:=w10.alloc (.cells #[vN,(vI 0),(vI 0),vN,(vS x17),(vS x18),(vS x19),(vI x20),(vI x21),(vI p1)] 96)
  let w23:=w22.alloc (.cells #[(vI (-1))] 3)
  lS w23 (hA w 0) fun x24=>z3e_sh (Sl.mk (some (hA w22 0)) 1 1) (x24.l:Int) (fun r26 w25=>wrOk w25 (hA w10 0)/\
  (let w27:=w25.setCell (hA w10 0) (vS r26)
  z1h_sh (some (hA w10 0)) (fun r29 w28=>let w30:=w28.drew
  ∃ S31:World->Prop,S31 w30/\mS S31 (hA w 0) fun x32=>mS S31 (hA w 1) fun x33=>mS S31 (hA w 2) fun x34=>mI S31 (hA w 3) fun x35=>mI S31 (hA w 4) fun x36=>mS S31 (hA w10 0) fun x37=>z0k_sh x32 x33 x34 x35 x36 x37 (fun r39 w38=>S31 w38/\wrOk w38 (hA w10 1)/\
  (let w40:=w38.setCell (hA w10 1) (vI r39)
  lI w40 (hA w10 1) fun x41=>wrOk w40 (hA w10 2)/\
  (let w42:=w40.setCell (hA w10 2) (vI x41)
  cnd r29
  (lS w42 (hA w10 0) fun x43=>lI w42 (hA w10 1) fun x44=>lI w42 (hA w10 2) fun x45=>lS w42 (hA w10 3) fun x46=>stN w42 (hA w1 0) [(vS x43),(vI x44),(vI x45),(vS x46)] fun w47=>lS w47 (hA w1 0) fun x48=>lI w47 (hA w1 1) fun x49=>lI w47 (hA w1 2) fun x50=>lS w47 (hA w1 3) fun x51=>K x48 x49 x50 x51 0 w47)
  (wrOk w42 (hA w10 3)/\
  (let w52:=w42.setCell (hA w10 3) vN
  wrOk w52 (hA w10 2)/\
  (let w53:=w52.setCell (hA w10 2) (vI 0)
  lS w53 (hA w 0) fun x54=>z35_l1 (hA w 0) (hA w1 0) (hA w10 0) (x54.l:Int) 0 K w53)))))) w30) w27)) w23)) w8)) w2
def z35_L0 (Kv:VW):Cur [tQ] WP:=fun p4=>z35_k0 p4 (kk [.u 2,.g 4,tL,tI,tI,tL,tI] Kv)
def z35_L1 (Kv:VW):Cur [tQ,tQ,tQ,tI,tI] WP:=fun p2 p4 p6 p72 p73=>z35_l1 p2 p4 p6 p72 p73 (kk [.u 2,.g 4,tL,tI,tI,tL,tI] Kv)
def z35_L2 (Kv:VW):Cur [tQ,tQ,tQ,tI,tI] WP->Cur [tQ,tQ,tQ,tI,tI,tI,tL,tI,tI] WP:=fun N1 p2 p4 p6 p9 p72 p73 p78 p79 p80=>z35_l2 p2 p4 p6 p9 p72 p73 p78 p79 p80 N1 (kk [.u 2,.g 4,tL,tI,tI,tL,tI] Kv)
noncomputable def z35_S:=sp [.g 5,tL,tL,tL,tI,tI,tI] [.u 2,.g 4,tL,tI,tI,tL,tI] z35_sh
theorem z35_ok:okP 25 z35_S:=okR (x:=fun Kv=>qr 3 (qs (qs (A.reg (qn 4 (RA.spl 15 (qk 3 (qn 1 RA.done)) (qn 4 RA.done)))) (qc (A.cut [4] (uR0 [tQ] (z35_L0 Kv)) (qr 3 ql)) ql)) (qr 5 (qr 10 (qr 3 (qs (A.drw (dp [0,1,2,3,4,5,6,7] (DA.eff 8 (dp [9,10,11] (DA.eff 12 DA.done))))) (qr 10 (qs (qr 1 (qc (qr 6 ql) ql)) (qr 5 (qr 5 (qs (qr 4 (qb (A.loop [2,4,6,72,73] (uR0 [tQ,tQ,tQ,tI,tI] (z35_L1 Kv)) (qr 1 (qs (qc ql ql) (qs (qb (qr 2 (qr 1 (qs (qr 5 (qb (A.loop [2,4,6,9,72,73,78,79,80] (uR1 [tQ,tQ,tQ,tI,tI] [tQ,tQ,tQ,tI,tI,tI,tL,tI,tI] (z35_L2 Kv)) (qr 1 (qs (qc ql ql) (qs (qb (qr 3 (qr 2 (qc (qe 9) ql)))) (qe 2))))))) (qe 11))))) (qe 2))))))) (qr 6 ql)))))))))))) (Γ:=[(50,z37_S),(51,z31_S),(52,z3e_S),(53,z1h_S),(54,z0k_S),(55,z0d_S)]) ⟨.inl z37_ok,.inl z31_ok,.inl z3e_ok,.inl z1h_ok,.inl z0k_ok,.inl z0d_ok,trivial⟩ Tryz.call25 Tryz.func25 (fun Kv=>q07 (hK0 (F:=z35_L0 Kv)) <| q07 (q0a (L:=z35_L1 Kv) (fun N1 p2 p4 p6 p72 p73=>z35_b1 p2 p4 p6 p72 p73 N1 (kk [.u 2,.g 4,tL,tI,tI,tL,tI] Kv)) (fun⟨a0,a1,a2,a3,_,_⟩ _ h=>let ⟨I,μ,h0,hr⟩:=h.out; ⟨fun b0 b1 b2 b3 b4 w=>(b0=a0/\b1=a1/\b2=a2/\b3=a3/\True)/\I b4 w,fun _ _ _ _ b4 w=>μ b4 w,⟨⟨rfl,rfl,rfl,rfl,trivial⟩,h0⟩,fun⟨_,_,_,_,_,_⟩ _ ⟨⟨e0,e1,e2,e3,_⟩,hI⟩=>by cases e0; cases e1; cases e2; cases e3; exact hr _ _ hI⟩)) <| q07 (q3q (L:=z35_L2 Kv) (fun N1 N2 p2 p4 p6 p9 p72 p73 p78 p79 p80=>z35_b2 p2 p4 p6 p9 p72 p73 p78 p79 p80 N2 N1 (kk [.u 2,.g 4,tL,tI,tI,tL,tI] Kv)) (fun _ ⟨a0,a1,a2,_,a4,a5,a6,a7,_,_⟩ _ h=>let ⟨I,μ,h0,hr⟩:=h.out; ⟨fun b0 b1 b2 b3 b4 b5 b6 b7 b8 w=>(b0=a0/\b1=a1/\b2=a2/\b4=a4/\b5=a5/\b6=a6/\b7=a7/\True)/\I b3 b8 w,fun _ _ _ b3 _ _ _ _ b8 w=>μ b3 b8 w,⟨⟨rfl,rfl,rfl,rfl,rfl,rfl,rfl,trivial⟩,h0⟩,fun⟨_,_,_,_,_,_,_,_,_,_⟩ _ ⟨⟨e0,e1,e2,e4,e5,e6,e7,_⟩,hI⟩=>by cases e0; cases e1; cases e2; cases e4; cases e5; cases e6; cases e7; exact hr _ _ _ hI⟩)) <| hEnd)
end Go.Proofs.YtfpobpjandjhjaaGreatDoor
