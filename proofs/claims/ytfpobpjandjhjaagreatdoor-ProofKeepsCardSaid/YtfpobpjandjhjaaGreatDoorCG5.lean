/- The bodies' formulas, by program. -/
import Derived.Test.YtfpobpjandjhjaaGreatDoorProg
import Derived.KernelRfl
import Derived.Test.YtfpobpjandjhjaaGreatDoorPwY
import Derived.Test.YtfpobpjandjhjaaGreatDoorCG0
import Derived.Test.YtfpobpjandjhjaaGreatDoorCG1
import Derived.Test.YtfpobpjandjhjaaGreatDoorCG2
import Derived.Test.YtfpobpjandjhjaaGreatDoorCG3
import Derived.Test.YtfpobpjandjhjaaGreatDoorCG4
set_option maxRecDepth 20000
namespace Go.Proofs.YtfpobpjandjhjaaGreatDoor
open Go Pw
def z08_sd (m_0:Option Addr)(n_1:Int)(K:Pw.T1)(w:World):Prop :=
 let w1:=w.drew
 nz m_0 fun a2=>∃ x3:Int,w1.cell? (a2.add 1)=some (Value.int .i64 x3)/\nz m_0 fun a4=>∃ x5:Sl,w1.cell? a4=some (Value.slice x5.p x5.l x5.c)/\cnd (decide (x3>=(x5.l:Int)))
 (K (0:Int) w1)
 (nz m_0 fun a6=>∃ x7:Int,w1.cell? (a6.add 1)=some (Value.int .i64 x7)/\inR .i64 (x7+(1:Int))/\nz m_0 fun a8=>wrOk w1 (a8.add 1)/\
 (let w9:=w1.setCell (a8.add 1) (Value.int .i64 (x7+(1:Int)))
 let w10:=w9.drew
 ∃ S11:World->Prop,S11 w10/\nz m_0 fun a12=>∃ x13:Sl,(∀ w':World,S11 w'->w'.cell? a12=some (Value.slice x13.p x13.l x13.c))/\nz m_0 fun a14=>∃ x15:Int,(∀ w':World,S11 w'->w'.cell? (a14.add 1)=some (Value.int .i64 x15))/\inR .i64 (x15-(1:Int))/\nz x13.p fun a16=>(0<=(x15-(1:Int))/\(x15-(1:Int))<(x13.l:Nat))/\∃ x17:Int,(∀ w':World,S11 w'->w'.cell? (a16.add ((x15-(1:Int)).toNat*1))=some (Value.int .i64 x17))/\z2v_sh x17 n_1 (fun r19 w18=>S11 w18/\K r19 w18) w10))
structure z08_sh (m_0:Option Addr)(n_1:Int)(K:Pw.T1)(w:World):Prop where
 out:z08_sd m_0 n_1 K w
noncomputable def z08_S:Pw.Spec:=fun vs w Kv=>un [tP,tI] (fun m_0 n_1=>z08_sh m_0 n_1 (kk [tI] Kv)) nF vs w
def z08_A (_:VW):A:=(qr 1 (qs (qs (A.drp (dp [0,1,2,3,4,5,6,7,8,9] DA.done)) (qc (qr 1 ql) ql)) (qr 8 (qs (A.drw (dp [0,1,2,3,4,5,6,7,8,9,10,11] (DA.eff 12 (DA.pur 13 DA.done)))) ql))))
theorem z08_ok:Sound Tryz.prog 34 z08_S:=okS (x:=z08_A) (fun Kv m_0 n_1=>z08_sd m_0 n_1 (kk [tI] Kv)) progMixed (Γ:=[(35,z2v_S)]) ⟨.inl z2v_ok,trivial⟩ Tryz.call34 Tryz.func34 (fun _=>hEnd)
def z2h_b3 (t_2 m_3 p_4:Addr)(lots_5 deals_9 i_10:Int)(d_11:Addr)(set_12 k_13:Int)(N3:Addr->Addr->Addr->Int->Int->Int->Addr->Int->Int->World->Prop)(N2:Addr->Addr->Addr->Int->Int->Int->World->Prop)(K:Pw.T8)(w:World):Prop :=
 cnd (decide (k_13<lots_5))
 (0<=k_13/\cnd ((IntKind.wrap .i64 (((BitVec.ofInt (IntKind.bits .i64) (Int.fdiv set_12 (2^(min k_13.toNat (IntKind.bits .i64)))) &&& BitVec.ofInt (IntKind.bits .i64) (1:Int))).toNat:Int)) == (1:Int))
 (let w50:=w.drew
 ∃ S51:World->Prop,S51 w50/\∃ x52:Sl,(∀ w':World,S51 w'->w'.cell? (d_11.add 1)=some (Value.slice x52.p x52.l x52.c))/\∃ x53:Sl,(∀ w':World,S51 w'->w'.cell? p_4=some (Value.slice x53.p x53.l x53.c))/\nz x53.p fun a54=>(0<=k_13/\k_13<(x53.l:Nat))/\∃ x55:Int,(∀ w':World,S51 w'->w'.cell? (a54.add (k_13.toNat*1))=some (Value.int .i64 x55))/\let w56:=w50.alloc (Obj.cells #[(Value.int .i64 x55)] 3)
 S51 w56/\apS 1 8 [(Value.int .i64 0)] 3 x52 (Sl.mk (some (Addr.mk w50.heap.size 0 none)) 1 1) w56 fun s57 w58=>S51 w58/\wrOk w58 (d_11.add 1)/\
 (let w59:=w58.setCell (d_11.add 1) (Value.slice s57.p s57.l s57.c)
 inR .i64 (k_13+(1:Int))/\N3 t_2 m_3 p_4 lots_5 deals_9 i_10 d_11 set_12 (k_13+(1:Int)) w59))
 (inR .i64 (k_13+(1:Int))/\N3 t_2 m_3 p_4 lots_5 deals_9 i_10 d_11 set_12 (k_13+(1:Int)) w))
 (∃ x60:Sl,w.cell? (p_4.add 2)=some (Value.slice x60.p x60.l x60.c)/\∃ x61:Int,w.cell? d_11=some (Value.int .i64 x61)/\∃ x62:Sl,w.cell? (d_11.add 1)=some (Value.slice x62.p x62.l x62.c)/\∃ x63:Int,w.cell? (d_11.add 2)=some (Value.int .i64 x63)/\let w64:=w.alloc (Obj.cells #[(Value.int .i64 x61),(Value.slice x62.p x62.l x62.c),(Value.int .i64 x63)] 81)
 apS 3 40 [(Value.int .i64 0),(Value.slice none 0 0),(Value.int .i64 0)] 81 x60 (Sl.mk (some (Addr.mk w.heap.size 0 none)) 1 1) w64 fun s65 w66=>wrOk w66 (p_4.add 2)/\
 (let w67:=w66.setCell (p_4.add 2) (Value.slice s65.p s65.l s65.c)
 inR .i64 (i_10+(1:Int))/\N2 t_2 m_3 p_4 lots_5 deals_9 (i_10+(1:Int)) w67))
def z2h_l3d (t_2 m_3 p_4:Addr)(lots_5 deals_9 i_10:Int)(d_11:Addr)(set_12 k_13:Int)(N2:Addr->Addr->Addr->Int->Int->Int->World->Prop)(K:Pw.T8)(w:World):Prop :=
 ∃ (I:Int->World->Prop) (μ:Int->World->Nat),I k_13 w/\∀ (k_131:Int) (w1:World),I k_131 w1 ->
 z2h_b3 t_2 m_3 p_4 lots_5 deals_9 i_10 d_11 set_12 k_131 (fun t_2' m_3' p_4' lots_5' deals_9' i_10' d_11' set_12' k_13' w'=>((t_2'=t_2/\m_3'=m_3/\p_4'=p_4/\lots_5'=lots_5/\deals_9'=deals_9/\i_10'=i_10/\d_11'=d_11/\set_12'=set_12/\True)/\I k_13' w')/\μ k_13' w'<μ k_131 w1) N2 K w1
structure z2h_l3 (t_2 m_3 p_4:Addr)(lots_5 deals_9 i_10:Int)(d_11:Addr)(set_12 k_13:Int)(N2:Addr->Addr->Addr->Int->Int->Int->World->Prop)(K:Pw.T8)(w:World):Prop where
 out:z2h_l3d t_2 m_3 p_4 lots_5 deals_9 i_10 d_11 set_12 k_13 N2 K w
def z2h_b2 (t_2 m_3 p_4:Addr)(lots_5 deals_9 i_10:Int)(N2:Addr->Addr->Addr->Int->Int->Int->World->Prop)(K:Pw.T8)(w:World):Prop :=
 cnd (decide (i_10<deals_9))
 (z08_sh (some m_3) (4:Int) (fun r43 w42=>inR .i64 ((1:Int)+r43)/\z08_sh (some m_3) (6:Int) (fun r45 w44=>let w46:=w44.alloc (Obj.cells #[(Value.int .i64 0),(Value.slice none 0 0),(Value.int .i64 0)] 81)
 stN w46 (Addr.mk w44.heap.size 0 none) [(Value.int .i64 ((1:Int)+r43)),(Value.slice none 0 0),(Value.int .i64 r45)] fun w47=>0<=lots_5/\inR .i64 ((IntKind.wrap .i64 ((1:Int)*2^(min lots_5.toNat (IntKind.bits .i64))))-(1:Int))/\z08_sh (some m_3) ((IntKind.wrap .i64 ((1:Int)*2^(min lots_5.toNat (IntKind.bits .i64))))-(1:Int)) (fun r49 w48=>inR .i64 ((1:Int)+r49)/\z2h_l3 t_2 m_3 p_4 lots_5 deals_9 i_10 (Addr.mk w44.heap.size 0 none) ((1:Int)+r49) (0:Int) N2 K w48) w47) w42) w)
 (∃ x68:Sl,w.cell? p_4=some (Value.slice x68.p x68.l x68.c)/\∃ x69:Sl,w.cell? (p_4.add 1)=some (Value.slice x69.p x69.l x69.c)/\∃ x70:Sl,w.cell? (p_4.add 2)=some (Value.slice x70.p x70.l x70.c)/\∃ x71:Int,w.cell? (p_4.add 3)=some (Value.int .i64 x71)/\∃ x72:Int,w.cell? (p_4.add 4)=some (Value.int .i64 x72)/\stN w t_2 [(Value.slice x68.p x68.l x68.c),(Value.slice x69.p x69.l x69.c),(Value.slice x70.p x70.l x70.c),(Value.int .i64 x71),(Value.int .i64 x72)] fun w73=>∃ x74:Sl,w73.cell? t_2=some (Value.slice x74.p x74.l x74.c)/\∃ x75:Sl,w73.cell? (t_2.add 1)=some (Value.slice x75.p x75.l x75.c)/\∃ x76:Sl,w73.cell? (t_2.add 2)=some (Value.slice x76.p x76.l x76.c)/\∃ x77:Int,w73.cell? (t_2.add 3)=some (Value.int .i64 x77)/\∃ x78:Int,w73.cell? (t_2.add 4)=some (Value.int .i64 x78)/\K x74 x75 x76 x77 x78 w73)
def z2h_l2d (t_2 m_3 p_4:Addr)(lots_5 deals_9 i_10:Int)(K:Pw.T8)(w:World):Prop :=
 ∃ (I:Int->World->Prop) (μ:Int->World->Nat),I i_10 w/\∀ (i_101:Int) (w1:World),I i_101 w1 ->
 z2h_b2 t_2 m_3 p_4 lots_5 deals_9 i_101 (fun t_2' m_3' p_4' lots_5' deals_9' i_10' w'=>((t_2'=t_2/\m_3'=m_3/\p_4'=p_4/\lots_5'=lots_5/\deals_9'=deals_9/\True)/\I i_10' w')/\μ i_10' w'<μ i_101 w1) K w1
structure z2h_l2 (t_2 m_3 p_4:Addr)(lots_5 deals_9 i_10:Int)(K:Pw.T8)(w:World):Prop where
 out:z2h_l2d t_2 m_3 p_4 lots_5 deals_9 i_10 K w
def z2h_b1 (t_2 m_3 p_4:Addr)(lots_5 choices_7 i_8:Int)(N1:Addr->Addr->Addr->Int->Int->Int->World->Prop)(K:Pw.T8)(w:World):Prop :=
 cnd (decide (i_8<choices_7))
 (let w22:=w.drew
 ∃ S23:World->Prop,S23 w22/\∃ x24:Sl,(∀ w':World,S23 w'->w'.cell? (p_4.add 1)=some (Value.slice x24.p x24.l x24.c))/\∃ x25:Sl,(∀ w':World,S23 w'->w'.cell? p_4=some (Value.slice x25.p x25.l x25.c))/\z08_sh (some m_3) lots_5 (fun r27 w26=>S23 w26/\nz x25.p fun a28=>(0<=r27/\r27<(x25.l:Nat))/\∃ x29:Int,(∀ w':World,S23 w'->w'.cell? (a28.add (r27.toNat*1))=some (Value.int .i64 x29))/\z08_sh (some m_3) (4:Int) (fun r31 w30=>S23 w30/\inR .i64 ((1:Int)+r31)/\z08_sh (some m_3) (12:Int) (fun r33 w32=>S23 w32/\z08_sh (some m_3) (6:Int) (fun r35 w34=>S23 w34/\let w36:=w34.alloc (Obj.cells #[(Value.int .i64 x29),(Value.int .i64 ((1:Int)+r31)),(Value.int .i64 r33),(Value.int .i64 r35)] 57)
 S23 w36/\apS 4 32 [(Value.int .i64 0),(Value.int .i64 0),(Value.int .i64 0),(Value.int .i64 0)] 57 x24 (Sl.mk (some (Addr.mk w34.heap.size 0 none)) 1 1) w36 fun s37 w38=>S23 w38/\wrOk w38 (p_4.add 1)/\
 (let w39:=w38.setCell (p_4.add 1) (Value.slice s37.p s37.l s37.c)
 inR .i64 (i_8+(1:Int))/\N1 t_2 m_3 p_4 lots_5 choices_7 (i_8+(1:Int)) w39)) w32) w30) w26) w22)
 (z08_sh (some m_3) (4:Int) (fun r41 w40=>z2h_l2 t_2 m_3 p_4 lots_5 r41 (0:Int) K w40) w)
def z2h_l1d (t_2 m_3 p_4:Addr)(lots_5 choices_7 i_8:Int)(K:Pw.T8)(w:World):Prop :=
 ∃ (I:Int->World->Prop) (μ:Int->World->Nat),I i_8 w/\∀ (i_81:Int) (w1:World),I i_81 w1 ->
 z2h_b1 t_2 m_3 p_4 lots_5 choices_7 i_81 (fun t_2' m_3' p_4' lots_5' choices_7' i_8' w'=>((t_2'=t_2/\m_3'=m_3/\p_4'=p_4/\lots_5'=lots_5/\choices_7'=choices_7/\True)/\I i_8' w')/\μ i_8' w'<μ i_81 w1) K w1
structure z2h_l1 (t_2 m_3 p_4:Addr)(lots_5 choices_7 i_8:Int)(K:Pw.T8)(w:World):Prop where
 out:z2h_l1d t_2 m_3 p_4 lots_5 choices_7 i_8 K w
def z2h_b0 (t_2 m_3 p_4:Addr)(lots_5 i_6:Int)(N0:Addr->Addr->Addr->Int->Int->World->Prop)(K:Pw.T8)(w:World):Prop :=
 cnd (decide (i_6<lots_5))
 (let w11:=w.drew
 ∃ S12:World->Prop,S12 w11/\∃ x13:Sl,(∀ w':World,S12 w'->w'.cell? p_4=some (Value.slice x13.p x13.l x13.c))/\inR .i64 ((3:Int)*i_6)/\inR .i64 ((10:Int)+((3:Int)*i_6))/\z08_sh (some m_3) (2:Int) (fun r15 w14=>S12 w14/\inR .i64 ((2:Int)*r15)/\inR .i64 (((10:Int)+((3:Int)*i_6))-((2:Int)*r15))/\let w16:=w14.alloc (Obj.cells #[(Value.int .i64 (((10:Int)+((3:Int)*i_6))-((2:Int)*r15)))] 3)
 S12 w16/\apS 1 8 [(Value.int .i64 0)] 3 x13 (Sl.mk (some (Addr.mk w14.heap.size 0 none)) 1 1) w16 fun s17 w18=>wrOk w18 p_4/\
 (let w19:=w18.setCell p_4 (Value.slice s17.p s17.l s17.c)
 inR .i64 (i_6+(1:Int))/\N0 t_2 m_3 p_4 lots_5 (i_6+(1:Int)) w19)) w11)
 (z08_sh (some m_3) (13:Int) (fun r21 w20=>z2h_l1 t_2 m_3 p_4 lots_5 r21 (0:Int) K w20) w)
def z2h_l0d (t_2 m_3 p_4:Addr)(lots_5 i_6:Int)(K:Pw.T8)(w:World):Prop :=
 ∃ (I:Int->World->Prop) (μ:Int->World->Nat),I i_6 w/\∀ (i_61:Int) (w1:World),I i_61 w1 ->
 z2h_b0 t_2 m_3 p_4 lots_5 i_61 (fun t_2' m_3' p_4' lots_5' i_6' w'=>((t_2'=t_2/\m_3'=m_3/\p_4'=p_4/\lots_5'=lots_5/\True)/\I i_6' w')/\μ i_6' w'<μ i_61 w1) K w1
structure z2h_l0 (t_2 m_3 p_4:Addr)(lots_5 i_6:Int)(K:Pw.T8)(w:World):Prop where
 out:z2h_l0d t_2 m_3 p_4 lots_5 i_6 K w
def z2h_sd (l_0:Sl)(K:Pw.T8)(w:World):Prop :=
 let w1:=w.alloc (Obj.cells #[(Value.slice none 0 0),(Value.slice none 0 0),(Value.slice none 0 0),(Value.int .i64 0),(Value.int .i64 0)] 28)
 let w2:=w1.alloc (Obj.cells #[(Value.slice l_0.p l_0.l l_0.c),(Value.int .i64 0)] 78)
 z08_sh (some (Addr.mk w1.heap.size 0 none)) (4:Int) (fun r4 w3=>z08_sh (some (Addr.mk w1.heap.size 0 none)) (30:Int) (fun r6 w5=>let w7:=w5.alloc (Obj.cells #[(Value.slice none 0 0),(Value.slice none 0 0),(Value.slice none 0 0),(Value.int .i64 0),(Value.int .i64 0)] 28)
 stN w7 (Addr.mk w5.heap.size 0 none) [(Value.slice none 0 0),(Value.slice none 0 0),(Value.slice none 0 0),(Value.int .i64 r4),(Value.int .i64 r6)] fun w8=>z08_sh (some (Addr.mk w1.heap.size 0 none)) (4:Int) (fun r10 w9=>inR .i64 ((1:Int)+r10)/\z2h_l0 (Addr.mk w.heap.size 0 none) (Addr.mk w1.heap.size 0 none) (Addr.mk w5.heap.size 0 none) ((1:Int)+r10) (0:Int) K w9) w8) w3) w2
structure z2h_sh (l_0:Sl)(K:Pw.T8)(w:World):Prop where
 out:z2h_sd l_0 K w
def z2h_L0 (Kv:VW):Cur [tQ,tQ,tQ,tI,tI] WP:=fun t_2 m_3 p_4 lots_5 i_6=>z2h_l0 t_2 m_3 p_4 lots_5 i_6 (kk [.g 5,tL,tL,tL,tI,tI] Kv)
def z2h_L1 (Kv:VW):Cur [tQ,tQ,tQ,tI,tI,tI] WP:=fun t_2 m_3 p_4 lots_5 choices_7 i_8=>z2h_l1 t_2 m_3 p_4 lots_5 choices_7 i_8 (kk [.g 5,tL,tL,tL,tI,tI] Kv)
def z2h_L2 (Kv:VW):Cur [tQ,tQ,tQ,tI,tI,tI] WP:=fun t_2 m_3 p_4 lots_5 deals_9 i_10=>z2h_l2 t_2 m_3 p_4 lots_5 deals_9 i_10 (kk [.g 5,tL,tL,tL,tI,tI] Kv)
def z2h_L3 (Kv:VW):Cur [tQ,tQ,tQ,tI,tI,tI] WP->Cur [tQ,tQ,tQ,tI,tI,tI,tQ,tI,tI] WP:=fun N2 t_2 m_3 p_4 lots_5 deals_9 i_10 d_11 set_12 k_13=>z2h_l3 t_2 m_3 p_4 lots_5 deals_9 i_10 d_11 set_12 k_13 N2 (kk [.g 5,tL,tL,tL,tI,tI] Kv)
noncomputable def z2h_S:Pw.Spec:=fun vs w Kv=>un [tL] (fun l_0=>z2h_sh l_0 (kk [.g 5,tL,tL,tL,tI,tI] Kv)) nF vs w
def z2h_A (Kv:VW):A:=(qr 1 (qr 4 (qr 7 (qr 4 (qs (qr 1 (qb (A.loop [2,3,4,5,6] (uR0 [tQ,tQ,tQ,tI,tI] (z2h_L0 Kv)) (qs (qr 3 (qc ql ql)) (qs (qb (A.drw (dp [0,1,2,3,4,5] (DA.eff 6 (dp [7,8] (DA.eff 9 (DA.eff 10 (DA.pur 11 (DA.eff 12 DA.done))))))))) (qe 3)))))) (qr 3 (qs (qr 1 (qb (A.loop [2,3,4,5,7,8] (uR0 [tQ,tQ,tQ,tI,tI,tI] (z2h_L1 Kv)) (qs (qr 3 (qc ql ql)) (qs (qb (A.drw (dp [0,1,2,3,4,5,9,12,14] (DA.eff 6 (dp [7,8] (DA.eff 10 (DA.pur 11 (DA.eff 13 (DA.eff 15 (DA.pur 16 (DA.eff 17 (DA.eff 18 (DA.pur 19 (DA.eff 20 DA.done)))))))))))))) (qe 3)))))) (qr 3 (qs (qr 1 (qb (A.loop [2,3,4,5,9,10] (uR0 [tQ,tQ,tQ,tI,tI,tI] (z2h_L2 Kv)) (qs (qr 3 (qc ql ql)) (qs (qb (qr 8 (qr 7 (qs (qr 1 (qb (A.loop [2,3,4,5,9,10,11,12,13] (uR1 [tQ,tQ,tQ,tI,tI,tI] [tQ,tQ,tQ,tI,tI,tI,tQ,tI,tI] (z2h_L3 Kv)) (qs (qr 3 (qc ql ql)) (qs (qb (qr 5 (qc (A.drw (dp [0,1,2,3,4,5,6] (DA.eff 7 (DA.eff 8 (DA.pur 9 (DA.eff 10 DA.done)))))) ql))) (qe 3)))))) (qe 7))))) (qe 3)))))) (qr 2 ql))))))))))
theorem z2h_ok:Sound Tryz.prog 11 z2h_S:=okS (x:=z2h_A) (fun Kv l_0=>z2h_sd l_0 (kk [.g 5,tL,tL,tL,tI,tI] Kv)) progMixed (Γ:=[(34,z08_S)]) ⟨.inl z08_ok,trivial⟩ Tryz.call11 Tryz.func11 (fun Kv=>hStep (hLoop0 (L:=z2h_L0 Kv) (fun N0 t_2 m_3 p_4 lots_5 i_6=>z2h_b0 t_2 m_3 p_4 lots_5 i_6 N0 (kk [.g 5,tL,tL,tL,tI,tI] Kv)) (fun⟨a0,a1,a2,a3,_,_⟩ _ h=>let ⟨I,μ,h0,hr⟩:=h.out; ⟨fun b0 b1 b2 b3 b4 w=>(b0=a0/\b1=a1/\b2=a2/\b3=a3/\True)/\I b4 w,fun _ _ _ _ b4 w=>μ b4 w,⟨⟨rfl,rfl,rfl,rfl,trivial⟩,h0⟩,fun⟨_,_,_,_,_,_⟩ _ ⟨⟨e0,e1,e2,e3,_⟩,hI⟩=>by cases e0; cases e1; cases e2; cases e3; exact hr _ _ hI⟩)) <| hStep (hLoop0 (L:=z2h_L1 Kv) (fun N1 t_2 m_3 p_4 lots_5 choices_7 i_8=>z2h_b1 t_2 m_3 p_4 lots_5 choices_7 i_8 N1 (kk [.g 5,tL,tL,tL,tI,tI] Kv)) (fun⟨a0,a1,a2,a3,a4,_,_⟩ _ h=>let ⟨I,μ,h0,hr⟩:=h.out; ⟨fun b0 b1 b2 b3 b4 b5 w=>(b0=a0/\b1=a1/\b2=a2/\b3=a3/\b4=a4/\True)/\I b5 w,fun _ _ _ _ _ b5 w=>μ b5 w,⟨⟨rfl,rfl,rfl,rfl,rfl,trivial⟩,h0⟩,fun⟨_,_,_,_,_,_,_⟩ _ ⟨⟨e0,e1,e2,e3,e4,_⟩,hI⟩=>by cases e0; cases e1; cases e2; cases e3; cases e4; exact hr _ _ hI⟩)) <| hStep (hLoop0 (L:=z2h_L2 Kv) (fun N2 t_2 m_3 p_4 lots_5 deals_9 i_10=>z2h_b2 t_2 m_3 p_4 lots_5 deals_9 i_10 N2 (kk [.g 5,tL,tL,tL,tI,tI] Kv)) (fun⟨a0,a1,a2,a3,a4,_,_⟩ _ h=>let ⟨I,μ,h0,hr⟩:=h.out; ⟨fun b0 b1 b2 b3 b4 b5 w=>(b0=a0/\b1=a1/\b2=a2/\b3=a3/\b4=a4/\True)/\I b5 w,fun _ _ _ _ _ b5 w=>μ b5 w,⟨⟨rfl,rfl,rfl,rfl,rfl,trivial⟩,h0⟩,fun⟨_,_,_,_,_,_,_⟩ _ ⟨⟨e0,e1,e2,e3,e4,_⟩,hI⟩=>by cases e0; cases e1; cases e2; cases e3; cases e4; exact hr _ _ hI⟩)) <| hStep (hLoop1 (L:=z2h_L3 Kv) (fun N2 N3 t_2 m_3 p_4 lots_5 deals_9 i_10 d_11 set_12 k_13=>z2h_b3 t_2 m_3 p_4 lots_5 deals_9 i_10 d_11 set_12 k_13 N3 N2 (kk [.g 5,tL,tL,tL,tI,tI] Kv)) (fun _ ⟨a0,a1,a2,a3,a4,a5,a6,a7,_,_⟩ _ h=>let ⟨I,μ,h0,hr⟩:=h.out; ⟨fun b0 b1 b2 b3 b4 b5 b6 b7 b8 w=>(b0=a0/\b1=a1/\b2=a2/\b3=a3/\b4=a4/\b5=a5/\b6=a6/\b7=a7/\True)/\I b8 w,fun _ _ _ _ _ _ _ _ b8 w=>μ b8 w,⟨⟨rfl,rfl,rfl,rfl,rfl,rfl,rfl,rfl,trivial⟩,h0⟩,fun⟨_,_,_,_,_,_,_,_,_,_⟩ _ ⟨⟨e0,e1,e2,e3,e4,e5,e6,e7,_⟩,hI⟩=>by cases e0; cases e1; cases e2; cases e3; cases e4; cases e5; cases e6; cases e7; exact hr _ _ hI⟩)) <| hEnd)
def z2g_b0 (a_0 b_1:Sl)(i_5:Int)(N0:Sl->Sl->Int->World->Prop)(K:Pw.T0)(w:World):Prop :=
 cnd (decide (i_5<(a_0.l:Int)))
 (let w1:=w.drew
 nz a_0.p fun a2=>(0<=i_5/\i_5<(a_0.l:Nat))/\∃ x3:Int,w1.cell? (a2.add (i_5.toNat*1))=some (Value.int .i64 x3)/\nz b_1.p fun a4=>(0<=i_5/\i_5<(b_1.l:Nat))/\∃ x5:Int,w1.cell? (a4.add (i_5.toNat*1))=some (Value.int .i64 x5)/\cnd (x3 != x5)
 (K false w1)
 (inR .i64 (i_5+(1:Int))/\N0 a_0 b_1 (i_5+(1:Int)) w1))
 (K true w)
def z2g_l0d (a_0 b_1:Sl)(i_5:Int)(K:Pw.T0)(w:World):Prop :=
 ∃ (I:Int->World->Prop) (μ:Int->World->Nat),I i_5 w/\∀ (i_51:Int) (w1:World),I i_51 w1 ->
 z2g_b0 a_0 b_1 i_51 (fun a_0' b_1' i_5' w'=>((a_0'=a_0/\b_1'=b_1/\True)/\I i_5' w')/\μ i_5' w'<μ i_51 w1) K w1
structure z2g_l0 (a_0 b_1:Sl)(i_5:Int)(K:Pw.T0)(w:World):Prop where
 out:z2g_l0d a_0 b_1 i_5 K w
def z2g_sd (a_0 b_1:Sl)(K:Pw.T0)(w:World):Prop :=
 cnd ((a_0.l:Int) != (b_1.l:Int))
 (K false w)
 (z2g_l0 a_0 b_1 (0:Int) K w)
structure z2g_sh (a_0 b_1:Sl)(K:Pw.T0)(w:World):Prop where
 out:z2g_sd a_0 b_1 K w
def z2g_L0 (Kv:VW):Cur [tL,tL,tI] WP:=fun a_0 b_1 i_5=>z2g_l0 a_0 b_1 i_5 (kk [tB] Kv)
noncomputable def z2g_S:Pw.Spec:=fun vs w Kv=>un [tL,tL] (fun a_0 b_1=>z2g_sh a_0 b_1 (kk [tB] Kv)) nF vs w
def z2g_A (Kv:VW):A:=(qr 1 (qs (qr 5 (qc (qr 1 ql) ql)) (qs (qr 1 (qb (A.loop [0,1,5] (uR0 [tL,tL,tI] (z2g_L0 Kv)) (qs (qr 4 (qc ql ql)) (qs (qb (qs (A.drp (dp [0,1,2,3,4,5,6,7,8] DA.done)) (qc (qr 1 ql) ql))) (qe 3)))))) (qr 1 ql))))
theorem z2g_ok:Sound Tryz.prog 24 z2g_S:=okS (x:=z2g_A) (fun Kv a_0 b_1=>z2g_sd a_0 b_1 (kk [tB] Kv)) progMixed (Γ:=[]) trivial Tryz.call24 Tryz.func24 (fun Kv=>hStep (hLoop0 (L:=z2g_L0 Kv) (fun N0 a_0 b_1 i_5=>z2g_b0 a_0 b_1 i_5 N0 (kk [tB] Kv)) (fun⟨a0,a1,_,_⟩ _ h=>let ⟨I,μ,h0,hr⟩:=h.out; ⟨fun b0 b1 b2 w=>(b0=a0/\b1=a1/\True)/\I b2 w,fun _ _ b2 w=>μ b2 w,⟨⟨rfl,rfl,trivial⟩,h0⟩,fun⟨_,_,_,_⟩ _ ⟨⟨e0,e1,_⟩,hI⟩=>by cases e0; cases e1; exact hr _ _ hI⟩)) <| hEnd)
end Go.Proofs.YtfpobpjandjhjaaGreatDoor
