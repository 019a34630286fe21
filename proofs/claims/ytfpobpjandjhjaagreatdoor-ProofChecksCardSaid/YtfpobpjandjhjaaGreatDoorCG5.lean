/- The bodies' formulas, by program. -/
import Derived.Test.YtfpobpjandjhjaaGreatDoorCG4
set_option maxRecDepth 20000
namespace Go.Proofs.YtfpobpjandjhjaaGreatDoor
open Go Pw
structure z05_sh (p0:Option Addr)(p1:Int)(K:Pw.T1)(w:World):Prop where
 out:let w1:=w.drew
  nz p0 fun a2=>lI w1 (a2.add 1) fun x3=>nz p0 fun a4=>lS w1 a4 fun x5=>cnd (decide (x3>=(x5.l:Int)))
  (K 0 w1)
  (nz p0 fun a6=>lI w1 (a6.add 1) fun x7=>inR .i64 (x7+1)/\nz p0 fun a8=>wrOk w1 (a8.add 1)/\
  (let w9:=w1.setCell (a8.add 1) (vI (x7+1))
  let w10:=w9.drew
  ∃ S11:World->Prop,S11 w10/\nz p0 fun a12=>mS S11 a12 fun x13=>nz p0 fun a14=>mI S11 (a14.add 1) fun x15=>inR .i64 (x15-1)/\nz x13.p fun a16=>(0<=(x15-1)/\(x15-1)<(x13.l:Nat))/\∃ x17:Int,(∀ w':World,S11 w'->w'.cell? (a16.add ((x15-1).toNat*1))=some (vI x17))/\z2f_sh x17 p1 (fun r19 w18=>S11 w18/\K r19 w18) w10))
noncomputable def z05_S:=sp [tP,tI] [tI] z05_sh
theorem z05_ok:okP 34 z05_S:=okR (x:=fun _=>qr 1 (qs (qs (A.drp (dp [0,1,2,3,4,5,6,7,8,9] DA.done)) (qc (qr 1 ql) ql)) (qr 8 (qs (A.drw (dp [0,1,2,3,4,5,6,7,8,9,10,11] (DA.eff 12 (DA.pur 13 DA.done)))) ql)))) (Γ:=[(35,z2f_S)]) ⟨.inl z2f_ok,trivial⟩ Tryz.call34 Tryz.func34 (fun _=>hEnd)
def z22_b3 (p2 p3 p4:Addr)(p5 p9 p10:Int)(p11:Addr)(p12 p13:Int)(N3:Addr->Addr->Addr->Int->Int->Int->Addr->Int->Int->World->Prop)(N2:Pw.T18)(K:Pw.T5)(w:World):Prop :=
 cnd (decide (p13<p5))
 (0<=p13/\cnd ((IntKind.wrap .i64 (((BitVec.ofInt (IntKind.bits .i64) (Int.fdiv p12 (2^(min p13.toNat (IntKind.bits .i64)))) &&& BitVec.ofInt (IntKind.bits .i64) 1)).toNat:Int)) == 1)
 (let w50:=w.drew
 ∃ S51:World->Prop,S51 w50/\mS S51 (p11.add 1) fun x52=>mS S51 p4 fun x53=>nz x53.p fun a54=>(0<=p13/\p13<(x53.l:Nat))/\∃ x55:Int,(∀ w':World,S51 w'->w'.cell? (a54.add (p13.toNat*1))=some (vI x55))/\let w56:=w50.alloc (.cells #[(vI x55)] 3)
 S51 w56/\apS 1 8 [(vI 0)] 3 x52 (Sl.mk (some (hA w50 0)) 1 1) w56 fun s57 w58=>S51 w58/\wrOk w58 (p11.add 1)/\
 (let w59:=w58.setCell (p11.add 1) (vS s57)
 inR .i64 (p13+1)/\N3 p2 p3 p4 p5 p9 p10 p11 p12 (p13+1) w59))
 (inR .i64 (p13+1)/\N3 p2 p3 p4 p5 p9 p10 p11 p12 (p13+1) w))
 (lS w (p4.add 2) fun x60=>lI w p11 fun x61=>lS w (p11.add 1) fun x62=>∃ x63:Int,w.cell? (p11.add 2)=some (vI x63)/\let w64:=w.alloc (.cells #[(vI x61),(vS x62),(vI x63)] 81)
 apS 3 40 [(vI 0),vN,(vI 0)] 81 x60 (Sl.mk (some (hA w 0)) 1 1) w64 fun s65 w66=>wrOk w66 (p4.add 2)/\
 (let w67:=w66.setCell (p4.add 2) (vS s65)
 inR .i64 (p10+1)/\N2 p2 p3 p4 p5 p9 (p10+1) w67))
structure z22_l3 (p2 p3 p4:Addr)(p5 p9 p10:Int)(p11:Addr)(p12 p13:Int)(N2:Pw.T18)(K:Pw.T5)(w:World):Prop where
 out:∃ (I:Int->World->Prop) (μ:Int->World->Nat),I p13 w/\∀ (p131:Int) (w1:World),I p131 w1 ->
  z22_b3 p2 p3 p4 p5 p9 p10 p11 p12 p131 (fun p2' p3' p4' p5' p9' p10' p11' p12' p13' w'=>((p2'=p2/\p3'=p3/\p4'=p4/\p5'=p5/\p9'=p9/\p10'=p10/\p11'=p11/\p12'=p12/\True)/\I p13' w')/\μ p13' w'<μ p131 w1) N2 K w1
def z22_b2 (p2 p3 p4:Addr)(p5 p9 p10:Int)(N2:Pw.T18)(K:Pw.T5)(w:World):Prop :=
 cnd (decide (p10<p9))
 (z05_sh (some p3) 4 (fun r43 w42=>inR .i64 ((1:Int)+r43)/\z05_sh (some p3) 6 (fun r45 w44=>let w46:=w44.alloc (.cells #[(vI 0),vN,(vI 0)] 81)
 stN w46 (hA w44 0) [(vI ((1:Int)+r43)),vN,(vI r45)] fun w47=>0<=p5/\inR .i64 ((IntKind.wrap .i64 ((1:Int)*2^(min p5.toNat (IntKind.bits .i64))))-1)/\z05_sh (some p3) ((IntKind.wrap .i64 ((1:Int)*2^(min p5.toNat (IntKind.bits .i64))))-1) (fun r49 w48=>inR .i64 ((1:Int)+r49)/\z22_l3 p2 p3 p4 p5 p9 p10 (hA w44 0) ((1:Int)+r49) 0 N2 K w48) w47) w42) w)
 (lP w p4 fun x68 x69 x70 x71 x72=>stN w p2 [(vS x68),(vS x69),(vS x70),(vI x71),(vI x72)] fun w73=>lP w73 p2 fun x74 x75 x76 x77 x78=>K x74 x75 x76 x77 x78 w73)
structure z22_l2 (p2 p3 p4:Addr)(p5 p9 p10:Int)(K:Pw.T5)(w:World):Prop where
 out:∃ (I:Int->World->Prop) (μ:Int->World->Nat),I p10 w/\∀ (p101:Int) (w1:World),I p101 w1 ->
  z22_b2 p2 p3 p4 p5 p9 p101 (fun p2' p3' p4' p5' p9' p10' w'=>((p2'=p2/\p3'=p3/\p4'=p4/\p5'=p5/\p9'=p9/\True)/\I p10' w')/\μ p10' w'<μ p101 w1) K w1
def z22_b1 (p2 p3 p4:Addr)(p5 p7 p8:Int)(N1:Pw.T18)(K:Pw.T5)(w:World):Prop :=
 cnd (decide (p8<p7))
 (let w22:=w.drew
 ∃ S23:World->Prop,S23 w22/\mS S23 (p4.add 1) fun x24=>mS S23 p4 fun x25=>z05_sh (some p3) p5 (fun r27 w26=>S23 w26/\nz x25.p fun a28=>(0<=r27/\r27<(x25.l:Nat))/\mI S23 (a28.add (r27.toNat*1)) fun x29=>z05_sh (some p3) 4 (fun r31 w30=>S23 w30/\inR .i64 ((1:Int)+r31)/\z05_sh (some p3) 12 (fun r33 w32=>S23 w32/\z05_sh (some p3) 6 (fun r35 w34=>S23 w34/\let w36:=w34.alloc (.cells #[(vI x29),(vI ((1:Int)+r31)),(vI r33),(vI r35)] 57)
 S23 w36/\apS 4 32 [(vI 0),(vI 0),(vI 0),(vI 0)] 57 x24 (Sl.mk (some (hA w34 0)) 1 1) w36 fun s37 w38=>S23 w38/\wrOk w38 (p4.add 1)/\
 (let w39:=w38.setCell (p4.add 1) (vS s37)
 inR .i64 (p8+1)/\N1 p2 p3 p4 p5 p7 (p8+1) w39)) w32) w30) w26) w22)
 (z05_sh (some p3) 4 (fun r41 w40=>z22_l2 p2 p3 p4 p5 r41 0 K w40) w)
structure z22_l1 (p2 p3 p4:Addr)(p5 p7 p8:Int)(K:Pw.T5)(w:World):Prop where
 out:∃ (I:Int->World->Prop) (μ:Int->World->Nat),I p8 w/\∀ (p81:Int) (w1:World),I p81 w1 ->
  z22_b1 p2 p3 p4 p5 p7 p81 (fun p2' p3' p4' p5' p7' p8' w'=>((p2'=p2/\p3'=p3/\p4'=p4/\p5'=p5/\p7'=p7/\True)/\I p8' w')/\μ p8' w'<μ p81 w1) K w1
def z22_b0 (p2 p3 p4:Addr)(p5 p6:Int)(N0:Pw.T21)(K:Pw.T5)(w:World):Prop :=
 cnd (decide (p6<p5))
 (let w11:=w.drew
 ∃ S12:World->Prop,S12 w11/\mS S12 p4 fun x13=>inR .i64 ((3:Int)*p6)/\inR .i64 ((10:Int)+((3:Int)*p6))/\z05_sh (some p3) 2 (fun r15 w14=>S12 w14/\inR .i64 ((2:Int)*r15)/\inR .i64 (((10:Int)+((3:Int)*p6))-((2:Int)*r15))/\let w16:=w14.alloc (.cells #[(vI (((10:Int)+((3:Int)*p6))-((2:Int)*r15)))] 3)
 S12 w16/\apS 1 8 [(vI 0)] 3 x13 (Sl.mk (some (hA w14 0)) 1 1) w16 fun s17 w18=>wrOk w18 p4/\
 (let w19:=w18.setCell p4 (vS s17)
 inR .i64 (p6+1)/\N0 p2 p3 p4 p5 (p6+1) w19)) w11)
 (z05_sh (some p3) 13 (fun r21 w20=>z22_l1 p2 p3 p4 p5 r21 0 K w20) w)
structure z22_l0 (p2 p3 p4:Addr)(p5 p6:Int)(K:Pw.T5)(w:World):Prop where
 out:∃ (I:Int->World->Prop) (μ:Int->World->Nat),I p6 w/\∀ (p61:Int) (w1:World),I p61 w1 ->
  z22_b0 p2 p3 p4 p5 p61 (fun p2' p3' p4' p5' p6' w'=>((p2'=p2/\p3'=p3/\p4'=p4/\p5'=p5/\True)/\I p6' w')/\μ p6' w'<μ p61 w1) K w1
structure z22_sh (p0:Sl)(K:Pw.T5)(w:World):Prop where
 out:let w1:=w.alloc (.cells #[vN,vN,vN,(vI 0),(vI 0)] 28)
  let w2:=w1.alloc (.cells #[(vS p0),(vI 0)] 78)
  z05_sh (some (hA w1 0)) 4 (fun r4 w3=>z05_sh (some (hA w1 0)) 30 (fun r6 w5=>let w7:=w5.alloc (.cells #[vN,vN,vN,(vI 0),(vI 0)] 28)
  stN w7 (hA w5 0) [vN,vN,vN,(vI r4),(vI r6)] fun w8=>z05_sh (some (hA w1 0)) 4 (fun r10 w9=>inR .i64 ((1:Int)+r10)/\z22_l0 (hA w 0) (hA w1 0) (hA w5 0) ((1:Int)+r10) 0 K w9) w8) w3) w2
def z22_L0 (Kv:VW):Cur [tQ,tQ,tQ,tI,tI] WP:=fun p2 p3 p4 p5 p6=>z22_l0 p2 p3 p4 p5 p6 (kk [.g 5,tL,tL,tL,tI,tI] Kv)
def z22_L1 (Kv:VW):Cur [tQ,tQ,tQ,tI,tI,tI] WP:=fun p2 p3 p4 p5 p7 p8=>z22_l1 p2 p3 p4 p5 p7 p8 (kk [.g 5,tL,tL,tL,tI,tI] Kv)
def z22_L2 (Kv:VW):Cur [tQ,tQ,tQ,tI,tI,tI] WP:=fun p2 p3 p4 p5 p9 p10=>z22_l2 p2 p3 p4 p5 p9 p10 (kk [.g 5,tL,tL,tL,tI,tI] Kv)
def z22_L3 (Kv:VW):Cur [tQ,tQ,tQ,tI,tI,tI] WP->Cur [tQ,tQ,tQ,tI,tI,tI,tQ,tI,tI] WP:=fun N2 p2 p3 p4 p5 p9 p10 p11 p12 p13=>z22_l3 p2 p3 p4 p5 p9 p10 p11 p12 p13 N2 (kk [.g 5,tL,tL,tL,tI,tI] Kv)
noncomputable def z22_S:=sp [tL] [.g 5,tL,tL,tL,tI,tI] z22_sh
theorem z22_ok:okP 11 z22_S:=okR (x:=fun Kv=>qr 1 (qr 4 (qr 7 (qr 4 (qs (qr 1 (qb (A.loop [2,3,4,5,6] (uR0 [tQ,tQ,tQ,tI,tI] (z22_L0 Kv)) (qs (qr 3 (qc ql ql)) (qs (qb (A.drw (dp [0,1,2,3,4,5] (DA.eff 6 (dp [7,8] (DA.eff 9 (DA.eff 10 (DA.pur 11 (DA.eff 12 DA.done))))))))) (qe 3)))))) (qr 3 (qs (qr 1 (qb (A.loop [2,3,4,5,7,8] (uR0 [tQ,tQ,tQ,tI,tI,tI] (z22_L1 Kv)) (qs (qr 3 (qc ql ql)) (qs (qb (A.drw (dp [0,1,2,3,4,5,9,12,14] (DA.eff 6 (dp [7,8] (DA.eff 10 (DA.pur 11 (DA.eff 13 (DA.eff 15 (DA.pur 16 (DA.eff 17 (DA.eff 18 (DA.pur 19 (DA.eff 20 DA.done)))))))))))))) (qe 3)))))) (qr 3 (qs (qr 1 (qb (A.loop [2,3,4,5,9,10] (uR0 [tQ,tQ,tQ,tI,tI,tI] (z22_L2 Kv)) (qs (qr 3 (qc ql ql)) (qs (qb (qr 8 (qr 7 (qs (qr 1 (qb (A.loop [2,3,4,5,9,10,11,12,13] (uR1 [tQ,tQ,tQ,tI,tI,tI] [tQ,tQ,tQ,tI,tI,tI,tQ,tI,tI] (z22_L3 Kv)) (qs (qr 3 (qc ql ql)) (qs (qb (qr 5 (qc (A.drw (dp [0,1,2,3,4,5,6] (DA.eff 7 (DA.eff 8 (DA.pur 9 (DA.eff 10 DA.done)))))) ql))) (qe 3)))))) (qe 7))))) (qe 3)))))) (qr 2 ql)))))))))) (Γ:=[(34,z05_S)]) ⟨.inl z05_ok,trivial⟩ Tryz.call11 Tryz.func11 (fun Kv=>q07 (q0a (L:=z22_L0 Kv) (fun N0 p2 p3 p4 p5 p6=>z22_b0 p2 p3 p4 p5 p6 N0 (kk [.g 5,tL,tL,tL,tI,tI] Kv)) (fun⟨a0,a1,a2,a3,_,_⟩ _ h=>let ⟨I,μ,h0,hr⟩:=h.out; ⟨fun b0 b1 b2 b3 b4 w=>(b0=a0/\b1=a1/\b2=a2/\b3=a3/\True)/\I b4 w,fun _ _ _ _ b4 w=>μ b4 w,⟨⟨rfl,rfl,rfl,rfl,trivial⟩,h0⟩,fun⟨_,_,_,_,_,_⟩ _ ⟨⟨e0,e1,e2,e3,_⟩,hI⟩=>by cases e0; cases e1; cases e2; cases e3; exact hr _ _ hI⟩)) <| q07 (q0a (L:=z22_L1 Kv) (fun N1 p2 p3 p4 p5 p7 p8=>z22_b1 p2 p3 p4 p5 p7 p8 N1 (kk [.g 5,tL,tL,tL,tI,tI] Kv)) (fun⟨a0,a1,a2,a3,a4,_,_⟩ _ h=>let ⟨I,μ,h0,hr⟩:=h.out; ⟨fun b0 b1 b2 b3 b4 b5 w=>(b0=a0/\b1=a1/\b2=a2/\b3=a3/\b4=a4/\True)/\I b5 w,fun _ _ _ _ _ b5 w=>μ b5 w,⟨⟨rfl,rfl,rfl,rfl,rfl,trivial⟩,h0⟩,fun⟨_,_,_,_,_,_,_⟩ _ ⟨⟨e0,e1,e2,e3,e4,_⟩,hI⟩=>by cases e0; cases e1; cases e2; cases e3; cases e4; exact hr _ _ hI⟩)) <| q07 (q0a (L:=z22_L2 Kv) (fun N2 p2 p3 p4 p5 p9 p10=>z22_b2 p2 p3 p4 p5 p9 p10 N2 (kk [.g 5,tL,tL,tL,tI,tI] Kv)) (fun⟨a0,a1,a2,a3,a4,_,_⟩ _ h=>let ⟨I,μ,h0,hr⟩:=h.out; ⟨fun b0 b1 b2 b3 b4 b5 w=>(b0=a0/\b1=a1/\b2=a2/\b3=a3/\b4=a4/\True)/\I b5 w,fun _ _ _ _ _ b5 w=>μ b5 w,⟨⟨rfl,rfl,rfl,rfl,rfl,trivial⟩,h0⟩,fun⟨_,_,_,_,_,_,_⟩ _ ⟨⟨e0,e1,e2,e3,e4,_⟩,hI⟩=>by cases e0; cases e1; cases e2; cases e3; cases e4; exact hr _ _ hI⟩)) <| q07 (q3q (L:=z22_L3 Kv) (fun N2 N3 p2 p3 p4 p5 p9 p10 p11 p12 p13=>z22_b3 p2 p3 p4 p5 p9 p10 p11 p12 p13 N3 N2 (kk [.g 5,tL,tL,tL,tI,tI] Kv)) (fun _ ⟨a0,a1,a2,a3,a4,a5,a6,a7,_,_⟩ _ h=>let ⟨I,μ,h0,hr⟩:=h.out; ⟨fun b0 b1 b2 b3 b4 b5 b6 b7 b8 w=>(b0=a0/\b1=a1/\b2=a2/\b3=a3/\b4=a4/\b5=a5/\b6=a6/\b7=a7/\True)/\I b8 w,fun _ _ _ _ _ _ _ _ b8 w=>μ b8 w,⟨⟨rfl,rfl,rfl,rfl,rfl,rfl,rfl,rfl,trivial⟩,h0⟩,fun⟨_,_,_,_,_,_,_,_,_,_⟩ _ ⟨⟨e0,e1,e2,e3,e4,e5,e6,e7,_⟩,hI⟩=>by cases e0; cases e1; cases e2; cases e3; cases e4; cases e5; cases e6; cases e7; exact hr _ _ hI⟩)) <| hEnd)
structure z0z_k1 (p2 p4:Addr)(K:Pw.T5)(w:World):Prop where
 out:lP w p2 fun x104 x105 x106 x107 x108=>stN w p4 [(vS x104),(vS x105),(vS x106),(vI x107),(vI x108)] fun w109=>lP w109 p4 fun x110 x111 x112 x113 x114=>K x110 x111 x112 x113 x114 w109
def z0z_b0 (p2 p4:Addr)(p6 p7:Int)(N0:Addr->Addr->Int->Int->World->Prop)(K:Pw.T5)(w:World):Prop :=
 let w94:=w.drew
 ∃ S95:World->Prop,S95 w94/\mS S95 p2 fun x96=>z2f_sh p6 3 (fun r98 w97=>S95 w97/\inR .i64 ((11:Int)+r98)/\inR .i64 (((11:Int)+r98)-(x96.l:Int))/\inR .i64 ((((11:Int)+r98)-(x96.l:Int))+1)/\cnd (decide (p7<((((11:Int)+r98)-(x96.l:Int))+1)))
 (lS w97 p2 fun x99=>inR .i64 ((100:Int)+p7)/\let w100:=w97.alloc (.cells #[(vI ((100:Int)+p7))] 3)
 apS 1 8 [(vI 0)] 3 x99 (Sl.mk (some (hA w97 0)) 1 1) w100 fun s101 w102=>wrOk w102 p2/\
 (let w103:=w102.setCell p2 (vS s101)
 inR .i64 (p7+1)/\N0 p2 p4 p6 (p7+1) w103))
 (z0z_k1 p2 p4 K w97)) w94
structure z0z_l0 (p2 p4:Addr)(p6 p7:Int)(K:Pw.T5)(w:World):Prop where
 out:∃ (I:Int->World->Prop) (μ:Int->World->Nat),I p7 w/\∀ (p71:Int) (w1:World),I p71 w1 ->
  z0z_b0 p2 p4 p6 p71 (fun p2' p4' p6' p7' w'=>((p2'=p2/\p4'=p4/\p6'=p6/\True)/\I p7' w')/\μ p7' w'<μ p71 w1) K w1
structure z0z_sh (p0_0 p0_1 p0_2:Sl)(p0_3 p0_4:Int)(p1_0 p1_1 p1_2:Int)(K:Pw.T5)(w:World):Prop where
 out:let w1:=w.alloc (.cells #[(vS p0_0),(vS p0_1),(vS p0_2),(vI p0_3),(vI p0_4)] 28)
  let w2:=w1.alloc (.cells #[(vI p1_0),(vI p1_1),(vI p1_2)] 34)
  let w3:=w2.alloc (.cells #[vN,vN,vN,(vI 0),(vI 0)] 28)
  let w4:=w3.alloc (.cells #[] 3)
  lS w4 (hA w 0) fun x5=>apS 1 8 [(vI 0)] 3 (Sl.mk (some (hA w3 0)) 0 0) x5 w4 fun s6 w7=>wrOk w7 (hA w 0)/\
  (let w8:=w7.setCell (hA w 0) (vS s6)
  let w9:=w8.alloc (.cells #[] 57)
  lS w9 (hA w 1) fun x10=>apS 4 32 [(vI 0),(vI 0),(vI 0),(vI 0)] 57 (Sl.mk (some (hA w8 0)) 0 0) x10 w9 fun s11 w12=>wrOk w12 (hA w 1)/\
  (let w13:=w12.setCell (hA w 1) (vS s11)
  let w14:=w13.alloc (.cells #[] 81)
  lS w14 (hA w 2) fun x15=>apS 3 40 [(vI 0),vN,(vI 0)] 81 (Sl.mk (some (hA w13 0)) 0 0) x15 w14 fun s16 w17=>wrOk w17 (hA w 2)/\
  (let w18:=w17.setCell (hA w 2) (vS s16)
  let w19:=w18.alloc (.cells #[(vI (-1)),(vI 0),(vI 1),(vI 1000000000),(vI 1000000001),(vI 1000001),(vI 10)] 3)
  (0<=(1:Int)/\(1:Int)<(3:Nat))/\∃ x20:Int,w19.cell? ((hA w1 0).add ((1:Int).toNat*1))=some (vI x20)/\z2f_sh x20 7 (fun r22 w21=>(0<=r22/\r22<(7:Nat))/\lI w21 ((hA w18 0).add (r22.toNat*1)) fun x24=>(0<=(2:Int)/\(2:Int)<(3:Nat))/\∃ x25:Int,w21.cell? ((hA w1 0).add ((2:Int).toNat*1))=some (vI x25)/\(0<=(0:Int)/\(0:Int)<(3:Nat))/\∃ x26:Int,w21.cell? ((hA w1 0).add ((0:Int).toNat*1))=some (vI x26)/\z2f_sh x26 11 (fun r28 w27=>cnd (r28 == 0)
  (wrOk w27 (hA w 4)/\
  (let w29:=w27.setCell (hA w 4) (vI x24)
  z0z_k1 (hA w 0) (hA w2 0) K w29))
  (cnd (r28 == 1)
  (wrOk w27 (hA w 3)/\
  (let w30:=w27.setCell (hA w 3) (vI x24)
  z0z_k1 (hA w 0) (hA w2 0) K w30))
  (cnd (r28 == 2)
  (∃ x31:Sl,w27.cell? (hA w 0)=some (vS x31)/\let w32:=w27.alloc (.cells #[(vI x24)] 3)
  apS 1 8 [(vI 0)] 3 x31 (Sl.mk (some (hA w27 0)) 1 1) w32 fun s33 w34=>wrOk w34 (hA w 0)/\
  (let w35:=w34.setCell (hA w 0) (vS s33)
  z0z_k1 (hA w 0) (hA w2 0) K w35))
  (cnd (r28 == 3)
  (∃ x36:Sl,w27.cell? (hA w 1)=some (vS x36)/\let w37:=w27.alloc (.cells #[(vI x24),(vI 1),(vI 0),(vI 0)] 57)
  apS 4 32 [(vI 0),(vI 0),(vI 0),(vI 0)] 57 x36 (Sl.mk (some (hA w27 0)) 1 1) w37 fun s38 w39=>wrOk w39 (hA w 1)/\
  (let w40:=w39.setCell (hA w 1) (vS s38)
  z0z_k1 (hA w 0) (hA w2 0) K w40))
  (cnd (r28 == 4)
  (let w41:=w27.drew
  ∃ S42:World->Prop,S42 w41/\mS S42 (hA w 1) fun x43=>mS S42 (hA w 0) fun x44=>nz x44.p fun a45=>(0<=(0:Int)/\(0:Int)<(x44.l:Nat))/\∃ x46:Int,(∀ w':World,S42 w'->w'.cell? (a45.add ((0:Int).toNat*1))=some (vI x46))/\let w47:=w41.alloc (.cells #[(vI x46),(vI x24),(vI x24),(vI 0)] 57)
  S42 w47/\apS 4 32 [(vI 0),(vI 0),(vI 0),(vI 0)] 57 x43 (Sl.mk (some (hA w41 0)) 1 1) w47 fun s48 w49=>S42 w49/\wrOk w49 (hA w 1)/\
  (let w50:=w49.setCell (hA w 1) (vS s48)
  z0z_k1 (hA w 0) (hA w2 0) K w50))
  (cnd (r28 == 5)
  (let w51:=w27.drew
  ∃ S52:World->Prop,S52 w51/\mS S52 (hA w 1) fun x53=>mS S52 (hA w 0) fun x54=>nz x54.p fun a55=>(0<=(0:Int)/\(0:Int)<(x54.l:Nat))/\∃ x56:Int,(∀ w':World,S52 w'->w'.cell? (a55.add ((0:Int).toNat*1))=some (vI x56))/\let w57:=w51.alloc (.cells #[(vI x56),(vI 0),(vI 0),(vI x24)] 57)
  S52 w57/\apS 4 32 [(vI 0),(vI 0),(vI 0),(vI 0)] 57 x53 (Sl.mk (some (hA w51 0)) 1 1) w57 fun s58 w59=>S52 w59/\wrOk w59 (hA w 1)/\
  (let w60:=w59.setCell (hA w 1) (vS s58)
  z0z_k1 (hA w 0) (hA w2 0) K w60))
  (cnd (r28 == 6)
  (let w61:=w27.drew
  ∃ S62:World->Prop,S62 w61/\mS S62 (hA w 2) fun x63=>mS S62 (hA w 0) fun x64=>nz x64.p fun a65=>(0<=(0:Int)/\(0:Int)<(x64.l:Nat))/\∃ x66:Int,(∀ w':World,S62 w'->w'.cell? (a65.add ((0:Int).toNat*1))=some (vI x66))/\let w67:=w61.alloc (.cells #[(vI x66),(vI x24)] 3)
  S62 w67/\let w68:=w67.alloc (.cells #[(vI 1),(.slice (some (hA w61 0)) 2 2),(vI 0)] 81)
  S62 w68/\apS 3 40 [(vI 0),vN,(vI 0)] 81 x63 (Sl.mk (some (hA w67 0)) 1 1) w68 fun s69 w70=>S62 w70/\wrOk w70 (hA w 2)/\
  (let w71:=w70.setCell (hA w 2) (vS s69)
  z0z_k1 (hA w 0) (hA w2 0) K w71))
  (cnd (r28 == 7)
  (let w72:=w27.drew
  ∃ S73:World->Prop,S73 w72/\mS S73 (hA w 2) fun x74=>mS S73 (hA w 0) fun x75=>z2f_sh x25 2 (fun r77 w76=>S73 w76/\(0<=(0:Int)/\(0:Int)<=r77/\r77<=(x75.c:Nat))/\let w78:=w76.alloc (.cells #[(vI 1),(.slice (subP x75.p 0 x75.c 1) (r77.toNat-0) (x75.c-0)),(vI x24)] 81)
  S73 w78/\apS 3 40 [(vI 0),vN,(vI 0)] 81 x74 (Sl.mk (some (hA w76 0)) 1 1) w78 fun s79 w80=>S73 w80/\wrOk w80 (hA w 2)/\
  (let w81:=w80.setCell (hA w 2) (vS s79)
  z0z_k1 (hA w 0) (hA w2 0) K w81)) w72)
  (cnd (r28 == 8)
  (let w82:=w27.drew
  ∃ S83:World->Prop,S83 w82/\mS S83 (hA w 2) fun x84=>mS S83 (hA w 0) fun x85=>nz x85.p fun a86=>(0<=(0:Int)/\(0:Int)<(x85.l:Nat))/\∃ x87:Int,(∀ w':World,S83 w'->w'.cell? (a86.add ((0:Int).toNat*1))=some (vI x87))/\let w88:=w82.alloc (.cells #[(vI x87)] 3)
  S83 w88/\let w89:=w88.alloc (.cells #[(vI 1),(.slice (some (hA w82 0)) 1 1),(vI x24)] 81)
  S83 w89/\apS 3 40 [(vI 0),vN,(vI 0)] 81 x84 (Sl.mk (some (hA w88 0)) 1 1) w89 fun s90 w91=>S83 w91/\wrOk w91 (hA w 2)/\
  (let w92:=w91.setCell (hA w 2) (vS s90)
  z0z_k1 (hA w 0) (hA w2 0) K w92))
  (cnd (r28 == 9)
  (wrOk w27 (hA w 0)/\
  (let w93:=w27.setCell (hA w 0) vN
  z0z_k1 (hA w 0) (hA w2 0) K w93))
  (cnd (r28 == 10)
  (z0z_l0 (hA w 0) (hA w2 0) x25 0 K w27)
  (z0z_k1 (hA w 0) (hA w2 0) K w27)))))))))))) w21) w19)))
def z0z_L0 (Kv:VW):Cur [tQ,tQ,tI,tI] WP:=fun p2 p4 p6 p7=>z0z_l0 p2 p4 p6 p7 (kk [.g 5,tL,tL,tL,tI,tI] Kv)
def z0z_L1 (Kv:VW):Cur [tQ,tQ] WP:=fun p2 p4=>z0z_k1 p2 p4 (kk [.g 5,tL,tL,tL,tI,tI] Kv)
noncomputable def z0z_S:=sp [.g 5,tL,tL,tL,tI,tI,.g 3,tI,tI,tI] [.g 5,tL,tL,tL,tI,tI] z0z_sh
theorem z0z_ok:okP 13 z0z_S:=okR (x:=fun Kv=>qr 3 (qr 6 (qr 6 (qr 6 (qr 7 (qr 3 (qs (qr 3 (qb (qr 2 (qc (qe 3) (qr 2 (qc (qe 3) (qr 2 (qc (qe 7) (qr 2 (qc (qe 8) (qr 2 (qc (A.drw (dp [0,1,2,3,4,5,6,7,8] (DA.eff 9 (DA.eff 10 (DA.pur 11 (DA.eff 12 DA.done)))))) (qr 2 (qc (A.drw (dp [0,1,2,3,4,5,6,7] (DA.eff 8 (DA.eff 9 (DA.pur 10 (DA.eff 11 DA.done)))))) (qr 2 (qc (A.drw (dp [0,1,2,3,4,5,6] (DA.eff 7 (DA.pur 8 (DA.eff 9 (DA.eff 10 (DA.pur 11 (DA.eff 12 DA.done)))))))) (qr 2 (qc (A.drw (dp [0,1,2,3,4,5] (DA.eff 6 (dp [7,8] (DA.eff 9 (DA.eff 10 (DA.pur 11 (DA.eff 12 DA.done)))))))) (qr 2 (qc (A.drw (dp [0,1,2,3,4,5,7] (DA.eff 6 (DA.pur 8 (DA.eff 9 (DA.eff 10 (DA.pur 11 (DA.eff 12 DA.done)))))))) (qr 2 (qc (qe 2) (qr 2 (qc (qr 1 (qb (A.loop [2,4,6,7] (uR0 [tQ,tQ,tI,tI] (z0z_L0 Kv)) (qs (qs (A.drw (dp [0,1,4,5,6] (DA.eff 2 (dp [3,7,8,9] DA.done)))) (qc ql ql)) (qs (qb (qe 8)) (qe 3)))))) ql)))))))))))))))))))))))) (A.cut [2,4] (uR0 [tQ,tQ] (z0z_L1 Kv)) (qr 2 ql))))))))) (Γ:=[(35,z2f_S)]) ⟨.inl z2f_ok,trivial⟩ Tryz.call13 Tryz.func13 (fun Kv=>q07 (q0a (L:=z0z_L0 Kv) (fun N0 p2 p4 p6 p7=>z0z_b0 p2 p4 p6 p7 N0 (kk [.g 5,tL,tL,tL,tI,tI] Kv)) (fun⟨a0,a1,a2,_,_⟩ _ h=>let ⟨I,μ,h0,hr⟩:=h.out; ⟨fun b0 b1 b2 b3 w=>(b0=a0/\b1=a1/\b2=a2/\True)/\I b3 w,fun _ _ _ b3 w=>μ b3 w,⟨⟨rfl,rfl,rfl,trivial⟩,h0⟩,fun⟨_,_,_,_,_⟩ _ ⟨⟨e0,e1,e2,_⟩,hI⟩=>by cases e0; cases e1; cases e2; exact hr _ _ hI⟩)) <| q07 (hK0 (F:=z0z_L1 Kv)) <| hEnd)
def z0m_b0 (p0:Sl)(p1 p5:Int)(N0:Sl->Int->Int->World->Prop)(K:Pw.T0)(w:World):Prop :=
 cnd (decide (p5<(p0.l:Int)))
 (nz p0.p fun a1=>(0<=p5/\p5<(p0.l:Nat))/\lI w (a1.add (p5.toNat*1)) fun x2=>cnd (x2 == p1)
 (K true w)
 (inR .i64 (p5+1)/\N0 p0 p1 (p5+1) w))
 (K false w)
structure z0m_l0 (p0:Sl)(p1 p5:Int)(K:Pw.T0)(w:World):Prop where
 out:∃ (I:Int->World->Prop) (μ:Int->World->Nat),I p5 w/\∀ (p51:Int) (w1:World),I p51 w1 ->
  z0m_b0 p0 p1 p51 (fun p0' p1' p5' w'=>((p0'=p0/\p1'=p1/\True)/\I p5' w')/\μ p5' w'<μ p51 w1) K w1
structure z0m_sh (p0:Sl)(p1:Int)(K:Pw.T0)(w:World):Prop where
 out:z0m_l0 p0 p1 0 K w
def z0m_L0 (Kv:VW):Cur [tL,tI,tI] WP:=fun p0 p1 p5=>z0m_l0 p0 p1 p5 (kk [tB] Kv)
noncomputable def z0m_S:=sp [tL,tI] [tB] z0m_sh
theorem z0m_ok:okP 95 z0m_S:=okR (x:=fun Kv=>qr 1 (qs (qr 1 (qb (A.loop [0,1,5] (uR0 [tL,tI,tI] (z0m_L0 Kv)) (qs (qr 4 (qc ql ql)) (qs (qb (qr 6 (qc (qr 1 ql) ql))) (qe 3)))))) (qr 1 ql))) (Γ:=[]) trivial Tryz.call95 Tryz.func95 (fun Kv=>q07 (q0a (L:=z0m_L0 Kv) (fun N0 p0 p1 p5=>z0m_b0 p0 p1 p5 N0 (kk [tB] Kv)) (fun⟨a0,a1,_,_⟩ _ h=>let ⟨I,μ,h0,hr⟩:=h.out; ⟨fun b0 b1 b2 w=>(b0=a0/\b1=a1/\True)/\I b2 w,fun _ _ b2 w=>μ b2 w,⟨⟨rfl,rfl,trivial⟩,h0⟩,fun⟨_,_,_,_⟩ _ ⟨⟨e0,e1,_⟩,hI⟩=>by cases e0; cases e1; exact hr _ _ hI⟩)) <| hEnd)
def z0f_b0 (p0:Sl)(p3:Int)(N0:Pw.T43)(K:Pw.T0)(w:World):Prop :=
 cnd (decide (p3<(p0.l:Int)))
 (let w1:=w.drew
 ∃ S2:World->Prop,S2 w1/\(0<=(0:Int)/\(0:Int)<=p3/\p3<=(p0.c:Nat))/\nz p0.p fun a3=>(0<=p3/\p3<(p0.l:Nat))/\mI S2 (a3.add (p3.toNat*1)) fun x4=>z0m_sh (Sl.mk (subP p0.p 0 p0.c 1) (p3.toNat-0) (p0.c-0)) x4 (fun r6 w5=>cnd r6
 (K false w5)
 (inR .i64 (p3+1)/\N0 p0 (p3+1) w5)) w1)
 (K true w)
structure z0f_l0 (p0:Sl)(p3:Int)(K:Pw.T0)(w:World):Prop where
 out:∃ (I:Int->World->Prop) (μ:Int->World->Nat),I p3 w/\∀ (p31:Int) (w1:World),I p31 w1 ->
  z0f_b0 p0 p31 (fun p0' p3' w'=>((p0'=p0/\True)/\I p3' w')/\μ p3' w'<μ p31 w1) K w1
structure z0f_sh (p0:Sl)(K:Pw.T0)(w:World):Prop where
 out:z0f_l0 p0 0 K w
def z0f_L0 (Kv:VW):Cur [tL,tI] WP:=fun p0 p3=>z0f_l0 p0 p3 (kk [tB] Kv)
noncomputable def z0f_S:=sp [tL] [tB] z0f_sh
theorem z0f_ok:okP 93 z0f_S:=okR (x:=fun Kv=>qr 1 (qs (qr 1 (qb (A.loop [0,3] (uR0 [tL,tI] (z0f_L0 Kv)) (qs (qr 4 (qc ql ql)) (qs (qb (qs (A.drw (dp [0,1,2,3,4,5,6] (DA.eff 7 DA.done))) (qc (qr 1 ql) ql))) (qe 3)))))) (qr 1 ql))) (Γ:=[(95,z0m_S)]) ⟨.inl z0m_ok,trivial⟩ Tryz.call93 Tryz.func93 (fun Kv=>q07 (q0a (L:=z0f_L0 Kv) (fun N0 p0 p3=>z0f_b0 p0 p3 N0 (kk [tB] Kv)) (fun⟨a0,_,_⟩ _ h=>let ⟨I,μ,h0,hr⟩:=h.out; ⟨fun b0 b1 w=>(b0=a0/\True)/\I b1 w,fun _ b1 w=>μ b1 w,⟨⟨rfl,trivial⟩,h0⟩,fun⟨_,_,_⟩ _ ⟨⟨e0,_⟩,hI⟩=>by cases e0; exact hr _ _ hI⟩)) <| hEnd)
structure z1c_sh (p0 p1:Int)(K:Pw.T0)(w:World):Prop where
 out:cnd (decide (p0>=0))
  (K (decide (p0<=p1)) w)
  (K false w)
noncomputable def z1c_S:=sp [tI,tI] [tB] z1c_sh
theorem z1c_ok:okP 94 z1c_S:=okR (x:=fun _=>qr 1 (qs (A.reg (qn 3 (RA.spl 7 (qn 5 RA.done) (qk 3 (qn 2 RA.done))))) ql)) (Γ:=[]) trivial Tryz.call94 Tryz.func94 (fun _=>hEnd)
def z1q_b2 (p1:Addr)(p5:Int)(p6:Addr)(p7:Int)(N2:Addr->Int->Addr->Int->World->Prop)(N1:Pw.T36)(K:Pw.T0)(w:World):Prop :=
 lS w (p6.add 1) fun x49=>cnd (decide (p7<(x49.l:Int)))
 (let w50:=w.drew
 ∃ S51:World->Prop,S51 w50/\mS S51 p1 fun x52=>mS S51 (p6.add 1) fun x53=>nz x53.p fun a54=>(0<=p7/\p7<(x53.l:Nat))/\mI S51 (a54.add (p7.toNat*1)) fun x55=>z0m_sh x52 x55 (fun r57 w56=>S51 w56/\cnd (!r57)
 (K false w56)
 (inR .i64 (p7+1)/\N2 p1 p5 p6 (p7+1) w56)) w50)
 (inR .i64 (p5+1)/\N1 p1 (p5+1) w)
structure z1q_l2 (p1:Addr)(p5:Int)(p6:Addr)(p7:Int)(N1:Pw.T36)(K:Pw.T0)(w:World):Prop where
 out:∃ (I:Int->World->Prop) (μ:Int->World->Nat),I p7 w/\∀ (p71:Int) (w1:World),I p71 w1 ->
  z1q_b2 p1 p5 p6 p71 (fun p1' p5' p6' p7' w'=>((p1'=p1/\p5'=p5/\p6'=p6/\True)/\I p7' w')/\μ p7' w'<μ p71 w1) N1 K w1
def z1q_b1 (p1:Addr)(p5:Int)(N1:Pw.T36)(K:Pw.T0)(w:World):Prop :=
 lS w (p1.add 2) fun x34=>cnd (decide (p5<(x34.l:Int)))
 (lS w (p1.add 2) fun x35=>nz x35.p fun a36=>(0<=p5/\p5<(x35.l:Nat))/\lI w (a36.add (p5.toNat*3)) fun x37=>∃ x38:Sl,w.cell? ((a36.add (p5.toNat*3)).add 1)=some (vS x38)/\∃ x39:Int,w.cell? ((a36.add (p5.toNat*3)).add 2)=some (vI x39)/\let w40:=w.alloc (.cells #[(vI 0),vN,(vI 0)] 81)
 stN w40 (hA w 0) [(vI x37),(vS x38),(vI x39)] fun w41=>lS w41 (hA w 1) fun x42=>cnd ((x42.l:Int) == 0)
 (K false w41)
 (lS w41 (hA w 1) fun x43=>z0f_sh x43 (fun r45 w44=>cnd (!r45)
 (K false w44)
 (lI w44 (hA w 2) fun x46=>z1c_sh x46 1000000000 (fun r48 w47=>cnd (!r48)
 (K false w47)
 (z1q_l2 p1 p5 (hA w 0) 0 N1 K w47)) w44)) w41))
 (K true w)
structure z1q_l1 (p1:Addr)(p5:Int)(K:Pw.T0)(w:World):Prop where
 out:∃ (I:Int->World->Prop) (μ:Int->World->Nat),I p5 w/\∀ (p51:Int) (w1:World),I p51 w1 ->
  z1q_b1 p1 p51 (fun p1' p5' w'=>((p1'=p1/\True)/\I p5' w')/\μ p5' w'<μ p51 w1) K w1
def z1q_b0 (p1:Addr)(p3:Int)(N0:Pw.T36)(K:Pw.T0)(w:World):Prop :=
 lS w (p1.add 1) fun x15=>cnd (decide (p3<(x15.l:Int)))
 (lS w (p1.add 1) fun x16=>nz x16.p fun a17=>(0<=p3/\p3<(x16.l:Nat))/\lI w (a17.add (p3.toNat*4)) fun x18=>∃ x19:Int,w.cell? ((a17.add (p3.toNat*4)).add 1)=some (vI x19)/\∃ x20:Int,w.cell? ((a17.add (p3.toNat*4)).add 2)=some (vI x20)/\∃ x21:Int,w.cell? ((a17.add (p3.toNat*4)).add 3)=some (vI x21)/\let w22:=w.alloc (.cells #[(vI 0),(vI 0),(vI 0),(vI 0)] 57)
 stN w22 (hA w 0) [(vI x18),(vI x19),(vI x20),(vI x21)] fun w23=>lS w23 p1 fun x24=>lI w23 (hA w 0) fun x25=>z0m_sh x24 x25 (fun r27 w26=>cnd (!r27)
 (K false w26)
 (lI w26 (hA w 2) fun x28=>z1c_sh x28 1000000000 (fun r30 w29=>cnd (!r30)
 (K false w29)
 (lI w29 (hA w 3) fun x31=>z1c_sh x31 1000000 (fun r33 w32=>cnd (!r33)
 (K false w32)
 (inR .i64 (p3+1)/\N0 p1 (p3+1) w32)) w29)) w26)) w23)
 (z1q_l1 p1 0 K w)
structure z1q_l0 (p1:Addr)(p3:Int)(K:Pw.T0)(w:World):Prop where
 out:∃ (I:Int->World->Prop) (μ:Int->World->Nat),I p3 w/\∀ (p31:Int) (w1:World),I p31 w1 ->
  z1q_b0 p1 p31 (fun p1' p3' w'=>((p1'=p1/\True)/\I p3' w')/\μ p3' w'<μ p31 w1) K w1
structure z1q_sh (p0_0 p0_1 p0_2:Sl)(p0_3 p0_4:Int)(K:Pw.T0)(w:World):Prop where
 out:let w1:=w.alloc (.cells #[(vS p0_0),(vS p0_1),(vS p0_2),(vI p0_3),(vI p0_4)] 28)
  lS w1 (hA w 0) fun x2=>cnd (decide ((x2.l:Int)<1))
  (K false w1)
  (lS w1 (hA w 0) fun x3=>cnd (decide ((x3.l:Int)>12))
  (K false w1)
  (lS w1 (hA w 0) fun x4=>z0f_sh x4 (fun r6 w5=>cnd (!r6)
  (K false w5)
  (lS w5 (hA w 1) fun x7=>cnd (decide ((x7.l:Int)>480))
  (K false w5)
  (lS w5 (hA w 2) fun x8=>cnd (decide ((x8.l:Int)>100))
  (K false w5)
  (lI w5 (hA w 3) fun x9=>z1c_sh x9 1000000000 (fun r11 w10=>cnd (!r11)
  (K false w10)
  (lI w10 (hA w 4) fun x12=>z1c_sh x12 1000000000 (fun r14 w13=>cnd (!r14)
  (K false w13)
  (z1q_l0 (hA w 0) 0 K w13)) w10)) w5)))) w1))
def z1q_L0 (Kv:VW):Cur [tQ,tI] WP:=fun p1 p3=>z1q_l0 p1 p3 (kk [tB] Kv)
def z1q_L1 (Kv:VW):Cur [tQ,tI] WP:=fun p1 p5=>z1q_l1 p1 p5 (kk [tB] Kv)
def z1q_L2 (Kv:VW):Cur [tQ,tI] WP->Cur [tQ,tI,tQ,tI] WP:=fun N1 p1 p5 p6 p7=>z1q_l2 p1 p5 p6 p7 N1 (kk [tB] Kv)
noncomputable def z1q_S:=sp [.g 5,tL,tL,tL,tI,tI] [tB] z1q_sh
theorem z1q_ok:okP 46 z1q_S:=okR (x:=fun Kv=>qr 2 (qs (qs (A.reg (qn 5 (RA.spl 12 (qk 4 (qn 2 (qk 4 (qn 2 (qk 4 (qn 2 (qk 4 (qn 2 (qk 4 (qn 2 (qk 4 (qn 1 RA.done)))))))))))) (qn 6 (RA.spl 18 (qk 4 (qn 2 (qk 4 (qn 2 (qk 4 (qn 2 (qk 4 (qn 2 (qk 4 (qn 1 RA.done)))))))))) (qn 6 (RA.spl 24 (qk 4 (qn 2 (qk 4 (qn 2 (qk 4 (qn 2 (qk 4 (qn 1 RA.done)))))))) (qn 6 (RA.spl 30 (qk 4 (qn 2 (qk 4 (qn 2 (qk 4 (qn 1 RA.done)))))) (qn 6 (RA.spl 36 (qk 4 (qn 2 (qk 4 (qn 1 RA.done)))) (qn 6 (RA.spl 42 (qk 4 (qn 1 RA.done)) (qn 5 RA.done)))))))))))))) (qc (qr 1 ql) ql)) (qs (qr 1 (qb (A.loop [1,3] (uR0 [tQ,tI] (z1q_L0 Kv)) (qs (qr 5 (qc ql ql)) (qs (qb (qr 7 (qs (A.reg (qn 7 (RA.spl 66 (qk 4 (qn 2 (qk 4 (qn 1 RA.done)))) (qn 6 (RA.spl 72 (qk 4 (qn 1 RA.done)) (qn 5 RA.done)))))) (qc (qr 1 ql) ql)))) (qe 3)))))) (qs (qr 1 (qb (A.loop [1,5] (uR0 [tQ,tI] (z1q_L1 Kv)) (qs (qr 5 (qc ql ql)) (qs (qb (qr 7 (qs (qs (A.reg (qn 5 (RA.spl 94 (qk 4 (qn 2 (qk 4 (qn 1 RA.done)))) (qn 6 (RA.spl 100 (qk 4 (qn 1 RA.done)) (qn 5 RA.done)))))) (qc (qr 1 ql) ql)) (qr 1 (qb (A.loop [1,5,6,7] (uR1 [tQ,tI] [tQ,tI,tQ,tI] (z1q_L2 Kv)) (qs (qr 5 (qc ql ql)) (qs (qb (qs (A.drw (dp [0,1,2,3,4,5,6] (DA.eff 7 (DA.pur 8 DA.done)))) (qc (qr 1 ql) ql))) (qe 3))))))))) (qe 3)))))) (qr 1 ql))))) (Γ:=[(93,z0f_S),(94,z1c_S),(95,z0m_S)]) ⟨.inl z0f_ok,.inl z1c_ok,.inl z0m_ok,trivial⟩ Tryz.call46 Tryz.func46 (fun Kv=>q07 (q0a (L:=z1q_L0 Kv) (fun N0 p1 p3=>z1q_b0 p1 p3 N0 (kk [tB] Kv)) (fun⟨a0,_,_⟩ _ h=>let ⟨I,μ,h0,hr⟩:=h.out; ⟨fun b0 b1 w=>(b0=a0/\True)/\I b1 w,fun _ b1 w=>μ b1 w,⟨⟨rfl,trivial⟩,h0⟩,fun⟨_,_,_⟩ _ ⟨⟨e0,_⟩,hI⟩=>by cases e0; exact hr _ _ hI⟩)) <| q07 (q0a (L:=z1q_L1 Kv) (fun N1 p1 p5=>z1q_b1 p1 p5 N1 (kk [tB] Kv)) (fun⟨a0,_,_⟩ _ h=>let ⟨I,μ,h0,hr⟩:=h.out; ⟨fun b0 b1 w=>(b0=a0/\True)/\I b1 w,fun _ b1 w=>μ b1 w,⟨⟨rfl,trivial⟩,h0⟩,fun⟨_,_,_⟩ _ ⟨⟨e0,_⟩,hI⟩=>by cases e0; exact hr _ _ hI⟩)) <| q07 (q3q (L:=z1q_L2 Kv) (fun N1 N2 p1 p5 p6 p7=>z1q_b2 p1 p5 p6 p7 N2 N1 (kk [tB] Kv)) (fun _ ⟨a0,a1,a2,_,_⟩ _ h=>let ⟨I,μ,h0,hr⟩:=h.out; ⟨fun b0 b1 b2 b3 w=>(b0=a0/\b1=a1/\b2=a2/\True)/\I b3 w,fun _ _ _ b3 w=>μ b3 w,⟨⟨rfl,rfl,rfl,trivial⟩,h0⟩,fun⟨_,_,_,_,_⟩ _ ⟨⟨e0,e1,e2,_⟩,hI⟩=>by cases e0; cases e1; cases e2; exact hr _ _ hI⟩)) <| hEnd)
def z1a_b0 (p1:Sl)(p2:Addr)(p5:Int)(N0:Pw.T30)(K:Pw.T0)(w:World):Prop :=
 cnd (decide (p5<(p1.l:Int)))
 (let w3:=w.drew
 nz p1.p fun a4=>(0<=p5/\p5<(p1.l:Nat))/\lI w3 (a4.add (p5.toNat*1)) fun x5=>cnd (decide (x5<(-1)))
 (K false w3)
 (nz p1.p fun a6=>(0<=p5/\p5<(p1.l:Nat))/\lI w3 (a6.add (p5.toNat*1)) fun x7=>lS w3 (p2.add 1) fun x8=>cnd (decide (x7>=(x8.l:Int)))
 (K false w3)
 (nz p1.p fun a9=>(0<=p5/\p5<(p1.l:Nat))/\lI w3 (a9.add (p5.toNat*1)) fun x10=>cnd (decide (x10>=0))
 (lS w3 (p2.add 1) fun x11=>nz p1.p fun a12=>(0<=p5/\p5<(p1.l:Nat))/\lI w3 (a12.add (p5.toNat*1)) fun x13=>nz x11.p fun a14=>(0<=x13/\x13<(x11.l:Nat))/\lI w3 (a14.add (x13.toNat*4)) fun x15=>lS w3 p2 fun x16=>nz x16.p fun a17=>(0<=p5/\p5<(x16.l:Nat))/\lI w3 (a17.add (p5.toNat*1)) fun x18=>cnd (x15 != x18)
 (K false w3)
 (inR .i64 (p5+1)/\N0 p1 p2 (p5+1) w3))
 (inR .i64 (p5+1)/\N0 p1 p2 (p5+1) w3))))
 (K true w)
structure z1a_l0 (p1:Sl)(p2:Addr)(p5:Int)(K:Pw.T0)(w:World):Prop where
 out:∃ (I:Int->World->Prop) (μ:Int->World->Nat),I p5 w/\∀ (p51:Int) (w1:World),I p51 w1 ->
  z1a_b0 p1 p2 p51 (fun p1' p2' p5' w'=>((p1'=p1/\p2'=p2/\True)/\I p5' w')/\μ p5' w'<μ p51 w1) K w1
structure z1a_sh (p0_0 p0_1 p0_2:Sl)(p0_3 p0_4:Int)(p1:Sl)(K:Pw.T0)(w:World):Prop where
 out:let w1:=w.alloc (.cells #[(vS p0_0),(vS p0_1),(vS p0_2),(vI p0_3),(vI p0_4)] 28)
  lS w1 (hA w 0) fun x2=>cnd (decide ((p1.l:Int)>(x2.l:Int)))
  (K false w1)
  (z1a_l0 p1 (hA w 0) 0 K w1)
def z1a_L0 (Kv:VW):Cur [tL,tQ,tI] WP:=fun p1 p2 p5=>z1a_l0 p1 p2 p5 (kk [tB] Kv)
noncomputable def z1a_S:=sp [.g 5,tL,tL,tL,tI,tI,tL] [tB] z1a_sh
theorem z1a_ok:okP 82 z1a_S:=okR (x:=fun Kv=>qr 2 (qs (qr 6 (qc (qr 1 ql) ql)) (qs (qr 1 (qb (A.loop [1,2,5] (uR0 [tL,tQ,tI] (z1a_L0 Kv)) (qs (qr 4 (qc ql ql)) (qs (qb (qs (A.drp (dp [0,1,2,3,4,5] (DA.spl 23 (DA.skp 6 (DA.skp 7 (DA.skp 8 (DA.skp 9 (DA.skp 10 (DA.skp 11 (DA.skp 12 (DA.skp 13 (dp [14,15] (DA.skp 16 (DA.skp 17 (DA.skp 18 (DA.skp 19 (DA.skp 20 (DA.skp 21 (DA.skp 22 (DA.skp 23 (DA.skp 24 (DA.skp 25 (DA.skp 26 (DA.skp 27 (DA.skp 28 (DA.skp 29 (DA.skp 30 (DA.skp 31 (DA.skp 32 (DA.skp 33 (DA.skp 34 (DA.skp 35 (DA.skp 36 (DA.skp 37 (DA.pur 38 DA.done)))))))))))))))))))))))))))))))) (dp [6,7,8,9,10,11,12,13,14,15] (DA.spl 33 (DA.skp 16 (DA.skp 17 (DA.skp 18 (DA.skp 19 (DA.skp 20 (DA.skp 21 (DA.skp 22 (DA.skp 23 (DA.skp 24 (DA.skp 25 (DA.skp 26 (DA.skp 27 (DA.skp 28 (DA.skp 29 (DA.skp 30 (DA.skp 31 (DA.skp 32 (DA.skp 33 (DA.skp 34 (DA.skp 35 (DA.skp 36 (DA.skp 37 (DA.pur 38 DA.done))))))))))))))))))))))) (dp [16,17,18,19,20,21] (DA.spl 39 (dp [22,23,24,25,26,27,28,29,30,31,32,33,34,35,36,37,38] DA.done) (DA.skp 22 (DA.skp 23 (DA.skp 24 (DA.skp 25 (DA.skp 26 (DA.skp 27 (DA.skp 28 (DA.skp 29 (DA.skp 30 (DA.skp 31 (DA.skp 32 (DA.skp 33 (DA.skp 34 (DA.skp 35 (DA.skp 36 (dp [37,38] DA.done))))))))))))))))))))))) (qc (qr 1 ql) ql))) (qe 3)))))) (qr 1 ql)))) (Γ:=[]) trivial Tryz.call82 Tryz.func82 (fun Kv=>q07 (q0a (L:=z1a_L0 Kv) (fun N0 p1 p2 p5=>z1a_b0 p1 p2 p5 N0 (kk [tB] Kv)) (fun⟨a0,a1,_,_⟩ _ h=>let ⟨I,μ,h0,hr⟩:=h.out; ⟨fun b0 b1 b2 w=>(b0=a0/\b1=a1/\True)/\I b2 w,fun _ _ b2 w=>μ b2 w,⟨⟨rfl,rfl,trivial⟩,h0⟩,fun⟨_,_,_,_⟩ _ ⟨⟨e0,e1,_⟩,hI⟩=>by cases e0; cases e1; exact hr _ _ hI⟩)) <| hEnd)
structure z2l_sh (p0_0 p0_1:Int)(p1_0 p1_1:Int)(p2_0 p2_1:Int)(K:Pw.T3)(w:World):Prop where
 out:let w1:=w.alloc (.cells #[(vI p0_0),(vI p0_1)] 31)
  let w2:=w1.alloc (.cells #[(vI p1_0),(vI p1_1)] 31)
  let w3:=w2.alloc (.cells #[(vI p2_0),(vI p2_1)] 31)
  let w4:=w3.alloc (.cells #[(vI 0),(vI 0)] 31)
  lI w4 (hA w1 0) fun x5=>lI w4 (hA w1 1) fun x6=>lI w4 (hA w2 0) fun x7=>lI w4 (hA w2 1) fun x8=>z2g_sh x5 x6 x7 x8 (fun r10_0 r10_1 r11 w9=>let w12:=w9.alloc (.cells #[(vI 0),(vI 0)] 31)
  wrOk w12 (hA w9 0)/\
  (let w13:=w12.setCell (hA w9 0) (vI r10_0)
  wrOk w13 (hA w9 1)/\
  (let w14:=w13.setCell (hA w9 1) (vI r10_1)
  lI w14 (hA w 0) fun x15=>lI w14 (hA w 1) fun x16=>lI w14 (hA w9 0) fun x17=>lI w14 (hA w9 1) fun x18=>z2d_sh x15 x16 x17 x18 (fun r20_0 r20_1 r21 w19=>let w22:=w19.alloc (.cells #[(vI 0),(vI 0)] 31)
  wrOk w22 (hA w19 0)/\
  (let w23:=w22.setCell (hA w19 0) (vI r20_0)
  wrOk w23 (hA w19 1)/\
  (let w24:=w23.setCell (hA w19 1) (vI r20_1)
  lI w24 (hA w19 0) fun x25=>lI w24 (hA w19 1) fun x26=>cnd r11
  (wrOk w24 (hA w3 0)/\
  (let w27:=w24.setCell (hA w3 0) (vI x25)
  wrOk w27 (hA w3 1)/\
  (let w28:=w27.setCell (hA w3 1) (vI x26)
  lI w28 (hA w3 0) fun x31=>lI w28 (hA w3 1) fun x32=>K x31 x32 r21 w28)))
  (wrOk w24 (hA w3 0)/\
  (let w29:=w24.setCell (hA w3 0) (vI x25)
  wrOk w29 (hA w3 1)/\
  (let w30:=w29.setCell (hA w3 1) (vI x26)
  lI w30 (hA w3 0) fun x33=>lI w30 (hA w3 1) fun x34=>K x33 x34 false w30)))))) w14))) w4
noncomputable def z2l_S:=sp [.g 2,tI,tI,.g 2,tI,tI,.g 2,tI,tI] [.u 2,.g 2,tI,tI,tB] z2l_sh
theorem z2l_ok:okP 83 z2l_S:=okR (x:=fun _=>qr 5 (qr 9 (qr 9 (qs (A.reg (qn 3 (RA.spl 26 (qn 4 RA.done) (qk 1 (qn 3 RA.done))))) ql)))) (Γ:=[(86,z2d_S),(138,z2g_S)]) ⟨.inl z2d_ok,.inl z2g_ok,trivial⟩ Tryz.call83 Tryz.func83 (fun _=>hEnd)
structure z0n_k2 (p1:Sl)(p3 p5:Addr)(p7:Int)(p8:Bool)(N0:Pw.T23)(K:Pw.T0)(w:World):Prop where
 out:cnd (!p8)
  (K false w)
  (inR .i64 (p7+1)/\N0 p1 p3 p5 (p7+1) w)
def z0n_b1 (p1:Sl)(p3 p5:Addr)(p7:Int)(p8:Bool)(p9:Int)(N1:Sl->Addr->Addr->Int->Bool->Int->World->Prop)(N0:Pw.T23)(K:Pw.T0)(w:World):Prop :=
 lS w (p3.add 1) fun x21=>cnd (decide (p9<(x21.l:Int)))
 (let w22:=w.drew
 cnd p8
 (inR .i64 (p9+1)/\N1 p1 p3 p5 p7 true (p9+1) w22)
 (lS w22 (p3.add 1) fun x23=>nz x23.p fun a24=>(0<=p9/\p9<(x23.l:Nat))/\lI w22 (a24.add (p9.toNat*4)) fun x25=>lS w22 p3 fun x26=>nz x26.p fun a27=>(0<=p7/\p7<(x26.l:Nat))/\lI w22 (a27.add (p7.toNat*1)) fun x28=>cnd (x25 == x28)
 (lS w22 (p3.add 1) fun x29=>nz x29.p fun a30=>(0<=p9/\p9<(x29.l:Nat))/\∃ x31:Int,w22.cell? ((a30.add (p9.toNat*4)).add 1)=some (vI x31)/\lI w22 p5 fun x32=>inR .i64 (p9+1)/\N1 p1 p3 p5 p7 (x31 == x32) (p9+1) w22)
 (inR .i64 (p9+1)/\N1 p1 p3 p5 p7 false (p9+1) w22)))
 (z0n_k2 p1 p3 p5 p7 p8 N0 K w)
structure z0n_l1 (p1:Sl)(p3 p5:Addr)(p7:Int)(p8:Bool)(p9:Int)(N0:Pw.T23)(K:Pw.T0)(w:World):Prop where
 out:∃ (I:Bool->Int->World->Prop) (μ:Bool->Int->World->Nat),I p8 p9 w/\∀ (p81:Bool) (p91:Int) (w1:World),I p81 p91 w1 ->
  z0n_b1 p1 p3 p5 p7 p81 p91 (fun p1' p3' p5' p7' p8' p9' w'=>((p1'=p1/\p3'=p3/\p5'=p5/\p7'=p7/\True)/\I p8' p9' w')/\μ p8' p9' w'<μ p81 p91 w1) N0 K w1
def z0n_b0 (p1:Sl)(p3 p5:Addr)(p7:Int)(N0:Pw.T23)(K:Pw.T0)(w:World):Prop :=
 lS w p3 fun x3=>cnd (decide (p7<(x3.l:Int)))
 (let w4:=w.drew
 ∃ S5:World->Prop,S5 w4/\mS S5 (p5.add 1) fun x6=>mS S5 p3 fun x7=>nz x7.p fun a8=>(0<=p7/\p7<(x7.l:Nat))/\mI S5 (a8.add (p7.toNat*1)) fun x9=>z0m_sh x6 x9 (fun r11 w10=>S5 w10/\cnd (!r11)
 (inR .i64 (p7+1)/\N0 p1 p3 p5 (p7+1) w10)
 (cnd (decide (p7<(p1.l:Int)))
 (let w12:=w10.drew
 nz p1.p fun a13=>(0<=p7/\p7<(p1.l:Nat))/\lI w12 (a13.add (p7.toNat*1)) fun x14=>cnd (decide (x14>=0))
 (lS w12 (p3.add 1) fun x15=>nz p1.p fun a16=>(0<=p7/\p7<(p1.l:Nat))/\lI w12 (a16.add (p7.toNat*1)) fun x17=>nz x15.p fun a18=>(0<=x17/\x17<(x15.l:Nat))/\∃ x19:Int,w12.cell? ((a18.add (x17.toNat*4)).add 1)=some (vI x19)/\lI w12 p5 fun x20=>z0n_k2 p1 p3 p5 p7 (x19 == x20) N0 K w12)
 (z0n_k2 p1 p3 p5 p7 false N0 K w12))
 (z0n_l1 p1 p3 p5 p7 false 0 N0 K w10))) w4)
 (K true w)
structure z0n_l0 (p1:Sl)(p3 p5:Addr)(p7:Int)(K:Pw.T0)(w:World):Prop where
 out:∃ (I:Int->World->Prop) (μ:Int->World->Nat),I p7 w/\∀ (p71:Int) (w1:World),I p71 w1 ->
  z0n_b0 p1 p3 p5 p71 (fun p1' p3' p5' p7' w'=>((p1'=p1/\p3'=p3/\p5'=p5/\True)/\I p7' w')/\μ p7' w'<μ p71 w1) K w1
structure z0n_sh (p0_0 p0_1 p0_2:Sl)(p0_3 p0_4:Int)(p1:Sl)(p2_0:Int)(p2_1:Sl)(p2_2:Int)(K:Pw.T0)(w:World):Prop where
 out:let w1:=w.alloc (.cells #[(vS p0_0),(vS p0_1),(vS p0_2),(vI p0_3),(vI p0_4)] 28)
  let w2:=w1.alloc (.cells #[(vI p2_0),(vS p2_1),(vI p2_2)] 81)
  z0n_l0 p1 (hA w 0) (hA w1 0) 0 K w2
def z0n_L0 (Kv:VW):Cur [tL,tQ,tQ,tI] WP:=fun p1 p3 p5 p7=>z0n_l0 p1 p3 p5 p7 (kk [tB] Kv)
def z0n_L1 (Kv:VW):Cur [tL,tQ,tQ,tI] WP->Cur [tL,tQ,tQ,tI,tB,tI] WP:=fun N0 p1 p3 p5 p7 p8 p9=>z0n_l1 p1 p3 p5 p7 p8 p9 N0 (kk [tB] Kv)
def z0n_L2 (Kv:VW):Cur [tL,tQ,tQ,tI] WP->Cur [tL,tQ,tQ,tI,tB] WP:=fun N0 p1 p3 p5 p7 p8=>z0n_k2 p1 p3 p5 p7 p8 N0 (kk [tB] Kv)
noncomputable def z0n_S:=sp [.g 5,tL,tL,tL,tI,tI,tL,.g 3,tI,tL,tI] [tB] z0n_sh
theorem z0n_ok:okP 144 z0n_S:=okR (x:=fun Kv=>qr 3 (qs (qr 1 (qb (A.loop [1,3,5,7] (uR0 [tL,tQ,tQ,tI] (z0n_L0 Kv)) (qs (qr 5 (qc ql ql)) (qs (qb (qs (qs (A.drw (dp [0,1,2,3,4,5,6] (DA.eff 7 (DA.pur 8 DA.done)))) (qc ql ql)) (qr 1 (qs (qr 4 (qc (A.drp (dp [0,1,2,3,4,5] (DA.spl 35 (dp [6,7,8,9,10,11,12,13,14,15,16,17,18,19] DA.done) (DA.skp 6 (DA.skp 7 (DA.skp 8 (DA.skp 9 (DA.skp 10 (DA.skp 11 (DA.skp 12 (DA.skp 13 (DA.skp 14 (DA.skp 15 (DA.skp 16 (DA.skp 17 (dp [18,19] DA.done)))))))))))))))) (qr 1 (qb (A.loop [1,3,5,7,8,9] (uR1 [tL,tQ,tQ,tI] [tL,tQ,tQ,tI,tB,tI] (z0n_L1 Kv)) (qs (qr 5 (qc ql ql)) (qs (qb (A.drp (dp [0,1] (DA.spl 57 (DA.skp 2 (DA.skp 3 (DA.skp 4 (DA.skp 5 (DA.skp 6 (DA.skp 7 (DA.skp 8 (DA.skp 9 (DA.skp 10 (DA.skp 11 (DA.skp 12 (DA.skp 13 (DA.skp 14 (DA.skp 15 (DA.skp 16 (DA.skp 17 (DA.skp 18 (DA.skp 19 (DA.skp 20 (DA.skp 21 (DA.skp 22 (DA.skp 23 (DA.skp 24 (dp [25,26] DA.done)))))))))))))))))))))))) (dp [2,3,4,5,6,7,8,9,10,11,12,13,14] (DA.spl 70 (dp [15,16,17,18,19,20,21,22,23,24,25,26] DA.done) (DA.skp 15 (DA.skp 16 (DA.skp 17 (DA.skp 18 (DA.skp 19 (DA.skp 20 (DA.skp 21 (DA.skp 22 (DA.skp 23 (dp [24,25,26] DA.done)))))))))))))))) (qe 3)))))))) (A.cut [1,3,5,7,8] (uR1 [tL,tQ,tQ,tI] [tL,tQ,tQ,tI,tB] (z0n_L2 Kv)) (qr 2 (qc (qr 1 ql) ql))))))) (qe 3)))))) (qr 1 ql))) (Γ:=[(95,z0m_S)]) ⟨.inl z0m_ok,trivial⟩ Tryz.call144 Tryz.func144 (fun Kv=>q07 (q0a (L:=z0n_L0 Kv) (fun N0 p1 p3 p5 p7=>z0n_b0 p1 p3 p5 p7 N0 (kk [tB] Kv)) (fun⟨a0,a1,a2,_,_⟩ _ h=>let ⟨I,μ,h0,hr⟩:=h.out; ⟨fun b0 b1 b2 b3 w=>(b0=a0/\b1=a1/\b2=a2/\True)/\I b3 w,fun _ _ _ b3 w=>μ b3 w,⟨⟨rfl,rfl,rfl,trivial⟩,h0⟩,fun⟨_,_,_,_,_⟩ _ ⟨⟨e0,e1,e2,_⟩,hI⟩=>by cases e0; cases e1; cases e2; exact hr _ _ hI⟩)) <| q07 (q3q (L:=z0n_L1 Kv) (fun N0 N1 p1 p3 p5 p7 p8 p9=>z0n_b1 p1 p3 p5 p7 p8 p9 N1 N0 (kk [tB] Kv)) (fun _ ⟨a0,a1,a2,a3,_,_,_⟩ _ h=>let ⟨I,μ,h0,hr⟩:=h.out; ⟨fun b0 b1 b2 b3 b4 b5 w=>(b0=a0/\b1=a1/\b2=a2/\b3=a3/\True)/\I b4 b5 w,fun _ _ _ _ b4 b5 w=>μ b4 b5 w,⟨⟨rfl,rfl,rfl,rfl,trivial⟩,h0⟩,fun⟨_,_,_,_,_,_,_⟩ _ ⟨⟨e0,e1,e2,e3,_⟩,hI⟩=>by cases e0; cases e1; cases e2; cases e3; exact hr _ _ _ hI⟩)) <| q07 (hK1 (F:=z0n_L2 Kv)) <| hEnd)
def z24_b0 (p1:Sl)(p2:Addr)(p5 p6:Int)(N0:Pw.T39)(K:Pw.T1)(w:World):Prop :=
 lS w (p2.add 2) fun x2=>cnd (decide (p6<(x2.l:Int)))
 (let w3:=w.drew
 ∃ S4:World->Prop,S4 w3/\mP S4 p2 fun x5 x6 x7 x8 x9=>mS S4 (p2.add 2) fun x10=>nz x10.p fun a11=>(0<=p6/\p6<(x10.l:Nat))/\mI S4 (a11.add (p6.toNat*3)) fun x12=>∃ x13:Sl,(∀ w':World,S4 w'->w'.cell? ((a11.add (p6.toNat*3)).add 1)=some (vS x13))/\∃ x14:Int,(∀ w':World,S4 w'->w'.cell? ((a11.add (p6.toNat*3)).add 2)=some (vI x14))/\z0n_sh x5 x6 x7 x8 x9 p1 x12 x13 x14 (fun r16 w15=>S4 w15/\cnd r16
 (lS w15 (p2.add 2) fun x17=>nz x17.p fun a18=>(0<=p6/\p6<(x17.l:Nat))/\∃ x19:Int,w15.cell? ((a18.add (p6.toNat*3)).add 2)=some (vI x19)/\inR .i64 (p5+x19)/\inR .i64 (p6+1)/\N0 p1 p2 (p5+x19) (p6+1) w15)
 (inR .i64 (p6+1)/\N0 p1 p2 p5 (p6+1) w15)) w3)
 (K p5 w)
structure z24_l0 (p1:Sl)(p2:Addr)(p5 p6:Int)(K:Pw.T1)(w:World):Prop where
 out:∃ (I:Int->Int->World->Prop) (μ:Int->Int->World->Nat),I p5 p6 w/\∀ (p51 p61:Int) (w1:World),I p51 p61 w1 ->
  z24_b0 p1 p2 p51 p61 (fun p1' p2' p5' p6' w'=>((p1'=p1/\p2'=p2/\True)/\I p5' p6' w')/\μ p5' p6' w'<μ p51 p61 w1) K w1
structure z24_sh (p0_0 p0_1 p0_2:Sl)(p0_3 p0_4:Int)(p1:Sl)(K:Pw.T1)(w:World):Prop where
 out:let w1:=w.alloc (.cells #[(vS p0_0),(vS p0_1),(vS p0_2),(vI p0_3),(vI p0_4)] 28)
  z24_l0 p1 (hA w 0) 0 0 K w1
def z24_L0 (Kv:VW):Cur [tL,tQ,tI,tI] WP:=fun p1 p2 p5 p6=>z24_l0 p1 p2 p5 p6 (kk [tI] Kv)
noncomputable def z24_S:=sp [.g 5,tL,tL,tL,tI,tI,tL] [tI] z24_sh
theorem z24_ok:okP 87 z24_S:=okR (x:=fun Kv=>qr 2 (qr 1 (qs (qr 1 (qb (A.loop [1,2,5,6] (uR0 [tL,tQ,tI,tI] (z24_L0 Kv)) (qs (qr 5 (qc ql ql)) (qs (qb (qs (A.drw (dp [0,1,2,3,4,5,6] (DA.eff 7 (DA.pur 8 DA.done)))) (qr 1 (qc (qe 9) ql)))) (qe 3)))))) (qr 2 ql)))) (Γ:=[(144,z0n_S)]) ⟨.inl z0n_ok,trivial⟩ Tryz.call87 Tryz.func87 (fun Kv=>q07 (q0a (L:=z24_L0 Kv) (fun N0 p1 p2 p5 p6=>z24_b0 p1 p2 p5 p6 N0 (kk [tI] Kv)) (fun⟨a0,a1,_,_,_⟩ _ h=>let ⟨I,μ,h0,hr⟩:=h.out; ⟨fun b0 b1 b2 b3 w=>(b0=a0/\b1=a1/\True)/\I b2 b3 w,fun _ _ b2 b3 w=>μ b2 b3 w,⟨⟨rfl,rfl,trivial⟩,h0⟩,fun⟨_,_,_,_,_⟩ _ ⟨⟨e0,e1,_⟩,hI⟩=>by cases e0; cases e1; exact hr _ _ _ hI⟩)) <| hEnd)
structure z1r_k6 (p1:Sl)(p3 p5 p10:Addr)(p11:Bool)(p12:Int)(p13:Addr)(p14:Int)(p16:Addr)(N2:Pw.T12)(N1:Pw.T11)(K:Pw.T2)(w:World):Prop where
 out:lI w p16 fun x131=>lI w (p16.add 1) fun x132=>wrOk w p13/\
  (let w133:=w.setCell p13 (vI x131)
  wrOk w133 (p13.add 1)/\
  (let w134:=w133.setCell (p13.add 1) (vI x132)
  inR .i64 (p14+1)/\N2 p1 p3 p5 p10 p11 p12 p13 (p14+1) w134))
structure z1r_k5 (p1:Sl)(p3 p5 p10:Addr)(p11:Bool)(p12:Int)(p13:Addr)(p14:Int)(p16:Addr)(N2:Pw.T12)(N1:Pw.T11)(K:Pw.T2)(w:World):Prop where
 out:cnd (decide (p12<(p1.l:Int)))
  (z1r_k6 p1 p3 p5 p10 p11 p12 p13 p14 p16 N2 N1 K w)
  (lI w p16 fun x125=>lI w (p16.add 1) fun x126=>lI w p13 fun x127=>lI w (p13.add 1) fun x128=>z2e_sh x125 x126 x127 x128 (fun r130 w129=>cnd (decide (r130>0))
  (z1r_k6 p1 p3 p5 p10 p11 p12 p13 p14 p16 N2 N1 K w129)
  (inR .i64 (p14+1)/\N2 p1 p3 p5 p10 p11 p12 p13 (p14+1) w129)) w)
structure z1r_k4 (p1:Sl)(p3 p5 p10:Addr)(p11:Bool)(p12:Int)(p13:Addr)(p14:Int)(p16:Addr)(p17:Bool)(N2:Pw.T12)(N1:Pw.T11)(K:Pw.T2)(w:World):Prop where
 out:cnd p11
  (z1r_k5 p1 p3 p5 p10 p17 p12 p13 p14 p16 N2 N1 K w)
  (z1r_k5 p1 p3 p5 p10 false p12 p13 p14 p16 N2 N1 K w)
def z1r_k3d (p1:Sl)(p3 p5 p10:Addr)(p11:Bool)(p12:Int)(p13:Addr)(p14:Int)(p15:Addr)(N2:Pw.T12)(N1:Pw.T11)(K:Pw.T2)(w:World):Prop :=
 let w83:=w.drew
 ∃ S84:World->Prop,S84 w83/\mI S84 (p15.add 3) fun x85=>mI S84 (p3.add 4) fun x86=>inR .i64 (x86+1)/\inR .i64 (x85*(x86+1))/\mI S84 (p15.add 2) fun x87=>inR .i64 ((x85*(x86+1))-x87)/\mI S84 p5 fun x88=>mI S84 (p5.add 1) fun x89=>mI S84 (p15.add 2) fun x90=>inR .i64 (-x90)/\(z2s_sh ((x85*(x86+1))-x87) (fun r92_0 r92_1 w91=>S84 w91/\(z2s_sh (-x90) (fun r94_0 r94_1 w93=>S84 w93/\(z2l_sh r92_0 r92_1 x88 x89 r94_0 r94_1 (fun r96_0 r96_1 r97 w95=>S84 w95/\let w98:=w95.alloc (.cells #[(vI 0),(vI 0)] 31)
 S84 w98/\wrOk w98 (hA w95 0)/\
 (let w99:=w98.setCell (hA w95 0) (vI r96_0)
 wrOk w99 (hA w95 1)/\
 (let w100:=w99.setCell (hA w95 1) (vI r96_1)
 z1r_k4 p1 p3 p5 p10 p11 p12 p13 p14 (hA w95 0) r97 N2 N1 K w100))) w93)
/\(let w101:=w93.alloc (.cells #[(vI 0),(vI 0)] 31)
 S84 w101/\z2l_sh r92_0 r92_1 x88 x89 r94_0 r94_1 (fun r103_0 r103_1 r104 w102=>S84 w102/\wrOk w102 (hA w93 0)/\
 (let w105:=w102.setCell (hA w93 0) (vI r103_0)
 wrOk w105 (hA w93 1)/\
 (let w106:=w105.setCell (hA w93 1) (vI r103_1)
 z1r_k4 p1 p3 p5 p10 p11 p12 p13 p14 (hA w93 0) r104 N2 N1 K w106))) w101)) w91)
/\(let w107:=w91.alloc (.cells #[(vI 0),(vI 0)] 31)
 S84 w107/\z2s_sh (-x90) (fun r109_0 r109_1 w108=>S84 w108/\z2l_sh r92_0 r92_1 x88 x89 r109_0 r109_1 (fun r111_0 r111_1 r112 w110=>S84 w110/\wrOk w110 (hA w91 0)/\
 (let w113:=w110.setCell (hA w91 0) (vI r111_0)
 wrOk w113 (hA w91 1)/\
 (let w114:=w113.setCell (hA w91 1) (vI r111_1)
 z1r_k4 p1 p3 p5 p10 p11 p12 p13 p14 (hA w91 0) r112 N2 N1 K w114))) w108) w107)) w83)
/\(let w115:=w83.alloc (.cells #[(vI 0),(vI 0)] 31)
 S84 w115/\z2s_sh ((x85*(x86+1))-x87) (fun r117_0 r117_1 w116=>S84 w116/\z2s_sh (-x90) (fun r119_0 r119_1 w118=>S84 w118/\z2l_sh r117_0 r117_1 x88 x89 r119_0 r119_1 (fun r121_0 r121_1 r122 w120=>S84 w120/\wrOk w120 (hA w83 0)/\
 (let w123:=w120.setCell (hA w83 0) (vI r121_0)
 wrOk w123 (hA w83 1)/\
 (let w124:=w123.setCell (hA w83 1) (vI r121_1)
 z1r_k4 p1 p3 p5 p10 p11 p12 p13 p14 (hA w83 0) r122 N2 N1 K w124))) w118) w116) w115)
structure z1r_k3 (p1:Sl)(p3 p5 p10:Addr)(p11:Bool)(p12:Int)(p13:Addr)(p14:Int)(p15:Addr)(N2:Pw.T12)(N1:Pw.T11)(K:Pw.T2)(w:World):Prop where
 out:z1r_k3d p1 p3 p5 p10 p11 p12 p13 p14 p15 N2 N1 K w
def z1r_b2 (p1:Sl)(p3 p5 p10:Addr)(p11:Bool)(p12:Int)(p13:Addr)(p14:Int)(N2:Pw.T12)(N1:Pw.T11)(K:Pw.T2)(w:World):Prop :=
 lS w (p3.add 1) fun x67=>cnd (decide (p14<(x67.l:Int)))
 (lS w (p3.add 1) fun x68=>nz x68.p fun a69=>(0<=p14/\p14<(x68.l:Nat))/\lI w (a69.add (p14.toNat*4)) fun x70=>∃ x71:Int,w.cell? ((a69.add (p14.toNat*4)).add 1)=some (vI x71)/\∃ x72:Int,w.cell? ((a69.add (p14.toNat*4)).add 2)=some (vI x72)/\∃ x73:Int,w.cell? ((a69.add (p14.toNat*4)).add 3)=some (vI x73)/\let w74:=w.alloc (.cells #[(vI 0),(vI 0),(vI 0),(vI 0)] 57)
 stN w74 (hA w 0) [(vI x70),(vI x71),(vI x72),(vI x73)] fun w75=>let w76:=w75.drew
 lI w76 (hA w 0) fun x77=>lS w76 p3 fun x78=>nz x78.p fun a79=>(0<=p12/\p12<(x78.l:Nat))/\lI w76 (a79.add (p12.toNat*1)) fun x80=>cnd (x77 != x80)
 (inR .i64 (p14+1)/\N2 p1 p3 p5 p10 p11 p12 p13 (p14+1) w76)
 (cnd (decide (p12<(p1.l:Int)))
 (nz p1.p fun a81=>(0<=p12/\p12<(p1.l:Nat))/\lI w76 (a81.add (p12.toNat*1)) fun x82=>cnd (x82 != p14)
 (inR .i64 (p14+1)/\N2 p1 p3 p5 p10 p11 p12 p13 (p14+1) w76)
 (z1r_k3 p1 p3 p5 p10 p11 p12 p13 p14 (hA w 0) N2 N1 K w76))
 (z1r_k3 p1 p3 p5 p10 p11 p12 p13 p14 (hA w 0) N2 N1 K w76)))
 (lI w p10 fun x135=>lI w (p10.add 1) fun x136=>lI w p13 fun x137=>lI w (p13.add 1) fun x138=>z2d_sh x135 x136 x137 x138 (fun r140_0 r140_1 r141 w139=>let w142:=w139.alloc (.cells #[(vI 0),(vI 0)] 31)
 wrOk w142 (hA w139 0)/\
 (let w143:=w142.setCell (hA w139 0) (vI r140_0)
 wrOk w143 (hA w139 1)/\
 (let w144:=w143.setCell (hA w139 1) (vI r140_1)
 lI w144 (hA w139 0) fun x145=>lI w144 (hA w139 1) fun x146=>wrOk w144 p10/\
 (let w147:=w144.setCell p10 (vI x145)
 wrOk w147 (p10.add 1)/\
 (let w148:=w147.setCell (p10.add 1) (vI x146)
 cnd p11
 (inR .i64 (p12+1)/\N1 p1 p3 p5 p10 r141 (p12+1) w148)
 (inR .i64 (p12+1)/\N1 p1 p3 p5 p10 false (p12+1) w148)))))) w)
structure z1r_l2 (p1:Sl)(p3 p5 p10:Addr)(p11:Bool)(p12:Int)(p13:Addr)(p14:Int)(N1:Pw.T11)(K:Pw.T2)(w:World):Prop where
 out:∃ (I:Bool->Int->World->Prop) (μ:Bool->Int->World->Nat),I p11 p14 w/\∀ (p111:Bool) (p141:Int) (w1:World),I p111 p141 w1 ->
  z1r_b2 p1 p3 p5 p10 p111 p12 p13 p141 (fun p1' p3' p5' p10' p11' p12' p13' p14' w'=>((p1'=p1/\p3'=p3/\p5'=p5/\p10'=p10/\p12'=p12/\p13'=p13/\True)/\I p11' p14' w')/\μ p11' p14' w'<μ p111 p141 w1) N1 K w1
structure z1r_k8 (p1:Sl)(p3 p10:Addr)(p11:Bool)(p20:Addr)(p21:Bool)(K:Pw.T2)(w:World):Prop where
 out:let w175:=w.drew
  ∃ S176:World->Prop,S176 w175/\mI S176 p10 fun x177=>mI S176 (p10.add 1) fun x178=>mI S176 p20 fun x179=>mI S176 (p20.add 1) fun x180=>mP S176 p3 fun x181 x182 x183 x184 x185=>z24_sh x181 x182 x183 x184 x185 p1 (fun r187 w186=>S176 w186/\z2s_sh r187 (fun r189_0 r189_1 w188=>S176 w188/\z2l_sh x177 x178 x179 x180 r189_0 r189_1 (fun r191_0 r191_1 r192 w190=>S176 w190/\wrOk w190 p10/\
  (let w193:=w190.setCell p10 (vI r191_0)
  wrOk w193 (p10.add 1)/\
  (let w194:=w193.setCell (p10.add 1) (vI r191_1)
  cnd (!p11)
  (K 0 false w194)
  (cnd (!p21)
  (K 0 false w194)
  (cnd (!r192)
  (K 0 false w194)
  (lI w194 p10 fun x195=>lI w194 (p10.add 1) fun x196=>z1i_sh x195 x196 (fun r198 w197=>K r198 true w197) w194)))))) w188) w186) w175
def z1r_k7d (p1:Sl)(p3 p5 p10:Addr)(p11:Bool)(K:Pw.T2)(w:World):Prop :=
 let w149:=w.drew
 ∃ S150:World->Prop,S150 w149/\mI S150 p5 fun x151=>mI S150 (p5.add 1) fun x152=>(z2s_sh 1 (fun r154_0 r154_1 w153=>S150 w153/\(z2d_sh r154_0 r154_1 x151 x152 (fun r156_0 r156_1 r157 w155=>S150 w155/\let w158:=w155.alloc (.cells #[(vI 0),(vI 0)] 31)
 S150 w158/\wrOk w158 (hA w155 0)/\
 (let w159:=w158.setCell (hA w155 0) (vI r156_0)
 wrOk w159 (hA w155 1)/\
 (let w160:=w159.setCell (hA w155 1) (vI r156_1)
 z1r_k8 p1 p3 p10 p11 (hA w155 0) r157 K w160))) w153)
/\(let w161:=w153.alloc (.cells #[(vI 0),(vI 0)] 31)
 S150 w161/\z2d_sh r154_0 r154_1 x151 x152 (fun r163_0 r163_1 r164 w162=>wrOk w162 (hA w153 0)/\
 (let w165:=w162.setCell (hA w153 0) (vI r163_0)
 wrOk w165 (hA w153 1)/\
 (let w166:=w165.setCell (hA w153 1) (vI r163_1)
 z1r_k8 p1 p3 p10 p11 (hA w153 0) r164 K w166))) w161)) w149)
/\(let w167:=w149.alloc (.cells #[(vI 0),(vI 0)] 31)
 S150 w167/\z2s_sh 1 (fun r169_0 r169_1 w168=>S150 w168/\z2d_sh r169_0 r169_1 x151 x152 (fun r171_0 r171_1 r172 w170=>wrOk w170 (hA w149 0)/\
 (let w173:=w170.setCell (hA w149 0) (vI r171_0)
 wrOk w173 (hA w149 1)/\
 (let w174:=w173.setCell (hA w149 1) (vI r171_1)
 z1r_k8 p1 p3 p10 p11 (hA w149 0) r172 K w174))) w168) w167)
structure z1r_k7 (p1:Sl)(p3 p5 p10:Addr)(p11:Bool)(K:Pw.T2)(w:World):Prop where
 out:z1r_k7d p1 p3 p5 p10 p11 K w
def z1r_b1 (p1:Sl)(p3 p5 p10:Addr)(p11:Bool)(p12:Int)(N1:Pw.T11)(K:Pw.T2)(w:World):Prop :=
 lS w p3 fun x61=>cnd (decide (p12<(x61.l:Int)))
 (cnd p11
 (z2s_sh 0 (fun r63_0 r63_1 w62=>let w64:=w62.alloc (.cells #[(vI 0),(vI 0)] 31)
 wrOk w64 (hA w62 0)/\
 (let w65:=w64.setCell (hA w62 0) (vI r63_0)
 wrOk w65 (hA w62 1)/\
 (let w66:=w65.setCell (hA w62 1) (vI r63_1)
 z1r_l2 p1 p3 p5 p10 p11 p12 (hA w62 0) 0 N1 K w66))) w)
 (z1r_k7 p1 p3 p5 p10 p11 K w))
 (z1r_k7 p1 p3 p5 p10 p11 K w)
structure z1r_l1 (p1:Sl)(p3 p5 p10:Addr)(p11:Bool)(p12:Int)(K:Pw.T2)(w:World):Prop where
 out:∃ (I:Bool->Int->World->Prop) (μ:Bool->Int->World->Nat),I p11 p12 w/\∀ (p111:Bool) (p121:Int) (w1:World),I p111 p121 w1 ->
  z1r_b1 p1 p3 p5 p10 p111 p121 (fun p1' p3' p5' p10' p11' p12' w'=>((p1'=p1/\p3'=p3/\p5'=p5/\p10'=p10/\True)/\I p11' p12' w')/\μ p11' p12' w'<μ p111 p121 w1) K w1
structure z1r_k0 (p1:Sl)(p3 p5 p10:Addr)(p11:Bool)(K:Pw.T2)(w:World):Prop where
 out:z1r_l1 p1 p3 p5 p10 p11 0 K w
def z1r_sd (p0_0 p0_1 p0_2:Sl)(p0_3 p0_4:Int)(p1:Sl)(p2_0 p2_1:Int)(K:Pw.T2)(w:World):Prop :=
 let w1:=w.alloc (.cells #[(vS p0_0),(vS p0_1),(vS p0_2),(vI p0_3),(vI p0_4)] 28)
 let w2:=w1.alloc (.cells #[(vI p2_0),(vI p2_1)] 31)
 lS w2 (hA w 0) fun x3=>lS w2 (hA w 1) fun x4=>lS w2 (hA w 2) fun x5=>lI w2 (hA w 3) fun x6=>lI w2 (hA w 4) fun x7=>z1q_sh x3 x4 x5 x6 x7 (fun r9 w8=>lI w8 (hA w1 0) fun x10=>lI w8 (hA w1 1) fun x11=>z1j_sh x10 x11 (fun r13 w12=>cnd (!r9)
 (K 0 false w12)
 (lS w12 (hA w 0) fun x14=>lS w12 (hA w 1) fun x15=>lS w12 (hA w 2) fun x16=>lI w12 (hA w 3) fun x17=>lI w12 (hA w 4) fun x18=>z1a_sh x14 x15 x16 x17 x18 p1 (fun r20 w19=>cnd (!r20)
 (K 0 false w19)
 (cnd (!r13)
 (K 0 false w19)
 (lI w19 (hA w1 0) fun x21=>cnd (decide (x21<0))
 (K 0 false w19)
 (let w22:=w19.drew
 ∃ S23:World->Prop,S23 w22/\mI S23 (hA w1 0) fun x24=>mI S23 (hA w1 1) fun x25=>mI S23 (hA w 4) fun x26=>(z2s_sh 0 (fun r28_0 r28_1 w27=>S23 w27/\(z2s_sh x26 (fun r30_0 r30_1 w29=>S23 w29/\(z2l_sh r28_0 r28_1 x24 x25 r30_0 r30_1 (fun r32_0 r32_1 r33 w31=>S23 w31/\let w34:=w31.alloc (.cells #[(vI 0),(vI 0)] 31)
 S23 w34/\wrOk w34 (hA w31 0)/\
 (let w35:=w34.setCell (hA w31 0) (vI r32_0)
 wrOk w35 (hA w31 1)/\
 (let w36:=w35.setCell (hA w31 1) (vI r32_1)
 z1r_k0 p1 (hA w 0) (hA w1 0) (hA w31 0) r33 K w36))) w29)
/\(let w37:=w29.alloc (.cells #[(vI 0),(vI 0)] 31)
 S23 w37/\z2l_sh r28_0 r28_1 x24 x25 r30_0 r30_1 (fun r39_0 r39_1 r40 w38=>S23 w38/\wrOk w38 (hA w29 0)/\
 (let w41:=w38.setCell (hA w29 0) (vI r39_0)
 wrOk w41 (hA w29 1)/\
 (let w42:=w41.setCell (hA w29 1) (vI r39_1)
 z1r_k0 p1 (hA w 0) (hA w1 0) (hA w29 0) r40 K w42))) w37)) w27)
/\(let w43:=w27.alloc (.cells #[(vI 0),(vI 0)] 31)
 S23 w43/\z2s_sh x26 (fun r45_0 r45_1 w44=>S23 w44/\z2l_sh r28_0 r28_1 x24 x25 r45_0 r45_1 (fun r47_0 r47_1 r48 w46=>S23 w46/\wrOk w46 (hA w27 0)/\
 (let w49:=w46.setCell (hA w27 0) (vI r47_0)
 wrOk w49 (hA w27 1)/\
 (let w50:=w49.setCell (hA w27 1) (vI r47_1)
 z1r_k0 p1 (hA w 0) (hA w1 0) (hA w27 0) r48 K w50))) w44) w43)) w22)
/\(let w51:=w22.alloc (.cells #[(vI 0),(vI 0)] 31)
 S23 w51/\z2s_sh 0 (fun r53_0 r53_1 w52=>S23 w52/\z2s_sh x26 (fun r55_0 r55_1 w54=>S23 w54/\z2l_sh r53_0 r53_1 x24 x25 r55_0 r55_1 (fun r57_0 r57_1 r58 w56=>S23 w56/\wrOk w56 (hA w22 0)/\
 (let w59:=w56.setCell (hA w22 0) (vI r57_0)
 wrOk w59 (hA w22 1)/\
 (let w60:=w59.setCell (hA w22 1) (vI r57_1)
 z1r_k0 p1 (hA w 0) (hA w1 0) (hA w22 0) r58 K w60))) w54) w52) w51))))) w12)) w8) w2
structure z1r_sh (p0_0 p0_1 p0_2:Sl)(p0_3 p0_4:Int)(p1:Sl)(p2_0 p2_1:Int)(K:Pw.T2)(w:World):Prop where
 out:z1r_sd p0_0 p0_1 p0_2 p0_3 p0_4 p1 p2_0 p2_1 K w
def z1r_L0 (Kv:VW):Cur [tL,tQ,tQ,tQ,tB] WP:=fun p1 p3 p5 p10 p11=>z1r_k0 p1 p3 p5 p10 p11 (kk [.u 2,tI,tB] Kv)
def z1r_L1 (Kv:VW):Cur [tL,tQ,tQ,tQ,tB,tI] WP:=fun p1 p3 p5 p10 p11 p12=>z1r_l1 p1 p3 p5 p10 p11 p12 (kk [.u 2,tI,tB] Kv)
def z1r_L2 (Kv:VW):Cur [tL,tQ,tQ,tQ,tB,tI] WP->Cur [tL,tQ,tQ,tQ,tB,tI,tQ,tI] WP:=fun N1 p1 p3 p5 p10 p11 p12 p13 p14=>z1r_l2 p1 p3 p5 p10 p11 p12 p13 p14 N1 (kk [.u 2,tI,tB] Kv)
def z1r_L3 (Kv:VW):Cur [tL,tQ,tQ,tQ,tB,tI,tQ,tI] WP->Cur [tL,tQ,tQ,tQ,tB,tI] WP->Cur [tL,tQ,tQ,tQ,tB,tI,tQ,tI,tQ] WP:=fun N2 N1 p1 p3 p5 p10 p11 p12 p13 p14 p15=>z1r_k3 p1 p3 p5 p10 p11 p12 p13 p14 p15 N2 N1 (kk [.u 2,tI,tB] Kv)
def z1r_L4 (Kv:VW):Cur [tL,tQ,tQ,tQ,tB,tI,tQ,tI] WP->Cur [tL,tQ,tQ,tQ,tB,tI] WP->Cur [tL,tQ,tQ,tQ,tB,tI,tQ,tI,tQ,tB] WP:=fun N2 N1 p1 p3 p5 p10 p11 p12 p13 p14 p16 p17=>z1r_k4 p1 p3 p5 p10 p11 p12 p13 p14 p16 p17 N2 N1 (kk [.u 2,tI,tB] Kv)
def z1r_L5 (Kv:VW):Cur [tL,tQ,tQ,tQ,tB,tI,tQ,tI] WP->Cur [tL,tQ,tQ,tQ,tB,tI] WP->Cur [tL,tQ,tQ,tQ,tB,tI,tQ,tI,tQ] WP:=fun N2 N1 p1 p3 p5 p10 p11 p12 p13 p14 p16=>z1r_k5 p1 p3 p5 p10 p11 p12 p13 p14 p16 N2 N1 (kk [.u 2,tI,tB] Kv)
def z1r_L6 (Kv:VW):Cur [tL,tQ,tQ,tQ,tB,tI,tQ,tI] WP->Cur [tL,tQ,tQ,tQ,tB,tI] WP->Cur [tL,tQ,tQ,tQ,tB,tI,tQ,tI,tQ] WP:=fun N2 N1 p1 p3 p5 p10 p11 p12 p13 p14 p16=>z1r_k6 p1 p3 p5 p10 p11 p12 p13 p14 p16 N2 N1 (kk [.u 2,tI,tB] Kv)
def z1r_L7 (Kv:VW):Cur [tL,tQ,tQ,tQ,tB] WP:=fun p1 p3 p5 p10 p11=>z1r_k7 p1 p3 p5 p10 p11 (kk [.u 2,tI,tB] Kv)
def z1r_L8 (Kv:VW):Cur [tL,tQ,tQ,tB,tQ,tB] WP:=fun p1 p3 p10 p11 p20 p21=>z1r_k8 p1 p3 p10 p11 p20 p21 (kk [.u 2,tI,tB] Kv)
noncomputable def z1r_S:=sp [.g 5,tL,tL,tL,tI,tI,tL,.g 2,tI,tI] [.u 2,tI,tB] z1r_sh
theorem z1r_ok:q3e Tryz.prog 40 z1r_S:=okS (x:=fun Kv=>qr 4 (qr 3 (qr 3 (qs (qs (A.reg (qn 3 (RA.spl 29 (qk 4 (qn 2 (qk 2 (qn 2 (qk 3 (qn 1 RA.done)))))) (qn 6 (RA.spl 35 (qk 2 (qn 2 (qk 3 (qn 1 RA.done)))) (qn 4 (RA.spl 39 (qk 3 (qn 1 RA.done)) (qn 4 RA.done)))))))) (qc (qr 2 ql) ql)) (qs (A.drw (dp [1,2,3] (DA.two 0 (DA.two 4 (DA.two 5 (dp [6,7,8] (DA.eff 9 (DA.eff 10 (DA.pur 11 DA.done)))) 9 (DA.eff 5 (dp [6,7,8] (DA.eff 10 (DA.pur 11 DA.done))))) 9 (DA.eff 4 (DA.eff 5 (dp [6,7,8] (DA.eff 10 (DA.pur 11 DA.done)))))) 9 (DA.eff 0 (DA.eff 4 (DA.eff 5 (dp [6,7,8] (DA.eff 10 (DA.pur 11 DA.done))))))))) (A.cut [1,3,5,10,11] (uR0 [tL,tQ,tQ,tQ,tB] (z1r_L0 Kv)) (qs (qr 1 (qb (A.loop [1,3,5,10,11,12] (uR0 [tL,tQ,tQ,tQ,tB,tI] (z1r_L1 Kv)) (qs (qs (A.reg (qn 6 (RA.spl 58 (qn 2 RA.done) (qk 1 (qn 1 RA.done))))) (qc ql ql)) (qs (qb (qr 3 (qs (qr 1 (qb (A.loop [1,3,5,10,11,12,13,14] (uR1 [tL,tQ,tQ,tQ,tB,tI] [tL,tQ,tQ,tQ,tB,tI,tQ,tI] (z1r_L2 Kv)) (qs (qr 5 (qc ql ql)) (qs (qb (qr 7 (qs (qs (A.drp (dp [0,1,2,3,4,5,6,7,8] (DA.spl 84 (DA.skp 9 (DA.skp 10 (DA.skp 11 (DA.skp 12 (DA.skp 13 (DA.skp 14 (DA.skp 15 (DA.skp 16 (DA.skp 17 (DA.skp 18 (DA.skp 19 (DA.skp 20 (DA.pur 21 DA.done))))))))))))) (dp [9,10,11,12,13] (DA.spl 89 (dp [14,15,16,17,18,19,20,21] DA.done) (DA.skp 14 (DA.skp 15 (DA.skp 16 (DA.skp 17 (DA.skp 18 (DA.skp 19 (dp [20,21] DA.done)))))))))))) (qc ql ql)) (A.cut [1,3,5,10,11,12,13,14,15] (uR2 [tL,tQ,tQ,tQ,tB,tI,tQ,tI] [tL,tQ,tQ,tQ,tB,tI] [tL,tQ,tQ,tQ,tB,tI,tQ,tI,tQ] (z1r_L3 Kv)) (qs (A.drw (dp [0,1,2,3,4,5,6,7,8,10,11,12,13] (DA.two 9 (DA.two 14 (DA.two 15 (dp [16,17,18] (DA.eff 19 (DA.eff 20 (DA.pur 21 DA.done)))) 19 (DA.eff 15 (dp [16,17,18] (DA.eff 20 (DA.pur 21 DA.done))))) 19 (DA.eff 14 (DA.eff 15 (dp [16,17,18] (DA.eff 20 (DA.pur 21 DA.done)))))) 19 (DA.eff 9 (DA.eff 14 (DA.eff 15 (dp [16,17,18] (DA.eff 20 (DA.pur 21 DA.done))))))))) (A.cut [1,3,5,10,11,12,13,14,16,17] (uR2 [tL,tQ,tQ,tQ,tB,tI,tQ,tI] [tL,tQ,tQ,tQ,tB,tI] [tL,tQ,tQ,tQ,tB,tI,tQ,tI,tQ,tB] (z1r_L4 Kv)) (qs (A.reg (qn 2 (RA.spl 118 (qn 3 RA.done) (qk 1 (qn 2 RA.done))))) (A.cut [1,3,5,10,11,12,13,14,16] (uR2 [tL,tQ,tQ,tQ,tB,tI,tQ,tI] [tL,tQ,tQ,tQ,tB,tI] [tL,tQ,tQ,tQ,tB,tI,tQ,tI,tQ] (z1r_L5 Kv)) (qs (A.reg (qn 5 (RA.spl 125 (qk 4 (qn 1 RA.done)) (qn 5 RA.done)))) (qc (A.cut [1,3,5,10,11,12,13,14,16] (uR2 [tL,tQ,tQ,tQ,tB,tI,tQ,tI] [tL,tQ,tQ,tQ,tB,tI] [tL,tQ,tQ,tQ,tB,tI,tQ,tI,tQ] (z1r_L6 Kv)) (qe 2)) ql)))))))))) (qe 3)))))) (qr 9 (qr 2 (A.reg (qn 2 (RA.spl 140 (qn 3 RA.done) (qk 1 (qn 2 RA.done)))))))))) (qe 3)))))) (A.cut [1,3,5,10,11] (uR0 [tL,tQ,tQ,tQ,tB] (z1r_L7 Kv)) (qs (A.drw (DA.pur 1 (DA.two 0 (DA.two 2 (dp [3,4,5] (DA.eff 6 (DA.eff 7 (DA.pur 8 DA.done)))) 6 (DA.eff 2 (dp [3,4,5] (DA.eff 7 (DA.pur 8 DA.done))))) 6 (DA.eff 0 (DA.eff 2 (dp [3,4,5] (DA.eff 7 (DA.pur 8 DA.done)))))))) (A.cut [1,3,10,11,20,21] (uR0 [tL,tQ,tQ,tB,tQ,tB] (z1r_L8 Kv)) (qs (A.drw (dp [0,1,2,3] (DA.eff 4 (DA.eff 5 (DA.eff 6 (dp [7,8,9] (DA.eff 10 (DA.pur 11 DA.done)))))))) (qs (qs (A.reg (qn 3 (RA.spl 161 (qk 2 (qn 2 (qk 2 (qn 1 RA.done)))) (qn 4 (RA.spl 165 (qk 2 (qn 1 RA.done)) (qn 3 RA.done)))))) (qc (qr 2 ql) ql)) (qr 4 ql))))))))))))) (fun Kv p0_0 p0_1 p0_2 p0_3 p0_4 p1 p2_0 p2_1=>z1r_sd p0_0 p0_1 p0_2 p0_3 p0_4 p1 p2_0 p2_1 (kk [.u 2,tI,tB] Kv)) progMixed (Γ:=[(46,z1q_S),(81,z1j_S),(82,z1a_S),(83,z2l_S),(84,z2s_S),(85,z2e_S),(86,z2d_S),(87,z24_S),(88,z1i_S)]) ⟨.inl z1q_ok,.inl z1j_ok,.inl z1a_ok,.inl z2l_ok,.inl z2s_ok,.inl z2e_ok,.inl z2d_ok,.inl z24_ok,.inl z1i_ok,trivial⟩ Tryz.call40 Tryz.func40 (fun Kv=>q07 (hK0 (F:=z1r_L0 Kv)) <| q07 (q0a (L:=z1r_L1 Kv) (fun N1 p1 p3 p5 p10 p11 p12=>z1r_b1 p1 p3 p5 p10 p11 p12 N1 (kk [.u 2,tI,tB] Kv)) (fun⟨a0,a1,a2,a3,_,_,_⟩ _ h=>let ⟨I,μ,h0,hr⟩:=h.out; ⟨fun b0 b1 b2 b3 b4 b5 w=>(b0=a0/\b1=a1/\b2=a2/\b3=a3/\True)/\I b4 b5 w,fun _ _ _ _ b4 b5 w=>μ b4 b5 w,⟨⟨rfl,rfl,rfl,rfl,trivial⟩,h0⟩,fun⟨_,_,_,_,_,_,_⟩ _ ⟨⟨e0,e1,e2,e3,_⟩,hI⟩=>by cases e0; cases e1; cases e2; cases e3; exact hr _ _ _ hI⟩)) <| q07 (q3q (L:=z1r_L2 Kv) (fun N1 N2 p1 p3 p5 p10 p11 p12 p13 p14=>z1r_b2 p1 p3 p5 p10 p11 p12 p13 p14 N2 N1 (kk [.u 2,tI,tB] Kv)) (fun _ ⟨a0,a1,a2,a3,_,a5,a6,_,_⟩ _ h=>let ⟨I,μ,h0,hr⟩:=h.out; ⟨fun b0 b1 b2 b3 b4 b5 b6 b7 w=>(b0=a0/\b1=a1/\b2=a2/\b3=a3/\b5=a5/\b6=a6/\True)/\I b4 b7 w,fun _ _ _ _ b4 _ _ b7 w=>μ b4 b7 w,⟨⟨rfl,rfl,rfl,rfl,rfl,rfl,trivial⟩,h0⟩,fun⟨_,_,_,_,_,_,_,_,_⟩ _ ⟨⟨e0,e1,e2,e3,e5,e6,_⟩,hI⟩=>by cases e0; cases e1; cases e2; cases e3; cases e5; cases e6; exact hr _ _ _ hI⟩)) <| q07 (ql9 (F:=z1r_L3 Kv) (G:=fun N2 N1 p1 p3 p5 p10 p11 p12 p13 p14 p15=>z1r_k3d p1 p3 p5 p10 p11 p12 p13 p14 p15 N2 N1 (kk [.u 2,tI,tB] Kv))) <| q07 (hK2 (F:=z1r_L4 Kv)) <| q07 (hK2 (F:=z1r_L5 Kv)) <| q07 (hK2 (F:=z1r_L6 Kv)) <| q07 (qjh (F:=z1r_L7 Kv) (G:=fun p1 p3 p5 p10 p11=>z1r_k7d p1 p3 p5 p10 p11 (kk [.u 2,tI,tB] Kv))) <| q07 (hK0 (F:=z1r_L8 Kv)) <| hEnd)
structure z25_sh (p0_0 p0_1 p0_2:Sl)(p0_3 p0_4:Int)(p1:Sl)(K:Pw.T0)(w:World):Prop where
 out:let w1:=w.alloc (.cells #[(vS p0_0),(vS p0_1),(vS p0_2),(vI p0_3),(vI p0_4)] 28)
  lS w1 (hA w 0) fun x2=>lS w1 (hA w 1) fun x3=>lS w1 (hA w 2) fun x4=>lI w1 (hA w 3) fun x5=>lI w1 (hA w 4) fun x6=>z1q_sh x2 x3 x4 x5 x6 (fun r8 w7=>cnd r8
  (lS w7 (hA w 0) fun x9=>lS w7 (hA w 1) fun x10=>lS w7 (hA w 2) fun x11=>lI w7 (hA w 3) fun x12=>lI w7 (hA w 4) fun x13=>z1a_sh x9 x10 x11 x12 x13 p1 (fun r15 w14=>cnd r15
  (lS w14 (hA w 0) fun x16=>K ((p1.l:Int) == (x16.l:Int)) w14)
  (K false w14)) w7)
  (K false w7)) w1
noncomputable def z25_S:=sp [.g 5,tL,tL,tL,tI,tI,tL] [tB] z25_sh
theorem z25_ok:okP 41 z25_S:=okR (x:=fun _=>qr 2 (qr 3 (qs (A.reg (qn 2 (RA.spl 9 (qn 5 (RA.spl 14 (qn 8 RA.done) (qk 6 (qn 2 RA.done)))) (qk 3 (qn 2 (qk 6 (qn 2 RA.done))))))) ql))) (Γ:=[(46,z1q_S),(82,z1a_S)]) ⟨.inl z1q_ok,.inl z1a_ok,trivial⟩ Tryz.call41 Tryz.func41 (fun _=>hEnd)
def z19_b0 (p1:Sl)(p2:Addr)(p6 p7:Int)(N0:Pw.T39)(K:Pw.T1)(w:World):Prop :=
 cnd (decide (p7<(p1.l:Int)))
 (nz p1.p fun a9=>(0<=p7/\p7<(p1.l:Nat))/\lI w (a9.add (p7.toNat*1)) fun x10=>cnd (decide (x10>=0))
 (let w11:=w.drew
 lS w11 (p2.add 1) fun x12=>nz p1.p fun a13=>(0<=p7/\p7<(p1.l:Nat))/\lI w11 (a13.add (p7.toNat*1)) fun x14=>nz x12.p fun a15=>(0<=x14/\x14<(x12.l:Nat))/\∃ x16:Int,w11.cell? ((a15.add (x14.toNat*4)).add 3)=some (vI x16)/\inR .i64 (p6+x16)/\inR .i64 (p7+1)/\N0 p1 p2 (p6+x16) (p7+1) w11)
 (inR .i64 (p7+1)/\N0 p1 p2 p6 (p7+1) w))
 (K p6 w)
structure z19_l0 (p1:Sl)(p2:Addr)(p6 p7:Int)(K:Pw.T1)(w:World):Prop where
 out:∃ (I:Int->Int->World->Prop) (μ:Int->Int->World->Nat),I p6 p7 w/\∀ (p61 p71:Int) (w1:World),I p61 p71 w1 ->
  z19_b0 p1 p2 p61 p71 (fun p1' p2' p6' p7' w'=>((p1'=p1/\p2'=p2/\True)/\I p6' p7' w')/\μ p6' p7' w'<μ p61 p71 w1) K w1
structure z19_sh (p0_0 p0_1 p0_2:Sl)(p0_3 p0_4:Int)(p1:Sl)(K:Pw.T1)(w:World):Prop where
 out:let w1:=w.alloc (.cells #[(vS p0_0),(vS p0_1),(vS p0_2),(vI p0_3),(vI p0_4)] 28)
  lS w1 (hA w 0) fun x2=>lS w1 (hA w 1) fun x3=>lS w1 (hA w 2) fun x4=>lI w1 (hA w 3) fun x5=>lI w1 (hA w 4) fun x6=>z25_sh x2 x3 x4 x5 x6 p1 (fun r8 w7=>cnd (!r8)
  (K 0 w7)
  (z19_l0 p1 (hA w 0) 0 0 K w7)) w1
def z19_L0 (Kv:VW):Cur [tL,tQ,tI,tI] WP:=fun p1 p2 p6 p7=>z19_l0 p1 p2 p6 p7 (kk [tI] Kv)
noncomputable def z19_S:=sp [.g 5,tL,tL,tL,tI,tI,tL] [tI] z19_sh
theorem z19_ok:okP 17 z19_S:=okR (x:=fun Kv=>qr 2 (qr 4 (qs (qr 2 (qc (qr 1 ql) ql)) (qr 1 (qs (qr 1 (qb (A.loop [1,2,6,7] (uR0 [tL,tQ,tI,tI] (z19_L0 Kv)) (qs (qr 4 (qc ql ql)) (qs (qb (qr 5 (qc (A.drp (dp [0,1,2,3,4,5,6,7,8,9,10,11] DA.done)) ql))) (qe 3)))))) (qr 2 ql)))))) (Γ:=[(41,z25_S)]) ⟨.inl z25_ok,trivial⟩ Tryz.call17 Tryz.func17 (fun Kv=>q07 (q0a (L:=z19_L0 Kv) (fun N0 p1 p2 p6 p7=>z19_b0 p1 p2 p6 p7 N0 (kk [tI] Kv)) (fun⟨a0,a1,_,_,_⟩ _ h=>let ⟨I,μ,h0,hr⟩:=h.out; ⟨fun b0 b1 b2 b3 w=>(b0=a0/\b1=a1/\True)/\I b2 b3 w,fun _ _ b2 b3 w=>μ b2 b3 w,⟨⟨rfl,rfl,trivial⟩,h0⟩,fun⟨_,_,_,_,_⟩ _ ⟨⟨e0,e1,_⟩,hI⟩=>by cases e0; cases e1; exact hr _ _ _ hI⟩)) <| hEnd)
def z1o_b0 (p1:Sl)(p2:Addr)(p5 p6:Int)(N0:Pw.T39)(K:Pw.T1)(w:World):Prop :=
 cnd (decide (p6<(p1.l:Int)))
 (nz p1.p fun a2=>(0<=p6/\p6<(p1.l:Nat))/\lI w (a2.add (p6.toNat*1)) fun x3=>cnd (decide (x3>=0))
 (let w4:=w.drew
 lS w4 (p2.add 1) fun x5=>nz p1.p fun a6=>(0<=p6/\p6<(p1.l:Nat))/\lI w4 (a6.add (p6.toNat*1)) fun x7=>nz x5.p fun a8=>(0<=x7/\x7<(x5.l:Nat))/\∃ x9:Int,w4.cell? ((a8.add (x7.toNat*4)).add 2)=some (vI x9)/\inR .i64 (p5+x9)/\inR .i64 (p6+1)/\N0 p1 p2 (p5+x9) (p6+1) w4)
 (inR .i64 (p6+1)/\N0 p1 p2 p5 (p6+1) w))
 (lP w p2 fun x10 x11 x12 x13 x14=>z24_sh x10 x11 x12 x13 x14 p1 (fun r16 w15=>inR .i64 (p5-r16)/\K (max 0 (p5-r16)) w15) w)
structure z1o_l0 (p1:Sl)(p2:Addr)(p5 p6:Int)(K:Pw.T1)(w:World):Prop where
 out:∃ (I:Int->Int->World->Prop) (μ:Int->Int->World->Nat),I p5 p6 w/\∀ (p51 p61:Int) (w1:World),I p51 p61 w1 ->
  z1o_b0 p1 p2 p51 p61 (fun p1' p2' p5' p6' w'=>((p1'=p1/\p2'=p2/\True)/\I p5' p6' w')/\μ p5' p6' w'<μ p51 p61 w1) K w1
structure z1o_sh (p0_0 p0_1 p0_2:Sl)(p0_3 p0_4:Int)(p1:Sl)(K:Pw.T1)(w:World):Prop where
 out:let w1:=w.alloc (.cells #[(vS p0_0),(vS p0_1),(vS p0_2),(vI p0_3),(vI p0_4)] 28)
  z1o_l0 p1 (hA w 0) 0 0 K w1
def z1o_L0 (Kv:VW):Cur [tL,tQ,tI,tI] WP:=fun p1 p2 p5 p6=>z1o_l0 p1 p2 p5 p6 (kk [tI] Kv)
noncomputable def z1o_S:=sp [.g 5,tL,tL,tL,tI,tI,tL] [tI] z1o_sh
theorem z1o_ok:okP 96 z1o_S:=okR (x:=fun Kv=>qr 2 (qr 1 (qs (qr 1 (qb (A.loop [1,2,5,6] (uR0 [tL,tQ,tI,tI] (z1o_L0 Kv)) (qs (qr 4 (qc ql ql)) (qs (qb (qr 5 (qc (A.drp (dp [0,1,2,3,4,5,6,7,8,9,10,11] DA.done)) ql))) (qe 3)))))) (qr 7 ql)))) (Γ:=[(87,z24_S)]) ⟨.inl z24_ok,trivial⟩ Tryz.call96 Tryz.func96 (fun Kv=>q07 (q0a (L:=z1o_L0 Kv) (fun N0 p1 p2 p5 p6=>z1o_b0 p1 p2 p5 p6 N0 (kk [tI] Kv)) (fun⟨a0,a1,_,_,_⟩ _ h=>let ⟨I,μ,h0,hr⟩:=h.out; ⟨fun b0 b1 b2 b3 w=>(b0=a0/\b1=a1/\True)/\I b2 b3 w,fun _ _ b2 b3 w=>μ b2 b3 w,⟨⟨rfl,rfl,trivial⟩,h0⟩,fun⟨_,_,_,_,_⟩ _ ⟨⟨e0,e1,_⟩,hI⟩=>by cases e0; cases e1; exact hr _ _ _ hI⟩)) <| hEnd)
def z0x_b1 (p1:Sl)(p2:Addr)(p5 p6 p7:Int)(N1:Sl->Addr->Int->Int->Int->World->Prop)(N0:Pw.T30)(K:Pw.T0)(w:World):Prop :=
 cnd (decide (p7<(p1.l:Int)))
 (let w2:=w.drew
 nz p1.p fun a3=>(0<=p5/\p5<(p1.l:Nat))/\lI w2 (a3.add (p5.toNat*1)) fun x4=>cnd (decide (x4>=0))
 (nz p1.p fun a5=>(0<=p7/\p7<(p1.l:Nat))/\lI w2 (a5.add (p7.toNat*1)) fun x6=>cnd (decide (x6>=0))
 (lS w2 (p2.add 1) fun x7=>nz p1.p fun a8=>(0<=p5/\p5<(p1.l:Nat))/\lI w2 (a8.add (p5.toNat*1)) fun x9=>nz x7.p fun a10=>(0<=x9/\x9<(x7.l:Nat))/\∃ x11:Int,w2.cell? ((a10.add (x9.toNat*4)).add 1)=some (vI x11)/\lS w2 (p2.add 1) fun x12=>nz p1.p fun a13=>(0<=p7/\p7<(p1.l:Nat))/\lI w2 (a13.add (p7.toNat*1)) fun x14=>nz x12.p fun a15=>(0<=x14/\x14<(x12.l:Nat))/\∃ x16:Int,w2.cell? ((a15.add (x14.toNat*4)).add 1)=some (vI x16)/\cnd (x11 == x16)
 (inR .i64 (p6+1)/\inR .i64 (p7+1)/\N1 p1 p2 p5 (p6+1) (p7+1) w2)
 (inR .i64 (p7+1)/\N1 p1 p2 p5 p6 (p7+1) w2))
 (inR .i64 (p7+1)/\N1 p1 p2 p5 p6 (p7+1) w2))
 (inR .i64 (p7+1)/\N1 p1 p2 p5 p6 (p7+1) w2))
 (lI w (p2.add 3) fun x17=>cnd (decide (x17>0))
 (lI w (p2.add 3) fun x18=>cnd (decide (p6>x18))
 (K true w)
 (inR .i64 (p5+1)/\N0 p1 p2 (p5+1) w))
 (inR .i64 (p5+1)/\N0 p1 p2 (p5+1) w))
structure z0x_l1 (p1:Sl)(p2:Addr)(p5 p6 p7:Int)(N0:Pw.T30)(K:Pw.T0)(w:World):Prop where
 out:∃ (I:Int->Int->World->Prop) (μ:Int->Int->World->Nat),I p6 p7 w/\∀ (p61 p71:Int) (w1:World),I p61 p71 w1 ->
  z0x_b1 p1 p2 p5 p61 p71 (fun p1' p2' p5' p6' p7' w'=>((p1'=p1/\p2'=p2/\p5'=p5/\True)/\I p6' p7' w')/\μ p6' p7' w'<μ p61 p71 w1) N0 K w1
def z0x_b0 (p1:Sl)(p2:Addr)(p5:Int)(N0:Pw.T30)(K:Pw.T0)(w:World):Prop :=
 cnd (decide (p5<(p1.l:Int)))
 (z0x_l1 p1 p2 p5 0 0 N0 K w)
 (K false w)
structure z0x_l0 (p1:Sl)(p2:Addr)(p5:Int)(K:Pw.T0)(w:World):Prop where
 out:∃ (I:Int->World->Prop) (μ:Int->World->Nat),I p5 w/\∀ (p51:Int) (w1:World),I p51 w1 ->
  z0x_b0 p1 p2 p51 (fun p1' p2' p5' w'=>((p1'=p1/\p2'=p2/\True)/\I p5' w')/\μ p5' w'<μ p51 w1) K w1
structure z0x_sh (p0_0 p0_1 p0_2:Sl)(p0_3 p0_4:Int)(p1:Sl)(K:Pw.T0)(w:World):Prop where
 out:let w1:=w.alloc (.cells #[(vS p0_0),(vS p0_1),(vS p0_2),(vI p0_3),(vI p0_4)] 28)
  z0x_l0 p1 (hA w 0) 0 K w1
def z0x_L0 (Kv:VW):Cur [tL,tQ,tI] WP:=fun p1 p2 p5=>z0x_l0 p1 p2 p5 (kk [tB] Kv)
def z0x_L1 (Kv:VW):Cur [tL,tQ,tI] WP->Cur [tL,tQ,tI,tI,tI] WP:=fun N0 p1 p2 p5 p6 p7=>z0x_l1 p1 p2 p5 p6 p7 N0 (kk [tB] Kv)
noncomputable def z0x_S:=sp [.g 5,tL,tL,tL,tI,tI,tL] [tB] z0x_sh
theorem z0x_ok:okP 97 z0x_S:=okR (x:=fun Kv=>qr 2 (qs (qr 1 (qb (A.loop [1,2,5] (uR0 [tL,tQ,tI] (z0x_L0 Kv)) (qs (qr 4 (qc ql ql)) (qs (qb (qr 1 (qs (qr 1 (qb (A.loop [1,2,5,6,7] (uR1 [tL,tQ,tI] [tL,tQ,tI,tI,tI] (z0x_L1 Kv)) (qs (qr 4 (qc ql ql)) (qs (qb (qs (A.drp (dp [0,1,2,3,4,5] (DA.spl 25 (dp [6,7,8,9,10,11,12] (DA.spl 32 (dp [13,14,15,16,17,18,19,20,21,22,23,24,25,26,27,28,29,30,31,32] DA.done) (DA.skp 13 (DA.skp 14 (DA.skp 15 (DA.skp 16 (DA.skp 17 (DA.skp 18 (DA.skp 19 (DA.skp 20 (DA.skp 21 (DA.skp 22 (DA.skp 23 (DA.skp 24 (DA.skp 25 (DA.skp 26 (DA.skp 27 (DA.skp 28 (DA.skp 29 (DA.skp 30 (DA.skp 31 (DA.pur 32 DA.done)))))))))))))))))))))) (DA.skp 6 (DA.skp 7 (DA.skp 8 (DA.skp 9 (DA.skp 10 (dp [11,12] (DA.skp 13 (DA.skp 14 (DA.skp 15 (DA.skp 16 (DA.skp 17 (DA.skp 18 (DA.skp 19 (DA.skp 20 (DA.skp 21 (DA.skp 22 (DA.skp 23 (DA.skp 24 (DA.skp 25 (DA.skp 26 (DA.skp 27 (DA.skp 28 (DA.skp 29 (DA.skp 30 (DA.skp 31 (DA.pur 32 DA.done))))))))))))))))))))))))))))) (qc (qe 3) ql))) (qe 3)))))) (qs (A.reg (qn 4 (RA.spl 58 (qn 5 RA.done) (qk 4 (qn 1 RA.done))))) (qc (qr 1 ql) ql))))) (qe 3)))))) (qr 1 ql))) (Γ:=[]) trivial Tryz.call97 Tryz.func97 (fun Kv=>q07 (q0a (L:=z0x_L0 Kv) (fun N0 p1 p2 p5=>z0x_b0 p1 p2 p5 N0 (kk [tB] Kv)) (fun⟨a0,a1,_,_⟩ _ h=>let ⟨I,μ,h0,hr⟩:=h.out; ⟨fun b0 b1 b2 w=>(b0=a0/\b1=a1/\True)/\I b2 w,fun _ _ b2 w=>μ b2 w,⟨⟨rfl,rfl,trivial⟩,h0⟩,fun⟨_,_,_,_⟩ _ ⟨⟨e0,e1,_⟩,hI⟩=>by cases e0; cases e1; exact hr _ _ hI⟩)) <| q07 (q3q (L:=z0x_L1 Kv) (fun N0 N1 p1 p2 p5 p6 p7=>z0x_b1 p1 p2 p5 p6 p7 N1 N0 (kk [tB] Kv)) (fun _ ⟨a0,a1,a2,_,_,_⟩ _ h=>let ⟨I,μ,h0,hr⟩:=h.out; ⟨fun b0 b1 b2 b3 b4 w=>(b0=a0/\b1=a1/\b2=a2/\True)/\I b3 b4 w,fun _ _ _ b3 b4 w=>μ b3 b4 w,⟨⟨rfl,rfl,rfl,trivial⟩,h0⟩,fun⟨_,_,_,_,_,_⟩ _ ⟨⟨e0,e1,e2,_⟩,hI⟩=>by cases e0; cases e1; cases e2; exact hr _ _ _ hI⟩)) <| hEnd)
structure z0e_sh (p0_0 p0_1 p0_2:Sl)(p0_3 p0_4:Int)(p1:Sl)(K:Pw.T0)(w:World):Prop where
 out:let w1:=w.alloc (.cells #[(vS p0_0),(vS p0_1),(vS p0_2),(vI p0_3),(vI p0_4)] 28)
  lS w1 (hA w 0) fun x2=>lS w1 (hA w 1) fun x3=>lS w1 (hA w 2) fun x4=>lI w1 (hA w 3) fun x5=>lI w1 (hA w 4) fun x6=>z25_sh x2 x3 x4 x5 x6 p1 (fun r8 w7=>let w9:=w7.drew
  ∃ S10:World->Prop,S10 w9/\cnd r8
  (mS S10 (hA w 0) fun x11=>mS S10 (hA w 1) fun x12=>mS S10 (hA w 2) fun x13=>mI S10 (hA w 3) fun x14=>mI S10 (hA w 4) fun x15=>mI S10 (hA w 4) fun x16=>z1o_sh x11 x12 x13 x14 x15 p1 (fun r18 w17=>S10 w17/\cnd (decide (r18<=x16))
  (mS S10 (hA w 0) fun x19=>mS S10 (hA w 1) fun x20=>mS S10 (hA w 2) fun x21=>mI S10 (hA w 3) fun x22=>mI S10 (hA w 4) fun x23=>z0x_sh x19 x20 x21 x22 x23 p1 (fun r25 w24=>S10 w24/\K (!r25) w24) w17)
  (K false w17)) w9)
  (K false w9)) w1
noncomputable def z0e_S:=sp [.g 5,tL,tL,tL,tI,tI,tL] [tB] z0e_sh
theorem z0e_ok:okP 47 z0e_S:=okR (x:=fun _=>qr 2 (qr 4 (qs (A.drw (dp [0,1] (DA.spl 10 (dp [2,3,5,6] (DA.eff 4 (dp [7,8,9] (DA.spl 18 (dp [10,11] (DA.eff 12 (dp [13,14,15] DA.done))) (DA.skp 10 (DA.skp 11 (DA.skp 12 (DA.skp 13 (dp [14,15] DA.done))))))))) (DA.skp 2 (DA.skp 3 (DA.skp 5 (DA.skp 6 (DA.skp 4 (DA.skp 7 (dp [8,9] (DA.skp 10 (DA.skp 11 (DA.skp 12 (DA.skp 13 (dp [14,15] DA.done))))))))))))))) ql))) (Γ:=[(41,z25_S),(96,z1o_S),(97,z0x_S)]) ⟨.inl z25_ok,.inl z1o_ok,.inl z0x_ok,trivial⟩ Tryz.call47 Tryz.func47 (fun _=>hEnd)
structure z1s_sh (p0_0 p0_1 p0_2:Sl)(p0_3 p0_4:Int)(p1:Sl)(K:Pw.T1)(w:World):Prop where
 out:let w1:=w.alloc (.cells #[(vS p0_0),(vS p0_1),(vS p0_2),(vI p0_3),(vI p0_4)] 28)
  let w2:=w1.drew
  ∃ S3:World->Prop,S3 w2/\mS S3 (hA w 0) fun x4=>mS S3 (hA w 1) fun x5=>mS S3 (hA w 2) fun x6=>mI S3 (hA w 3) fun x7=>mI S3 (hA w 4) fun x8=>mI S3 (hA w 4) fun x9=>inR .i64 (x9+1)/\mS S3 (hA w 0) fun x10=>mS S3 (hA w 1) fun x11=>mS S3 (hA w 2) fun x12=>mI S3 (hA w 3) fun x13=>mI S3 (hA w 4) fun x14=>z19_sh x4 x5 x6 x7 x8 p1 (fun r16 w15=>S3 w15/\inR .i64 (r16*(x9+1))/\z1o_sh x10 x11 x12 x13 x14 p1 (fun r18 w17=>S3 w17/\inR .i64 ((r16*(x9+1))-r18)/\K ((r16*(x9+1))-r18) w17) w15) w2
noncomputable def z1s_S:=sp [.g 5,tL,tL,tL,tI,tI,tL] [tI] z1s_sh
theorem z1s_ok:okP 146 z1s_S:=okR (x:=fun _=>qr 2 (qs (A.drw (dp [0,1,3,4,5,7,8] (DA.eff 2 (DA.pur 6 (DA.eff 9 (dp [10,11] DA.done)))))) ql)) (Γ:=[(17,z19_S),(96,z1o_S)]) ⟨.inl z19_ok,.inl z1o_ok,trivial⟩ Tryz.call146 Tryz.func146 (fun _=>hEnd)
def z0y_b0 (p0 p1:Sl)(p5:Int)(N0:Pw.T41)(K:Pw.T0)(w:World):Prop :=
 cnd (decide (p5<(p0.l:Int)))
 (cnd (decide (p5<(p1.l:Int)))
 (let w1:=w.drew
 nz p0.p fun a2=>(0<=p5/\p5<(p0.l:Nat))/\lI w1 (a2.add (p5.toNat*1)) fun x3=>nz p1.p fun a4=>(0<=p5/\p5<(p1.l:Nat))/\lI w1 (a4.add (p5.toNat*1)) fun x5=>cnd (x3 != x5)
 (let w6:=w1.drew
 nz p0.p fun a7=>(0<=p5/\p5<(p0.l:Nat))/\lI w6 (a7.add (p5.toNat*1)) fun x8=>nz p1.p fun a9=>(0<=p5/\p5<(p1.l:Nat))/\lI w6 (a9.add (p5.toNat*1)) fun x10=>K (decide (x8>x10)) w6)
 (inR .i64 (p5+1)/\N0 p0 p1 (p5+1) w1))
 (K false w))
 (K false w)
structure z0y_l0 (p0 p1:Sl)(p5:Int)(K:Pw.T0)(w:World):Prop where
 out:∃ (I:Int->World->Prop) (μ:Int->World->Nat),I p5 w/\∀ (p51:Int) (w1:World),I p51 w1 ->
  z0y_b0 p0 p1 p51 (fun p0' p1' p5' w'=>((p0'=p0/\p1'=p1/\True)/\I p5' w')/\μ p5' w'<μ p51 w1) K w1
structure z0y_sh (p0 p1:Sl)(K:Pw.T0)(w:World):Prop where
 out:z0y_l0 p0 p1 0 K w
def z0y_L0 (Kv:VW):Cur [tL,tL,tI] WP:=fun p0 p1 p5=>z0y_l0 p0 p1 p5 (kk [tB] Kv)
noncomputable def z0y_S:=sp [tL,tL] [tB] z0y_sh
theorem z0y_ok:okP 147 z0y_S:=okR (x:=fun Kv=>qr 1 (qs (qr 1 (qb (A.loop [0,1,5] (uR0 [tL,tL,tI] (z0y_L0 Kv)) (qs (qs (A.reg (qn 5 (RA.spl 10 (qn 5 RA.done) (qk 4 (qn 1 RA.done))))) (qc ql ql)) (qs (qb (qs (A.drp (dp [0,1,2,3,4,5,6,7,8] DA.done)) (qc (qs (A.drp (dp [0,1,2,3,4,5,6,7,8,9] DA.done)) ql) ql))) (qe 3)))))) (qr 1 ql))) (Γ:=[]) trivial Tryz.call147 Tryz.func147 (fun Kv=>q07 (q0a (L:=z0y_L0 Kv) (fun N0 p0 p1 p5=>z0y_b0 p0 p1 p5 N0 (kk [tB] Kv)) (fun⟨a0,a1,_,_⟩ _ h=>let ⟨I,μ,h0,hr⟩:=h.out; ⟨fun b0 b1 b2 w=>(b0=a0/\b1=a1/\True)/\I b2 w,fun _ _ b2 w=>μ b2 w,⟨⟨rfl,rfl,trivial⟩,h0⟩,fun⟨_,_,_,_⟩ _ ⟨⟨e0,e1,_⟩,hI⟩=>by cases e0; cases e1; exact hr _ _ hI⟩)) <| hEnd)
structure z18_sh (p0_0 p0_1 p0_2:Sl)(p0_3 p0_4:Int)(p1 p2:Sl)(K:Pw.T0)(w:World):Prop where
 out:let w1:=w.alloc (.cells #[(vS p0_0),(vS p0_1),(vS p0_2),(vI p0_3),(vI p0_4)] 28)
  lS w1 (hA w 0) fun x2=>lS w1 (hA w 1) fun x3=>lS w1 (hA w 2) fun x4=>lI w1 (hA w 3) fun x5=>lI w1 (hA w 4) fun x6=>z0e_sh x2 x3 x4 x5 x6 p1 (fun r8 w7=>lS w7 (hA w 0) fun x9=>lS w7 (hA w 1) fun x10=>lS w7 (hA w 2) fun x11=>lI w7 (hA w 3) fun x12=>lI w7 (hA w 4) fun x13=>z0e_sh x9 x10 x11 x12 x13 p2 (fun r15 w14=>cnd (!r8)
  (K r8 w14)
  (cnd (!r15)
  (K r8 w14)
  (lS w14 (hA w 0) fun x16=>lS w14 (hA w 1) fun x17=>lS w14 (hA w 2) fun x18=>lI w14 (hA w 3) fun x19=>lI w14 (hA w 4) fun x20=>z1s_sh x16 x17 x18 x19 x20 p1 (fun r22 w21=>lS w21 (hA w 0) fun x23=>lS w21 (hA w 1) fun x24=>lS w21 (hA w 2) fun x25=>lI w21 (hA w 3) fun x26=>lI w21 (hA w 4) fun x27=>z1s_sh x23 x24 x25 x26 x27 p2 (fun r29 w28=>cnd (decide (r22>r29))
  (K true w28)
  (cnd (r22 == r29)
  (z0y_sh p2 p1 (fun r31 w30=>K r31 w30) w28)
  (K false w28))) w21) w14))) w7) w1
noncomputable def z18_S:=sp [.g 5,tL,tL,tL,tI,tI,tL,tL] [tB] z18_sh
theorem z18_ok:okP 99 z18_S:=okR (x:=fun _=>qr 2 (qr 4 (qr 4 (qs (qs (A.reg (qn 3 (RA.spl 19 (qk 2 (qn 1 RA.done)) (qn 3 RA.done)))) (qc (qr 2 ql) ql)) (qr 4 (qr 4 (qs (A.reg (qn 4 (RA.spl 33 (qk 8 (qn 2 RA.done)) (qn 4 (RA.spl 37 (qn 6 RA.done) (qk 3 (qn 3 RA.done))))))) ql))))))) (Γ:=[(47,z0e_S),(146,z1s_S),(147,z0y_S)]) ⟨.inl z0e_ok,.inl z1s_ok,.inl z0y_ok,trivial⟩ Tryz.call99 Tryz.func99 (fun _=>hEnd)
structure z1b_k0 (p1 p3:Sl)(p4 p6:Addr)(K:Pw.T0)(w:World):Prop where
 out:lP w p4 fun x28 x29 x30 x31 x32=>lI w p6 fun x33=>lI w (p6.add 1) fun x34=>z1r_sh x28 x29 x30 x31 x32 p1 x33 x34 (fun r36 r37 w35=>lP w35 p4 fun x38 x39 x40 x41 x42=>z1s_sh x38 x39 x40 x41 x42 p3 (fun r44 w43=>cnd r37
  (cnd (decide (r36<r44))
  (K true w43)
  (cnd (r36 == r44)
  (z0y_sh p1 p3 (fun r46 w45=>K r46 w45) w43)
  (K false w43)))
  (K false w43)) w35) w
structure z1b_sh (p0_0 p0_1 p0_2:Sl)(p0_3 p0_4:Int)(p1:Sl)(p2_0 p2_1:Int)(p3:Sl)(K:Pw.T0)(w:World):Prop where
 out:let w1:=w.alloc (.cells #[(vS p0_0),(vS p0_1),(vS p0_2),(vI p0_3),(vI p0_4)] 28)
  let w2:=w1.alloc (.cells #[(vI p2_0),(vI p2_1)] 31)
  let w3:=w2.drew
  ∃ S4:World->Prop,S4 w3/\mS S4 (hA w 0) fun x5=>mS S4 (hA w 1) fun x6=>mS S4 (hA w 2) fun x7=>mI S4 (hA w 3) fun x8=>mI S4 (hA w 4) fun x9=>z0x_sh x5 x6 x7 x8 x9 p1 (fun r11 w10=>S4 w10/\cnd r11
  (K true w10)
  (mS S4 (hA w 0) fun x12=>mS S4 (hA w 1) fun x13=>mS S4 (hA w 2) fun x14=>mI S4 (hA w 3) fun x15=>mI S4 (hA w 4) fun x16=>mI S4 (hA w 4) fun x17=>z1o_sh x12 x13 x14 x15 x16 p1 (fun r19 w18=>S4 w18/\cnd (decide (r19>x17))
  (K true w18)
  (lS w18 (hA w 0) fun x20=>cnd ((p1.l:Int) == (x20.l:Int))
  (lS w18 (hA w 0) fun x21=>lS w18 (hA w 1) fun x22=>lS w18 (hA w 2) fun x23=>lI w18 (hA w 3) fun x24=>lI w18 (hA w 4) fun x25=>z18_sh x21 x22 x23 x24 x25 p1 p3 (fun r27 w26=>cnd (!r27)
  (K true w26)
  (z1b_k0 p1 p3 (hA w 0) (hA w1 0) K w26)) w18)
  (z1b_k0 p1 p3 (hA w 0) (hA w1 0) K w18))) w10)) w3
def z1b_L0 (Kv:VW):Cur [tL,tL,tQ,tQ] WP:=fun p1 p3 p4 p6=>z1b_k0 p1 p3 p4 p6 (kk [tB] Kv)
noncomputable def z1b_S:=sp [.g 5,tL,tL,tL,tI,tI,tL,.g 2,tI,tI,tL] [tB] z1b_sh
theorem z1b_ok:okP 145 z1b_S:=okR (x:=fun Kv=>qr 3 (qs (qs (A.drw (dp [0,1] (DA.eff 2 (DA.pur 3 (DA.spl 15 (DA.skp 4 (DA.skp 5 (DA.skp 7 (DA.skp 8 (DA.skp 6 (DA.skp 9 (DA.pur 10 DA.done))))))) (dp [4,5,7,8] (DA.eff 6 (dp [9,10] DA.done)))))))) (qc (qr 1 ql) ql)) (qs (qs (A.reg (qn 7 (RA.spl 29 (qn 6 RA.done) (qk 5 (qn 1 RA.done))))) (qc (qr 1 ql) ql)) (A.cut [1,3,4,6] (uR0 [tL,tL,tQ,tQ] (z1b_L0 Kv)) (qr 9 (qr 4 (qs (A.reg (qn 2 (RA.spl 47 (qn 4 (RA.spl 51 (qk 8 (qn 3 RA.done)) (qn 4 (RA.spl 55 (qn 7 RA.done) (qk 3 (qn 4 RA.done)))))) (qk 13 (qn 2 RA.done))))) ql))))))) (Γ:=[(40,z1r_S),(96,z1o_S),(97,z0x_S),(99,z18_S),(146,z1s_S),(147,z0y_S)]) ⟨.inl z1r_ok,.inl z1o_ok,.inl z0x_ok,.inl z18_ok,.inl z1s_ok,.inl z0y_ok,trivial⟩ Tryz.call145 Tryz.func145 (fun Kv=>q07 (hK0 (F:=z1b_L0 Kv)) <| hEnd)
def z10_b0 (p1:Int)(p2:Addr)(p5:Sl)(p6:Int)(N0:Int->Addr->Sl->Int->World->Prop)(K:Pw.T4)(w:World):Prop :=
 lS w (p2.add 1) fun x3=>cnd (decide (p6<(x3.l:Int)))
 (let w4:=w.drew
 lS w4 (p2.add 1) fun x5=>nz x5.p fun a6=>(0<=p6/\p6<(x5.l:Nat))/\lI w4 (a6.add (p6.toNat*4)) fun x7=>lS w4 p2 fun x8=>nz x8.p fun a9=>(0<=p1/\p1<(x8.l:Nat))/\lI w4 (a9.add (p1.toNat*1)) fun x10=>cnd (x7 == x10)
 (let w11:=w4.alloc (.cells #[(vI p6)] 3)
 apS 1 8 [(vI 0)] 3 p5 (Sl.mk (some (hA w4 0)) 1 1) w11 fun s12 w13=>inR .i64 (p6+1)/\N0 p1 p2 s12 (p6+1) w13)
 (inR .i64 (p6+1)/\N0 p1 p2 p5 (p6+1) w4))
 (K p5 w)
structure z10_l0 (p1:Int)(p2:Addr)(p5:Sl)(p6:Int)(K:Pw.T4)(w:World):Prop where
 out:∃ (I:Sl->Int->World->Prop) (μ:Sl->Int->World->Nat),I p5 p6 w/\∀ (p51:Sl) (p61:Int) (w1:World),I p51 p61 w1 ->
  z10_b0 p1 p2 p51 p61 (fun p1' p2' p5' p6' w'=>((p1'=p1/\p2'=p2/\True)/\I p5' p6' w')/\μ p5' p6' w'<μ p51 p61 w1) K w1
structure z10_sh (p0_0 p0_1 p0_2:Sl)(p0_3 p0_4 p1:Int)(K:Pw.T4)(w:World):Prop where
 out:let w1:=w.alloc (.cells #[(vS p0_0),(vS p0_1),(vS p0_2),(vI p0_3),(vI p0_4)] 28)
  let w2:=w1.alloc (.cells #[(vI (-1))] 3)
  z10_l0 p1 (hA w 0) (Sl.mk (some (hA w1 0)) 1 1) 0 K w2
def z10_L0 (Kv:VW):Cur [tI,tQ,tL,tI] WP:=fun p1 p2 p5 p6=>z10_l0 p1 p2 p5 p6 (kk [tL] Kv)
noncomputable def z10_S:=sp [.g 5,tL,tL,tL,tI,tI,tI] [tL] z10_sh
theorem z10_ok:okP 100 z10_S:=okR (x:=fun Kv=>qr 2 (qr 2 (qs (qr 1 (qb (A.loop [1,2,5,6] (uR0 [tI,tQ,tL,tI] (z10_L0 Kv)) (qs (qr 5 (qc ql ql)) (qs (qb (qs (A.drp (dp [0,1,2,3,4,5,6,7,8,9,10,11] DA.done)) (qc (qe 5) ql))) (qe 3)))))) (qr 2 ql)))) (Γ:=[]) trivial Tryz.call100 Tryz.func100 (fun Kv=>q07 (q0a (L:=z10_L0 Kv) (fun N0 p1 p2 p5 p6=>z10_b0 p1 p2 p5 p6 N0 (kk [tL] Kv)) (fun⟨a0,a1,_,_,_⟩ _ h=>let ⟨I,μ,h0,hr⟩:=h.out; ⟨fun b0 b1 b2 b3 w=>(b0=a0/\b1=a1/\True)/\I b2 b3 w,fun _ _ b2 b3 w=>μ b2 b3 w,⟨⟨rfl,rfl,trivial⟩,h0⟩,fun⟨_,_,_,_,_⟩ _ ⟨⟨e0,e1,_⟩,hI⟩=>by cases e0; cases e1; exact hr _ _ _ hI⟩)) <| hEnd)
structure z26_sh (p0_0 p0_1 p0_2:Sl)(p0_3 p0_4:Int)(p1_0:Sl)(p1_1 p1_2:Int)(p1_3:Sl)(p2:Int)(p3 p4:Sl)(K:Pw.T0)(w:World):Prop where
 out:Calls Tryz.prog 98 #[(Value.agg #[(vS p0_0),(vS p0_1),(vS p0_2),(vI p0_3),(vI p0_4)]),(Value.agg #[(vS p1_0),(vI p1_1),(vI p1_2),(vS p1_3)]),(vI p2),(vS p3),(vS p4)] w fun e w'=>∃ r0:Bool,e=.returned (.bool r0)/\K r0 w'
noncomputable def z26_S:Pw.Spec:=fun vs w Kv =>
 match vs with
 | [.agg ⟨[.slice p_0_0p p_0_0l p_0_0c,.slice p_0_1p p_0_1l p_0_1c,.slice p_0_2p p_0_2l p_0_2c,.int .i64 p0_3,.int .i64 p0_4]⟩,.agg ⟨[.slice r_1_0p r_1_0l r_1_0c,.int .i64 p1_1,.int .i64 p1_2,.slice r_1_3p r_1_3l r_1_3c]⟩,.int .i64 p2,.slice f_3p f_3l f_3c,.slice seen_4p seen_4l seen_4c]=>z26_sh ⟨p_0_0p,p_0_0l,p_0_0c⟩ ⟨p_0_1p,p_0_1l,p_0_1c⟩ ⟨p_0_2p,p_0_2l,p_0_2c⟩ p0_3 p0_4 ⟨r_1_0p,r_1_0l,r_1_0c⟩ p1_1 p1_2 ⟨r_1_3p,r_1_3l,r_1_3c⟩ p2 ⟨f_3p,f_3l,f_3c⟩ ⟨seen_4p,seen_4l,seen_4c⟩ (fun r0 w'=>Kv (.bool r0) w') w
 | _=>False
theorem z26_okr:q3e Tryz.prog 98 z26_S:=⟨Tryz.call98,fun vs w Kv h=>by
  unfold z26_S at h
  split at h
  · exact h.out.mono fun e w' he=>by
      obtain⟨_,he,hk⟩:=he
      exact⟨_,he,hk⟩
  · exact h.elim⟩
def z26_b0 (p2:Int)(p3 p4:Sl)(p5 p6 p11:Addr)(p12:Sl)(p13:Int)(N0:Int->Sl->Sl->Addr->Addr->Addr->Sl->Int->World->Prop)(K:Pw.T0)(w:World):Prop :=
 cnd (decide (p13<(p12.l:Int)))
 (let w37:=w.drew
 ∃ S38:World->Prop,S38 w37/\mS S38 (p11.add 3) fun x39=>nz x39.p fun a40=>(0<=p13/\p13<(x39.l:Nat))/\mI S38 (a40.add (p13.toNat*1)) fun x41=>cnd (decide (x41<=p2))
 (K false w37)
 (mP S38 p5 fun x42 x43 x44 x45 x46=>mS S38 p6 fun x47=>mI S38 (p6.add 1) fun x48=>mI S38 (p6.add 2) fun x49=>mS S38 (p6.add 3) fun x50=>mS S38 (p11.add 3) fun x51=>nz x51.p fun a52=>(0<=p13/\p13<(x51.l:Nat))/\mI S38 (a52.add (p13.toNat*1)) fun x53=>nz p12.p fun a54=>(0<=p13/\p13<(p12.l:Nat))/\mI S38 (a54.add (p13.toNat*1)) fun x55=>(let w56:=w37.alloc (.cells #[] 3)
 S38 w56/\(apS 1 8 [(vI 0)] 3 (Sl.mk (some (hA w37 0)) 0 0) p3 w56 fun s57 w58=>S38 w58/\let w59:=w58.alloc (.cells #[(vI x55)] 3)
 S38 w59/\apS 1 8 [(vI 0)] 3 s57 (Sl.mk (some (hA w58 0)) 1 1) w59 fun s60 w61=>S38 w61/\z26_sh x42 x43 x44 x45 x46 x47 x48 x49 x50 x53 s60 p4 (fun r63 w62=>S38 w62/\cnd (!r63)
 (K false w62)
 (inR .i64 (p13+1)/\N0 p2 p3 p4 p5 p6 p11 p12 (p13+1) w62)) w61)
/\(let w64:=w56.alloc (.cells #[(vI x55)] 3)
 S38 w64/\apS 1 8 [(vI 0)] 3 (Sl.mk (some (hA w37 0)) 0 0) p3 w64 fun s65 w66=>S38 w66/\apS 1 8 [(vI 0)] 3 s65 (Sl.mk (some (hA w56 0)) 1 1) w66 fun s67 w68=>S38 w68/\z26_sh x42 x43 x44 x45 x46 x47 x48 x49 x50 x53 s67 p4 (fun r70 w69=>S38 w69/\cnd (!r70)
 (K false w69)
 (inR .i64 (p13+1)/\N0 p2 p3 p4 p5 p6 p11 p12 (p13+1) w69)) w68))
/\(let w71:=w37.alloc (.cells #[(vI x55)] 3)
 S38 w71/\let w72:=w71.alloc (.cells #[] 3)
 S38 w72/\apS 1 8 [(vI 0)] 3 (Sl.mk (some (hA w71 0)) 0 0) p3 w72 fun s73 w74=>S38 w74/\apS 1 8 [(vI 0)] 3 s73 (Sl.mk (some (hA w37 0)) 1 1) w74 fun s75 w76=>S38 w76/\z26_sh x42 x43 x44 x45 x46 x47 x48 x49 x50 x53 s75 p4 (fun r78 w77=>S38 w77/\cnd (!r78)
 (K false w77)
 (inR .i64 (p13+1)/\N0 p2 p3 p4 p5 p6 p11 p12 (p13+1) w77)) w76)))
 (K true w)
structure z26_l0 (p2:Int)(p3 p4:Sl)(p5 p6 p11:Addr)(p12:Sl)(p13:Int)(K:Pw.T0)(w:World):Prop where
 out:∃ (I:Int->World->Prop) (μ:Int->World->Nat),I p13 w/\∀ (p131:Int) (w1:World),I p131 w1 ->
  z26_b0 p2 p3 p4 p5 p6 p11 p12 p131 (fun p2' p3' p4' p5' p6' p11' p12' p13' w'=>((p2'=p2/\p3'=p3/\p4'=p4/\p5'=p5/\p6'=p6/\p11'=p11/\p12'=p12/\True)/\I p13' w')/\μ p13' w'<μ p131 w1) K w1
def z26_sd (p0_0 p0_1 p0_2:Sl)(p0_3 p0_4:Int)(p1_0:Sl)(p1_1 p1_2:Int)(p1_3:Sl)(p2:Int)(p3 p4:Sl)(K:Pw.T0)(w:World):Prop :=
 let w1:=w.alloc (.cells #[(vS p0_0),(vS p0_1),(vS p0_2),(vI p0_3),(vI p0_4)] 28)
 let w2:=w1.alloc (.cells #[(vS p1_0),(vI p1_1),(vI p1_2),(vS p1_3)] 45)
 cnd (decide (p2<0))
 (K false w2)
 (lS w2 (hA w1 3) fun x3=>cnd (decide (p2>=(x3.l:Int)))
 (K false w2)
 (nz p4.p fun a4=>(0<=p2/\p2<(p4.l:Nat))/\∃ x5:Bool,w2.cell? (a4.add (p2.toNat*1))=some (.bool x5)/\cnd x5
 (K false w2)
 (nz p4.p fun a6=>(0<=p2/\p2<(p4.l:Nat))/\wrOk w2 (a6.add (p2.toNat*1))/\
 (let w7:=w2.setCell (a6.add (p2.toNat*1)) (.bool true)
 lS w7 (hA w1 3) fun x8=>nz x8.p fun a9=>(0<=p2/\p2<(x8.l:Nat))/\lI w7 (a9.add (p2.toNat*4)) fun x10=>∃ x11:Int,w7.cell? ((a9.add (p2.toNat*4)).add 1)=some (vI x11)/\∃ x12:Int,w7.cell? ((a9.add (p2.toNat*4)).add 2)=some (vI x12)/\∃ x13:Sl,w7.cell? ((a9.add (p2.toNat*4)).add 3)=some (vS x13)/\let w14:=w7.alloc (.cells #[(vI 0),(vI 0),(vI 0),vN] 55)
 stN w14 (hA w7 0) [(vI x10),(vI x11),(vI x12),(vS x13)] fun w15=>lS w15 (hA w7 3) fun x16=>cnd ((x16.l:Int) == 0)
 (lS w15 (hA w 0) fun x17=>lS w15 (hA w 1) fun x18=>lS w15 (hA w 2) fun x19=>lI w15 (hA w 3) fun x20=>lI w15 (hA w 4) fun x21=>lI w15 (hA w7 1) fun x22=>lI w15 (hA w7 2) fun x23=>lS w15 (hA w1 0) fun x24=>z1b_sh x17 x18 x19 x20 x21 p3 x22 x23 x24 (fun r26 w25=>K r26 w25) w15)
 (lS w15 (hA w 0) fun x27=>cnd (decide ((p3.l:Int)>=(x27.l:Int)))
 (K false w15)
 (lI w15 (hA w7 0) fun x28=>cnd (x28 != (p3.l:Int))
 (K false w15)
 (lS w15 (hA w 0) fun x29=>lS w15 (hA w 1) fun x30=>lS w15 (hA w 2) fun x31=>lI w15 (hA w 3) fun x32=>lI w15 (hA w 4) fun x33=>z10_sh x29 x30 x31 x32 x33 (p3.l:Int) (fun r35 w34=>lS w34 (hA w7 3) fun x36=>cnd ((x36.l:Int) != (r35.l:Int))
 (K false w34)
 (z26_l0 p2 p3 p4 (hA w 0) (hA w1 0) (hA w7 0) r35 0 K w34)) w15)))))))
def z26_P0 (Kv:VW)(ρ:Rho)(vs:List Value)(w:World):Prop :=
 match ρ,vs with
 | _,[.int .i64 n_2,.slice f_3p f_3l f_3c,.slice seen_4p seen_4l seen_4c,.pointer (some p_5),.pointer (some r_6),.pointer (some x_11),.slice l_12p l_12l l_12c,.int .i64 i_13]=>z26_l0 n_2 ⟨f_3p,f_3l,f_3c⟩ ⟨seen_4p,seen_4l,seen_4c⟩ p_5 r_6 x_11 ⟨l_12p,l_12l,l_12c⟩ i_13 (fun r0 w'=>Kv (Value.bool r0) w') w
 | _,_=>False
noncomputable def z26_E:Pw.Env:=[(98,z26_S),(100,z10_S),(145,z1b_S)]
noncomputable def z26_C:Code:=(Tryz.f98.body).getD .skip
noncomputable def z26_A (Kv:VW):Pw.A :=
 (qr 3 (qs (qs (A.reg (qn 3 (RA.spl 16 (qk 5 (qn 2 (qk 4 (qn 1 RA.done)))) (qn 7 (RA.spl 23 (qk 4 (qn 1 RA.done)) (qn 5 RA.done)))))) (qc (qr 1 ql) ql)) (qr 4 (qr 7 (qs (qr 4 (qc (qr 8 ql) ql)) (qs (qs (A.reg (qn 7 (RA.spl 54 (qk 5 (qn 1 RA.done)) (qn 6 RA.done)))) (qc (qr 1 ql) ql)) (qr 5 (qs (qr 6 (qc (qr 1 ql) ql)) (qs (qr 1 (qb (A.loop [2,3,4,5,6,11,12,13] (z26_P0 Kv) (qs (qr 4 (qc ql ql)) (qs (qb (qs (A.drw (dp [0,1,2,3,4,5,6,7] (DA.spl 84 (DA.skp 8 (DA.skp 9 (DA.skp 10 (DA.skp 11 (DA.skp 12 (DA.skp 13 (DA.skp 14 (DA.skp 16 (DA.skp 18 (DA.skp 19 (DA.skp 20 (DA.skp 21 (DA.skp 24 (DA.skp 15 (DA.skp 17 (DA.skp 22 (DA.skp 23 (DA.skp 25 (DA.skp 26 (DA.pur 27 DA.done)))))))))))))))))))) (dp [8,9,10,11,12,13,14,16,18,19,20,21,24] (DA.two 15 (DA.two 17 (DA.eff 22 (DA.eff 23 (DA.eff 25 (dp [26,27] DA.done)))) 22 (DA.eff 17 (DA.eff 23 (DA.eff 25 (dp [26,27] DA.done))))) 22 (DA.eff 15 (DA.eff 17 (DA.eff 23 (DA.eff 25 (dp [26,27] DA.done)))))))))) (qc (qr 1 ql) ql))) (qe 3)))))) (qr 1 ql))))))))))
noncomputable def z26_O (Kv:VW):List Ob:=(obs Tryz.prog z26_E 105 (z26_A Kv) z26_C (fun _=>retQ Tryz.prog Tryz.f98.results Kv))
theorem z26_e (Kv:VW)(p_0_0p:Option Addr)(p_0_0l p_0_0c:Nat)(p_0_1p:Option Addr)(p_0_1l p_0_1c:Nat)(p_0_2p:Option Addr)(p_0_2l p_0_2c:Nat)(p_0_3 p_0_4:Int)(r_1_0p:Option Addr)(r_1_0l r_1_0c:Nat)(r_1_1 r_1_2:Int)(r_1_3p:Option Addr)(r_1_3l r_1_3c:Nat)(n_2:Int)(f_3p:Option Addr)(f_3l f_3c:Nat)(seen_4p:Option Addr)(seen_4l seen_4c:Nat)(w:World):z26_sd ⟨p_0_0p,p_0_0l,p_0_0c⟩ ⟨p_0_1p,p_0_1l,p_0_1c⟩ ⟨p_0_2p,p_0_2l,p_0_2c⟩ p_0_3 p_0_4 ⟨r_1_0p,r_1_0l,r_1_0c⟩ r_1_1 r_1_2 ⟨r_1_3p,r_1_3l,r_1_3c⟩ n_2 ⟨f_3p,f_3l,f_3c⟩ ⟨seen_4p,seen_4l,seen_4c⟩ (fun r0 w'=>Kv (Value.bool r0) w') w=W Tryz.prog z26_E 105 (z26_A Kv) z26_C [] (retQ Tryz.prog Tryz.f98.results Kv) [] (q7h [(Value.agg #[(Value.slice p_0_0p p_0_0l p_0_0c),(Value.slice p_0_1p p_0_1l p_0_1c),(Value.slice p_0_2p p_0_2l p_0_2c),(Value.int .i64 p_0_3),(Value.int .i64 p_0_4)]),(Value.agg #[(Value.slice r_1_0p r_1_0l r_1_0c),(Value.int .i64 r_1_1),(Value.int .i64 r_1_2),(Value.slice r_1_3p r_1_3l r_1_3c)]),(Value.int .i64 n_2),(Value.slice f_3p f_3l f_3c),(Value.slice seen_4p seen_4l seen_4c)]) w:=by kernel_rfl
theorem z26_e0 (Kv:VW)(N0:List Value->World->Prop)(ρ:Rho)(n_2:Int)(f_3p:Option Addr)(f_3l f_3c:Nat)(seen_4p:Option Addr)(seen_4l seen_4c:Nat)(p_5 r_6 x_11:Addr)(l_12p:Option Addr)(l_12l l_12c:Nat)(i_13:Int)(w:World):z26_b0 n_2 ⟨f_3p,f_3l,f_3c⟩ ⟨seen_4p,seen_4l,seen_4c⟩ p_5 r_6 x_11 ⟨l_12p,l_12l,l_12c⟩ i_13 (fun n_2' f_3' seen_4' p_5' r_6' x_11' l_12' i_13' w'=>N0 [(Value.int .i64 n_2'),(Value.slice f_3'.p f_3'.l f_3'.c),(Value.slice seen_4'.p seen_4'.l seen_4'.c),(Value.pointer (some p_5')),(Value.pointer (some r_6')),(Value.pointer (some x_11')),(Value.slice l_12'.p l_12'.l l_12'.c),(Value.int .i64 i_13')] w') (fun r0 w'=>Kv (Value.bool r0) w') w=q2p Tryz.prog z26_E 105 (z26_O Kv) 0 (N0 :: ρ) [(Value.int .i64 n_2),(Value.slice f_3p f_3l f_3c),(Value.slice seen_4p seen_4l seen_4c),(Value.pointer (some p_5)),(Value.pointer (some r_6)),(Value.pointer (some x_11)),(Value.slice l_12p l_12l l_12c),(Value.int .i64 i_13)] w:=by kernel_rfl
theorem z26_q0 (Kv:VW)(ρ:Rho)(vs:List Value)(w:World):q4j (z26_O Kv) 0 ρ vs w=z26_P0 Kv ρ vs w:=by kernel_rfl
def z26_I0 (n_20:Int)(f_30 seen_40:Sl)(p_50 r_60 x_110:Addr)(l_120:Sl)(I:Int->World->Prop)(vs:List Value)(w:World):Prop :=
 match vs with
 | [.int .i64 n_2,.slice f_3p f_3l f_3c,.slice seen_4p seen_4l seen_4c,.pointer (some p_5),.pointer (some r_6),.pointer (some x_11),.slice l_12p l_12l l_12c,.int .i64 i_13]=>(n_2=n_20/\⟨f_3p,f_3l,f_3c⟩=f_30/\⟨seen_4p,seen_4l,seen_4c⟩=seen_40/\p_5=p_50/\r_6=r_60/\x_11=x_110/\⟨l_12p,l_12l,l_12c⟩=l_120/\True)/\I i_13 w
 | _=>False
def z26_M0 (μ:Int->World->Nat)(vs:List Value)(w:World):Nat :=
 match vs with
 | [.int .i64 n_2,.slice f_3p f_3l f_3c,.slice seen_4p seen_4l seen_4c,.pointer (some p_5),.pointer (some r_6),.pointer (some x_11),.slice l_12p l_12l l_12c,.int .i64 i_13]=>μ i_13 w
 | _=>0
theorem z26_h0 (Kv:VW):q0x Tryz.prog z26_E 105 (z26_O Kv) 0:=q3i (by kernel_rfl) (fun ρ vs w h=>by
  rw[z26_q0] at h
  unfold z26_P0 at h
  split at h
  · rename_i ρt n_2 f_3p f_3l f_3c seen_4p seen_4l seen_4c p_5 r_6 x_11 l_12p l_12l l_12c i_13
    obtain⟨I,μ,h0,hr⟩:=h.out
    refine⟨z26_I0 n_2 ⟨f_3p,f_3l,f_3c⟩ ⟨seen_4p,seen_4l,seen_4c⟩ p_5 r_6 x_11 ⟨l_12p,l_12l,l_12c⟩ I,z26_M0 μ,⟨⟨rfl,rfl,rfl,rfl,rfl,rfl,rfl,trivial⟩,h0⟩,fun vs w hI=>?_⟩
    unfold z26_I0 at hI
    split at hI
    · obtain⟨⟨h0,h1,h2,h3,h4,h5,h6,_⟩,hI⟩:=hI
      cases h0; cases h1; cases h2; cases h3; cases h4; cases h5; cases h6
      rw[← z26_e0]
      exact hr _ _ hI
    · exact hI.elim
  · exact h.elim)
theorem z26_n (Kv:VW):obAt (z26_O Kv) 1=none:=by kernel_rfl
theorem z26_h (Kv:VW):∀ k,q0x Tryz.prog z26_E 105 (z26_O Kv) k:=fun k=>match k with
  | 0=>z26_h0 Kv
  | k+1=>q3o (z26_n Kv) (Nat.le_add_left _ _)
theorem z26_mk (p_0_0p:Option Addr)(p_0_0l p_0_0c:Nat)(p_0_1p:Option Addr)(p_0_1l p_0_1c:Nat)(p_0_2p:Option Addr)(p_0_2l p_0_2c:Nat)(p_0_3 p_0_4:Int)(r_1_0p:Option Addr)(r_1_0l r_1_0c:Nat)(r_1_1 r_1_2:Int)(r_1_3p:Option Addr)(r_1_3l r_1_3c:Nat)(n_2:Int)(f_3p:Option Addr)(f_3l f_3c:Nat)(seen_4p:Option Addr)(seen_4l seen_4c:Nat){K:Bool->World->Prop}{w:World}(h:z26_sd ⟨p_0_0p,p_0_0l,p_0_0c⟩ ⟨p_0_1p,p_0_1l,p_0_1c⟩ ⟨p_0_2p,p_0_2l,p_0_2c⟩ p_0_3 p_0_4 ⟨r_1_0p,r_1_0l,r_1_0c⟩ r_1_1 r_1_2 ⟨r_1_3p,r_1_3l,r_1_3c⟩ n_2 ⟨f_3p,f_3l,f_3c⟩ ⟨seen_4p,seen_4l,seen_4c⟩ K w):z26_sh ⟨p_0_0p,p_0_0l,p_0_0c⟩ ⟨p_0_1p,p_0_1l,p_0_1c⟩ ⟨p_0_2p,p_0_2l,p_0_2c⟩ p_0_3 p_0_4 ⟨r_1_0p,r_1_0l,r_1_0c⟩ r_1_1 r_1_2 ⟨r_1_3p,r_1_3l,r_1_3c⟩ n_2 ⟨f_3p,f_3l,f_3c⟩ ⟨seen_4p,seen_4l,seen_4c⟩ K w:=by
  have e:(fun r0 w'=>(fun v w'=>∃ r0:Bool,v=(Value.bool r0)/\K r0 w') (Value.bool r0) w')=K:=by
    funext r0 w'
    apply propext
    constructor
    · rintro⟨r0',hv,hk⟩
      cases hv
      exact hk
    · intro hk
      exact⟨_,rfl,hk⟩
  have h':z26_sd ⟨p_0_0p,p_0_0l,p_0_0c⟩ ⟨p_0_1p,p_0_1l,p_0_1c⟩ ⟨p_0_2p,p_0_2l,p_0_2c⟩ p_0_3 p_0_4 ⟨r_1_0p,r_1_0l,r_1_0c⟩ r_1_1 r_1_2 ⟨r_1_3p,r_1_3l,r_1_3c⟩ n_2 ⟨f_3p,f_3l,f_3c⟩ ⟨seen_4p,seen_4l,seen_4c⟩ (fun r0 w'=>(fun v w'=>∃ r0:Bool,v=(Value.bool r0)/\K r0 w') (Value.bool r0) w') w:=by rw[e]; exact h
  rw[z26_e (fun v w'=>∃ r0:Bool,v=(Value.bool r0)/\K r0 w')] at h'
  refine⟨(q35 (Γ:=z26_E) progMixed ⟨.inl z26_okr,.inl z10_ok,.inl z1b_ok,trivial⟩ Tryz.func98 (code:=z26_C) (by kernel_rfl) (z26_A (fun v w'=>∃ r0:Bool,v=(Value.bool r0)/\K r0 w')) (fun v w'=>∃ r0:Bool,v=(Value.bool r0)/\K r0 w') (q36 (z26_h (fun v w'=>∃ r0:Bool,v=(Value.bool r0)/\K r0 w'))) (Nat.le_of_ble_eq_true (by kernel_rfl)) h').mono fun e w' he=>?_⟩
  obtain⟨v,rfl,_,rfl,hk⟩:=he
  exact⟨_,rfl,hk⟩
def z1p_b0 (p6:Sl)(p7:Int)(N0:Pw.T43)(K:Pw.T0)(w:World):Prop :=
 cnd (decide (p7<(p6.l:Int)))
 (nz p6.p fun a25=>(0<=p7/\p7<(p6.l:Nat))/\∃ x26:Bool,w.cell? (a25.add (p7.toNat*1))=some (.bool x26)/\cnd (!x26)
 (K false w)
 (inR .i64 (p7+1)/\N0 p6 (p7+1) w))
 (K true w)
structure z1p_l0 (p6:Sl)(p7:Int)(K:Pw.T0)(w:World):Prop where
 out:∃ (I:Int->World->Prop) (μ:Int->World->Nat),I p7 w/\∀ (p71:Int) (w1:World),I p71 w1 ->
  z1p_b0 p6 p71 (fun p6' p7' w'=>((p6'=p6/\True)/\I p7' w')/\μ p7' w'<μ p71 w1) K w1
structure z1p_sh (p0_0 p0_1 p0_2:Sl)(p0_3 p0_4:Int)(p1_0:Sl)(p1_1 p1_2:Int)(p1_3:Sl)(K:Pw.T0)(w:World):Prop where
 out:let w1:=w.alloc (.cells #[(vS p0_0),(vS p0_1),(vS p0_2),(vI p0_3),(vI p0_4)] 28)
  let w2:=w1.alloc (.cells #[(vS p1_0),(vI p1_1),(vI p1_2),(vS p1_3)] 45)
  lS w2 (hA w 0) fun x3=>lS w2 (hA w 1) fun x4=>lS w2 (hA w 2) fun x5=>lI w2 (hA w 3) fun x6=>lI w2 (hA w 4) fun x7=>lS w2 (hA w1 0) fun x8=>z0e_sh x3 x4 x5 x6 x7 x8 (fun r10 w9=>lS w9 (hA w1 3) fun x11=>mkS 1 [(.bool false)] 4 (x11.l:Int) (x11.l:Int) w9 fun s12 w13=>cnd (!r10)
  (K false w13)
  (lS w13 (hA w 0) fun x14=>lS w13 (hA w 1) fun x15=>lS w13 (hA w 2) fun x16=>lI w13 (hA w 3) fun x17=>lI w13 (hA w 4) fun x18=>lS w13 (hA w1 0) fun x19=>lI w13 (hA w1 1) fun x20=>lI w13 (hA w1 2) fun x21=>lS w13 (hA w1 3) fun x22=>z26_sh x14 x15 x16 x17 x18 x19 x20 x21 x22 0 (Sl.mk none 0 0) s12 (fun r24 w23=>cnd (!r24)
  (K false w23)
  (z1p_l0 s12 0 K w23)) w13)) w2
def z1p_L0 (Kv:VW):Cur [tL,tI] WP:=fun p6 p7=>z1p_l0 p6 p7 (kk [tB] Kv)
noncomputable def z1p_S:=sp [.g 5,tL,tL,tL,tI,tI,.g 4,tL,tI,tI,tL] [tB] z1p_sh
theorem z1p_ok:okP 48 z1p_S:=okR (x:=fun Kv=>qr 3 (qr 5 (qr 5 (qs (qs (A.reg (qn 3 (RA.spl 18 (qk 5 (qn 1 RA.done)) (qn 6 RA.done)))) (qc (qr 1 ql) ql)) (qs (qr 1 (qb (A.loop [6,7] (uR0 [tL,tI] (z1p_L0 Kv)) (qs (qr 4 (qc ql ql)) (qs (qb (qr 5 (qc (qr 1 ql) ql))) (qe 3)))))) (qr 1 ql)))))) (Γ:=[(47,z0e_S),(98,z26_S)]) ⟨.inl z0e_ok,.inl z26_okr,trivial⟩ Tryz.call48 Tryz.func48 (fun Kv=>q07 (q0a (L:=z1p_L0 Kv) (fun N0 p6 p7=>z1p_b0 p6 p7 N0 (kk [tB] Kv)) (fun⟨a0,_,_⟩ _ h=>let ⟨I,μ,h0,hr⟩:=h.out; ⟨fun b0 b1 w=>(b0=a0/\True)/\I b1 w,fun _ b1 w=>μ b1 w,⟨⟨rfl,trivial⟩,h0⟩,fun⟨_,_,_⟩ _ ⟨⟨e0,_⟩,hI⟩=>by cases e0; exact hr _ _ hI⟩)) <| hEnd)
def z0l_b1 (p1:Addr)(p3 p4:Int)(p5 p6 p7:Int)(N1:Addr->Int->Int->Int->Int->Int->World->Prop)(N0:Pw.T31)(K:Pw.T1)(w:World):Prop :=
 lS w (p1.add 1) fun x3=>cnd (decide (p7<(x3.l:Int)))
 (let w4:=w.drew
 lS w4 (p1.add 1) fun x5=>nz x5.p fun a6=>(0<=p7/\p7<(x5.l:Nat))/\lI w4 (a6.add (p7.toNat*4)) fun x7=>lS w4 p1 fun x8=>nz x8.p fun a9=>(0<=p5/\p5<(x8.l:Nat))/\lI w4 (a9.add (p5.toNat*1)) fun x10=>cnd (x7 == x10)
 (inR .i64 (p6+1)/\inR .i64 (p7+1)/\N1 p1 p3 p4 p5 (p6+1) (p7+1) w4)
 (inR .i64 (p7+1)/\N1 p1 p3 p4 p5 p6 (p7+1) w4))
 (inR .i64 (p4*p6)/\inR .i64 (p3+(p4*p6))/\inR .i64 (p5+1)/\N0 p1 (p3+(p4*p6)) (p4*p6) (p5+1) w)
structure z0l_l1 (p1:Addr)(p3 p4:Int)(p5 p6 p7:Int)(N0:Pw.T31)(K:Pw.T1)(w:World):Prop where
 out:∃ (I:Int->Int->World->Prop) (μ:Int->Int->World->Nat),I p6 p7 w/\∀ (p61 p71:Int) (w1:World),I p61 p71 w1 ->
  z0l_b1 p1 p3 p4 p5 p61 p71 (fun p1' p3' p4' p5' p6' p7' w'=>((p1'=p1/\p3'=p3/\p4'=p4/\p5'=p5/\True)/\I p6' p7' w')/\μ p6' p7' w'<μ p61 p71 w1) N0 K w1
def z0l_b0 (p1:Addr)(p3 p4 p5:Int)(N0:Pw.T31)(K:Pw.T1)(w:World):Prop :=
 lS w p1 fun x2=>cnd (decide (p5<(x2.l:Int)))
 (z0l_l1 p1 p3 p4 p5 1 0 N0 K w)
 (K p3 w)
structure z0l_l0 (p1:Addr)(p3 p4 p5:Int)(K:Pw.T1)(w:World):Prop where
 out:∃ (I:Int->Int->Int->World->Prop) (μ:Int->Int->Int->World->Nat),I p3 p4 p5 w/\∀ (p31 p41 p51:Int) (w1:World),I p31 p41 p51 w1 ->
  z0l_b0 p1 p31 p41 p51 (fun p1' p3' p4' p5' w'=>((p1'=p1/\True)/\I p3' p4' p5' w')/\μ p3' p4' p5' w'<μ p31 p41 p51 w1) K w1
structure z0l_sh (p0_0 p0_1 p0_2:Sl)(p0_3 p0_4:Int)(K:Pw.T1)(w:World):Prop where
 out:let w1:=w.alloc (.cells #[(vS p0_0),(vS p0_1),(vS p0_2),(vI p0_3),(vI p0_4)] 28)
  z0l_l0 (hA w 0) 1 1 0 K w1
def z0l_L0 (Kv:VW):Cur [tQ,tI,tI,tI] WP:=fun p1 p3 p4 p5=>z0l_l0 p1 p3 p4 p5 (kk [tI] Kv)
def z0l_L1 (Kv:VW):Cur [tQ,tI,tI,tI] WP->Cur [tQ,tI,tI,tI,tI,tI] WP:=fun N0 p1 p3 p4 p5 p6 p7=>z0l_l1 p1 p3 p4 p5 p6 p7 N0 (kk [tI] Kv)
noncomputable def z0l_S:=sp [.g 5,tL,tL,tL,tI,tI] [tI] z0l_sh
theorem z0l_ok:okP 20 z0l_S:=okR (x:=fun Kv=>qr 2 (qr 1 (qr 1 (qs (qr 1 (qb (A.loop [1,3,4,5] (uR0 [tQ,tI,tI,tI] (z0l_L0 Kv)) (qs (qr 5 (qc ql ql)) (qs (qb (qr 1 (qs (qr 1 (qb (A.loop [1,3,4,5,6,7] (uR1 [tQ,tI,tI,tI] [tQ,tI,tI,tI,tI,tI] (z0l_L1 Kv)) (qs (qr 5 (qc ql ql)) (qs (qb (qs (A.drp (dp [0,1,2,3,4,5,6,7,8,9,10,11] DA.done)) (qc (qe 3) ql))) (qe 3)))))) (qr 4 (qe 4))))) (qe 3)))))) (qr 2 ql))))) (Γ:=[]) trivial Tryz.call20 Tryz.func20 (fun Kv=>q07 (q0a (L:=z0l_L0 Kv) (fun N0 p1 p3 p4 p5=>z0l_b0 p1 p3 p4 p5 N0 (kk [tI] Kv)) (fun⟨a0,_,_,_,_⟩ _ h=>let ⟨I,μ,h0,hr⟩:=h.out; ⟨fun b0 b1 b2 b3 w=>(b0=a0/\True)/\I b1 b2 b3 w,fun _ b1 b2 b3 w=>μ b1 b2 b3 w,⟨⟨rfl,trivial⟩,h0⟩,fun⟨_,_,_,_,_⟩ _ ⟨⟨e0,_⟩,hI⟩=>by cases e0; exact hr _ _ _ _ hI⟩)) <| q07 (q3q (L:=z0l_L1 Kv) (fun N0 N1 p1 p3 p4 p5 p6 p7=>z0l_b1 p1 p3 p4 p5 p6 p7 N1 N0 (kk [tI] Kv)) (fun _ ⟨a0,a1,a2,a3,_,_,_⟩ _ h=>let ⟨I,μ,h0,hr⟩:=h.out; ⟨fun b0 b1 b2 b3 b4 b5 w=>(b0=a0/\b1=a1/\b2=a2/\b3=a3/\True)/\I b4 b5 w,fun _ _ _ _ b4 b5 w=>μ b4 b5 w,⟨⟨rfl,rfl,rfl,rfl,trivial⟩,h0⟩,fun⟨_,_,_,_,_,_,_⟩ _ ⟨⟨e0,e1,e2,e3,_⟩,hI⟩=>by cases e0; cases e1; cases e2; cases e3; exact hr _ _ _ hI⟩)) <| hEnd)
structure z23_sh (p0_0 p0_1 p0_2:Sl)(p0_3 p0_4:Int)(p1 p2:Sl)(K:Pw.T4)(w:World):Prop where
 out:Calls Tryz.prog 49 #[(Value.agg #[(vS p0_0),(vS p0_1),(vS p0_2),(vI p0_3),(vI p0_4)]),(vS p1),(vS p2)] w fun e w'=>∃ r0:Sl,e=.returned (vS r0)/\K r0 w'
noncomputable def z23_S:Pw.Spec:=fun vs w Kv =>
 match vs with
 | [.agg ⟨[.slice p_0_0p p_0_0l p_0_0c,.slice p_0_1p p_0_1l p_0_1c,.slice p_0_2p p_0_2l p_0_2c,.int .i64 p0_3,.int .i64 p0_4]⟩,.slice f_1p f_1l f_1c,.slice known_2p known_2l known_2c]=>z23_sh ⟨p_0_0p,p_0_0l,p_0_0c⟩ ⟨p_0_1p,p_0_1l,p_0_1c⟩ ⟨p_0_2p,p_0_2l,p_0_2c⟩ p0_3 p0_4 ⟨f_1p,f_1l,f_1c⟩ ⟨known_2p,known_2l,known_2c⟩ (fun r0 w'=>Kv (vS r0) w') w
 | _=>False
theorem z23_okr:q3e Tryz.prog 49 z23_S:=⟨Tryz.call49,fun vs w Kv h=>by
  unfold z23_S at h
  split at h
  · exact h.out.mono fun e w' he=>by
      obtain⟨_,he,hk⟩:=he
      exact⟨_,he,hk⟩
  · exact h.elim⟩
def z23_b0 (p1 p2:Sl)(p3:Addr)(p8:Sl)(p9:Int)(N0:Sl->Sl->Addr->Sl->Int->World->Prop)(K:Pw.T4)(w:World):Prop :=
 cnd (decide (p9<(p8.l:Int)))
 (let w20:=w.drew
 ∃ S21:World->Prop,S21 w20/\mP S21 p3 fun x22 x23 x24 x25 x26=>nz p8.p fun a27=>(0<=p9/\p9<(p8.l:Nat))/\mI S21 (a27.add (p9.toNat*1)) fun x28=>(let w29:=w20.alloc (.cells #[] 3)
 S21 w29/\(apS 1 8 [(vI 0)] 3 (Sl.mk (some (hA w20 0)) 0 0) p1 w29 fun s30 w31=>S21 w31/\let w32:=w31.alloc (.cells #[(vI x28)] 3)
 S21 w32/\apS 1 8 [(vI 0)] 3 s30 (Sl.mk (some (hA w31 0)) 1 1) w32 fun s33 w34=>S21 w34/\z23_sh x22 x23 x24 x25 x26 s33 p2 (fun r36 w35=>S21 w35/\inR .i64 (p9+1)/\N0 p1 r36 p3 p8 (p9+1) w35) w34)
/\(let w37:=w29.alloc (.cells #[(vI x28)] 3)
 S21 w37/\apS 1 8 [(vI 0)] 3 (Sl.mk (some (hA w20 0)) 0 0) p1 w37 fun s38 w39=>S21 w39/\apS 1 8 [(vI 0)] 3 s38 (Sl.mk (some (hA w29 0)) 1 1) w39 fun s40 w41=>S21 w41/\z23_sh x22 x23 x24 x25 x26 s40 p2 (fun r43 w42=>S21 w42/\inR .i64 (p9+1)/\N0 p1 r43 p3 p8 (p9+1) w42) w41))
/\(let w44:=w20.alloc (.cells #[(vI x28)] 3)
 S21 w44/\let w45:=w44.alloc (.cells #[] 3)
 S21 w45/\apS 1 8 [(vI 0)] 3 (Sl.mk (some (hA w44 0)) 0 0) p1 w45 fun s46 w47=>S21 w47/\apS 1 8 [(vI 0)] 3 s46 (Sl.mk (some (hA w20 0)) 1 1) w47 fun s48 w49=>S21 w49/\z23_sh x22 x23 x24 x25 x26 s48 p2 (fun r51 w50=>S21 w50/\inR .i64 (p9+1)/\N0 p1 r51 p3 p8 (p9+1) w50) w49))
 (K p2 w)
structure z23_l0 (p1 p2:Sl)(p3:Addr)(p8:Sl)(p9:Int)(K:Pw.T4)(w:World):Prop where
 out:∃ (I:Sl->Int->World->Prop) (μ:Sl->Int->World->Nat),I p2 p9 w/\∀ (p21:Sl) (p91:Int) (w1:World),I p21 p91 w1 ->
  z23_b0 p1 p21 p3 p8 p91 (fun p1' p2' p3' p8' p9' w'=>((p1'=p1/\p3'=p3/\p8'=p8/\True)/\I p2' p9' w')/\μ p2' p9' w'<μ p21 p91 w1) K w1
def z23_sd (p0_0 p0_1 p0_2:Sl)(p0_3 p0_4:Int)(p1 p2:Sl)(K:Pw.T4)(w:World):Prop :=
 let w1:=w.alloc (.cells #[(vS p0_0),(vS p0_1),(vS p0_2),(vI p0_3),(vI p0_4)] 28)
 lS w1 (hA w 0) fun x2=>cnd ((p1.l:Int) == (x2.l:Int))
 (lS w1 (hA w 0) fun x3=>lS w1 (hA w 1) fun x4=>lS w1 (hA w 2) fun x5=>lI w1 (hA w 3) fun x6=>lI w1 (hA w 4) fun x7=>z18_sh x3 x4 x5 x6 x7 p1 p2 (fun r9 w8=>cnd r9
 (let w10:=w8.alloc (.cells #[] 3)
 apS 1 8 [(vI 0)] 3 (Sl.mk (some (hA w8 0)) 0 0) p1 w10 fun s11 w12=>K s11 w12)
 (K p2 w8)) w1)
 (lS w1 (hA w 0) fun x13=>lS w1 (hA w 1) fun x14=>lS w1 (hA w 2) fun x15=>lI w1 (hA w 3) fun x16=>lI w1 (hA w 4) fun x17=>z10_sh x13 x14 x15 x16 x17 (p1.l:Int) (fun r19 w18=>z23_l0 p1 p2 (hA w 0) r19 0 K w18) w1)
def z23_P0 (Kv:VW)(ρ:Rho)(vs:List Value)(w:World):Prop :=
 match ρ,vs with
 | _,[.slice f_1p f_1l f_1c,.slice known_2p known_2l known_2c,.pointer (some p_3),.slice l_8p l_8l l_8c,.int .i64 i_9]=>z23_l0 ⟨f_1p,f_1l,f_1c⟩ ⟨known_2p,known_2l,known_2c⟩ p_3 ⟨l_8p,l_8l,l_8c⟩ i_9 (fun r0 w'=>Kv (Value.slice r0.p r0.l r0.c) w') w
 | _,_=>False
noncomputable def z23_E:Pw.Env:=[(49,z23_S),(99,z18_S),(100,z10_S)]
noncomputable def z23_C:Code:=(Tryz.f49.body).getD .skip
noncomputable def z23_A (Kv:VW):Pw.A :=
 (qr 2 (qs (qr 6 (qc (qr 5 (qs (qr 1 (qc (qr 4 ql) ql)) (qr 2 ql))) ql)) (qr 5 (qs (qr 1 (qb (A.loop [1,2,3,8,9] (z23_P0 Kv) (qs (qr 4 (qc ql ql)) (qs (qb (A.drw (dp [0,2,4,5,6,7,10] (DA.two 1 (DA.two 3 (DA.eff 8 (DA.eff 9 (DA.eff 11 (DA.pur 12 DA.done)))) 8 (DA.eff 3 (DA.eff 9 (DA.eff 11 (DA.pur 12 DA.done))))) 8 (DA.eff 1 (DA.eff 3 (DA.eff 9 (DA.eff 11 (DA.pur 12 DA.done))))))))) (qe 3)))))) (qr 2 ql)))))
noncomputable def z23_O (Kv:VW):List Ob:=(obs Tryz.prog z23_E 48 (z23_A Kv) z23_C (fun _=>retQ Tryz.prog Tryz.f49.results Kv))
theorem z23_e (Kv:VW)(p_0_0p:Option Addr)(p_0_0l p_0_0c:Nat)(p_0_1p:Option Addr)(p_0_1l p_0_1c:Nat)(p_0_2p:Option Addr)(p_0_2l p_0_2c:Nat)(p_0_3 p_0_4:Int)(f_1p:Option Addr)(f_1l f_1c:Nat)(known_2p:Option Addr)(known_2l known_2c:Nat)(w:World):z23_sd ⟨p_0_0p,p_0_0l,p_0_0c⟩ ⟨p_0_1p,p_0_1l,p_0_1c⟩ ⟨p_0_2p,p_0_2l,p_0_2c⟩ p_0_3 p_0_4 ⟨f_1p,f_1l,f_1c⟩ ⟨known_2p,known_2l,known_2c⟩ (fun r0 w'=>Kv (Value.slice r0.p r0.l r0.c) w') w=W Tryz.prog z23_E 48 (z23_A Kv) z23_C [] (retQ Tryz.prog Tryz.f49.results Kv) [] (q7h [(Value.agg #[(Value.slice p_0_0p p_0_0l p_0_0c),(Value.slice p_0_1p p_0_1l p_0_1c),(Value.slice p_0_2p p_0_2l p_0_2c),(Value.int .i64 p_0_3),(Value.int .i64 p_0_4)]),(Value.slice f_1p f_1l f_1c),(Value.slice known_2p known_2l known_2c)]) w:=by kernel_rfl
theorem z23_e0 (Kv:VW)(N0:List Value->World->Prop)(ρ:Rho)(f_1p:Option Addr)(f_1l f_1c:Nat)(known_2p:Option Addr)(known_2l known_2c:Nat)(p_3:Addr)(l_8p:Option Addr)(l_8l l_8c:Nat)(i_9:Int)(w:World):z23_b0 ⟨f_1p,f_1l,f_1c⟩ ⟨known_2p,known_2l,known_2c⟩ p_3 ⟨l_8p,l_8l,l_8c⟩ i_9 (fun f_1' known_2' p_3' l_8' i_9' w'=>N0 [(Value.slice f_1'.p f_1'.l f_1'.c),(Value.slice known_2'.p known_2'.l known_2'.c),(Value.pointer (some p_3')),(Value.slice l_8'.p l_8'.l l_8'.c),(Value.int .i64 i_9')] w') (fun r0 w'=>Kv (Value.slice r0.p r0.l r0.c) w') w=q2p Tryz.prog z23_E 48 (z23_O Kv) 0 (N0 :: ρ) [(Value.slice f_1p f_1l f_1c),(Value.slice known_2p known_2l known_2c),(Value.pointer (some p_3)),(Value.slice l_8p l_8l l_8c),(Value.int .i64 i_9)] w:=by kernel_rfl
theorem z23_q0 (Kv:VW)(ρ:Rho)(vs:List Value)(w:World):q4j (z23_O Kv) 0 ρ vs w=z23_P0 Kv ρ vs w:=by kernel_rfl
def z23_I0 (f_10:Sl)(p_30:Addr)(l_80:Sl)(I:Sl->Int->World->Prop)(vs:List Value)(w:World):Prop :=
 match vs with
 | [.slice f_1p f_1l f_1c,.slice known_2p known_2l known_2c,.pointer (some p_3),.slice l_8p l_8l l_8c,.int .i64 i_9]=>(⟨f_1p,f_1l,f_1c⟩=f_10/\p_3=p_30/\⟨l_8p,l_8l,l_8c⟩=l_80/\True)/\I ⟨known_2p,known_2l,known_2c⟩ i_9 w
 | _=>False
def z23_M0 (μ:Sl->Int->World->Nat)(vs:List Value)(w:World):Nat :=
 match vs with
 | [.slice f_1p f_1l f_1c,.slice known_2p known_2l known_2c,.pointer (some p_3),.slice l_8p l_8l l_8c,.int .i64 i_9]=>μ ⟨known_2p,known_2l,known_2c⟩ i_9 w
 | _=>0
theorem z23_h0 (Kv:VW):q0x Tryz.prog z23_E 48 (z23_O Kv) 0:=q3i (by kernel_rfl) (fun ρ vs w h=>by
  rw[z23_q0] at h
  unfold z23_P0 at h
  split at h
  · rename_i ρt f_1p f_1l f_1c known_2p known_2l known_2c p_3 l_8p l_8l l_8c i_9
    obtain⟨I,μ,h0,hr⟩:=h.out
    refine⟨z23_I0 ⟨f_1p,f_1l,f_1c⟩ p_3 ⟨l_8p,l_8l,l_8c⟩ I,z23_M0 μ,⟨⟨rfl,rfl,rfl,trivial⟩,h0⟩,fun vs w hI=>?_⟩
    unfold z23_I0 at hI
    split at hI
    · obtain⟨⟨h0,h1,h2,_⟩,hI⟩:=hI
      cases h0; cases h1; cases h2
      rw[← z23_e0]
      exact hr _ _ _ hI
    · exact hI.elim
  · exact h.elim)
theorem z23_n (Kv:VW):obAt (z23_O Kv) 1=none:=by kernel_rfl
theorem z23_h (Kv:VW):∀ k,q0x Tryz.prog z23_E 48 (z23_O Kv) k:=fun k=>match k with
  | 0=>z23_h0 Kv
  | k+1=>q3o (z23_n Kv) (Nat.le_add_left _ _)
theorem z23_mk (p_0_0p:Option Addr)(p_0_0l p_0_0c:Nat)(p_0_1p:Option Addr)(p_0_1l p_0_1c:Nat)(p_0_2p:Option Addr)(p_0_2l p_0_2c:Nat)(p_0_3 p_0_4:Int)(f_1p:Option Addr)(f_1l f_1c:Nat)(known_2p:Option Addr)(known_2l known_2c:Nat){K:Sl->World->Prop}{w:World}(h:z23_sd ⟨p_0_0p,p_0_0l,p_0_0c⟩ ⟨p_0_1p,p_0_1l,p_0_1c⟩ ⟨p_0_2p,p_0_2l,p_0_2c⟩ p_0_3 p_0_4 ⟨f_1p,f_1l,f_1c⟩ ⟨known_2p,known_2l,known_2c⟩ K w):z23_sh ⟨p_0_0p,p_0_0l,p_0_0c⟩ ⟨p_0_1p,p_0_1l,p_0_1c⟩ ⟨p_0_2p,p_0_2l,p_0_2c⟩ p_0_3 p_0_4 ⟨f_1p,f_1l,f_1c⟩ ⟨known_2p,known_2l,known_2c⟩ K w:=by
  have e:(fun r0 w'=>(fun v w'=>∃ r0:Sl,v=(Value.slice r0.p r0.l r0.c)/\K r0 w') (Value.slice r0.p r0.l r0.c) w')=K:=by
    funext r0 w'
    apply propext
    constructor
    · rintro⟨r0',hv,hk⟩
      rcases r0 with⟨r0_1,r0_2,r0_3⟩; rcases r0' with⟨r0_4,r0_5,r0_6⟩; cases hv
      exact hk
    · intro hk
      exact⟨_,rfl,hk⟩
  have h':z23_sd ⟨p_0_0p,p_0_0l,p_0_0c⟩ ⟨p_0_1p,p_0_1l,p_0_1c⟩ ⟨p_0_2p,p_0_2l,p_0_2c⟩ p_0_3 p_0_4 ⟨f_1p,f_1l,f_1c⟩ ⟨known_2p,known_2l,known_2c⟩ (fun r0 w'=>(fun v w'=>∃ r0:Sl,v=(Value.slice r0.p r0.l r0.c)/\K r0 w') (Value.slice r0.p r0.l r0.c) w') w:=by rw[e]; exact h
  rw[z23_e (fun v w'=>∃ r0:Sl,v=(Value.slice r0.p r0.l r0.c)/\K r0 w')] at h'
  refine⟨(q35 (Γ:=z23_E) progMixed ⟨.inl z23_okr,.inl z18_ok,.inl z10_ok,trivial⟩ Tryz.func49 (code:=z23_C) (by kernel_rfl) (z23_A (fun v w'=>∃ r0:Sl,v=(Value.slice r0.p r0.l r0.c)/\K r0 w')) (fun v w'=>∃ r0:Sl,v=(Value.slice r0.p r0.l r0.c)/\K r0 w') (q36 (z23_h (fun v w'=>∃ r0:Sl,v=(Value.slice r0.p r0.l r0.c)/\K r0 w'))) (Nat.le_of_ble_eq_true (by kernel_rfl)) h').mono fun e w' he=>?_⟩
  obtain⟨v,rfl,_,rfl,hk⟩:=he
  exact⟨_,rfl,hk⟩
structure z20_sh (p0_0 p0_1 p0_2:Sl)(p0_3 p0_4:Int)(K:Pw.T4)(w:World):Prop where
 out:let w1:=w.alloc (.cells #[(vS p0_0),(vS p0_1),(vS p0_2),(vI p0_3),(vI p0_4)] 28)
  lS w1 (hA w 0) fun x2=>lS w1 (hA w 1) fun x3=>lS w1 (hA w 2) fun x4=>lI w1 (hA w 3) fun x5=>lI w1 (hA w 4) fun x6=>z23_sh x2 x3 x4 x5 x6 (Sl.mk none 0 0) (Sl.mk none 0 0) (fun r8 w7=>K r8 w7) w1
noncomputable def z20_S:=sp [.g 5,tL,tL,tL,tI,tI] [tL] z20_sh
theorem z20_ok:okP 23 z20_S:=okR (x:=fun _=>qr 2 (qr 3 ql)) (Γ:=[(49,z23_S)]) ⟨.inl z23_okr,trivial⟩ Tryz.call23 Tryz.func23 (fun _=>hEnd)
def z21_b0 (p0 p1:Sl)(p5:Int)(N0:Pw.T41)(K:Pw.T0)(w:World):Prop :=
 cnd (decide (p5<(p0.l:Int)))
 (let w1:=w.drew
 nz p0.p fun a2=>(0<=p5/\p5<(p0.l:Nat))/\lI w1 (a2.add (p5.toNat*1)) fun x3=>nz p1.p fun a4=>(0<=p5/\p5<(p1.l:Nat))/\lI w1 (a4.add (p5.toNat*1)) fun x5=>cnd (x3 != x5)
 (K false w1)
 (inR .i64 (p5+1)/\N0 p0 p1 (p5+1) w1))
 (K true w)
structure z21_l0 (p0 p1:Sl)(p5:Int)(K:Pw.T0)(w:World):Prop where
 out:∃ (I:Int->World->Prop) (μ:Int->World->Nat),I p5 w/\∀ (p51:Int) (w1:World),I p51 w1 ->
  z21_b0 p0 p1 p51 (fun p0' p1' p5' w'=>((p0'=p0/\p1'=p1/\True)/\I p5' w')/\μ p5' w'<μ p51 w1) K w1
structure z21_sh (p0 p1:Sl)(K:Pw.T0)(w:World):Prop where
 out:cnd ((p0.l:Int) != (p1.l:Int))
  (K false w)
  (z21_l0 p0 p1 0 K w)
def z21_L0 (Kv:VW):Cur [tL,tL,tI] WP:=fun p0 p1 p5=>z21_l0 p0 p1 p5 (kk [tB] Kv)
noncomputable def z21_S:=sp [tL,tL] [tB] z21_sh
theorem z21_ok:okP 24 z21_S:=okR (x:=fun Kv=>qr 1 (qs (qr 5 (qc (qr 1 ql) ql)) (qs (qr 1 (qb (A.loop [0,1,5] (uR0 [tL,tL,tI] (z21_L0 Kv)) (qs (qr 4 (qc ql ql)) (qs (qb (qs (A.drp (dp [0,1,2,3,4,5,6,7,8] DA.done)) (qc (qr 1 ql) ql))) (qe 3)))))) (qr 1 ql)))) (Γ:=[]) trivial Tryz.call24 Tryz.func24 (fun Kv=>q07 (q0a (L:=z21_L0 Kv) (fun N0 p0 p1 p5=>z21_b0 p0 p1 p5 N0 (kk [tB] Kv)) (fun⟨a0,a1,_,_⟩ _ h=>let ⟨I,μ,h0,hr⟩:=h.out; ⟨fun b0 b1 b2 w=>(b0=a0/\b1=a1/\True)/\I b2 w,fun _ _ b2 w=>μ b2 w,⟨⟨rfl,rfl,trivial⟩,h0⟩,fun⟨_,_,_,_⟩ _ ⟨⟨e0,e1,_⟩,hI⟩=>by cases e0; cases e1; exact hr _ _ hI⟩)) <| hEnd)
end Go.Proofs.YtfpobpjandjhjaaGreatDoor
