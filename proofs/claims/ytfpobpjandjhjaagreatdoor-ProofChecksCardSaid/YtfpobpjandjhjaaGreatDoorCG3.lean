/- The bodies' formulas, by program. -/
import Derived.Test.YtfpobpjandjhjaaGreatDoorCG2
set_option maxRecDepth 20000
namespace Go.Proofs.YtfpobpjandjhjaaGreatDoor
open Go Pw
structure z2o_k1 (p1:Value)(p4 p8:Addr)(p9:Int)(p11:Sl)(p12 p13:Int)(N0:Pw.T28)(K:Pw.T17)(w:World):Prop where
 out:lI w p8 fun x14=>lI w (p8.add 1) fun x15=>wrOk w p4/\
  (let w16:=w.setCell p4 (vI x14)
  wrOk w16 (p4.add 1)/\
  (let w17:=w16.setCell (p4.add 1) (vI x15)
  inR .i64 (p13+1)/\N0 p1 p4 p9 true p11 p12 (p13+1) w17))
def z2o_b0 (p1:Value)(p4:Addr)(p5:Int)(p6:Bool)(p11:Sl)(p12 p13:Int)(N0:Pw.T28)(K:Pw.T17)(w:World):Prop :=
 cnd (decide (p13<p12))
 (nz p11.p fun a2=>(0<=p13/\p13<(p11.l:Nat))/\lI w (a2.add (p13.toNat*2)) fun x3=>∃ x4:Int,w.cell? ((a2.add (p13.toNat*2)).add 1)=some (vI x4)/\let w5:=w.alloc (.cells #[(vI 0),(vI 0)] 31)
 wrOk w5 (hA w 0)/\
 (let w6:=w5.setCell (hA w 0) (vI x3)
 wrOk w6 (hA w 1)/\
 (let w7:=w6.setCell (hA w 1) (vI x4)
 lI w7 (hA w 0) fun x8=>lI w7 (hA w 1) fun x9=>q2b Tryz.prog p1 [(Value.agg #[(vI x8),(vI x9)])] w7 fun u10 w11=>∃ x12:Int,∃ x13:Bool,u10=(.tuple #[(vI x12),(.bool x13)])/\cnd x13
 (cnd (!p6)
 (z2o_k1 p1 p4 (hA w 0) x12 p11 p12 p13 N0 K w11)
 (cnd (decide (x12<p5))
 (z2o_k1 p1 p4 (hA w 0) x12 p11 p12 p13 N0 K w11)
 (inR .i64 (p13+1)/\N0 p1 p4 p5 p6 p11 p12 (p13+1) w11)))
 (inR .i64 (p13+1)/\N0 p1 p4 p5 p6 p11 p12 (p13+1) w11))))
 (lI w p4 fun x18=>lI w (p4.add 1) fun x19=>wrOk w p4/\
 (let w20:=w.setCell p4 (vI x18)
 wrOk w20 (p4.add 1)/\
 (let w21:=w20.setCell (p4.add 1) (vI x19)
 lI w21 p4 fun x22=>lI w21 (p4.add 1) fun x23=>K x22 x23 p5 p6 w21)))
structure z2o_l0 (p1:Value)(p4:Addr)(p5:Int)(p6:Bool)(p11:Sl)(p12 p13:Int)(K:Pw.T17)(w:World):Prop where
 out:∃ (I:Int->Bool->Int->World->Prop) (μ:Int->Bool->Int->World->Nat),I p5 p6 p13 w/\∀ (p51:Int) (p61:Bool) (p131:Int) (w1:World),I p51 p61 p131 w1 ->
  z2o_b0 p1 p4 p51 p61 p11 p12 p131 (fun p1' p4' p5' p6' p11' p12' p13' w'=>((p1'=p1/\p4'=p4/\p11'=p11/\p12'=p12/\True)/\I p5' p6' p13' w')/\μ p5' p6' p13' w'<μ p51 p61 p131 w1) K w1
structure z2o_sh (p0:Sl)(p1:Value)(K:Pw.T17)(w:World):Prop where
 out:let w1:=w.alloc (.cells #[(vI 0),(vI 0)] 31)
  z2o_l0 p1 (hA w 0) 0 false p0 (p0.l:Int) 0 K w1
def z2o_L0 (Kv:VW):Cur [tV,tQ,tI,tB,tL,tI,tI] WP:=fun p1 p4 p5 p6 p11 p12 p13=>z2o_l0 p1 p4 p5 p6 p11 p12 p13 (kk [.u 3,.g 2,tI,tI,tI,tB] Kv)
def z2o_L1 (Kv:VW):Cur [tV,tQ,tI,tB,tL,tI,tI] WP->Cur [tV,tQ,tQ,tI,tL,tI,tI] WP:=fun N0 p1 p4 p8 p9 p11 p12 p13=>z2o_k1 p1 p4 p8 p9 p11 p12 p13 N0 (kk [.u 3,.g 2,tI,tI,tI,tB] Kv)
noncomputable def z2o_S:=sp [tL,tV] [.u 3,.g 2,tI,tI,tI,tB] z2o_sh
theorem z2o_ok:okP 157 z2o_S:=okR (x:=fun Kv=>qr 3 (qs (qr 3 (qb (A.loop [1,4,5,6,11,12,13] (uR0 [tV,tQ,tI,tB,tL,tI,tI] (z2o_L0 Kv)) (qr 1 (qs (qc ql ql) (qs (qb (qr 4 (qs (A.reg (qn 2 (RA.dyn (Value.tuple #[(Value.int .i64 0),(Value.bool false)]) (qn 5 RA.done)))) (qs (A.reg (qn 2 (RA.spl 24 (qn 3 (RA.spl 27 (qk 3 (qn 2 RA.done)) (qn 5 RA.done))) (qk 7 (qn 1 RA.done))))) (qc (A.cut [1,4,8,9,11,12,13] (uR1 [tV,tQ,tI,tB,tL,tI,tI] [tV,tQ,tQ,tI,tL,tI,tI] (z2o_L1 Kv)) (qe 5)) ql))))) (qe 2))))))) (qr 6 ql))) (Γ:=[]) trivial Tryz.call157 Tryz.func157 (fun Kv=>q07 (q0a (L:=z2o_L0 Kv) (fun N0 p1 p4 p5 p6 p11 p12 p13=>z2o_b0 p1 p4 p5 p6 p11 p12 p13 N0 (kk [.u 3,.g 2,tI,tI,tI,tB] Kv)) (fun⟨a0,a1,_,_,a4,a5,_,_⟩ _ h=>let ⟨I,μ,h0,hr⟩:=h.out; ⟨fun b0 b1 b2 b3 b4 b5 b6 w=>(b0=a0/\b1=a1/\b4=a4/\b5=a5/\True)/\I b2 b3 b6 w,fun _ _ b2 b3 _ _ b6 w=>μ b2 b3 b6 w,⟨⟨rfl,rfl,rfl,rfl,trivial⟩,h0⟩,fun⟨_,_,_,_,_,_,_,_⟩ _ ⟨⟨e0,e1,e4,e5,_⟩,hI⟩=>by cases e0; cases e1; cases e4; cases e5; exact hr _ _ _ _ hI⟩)) <| q07 (hK1 (F:=z2o_L1 Kv)) <| hEnd)
structure z0a_k0 (p4 zero_6:Addr)(K:Pw.T3)(w:World):Prop where
 out:lI w zero_6 fun x28=>lI w (zero_6.add 1) fun x29=>wrOk w p4/\
  (let w30:=w.setCell p4 (vI x28)
  wrOk w30 (p4.add 1)/\
  (let w31:=w30.setCell (p4.add 1) (vI x29)
  lI w31 p4 fun x32=>lI w31 (p4.add 1) fun x33=>K x32 x33 true w31))
structure z0a_k2 (p4 p8:Addr)(K:Pw.T3)(w:World):Prop where
 out:lI w p8 fun x103=>lI w (p8.add 1) fun x104=>wrOk w p4/\
  (let w105:=w.setCell p4 (vI x103)
  wrOk w105 (p4.add 1)/\
  (let w106:=w105.setCell (p4.add 1) (vI x104)
  lI w106 p4 fun x107=>lI w106 (p4.add 1) fun x108=>K x107 x108 true w106))
structure z0a_k3 (p4 zero_6:Addr)(K:Pw.T3)(w:World):Prop where
 out:lI w zero_6 fun x109=>lI w (zero_6.add 1) fun x110=>wrOk w p4/\
  (let w111:=w.setCell p4 (vI x109)
  wrOk w111 (p4.add 1)/\
  (let w112:=w111.setCell (p4.add 1) (vI x110)
  lI w112 p4 fun x113=>lI w112 (p4.add 1) fun x114=>K x113 x114 false w112))
structure z0a_k1 (p0:Option Addr)(p3 p4:Addr)(zero_6 p7 p8:Addr)(p9:Int)(p10:Bool)(K:Pw.T3)(w:World):Prop where
 out:lP w p7 fun x85 x86 x87 x88 x89=>lS w (p7.add 5) fun x90=>z0t_sh x85 x86 x87 x88 x89 x90 (fun r92 w91=>z3p_sh p9 r92 (fun r94 w93=>let w95:=w93.drew
  ∃ S96:World->Prop,S96 w95/\cnd p10
  (cnd (decide (r94<0))
  (z0a_k2 p4 p8 K w95)
  (cnd (r94 == 0)
  (mS S96 (p3.add 5) fun x97=>nz p0 fun a98=>mS S96 a98 fun x99=>mS S96 (p3.add 5) fun x100=>(0<=(0:Int)/\(0:Int)<=(x100.l:Int)/\(x100.l:Int)<=(x99.c:Nat))/\z34_sh x97 (Sl.mk (subP x99.p 0 x99.c 1) ((x100.l:Int).toNat-0) (x99.c-0)) (fun r102 w101=>S96 w101/\cnd (decide (r102>0))
  (z0a_k2 p4 p8 K w101)
  (z0a_k3 p4 zero_6 K w101)) w95)
  (z0a_k3 p4 zero_6 K w95)))
  (z0a_k3 p4 zero_6 K w95)) w91) w
def z0a_sd (p0:Option Addr)(p1_0 p1_1 p1_2:Sl)(p1_3 p1_4:Int)(p1_5:Sl)(K:Pw.T3)(w:World):Prop :=
 let w1:=w.alloc (.cells #[(vS p1_0),(vS p1_1),(vS p1_2),(vI p1_3),(vI p1_4),(vS p1_5)] 99)
 let w2:=w1.alloc (.cells #[(vI 0),(vI 0)] 31)
 z4j_sh 0 (fun r4_0 r4_1 w3=>let w5:=w3.alloc (.cells #[(vI 0),(vI 0)] 31)
 wrOk w5 (hA w3 0)/\
 (let w6:=w5.setCell (hA w3 0) (vI r4_0)
 wrOk w6 (hA w3 1)/\
 (let w7:=w6.setCell (hA w3 1) (vI r4_1)
 let w8:=w7.drew
 ∃ S9:World->Prop,S9 w8/\mS S9 (hA w 0) fun x10=>mS S9 (hA w 1) fun x11=>mS S9 (hA w 2) fun x12=>mI S9 (hA w 3) fun x13=>mI S9 (hA w 4) fun x14=>mS S9 (hA w 5) fun x15=>z0c_sh x10 x11 x12 x13 x14 x15 (fun r17 w16=>S9 w16/\cnd r17
 (z0a_k0 (hA w1 0) (hA w3 0) K w16)
 (mS S9 (hA w 0) fun x18=>mS S9 (hA w 1) fun x19=>mS S9 (hA w 2) fun x20=>mI S9 (hA w 3) fun x21=>mI S9 (hA w 4) fun x22=>mS S9 (hA w 5) fun x23=>nz p0 fun a24=>mI S9 (a24.add 8) fun x25=>z0q_sh x18 x19 x20 x21 x22 x23 (fun r27 w26=>S9 w26/\cnd (decide (r27>x25))
 (z0a_k0 (hA w1 0) (hA w3 0) K w26)
 (let w34:=w26.drew
 ∃ S35:World->Prop,S35 w34/\nz p0 fun a36=>mS S35 (a36.add 4) fun x37=>mS S35 (a36.add 5) fun x38=>mS S35 (a36.add 6) fun x39=>mI S35 (a36.add 7) fun x40=>mI S35 (a36.add 8) fun x41=>nz p0 fun a42=>∃ x43:Sl,(∀ w':World,S35 w'->w'.cell? a42=some (vS x43))/\let w44:=w34.alloc (.cells #[vN,vN,vN,(vI 0),(vI 0),vN] 99)
 S35 w44/\stN w44 (hA w34 0) [(vS x37),(vS x38),(vS x39),(vI x40),(vI x41),(vS x43)] fun w45=>let w46:=w45.drew
 ∃ S47:World->Prop,S47 w46/\mS S47 (hA w 0) fun x48=>mS S47 (hA w 1) fun x49=>mS S47 (hA w 2) fun x50=>mI S47 (hA w 3) fun x51=>mI S47 (hA w 4) fun x52=>mS S47 (hA w 5) fun x53=>mS S47 (hA w 0) fun x54=>mS S47 (hA w 1) fun x55=>mS S47 (hA w 2) fun x56=>mI S47 (hA w 3) fun x57=>mI S47 (hA w 4) fun x58=>mS S47 (hA w 5) fun x59=>(z0p_sh x48 x49 x50 x51 x52 x53 (fun r61 w60=>S47 w60/\(z2o_sh r61 (Value.func (.func 159) #[(Value.agg #[(vS x54),(vS x55),(vS x56),(vI x57),(vI x58),(vS x59)])] #[]) (fun r63_0 r63_1 r64 r65 w62=>S47 w62/\let w66:=w62.alloc (.cells #[(vI 0),(vI 0)] 31)
 S47 w66/\wrOk w66 (hA w62 0)/\
 (let w67:=w66.setCell (hA w62 0) (vI r63_0)
 wrOk w67 (hA w62 1)/\
 (let w68:=w67.setCell (hA w62 1) (vI r63_1)
 z0a_k1 p0 (hA w 0) (hA w1 0) (hA w3 0) (hA w34 0) (hA w62 0) r64 r65 K w68))) w60)
/\(let w69:=w60.alloc (.cells #[(vI 0),(vI 0)] 31)
 S47 w69/\z2o_sh r61 (Value.func (.func 159) #[(Value.agg #[(vS x54),(vS x55),(vS x56),(vI x57),(vI x58),(vS x59)])] #[]) (fun r71_0 r71_1 r72 r73 w70=>S47 w70/\wrOk w70 (hA w60 0)/\
 (let w74:=w70.setCell (hA w60 0) (vI r71_0)
 wrOk w74 (hA w60 1)/\
 (let w75:=w74.setCell (hA w60 1) (vI r71_1)
 z0a_k1 p0 (hA w 0) (hA w1 0) (hA w3 0) (hA w34 0) (hA w60 0) r72 r73 K w75))) w69)) w46)
/\(let w76:=w46.alloc (.cells #[(vI 0),(vI 0)] 31)
 S47 w76/\z0p_sh x48 x49 x50 x51 x52 x53 (fun r78 w77=>S47 w77/\z2o_sh r78 (Value.func (.func 159) #[(Value.agg #[(vS x54),(vS x55),(vS x56),(vI x57),(vI x58),(vS x59)])] #[]) (fun r80_0 r80_1 r81 r82 w79=>S47 w79/\wrOk w79 (hA w46 0)/\
 (let w83:=w79.setCell (hA w46 0) (vI r80_0)
 wrOk w83 (hA w46 1)/\
 (let w84:=w83.setCell (hA w46 1) (vI r80_1)
 z0a_k1 p0 (hA w 0) (hA w1 0) (hA w3 0) (hA w34 0) (hA w46 0) r81 r82 K w84))) w77) w76))) w16)) w8))) w2
structure z0a_sh (p0:Option Addr)(p1_0 p1_1 p1_2:Sl)(p1_3 p1_4:Int)(p1_5:Sl)(K:Pw.T3)(w:World):Prop where
 out:z0a_sd p0 p1_0 p1_1 p1_2 p1_3 p1_4 p1_5 K w
def z0a_L0 (Kv:VW):Cur [tQ,tQ] WP:=fun p4 zero_6=>z0a_k0 p4 zero_6 (kk [.u 2,.g 2,tI,tI,tB] Kv)
def z0a_L1 (Kv:VW):Cur [tP,tQ,tQ,tQ,tQ,tQ,tI,tB] WP:=fun p0 p3 p4 zero_6 p7 p8 p9 p10=>z0a_k1 p0 p3 p4 zero_6 p7 p8 p9 p10 (kk [.u 2,.g 2,tI,tI,tB] Kv)
def z0a_L2 (Kv:VW):Cur [tQ,tQ] WP:=fun p4 p8=>z0a_k2 p4 p8 (kk [.u 2,.g 2,tI,tI,tB] Kv)
def z0a_L3 (Kv:VW):Cur [tQ,tQ] WP:=fun p4 zero_6=>z0a_k3 p4 zero_6 (kk [.u 2,.g 2,tI,tI,tB] Kv)
noncomputable def z0a_S:=sp [tP,.g 6,tL,tL,tL,tI,tI,tL] [.u 2,.g 2,tI,tI,tB] z0a_sh
theorem z0a_ok:q3e Tryz.prog 111 z0a_S:=okS (x:=fun Kv=>qr 3 (qr 3 (qs (qs (A.drw (DA.pur 0 (DA.eff 1 (DA.pur 2 (DA.spl 15 (DA.skp 3 (DA.skp 5 (DA.skp 6 (DA.skp 7 (DA.skp 8 (DA.skp 9 (DA.skp 4 (DA.skp 10 (DA.pur 11 DA.done))))))))) (dp [3,5,6,7,8,9] (DA.eff 4 (dp [10,11] DA.done)))))))) (qc (A.cut [4,6] (uR0 [tQ,tQ] (z0a_L0 Kv)) (qr 3 ql)) ql)) (qs (A.drw (dp [0,1,2,3,4,5,6,7,8,9] (DA.eff 10 (DA.eff 11 DA.done)))) (qs (A.drw (dp [0,2,3] (DA.two 1 (DA.two 4 (dp [5,6,7,8] (DA.eff 9 (DA.eff 10 (dp [11,12] DA.done)))) 9 (DA.eff 4 (dp [5,6,7,8] (DA.eff 10 (dp [11,12] DA.done))))) 9 (DA.eff 1 (DA.eff 4 (dp [5,6,7,8] (DA.eff 10 (dp [11,12] DA.done)))))))) (A.cut [0,3,4,6,7,8,9,10] (uR0 [tP,tQ,tQ,tQ,tQ,tQ,tI,tB] (z0a_L1 Kv)) (qs (qr 5 (qs (A.drw (dp [0,1] (DA.spl 50 (dp [2,3,4] (DA.spl 53 (DA.skp 5 (DA.skp 6 (DA.skp 7 (DA.skp 8 (DA.skp 9 (DA.skp 10 (DA.skp 11 (DA.skp 12 (DA.skp 13 (DA.skp 14 (DA.skp 15 (DA.skp 16 (DA.skp 17 (DA.skp 18 (DA.skp 19 (DA.skp 20 (DA.skp 21 (dp [22,23] DA.done)))))))))))))))))) (dp [5,6,7] (DA.spl 56 (dp [8,9,10,11,12,13,14,15,16,17,18] (DA.eff 19 (dp [20,21,22,23] DA.done))) (DA.skp 8 (DA.skp 9 (DA.skp 10 (DA.skp 11 (DA.skp 12 (DA.skp 13 (DA.skp 14 (DA.skp 15 (DA.skp 16 (DA.skp 17 (DA.skp 18 (DA.skp 19 (DA.skp 20 (dp [21,22,23] DA.done)))))))))))))))))) (DA.skp 2 (DA.skp 3 (DA.skp 4 (DA.skp 5 (DA.skp 6 (DA.skp 7 (DA.skp 8 (DA.skp 9 (DA.skp 10 (DA.skp 11 (DA.skp 12 (DA.skp 13 (DA.skp 14 (DA.skp 15 (DA.skp 16 (DA.skp 17 (DA.skp 18 (DA.skp 19 (DA.skp 20 (DA.skp 21 (DA.skp 22 (DA.pur 23 DA.done))))))))))))))))))))))))) (qc (A.cut [4,8] (uR0 [tQ,tQ] (z0a_L2 Kv)) (qr 3 ql)) ql))) (A.cut [4,6] (uR0 [tQ,tQ] (z0a_L3 Kv)) (qr 3 ql))))))))) (fun Kv p0 p1_0 p1_1 p1_2 p1_3 p1_4 p1_5=>z0a_sd p0 p1_0 p1_1 p1_2 p1_3 p1_4 p1_5 (kk [.u 2,.g 2,tI,tI,tB] Kv)) progMixed (Γ:=[(75,z4j_S),(92,z34_S),(127,z3p_S),(155,z0c_S),(156,z0q_S),(157,z2o_S),(158,z0p_S),(160,z0t_S)]) ⟨.inl z4j_ok,.inl z34_ok,.inl z3p_ok,.inl z0c_ok,.inl z0q_ok,.inl z2o_ok,.inl z0p_ok,.inl z0t_ok,trivial⟩ Tryz.call111 Tryz.func111 (fun Kv=>q07 (hK0 (F:=z0a_L0 Kv)) <| q07 (hK0 (F:=z0a_L1 Kv)) <| q07 (hK0 (F:=z0a_L2 Kv)) <| q07 (hK0 (F:=z0a_L3 Kv)) <| hEnd)
def z0d_b0 (p0:Option Addr)(p1:Int)(p5 p13:Sl)(p14 p15:Int)(N0:Option Addr->Int->Sl->Sl->Int->Int->World->Prop)(K:Pw.T4)(w:World):Prop :=
 cnd (decide (p15<p14))
 (nz p13.p fun a4=>(0<=p15/\p15<(p13.l:Nat))/\lI w (a4.add (p15.toNat*4)) fun x5=>∃ x6:Int,w.cell? ((a4.add (p15.toNat*4)).add 1)=some (vI x6)/\∃ x7:Int,w.cell? ((a4.add (p15.toNat*4)).add 2)=some (vI x7)/\∃ x8:Int,w.cell? ((a4.add (p15.toNat*4)).add 3)=some (vI x8)/\let w9:=w.alloc (.cells #[(vI 0),(vI 0),(vI 0),(vI 0)] 57)
 stN w9 (hA w 0) [(vI x5),(vI x6),(vI x7),(vI x8)] fun w10=>let w11:=w10.drew
 lI w11 (hA w 0) fun x12=>nz p0 fun a13=>lS w11 (a13.add 4) fun x14=>nz x14.p fun a15=>(0<=p1/\p1<(x14.l:Nat))/\lI w11 (a15.add (p1.toNat*1)) fun x16=>cnd (x12 == x16)
 (let w17:=w11.alloc (.cells #[(vI p15)] 3)
 apS 1 8 [(vI 0)] 3 p5 (Sl.mk (some (hA w11 0)) 1 1) w17 fun s18 w19=>inR .i64 (p15+1)/\N0 p0 p1 s18 p13 p14 (p15+1) w19)
 (inR .i64 (p15+1)/\N0 p0 p1 p5 p13 p14 (p15+1) w11))
 (K p5 w)
structure z0d_l0 (p0:Option Addr)(p1:Int)(p5 p13:Sl)(p14 p15:Int)(K:Pw.T4)(w:World):Prop where
 out:∃ (I:Sl->Int->World->Prop) (μ:Sl->Int->World->Nat),I p5 p15 w/\∀ (p51:Sl) (p151:Int) (w1:World),I p51 p151 w1 ->
  z0d_b0 p0 p1 p51 p13 p14 p151 (fun p0' p1' p5' p13' p14' p15' w'=>((p0'=p0/\p1'=p1/\p13'=p13/\p14'=p14/\True)/\I p5' p15' w')/\μ p5' p15' w'<μ p51 p151 w1) K w1
structure z0d_sh (p0:Option Addr)(p1:Int)(K:Pw.T4)(w:World):Prop where
 out:let w1:=w.alloc (.cells #[(vI (-1))] 3)
  nz p0 fun a2=>lS w1 (a2.add 5) fun x3=>z0d_l0 p0 p1 (Sl.mk (some (hA w 0)) 1 1) x3 (x3.l:Int) 0 K w1
def z0d_L0 (Kv:VW):Cur [tP,tI,tL,tL,tI,tI] WP:=fun p0 p1 p5 p13 p14 p15=>z0d_l0 p0 p1 p5 p13 p14 p15 (kk [tL] Kv)
noncomputable def z0d_S:=sp [tP,tI] [tL] z0d_sh
theorem z0d_ok:okP 55 z0d_S:=okR (x:=fun Kv=>qr 1 (qr 2 (qs (qr 7 (qb (A.loop [0,1,5,13,14,15] (uR0 [tP,tI,tL,tL,tI,tI] (z0d_L0 Kv)) (qr 1 (qs (qc ql ql) (qs (qb (qr 6 (qs (A.drp (dp [0,1,2,3,4,5,6,7,8,9,10] DA.done)) (qc (qe 5) ql)))) (qe 2))))))) (qr 2 ql)))) (Γ:=[]) trivial Tryz.call55 Tryz.func55 (fun Kv=>q07 (q0a (L:=z0d_L0 Kv) (fun N0 p0 p1 p5 p13 p14 p15=>z0d_b0 p0 p1 p5 p13 p14 p15 N0 (kk [tL] Kv)) (fun⟨a0,a1,_,a3,a4,_,_⟩ _ h=>let ⟨I,μ,h0,hr⟩:=h.out; ⟨fun b0 b1 b2 b3 b4 b5 w=>(b0=a0/\b1=a1/\b3=a3/\b4=a4/\True)/\I b2 b5 w,fun _ _ b2 _ _ b5 w=>μ b2 b5 w,⟨⟨rfl,rfl,rfl,rfl,trivial⟩,h0⟩,fun⟨_,_,_,_,_,_,_⟩ _ ⟨⟨e0,e1,e3,e4,_⟩,hI⟩=>by cases e0; cases e1; cases e3; cases e4; exact hr _ _ _ hI⟩)) <| hEnd)
end Go.Proofs.YtfpobpjandjhjaaGreatDoor
