/- The bodies' formulas, by program. -/
import Derived.Test.YtipjnbbfnlfmjaaGreatDoorTE1
set_option maxRecDepth 20000
namespace Go.Proofs.YtipjnbbfnlfmjaaGreatDoor
open Go Pw
structure z1k_sh (p0_0 p0_1:Int)(p1:Addr)(K:Pw.Y0)(w:World):Prop where
 out:let w1:=w.alloc (.cells #[(vI p0_0),(vI p0_1)] 49)
  lI w1 (hA w 0) fun x2=>lI w1 p1 fun x3=>K (x2 == x3) w1
def z1k_S:=sp [.g 2,tI,tI,tQ] [tB] z1k_sh
theorem z1k_ok:okP 46 z1k_S:=okR (x:=fun _=>qr 2 (qr 5 ql)) (Γ:=[]) trivial Tryz.call46 Tryz.func46 (fun _=>hEnd)
def z22_b0 (p4:Addr)(p8:Sl)(p9 p10:Nat)(p20:Sl)(p21 p22:Int)(N0:Addr->Sl->Nat->Nat->Sl->Int->Int->World->Prop)(K:Pw.Y8)(w:World):Prop :=
 cnd (decide (p22<p21))
 (nz p20.p fun a8=>(0<=p22/\p22<(p20.l:Nat))/\lI w (a8.add (p22.toNat*5)) fun x9=>∃ x10:Int,w.cell? ((a8.add (p22.toNat*5)).add 1)=some (vI x10)/\∃ x11:Int,w.cell? ((a8.add (p22.toNat*5)).add 2)=some (vI x11)/\∃ x12:Int,w.cell? ((a8.add (p22.toNat*5)).add 3)=some (vI x12)/\∃ x13:Sl,w.cell? ((a8.add (p22.toNat*5)).add 4)=some (vS x13)/\let w14:=w.alloc (.cells #[(vI 0),(vI 0),(vI 0),(vI 0),vN] 54)
 stN w14 (hA w 0) [(vI x9),(vI x10),(vI x11),(vI x12),(vS x13)] fun w15=>lI w15 (hA w 1) fun x16=>lI w15 p4 fun x17=>cnd (x16 == x17)
 (lI w15 (hA w 0) fun x18=>lI w15 (hA w 1) fun x19=>lI w15 (hA w 2) fun x20=>lI w15 (hA w 3) fun x21=>∃ x22:Sl,w15.cell? (hA w 4)=some (vS x22)/\let w23:=w15.alloc (.cells #[(vI x18),(vI x19),(vI x20),(vI x21),(vS x22)] 54)
 apS 5 56 [(vI 0),(vI 0),(vI 0),(vI 0),vN] 54 p8 (Sl.mk (some (hA w15 0)) 1 1) w23 fun s24 w25=>let w26:=w25.drew
 ∃ S27:World->Prop,S27 w26/\mI S27 (hA w 0) fun x28=>mI S27 (hA w 2) fun x29=>(∃ l:List (Int × Value),Mp w26 p9 .i64 l)/\let w30:=w26.mset p9 .i64 x28 (.bool true)
 S27 w30/\(∃ l:List (Int × Value),Mp w30 p10 .i64 l)/\let w31:=w30.mset p10 .i64 x29 (.bool true)
 inR .i64 (p22+1)/\N0 p4 s24 p9 p10 p20 p21 (p22+1) w31)
 (inR .i64 (p22+1)/\N0 p4 p8 p9 p10 p20 p21 (p22+1) w15))
 (cnd (decide ((p8.l:Int)>40))
 (K (Sl.mk none 0 0) 2 w)
 (∃ c32:Nat,Ml w p9 c32/\cnd (decide ((c32:Int)<(p8.l:Int)))
 (K (Sl.mk none 0 0) 33 w)
 (∃ c33:Nat,Ml w p10 c33/\cnd (decide ((c33:Int)<(p8.l:Int)))
 (K (Sl.mk none 0 0) 33 w)
 (K p8 0 w))))
structure z22_l0 (p4:Addr)(p8:Sl)(p9 p10:Nat)(p20:Sl)(p21 p22:Int)(K:Pw.Y8)(w:World):Prop where
 out:∃ (I:Sl->Int->World->Prop) (μ:Sl->Int->World->Nat),I p8 p22 w/\∀ (p81:Sl) (p221:Int) (w1:World),I p81 p221 w1 ->
  z22_b0 p4 p81 p9 p10 p20 p21 p221 (fun p4' p8' p9' p10' p20' p21' p22' w'=>((p4'=p4/\p9'=p9/\p10'=p10/\p20'=p20/\p21'=p21/\True)/\I p8' p22' w')/\μ p8' p22' w'<μ p81 p221 w1) K w1
structure z22_sh (p0:T43)(p1:Int)(p2:Sl)(K:Pw.Y8)(w:World):Prop where
 out:let w1:=w.alloc (.cells (T43.cs p0).toArray 43)
  let w2:=w1.alloc (.cells #[(vI p1)] 3)
  lS w2 (hA w 1) fun x3=>z04_sh x3 (Value.func (.func 46) #[] #[(.pointer (some (hA w1 0)))]) (fun r5 w4=>cnd (!r5)
  (K (Sl.mk none 0 0) 34 w4)
  (let w6:=w4.alloc (Obj.map #[] 0)
  let w7:=w6.alloc (Obj.map #[] 0)
  z22_l0 (hA w1 0) (Sl.mk none 0 0) w4.heap.size w6.heap.size p2 (p2.l:Int) 0 K w7)) w2
def z22_L0 (Kv:VW):Cur [tQ,tL,tN,tN,tL,tI,tI] WP:=fun p4 p8 p9 p10 p20 p21 p22=>z22_l0 p4 p8 p9 p10 p20 p21 p22 (kk [.u 2,tL,tI] Kv)
def z22_S:=sp (g43 [tI,tL]) [.u 2,tL,tI] (T43.c fun p0=>fun p1 p2=>z22_sh p0 p1 p2)
theorem z22_ok:okP 23 z22_S:=okR (x:=fun Kv=>qr 4 (qs (qr 5 (qc (qr 2 ql) ql)) (qr 1 (qr 4 (qs (qr 3 (qb (A.loop [4,8,9,10,20,21,22] (uR0 [tQ,tL,tN,tN,tL,tI,tI] (z22_L0 Kv)) (qr 1 (qs (qc ql ql) (qs (qb (qr 4 (qr 4 (qc (qr 5 (A.drw (dp [0,1,2,3,4,5] (DA.eff 6 (DA.eff 7 DA.done))))) ql)))) (qe 2))))))) (qs (qb (qr 4 (qc (qr 2 ql) (qs (A.reg (qn 6 (RA.spl 51 (qk 5 (qn 2 RA.done)) (qn 7 RA.done)))) (qc (qr 2 ql) ql))))) (qr 3 ql))))))) (Γ:=[(45,z04_S)]) ⟨.inl z04_ok,trivial⟩ Tryz.call23 Tryz.func23 (fun Kv=>q08 (q0c (L:=z22_L0 Kv) (fun N0 p4 p8 p9 p10 p20 p21 p22=>z22_b0 p4 p8 p9 p10 p20 p21 p22 N0 (kk [.u 2,tL,tI] Kv)) (fun⟨a0,_,a2,a3,a4,a5,_,_⟩ _ h=>let ⟨I,μ,h0,hr⟩:=h.out; ⟨fun b0 b1 b2 b3 b4 b5 b6 w=>(b0=a0/\b2=a2/\b3=a3/\b4=a4/\b5=a5/\True)/\I b1 b6 w,fun _ b1 _ _ _ _ b6 w=>μ b1 b6 w,⟨⟨rfl,rfl,rfl,rfl,rfl,trivial⟩,h0⟩,fun⟨_,_,_,_,_,_,_,_⟩ _ ⟨⟨e0,e2,e3,e4,e5,_⟩,hI⟩=>by cases e0; cases e2; cases e3; cases e4; cases e5; exact hr _ _ _ hI⟩)) <| hEnd)
structure z2w_sh (p0_0 p0_1:Int)(p0_2 p0_3:Int)(p0_4:Sl)(p1_0 p1_1:Int)(p1_2 p1_3:Int)(p1_4:Sl)(K:Pw.Y1)(w:World):Prop where
 out:let w1:=w.alloc (.cells #[(vI p0_0),(vI p0_1),(vI p0_2),(vI p0_3),(vS p0_4)] 54)
  let w2:=w1.alloc (.cells #[(vI p1_0),(vI p1_1),(vI p1_2),(vI p1_3),(vS p1_4)] 54)
  lI w2 (hA w1 3) fun x3=>lI w2 (hA w 3) fun x4=>z2g_sh x3 x4 (fun r6 w5=>K r6 w5) w2
def z2w_S:=sp [.g 5,tI,tI,tI,tI,tL,.g 5,tI,tI,tI,tI,tL] [tI] z2w_sh
theorem z2w_ok:okP 158 z2w_S:=okR (x:=fun _=>qr 3 (qr 6 ql)) (Γ:=[(155,z2g_S)]) ⟨.inl z2g_ok,trivial⟩ Tryz.call158 Tryz.func158 (fun _=>hEnd)
structure z2x_sh (p0_0:ByteArray)(p0_1 p0_2 p0_3:Int)(p0_4:Bool)(p1:Addr)(K:Pw.Y0)(w:World):Prop where
 out:let w1:=w.alloc (.cells #[(vT p0_0),(vI p0_1),(vI p0_2),(vI p0_3),(.bool p0_4)] 56)
  lT w1 (hA w 0) fun x2=>lT w1 p1 fun x3=>K (decide (x2=x3)) w1
def z2x_S:=sp [.g 5,tS,tI,tI,tI,tB,tQ] [tB] z2x_sh
theorem z2x_ok:okP 159 z2x_S:=okR (x:=fun _=>qr 2 (qr 5 ql)) (Γ:=[]) trivial Tryz.call159 Tryz.func159 (fun _=>hEnd)
structure z2y_sh (p0_0 p0_1:Int)(p0_2 p0_3:Int)(p0_4:Sl)(p1_0 p1_1:Int)(p1_2 p1_3:Int)(p1_4:Sl)(K:Pw.Y1)(w:World):Prop where
 out:let w1:=w.alloc (.cells #[(vI p0_0),(vI p0_1),(vI p0_2),(vI p0_3),(vS p0_4)] 54)
  let w2:=w1.alloc (.cells #[(vI p1_0),(vI p1_1),(vI p1_2),(vI p1_3),(vS p1_4)] 54)
  K 0 w2
def z2y_S:=sp [.g 5,tI,tI,tI,tI,tL,.g 5,tI,tI,tI,tI,tL] [tI] z2y_sh
theorem z2y_ok:okP 160 z2y_S:=okR (x:=fun _=>qr 3 (qr 1 ql)) (Γ:=[]) trivial Tryz.call160 Tryz.func160 (fun _=>hEnd)
structure z23_sh (p0_0:ByteArray)(p0_1:Int)(p1:Addr)(K:Pw.Y0)(w:World):Prop where
 out:let w1:=w.alloc (.cells #[(vT p0_0),(vI p0_1)] 58)
  lT w1 (hA w 0) fun x2=>lT w1 p1 fun x3=>K (decide (x2=x3)) w1
def z23_S:=sp [.g 2,tS,tI,tQ] [tB] z23_sh
theorem z23_ok:okP 230 z23_S:=okR (x:=fun _=>qr 2 (qr 5 ql)) (Γ:=[]) trivial Tryz.call230 Tryz.func230 (fun _=>hEnd)
structure z30_sh (p0_0 p0_1:Int)(p0_2 p0_3:Int)(p0_4:Sl)(p1:ByteArray)(K:Pw.Y19)(w:World):Prop where
 out:let w1:=w.alloc (.cells #[(vI p0_0),(vI p0_1),(vI p0_2),(vI p0_3),(vS p0_4)] 54)
  let w2:=w1.alloc (.cells #[(vT p1)] 9)
  lS w2 (hA w 4) fun x3=>z05_sh x3 (Value.func (.func 230) #[] #[(.pointer (some (hA w1 0)))]) (fun r5 w4=>cnd (decide (r5<0))
  (K 0 false w4)
  (lS w4 (hA w 4) fun x6=>nz x6.p fun a7=>(0<=r5/\r5<(x6.l:Nat))/\∃ x8:Int,w4.cell? ((a7.add (r5.toNat*2)).add 1)=some (vI x8)/\K x8 true w4)) w2
def z30_S:=sp [.g 5,tI,tI,tI,tI,tL,tS] [.u 2,tI,tB] z30_sh
theorem z30_ok:okP 162 z30_S:=okR (x:=fun _=>qr 4 (qr 5 (qs (qr 2 (qc (qr 2 ql) ql)) (qr 8 ql)))) (Γ:=[(143,z05_S)]) ⟨.inl z05_ok,trivial⟩ Tryz.call162 Tryz.func162 (fun _=>hEnd)
structure z2z_sh (p0_0 p0_1:Int)(p0_2 p0_3:Int)(p0_4:Sl)(p1_0 p1_1:Int)(p1_2 p1_3:Int)(p1_4:Sl)(p2 p3:Addr)(K:Pw.Y1)(w:World):Prop where
 out:let w1:=w.alloc (.cells #[(vI p0_0),(vI p0_1),(vI p0_2),(vI p0_3),(vS p0_4)] 54)
  let w2:=w1.alloc (.cells #[(vI p1_0),(vI p1_1),(vI p1_2),(vI p1_3),(vS p1_4)] 54)
  lI w2 (hA w 0) fun x3=>lI w2 (hA w 1) fun x4=>lI w2 (hA w 2) fun x5=>lI w2 (hA w 3) fun x6=>lS w2 (hA w 4) fun x7=>lT w2 p2 fun x8=>z30_sh x3 x4 x5 x6 x7 x8 (fun r10 r11 w9=>lI w9 (hA w1 0) fun x12=>lI w9 (hA w1 1) fun x13=>lI w9 (hA w1 2) fun x14=>lI w9 (hA w1 3) fun x15=>lS w9 (hA w1 4) fun x16=>lT w9 p2 fun x17=>z30_sh x12 x13 x14 x15 x16 x17 (fun r19 r20 w18=>cnd r11
  (cnd r20
  (let w21:=w18.drew
  ∃ S22:World->Prop,S22 w21/\mI S22 p3 fun x23=>z2g_sh r10 r19 (fun r25 w24=>S22 w24/\inR .i64 (x23*r25)/\K (x23*r25) w24) w21)
  (K 0 w18))
  (K 0 w18)) w9) w2
def z2z_S:=sp [.g 5,tI,tI,tI,tI,tL,.g 5,tI,tI,tI,tI,tL,tQ,tQ] [tI] z2z_sh
theorem z2z_ok:okP 161 z2z_S:=okR (x:=fun _=>qr 3 (qr 8 (qr 8 (qs (qs (A.reg (qn 2 (RA.spl 24 (qn 2 RA.done) (qk 1 (qn 1 RA.done))))) (qc (A.drw (dp [0,1,2] (DA.eff 3 (dp [4,5] DA.done)))) ql)) (qr 2 ql))))) (Γ:=[(155,z2g_S),(162,z30_S)]) ⟨.inl z2g_ok,.inl z30_ok,trivial⟩ Tryz.call161 Tryz.func161 (fun _=>hEnd)
structure z3z_k0 (p3 p6:Addr)(K:Pw.Y24)(w:World):Prop where
 out:K (Value.func (.func 161) #[] #[(.pointer (some p3)),(.pointer (some p6))]) w
structure z3z_sh (p0:T43)(p1:ByteArray)(K:Pw.Y24)(w:World):Prop where
 out:let w1:=w.alloc (.cells (T43.cs p0).toArray 43)
  let w2:=w1.alloc (.cells #[(vT p1)] 9)
  lT w2 (hA w1 0) fun x3=>cnd (decide (x3=(str [112,114,105,99,101])))
  (K (Value.func (.func 158) #[] #[]) w2)
  (lS w2 (hA w 2) fun x4=>z02_sh x4 (Value.func (.func 159) #[] #[(.pointer (some (hA w1 0)))]) (fun r6 w5=>cnd (decide (r6<0))
  (K (Value.func (.func 160) #[] #[]) w5)
  (let w7:=w5.alloc (.cells #[(vI 0)] 3)
  wrOk w7 (hA w5 0)/\
  (let w8:=w7.setCell (hA w5 0) (vI 1)
  lS w8 (hA w 2) fun x9=>nz x9.p fun a10=>(0<=r6/\r6<(x9.l:Nat))/\∃ x11:Bool,w8.cell? ((a10.add (r6.toNat*5)).add 4)=some (.bool x11)/\cnd x11
  (wrOk w8 (hA w5 0)/\
  (let w12:=w8.setCell (hA w5 0) (vI (-1))
  z3z_k0 (hA w1 0) (hA w5 0) K w12))
  (z3z_k0 (hA w1 0) (hA w5 0) K w8)))) w2)
def z3z_L0 (Kv:VW):Cur [tQ,tQ] WP:=fun p3 p6=>z3z_k0 p3 p6 (kk [tV] Kv)
def z3z_S:=sp (g43 [tS]) [tV] (T43.c fun p0=>fun p1=>z3z_sh p0 p1)
theorem z3z_ok:okP 100 z3z_S:=okR (x:=fun Kv=>qr 3 (qs (qr 2 (qc (qr 1 ql) ql)) (qr 5 (qs (qr 2 (qc (qr 1 ql) ql)) (qr 2 (qs (qr 6 (qc (qe 1) ql)) (A.cut [3,6] (uR0 [tQ,tQ] (z3z_L0 Kv)) (qr 2 ql)))))))) (Γ:=[(85,z02_S)]) ⟨.inl z02_ok,trivial⟩ Tryz.call100 Tryz.func100 (fun Kv=>q08 (hK0 (F:=z3z_L0 Kv)) <| hEnd)
def z2a_b0 (p5 p6 p7:Addr)(p23:Sl)(p24 p25:Int)(N0:Pw.Y17)(K:Pw.Y0)(w:World):Prop :=
 cnd (decide (p25<p24))
 (nz p23.p fun a13=>(0<=p25/\p25<(p23.l:Nat))/\∃ x14:ByteArray,w.cell? (a13.add (p25.toNat*1))=some (vT x14)/\let w15:=w.drew
 ∃ S16:World->Prop,S16 w15/\T43.lds S16 p5 fun x17=>mI S16 p6 fun x18=>mI S16 (p6.add 1) fun x19=>mI S16 (p6.add 2) fun x20=>mI S16 (p6.add 3) fun x21=>mS S16 (p6.add 4) fun x22=>mI S16 p7 fun x23=>mI S16 (p7.add 1) fun x24=>mI S16 (p7.add 2) fun x25=>mI S16 (p7.add 3) fun x26=>mS S16 (p7.add 4) fun x27=>z3z_sh x17 x14 (fun r29 w28=>S16 w28/\q14 Tryz.prog r29 [(Value.agg #[(vI x18),(vI x19),(vI x20),(vI x21),(vS x22)]),(Value.agg #[(vI x23),(vI x24),(vI x25),(vI x26),(vS x27)])] w28 fun u30 w31=>∃ x32:Int,u30=(vI x32)/\S16 w31/\cnd (x32 != 0)
 (K (decide (x32>0)) w31)
 (inR .i64 (p25+1)/\N0 p5 p6 p7 p23 p24 (p25+1) w31)) w15)
 (lI w (p6.add 2) fun x33=>lI w (p7.add 2) fun x34=>K (decide (x33<x34)) w)
structure z2a_l0 (p5 p6 p7:Addr)(p23:Sl)(p24 p25:Int)(K:Pw.Y0)(w:World):Prop where
 out:∃ (I:Int->World->Prop) (μ:Int->World->Nat),I p25 w/\∀ (p251:Int) (w1:World),I p251 w1 ->
  z2a_b0 p5 p6 p7 p23 p24 p251 (fun p5' p6' p7' p23' p24' p25' w'=>((p5'=p5/\p6'=p6/\p7'=p7/\p23'=p23/\p24'=p24/\True)/\I p25' w')/\μ p25' w'<μ p251 w1) K w1
structure z2a_sh (p0:T43)(p1_0 p1_1:Int)(p1_2 p1_3:Int)(p1_4:Sl)(p2_0 p2_1:Int)(p2_2 p2_3:Int)(p2_4:Sl)(p3_0 p3_1:Int)(p4_0 p4_1:Int)(K:Pw.Y0)(w:World):Prop where
 out:let w1:=w.alloc (.cells (T43.cs p0).toArray 43)
  let w2:=w1.alloc (.cells #[(vI p1_0),(vI p1_1),(vI p1_2),(vI p1_3),(vS p1_4)] 54)
  let w3:=w2.alloc (.cells #[(vI p2_0),(vI p2_1),(vI p2_2),(vI p2_3),(vS p2_4)] 54)
  let w4:=w3.alloc (.cells #[(vI p3_0),(vI p3_1)] 35)
  let w5:=w4.alloc (.cells #[(vI p4_0),(vI p4_1)] 35)
  lI w5 (hA w3 0) fun x6=>lI w5 (hA w3 1) fun x7=>lI w5 (hA w4 0) fun x8=>lI w5 (hA w4 1) fun x9=>z3s_sh x6 x7 x8 x9 (fun r11 w10=>cnd (r11 != 0)
  (K (decide (r11>0)) w10)
  (lS w10 (hA w 11) fun x12=>z2a_l0 (hA w 0) (hA w1 0) (hA w2 0) x12 (x12.l:Int) 0 K w10)) w5
def z2a_L0 (Kv:VW):Cur [tQ,tQ,tQ,tL,tI,tI] WP:=fun p5 p6 p7 p23 p24 p25=>z2a_l0 p5 p6 p7 p23 p24 p25 (kk [tB] Kv)
def z2a_S:=sp (g43 [.g 5,tI,tI,tI,tI,tL,.g 5,tI,tI,tI,tI,tL,.g 2,tI,tI,.g 2,tI,tI]) [tB] (T43.c fun p0=>fun p1_0 p1_1 p1_2 p1_3 p1_4 p2_0 p2_1 p2_2 p2_3 p2_4 p3_0 p3_1 p4_0 p4_1=>z2a_sh p0 p1_0 p1_1 p1_2 p1_3 p1_4 p2_0 p2_1 p2_2 p2_3 p2_4 p3_0 p3_1 p4_0 p4_1)
theorem z2a_ok:okP 55 z2a_S:=okR (x:=fun Kv=>qr 6 (qs (qr 4 (qr 2 (qc (qr 3 ql) ql))) (qs (qr 4 (qb (A.loop [5,6,7,23,24,25] (uR0 [tQ,tQ,tQ,tL,tI,tI] (z2a_L0 Kv)) (qr 1 (qs (qc ql ql) (qs (qb (qr 3 (qs (A.drw (dp [0,1,3,4] (DA.eff 2 (DA.dyn 5 (Value.int .i64 0) (DA.pur 6 DA.done))))) (qr 2 (qc (qr 3 ql) ql))))) (qe 2))))))) (qr 6 ql)))) (Γ:=[(99,z3s_S),(100,z3z_S)]) ⟨.inl z3s_ok,.inl z3z_ok,trivial⟩ Tryz.call55 Tryz.func55 (fun Kv=>q08 (q0c (L:=z2a_L0 Kv) (fun N0 p5 p6 p7 p23 p24 p25=>z2a_b0 p5 p6 p7 p23 p24 p25 N0 (kk [tB] Kv)) (fun⟨a0,a1,a2,a3,a4,_,_⟩ _ h=>let ⟨I,μ,h0,hr⟩:=h.out; ⟨fun b0 b1 b2 b3 b4 b5 w=>(b0=a0/\b1=a1/\b2=a2/\b3=a3/\b4=a4/\True)/\I b5 w,fun _ _ _ _ _ b5 w=>μ b5 w,⟨⟨rfl,rfl,rfl,rfl,rfl,trivial⟩,h0⟩,fun⟨_,_,_,_,_,_,_⟩ _ ⟨⟨e0,e1,e2,e3,e4,_⟩,hI⟩=>by cases e0; cases e1; cases e2; cases e3; cases e4; exact hr _ _ hI⟩)) <| hEnd)
structure z0e_sh (p0_0:ByteArray)(p0_1 p0_2 p0_3:Sl)(p0_4 p0_5:Int)(p0_6:ByteArray)(p0_7 p0_8:Int)(p0_9:ByteArray)(p0_10 p0_11:Sl)(p0_12:Int)(p0_13:Sl)(p0_14 p0_15:Int)(p0_16 p0_17:Int)(p0_18 p0_19:Int)(p1_0 p1_1:Int)(p1_2 p1_3:Int)(p1_4:Sl)(p1_5 p1_6:Int)(p2_0 p2_1:Int)(p2_2 p2_3:Int)(p2_4:Sl)(p2_5 p2_6:Int)(K:Pw.Y1)(w:World):Prop where
 out:let w1:=w.alloc (.cells #[(vT p0_0),(vS p0_1),(vS p0_2),(vS p0_3),(vI p0_4),(vI p0_5),(vT p0_6),(vI p0_7),(vI p0_8),(vT p0_9),(vS p0_10),(vS p0_11),(vI p0_12),(vS p0_13),(vI p0_14),(vI p0_15),(vI p0_16),(vI p0_17),(vI p0_18),(vI p0_19)] 95)
  let w2:=w1.alloc (.cells #[(vI p1_0),(vI p1_1),(vI p1_2),(vI p1_3),(vS p1_4),(vI p1_5),(vI p1_6)] 91)
  let w3:=w2.alloc (.cells #[(vI p2_0),(vI p2_1),(vI p2_2),(vI p2_3),(vS p2_4),(vI p2_5),(vI p2_6)] 91)
  T43.ld w3 (hA w 0) fun x4=>lI w3 (hA w1 0) fun x5=>lI w3 (hA w1 1) fun x6=>lI w3 (hA w1 2) fun x7=>lI w3 (hA w1 3) fun x8=>lS w3 (hA w1 4) fun x9=>lI w3 (hA w2 0) fun x10=>lI w3 (hA w2 1) fun x11=>lI w3 (hA w2 2) fun x12=>lI w3 (hA w2 3) fun x13=>lS w3 (hA w2 4) fun x14=>lI w3 (hA w1 5) fun x15=>lI w3 (hA w1 6) fun x16=>lI w3 (hA w2 5) fun x17=>lI w3 (hA w2 6) fun x18=>z2a_sh x4 x5 x6 x7 x8 x9 x10 x11 x12 x13 x14 x15 x16 x17 x18 (fun r20 w19=>cnd r20
  (K (-1:Int) w19)
  (T43.ld w19 (hA w 0) fun x21=>lI w19 (hA w2 0) fun x22=>lI w19 (hA w2 1) fun x23=>lI w19 (hA w2 2) fun x24=>lI w19 (hA w2 3) fun x25=>lS w19 (hA w2 4) fun x26=>lI w19 (hA w1 0) fun x27=>lI w19 (hA w1 1) fun x28=>lI w19 (hA w1 2) fun x29=>lI w19 (hA w1 3) fun x30=>lS w19 (hA w1 4) fun x31=>lI w19 (hA w2 5) fun x32=>lI w19 (hA w2 6) fun x33=>lI w19 (hA w1 5) fun x34=>lI w19 (hA w1 6) fun x35=>z2a_sh x21 x22 x23 x24 x25 x26 x27 x28 x29 x30 x31 x32 x33 x34 x35 (fun r37 w36=>cnd r37
  (K 1 w36)
  (K 0 w36)) w19)) w3
def z0e_S:=sp (g43 [.g 7,tI,tI,tI,tI,tL,tI,tI,.g 7,tI,tI,tI,tI,tL,tI,tI]) [tI] (fun p0_0 p0_1 p0_2 p0_3 p0_4 p0_5 p0_6 p0_7 p0_8 p0_9 p0_10 p0_11 p0_12 p0_13 p0_14 p0_15 p0_16 p0_17 p0_18 p0_19 p1_0 p1_1 p1_2 p1_3 p1_4 p1_5 p1_6 p2_0 p2_1 p2_2 p2_3 p2_4 p2_5 p2_6=>z0e_sh p0_0 p0_1 p0_2 p0_3 p0_4 p0_5 p0_6 p0_7 p0_8 p0_9 p0_10 p0_11 p0_12 p0_13 p0_14 p0_15 p0_16 p0_17 p0_18 p0_19 p1_0 p1_1 p1_2 p1_3 p1_4 p1_5 p1_6 p2_0 p2_1 p2_2 p2_3 p2_4 p2_5 p2_6)
theorem z0e_ok:okP 27 z0e_S:=okR (x:=fun _=>qr 4 (qs (qb (qr 12 (qc (qr 1 ql) (qr 12 (qc (qr 1 ql) ql))))) (qr 1 ql))) (Γ:=[(55,z2a_S)]) ⟨.inl z2a_ok,trivial⟩ Tryz.call27 Tryz.func27 (fun _=>hEnd)
def z03_b1 (p0:Sl)(p1 p2:Int)(p3:Value)(p8 p9:Int)(N1:Sl->Int->Int->Value->Int->Int->World->Prop)(N0:Pw.Y20)(K:Pw.Y15)(w:World):Prop :=
 let w1:=w.drew
 ∃ S2:World->Prop,S2 w1/\cnd (decide (p9>p1))
 (nz p0.p fun a3=>(0<=p9/\p9<(p0.l:Nat))/\mI S2 (a3.add (p9.toNat*7)) fun x4=>∃ x5:Int,(∀ w':World,S2 w'->w'.cell? ((a3.add (p9.toNat*7)).add 1)=some (vI x5))/\∃ x6:Int,(∀ w':World,S2 w'->w'.cell? ((a3.add (p9.toNat*7)).add 2)=some (vI x6))/\∃ x7:Int,(∀ w':World,S2 w'->w'.cell? ((a3.add (p9.toNat*7)).add 3)=some (vI x7))/\∃ x8:Sl,(∀ w':World,S2 w'->w'.cell? ((a3.add (p9.toNat*7)).add 4)=some (vS x8))/\∃ x9:Int,(∀ w':World,S2 w'->w'.cell? ((a3.add (p9.toNat*7)).add 5)=some (vI x9))/\∃ x10:Int,(∀ w':World,S2 w'->w'.cell? ((a3.add (p9.toNat*7)).add 6)=some (vI x10))/\inR .i64 (p9-1)/\nz p0.p fun a11=>(0<=(p9-1)/\(p9-1)<(p0.l:Nat))/\∃ x12:Int,(∀ w':World,S2 w'->w'.cell? (a11.add ((p9-1).toNat*7))=some (vI x12))/\∃ x13:Int,(∀ w':World,S2 w'->w'.cell? ((a11.add ((p9-1).toNat*7)).add 1)=some (vI x13))/\∃ x14:Int,(∀ w':World,S2 w'->w'.cell? ((a11.add ((p9-1).toNat*7)).add 2)=some (vI x14))/\∃ x15:Int,(∀ w':World,S2 w'->w'.cell? ((a11.add ((p9-1).toNat*7)).add 3)=some (vI x15))/\∃ x16:Sl,(∀ w':World,S2 w'->w'.cell? ((a11.add ((p9-1).toNat*7)).add 4)=some (vS x16))/\∃ x17:Int,(∀ w':World,S2 w'->w'.cell? ((a11.add ((p9-1).toNat*7)).add 5)=some (vI x17))/\∃ x18:Int,(∀ w':World,S2 w'->w'.cell? ((a11.add ((p9-1).toNat*7)).add 6)=some (vI x18))/\q14 Tryz.prog p3 [(Value.agg #[(vI x4),(vI x5),(vI x6),(vI x7),(vS x8),(vI x9),(vI x10)]),(Value.agg #[(vI x12),(vI x13),(vI x14),(vI x15),(vS x16),(vI x17),(vI x18)])] w1 fun u19 w20=>∃ x21:Int,u19=(vI x21)/\cnd (decide (x21<0))
 (let w22:=w20.drew
 ∃ S23:World->Prop,S23 w22/\inR .i64 (p9-1)/\inR .i64 (p9-1)/\nz p0.p fun a24=>(0<=(p9-1)/\(p9-1)<(p0.l:Nat))/\∃ x25:Int,(∀ w':World,S23 w'->w'.cell? (a24.add ((p9-1).toNat*7))=some (vI x25))/\∃ x26:Int,(∀ w':World,S23 w'->w'.cell? ((a24.add ((p9-1).toNat*7)).add 1)=some (vI x26))/\∃ x27:Int,(∀ w':World,S23 w'->w'.cell? ((a24.add ((p9-1).toNat*7)).add 2)=some (vI x27))/\∃ x28:Int,(∀ w':World,S23 w'->w'.cell? ((a24.add ((p9-1).toNat*7)).add 3)=some (vI x28))/\∃ x29:Sl,(∀ w':World,S23 w'->w'.cell? ((a24.add ((p9-1).toNat*7)).add 4)=some (vS x29))/\∃ x30:Int,(∀ w':World,S23 w'->w'.cell? ((a24.add ((p9-1).toNat*7)).add 5)=some (vI x30))/\∃ x31:Int,(∀ w':World,S23 w'->w'.cell? ((a24.add ((p9-1).toNat*7)).add 6)=some (vI x31))/\nz p0.p fun a32=>(0<=p9/\p9<(p0.l:Nat))/\mI S23 (a32.add (p9.toNat*7)) fun x33=>∃ x34:Int,(∀ w':World,S23 w'->w'.cell? ((a32.add (p9.toNat*7)).add 1)=some (vI x34))/\∃ x35:Int,(∀ w':World,S23 w'->w'.cell? ((a32.add (p9.toNat*7)).add 2)=some (vI x35))/\∃ x36:Int,(∀ w':World,S23 w'->w'.cell? ((a32.add (p9.toNat*7)).add 3)=some (vI x36))/\∃ x37:Sl,(∀ w':World,S23 w'->w'.cell? ((a32.add (p9.toNat*7)).add 4)=some (vS x37))/\∃ x38:Int,(∀ w':World,S23 w'->w'.cell? ((a32.add (p9.toNat*7)).add 5)=some (vI x38))/\∃ x39:Int,(∀ w':World,S23 w'->w'.cell? ((a32.add (p9.toNat*7)).add 6)=some (vI x39))/\nz p0.p fun a40=>(0<=p9/\p9<(p0.l:Nat))/\stN w22 (a40.add (p9.toNat*7)) [(vI x25),(vI x26),(vI x27),(vI x28),(vS x29),(vI x30),(vI x31)] fun w41=>nz p0.p fun a42=>(0<=(p9-1)/\(p9-1)<(p0.l:Nat))/\stN w41 (a42.add ((p9-1).toNat*7)) [(vI x33),(vI x34),(vI x35),(vI x36),(vS x37),(vI x38),(vI x39)] fun w43=>inR .i64 (p9-1)/\N1 p0 p1 p2 p3 p8 (p9-1) w43)
 (inR .i64 (p8+1)/\N0 p0 p1 p2 p3 (p8+1) w20))
 (inR .i64 (p8+1)/\N0 p0 p1 p2 p3 (p8+1) w1)
structure z03_l1 (p0:Sl)(p1 p2:Int)(p3:Value)(p8 p9:Int)(N0:Pw.Y20)(K:Pw.Y15)(w:World):Prop where
 out:∃ (I:Int->World->Prop) (μ:Int->World->Nat),I p9 w/\∀ (p91:Int) (w1:World),I p91 w1 ->
  z03_b1 p0 p1 p2 p3 p8 p91 (fun p0' p1' p2' p3' p8' p9' w'=>((p0'=p0/\p1'=p1/\p2'=p2/\p3'=p3/\p8'=p8/\True)/\I p9' w')/\μ p9' w'<μ p91 w1) N0 K w1
def z03_b0 (p0:Sl)(p1 p2:Int)(p3:Value)(p8:Int)(N0:Pw.Y20)(K:Pw.Y15)(w:World):Prop :=
 cnd (decide (p8<p2))
 (z03_l1 p0 p1 p2 p3 p8 p8 N0 K w)
 (K w)
structure z03_l0 (p0:Sl)(p1 p2:Int)(p3:Value)(p8:Int)(K:Pw.Y15)(w:World):Prop where
 out:∃ (I:Int->World->Prop) (μ:Int->World->Nat),I p8 w/\∀ (p81:Int) (w1:World),I p81 w1 ->
  z03_b0 p0 p1 p2 p3 p81 (fun p0' p1' p2' p3' p8' w'=>((p0'=p0/\p1'=p1/\p2'=p2/\p3'=p3/\True)/\I p8' w')/\μ p8' w'<μ p81 w1) K w1
structure z03_sh (p0:Sl)(p1 p2:Int)(p3:Value)(K:Pw.Y15)(w:World):Prop where
 out:inR .i64 (p1+1)/\z03_l0 p0 p1 p2 p3 (p1+1) K w
def z03_L0 (Kv:VW):Cur [tL,tI,tI,tV,tI] WP:=fun p0 p1 p2 p3 p8=>z03_l0 p0 p1 p2 p3 p8 (kk [.u 0] Kv)
def z03_L1 (Kv:VW):Cur [tL,tI,tI,tV,tI] WP->Cur [tL,tI,tI,tV,tI,tI] WP:=fun N0 p0 p1 p2 p3 p8 p9=>z03_l1 p0 p1 p2 p3 p8 p9 N0 (kk [.u 0] Kv)
def z03_S:=sp [tL,tI,tI,tV] [.u 0] z03_sh
theorem z03_ok:okP 89 z03_S:=okR (x:=fun Kv=>qr 3 (qb (A.loop [0,1,2,3,8] (uR0 [tL,tI,tI,tV,tI] (z03_L0 Kv)) (qs (qr 3 (qc ql ql)) (qs (qb (qr 2 (qb (A.loop [0,1,2,3,8,9] (uR1 [tL,tI,tI,tV,tI] [tL,tI,tI,tV,tI,tI] (z03_L1 Kv)) (qs (qs (A.drw (dp [0,1,2,3] (DA.spl 21 (dp [4,5,6,7,8,9,10,11,12,13] (DA.dyn 14 (Value.int .i64 0) (dp [15,16] DA.done))) (DA.skp 4 (DA.skp 5 (DA.skp 6 (DA.skp 7 (DA.skp 8 (DA.skp 9 (DA.skp 10 (DA.skp 11 (DA.skp 12 (DA.skp 13 (DA.skp 14 (DA.skp 15 (DA.pur 16 DA.done)))))))))))))))) (qc ql ql)) (qs (qb (A.drw (dp [0,1,2,3,4,5,6,7,8,9,10,11,12,13,14] (DA.eff 15 (DA.pur 16 (DA.eff 17 DA.done)))))) (qe 3))))))) (qe 3)))))) (Γ:=[]) trivial Tryz.call89 Tryz.func89 (fun Kv=>q08 (q0c (L:=z03_L0 Kv) (fun N0 p0 p1 p2 p3 p8=>z03_b0 p0 p1 p2 p3 p8 N0 (kk [.u 0] Kv)) (fun⟨a0,a1,a2,a3,_,_⟩ _ h=>let ⟨I,μ,h0,hr⟩:=h.out; ⟨fun b0 b1 b2 b3 b4 w=>(b0=a0/\b1=a1/\b2=a2/\b3=a3/\True)/\I b4 w,fun _ _ _ _ b4 w=>μ b4 w,⟨⟨rfl,rfl,rfl,rfl,trivial⟩,h0⟩,fun⟨_,_,_,_,_,_⟩ _ ⟨⟨e0,e1,e2,e3,_⟩,hI⟩=>by cases e0; cases e1; cases e2; cases e3; exact hr _ _ hI⟩)) <| q08 (qj2 (L:=z03_L1 Kv) (fun N0 N1 p0 p1 p2 p3 p8 p9=>z03_b1 p0 p1 p2 p3 p8 p9 N1 N0 (kk [.u 0] Kv)) (fun _ ⟨a0,a1,a2,a3,a4,_,_⟩ _ h=>let ⟨I,μ,h0,hr⟩:=h.out; ⟨fun b0 b1 b2 b3 b4 b5 w=>(b0=a0/\b1=a1/\b2=a2/\b3=a3/\b4=a4/\True)/\I b5 w,fun _ _ _ _ _ b5 w=>μ b5 w,⟨⟨rfl,rfl,rfl,rfl,rfl,trivial⟩,h0⟩,fun⟨_,_,_,_,_,_,_⟩ _ ⟨⟨e0,e1,e2,e3,e4,_⟩,hI⟩=>by cases e0; cases e1; cases e2; cases e3; cases e4; exact hr _ _ hI⟩)) <| hEnd)
