/- The bodies' formulas, by program. -/
import Derived.Test.YtipjnbbfnlfmjaaGreatDoorPwZ
import Derived.Test.YtipjnbbfnlfmjaaGreatDoorDG4
set_option maxRecDepth 20000
namespace Go.Proofs.YtipjnbbfnlfmjaaGreatDoor
open Go Pw
structure z26_sh (p0_0 p0_1:Int)(p1:Addr)(K:Pw.Y0)(w:World):Prop where
 out:let w1:=w.alloc (.cells #[(vI p0_0),(vI p0_1)] 49)
  lI w1 (hA w 0) fun x2=>lI w1 (p1.add 1) fun x3=>K (x2 == x3) w1
def z26_S:=sp [.g 2,tI,tI,tQ] [tB] z26_sh
theorem z26_ok:okP 48 z26_S:=okR (x:=fun _=>qr 2 (qr 6 ql)) (Γ:=[]) trivial Tryz.call48 Tryz.func48 (fun _=>hEnd)
def z2r_b0 (p1:ByteArray)(p4 p5:Int)(p8:Sl)(p9 p10:Int)(N0:ByteArray->Int->Int->Sl->Int->Int->World->Prop)(K:Pw.Y3)(w:World):Prop :=
 cnd (decide (p10<p9))
 (nz p8.p fun a1=>(0<=p10/\p10<(p8.l:Nat))/\lT w (a1.add (p10.toNat*2)) fun x2=>∃ x3:Int,w.cell? ((a1.add (p10.toNat*2)).add 1)=some (vI x3)/\let w4:=w.alloc (.cells #[(vT (str [])),(vI 0)] 58)
 wrOk w4 (hA w 0)/\
 (let w5:=w4.setCell (hA w 0) (vT x2)
 wrOk w5 (hA w 1)/\
 (let w6:=w5.setCell (hA w 1) (vI x3)
 lT w6 (hA w 0) fun x7=>cnd (decide (x7=p1))
 (cnd (p5 == 0)
 (lI w6 (hA w 1) fun x8=>inR .i64 (p5+1)/\inR .i64 (p10+1)/\N0 p1 x8 (p5+1) p8 p9 (p10+1) w6)
 (inR .i64 (p5+1)/\inR .i64 (p10+1)/\N0 p1 p4 (p5+1) p8 p9 (p10+1) w6))
 (inR .i64 (p10+1)/\N0 p1 p4 p5 p8 p9 (p10+1) w6))))
 (K p4 p5 w)
structure z2r_l0 (p1:ByteArray)(p4 p5:Int)(p8:Sl)(p9 p10:Int)(K:Pw.Y3)(w:World):Prop where
 out:∃ (I:Int->Int->Int->World->Prop) (μ:Int->Int->Int->World->Nat),I p4 p5 p10 w/\∀ (p41 p51 p101:Int) (w1:World),I p41 p51 p101 w1 ->
  z2r_b0 p1 p41 p51 p8 p9 p101 (fun p1' p4' p5' p8' p9' p10' w'=>((p1'=p1/\p8'=p8/\p9'=p9/\True)/\I p4' p5' p10' w')/\μ p4' p5' p10' w'<μ p41 p51 p101 w1) K w1
structure z2r_sh (p0:Sl)(p1:ByteArray)(K:Pw.Y3)(w:World):Prop where
 out:z2r_l0 p1 0 0 p0 (p0.l:Int) 0 K w
def z2r_L0 (Kv:VW):Cur [tS,tI,tI,tL,tI,tI] WP:=fun p1 p4 p5 p8 p9 p10=>z2r_l0 p1 p4 p5 p8 p9 p10 (kk [.u 2,tI,tI] Kv)
def z2r_S:=sp [tL,tS] [.u 2,tI,tI] z2r_sh
theorem z2r_ok:okP 49 z2r_S:=okR (x:=fun Kv=>qr 2 (qs (qr 3 (qb (A.loop [1,4,5,8,9,10] (uR0 [tS,tI,tI,tL,tI,tI] (z2r_L0 Kv)) (qr 1 (qs (qc ql ql) (qs (qb (qr 4 (qr 4 (qc (qs (qr 2 (qc (qe 3) ql)) (qe 3)) ql)))) (qe 2))))))) (qr 4 ql))) (Γ:=[]) trivial Tryz.call49 Tryz.func49 (fun Kv=>q08 (q0c (L:=z2r_L0 Kv) (fun N0 p1 p4 p5 p8 p9 p10=>z2r_b0 p1 p4 p5 p8 p9 p10 N0 (kk [.u 2,tI,tI] Kv)) (fun⟨a0,_,_,a3,a4,_,_⟩ _ h=>let ⟨I,μ,h0,hr⟩:=h.out; ⟨fun b0 b1 b2 b3 b4 b5 w=>(b0=a0/\b3=a3/\b4=a4/\True)/\I b1 b2 b5 w,fun _ b1 b2 _ _ b5 w=>μ b1 b2 b5 w,⟨⟨rfl,rfl,rfl,trivial⟩,h0⟩,fun⟨_,_,_,_,_,_,_⟩ _ ⟨⟨e0,e3,e4,_⟩,hI⟩=>by cases e0; cases e3; cases e4; exact hr _ _ _ _ hI⟩)) <| hEnd)
structure z27_sh (p0_0:ByteArray)(p0_1 p0_2 p0_3:Int)(p0_4:Bool)(p1:Addr)(K:Pw.Y0)(w:World):Prop where
 out:let w1:=w.alloc (.cells #[(vT p0_0),(vI p0_1),(vI p0_2),(vI p0_3),(.bool p0_4)] 56)
  lT w1 (hA w 0) fun x2=>lT w1 p1 fun x3=>K (decide (x2=x3)) w1
def z27_S:=sp [.g 5,tS,tI,tI,tI,tB,tQ] [tB] z27_sh
theorem z27_ok:okP 51 z27_S:=okR (x:=fun _=>qr 2 (qr 6 ql)) (Γ:=[]) trivial Tryz.call51 Tryz.func51 (fun _=>hEnd)
structure z3c_k3 (p3 p13:Addr)(p14:Int)(p85:Sl)(p86 p87:Int)(N2:Pw.Y26)(K:Pw.Y1)(w:World):Prop where
 out:lT w (p13.add 1) fun x54=>cnd (decide (x54=(str [60,61])))
  (lI w (p13.add 2) fun x55=>cnd (decide (p14>x55))
  (K 37 w)
  (lT w (p13.add 1) fun x56=>cnd (decide (x56=(str [62,61])))
  (lI w (p13.add 2) fun x57=>cnd (decide (p14<x57))
  (K 37 w)
  (inR .i64 (p87+1)/\N2 p3 p85 p86 (p87+1) w))
  (inR .i64 (p87+1)/\N2 p3 p85 p86 (p87+1) w)))
  (lT w (p13.add 1) fun x58=>cnd (decide (x58=(str [62,61])))
  (lI w (p13.add 2) fun x59=>cnd (decide (p14<x59))
  (K 37 w)
  (inR .i64 (p87+1)/\N2 p3 p85 p86 (p87+1) w))
  (inR .i64 (p87+1)/\N2 p3 p85 p86 (p87+1) w))
def z3c_b2 (p3:Addr)(p85:Sl)(p86 p87:Int)(N2:Pw.Y26)(K:Pw.Y1)(w:World):Prop :=
 cnd (decide (p87<p86))
 (nz p85.p fun a41=>(0<=p87/\p87<(p85.l:Nat))/\lT w (a41.add (p87.toNat*3)) fun x42=>∃ x43:ByteArray,w.cell? ((a41.add (p87.toNat*3)).add 1)=some (vT x43)/\∃ x44:Int,w.cell? ((a41.add (p87.toNat*3)).add 2)=some (vI x44)/\let w45:=w.alloc (.cells #[(vT (str [])),(vT (str [])),(vI 0)] 76)
 stN w45 (hA w 0) [(vT x42),(vT x43),(vI x44)] fun w46=>lS w46 (p3.add 4) fun x47=>lT w46 (hA w 0) fun x48=>z2r_sh x47 x48 (fun r50 r51 w49=>cnd (r51 == 0)
 (K 13 w49)
 (lT w49 (hA w 1) fun x52=>cnd (!decide (x52=(str [60,61])))
 (lT w49 (hA w 1) fun x53=>cnd (!decide (x53=(str [62,61])))
 (K 1 w49)
 (z3c_k3 p3 (hA w 0) r50 p85 p86 p87 N2 K w49))
 (z3c_k3 p3 (hA w 0) r50 p85 p86 p87 N2 K w49))) w46)
 (K 0 w)
structure z3c_l2 (p3:Addr)(p85:Sl)(p86 p87:Int)(K:Pw.Y1)(w:World):Prop where
 out:∃ (I:Int->World->Prop) (μ:Int->World->Nat),I p87 w/\∀ (p871:Int) (w1:World),I p871 w1 ->
  z3c_b2 p3 p85 p86 p871 (fun p3' p85' p86' p87' w'=>((p3'=p3/\p85'=p85/\p86'=p86/\True)/\I p87' w')/\μ p87' w'<μ p871 w1) K w1
def z3c_b1 (p2 p3:Addr)(p72:Sl)(p73 p74:Int)(N1:Pw.Y29)(K:Pw.Y1)(w:World):Prop :=
 cnd (decide (p74<p73))
 (nz p72.p fun a31=>(0<=p74/\p74<(p72.l:Nat))/\lT w (a31.add (p74.toNat*2)) fun x32=>∃ x33:Int,w.cell? ((a31.add (p74.toNat*2)).add 1)=some (vI x33)/\let w34:=w.alloc (.cells #[(vT (str [])),(vI 0)] 58)
 wrOk w34 (hA w 0)/\
 (let w35:=w34.setCell (hA w 0) (vT x32)
 wrOk w35 (hA w 1)/\
 (let w36:=w35.setCell (hA w 1) (vI x33)
 lS w36 (p2.add 2) fun x37=>z00_sh x37 (Value.func (.func 51) #[] #[(.pointer (some (hA w 0)))]) (fun r39 w38=>cnd (!r39)
 (K 13 w38)
 (inR .i64 (p74+1)/\N1 p2 p3 p72 p73 (p74+1) w38)) w36)))
 (lS w (p2.add 3) fun x40=>z3c_l2 p3 x40 (x40.l:Int) 0 K w)
structure z3c_l1 (p2 p3:Addr)(p72:Sl)(p73 p74:Int)(K:Pw.Y1)(w:World):Prop where
 out:∃ (I:Int->World->Prop) (μ:Int->World->Nat),I p74 w/\∀ (p741:Int) (w1:World),I p741 w1 ->
  z3c_b1 p2 p3 p72 p73 p741 (fun p2' p3' p72' p73' p74' w'=>((p2'=p2/\p3'=p3/\p72'=p72/\p73'=p73/\True)/\I p74' w')/\μ p74' w'<μ p741 w1) K w1
def z3c_b0 (p2 p3:Addr)(p42:Sl)(p43 p44:Int)(N0:Pw.Y29)(K:Pw.Y1)(w:World):Prop :=
 cnd (decide (p44<p43))
 (nz p42.p fun a15=>(0<=p44/\p44<(p42.l:Nat))/\lT w (a15.add (p44.toNat*5)) fun x16=>∃ x17:Int,w.cell? ((a15.add (p44.toNat*5)).add 1)=some (vI x17)/\∃ x18:Int,w.cell? ((a15.add (p44.toNat*5)).add 2)=some (vI x18)/\∃ x19:Int,w.cell? ((a15.add (p44.toNat*5)).add 3)=some (vI x19)/\∃ x20:Bool,w.cell? ((a15.add (p44.toNat*5)).add 4)=some (.bool x20)/\let w21:=w.alloc (.cells #[(vT (str [])),(vI 0),(vI 0),(vI 0),(.bool false)] 56)
 stN w21 (hA w 0) [(vT x16),(vI x17),(vI x18),(vI x19),(.bool x20)] fun w22=>lS w22 (p3.add 4) fun x23=>lT w22 (hA w 0) fun x24=>z2r_sh x23 x24 (fun r26 r27 w25=>cnd (r27 != 1)
 (K 16 w25)
 (lI w25 (hA w 2) fun x28=>cnd (decide (r26<x28))
 (K 16 w25)
 (lI w25 (hA w 3) fun x29=>cnd (decide (r26>x29))
 (K 16 w25)
 (inR .i64 (p44+1)/\N0 p2 p3 p42 p43 (p44+1) w25)))) w22)
 (lS w (p3.add 4) fun x30=>z3c_l1 p2 p3 x30 (x30.l:Int) 0 K w)
structure z3c_l0 (p2 p3:Addr)(p42:Sl)(p43 p44:Int)(K:Pw.Y1)(w:World):Prop where
 out:∃ (I:Int->World->Prop) (μ:Int->World->Nat),I p44 w/\∀ (p441:Int) (w1:World),I p441 w1 ->
  z3c_b0 p2 p3 p42 p43 p441 (fun p2' p3' p42' p43' p44' w'=>((p2'=p2/\p3'=p3/\p42'=p42/\p43'=p43/\True)/\I p44' w')/\μ p44' w'<μ p441 w1) K w1
structure z3c_sh (p0:T43)(p1_0 p1_1:Int)(p1_2 p1_3:Int)(p1_4:Sl)(K:Pw.Y1)(w:World):Prop where
 out:let w1:=w.alloc (.cells (T43.cs p0).toArray 43)
  let w2:=w1.alloc (.cells #[(vI p1_0),(vI p1_1),(vI p1_2),(vI p1_3),(vS p1_4)] 54)
  lS w2 (hA w 1) fun x3=>z0a_sh x3 (Value.func (.func 48) #[] #[(.pointer (some (hA w1 0)))]) (fun r5 w4=>cnd (decide (r5<0))
  (K 34 w4)
  (let w6:=w4.drew
  lI w6 (hA w1 3) fun x7=>lI w6 (hA w 4) fun x8=>cnd (decide (x7<x8))
  (K 16 w6)
  (lI w6 (hA w1 3) fun x9=>lI w6 (hA w 5) fun x10=>lS w6 (hA w 1) fun x11=>nz x11.p fun a12=>(0<=r5/\r5<(x11.l:Nat))/\∃ x13:Int,w6.cell? ((a12.add (r5.toNat*2)).add 1)=some (vI x13)/\cnd (decide (x9>(min x10 x13)))
  (K 16 w6)
  (lS w6 (hA w 2) fun x14=>z3c_l0 (hA w 0) (hA w1 0) x14 (x14.l:Int) 0 K w6)))) w2
def z3c_L0 (Kv:VW):Cur [tQ,tQ,tL,tI,tI] WP:=fun p2 p3 p42 p43 p44=>z3c_l0 p2 p3 p42 p43 p44 (kk [tI] Kv)
def z3c_L1 (Kv:VW):Cur [tQ,tQ,tL,tI,tI] WP:=fun p2 p3 p72 p73 p74=>z3c_l1 p2 p3 p72 p73 p74 (kk [tI] Kv)
def z3c_L2 (Kv:VW):Cur [tQ,tL,tI,tI] WP:=fun p3 p85 p86 p87=>z3c_l2 p3 p85 p86 p87 (kk [tI] Kv)
def z3c_L3 (Kv:VW):Cur [tQ,tL,tI,tI] WP->Cur [tQ,tQ,tI,tL,tI,tI] WP:=fun N2 p3 p13 p14 p85 p86 p87=>z3c_k3 p3 p13 p14 p85 p86 p87 N2 (kk [tI] Kv)
def z3c_S:=sp (g43 [.g 5,tI,tI,tI,tI,tL]) [tI] (T43.c fun p0=>fun p1_0 p1_1 p1_2 p1_3 p1_4=>z3c_sh p0 p1_0 p1_1 p1_2 p1_3 p1_4)
theorem z3c_ok:okP 24 z3c_S:=okR (x:=fun Kv=>qr 3 (qr 5 (qs (qr 2 (qc (qr 1 ql) ql)) (qs (qs (A.drp (dp [0,1,2,3,4,5] (DA.spl 27 (DA.skp 6 (DA.skp 7 (DA.skp 8 (DA.skp 9 (DA.skp 10 (DA.skp 11 (DA.skp 12 (DA.skp 13 (DA.skp 14 (DA.skp 15 (DA.skp 16 (DA.skp 17 (DA.pur 18 DA.done))))))))))))) (dp [6,7,8,9,10,11,12,13,14,15,16,17,18] DA.done)))) (qc (qr 1 ql) ql)) (qs (qr 4 (qb (A.loop [2,3,42,43,44] (uR0 [tQ,tQ,tL,tI,tI] (z3c_L0 Kv)) (qr 1 (qs (qc ql ql) (qs (qb (qr 4 (qr 10 (qs (A.reg (qn 3 (RA.spl 58 (qk 4 (qn 2 (qk 4 (qn 1 RA.done)))) (qn 6 (RA.spl 64 (qk 4 (qn 1 RA.done)) (qn 5 RA.done)))))) (qc (qr 1 ql) ql))))) (qe 2))))))) (qs (qr 4 (qb (A.loop [2,3,72,73,74] (uR0 [tQ,tQ,tL,tI,tI] (z3c_L1 Kv)) (qr 1 (qs (qc ql ql) (qs (qb (qr 4 (qr 5 (qc (qr 1 ql) ql)))) (qe 2))))))) (qs (qr 4 (qb (A.loop [3,85,86,87] (uR0 [tQ,tL,tI,tI] (z3c_L2 Kv)) (qr 1 (qs (qc ql ql) (qs (qb (qr 4 (qr 10 (qb (qr 3 (qc (qr 1 ql) (qs (A.reg (qn 4 (RA.spl 106 (qn 5 RA.done) (qk 3 (qn 2 RA.done))))) (qc (qr 1 ql) (A.cut [3,13,14,85,86,87] (uR1 [tQ,tL,tI,tI] [tQ,tQ,tI,tL,tI,tI] (z3c_L3 Kv)) (qs (A.reg (qn 4 (RA.spl 115 (qn 6 (RA.spl 121 (qk 9 (qn 2 RA.done)) (qn 4 (RA.spl 125 (qn 7 RA.done) (qk 4 (qn 3 RA.done)))))) (qk 4 (qn 6 (RA.spl 125 (qn 7 RA.done) (qk 4 (qn 3 RA.done)))))))) (qc (qr 1 ql) ql))))))))))) (qe 2))))))) (qr 1 ql)))))))) (Γ:=[(47,z0a_S),(49,z2r_S),(50,z00_S)]) ⟨.inl z0a_ok,.inl z2r_ok,.inl z00_ok,trivial⟩ Tryz.call24 Tryz.func24 (fun Kv=>q08 (q0c (L:=z3c_L0 Kv) (fun N0 p2 p3 p42 p43 p44=>z3c_b0 p2 p3 p42 p43 p44 N0 (kk [tI] Kv)) (fun⟨a0,a1,a2,a3,_,_⟩ _ h=>let ⟨I,μ,h0,hr⟩:=h.out; ⟨fun b0 b1 b2 b3 b4 w=>(b0=a0/\b1=a1/\b2=a2/\b3=a3/\True)/\I b4 w,fun _ _ _ _ b4 w=>μ b4 w,⟨⟨rfl,rfl,rfl,rfl,trivial⟩,h0⟩,fun⟨_,_,_,_,_,_⟩ _ ⟨⟨e0,e1,e2,e3,_⟩,hI⟩=>by cases e0; cases e1; cases e2; cases e3; exact hr _ _ hI⟩)) <| q08 (q0c (L:=z3c_L1 Kv) (fun N1 p2 p3 p72 p73 p74=>z3c_b1 p2 p3 p72 p73 p74 N1 (kk [tI] Kv)) (fun⟨a0,a1,a2,a3,_,_⟩ _ h=>let ⟨I,μ,h0,hr⟩:=h.out; ⟨fun b0 b1 b2 b3 b4 w=>(b0=a0/\b1=a1/\b2=a2/\b3=a3/\True)/\I b4 w,fun _ _ _ _ b4 w=>μ b4 w,⟨⟨rfl,rfl,rfl,rfl,trivial⟩,h0⟩,fun⟨_,_,_,_,_,_⟩ _ ⟨⟨e0,e1,e2,e3,_⟩,hI⟩=>by cases e0; cases e1; cases e2; cases e3; exact hr _ _ hI⟩)) <| q08 (q0c (L:=z3c_L2 Kv) (fun N2 p3 p85 p86 p87=>z3c_b2 p3 p85 p86 p87 N2 (kk [tI] Kv)) (fun⟨a0,a1,a2,_,_⟩ _ h=>let ⟨I,μ,h0,hr⟩:=h.out; ⟨fun b0 b1 b2 b3 w=>(b0=a0/\b1=a1/\b2=a2/\True)/\I b3 w,fun _ _ _ b3 w=>μ b3 w,⟨⟨rfl,rfl,rfl,trivial⟩,h0⟩,fun⟨_,_,_,_,_⟩ _ ⟨⟨e0,e1,e2,_⟩,hI⟩=>by cases e0; cases e1; cases e2; exact hr _ _ hI⟩)) <| q08 (hK1 (F:=z3c_L3 Kv)) <| hEnd)
structure z3d_sh (p0_0:ByteArray)(p0_1 p0_2:Int)(p0_3:ByteArray)(p0_4:Sl)(p1 p2:Int)(K:Pw.Y19)(w:World):Prop where
 out:Calls Tryz.prog 141 #[(Value.agg #[(vT p0_0),(vI p0_1),(vI p0_2),(vT p0_3),(vS p0_4)]),(vI p1),(vI p2)] w fun e w'=>∃ r0:Int,∃ r1:Bool,e=.returned (.tuple #[(vI r0),(.bool r1)])/\K r0 r1 w'
def z3d_S:Pw.Spec:=fun vs w Kv =>
 match vs with
 | [.agg ⟨[.string p0_0,.int .i64 p0_1,.int .i64 p0_2,.string p0_3,.slice e_0_4p e_0_4l e_0_4c]⟩,.int .i64 p1,.int .i64 p2]=>z3d_sh p0_0 p0_1 p0_2 p0_3 ⟨e_0_4p,e_0_4l,e_0_4c⟩ p1 p2 (fun r0 r1 w'=>Kv (.tuple #[(vI r0),(.bool r1)]) w') w
 | _=>False
theorem z3d_okr:q22 Tryz.prog 141 z3d_S:=⟨Tryz.call141,fun vs w Kv h=>by
  unfold z3d_S at h
  split at h
  · exact h.out.mono fun e w' he=>by
      obtain⟨_,_,he,hk⟩:=he
      exact⟨_,he,hk⟩
  · exact h.elim⟩
def z3d_b0 (p1 p2:Int)(p21:Sl)(p22 p23:Int)(N0:Int->Int->Sl->Int->Int->World->Prop)(K:Pw.Y19)(w:World):Prop :=
 cnd (decide (p23<p22))
 (nz p21.p fun a3=>(0<=p23/\p23<(p21.l:Nat))/\lT w (a3.add (p23.toNat*5)) fun x4=>∃ x5:Int,w.cell? ((a3.add (p23.toNat*5)).add 1)=some (vI x5)/\∃ x6:Int,w.cell? ((a3.add (p23.toNat*5)).add 2)=some (vI x6)/\∃ x7:ByteArray,w.cell? ((a3.add (p23.toNat*5)).add 3)=some (vT x7)/\∃ x8:Sl,w.cell? ((a3.add (p23.toNat*5)).add 4)=some (vS x8)/\let w9:=w.alloc (.cells #[(vT (str [])),(vI 0),(vI 0),(vT (str [])),vN] 38)
 stN w9 (hA w 0) [(vT x4),(vI x5),(vI x6),(vT x7),(vS x8)] fun w10=>lX w10 (hA w 0) fun x11 x12 x13 x14 x15=>inR .i64 (p2-1)/\z3d_sh x11 x12 x13 x14 x15 p1 (p2-1) (fun r17 r18 w16=>cnd (!r18)
 (K 0 false w16)
 (inR .i64 (p23+1)/\N0 r17 p2 p21 p22 (p23+1) w16)) w10)
 (K p1 true w)
structure z3d_l0 (p1 p2:Int)(p21:Sl)(p22 p23:Int)(K:Pw.Y19)(w:World):Prop where
 out:∃ (I:Int->Int->World->Prop) (μ:Int->Int->World->Nat),I p1 p23 w/\∀ (p11 p231:Int) (w1:World),I p11 p231 w1 ->
  z3d_b0 p11 p2 p21 p22 p231 (fun p1' p2' p21' p22' p23' w'=>((p2'=p2/\p21'=p21/\p22'=p22/\True)/\I p1' p23' w')/\μ p1' p23' w'<μ p11 p231 w1) K w1
def z3d_sd (p0_0:ByteArray)(p0_1 p0_2:Int)(p0_3:ByteArray)(p0_4:Sl)(p1 p2:Int)(K:Pw.Y19)(w:World):Prop :=
 let w1:=w.alloc (.cells #[(vT p0_0),(vI p0_1),(vI p0_2),(vT p0_3),(vS p0_4)] 38)
 cnd (decide (p1<1))
 (K 0 false w1)
 (cnd (decide (p2<1))
 (K 0 false w1)
 (inR .i64 (p1-1)/\lS w1 (hA w 4) fun x2=>z3d_l0 (p1-1) p2 x2 (x2.l:Int) 0 K w1))
def z3d_P0 (Kv:VW)(ρ:Rho)(vs:List Value)(w:World):Prop :=
 match ρ,vs with
 | _,[.int .i64 parts_1,.int .i64 depth_2,.slice t_21p t_21l t_21c,.int .i64 t_22,.int .i64 t_23]=>z3d_l0 parts_1 depth_2 ⟨t_21p,t_21l,t_21c⟩ t_22 t_23 (fun r0 r1 w'=>Kv (Value.tuple #[(Value.int .i64 r0),(Value.bool r1)]) w') w
 | _,_=>False
noncomputable def z3d_E:Pw.Env:=[(141,z3d_S)]
noncomputable def z3d_C:Code:=(Tryz.f141.body).getD .skip
noncomputable def z3d_A (Kv:VW):Pw.A :=
 (qr 3 (qs (qs (A.reg (qn 3 (RA.spl 14 (qk 2 (qn 1 RA.done)) (qn 3 RA.done)))) (qc (qr 2 ql) ql)) (qr 3 (qs (qr 4 (qb (A.loop [1,2,21,22,23] (z3d_P0 Kv) (qr 1 (qs (qc ql ql) (qs (qb (qr 4 (qr 10 (qs (qr 2 (qc (qr 2 ql) ql)) (qe 2))))) (qe 2))))))) (qr 3 ql)))))
noncomputable def z3d_O (Kv:VW):List Ob:=(obs Tryz.prog z3d_E 40 (z3d_A Kv) z3d_C (fun _=>retQ Tryz.prog Tryz.f141.results Kv))
theorem z3d_e (Kv:VW)(e_0_0:ByteArray)(e_0_1 e_0_2:Int)(e_0_3:ByteArray)(e_0_4p:Option Addr)(e_0_4l e_0_4c:Nat)(parts_1 depth_2:Int)(w:World):z3d_sd e_0_0 e_0_1 e_0_2 e_0_3 ⟨e_0_4p,e_0_4l,e_0_4c⟩ parts_1 depth_2 (fun r0 r1 w'=>Kv (Value.tuple #[(Value.int .i64 r0),(Value.bool r1)]) w') w=W Tryz.prog z3d_E 40 (z3d_A Kv) z3d_C [] (retQ Tryz.prog Tryz.f141.results Kv) [] (q1d [(Value.agg #[(Value.string e_0_0),(Value.int .i64 e_0_1),(Value.int .i64 e_0_2),(Value.string e_0_3),(Value.slice e_0_4p e_0_4l e_0_4c)]),(Value.int .i64 parts_1),(Value.int .i64 depth_2)]) w:=by kernel_rfl
theorem z3d_e0 (Kv:VW)(N0:List Value->World->Prop)(ρ:Rho)(parts_1 depth_2:Int)(t_21p:Option Addr)(t_21l t_21c:Nat)(t_22 t_23:Int)(w:World):z3d_b0 parts_1 depth_2 ⟨t_21p,t_21l,t_21c⟩ t_22 t_23 (fun parts_1' depth_2' t_21' t_22' t_23' w'=>N0 [(Value.int .i64 parts_1'),(Value.int .i64 depth_2'),(Value.slice t_21'.p t_21'.l t_21'.c),(Value.int .i64 t_22'),(Value.int .i64 t_23')] w') (fun r0 r1 w'=>Kv (Value.tuple #[(Value.int .i64 r0),(Value.bool r1)]) w') w=q1l Tryz.prog z3d_E 40 (z3d_O Kv) 0 (N0 :: ρ) [(Value.int .i64 parts_1),(Value.int .i64 depth_2),(Value.slice t_21p t_21l t_21c),(Value.int .i64 t_22),(Value.int .i64 t_23)] w:=by kernel_rfl
theorem z3d_q0 (Kv:VW)(ρ:Rho)(vs:List Value)(w:World):q2s (z3d_O Kv) 0 ρ vs w=z3d_P0 Kv ρ vs w:=by kernel_rfl
def z3d_I0 (depth_20:Int)(t_210:Sl)(t_220:Int)(I:Int->Int->World->Prop)(vs:List Value)(w:World):Prop :=
 match vs with
 | [.int .i64 parts_1,.int .i64 depth_2,.slice t_21p t_21l t_21c,.int .i64 t_22,.int .i64 t_23]=>(depth_2=depth_20/\⟨t_21p,t_21l,t_21c⟩=t_210/\t_22=t_220/\True)/\I parts_1 t_23 w
 | _=>False
def z3d_M0 (μ:Int->Int->World->Nat)(vs:List Value)(w:World):Nat :=
 match vs with
 | [.int .i64 parts_1,.int .i64 depth_2,.slice t_21p t_21l t_21c,.int .i64 t_22,.int .i64 t_23]=>μ parts_1 t_23 w
 | _=>0
theorem z3d_h0 (Kv:VW):q0e Tryz.prog z3d_E 40 (z3d_O Kv) 0:=q2k (by kernel_rfl) (fun ρ vs w h=>by
  rw[z3d_q0] at h
  unfold z3d_P0 at h
  split at h
  · rename_i ρt parts_1 depth_2 t_21p t_21l t_21c t_22 t_23
    obtain⟨I,μ,h0,hr⟩:=h.out
    refine⟨z3d_I0 depth_2 ⟨t_21p,t_21l,t_21c⟩ t_22 I,z3d_M0 μ,⟨⟨rfl,rfl,rfl,trivial⟩,h0⟩,fun vs w hI=>?_⟩
    unfold z3d_I0 at hI
    split at hI
    · obtain⟨⟨h0,h1,h2,_⟩,hI⟩:=hI
      cases h0; cases h1; cases h2
      rw[← z3d_e0]
      exact hr _ _ _ hI
    · exact hI.elim
  · exact h.elim)
theorem z3d_n (Kv:VW):obAt (z3d_O Kv) 1=none:=by kernel_rfl
theorem z3d_h (Kv:VW):∀ k,q0e Tryz.prog z3d_E 40 (z3d_O Kv) k:=fun k=>match k with
  | 0=>z3d_h0 Kv
  | k+1=>q1a (z3d_n Kv) (Nat.le_add_left _ _)
theorem z3d_mk (e_0_0:ByteArray)(e_0_1 e_0_2:Int)(e_0_3:ByteArray)(e_0_4p:Option Addr)(e_0_4l e_0_4c:Nat)(parts_1 depth_2:Int){K:Int->Bool->World->Prop}{w:World}(h:z3d_sd e_0_0 e_0_1 e_0_2 e_0_3 ⟨e_0_4p,e_0_4l,e_0_4c⟩ parts_1 depth_2 K w):z3d_sh e_0_0 e_0_1 e_0_2 e_0_3 ⟨e_0_4p,e_0_4l,e_0_4c⟩ parts_1 depth_2 K w:=by
  have e:(fun r0 r1 w'=>(fun v w'=>∃ r0:Int,∃ r1:Bool,v=(Value.tuple #[(Value.int .i64 r0),(Value.bool r1)])/\K r0 r1 w') (Value.tuple #[(Value.int .i64 r0),(Value.bool r1)]) w')=K:=by
    funext r0 r1 w'
    apply propext
    constructor
    · rintro⟨r0',r1',hv,hk⟩
      cases hv
      exact hk
    · intro hk
      exact⟨_,_,rfl,hk⟩
  have h':z3d_sd e_0_0 e_0_1 e_0_2 e_0_3 ⟨e_0_4p,e_0_4l,e_0_4c⟩ parts_1 depth_2 (fun r0 r1 w'=>(fun v w'=>∃ r0:Int,∃ r1:Bool,v=(Value.tuple #[(Value.int .i64 r0),(Value.bool r1)])/\K r0 r1 w') (Value.tuple #[(Value.int .i64 r0),(Value.bool r1)]) w') w:=by rw[e]; exact h
  rw[z3d_e (fun v w'=>∃ r0:Int,∃ r1:Bool,v=(Value.tuple #[(Value.int .i64 r0),(Value.bool r1)])/\K r0 r1 w')] at h'
  refine⟨(q0z (Γ:=z3d_E) progMixed ⟨.inl z3d_okr,trivial⟩ Tryz.func141 (code:=z3d_C) (by kernel_rfl) (z3d_A (fun v w'=>∃ r0:Int,∃ r1:Bool,v=(Value.tuple #[(Value.int .i64 r0),(Value.bool r1)])/\K r0 r1 w')) (fun v w'=>∃ r0:Int,∃ r1:Bool,v=(Value.tuple #[(Value.int .i64 r0),(Value.bool r1)])/\K r0 r1 w') (q15 (z3d_h (fun v w'=>∃ r0:Int,∃ r1:Bool,v=(Value.tuple #[(Value.int .i64 r0),(Value.bool r1)])/\K r0 r1 w'))) (Nat.le_of_ble_eq_true (by kernel_rfl)) h').mono fun e w' he=>?_⟩
  obtain⟨v,rfl,_,_,rfl,hk⟩:=he
  exact⟨_,_,rfl,hk⟩
structure z2p_sh (p0_0:ByteArray)(p0_1:Value)(p1:Addr)(K:Pw.Y0)(w:World):Prop where
 out:let w1:=w.alloc (.cells #[(vT p0_0),p0_1] 237)
  lT w1 (hA w 0) fun x2=>lT w1 p1 fun x3=>K (decide (x2=x3)) w1
def z2p_S:=sp [.g 2,tS,tV,tQ] [tB] z2p_sh
theorem z2p_ok:okP 224 z2p_S:=okR (x:=fun _=>qr 2 (qr 5 ql)) (Γ:=[]) trivial Tryz.call224 Tryz.func224 (fun _=>hEnd)
structure z3p_sh (p0:ByteArray)(K:Pw.Y31)(w:World):Prop where
 out:let w1:=w.alloc (.cells #[(vT p0)] 9)
  let w2:=w1.alloc (.cells #[(vT (str [])),Value.nilFunc] 237)
  let w3:=w2.alloc (.cells #[(vT (str [43])),(Value.func (.func 216) #[] #[]),(vT (str [45])),(Value.func (.func 217) #[] #[]),(vT (str [42])),(Value.func (.func 218) #[] #[]),(vT (str [47])),(Value.func (.func 219) #[] #[]),(vT (str [109,105,110])),(Value.func (.func 220) #[] #[]),(vT (str [109,97,120])),(Value.func (.func 222) #[] #[])] 237)
  z01_sh (Sl.mk (some (hA w2 0)) 6 6) (Value.func (.func 224) #[] #[(.pointer (some (hA w 0)))]) (fun r5 w4=>cnd (decide (r5<0))
  (wrOk w4 (hA w1 0)/\
  (let w6:=w4.setCell (hA w1 0) (vT (str []))
  wrOk w6 (hA w1 1)/\
  (let w7:=w6.setCell (hA w1 1) Value.nilFunc
  lT w7 (hA w1 0) fun x8=>∃ x9:Value,w7.cell? (hA w1 1)=some x9/\K x8 x9 false w7)))
  ((0<=r5/\r5<(6:Nat))/\lT w4 ((hA w2 0).add (r5.toNat*2)) fun x11=>∃ x12:Value,w4.cell? (((hA w2 0).add (r5.toNat*2)).add 1)=some x12/\wrOk w4 (hA w1 0)/\
  (let w13:=w4.setCell (hA w1 0) (vT x11)
  okk x12 (wrOk w13 (hA w1 1)/\
  (let w14:=w13.setCell (hA w1 1) x12
  lT w14 (hA w1 0) fun x15=>∃ x16:Value,w14.cell? (hA w1 1)=some x16/\K x15 x16 true w14))))) w3
def z3p_S:=sp [tS] [.u 2,.g 2,tS,tV,tB] z3p_sh
theorem z3p_ok:okP 146 z3p_S:=okR (x:=fun _=>qr 3 (qr 8 (qr 4 (qs (qr 2 (qc (qr 3 ql) ql)) (qr 6 ql))))) (Γ:=[(223,z01_S)]) ⟨.inl z01_ok,trivial⟩ Tryz.call146 Tryz.func146 (fun _=>hEnd)
structure z2q_sh (p0_0:ByteArray)(p0_1 p0_2:Int)(p0_3:ByteArray)(p0_4:Sl)(K:Pw.Y0)(w:World):Prop where
 out:Calls Tryz.prog 142 #[(Value.agg #[(vT p0_0),(vI p0_1),(vI p0_2),(vT p0_3),(vS p0_4)])] w fun e w'=>∃ r0:Bool,e=.returned (.bool r0)/\K r0 w'
def z2q_S:Pw.Spec:=fun vs w Kv =>
 match vs with
 | [.agg ⟨[.string p0_0,.int .i64 p0_1,.int .i64 p0_2,.string p0_3,.slice e_0_4p e_0_4l e_0_4c]⟩]=>z2q_sh p0_0 p0_1 p0_2 p0_3 ⟨e_0_4p,e_0_4l,e_0_4c⟩ (fun r0 w'=>Kv (.bool r0) w') w
 | _=>False
theorem z2q_okr:q22 Tryz.prog 142 z2q_S:=⟨Tryz.call142,fun vs w Kv h=>by
  unfold z2q_S at h
  split at h
  · exact h.out.mono fun e w' he=>by
      obtain⟨_,he,hk⟩:=he
      exact⟨_,he,hk⟩
  · exact h.elim⟩
def z2q_sd (p0_0:ByteArray)(p0_1 p0_2:Int)(p0_3:ByteArray)(p0_4:Sl)(K:Pw.Y0)(w:World):Prop :=
 let w1:=w.alloc (.cells #[(vT p0_0),(vI p0_1),(vI p0_2),(vT p0_3),(vS p0_4)] 38)
 lT w1 (hA w 0) fun x2=>cnd (decide (x2=(str [110,117,109])))
 (lS w1 (hA w 4) fun x3=>cnd ((x3.l:Int) == 0)
 (lT w1 (hA w 3) fun x4=>cnd (decide (x4=(str [])))
 (lI w1 (hA w 1) fun x5=>lI w1 (hA w 2) fun x6=>z2t_sh x5 x6 (fun r8 w7=>K r8 w7) w1)
 (K false w1))
 (K false w1))
 (cnd (decide (x2=(str [110,97,109,101])))
 (lS w1 (hA w 4) fun x9=>cnd ((x9.l:Int) == 0)
 (lT w1 (hA w 3) fun x10=>cnd (!decide (x10=(str [])))
 (lI w1 (hA w 1) fun x11=>lI w1 (hA w 2) fun x12=>K (x11 == 0 && (x12 == 0 && true)) w1)
 (K false w1))
 (K false w1))
 (lT w1 (hA w 0) fun x13=>z3p_sh x13 (fun r15_0 r15_1 r16 w14=>let w17:=w14.alloc (.cells #[(vT (str [])),Value.nilFunc] 237)
 wrOk w17 (hA w14 0)/\
 (let w18:=w17.setCell (hA w14 0) (vT r15_0)
 okk r15_1 (wrOk w18 (hA w14 1)/\
 (let w19:=w18.setCell (hA w14 1) r15_1
 cnd r16
 (lS w19 (hA w 4) fun x20=>cnd ((x20.l:Int) == 2)
 (lT w19 (hA w 3) fun x21=>cnd (decide (x21=(str [])))
 (lI w19 (hA w 1) fun x22=>lI w19 (hA w 2) fun x23=>cnd (x22 == 0 && (x23 == 0 && true))
 (lS w19 (hA w 4) fun x24=>nz x24.p fun a25=>(0<=(0:Int)/\(0:Int)<(x24.l:Nat))/\∃ x26:ByteArray,w19.cell? (a25.add ((0:Int).toNat*5))=some (vT x26)/\∃ x27:Int,w19.cell? ((a25.add ((0:Int).toNat*5)).add 1)=some (vI x27)/\∃ x28:Int,w19.cell? ((a25.add ((0:Int).toNat*5)).add 2)=some (vI x28)/\∃ x29:ByteArray,w19.cell? ((a25.add ((0:Int).toNat*5)).add 3)=some (vT x29)/\∃ x30:Sl,w19.cell? ((a25.add ((0:Int).toNat*5)).add 4)=some (vS x30)/\z2q_sh x26 x27 x28 x29 x30 (fun r32 w31=>cnd r32
 (lS w31 (hA w 4) fun x33=>nz x33.p fun a34=>(0<=(1:Int)/\(1:Int)<(x33.l:Nat))/\∃ x35:ByteArray,w31.cell? (a34.add ((1:Int).toNat*5))=some (vT x35)/\∃ x36:Int,w31.cell? ((a34.add ((1:Int).toNat*5)).add 1)=some (vI x36)/\∃ x37:Int,w31.cell? ((a34.add ((1:Int).toNat*5)).add 2)=some (vI x37)/\∃ x38:ByteArray,w31.cell? ((a34.add ((1:Int).toNat*5)).add 3)=some (vT x38)/\∃ x39:Sl,w31.cell? ((a34.add ((1:Int).toNat*5)).add 4)=some (vS x39)/\z2q_sh x35 x36 x37 x38 x39 (fun r41 w40=>K r41 w40) w31)
 (K false w31)) w19)
 (K false w19))
 (K false w19))
 (K false w19))
 (K false w19))))) w1))
noncomputable def z2q_E:Pw.Env:=[(142,z2q_S),(146,z3p_S),(215,z2t_S)]
noncomputable def z2q_C:Code:=(Tryz.f142.body).getD .skip
noncomputable def z2q_A (Kv:VW):Pw.A :=
 (qr 2 (qs (qr 2 (qb (qr 2 (qc (qs (A.reg (qn 5 (RA.spl 13 (qn 5 (RA.spl 18 (qn 5 RA.done) (qk 3 (qn 2 RA.done)))) (qk 3 (qn 2 (qk 3 (qn 2 RA.done))))))) ql) (qr 2 (qc (qs (A.reg (qn 5 (RA.spl 29 (qn 5 (RA.spl 34 (qn 6 RA.done) (qk 4 (qn 2 RA.done)))) (qk 3 (qn 2 (qk 4 (qn 2 RA.done))))))) ql) ql)))))) (qr 9 (qs (A.reg (qn 2 (RA.spl 47 (qn 6 (RA.spl 53 (qn 5 (RA.spl 58 (qn 6 (RA.spl 64 (qn 7 (RA.spl 71 (qn 7 RA.done) (qk 5 (qn 2 RA.done)))) (qk 5 (qn 2 (qk 5 (qn 2 RA.done)))))) (qk 4 (qn 2 (qk 5 (qn 2 (qk 5 (qn 2 RA.done)))))))) (qk 3 (qn 2 (qk 4 (qn 2 (qk 5 (qn 2 (qk 5 (qn 2 RA.done)))))))))) (qk 4 (qn 2 (qk 3 (qn 2 (qk 4 (qn 2 (qk 5 (qn 2 (qk 5 (qn 2 RA.done))))))))))))) ql))))
noncomputable def z2q_O (Kv:VW):List Ob:=(obs Tryz.prog z2q_E 78 (z2q_A Kv) z2q_C (fun _=>retQ Tryz.prog Tryz.f142.results Kv))
theorem z2q_e (Kv:VW)(e_0_0:ByteArray)(e_0_1 e_0_2:Int)(e_0_3:ByteArray)(e_0_4p:Option Addr)(e_0_4l e_0_4c:Nat)(w:World):z2q_sd e_0_0 e_0_1 e_0_2 e_0_3 ⟨e_0_4p,e_0_4l,e_0_4c⟩ (fun r0 w'=>Kv (Value.bool r0) w') w=W Tryz.prog z2q_E 78 (z2q_A Kv) z2q_C [] (retQ Tryz.prog Tryz.f142.results Kv) [] (q1d [(Value.agg #[(Value.string e_0_0),(Value.int .i64 e_0_1),(Value.int .i64 e_0_2),(Value.string e_0_3),(Value.slice e_0_4p e_0_4l e_0_4c)])]) w:=by kernel_rfl
theorem z2q_n (Kv:VW):obAt (z2q_O Kv) 0=none:=by kernel_rfl
theorem z2q_h (Kv:VW):∀ k,q0e Tryz.prog z2q_E 78 (z2q_O Kv) k:=fun _=>q1a (z2q_n Kv) (Nat.zero_le _)
theorem z2q_mk (e_0_0:ByteArray)(e_0_1 e_0_2:Int)(e_0_3:ByteArray)(e_0_4p:Option Addr)(e_0_4l e_0_4c:Nat){K:Bool->World->Prop}{w:World}(h:z2q_sd e_0_0 e_0_1 e_0_2 e_0_3 ⟨e_0_4p,e_0_4l,e_0_4c⟩ K w):z2q_sh e_0_0 e_0_1 e_0_2 e_0_3 ⟨e_0_4p,e_0_4l,e_0_4c⟩ K w:=by
  have e:(fun r0 w'=>(fun v w'=>∃ r0:Bool,v=(Value.bool r0)/\K r0 w') (Value.bool r0) w')=K:=by
    funext r0 w'
    apply propext
    constructor
    · rintro⟨r0',hv,hk⟩
      cases hv
      exact hk
    · intro hk
      exact⟨_,rfl,hk⟩
  have h':z2q_sd e_0_0 e_0_1 e_0_2 e_0_3 ⟨e_0_4p,e_0_4l,e_0_4c⟩ (fun r0 w'=>(fun v w'=>∃ r0:Bool,v=(Value.bool r0)/\K r0 w') (Value.bool r0) w') w:=by rw[e]; exact h
  rw[z2q_e (fun v w'=>∃ r0:Bool,v=(Value.bool r0)/\K r0 w')] at h'
  refine⟨(q0z (Γ:=z2q_E) progMixed ⟨.inl z2q_okr,.inl z3p_ok,.inl z2t_ok,trivial⟩ Tryz.func142 (code:=z2q_C) (by kernel_rfl) (z2q_A (fun v w'=>∃ r0:Bool,v=(Value.bool r0)/\K r0 w')) (fun v w'=>∃ r0:Bool,v=(Value.bool r0)/\K r0 w') (q15 (z2q_h (fun v w'=>∃ r0:Bool,v=(Value.bool r0)/\K r0 w'))) (Nat.le_of_ble_eq_true (by kernel_rfl)) h').mono fun e w' he=>?_⟩
  obtain⟨v,rfl,_,rfl,hk⟩:=he
  exact⟨_,rfl,hk⟩
structure z3f_sh (p0_0:ByteArray)(p0_1 p0_2:Int)(p0_3:ByteArray)(p0_4:Sl)(K:Pw.Y1)(w:World):Prop where
 out:let w1:=w.alloc (.cells #[(vT p0_0),(vI p0_1),(vI p0_2),(vT p0_3),(vS p0_4)] 38)
  lX w1 (hA w 0) fun x2 x3 x4 x5 x6=>z3d_sh x2 x3 x4 x5 x6 60 12 (fun r8 r9 w7=>cnd (!r9)
  (K 2 w7)
  (lX w7 (hA w 0) fun x10 x11 x12 x13 x14=>z2q_sh x10 x11 x12 x13 x14 (fun r16 w15=>cnd (!r16)
  (K 1 w15)
  (K 0 w15)) w7)) w1
def z3f_S:=sp [.g 5,tS,tI,tI,tS,tL] [tI] z3f_sh
theorem z3f_ok:okP 86 z3f_S:=okR (x:=fun _=>qr 2 (qs (qr 7 (qr 2 (qc (qr 1 ql) ql))) (qs (qr 3 (qc (qr 1 ql) ql)) (qr 1 ql)))) (Γ:=[(141,z3d_S),(142,z2q_S)]) ⟨.inl z3d_okr,.inl z2q_okr,trivial⟩ Tryz.call86 Tryz.func86 (fun _=>hEnd)
structure z28_sh (p0_0:ByteArray)(p0_1:Int)(p1:Addr)(K:Pw.Y0)(w:World):Prop where
 out:let w1:=w.alloc (.cells #[(vT p0_0),(vI p0_1)] 58)
  lT w1 (hA w 0) fun x2=>lT w1 (p1.add 3) fun x3=>K (decide (x2=x3)) w1
def z28_S:=sp [.g 2,tS,tI,tQ] [tB] z28_sh
theorem z28_ok:okP 144 z28_S:=okR (x:=fun _=>qr 2 (qr 6 ql)) (Γ:=[]) trivial Tryz.call144 Tryz.func144 (fun _=>hEnd)
structure z0i_k0 (p3 p4:Addr)(p5 p6:Addr)(K:Pw.Y13)(w:World):Prop where
 out:∃ x11:Value,w.cell? (p3.add 1)=some x11/\lI w p4 fun x12=>lI w (p4.add 1) fun x13=>lI w p5 fun x14=>lI w (p5.add 1) fun x15=>q14 Tryz.prog x11 [(Value.agg #[(vI x12),(vI x13)]),(Value.agg #[(vI x14),(vI x15)])] w fun u16 w17=>∃ x19:Int,∃ x20:Int,∃ x21:Bool,u16=(.tuple #[(Value.agg #[(vI x19),(vI x20)]),(.bool x21)])/\let w22:=w17.alloc (.cells #[(vI 0),(vI 0)] 35)
  wrOk w22 (hA w17 0)/\
  (let w23:=w22.setCell (hA w17 0) (vI x19)
  wrOk w23 (hA w17 1)/\
  (let w24:=w23.setCell (hA w17 1) (vI x20)
  cnd x21
  (lI w24 (hA w17 0) fun x25=>lI w24 (hA w17 1) fun x26=>wrOk w24 p6/\
  (let w27:=w24.setCell p6 (vI x25)
  wrOk w27 (p6.add 1)/\
  (let w28:=w27.setCell (p6.add 1) (vI x26)
  lI w28 p6 fun x29=>lI w28 (p6.add 1) fun x30=>K x29 x30 0 w28)))
  (wrOk w24 p6/\
  (let w31:=w24.setCell p6 (vI 0)
  wrOk w31 (p6.add 1)/\
  (let w32:=w31.setCell (p6.add 1) (vI 0)
  lI w32 p6 fun x33=>lI w32 (p6.add 1) fun x34=>K x33 x34 3 w32)))))
structure z0i_sh (p0_0:ByteArray)(p0_1:Value)(p1_0 p1_1:Int)(p2_0 p2_1:Int)(K:Pw.Y13)(w:World):Prop where
 out:let w1:=w.alloc (.cells #[(vT p0_0),p0_1] 237)
  let w2:=w1.alloc (.cells #[(vI p1_0),(vI p1_1)] 35)
  let w3:=w2.alloc (.cells #[(vI p2_0),(vI p2_1)] 35)
  let w4:=w3.alloc (.cells #[(vI 0),(vI 0)] 35)
  lT w4 (hA w 0) fun x5=>cnd (decide (x5=(str [47])))
  (lI w4 (hA w2 0) fun x6=>cnd (x6 == 0)
  (wrOk w4 (hA w3 0)/\
  (let w7:=w4.setCell (hA w3 0) (vI 0)
  wrOk w7 (hA w3 1)/\
  (let w8:=w7.setCell (hA w3 1) (vI 0)
  lI w8 (hA w3 0) fun x9=>lI w8 (hA w3 1) fun x10=>K x9 x10 15 w8)))
  (z0i_k0 (hA w 0) (hA w1 0) (hA w2 0) (hA w3 0) K w4))
  (z0i_k0 (hA w 0) (hA w1 0) (hA w2 0) (hA w3 0) K w4)
def z0i_L0 (Kv:VW):Cur [tQ,tQ,tQ,tQ] WP:=fun p3 p4 p5 p6=>z0i_k0 p3 p4 p5 p6 (kk [.u 2,.g 2,tI,tI,tI] Kv)
def z0i_S:=sp [.g 2,tS,tV,.g 2,tI,tI,.g 2,tI,tI] [.u 2,.g 2,tI,tI,tI] z0i_sh
theorem z0i_ok:okP 147 z0i_S:=okR (x:=fun Kv=>qr 5 (qs (qs (A.reg (qn 4 (RA.spl 13 (qn 4 RA.done) (qk 3 (qn 1 RA.done))))) (qc (qr 3 ql) ql)) (A.cut [3,4,5,6] (uR0 [tQ,tQ,tQ,tQ] (z0i_L0 Kv)) (qs (qs (A.reg (qn 4 (RA.dyn (Value.tuple #[(Value.agg #[(Value.int .i64 0),(Value.int .i64 0)]),(Value.bool false)]) (qn 6 RA.done)))) (qr 1 (qc (qr 3 ql) ql))) (qr 3 ql))))) (Γ:=[]) trivial Tryz.call147 Tryz.func147 (fun Kv=>q08 (hK0 (F:=z0i_L0 Kv)) <| hEnd)
structure z3q_sh (p0:Bool)(p1_0 p1_1:Int)(p2_0 p2_1:Int)(K:Pw.Y3)(w:World):Prop where
 out:let w1:=w.alloc (.cells #[(vI p1_0),(vI p1_1)] 35)
  let w2:=w1.alloc (.cells #[(vI p2_0),(vI p2_1)] 35)
  let w3:=w2.alloc (.cells #[(vI 0),(vI 0)] 35)
  cnd p0
  (lI w3 (hA w 0) fun x4=>lI w3 (hA w 1) fun x5=>wrOk w3 (hA w2 0)/\
  (let w6:=w3.setCell (hA w2 0) (vI x4)
  wrOk w6 (hA w2 1)/\
  (let w7:=w6.setCell (hA w2 1) (vI x5)
  lI w7 (hA w2 0) fun x8=>lI w7 (hA w2 1) fun x9=>K x8 x9 w7)))
  (lI w3 (hA w1 0) fun x10=>lI w3 (hA w1 1) fun x11=>wrOk w3 (hA w2 0)/\
  (let w12:=w3.setCell (hA w2 0) (vI x10)
  wrOk w12 (hA w2 1)/\
  (let w13:=w12.setCell (hA w2 1) (vI x11)
  lI w13 (hA w2 0) fun x14=>lI w13 (hA w2 1) fun x15=>K x14 x15 w13)))
def z3q_S:=sp [tB,.g 2,tI,tI,.g 2,tI,tI] [.g 2,tI,tI] z3q_sh
theorem z3q_ok:okP 221 z3q_S:=okR (x:=fun _=>qr 3 (qs (qr 1 (qc (qr 2 ql) ql)) (qr 2 ql))) (Γ:=[]) trivial Tryz.call221 Tryz.func221 (fun _=>hEnd)
structure z2n_sh (p0_0 p0_1:Int)(p1_0 p1_1:Int)(K:Pw.Y2)(w:World):Prop where
 out:let w1:=w.alloc (.cells #[(vI p0_0),(vI p0_1)] 35)
  let w2:=w1.alloc (.cells #[(vI p1_0),(vI p1_1)] 35)
  let w3:=w2.alloc (.cells #[(vI 0),(vI 0)] 35)
  let w4:=w3.drew
  ∃ S5:World->Prop,S5 w4/\mI S5 (hA w 0) fun x6=>mI S5 (hA w 1) fun x7=>mI S5 (hA w1 0) fun x8=>mI S5 (hA w1 1) fun x9=>mI S5 (hA w 0) fun x10=>mI S5 (hA w 1) fun x11=>mI S5 (hA w1 0) fun x12=>mI S5 (hA w1 1) fun x13=>z3s_sh x6 x7 x8 x9 (fun r15 w14=>S5 w14/\z3q_sh (decide (r15<=0)) x10 x11 x12 x13 (fun r17_0 r17_1 w16=>S5 w16/\wrOk w16 (hA w2 0)/\
  (let w18:=w16.setCell (hA w2 0) (vI r17_0)
  wrOk w18 (hA w2 1)/\
  (let w19:=w18.setCell (hA w2 1) (vI r17_1)
  lI w19 (hA w2 0) fun x20=>lI w19 (hA w2 1) fun x21=>K x20 x21 true w19))) w14) w4
def z2n_S:=sp [.g 2,tI,tI,.g 2,tI,tI] [.u 2,.g 2,tI,tI,tB] z2n_sh
theorem z2n_ok:okP 220 z2n_S:=okR (x:=fun _=>qr 4 (qs (A.drw (dp [0,1,4,5] (DA.eff 2 (DA.pur 3 (DA.eff 6 (DA.eff 7 (DA.pur 8 DA.done))))))) ql)) (Γ:=[(99,z3s_S),(221,z3q_S)]) ⟨.inl z3s_ok,.inl z3q_ok,trivial⟩ Tryz.call220 Tryz.func220 (fun _=>hEnd)
structure z2o_sh (p0_0 p0_1:Int)(p1_0 p1_1:Int)(K:Pw.Y2)(w:World):Prop where
 out:let w1:=w.alloc (.cells #[(vI p0_0),(vI p0_1)] 35)
  let w2:=w1.alloc (.cells #[(vI p1_0),(vI p1_1)] 35)
  let w3:=w2.alloc (.cells #[(vI 0),(vI 0)] 35)
  let w4:=w3.drew
  ∃ S5:World->Prop,S5 w4/\mI S5 (hA w 0) fun x6=>mI S5 (hA w 1) fun x7=>mI S5 (hA w1 0) fun x8=>mI S5 (hA w1 1) fun x9=>mI S5 (hA w 0) fun x10=>mI S5 (hA w 1) fun x11=>mI S5 (hA w1 0) fun x12=>mI S5 (hA w1 1) fun x13=>z3s_sh x6 x7 x8 x9 (fun r15 w14=>S5 w14/\z3q_sh (decide (r15>=0)) x10 x11 x12 x13 (fun r17_0 r17_1 w16=>S5 w16/\wrOk w16 (hA w2 0)/\
  (let w18:=w16.setCell (hA w2 0) (vI r17_0)
  wrOk w18 (hA w2 1)/\
  (let w19:=w18.setCell (hA w2 1) (vI r17_1)
  lI w19 (hA w2 0) fun x20=>lI w19 (hA w2 1) fun x21=>K x20 x21 true w19))) w14) w4
def z2o_S:=sp [.g 2,tI,tI,.g 2,tI,tI] [.u 2,.g 2,tI,tI,tB] z2o_sh
theorem z2o_ok:okP 222 z2o_S:=okR (x:=fun _=>qr 4 (qs (A.drw (dp [0,1,4,5] (DA.eff 2 (DA.pur 3 (DA.eff 6 (DA.eff 7 (DA.pur 8 DA.done))))))) ql)) (Γ:=[(99,z3s_S),(221,z3q_S)]) ⟨.inl z3s_ok,.inl z3q_ok,trivial⟩ Tryz.call222 Tryz.func222 (fun _=>hEnd)
