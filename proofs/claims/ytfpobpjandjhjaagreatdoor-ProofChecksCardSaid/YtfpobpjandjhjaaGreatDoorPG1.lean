/- The bodies' formulas, by program. -/
import Derived.Test.YtfpobpjandjhjaaGreatDoorCG5
set_option maxRecDepth 20000
namespace Go.Proofs.YtfpobpjandjhjaaGreatDoor
open Go Pw
structure z3k_sh (p0 p1:Int)(K:Pw.T0)(w:World):Prop where
 out:cnd (decide (p0>=0))
  (K (decide (p0<=p1)) w)
  (K false w)
noncomputable def z3k_S:=sp [tI,tI] [tB] z3k_sh
theorem z3k_ok:okP 69 z3k_S:=okR (x:=fun _=>qr 1 (qs (A.reg (qn 3 (RA.spl 7 (qn 5 RA.done) (qk 3 (qn 2 RA.done))))) ql)) (Γ:=[]) trivial Tryz.call69 Tryz.func69 (fun _=>hEnd)
def z2v_b0 (p0:Sl)(p3:Nat)(p7:Sl)(p8 p9:Int)(N0:Sl->Nat->Sl->Int->Int->World->Prop)(K:Pw.T0)(w:World):Prop :=
 cnd (decide (p9<p8))
 (nz p7.p fun a2=>(0<=p9/\p9<(p7.l:Nat))/\lI w (a2.add (p9.toNat*1)) fun x3=>(∃ l:List (Int × Value),Mp w p3 .i64 l)/\let w4:=w.mset p3 .i64 x3 (.bool true)
 inR .i64 (p9+1)/\N0 p0 p3 p7 p8 (p9+1) w4)
 (∃ c5:Nat,Ml w p3 c5/\K ((c5:Int) == (p0.l:Int)) w)
structure z2v_l0 (p0:Sl)(p3:Nat)(p7:Sl)(p8 p9:Int)(K:Pw.T0)(w:World):Prop where
 out:∃ (I:Int->World->Prop) (μ:Int->World->Nat),I p9 w/\∀ (p91:Int) (w1:World),I p91 w1 ->
  z2v_b0 p0 p3 p7 p8 p91 (fun p0' p3' p7' p8' p9' w'=>((p0'=p0/\p3'=p3/\p7'=p7/\p8'=p8/\True)/\I p9' w')/\μ p9' w'<μ p91 w1) K w1
structure z2v_sh (p0:Sl)(K:Pw.T0)(w:World):Prop where
 out:let w1:=w.alloc (Obj.map #[] 0)
  z2v_l0 p0 w.heap.size p0 (p0.l:Int) 0 K w1
def z2v_L0 (Kv:VW):Cur [tL,tN,tL,tI,tI] WP:=fun p0 p3 p7 p8 p9=>z2v_l0 p0 p3 p7 p8 p9 (kk [tB] Kv)
noncomputable def z2v_S:=sp [tL] [tB] z2v_sh
theorem z2v_ok:okP 70 z2v_S:=okR (x:=fun Kv=>qr 1 (qr 2 (qs (qr 3 (qb (A.loop [0,3,7,8,9] (uR0 [tL,tN,tL,tI,tI] (z2v_L0 Kv)) (qr 1 (qs (qc ql ql) (qs (qb (qr 3 (qe 3))) (qe 2))))))) (qr 6 ql)))) (Γ:=[]) trivial Tryz.call70 Tryz.func70 (fun Kv=>q07 (q0a (L:=z2v_L0 Kv) (fun N0 p0 p3 p7 p8 p9=>z2v_b0 p0 p3 p7 p8 p9 N0 (kk [tB] Kv)) (fun⟨a0,a1,a2,a3,_,_⟩ _ h=>let ⟨I,μ,h0,hr⟩:=h.out; ⟨fun b0 b1 b2 b3 b4 w=>(b0=a0/\b1=a1/\b2=a2/\b3=a3/\True)/\I b4 w,fun _ _ _ _ b4 w=>μ b4 w,⟨⟨rfl,rfl,rfl,rfl,trivial⟩,h0⟩,fun⟨_,_,_,_,_,_⟩ _ ⟨⟨e0,e1,e2,e3,_⟩,hI⟩=>by cases e0; cases e1; cases e2; cases e3; exact hr _ _ hI⟩)) <| hEnd)
structure z3a_sh (p0:Int)(p1:Addr)(K:Pw.T0)(w:World):Prop where
 out:∃ x1:Option Nat,w.cell? p1=some (.map x1)/\nzm x1 fun m2=>∃ l3:List (Int × Bool),Mp w m2 .i64 (l3.map fun p=>(p.1,Value.bool p.2))/\K (!(q10 false p0 l3)) w
noncomputable def z3a_S:=sp [tI,tQ] [tB] z3a_sh
theorem z3a_ok:okP 72 z3a_S:=okR (x:=fun _=>qr 1 (qr 5 ql)) (Γ:=[]) trivial Tryz.call72 Tryz.func72 (fun _=>hEnd)
def z3u_b2 (p3:Addr)(p83:Sl)(p84 p85:Int)(N2:Pw.T32)(K:Pw.T0)(w:World):Prop :=
 cnd (decide (p85<p84))
 (nz p83.p fun a44=>(0<=p85/\p85<(p83.l:Nat))/\lI w (a44.add (p85.toNat*3)) fun x45=>∃ x46:Sl,w.cell? ((a44.add (p85.toNat*3)).add 1)=some (vS x46)/\∃ x47:Int,w.cell? ((a44.add (p85.toNat*3)).add 2)=some (vI x47)/\let w48:=w.alloc (.cells #[(vI 0),vN,(vI 0)] 81)
 stN w48 (hA w 0) [(vI x45),(vS x46),(vI x47)] fun w49=>lS w49 (hA w 1) fun x50=>cnd ((x50.l:Int) == 0)
 (K false w49)
 (lS w49 (hA w 1) fun x51=>z2v_sh x51 (fun r53 w52=>cnd (!r53)
 (K false w52)
 (lI w52 (hA w 2) fun x54=>z3k_sh x54 1000000000 (fun r56 w55=>cnd (!r56)
 (K false w55)
 (lS w55 (hA w 1) fun x57=>z1d_sh x57 (Value.func (.func 72) #[] #[(.pointer (some p3))]) (fun r59 w58=>cnd r59
 (K false w58)
 (inR .i64 (p85+1)/\N2 p3 p83 p84 (p85+1) w58)) w55)) w52)) w49))
 (K true w)
structure z3u_l2 (p3:Addr)(p83:Sl)(p84 p85:Int)(K:Pw.T0)(w:World):Prop where
 out:∃ (I:Int->World->Prop) (μ:Int->World->Nat),I p85 w/\∀ (p851:Int) (w1:World),I p851 w1 ->
  z3u_b2 p3 p83 p84 p851 (fun p3' p83' p84' p85' w'=>((p3'=p3/\p83'=p83/\p84'=p84/\True)/\I p85' w')/\μ p85' w'<μ p851 w1) K w1
def z3u_b1 (p1 p3:Addr)(p58:Sl)(p59 p60:Int)(N1:Pw.T40)(K:Pw.T0)(w:World):Prop :=
 cnd (decide (p60<p59))
 (nz p58.p fun a26=>(0<=p60/\p60<(p58.l:Nat))/\lI w (a26.add (p60.toNat*4)) fun x27=>∃ x28:Int,w.cell? ((a26.add (p60.toNat*4)).add 1)=some (vI x28)/\∃ x29:Int,w.cell? ((a26.add (p60.toNat*4)).add 2)=some (vI x29)/\∃ x30:Int,w.cell? ((a26.add (p60.toNat*4)).add 3)=some (vI x30)/\let w31:=w.alloc (.cells #[(vI 0),(vI 0),(vI 0),(vI 0)] 57)
 stN w31 (hA w 0) [(vI x27),(vI x28),(vI x29),(vI x30)] fun w32=>∃ x33:Option Nat,w32.cell? p3=some (.map x33)/\lI w32 (hA w 0) fun x34=>nzm x33 fun m35=>∃ l36:List (Int × Bool),Mp w32 m35 .i64 (l36.map fun p=>(p.1,Value.bool p.2))/\cnd (!(q10 false x34 l36))
 (K false w32)
 (lI w32 (hA w 2) fun x37=>z3k_sh x37 1000000000 (fun r39 w38=>cnd (!r39)
 (K false w38)
 (lI w38 (hA w 3) fun x40=>z3k_sh x40 1000000 (fun r42 w41=>cnd (!r42)
 (K false w41)
 (inR .i64 (p60+1)/\N1 p1 p3 p58 p59 (p60+1) w41)) w38)) w32))
 (lS w (p1.add 2) fun x43=>z3u_l2 p3 x43 (x43.l:Int) 0 K w)
structure z3u_l1 (p1 p3:Addr)(p58:Sl)(p59 p60:Int)(K:Pw.T0)(w:World):Prop where
 out:∃ (I:Int->World->Prop) (μ:Int->World->Nat),I p60 w/\∀ (p601:Int) (w1:World),I p601 w1 ->
  z3u_b1 p1 p3 p58 p59 p601 (fun p1' p3' p58' p59' p60' w'=>((p1'=p1/\p3'=p3/\p58'=p58/\p59'=p59/\True)/\I p60' w')/\μ p60' w'<μ p601 w1) K w1
def z3u_b0 (p1 p3:Addr)(p48:Sl)(p49 p50:Int)(N0:Pw.T40)(K:Pw.T0)(w:World):Prop :=
 cnd (decide (p50<p49))
 (nz p48.p fun a20=>(0<=p50/\p50<(p48.l:Nat))/\lI w (a20.add (p50.toNat*1)) fun x21=>∃ x22:Option Nat,w.cell? p3=some (.map x22)/\nzm x22 fun m23=>(∃ l:List (Int × Value),Mp w m23 .i64 l)/\let w24:=w.mset m23 .i64 x21 (.bool true)
 inR .i64 (p50+1)/\N0 p1 p3 p48 p49 (p50+1) w24)
 (lS w (p1.add 1) fun x25=>z3u_l1 p1 p3 x25 (x25.l:Int) 0 K w)
structure z3u_l0 (p1 p3:Addr)(p48:Sl)(p49 p50:Int)(K:Pw.T0)(w:World):Prop where
 out:∃ (I:Int->World->Prop) (μ:Int->World->Nat),I p50 w/\∀ (p501:Int) (w1:World),I p501 w1 ->
  z3u_b0 p1 p3 p48 p49 p501 (fun p1' p3' p48' p49' p50' w'=>((p1'=p1/\p3'=p3/\p48'=p48/\p49'=p49/\True)/\I p50' w')/\μ p50' w'<μ p501 w1) K w1
structure z3u_sh (p0_0 p0_1 p0_2:Sl)(p0_3 p0_4:Int)(K:Pw.T0)(w:World):Prop where
 out:let w1:=w.alloc (.cells #[(vS p0_0),(vS p0_1),(vS p0_2),(vI p0_3),(vI p0_4)] 28)
  lS w1 (hA w 0) fun x2=>inR .i64 ((x2.l:Int)-1)/\z3k_sh ((x2.l:Int)-1) 11 (fun r4 w3=>cnd (!r4)
  (K false w3)
  (lS w3 (hA w 0) fun x5=>z2v_sh x5 (fun r7 w6=>cnd (!r7)
  (K false w6)
  (lS w6 (hA w 1) fun x8=>cnd (decide ((x8.l:Int)>480))
  (K false w6)
  (lS w6 (hA w 2) fun x9=>cnd (decide ((x9.l:Int)>100))
  (K false w6)
  (lI w6 (hA w 3) fun x10=>z3k_sh x10 1000000000 (fun r12 w11=>cnd (!r12)
  (K false w11)
  (lI w11 (hA w 4) fun x13=>z3k_sh x13 1000000000 (fun r15 w14=>cnd (!r15)
  (K false w14)
  (let w16:=w14.alloc (Obj.map #[] 0)
  let w17:=w16.alloc (.cells #[(.map none)] 88)
  wrOk w17 (hA w16 0)/\
  (let w18:=w17.setCell (hA w16 0) (.map (some w14.heap.size))
  lS w18 (hA w 0) fun x19=>z3u_l0 (hA w 0) (hA w16 0) x19 (x19.l:Int) 0 K w18))) w11)) w6)))) w3)) w1
def z3u_L0 (Kv:VW):Cur [tQ,tQ,tL,tI,tI] WP:=fun p1 p3 p48 p49 p50=>z3u_l0 p1 p3 p48 p49 p50 (kk [tB] Kv)
def z3u_L1 (Kv:VW):Cur [tQ,tQ,tL,tI,tI] WP:=fun p1 p3 p58 p59 p60=>z3u_l1 p1 p3 p58 p59 p60 (kk [tB] Kv)
def z3u_L2 (Kv:VW):Cur [tQ,tL,tI,tI] WP:=fun p3 p83 p84 p85=>z3u_l2 p3 p83 p84 p85 (kk [tB] Kv)
noncomputable def z3u_S:=sp [.g 5,tL,tL,tL,tI,tI] [tB] z3u_sh
theorem z3u_ok:okP 36 z3u_S:=okR (x:=fun Kv=>qr 2 (qs (qs (A.reg (qn 7 (RA.spl 16 (qk 4 (qn 2 (qk 4 (qn 2 (qk 4 (qn 2 (qk 4 (qn 2 (qk 4 (qn 1 RA.done)))))))))) (qn 6 (RA.spl 22 (qk 4 (qn 2 (qk 4 (qn 2 (qk 4 (qn 2 (qk 4 (qn 1 RA.done)))))))) (qn 6 (RA.spl 28 (qk 4 (qn 2 (qk 4 (qn 2 (qk 4 (qn 1 RA.done)))))) (qn 6 (RA.spl 34 (qk 4 (qn 2 (qk 4 (qn 1 RA.done)))) (qn 6 (RA.spl 40 (qk 4 (qn 1 RA.done)) (qn 5 RA.done)))))))))))) (qc (qr 1 ql) ql)) (qr 3 (qs (qr 4 (qb (A.loop [1,3,48,49,50] (uR0 [tQ,tQ,tL,tI,tI] (z3u_L0 Kv)) (qr 1 (qs (qc ql ql) (qs (qb (qr 3 (qe 3))) (qe 2))))))) (qs (qr 4 (qb (A.loop [1,3,58,59,60] (uR0 [tQ,tQ,tL,tI,tI] (z3u_L1 Kv)) (qr 1 (qs (qc ql ql) (qs (qb (qr 4 (qs (A.reg (qn 6 (RA.spl 69 (qk 4 (qn 2 (qk 4 (qn 1 RA.done)))) (qn 6 (RA.spl 75 (qk 4 (qn 1 RA.done)) (qn 5 RA.done)))))) (qc (qr 1 ql) ql)))) (qe 2))))))) (qs (qr 4 (qb (A.loop [3,83,84,85] (uR0 [tQ,tL,tI,tI] (z3u_L2 Kv)) (qr 1 (qs (qc ql ql) (qs (qb (qr 4 (qs (A.reg (qn 5 (RA.spl 93 (qk 4 (qn 2 (qk 4 (qn 2 (qk 4 (qn 1 RA.done)))))) (qn 6 (RA.spl 99 (qk 4 (qn 2 (qk 4 (qn 1 RA.done)))) (qn 6 (RA.spl 105 (qk 4 (qn 1 RA.done)) (qn 5 RA.done)))))))) (qc (qr 1 ql) ql)))) (qe 2))))))) (qr 1 ql))))))) (Γ:=[(69,z3k_S),(70,z2v_S),(71,z1d_S)]) ⟨.inl z3k_ok,.inl z2v_ok,.inl z1d_ok,trivial⟩ Tryz.call36 Tryz.func36 (fun Kv=>q07 (q0a (L:=z3u_L0 Kv) (fun N0 p1 p3 p48 p49 p50=>z3u_b0 p1 p3 p48 p49 p50 N0 (kk [tB] Kv)) (fun⟨a0,a1,a2,a3,_,_⟩ _ h=>let ⟨I,μ,h0,hr⟩:=h.out; ⟨fun b0 b1 b2 b3 b4 w=>(b0=a0/\b1=a1/\b2=a2/\b3=a3/\True)/\I b4 w,fun _ _ _ _ b4 w=>μ b4 w,⟨⟨rfl,rfl,rfl,rfl,trivial⟩,h0⟩,fun⟨_,_,_,_,_,_⟩ _ ⟨⟨e0,e1,e2,e3,_⟩,hI⟩=>by cases e0; cases e1; cases e2; cases e3; exact hr _ _ hI⟩)) <| q07 (q0a (L:=z3u_L1 Kv) (fun N1 p1 p3 p58 p59 p60=>z3u_b1 p1 p3 p58 p59 p60 N1 (kk [tB] Kv)) (fun⟨a0,a1,a2,a3,_,_⟩ _ h=>let ⟨I,μ,h0,hr⟩:=h.out; ⟨fun b0 b1 b2 b3 b4 w=>(b0=a0/\b1=a1/\b2=a2/\b3=a3/\True)/\I b4 w,fun _ _ _ _ b4 w=>μ b4 w,⟨⟨rfl,rfl,rfl,rfl,trivial⟩,h0⟩,fun⟨_,_,_,_,_,_⟩ _ ⟨⟨e0,e1,e2,e3,_⟩,hI⟩=>by cases e0; cases e1; cases e2; cases e3; exact hr _ _ hI⟩)) <| q07 (q0a (L:=z3u_L2 Kv) (fun N2 p3 p83 p84 p85=>z3u_b2 p3 p83 p84 p85 N2 (kk [tB] Kv)) (fun⟨a0,a1,a2,_,_⟩ _ h=>let ⟨I,μ,h0,hr⟩:=h.out; ⟨fun b0 b1 b2 b3 w=>(b0=a0/\b1=a1/\b2=a2/\True)/\I b3 w,fun _ _ _ b3 w=>μ b3 w,⟨⟨rfl,rfl,rfl,trivial⟩,h0⟩,fun⟨_,_,_,_,_⟩ _ ⟨⟨e0,e1,e2,_⟩,hI⟩=>by cases e0; cases e1; cases e2; exact hr _ _ hI⟩)) <| hEnd)
def z3j_b0 (p2:Addr)(p13:Sl)(p14 p15:Int)(N0:Pw.T32)(K:Pw.T0)(w:World):Prop :=
 cnd (decide (p15<p14))
 (nz p13.p fun a3=>(0<=p15/\p15<(p13.l:Nat))/\∃ x4:Int,w.cell? (a3.add (p15.toNat*1))=some (vI x4)/\let w5:=w.drew
 cnd (decide (x4<(-1)))
 (K false w5)
 (lS w5 (p2.add 1) fun x6=>cnd (decide (x4>=(x6.l:Int)))
 (K false w5)
 (cnd (decide (x4>=0))
 (lS w5 (p2.add 1) fun x7=>nz x7.p fun a8=>(0<=x4/\x4<(x7.l:Nat))/\lI w5 (a8.add (x4.toNat*4)) fun x9=>lS w5 p2 fun x10=>nz x10.p fun a11=>(0<=p15/\p15<(x10.l:Nat))/\lI w5 (a11.add (p15.toNat*1)) fun x12=>cnd (x9 != x12)
 (K false w5)
 (inR .i64 (p15+1)/\N0 p2 p13 p14 (p15+1) w5))
 (inR .i64 (p15+1)/\N0 p2 p13 p14 (p15+1) w5))))
 (K true w)
structure z3j_l0 (p2:Addr)(p13:Sl)(p14 p15:Int)(K:Pw.T0)(w:World):Prop where
 out:∃ (I:Int->World->Prop) (μ:Int->World->Nat),I p15 w/\∀ (p151:Int) (w1:World),I p151 w1 ->
  z3j_b0 p2 p13 p14 p151 (fun p2' p13' p14' p15' w'=>((p2'=p2/\p13'=p13/\p14'=p14/\True)/\I p15' w')/\μ p15' w'<μ p151 w1) K w1
structure z3j_sh (p0_0 p0_1 p0_2:Sl)(p0_3 p0_4:Int)(p1:Sl)(K:Pw.T0)(w:World):Prop where
 out:let w1:=w.alloc (.cells #[(vS p0_0),(vS p0_1),(vS p0_2),(vI p0_3),(vI p0_4)] 28)
  lS w1 (hA w 0) fun x2=>cnd (decide ((p1.l:Int)>(x2.l:Int)))
  (K false w1)
  (z3j_l0 (hA w 0) p1 (p1.l:Int) 0 K w1)
def z3j_L0 (Kv:VW):Cur [tQ,tL,tI,tI] WP:=fun p2 p13 p14 p15=>z3j_l0 p2 p13 p14 p15 (kk [tB] Kv)
noncomputable def z3j_S:=sp [.g 5,tL,tL,tL,tI,tI,tL] [tB] z3j_sh
theorem z3j_ok:okP 37 z3j_S:=okR (x:=fun Kv=>qr 2 (qs (qr 6 (qc (qr 1 ql) ql)) (qs (qr 3 (qb (A.loop [2,13,14,15] (uR0 [tQ,tL,tI,tI] (z3j_L0 Kv)) (qr 1 (qs (qc ql ql) (qs (qb (qr 5 (qs (A.drp (dp [0,1,2] (DA.spl 22 (DA.skp 3 (DA.skp 4 (DA.skp 5 (DA.skp 6 (DA.skp 7 (dp [8,9] (DA.skp 10 (DA.skp 11 (DA.skp 12 (DA.skp 13 (DA.skp 14 (DA.skp 15 (DA.skp 16 (DA.skp 17 (DA.skp 18 (DA.skp 19 (DA.skp 20 (DA.skp 21 (DA.skp 22 (DA.skp 23 (DA.skp 24 (DA.skp 25 (DA.pur 26 DA.done))))))))))))))))))))))) (dp [3,4,5,6,7,8,9] (DA.spl 29 (DA.skp 10 (DA.skp 11 (DA.skp 12 (DA.skp 13 (DA.skp 14 (DA.skp 15 (DA.skp 16 (DA.skp 17 (DA.skp 18 (DA.skp 19 (DA.skp 20 (DA.skp 21 (DA.skp 22 (DA.skp 23 (DA.skp 24 (DA.skp 25 (DA.pur 26 DA.done))))))))))))))))) (dp [10,11,12] (DA.spl 32 (dp [13,14,15,16,17,18,19,20,21,22,23,24,25,26] DA.done) (DA.skp 13 (DA.skp 14 (DA.skp 15 (DA.skp 16 (DA.skp 17 (DA.skp 18 (DA.skp 19 (DA.skp 20 (DA.skp 21 (DA.skp 22 (DA.skp 23 (DA.skp 24 (dp [25,26] DA.done)))))))))))))))))))) (qc (qr 1 ql) ql)))) (qe 2))))))) (qr 1 ql)))) (Γ:=[]) trivial Tryz.call37 Tryz.func37 (fun Kv=>q07 (q0a (L:=z3j_L0 Kv) (fun N0 p2 p13 p14 p15=>z3j_b0 p2 p13 p14 p15 N0 (kk [tB] Kv)) (fun⟨a0,a1,a2,_,_⟩ _ h=>let ⟨I,μ,h0,hr⟩:=h.out; ⟨fun b0 b1 b2 b3 w=>(b0=a0/\b1=a1/\b2=a2/\True)/\I b3 w,fun _ _ _ b3 w=>μ b3 w,⟨⟨rfl,rfl,rfl,trivial⟩,h0⟩,fun⟨_,_,_,_,_⟩ _ ⟨⟨e0,e1,e2,_⟩,hI⟩=>by cases e0; cases e1; cases e2; exact hr _ _ hI⟩)) <| hEnd)
structure z2m_sh (p0_0 p0_1:Int)(p0_2:Bool)(p1_0 p1_1:Int)(p2_0 p2_1:Int)(K:Pw.T3)(w:World):Prop where
 out:let w1:=w.alloc (.cells #[(vI p0_0),(vI p0_1),(.bool p0_2)] 128)
  let w2:=w1.alloc (.cells #[(vI p1_0),(vI p1_1)] 31)
  let w3:=w2.alloc (.cells #[(vI p2_0),(vI p2_1)] 31)
  let w4:=w3.alloc (.cells #[(vI 0),(vI 0),(.bool false)] 128)
  lI w4 (hA w1 0) fun x5=>lI w4 (hA w1 1) fun x6=>lI w4 (hA w2 0) fun x7=>lI w4 (hA w2 1) fun x8=>z4e_sh x5 x6 x7 x8 (fun r10_0 r10_1 r11 w9=>let w12:=w9.alloc (.cells #[(vI 0),(vI 0)] 31)
  wrOk w12 (hA w9 0)/\
  (let w13:=w12.setCell (hA w9 0) (vI r10_0)
  wrOk w13 (hA w9 1)/\
  (let w14:=w13.setCell (hA w9 1) (vI r10_1)
  lI w14 (hA w 0) fun x15=>lI w14 (hA w 1) fun x16=>lI w14 (hA w9 0) fun x17=>lI w14 (hA w9 1) fun x18=>z4c_sh x15 x16 x17 x18 (fun r20_0 r20_1 r21 w19=>let w22:=w19.alloc (.cells #[(vI 0),(vI 0)] 31)
  wrOk w22 (hA w19 0)/\
  (let w23:=w22.setCell (hA w19 0) (vI r20_0)
  wrOk w23 (hA w19 1)/\
  (let w24:=w23.setCell (hA w19 1) (vI r20_1)
  lI w24 (hA w19 0) fun x25=>lI w24 (hA w19 1) fun x26=>∃ x27:Bool,w24.cell? (hA w 2)=some (.bool x27)/\cnd x27
  (cnd r11
  (stN w24 (hA w3 0) [(vI x25),(vI x26),(.bool r21)] fun w28=>lI w28 (hA w3 0) fun x31=>lI w28 (hA w3 1) fun x32=>∃ x33:Bool,w28.cell? (hA w3 2)=some (.bool x33)/\K x31 x32 x33 w28)
  (stN w24 (hA w3 0) [(vI x25),(vI x26),(.bool false)] fun w29=>lI w29 (hA w3 0) fun x34=>lI w29 (hA w3 1) fun x35=>∃ x36:Bool,w29.cell? (hA w3 2)=some (.bool x36)/\K x34 x35 x36 w29))
  (stN w24 (hA w3 0) [(vI x25),(vI x26),(.bool false)] fun w30=>lI w30 (hA w3 0) fun x37=>lI w30 (hA w3 1) fun x38=>∃ x39:Bool,w30.cell? (hA w3 2)=some (.bool x39)/\K x37 x38 x39 w30)))) w14))) w4
noncomputable def z2m_S:=sp [.g 3,tI,tI,tB,.g 2,tI,tI,.g 2,tI,tI] [.g 3,tI,tI,tB] z2m_sh
theorem z2m_ok:okP 76 z2m_S:=okR (x:=fun _=>qr 4 (qr 9 (qr 10 (qs (A.reg (qn 4 (RA.spl 27 (qn 3 (RA.spl 30 (qn 4 RA.done) (qk 1 (qn 3 RA.done)))) (qk 1 (qn 2 (qk 1 (qn 3 RA.done))))))) ql)))) (Γ:=[(78,z4c_S),(124,z4e_S)]) ⟨.inl z4c_ok,.inl z4e_ok,trivial⟩ Tryz.call76 Tryz.func76 (fun _=>hEnd)
structure z3h_sh (p0_0 p0_1:Int)(p0_2 p0_3:Int)(p1 p2:Addr)(K:Pw.T0)(w:World):Prop where
 out:let w1:=w.alloc (.cells #[(vI p0_0),(vI p0_1),(vI p0_2),(vI p0_3)] 57)
  lI w1 (hA w 0) fun x2=>lI w1 p1 fun x3=>cnd (x2 == x3)
  (lI w1 (hA w 1) fun x4=>lI w1 p2 fun x5=>K (x4 == x5) w1)
  (K false w1)
noncomputable def z3h_S:=sp [.g 4,tI,tI,tI,tI,tQ,tQ] [tB] z3h_sh
theorem z3h_ok:okP 133 z3h_S:=okR (x:=fun _=>qr 2 (qs (A.reg (qn 5 (RA.spl 9 (qn 7 RA.done) (qk 5 (qn 2 RA.done))))) ql)) (Γ:=[]) trivial Tryz.call133 Tryz.func133 (fun _=>hEnd)
def z45_b2 (p1:Sl)(p2:Addr)(p5:Nat)(p8:Int)(p10:Addr)(p28:Sl)(p29 p30:Int)(p35:Sl)(p36 p37:Int)(N2:Sl->Addr->Nat->Int->Addr->Sl->Int->Int->Sl->Int->Int->World->Prop)(N1:Pw.T24)(K:Pw.T1)(w:World):Prop :=
 cnd (decide (p37<p36))
 (nz p35.p fun a15=>(0<=p37/\p37<(p35.l:Nat))/\∃ x16:Int,w.cell? (a15.add (p37.toNat*1))=some (vI x16)/\let w17:=w.alloc (.cells #[(vI 0)] 3)
 wrOk w17 (hA w 0)/\
 (let w18:=w17.setCell (hA w 0) (vI x16)
 lI w18 (hA w 0) fun x19=>∃ l20:List (Int × Int),Mp w18 p5 .i64 (l20.map fun p=>(p.1,Value.int .i64 p.2))/\cnd (decide ((q10 0 x19 l20)<(p1.l:Int)))
 (let w21:=w18.drew
 nz p1.p fun a22=>(0<=(q10 0 x19 l20)/\(q10 0 x19 l20)<(p1.l:Nat))/\∃ x23:Int,w21.cell? (a22.add ((q10 0 x19 l20).toNat*1))=some (vI x23)/\cnd (decide (x23<0))
 (inR .i64 (p30+1)/\N1 p1 p2 p5 p8 p28 p29 (p30+1) w21)
 (lS w21 (p2.add 1) fun x24=>nz p1.p fun a25=>(0<=(q10 0 x19 l20)/\(q10 0 x19 l20)<(p1.l:Nat))/\∃ x26:Int,w21.cell? (a25.add ((q10 0 x19 l20).toNat*1))=some (vI x26)/\nz x24.p fun a27=>(0<=x26/\x26<(x24.l:Nat))/\∃ x28:Int,w21.cell? ((a27.add (x26.toNat*4)).add 1)=some (vI x28)/\lI w21 p10 fun x29=>cnd (x28 != x29)
 (inR .i64 (p30+1)/\N1 p1 p2 p5 p8 p28 p29 (p30+1) w21)
 (inR .i64 (p37+1)/\N2 p1 p2 p5 p8 p10 p28 p29 p30 p35 p36 (p37+1) w21)))
 (lS w18 (p2.add 1) fun x30=>z00_sh x30 (Value.func (.func 133) #[] #[(.pointer (some (hA w 0))),(.pointer (some p10))]) (fun r32 w31=>cnd (!r32)
 (inR .i64 (p30+1)/\N1 p1 p2 p5 p8 p28 p29 (p30+1) w31)
 (inR .i64 (p37+1)/\N2 p1 p2 p5 p8 p10 p28 p29 p30 p35 p36 (p37+1) w31)) w18)))
 (lI w (p10.add 2) fun x33=>inR .i64 (p8+x33)/\inR .i64 (p30+1)/\N1 p1 p2 p5 (p8+x33) p28 p29 (p30+1) w)
structure z45_l2 (p1:Sl)(p2:Addr)(p5:Nat)(p8:Int)(p10:Addr)(p28:Sl)(p29 p30:Int)(p35:Sl)(p36 p37:Int)(N1:Pw.T24)(K:Pw.T1)(w:World):Prop where
 out:∃ (I:Int->World->Prop) (μ:Int->World->Nat),I p37 w/\∀ (p371:Int) (w1:World),I p371 w1 ->
  z45_b2 p1 p2 p5 p8 p10 p28 p29 p30 p35 p36 p371 (fun p1' p2' p5' p8' p10' p28' p29' p30' p35' p36' p37' w'=>((p1'=p1/\p2'=p2/\p5'=p5/\p8'=p8/\p10'=p10/\p28'=p28/\p29'=p29/\p30'=p30/\p35'=p35/\p36'=p36/\True)/\I p37' w')/\μ p37' w'<μ p371 w1) N1 K w1
def z45_b1 (p1:Sl)(p2:Addr)(p5:Nat)(p8:Int)(p28:Sl)(p29 p30:Int)(N1:Pw.T24)(K:Pw.T1)(w:World):Prop :=
 cnd (decide (p30<p29))
 (nz p28.p fun a8=>(0<=p30/\p30<(p28.l:Nat))/\lI w (a8.add (p30.toNat*3)) fun x9=>∃ x10:Sl,w.cell? ((a8.add (p30.toNat*3)).add 1)=some (vS x10)/\∃ x11:Int,w.cell? ((a8.add (p30.toNat*3)).add 2)=some (vI x11)/\let w12:=w.alloc (.cells #[(vI 0),vN,(vI 0)] 81)
 stN w12 (hA w 0) [(vI x9),(vS x10),(vI x11)] fun w13=>lS w13 (hA w 1) fun x14=>z45_l2 p1 p2 p5 p8 (hA w 0) p28 p29 p30 x14 (x14.l:Int) 0 N1 K w13)
 (K p8 w)
structure z45_l1 (p1:Sl)(p2:Addr)(p5:Nat)(p8:Int)(p28:Sl)(p29 p30:Int)(K:Pw.T1)(w:World):Prop where
 out:∃ (I:Int->Int->World->Prop) (μ:Int->Int->World->Nat),I p8 p30 w/\∀ (p81 p301:Int) (w1:World),I p81 p301 w1 ->
  z45_b1 p1 p2 p5 p81 p28 p29 p301 (fun p1' p2' p5' p8' p28' p29' p30' w'=>((p1'=p1/\p2'=p2/\p5'=p5/\p28'=p28/\p29'=p29/\True)/\I p8' p30' w')/\μ p8' p30' w'<μ p81 p301 w1) K w1
def z45_b0 (p1:Sl)(p2:Addr)(p5:Nat)(p16:Sl)(p17 p18:Int)(N0:Sl->Addr->Nat->Sl->Int->Int->World->Prop)(K:Pw.T1)(w:World):Prop :=
 cnd (decide (p18<p17))
 (nz p16.p fun a4=>(0<=p18/\p18<(p16.l:Nat))/\lI w (a4.add (p18.toNat*1)) fun x5=>(∃ l:List (Int × Value),Mp w p5 .i64 l)/\let w6:=w.mset p5 .i64 x5 (vI p18)
 inR .i64 (p18+1)/\N0 p1 p2 p5 p16 p17 (p18+1) w6)
 (lS w (p2.add 2) fun x7=>z45_l1 p1 p2 p5 0 x7 (x7.l:Int) 0 K w)
structure z45_l0 (p1:Sl)(p2:Addr)(p5:Nat)(p16:Sl)(p17 p18:Int)(K:Pw.T1)(w:World):Prop where
 out:∃ (I:Int->World->Prop) (μ:Int->World->Nat),I p18 w/\∀ (p181:Int) (w1:World),I p181 w1 ->
  z45_b0 p1 p2 p5 p16 p17 p181 (fun p1' p2' p5' p16' p17' p18' w'=>((p1'=p1/\p2'=p2/\p5'=p5/\p16'=p16/\p17'=p17/\True)/\I p18' w')/\μ p18' w'<μ p181 w1) K w1
structure z45_sh (p0_0 p0_1 p0_2:Sl)(p0_3 p0_4:Int)(p1:Sl)(K:Pw.T1)(w:World):Prop where
 out:let w1:=w.alloc (.cells #[(vS p0_0),(vS p0_1),(vS p0_2),(vI p0_3),(vI p0_4)] 28)
  let w2:=w1.alloc (Obj.map #[] 0)
  lS w2 (hA w 0) fun x3=>z45_l0 p1 (hA w 0) w1.heap.size x3 (x3.l:Int) 0 K w2
def z45_L0 (Kv:VW):Cur [tL,tQ,tN,tL,tI,tI] WP:=fun p1 p2 p5 p16 p17 p18=>z45_l0 p1 p2 p5 p16 p17 p18 (kk [tI] Kv)
def z45_L1 (Kv:VW):Cur [tL,tQ,tN,tI,tL,tI,tI] WP:=fun p1 p2 p5 p8 p28 p29 p30=>z45_l1 p1 p2 p5 p8 p28 p29 p30 (kk [tI] Kv)
def z45_L2 (Kv:VW):Cur [tL,tQ,tN,tI,tL,tI,tI] WP->Cur [tL,tQ,tN,tI,tQ,tL,tI,tI,tL,tI,tI] WP:=fun N1 p1 p2 p5 p8 p10 p28 p29 p30 p35 p36 p37=>z45_l2 p1 p2 p5 p8 p10 p28 p29 p30 p35 p36 p37 N1 (kk [tI] Kv)
noncomputable def z45_S:=sp [.g 5,tL,tL,tL,tI,tI,tL] [tI] z45_sh
theorem z45_ok:okP 79 z45_S:=okR (x:=fun Kv=>qr 2 (qb (qr 2 (qs (qr 4 (qb (A.loop [1,2,5,16,17,18] (uR0 [tL,tQ,tN,tL,tI,tI] (z45_L0 Kv)) (qr 1 (qs (qc ql ql) (qs (qb (qr 5 (qe 4))) (qe 2))))))) (qr 1 (qs ql (qs (qr 4 (qb (A.loop [1,2,5,8,28,29,30] (uR0 [tL,tQ,tN,tI,tL,tI,tI] (z45_L1 Kv)) (qr 1 (qs (qc ql ql) (qs (qb (qr 4 (qs (qr 4 (qb (A.loop [1,2,5,8,10,28,29,30,35,36,37] (uR1 [tL,tQ,tN,tI,tL,tI,tI] [tL,tQ,tN,tI,tQ,tL,tI,tI,tL,tI,tI] (z45_L2 Kv)) (qr 1 (qs (qc ql ql) (qs (qb (qr 4 (qr 4 (qr 4 (qc (qs (A.drp (dp [0,1,2,3,4,5] (DA.spl 53 (DA.skp 6 (DA.skp 7 (DA.skp 8 (DA.skp 9 (DA.skp 10 (DA.skp 11 (DA.skp 12 (DA.skp 13 (DA.skp 14 (DA.skp 15 (DA.skp 16 (DA.skp 17 (DA.pur 18 DA.done))))))))))))) (dp [6,7,8,9,10,11,12,13,14,15,16,17,18] DA.done)))) (qc ql ql)) (qr 5 (qc ql ql))))))) (qe 2))))))) (qe 5)))) (qe 2))))))) (qr 2 ql)))))))) (Γ:=[(132,z00_S)]) ⟨.inl z00_ok,trivial⟩ Tryz.call79 Tryz.func79 (fun Kv=>q07 (q0a (L:=z45_L0 Kv) (fun N0 p1 p2 p5 p16 p17 p18=>z45_b0 p1 p2 p5 p16 p17 p18 N0 (kk [tI] Kv)) (fun⟨a0,a1,a2,a3,a4,_,_⟩ _ h=>let ⟨I,μ,h0,hr⟩:=h.out; ⟨fun b0 b1 b2 b3 b4 b5 w=>(b0=a0/\b1=a1/\b2=a2/\b3=a3/\b4=a4/\True)/\I b5 w,fun _ _ _ _ _ b5 w=>μ b5 w,⟨⟨rfl,rfl,rfl,rfl,rfl,trivial⟩,h0⟩,fun⟨_,_,_,_,_,_,_⟩ _ ⟨⟨e0,e1,e2,e3,e4,_⟩,hI⟩=>by cases e0; cases e1; cases e2; cases e3; cases e4; exact hr _ _ hI⟩)) <| q07 (q0a (L:=z45_L1 Kv) (fun N1 p1 p2 p5 p8 p28 p29 p30=>z45_b1 p1 p2 p5 p8 p28 p29 p30 N1 (kk [tI] Kv)) (fun⟨a0,a1,a2,_,a4,a5,_,_⟩ _ h=>let ⟨I,μ,h0,hr⟩:=h.out; ⟨fun b0 b1 b2 b3 b4 b5 b6 w=>(b0=a0/\b1=a1/\b2=a2/\b4=a4/\b5=a5/\True)/\I b3 b6 w,fun _ _ _ b3 _ _ b6 w=>μ b3 b6 w,⟨⟨rfl,rfl,rfl,rfl,rfl,trivial⟩,h0⟩,fun⟨_,_,_,_,_,_,_,_⟩ _ ⟨⟨e0,e1,e2,e4,e5,_⟩,hI⟩=>by cases e0; cases e1; cases e2; cases e4; cases e5; exact hr _ _ _ hI⟩)) <| q07 (q3q (L:=z45_L2 Kv) (fun N1 N2 p1 p2 p5 p8 p10 p28 p29 p30 p35 p36 p37=>z45_b2 p1 p2 p5 p8 p10 p28 p29 p30 p35 p36 p37 N2 N1 (kk [tI] Kv)) (fun _ ⟨a0,a1,a2,a3,a4,a5,a6,a7,a8,a9,_,_⟩ _ h=>let ⟨I,μ,h0,hr⟩:=h.out; ⟨fun b0 b1 b2 b3 b4 b5 b6 b7 b8 b9 b10 w=>(b0=a0/\b1=a1/\b2=a2/\b3=a3/\b4=a4/\b5=a5/\b6=a6/\b7=a7/\b8=a8/\b9=a9/\True)/\I b10 w,fun _ _ _ _ _ _ _ _ _ _ b10 w=>μ b10 w,⟨⟨rfl,rfl,rfl,rfl,rfl,rfl,rfl,rfl,rfl,rfl,trivial⟩,h0⟩,fun⟨_,_,_,_,_,_,_,_,_,_,_,_⟩ _ ⟨⟨e0,e1,e2,e3,e4,e5,e6,e7,e8,e9,_⟩,hI⟩=>by cases e0; cases e1; cases e2; cases e3; cases e4; cases e5; cases e6; cases e7; cases e8; cases e9; exact hr _ _ hI⟩)) <| hEnd)
structure z3t_k6 (p1:Sl)(p3 p5 p8:Addr)(p9 p10:Int)(p11 p14:Addr)(p25:Sl)(p26 p27:Int)(p34:Sl)(p35 p36:Int)(N2:Pw.T7)(N1:Pw.T10)(K:Pw.T2)(w:World):Prop where
 out:lI w p14 fun x97=>lI w (p14.add 1) fun x98=>wrOk w p11/\
  (let w99:=w.setCell p11 (vI x97)
  wrOk w99 (p11.add 1)/\
  (let w100:=w99.setCell (p11.add 1) (vI x98)
  inR .i64 (p36+1)/\N2 p1 p3 p5 p8 p9 p10 p11 p25 p26 p27 p34 p35 (p36+1) w100))
structure z3t_k5 (p1:Sl)(p3 p5 p8:Addr)(p9 p10:Int)(p11 p14:Addr)(p25:Sl)(p26 p27:Int)(p34:Sl)(p35 p36:Int)(N2:Pw.T7)(N1:Pw.T10)(K:Pw.T2)(w:World):Prop where
 out:cnd (decide (p9<(p1.l:Int)))
  (z3t_k6 p1 p3 p5 p8 p9 p10 p11 p14 p25 p26 p27 p34 p35 p36 N2 N1 K w)
  (lI w p14 fun x91=>lI w (p14.add 1) fun x92=>lI w p11 fun x93=>lI w (p11.add 1) fun x94=>z4d_sh x91 x92 x93 x94 (fun r96 w95=>cnd (decide (r96>0))
  (z3t_k6 p1 p3 p5 p8 p9 p10 p11 p14 p25 p26 p27 p34 p35 p36 N2 N1 K w95)
  (inR .i64 (p36+1)/\N2 p1 p3 p5 p8 p9 p10 p11 p25 p26 p27 p34 p35 (p36+1) w95)) w)
structure z3t_k4 (p1:Sl)(p3 p5 p8:Addr)(p9 p10:Int)(p11 p14:Addr)(p25:Sl)(p26 p27:Int)(p34:Sl)(p35 p36:Int)(N2:Pw.T7)(N1:Pw.T10)(K:Pw.T2)(w:World):Prop where
 out:∃ x87:Bool,w.cell? (p8.add 2)=some (.bool x87)/\cnd x87
  (∃ x88:Bool,w.cell? (p14.add 2)=some (.bool x88)/\wrOk w (p8.add 2)/\
  (let w89:=w.setCell (p8.add 2) (.bool x88)
  z3t_k5 p1 p3 p5 p8 p9 p10 p11 p14 p25 p26 p27 p34 p35 p36 N2 N1 K w89))
  (wrOk w (p8.add 2)/\
  (let w90:=w.setCell (p8.add 2) (.bool false)
  z3t_k5 p1 p3 p5 p8 p9 p10 p11 p14 p25 p26 p27 p34 p35 p36 N2 N1 K w90))
def z3t_k3d (p1:Sl)(p3 p5 p8:Addr)(p9 p10:Int)(p11 p13:Addr)(p25:Sl)(p26 p27:Int)(p34:Sl)(p35 p36:Int)(N2:Pw.T7)(N1:Pw.T10)(K:Pw.T2)(w:World):Prop :=
 let w53:=w.drew
 ∃ S54:World->Prop,S54 w53/\mI S54 (p13.add 3) fun x55=>mI S54 (p3.add 4) fun x56=>inR .i64 (x56+1)/\inR .i64 (x55*(x56+1))/\mI S54 (p13.add 2) fun x57=>inR .i64 ((x55*(x56+1))-x57)/\mI S54 p5 fun x58=>mI S54 (p5.add 1) fun x59=>mI S54 (p13.add 2) fun x60=>inR .i64 (-x60)/\(z4j_sh ((x55*(x56+1))-x57) (fun r62_0 r62_1 w61=>S54 w61/\(z4j_sh (-x60) (fun r64_0 r64_1 w63=>S54 w63/\(z2m_sh r62_0 r62_1 true x58 x59 r64_0 r64_1 (fun r66_0 r66_1 r66_2 w65=>S54 w65/\let w67:=w65.alloc (.cells #[(vI 0),(vI 0),(.bool false)] 128)
 S54 w67/\stN w67 (hA w65 0) [(vI r66_0),(vI r66_1),(.bool r66_2)] fun w68=>z3t_k4 p1 p3 p5 p8 p9 p10 p11 (hA w65 0) p25 p26 p27 p34 p35 p36 N2 N1 K w68) w63)
/\(let w69:=w63.alloc (.cells #[(vI 0),(vI 0),(.bool false)] 128)
 S54 w69/\z2m_sh r62_0 r62_1 true x58 x59 r64_0 r64_1 (fun r71_0 r71_1 r71_2 w70=>S54 w70/\stN w70 (hA w63 0) [(vI r71_0),(vI r71_1),(.bool r71_2)] fun w72=>z3t_k4 p1 p3 p5 p8 p9 p10 p11 (hA w63 0) p25 p26 p27 p34 p35 p36 N2 N1 K w72) w69)) w61)
/\(let w73:=w61.alloc (.cells #[(vI 0),(vI 0),(.bool false)] 128)
 S54 w73/\z4j_sh (-x60) (fun r75_0 r75_1 w74=>S54 w74/\z2m_sh r62_0 r62_1 true x58 x59 r75_0 r75_1 (fun r77_0 r77_1 r77_2 w76=>S54 w76/\stN w76 (hA w61 0) [(vI r77_0),(vI r77_1),(.bool r77_2)] fun w78=>z3t_k4 p1 p3 p5 p8 p9 p10 p11 (hA w61 0) p25 p26 p27 p34 p35 p36 N2 N1 K w78) w74) w73)) w53)
/\(let w79:=w53.alloc (.cells #[(vI 0),(vI 0),(.bool false)] 128)
 S54 w79/\z4j_sh ((x55*(x56+1))-x57) (fun r81_0 r81_1 w80=>S54 w80/\z4j_sh (-x60) (fun r83_0 r83_1 w82=>S54 w82/\z2m_sh r81_0 r81_1 true x58 x59 r83_0 r83_1 (fun r85_0 r85_1 r85_2 w84=>S54 w84/\stN w84 (hA w53 0) [(vI r85_0),(vI r85_1),(.bool r85_2)] fun w86=>z3t_k4 p1 p3 p5 p8 p9 p10 p11 (hA w53 0) p25 p26 p27 p34 p35 p36 N2 N1 K w86) w82) w80) w79)
structure z3t_k3 (p1:Sl)(p3 p5 p8:Addr)(p9 p10:Int)(p11 p13:Addr)(p25:Sl)(p26 p27:Int)(p34:Sl)(p35 p36:Int)(N2:Pw.T7)(N1:Pw.T10)(K:Pw.T2)(w:World):Prop where
 out:z3t_k3d p1 p3 p5 p8 p9 p10 p11 p13 p25 p26 p27 p34 p35 p36 N2 N1 K w
def z3t_b2 (p1:Sl)(p3 p5 p8:Addr)(p9 p10:Int)(p11:Addr)(p25:Sl)(p26 p27:Int)(p34:Sl)(p35 p36:Int)(N2:Pw.T7)(N1:Pw.T10)(K:Pw.T2)(w:World):Prop :=
 cnd (decide (p36<p35))
 (nz p34.p fun a43=>(0<=p36/\p36<(p34.l:Nat))/\lI w (a43.add (p36.toNat*4)) fun x44=>∃ x45:Int,w.cell? ((a43.add (p36.toNat*4)).add 1)=some (vI x45)/\∃ x46:Int,w.cell? ((a43.add (p36.toNat*4)).add 2)=some (vI x46)/\∃ x47:Int,w.cell? ((a43.add (p36.toNat*4)).add 3)=some (vI x47)/\let w48:=w.alloc (.cells #[(vI 0),(vI 0),(vI 0),(vI 0)] 57)
 stN w48 (hA w 0) [(vI x44),(vI x45),(vI x46),(vI x47)] fun w49=>lI w49 (hA w 0) fun x50=>cnd (x50 != p10)
 (inR .i64 (p36+1)/\N2 p1 p3 p5 p8 p9 p10 p11 p25 p26 p27 p34 p35 (p36+1) w49)
 (cnd (decide (p9<(p1.l:Int)))
 (nz p1.p fun a51=>(0<=p9/\p9<(p1.l:Nat))/\lI w49 (a51.add (p9.toNat*1)) fun x52=>cnd (x52 != p36)
 (inR .i64 (p36+1)/\N2 p1 p3 p5 p8 p9 p10 p11 p25 p26 p27 p34 p35 (p36+1) w49)
 (z3t_k3 p1 p3 p5 p8 p9 p10 p11 (hA w 0) p25 p26 p27 p34 p35 p36 N2 N1 K w49))
 (z3t_k3 p1 p3 p5 p8 p9 p10 p11 (hA w 0) p25 p26 p27 p34 p35 p36 N2 N1 K w49)))
 (let w101:=w.drew
 ∃ S102:World->Prop,S102 w101/\mI S102 p8 fun x103=>mI S102 (p8.add 1) fun x104=>∃ x105:Bool,(∀ w':World,S102 w'->w'.cell? (p8.add 2)=some (.bool x105))/\mI S102 p11 fun x106=>mI S102 (p11.add 1) fun x107=>z4j_sh 1 (fun r109_0 r109_1 w108=>S102 w108/\z2m_sh x103 x104 x105 x106 x107 r109_0 r109_1 (fun r111_0 r111_1 r111_2 w110=>stN w110 p8 [(vI r111_0),(vI r111_1),(.bool r111_2)] fun w112=>inR .i64 (p27+1)/\N1 p1 p3 p5 p8 p25 p26 (p27+1) w112) w108) w101)
structure z3t_l2 (p1:Sl)(p3 p5 p8:Addr)(p9 p10:Int)(p11:Addr)(p25:Sl)(p26 p27:Int)(p34:Sl)(p35 p36:Int)(N1:Pw.T10)(K:Pw.T2)(w:World):Prop where
 out:∃ (I:Int->World->Prop) (μ:Int->World->Nat),I p36 w/\∀ (p361:Int) (w1:World),I p361 w1 ->
  z3t_b2 p1 p3 p5 p8 p9 p10 p11 p25 p26 p27 p34 p35 p361 (fun p1' p3' p5' p8' p9' p10' p11' p25' p26' p27' p34' p35' p36' w'=>((p1'=p1/\p3'=p3/\p5'=p5/\p8'=p8/\p9'=p9/\p10'=p10/\p11'=p11/\p25'=p25/\p26'=p26/\p27'=p27/\p34'=p34/\p35'=p35/\True)/\I p36' w')/\μ p36' w'<μ p361 w1) N1 K w1
structure z3t_k7 (p1:Sl)(p3 p8 p15:Addr)(p16:Bool)(K:Pw.T2)(w:World):Prop where
 out:let w139:=w.drew
  ∃ S140:World->Prop,S140 w139/\mI S140 p8 fun x141=>mI S140 (p8.add 1) fun x142=>∃ x143:Bool,(∀ w':World,S140 w'->w'.cell? (p8.add 2)=some (.bool x143))/\mI S140 p15 fun x144=>mI S140 (p15.add 1) fun x145=>mP S140 p3 fun x146 x147 x148 x149 x150=>z45_sh x146 x147 x148 x149 x150 p1 (fun r152 w151=>S140 w151/\z4j_sh r152 (fun r154_0 r154_1 w153=>S140 w153/\z2m_sh x141 x142 x143 x144 x145 r154_0 r154_1 (fun r156_0 r156_1 r156_2 w155=>S140 w155/\stN w155 p8 [(vI r156_0),(vI r156_1),(.bool r156_2)] fun w157=>cnd (!p16)
  (K 0 false w157)
  (∃ x158:Bool,w157.cell? (p8.add 2)=some (.bool x158)/\cnd (!x158)
  (K 0 false w157)
  (lI w157 p8 fun x159=>lI w157 (p8.add 1) fun x160=>z3y_sh x159 x160 (fun r162 w161=>K r162 true w161) w157))) w153) w151) w139
def z3t_b1 (p1:Sl)(p3 p5 p8:Addr)(p25:Sl)(p26 p27:Int)(N1:Pw.T10)(K:Pw.T2)(w:World):Prop :=
 cnd (decide (p27<p26))
 (nz p25.p fun a35=>(0<=p27/\p27<(p25.l:Nat))/\lI w (a35.add (p27.toNat*1)) fun x36=>z4j_sh 0 (fun r38_0 r38_1 w37=>let w39:=w37.alloc (.cells #[(vI 0),(vI 0)] 31)
 wrOk w39 (hA w37 0)/\
 (let w40:=w39.setCell (hA w37 0) (vI r38_0)
 wrOk w40 (hA w37 1)/\
 (let w41:=w40.setCell (hA w37 1) (vI r38_1)
 lS w41 (p3.add 1) fun x42=>z3t_l2 p1 p3 p5 p8 p27 x36 (hA w37 0) p25 p26 p27 x42 (x42.l:Int) 0 N1 K w41))) w)
 (let w113:=w.drew
 ∃ S114:World->Prop,S114 w113/\mI S114 p5 fun x115=>mI S114 (p5.add 1) fun x116=>(z4j_sh 1 (fun r118_0 r118_1 w117=>S114 w117/\(z4c_sh r118_0 r118_1 x115 x116 (fun r120_0 r120_1 r121 w119=>S114 w119/\let w122:=w119.alloc (.cells #[(vI 0),(vI 0)] 31)
 S114 w122/\wrOk w122 (hA w119 0)/\
 (let w123:=w122.setCell (hA w119 0) (vI r120_0)
 wrOk w123 (hA w119 1)/\
 (let w124:=w123.setCell (hA w119 1) (vI r120_1)
 z3t_k7 p1 p3 p8 (hA w119 0) r121 K w124))) w117)
/\(let w125:=w117.alloc (.cells #[(vI 0),(vI 0)] 31)
 S114 w125/\z4c_sh r118_0 r118_1 x115 x116 (fun r127_0 r127_1 r128 w126=>wrOk w126 (hA w117 0)/\
 (let w129:=w126.setCell (hA w117 0) (vI r127_0)
 wrOk w129 (hA w117 1)/\
 (let w130:=w129.setCell (hA w117 1) (vI r127_1)
 z3t_k7 p1 p3 p8 (hA w117 0) r128 K w130))) w125)) w113)
/\(let w131:=w113.alloc (.cells #[(vI 0),(vI 0)] 31)
 S114 w131/\z4j_sh 1 (fun r133_0 r133_1 w132=>S114 w132/\z4c_sh r133_0 r133_1 x115 x116 (fun r135_0 r135_1 r136 w134=>wrOk w134 (hA w113 0)/\
 (let w137:=w134.setCell (hA w113 0) (vI r135_0)
 wrOk w137 (hA w113 1)/\
 (let w138:=w137.setCell (hA w113 1) (vI r135_1)
 z3t_k7 p1 p3 p8 (hA w113 0) r136 K w138))) w132) w131))
structure z3t_l1 (p1:Sl)(p3 p5 p8:Addr)(p25:Sl)(p26 p27:Int)(K:Pw.T2)(w:World):Prop where
 out:∃ (I:Int->World->Prop) (μ:Int->World->Nat),I p27 w/\∀ (p271:Int) (w1:World),I p271 w1 ->
  z3t_b1 p1 p3 p5 p8 p25 p26 p271 (fun p1' p3' p5' p8' p25' p26' p27' w'=>((p1'=p1/\p3'=p3/\p5'=p5/\p8'=p8/\p25'=p25/\p26'=p26/\True)/\I p27' w')/\μ p27' w'<μ p271 w1) K w1
structure z3t_k0 (p1:Sl)(p3 p5 p8:Addr)(K:Pw.T2)(w:World):Prop where
 out:lS w p3 fun x34=>z3t_l1 p1 p3 p5 p8 x34 (x34.l:Int) 0 K w
def z3t_sd (p0_0 p0_1 p0_2:Sl)(p0_3 p0_4:Int)(p1:Sl)(p2_0 p2_1:Int)(K:Pw.T2)(w:World):Prop :=
 let w1:=w.alloc (.cells #[(vS p0_0),(vS p0_1),(vS p0_2),(vI p0_3),(vI p0_4)] 28)
 let w2:=w1.alloc (.cells #[(vI p2_0),(vI p2_1)] 31)
 let w3:=w2.drew
 ∃ S4:World->Prop,S4 w3/\mI S4 (hA w1 0) fun x5=>mI S4 (hA w1 1) fun x6=>mI S4 (hA w 4) fun x7=>(z4j_sh 0 (fun r9_0 r9_1 w8=>S4 w8/\(z4j_sh x7 (fun r11_0 r11_1 w10=>S4 w10/\(z2m_sh r9_0 r9_1 true x5 x6 r11_0 r11_1 (fun r13_0 r13_1 r13_2 w12=>S4 w12/\let w14:=w12.alloc (.cells #[(vI 0),(vI 0),(.bool false)] 128)
 S4 w14/\stN w14 (hA w12 0) [(vI r13_0),(vI r13_1),(.bool r13_2)] fun w15=>z3t_k0 p1 (hA w 0) (hA w1 0) (hA w12 0) K w15) w10)
/\(let w16:=w10.alloc (.cells #[(vI 0),(vI 0),(.bool false)] 128)
 S4 w16/\z2m_sh r9_0 r9_1 true x5 x6 r11_0 r11_1 (fun r18_0 r18_1 r18_2 w17=>S4 w17/\stN w17 (hA w10 0) [(vI r18_0),(vI r18_1),(.bool r18_2)] fun w19=>z3t_k0 p1 (hA w 0) (hA w1 0) (hA w10 0) K w19) w16)) w8)
/\(let w20:=w8.alloc (.cells #[(vI 0),(vI 0),(.bool false)] 128)
 S4 w20/\z4j_sh x7 (fun r22_0 r22_1 w21=>S4 w21/\z2m_sh r9_0 r9_1 true x5 x6 r22_0 r22_1 (fun r24_0 r24_1 r24_2 w23=>S4 w23/\stN w23 (hA w8 0) [(vI r24_0),(vI r24_1),(.bool r24_2)] fun w25=>z3t_k0 p1 (hA w 0) (hA w1 0) (hA w8 0) K w25) w21) w20)) w3)
/\(let w26:=w3.alloc (.cells #[(vI 0),(vI 0),(.bool false)] 128)
 S4 w26/\z4j_sh 0 (fun r28_0 r28_1 w27=>S4 w27/\z4j_sh x7 (fun r30_0 r30_1 w29=>S4 w29/\z2m_sh r28_0 r28_1 true x5 x6 r30_0 r30_1 (fun r32_0 r32_1 r32_2 w31=>S4 w31/\stN w31 (hA w3 0) [(vI r32_0),(vI r32_1),(.bool r32_2)] fun w33=>z3t_k0 p1 (hA w 0) (hA w1 0) (hA w3 0) K w33) w29) w27) w26)
structure z3t_sh (p0_0 p0_1 p0_2:Sl)(p0_3 p0_4:Int)(p1:Sl)(p2_0 p2_1:Int)(K:Pw.T2)(w:World):Prop where
 out:z3t_sd p0_0 p0_1 p0_2 p0_3 p0_4 p1 p2_0 p2_1 K w
def z3t_L0 (Kv:VW):Cur [tL,tQ,tQ,tQ] WP:=fun p1 p3 p5 p8=>z3t_k0 p1 p3 p5 p8 (kk [.u 2,tI,tB] Kv)
def z3t_L1 (Kv:VW):Cur [tL,tQ,tQ,tQ,tL,tI,tI] WP:=fun p1 p3 p5 p8 p25 p26 p27=>z3t_l1 p1 p3 p5 p8 p25 p26 p27 (kk [.u 2,tI,tB] Kv)
def z3t_L2 (Kv:VW):Cur [tL,tQ,tQ,tQ,tL,tI,tI] WP->Cur [tL,tQ,tQ,tQ,tI,tI,tQ,tL,tI,tI,tL,tI,tI] WP:=fun N1 p1 p3 p5 p8 p9 p10 p11 p25 p26 p27 p34 p35 p36=>z3t_l2 p1 p3 p5 p8 p9 p10 p11 p25 p26 p27 p34 p35 p36 N1 (kk [.u 2,tI,tB] Kv)
def z3t_L3 (Kv:VW):Cur [tL,tQ,tQ,tQ,tI,tI,tQ,tL,tI,tI,tL,tI,tI] WP->Cur [tL,tQ,tQ,tQ,tL,tI,tI] WP->Cur [tL,tQ,tQ,tQ,tI,tI,tQ,tQ,tL,tI,tI,tL,tI,tI] WP:=fun N2 N1 p1 p3 p5 p8 p9 p10 p11 p13 p25 p26 p27 p34 p35 p36=>z3t_k3 p1 p3 p5 p8 p9 p10 p11 p13 p25 p26 p27 p34 p35 p36 N2 N1 (kk [.u 2,tI,tB] Kv)
def z3t_L4 (Kv:VW):Cur [tL,tQ,tQ,tQ,tI,tI,tQ,tL,tI,tI,tL,tI,tI] WP->Cur [tL,tQ,tQ,tQ,tL,tI,tI] WP->Cur [tL,tQ,tQ,tQ,tI,tI,tQ,tQ,tL,tI,tI,tL,tI,tI] WP:=fun N2 N1 p1 p3 p5 p8 p9 p10 p11 p14 p25 p26 p27 p34 p35 p36=>z3t_k4 p1 p3 p5 p8 p9 p10 p11 p14 p25 p26 p27 p34 p35 p36 N2 N1 (kk [.u 2,tI,tB] Kv)
def z3t_L5 (Kv:VW):Cur [tL,tQ,tQ,tQ,tI,tI,tQ,tL,tI,tI,tL,tI,tI] WP->Cur [tL,tQ,tQ,tQ,tL,tI,tI] WP->Cur [tL,tQ,tQ,tQ,tI,tI,tQ,tQ,tL,tI,tI,tL,tI,tI] WP:=fun N2 N1 p1 p3 p5 p8 p9 p10 p11 p14 p25 p26 p27 p34 p35 p36=>z3t_k5 p1 p3 p5 p8 p9 p10 p11 p14 p25 p26 p27 p34 p35 p36 N2 N1 (kk [.u 2,tI,tB] Kv)
def z3t_L6 (Kv:VW):Cur [tL,tQ,tQ,tQ,tI,tI,tQ,tL,tI,tI,tL,tI,tI] WP->Cur [tL,tQ,tQ,tQ,tL,tI,tI] WP->Cur [tL,tQ,tQ,tQ,tI,tI,tQ,tQ,tL,tI,tI,tL,tI,tI] WP:=fun N2 N1 p1 p3 p5 p8 p9 p10 p11 p14 p25 p26 p27 p34 p35 p36=>z3t_k6 p1 p3 p5 p8 p9 p10 p11 p14 p25 p26 p27 p34 p35 p36 N2 N1 (kk [.u 2,tI,tB] Kv)
def z3t_L7 (Kv:VW):Cur [tL,tQ,tQ,tQ,tB] WP:=fun p1 p3 p8 p15 p16=>z3t_k7 p1 p3 p8 p15 p16 (kk [.u 2,tI,tB] Kv)
noncomputable def z3t_S:=sp [.g 5,tL,tL,tL,tI,tI,tL,.g 2,tI,tI] [.u 2,tI,tB] z3t_sh
theorem z3t_ok:q3e Tryz.prog 39 z3t_S:=okS (x:=fun Kv=>qr 4 (qs (A.drw (dp [2,3,4] (DA.two 0 (DA.pur 1 (DA.two 5 (DA.two 6 (DA.eff 7 (DA.eff 8 DA.done)) 7 (DA.eff 6 (DA.eff 8 DA.done))) 7 (DA.eff 5 (DA.eff 6 (DA.eff 8 DA.done))))) 7 (DA.eff 0 (DA.pur 1 (DA.eff 5 (DA.eff 6 (DA.eff 8 DA.done)))))))) (A.cut [1,3,5,8] (uR0 [tL,tQ,tQ,tQ] (z3t_L0 Kv)) (qs (qr 4 (qb (A.loop [1,3,5,8,25,26,27] (uR0 [tL,tQ,tQ,tQ,tL,tI,tI] (z3t_L1 Kv)) (qr 1 (qs (qc ql ql) (qs (qb (qr 5 (qr 3 (qs (qr 4 (qb (A.loop [1,3,5,8,9,10,11,25,26,27,34,35,36] (uR1 [tL,tQ,tQ,tQ,tL,tI,tI] [tL,tQ,tQ,tQ,tI,tI,tQ,tL,tI,tI,tL,tI,tI] (z3t_L2 Kv)) (qr 1 (qs (qc ql ql) (qs (qb (qr 6 (qs (qs (A.reg (qn 5 (RA.spl 45 (qk 12 (qn 1 RA.done)) (qn 5 (RA.spl 50 (qn 8 RA.done) (qk 6 (qn 2 RA.done))))))) (qc ql ql)) (A.cut [1,3,5,8,9,10,11,13,25,26,27,34,35,36] (uR2 [tL,tQ,tQ,tQ,tI,tI,tQ,tL,tI,tI,tL,tI,tI] [tL,tQ,tQ,tQ,tL,tI,tI] [tL,tQ,tQ,tQ,tI,tI,tQ,tQ,tL,tI,tI,tL,tI,tI] (z3t_L3 Kv)) (qs (A.drw (dp [0,1,2,3,4,5,6,7,8,11,12,13,14] (DA.two 9 (DA.pur 10 (DA.two 15 (DA.two 16 (DA.eff 17 (DA.eff 18 DA.done)) 17 (DA.eff 16 (DA.eff 18 DA.done))) 17 (DA.eff 15 (DA.eff 16 (DA.eff 18 DA.done))))) 17 (DA.eff 9 (DA.pur 10 (DA.eff 15 (DA.eff 16 (DA.eff 18 DA.done)))))))) (A.cut [1,3,5,8,9,10,11,14,25,26,27,34,35,36] (uR2 [tL,tQ,tQ,tQ,tI,tI,tQ,tL,tI,tI,tL,tI,tI] [tL,tQ,tQ,tQ,tL,tI,tI] [tL,tQ,tQ,tQ,tI,tI,tQ,tQ,tL,tI,tI,tL,tI,tI] (z3t_L4 Kv)) (qs (A.reg (qn 3 (RA.spl 78 (qn 5 RA.done) (qk 2 (qn 3 RA.done))))) (A.cut [1,3,5,8,9,10,11,14,25,26,27,34,35,36] (uR2 [tL,tQ,tQ,tQ,tI,tI,tQ,tL,tI,tI,tL,tI,tI] [tL,tQ,tQ,tQ,tL,tI,tI] [tL,tQ,tQ,tQ,tI,tI,tQ,tQ,tL,tI,tI,tL,tI,tI] (z3t_L5 Kv)) (qs (A.reg (qn 5 (RA.spl 87 (qk 5 (qn 1 RA.done)) (qn 6 RA.done)))) (qc (A.cut [1,3,5,8,9,10,11,14,25,26,27,34,35,36] (uR2 [tL,tQ,tQ,tQ,tI,tI,tQ,tL,tI,tI,tL,tI,tI] [tL,tQ,tQ,tQ,tL,tI,tI] [tL,tQ,tQ,tQ,tI,tI,tQ,tQ,tL,tI,tI,tL,tI,tI] (z3t_L6 Kv)) (qe 3)) ql)))))))))) (qe 2))))))) (A.drw (dp [0,1] (DA.eff 2 (DA.eff 3 (DA.eff 4 DA.done))))))))) (qe 2))))))) (qs (A.drw (DA.pur 1 (DA.two 0 (DA.two 2 (dp [3,4,5] (DA.eff 6 (DA.eff 7 (DA.pur 8 DA.done)))) 6 (DA.eff 2 (dp [3,4,5] (DA.eff 7 (DA.pur 8 DA.done))))) 6 (DA.eff 0 (DA.eff 2 (dp [3,4,5] (DA.eff 7 (DA.pur 8 DA.done)))))))) (A.cut [1,3,8,15,16] (uR0 [tL,tQ,tQ,tQ,tB] (z3t_L7 Kv)) (qs (A.drw (dp [0,1,2,3] (DA.eff 4 (DA.eff 5 (DA.eff 6 (DA.eff 7 DA.done)))))) (qs (qs (A.reg (qn 3 (RA.spl 117 (qk 3 (qn 1 RA.done)) (qn 4 RA.done)))) (qc (qr 2 ql) ql)) (qr 5 ql))))))))) (fun Kv p0_0 p0_1 p0_2 p0_3 p0_4 p1 p2_0 p2_1=>z3t_sd p0_0 p0_1 p0_2 p0_3 p0_4 p1 p2_0 p2_1 (kk [.u 2,tI,tB] Kv)) progMixed (Γ:=[(75,z4j_S),(76,z2m_S),(77,z4d_S),(78,z4c_S),(79,z45_S),(80,z3y_S)]) ⟨.inl z4j_ok,.inl z2m_ok,.inl z4d_ok,.inl z4c_ok,.inl z45_ok,.inl z3y_ok,trivial⟩ Tryz.call39 Tryz.func39 (fun Kv=>q07 (hK0 (F:=z3t_L0 Kv)) <| q07 (q0a (L:=z3t_L1 Kv) (fun N1 p1 p3 p5 p8 p25 p26 p27=>z3t_b1 p1 p3 p5 p8 p25 p26 p27 N1 (kk [.u 2,tI,tB] Kv)) (fun⟨a0,a1,a2,a3,a4,a5,_,_⟩ _ h=>let ⟨I,μ,h0,hr⟩:=h.out; ⟨fun b0 b1 b2 b3 b4 b5 b6 w=>(b0=a0/\b1=a1/\b2=a2/\b3=a3/\b4=a4/\b5=a5/\True)/\I b6 w,fun _ _ _ _ _ _ b6 w=>μ b6 w,⟨⟨rfl,rfl,rfl,rfl,rfl,rfl,trivial⟩,h0⟩,fun⟨_,_,_,_,_,_,_,_⟩ _ ⟨⟨e0,e1,e2,e3,e4,e5,_⟩,hI⟩=>by cases e0; cases e1; cases e2; cases e3; cases e4; cases e5; exact hr _ _ hI⟩)) <| q07 (q3q (L:=z3t_L2 Kv) (fun N1 N2 p1 p3 p5 p8 p9 p10 p11 p25 p26 p27 p34 p35 p36=>z3t_b2 p1 p3 p5 p8 p9 p10 p11 p25 p26 p27 p34 p35 p36 N2 N1 (kk [.u 2,tI,tB] Kv)) (fun _ ⟨a0,a1,a2,a3,a4,a5,a6,a7,a8,a9,a10,a11,_,_⟩ _ h=>let ⟨I,μ,h0,hr⟩:=h.out; ⟨fun b0 b1 b2 b3 b4 b5 b6 b7 b8 b9 b10 b11 b12 w=>(b0=a0/\b1=a1/\b2=a2/\b3=a3/\b4=a4/\b5=a5/\b6=a6/\b7=a7/\b8=a8/\b9=a9/\b10=a10/\b11=a11/\True)/\I b12 w,fun _ _ _ _ _ _ _ _ _ _ _ _ b12 w=>μ b12 w,⟨⟨rfl,rfl,rfl,rfl,rfl,rfl,rfl,rfl,rfl,rfl,rfl,rfl,trivial⟩,h0⟩,fun⟨_,_,_,_,_,_,_,_,_,_,_,_,_,_⟩ _ ⟨⟨e0,e1,e2,e3,e4,e5,e6,e7,e8,e9,e10,e11,_⟩,hI⟩=>by cases e0; cases e1; cases e2; cases e3; cases e4; cases e5; cases e6; cases e7; cases e8; cases e9; cases e10; cases e11; exact hr _ _ hI⟩)) <| q07 (ql9 (F:=z3t_L3 Kv) (G:=fun N2 N1 p1 p3 p5 p8 p9 p10 p11 p13 p25 p26 p27 p34 p35 p36=>z3t_k3d p1 p3 p5 p8 p9 p10 p11 p13 p25 p26 p27 p34 p35 p36 N2 N1 (kk [.u 2,tI,tB] Kv))) <| q07 (hK2 (F:=z3t_L4 Kv)) <| q07 (hK2 (F:=z3t_L5 Kv)) <| q07 (hK2 (F:=z3t_L6 Kv)) <| q07 (hK0 (F:=z3t_L7 Kv)) <| hEnd)
structure z3r_sh (p0_0 p0_1 p0_2:Sl)(p0_3 p0_4:Int)(p1:Sl)(p2_0 p2_1:Int)(K:Pw.T2)(w:World):Prop where
 out:let w1:=w.alloc (.cells #[(vS p0_0),(vS p0_1),(vS p0_2),(vI p0_3),(vI p0_4)] 28)
  let w2:=w1.alloc (.cells #[(vI p2_0),(vI p2_1)] 31)
  lS w2 (hA w 0) fun x3=>lS w2 (hA w 1) fun x4=>lS w2 (hA w 2) fun x5=>lI w2 (hA w 3) fun x6=>lI w2 (hA w 4) fun x7=>z3u_sh x3 x4 x5 x6 x7 (fun r9 w8=>cnd (!r9)
  (K 0 false w8)
  (lS w8 (hA w 0) fun x10=>lS w8 (hA w 1) fun x11=>lS w8 (hA w 2) fun x12=>lI w8 (hA w 3) fun x13=>lI w8 (hA w 4) fun x14=>z3j_sh x10 x11 x12 x13 x14 p1 (fun r16 w15=>cnd (!r16)
  (K 0 false w15)
  (lI w15 (hA w1 0) fun x17=>lI w15 (hA w1 1) fun x18=>z3z_sh x17 x18 (fun r20 w19=>cnd (!r20)
  (K 0 false w19)
  (lI w19 (hA w1 0) fun x21=>cnd (decide (x21<0))
  (K 0 false w19)
  (lS w19 (hA w 0) fun x22=>lS w19 (hA w 1) fun x23=>lS w19 (hA w 2) fun x24=>lI w19 (hA w 3) fun x25=>lI w19 (hA w 4) fun x26=>lI w19 (hA w1 0) fun x27=>lI w19 (hA w1 1) fun x28=>z3t_sh x22 x23 x24 x25 x26 p1 x27 x28 (fun r30 r31 w29=>K r30 r31 w29) w19))) w15)) w8)) w2
noncomputable def z3r_S:=sp [.g 5,tL,tL,tL,tI,tI,tL,.g 2,tI,tI] [.u 2,tI,tB] z3r_sh
theorem z3r_ok:okP 14 z3r_S:=okR (x:=fun _=>qr 4 (qs (qs (A.reg (qn 4 (RA.spl 11 (qk 4 (qn 2 (qk 3 (qn 2 (qk 3 (qn 1 RA.done)))))) (qn 6 (RA.spl 17 (qk 3 (qn 2 (qk 3 (qn 1 RA.done)))) (qn 5 (RA.spl 22 (qk 3 (qn 1 RA.done)) (qn 4 RA.done)))))))) (qc (qr 2 ql) ql)) (qr 8 ql))) (Γ:=[(36,z3u_S),(37,z3j_S),(38,z3z_S),(39,z3t_S)]) ⟨.inl z3u_ok,.inl z3j_ok,.inl z3z_ok,.inl z3t_ok,trivial⟩ Tryz.call14 Tryz.func14 (fun _=>hEnd)
def z46_b0 (p1:Sl)(p2:Addr)(p5:Int)(p8:Sl)(p9 p10:Int)(N0:Sl->Addr->Int->Sl->Int->Int->World->Prop)(K:Pw.T1)(w:World):Prop :=
 cnd (decide (p10<p9))
 (nz p8.p fun a2=>(0<=p10/\p10<(p8.l:Nat))/\lI w (a2.add (p10.toNat*1)) fun x3=>cnd (decide (x3>=0))
 (lS w (p2.add 1) fun x4=>nz x4.p fun a5=>(0<=x3/\x3<(x4.l:Nat))/\∃ x6:Int,w.cell? ((a5.add (x3.toNat*4)).add 2)=some (vI x6)/\inR .i64 (p5+x6)/\inR .i64 (p10+1)/\N0 p1 p2 (p5+x6) p8 p9 (p10+1) w)
 (inR .i64 (p10+1)/\N0 p1 p2 p5 p8 p9 (p10+1) w))
 (lP w p2 fun x7 x8 x9 x10 x11=>z45_sh x7 x8 x9 x10 x11 p1 (fun r13 w12=>inR .i64 (p5-r13)/\K (max 0 (p5-r13)) w12) w)
structure z46_l0 (p1:Sl)(p2:Addr)(p5:Int)(p8:Sl)(p9 p10:Int)(K:Pw.T1)(w:World):Prop where
 out:∃ (I:Int->Int->World->Prop) (μ:Int->Int->World->Nat),I p5 p10 w/\∀ (p51 p101:Int) (w1:World),I p51 p101 w1 ->
  z46_b0 p1 p2 p51 p8 p9 p101 (fun p1' p2' p5' p8' p9' p10' w'=>((p1'=p1/\p2'=p2/\p8'=p8/\p9'=p9/\True)/\I p5' p10' w')/\μ p5' p10' w'<μ p51 p101 w1) K w1
structure z46_sh (p0_0 p0_1 p0_2:Sl)(p0_3 p0_4:Int)(p1:Sl)(K:Pw.T1)(w:World):Prop where
 out:let w1:=w.alloc (.cells #[(vS p0_0),(vS p0_1),(vS p0_2),(vI p0_3),(vI p0_4)] 28)
  z46_l0 p1 (hA w 0) 0 p1 (p1.l:Int) 0 K w1
def z46_L0 (Kv:VW):Cur [tL,tQ,tI,tL,tI,tI] WP:=fun p1 p2 p5 p8 p9 p10=>z46_l0 p1 p2 p5 p8 p9 p10 (kk [tI] Kv)
noncomputable def z46_S:=sp [.g 5,tL,tL,tL,tI,tI,tL] [tI] z46_sh
theorem z46_ok:okP 89 z46_S:=okR (x:=fun Kv=>qr 2 (qr 1 (qs (qr 3 (qb (A.loop [1,2,5,8,9,10] (uR0 [tL,tQ,tI,tL,tI,tI] (z46_L0 Kv)) (qr 1 (qs (qc ql ql) (qs (qb (qr 3 (qr 2 (qc (qe 9) ql)))) (qe 2))))))) (qr 7 ql)))) (Γ:=[(79,z45_S)]) ⟨.inl z45_ok,trivial⟩ Tryz.call89 Tryz.func89 (fun Kv=>q07 (q0a (L:=z46_L0 Kv) (fun N0 p1 p2 p5 p8 p9 p10=>z46_b0 p1 p2 p5 p8 p9 p10 N0 (kk [tI] Kv)) (fun⟨a0,a1,_,a3,a4,_,_⟩ _ h=>let ⟨I,μ,h0,hr⟩:=h.out; ⟨fun b0 b1 b2 b3 b4 b5 w=>(b0=a0/\b1=a1/\b3=a3/\b4=a4/\True)/\I b2 b5 w,fun _ _ b2 _ _ b5 w=>μ b2 b5 w,⟨⟨rfl,rfl,rfl,rfl,trivial⟩,h0⟩,fun⟨_,_,_,_,_,_,_⟩ _ ⟨⟨e0,e1,e3,e4,_⟩,hI⟩=>by cases e0; cases e1; cases e3; cases e4; exact hr _ _ _ hI⟩)) <| hEnd)
def z39_b0 (p2:Addr)(p5:Nat)(p9:Sl)(p10 p11:Int)(N0:Pw.T42)(K:Pw.T0)(w:World):Prop :=
 cnd (decide (p11<p10))
 (nz p9.p fun a3=>(0<=p11/\p11<(p9.l:Nat))/\lI w (a3.add (p11.toNat*1)) fun x4=>cnd (decide (x4>=0))
 (lS w (p2.add 1) fun x5=>nz x5.p fun a6=>(0<=x4/\x4<(x5.l:Nat))/\∃ x7:Int,w.cell? ((a6.add (x4.toNat*4)).add 1)=some (vI x7)/\∃ l8:List (Int × Int),Mp w p5 .i64 (l8.map fun p=>(p.1,Value.int .i64 p.2))/\inR .i64 ((q10 0 x7 l8)+1)/\(∃ l:List (Int × Value),Mp w p5 .i64 l)/\let w9:=w.mset p5 .i64 x7 (vI ((q10 0 x7 l8)+1))
 let w10:=w9.drew
 ∃ S11:World->Prop,S11 w10/\mI S11 (p2.add 3) fun x12=>cnd (x12 != 0)
 (mS S11 (p2.add 1) fun x13=>nz x13.p fun a14=>(0<=x4/\x4<(x13.l:Nat))/\∃ x15:Int,(∀ w':World,S11 w'->w'.cell? ((a14.add (x4.toNat*4)).add 1)=some (vI x15))/\mI S11 (p2.add 3) fun x16=>∃ l17:List (Int × Int),Mp w10 p5 .i64 (l17.map fun p=>(p.1,Value.int .i64 p.2))/\S11 w10/\cnd (decide ((q10 0 x15 l17)>x16))
 (K true w10)
 (inR .i64 (p11+1)/\N0 p2 p5 p9 p10 (p11+1) w10))
 (inR .i64 (p11+1)/\N0 p2 p5 p9 p10 (p11+1) w10))
 (inR .i64 (p11+1)/\N0 p2 p5 p9 p10 (p11+1) w))
 (K false w)
structure z39_l0 (p2:Addr)(p5:Nat)(p9:Sl)(p10 p11:Int)(K:Pw.T0)(w:World):Prop where
 out:∃ (I:Int->World->Prop) (μ:Int->World->Nat),I p11 w/\∀ (p111:Int) (w1:World),I p111 w1 ->
  z39_b0 p2 p5 p9 p10 p111 (fun p2' p5' p9' p10' p11' w'=>((p2'=p2/\p5'=p5/\p9'=p9/\p10'=p10/\True)/\I p11' w')/\μ p11' w'<μ p111 w1) K w1
structure z39_sh (p0_0 p0_1 p0_2:Sl)(p0_3 p0_4:Int)(p1:Sl)(K:Pw.T0)(w:World):Prop where
 out:let w1:=w.alloc (.cells #[(vS p0_0),(vS p0_1),(vS p0_2),(vI p0_3),(vI p0_4)] 28)
  let w2:=w1.alloc (Obj.map #[] 0)
  z39_l0 (hA w 0) w1.heap.size p1 (p1.l:Int) 0 K w2
def z39_L0 (Kv:VW):Cur [tQ,tN,tL,tI,tI] WP:=fun p2 p5 p9 p10 p11=>z39_l0 p2 p5 p9 p10 p11 (kk [tB] Kv)
noncomputable def z39_S:=sp [.g 5,tL,tL,tL,tI,tI,tL] [tB] z39_sh
theorem z39_ok:okP 90 z39_S:=okR (x:=fun Kv=>qr 2 (qr 2 (qs (qr 3 (qb (A.loop [2,5,9,10,11] (uR0 [tQ,tN,tL,tI,tI] (z39_L0 Kv)) (qr 1 (qs (qc ql ql) (qs (qb (qr 3 (qr 2 (qc (qr 10 (qs (A.drw (dp [0,1,2,3] (DA.spl 29 (dp [4,5,6,7,8,9,10,12,13] (DA.eff 11 (dp [14,15] DA.done))) (DA.skp 4 (DA.skp 5 (DA.skp 6 (DA.skp 7 (DA.skp 8 (DA.skp 9 (DA.skp 10 (DA.skp 12 (DA.skp 13 (DA.skp 11 (DA.skp 14 (DA.pur 15 DA.done))))))))))))))) (qc (qr 1 ql) ql))) ql)))) (qe 2))))))) (qr 1 ql)))) (Γ:=[]) trivial Tryz.call90 Tryz.func90 (fun Kv=>q07 (q0a (L:=z39_L0 Kv) (fun N0 p2 p5 p9 p10 p11=>z39_b0 p2 p5 p9 p10 p11 N0 (kk [tB] Kv)) (fun⟨a0,a1,a2,a3,_,_⟩ _ h=>let ⟨I,μ,h0,hr⟩:=h.out; ⟨fun b0 b1 b2 b3 b4 w=>(b0=a0/\b1=a1/\b2=a2/\b3=a3/\True)/\I b4 w,fun _ _ _ _ b4 w=>μ b4 w,⟨⟨rfl,rfl,rfl,rfl,trivial⟩,h0⟩,fun⟨_,_,_,_,_,_⟩ _ ⟨⟨e0,e1,e2,e3,_⟩,hI⟩=>by cases e0; cases e1; cases e2; cases e3; exact hr _ _ hI⟩)) <| hEnd)
structure z2w_sh (p0_0 p0_1 p0_2:Sl)(p0_3 p0_4:Int)(p1:Sl)(K:Pw.T0)(w:World):Prop where
 out:let w1:=w.alloc (.cells #[(vS p0_0),(vS p0_1),(vS p0_2),(vI p0_3),(vI p0_4)] 28)
  let w2:=w1.drew
  ∃ S3:World->Prop,S3 w2/\mS S3 (hA w 0) fun x4=>cnd ((p1.l:Int) == (x4.l:Int))
  (mS S3 (hA w 0) fun x5=>mS S3 (hA w 1) fun x6=>mS S3 (hA w 2) fun x7=>mI S3 (hA w 3) fun x8=>mI S3 (hA w 4) fun x9=>z3j_sh x5 x6 x7 x8 x9 p1 (fun r11 w10=>S3 w10/\cnd r11
  (mS S3 (hA w 0) fun x12=>mS S3 (hA w 1) fun x13=>mS S3 (hA w 2) fun x14=>mI S3 (hA w 3) fun x15=>mI S3 (hA w 4) fun x16=>mI S3 (hA w 4) fun x17=>z46_sh x12 x13 x14 x15 x16 p1 (fun r19 w18=>S3 w18/\cnd (decide (r19<=x17))
  (mS S3 (hA w 0) fun x20=>mS S3 (hA w 1) fun x21=>mS S3 (hA w 2) fun x22=>mI S3 (hA w 3) fun x23=>mI S3 (hA w 4) fun x24=>z39_sh x20 x21 x22 x23 x24 p1 (fun r26 w25=>S3 w25/\K (!r26) w25) w18)
  (K false w18)) w10)
  (K false w10)) w2)
  (K false w2)
noncomputable def z2w_S:=sp [.g 5,tL,tL,tL,tI,tI,tL] [tB] z2w_sh
theorem z2w_ok:okP 42 z2w_S:=okR (x:=fun _=>qr 2 (qs (A.drw (dp [0,1,2,3,4,5,6] (DA.spl 11 (dp [7,8] (DA.eff 9 (dp [10,11] (DA.spl 16 (dp [12,13,15,16] (DA.eff 14 (dp [17,18,19] (DA.spl 24 (dp [20,21] (DA.eff 22 (dp [23,24,25] DA.done))) (DA.skp 20 (DA.skp 21 (DA.skp 22 (DA.skp 23 (dp [24,25] DA.done))))))))) (DA.skp 12 (DA.skp 13 (DA.skp 15 (DA.skp 16 (DA.skp 14 (DA.skp 17 (dp [18,19] (DA.skp 20 (DA.skp 21 (DA.skp 22 (DA.skp 23 (dp [24,25] DA.done)))))))))))))))) (DA.skp 7 (DA.skp 8 (DA.skp 9 (dp [10,11] (DA.skp 12 (DA.skp 13 (DA.skp 15 (DA.skp 16 (DA.skp 14 (DA.skp 17 (dp [18,19] (DA.skp 20 (DA.skp 21 (DA.skp 22 (DA.skp 23 (dp [24,25] DA.done))))))))))))))))))) ql)) (Γ:=[(37,z3j_S),(89,z46_S),(90,z39_S)]) ⟨.inl z3j_ok,.inl z46_ok,.inl z39_ok,trivial⟩ Tryz.call42 Tryz.func42 (fun _=>hEnd)
def z3i_b0 (p2:Addr)(p5:Int)(p8:Sl)(p9 p10:Int)(N0:Pw.T37)(K:Pw.T1)(w:World):Prop :=
 cnd (decide (p10<p9))
 (nz p8.p fun a2=>(0<=p10/\p10<(p8.l:Nat))/\lI w (a2.add (p10.toNat*1)) fun x3=>cnd (decide (x3>=0))
 (lS w (p2.add 1) fun x4=>nz x4.p fun a5=>(0<=x3/\x3<(x4.l:Nat))/\∃ x6:Int,w.cell? ((a5.add (x3.toNat*4)).add 3)=some (vI x6)/\inR .i64 (p5+x6)/\inR .i64 (p10+1)/\N0 p2 (p5+x6) p8 p9 (p10+1) w)
 (inR .i64 (p10+1)/\N0 p2 p5 p8 p9 (p10+1) w))
 (K p5 w)
structure z3i_l0 (p2:Addr)(p5:Int)(p8:Sl)(p9 p10:Int)(K:Pw.T1)(w:World):Prop where
 out:∃ (I:Int->Int->World->Prop) (μ:Int->Int->World->Nat),I p5 p10 w/\∀ (p51 p101:Int) (w1:World),I p51 p101 w1 ->
  z3i_b0 p2 p51 p8 p9 p101 (fun p2' p5' p8' p9' p10' w'=>((p2'=p2/\p8'=p8/\p9'=p9/\True)/\I p5' p10' w')/\μ p5' p10' w'<μ p51 p101 w1) K w1
structure z3i_sh (p0_0 p0_1 p0_2:Sl)(p0_3 p0_4:Int)(p1:Sl)(K:Pw.T1)(w:World):Prop where
 out:let w1:=w.alloc (.cells #[(vS p0_0),(vS p0_1),(vS p0_2),(vI p0_3),(vI p0_4)] 28)
  z3i_l0 (hA w 0) 0 p1 (p1.l:Int) 0 K w1
def z3i_L0 (Kv:VW):Cur [tQ,tI,tL,tI,tI] WP:=fun p2 p5 p8 p9 p10=>z3i_l0 p2 p5 p8 p9 p10 (kk [tI] Kv)
noncomputable def z3i_S:=sp [.g 5,tL,tL,tL,tI,tI,tL] [tI] z3i_sh
theorem z3i_ok:okP 43 z3i_S:=okR (x:=fun Kv=>qr 2 (qr 1 (qs (qr 3 (qb (A.loop [2,5,8,9,10] (uR0 [tQ,tI,tL,tI,tI] (z3i_L0 Kv)) (qr 1 (qs (qc ql ql) (qs (qb (qr 3 (qr 2 (qc (qe 9) ql)))) (qe 2))))))) (qr 2 ql)))) (Γ:=[]) trivial Tryz.call43 Tryz.func43 (fun Kv=>q07 (q0a (L:=z3i_L0 Kv) (fun N0 p2 p5 p8 p9 p10=>z3i_b0 p2 p5 p8 p9 p10 N0 (kk [tI] Kv)) (fun⟨a0,_,a2,a3,_,_⟩ _ h=>let ⟨I,μ,h0,hr⟩:=h.out; ⟨fun b0 b1 b2 b3 b4 w=>(b0=a0/\b2=a2/\b3=a3/\True)/\I b1 b4 w,fun _ b1 _ _ b4 w=>μ b1 b4 w,⟨⟨rfl,rfl,rfl,trivial⟩,h0⟩,fun⟨_,_,_,_,_,_⟩ _ ⟨⟨e0,e2,e3,_⟩,hI⟩=>by cases e0; cases e2; cases e3; exact hr _ _ _ hI⟩)) <| hEnd)
structure z3w_sh (p0_0 p0_1 p0_2:Sl)(p0_3 p0_4:Int)(p1:Sl)(K:Pw.T1)(w:World):Prop where
 out:let w1:=w.alloc (.cells #[(vS p0_0),(vS p0_1),(vS p0_2),(vI p0_3),(vI p0_4)] 28)
  let w2:=w1.drew
  ∃ S3:World->Prop,S3 w2/\mS S3 (hA w 0) fun x4=>mS S3 (hA w 1) fun x5=>mS S3 (hA w 2) fun x6=>mI S3 (hA w 3) fun x7=>mI S3 (hA w 4) fun x8=>mI S3 (hA w 4) fun x9=>inR .i64 (x9+1)/\mS S3 (hA w 0) fun x10=>mS S3 (hA w 1) fun x11=>mS S3 (hA w 2) fun x12=>mI S3 (hA w 3) fun x13=>mI S3 (hA w 4) fun x14=>z3i_sh x4 x5 x6 x7 x8 p1 (fun r16 w15=>S3 w15/\inR .i64 (r16*(x9+1))/\z46_sh x10 x11 x12 x13 x14 p1 (fun r18 w17=>S3 w17/\inR .i64 ((r16*(x9+1))-r18)/\K ((r16*(x9+1))-r18) w17) w15) w2
noncomputable def z3w_S:=sp [.g 5,tL,tL,tL,tI,tI,tL] [tI] z3w_sh
theorem z3w_ok:okP 91 z3w_S:=okR (x:=fun _=>qr 2 (qs (A.drw (dp [0,1,3,4,5,7,8] (DA.eff 2 (DA.pur 6 (DA.eff 9 (dp [10,11] DA.done)))))) ql)) (Γ:=[(43,z3i_S),(89,z46_S)]) ⟨.inl z3i_ok,.inl z46_ok,trivial⟩ Tryz.call91 Tryz.func91 (fun _=>hEnd)
structure z3g_k0 (p1:Sl)(p4 p6:Addr)(p9:Int)(p10:Bool)(K:Pw.T0)(w:World):Prop where
 out:lP w p4 fun x41 x42 x43 x44 x45=>lI w p6 fun x46=>lI w (p6.add 1) fun x47=>z3r_sh x41 x42 x43 x44 x45 p1 x46 x47 (fun r49 r50 w48=>cnd r50
  (cnd (decide (r49<p9))
  (K true w48)
  (cnd (r49 == p9)
  (K p10 w48)
  (K false w48)))
  (K false w48)) w
structure z3g_sh (p0_0 p0_1 p0_2:Sl)(p0_3 p0_4:Int)(p1:Sl)(p2_0 p2_1:Int)(p3:Sl)(K:Pw.T0)(w:World):Prop where
 out:let w1:=w.alloc (.cells #[(vS p0_0),(vS p0_1),(vS p0_2),(vI p0_3),(vI p0_4)] 28)
  let w2:=w1.alloc (.cells #[(vI p2_0),(vI p2_1)] 31)
  let w3:=w2.drew
  ∃ S4:World->Prop,S4 w3/\mS S4 (hA w 0) fun x5=>mS S4 (hA w 1) fun x6=>mS S4 (hA w 2) fun x7=>mI S4 (hA w 3) fun x8=>mI S4 (hA w 4) fun x9=>z39_sh x5 x6 x7 x8 x9 p1 (fun r11 w10=>S4 w10/\cnd r11
  (K true w10)
  (mS S4 (hA w 0) fun x12=>mS S4 (hA w 1) fun x13=>mS S4 (hA w 2) fun x14=>mI S4 (hA w 3) fun x15=>mI S4 (hA w 4) fun x16=>mI S4 (hA w 4) fun x17=>z46_sh x12 x13 x14 x15 x16 p1 (fun r19 w18=>S4 w18/\cnd (decide (r19>x17))
  (K true w18)
  (let w20:=w18.drew
  ∃ S21:World->Prop,S21 w20/\mS S21 (hA w 0) fun x22=>mS S21 (hA w 1) fun x23=>mS S21 (hA w 2) fun x24=>mI S21 (hA w 3) fun x25=>mI S21 (hA w 4) fun x26=>(0<=(0:Int)/\(0:Int)<=(p1.l:Int)/\(p1.l:Int)<=(p3.c:Nat))/\z3w_sh x22 x23 x24 x25 x26 p3 (fun r28 w27=>z34_sh p1 (Sl.mk (subP p3.p 0 p3.c 1) ((p1.l:Int).toNat-0) (p3.c-0)) (fun r30 w29=>S21 w29/\lS w29 (hA w 0) fun x31=>cnd ((p1.l:Int) == (x31.l:Int))
  (lS w29 (hA w 0) fun x32=>lS w29 (hA w 1) fun x33=>lS w29 (hA w 2) fun x34=>lI w29 (hA w 3) fun x35=>lI w29 (hA w 4) fun x36=>z3w_sh x32 x33 x34 x35 x36 p1 (fun r38 w37=>cnd (decide (r38<r28))
  (K true w37)
  (cnd (r38 == r28)
  (z34_sh p1 p3 (fun r40 w39=>cnd (decide (r40>=0))
  (K true w39)
  (z3g_k0 p1 (hA w 0) (hA w1 0) r28 (decide (r30>0)) K w39)) w37)
  (z3g_k0 p1 (hA w 0) (hA w1 0) r28 (decide (r30>0)) K w37))) w29)
  (z3g_k0 p1 (hA w 0) (hA w1 0) r28 (decide (r30>0)) K w29)) w27) w20)) w10)) w3
def z3g_L0 (Kv:VW):Cur [tL,tQ,tQ,tI,tB] WP:=fun p1 p4 p6 p9 p10=>z3g_k0 p1 p4 p6 p9 p10 (kk [tB] Kv)
noncomputable def z3g_S:=sp [.g 5,tL,tL,tL,tI,tI,tL,.g 2,tI,tI,tL] [tB] z3g_sh
theorem z3g_ok:okP 45 z3g_S:=okR (x:=fun Kv=>qr 3 (qs (qs (A.drw (dp [0,1] (DA.eff 2 (DA.pur 3 (DA.spl 17 (DA.skp 4 (DA.skp 5 (DA.skp 7 (DA.skp 8 (DA.skp 6 (DA.skp 9 (DA.pur 10 DA.done))))))) (dp [4,5,7,8] (DA.eff 6 (dp [9,10] DA.done)))))))) (qc (qr 1 ql) ql)) (qs (A.drw (dp [0,1,3,4,5,6,7] (DA.eff 2 (DA.eff 8 (dp [9,10,11] DA.done))))) (qs (qr 6 (qc (qr 4 (qs (A.reg (qn 4 (RA.spl 47 (qk 9 (qn 1 RA.done)) (qn 4 (RA.spl 51 (qn 6 RA.done) (qk 4 (qn 2 RA.done))))))) (qc (qr 1 ql) ql))) ql)) (A.cut [1,4,6,9,10] (uR0 [tL,tQ,tQ,tI,tB] (z3g_L0 Kv)) (qr 9 (qs (A.reg (qn 2 (RA.spl 66 (qn 4 (RA.spl 70 (qk 6 (qn 3 RA.done)) (qn 4 (RA.spl 74 (qn 5 RA.done) (qk 1 (qn 4 RA.done)))))) (qk 11 (qn 2 RA.done))))) ql))))))) (Γ:=[(14,z3r_S),(89,z46_S),(90,z39_S),(91,z3w_S),(92,z34_S)]) ⟨.inl z3r_ok,.inl z46_ok,.inl z39_ok,.inl z3w_ok,.inl z34_ok,trivial⟩ Tryz.call45 Tryz.func45 (fun Kv=>q07 (hK0 (F:=z3g_L0 Kv)) <| hEnd)
structure z38_k1 (p0:Int)(p1:Sl)(p4 p5 p9:Addr)(p10 p11 p12:Int)(N0:Pw.T26)(K:Pw.T0)(w:World):Prop where
 out:let w37:=w.drew
  ∃ S38:World->Prop,S38 w37/\mS S38 (p9.add 3) fun x39=>cnd (decide (p11>=(x39.l:Int)))
  (K false w37)
  (mS S38 (p9.add 3) fun x40=>nz x40.p fun a41=>(0<=p11/\p11<(x40.l:Nat))/\mI S38 (a41.add (p11.toNat*1)) fun x42=>cnd (decide (x42<=p0))
  (K false w37)
  (∃ x43:Value,(∀ w':World,S38 w'->w'.cell? p5=some x43)/\mS S38 (p9.add 3) fun x44=>nz x44.p fun a45=>(0<=p11/\p11<(x44.l:Nat))/\mI S38 (a45.add (p11.toNat*1)) fun x46=>(0<=(0:Int)/\(0:Int)<=p10/\p10<=p10/\p10<=(p1.c:Nat))/\let w47:=w37.alloc (.cells #[(vI p12)] 3)
  S38 w47/\apS 1 8 [(vI 0)] 3 (Sl.mk (subP p1.p 0 p10.toNat 1) (p10.toNat-0) (p10.toNat-0)) (Sl.mk (some (hA w37 0)) 1 1) w47 fun s48 w49=>S38 w49/\q2b Tryz.prog x43 [(vI x46),(vS s48)] w49 fun u50 w51=>∃ x52:Bool,u50=(.bool x52)/\S38 w51/\cnd (!x52)
  (K false w51)
  (inR .i64 (p11+1)/\inR .i64 (p12+1)/\N0 p0 p1 p4 p5 p9 p10 (p11+1) (p12+1) w51)))
def z38_b0 (p0:Int)(p1:Sl)(p4 p5 p9:Addr)(p10 p11 p12:Int)(N0:Pw.T26)(K:Pw.T0)(w:World):Prop :=
 lS w (p4.add 1) fun x29=>cnd (decide (p12<(x29.l:Int)))
 (let w30:=w.drew
 cnd (decide (p12>=0))
 (lS w30 (p4.add 1) fun x31=>nz x31.p fun a32=>(0<=p12/\p12<(x31.l:Nat))/\lI w30 (a32.add (p12.toNat*4)) fun x33=>lS w30 p4 fun x34=>nz x34.p fun a35=>(0<=p10/\p10<(x34.l:Nat))/\lI w30 (a35.add (p10.toNat*1)) fun x36=>cnd (x33 != x36)
 (inR .i64 (p12+1)/\N0 p0 p1 p4 p5 p9 p10 p11 (p12+1) w30)
 (z38_k1 p0 p1 p4 p5 p9 p10 p11 p12 N0 K w30))
 (z38_k1 p0 p1 p4 p5 p9 p10 p11 p12 N0 K w30))
 (lS w (p9.add 3) fun x53=>K (p11 == (x53.l:Int)) w)
structure z38_l0 (p0:Int)(p1:Sl)(p4 p5 p9:Addr)(p10 p11 p12:Int)(K:Pw.T0)(w:World):Prop where
 out:∃ (I:Int->Int->World->Prop) (μ:Int->Int->World->Nat),I p11 p12 w/\∀ (p111 p121:Int) (w1:World),I p111 p121 w1 ->
  z38_b0 p0 p1 p4 p5 p9 p10 p111 p121 (fun p0' p1' p4' p5' p9' p10' p11' p12' w'=>((p0'=p0/\p1'=p1/\p4'=p4/\p5'=p5/\p9'=p9/\p10'=p10/\True)/\I p11' p12' w')/\μ p11' p12' w'<μ p111 p121 w1) K w1
structure z38_sh (p0:Int)(p1:Sl)(p2 p3:Addr)(p4 p5:Addr)(K:Pw.T0)(w:World):Prop where
 out:cnd (decide (p0<0))
  (K false w)
  (lS w (p2.add 3) fun x1=>cnd (decide (p0>=(x1.l:Int)))
  (K false w)
  (∃ x2:Option Nat,w.cell? p3=some (.map x2)/\nzm x2 fun m3=>∃ l4:List (Int × Bool),Mp w m3 .i64 (l4.map fun p=>(p.1,Value.bool p.2))/\cnd (q10 false p0 l4)
  (K false w)
  (∃ x5:Option Nat,w.cell? p3=some (.map x5)/\nzm x5 fun m6=>(∃ l:List (Int × Value),Mp w m6 .i64 l)/\let w7:=w.mset m6 .i64 p0 (.bool true)
  lS w7 (p2.add 3) fun x8=>nz x8.p fun a9=>(0<=p0/\p0<(x8.l:Nat))/\lI w7 (a9.add (p0.toNat*4)) fun x10=>∃ x11:Int,w7.cell? ((a9.add (p0.toNat*4)).add 1)=some (vI x11)/\∃ x12:Int,w7.cell? ((a9.add (p0.toNat*4)).add 2)=some (vI x12)/\∃ x13:Sl,w7.cell? ((a9.add (p0.toNat*4)).add 3)=some (vS x13)/\let w14:=w7.alloc (.cells #[(vI 0),(vI 0),(vI 0),vN] 55)
  stN w14 (hA w7 0) [(vI x10),(vI x11),(vI x12),(vS x13)] fun w15=>lS w15 (hA w7 3) fun x16=>cnd ((x16.l:Int) == 0)
  (lP w15 p4 fun x17 x18 x19 x20 x21=>lI w15 (hA w7 1) fun x22=>lI w15 (hA w7 2) fun x23=>lS w15 p2 fun x24=>z3g_sh x17 x18 x19 x20 x21 p1 x22 x23 x24 (fun r26 w25=>K r26 w25) w15)
  (lI w15 (hA w7 0) fun x27=>cnd (x27 != (p1.l:Int))
  (K false w15)
  (lS w15 p4 fun x28=>cnd (decide ((p1.l:Int)>=(x28.l:Int)))
  (K false w15)
  (z38_l0 p0 p1 p4 p5 (hA w7 0) (p1.l:Int) 0 (-1:Int) K w15))))))
def z38_L0 (Kv:VW):Cur [tI,tL,tQ,tQ,tQ,tI,tI,tI] WP:=fun p0 p1 p4 p5 p9 p10 p11 p12=>z38_l0 p0 p1 p4 p5 p9 p10 p11 p12 (kk [tB] Kv)
def z38_L1 (Kv:VW):Cur [tI,tL,tQ,tQ,tQ,tI,tI,tI] WP->Cur [tI,tL,tQ,tQ,tQ,tI,tI,tI] WP:=fun N0 p0 p1 p4 p5 p9 p10 p11 p12=>z38_k1 p0 p1 p4 p5 p9 p10 p11 p12 N0 (kk [tB] Kv)
noncomputable def z38_S:=sp [tI,tL,tQ,tQ,tQ,tQ] [tB] z38_sh
theorem z38_ok:okP 44 z38_S:=okR (x:=fun Kv=>qr 1 (qs (qs (A.reg (qn 3 (RA.spl 15 (qk 5 (qn 2 (qk 3 (qn 1 RA.done)))) (qn 7 (RA.spl 22 (qk 3 (qn 1 RA.done)) (qn 4 RA.done)))))) (qc (qr 1 ql) ql)) (qr 3 (qr 7 (qs (qr 4 (qc (qr 8 ql) ql)) (qr 3 (qs (qs (A.reg (qn 5 (RA.spl 51 (qk 5 (qn 1 RA.done)) (qn 6 RA.done)))) (qc (qr 1 ql) ql)) (qr 1 (qs (qr 1 (qb (A.loop [0,1,4,5,9,10,11,12] (uR0 [tI,tL,tQ,tQ,tQ,tI,tI,tI] (z38_L0 Kv)) (qs (qr 5 (qc ql ql)) (qs (qb (qs (qs (A.drp (dp [0,1,2] (DA.spl 67 (dp [3,4,5,6,7,8,9,10,11,12,13,14,15] DA.done) (DA.skp 3 (DA.skp 4 (DA.skp 5 (DA.skp 6 (DA.skp 7 (DA.skp 8 (DA.skp 9 (DA.skp 10 (DA.skp 11 (DA.skp 12 (DA.skp 13 (DA.skp 14 (DA.pur 15 DA.done)))))))))))))))) (qc ql ql)) (A.cut [0,1,4,5,9,10,11,12] (uR1 [tI,tL,tQ,tQ,tQ,tI,tI,tI] [tI,tL,tQ,tQ,tQ,tI,tI,tI] (z38_L1 Kv)) (qs (qs (A.drw (dp [0,1,2,3,4,5] (DA.spl 86 (DA.skp 6 (DA.skp 7 (DA.skp 8 (DA.skp 9 (DA.skp 10 (DA.skp 11 (DA.skp 12 (dp [13,14] (DA.skp 15 (DA.skp 16 (DA.skp 17 (DA.skp 18 (DA.skp 19 (DA.skp 20 (DA.skp 21 (DA.skp 22 (DA.skp 23 (DA.skp 24 (DA.skp 25 (DA.skp 26 (DA.skp 27 (DA.skp 28 (DA.skp 29 (DA.pur 30 DA.done)))))))))))))))))))))))) (dp [6,7,8,9,10,11,12,13,14] (DA.spl 95 (DA.skp 15 (DA.skp 16 (DA.skp 17 (DA.skp 18 (DA.skp 19 (DA.skp 20 (DA.skp 21 (DA.skp 22 (DA.skp 23 (DA.skp 24 (DA.skp 25 (DA.skp 26 (DA.skp 27 (DA.skp 28 (DA.skp 29 (DA.pur 30 DA.done)))))))))))))))) (dp [15,16,17,18,19,20,21,22,23,24,25] (DA.eff 26 (DA.eff 27 (DA.dyn 28 (Value.bool false) (dp [29,30] DA.done)))))))))) (qc (qr 1 ql) ql)) (qe 3))))) (qe 3)))))) (qr 6 ql)))))))))) (Γ:=[(45,z3g_S)]) ⟨.inl z3g_ok,trivial⟩ Tryz.call44 Tryz.func44 (fun Kv=>q07 (q0a (L:=z38_L0 Kv) (fun N0 p0 p1 p4 p5 p9 p10 p11 p12=>z38_b0 p0 p1 p4 p5 p9 p10 p11 p12 N0 (kk [tB] Kv)) (fun⟨a0,a1,a2,a3,a4,a5,_,_,_⟩ _ h=>let ⟨I,μ,h0,hr⟩:=h.out; ⟨fun b0 b1 b2 b3 b4 b5 b6 b7 w=>(b0=a0/\b1=a1/\b2=a2/\b3=a3/\b4=a4/\b5=a5/\True)/\I b6 b7 w,fun _ _ _ _ _ _ b6 b7 w=>μ b6 b7 w,⟨⟨rfl,rfl,rfl,rfl,rfl,rfl,trivial⟩,h0⟩,fun⟨_,_,_,_,_,_,_,_,_⟩ _ ⟨⟨e0,e1,e2,e3,e4,e5,_⟩,hI⟩=>by cases e0; cases e1; cases e2; cases e3; cases e4; cases e5; exact hr _ _ _ hI⟩)) <| q07 (hK1 (F:=z38_L1 Kv)) <| hEnd)
structure z3s_sh (p0_0 p0_1 p0_2:Sl)(p0_3 p0_4:Int)(p1_0:Sl)(p1_1 p1_2:Int)(p1_3:Sl)(K:Pw.T1)(w:World):Prop where
 out:let w1:=w.alloc (.cells #[(vS p0_0),(vS p0_1),(vS p0_2),(vI p0_3),(vI p0_4)] 28)
  let w2:=w1.alloc (.cells #[(vS p1_0),(vI p1_1),(vI p1_2),(vS p1_3)] 45)
  lS w2 (hA w 0) fun x3=>lS w2 (hA w 1) fun x4=>lS w2 (hA w 2) fun x5=>lI w2 (hA w 3) fun x6=>lI w2 (hA w 4) fun x7=>z3u_sh x3 x4 x5 x6 x7 (fun r9 w8=>cnd (!r9)
  (K 1 w8)
  (let w10:=w8.drew
  ∃ S11:World->Prop,S11 w10/\mS S11 (hA w 0) fun x12=>mS S11 (hA w 1) fun x13=>mS S11 (hA w 2) fun x14=>mI S11 (hA w 3) fun x15=>mI S11 (hA w 4) fun x16=>mS S11 (hA w1 0) fun x17=>z2w_sh x12 x13 x14 x15 x16 x17 (fun r19 w18=>S11 w18/\cnd (!r19)
  (K 41 w18)
  (mS S11 (hA w 0) fun x20=>mS S11 (hA w 1) fun x21=>mS S11 (hA w 2) fun x22=>mI S11 (hA w 3) fun x23=>mI S11 (hA w 4) fun x24=>mS S11 (hA w1 0) fun x25=>mI S11 (hA w1 1) fun x26=>z3i_sh x20 x21 x22 x23 x24 x25 (fun r28 w27=>S11 w27/\cnd (r28 != x26)
  (K 41 w27)
  (mI S11 (hA w1 2) fun x29=>mI S11 (hA w1 1) fun x30=>cnd (x29 != x30)
  (K 41 w27)
  (let w31:=w27.alloc (Obj.map #[] 0)
  let w32:=w31.alloc (.cells #[(.map none)] 88)
  wrOk w32 (hA w31 0)/\
  (let w33:=w32.setCell (hA w31 0) (.map (some w27.heap.size))
  let w34:=w33.alloc (.cells #[Value.nilFunc] 89)
  wrOk w34 (hA w33 0)/\
  (let w35:=w34.setCell (hA w33 0) (Value.func (.func 44) #[] #[(.pointer (some (hA w1 0))),(.pointer (some (hA w31 0))),(.pointer (some (hA w 0))),(.pointer (some (hA w33 0)))])
  ∃ x36:Value,w35.cell? (hA w33 0)=some x36/\q2b Tryz.prog x36 [(vI 0),vN] w35 fun u37 w38=>∃ x39:Bool,u37=(.bool x39)/\cnd (!x39)
  (K 41 w38)
  (∃ x40:Option Nat,w38.cell? (hA w31 0)=some (.map x40)/\nzm x40 fun m41=>∃ c42:Nat,Ml w38 m41 c42/\lS w38 (hA w1 3) fun x43=>cnd ((c42:Int) != (x43.l:Int))
  (K 41 w38)
  (K 0 w38))))))) w18)) w10)) w2
noncomputable def z3s_S:=sp [.g 5,tL,tL,tL,tI,tI,.g 4,tL,tI,tI,tL] [tI] z3s_sh
theorem z3s_ok:okP 18 z3s_S:=okR (x:=fun _=>qr 3 (qs (qr 3 (qc (qr 1 ql) ql)) (qs (qs (A.drw (dp [0,1,2] (DA.eff 3 (dp [4,5] (DA.spl 15 (DA.skp 6 (DA.skp 7 (DA.skp 8 (DA.skp 10 (DA.skp 11 (DA.skp 9 (DA.skp 12 (dp [13,14] (DA.skp 15 (DA.skp 16 (DA.skp 17 (DA.skp 18 (DA.skp 19 (DA.pur 20 DA.done)))))))))))))) (dp [6,7,8,10,11] (DA.eff 9 (dp [12,13,14] (DA.spl 24 (DA.skp 15 (DA.skp 16 (DA.skp 17 (DA.skp 18 (DA.skp 19 (DA.pur 20 DA.done)))))) (dp [15,16,17,18,19,20] DA.done)))))))))) (qc (qr 1 ql) ql)) (qr 3 (qr 1 (qr 2 (qs (qs (A.reg (qn 1 (RA.dyn (Value.bool false) (qn 2 (RA.spl 36 (qk 6 (qn 1 RA.done)) (qn 7 RA.done)))))) (qc (qr 1 ql) ql)) (qr 1 ql)))))))) (Γ:=[(36,z3u_S),(42,z2w_S),(43,z3i_S)]) ⟨.inl z3u_ok,.inl z2w_ok,.inl z3i_ok,trivial⟩ Tryz.call18 Tryz.func18 (fun _=>hEnd)
end Go.Proofs.YtfpobpjandjhjaaGreatDoor
