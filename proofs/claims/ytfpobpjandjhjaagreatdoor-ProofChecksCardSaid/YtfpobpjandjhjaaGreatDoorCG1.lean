/- The bodies' formulas, by program. -/
import Derived.Test.YtfpobpjandjhjaaGreatDoorCG0
set_option maxRecDepth 20000
namespace Go.Proofs.YtfpobpjandjhjaaGreatDoor
open Go Pw
structure z2f_sh (p0 p1:Int)(K:Pw.T1)(w:World):Prop where
 out:p1≠0/\inR .i64 ((Int.tmod p0 p1)+p1)/\p1≠0/\K (Int.tmod ((Int.tmod p0 p1)+p1) p1) w
noncomputable def z2f_S:=sp [tI,tI] [tI] z2f_sh
theorem z2f_ok:okP 35 z2f_S:=okR (x:=fun _=>qr 1 (qr 8 ql)) (Γ:=[]) trivial Tryz.call35 Tryz.func35 (fun _=>hEnd)
structure z1m_sh (p0:Int)(K:Pw.T0)(w:World):Prop where
 out:cnd (decide (p0>(-1000000000)))
  (K (decide (p0<1000000000)) w)
  (K false w)
noncomputable def z1m_S:=sp [tI] [tB] z1m_sh
theorem z1m_ok:okP 134 z1m_S:=okR (x:=fun _=>qr 1 (qs (A.reg (qn 3 (RA.spl 5 (qn 4 RA.done) (qk 2 (qn 2 RA.done))))) ql)) (Γ:=[]) trivial Tryz.call134 Tryz.func134 (fun _=>hEnd)
def z1l_b1 (p0 p1:Int)(p4:Addr)(p5 p6:Int)(N1:Int->Int->Addr->Int->Int->World->Prop)(K:Pw.T6)(w:World):Prop :=
 cnd (decide (p6>0))
 (p6≠0/\N1 p0 p1 p4 p6 (Int.tmod p5 p6) w)
 (let w2:=w.drew
 ∃ S3:World->Prop,S3 w2/\p5≠0/\inR .i64 (Int.tdiv p0 p5)/\p5≠0/\inR .i64 (Int.tdiv p1 p5)/\wrOk w2 p4/\
 (let w4:=w2.setCell p4 (vI (Int.tdiv p0 p5))
 wrOk w4 (p4.add 1)/\
 (let w5:=w4.setCell (p4.add 1) (vI (Int.tdiv p1 p5))
 lI w5 p4 fun x6=>lI w5 (p4.add 1) fun x7=>K x6 x7 w5)))
structure z1l_l1 (p0 p1:Int)(p4:Addr)(p5 p6:Int)(K:Pw.T6)(w:World):Prop where
 out:∃ (I:Int->Int->World->Prop) (μ:Int->Int->World->Nat),I p5 p6 w/\∀ (p51 p61:Int) (w1:World),I p51 p61 w1 ->
  z1l_b1 p0 p1 p4 p51 p61 (fun p0' p1' p4' p5' p6' w'=>((p0'=p0/\p1'=p1/\p4'=p4/\True)/\I p5' p6' w')/\μ p5' p6' w'<μ p51 p61 w1) K w1
structure z1l_k0 (p0 p1:Int)(p4:Addr)(K:Pw.T6)(w:World):Prop where
 out:inR .i64 (-p0)/\z1l_l1 p0 p1 p4 (max p0 (-p0)) p1 K w
structure z1l_sh (p0 p1:Int)(K:Pw.T6)(w:World):Prop where
 out:let w1:=w.alloc (.cells #[(vI 0),(vI 0)] 31)
  cnd (decide (p1<0))
  (inR .i64 (-p0)/\inR .i64 (-p1)/\z1l_k0 (-p0) (-p1) (hA w 0) K w1)
  (z1l_k0 p0 p1 (hA w 0) K w1)
def z1l_L0 (Kv:VW):Cur [tI,tI,tQ] WP:=fun p0 p1 p4=>z1l_k0 p0 p1 p4 (kk [.g 2,tI,tI] Kv)
def z1l_L1 (Kv:VW):Cur [tI,tI,tQ,tI,tI] WP:=fun p0 p1 p4 p5 p6=>z1l_l1 p0 p1 p4 p5 p6 (kk [.g 2,tI,tI] Kv)
noncomputable def z1l_S:=sp [tI,tI] [.g 2,tI,tI] z1l_sh
theorem z1l_ok:okP 135 z1l_S:=okR (x:=fun Kv=>qr 1 (qs (qr 2 (qc (qr 3 (qe 3)) ql)) (A.cut [0,1,4] (uR0 [tI,tI,tQ] (z1l_L0 Kv)) (qr 5 (qr 2 (qs (qb (A.loop [0,1,4,5,6] (uR0 [tI,tI,tQ,tI,tI] (z1l_L1 Kv)) (qs (qr 2 (qc ql ql)) (qb (qr 4 (qr 2 (qe 2))))))) (qs (A.drw (dp [0,1,2,3,4,5,6] (DA.eff 7 DA.done))) ql))))))) (Γ:=[]) trivial Tryz.call135 Tryz.func135 (fun Kv=>q07 (hK0 (F:=z1l_L0 Kv)) <| q07 (q0a (L:=z1l_L1 Kv) (fun N1 p0 p1 p4 p5 p6=>z1l_b1 p0 p1 p4 p5 p6 N1 (kk [.g 2,tI,tI] Kv)) (fun⟨a0,a1,a2,_,_,_⟩ _ h=>let ⟨I,μ,h0,hr⟩:=h.out; ⟨fun b0 b1 b2 b3 b4 w=>(b0=a0/\b1=a1/\b2=a2/\True)/\I b3 b4 w,fun _ _ _ b3 b4 w=>μ b3 b4 w,⟨⟨rfl,rfl,rfl,trivial⟩,h0⟩,fun⟨_,_,_,_,_,_⟩ _ ⟨⟨e0,e1,e2,_⟩,hI⟩=>by cases e0; cases e1; cases e2; exact hr _ _ _ hI⟩)) <| hEnd)
def z2u_b1 (p0:Int)(p2:Addr)(p3:Sl)(p4:Int)(N1:Int->Addr->Sl->Int->World->Prop)(K:Pw.T16)(w:World):Prop :=
 cnd (decide (p4>0))
 ((65536:Int)≠0/\let w2:=w.alloc (.cells #[(vI (IntKind.wrap .i64 (Int.tmod p4 65536)))] 3)
 apS 1 8 [(vI 0)] 3 p3 (Sl.mk (some (hA w 0)) 1 1) w2 fun s3 w4=>(65536:Int)≠0/\inR .u64 (Int.tdiv p4 65536)/\N1 p0 p2 s3 (Int.tdiv p4 65536) w4)
 (wrOk w p2/\
 (let w5:=w.setCell p2 (.bool (decide (p0<0)))
 wrOk w5 (p2.add 1)/\
 (let w6:=w5.setCell (p2.add 1) (vS p3)
 ∃ x7:Bool,w6.cell? p2=some (.bool x7)/\lS w6 (p2.add 1) fun x8=>K x7 x8 w6)))
structure z2u_l1 (p0:Int)(p2:Addr)(p3:Sl)(p4:Int)(K:Pw.T16)(w:World):Prop where
 out:∃ (I:Sl->Int->World->Prop) (μ:Sl->Int->World->Nat),I p3 p4 w/\∀ (p31:Sl) (p41:Int) (w1:World),I p31 p41 w1 ->
  z2u_b1 p0 p2 p31 p41 (fun p0' p2' p3' p4' w'=>((p0'=p0/\p2'=p2/\True)/\I p3' p4' w')/\μ p3' p4' w'<μ p31 p41 w1) K w1
structure z2u_k0 (p0:Int)(p2:Addr)(p3:Sl)(p4:Int)(K:Pw.T16)(w:World):Prop where
 out:z2u_l1 p0 p2 p3 p4 K w
structure z2u_sh (p0:Int)(K:Pw.T16)(w:World):Prop where
 out:let w1:=w.alloc (.cells #[(.bool false),vN] 181)
  cnd (decide (p0<0))
  (z2u_k0 p0 (hA w 0) (Sl.mk none 0 0) (IntKind.wrap .u64 ((0:Int)-(IntKind.wrap .u64 p0))) K w1)
  (z2u_k0 p0 (hA w 0) (Sl.mk none 0 0) (IntKind.wrap .u64 p0) K w1)
def z2u_L0 (Kv:VW):Cur [tI,tQ,tL,tU] WP:=fun p0 p2 p3 p4=>z2u_k0 p0 p2 p3 p4 (kk [.g 2,tB,tL] Kv)
def z2u_L1 (Kv:VW):Cur [tI,tQ,tL,tU] WP:=fun p0 p2 p3 p4=>z2u_l1 p0 p2 p3 p4 (kk [.g 2,tB,tL] Kv)
noncomputable def z2u_S:=sp [tI] [.g 2,tB,tL] z2u_sh
theorem z2u_ok:okP 137 z2u_S:=okR (x:=fun Kv=>qr 1 (qr 1 (qs (A.reg (qn 1 (RA.raw (qn 1 RA.done)))) (qs (qr 2 (qc (A.reg (qn 1 (RA.raw (qn 1 RA.done)))) ql)) (A.cut [0,2,3,4] (uR0 [tI,tQ,tL,tU] (z2u_L0 Kv)) (qs (qb (A.loop [0,2,3,4] (uR0 [tI,tQ,tL,tU] (z2u_L1 Kv)) (qs (qr 2 (qc ql ql)) (qb (qs (A.reg (qn 3 (RA.raw (qn 3 RA.done)))) (qe 3)))))) (qr 5 ql))))))) (Γ:=[]) trivial Tryz.call137 Tryz.func137 (fun Kv=>q07 (hK0 (F:=z2u_L0 Kv)) <| q07 (q0a (L:=z2u_L1 Kv) (fun N1 p0 p2 p3 p4=>z2u_b1 p0 p2 p3 p4 N1 (kk [.g 2,tB,tL] Kv)) (fun⟨a0,a1,_,_,_⟩ _ h=>let ⟨I,μ,h0,hr⟩:=h.out; ⟨fun b0 b1 b2 b3 w=>(b0=a0/\b1=a1/\True)/\I b2 b3 w,fun _ _ b2 b3 w=>μ b2 b3 w,⟨⟨rfl,rfl,trivial⟩,h0⟩,fun⟨_,_,_,_,_⟩ _ ⟨⟨e0,e1,_⟩,hI⟩=>by cases e0; cases e1; exact hr _ _ _ hI⟩)) <| hEnd)
def z1z_b0 (p0:Sl)(N0:Pw.T4)(K:Pw.T4)(w:World):Prop :=
 cnd (decide ((p0.l:Int)>0))
 (inR .i64 ((p0.l:Int)-1)/\nz p0.p fun a1=>(0<=((p0.l:Int)-1)/\((p0.l:Int)-1)<(p0.l:Nat))/\∃ x2:Int,w.cell? (a1.add (((p0.l:Int)-1).toNat*1))=some (vI x2)/\cnd (x2 == 0)
 (inR .i64 ((p0.l:Int)-1)/\(0<=(0:Int)/\(0:Int)<=((p0.l:Int)-1)/\((p0.l:Int)-1)<=(p0.c:Nat))/\N0 (Sl.mk (subP p0.p 0 p0.c 1) (((p0.l:Int)-1).toNat-0) (p0.c-0)) w)
 (K p0 w))
 (K p0 w)
structure z1z_l0 (p0:Sl)(K:Pw.T4)(w:World):Prop where
 out:∃ (I:Sl->World->Prop) (μ:Sl->World->Nat),I p0 w/\∀ (p01:Sl) (w1:World),I p01 w1 ->
  z1z_b0 p01 (fun p0' w'=>((True)/\I p0' w')/\μ p0' w'<μ p01 w1) K w1
structure z1z_sh (p0:Sl)(K:Pw.T4)(w:World):Prop where
 out:z1z_l0 p0 K w
def z1z_L0 (Kv:VW):Cur [tL] WP:=fun p0=>z1z_l0 p0 (kk [tL] Kv)
noncomputable def z1z_S:=sp [tL] [tL] z1z_sh
theorem z1z_ok:okP 142 z1z_S:=okR (x:=fun Kv=>qr 1 (qs (qb (A.loop [0] (uR0 [tL] (z1z_L0 Kv)) (qs (qs (A.reg (qn 4 (RA.spl 6 (qn 8 RA.done) (qk 7 (qn 1 RA.done))))) (qc ql ql)) (qb (qe 6))))) (qr 2 ql))) (Γ:=[]) trivial Tryz.call142 Tryz.func142 (fun Kv=>q07 (q0a (L:=z1z_L0 Kv) (fun N0 p0=>z1z_b0 p0 N0 (kk [tL] Kv)) (fun⟨_,_⟩ _ h=>let ⟨I,μ,h0,hr⟩:=h.out; ⟨fun b0 w=>(True)/\I b0 w,fun b0 w=>μ b0 w,⟨trivial,h0⟩,fun⟨_,_⟩ _ ⟨_,hI⟩=>by exact hr _ _ hI⟩)) <| hEnd)
def z0w_b0 (p0 p1:Sl)(p5:Int)(N0:Pw.T41)(K:Pw.T1)(w:World):Prop :=
 cnd (decide (p5>=0))
 (let w1:=w.drew
 nz p0.p fun a2=>(0<=p5/\p5<(p0.l:Nat))/\lI w1 (a2.add (p5.toNat*1)) fun x3=>nz p1.p fun a4=>(0<=p5/\p5<(p1.l:Nat))/\lI w1 (a4.add (p5.toNat*1)) fun x5=>cnd (x3 != x5)
 (let w6:=w1.drew
 nz p0.p fun a7=>(0<=p5/\p5<(p0.l:Nat))/\lI w6 (a7.add (p5.toNat*1)) fun x8=>nz p1.p fun a9=>(0<=p5/\p5<(p1.l:Nat))/\lI w6 (a9.add (p5.toNat*1)) fun x10=>cnd (decide (x8<x10))
 (K (-1:Int) w6)
 (K 1 w6))
 (inR .i64 (p5-1)/\N0 p0 p1 (p5-1) w1))
 (K 0 w)
structure z0w_l0 (p0 p1:Sl)(p5:Int)(K:Pw.T1)(w:World):Prop where
 out:∃ (I:Int->World->Prop) (μ:Int->World->Nat),I p5 w/\∀ (p51:Int) (w1:World),I p51 w1 ->
  z0w_b0 p0 p1 p51 (fun p0' p1' p5' w'=>((p0'=p0/\p1'=p1/\True)/\I p5' w')/\μ p5' w'<μ p51 w1) K w1
structure z0w_sh (p0 p1:Sl)(K:Pw.T1)(w:World):Prop where
 out:cnd ((p0.l:Int) != (p1.l:Int))
  (cnd (decide ((p0.l:Int)<(p1.l:Int)))
  (K (-1:Int) w)
  (K 1 w))
  (inR .i64 ((p0.l:Int)-1)/\z0w_l0 p0 p1 ((p0.l:Int)-1) K w)
def z0w_L0 (Kv:VW):Cur [tL,tL,tI] WP:=fun p0 p1 p5=>z0w_l0 p0 p1 p5 (kk [tI] Kv)
noncomputable def z0w_S:=sp [tL,tL] [tI] z0w_sh
theorem z0w_ok:okP 186 z0w_S:=okR (x:=fun Kv=>qr 1 (qs (qr 5 (qc (qs (qr 5 (qc (qr 1 ql) ql)) (qr 1 ql)) ql)) (qs (qr 4 (qb (A.loop [0,1,5] (uR0 [tL,tL,tI] (z0w_L0 Kv)) (qs (qr 2 (qc ql ql)) (qs (qb (qs (A.drp (dp [0,1,2,3,4,5,6,7,8] DA.done)) (qc (qs (qs (A.drp (dp [0,1,2,3,4,5,6,7,8] DA.done)) (qc (qr 1 ql) ql)) (qr 1 ql)) ql))) (qe 3)))))) (qr 1 ql)))) (Γ:=[]) trivial Tryz.call186 Tryz.func186 (fun Kv=>q07 (q0a (L:=z0w_L0 Kv) (fun N0 p0 p1 p5=>z0w_b0 p0 p1 p5 N0 (kk [tI] Kv)) (fun⟨a0,a1,_,_⟩ _ h=>let ⟨I,μ,h0,hr⟩:=h.out; ⟨fun b0 b1 b2 w=>(b0=a0/\b1=a1/\True)/\I b2 w,fun _ _ b2 w=>μ b2 w,⟨⟨rfl,rfl,trivial⟩,h0⟩,fun⟨_,_,_,_⟩ _ ⟨⟨e0,e1,_⟩,hI⟩=>by cases e0; cases e1; exact hr _ _ hI⟩)) <| hEnd)
def z1n_b1 (p0 p1 p5:Sl)(p6 p7 p8:Int)(N1:Sl->Sl->Sl->Int->Int->Int->World->Prop)(N0:Pw.T34)(K:Pw.T4)(w:World):Prop :=
 cnd (decide (p8<(p1.l:Int)))
 (let w3:=w.drew
 inR .i64 (p6+p8)/\nz p5.p fun a4=>(0<=(p6+p8)/\(p6+p8)<(p5.l:Nat))/\∃ x5:Int,w3.cell? (a4.add ((p6+p8).toNat*1))=some (vI x5)/\nz p0.p fun a6=>(0<=p6/\p6<(p0.l:Nat))/\lI w3 (a6.add (p6.toNat*1)) fun x7=>nz p1.p fun a8=>(0<=p8/\p8<(p1.l:Nat))/\lI w3 (a8.add (p8.toNat*1)) fun x9=>inR .i64 (x7*x9)/\inR .i64 (x5+(x7*x9))/\inR .i64 ((x5+(x7*x9))+p7)/\inR .i64 (p6+p8)/\(65536:Int)≠0/\nz p5.p fun a10=>(0<=(p6+p8)/\(p6+p8)<(p5.l:Nat))/\wrOk w3 (a10.add ((p6+p8).toNat*1))/\
 (let w11:=w3.setCell (a10.add ((p6+p8).toNat*1)) (vI (Int.tmod ((x5+(x7*x9))+p7) 65536))
 (65536:Int)≠0/\inR .i64 (Int.tdiv ((x5+(x7*x9))+p7) 65536)/\inR .i64 (p8+1)/\N1 p0 p1 p5 p6 (Int.tdiv ((x5+(x7*x9))+p7) 65536) (p8+1) w11))
 (inR .i64 (p6+(p1.l:Int))/\nz p5.p fun a12=>(0<=(p6+(p1.l:Int))/\(p6+(p1.l:Int))<(p5.l:Nat))/\wrOk w (a12.add ((p6+(p1.l:Int)).toNat*1))/\
 (let w13:=w.setCell (a12.add ((p6+(p1.l:Int)).toNat*1)) (vI p7)
 inR .i64 (p6+1)/\N0 p0 p1 p5 (p6+1) w13))
structure z1n_l1 (p0 p1 p5:Sl)(p6 p7 p8:Int)(N0:Pw.T34)(K:Pw.T4)(w:World):Prop where
 out:∃ (I:Int->Int->World->Prop) (μ:Int->Int->World->Nat),I p7 p8 w/\∀ (p71 p81:Int) (w1:World),I p71 p81 w1 ->
  z1n_b1 p0 p1 p5 p6 p71 p81 (fun p0' p1' p5' p6' p7' p8' w'=>((p0'=p0/\p1'=p1/\p5'=p5/\p6'=p6/\True)/\I p7' p8' w')/\μ p7' p8' w'<μ p71 p81 w1) N0 K w1
def z1n_b0 (p0 p1 p5:Sl)(p6:Int)(N0:Pw.T34)(K:Pw.T4)(w:World):Prop :=
 cnd (decide (p6<(p0.l:Int)))
 (z1n_l1 p0 p1 p5 p6 0 0 N0 K w)
 (z1z_sh p5 (fun r15 w14=>K r15 w14) w)
structure z1n_l0 (p0 p1 p5:Sl)(p6:Int)(K:Pw.T4)(w:World):Prop where
 out:∃ (I:Int->World->Prop) (μ:Int->World->Nat),I p6 w/\∀ (p61:Int) (w1:World),I p61 w1 ->
  z1n_b0 p0 p1 p5 p61 (fun p0' p1' p5' p6' w'=>((p0'=p0/\p1'=p1/\p5'=p5/\True)/\I p6' w')/\μ p6' w'<μ p61 w1) K w1
structure z1n_sh (p0 p1:Sl)(K:Pw.T4)(w:World):Prop where
 out:inR .i64 ((p0.l:Int)+(p1.l:Int))/\mkS 8 [(vI 0)] 3 ((p0.l:Int)+(p1.l:Int)) ((p0.l:Int)+(p1.l:Int)) w fun s1 w2=>z1n_l0 p0 p1 s1 0 K w2
def z1n_L0 (Kv:VW):Cur [tL,tL,tL,tI] WP:=fun p0 p1 p5 p6=>z1n_l0 p0 p1 p5 p6 (kk [tL] Kv)
def z1n_L1 (Kv:VW):Cur [tL,tL,tL,tI] WP->Cur [tL,tL,tL,tI,tI,tI] WP:=fun N0 p0 p1 p5 p6 p7 p8=>z1n_l1 p0 p1 p5 p6 p7 p8 N0 (kk [tL] Kv)
noncomputable def z1n_S:=sp [tL,tL] [tL] z1n_sh
theorem z1n_ok:okP 184 z1n_S:=okR (x:=fun Kv=>qr 1 (qr 7 (qs (qr 1 (qb (A.loop [0,1,5,6] (uR0 [tL,tL,tL,tI] (z1n_L0 Kv)) (qs (qr 4 (qc ql ql)) (qs (qb (qr 1 (qs (qr 1 (qb (A.loop [0,1,5,6,7,8] (uR1 [tL,tL,tL,tI] [tL,tL,tL,tI,tI,tI] (z1n_L1 Kv)) (qs (qr 4 (qc ql ql)) (qs (qb (qs (A.drp (dp [0,1,2,3,4,5,6,7,8,9,10,11,12,13,14,15,16,17,18] DA.done)) (qr 8 (qe 3)))) (qe 3)))))) (qe 8)))) (qe 3)))))) (qr 3 ql)))) (Γ:=[(142,z1z_S)]) ⟨.inl z1z_ok,trivial⟩ Tryz.call184 Tryz.func184 (fun Kv=>q07 (q0a (L:=z1n_L0 Kv) (fun N0 p0 p1 p5 p6=>z1n_b0 p0 p1 p5 p6 N0 (kk [tL] Kv)) (fun⟨a0,a1,a2,_,_⟩ _ h=>let ⟨I,μ,h0,hr⟩:=h.out; ⟨fun b0 b1 b2 b3 w=>(b0=a0/\b1=a1/\b2=a2/\True)/\I b3 w,fun _ _ _ b3 w=>μ b3 w,⟨⟨rfl,rfl,rfl,trivial⟩,h0⟩,fun⟨_,_,_,_,_⟩ _ ⟨⟨e0,e1,e2,_⟩,hI⟩=>by cases e0; cases e1; cases e2; exact hr _ _ hI⟩)) <| q07 (q3q (L:=z1n_L1 Kv) (fun N0 N1 p0 p1 p5 p6 p7 p8=>z1n_b1 p0 p1 p5 p6 p7 p8 N1 N0 (kk [tL] Kv)) (fun _ ⟨a0,a1,a2,a3,_,_,_⟩ _ h=>let ⟨I,μ,h0,hr⟩:=h.out; ⟨fun b0 b1 b2 b3 b4 b5 w=>(b0=a0/\b1=a1/\b2=a2/\b3=a3/\True)/\I b4 b5 w,fun _ _ _ _ b4 b5 w=>μ b4 b5 w,⟨⟨rfl,rfl,rfl,rfl,trivial⟩,h0⟩,fun⟨_,_,_,_,_,_,_⟩ _ ⟨⟨e0,e1,e2,e3,_⟩,hI⟩=>by cases e0; cases e1; cases e2; cases e3; exact hr _ _ _ hI⟩)) <| hEnd)
structure z2t_sh (p0:Sl)(p1:Int)(K:Pw.T4)(w:World):Prop where
 out:let w1:=w.alloc (.cells #[(vI p1)] 3)
  z1n_sh p0 (Sl.mk (some (hA w 0)) 1 1) (fun r3 w2=>K r3 w2) w1
noncomputable def z2t_S:=sp [tL,tI] [tL] z2t_sh
theorem z2t_ok:okP 211 z2t_S:=okR (x:=fun _=>qr 1 (qr 5 ql)) (Γ:=[(184,z1n_S)]) ⟨.inl z1n_ok,trivial⟩ Tryz.call211 Tryz.func211 (fun _=>hEnd)
structure z1k_k2 (p0 p1 p5:Sl)(p6 p7 p8:Int)(N0:Pw.T5)(K:Pw.T4)(w:World):Prop where
 out:let w5:=w.alloc (.cells #[(vI p8)] 3)
  apS 1 8 [(vI 0)] 3 p5 (Sl.mk (some (hA w 0)) 1 1) w5 fun s6 w7=>inR .i64 (p7+1)/\N0 p0 p1 s6 p6 (p7+1) w7
structure z1k_k1 (p0 p1 p5:Sl)(p7 p8:Int)(N0:Pw.T5)(K:Pw.T4)(w:World):Prop where
 out:cnd (decide (p8<0))
  (inR .i64 (p8+65536)/\z1k_k2 p0 p1 p5 1 p7 (p8+65536) N0 K w)
  (z1k_k2 p0 p1 p5 0 p7 p8 N0 K w)
def z1k_b0 (p0 p1 p5:Sl)(p6 p7:Int)(N0:Pw.T5)(K:Pw.T4)(w:World):Prop :=
 cnd (decide (p7<(p0.l:Int)))
 (nz p0.p fun a1=>(0<=p7/\p7<(p0.l:Nat))/\lI w (a1.add (p7.toNat*1)) fun x2=>inR .i64 (x2-p6)/\cnd (decide (p7<(p1.l:Int)))
 (nz p1.p fun a3=>(0<=p7/\p7<(p1.l:Nat))/\lI w (a3.add (p7.toNat*1)) fun x4=>inR .i64 ((x2-p6)-x4)/\z1k_k1 p0 p1 p5 p7 ((x2-p6)-x4) N0 K w)
 (z1k_k1 p0 p1 p5 p7 (x2-p6) N0 K w))
 (z1z_sh p5 (fun r9 w8=>K r9 w8) w)
structure z1k_l0 (p0 p1 p5:Sl)(p6 p7:Int)(K:Pw.T4)(w:World):Prop where
 out:∃ (I:Sl->Int->Int->World->Prop) (μ:Sl->Int->Int->World->Nat),I p5 p6 p7 w/\∀ (p51:Sl) (p61 p71:Int) (w1:World),I p51 p61 p71 w1 ->
  z1k_b0 p0 p1 p51 p61 p71 (fun p0' p1' p5' p6' p7' w'=>((p0'=p0/\p1'=p1/\True)/\I p5' p6' p7' w')/\μ p5' p6' p7' w'<μ p51 p61 p71 w1) K w1
structure z1k_sh (p0 p1:Sl)(K:Pw.T4)(w:World):Prop where
 out:z1k_l0 p0 p1 (Sl.mk none 0 0) 0 0 K w
def z1k_L0 (Kv:VW):Cur [tL,tL,tL,tI,tI] WP:=fun p0 p1 p5 p6 p7=>z1k_l0 p0 p1 p5 p6 p7 (kk [tL] Kv)
def z1k_L1 (Kv:VW):Cur [tL,tL,tL,tI,tI] WP->Cur [tL,tL,tL,tI,tI] WP:=fun N0 p0 p1 p5 p7 p8=>z1k_k1 p0 p1 p5 p7 p8 N0 (kk [tL] Kv)
def z1k_L2 (Kv:VW):Cur [tL,tL,tL,tI,tI] WP->Cur [tL,tL,tL,tI,tI,tI] WP:=fun N0 p0 p1 p5 p6 p7 p8=>z1k_k2 p0 p1 p5 p6 p7 p8 N0 (kk [tL] Kv)
noncomputable def z1k_S:=sp [tL,tL] [tL] z1k_sh
theorem z1k_ok:okP 187 z1k_S:=okR (x:=fun Kv=>qr 1 (qr 1 (qr 1 (qs (qr 1 (qb (A.loop [0,1,5,6,7] (uR0 [tL,tL,tL,tI,tI] (z1k_L0 Kv)) (qs (qr 4 (qc ql ql)) (qs (qb (qr 7 (qs (qr 4 (qc (qe 7) ql)) (A.cut [0,1,5,7,8] (uR1 [tL,tL,tL,tI,tI] [tL,tL,tL,tI,tI] (z1k_L1 Kv)) (qr 1 (qs (qr 2 (qc (qr 3 (qe 1)) ql)) (A.cut [0,1,5,6,7,8] (uR1 [tL,tL,tL,tI,tI] [tL,tL,tL,tI,tI,tI] (z1k_L2 Kv)) (qe 5)))))))) (qe 3)))))) (qr 3 ql))))) (Γ:=[(142,z1z_S)]) ⟨.inl z1z_ok,trivial⟩ Tryz.call187 Tryz.func187 (fun Kv=>q07 (q0a (L:=z1k_L0 Kv) (fun N0 p0 p1 p5 p6 p7=>z1k_b0 p0 p1 p5 p6 p7 N0 (kk [tL] Kv)) (fun⟨a0,a1,_,_,_,_⟩ _ h=>let ⟨I,μ,h0,hr⟩:=h.out; ⟨fun b0 b1 b2 b3 b4 w=>(b0=a0/\b1=a1/\True)/\I b2 b3 b4 w,fun _ _ b2 b3 b4 w=>μ b2 b3 b4 w,⟨⟨rfl,rfl,trivial⟩,h0⟩,fun⟨_,_,_,_,_,_⟩ _ ⟨⟨e0,e1,_⟩,hI⟩=>by cases e0; cases e1; exact hr _ _ _ _ hI⟩)) <| q07 (hK1 (F:=z1k_L1 Kv)) <| q07 (hK1 (F:=z1k_L2 Kv)) <| hEnd)
def z1w_b2 (p0 p1:Sl)(p6 p7:Sl)(p8 p9 p10:Int)(N2:Sl->Sl->Sl->Sl->Int->Int->Int->World->Prop)(N0:Pw.T22)(K:Pw.T19)(w:World):Prop :=
 inR .i64 (p10-p9)/\cnd (decide ((p10-p9)>1))
 (inR .i64 (p9+p10)/\(2:Int)≠0/\inR .i64 (Int.tdiv (p9+p10) 2)/\z2t_sh p1 (Int.tdiv (p9+p10) 2) (fun r13 w12=>z0w_sh r13 p7 (fun r15 w14=>cnd (decide (r15<=0))
 (N2 p0 p1 p6 p7 p8 (Int.tdiv (p9+p10) 2) p10 w14)
 (N2 p0 p1 p6 p7 p8 p9 (Int.tdiv (p9+p10) 2) w14)) w12) w)
 (nz p6.p fun a16=>(0<=p8/\p8<(p6.l:Nat))/\wrOk w (a16.add (p8.toNat*1))/\
 (let w17:=w.setCell (a16.add (p8.toNat*1)) (vI p9)
 z2t_sh p1 p9 (fun r19 w18=>z1k_sh p7 r19 (fun r21 w20=>inR .i64 (p8-1)/\N0 p0 p1 p6 r21 (p8-1) w20) w18) w17))
structure z1w_l2 (p0 p1:Sl)(p6 p7:Sl)(p8 p9 p10:Int)(N0:Pw.T22)(K:Pw.T19)(w:World):Prop where
 out:∃ (I:Int->Int->World->Prop) (μ:Int->Int->World->Nat),I p9 p10 w/\∀ (p91 p101:Int) (w1:World),I p91 p101 w1 ->
  z1w_b2 p0 p1 p6 p7 p8 p91 p101 (fun p0' p1' p6' p7' p8' p9' p10' w'=>((p0'=p0/\p1'=p1/\p6'=p6/\p7'=p7/\p8'=p8/\True)/\I p9' p10' w')/\μ p9' p10' w'<μ p91 p101 w1) N0 K w1
structure z1w_k1 (p0 p1:Sl)(p6 p7:Sl)(p8 p9 p10:Int)(N0:Pw.T22)(K:Pw.T19)(w:World):Prop where
 out:z1w_l2 p0 p1 p6 p7 p8 p9 p10 N0 K w
def z1w_b0 (p0 p1:Sl)(p6 p7:Sl)(p8:Int)(N0:Pw.T22)(K:Pw.T19)(w:World):Prop :=
 cnd (decide (p8>=0))
 (nz p0.p fun a3=>(0<=p8/\p8<(p0.l:Nat))/\∃ x4:Int,w.cell? (a3.add (p8.toNat*1))=some (vI x4)/\let w5:=w.alloc (.cells #[(vI x4)] 3)
 apS 1 8 [(vI 0)] 3 (Sl.mk (some (hA w 0)) 1 1) p7 w5 fun s6 w7=>z1z_sh s6 (fun r9 w8=>z0w_sh r9 p1 (fun r11 w10=>cnd (decide (r11<0))
 (z1w_k1 p0 p1 p6 r9 p8 0 1 N0 K w10)
 (z1w_k1 p0 p1 p6 r9 p8 0 65536 N0 K w10)) w8) w7)
 (z1z_sh p6 (fun r23 w22=>K r23 p7 w22) w)
structure z1w_l0 (p0 p1:Sl)(p6 p7:Sl)(p8:Int)(K:Pw.T19)(w:World):Prop where
 out:∃ (I:Sl->Int->World->Prop) (μ:Sl->Int->World->Nat),I p7 p8 w/\∀ (p71:Sl) (p81:Int) (w1:World),I p71 p81 w1 ->
  z1w_b0 p0 p1 p6 p71 p81 (fun p0' p1' p6' p7' p8' w'=>((p0'=p0/\p1'=p1/\p6'=p6/\True)/\I p7' p8' w')/\μ p7' p8' w'<μ p71 p81 w1) K w1
structure z1w_sh (p0 p1:Sl)(K:Pw.T19)(w:World):Prop where
 out:mkS 8 [(vI 0)] 3 (p0.l:Int) (p0.l:Int) w fun s1 w2=>inR .i64 ((p0.l:Int)-1)/\z1w_l0 p0 p1 s1 (Sl.mk none 0 0) ((p0.l:Int)-1) K w2
def z1w_L0 (Kv:VW):Cur [tL,tL,tL,tL,tI] WP:=fun p0 p1 p6 p7 p8=>z1w_l0 p0 p1 p6 p7 p8 (kk [.u 2,tL,tL] Kv)
def z1w_L1 (Kv:VW):Cur [tL,tL,tL,tL,tI] WP->Cur [tL,tL,tL,tL,tI,tI,tI] WP:=fun N0 p0 p1 p6 p7 p8 p9 p10=>z1w_k1 p0 p1 p6 p7 p8 p9 p10 N0 (kk [.u 2,tL,tL] Kv)
def z1w_L2 (Kv:VW):Cur [tL,tL,tL,tL,tI] WP->Cur [tL,tL,tL,tL,tI,tI,tI] WP:=fun N0 p0 p1 p6 p7 p8 p9 p10=>z1w_l2 p0 p1 p6 p7 p8 p9 p10 N0 (kk [.u 2,tL,tL] Kv)
noncomputable def z1w_S:=sp [tL,tL] [.u 2,tL,tL] z1w_sh
theorem z1w_ok:okP 182 z1w_S:=okR (x:=fun Kv=>qr 2 (qr 4 (qr 1 (qs (qr 4 (qb (A.loop [0,1,6,7,8] (uR0 [tL,tL,tL,tL,tI] (z1w_L0 Kv)) (qs (qr 2 (qc ql ql)) (qs (qb (qr 9 (qr 1 (qr 1 (qs (qr 4 (qc (qe 1) ql)) (A.cut [0,1,6,7,8,9,10] (uR1 [tL,tL,tL,tL,tI] [tL,tL,tL,tL,tI,tI,tI] (z1w_L1 Kv)) (qs (qb (A.loop [0,1,6,7,8,9,10] (uR1 [tL,tL,tL,tL,tI] [tL,tL,tL,tL,tI,tI,tI] (z1w_L2 Kv)) (qs (qr 4 (qc ql ql)) (qb (qr 5 (qr 6 (qc (qe 2) (qe 2)))))))) (qr 5 (qe 6))))))))) (qe 3)))))) (qr 5 ql))))) (Γ:=[(142,z1z_S),(186,z0w_S),(187,z1k_S),(211,z2t_S)]) ⟨.inl z1z_ok,.inl z0w_ok,.inl z1k_ok,.inl z2t_ok,trivial⟩ Tryz.call182 Tryz.func182 (fun Kv=>q07 (q0a (L:=z1w_L0 Kv) (fun N0 p0 p1 p6 p7 p8=>z1w_b0 p0 p1 p6 p7 p8 N0 (kk [.u 2,tL,tL] Kv)) (fun⟨a0,a1,a2,_,_,_⟩ _ h=>let ⟨I,μ,h0,hr⟩:=h.out; ⟨fun b0 b1 b2 b3 b4 w=>(b0=a0/\b1=a1/\b2=a2/\True)/\I b3 b4 w,fun _ _ _ b3 b4 w=>μ b3 b4 w,⟨⟨rfl,rfl,rfl,trivial⟩,h0⟩,fun⟨_,_,_,_,_,_⟩ _ ⟨⟨e0,e1,e2,_⟩,hI⟩=>by cases e0; cases e1; cases e2; exact hr _ _ _ hI⟩)) <| q07 (hK1 (F:=z1w_L1 Kv)) <| q07 (q3q (L:=z1w_L2 Kv) (fun N0 N2 p0 p1 p6 p7 p8 p9 p10=>z1w_b2 p0 p1 p6 p7 p8 p9 p10 N2 N0 (kk [.u 2,tL,tL] Kv)) (fun _ ⟨a0,a1,a2,a3,a4,_,_,_⟩ _ h=>let ⟨I,μ,h0,hr⟩:=h.out; ⟨fun b0 b1 b2 b3 b4 b5 b6 w=>(b0=a0/\b1=a1/\b2=a2/\b3=a3/\b4=a4/\True)/\I b5 b6 w,fun _ _ _ _ _ b5 b6 w=>μ b5 b6 w,⟨⟨rfl,rfl,rfl,rfl,rfl,trivial⟩,h0⟩,fun⟨_,_,_,_,_,_,_,_⟩ _ ⟨⟨e0,e1,e2,e3,e4,_⟩,hI⟩=>by cases e0; cases e1; cases e2; cases e3; cases e4; exact hr _ _ _ hI⟩)) <| hEnd)
def z16_b0 (p0 p1:Sl)(N0:Pw.T19)(K:Pw.T4)(w:World):Prop :=
 z1z_sh p1 (fun r2 w1=>cnd (decide ((r2.l:Int)>0))
 (z1z_sh p0 (fun r4 w3=>z1z_sh p1 (fun r6 w5=>z1w_sh r4 r6 (fun r8 r9 w7=>N0 p1 r9 w7) w5) w3) w1)
 (z1z_sh p0 (fun r11 w10=>K r11 w10) w1)) w
structure z16_l0 (p0 p1:Sl)(K:Pw.T4)(w:World):Prop where
 out:∃ (I:Sl->Sl->World->Prop) (μ:Sl->Sl->World->Nat),I p0 p1 w/\∀ (p01 p11:Sl) (w1:World),I p01 p11 w1 ->
  z16_b0 p01 p11 (fun p0' p1' w'=>((True)/\I p0' p1' w')/\μ p0' p1' w'<μ p01 p11 w1) K w1
structure z16_sh (p0 p1:Sl)(K:Pw.T4)(w:World):Prop where
 out:z16_l0 p0 p1 K w
def z16_L0 (Kv:VW):Cur [tL,tL] WP:=fun p0 p1=>z16_l0 p0 p1 (kk [tL] Kv)
noncomputable def z16_S:=sp [tL,tL] [tL] z16_sh
theorem z16_ok:okP 181 z16_S:=okR (x:=fun Kv=>qr 1 (qs (qb (A.loop [0,1] (uR0 [tL,tL] (z16_L0 Kv)) (qs (qr 4 (qc ql ql)) (qb (qr 10 (qr 2 (qe 2))))))) (qr 3 ql))) (Γ:=[(142,z1z_S),(182,z1w_S)]) ⟨.inl z1z_ok,.inl z1w_ok,trivial⟩ Tryz.call181 Tryz.func181 (fun Kv=>q07 (q0a (L:=z16_L0 Kv) (fun N0 p0 p1=>z16_b0 p0 p1 N0 (kk [tL] Kv)) (fun⟨_,_,_⟩ _ h=>let ⟨I,μ,h0,hr⟩:=h.out; ⟨fun b0 b1 w=>(True)/\I b0 b1 w,fun b0 b1 w=>μ b0 b1 w,⟨trivial,h0⟩,fun⟨_,_,_⟩ _ ⟨_,hI⟩=>by exact hr _ _ _ hI⟩)) <| hEnd)
structure z2i_k1 (p5:Int)(K:Pw.T2)(w:World):Prop where
 out:cnd (decide (p5>=9223372036854775808))
  (K 0 false w)
  (K (IntKind.wrap .i64 p5) true w)
def z2i_b0 (p1:Addr)(p4:Sl)(p5 p6:Int)(N0:Pw.T32)(K:Pw.T2)(w:World):Prop :=
 cnd (decide (p6>=0))
 (nz p4.p fun a5=>(0<=p6/\p6<(p4.l:Nat))/\lI w (a5.add (p6.toNat*1)) fun x6=>N0 p1 p4 (IntKind.wrap .u64 ((IntKind.wrap .u64 (p5*65536))+(IntKind.wrap .u64 x6))) (IntKind.wrap .i64 (p6-1)) w)
 (∃ x7:Bool,w.cell? p1=some (.bool x7)/\cnd x7
 (cnd (decide (p5<=9223372036854775808))
 (K (IntKind.wrap .i64 (IntKind.wrap .u64 ((0:Int)-p5))) true w)
 (z2i_k1 p5 K w))
 (z2i_k1 p5 K w))
structure z2i_l0 (p1:Addr)(p4:Sl)(p5 p6:Int)(K:Pw.T2)(w:World):Prop where
 out:∃ (I:Int->Int->World->Prop) (μ:Int->Int->World->Nat),I p5 p6 w/\∀ (p51 p61:Int) (w1:World),I p51 p61 w1 ->
  z2i_b0 p1 p4 p51 p61 (fun p1' p4' p5' p6' w'=>((p1'=p1/\p4'=p4/\True)/\I p5' p6' w')/\μ p5' p6' w'<μ p51 p61 w1) K w1
structure z2i_sh (p0_0:Bool)(p0_1:Sl)(K:Pw.T2)(w:World):Prop where
 out:let w1:=w.alloc (.cells #[(.bool p0_0),(vS p0_1)] 181)
  lS w1 (hA w 1) fun x2=>z1z_sh x2 (fun r4 w3=>cnd (decide ((r4.l:Int)>4))
  (K 0 false w3)
  (z2i_l0 (hA w 0) r4 0 (IntKind.wrap .i64 ((r4.l:Int)-1)) K w3)) w1
def z2i_L0 (Kv:VW):Cur [tQ,tL,tU,tI] WP:=fun p1 p4 p5 p6=>z2i_l0 p1 p4 p5 p6 (kk [.u 2,tI,tB] Kv)
def z2i_L1 (Kv:VW):Cur [tU] WP:=fun p5=>z2i_k1 p5 (kk [.u 2,tI,tB] Kv)
noncomputable def z2i_S:=sp [.g 2,tB,tL] [.u 2,tI,tB] z2i_sh
theorem z2i_ok:okP 183 z2i_S:=okR (x:=fun Kv=>qr 3 (qr 4 (qs (qr 3 (qc (qr 2 ql) ql)) (qr 1 (qs (qs (A.reg (qn 2 (RA.raw (qn 1 RA.done)))) (qb (A.loop [1,4,5,6] (uR0 [tQ,tL,tU,tI] (z2i_L0 Kv)) (qs (qr 2 (qc ql ql)) (qs (qb (A.reg (qn 1 (RA.raw (qn 4 (RA.raw (RA.raw (qn 1 RA.done)))))))) (A.reg (qn 1 (RA.raw (qn 1 RA.done))))))))) (qs (qs (A.reg (qn 3 (RA.spl 30 (qn 3 RA.done) (qk 2 (qn 1 RA.done))))) (qc (qs (A.reg (qn 1 (RA.raw (RA.raw (qn 2 RA.done))))) ql) ql)) (A.cut [5] (uR0 [tU] (z2i_L1 Kv)) (qs (qr 2 (qc (qr 2 ql) ql)) (qs (A.reg (qn 1 (RA.raw (qn 2 RA.done)))) ql))))))))) (Γ:=[(142,z1z_S)]) ⟨.inl z1z_ok,trivial⟩ Tryz.call183 Tryz.func183 (fun Kv=>q07 (q0a (L:=z2i_L0 Kv) (fun N0 p1 p4 p5 p6=>z2i_b0 p1 p4 p5 p6 N0 (kk [.u 2,tI,tB] Kv)) (fun⟨a0,a1,_,_,_⟩ _ h=>let ⟨I,μ,h0,hr⟩:=h.out; ⟨fun b0 b1 b2 b3 w=>(b0=a0/\b1=a1/\True)/\I b2 b3 w,fun _ _ b2 b3 w=>μ b2 b3 w,⟨⟨rfl,rfl,trivial⟩,h0⟩,fun⟨_,_,_,_,_⟩ _ ⟨⟨e0,e1,_⟩,hI⟩=>by cases e0; cases e1; exact hr _ _ _ hI⟩)) <| q07 (hK0 (F:=z2i_L1 Kv)) <| hEnd)
structure z2s_sh (p0:Int)(K:Pw.T6)(w:World):Prop where
 out:let w1:=w.alloc (.cells #[(vI 0),(vI 0)] 31)
  wrOk w1 (hA w 0)/\
  (let w2:=w1.setCell (hA w 0) (vI p0)
  wrOk w2 (hA w 1)/\
  (let w3:=w2.setCell (hA w 1) (vI 1)
  lI w3 (hA w 0) fun x4=>lI w3 (hA w 1) fun x5=>K x4 x5 w3))
noncomputable def z2s_S:=sp [tI] [.g 2,tI,tI] z2s_sh
theorem z2s_ok:okP 84 z2s_S:=okR (x:=fun _=>qr 1 (qr 3 ql)) (Γ:=[]) trivial Tryz.call84 Tryz.func84 (fun _=>hEnd)
structure z17_k1 (p4:Addr)(K:Pw.T3)(w:World):Prop where
 out:z2s_sh 0 (fun r32_0 r32_1 w31=>wrOk w31 p4/\
  (let w33:=w31.setCell p4 (vI r32_0)
  wrOk w33 (p4.add 1)/\
  (let w34:=w33.setCell (p4.add 1) (vI r32_1)
  lI w34 p4 fun x35=>lI w34 (p4.add 1) fun x36=>K x35 x36 false w34))) w
structure z17_k0 (p4:Addr)(p9:Sl)(p11:Int)(p12:Bool)(K:Pw.T3)(w:World):Prop where
 out:z2i_sh false p9 (fun r29 r30 w28=>cnd (!p12)
  (z17_k1 p4 K w28)
  (cnd (!r30)
  (z17_k1 p4 K w28)
  (wrOk w28 p4/\
  (let w37:=w28.setCell p4 (vI p11)
  wrOk w37 (p4.add 1)/\
  (let w38:=w37.setCell (p4.add 1) (vI r29)
  lI w38 p4 fun x39=>lI w38 (p4.add 1) fun x40=>K x39 x40 true w38))))) w
structure z17_sh (p0_0:Bool)(p0_1:Sl)(p1_0:Bool)(p1_1:Sl)(K:Pw.T3)(w:World):Prop where
 out:let w1:=w.alloc (.cells #[(.bool p0_0),(vS p0_1)] 181)
  let w2:=w1.alloc (.cells #[(.bool p1_0),(vS p1_1)] 181)
  let w3:=w2.alloc (.cells #[(vI 0),(vI 0)] 31)
  lS w3 (hA w 1) fun x4=>lS w3 (hA w1 1) fun x5=>z16_sh x4 x5 (fun r7 w6=>lS w6 (hA w 1) fun x8=>z1z_sh x8 (fun r10 w9=>z1w_sh r10 r7 (fun r12 r13 w11=>lS w11 (hA w1 1) fun x14=>z1z_sh x14 (fun r16 w15=>z1w_sh r16 r7 (fun r18 r19 w17=>∃ x20:Bool,w17.cell? (hA w 0)=some (.bool x20)/\∃ x21:Bool,w17.cell? (hA w1 0)=some (.bool x21)/\cnd (!(x20 == x21))
  (z2i_sh (decide ((r12.l:Int)>0)) r12 (fun r23 r24 w22=>z17_k0 (hA w2 0) r18 r23 r24 K w22) w17)
  (z2i_sh false r12 (fun r26 r27 w25=>z17_k0 (hA w2 0) r18 r26 r27 K w25) w17)) w15) w11) w9) w6) w3
def z17_L0 (Kv:VW):Cur [tQ,tL,tI,tB] WP:=fun p4 p9 p11 p12=>z17_k0 p4 p9 p11 p12 (kk [.u 2,.g 2,tI,tI,tB] Kv)
def z17_L1 (Kv:VW):Cur [tQ] WP:=fun p4=>z17_k1 p4 (kk [.u 2,.g 2,tI,tI,tB] Kv)
noncomputable def z17_S:=sp [.g 2,tB,tL,.g 2,tB,tL] [.u 2,.g 2,tI,tI,tB] z17_sh
theorem z17_ok:okP 136 z17_S:=okR (x:=fun Kv=>qr 4 (qr 6 (qr 10 (qr 10 (qs (A.reg (qn 6 (RA.spl 42 (qn 12 RA.done) (qk 3 (qn 9 RA.done))))) (A.cut [4,9,11,12] (uR0 [tQ,tL,tI,tB] (z17_L0 Kv)) (qr 8 (qs (qs (A.reg (qn 3 (RA.spl 60 (qk 2 (qn 1 RA.done)) (qn 3 RA.done)))) (qc (A.cut [4] (uR0 [tQ] (z17_L1 Kv)) (qr 3 ql)) ql)) (qr 5 ql))))))))) (Γ:=[(84,z2s_S),(142,z1z_S),(181,z16_S),(182,z1w_S),(183,z2i_S)]) ⟨.inl z2s_ok,.inl z1z_ok,.inl z16_ok,.inl z1w_ok,.inl z2i_ok,trivial⟩ Tryz.call136 Tryz.func136 (fun Kv=>q07 (hK0 (F:=z17_L0 Kv)) <| q07 (hK0 (F:=z17_L1 Kv)) <| hEnd)
structure z1j_k1 (p1 p3:Addr)(p4:Bool)(K:Pw.T0)(w:World):Prop where
 out:cnd p4
  (lI w p1 fun x55=>lI w (p1.add 1) fun x56=>lI w p3 fun x57=>lI w (p3.add 1) fun x58=>K (x55 == x57 && (x56 == x58 && true)) w)
  (K false w)
def z1j_k0d (p1:Addr)(K:Pw.T0)(w:World):Prop :=
 let w17:=w.drew
 ∃ S18:World->Prop,S18 w17/\mI S18 p1 fun x19=>mI S18 (p1.add 1) fun x20=>(z2u_sh x19 (fun r22_0 r22_1 w21=>S18 w21/\(z2u_sh x20 (fun r24_0 r24_1 w23=>S18 w23/\(z17_sh r22_0 r22_1 r24_0 r24_1 (fun r26_0 r26_1 r27 w25=>S18 w25/\let w28:=w25.alloc (.cells #[(vI 0),(vI 0)] 31)
 S18 w28/\wrOk w28 (hA w25 0)/\
 (let w29:=w28.setCell (hA w25 0) (vI r26_0)
 wrOk w29 (hA w25 1)/\
 (let w30:=w29.setCell (hA w25 1) (vI r26_1)
 z1j_k1 p1 (hA w25 0) r27 K w30))) w23)
/\(let w31:=w23.alloc (.cells #[(vI 0),(vI 0)] 31)
 S18 w31/\z17_sh r22_0 r22_1 r24_0 r24_1 (fun r33_0 r33_1 r34 w32=>S18 w32/\wrOk w32 (hA w23 0)/\
 (let w35:=w32.setCell (hA w23 0) (vI r33_0)
 wrOk w35 (hA w23 1)/\
 (let w36:=w35.setCell (hA w23 1) (vI r33_1)
 z1j_k1 p1 (hA w23 0) r34 K w36))) w31)) w21)
/\(let w37:=w21.alloc (.cells #[(vI 0),(vI 0)] 31)
 S18 w37/\z2u_sh x20 (fun r39_0 r39_1 w38=>S18 w38/\z17_sh r22_0 r22_1 r39_0 r39_1 (fun r41_0 r41_1 r42 w40=>S18 w40/\wrOk w40 (hA w21 0)/\
 (let w43:=w40.setCell (hA w21 0) (vI r41_0)
 wrOk w43 (hA w21 1)/\
 (let w44:=w43.setCell (hA w21 1) (vI r41_1)
 z1j_k1 p1 (hA w21 0) r42 K w44))) w38) w37)) w17)
/\(let w45:=w17.alloc (.cells #[(vI 0),(vI 0)] 31)
 S18 w45/\z2u_sh x19 (fun r47_0 r47_1 w46=>S18 w46/\z2u_sh x20 (fun r49_0 r49_1 w48=>S18 w48/\z17_sh r47_0 r47_1 r49_0 r49_1 (fun r51_0 r51_1 r52 w50=>S18 w50/\wrOk w50 (hA w17 0)/\
 (let w53:=w50.setCell (hA w17 0) (vI r51_0)
 wrOk w53 (hA w17 1)/\
 (let w54:=w53.setCell (hA w17 1) (vI r51_1)
 z1j_k1 p1 (hA w17 0) r52 K w54))) w48) w46) w45)
structure z1j_k0 (p1:Addr)(K:Pw.T0)(w:World):Prop where
 out:z1j_k0d p1 K w
structure z1j_sh (p0_0 p0_1:Int)(K:Pw.T0)(w:World):Prop where
 out:let w1:=w.alloc (.cells #[(vI p0_0),(vI p0_1)] 31)
  lI w1 (hA w 1) fun x2=>cnd (decide (x2<1))
  (K false w1)
  (lI w1 (hA w 0) fun x3=>z1m_sh x3 (fun r5 w4=>cnd r5
  (lI w4 (hA w 1) fun x6=>z1m_sh x6 (fun r8 w7=>cnd r8
  (let w9:=w7.drew
  ∃ S10:World->Prop,S10 w9/\mI S10 (hA w 0) fun x11=>mI S10 (hA w 1) fun x12=>mI S10 (hA w 0) fun x13=>mI S10 (hA w 1) fun x14=>z1l_sh x11 x12 (fun r16_0 r16_1 w15=>S10 w15/\K (r16_0 == x13 && (r16_1 == x14 && true)) w15) w9)
  (z1j_k0 (hA w 0) K w7)) w4)
  (z1j_k0 (hA w 0) K w4)) w1)
def z1j_L0 (Kv:VW):Cur [tQ] WP:=fun p1=>z1j_k0 p1 (kk [tB] Kv)
def z1j_L1 (Kv:VW):Cur [tQ,tQ,tB] WP:=fun p1 p3 p4=>z1j_k1 p1 p3 p4 (kk [tB] Kv)
noncomputable def z1j_S:=sp [.g 2,tI,tI] [tB] z1j_sh
theorem z1j_ok:okP 81 z1j_S:=okR (x:=fun Kv=>qr 2 (qs (qr 3 (qc (qr 1 ql) ql)) (qs (qs (A.reg (qn 4 (RA.spl 11 (qn 4 RA.done) (qk 3 (qn 1 RA.done))))) (qc (qs (A.drw (dp [0,1,2,3,5] (DA.eff 4 (dp [6,7] DA.done)))) ql) ql)) (A.cut [1] (uR0 [tQ] (z1j_L0 Kv)) (qs (A.drw (dp [0,1,3,4] (DA.two 2 (DA.two 5 (DA.two 6 (dp [7,8,9] (DA.eff 10 (DA.eff 11 (DA.pur 12 DA.done)))) 10 (DA.eff 6 (dp [7,8,9] (DA.eff 11 (DA.pur 12 DA.done))))) 10 (DA.eff 5 (DA.eff 6 (dp [7,8,9] (DA.eff 11 (DA.pur 12 DA.done)))))) 10 (DA.eff 2 (DA.eff 5 (DA.eff 6 (dp [7,8,9] (DA.eff 11 (DA.pur 12 DA.done))))))))) (A.cut [1,3,4] (uR0 [tQ,tQ,tB] (z1j_L1 Kv)) (qs (A.reg (qn 2 (RA.spl 34 (qn 5 RA.done) (qk 3 (qn 2 RA.done))))) ql))))))) (Γ:=[(134,z1m_S),(135,z1l_S),(136,z17_S),(137,z2u_S)]) ⟨.inl z1m_ok,.inl z1l_ok,.inl z17_ok,.inl z2u_ok,trivial⟩ Tryz.call81 Tryz.func81 (fun Kv=>q07 (qjh (F:=z1j_L0 Kv) (G:=fun p1=>z1j_k0d p1 (kk [tB] Kv))) <| q07 (hK0 (F:=z1j_L1 Kv)) <| hEnd)
structure z1v_sh (p0_0 p0_1:Int)(p1_0 p1_1:Int)(K:Pw.T0)(w:World):Prop where
 out:let w1:=w.alloc (.cells #[(vI p0_0),(vI p0_1)] 31)
  let w2:=w1.alloc (.cells #[(vI p1_0),(vI p1_1)] 31)
  lI w2 (hA w 0) fun x3=>lI w2 (hA w 1) fun x4=>z1j_sh x3 x4 (fun r6 w5=>lI w5 (hA w1 0) fun x7=>lI w5 (hA w1 1) fun x8=>z1j_sh x7 x8 (fun r10 w9=>cnd r6
  (K r10 w9)
  (K false w9)) w5) w2
noncomputable def z1v_S:=sp [.g 2,tI,tI,.g 2,tI,tI] [tB] z1v_sh
theorem z1v_ok:okP 139 z1v_S:=okR (x:=fun _=>qr 3 (qr 3 (qr 3 (qs (A.reg (qn 2 (RA.spl 12 (qn 3 RA.done) (qk 1 (qn 2 RA.done))))) ql)))) (Γ:=[(81,z1j_S)]) ⟨.inl z1j_ok,trivial⟩ Tryz.call139 Tryz.func139 (fun _=>hEnd)
structure z1y_sh (p0_0 p0_1:Int)(p1_0 p1_1:Int)(K:Pw.T0)(w:World):Prop where
 out:let w1:=w.alloc (.cells #[(vI p0_0),(vI p0_1)] 31)
  let w2:=w1.alloc (.cells #[(vI p1_0),(vI p1_1)] 31)
  lI w2 (hA w 0) fun x3=>z1m_sh x3 (fun r5 w4=>cnd r5
  (lI w4 (hA w 1) fun x6=>z1m_sh x6 (fun r8 w7=>cnd r8
  (lI w7 (hA w1 0) fun x9=>z1m_sh x9 (fun r11 w10=>cnd r11
  (lI w10 (hA w1 1) fun x12=>z1m_sh x12 (fun r14 w13=>K r14 w13) w10)
  (K false w10)) w7)
  (K false w7)) w4)
  (K false w4)) w2
noncomputable def z1y_S:=sp [.g 2,tI,tI,.g 2,tI,tI] [tB] z1y_sh
theorem z1y_ok:okP 143 z1y_S:=okR (x:=fun _=>qr 3 (qs (A.reg (qn 4 (RA.spl 8 (qn 5 (RA.spl 13 (qn 5 (RA.spl 18 (qn 5 RA.done) (qk 3 (qn 2 RA.done)))) (qk 3 (qn 2 (qk 3 (qn 2 RA.done)))))) (qk 3 (qn 2 (qk 3 (qn 2 (qk 3 (qn 2 RA.done))))))))) ql)) (Γ:=[(134,z1m_S)]) ⟨.inl z1m_ok,trivial⟩ Tryz.call143 Tryz.func143 (fun _=>hEnd)
structure z2j_sh (p0_0:Bool)(p0_1:Sl)(p1_0:Bool)(p1_1:Sl)(K:Pw.T16)(w:World):Prop where
 out:let w1:=w.alloc (.cells #[(.bool p0_0),(vS p0_1)] 181)
  let w2:=w1.alloc (.cells #[(.bool p1_0),(vS p1_1)] 181)
  let w3:=w2.alloc (.cells #[(.bool false),vN] 181)
  let w4:=w3.drew
  ∃ S5:World->Prop,S5 w4/\∃ x6:Bool,(∀ w':World,S5 w'->w'.cell? (hA w 0)=some (.bool x6))/\∃ x7:Bool,(∀ w':World,S5 w'->w'.cell? (hA w1 0)=some (.bool x7))/\mS S5 (hA w 1) fun x8=>mS S5 (hA w1 1) fun x9=>z1n_sh x8 x9 (fun r11 w10=>S5 w10/\wrOk w10 (hA w2 0)/\
  (let w12:=w10.setCell (hA w2 0) (.bool (!(x6 == x7)))
  wrOk w12 (hA w2 1)/\
  (let w13:=w12.setCell (hA w2 1) (vS r11)
  ∃ x14:Bool,w13.cell? (hA w2 0)=some (.bool x14)/\lS w13 (hA w2 1) fun x15=>K x14 x15 w13))) w4
noncomputable def z2j_S:=sp [.g 2,tB,tL,.g 2,tB,tL] [.g 2,tB,tL] z2j_sh
theorem z2j_ok:okP 140 z2j_S:=okR (x:=fun _=>qr 3 (qs (A.drw (dp [0,1,2,3,4,5,6,7,8] (DA.eff 9 (DA.pur 10 (DA.eff 11 DA.done))))) ql)) (Γ:=[(184,z1n_S)]) ⟨.inl z1n_ok,trivial⟩ Tryz.call140 Tryz.func140 (fun _=>hEnd)
structure z2g_sh (p0_0 p0_1:Int)(p1_0 p1_1:Int)(K:Pw.T3)(w:World):Prop where
 out:let w1:=w.alloc (.cells #[(vI p0_0),(vI p0_1)] 31)
  let w2:=w1.alloc (.cells #[(vI p1_0),(vI p1_1)] 31)
  let w3:=w2.alloc (.cells #[(vI 0),(vI 0)] 31)
  lI w3 (hA w 0) fun x4=>lI w3 (hA w 1) fun x5=>lI w3 (hA w1 0) fun x6=>lI w3 (hA w1 1) fun x7=>z1v_sh x4 x5 x6 x7 (fun r9 w8=>cnd (!r9)
  (z2s_sh 0 (fun r11_0 r11_1 w10=>wrOk w10 (hA w2 0)/\
  (let w12:=w10.setCell (hA w2 0) (vI r11_0)
  wrOk w12 (hA w2 1)/\
  (let w13:=w12.setCell (hA w2 1) (vI r11_1)
  lI w13 (hA w2 0) fun x14=>lI w13 (hA w2 1) fun x15=>K x14 x15 false w13))) w8)
  (lI w8 (hA w 0) fun x16=>lI w8 (hA w 1) fun x17=>lI w8 (hA w1 0) fun x18=>lI w8 (hA w1 1) fun x19=>z1y_sh x16 x17 x18 x19 (fun r21 w20=>cnd r21
  (lI w20 (hA w 0) fun x22=>lI w20 (hA w1 0) fun x23=>inR .i64 (x22*x23)/\lI w20 (hA w 1) fun x24=>lI w20 (hA w1 1) fun x25=>inR .i64 (x24*x25)/\z1l_sh (x22*x23) (x24*x25) (fun r27_0 r27_1 w26=>wrOk w26 (hA w2 0)/\
  (let w28:=w26.setCell (hA w2 0) (vI r27_0)
  wrOk w28 (hA w2 1)/\
  (let w29:=w28.setCell (hA w2 1) (vI r27_1)
  lI w29 (hA w2 0) fun x30=>lI w29 (hA w2 1) fun x31=>K x30 x31 true w29))) w20)
  (let w32:=w20.drew
  ∃ S33:World->Prop,S33 w32/\mI S33 (hA w 0) fun x34=>mI S33 (hA w1 0) fun x35=>mI S33 (hA w 1) fun x36=>mI S33 (hA w1 1) fun x37=>z2u_sh x34 (fun r39_0 r39_1 w38=>S33 w38/\z2u_sh x35 (fun r41_0 r41_1 w40=>S33 w40/\z2j_sh r39_0 r39_1 r41_0 r41_1 (fun r43_0 r43_1 w42=>S33 w42/\z2u_sh x36 (fun r45_0 r45_1 w44=>S33 w44/\z2u_sh x37 (fun r47_0 r47_1 w46=>S33 w46/\z2j_sh r45_0 r45_1 r47_0 r47_1 (fun r49_0 r49_1 w48=>S33 w48/\z17_sh r43_0 r43_1 r49_0 r49_1 (fun r51_0 r51_1 r52 w50=>S33 w50/\wrOk w50 (hA w2 0)/\
  (let w53:=w50.setCell (hA w2 0) (vI r51_0)
  wrOk w53 (hA w2 1)/\
  (let w54:=w53.setCell (hA w2 1) (vI r51_1)
  lI w54 (hA w2 0) fun x55=>lI w54 (hA w2 1) fun x56=>K x55 x56 r52 w54))) w48) w46) w44) w42) w40) w38) w32)) w8)) w3
noncomputable def z2g_S:=sp [.g 2,tI,tI,.g 2,tI,tI] [.u 2,.g 2,tI,tI,tB] z2g_sh
theorem z2g_ok:okP 138 z2g_S:=okR (x:=fun _=>qr 4 (qs (qr 4 (qc (qr 3 ql) ql)) (qs (qr 3 (qc (qr 13 ql) ql)) (qs (A.drw (dp [0,1,3,4,7,8,10,11] (DA.eff 2 (DA.eff 5 (DA.eff 6 (DA.eff 9 (DA.eff 12 (DA.eff 13 (DA.eff 14 (dp [15,16] (DA.eff 17 (DA.pur 18 DA.done)))))))))))) ql)))) (Γ:=[(84,z2s_S),(135,z1l_S),(136,z17_S),(137,z2u_S),(139,z1v_S),(140,z2j_S),(143,z1y_S)]) ⟨.inl z2s_ok,.inl z1l_ok,.inl z17_ok,.inl z2u_ok,.inl z1v_ok,.inl z2j_ok,.inl z1y_ok,trivial⟩ Tryz.call138 Tryz.func138 (fun _=>hEnd)
structure z1x_k3 (p0 p1 p5:Sl)(p7 p8:Int)(N0:Pw.T5)(K:Pw.T4)(w:World):Prop where
 out:(65536:Int)≠0/\let w5:=w.alloc (.cells #[(vI (Int.tmod p8 65536))] 3)
  apS 1 8 [(vI 0)] 3 p5 (Sl.mk (some (hA w 0)) 1 1) w5 fun s6 w7=>(65536:Int)≠0/\inR .i64 (Int.tdiv p8 65536)/\inR .i64 (p7+1)/\N0 p0 p1 s6 (Int.tdiv p8 65536) (p7+1) w7
structure z1x_k2 (p0 p1 p5:Sl)(p7 p8:Int)(N0:Pw.T5)(K:Pw.T4)(w:World):Prop where
 out:cnd (decide (p7<(p1.l:Int)))
  (nz p1.p fun a3=>(0<=p7/\p7<(p1.l:Nat))/\lI w (a3.add (p7.toNat*1)) fun x4=>inR .i64 (p8+x4)/\z1x_k3 p0 p1 p5 p7 (p8+x4) N0 K w)
  (z1x_k3 p0 p1 p5 p7 p8 N0 K w)
structure z1x_k1 (p0 p1 p5:Sl)(p6 p7:Int)(N0:Pw.T5)(K:Pw.T4)(w:World):Prop where
 out:cnd (decide (p7<(p0.l:Int)))
  (nz p0.p fun a1=>(0<=p7/\p7<(p0.l:Nat))/\lI w (a1.add (p7.toNat*1)) fun x2=>inR .i64 (p6+x2)/\z1x_k2 p0 p1 p5 p7 (p6+x2) N0 K w)
  (z1x_k2 p0 p1 p5 p7 p6 N0 K w)
def z1x_b0 (p0 p1 p5:Sl)(p6 p7:Int)(N0:Pw.T5)(K:Pw.T4)(w:World):Prop :=
 cnd (decide (p7<(p0.l:Int)))
 (z1x_k1 p0 p1 p5 p6 p7 N0 K w)
 (cnd (decide (p7<(p1.l:Int)))
 (z1x_k1 p0 p1 p5 p6 p7 N0 K w)
 (cnd (decide (p6>0))
 (z1x_k1 p0 p1 p5 p6 p7 N0 K w)
 (K p5 w)))
structure z1x_l0 (p0 p1 p5:Sl)(p6 p7:Int)(K:Pw.T4)(w:World):Prop where
 out:∃ (I:Sl->Int->Int->World->Prop) (μ:Sl->Int->Int->World->Nat),I p5 p6 p7 w/\∀ (p51:Sl) (p61 p71:Int) (w1:World),I p51 p61 p71 w1 ->
  z1x_b0 p0 p1 p51 p61 p71 (fun p0' p1' p5' p6' p7' w'=>((p0'=p0/\p1'=p1/\True)/\I p5' p6' p7' w')/\μ p5' p6' p7' w'<μ p51 p61 p71 w1) K w1
structure z1x_sh (p0 p1:Sl)(K:Pw.T4)(w:World):Prop where
 out:z1x_l0 p0 p1 (Sl.mk none 0 0) 0 0 K w
def z1x_L0 (Kv:VW):Cur [tL,tL,tL,tI,tI] WP:=fun p0 p1 p5 p6 p7=>z1x_l0 p0 p1 p5 p6 p7 (kk [tL] Kv)
def z1x_L1 (Kv:VW):Cur [tL,tL,tL,tI,tI] WP->Cur [tL,tL,tL,tI,tI] WP:=fun N0 p0 p1 p5 p6 p7=>z1x_k1 p0 p1 p5 p6 p7 N0 (kk [tL] Kv)
def z1x_L2 (Kv:VW):Cur [tL,tL,tL,tI,tI] WP->Cur [tL,tL,tL,tI,tI] WP:=fun N0 p0 p1 p5 p7 p8=>z1x_k2 p0 p1 p5 p7 p8 N0 (kk [tL] Kv)
def z1x_L3 (Kv:VW):Cur [tL,tL,tL,tI,tI] WP->Cur [tL,tL,tL,tI,tI] WP:=fun N0 p0 p1 p5 p7 p8=>z1x_k3 p0 p1 p5 p7 p8 N0 (kk [tL] Kv)
noncomputable def z1x_S:=sp [tL,tL] [tL] z1x_sh
theorem z1x_ok:okP 185 z1x_S:=okR (x:=fun Kv=>qr 1 (qr 1 (qr 1 (qs (qr 1 (qb (A.loop [0,1,5,6,7] (uR0 [tL,tL,tL,tI,tI] (z1x_L0 Kv)) (qs (qs (A.reg (qn 5 (RA.spl 13 (qk 4 (qn 2 (qk 2 (qn 1 RA.done)))) (qn 6 (RA.spl 19 (qk 2 (qn 1 RA.done)) (qn 3 RA.done)))))) (qc ql ql)) (A.cut [0,1,5,6,7] (uR1 [tL,tL,tL,tI,tI] [tL,tL,tL,tI,tI] (z1x_L1 Kv)) (qs (qb (qr 2 (qs (qr 4 (qc (qe 7) ql)) (A.cut [0,1,5,7,8] (uR1 [tL,tL,tL,tI,tI] [tL,tL,tL,tI,tI] (z1x_L2 Kv)) (qs (qr 4 (qc (qe 7) ql)) (A.cut [0,1,5,7,8] (uR1 [tL,tL,tL,tI,tI] [tL,tL,tL,tI,tI] (z1x_L3 Kv)) (qr 6 (qe 3)))))))) (qe 3))))))) (qr 2 ql))))) (Γ:=[]) trivial Tryz.call185 Tryz.func185 (fun Kv=>q07 (q0a (L:=z1x_L0 Kv) (fun N0 p0 p1 p5 p6 p7=>z1x_b0 p0 p1 p5 p6 p7 N0 (kk [tL] Kv)) (fun⟨a0,a1,_,_,_,_⟩ _ h=>let ⟨I,μ,h0,hr⟩:=h.out; ⟨fun b0 b1 b2 b3 b4 w=>(b0=a0/\b1=a1/\True)/\I b2 b3 b4 w,fun _ _ b2 b3 b4 w=>μ b2 b3 b4 w,⟨⟨rfl,rfl,trivial⟩,h0⟩,fun⟨_,_,_,_,_,_⟩ _ ⟨⟨e0,e1,_⟩,hI⟩=>by cases e0; cases e1; exact hr _ _ _ _ hI⟩)) <| q07 (hK1 (F:=z1x_L1 Kv)) <| q07 (hK1 (F:=z1x_L2 Kv)) <| q07 (hK1 (F:=z1x_L3 Kv)) <| hEnd)
structure z2h_sh (p0_0:Bool)(p0_1:Sl)(p1_0:Bool)(p1_1:Sl)(K:Pw.T16)(w:World):Prop where
 out:let w1:=w.alloc (.cells #[(.bool p0_0),(vS p0_1)] 181)
  let w2:=w1.alloc (.cells #[(.bool p1_0),(vS p1_1)] 181)
  let w3:=w2.alloc (.cells #[(.bool false),vN] 181)
  ∃ x4:Bool,w3.cell? (hA w 0)=some (.bool x4)/\∃ x5:Bool,w3.cell? (hA w1 0)=some (.bool x5)/\cnd (x4 == x5)
  (let w6:=w3.drew
  ∃ S7:World->Prop,S7 w6/\∃ x8:Bool,(∀ w':World,S7 w'->w'.cell? (hA w 0)=some (.bool x8))/\mS S7 (hA w 1) fun x9=>mS S7 (hA w1 1) fun x10=>z1x_sh x9 x10 (fun r12 w11=>S7 w11/\wrOk w11 (hA w2 0)/\
  (let w13:=w11.setCell (hA w2 0) (.bool x8)
  wrOk w13 (hA w2 1)/\
  (let w14:=w13.setCell (hA w2 1) (vS r12)
  ∃ x15:Bool,w14.cell? (hA w2 0)=some (.bool x15)/\lS w14 (hA w2 1) fun x16=>K x15 x16 w14))) w6)
  (let w17:=w3.drew
  ∃ S18:World->Prop,S18 w17/\mS S18 (hA w 1) fun x19=>mS S18 (hA w1 1) fun x20=>z1z_sh x19 (fun r22 w21=>S18 w21/\z1z_sh x20 (fun r24 w23=>S18 w23/\z0w_sh r22 r24 (fun r26 w25=>S18 w25/\cnd (decide (r26>=0))
  (let w27:=w25.drew
  ∃ S28:World->Prop,S28 w27/\∃ x29:Bool,(∀ w':World,S28 w'->w'.cell? (hA w 0)=some (.bool x29))/\mS S28 (hA w 1) fun x30=>mS S28 (hA w1 1) fun x31=>z1k_sh x30 x31 (fun r33 w32=>S28 w32/\wrOk w32 (hA w2 0)/\
  (let w34:=w32.setCell (hA w2 0) (.bool x29)
  wrOk w34 (hA w2 1)/\
  (let w35:=w34.setCell (hA w2 1) (vS r33)
  ∃ x36:Bool,w35.cell? (hA w2 0)=some (.bool x36)/\lS w35 (hA w2 1) fun x37=>K x36 x37 w35))) w27)
  (let w38:=w25.drew
  ∃ S39:World->Prop,S39 w38/\∃ x40:Bool,(∀ w':World,S39 w'->w'.cell? (hA w1 0)=some (.bool x40))/\mS S39 (hA w1 1) fun x41=>mS S39 (hA w 1) fun x42=>z1k_sh x41 x42 (fun r44 w43=>S39 w43/\wrOk w43 (hA w2 0)/\
  (let w45:=w43.setCell (hA w2 0) (.bool x40)
  wrOk w45 (hA w2 1)/\
  (let w46:=w45.setCell (hA w2 1) (vS r44)
  ∃ x47:Bool,w46.cell? (hA w2 0)=some (.bool x47)/\lS w46 (hA w2 1) fun x48=>K x47 x48 w46))) w38)) w23) w21) w17)
noncomputable def z2h_S:=sp [.g 2,tB,tL,.g 2,tB,tL] [.g 2,tB,tL] z2h_sh
theorem z2h_ok:okP 141 z2h_S:=okR (x:=fun _=>qr 3 (qs (qr 5 (qc (qs (A.drw (dp [0,1,2,3,4,5] (DA.eff 6 (DA.pur 7 (DA.eff 8 DA.done))))) ql) ql)) (qs (qs (A.drw (dp [0,1,3,4] (DA.eff 2 (DA.eff 5 (DA.eff 6 (DA.pur 7 DA.done)))))) (qc (qs (A.drw (dp [0,1,2,3,4,5] (DA.eff 6 (DA.pur 7 (DA.eff 8 DA.done))))) ql) ql)) (qs (A.drw (dp [0,1,2,3,4,5] (DA.eff 6 (DA.pur 7 (DA.eff 8 DA.done))))) ql)))) (Γ:=[(142,z1z_S),(185,z1x_S),(186,z0w_S),(187,z1k_S)]) ⟨.inl z1z_ok,.inl z1x_ok,.inl z0w_ok,.inl z1k_ok,trivial⟩ Tryz.call141 Tryz.func141 (fun _=>hEnd)
structure z2d_sh (p0_0 p0_1:Int)(p1_0 p1_1:Int)(K:Pw.T3)(w:World):Prop where
 out:let w1:=w.alloc (.cells #[(vI p0_0),(vI p0_1)] 31)
  let w2:=w1.alloc (.cells #[(vI p1_0),(vI p1_1)] 31)
  let w3:=w2.alloc (.cells #[(vI 0),(vI 0)] 31)
  lI w3 (hA w 0) fun x4=>lI w3 (hA w 1) fun x5=>lI w3 (hA w1 0) fun x6=>lI w3 (hA w1 1) fun x7=>z1v_sh x4 x5 x6 x7 (fun r9 w8=>cnd (!r9)
  (z2s_sh 0 (fun r11_0 r11_1 w10=>wrOk w10 (hA w2 0)/\
  (let w12:=w10.setCell (hA w2 0) (vI r11_0)
  wrOk w12 (hA w2 1)/\
  (let w13:=w12.setCell (hA w2 1) (vI r11_1)
  lI w13 (hA w2 0) fun x14=>lI w13 (hA w2 1) fun x15=>K x14 x15 false w13))) w8)
  (lI w8 (hA w 0) fun x16=>lI w8 (hA w 1) fun x17=>lI w8 (hA w1 0) fun x18=>lI w8 (hA w1 1) fun x19=>z1y_sh x16 x17 x18 x19 (fun r21 w20=>cnd r21
  (lI w20 (hA w 0) fun x22=>lI w20 (hA w1 1) fun x23=>inR .i64 (x22*x23)/\lI w20 (hA w1 0) fun x24=>lI w20 (hA w 1) fun x25=>inR .i64 (x24*x25)/\inR .i64 ((x22*x23)+(x24*x25))/\lI w20 (hA w 1) fun x26=>lI w20 (hA w1 1) fun x27=>inR .i64 (x26*x27)/\z1l_sh ((x22*x23)+(x24*x25)) (x26*x27) (fun r29_0 r29_1 w28=>wrOk w28 (hA w2 0)/\
  (let w30:=w28.setCell (hA w2 0) (vI r29_0)
  wrOk w30 (hA w2 1)/\
  (let w31:=w30.setCell (hA w2 1) (vI r29_1)
  lI w31 (hA w2 0) fun x32=>lI w31 (hA w2 1) fun x33=>K x32 x33 true w31))) w20)
  (let w34:=w20.drew
  ∃ S35:World->Prop,S35 w34/\mI S35 (hA w 0) fun x36=>mI S35 (hA w1 1) fun x37=>mI S35 (hA w1 0) fun x38=>mI S35 (hA w 1) fun x39=>mI S35 (hA w 1) fun x40=>mI S35 (hA w1 1) fun x41=>z2u_sh x36 (fun r43_0 r43_1 w42=>S35 w42/\z2u_sh x37 (fun r45_0 r45_1 w44=>S35 w44/\z2j_sh r43_0 r43_1 r45_0 r45_1 (fun r47_0 r47_1 w46=>S35 w46/\z2u_sh x38 (fun r49_0 r49_1 w48=>S35 w48/\z2u_sh x39 (fun r51_0 r51_1 w50=>S35 w50/\z2j_sh r49_0 r49_1 r51_0 r51_1 (fun r53_0 r53_1 w52=>S35 w52/\z2h_sh r47_0 r47_1 r53_0 r53_1 (fun r55_0 r55_1 w54=>S35 w54/\z2u_sh x40 (fun r57_0 r57_1 w56=>S35 w56/\z2u_sh x41 (fun r59_0 r59_1 w58=>S35 w58/\z2j_sh r57_0 r57_1 r59_0 r59_1 (fun r61_0 r61_1 w60=>S35 w60/\z17_sh r55_0 r55_1 r61_0 r61_1 (fun r63_0 r63_1 r64 w62=>S35 w62/\wrOk w62 (hA w2 0)/\
  (let w65:=w62.setCell (hA w2 0) (vI r63_0)
  wrOk w65 (hA w2 1)/\
  (let w66:=w65.setCell (hA w2 1) (vI r63_1)
  lI w66 (hA w2 0) fun x67=>lI w66 (hA w2 1) fun x68=>K x67 x68 r64 w66))) w60) w58) w56) w54) w52) w50) w48) w46) w44) w42) w34)) w8)) w3
noncomputable def z2d_S:=sp [.g 2,tI,tI,.g 2,tI,tI] [.u 2,.g 2,tI,tI,tB] z2d_sh
theorem z2d_ok:okP 86 z2d_S:=okR (x:=fun _=>qr 4 (qs (qr 4 (qc (qr 3 ql) ql)) (qs (qr 3 (qc (qr 19 ql) ql)) (qs (A.drw (dp [0,1,3,4,7,8,10,11,15,16,18,19] (DA.eff 2 (DA.eff 5 (DA.eff 6 (DA.eff 9 (DA.eff 12 (DA.eff 13 (DA.eff 14 (DA.eff 17 (DA.eff 20 (DA.eff 21 (DA.eff 22 (dp [23,24] (DA.eff 25 (DA.pur 26 DA.done)))))))))))))))) ql)))) (Γ:=[(84,z2s_S),(135,z1l_S),(136,z17_S),(137,z2u_S),(139,z1v_S),(140,z2j_S),(141,z2h_S),(143,z1y_S)]) ⟨.inl z2s_ok,.inl z1l_ok,.inl z17_ok,.inl z2u_ok,.inl z1v_ok,.inl z2j_ok,.inl z2h_ok,.inl z1y_ok,trivial⟩ Tryz.call86 Tryz.func86 (fun _=>hEnd)
structure z2e_k1 (p6:Addr)(K:Pw.T1)(w:World):Prop where
 out:lS w (p6.add 1) fun x94=>z1z_sh x94 (fun r96 w95=>cnd ((r96.l:Int) == 0)
  (K 0 w95)
  (∃ x97:Bool,w95.cell? p6=some (.bool x97)/\cnd x97
  (K (-1:Int) w95)
  (K 1 w95))) w
def z2e_k0d (p2 p3 p5:Addr)(K:Pw.T1)(w:World):Prop :=
 ∃ x43:Bool,w.cell? p5=some (.bool x43)/\wrOk w p5/\
 (let w44:=w.setCell p5 (.bool (!x43))
 let w45:=w44.drew
 ∃ S46:World->Prop,S46 w45/\mI S46 p2 fun x47=>mI S46 (p3.add 1) fun x48=>∃ x49:Bool,(∀ w':World,S46 w'->w'.cell? p5=some (.bool x49))/\mS S46 (p5.add 1) fun x50=>(z2u_sh x47 (fun r52_0 r52_1 w51=>S46 w51/\(z2u_sh x48 (fun r54_0 r54_1 w53=>S46 w53/\(z2j_sh r52_0 r52_1 r54_0 r54_1 (fun r56_0 r56_1 w55=>S46 w55/\(z2h_sh r56_0 r56_1 x49 x50 (fun r58_0 r58_1 w57=>S46 w57/\let w59:=w57.alloc (.cells #[(.bool false),vN] 181)
 S46 w59/\wrOk w59 (hA w57 0)/\
 (let w60:=w59.setCell (hA w57 0) (.bool r58_0)
 wrOk w60 (hA w57 1)/\
 (let w61:=w60.setCell (hA w57 1) (vS r58_1)
 z2e_k1 (hA w57 0) K w61))) w55)
/\(let w62:=w55.alloc (.cells #[(.bool false),vN] 181)
 S46 w62/\z2h_sh r56_0 r56_1 x49 x50 (fun r64_0 r64_1 w63=>S46 w63/\wrOk w63 (hA w55 0)/\
 (let w65:=w63.setCell (hA w55 0) (.bool r64_0)
 wrOk w65 (hA w55 1)/\
 (let w66:=w65.setCell (hA w55 1) (vS r64_1)
 z2e_k1 (hA w55 0) K w66))) w62)) w53)
/\(let w67:=w53.alloc (.cells #[(.bool false),vN] 181)
 S46 w67/\z2j_sh r52_0 r52_1 r54_0 r54_1 (fun r69_0 r69_1 w68=>S46 w68/\z2h_sh r69_0 r69_1 x49 x50 (fun r71_0 r71_1 w70=>S46 w70/\wrOk w70 (hA w53 0)/\
 (let w72:=w70.setCell (hA w53 0) (.bool r71_0)
 wrOk w72 (hA w53 1)/\
 (let w73:=w72.setCell (hA w53 1) (vS r71_1)
 z2e_k1 (hA w53 0) K w73))) w68) w67)) w51)
/\(let w74:=w51.alloc (.cells #[(.bool false),vN] 181)
 S46 w74/\z2u_sh x48 (fun r76_0 r76_1 w75=>S46 w75/\z2j_sh r52_0 r52_1 r76_0 r76_1 (fun r78_0 r78_1 w77=>S46 w77/\z2h_sh r78_0 r78_1 x49 x50 (fun r80_0 r80_1 w79=>S46 w79/\wrOk w79 (hA w51 0)/\
 (let w81:=w79.setCell (hA w51 0) (.bool r80_0)
 wrOk w81 (hA w51 1)/\
 (let w82:=w81.setCell (hA w51 1) (vS r80_1)
 z2e_k1 (hA w51 0) K w82))) w77) w75) w74)) w45)
/\(let w83:=w45.alloc (.cells #[(.bool false),vN] 181)
 S46 w83/\z2u_sh x47 (fun r85_0 r85_1 w84=>S46 w84/\z2u_sh x48 (fun r87_0 r87_1 w86=>S46 w86/\z2j_sh r85_0 r85_1 r87_0 r87_1 (fun r89_0 r89_1 w88=>S46 w88/\z2h_sh r89_0 r89_1 x49 x50 (fun r91_0 r91_1 w90=>S46 w90/\wrOk w90 (hA w45 0)/\
 (let w92:=w90.setCell (hA w45 0) (.bool r91_0)
 wrOk w92 (hA w45 1)/\
 (let w93:=w92.setCell (hA w45 1) (vS r91_1)
 z2e_k1 (hA w45 0) K w93))) w88) w86) w84) w83))
structure z2e_k0 (p2 p3 p5:Addr)(K:Pw.T1)(w:World):Prop where
 out:z2e_k0d p2 p3 p5 K w
def z2e_sd (p0_0 p0_1:Int)(p1_0 p1_1:Int)(K:Pw.T1)(w:World):Prop :=
 let w1:=w.alloc (.cells #[(vI p0_0),(vI p0_1)] 31)
 let w2:=w1.alloc (.cells #[(vI p1_0),(vI p1_1)] 31)
 lI w2 (hA w 0) fun x3=>lI w2 (hA w 1) fun x4=>lI w2 (hA w1 0) fun x5=>lI w2 (hA w1 1) fun x6=>z1v_sh x3 x4 x5 x6 (fun r8 w7=>cnd (!r8)
 (K 0 w7)
 (let w9:=w7.drew
 ∃ S10:World->Prop,S10 w9/\mI S10 (hA w1 0) fun x11=>mI S10 (hA w 1) fun x12=>(z2u_sh x11 (fun r14_0 r14_1 w13=>S10 w13/\(z2u_sh x12 (fun r16_0 r16_1 w15=>S10 w15/\(z2j_sh r14_0 r14_1 r16_0 r16_1 (fun r18_0 r18_1 w17=>S10 w17/\let w19:=w17.alloc (.cells #[(.bool false),vN] 181)
 S10 w19/\wrOk w19 (hA w17 0)/\
 (let w20:=w19.setCell (hA w17 0) (.bool r18_0)
 wrOk w20 (hA w17 1)/\
 (let w21:=w20.setCell (hA w17 1) (vS r18_1)
 z2e_k0 (hA w 0) (hA w1 0) (hA w17 0) K w21))) w15)
/\(let w22:=w15.alloc (.cells #[(.bool false),vN] 181)
 S10 w22/\z2j_sh r14_0 r14_1 r16_0 r16_1 (fun r24_0 r24_1 w23=>S10 w23/\wrOk w23 (hA w15 0)/\
 (let w25:=w23.setCell (hA w15 0) (.bool r24_0)
 wrOk w25 (hA w15 1)/\
 (let w26:=w25.setCell (hA w15 1) (vS r24_1)
 z2e_k0 (hA w 0) (hA w1 0) (hA w15 0) K w26))) w22)) w13)
/\(let w27:=w13.alloc (.cells #[(.bool false),vN] 181)
 S10 w27/\z2u_sh x12 (fun r29_0 r29_1 w28=>S10 w28/\z2j_sh r14_0 r14_1 r29_0 r29_1 (fun r31_0 r31_1 w30=>S10 w30/\wrOk w30 (hA w13 0)/\
 (let w32:=w30.setCell (hA w13 0) (.bool r31_0)
 wrOk w32 (hA w13 1)/\
 (let w33:=w32.setCell (hA w13 1) (vS r31_1)
 z2e_k0 (hA w 0) (hA w1 0) (hA w13 0) K w33))) w28) w27)) w9)
/\(let w34:=w9.alloc (.cells #[(.bool false),vN] 181)
 S10 w34/\z2u_sh x11 (fun r36_0 r36_1 w35=>S10 w35/\z2u_sh x12 (fun r38_0 r38_1 w37=>S10 w37/\z2j_sh r36_0 r36_1 r38_0 r38_1 (fun r40_0 r40_1 w39=>S10 w39/\wrOk w39 (hA w9 0)/\
 (let w41:=w39.setCell (hA w9 0) (.bool r40_0)
 wrOk w41 (hA w9 1)/\
 (let w42:=w41.setCell (hA w9 1) (vS r40_1)
 z2e_k0 (hA w 0) (hA w1 0) (hA w9 0) K w42))) w37) w35) w34))) w2
structure z2e_sh (p0_0 p0_1:Int)(p1_0 p1_1:Int)(K:Pw.T1)(w:World):Prop where
 out:z2e_sd p0_0 p0_1 p1_0 p1_1 K w
def z2e_L0 (Kv:VW):Cur [tQ,tQ,tQ] WP:=fun p2 p3 p5=>z2e_k0 p2 p3 p5 (kk [tI] Kv)
def z2e_L1 (Kv:VW):Cur [tQ] WP:=fun p6=>z2e_k1 p6 (kk [tI] Kv)
noncomputable def z2e_S:=sp [.g 2,tI,tI,.g 2,tI,tI] [tI] z2e_sh
theorem z2e_ok:q3e Tryz.prog 85 z2e_S:=okS (x:=fun Kv=>qr 3 (qs (qr 4 (qc (qr 1 ql) ql)) (qs (A.drw (dp [0,1,3,4] (DA.two 2 (DA.two 5 (DA.two 6 (DA.eff 7 (DA.eff 8 DA.done)) 7 (DA.eff 6 (DA.eff 8 DA.done))) 7 (DA.eff 5 (DA.eff 6 (DA.eff 8 DA.done)))) 7 (DA.eff 2 (DA.eff 5 (DA.eff 6 (DA.eff 8 DA.done))))))) (A.cut [2,3,5] (uR0 [tQ,tQ,tQ] (z2e_L0 Kv)) (qr 5 (qs (A.drw (dp [0,1,3,4,7] (DA.two 2 (DA.two 5 (DA.two 6 (DA.two 8 (DA.eff 9 (DA.eff 10 DA.done)) 9 (DA.eff 8 (DA.eff 10 DA.done))) 9 (DA.eff 6 (DA.eff 8 (DA.eff 10 DA.done)))) 9 (DA.eff 5 (DA.eff 6 (DA.eff 8 (DA.eff 10 DA.done))))) 9 (DA.eff 2 (DA.eff 5 (DA.eff 6 (DA.eff 8 (DA.eff 10 DA.done)))))))) (A.cut [6] (uR0 [tQ] (z2e_L1 Kv)) (qs (qb (qr 6 (qc (qr 1 ql) (qr 3 (qc (qr 1 ql) ql))))) (qr 1 ql))))))))) (fun Kv p0_0 p0_1 p1_0 p1_1=>z2e_sd p0_0 p0_1 p1_0 p1_1 (kk [tI] Kv)) progMixed (Γ:=[(137,z2u_S),(139,z1v_S),(140,z2j_S),(141,z2h_S),(142,z1z_S)]) ⟨.inl z2u_ok,.inl z1v_ok,.inl z2j_ok,.inl z2h_ok,.inl z1z_ok,trivial⟩ Tryz.call85 Tryz.func85 (fun Kv=>q07 (qjh (F:=z2e_L0 Kv) (G:=fun p2 p3 p5=>z2e_k0d p2 p3 p5 (kk [tI] Kv))) <| q07 (hK0 (F:=z2e_L1 Kv)) <| hEnd)
structure z1i_sh (p0_0 p0_1:Int)(K:Pw.T1)(w:World):Prop where
 out:let w1:=w.alloc (.cells #[(vI p0_0),(vI p0_1)] 31)
  lI w1 (hA w 0) fun x2=>lI w1 (hA w 1) fun x3=>z1j_sh x2 x3 (fun r5 w4=>cnd (!r5)
  (K 0 w4)
  (lI w4 (hA w 0) fun x6=>lI w4 (hA w 1) fun x7=>x7≠0/\inR .i64 (Int.tdiv x6 x7)/\lI w4 (hA w 0) fun x8=>lI w4 (hA w 1) fun x9=>x9≠0/\cnd (decide ((Int.tmod x8 x9)<0))
  (inR .i64 ((Int.tdiv x6 x7)-1)/\K ((Int.tdiv x6 x7)-1) w4)
  (K (Int.tdiv x6 x7) w4))) w1
noncomputable def z1i_S:=sp [.g 2,tI,tI] [tI] z1i_sh
theorem z1i_ok:okP 88 z1i_S:=okR (x:=fun _=>qr 2 (qr 3 (qs (qr 2 (qc (qr 1 ql) ql)) (qr 6 (qs (qr 6 (qc (qe 3) ql)) (qr 2 ql)))))) (Γ:=[(81,z1j_S)]) ⟨.inl z1j_ok,trivial⟩ Tryz.call88 Tryz.func88 (fun _=>hEnd)
end Go.Proofs.YtfpobpjandjhjaaGreatDoor
