/- The bodies' formulas, by program. -/
import Derived.Test.YtfpobpjandjhjaaGreatDoorCG1
set_option maxRecDepth 20000
namespace Go.Proofs.YtfpobpjandjhjaaGreatDoor
open Go Pw
def z2n_b0 (p0:Sl)(p1:Value)(p7 p8:Int)(N0:Pw.T38)(K:Pw.T1)(w:World):Prop :=
 cnd (decide (p8<p7))
 (nz p0.p fun a1=>(0<=p8/\p8<(p0.l:Nat))/\lI w (a1.add (p8.toNat*1)) fun x2=>q2b Tryz.prog p1 [(vI x2)] w fun u3 w4=>∃ x5:Bool,u3=(.bool x5)/\cnd x5
 (K p8 w4)
 (inR .i64 (p8+1)/\N0 p0 p1 p7 (p8+1) w4))
 (K (-1:Int) w)
structure z2n_l0 (p0:Sl)(p1:Value)(p7 p8:Int)(K:Pw.T1)(w:World):Prop where
 out:∃ (I:Int->World->Prop) (μ:Int->World->Nat),I p8 w/\∀ (p81:Int) (w1:World),I p81 w1 ->
  z2n_b0 p0 p1 p7 p81 (fun p0' p1' p7' p8' w'=>((p0'=p0/\p1'=p1/\p7'=p7/\True)/\I p8' w')/\μ p8' w'<μ p81 w1) K w1
structure z2n_sh (p0:Sl)(p1:Value)(K:Pw.T1)(w:World):Prop where
 out:z2n_l0 p0 p1 (p0.l:Int) 0 K w
def z2n_L0 (Kv:VW):Cur [tL,tV,tI,tI] WP:=fun p0 p1 p7 p8=>z2n_l0 p0 p1 p7 p8 (kk [tI] Kv)
noncomputable def z2n_S:=sp [tL,tV] [tI] z2n_sh
theorem z2n_ok:okP 123 z2n_S:=okR (x:=fun Kv=>qr 1 (qs (qr 3 (qb (A.loop [0,1,7,8] (uR0 [tL,tV,tI,tI] (z2n_L0 Kv)) (qr 1 (qs (qc ql ql) (qs (qb (qr 2 (qs (A.reg (qn 5 (RA.dyn (Value.bool false) RA.done))) (qc (qr 2 ql) ql)))) (qe 2))))))) (qr 1 ql))) (Γ:=[]) trivial Tryz.call123 Tryz.func123 (fun Kv=>q07 (q0a (L:=z2n_L0 Kv) (fun N0 p0 p1 p7 p8=>z2n_b0 p0 p1 p7 p8 N0 (kk [tI] Kv)) (fun⟨a0,a1,a2,_,_⟩ _ h=>let ⟨I,μ,h0,hr⟩:=h.out; ⟨fun b0 b1 b2 b3 w=>(b0=a0/\b1=a1/\b2=a2/\True)/\I b3 w,fun _ _ _ b3 w=>μ b3 w,⟨⟨rfl,rfl,rfl,trivial⟩,h0⟩,fun⟨_,_,_,_,_⟩ _ ⟨⟨e0,e1,e2,_⟩,hI⟩=>by cases e0; cases e1; cases e2; exact hr _ _ hI⟩)) <| hEnd)
structure z1d_sh (p0:Sl)(p1:Value)(K:Pw.T0)(w:World):Prop where
 out:z2n_sh p0 p1 (fun r2 w1=>K (decide (r2>=0)) w1) w
noncomputable def z1d_S:=sp [tL,tV] [tB] z1d_sh
theorem z1d_ok:okP 71 z1d_S:=okR (x:=fun _=>qr 1 (qr 5 ql)) (Γ:=[(123,z2n_S)]) ⟨.inl z2n_ok,trivial⟩ Tryz.call71 Tryz.func71 (fun _=>hEnd)
def z03_b0 (p0:Sl)(p1:Value)(p7 p8:Int)(N0:Pw.T38)(K:Pw.T1)(w:World):Prop :=
 cnd (decide (p8<p7))
 (nz p0.p fun a1=>(0<=p8/\p8<(p0.l:Nat))/\lI w (a1.add (p8.toNat*4)) fun x2=>∃ x3:Int,w.cell? ((a1.add (p8.toNat*4)).add 1)=some (vI x3)/\∃ x4:Int,w.cell? ((a1.add (p8.toNat*4)).add 2)=some (vI x4)/\∃ x5:Int,w.cell? ((a1.add (p8.toNat*4)).add 3)=some (vI x5)/\q2b Tryz.prog p1 [(Value.agg #[(vI x2),(vI x3),(vI x4),(vI x5)])] w fun u6 w7=>∃ x8:Bool,u6=(.bool x8)/\cnd x8
 (K p8 w7)
 (inR .i64 (p8+1)/\N0 p0 p1 p7 (p8+1) w7))
 (K (-1:Int) w)
structure z03_l0 (p0:Sl)(p1:Value)(p7 p8:Int)(K:Pw.T1)(w:World):Prop where
 out:∃ (I:Int->World->Prop) (μ:Int->World->Nat),I p8 w/\∀ (p81:Int) (w1:World),I p81 w1 ->
  z03_b0 p0 p1 p7 p81 (fun p0' p1' p7' p8' w'=>((p0'=p0/\p1'=p1/\p7'=p7/\True)/\I p8' w')/\μ p8' w'<μ p81 w1) K w1
structure z03_sh (p0:Sl)(p1:Value)(K:Pw.T1)(w:World):Prop where
 out:z03_l0 p0 p1 (p0.l:Int) 0 K w
def z03_L0 (Kv:VW):Cur [tL,tV,tI,tI] WP:=fun p0 p1 p7 p8=>z03_l0 p0 p1 p7 p8 (kk [tI] Kv)
noncomputable def z03_S:=sp [tL,tV] [tI] z03_sh
theorem z03_ok:okP 180 z03_S:=okR (x:=fun Kv=>qr 1 (qs (qr 3 (qb (A.loop [0,1,7,8] (uR0 [tL,tV,tI,tI] (z03_L0 Kv)) (qr 1 (qs (qc ql ql) (qs (qb (qr 2 (qs (A.reg (qn 5 (RA.dyn (Value.bool false) RA.done))) (qc (qr 2 ql) ql)))) (qe 2))))))) (qr 1 ql))) (Γ:=[]) trivial Tryz.call180 Tryz.func180 (fun Kv=>q07 (q0a (L:=z03_L0 Kv) (fun N0 p0 p1 p7 p8=>z03_b0 p0 p1 p7 p8 N0 (kk [tI] Kv)) (fun⟨a0,a1,a2,_,_⟩ _ h=>let ⟨I,μ,h0,hr⟩:=h.out; ⟨fun b0 b1 b2 b3 w=>(b0=a0/\b1=a1/\b2=a2/\True)/\I b3 w,fun _ _ _ b3 w=>μ b3 w,⟨⟨rfl,rfl,rfl,trivial⟩,h0⟩,fun⟨_,_,_,_,_⟩ _ ⟨⟨e0,e1,e2,_⟩,hI⟩=>by cases e0; cases e1; cases e2; exact hr _ _ hI⟩)) <| hEnd)
structure z00_sh (p0:Sl)(p1:Value)(K:Pw.T0)(w:World):Prop where
 out:z03_sh p0 p1 (fun r2 w1=>K (decide (r2>=0)) w1) w
noncomputable def z00_S:=sp [tL,tV] [tB] z00_sh
theorem z00_ok:okP 132 z00_S:=okR (x:=fun _=>qr 1 (qr 5 ql)) (Γ:=[(180,z03_S)]) ⟨.inl z03_ok,trivial⟩ Tryz.call132 Tryz.func132 (fun _=>hEnd)
def z34_b0 (s1_0 s2_1 p9:Sl)(p10 p11:Int)(N0:Pw.T5)(K:Pw.T1)(w:World):Prop :=
 cnd (decide (p11<p10))
 (nz p9.p fun a1=>(0<=p11/\p11<(p9.l:Nat))/\lI w (a1.add (p11.toNat*1)) fun x2=>cnd (decide (p11>=(s2_1.l:Int)))
 (K 1 w)
 (nz s2_1.p fun a3=>(0<=p11/\p11<(s2_1.l:Nat))/\lI w (a3.add (p11.toNat*1)) fun x4=>z3p_sh x2 x4 (fun r6 w5=>cnd (r6 != 0)
 (K r6 w5)
 (inR .i64 (p11+1)/\N0 s1_0 s2_1 p9 p10 (p11+1) w5)) w))
 (cnd (decide ((s1_0.l:Int)<(s2_1.l:Int)))
 (K (-1:Int) w)
 (K 0 w))
structure z34_l0 (s1_0 s2_1 p9:Sl)(p10 p11:Int)(K:Pw.T1)(w:World):Prop where
 out:∃ (I:Int->World->Prop) (μ:Int->World->Nat),I p11 w/\∀ (p111:Int) (w1:World),I p111 w1 ->
  z34_b0 s1_0 s2_1 p9 p10 p111 (fun s1_0' s2_1' p9' p10' p11' w'=>((s1_0'=s1_0/\s2_1'=s2_1/\p9'=p9/\p10'=p10/\True)/\I p11' w')/\μ p11' w'<μ p111 w1) K w1
structure z34_sh (s1_0 s2_1:Sl)(K:Pw.T1)(w:World):Prop where
 out:z34_l0 s1_0 s2_1 s1_0 (s1_0.l:Int) 0 K w
def z34_L0 (Kv:VW):Cur [tL,tL,tL,tI,tI] WP:=fun s1_0 s2_1 p9 p10 p11=>z34_l0 s1_0 s2_1 p9 p10 p11 (kk [tI] Kv)
noncomputable def z34_S:=sp [tL,tL] [tI] z34_sh
theorem z34_ok:okP 92 z34_S:=okR (x:=fun Kv=>qr 1 (qs (qr 3 (qb (A.loop [0,1,9,10,11] (uR0 [tL,tL,tL,tI,tI] (z34_L0 Kv)) (qr 1 (qs (qc ql ql) (qs (qb (qr 5 (qs (qr 4 (qc (qr 1 ql) ql)) (qr 5 (qr 4 (qr 2 (qc (qr 2 ql) ql))))))) (qe 2))))))) (qs (qr 5 (qc (qr 1 ql) ql)) (qr 1 ql)))) (Γ:=[(127,z3p_S)]) ⟨.inl z3p_ok,trivial⟩ Tryz.call92 Tryz.func92 (fun Kv=>q07 (q0a (L:=z34_L0 Kv) (fun N0 s1_0 s2_1 p9 p10 p11=>z34_b0 s1_0 s2_1 p9 p10 p11 N0 (kk [tI] Kv)) (fun⟨a0,a1,a2,a3,_,_⟩ _ h=>let ⟨I,μ,h0,hr⟩:=h.out; ⟨fun b0 b1 b2 b3 b4 w=>(b0=a0/\b1=a1/\b2=a2/\b3=a3/\True)/\I b4 w,fun _ _ _ _ b4 w=>μ b4 w,⟨⟨rfl,rfl,rfl,rfl,trivial⟩,h0⟩,fun⟨_,_,_,_,_,_⟩ _ ⟨⟨e0,e1,e2,e3,_⟩,hI⟩=>by cases e0; cases e1; cases e2; cases e3; exact hr _ _ hI⟩)) <| hEnd)
def z3n_b0 (p0:Sl)(p1 p7 p8:Int)(N0:Sl->Int->Int->Int->World->Prop)(K:Pw.T1)(w:World):Prop :=
 cnd (decide (p8<p7))
 (nz p0.p fun a1=>(0<=p8/\p8<(p0.l:Nat))/\lI w (a1.add (p8.toNat*1)) fun x2=>cnd (p1 == x2)
 (K p8 w)
 (inR .i64 (p8+1)/\N0 p0 p1 p7 (p8+1) w))
 (K (-1:Int) w)
structure z3n_l0 (p0:Sl)(p1 p7 p8:Int)(K:Pw.T1)(w:World):Prop where
 out:∃ (I:Int->World->Prop) (μ:Int->World->Nat),I p8 w/\∀ (p81:Int) (w1:World),I p81 w1 ->
  z3n_b0 p0 p1 p7 p81 (fun p0' p1' p7' p8' w'=>((p0'=p0/\p1'=p1/\p7'=p7/\True)/\I p8' w')/\μ p8' w'<μ p81 w1) K w1
structure z3n_sh (p0:Sl)(p1:Int)(K:Pw.T1)(w:World):Prop where
 out:z3n_l0 p0 p1 (p0.l:Int) 0 K w
def z3n_L0 (Kv:VW):Cur [tL,tI,tI,tI] WP:=fun p0 p1 p7 p8=>z3n_l0 p0 p1 p7 p8 (kk [tI] Kv)
noncomputable def z3n_S:=sp [tL,tI] [tI] z3n_sh
theorem z3n_ok:okP 148 z3n_S:=okR (x:=fun Kv=>qr 1 (qs (qr 3 (qb (A.loop [0,1,7,8] (uR0 [tL,tI,tI,tI] (z3n_L0 Kv)) (qr 1 (qs (qc ql ql) (qs (qb (qr 2 (qr 6 (qc (qr 2 ql) ql)))) (qe 2))))))) (qr 1 ql))) (Γ:=[]) trivial Tryz.call148 Tryz.func148 (fun Kv=>q07 (q0a (L:=z3n_L0 Kv) (fun N0 p0 p1 p7 p8=>z3n_b0 p0 p1 p7 p8 N0 (kk [tI] Kv)) (fun⟨a0,a1,a2,_,_⟩ _ h=>let ⟨I,μ,h0,hr⟩:=h.out; ⟨fun b0 b1 b2 b3 w=>(b0=a0/\b1=a1/\b2=a2/\True)/\I b3 w,fun _ _ _ b3 w=>μ b3 w,⟨⟨rfl,rfl,rfl,trivial⟩,h0⟩,fun⟨_,_,_,_,_⟩ _ ⟨⟨e0,e1,e2,_⟩,hI⟩=>by cases e0; cases e1; cases e2; exact hr _ _ hI⟩)) <| hEnd)
structure z2z_sh (p0:Sl)(p1:Int)(K:Pw.T0)(w:World):Prop where
 out:z3n_sh p0 p1 (fun r2 w1=>K (decide (r2>=0)) w1) w
noncomputable def z2z_S:=sp [tL,tI] [tB] z2z_sh
theorem z2z_ok:okP 102 z2z_S:=okR (x:=fun _=>qr 1 (qr 5 ql)) (Γ:=[(148,z3n_S)]) ⟨.inl z3n_ok,trivial⟩ Tryz.call102 Tryz.func102 (fun _=>hEnd)
structure z2p_sh (p0:Int)(p1:Addr)(K:Pw.T0)(w:World):Prop where
 out:lS w p1 fun x1=>z2z_sh x1 p0 (fun r3 w2=>K r3 w2) w
noncomputable def z2p_S:=sp [tI,tQ] [tB] z2p_sh
theorem z2p_ok:okP 101 z2p_S:=okR (x:=fun _=>qr 1 (qr 5 ql)) (Γ:=[(102,z2z_S)]) ⟨.inl z2z_ok,trivial⟩ Tryz.call101 Tryz.func101 (fun _=>hEnd)
structure z31_sh (p0 p1:Int)(K:Pw.T0)(w:World):Prop where
 out:cnd (decide (p0>=0))
  (K (decide (p0<=p1)) w)
  (K false w)
noncomputable def z31_S:=sp [tI,tI] [tB] z31_sh
theorem z31_ok:okP 51 z31_S:=okR (x:=fun _=>qr 1 (qs (A.reg (qn 3 (RA.spl 7 (qn 5 RA.done) (qk 3 (qn 2 RA.done))))) ql)) (Γ:=[]) trivial Tryz.call51 Tryz.func51 (fun _=>hEnd)
structure z2q_sh (p0_0 p0_1:Int)(p0_2 p0_3:Int)(p1:Addr)(K:Pw.T0)(w:World):Prop where
 out:let w1:=w.alloc (.cells #[(vI p0_0),(vI p0_1),(vI p0_2),(vI p0_3)] 57)
  ∃ x2:Value,w1.cell? p1=some x2/\lI w1 (hA w 0) fun x3=>q2b Tryz.prog x2 [(vI x3)] w1 fun u4 w5=>∃ x6:Bool,u4=(.bool x6)/\cnd x6
  (lI w5 (hA w 2) fun x7=>z31_sh x7 1000000000 (fun r9 w8=>cnd r9
  (lI w8 (hA w 3) fun x10=>z31_sh x10 1000000 (fun r12 w11=>K r12 w11) w8)
  (K false w8)) w5)
  (K false w5)
noncomputable def z2q_S:=sp [.g 4,tI,tI,tI,tI,tQ] [tB] z2q_sh
theorem z2q_ok:okP 103 z2q_S:=okR (x:=fun _=>qr 2 (qs (A.reg (qn 3 (RA.dyn (Value.bool false) (qn 1 (RA.spl 8 (qn 5 (RA.spl 13 (qn 5 RA.done) (qk 3 (qn 2 RA.done)))) (qk 3 (qn 2 (qk 3 (qn 2 RA.done))))))))) ql)) (Γ:=[(51,z31_S)]) ⟨.inl z31_ok,trivial⟩ Tryz.call103 Tryz.func103 (fun _=>hEnd)
def z2c_b0 (p3:Nat)(p7:Sl)(p8 p9:Int)(N0:Nat->Sl->Int->Int->World->Prop)(K:Pw.T0)(w:World):Prop :=
 cnd (decide (p9<p8))
 (nz p7.p fun a2=>(0<=p9/\p9<(p7.l:Nat))/\lI w (a2.add (p9.toNat*1)) fun x3=>∃ l4:List (Int × Bool),Mp w p3 .i64 (l4.map fun p=>(p.1,Value.bool p.2))/\cnd (q10 false x3 l4)
 (K false w)
 ((∃ l:List (Int × Value),Mp w p3 .i64 l)/\let w5:=w.mset p3 .i64 x3 (.bool true)
 inR .i64 (p9+1)/\N0 p3 p7 p8 (p9+1) w5))
 (K true w)
structure z2c_l0 (p3:Nat)(p7:Sl)(p8 p9:Int)(K:Pw.T0)(w:World):Prop where
 out:∃ (I:Int->World->Prop) (μ:Int->World->Nat),I p9 w/\∀ (p91:Int) (w1:World),I p91 w1 ->
  z2c_b0 p3 p7 p8 p91 (fun p3' p7' p8' p9' w'=>((p3'=p3/\p7'=p7/\p8'=p8/\True)/\I p9' w')/\μ p9' w'<μ p91 w1) K w1
structure z2c_sh (p0:Sl)(K:Pw.T0)(w:World):Prop where
 out:let w1:=w.alloc (Obj.map #[] 0)
  z2c_l0 w.heap.size p0 (p0.l:Int) 0 K w1
def z2c_L0 (Kv:VW):Cur [tN,tL,tI,tI] WP:=fun p3 p7 p8 p9=>z2c_l0 p3 p7 p8 p9 (kk [tB] Kv)
noncomputable def z2c_S:=sp [tL] [tB] z2c_sh
theorem z2c_ok:okP 105 z2c_S:=okR (x:=fun Kv=>qr 1 (qr 2 (qs (qr 3 (qb (A.loop [3,7,8,9] (uR0 [tN,tL,tI,tI] (z2c_L0 Kv)) (qr 1 (qs (qc ql ql) (qs (qb (qr 3 (qs (qr 3 (qc (qr 1 ql) ql)) (qe 3)))) (qe 2))))))) (qr 1 ql)))) (Γ:=[]) trivial Tryz.call105 Tryz.func105 (fun Kv=>q07 (q0a (L:=z2c_L0 Kv) (fun N0 p3 p7 p8 p9=>z2c_b0 p3 p7 p8 p9 N0 (kk [tB] Kv)) (fun⟨a0,a1,a2,_,_⟩ _ h=>let ⟨I,μ,h0,hr⟩:=h.out; ⟨fun b0 b1 b2 b3 w=>(b0=a0/\b1=a1/\b2=a2/\True)/\I b3 w,fun _ _ _ b3 w=>μ b3 w,⟨⟨rfl,rfl,rfl,trivial⟩,h0⟩,fun⟨_,_,_,_,_⟩ _ ⟨⟨e0,e1,e2,_⟩,hI⟩=>by cases e0; cases e1; cases e2; exact hr _ _ hI⟩)) <| hEnd)
structure z36_sh (p0:Int)(p1:Addr)(K:Pw.T0)(w:World):Prop where
 out:∃ x1:Value,w.cell? p1=some x1/\q2b Tryz.prog x1 [(vI p0)] w fun u2 w3=>∃ x4:Bool,u2=(.bool x4)/\K (!x4) w3
noncomputable def z36_S:=sp [tI,tQ] [tB] z36_sh
theorem z36_ok:okP 149 z36_S:=okR (x:=fun _=>qr 1 (qs (A.reg (qn 2 (RA.dyn (Value.bool false) (qn 2 RA.done)))) ql)) (Γ:=[]) trivial Tryz.call149 Tryz.func149 (fun _=>hEnd)
structure z3q_sh (p0:Sl)(p1:Value)(K:Pw.T0)(w:World):Prop where
 out:let w1:=w.alloc (.cells (Value.cells p1) 123)
  z1d_sh p0 (Value.func (.func 149) #[] #[(.pointer (some (hA w 0)))]) (fun r3 w2=>K (!r3) w2) w1
noncomputable def z3q_S:=sp [tL,tV] [tB] z3q_sh
theorem z3q_ok:okP 106 z3q_S:=okR (x:=fun _=>qr 2 (qr 5 ql)) (Γ:=[(71,z1d_S)]) ⟨.inl z1d_ok,trivial⟩ Tryz.call106 Tryz.func106 (fun _=>hEnd)
structure z2r_sh (p0_0:Int)(p0_1:Sl)(p0_2:Int)(p1:Addr)(K:Pw.T0)(w:World):Prop where
 out:let w1:=w.alloc (.cells #[(vI p0_0),(vS p0_1),(vI p0_2)] 81)
  lS w1 (hA w 1) fun x2=>cnd (decide ((x2.l:Int)>0))
  (lS w1 (hA w 1) fun x3=>z2c_sh x3 (fun r5 w4=>cnd r5
  (lS w4 (hA w 1) fun x6=>∃ x7:Value,w4.cell? p1=some x7/\z3q_sh x6 x7 (fun r9 w8=>cnd r9
  (lI w8 (hA w 2) fun x10=>z31_sh x10 1000000000 (fun r12 w11=>K r12 w11) w8)
  (K false w8)) w4)
  (K false w4)) w1)
  (K false w1)
noncomputable def z2r_S:=sp [.g 3,tI,tL,tI,tQ] [tB] z2r_sh
theorem z2r_ok:okP 104 z2r_S:=okR (x:=fun _=>qr 2 (qs (A.reg (qn 5 (RA.spl 8 (qn 5 (RA.spl 13 (qn 6 (RA.spl 19 (qn 5 RA.done) (qk 3 (qn 2 RA.done)))) (qk 4 (qn 2 (qk 3 (qn 2 RA.done)))))) (qk 3 (qn 2 (qk 4 (qn 2 (qk 3 (qn 2 RA.done))))))))) ql)) (Γ:=[(51,z31_S),(105,z2c_S),(106,z3q_S)]) ⟨.inl z31_ok,.inl z2c_ok,.inl z3q_ok,trivial⟩ Tryz.call104 Tryz.func104 (fun _=>hEnd)
structure z09_sh (p0_0 p0_1:Int)(p0_2 p0_3:Int)(p1:Addr)(K:Pw.T0)(w:World):Prop where
 out:let w1:=w.alloc (.cells #[(vI p0_0),(vI p0_1),(vI p0_2),(vI p0_3)] 57)
  ∃ x2:Value,w1.cell? p1=some x2/\lI w1 (hA w 0) fun x3=>lI w1 (hA w 1) fun x4=>lI w1 (hA w 2) fun x5=>lI w1 (hA w 3) fun x6=>q2b Tryz.prog x2 [(Value.agg #[(vI x3),(vI x4),(vI x5),(vI x6)])] w1 fun u7 w8=>∃ x9:Bool,u7=(.bool x9)/\K (!x9) w8
noncomputable def z09_S:=sp [.g 4,tI,tI,tI,tI,tQ] [tB] z09_sh
theorem z09_ok:okP 150 z09_S:=okR (x:=fun _=>qr 2 (qs (A.reg (qn 2 (RA.dyn (Value.bool false) (qn 2 RA.done)))) ql)) (Γ:=[]) trivial Tryz.call150 Tryz.func150 (fun _=>hEnd)
structure z0i_sh (p0:Sl)(p1:Value)(K:Pw.T0)(w:World):Prop where
 out:let w1:=w.alloc (.cells (Value.cells p1) 142)
  z00_sh p0 (Value.func (.func 150) #[] #[(.pointer (some (hA w 0)))]) (fun r3 w2=>K (!r3) w2) w1
noncomputable def z0i_S:=sp [tL,tV] [tB] z0i_sh
theorem z0i_ok:okP 107 z0i_S:=okR (x:=fun _=>qr 2 (qr 5 ql)) (Γ:=[(132,z00_S)]) ⟨.inl z00_ok,trivial⟩ Tryz.call107 Tryz.func107 (fun _=>hEnd)
structure z0h_sh (p0_0:Int)(p0_1:Sl)(p0_2:Int)(p1:Addr)(K:Pw.T0)(w:World):Prop where
 out:let w1:=w.alloc (.cells #[(vI p0_0),(vS p0_1),(vI p0_2)] 81)
  ∃ x2:Value,w1.cell? p1=some x2/\lI w1 (hA w 0) fun x3=>lS w1 (hA w 1) fun x4=>lI w1 (hA w 2) fun x5=>q2b Tryz.prog x2 [(Value.agg #[(vI x3),(vS x4),(vI x5)])] w1 fun u6 w7=>∃ x8:Bool,u6=(.bool x8)/\K (!x8) w7
noncomputable def z0h_S:=sp [.g 3,tI,tL,tI,tQ] [tB] z0h_sh
theorem z0h_ok:okP 152 z0h_S:=okR (x:=fun _=>qr 2 (qs (A.reg (qn 2 (RA.dyn (Value.bool false) (qn 2 RA.done)))) ql)) (Γ:=[]) trivial Tryz.call152 Tryz.func152 (fun _=>hEnd)
def z08_b0 (p0:Sl)(p1:Value)(p7 p8:Int)(N0:Pw.T38)(K:Pw.T1)(w:World):Prop :=
 cnd (decide (p8<p7))
 (nz p0.p fun a1=>(0<=p8/\p8<(p0.l:Nat))/\lI w (a1.add (p8.toNat*3)) fun x2=>∃ x3:Sl,w.cell? ((a1.add (p8.toNat*3)).add 1)=some (vS x3)/\∃ x4:Int,w.cell? ((a1.add (p8.toNat*3)).add 2)=some (vI x4)/\q2b Tryz.prog p1 [(Value.agg #[(vI x2),(vS x3),(vI x4)])] w fun u5 w6=>∃ x7:Bool,u5=(.bool x7)/\cnd x7
 (K p8 w6)
 (inR .i64 (p8+1)/\N0 p0 p1 p7 (p8+1) w6))
 (K (-1:Int) w)
structure z08_l0 (p0:Sl)(p1:Value)(p7 p8:Int)(K:Pw.T1)(w:World):Prop where
 out:∃ (I:Int->World->Prop) (μ:Int->World->Nat),I p8 w/\∀ (p81:Int) (w1:World),I p81 w1 ->
  z08_b0 p0 p1 p7 p81 (fun p0' p1' p7' p8' w'=>((p0'=p0/\p1'=p1/\p7'=p7/\True)/\I p8' w')/\μ p8' w'<μ p81 w1) K w1
structure z08_sh (p0:Sl)(p1:Value)(K:Pw.T1)(w:World):Prop where
 out:z08_l0 p0 p1 (p0.l:Int) 0 K w
def z08_L0 (Kv:VW):Cur [tL,tV,tI,tI] WP:=fun p0 p1 p7 p8=>z08_l0 p0 p1 p7 p8 (kk [tI] Kv)
noncomputable def z08_S:=sp [tL,tV] [tI] z08_sh
theorem z08_ok:okP 188 z08_S:=okR (x:=fun Kv=>qr 1 (qs (qr 3 (qb (A.loop [0,1,7,8] (uR0 [tL,tV,tI,tI] (z08_L0 Kv)) (qr 1 (qs (qc ql ql) (qs (qb (qr 2 (qs (A.reg (qn 5 (RA.dyn (Value.bool false) RA.done))) (qc (qr 2 ql) ql)))) (qe 2))))))) (qr 1 ql))) (Γ:=[]) trivial Tryz.call188 Tryz.func188 (fun Kv=>q07 (q0a (L:=z08_L0 Kv) (fun N0 p0 p1 p7 p8=>z08_b0 p0 p1 p7 p8 N0 (kk [tI] Kv)) (fun⟨a0,a1,a2,_,_⟩ _ h=>let ⟨I,μ,h0,hr⟩:=h.out; ⟨fun b0 b1 b2 b3 w=>(b0=a0/\b1=a1/\b2=a2/\True)/\I b3 w,fun _ _ _ b3 w=>μ b3 w,⟨⟨rfl,rfl,rfl,trivial⟩,h0⟩,fun⟨_,_,_,_,_⟩ _ ⟨⟨e0,e1,e2,_⟩,hI⟩=>by cases e0; cases e1; cases e2; exact hr _ _ hI⟩)) <| hEnd)
structure z01_sh (p0:Sl)(p1:Value)(K:Pw.T0)(w:World):Prop where
 out:z08_sh p0 p1 (fun r2 w1=>K (decide (r2>=0)) w1) w
noncomputable def z01_S:=sp [tL,tV] [tB] z01_sh
theorem z01_ok:okP 151 z01_S:=okR (x:=fun _=>qr 1 (qr 5 ql)) (Γ:=[(188,z08_S)]) ⟨.inl z08_ok,trivial⟩ Tryz.call151 Tryz.func151 (fun _=>hEnd)
structure z12_sh (p0:Sl)(p1:Value)(K:Pw.T0)(w:World):Prop where
 out:let w1:=w.alloc (.cells (Value.cells p1) 143)
  z01_sh p0 (Value.func (.func 152) #[] #[(.pointer (some (hA w 0)))]) (fun r3 w2=>K (!r3) w2) w1
noncomputable def z12_S:=sp [tL,tV] [tB] z12_sh
theorem z12_ok:okP 108 z12_S:=okR (x:=fun _=>qr 2 (qr 5 ql)) (Γ:=[(151,z01_S)]) ⟨.inl z01_ok,trivial⟩ Tryz.call108 Tryz.func108 (fun _=>hEnd)
structure z37_sh (p0_0 p0_1 p0_2:Sl)(p0_3 p0_4:Int)(K:Pw.T0)(w:World):Prop where
 out:let w1:=w.alloc (.cells #[(vS p0_0),(vS p0_1),(vS p0_2),(vI p0_3),(vI p0_4)] 28)
  let w2:=w1.alloc (.cells #[Value.nilFunc] 123)
  wrOk w2 (hA w1 0)/\
  (let w3:=w2.setCell (hA w1 0) (Value.func (.func 101) #[] #[(.pointer (some (hA w 0)))])
  lS w3 (hA w 0) fun x4=>cnd (decide ((x4.l:Int)>0))
  (lS w3 (hA w 0) fun x5=>cnd (decide ((x5.l:Int)<=12))
  (lS w3 (hA w 0) fun x6=>z2c_sh x6 (fun r8 w7=>cnd r8
  (lS w7 (hA w 1) fun x9=>cnd (decide ((x9.l:Int)<=480))
  (lS w7 (hA w 2) fun x10=>cnd (decide ((x10.l:Int)<=100))
  (lI w7 (hA w 3) fun x11=>z31_sh x11 1000000000 (fun r13 w12=>cnd r13
  (lI w12 (hA w 4) fun x14=>z31_sh x14 1000000000 (fun r16 w15=>cnd r16
  (lS w15 (hA w 1) fun x17=>z0i_sh x17 (Value.func (.func 103) #[] #[(.pointer (some (hA w1 0)))]) (fun r19 w18=>cnd r19
  (lS w18 (hA w 2) fun x20=>z12_sh x20 (Value.func (.func 104) #[] #[(.pointer (some (hA w1 0)))]) (fun r22 w21=>K r22 w21) w18)
  (K false w18)) w15)
  (K false w15)) w12)
  (K false w12)) w7)
  (K false w7))
  (K false w7))
  (K false w7)) w3)
  (K false w3))
  (K false w3))
noncomputable def z37_S:=sp [.g 5,tL,tL,tL,tI,tI] [tB] z37_sh
theorem z37_ok:okP 50 z37_S:=okR (x:=fun _=>qr 2 (qr 3 (qr 2 (qr 2 (qs (A.reg (qn 5 (RA.spl 13 (qn 6 (RA.spl 19 (qn 5 (RA.spl 24 (qn 6 (RA.spl 30 (qn 6 (RA.spl 36 (qn 5 (RA.spl 41 (qn 5 (RA.spl 46 (qn 6 (RA.spl 52 (qn 6 RA.done) (qk 4 (qn 2 RA.done)))) (qk 4 (qn 2 (qk 4 (qn 2 RA.done)))))) (qk 3 (qn 2 (qk 4 (qn 2 (qk 4 (qn 2 RA.done)))))))) (qk 3 (qn 2 (qk 3 (qn 2 (qk 4 (qn 2 (qk 4 (qn 2 RA.done)))))))))) (qk 4 (qn 2 (qk 3 (qn 2 (qk 3 (qn 2 (qk 4 (qn 2 (qk 4 (qn 2 RA.done)))))))))))) (qk 4 (qn 2 (qk 4 (qn 2 (qk 3 (qn 2 (qk 3 (qn 2 (qk 4 (qn 2 (qk 4 (qn 2 RA.done)))))))))))))) (qk 3 (qn 2 (qk 4 (qn 2 (qk 4 (qn 2 (qk 3 (qn 2 (qk 3 (qn 2 (qk 4 (qn 2 (qk 4 (qn 2 RA.done)))))))))))))))) (qk 4 (qn 2 (qk 3 (qn 2 (qk 4 (qn 2 (qk 4 (qn 2 (qk 3 (qn 2 (qk 3 (qn 2 (qk 4 (qn 2 (qk 4 (qn 2 RA.done))))))))))))))))))) ql))))) (Γ:=[(51,z31_S),(105,z2c_S),(107,z0i_S),(108,z12_S)]) ⟨.inl z31_ok,.inl z2c_ok,.inl z0i_ok,.inl z12_ok,trivial⟩ Tryz.call50 Tryz.func50 (fun _=>hEnd)
structure z4i_sh (p0 p1:Int)(K:Pw.T6)(w:World):Prop where
 out:z44_sh p0 p1 (fun r2 r3 w1=>K r2 r3 w1) w
noncomputable def z4i_S:=sp [tU,tU] [.u 2,tU,tU] z4i_sh
theorem z4i_ok:okP 109 z4i_S:=okR (x:=fun _=>qr 2 (qs (qc ql ql) (qr 8 (qr 4 ql)))) (Γ:=[(154,z44_S)]) ⟨.inl z44_ok,trivial⟩ Tryz.call109 Tryz.func109 (fun _=>hEnd)
structure z3e_k0 (p0:Sl)(p6:Int)(K:Pw.T4)(w:World):Prop where
 out:False
def z3e_b1 (p7:Sl)(p8:Int)(N1:Pw.T43)(K:Pw.T4)(w:World):Prop :=
 cnd (decide (p8<(p7.l:Int)))
 (let w8:=w.drew
 ∃ S9:World->Prop,S9 w8/\(0<=p8/\p8<=(p7.l:Nat))/\(0<=(0:Int)/\(0:Int)<=p8/\p8<=(p7.c:Nat))/\cpS 1 (Sl.mk (subP p7.p p8.toNat p7.c 1) (p7.l-p8.toNat) (p7.c-p8.toNat)) (Sl.mk (subP p7.p 0 p7.c 1) (p8.toNat-0) (p7.c-0)) w8 fun x10 w11=>inR .i64 (p8+x10)/\N1 p7 (p8+x10) w11)
 (K p7 w)
structure z3e_l1 (p7:Sl)(p8:Int)(K:Pw.T4)(w:World):Prop where
 out:∃ (I:Int->World->Prop) (μ:Int->World->Nat),I p8 w/\∀ (p81:Int) (w1:World),I p81 w1 ->
  z3e_b1 p7 p81 (fun p7' p8' w'=>((p7'=p7/\True)/\I p8' w')/\μ p8' w'<μ p81 w1) K w1
structure z3e_sh (p0:Sl)(p1:Int)(K:Pw.T4)(w:World):Prop where
 out:cnd (decide (p1<0))
  (False)
  (inR .u64 (p0.l:Int)/\inR .u64 p1/\z4i_sh (p0.l:Int) p1 (fun r2 r3 w1=>cnd (decide (r2>0))
  (z3e_k0 p0 r3 K w1)
  (cnd (decide (r3>9223372036854775807))
  (z3e_k0 p0 r3 K w1)
  (inR .i64 r3/\mkS 8 [(vI 0)] 3 r3 r3 w1 fun s4 w5=>cpS 1 s4 p0 w5 fun x6 w7=>z3e_l1 s4 x6 K w7))) w)
def z3e_L0 (Kv:VW):Cur [tL,tU] WP:=fun p0 p6=>z3e_k0 p0 p6 (kk [tL] Kv)
def z3e_L1 (Kv:VW):Cur [tL,tI] WP:=fun p7 p8=>z3e_l1 p7 p8 (kk [tL] Kv)
noncomputable def z3e_S:=sp [tL,tI] [tL] z3e_sh
theorem z3e_ok:okP 52 z3e_S:=okR (x:=fun Kv=>qr 1 (qs (qr 2 (qc (qe 2) ql)) (qr 11 (qs (qs (A.reg (qn 3 (RA.spl 23 (qk 2 (qn 1 RA.done)) (qn 3 RA.done)))) (qc (A.cut [0,6] (uR0 [tL,tU] (z3e_L0 Kv)) (qe 2)) ql)) (qr 4 (qr 4 (qs (qb (A.loop [7,8] (uR0 [tL,tI] (z3e_L1 Kv)) (qs (qr 4 (qc ql ql)) (qb (A.drw (dp [0,1,2,3,4,5,6] (DA.eff 7 (dp [8,9] DA.done)))))))) (qr 2 ql)))))))) (Γ:=[(109,z4i_S)]) ⟨.inl z4i_ok,trivial⟩ Tryz.call52 Tryz.func52 (fun Kv=>q07 (hK0 (F:=z3e_L0 Kv)) <| q07 (q0a (L:=z3e_L1 Kv) (fun N1 p7 p8=>z3e_b1 p7 p8 N1 (kk [tL] Kv)) (fun⟨a0,_,_⟩ _ h=>let ⟨I,μ,h0,hr⟩:=h.out; ⟨fun b0 b1 w=>(b0=a0/\True)/\I b1 w,fun _ b1 w=>μ b1 w,⟨⟨rfl,trivial⟩,h0⟩,fun⟨_,_,_⟩ _ ⟨⟨e0,_⟩,hI⟩=>by cases e0; exact hr _ _ hI⟩)) <| hEnd)
def z0s_b0 (p1:Addr)(p3 p7:Sl)(p8 p9:Int)(N0:Pw.T29)(K:Pw.T4)(w:World):Prop :=
 cnd (decide (p9<p8))
 (nz p7.p fun a3=>(0<=p9/\p9<(p7.l:Nat))/\lI w (a3.add (p9.toNat*1)) fun x4=>cnd (decide (x4>=0))
 (lS w (p1.add 1) fun x5=>nz x5.p fun a6=>(0<=x4/\x4<(x5.l:Nat))/\lI w (a6.add (x4.toNat*4)) fun x7=>∃ x8:Int,w.cell? ((a6.add (x4.toNat*4)).add 1)=some (vI x8)/\∃ x9:Int,w.cell? ((a6.add (x4.toNat*4)).add 2)=some (vI x9)/\∃ x10:Int,w.cell? ((a6.add (x4.toNat*4)).add 3)=some (vI x10)/\let w11:=w.alloc (.cells #[(vI x7),(vI x8),(vI x9),(vI x10)] 57)
 apS 4 32 [(vI 0),(vI 0),(vI 0),(vI 0)] 57 p3 (Sl.mk (some (hA w 0)) 1 1) w11 fun s12 w13=>inR .i64 (p9+1)/\N0 p1 s12 p7 p8 (p9+1) w13)
 (inR .i64 (p9+1)/\N0 p1 p3 p7 p8 (p9+1) w))
 (K p3 w)
structure z0s_l0 (p1:Addr)(p3 p7:Sl)(p8 p9:Int)(K:Pw.T4)(w:World):Prop where
 out:∃ (I:Sl->Int->World->Prop) (μ:Sl->Int->World->Nat),I p3 p9 w/\∀ (p31:Sl) (p91:Int) (w1:World),I p31 p91 w1 ->
  z0s_b0 p1 p31 p7 p8 p91 (fun p1' p3' p7' p8' p9' w'=>((p1'=p1/\p7'=p7/\p8'=p8/\True)/\I p3' p9' w')/\μ p3' p9' w'<μ p31 p91 w1) K w1
structure z0s_sh (p0_0 p0_1 p0_2:Sl)(p0_3 p0_4:Int)(p0_5:Sl)(K:Pw.T4)(w:World):Prop where
 out:let w1:=w.alloc (.cells #[(vS p0_0),(vS p0_1),(vS p0_2),(vI p0_3),(vI p0_4),(vS p0_5)] 99)
  lS w1 (hA w 5) fun x2=>z0s_l0 (hA w 0) (Sl.mk none 0 0) x2 (x2.l:Int) 0 K w1
def z0s_L0 (Kv:VW):Cur [tQ,tL,tL,tI,tI] WP:=fun p1 p3 p7 p8 p9=>z0s_l0 p1 p3 p7 p8 p9 (kk [tL] Kv)
noncomputable def z0s_S:=sp [.g 6,tL,tL,tL,tI,tI,tL] [tL] z0s_sh
theorem z0s_ok:okP 115 z0s_S:=okR (x:=fun Kv=>qr 2 (qr 1 (qs (qr 4 (qb (A.loop [1,3,7,8,9] (uR0 [tQ,tL,tL,tI,tI] (z0s_L0 Kv)) (qr 1 (qs (qc ql ql) (qs (qb (qr 3 (qr 2 (qc (qe 10) ql)))) (qe 2))))))) (qr 2 ql)))) (Γ:=[]) trivial Tryz.call115 Tryz.func115 (fun Kv=>q07 (q0a (L:=z0s_L0 Kv) (fun N0 p1 p3 p7 p8 p9=>z0s_b0 p1 p3 p7 p8 p9 N0 (kk [tL] Kv)) (fun⟨a0,_,a2,a3,_,_⟩ _ h=>let ⟨I,μ,h0,hr⟩:=h.out; ⟨fun b0 b1 b2 b3 b4 w=>(b0=a0/\b2=a2/\b3=a3/\True)/\I b1 b4 w,fun _ b1 _ _ b4 w=>μ b1 b4 w,⟨⟨rfl,rfl,rfl,trivial⟩,h0⟩,fun⟨_,_,_,_,_,_⟩ _ ⟨⟨e0,e2,e3,_⟩,hI⟩=>by cases e0; cases e2; cases e3; exact hr _ _ _ hI⟩)) <| hEnd)
def z0c_b0 (p1:Addr)(p3:Nat)(p8:Sl)(p9 p10:Int)(N0:Pw.T42)(K:Pw.T0)(w:World):Prop :=
 cnd (decide (p10<p9))
 (nz p8.p fun a11=>(0<=p10/\p10<(p8.l:Nat))/\lI w (a11.add (p10.toNat*4)) fun x12=>∃ x13:Int,w.cell? ((a11.add (p10.toNat*4)).add 1)=some (vI x13)/\∃ x14:Int,w.cell? ((a11.add (p10.toNat*4)).add 2)=some (vI x14)/\∃ x15:Int,w.cell? ((a11.add (p10.toNat*4)).add 3)=some (vI x15)/\let w16:=w.alloc (.cells #[(vI 0),(vI 0),(vI 0),(vI 0)] 57)
 stN w16 (hA w 0) [(vI x12),(vI x13),(vI x14),(vI x15)] fun w17=>lI w17 (hA w 1) fun x18=>∃ l19:List (Int × Int),Mp w17 p3 .i64 (l19.map fun p=>(p.1,Value.int .i64 p.2))/\inR .i64 ((q10 0 x18 l19)+1)/\(∃ l:List (Int × Value),Mp w17 p3 .i64 l)/\let w20:=w17.mset p3 .i64 x18 (vI ((q10 0 x18 l19)+1))
 lI w20 (p1.add 3) fun x21=>cnd (decide (x21>0))
 (lI w20 (hA w 1) fun x22=>∃ l23:List (Int × Int),Mp w20 p3 .i64 (l23.map fun p=>(p.1,Value.int .i64 p.2))/\lI w20 (p1.add 3) fun x24=>cnd (decide ((q10 0 x22 l23)>x24))
 (K true w20)
 (inR .i64 (p10+1)/\N0 p1 p3 p8 p9 (p10+1) w20))
 (inR .i64 (p10+1)/\N0 p1 p3 p8 p9 (p10+1) w20))
 (K false w)
structure z0c_l0 (p1:Addr)(p3:Nat)(p8:Sl)(p9 p10:Int)(K:Pw.T0)(w:World):Prop where
 out:∃ (I:Int->World->Prop) (μ:Int->World->Nat),I p10 w/\∀ (p101:Int) (w1:World),I p101 w1 ->
  z0c_b0 p1 p3 p8 p9 p101 (fun p1' p3' p8' p9' p10' w'=>((p1'=p1/\p3'=p3/\p8'=p8/\p9'=p9/\True)/\I p10' w')/\μ p10' w'<μ p101 w1) K w1
structure z0c_sh (p0_0 p0_1 p0_2:Sl)(p0_3 p0_4:Int)(p0_5:Sl)(K:Pw.T0)(w:World):Prop where
 out:let w1:=w.alloc (.cells #[(vS p0_0),(vS p0_1),(vS p0_2),(vI p0_3),(vI p0_4),(vS p0_5)] 99)
  let w2:=w1.alloc (Obj.map #[] 0)
  lS w2 (hA w 0) fun x3=>lS w2 (hA w 1) fun x4=>lS w2 (hA w 2) fun x5=>lI w2 (hA w 3) fun x6=>lI w2 (hA w 4) fun x7=>lS w2 (hA w 5) fun x8=>z0s_sh x3 x4 x5 x6 x7 x8 (fun r10 w9=>z0c_l0 (hA w 0) w1.heap.size r10 (r10.l:Int) 0 K w9) w2
def z0c_L0 (Kv:VW):Cur [tQ,tN,tL,tI,tI] WP:=fun p1 p3 p8 p9 p10=>z0c_l0 p1 p3 p8 p9 p10 (kk [tB] Kv)
noncomputable def z0c_S:=sp [.g 6,tL,tL,tL,tI,tI,tL] [tB] z0c_sh
theorem z0c_ok:okP 155 z0c_S:=okR (x:=fun Kv=>qr 2 (qr 2 (qs (qr 4 (qb (A.loop [1,3,8,9,10] (uR0 [tQ,tN,tL,tI,tI] (z0c_L0 Kv)) (qr 1 (qs (qc ql ql) (qs (qb (qr 4 (qr 6 (qs (A.reg (qn 5 (RA.spl 23 (qn 9 RA.done) (qk 8 (qn 1 RA.done))))) (qc (qr 1 ql) ql))))) (qe 2))))))) (qr 1 ql)))) (Γ:=[(115,z0s_S)]) ⟨.inl z0s_ok,trivial⟩ Tryz.call155 Tryz.func155 (fun Kv=>q07 (q0a (L:=z0c_L0 Kv) (fun N0 p1 p3 p8 p9 p10=>z0c_b0 p1 p3 p8 p9 p10 N0 (kk [tB] Kv)) (fun⟨a0,a1,a2,a3,_,_⟩ _ h=>let ⟨I,μ,h0,hr⟩:=h.out; ⟨fun b0 b1 b2 b3 b4 w=>(b0=a0/\b1=a1/\b2=a2/\b3=a3/\True)/\I b4 w,fun _ _ _ _ b4 w=>μ b4 w,⟨⟨rfl,rfl,rfl,rfl,trivial⟩,h0⟩,fun⟨_,_,_,_,_,_⟩ _ ⟨⟨e0,e1,e2,e3,_⟩,hI⟩=>by cases e0; cases e1; cases e2; cases e3; exact hr _ _ hI⟩)) <| hEnd)
structure z0r_sh (p0_0 p0_1:Int)(p0_2 p0_3:Int)(p1 p2:Addr)(K:Pw.T0)(w:World):Prop where
 out:let w1:=w.alloc (.cells #[(vI p0_0),(vI p0_1),(vI p0_2),(vI p0_3)] 57)
  lI w1 (hA w 0) fun x2=>lI w1 p1 fun x3=>cnd (x2 == x3)
  (lI w1 (hA w 1) fun x4=>lI w1 p2 fun x5=>K (x4 == x5) w1)
  (K false w1)
noncomputable def z0r_S:=sp [.g 4,tI,tI,tI,tI,tQ,tQ] [tB] z0r_sh
theorem z0r_ok:okP 229 z0r_S:=okR (x:=fun _=>qr 2 (qs (A.reg (qn 5 (RA.spl 9 (qn 6 RA.done) (qk 4 (qn 2 RA.done))))) ql)) (Γ:=[]) trivial Tryz.call229 Tryz.func229 (fun _=>hEnd)
structure z1f_sh (p0_0 p0_1 p0_2:Sl)(p0_3 p0_4:Int)(p0_5:Sl)(p1 p2:Int)(K:Pw.T0)(w:World):Prop where
 out:let w1:=w.alloc (.cells #[(vS p0_0),(vS p0_1),(vS p0_2),(vI p0_3),(vI p0_4),(vS p0_5)] 99)
  let w2:=w1.alloc (.cells #[(vI p1)] 3)
  let w3:=w2.alloc (.cells #[(vI p2)] 3)
  lS w3 (hA w 0) fun x4=>lI w3 (hA w1 0) fun x5=>z3n_sh x4 x5 (fun r7 w6=>lS w6 (hA w 5) fun x8=>cnd (decide (r7<(x8.l:Int)))
  (let w9:=w6.drew
  lS w9 (hA w 5) fun x10=>nz x10.p fun a11=>(0<=r7/\r7<(x10.l:Nat))/\lI w9 (a11.add (r7.toNat*1)) fun x12=>cnd (decide (x12>=0))
  (lS w9 (hA w 1) fun x13=>lS w9 (hA w 5) fun x14=>nz x14.p fun a15=>(0<=r7/\r7<(x14.l:Nat))/\lI w9 (a15.add (r7.toNat*1)) fun x16=>nz x13.p fun a17=>(0<=x16/\x16<(x13.l:Nat))/\∃ x18:Int,w9.cell? ((a17.add (x16.toNat*4)).add 1)=some (vI x18)/\lI w9 (hA w2 0) fun x19=>K (x18 == x19) w9)
  (K false w9))
  (lS w6 (hA w 1) fun x20=>z00_sh x20 (Value.func (.func 229) #[] #[(.pointer (some (hA w1 0))),(.pointer (some (hA w2 0)))]) (fun r22 w21=>K r22 w21) w6)) w3
noncomputable def z1f_S:=sp [.g 6,tL,tL,tL,tI,tI,tL,tI,tI] [tB] z1f_sh
theorem z1f_ok:okP 213 z1f_S:=okR (x:=fun _=>qr 4 (qs (qr 6 (qr 5 (qc (qs (A.drp (dp [0,1,2,3,4,5,6] (DA.spl 24 (dp [7,8,9,10,11,12,13,14,15,16,17,18,19,20,21] DA.done) (DA.skp 7 (DA.skp 8 (DA.skp 9 (DA.skp 10 (DA.skp 11 (DA.skp 12 (DA.skp 13 (DA.skp 14 (DA.skp 15 (DA.skp 16 (DA.skp 17 (DA.skp 18 (DA.skp 19 (dp [20,21] DA.done))))))))))))))))) ql) ql))) (qr 6 ql))) (Γ:=[(132,z00_S),(148,z3n_S)]) ⟨.inl z00_ok,.inl z3n_ok,trivial⟩ Tryz.call213 Tryz.func213 (fun _=>hEnd)
structure z0j_sh (p0:Int)(p1 p2:Addr)(K:Pw.T0)(w:World):Prop where
 out:lP w p1 fun x1 x2 x3 x4 x5=>lS w (p1.add 5) fun x6=>lI w p2 fun x7=>z1f_sh x1 x2 x3 x4 x5 x6 p0 x7 (fun r9 w8=>K r9 w8) w
noncomputable def z0j_S:=sp [tI,tQ,tQ] [tB] z0j_sh
theorem z0j_ok:okP 212 z0j_S:=okR (x:=fun _=>qr 1 (qr 6 ql)) (Γ:=[(213,z1f_S)]) ⟨.inl z1f_ok,trivial⟩ Tryz.call212 Tryz.func212 (fun _=>hEnd)
def z13_b0 (p1:Addr)(p3:Int)(p8:Sl)(p9 p10:Int)(N0:Pw.T37)(K:Pw.T1)(w:World):Prop :=
 cnd (decide (p10<p9))
 (nz p8.p fun a3=>(0<=p10/\p10<(p8.l:Nat))/\lI w (a3.add (p10.toNat*3)) fun x4=>∃ x5:Sl,w.cell? ((a3.add (p10.toNat*3)).add 1)=some (vS x5)/\∃ x6:Int,w.cell? ((a3.add (p10.toNat*3)).add 2)=some (vI x6)/\let w7:=w.alloc (.cells #[(vI 0),vN,(vI 0)] 81)
 stN w7 (hA w 0) [(vI x4),(vS x5),(vI x6)] fun w8=>lS w8 (hA w 1) fun x9=>z3q_sh x9 (Value.func (.func 212) #[] #[(.pointer (some p1)),(.pointer (some (hA w 0)))]) (fun r11 w10=>cnd r11
 (lI w10 (hA w 2) fun x12=>inR .i64 (p3+x12)/\inR .i64 (p10+1)/\N0 p1 (p3+x12) p8 p9 (p10+1) w10)
 (inR .i64 (p10+1)/\N0 p1 p3 p8 p9 (p10+1) w10)) w8)
 (K p3 w)
structure z13_l0 (p1:Addr)(p3:Int)(p8:Sl)(p9 p10:Int)(K:Pw.T1)(w:World):Prop where
 out:∃ (I:Int->Int->World->Prop) (μ:Int->Int->World->Nat),I p3 p10 w/\∀ (p31 p101:Int) (w1:World),I p31 p101 w1 ->
  z13_b0 p1 p31 p8 p9 p101 (fun p1' p3' p8' p9' p10' w'=>((p1'=p1/\p8'=p8/\p9'=p9/\True)/\I p3' p10' w')/\μ p3' p10' w'<μ p31 p101 w1) K w1
structure z13_sh (p0_0 p0_1 p0_2:Sl)(p0_3 p0_4:Int)(p0_5:Sl)(K:Pw.T1)(w:World):Prop where
 out:let w1:=w.alloc (.cells #[(vS p0_0),(vS p0_1),(vS p0_2),(vI p0_3),(vI p0_4),(vS p0_5)] 99)
  lS w1 (hA w 2) fun x2=>z13_l0 (hA w 0) 0 x2 (x2.l:Int) 0 K w1
def z13_L0 (Kv:VW):Cur [tQ,tI,tL,tI,tI] WP:=fun p1 p3 p8 p9 p10=>z13_l0 p1 p3 p8 p9 p10 (kk [tI] Kv)
noncomputable def z13_S:=sp [.g 6,tL,tL,tL,tI,tI,tL] [tI] z13_sh
theorem z13_ok:okP 189 z13_S:=okR (x:=fun Kv=>qr 2 (qr 1 (qs (qr 5 (qb (A.loop [1,3,8,9,10] (uR0 [tQ,tI,tL,tI,tI] (z13_L0 Kv)) (qr 1 (qs (qc ql ql) (qs (qb (qr 4 (qr 4 (qc (qe 5) ql)))) (qe 2))))))) (qr 2 ql)))) (Γ:=[(106,z3q_S)]) ⟨.inl z3q_ok,trivial⟩ Tryz.call189 Tryz.func189 (fun Kv=>q07 (q0a (L:=z13_L0 Kv) (fun N0 p1 p3 p8 p9 p10=>z13_b0 p1 p3 p8 p9 p10 N0 (kk [tI] Kv)) (fun⟨a0,_,a2,a3,_,_⟩ _ h=>let ⟨I,μ,h0,hr⟩:=h.out; ⟨fun b0 b1 b2 b3 b4 w=>(b0=a0/\b2=a2/\b3=a3/\True)/\I b1 b4 w,fun _ b1 _ _ b4 w=>μ b1 b4 w,⟨⟨rfl,rfl,rfl,trivial⟩,h0⟩,fun⟨_,_,_,_,_,_⟩ _ ⟨⟨e0,e2,e3,_⟩,hI⟩=>by cases e0; cases e2; cases e3; exact hr _ _ _ hI⟩)) <| hEnd)
def z0q_b0 (p1:Addr)(p3:Int)(p7:Sl)(p8 p9:Int)(N0:Pw.T37)(K:Pw.T1)(w:World):Prop :=
 cnd (decide (p9<p8))
 (nz p7.p fun a10=>(0<=p9/\p9<(p7.l:Nat))/\lI w (a10.add (p9.toNat*4)) fun x11=>∃ x12:Int,w.cell? ((a10.add (p9.toNat*4)).add 1)=some (vI x12)/\∃ x13:Int,w.cell? ((a10.add (p9.toNat*4)).add 2)=some (vI x13)/\∃ x14:Int,w.cell? ((a10.add (p9.toNat*4)).add 3)=some (vI x14)/\let w15:=w.alloc (.cells #[(vI 0),(vI 0),(vI 0),(vI 0)] 57)
 stN w15 (hA w 0) [(vI x11),(vI x12),(vI x13),(vI x14)] fun w16=>lI w16 (hA w 2) fun x17=>inR .i64 (p3+x17)/\inR .i64 (p9+1)/\N0 p1 (p3+x17) p7 p8 (p9+1) w16)
 (lP w p1 fun x18 x19 x20 x21 x22=>lS w (p1.add 5) fun x23=>z13_sh x18 x19 x20 x21 x22 x23 (fun r25 w24=>inR .i64 (p3-r25)/\K (max 0 (p3-r25)) w24) w)
structure z0q_l0 (p1:Addr)(p3:Int)(p7:Sl)(p8 p9:Int)(K:Pw.T1)(w:World):Prop where
 out:∃ (I:Int->Int->World->Prop) (μ:Int->Int->World->Nat),I p3 p9 w/\∀ (p31 p91:Int) (w1:World),I p31 p91 w1 ->
  z0q_b0 p1 p31 p7 p8 p91 (fun p1' p3' p7' p8' p9' w'=>((p1'=p1/\p7'=p7/\p8'=p8/\True)/\I p3' p9' w')/\μ p3' p9' w'<μ p31 p91 w1) K w1
structure z0q_sh (p0_0 p0_1 p0_2:Sl)(p0_3 p0_4:Int)(p0_5:Sl)(K:Pw.T1)(w:World):Prop where
 out:let w1:=w.alloc (.cells #[(vS p0_0),(vS p0_1),(vS p0_2),(vI p0_3),(vI p0_4),(vS p0_5)] 99)
  lS w1 (hA w 0) fun x2=>lS w1 (hA w 1) fun x3=>lS w1 (hA w 2) fun x4=>lI w1 (hA w 3) fun x5=>lI w1 (hA w 4) fun x6=>lS w1 (hA w 5) fun x7=>z0s_sh x2 x3 x4 x5 x6 x7 (fun r9 w8=>z0q_l0 (hA w 0) 0 r9 (r9.l:Int) 0 K w8) w1
def z0q_L0 (Kv:VW):Cur [tQ,tI,tL,tI,tI] WP:=fun p1 p3 p7 p8 p9=>z0q_l0 p1 p3 p7 p8 p9 (kk [tI] Kv)
noncomputable def z0q_S:=sp [.g 6,tL,tL,tL,tI,tI,tL] [tI] z0q_sh
theorem z0q_ok:okP 156 z0q_S:=okR (x:=fun Kv=>qr 2 (qr 1 (qs (qr 4 (qb (A.loop [1,3,7,8,9] (uR0 [tQ,tI,tL,tI,tI] (z0q_L0 Kv)) (qr 1 (qs (qc ql ql) (qs (qb (qr 4 (qe 5))) (qe 2))))))) (qr 6 ql)))) (Γ:=[(115,z0s_S),(189,z13_S)]) ⟨.inl z0s_ok,.inl z13_ok,trivial⟩ Tryz.call156 Tryz.func156 (fun Kv=>q07 (q0a (L:=z0q_L0 Kv) (fun N0 p1 p3 p7 p8 p9=>z0q_b0 p1 p3 p7 p8 p9 N0 (kk [tI] Kv)) (fun⟨a0,_,a2,a3,_,_⟩ _ h=>let ⟨I,μ,h0,hr⟩:=h.out; ⟨fun b0 b1 b2 b3 b4 w=>(b0=a0/\b2=a2/\b3=a3/\True)/\I b1 b4 w,fun _ b1 _ _ b4 w=>μ b1 b4 w,⟨⟨rfl,rfl,rfl,trivial⟩,h0⟩,fun⟨_,_,_,_,_,_⟩ _ ⟨⟨e0,e2,e3,_⟩,hI⟩=>by cases e0; cases e2; cases e3; exact hr _ _ _ hI⟩)) <| hEnd)
structure z1g_sh (p0_0 p0_1 p0_2:Sl)(p0_3 p0_4:Int)(p0_5:Sl)(p1_0 p1_1:Int)(p1_2 p1_3:Int)(K:Pw.T1)(w:World):Prop where
 out:let w1:=w.alloc (.cells #[(vS p0_0),(vS p0_1),(vS p0_2),(vI p0_3),(vI p0_4),(vS p0_5)] 99)
  let w2:=w1.alloc (.cells #[(vI p1_0),(vI p1_1),(vI p1_2),(vI p1_3)] 57)
  lI w2 (hA w1 3) fun x3=>lI w2 (hA w 4) fun x4=>inR .i64 (x4+1)/\inR .i64 (x3*(x4+1))/\lI w2 (hA w1 2) fun x5=>inR .i64 ((x3*(x4+1))-x5)/\K ((x3*(x4+1))-x5) w2
noncomputable def z1g_S:=sp [.g 6,tL,tL,tL,tI,tI,tL,.g 4,tI,tI,tI,tI] [tI] z1g_sh
theorem z1g_ok:okP 191 z1g_S:=okR (x:=fun _=>qr 3 (qr 11 ql)) (Γ:=[]) trivial Tryz.call191 Tryz.func191 (fun _=>hEnd)
structure z0p_k1 (p1:Addr)(p3:Sl)(p7:Addr)(p8:Bool)(p13:Sl)(p14 p15:Int)(N0:Pw.T29)(K:Pw.T4)(w:World):Prop where
 out:cnd p8
  (lI w p7 fun x54=>cnd (decide (x54>0))
  (lI w p7 fun x55=>∃ x56:Int,w.cell? (p7.add 1)=some (vI x56)/\let w57:=w.alloc (.cells #[(vI x55),(vI x56)] 31)
  apS 2 16 [(vI 0),(vI 0)] 31 p3 (Sl.mk (some (hA w 0)) 1 1) w57 fun s58 w59=>inR .i64 (p15+1)/\N0 p1 s58 p13 p14 (p15+1) w59)
  (inR .i64 (p15+1)/\N0 p1 p3 p13 p14 (p15+1) w))
  (inR .i64 (p15+1)/\N0 p1 p3 p13 p14 (p15+1) w)
def z0p_b0 (p1:Addr)(p3 p13:Sl)(p14 p15:Int)(N0:Pw.T29)(K:Pw.T4)(w:World):Prop :=
 cnd (decide (p15<p14))
 (nz p13.p fun a6=>(0<=p15/\p15<(p13.l:Nat))/\lI w (a6.add (p15.toNat*4)) fun x7=>∃ x8:Int,w.cell? ((a6.add (p15.toNat*4)).add 1)=some (vI x8)/\∃ x9:Int,w.cell? ((a6.add (p15.toNat*4)).add 2)=some (vI x9)/\∃ x10:Int,w.cell? ((a6.add (p15.toNat*4)).add 3)=some (vI x10)/\let w11:=w.alloc (.cells #[(vI 0),(vI 0),(vI 0),(vI 0)] 57)
 stN w11 (hA w 0) [(vI x7),(vI x8),(vI x9),(vI x10)] fun w12=>lS w12 p1 fun x13=>lI w12 (hA w 0) fun x14=>z3n_sh x13 x14 (fun r16 w15=>lS w15 (p1.add 5) fun x17=>cnd (decide (r16>=(x17.l:Int)))
 (lI w15 (hA w 2) fun x18=>cnd (decide (x18>0))
 (let w19:=w15.drew
 ∃ S20:World->Prop,S20 w19/\mP S20 p1 fun x21 x22 x23 x24 x25=>mS S20 (p1.add 5) fun x26=>mI S20 (hA w 0) fun x27=>mI S20 (hA w 1) fun x28=>mI S20 (hA w 2) fun x29=>mI S20 (hA w 3) fun x30=>mI S20 (hA w 2) fun x31=>(z1g_sh x21 x22 x23 x24 x25 x26 x27 x28 x29 x30 (fun r33 w32=>S20 w32/\(z47_sh r33 x31 (fun r35_0 r35_1 r36 w34=>S20 w34/\let w37:=w34.alloc (.cells #[(vI 0),(vI 0)] 31)
 S20 w37/\wrOk w37 (hA w34 0)/\
 (let w38:=w37.setCell (hA w34 0) (vI r35_0)
 wrOk w38 (hA w34 1)/\
 (let w39:=w38.setCell (hA w34 1) (vI r35_1)
 z0p_k1 p1 p3 (hA w34 0) r36 p13 p14 p15 N0 K w39))) w32)
/\(let w40:=w32.alloc (.cells #[(vI 0),(vI 0)] 31)
 S20 w40/\z47_sh r33 x31 (fun r42_0 r42_1 r43 w41=>S20 w41/\wrOk w41 (hA w32 0)/\
 (let w44:=w41.setCell (hA w32 0) (vI r42_0)
 wrOk w44 (hA w32 1)/\
 (let w45:=w44.setCell (hA w32 1) (vI r42_1)
 z0p_k1 p1 p3 (hA w32 0) r43 p13 p14 p15 N0 K w45))) w40)) w19)
/\(let w46:=w19.alloc (.cells #[(vI 0),(vI 0)] 31)
 S20 w46/\z1g_sh x21 x22 x23 x24 x25 x26 x27 x28 x29 x30 (fun r48 w47=>S20 w47/\z47_sh r48 x31 (fun r50_0 r50_1 r51 w49=>S20 w49/\wrOk w49 (hA w19 0)/\
 (let w52:=w49.setCell (hA w19 0) (vI r50_0)
 wrOk w52 (hA w19 1)/\
 (let w53:=w52.setCell (hA w19 1) (vI r50_1)
 z0p_k1 p1 p3 (hA w19 0) r51 p13 p14 p15 N0 K w53))) w47) w46))
 (inR .i64 (p15+1)/\N0 p1 p3 p13 p14 (p15+1) w15))
 (inR .i64 (p15+1)/\N0 p1 p3 p13 p14 (p15+1) w15)) w12)
 (K p3 w)
structure z0p_l0 (p1:Addr)(p3 p13:Sl)(p14 p15:Int)(K:Pw.T4)(w:World):Prop where
 out:∃ (I:Sl->Int->World->Prop) (μ:Sl->Int->World->Nat),I p3 p15 w/\∀ (p31:Sl) (p151:Int) (w1:World),I p31 p151 w1 ->
  z0p_b0 p1 p31 p13 p14 p151 (fun p1' p3' p13' p14' p15' w'=>((p1'=p1/\p13'=p13/\p14'=p14/\True)/\I p3' p15' w')/\μ p3' p15' w'<μ p31 p151 w1) K w1
structure z0p_sh (p0_0 p0_1 p0_2:Sl)(p0_3 p0_4:Int)(p0_5:Sl)(K:Pw.T4)(w:World):Prop where
 out:let w1:=w.alloc (.cells #[(vS p0_0),(vS p0_1),(vS p0_2),(vI p0_3),(vI p0_4),(vS p0_5)] 99)
  z4j_sh 0 (fun r3_0 r3_1 w2=>let w4:=w2.alloc (.cells #[(vI r3_0),(vI r3_1)] 31)
  lS w4 (hA w 1) fun x5=>z0p_l0 (hA w 0) (Sl.mk (some (hA w2 0)) 1 1) x5 (x5.l:Int) 0 K w4) w1
def z0p_L0 (Kv:VW):Cur [tQ,tL,tL,tI,tI] WP:=fun p1 p3 p13 p14 p15=>z0p_l0 p1 p3 p13 p14 p15 (kk [tL] Kv)
def z0p_L1 (Kv:VW):Cur [tQ,tL,tL,tI,tI] WP->Cur [tQ,tL,tQ,tB,tL,tI,tI] WP:=fun N0 p1 p3 p7 p8 p13 p14 p15=>z0p_k1 p1 p3 p7 p8 p13 p14 p15 N0 (kk [tL] Kv)
noncomputable def z0p_S:=sp [.g 6,tL,tL,tL,tI,tI,tL] [tL] z0p_sh
theorem z0p_ok:okP 158 z0p_S:=okR (x:=fun Kv=>qr 2 (qr 3 (qs (qr 5 (qb (A.loop [1,3,13,14,15] (uR0 [tQ,tL,tL,tI,tI] (z0p_L0 Kv)) (qr 1 (qs (qc ql ql) (qs (qb (qr 4 (qr 7 (qs (A.reg (qn 6 (RA.spl 30 (qn 4 RA.done) (qk 3 (qn 1 RA.done))))) (qc (qs (A.drw (dp [0,1,3,4] (DA.two 2 (DA.two 5 (dp [6,7,8] (DA.eff 9 (DA.eff 10 (DA.pur 11 DA.done)))) 9 (DA.eff 5 (dp [6,7,8] (DA.eff 10 (DA.pur 11 DA.done))))) 9 (DA.eff 2 (DA.eff 5 (dp [6,7,8] (DA.eff 10 (DA.pur 11 DA.done)))))))) (A.cut [1,3,7,8,13,14,15] (uR1 [tQ,tL,tL,tI,tI] [tQ,tL,tQ,tB,tL,tI,tI] (z0p_L1 Kv)) (qs (A.reg (qn 2 (RA.spl 45 (qn 4 RA.done) (qk 3 (qn 1 RA.done))))) (qc (qe 5) ql)))) ql))))) (qe 2))))))) (qr 2 ql)))) (Γ:=[(75,z4j_S),(148,z3n_S),(190,z47_S),(191,z1g_S)]) ⟨.inl z4j_ok,.inl z3n_ok,.inl z47_ok,.inl z1g_ok,trivial⟩ Tryz.call158 Tryz.func158 (fun Kv=>q07 (q0a (L:=z0p_L0 Kv) (fun N0 p1 p3 p13 p14 p15=>z0p_b0 p1 p3 p13 p14 p15 N0 (kk [tL] Kv)) (fun⟨a0,_,a2,a3,_,_⟩ _ h=>let ⟨I,μ,h0,hr⟩:=h.out; ⟨fun b0 b1 b2 b3 b4 w=>(b0=a0/\b2=a2/\b3=a3/\True)/\I b1 b4 w,fun _ b1 _ _ b4 w=>μ b1 b4 w,⟨⟨rfl,rfl,rfl,trivial⟩,h0⟩,fun⟨_,_,_,_,_,_⟩ _ ⟨⟨e0,e2,e3,_⟩,hI⟩=>by cases e0; cases e2; cases e3; exact hr _ _ _ hI⟩)) <| q07 (hK1 (F:=z0p_L1 Kv)) <| hEnd)
structure z0b_k0 (p7 p10:Addr)(K:Pw.T6)(w:World):Prop where
 out:lI w p10 fun x29=>lI w (p10.add 1) fun x30=>wrOk w p7/\
  (let w31:=w.setCell p7 (vI x29)
  wrOk w31 (p7.add 1)/\
  (let w32:=w31.setCell (p7.add 1) (vI x30)
  lI w32 p7 fun x33=>lI w32 (p7.add 1) fun x34=>K x33 x34 w32))
structure z0b_sh (p0_0 p0_1:Int)(p1_0 p1_1:Int)(p2_0 p2_1:Int)(p3:Addr)(K:Pw.T6)(w:World):Prop where
 out:let w1:=w.alloc (.cells #[(vI p0_0),(vI p0_1)] 31)
  let w2:=w1.alloc (.cells #[(vI p1_0),(vI p1_1)] 31)
  let w3:=w2.alloc (.cells #[(vI p2_0),(vI p2_1)] 31)
  let w4:=w3.alloc (.cells #[(vI 0),(vI 0)] 31)
  lI w4 (hA w1 0) fun x5=>lI w4 (hA w1 1) fun x6=>lI w4 (hA w2 0) fun x7=>lI w4 (hA w2 1) fun x8=>z4e_sh x5 x6 x7 x8 (fun r10_0 r10_1 r11 w9=>let w12:=w9.alloc (.cells #[(vI 0),(vI 0)] 31)
  wrOk w12 (hA w9 0)/\
  (let w13:=w12.setCell (hA w9 0) (vI r10_0)
  wrOk w13 (hA w9 1)/\
  (let w14:=w13.setCell (hA w9 1) (vI r10_1)
  lI w14 (hA w 0) fun x15=>lI w14 (hA w 1) fun x16=>lI w14 (hA w9 0) fun x17=>lI w14 (hA w9 1) fun x18=>z4c_sh x15 x16 x17 x18 (fun r20_0 r20_1 r21 w19=>let w22:=w19.alloc (.cells #[(vI 0),(vI 0)] 31)
  wrOk w22 (hA w19 0)/\
  (let w23:=w22.setCell (hA w19 0) (vI r20_0)
  wrOk w23 (hA w19 1)/\
  (let w24:=w23.setCell (hA w19 1) (vI r20_1)
  ∃ x25:Bool,w24.cell? p3=some (.bool x25)/\cnd x25
  (cnd r11
  (wrOk w24 p3/\
  (let w26:=w24.setCell p3 (.bool r21)
  z0b_k0 (hA w3 0) (hA w19 0) K w26))
  (wrOk w24 p3/\
  (let w27:=w24.setCell p3 (.bool false)
  z0b_k0 (hA w3 0) (hA w19 0) K w27)))
  (wrOk w24 p3/\
  (let w28:=w24.setCell p3 (.bool false)
  z0b_k0 (hA w3 0) (hA w19 0) K w28))))) w14))) w4
def z0b_L0 (Kv:VW):Cur [tQ,tQ] WP:=fun p7 p10=>z0b_k0 p7 p10 (kk [.g 2,tI,tI] Kv)
noncomputable def z0b_S:=sp [.g 2,tI,tI,.g 2,tI,tI,.g 2,tI,tI,tQ] [.g 2,tI,tI] z0b_sh
theorem z0b_ok:okP 192 z0b_S:=okR (x:=fun Kv=>qr 4 (qr 9 (qr 9 (qs (A.reg (qn 2 (RA.spl 25 (qn 3 (RA.spl 28 (qn 3 RA.done) (qk 1 (qn 2 RA.done)))) (qk 1 (qn 2 (qk 1 (qn 2 RA.done))))))) (A.cut [7,10] (uR0 [tQ,tQ] (z0b_L0 Kv)) (qr 2 ql)))))) (Γ:=[(78,z4c_S),(124,z4e_S)]) ⟨.inl z4c_ok,.inl z4e_ok,trivial⟩ Tryz.call192 Tryz.func192 (fun Kv=>q07 (hK0 (F:=z0b_L0 Kv)) <| hEnd)
structure z0o_k5 (p2 p3:Addr)(p6 add_7_c0:Addr)(p8 p9:Addr)(p10 p11:Int)(p12 p16:Addr)(p30:Sl)(p31 p32:Int)(p40:Sl)(p41 p42:Int)(N2:Pw.T8)(N1:Pw.T9)(K:Pw.T2)(w:World):Prop where
 out:lI w p16 fun x130=>lI w (p16.add 1) fun x131=>wrOk w p12/\
  (let w132:=w.setCell p12 (vI x130)
  wrOk w132 (p12.add 1)/\
  (let w133:=w132.setCell (p12.add 1) (vI x131)
  inR .i64 (p42+1)/\N2 p2 p3 p6 add_7_c0 p8 p9 p10 p11 p12 p30 p31 p32 p40 p41 (p42+1) w133))
structure z0o_k4 (p2 p3:Addr)(p6 add_7_c0:Addr)(p8 p9:Addr)(p10 p11:Int)(p12:Addr)(p15:Bool)(p16:Addr)(p30:Sl)(p31 p32:Int)(p40:Sl)(p41 p42:Int)(N2:Pw.T8)(N1:Pw.T9)(K:Pw.T2)(w:World):Prop where
 out:cnd p15
  (z0o_k5 p2 p3 p6 add_7_c0 p8 p9 p10 p11 p12 p16 p30 p31 p32 p40 p41 p42 N2 N1 K w)
  (lI w p16 fun x124=>lI w (p16.add 1) fun x125=>lI w p12 fun x126=>lI w (p12.add 1) fun x127=>z4d_sh x124 x125 x126 x127 (fun r129 w128=>cnd (decide (r129>0))
  (z0o_k5 p2 p3 p6 add_7_c0 p8 p9 p10 p11 p12 p16 p30 p31 p32 p40 p41 p42 N2 N1 K w128)
  (inR .i64 (p42+1)/\N2 p2 p3 p6 add_7_c0 p8 p9 p10 p11 p12 p30 p31 p32 p40 p41 (p42+1) w128)) w)
def z0o_k3d (p2 p3:Addr)(p6 add_7_c0:Addr)(p8 p9:Addr)(p10 p11:Int)(p12 p14:Addr)(p15:Bool)(p30:Sl)(p31 p32:Int)(p40:Sl)(p41 p42:Int)(N2:Pw.T8)(N1:Pw.T9)(K:Pw.T2)(w:World):Prop :=
 let w66:=w.drew
 ∃ S67:World->Prop,S67 w66/\mP S67 p2 fun x68 x69 x70 x71 x72=>mS S67 (p2.add 5) fun x73=>mI S67 p14 fun x74=>mI S67 (p14.add 1) fun x75=>mI S67 (p14.add 2) fun x76=>mI S67 (p14.add 3) fun x77=>mI S67 p3 fun x78=>mI S67 (p3.add 1) fun x79=>mI S67 (p14.add 2) fun x80=>inR .i64 (-x80)/\(z1g_sh x68 x69 x70 x71 x72 x73 x74 x75 x76 x77 (fun r82 w81=>S67 w81/\(z4j_sh r82 (fun r84_0 r84_1 w83=>S67 w83/\(z4j_sh (-x80) (fun r86_0 r86_1 w85=>S67 w85/\(z0b_sh r84_0 r84_1 x78 x79 r86_0 r86_1 add_7_c0 (fun r88_0 r88_1 w87=>S67 w87/\let w89:=w87.alloc (.cells #[(vI 0),(vI 0)] 31)
 S67 w89/\wrOk w89 (hA w87 0)/\
 (let w90:=w89.setCell (hA w87 0) (vI r88_0)
 wrOk w90 (hA w87 1)/\
 (let w91:=w90.setCell (hA w87 1) (vI r88_1)
 z0o_k4 p2 p3 p6 add_7_c0 p8 p9 p10 p11 p12 p15 (hA w87 0) p30 p31 p32 p40 p41 p42 N2 N1 K w91))) w85)
/\(let w92:=w85.alloc (.cells #[(vI 0),(vI 0)] 31)
 S67 w92/\z0b_sh r84_0 r84_1 x78 x79 r86_0 r86_1 add_7_c0 (fun r94_0 r94_1 w93=>S67 w93/\wrOk w93 (hA w85 0)/\
 (let w95:=w93.setCell (hA w85 0) (vI r94_0)
 wrOk w95 (hA w85 1)/\
 (let w96:=w95.setCell (hA w85 1) (vI r94_1)
 z0o_k4 p2 p3 p6 add_7_c0 p8 p9 p10 p11 p12 p15 (hA w85 0) p30 p31 p32 p40 p41 p42 N2 N1 K w96))) w92)) w83)
/\(let w97:=w83.alloc (.cells #[(vI 0),(vI 0)] 31)
 S67 w97/\z4j_sh (-x80) (fun r99_0 r99_1 w98=>S67 w98/\z0b_sh r84_0 r84_1 x78 x79 r99_0 r99_1 add_7_c0 (fun r101_0 r101_1 w100=>S67 w100/\wrOk w100 (hA w83 0)/\
 (let w102:=w100.setCell (hA w83 0) (vI r101_0)
 wrOk w102 (hA w83 1)/\
 (let w103:=w102.setCell (hA w83 1) (vI r101_1)
 z0o_k4 p2 p3 p6 add_7_c0 p8 p9 p10 p11 p12 p15 (hA w83 0) p30 p31 p32 p40 p41 p42 N2 N1 K w103))) w98) w97)) w81)
/\(let w104:=w81.alloc (.cells #[(vI 0),(vI 0)] 31)
 S67 w104/\z4j_sh r82 (fun r106_0 r106_1 w105=>S67 w105/\z4j_sh (-x80) (fun r108_0 r108_1 w107=>S67 w107/\z0b_sh r106_0 r106_1 x78 x79 r108_0 r108_1 add_7_c0 (fun r110_0 r110_1 w109=>S67 w109/\wrOk w109 (hA w81 0)/\
 (let w111:=w109.setCell (hA w81 0) (vI r110_0)
 wrOk w111 (hA w81 1)/\
 (let w112:=w111.setCell (hA w81 1) (vI r110_1)
 z0o_k4 p2 p3 p6 add_7_c0 p8 p9 p10 p11 p12 p15 (hA w81 0) p30 p31 p32 p40 p41 p42 N2 N1 K w112))) w107) w105) w104)) w66)
/\(let w113:=w66.alloc (.cells #[(vI 0),(vI 0)] 31)
 S67 w113/\z1g_sh x68 x69 x70 x71 x72 x73 x74 x75 x76 x77 (fun r115 w114=>S67 w114/\z4j_sh r115 (fun r117_0 r117_1 w116=>S67 w116/\z4j_sh (-x80) (fun r119_0 r119_1 w118=>S67 w118/\z0b_sh r117_0 r117_1 x78 x79 r119_0 r119_1 add_7_c0 (fun r121_0 r121_1 w120=>S67 w120/\wrOk w120 (hA w66 0)/\
 (let w122:=w120.setCell (hA w66 0) (vI r121_0)
 wrOk w122 (hA w66 1)/\
 (let w123:=w122.setCell (hA w66 1) (vI r121_1)
 z0o_k4 p2 p3 p6 add_7_c0 p8 p9 p10 p11 p12 p15 (hA w66 0) p30 p31 p32 p40 p41 p42 N2 N1 K w123))) w118) w116) w114) w113)
structure z0o_k3 (p2 p3:Addr)(p6 add_7_c0:Addr)(p8 p9:Addr)(p10 p11:Int)(p12 p14:Addr)(p15:Bool)(p30:Sl)(p31 p32:Int)(p40:Sl)(p41 p42:Int)(N2:Pw.T8)(N1:Pw.T9)(K:Pw.T2)(w:World):Prop where
 out:z0o_k3d p2 p3 p6 add_7_c0 p8 p9 p10 p11 p12 p14 p15 p30 p31 p32 p40 p41 p42 N2 N1 K w
def z0o_b2 (p2 p3:Addr)(p6 add_7_c0:Addr)(p8 p9:Addr)(p10 p11:Int)(p12:Addr)(p30:Sl)(p31 p32:Int)(p40:Sl)(p41 p42:Int)(N2:Pw.T8)(N1:Pw.T9)(K:Pw.T2)(w:World):Prop :=
 cnd (decide (p42<p41))
 (nz p40.p fun a54=>(0<=p42/\p42<(p40.l:Nat))/\lI w (a54.add (p42.toNat*4)) fun x55=>∃ x56:Int,w.cell? ((a54.add (p42.toNat*4)).add 1)=some (vI x56)/\∃ x57:Int,w.cell? ((a54.add (p42.toNat*4)).add 2)=some (vI x57)/\∃ x58:Int,w.cell? ((a54.add (p42.toNat*4)).add 3)=some (vI x58)/\let w59:=w.alloc (.cells #[(vI 0),(vI 0),(vI 0),(vI 0)] 57)
 stN w59 (hA w 0) [(vI x55),(vI x56),(vI x57),(vI x58)] fun w60=>lS w60 (p2.add 5) fun x61=>lI w60 (hA w 0) fun x62=>cnd (x62 != p11)
 (inR .i64 (p42+1)/\N2 p2 p3 p6 add_7_c0 p8 p9 p10 p11 p12 p30 p31 p32 p40 p41 (p42+1) w60)
 (cnd (decide (p10<(x61.l:Int)))
 (lS w60 (p2.add 5) fun x63=>nz x63.p fun a64=>(0<=p10/\p10<(x63.l:Nat))/\lI w60 (a64.add (p10.toNat*1)) fun x65=>cnd (x65 != p42)
 (inR .i64 (p42+1)/\N2 p2 p3 p6 add_7_c0 p8 p9 p10 p11 p12 p30 p31 p32 p40 p41 (p42+1) w60)
 (z0o_k3 p2 p3 p6 add_7_c0 p8 p9 p10 p11 p12 (hA w 0) (decide (p10<(x61.l:Int))) p30 p31 p32 p40 p41 p42 N2 N1 K w60))
 (z0o_k3 p2 p3 p6 add_7_c0 p8 p9 p10 p11 p12 (hA w 0) (decide (p10<(x61.l:Int))) p30 p31 p32 p40 p41 p42 N2 N1 K w60)))
 (lI w p9 fun x134=>lI w (p9.add 1) fun x135=>lI w p8 fun x136=>lI w (p8.add 1) fun x137=>lI w p12 fun x138=>lI w (p12.add 1) fun x139=>z0b_sh x134 x135 x136 x137 x138 x139 add_7_c0 (fun r141_0 r141_1 w140=>wrOk w140 p9/\
 (let w142:=w140.setCell p9 (vI r141_0)
 wrOk w142 (p9.add 1)/\
 (let w143:=w142.setCell (p9.add 1) (vI r141_1)
 inR .i64 (p32+1)/\N1 p2 p3 p6 add_7_c0 p8 p9 p30 p31 (p32+1) w143))) w)
structure z0o_l2 (p2 p3:Addr)(p6 add_7_c0:Addr)(p8 p9:Addr)(p10 p11:Int)(p12:Addr)(p30:Sl)(p31 p32:Int)(p40:Sl)(p41 p42:Int)(N1:Pw.T9)(K:Pw.T2)(w:World):Prop where
 out:∃ (I:Int->World->Prop) (μ:Int->World->Nat),I p42 w/\∀ (p421:Int) (w1:World),I p421 w1 ->
  z0o_b2 p2 p3 p6 add_7_c0 p8 p9 p10 p11 p12 p30 p31 p32 p40 p41 p421 (fun p2' p3' p6' add_7_c0' p8' p9' p10' p11' p12' p30' p31' p32' p40' p41' p42' w'=>((p2'=p2/\p3'=p3/\p6'=p6/\add_7_c0'=add_7_c0/\p8'=p8/\p9'=p9/\p10'=p10/\p11'=p11/\p12'=p12/\p30'=p30/\p31'=p31/\p32'=p32/\p40'=p40/\p41'=p41/\True)/\I p42' w')/\μ p42' w'<μ p421 w1) N1 K w1
def z0o_b1 (p2 p3:Addr)(p6 add_7_c0:Addr)(p8 p9:Addr)(p30:Sl)(p31 p32:Int)(N1:Pw.T9)(K:Pw.T2)(w:World):Prop :=
 cnd (decide (p32<p31))
 (nz p30.p fun a46=>(0<=p32/\p32<(p30.l:Nat))/\lI w (a46.add (p32.toNat*1)) fun x47=>z4j_sh 0 (fun r49_0 r49_1 w48=>let w50:=w48.alloc (.cells #[(vI 0),(vI 0)] 31)
 wrOk w50 (hA w48 0)/\
 (let w51:=w50.setCell (hA w48 0) (vI r49_0)
 wrOk w51 (hA w48 1)/\
 (let w52:=w51.setCell (hA w48 1) (vI r49_1)
 lS w52 (p2.add 1) fun x53=>z0o_l2 p2 p3 p6 add_7_c0 p8 p9 p32 x47 (hA w48 0) p30 p31 p32 x53 (x53.l:Int) 0 N1 K w52))) w)
 (lI w p8 fun x144=>lI w (p8.add 1) fun x145=>lI w p8 fun x146=>lI w (p8.add 1) fun x147=>lI w p3 fun x148=>lI w (p3.add 1) fun x149=>z0b_sh x144 x145 x146 x147 x148 x149 add_7_c0 (fun r151_0 r151_1 w150=>let w152:=w150.alloc (.cells #[(vI 0),(vI 0)] 31)
 wrOk w152 (hA w150 0)/\
 (let w153:=w152.setCell (hA w150 0) (vI r151_0)
 wrOk w153 (hA w150 1)/\
 (let w154:=w153.setCell (hA w150 1) (vI r151_1)
 let w155:=w154.drew
 ∃ S156:World->Prop,S156 w155/\mI S156 p9 fun x157=>mI S156 (p9.add 1) fun x158=>mI S156 (hA w150 0) fun x159=>mI S156 (hA w150 1) fun x160=>mP S156 p2 fun x161 x162 x163 x164 x165=>mS S156 (p2.add 5) fun x166=>z13_sh x161 x162 x163 x164 x165 x166 (fun r168 w167=>S156 w167/\z4j_sh r168 (fun r170_0 r170_1 w169=>S156 w169/\z0b_sh x157 x158 x159 x160 r170_0 r170_1 add_7_c0 (fun r172_0 r172_1 w171=>S156 w171/\wrOk w171 p9/\
 (let w173:=w171.setCell p9 (vI r172_0)
 wrOk w173 (p9.add 1)/\
 (let w174:=w173.setCell (p9.add 1) (vI r172_1)
 let w175:=w174.drew
 ∃ S176:World->Prop,S176 w175/\mI S176 p9 fun x177=>mI S176 (p9.add 1) fun x178=>∃ x179:Bool,(∀ w':World,S176 w'->w'.cell? p6=some (.bool x179))/\z3y_sh x177 x178 (fun r181 w180=>S176 w180/\K r181 x179 w180) w175))) w169) w167) w155))) w)
structure z0o_l1 (p2 p3:Addr)(p6 add_7_c0:Addr)(p8 p9:Addr)(p30:Sl)(p31 p32:Int)(K:Pw.T2)(w:World):Prop where
 out:∃ (I:Int->World->Prop) (μ:Int->World->Nat),I p32 w/\∀ (p321:Int) (w1:World),I p321 w1 ->
  z0o_b1 p2 p3 p6 add_7_c0 p8 p9 p30 p31 p321 (fun p2' p3' p6' add_7_c0' p8' p9' p30' p31' p32' w'=>((p2'=p2/\p3'=p3/\p6'=p6/\add_7_c0'=add_7_c0/\p8'=p8/\p9'=p9/\p30'=p30/\p31'=p31/\True)/\I p32' w')/\μ p32' w'<μ p321 w1) K w1
structure z0o_k0 (p2 p3:Addr)(p6 add_7_c0:Addr)(p8 p9:Addr)(K:Pw.T2)(w:World):Prop where
 out:lS w p2 fun x45=>z0o_l1 p2 p3 p6 add_7_c0 p8 p9 x45 (x45.l:Int) 0 K w
def z0o_sd (p0_0 p0_1 p0_2:Sl)(p0_3 p0_4:Int)(p0_5:Sl)(p1_0 p1_1:Int)(K:Pw.T2)(w:World):Prop :=
 let w1:=w.alloc (.cells #[(vS p0_0),(vS p0_1),(vS p0_2),(vI p0_3),(vI p0_4),(vS p0_5)] 99)
 let w2:=w1.alloc (.cells #[(vI p1_0),(vI p1_1)] 31)
 let w3:=w2.alloc (.cells #[(.bool false)] 4)
 wrOk w3 (hA w2 0)/\
 (let w4:=w3.setCell (hA w2 0) (.bool true)
 z4j_sh 1 (fun r6_0 r6_1 w5=>let w7:=w5.alloc (.cells #[(vI 0),(vI 0)] 31)
 wrOk w7 (hA w5 0)/\
 (let w8:=w7.setCell (hA w5 0) (vI r6_0)
 wrOk w8 (hA w5 1)/\
 (let w9:=w8.setCell (hA w5 1) (vI r6_1)
 let w10:=w9.drew
 ∃ S11:World->Prop,S11 w10/\mI S11 (hA w1 0) fun x12=>mI S11 (hA w1 1) fun x13=>mI S11 (hA w 4) fun x14=>(z4j_sh 0 (fun r16_0 r16_1 w15=>S11 w15/\(z4j_sh x14 (fun r18_0 r18_1 w17=>S11 w17/\(z0b_sh r16_0 r16_1 x12 x13 r18_0 r18_1 (hA w2 0) (fun r20_0 r20_1 w19=>S11 w19/\let w21:=w19.alloc (.cells #[(vI 0),(vI 0)] 31)
 S11 w21/\wrOk w21 (hA w19 0)/\
 (let w22:=w21.setCell (hA w19 0) (vI r20_0)
 wrOk w22 (hA w19 1)/\
 (let w23:=w22.setCell (hA w19 1) (vI r20_1)
 z0o_k0 (hA w 0) (hA w1 0) (hA w2 0) (hA w2 0) (hA w5 0) (hA w19 0) K w23))) w17)
/\(let w24:=w17.alloc (.cells #[(vI 0),(vI 0)] 31)
 S11 w24/\z0b_sh r16_0 r16_1 x12 x13 r18_0 r18_1 (hA w2 0) (fun r26_0 r26_1 w25=>S11 w25/\wrOk w25 (hA w17 0)/\
 (let w27:=w25.setCell (hA w17 0) (vI r26_0)
 wrOk w27 (hA w17 1)/\
 (let w28:=w27.setCell (hA w17 1) (vI r26_1)
 z0o_k0 (hA w 0) (hA w1 0) (hA w2 0) (hA w2 0) (hA w5 0) (hA w17 0) K w28))) w24)) w15)
/\(let w29:=w15.alloc (.cells #[(vI 0),(vI 0)] 31)
 S11 w29/\z4j_sh x14 (fun r31_0 r31_1 w30=>S11 w30/\z0b_sh r16_0 r16_1 x12 x13 r31_0 r31_1 (hA w2 0) (fun r33_0 r33_1 w32=>S11 w32/\wrOk w32 (hA w15 0)/\
 (let w34:=w32.setCell (hA w15 0) (vI r33_0)
 wrOk w34 (hA w15 1)/\
 (let w35:=w34.setCell (hA w15 1) (vI r33_1)
 z0o_k0 (hA w 0) (hA w1 0) (hA w2 0) (hA w2 0) (hA w5 0) (hA w15 0) K w35))) w30) w29)) w10)
/\(let w36:=w10.alloc (.cells #[(vI 0),(vI 0)] 31)
 S11 w36/\z4j_sh 0 (fun r38_0 r38_1 w37=>S11 w37/\z4j_sh x14 (fun r40_0 r40_1 w39=>S11 w39/\z0b_sh r38_0 r38_1 x12 x13 r40_0 r40_1 (hA w2 0) (fun r42_0 r42_1 w41=>S11 w41/\wrOk w41 (hA w10 0)/\
 (let w43:=w41.setCell (hA w10 0) (vI r42_0)
 wrOk w43 (hA w10 1)/\
 (let w44:=w43.setCell (hA w10 1) (vI r42_1)
 z0o_k0 (hA w 0) (hA w1 0) (hA w2 0) (hA w2 0) (hA w5 0) (hA w10 0) K w44))) w39) w37) w36)))) w4)
structure z0o_sh (p0_0 p0_1 p0_2:Sl)(p0_3 p0_4:Int)(p0_5:Sl)(p1_0 p1_1:Int)(K:Pw.T2)(w:World):Prop where
 out:z0o_sd p0_0 p0_1 p0_2 p0_3 p0_4 p0_5 p1_0 p1_1 K w
def z0o_L0 (Kv:VW):Cur [tQ,tQ,tQ,.c 192 0 1,tQ,tQ,tQ] WP:=fun p2 p3 p6 add_7_c0 p8 p9=>z0o_k0 p2 p3 p6 add_7_c0 p8 p9 (kk [.u 2,tI,tB] Kv)
def z0o_L1 (Kv:VW):Cur [tQ,tQ,tQ,.c 192 0 1,tQ,tQ,tQ,tL,tI,tI] WP:=fun p2 p3 p6 add_7_c0 p8 p9 p30 p31 p32=>z0o_l1 p2 p3 p6 add_7_c0 p8 p9 p30 p31 p32 (kk [.u 2,tI,tB] Kv)
def z0o_L2 (Kv:VW):Cur [tQ,tQ,tQ,.c 192 0 1,tQ,tQ,tQ,tL,tI,tI] WP->Cur [tQ,tQ,tQ,.c 192 0 1,tQ,tQ,tQ,tI,tI,tQ,tL,tI,tI,tL,tI,tI] WP:=fun N1 p2 p3 p6 add_7_c0 p8 p9 p10 p11 p12 p30 p31 p32 p40 p41 p42=>z0o_l2 p2 p3 p6 add_7_c0 p8 p9 p10 p11 p12 p30 p31 p32 p40 p41 p42 N1 (kk [.u 2,tI,tB] Kv)
def z0o_L3 (Kv:VW):Cur [tQ,tQ,tQ,.c 192 0 1,tQ,tQ,tQ,tI,tI,tQ,tL,tI,tI,tL,tI,tI] WP->Cur [tQ,tQ,tQ,.c 192 0 1,tQ,tQ,tQ,tL,tI,tI] WP->Cur (tQ :: tQ :: tQ :: .c 192 0 1 :: tQ :: tQ :: tQ :: tI :: tI :: tQ :: tQ :: tB :: tL :: tI :: tI :: tL :: tI :: tI :: []) WP:=fun N2 N1 p2 p3 p6 add_7_c0 p8 p9 p10 p11 p12 p14 p15 p30 p31 p32 p40 p41 p42=>z0o_k3 p2 p3 p6 add_7_c0 p8 p9 p10 p11 p12 p14 p15 p30 p31 p32 p40 p41 p42 N2 N1 (kk [.u 2,tI,tB] Kv)
def z0o_L4 (Kv:VW):Cur [tQ,tQ,tQ,.c 192 0 1,tQ,tQ,tQ,tI,tI,tQ,tL,tI,tI,tL,tI,tI] WP->Cur [tQ,tQ,tQ,.c 192 0 1,tQ,tQ,tQ,tL,tI,tI] WP->Cur (tQ :: tQ :: tQ :: .c 192 0 1 :: tQ :: tQ :: tQ :: tI :: tI :: tQ :: tB :: tQ :: tL :: tI :: tI :: tL :: tI :: tI :: []) WP:=fun N2 N1 p2 p3 p6 add_7_c0 p8 p9 p10 p11 p12 p15 p16 p30 p31 p32 p40 p41 p42=>z0o_k4 p2 p3 p6 add_7_c0 p8 p9 p10 p11 p12 p15 p16 p30 p31 p32 p40 p41 p42 N2 N1 (kk [.u 2,tI,tB] Kv)
def z0o_L5 (Kv:VW):Cur [tQ,tQ,tQ,.c 192 0 1,tQ,tQ,tQ,tI,tI,tQ,tL,tI,tI,tL,tI,tI] WP->Cur [tQ,tQ,tQ,.c 192 0 1,tQ,tQ,tQ,tL,tI,tI] WP->Cur (tQ :: tQ :: tQ :: .c 192 0 1 :: tQ :: tQ :: tQ :: tI :: tI :: tQ :: tQ :: tL :: tI :: tI :: tL :: tI :: tI :: []) WP:=fun N2 N1 p2 p3 p6 add_7_c0 p8 p9 p10 p11 p12 p16 p30 p31 p32 p40 p41 p42=>z0o_k5 p2 p3 p6 add_7_c0 p8 p9 p10 p11 p12 p16 p30 p31 p32 p40 p41 p42 N2 N1 (kk [.u 2,tI,tB] Kv)
noncomputable def z0o_S:=sp [.g 6,tL,tL,tL,tI,tI,tL,.g 2,tI,tI] [.u 2,tI,tB] z0o_sh
theorem z0o_ok:q3e Tryz.prog 159 z0o_S:=okS (x:=fun Kv=>qr 4 (qr 2 (qr 2 (qr 3 (qs (A.drw (dp [0,2,3,4,5] (DA.two 1 (DA.two 6 (DA.two 7 (DA.eff 8 (DA.eff 9 DA.done)) 8 (DA.eff 7 (DA.eff 9 DA.done))) 8 (DA.eff 6 (DA.eff 7 (DA.eff 9 DA.done)))) 8 (DA.eff 1 (DA.eff 6 (DA.eff 7 (DA.eff 9 DA.done))))))) (A.cut [2,3,6,7,8,9] (uR0 [tQ,tQ,tQ,.c 192 0 1,tQ,tQ,tQ] (z0o_L0 Kv)) (qs (qr 5 (qb (A.loop [2,3,6,7,8,9,30,31,32] (uR0 [tQ,tQ,tQ,.c 192 0 1,tQ,tQ,tQ,tL,tI,tI] (z0o_L1 Kv)) (qr 1 (qs (qc ql ql) (qs (qb (qr 5 (qr 3 (qs (qr 5 (qb (A.loop [2,3,6,7,8,9,10,11,12,30,31,32,40,41,42] (uR1 [tQ,tQ,tQ,.c 192 0 1,tQ,tQ,tQ,tL,tI,tI] [tQ,tQ,tQ,.c 192 0 1,tQ,tQ,tQ,tI,tI,tQ,tL,tI,tI,tL,tI,tI] (z0o_L2 Kv)) (qr 1 (qs (qc ql ql) (qs (qb (qr 6 (qr 6 (qs (qs (A.reg (qn 5 (RA.spl 56 (qk 10 (qn 1 RA.done)) (qn 2 (RA.spl 58 (qn 9 RA.done) (qk 7 (qn 2 RA.done))))))) (qc ql ql)) (A.cut [2,3,6,7,8,9,10,11,12,14,15,30,31,32,40,41,42] (uR2 [tQ,tQ,tQ,.c 192 0 1,tQ,tQ,tQ,tI,tI,tQ,tL,tI,tI,tL,tI,tI] [tQ,tQ,tQ,.c 192 0 1,tQ,tQ,tQ,tL,tI,tI] (tQ :: tQ :: tQ :: .c 192 0 1 :: tQ :: tQ :: tQ :: tI :: tI :: tQ :: tQ :: tB :: tL :: tI :: tI :: tL :: tI :: tI :: []) (z0o_L3 Kv)) (qs (A.drw (dp [0,1,2,5,6,7,8] (DA.two 3 (DA.two 4 (DA.two 9 (DA.two 10 (DA.eff 11 (DA.eff 12 DA.done)) 11 (DA.eff 10 (DA.eff 12 DA.done))) 11 (DA.eff 9 (DA.eff 10 (DA.eff 12 DA.done)))) 11 (DA.eff 4 (DA.eff 9 (DA.eff 10 (DA.eff 12 DA.done))))) 11 (DA.eff 3 (DA.eff 4 (DA.eff 9 (DA.eff 10 (DA.eff 12 DA.done)))))))) (A.cut [2,3,6,7,8,9,10,11,12,15,16,30,31,32,40,41,42] (uR2 [tQ,tQ,tQ,.c 192 0 1,tQ,tQ,tQ,tI,tI,tQ,tL,tI,tI,tL,tI,tI] [tQ,tQ,tQ,.c 192 0 1,tQ,tQ,tQ,tL,tI,tI] (tQ :: tQ :: tQ :: .c 192 0 1 :: tQ :: tQ :: tQ :: tI :: tI :: tQ :: tB :: tQ :: tL :: tI :: tI :: tL :: tI :: tI :: []) (z0o_L4 Kv)) (qs (A.reg (qn 2 (RA.spl 80 (qk 4 (qn 1 RA.done)) (qn 5 RA.done)))) (qc (A.cut [2,3,6,7,8,9,10,11,12,16,30,31,32,40,41,42] (uR2 [tQ,tQ,tQ,.c 192 0 1,tQ,tQ,tQ,tI,tI,tQ,tL,tI,tI,tL,tI,tI] [tQ,tQ,tQ,.c 192 0 1,tQ,tQ,tQ,tL,tI,tI] (tQ :: tQ :: tQ :: .c 192 0 1 :: tQ :: tQ :: tQ :: tI :: tI :: tQ :: tQ :: tL :: tI :: tI :: tL :: tI :: tI :: []) (z0o_L5 Kv)) (qe 2)) ql))))))))) (qe 2))))))) (qe 6))))) (qe 2))))))) (qr 7 (qs (A.drw (dp [0,1,2,3] (DA.eff 4 (DA.eff 5 (DA.eff 6 (DA.eff 7 DA.done)))))) (qs (A.drw (dp [0,2] (DA.eff 1 (dp [3,4] DA.done)))) ql)))))))))) (fun Kv p0_0 p0_1 p0_2 p0_3 p0_4 p0_5 p1_0 p1_1=>z0o_sd p0_0 p0_1 p0_2 p0_3 p0_4 p0_5 p1_0 p1_1 (kk [.u 2,tI,tB] Kv)) progMixed (Γ:=[(75,z4j_S),(77,z4d_S),(80,z3y_S),(189,z13_S),(191,z1g_S),(192,z0b_S)]) ⟨.inl z4j_ok,.inl z4d_ok,.inl z3y_ok,.inl z13_ok,.inl z1g_ok,.inl z0b_ok,trivial⟩ Tryz.call159 Tryz.func159 (fun Kv=>q07 (hK0 (F:=z0o_L0 Kv)) <| q07 (q0a (L:=z0o_L1 Kv) (fun N1 p2 p3 p6 add_7_c0 p8 p9 p30 p31 p32=>z0o_b1 p2 p3 p6 add_7_c0 p8 p9 p30 p31 p32 N1 (kk [.u 2,tI,tB] Kv)) (fun⟨a0,a1,a2,a3,a4,a5,a6,a7,_,_⟩ _ h=>let ⟨I,μ,h0,hr⟩:=h.out; ⟨fun b0 b1 b2 b3 b4 b5 b6 b7 b8 w=>(b0=a0/\b1=a1/\b2=a2/\b3=a3/\b4=a4/\b5=a5/\b6=a6/\b7=a7/\True)/\I b8 w,fun _ _ _ _ _ _ _ _ b8 w=>μ b8 w,⟨⟨rfl,rfl,rfl,rfl,rfl,rfl,rfl,rfl,trivial⟩,h0⟩,fun⟨_,_,_,_,_,_,_,_,_,_⟩ _ ⟨⟨e0,e1,e2,e3,e4,e5,e6,e7,_⟩,hI⟩=>by cases e0; cases e1; cases e2; cases e3; cases e4; cases e5; cases e6; cases e7; exact hr _ _ hI⟩)) <| q07 (q3q (L:=z0o_L2 Kv) (fun N1 N2 p2 p3 p6 add_7_c0 p8 p9 p10 p11 p12 p30 p31 p32 p40 p41 p42=>z0o_b2 p2 p3 p6 add_7_c0 p8 p9 p10 p11 p12 p30 p31 p32 p40 p41 p42 N2 N1 (kk [.u 2,tI,tB] Kv)) (fun _ ⟨a0,a1,a2,a3,a4,a5,a6,a7,a8,a9,a10,a11,a12,a13,_,_⟩ _ h=>let ⟨I,μ,h0,hr⟩:=h.out; ⟨fun b0 b1 b2 b3 b4 b5 b6 b7 b8 b9 b10 b11 b12 b13 b14 w=>(b0=a0/\b1=a1/\b2=a2/\b3=a3/\b4=a4/\b5=a5/\b6=a6/\b7=a7/\b8=a8/\b9=a9/\b10=a10/\b11=a11/\b12=a12/\b13=a13/\True)/\I b14 w,fun _ _ _ _ _ _ _ _ _ _ _ _ _ _ b14 w=>μ b14 w,⟨⟨rfl,rfl,rfl,rfl,rfl,rfl,rfl,rfl,rfl,rfl,rfl,rfl,rfl,rfl,trivial⟩,h0⟩,fun⟨_,_,_,_,_,_,_,_,_,_,_,_,_,_,_,_⟩ _ ⟨⟨e0,e1,e2,e3,e4,e5,e6,e7,e8,e9,e10,e11,e12,e13,_⟩,hI⟩=>by cases e0; cases e1; cases e2; cases e3; cases e4; cases e5; cases e6; cases e7; cases e8; cases e9; cases e10; cases e11; cases e12; cases e13; exact hr _ _ hI⟩)) <| q07 (ql9 (F:=z0o_L3 Kv) (G:=fun N2 N1 p2 p3 p6 add_7_c0 p8 p9 p10 p11 p12 p14 p15 p30 p31 p32 p40 p41 p42=>z0o_k3d p2 p3 p6 add_7_c0 p8 p9 p10 p11 p12 p14 p15 p30 p31 p32 p40 p41 p42 N2 N1 (kk [.u 2,tI,tB] Kv))) <| q07 (hK2 (F:=z0o_L4 Kv)) <| q07 (hK2 (F:=z0o_L5 Kv)) <| hEnd)
def z0k_b0 (p3:Int)(p7:Sl)(p8 p9:Int)(N0:Int->Sl->Int->Int->World->Prop)(K:Pw.T1)(w:World):Prop :=
 cnd (decide (p9<p8))
 (nz p7.p fun a10=>(0<=p9/\p9<(p7.l:Nat))/\lI w (a10.add (p9.toNat*4)) fun x11=>∃ x12:Int,w.cell? ((a10.add (p9.toNat*4)).add 1)=some (vI x12)/\∃ x13:Int,w.cell? ((a10.add (p9.toNat*4)).add 2)=some (vI x13)/\∃ x14:Int,w.cell? ((a10.add (p9.toNat*4)).add 3)=some (vI x14)/\let w15:=w.alloc (.cells #[(vI 0),(vI 0),(vI 0),(vI 0)] 57)
 stN w15 (hA w 0) [(vI x11),(vI x12),(vI x13),(vI x14)] fun w16=>lI w16 (hA w 3) fun x17=>inR .i64 (p3+x17)/\inR .i64 (p9+1)/\N0 (p3+x17) p7 p8 (p9+1) w16)
 (K p3 w)
structure z0k_l0 (p3:Int)(p7:Sl)(p8 p9:Int)(K:Pw.T1)(w:World):Prop where
 out:∃ (I:Int->Int->World->Prop) (μ:Int->Int->World->Nat),I p3 p9 w/\∀ (p31 p91:Int) (w1:World),I p31 p91 w1 ->
  z0k_b0 p31 p7 p8 p91 (fun p3' p7' p8' p9' w'=>((p7'=p7/\p8'=p8/\True)/\I p3' p9' w')/\μ p3' p9' w'<μ p31 p91 w1) K w1
structure z0k_sh (p0_0 p0_1 p0_2:Sl)(p0_3 p0_4:Int)(p0_5:Sl)(K:Pw.T1)(w:World):Prop where
 out:let w1:=w.alloc (.cells #[(vS p0_0),(vS p0_1),(vS p0_2),(vI p0_3),(vI p0_4),(vS p0_5)] 99)
  lS w1 (hA w 0) fun x2=>lS w1 (hA w 1) fun x3=>lS w1 (hA w 2) fun x4=>lI w1 (hA w 3) fun x5=>lI w1 (hA w 4) fun x6=>lS w1 (hA w 5) fun x7=>z0s_sh x2 x3 x4 x5 x6 x7 (fun r9 w8=>z0k_l0 0 r9 (r9.l:Int) 0 K w8) w1
def z0k_L0 (Kv:VW):Cur [tI,tL,tI,tI] WP:=fun p3 p7 p8 p9=>z0k_l0 p3 p7 p8 p9 (kk [tI] Kv)
noncomputable def z0k_S:=sp [.g 6,tL,tL,tL,tI,tI,tL] [tI] z0k_sh
theorem z0k_ok:okP 54 z0k_S:=okR (x:=fun Kv=>qr 2 (qr 1 (qs (qr 4 (qb (A.loop [3,7,8,9] (uR0 [tI,tL,tI,tI] (z0k_L0 Kv)) (qr 1 (qs (qc ql ql) (qs (qb (qr 4 (qe 5))) (qe 2))))))) (qr 2 ql)))) (Γ:=[(115,z0s_S)]) ⟨.inl z0s_ok,trivial⟩ Tryz.call54 Tryz.func54 (fun Kv=>q07 (q0a (L:=z0k_L0 Kv) (fun N0 p3 p7 p8 p9=>z0k_b0 p3 p7 p8 p9 N0 (kk [tI] Kv)) (fun⟨_,a1,a2,_,_⟩ _ h=>let ⟨I,μ,h0,hr⟩:=h.out; ⟨fun b0 b1 b2 b3 w=>(b1=a1/\b2=a2/\True)/\I b0 b3 w,fun b0 _ _ b3 w=>μ b0 b3 w,⟨⟨rfl,rfl,trivial⟩,h0⟩,fun⟨_,_,_,_,_⟩ _ ⟨⟨e1,e2,_⟩,hI⟩=>by cases e1; cases e2; exact hr _ _ _ hI⟩)) <| hEnd)
structure z0t_sh (p0_0 p0_1 p0_2:Sl)(p0_3 p0_4:Int)(p0_5:Sl)(K:Pw.T1)(w:World):Prop where
 out:let w1:=w.alloc (.cells #[(vS p0_0),(vS p0_1),(vS p0_2),(vI p0_3),(vI p0_4),(vS p0_5)] 99)
  let w2:=w1.drew
  ∃ S3:World->Prop,S3 w2/\mS S3 (hA w 0) fun x4=>mS S3 (hA w 1) fun x5=>mS S3 (hA w 2) fun x6=>mI S3 (hA w 3) fun x7=>mI S3 (hA w 4) fun x8=>mS S3 (hA w 5) fun x9=>mI S3 (hA w 4) fun x10=>inR .i64 (x10+1)/\mS S3 (hA w 0) fun x11=>mS S3 (hA w 1) fun x12=>mS S3 (hA w 2) fun x13=>mI S3 (hA w 3) fun x14=>mI S3 (hA w 4) fun x15=>mS S3 (hA w 5) fun x16=>z0k_sh x4 x5 x6 x7 x8 x9 (fun r18 w17=>S3 w17/\inR .i64 (r18*(x10+1))/\z0q_sh x11 x12 x13 x14 x15 x16 (fun r20 w19=>S3 w19/\inR .i64 ((r18*(x10+1))-r20)/\K ((r18*(x10+1))-r20) w19) w17) w2
noncomputable def z0t_S:=sp [.g 6,tL,tL,tL,tI,tI,tL] [tI] z0t_sh
theorem z0t_ok:okP 160 z0t_S:=okR (x:=fun _=>qr 2 (qs (A.drw (dp [0,2,3,4,5,7] (DA.eff 1 (DA.pur 6 (DA.eff 8 (dp [9,10] DA.done)))))) ql)) (Γ:=[(54,z0k_S),(156,z0q_S)]) ⟨.inl z0k_ok,.inl z0q_ok,trivial⟩ Tryz.call160 Tryz.func160 (fun _=>hEnd)
structure z30_sh (p0_0 p0_1 p0_2:Sl)(p0_3 p0_4:Int)(p0_5 p1_0:Sl)(p1_1 p1_2:Sl)(p1_3 p1_4:Int)(p1_5:Sl)(K:Pw.T0)(w:World):Prop where
 out:let w1:=w.alloc (.cells #[(vS p0_0),(vS p0_1),(vS p0_2),(vI p0_3),(vI p0_4),(vS p0_5)] 99)
  let w2:=w1.alloc (.cells #[(vS p1_0),(vS p1_1),(vS p1_2),(vI p1_3),(vI p1_4),(vS p1_5)] 99)
  let w3:=w2.drew
  ∃ S4:World->Prop,S4 w3/\mS S4 (hA w 0) fun x5=>mS S4 (hA w 1) fun x6=>mS S4 (hA w 2) fun x7=>mI S4 (hA w 3) fun x8=>mI S4 (hA w 4) fun x9=>mS S4 (hA w 5) fun x10=>mS S4 (hA w1 0) fun x11=>mS S4 (hA w1 1) fun x12=>mS S4 (hA w1 2) fun x13=>mI S4 (hA w1 3) fun x14=>mI S4 (hA w1 4) fun x15=>mS S4 (hA w1 5) fun x16=>mS S4 (hA w1 5) fun x17=>mS S4 (hA w 5) fun x18=>z0t_sh x5 x6 x7 x8 x9 x10 (fun r20 w19=>S4 w19/\z0t_sh x11 x12 x13 x14 x15 x16 (fun r22 w21=>S4 w21/\z3p_sh r20 r22 (fun r24 w23=>S4 w23/\z34_sh x17 x18 (fun r26 w25=>S4 w25/\let w27:=w25.alloc (.cells #[(vI r24),(vI r26)] 3)
  S4 w27/\z4l_sh (Sl.mk (some (hA w25 0)) 2 2) (fun r29 w28=>S4 w28/\K (decide (r29>0)) w28) w27) w23) w21) w19) w3
noncomputable def z30_S:=sp [.g 6,tL,tL,tL,tI,tI,tL,.g 6,tL,tL,tL,tI,tI,tL] [tB] z30_sh
theorem z30_ok:okP 112 z30_S:=okR (x:=fun _=>qr 3 (qs (A.drw (dp [0,2,5,6,7,8] (DA.eff 1 (DA.eff 3 (DA.eff 4 (DA.eff 9 (DA.eff 10 (DA.eff 11 (dp [12,13] DA.done))))))))) ql)) (Γ:=[(92,z34_S),(127,z3p_S),(160,z0t_S),(161,z4l_S)]) ⟨.inl z34_ok,.inl z3p_ok,.inl z0t_ok,.inl z4l_ok,trivial⟩ Tryz.call112 Tryz.func112 (fun _=>hEnd)
structure z3m_sh (p0:Sl)(K:Pw.T4)(w:World):Prop where
 out:cnd p0.p.isNone
  (K (Sl.mk none 0 0) w)
  (let w1:=w.alloc (.cells #[] 3)
  apS 1 8 [(vI 0)] 3 (Sl.mk (some (hA w 0)) 0 0) p0 w1 fun s2 w3=>K s2 w3)
noncomputable def z3m_S:=sp [tL] [tL] z3m_sh
theorem z3m_ok:okP 113 z3m_S:=okR (x:=fun _=>qr 1 (qs (qr 2 (qc (qr 1 ql) ql)) (qr 4 ql))) (Γ:=[]) trivial Tryz.call113 Tryz.func113 (fun _=>hEnd)
def z2a_b0 (p0:Value)(p1:Addr)(p3:Int)(N0:Value->Addr->Int->World->Prop)(K:Pw.T35)(w:World):Prop :=
 cnd (decide (p3>=0))
 (lS w p1 fun x2=>nz x2.p fun a3=>(0<=p3/\p3<(x2.l:Nat))/\lI w (a3.add (p3.toNat*1)) fun x4=>q2b Tryz.prog p0 [(vI p3),(vI x4)] w fun u5 w6=>∃ x7:Bool,u5=(.bool x7)/\cnd (!x7)
 (K w6)
 (inR .i64 (p3-1)/\N0 p0 p1 (p3-1) w6))
 (K w)
structure z2a_l0 (p0:Value)(p1:Addr)(p3:Int)(K:Pw.T35)(w:World):Prop where
 out:∃ (I:Int->World->Prop) (μ:Int->World->Nat),I p3 w/\∀ (p31:Int) (w1:World),I p31 w1 ->
  z2a_b0 p0 p1 p31 (fun p0' p1' p3' w'=>((p0'=p0/\p1'=p1/\True)/\I p3' w')/\μ p3' w'<μ p31 w1) K w1
structure z2a_sh (p0:Value)(p1:Addr)(K:Pw.T35)(w:World):Prop where
 out:lS w p1 fun x1=>inR .i64 ((x1.l:Int)-1)/\z2a_l0 p0 p1 ((x1.l:Int)-1) K w
def z2a_L0 (Kv:VW):Cur [tV,tQ,tI] WP:=fun p0 p1 p3=>z2a_l0 p0 p1 p3 (kk [.u 0] Kv)
noncomputable def z2a_S:=sp [tV,tQ] [.u 0] z2a_sh
theorem z2a_ok:okP 162 z2a_S:=okR (x:=fun Kv=>qr 4 (qb (A.loop [0,1,3] (uR0 [tV,tQ,tI] (z2a_L0 Kv)) (qs (qr 2 (qc ql ql)) (qs (qb (qs (A.reg (qn 6 (RA.dyn (Value.bool false) (qn 1 RA.done)))) (qc ql ql))) (qe 3)))))) (Γ:=[]) trivial Tryz.call162 Tryz.func162 (fun Kv=>q07 (q0a (L:=z2a_L0 Kv) (fun N0 p0 p1 p3=>z2a_b0 p0 p1 p3 N0 (kk [.u 0] Kv)) (fun⟨a0,a1,_,_⟩ _ h=>let ⟨I,μ,h0,hr⟩:=h.out; ⟨fun b0 b1 b2 w=>(b0=a0/\b1=a1/\True)/\I b2 w,fun _ _ b2 w=>μ b2 w,⟨⟨rfl,rfl,trivial⟩,h0⟩,fun⟨_,_,_,_⟩ _ ⟨⟨e0,e1,_⟩,hI⟩=>by cases e0; cases e1; exact hr _ _ hI⟩)) <| hEnd)
structure z2y_sh (p0:Sl)(K:Value->World->Prop)(w:World):Prop where
 out:let w1:=w.alloc (.cells #[(vS p0)] 22)
  K (Value.func (.func 162) #[] #[(.pointer (some (hA w 0)))]) w1
noncomputable def z2y_S:=sp [tL] [tV] z2y_sh
theorem z2y_ok:okP 114 z2y_S:=okR (x:=fun _=>qr 2 (qr 2 ql)) (Γ:=[]) trivial Tryz.call114 Tryz.func114 (fun _=>hEnd)
end Go.Proofs.YtfpobpjandjhjaaGreatDoor
