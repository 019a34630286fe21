/- The bodies' formulas, by program. -/
import Derived.Test.YtfpobpjandjhjaaGreatDoorProg
import Derived.KernelRfl
import Derived.Test.YtfpobpjandjhjaaGreatDoorPwY
import Derived.Test.YtfpobpjandjhjaaGreatDoorCG0
import Derived.Test.YtfpobpjandjhjaaGreatDoorCG1
set_option maxRecDepth 20000
namespace Go.Proofs.YtfpobpjandjhjaaGreatDoor
open Go Pw
def z33_b0 (s_0:Sl)(f_1:Value)(t_7 t_8:Int)(N0:Sl->Value->Int->Int->World->Prop)(K:Pw.T1)(w:World):Prop :=
 cnd (decide (t_8<t_7))
 (nz s_0.p fun a1=>(0<=t_8/\t_8<(s_0.l:Nat))/\∃ x2:Int,w.cell? (a1.add (t_8.toNat*1))=some (Value.int .i64 x2)/\CallV Tryz.prog f_1 [(Value.int .i64 x2)] w fun u3 w4=>∃ x5:Bool,u3=(Value.bool x5)/\cnd x5
 (K t_8 w4)
 (inR .i64 (t_8+(1:Int))/\N0 s_0 f_1 t_7 (t_8+(1:Int)) w4))
 (K (-1:Int) w)
def z33_l0d (s_0:Sl)(f_1:Value)(t_7 t_8:Int)(K:Pw.T1)(w:World):Prop :=
 ∃ (I:Int->World->Prop) (μ:Int->World->Nat),I t_8 w/\∀ (t_81:Int) (w1:World),I t_81 w1 ->
 z33_b0 s_0 f_1 t_7 t_81 (fun s_0' f_1' t_7' t_8' w'=>((s_0'=s_0/\f_1'=f_1/\t_7'=t_7/\True)/\I t_8' w')/\μ t_8' w'<μ t_81 w1) K w1
structure z33_l0 (s_0:Sl)(f_1:Value)(t_7 t_8:Int)(K:Pw.T1)(w:World):Prop where
 out:z33_l0d s_0 f_1 t_7 t_8 K w
def z33_sd (s_0:Sl)(f_1:Value)(K:Pw.T1)(w:World):Prop :=
 z33_l0 s_0 f_1 (s_0.l:Int) (0:Int) K w
structure z33_sh (s_0:Sl)(f_1:Value)(K:Pw.T1)(w:World):Prop where
 out:z33_sd s_0 f_1 K w
def z33_L0 (Kv:VW):Cur [tL,tV,tI,tI] WP:=fun s_0 f_1 t_7 t_8=>z33_l0 s_0 f_1 t_7 t_8 (kk [tI] Kv)
noncomputable def z33_S:Pw.Spec:=fun vs w Kv=>un [tL,tV] (fun s_0 f_1=>z33_sh s_0 f_1 (kk [tI] Kv)) nF vs w
def z33_A (Kv:VW):A:=(qr 1 (qs (qr 3 (qb (A.loop [0,1,7,8] (uR0 [tL,tV,tI,tI] (z33_L0 Kv)) (qr 1 (qs (qc ql ql) (qs (qb (qr 2 (qs (A.reg (qn 5 (RA.dyn (Value.bool false) RA.done))) (qc (qr 2 ql) ql)))) (qe 2))))))) (qr 1 ql)))
theorem z33_ok:Sound Tryz.prog 123 z33_S:=okS (x:=z33_A) (fun Kv s_0 f_1=>z33_sd s_0 f_1 (kk [tI] Kv)) progMixed (Γ:=[]) trivial Tryz.call123 Tryz.func123 (fun Kv=>hStep (hLoop0 (L:=z33_L0 Kv) (fun N0 s_0 f_1 t_7 t_8=>z33_b0 s_0 f_1 t_7 t_8 N0 (kk [tI] Kv)) (fun⟨a0,a1,a2,_,_⟩ _ h=>let ⟨I,μ,h0,hr⟩:=h.out; ⟨fun b0 b1 b2 b3 w=>(b0=a0/\b1=a1/\b2=a2/\True)/\I b3 w,fun _ _ _ b3 w=>μ b3 w,⟨⟨rfl,rfl,rfl,trivial⟩,h0⟩,fun⟨_,_,_,_,_⟩ _ ⟨⟨e0,e1,e2,_⟩,hI⟩=>by cases e0; cases e1; cases e2; exact hr _ _ hI⟩)) <| hEnd)
def z1r_sd (s_0:Sl)(f_1:Value)(K:Pw.T0)(w:World):Prop :=
 z33_sh s_0 f_1 (fun r2 w1=>K (decide (r2>=(0:Int))) w1) w
structure z1r_sh (s_0:Sl)(f_1:Value)(K:Pw.T0)(w:World):Prop where
 out:z1r_sd s_0 f_1 K w
noncomputable def z1r_S:Pw.Spec:=fun vs w Kv=>un [tL,tV] (fun s_0 f_1=>z1r_sh s_0 f_1 (kk [tB] Kv)) nF vs w
def z1r_A (_:VW):A:=(qr 1 (qr 5 ql))
theorem z1r_ok:Sound Tryz.prog 71 z1r_S:=okS (x:=z1r_A) (fun Kv s_0 f_1=>z1r_sd s_0 f_1 (kk [tB] Kv)) progMixed (Γ:=[(123,z33_S)]) ⟨.inl z33_ok,trivial⟩ Tryz.call71 Tryz.func71 (fun _=>hEnd)
def z05_b0 (s_0:Sl)(f_1:Value)(t_7 t_8:Int)(N0:Sl->Value->Int->Int->World->Prop)(K:Pw.T1)(w:World):Prop :=
 cnd (decide (t_8<t_7))
 (nz s_0.p fun a1=>(0<=t_8/\t_8<(s_0.l:Nat))/\∃ x2:Int,w.cell? (a1.add (t_8.toNat*4))=some (Value.int .i64 x2)/\∃ x3:Int,w.cell? ((a1.add (t_8.toNat*4)).add 1)=some (Value.int .i64 x3)/\∃ x4:Int,w.cell? ((a1.add (t_8.toNat*4)).add 2)=some (Value.int .i64 x4)/\∃ x5:Int,w.cell? ((a1.add (t_8.toNat*4)).add 3)=some (Value.int .i64 x5)/\CallV Tryz.prog f_1 [(Value.agg #[(Value.int .i64 x2),(Value.int .i64 x3),(Value.int .i64 x4),(Value.int .i64 x5)])] w fun u6 w7=>∃ x8:Bool,u6=(Value.bool x8)/\cnd x8
 (K t_8 w7)
 (inR .i64 (t_8+(1:Int))/\N0 s_0 f_1 t_7 (t_8+(1:Int)) w7))
 (K (-1:Int) w)
def z05_l0d (s_0:Sl)(f_1:Value)(t_7 t_8:Int)(K:Pw.T1)(w:World):Prop :=
 ∃ (I:Int->World->Prop) (μ:Int->World->Nat),I t_8 w/\∀ (t_81:Int) (w1:World),I t_81 w1 ->
 z05_b0 s_0 f_1 t_7 t_81 (fun s_0' f_1' t_7' t_8' w'=>((s_0'=s_0/\f_1'=f_1/\t_7'=t_7/\True)/\I t_8' w')/\μ t_8' w'<μ t_81 w1) K w1
structure z05_l0 (s_0:Sl)(f_1:Value)(t_7 t_8:Int)(K:Pw.T1)(w:World):Prop where
 out:z05_l0d s_0 f_1 t_7 t_8 K w
def z05_sd (s_0:Sl)(f_1:Value)(K:Pw.T1)(w:World):Prop :=
 z05_l0 s_0 f_1 (s_0.l:Int) (0:Int) K w
structure z05_sh (s_0:Sl)(f_1:Value)(K:Pw.T1)(w:World):Prop where
 out:z05_sd s_0 f_1 K w
def z05_L0 (Kv:VW):Cur [tL,tV,tI,tI] WP:=fun s_0 f_1 t_7 t_8=>z05_l0 s_0 f_1 t_7 t_8 (kk [tI] Kv)
noncomputable def z05_S:Pw.Spec:=fun vs w Kv=>un [tL,tV] (fun s_0 f_1=>z05_sh s_0 f_1 (kk [tI] Kv)) nF vs w
def z05_A (Kv:VW):A:=(qr 1 (qs (qr 3 (qb (A.loop [0,1,7,8] (uR0 [tL,tV,tI,tI] (z05_L0 Kv)) (qr 1 (qs (qc ql ql) (qs (qb (qr 2 (qs (A.reg (qn 5 (RA.dyn (Value.bool false) RA.done))) (qc (qr 2 ql) ql)))) (qe 2))))))) (qr 1 ql)))
theorem z05_ok:Sound Tryz.prog 180 z05_S:=okS (x:=z05_A) (fun Kv s_0 f_1=>z05_sd s_0 f_1 (kk [tI] Kv)) progMixed (Γ:=[]) trivial Tryz.call180 Tryz.func180 (fun Kv=>hStep (hLoop0 (L:=z05_L0 Kv) (fun N0 s_0 f_1 t_7 t_8=>z05_b0 s_0 f_1 t_7 t_8 N0 (kk [tI] Kv)) (fun⟨a0,a1,a2,_,_⟩ _ h=>let ⟨I,μ,h0,hr⟩:=h.out; ⟨fun b0 b1 b2 b3 w=>(b0=a0/\b1=a1/\b2=a2/\True)/\I b3 w,fun _ _ _ b3 w=>μ b3 w,⟨⟨rfl,rfl,rfl,trivial⟩,h0⟩,fun⟨_,_,_,_,_⟩ _ ⟨⟨e0,e1,e2,_⟩,hI⟩=>by cases e0; cases e1; cases e2; exact hr _ _ hI⟩)) <| hEnd)
def z00_sd (s_0:Sl)(f_1:Value)(K:Pw.T0)(w:World):Prop :=
 z05_sh s_0 f_1 (fun r2 w1=>K (decide (r2>=(0:Int))) w1) w
structure z00_sh (s_0:Sl)(f_1:Value)(K:Pw.T0)(w:World):Prop where
 out:z00_sd s_0 f_1 K w
noncomputable def z00_S:Pw.Spec:=fun vs w Kv=>un [tL,tV] (fun s_0 f_1=>z00_sh s_0 f_1 (kk [tB] Kv)) nF vs w
def z00_A (_:VW):A:=(qr 1 (qr 5 ql))
theorem z00_ok:Sound Tryz.prog 132 z00_S:=okS (x:=z00_A) (fun Kv s_0 f_1=>z00_sd s_0 f_1 (kk [tB] Kv)) progMixed (Γ:=[(180,z05_S)]) ⟨.inl z05_ok,trivial⟩ Tryz.call132 Tryz.func132 (fun _=>hEnd)
def z3k_b0 (s1_0 s2_1 t_9:Sl)(t_10 t_11:Int)(N0:Sl->Sl->Sl->Int->Int->World->Prop)(K:Pw.T1)(w:World):Prop :=
 cnd (decide (t_11<t_10))
 (nz t_9.p fun a1=>(0<=t_11/\t_11<(t_9.l:Nat))/\∃ x2:Int,w.cell? (a1.add (t_11.toNat*1))=some (Value.int .i64 x2)/\cnd (decide (t_11>=(s2_1.l:Int)))
 (K (1:Int) w)
 (nz s2_1.p fun a3=>(0<=t_11/\t_11<(s2_1.l:Nat))/\∃ x4:Int,w.cell? (a3.add (t_11.toNat*1))=some (Value.int .i64 x4)/\z49_sh x2 x4 (fun r6 w5=>cnd (r6 != (0:Int))
 (K r6 w5)
 (inR .i64 (t_11+(1:Int))/\N0 s1_0 s2_1 t_9 t_10 (t_11+(1:Int)) w5)) w))
 (cnd (decide ((s1_0.l:Int)<(s2_1.l:Int)))
 (K (-1:Int) w)
 (K (0:Int) w))
def z3k_l0d (s1_0 s2_1 t_9:Sl)(t_10 t_11:Int)(K:Pw.T1)(w:World):Prop :=
 ∃ (I:Int->World->Prop) (μ:Int->World->Nat),I t_11 w/\∀ (t_111:Int) (w1:World),I t_111 w1 ->
 z3k_b0 s1_0 s2_1 t_9 t_10 t_111 (fun s1_0' s2_1' t_9' t_10' t_11' w'=>((s1_0'=s1_0/\s2_1'=s2_1/\t_9'=t_9/\t_10'=t_10/\True)/\I t_11' w')/\μ t_11' w'<μ t_111 w1) K w1
structure z3k_l0 (s1_0 s2_1 t_9:Sl)(t_10 t_11:Int)(K:Pw.T1)(w:World):Prop where
 out:z3k_l0d s1_0 s2_1 t_9 t_10 t_11 K w
def z3k_sd (s1_0 s2_1:Sl)(K:Pw.T1)(w:World):Prop :=
 z3k_l0 s1_0 s2_1 s1_0 (s1_0.l:Int) (0:Int) K w
structure z3k_sh (s1_0 s2_1:Sl)(K:Pw.T1)(w:World):Prop where
 out:z3k_sd s1_0 s2_1 K w
def z3k_L0 (Kv:VW):Cur [tL,tL,tL,tI,tI] WP:=fun s1_0 s2_1 t_9 t_10 t_11=>z3k_l0 s1_0 s2_1 t_9 t_10 t_11 (kk [tI] Kv)
noncomputable def z3k_S:Pw.Spec:=fun vs w Kv=>un [tL,tL] (fun s1_0 s2_1=>z3k_sh s1_0 s2_1 (kk [tI] Kv)) nF vs w
def z3k_A (Kv:VW):A:=(qr 1 (qs (qr 3 (qb (A.loop [0,1,9,10,11] (uR0 [tL,tL,tL,tI,tI] (z3k_L0 Kv)) (qr 1 (qs (qc ql ql) (qs (qb (qr 5 (qs (qr 4 (qc (qr 1 ql) ql)) (qr 5 (qr 4 (qr 2 (qc (qr 2 ql) ql))))))) (qe 2))))))) (qs (qr 5 (qc (qr 1 ql) ql)) (qr 1 ql))))
theorem z3k_ok:Sound Tryz.prog 92 z3k_S:=okS (x:=z3k_A) (fun Kv s1_0 s2_1=>z3k_sd s1_0 s2_1 (kk [tI] Kv)) progMixed (Γ:=[(127,z49_S)]) ⟨.inl z49_ok,trivial⟩ Tryz.call92 Tryz.func92 (fun Kv=>hStep (hLoop0 (L:=z3k_L0 Kv) (fun N0 s1_0 s2_1 t_9 t_10 t_11=>z3k_b0 s1_0 s2_1 t_9 t_10 t_11 N0 (kk [tI] Kv)) (fun⟨a0,a1,a2,a3,_,_⟩ _ h=>let ⟨I,μ,h0,hr⟩:=h.out; ⟨fun b0 b1 b2 b3 b4 w=>(b0=a0/\b1=a1/\b2=a2/\b3=a3/\True)/\I b4 w,fun _ _ _ _ b4 w=>μ b4 w,⟨⟨rfl,rfl,rfl,rfl,trivial⟩,h0⟩,fun⟨_,_,_,_,_,_⟩ _ ⟨⟨e0,e1,e2,e3,_⟩,hI⟩=>by cases e0; cases e1; cases e2; cases e3; exact hr _ _ hI⟩)) <| hEnd)
def z46_b0 (s_0:Sl)(v_1 t_7 t_8:Int)(N0:Sl->Int->Int->Int->World->Prop)(K:Pw.T1)(w:World):Prop :=
 cnd (decide (t_8<t_7))
 (nz s_0.p fun a1=>(0<=t_8/\t_8<(s_0.l:Nat))/\∃ x2:Int,w.cell? (a1.add (t_8.toNat*1))=some (Value.int .i64 x2)/\cnd (v_1 == x2)
 (K t_8 w)
 (inR .i64 (t_8+(1:Int))/\N0 s_0 v_1 t_7 (t_8+(1:Int)) w))
 (K (-1:Int) w)
def z46_l0d (s_0:Sl)(v_1 t_7 t_8:Int)(K:Pw.T1)(w:World):Prop :=
 ∃ (I:Int->World->Prop) (μ:Int->World->Nat),I t_8 w/\∀ (t_81:Int) (w1:World),I t_81 w1 ->
 z46_b0 s_0 v_1 t_7 t_81 (fun s_0' v_1' t_7' t_8' w'=>((s_0'=s_0/\v_1'=v_1/\t_7'=t_7/\True)/\I t_8' w')/\μ t_8' w'<μ t_81 w1) K w1
structure z46_l0 (s_0:Sl)(v_1 t_7 t_8:Int)(K:Pw.T1)(w:World):Prop where
 out:z46_l0d s_0 v_1 t_7 t_8 K w
def z46_sd (s_0:Sl)(v_1:Int)(K:Pw.T1)(w:World):Prop :=
 z46_l0 s_0 v_1 (s_0.l:Int) (0:Int) K w
structure z46_sh (s_0:Sl)(v_1:Int)(K:Pw.T1)(w:World):Prop where
 out:z46_sd s_0 v_1 K w
def z46_L0 (Kv:VW):Cur [tL,tI,tI,tI] WP:=fun s_0 v_1 t_7 t_8=>z46_l0 s_0 v_1 t_7 t_8 (kk [tI] Kv)
noncomputable def z46_S:Pw.Spec:=fun vs w Kv=>un [tL,tI] (fun s_0 v_1=>z46_sh s_0 v_1 (kk [tI] Kv)) nF vs w
def z46_A (Kv:VW):A:=(qr 1 (qs (qr 3 (qb (A.loop [0,1,7,8] (uR0 [tL,tI,tI,tI] (z46_L0 Kv)) (qr 1 (qs (qc ql ql) (qs (qb (qr 2 (qr 6 (qc (qr 2 ql) ql)))) (qe 2))))))) (qr 1 ql)))
theorem z46_ok:Sound Tryz.prog 148 z46_S:=okS (x:=z46_A) (fun Kv s_0 v_1=>z46_sd s_0 v_1 (kk [tI] Kv)) progMixed (Γ:=[]) trivial Tryz.call148 Tryz.func148 (fun Kv=>hStep (hLoop0 (L:=z46_L0 Kv) (fun N0 s_0 v_1 t_7 t_8=>z46_b0 s_0 v_1 t_7 t_8 N0 (kk [tI] Kv)) (fun⟨a0,a1,a2,_,_⟩ _ h=>let ⟨I,μ,h0,hr⟩:=h.out; ⟨fun b0 b1 b2 b3 w=>(b0=a0/\b1=a1/\b2=a2/\True)/\I b3 w,fun _ _ _ b3 w=>μ b3 w,⟨⟨rfl,rfl,rfl,trivial⟩,h0⟩,fun⟨_,_,_,_,_⟩ _ ⟨⟨e0,e1,e2,_⟩,hI⟩=>by cases e0; cases e1; cases e2; exact hr _ _ hI⟩)) <| hEnd)
def z3f_sd (s_0:Sl)(v_1:Int)(K:Pw.T0)(w:World):Prop :=
 z46_sh s_0 v_1 (fun r2 w1=>K (decide (r2>=(0:Int))) w1) w
structure z3f_sh (s_0:Sl)(v_1:Int)(K:Pw.T0)(w:World):Prop where
 out:z3f_sd s_0 v_1 K w
noncomputable def z3f_S:Pw.Spec:=fun vs w Kv=>un [tL,tI] (fun s_0 v_1=>z3f_sh s_0 v_1 (kk [tB] Kv)) nF vs w
def z3f_A (_:VW):A:=(qr 1 (qr 5 ql))
theorem z3f_ok:Sound Tryz.prog 102 z3f_S:=okS (x:=z3f_A) (fun Kv s_0 v_1=>z3f_sd s_0 v_1 (kk [tB] Kv)) progMixed (Γ:=[(148,z46_S)]) ⟨.inl z46_ok,trivial⟩ Tryz.call102 Tryz.func102 (fun _=>hEnd)
def z35_sd (id_0:Int)(t_1:Addr)(K:Pw.T0)(w:World):Prop :=
 ∃ x1:Sl,w.cell? t_1=some (Value.slice x1.p x1.l x1.c)/\z3f_sh x1 id_0 (fun r3 w2=>K r3 w2) w
structure z35_sh (id_0:Int)(t_1:Addr)(K:Pw.T0)(w:World):Prop where
 out:z35_sd id_0 t_1 K w
noncomputable def z35_S:Pw.Spec:=fun vs w Kv=>un [tI,tQ] (fun id_0 t_1=>z35_sh id_0 t_1 (kk [tB] Kv)) nF vs w
def z35_A (_:VW):A:=(qr 1 (qr 5 ql))
theorem z35_ok:Sound Tryz.prog 101 z35_S:=okS (x:=z35_A) (fun Kv id_0 t_1=>z35_sd id_0 t_1 (kk [tB] Kv)) progMixed (Γ:=[(102,z3f_S)]) ⟨.inl z3f_ok,trivial⟩ Tryz.call101 Tryz.func101 (fun _=>hEnd)
def z3h_sd (n_0 most_1:Int)(K:Pw.T0)(w:World):Prop :=
 cnd (decide (n_0>=(0:Int)))
 (K (decide (n_0<=most_1)) w)
 (K false w)
structure z3h_sh (n_0 most_1:Int)(K:Pw.T0)(w:World):Prop where
 out:z3h_sd n_0 most_1 K w
noncomputable def z3h_S:Pw.Spec:=fun vs w Kv=>un [tI,tI] (fun n_0 most_1=>z3h_sh n_0 most_1 (kk [tB] Kv)) nF vs w
def z3h_A (_:VW):A:=(qr 1 (qs (A.reg (qn 3 (RA.spl 7 (qn 5 RA.done) (qk 3 (qn 2 RA.done))))) ql))
theorem z3h_ok:Sound Tryz.prog 51 z3h_S:=okS (x:=z3h_A) (fun Kv n_0 most_1=>z3h_sd n_0 most_1 (kk [tB] Kv)) progMixed (Γ:=[]) trivial Tryz.call51 Tryz.func51 (fun _=>hEnd)
def z36_sd (c_0_0 c_0_1:Int)(c_0_2 c_0_3:Int)(t_1:Addr)(K:Pw.T0)(w:World):Prop :=
 let w1:=w.alloc (Obj.cells #[(Value.int .i64 c_0_0),(Value.int .i64 c_0_1),(Value.int .i64 c_0_2),(Value.int .i64 c_0_3)] 57)
 ∃ x2:Value,w1.cell? t_1=some x2/\∃ x3:Int,w1.cell? (Addr.mk w.heap.size 0 none)=some (Value.int .i64 x3)/\CallV Tryz.prog x2 [(Value.int .i64 x3)] w1 fun u4 w5=>∃ x6:Bool,u4=(Value.bool x6)/\cnd x6
 (∃ x7:Int,w5.cell? (Addr.mk w.heap.size 2 none)=some (Value.int .i64 x7)/\z3h_sh x7 (1000000000:Int) (fun r9 w8=>cnd r9
 (∃ x10:Int,w8.cell? (Addr.mk w.heap.size 3 none)=some (Value.int .i64 x10)/\z3h_sh x10 (1000000:Int) (fun r12 w11=>K r12 w11) w8)
 (K false w8)) w5)
 (K false w5)
structure z36_sh (c_0_0 c_0_1:Int)(c_0_2 c_0_3:Int)(t_1:Addr)(K:Pw.T0)(w:World):Prop where
 out:z36_sd c_0_0 c_0_1 c_0_2 c_0_3 t_1 K w
noncomputable def z36_S:Pw.Spec:=fun vs w Kv=>un [.g 4,tI,tI,tI,tI,tQ] (fun c_0_0 c_0_1 c_0_2 c_0_3 t_1=>z36_sh c_0_0 c_0_1 c_0_2 c_0_3 t_1 (kk [tB] Kv)) nF vs w
def z36_A (_:VW):A:=(qr 2 (qs (A.reg (qn 3 (RA.dyn (Value.bool false) (qn 1 (RA.spl 8 (qn 5 (RA.spl 13 (qn 5 RA.done) (qk 3 (qn 2 RA.done)))) (qk 3 (qn 2 (qk 3 (qn 2 RA.done))))))))) ql))
theorem z36_ok:Sound Tryz.prog 103 z36_S:=okS (x:=z36_A) (fun Kv c_0_0 c_0_1 c_0_2 c_0_3 t_1=>z36_sd c_0_0 c_0_1 c_0_2 c_0_3 t_1 (kk [tB] Kv)) progMixed (Γ:=[(51,z3h_S)]) ⟨.inl z3h_ok,trivial⟩ Tryz.call103 Tryz.func103 (fun _=>hEnd)
def z2s_b0 (seen_3:Nat)(t_7:Sl)(t_8 t_9:Int)(N0:Nat->Sl->Int->Int->World->Prop)(K:Pw.T0)(w:World):Prop :=
 cnd (decide (t_9<t_8))
 (nz t_7.p fun a2=>(0<=t_9/\t_9<(t_7.l:Nat))/\∃ x3:Int,w.cell? (a2.add (t_9.toNat*1))=some (Value.int .i64 x3)/\∃ l4:List (Int × Bool),Mp w seen_3 .i64 (l4.map fun p=>(p.1,Value.bool p.2))/\cnd (mgetD false x3 l4)
 (K false w)
 ((∃ l:List (Int × Value),Mp w seen_3 .i64 l)/\let w5:=w.mset seen_3 .i64 x3 (Value.bool true)
 inR .i64 (t_9+(1:Int))/\N0 seen_3 t_7 t_8 (t_9+(1:Int)) w5))
 (K true w)
def z2s_l0d (seen_3:Nat)(t_7:Sl)(t_8 t_9:Int)(K:Pw.T0)(w:World):Prop :=
 ∃ (I:Int->World->Prop) (μ:Int->World->Nat),I t_9 w/\∀ (t_91:Int) (w1:World),I t_91 w1 ->
 z2s_b0 seen_3 t_7 t_8 t_91 (fun seen_3' t_7' t_8' t_9' w'=>((seen_3'=seen_3/\t_7'=t_7/\t_8'=t_8/\True)/\I t_9' w')/\μ t_9' w'<μ t_91 w1) K w1
structure z2s_l0 (seen_3:Nat)(t_7:Sl)(t_8 t_9:Int)(K:Pw.T0)(w:World):Prop where
 out:z2s_l0d seen_3 t_7 t_8 t_9 K w
def z2s_sd (l_0:Sl)(K:Pw.T0)(w:World):Prop :=
 let w1:=w.alloc (Obj.map #[] 0)
 z2s_l0 w.heap.size l_0 (l_0.l:Int) (0:Int) K w1
structure z2s_sh (l_0:Sl)(K:Pw.T0)(w:World):Prop where
 out:z2s_sd l_0 K w
def z2s_L0 (Kv:VW):Cur [tN,tL,tI,tI] WP:=fun seen_3 t_7 t_8 t_9=>z2s_l0 seen_3 t_7 t_8 t_9 (kk [tB] Kv)
noncomputable def z2s_S:Pw.Spec:=fun vs w Kv=>un [tL] (fun l_0=>z2s_sh l_0 (kk [tB] Kv)) nF vs w
def z2s_A (Kv:VW):A:=(qr 1 (qr 2 (qs (qr 3 (qb (A.loop [3,7,8,9] (uR0 [tN,tL,tI,tI] (z2s_L0 Kv)) (qr 1 (qs (qc ql ql) (qs (qb (qr 3 (qs (qr 3 (qc (qr 1 ql) ql)) (qe 3)))) (qe 2))))))) (qr 1 ql))))
theorem z2s_ok:Sound Tryz.prog 105 z2s_S:=okS (x:=z2s_A) (fun Kv l_0=>z2s_sd l_0 (kk [tB] Kv)) progMixed (Γ:=[]) trivial Tryz.call105 Tryz.func105 (fun Kv=>hStep (hLoop0 (L:=z2s_L0 Kv) (fun N0 seen_3 t_7 t_8 t_9=>z2s_b0 seen_3 t_7 t_8 t_9 N0 (kk [tB] Kv)) (fun⟨a0,a1,a2,_,_⟩ _ h=>let ⟨I,μ,h0,hr⟩:=h.out; ⟨fun b0 b1 b2 b3 w=>(b0=a0/\b1=a1/\b2=a2/\True)/\I b3 w,fun _ _ _ b3 w=>μ b3 w,⟨⟨rfl,rfl,rfl,trivial⟩,h0⟩,fun⟨_,_,_,_,_⟩ _ ⟨⟨e0,e1,e2,_⟩,hI⟩=>by cases e0; cases e1; cases e2; exact hr _ _ hI⟩)) <| hEnd)
def z3m_sd (x_0:Int)(t_1:Addr)(K:Pw.T0)(w:World):Prop :=
 ∃ x1:Value,w.cell? t_1=some x1/\CallV Tryz.prog x1 [(Value.int .i64 x_0)] w fun u2 w3=>∃ x4:Bool,u2=(Value.bool x4)/\K (!x4) w3
structure z3m_sh (x_0:Int)(t_1:Addr)(K:Pw.T0)(w:World):Prop where
 out:z3m_sd x_0 t_1 K w
noncomputable def z3m_S:Pw.Spec:=fun vs w Kv=>un [tI,tQ] (fun x_0 t_1=>z3m_sh x_0 t_1 (kk [tB] Kv)) nF vs w
def z3m_A (_:VW):A:=(qr 1 (qs (A.reg (qn 2 (RA.dyn (Value.bool false) (qn 2 RA.done)))) ql))
theorem z3m_ok:Sound Tryz.prog 149 z3m_S:=okS (x:=z3m_A) (fun Kv x_0 t_1=>z3m_sd x_0 t_1 (kk [tB] Kv)) progMixed (Γ:=[]) trivial Tryz.call149 Tryz.func149 (fun _=>hEnd)
def z4a_sd (l_0:Sl)(ok_1:Value)(K:Pw.T0)(w:World):Prop :=
 let w1:=w.alloc (Obj.cells (Value.cells ok_1) 123)
 z1r_sh l_0 (Value.func (.func 149) #[] #[(Value.pointer (some (Addr.mk w.heap.size 0 none)))]) (fun r3 w2=>K (!r3) w2) w1
structure z4a_sh (l_0:Sl)(ok_1:Value)(K:Pw.T0)(w:World):Prop where
 out:z4a_sd l_0 ok_1 K w
noncomputable def z4a_S:Pw.Spec:=fun vs w Kv=>un [tL,tV] (fun l_0 ok_1=>z4a_sh l_0 ok_1 (kk [tB] Kv)) nF vs w
def z4a_A (_:VW):A:=(qr 2 (qr 5 ql))
theorem z4a_ok:Sound Tryz.prog 106 z4a_S:=okS (x:=z4a_A) (fun Kv l_0 ok_1=>z4a_sd l_0 ok_1 (kk [tB] Kv)) progMixed (Γ:=[(71,z1r_S)]) ⟨.inl z1r_ok,trivial⟩ Tryz.call106 Tryz.func106 (fun _=>hEnd)
def z37_sd (d_0_0:Int)(d_0_1:Sl)(d_0_2:Int)(t_1:Addr)(K:Pw.T0)(w:World):Prop :=
 let w1:=w.alloc (Obj.cells #[(Value.int .i64 d_0_0),(Value.slice d_0_1.p d_0_1.l d_0_1.c),(Value.int .i64 d_0_2)] 81)
 ∃ x2:Sl,w1.cell? (Addr.mk w.heap.size 1 none)=some (Value.slice x2.p x2.l x2.c)/\cnd (decide ((x2.l:Int)>(0:Int)))
 (∃ x3:Sl,w1.cell? (Addr.mk w.heap.size 1 none)=some (Value.slice x3.p x3.l x3.c)/\z2s_sh x3 (fun r5 w4=>cnd r5
 (∃ x6:Sl,w4.cell? (Addr.mk w.heap.size 1 none)=some (Value.slice x6.p x6.l x6.c)/\∃ x7:Value,w4.cell? t_1=some x7/\z4a_sh x6 x7 (fun r9 w8=>cnd r9
 (∃ x10:Int,w8.cell? (Addr.mk w.heap.size 2 none)=some (Value.int .i64 x10)/\z3h_sh x10 (1000000000:Int) (fun r12 w11=>K r12 w11) w8)
 (K false w8)) w4)
 (K false w4)) w1)
 (K false w1)
structure z37_sh (d_0_0:Int)(d_0_1:Sl)(d_0_2:Int)(t_1:Addr)(K:Pw.T0)(w:World):Prop where
 out:z37_sd d_0_0 d_0_1 d_0_2 t_1 K w
noncomputable def z37_S:Pw.Spec:=fun vs w Kv=>un [.g 3,tI,tL,tI,tQ] (fun d_0_0 d_0_1 d_0_2 t_1=>z37_sh d_0_0 d_0_1 d_0_2 t_1 (kk [tB] Kv)) nF vs w
def z37_A (_:VW):A:=(qr 2 (qs (A.reg (qn 5 (RA.spl 8 (qn 5 (RA.spl 13 (qn 6 (RA.spl 19 (qn 5 RA.done) (qk 3 (qn 2 RA.done)))) (qk 4 (qn 2 (qk 3 (qn 2 RA.done)))))) (qk 3 (qn 2 (qk 4 (qn 2 (qk 3 (qn 2 RA.done))))))))) ql))
theorem z37_ok:Sound Tryz.prog 104 z37_S:=okS (x:=z37_A) (fun Kv d_0_0 d_0_1 d_0_2 t_1=>z37_sd d_0_0 d_0_1 d_0_2 t_1 (kk [tB] Kv)) progMixed (Γ:=[(51,z3h_S),(105,z2s_S),(106,z4a_S)]) ⟨.inl z3h_ok,.inl z2s_ok,.inl z4a_ok,trivial⟩ Tryz.call104 Tryz.func104 (fun _=>hEnd)
def z0e_sd (x_0_0 x_0_1:Int)(x_0_2 x_0_3:Int)(t_1:Addr)(K:Pw.T0)(w:World):Prop :=
 let w1:=w.alloc (Obj.cells #[(Value.int .i64 x_0_0),(Value.int .i64 x_0_1),(Value.int .i64 x_0_2),(Value.int .i64 x_0_3)] 57)
 ∃ x2:Value,w1.cell? t_1=some x2/\∃ x3:Int,w1.cell? (Addr.mk w.heap.size 0 none)=some (Value.int .i64 x3)/\∃ x4:Int,w1.cell? (Addr.mk w.heap.size 1 none)=some (Value.int .i64 x4)/\∃ x5:Int,w1.cell? (Addr.mk w.heap.size 2 none)=some (Value.int .i64 x5)/\∃ x6:Int,w1.cell? (Addr.mk w.heap.size 3 none)=some (Value.int .i64 x6)/\CallV Tryz.prog x2 [(Value.agg #[(Value.int .i64 x3),(Value.int .i64 x4),(Value.int .i64 x5),(Value.int .i64 x6)])] w1 fun u7 w8=>∃ x9:Bool,u7=(Value.bool x9)/\K (!x9) w8
structure z0e_sh (x_0_0 x_0_1:Int)(x_0_2 x_0_3:Int)(t_1:Addr)(K:Pw.T0)(w:World):Prop where
 out:z0e_sd x_0_0 x_0_1 x_0_2 x_0_3 t_1 K w
noncomputable def z0e_S:Pw.Spec:=fun vs w Kv=>un [.g 4,tI,tI,tI,tI,tQ] (fun x_0_0 x_0_1 x_0_2 x_0_3 t_1=>z0e_sh x_0_0 x_0_1 x_0_2 x_0_3 t_1 (kk [tB] Kv)) nF vs w
def z0e_A (_:VW):A:=(qr 2 (qs (A.reg (qn 2 (RA.dyn (Value.bool false) (qn 2 RA.done)))) ql))
theorem z0e_ok:Sound Tryz.prog 150 z0e_S:=okS (x:=z0e_A) (fun Kv x_0_0 x_0_1 x_0_2 x_0_3 t_1=>z0e_sd x_0_0 x_0_1 x_0_2 x_0_3 t_1 (kk [tB] Kv)) progMixed (Γ:=[]) trivial Tryz.call150 Tryz.func150 (fun _=>hEnd)
def z0s_sd (l_0:Sl)(ok_1:Value)(K:Pw.T0)(w:World):Prop :=
 let w1:=w.alloc (Obj.cells (Value.cells ok_1) 142)
 z00_sh l_0 (Value.func (.func 150) #[] #[(Value.pointer (some (Addr.mk w.heap.size 0 none)))]) (fun r3 w2=>K (!r3) w2) w1
structure z0s_sh (l_0:Sl)(ok_1:Value)(K:Pw.T0)(w:World):Prop where
 out:z0s_sd l_0 ok_1 K w
noncomputable def z0s_S:Pw.Spec:=fun vs w Kv=>un [tL,tV] (fun l_0 ok_1=>z0s_sh l_0 ok_1 (kk [tB] Kv)) nF vs w
def z0s_A (_:VW):A:=(qr 2 (qr 5 ql))
theorem z0s_ok:Sound Tryz.prog 107 z0s_S:=okS (x:=z0s_A) (fun Kv l_0 ok_1=>z0s_sd l_0 ok_1 (kk [tB] Kv)) progMixed (Γ:=[(132,z00_S)]) ⟨.inl z00_ok,trivial⟩ Tryz.call107 Tryz.func107 (fun _=>hEnd)
def z0r_sd (x_0_0:Int)(x_0_1:Sl)(x_0_2:Int)(t_1:Addr)(K:Pw.T0)(w:World):Prop :=
 let w1:=w.alloc (Obj.cells #[(Value.int .i64 x_0_0),(Value.slice x_0_1.p x_0_1.l x_0_1.c),(Value.int .i64 x_0_2)] 81)
 ∃ x2:Value,w1.cell? t_1=some x2/\∃ x3:Int,w1.cell? (Addr.mk w.heap.size 0 none)=some (Value.int .i64 x3)/\∃ x4:Sl,w1.cell? (Addr.mk w.heap.size 1 none)=some (Value.slice x4.p x4.l x4.c)/\∃ x5:Int,w1.cell? (Addr.mk w.heap.size 2 none)=some (Value.int .i64 x5)/\CallV Tryz.prog x2 [(Value.agg #[(Value.int .i64 x3),(Value.slice x4.p x4.l x4.c),(Value.int .i64 x5)])] w1 fun u6 w7=>∃ x8:Bool,u6=(Value.bool x8)/\K (!x8) w7
structure z0r_sh (x_0_0:Int)(x_0_1:Sl)(x_0_2:Int)(t_1:Addr)(K:Pw.T0)(w:World):Prop where
 out:z0r_sd x_0_0 x_0_1 x_0_2 t_1 K w
noncomputable def z0r_S:Pw.Spec:=fun vs w Kv=>un [.g 3,tI,tL,tI,tQ] (fun x_0_0 x_0_1 x_0_2 t_1=>z0r_sh x_0_0 x_0_1 x_0_2 t_1 (kk [tB] Kv)) nF vs w
def z0r_A (_:VW):A:=(qr 2 (qs (A.reg (qn 2 (RA.dyn (Value.bool false) (qn 2 RA.done)))) ql))
theorem z0r_ok:Sound Tryz.prog 152 z0r_S:=okS (x:=z0r_A) (fun Kv x_0_0 x_0_1 x_0_2 t_1=>z0r_sd x_0_0 x_0_1 x_0_2 t_1 (kk [tB] Kv)) progMixed (Γ:=[]) trivial Tryz.call152 Tryz.func152 (fun _=>hEnd)
def z0d_b0 (s_0:Sl)(f_1:Value)(t_7 t_8:Int)(N0:Sl->Value->Int->Int->World->Prop)(K:Pw.T1)(w:World):Prop :=
 cnd (decide (t_8<t_7))
 (nz s_0.p fun a1=>(0<=t_8/\t_8<(s_0.l:Nat))/\∃ x2:Int,w.cell? (a1.add (t_8.toNat*3))=some (Value.int .i64 x2)/\∃ x3:Sl,w.cell? ((a1.add (t_8.toNat*3)).add 1)=some (Value.slice x3.p x3.l x3.c)/\∃ x4:Int,w.cell? ((a1.add (t_8.toNat*3)).add 2)=some (Value.int .i64 x4)/\CallV Tryz.prog f_1 [(Value.agg #[(Value.int .i64 x2),(Value.slice x3.p x3.l x3.c),(Value.int .i64 x4)])] w fun u5 w6=>∃ x7:Bool,u5=(Value.bool x7)/\cnd x7
 (K t_8 w6)
 (inR .i64 (t_8+(1:Int))/\N0 s_0 f_1 t_7 (t_8+(1:Int)) w6))
 (K (-1:Int) w)
def z0d_l0d (s_0:Sl)(f_1:Value)(t_7 t_8:Int)(K:Pw.T1)(w:World):Prop :=
 ∃ (I:Int->World->Prop) (μ:Int->World->Nat),I t_8 w/\∀ (t_81:Int) (w1:World),I t_81 w1 ->
 z0d_b0 s_0 f_1 t_7 t_81 (fun s_0' f_1' t_7' t_8' w'=>((s_0'=s_0/\f_1'=f_1/\t_7'=t_7/\True)/\I t_8' w')/\μ t_8' w'<μ t_81 w1) K w1
structure z0d_l0 (s_0:Sl)(f_1:Value)(t_7 t_8:Int)(K:Pw.T1)(w:World):Prop where
 out:z0d_l0d s_0 f_1 t_7 t_8 K w
def z0d_sd (s_0:Sl)(f_1:Value)(K:Pw.T1)(w:World):Prop :=
 z0d_l0 s_0 f_1 (s_0.l:Int) (0:Int) K w
structure z0d_sh (s_0:Sl)(f_1:Value)(K:Pw.T1)(w:World):Prop where
 out:z0d_sd s_0 f_1 K w
def z0d_L0 (Kv:VW):Cur [tL,tV,tI,tI] WP:=fun s_0 f_1 t_7 t_8=>z0d_l0 s_0 f_1 t_7 t_8 (kk [tI] Kv)
noncomputable def z0d_S:Pw.Spec:=fun vs w Kv=>un [tL,tV] (fun s_0 f_1=>z0d_sh s_0 f_1 (kk [tI] Kv)) nF vs w
def z0d_A (Kv:VW):A:=(qr 1 (qs (qr 3 (qb (A.loop [0,1,7,8] (uR0 [tL,tV,tI,tI] (z0d_L0 Kv)) (qr 1 (qs (qc ql ql) (qs (qb (qr 2 (qs (A.reg (qn 5 (RA.dyn (Value.bool false) RA.done))) (qc (qr 2 ql) ql)))) (qe 2))))))) (qr 1 ql)))
theorem z0d_ok:Sound Tryz.prog 188 z0d_S:=okS (x:=z0d_A) (fun Kv s_0 f_1=>z0d_sd s_0 f_1 (kk [tI] Kv)) progMixed (Γ:=[]) trivial Tryz.call188 Tryz.func188 (fun Kv=>hStep (hLoop0 (L:=z0d_L0 Kv) (fun N0 s_0 f_1 t_7 t_8=>z0d_b0 s_0 f_1 t_7 t_8 N0 (kk [tI] Kv)) (fun⟨a0,a1,a2,_,_⟩ _ h=>let ⟨I,μ,h0,hr⟩:=h.out; ⟨fun b0 b1 b2 b3 w=>(b0=a0/\b1=a1/\b2=a2/\True)/\I b3 w,fun _ _ _ b3 w=>μ b3 w,⟨⟨rfl,rfl,rfl,trivial⟩,h0⟩,fun⟨_,_,_,_,_⟩ _ ⟨⟨e0,e1,e2,_⟩,hI⟩=>by cases e0; cases e1; cases e2; exact hr _ _ hI⟩)) <| hEnd)
def z02_sd (s_0:Sl)(f_1:Value)(K:Pw.T0)(w:World):Prop :=
 z0d_sh s_0 f_1 (fun r2 w1=>K (decide (r2>=(0:Int))) w1) w
structure z02_sh (s_0:Sl)(f_1:Value)(K:Pw.T0)(w:World):Prop where
 out:z02_sd s_0 f_1 K w
noncomputable def z02_S:Pw.Spec:=fun vs w Kv=>un [tL,tV] (fun s_0 f_1=>z02_sh s_0 f_1 (kk [tB] Kv)) nF vs w
def z02_A (_:VW):A:=(qr 1 (qr 5 ql))
theorem z02_ok:Sound Tryz.prog 151 z02_S:=okS (x:=z02_A) (fun Kv s_0 f_1=>z02_sd s_0 f_1 (kk [tB] Kv)) progMixed (Γ:=[(188,z0d_S)]) ⟨.inl z0d_ok,trivial⟩ Tryz.call151 Tryz.func151 (fun _=>hEnd)
def z1e_sd (l_0:Sl)(ok_1:Value)(K:Pw.T0)(w:World):Prop :=
 let w1:=w.alloc (Obj.cells (Value.cells ok_1) 143)
 z02_sh l_0 (Value.func (.func 152) #[] #[(Value.pointer (some (Addr.mk w.heap.size 0 none)))]) (fun r3 w2=>K (!r3) w2) w1
structure z1e_sh (l_0:Sl)(ok_1:Value)(K:Pw.T0)(w:World):Prop where
 out:z1e_sd l_0 ok_1 K w
noncomputable def z1e_S:Pw.Spec:=fun vs w Kv=>un [tL,tV] (fun l_0 ok_1=>z1e_sh l_0 ok_1 (kk [tB] Kv)) nF vs w
def z1e_A (_:VW):A:=(qr 2 (qr 5 ql))
theorem z1e_ok:Sound Tryz.prog 108 z1e_S:=okS (x:=z1e_A) (fun Kv l_0 ok_1=>z1e_sd l_0 ok_1 (kk [tB] Kv)) progMixed (Γ:=[(151,z02_S)]) ⟨.inl z02_ok,trivial⟩ Tryz.call108 Tryz.func108 (fun _=>hEnd)
def z3n_sd (p_0_0 p_0_1 p_0_2:Sl)(p_0_3 p_0_4:Int)(K:Pw.T0)(w:World):Prop :=
 let w1:=w.alloc (Obj.cells #[(Value.slice p_0_0.p p_0_0.l p_0_0.c),(Value.slice p_0_1.p p_0_1.l p_0_1.c),(Value.slice p_0_2.p p_0_2.l p_0_2.c),(Value.int .i64 p_0_3),(Value.int .i64 p_0_4)] 28)
 let w2:=w1.alloc (Obj.cells #[Value.nilFunc] 123)
 wrOk w2 (Addr.mk w1.heap.size 0 none)/\
 (let w3:=w2.setCell (Addr.mk w1.heap.size 0 none) (Value.func (.func 101) #[] #[(Value.pointer (some (Addr.mk w.heap.size 0 none)))])
 ∃ x4:Sl,w3.cell? (Addr.mk w.heap.size 0 none)=some (Value.slice x4.p x4.l x4.c)/\cnd (decide ((x4.l:Int)>(0:Int)))
 (∃ x5:Sl,w3.cell? (Addr.mk w.heap.size 0 none)=some (Value.slice x5.p x5.l x5.c)/\cnd (decide ((x5.l:Int)<=(12:Int)))
 (∃ x6:Sl,w3.cell? (Addr.mk w.heap.size 0 none)=some (Value.slice x6.p x6.l x6.c)/\z2s_sh x6 (fun r8 w7=>cnd r8
 (∃ x9:Sl,w7.cell? (Addr.mk w.heap.size 1 none)=some (Value.slice x9.p x9.l x9.c)/\cnd (decide ((x9.l:Int)<=(480:Int)))
 (∃ x10:Sl,w7.cell? (Addr.mk w.heap.size 2 none)=some (Value.slice x10.p x10.l x10.c)/\cnd (decide ((x10.l:Int)<=(100:Int)))
 (∃ x11:Int,w7.cell? (Addr.mk w.heap.size 3 none)=some (Value.int .i64 x11)/\z3h_sh x11 (1000000000:Int) (fun r13 w12=>cnd r13
 (∃ x14:Int,w12.cell? (Addr.mk w.heap.size 4 none)=some (Value.int .i64 x14)/\z3h_sh x14 (1000000000:Int) (fun r16 w15=>cnd r16
 (∃ x17:Sl,w15.cell? (Addr.mk w.heap.size 1 none)=some (Value.slice x17.p x17.l x17.c)/\z0s_sh x17 (Value.func (.func 103) #[] #[(Value.pointer (some (Addr.mk w1.heap.size 0 none)))]) (fun r19 w18=>cnd r19
 (∃ x20:Sl,w18.cell? (Addr.mk w.heap.size 2 none)=some (Value.slice x20.p x20.l x20.c)/\z1e_sh x20 (Value.func (.func 104) #[] #[(Value.pointer (some (Addr.mk w1.heap.size 0 none)))]) (fun r22 w21=>K r22 w21) w18)
 (K false w18)) w15)
 (K false w15)) w12)
 (K false w12)) w7)
 (K false w7))
 (K false w7))
 (K false w7)) w3)
 (K false w3))
 (K false w3))
structure z3n_sh (p_0_0 p_0_1 p_0_2:Sl)(p_0_3 p_0_4:Int)(K:Pw.T0)(w:World):Prop where
 out:z3n_sd p_0_0 p_0_1 p_0_2 p_0_3 p_0_4 K w
noncomputable def z3n_S:Pw.Spec:=fun vs w Kv=>un [.g 5,tL,tL,tL,tI,tI] (fun p_0_0 p_0_1 p_0_2 p_0_3 p_0_4=>z3n_sh p_0_0 p_0_1 p_0_2 p_0_3 p_0_4 (kk [tB] Kv)) nF vs w
def z3n_A (_:VW):A:=(qr 2 (qr 3 (qr 2 (qr 2 (qs (A.reg (qn 5 (RA.spl 13 (qn 6 (RA.spl 19 (qn 5 (RA.spl 24 (qn 6 (RA.spl 30 (qn 6 (RA.spl 36 (qn 5 (RA.spl 41 (qn 5 (RA.spl 46 (qn 6 (RA.spl 52 (qn 6 RA.done) (qk 4 (qn 2 RA.done)))) (qk 4 (qn 2 (qk 4 (qn 2 RA.done)))))) (qk 3 (qn 2 (qk 4 (qn 2 (qk 4 (qn 2 RA.done)))))))) (qk 3 (qn 2 (qk 3 (qn 2 (qk 4 (qn 2 (qk 4 (qn 2 RA.done)))))))))) (qk 4 (qn 2 (qk 3 (qn 2 (qk 3 (qn 2 (qk 4 (qn 2 (qk 4 (qn 2 RA.done)))))))))))) (qk 4 (qn 2 (qk 4 (qn 2 (qk 3 (qn 2 (qk 3 (qn 2 (qk 4 (qn 2 (qk 4 (qn 2 RA.done)))))))))))))) (qk 3 (qn 2 (qk 4 (qn 2 (qk 4 (qn 2 (qk 3 (qn 2 (qk 3 (qn 2 (qk 4 (qn 2 (qk 4 (qn 2 RA.done)))))))))))))))) (qk 4 (qn 2 (qk 3 (qn 2 (qk 4 (qn 2 (qk 4 (qn 2 (qk 3 (qn 2 (qk 3 (qn 2 (qk 4 (qn 2 (qk 4 (qn 2 RA.done))))))))))))))))))) ql)))))
theorem z3n_ok:Sound Tryz.prog 50 z3n_S:=okS (x:=z3n_A) (fun Kv p_0_0 p_0_1 p_0_2 p_0_3 p_0_4=>z3n_sd p_0_0 p_0_1 p_0_2 p_0_3 p_0_4 (kk [tB] Kv)) progMixed (Γ:=[(51,z3h_S),(105,z2s_S),(107,z0s_S),(108,z1e_S)]) ⟨.inl z3h_ok,.inl z2s_ok,.inl z0s_ok,.inl z1e_ok,trivial⟩ Tryz.call50 Tryz.func50 (fun _=>hEnd)
def z54_sd (x_0 y_1:Int)(K:Pw.T5)(w:World):Prop :=
 z4p_sh x_0 y_1 (fun r2 r3 w1=>K r2 r3 w1) w
structure z54_sh (x_0 y_1:Int)(K:Pw.T5)(w:World):Prop where
 out:z54_sd x_0 y_1 K w
noncomputable def z54_S:Pw.Spec:=fun vs w Kv=>un [tU,tU] (fun x_0 y_1=>z54_sh x_0 y_1 (kk [.u 2,tU,tU] Kv)) nF vs w
def z54_A (_:VW):A:=(qr 2 (qs (qc ql ql) (qr 8 (qr 4 ql))))
theorem z54_ok:Sound Tryz.prog 109 z54_S:=okS (x:=z54_A) (fun Kv x_0 y_1=>z54_sd x_0 y_1 (kk [.u 2,tU,tU] Kv)) progMixed (Γ:=[(154,z4p_S)]) ⟨.inl z4p_ok,trivial⟩ Tryz.call109 Tryz.func109 (fun _=>hEnd)
def z3v_k0d (x_0:Sl)(lo_6:Int)(K:Pw.T2)(w:World):Prop :=
 False
structure z3v_k0 (x_0:Sl)(lo_6:Int)(K:Pw.T2)(w:World):Prop where
 out:z3v_k0d x_0 lo_6 K w
def z3v_b1 (newslice_7:Sl)(n_8:Int)(N1:Sl->Int->World->Prop)(K:Pw.T2)(w:World):Prop :=
 cnd (decide (n_8<(newslice_7.l:Int)))
 (let w8:=w.drew
 ∃ S9:World->Prop,S9 w8/\(0<=n_8/\n_8<=(newslice_7.l:Nat))/\(0<=(0:Int)/\(0:Int)<=n_8/\n_8<=(newslice_7.c:Nat))/\cpS 1 (Sl.mk (subP newslice_7.p n_8.toNat newslice_7.c 1) (newslice_7.l-n_8.toNat) (newslice_7.c-n_8.toNat)) (Sl.mk (subP newslice_7.p 0 newslice_7.c 1) (n_8.toNat-0) (newslice_7.c-0)) w8 fun x10 w11=>inR .i64 (n_8+x10)/\N1 newslice_7 (n_8+x10) w11)
 (K newslice_7 w)
def z3v_l1d (newslice_7:Sl)(n_8:Int)(K:Pw.T2)(w:World):Prop :=
 ∃ (I:Int->World->Prop) (μ:Int->World->Nat),I n_8 w/\∀ (n_81:Int) (w1:World),I n_81 w1 ->
 z3v_b1 newslice_7 n_81 (fun newslice_7' n_8' w'=>((newslice_7'=newslice_7/\True)/\I n_8' w')/\μ n_8' w'<μ n_81 w1) K w1
structure z3v_l1 (newslice_7:Sl)(n_8:Int)(K:Pw.T2)(w:World):Prop where
 out:z3v_l1d newslice_7 n_8 K w
def z3v_sd (x_0:Sl)(count_1:Int)(K:Pw.T2)(w:World):Prop :=
 cnd (decide (count_1<(0:Int)))
 (False)
 (inR .u64 (x_0.l:Int)/\inR .u64 count_1/\z54_sh (x_0.l:Int) count_1 (fun r2 r3 w1=>cnd (decide (r2>(0:Int)))
 (z3v_k0 x_0 r3 K w1)
 (cnd (decide (r3>(9223372036854775807:Int)))
 (z3v_k0 x_0 r3 K w1)
 (inR .i64 r3/\mkS 8 [(Value.int .i64 0)] 3 r3 r3 w1 fun s4 w5=>cpS 1 s4 x_0 w5 fun x6 w7=>z3v_l1 s4 x6 K w7))) w)
structure z3v_sh (x_0:Sl)(count_1:Int)(K:Pw.T2)(w:World):Prop where
 out:z3v_sd x_0 count_1 K w
def z3v_L0 (Kv:VW):Cur [tL,tU] WP:=fun x_0 lo_6=>z3v_k0 x_0 lo_6 (kk [tL] Kv)
def z3v_L1 (Kv:VW):Cur [tL,tI] WP:=fun newslice_7 n_8=>z3v_l1 newslice_7 n_8 (kk [tL] Kv)
noncomputable def z3v_S:Pw.Spec:=fun vs w Kv=>un [tL,tI] (fun x_0 count_1=>z3v_sh x_0 count_1 (kk [tL] Kv)) nF vs w
def z3v_A (Kv:VW):A:=(qr 1 (qs (qr 2 (qc (qe 2) ql)) (qr 11 (qs (qs (A.reg (qn 3 (RA.spl 23 (qk 2 (qn 1 RA.done)) (qn 3 RA.done)))) (qc (A.cut [0,6] (uR0 [tL,tU] (z3v_L0 Kv)) (qe 2)) ql)) (qr 4 (qr 4 (qs (qb (A.loop [7,8] (uR0 [tL,tI] (z3v_L1 Kv)) (qs (qr 4 (qc ql ql)) (qb (A.drw (dp [0,1,2,3,4,5,6] (DA.eff 7 (dp [8,9] DA.done)))))))) (qr 2 ql))))))))
theorem z3v_ok:Sound Tryz.prog 52 z3v_S:=okS (x:=z3v_A) (fun Kv x_0 count_1=>z3v_sd x_0 count_1 (kk [tL] Kv)) progMixed (Γ:=[(109,z54_S)]) ⟨.inl z54_ok,trivial⟩ Tryz.call52 Tryz.func52 (fun Kv=>hStep (hCut0 (F:=z3v_L0 Kv) (G:=fun x_0 lo_6=>z3v_k0d x_0 lo_6 (kk [tL] Kv))) <| hStep (hLoop0 (L:=z3v_L1 Kv) (fun N1 newslice_7 n_8=>z3v_b1 newslice_7 n_8 N1 (kk [tL] Kv)) (fun⟨a0,_,_⟩ _ h=>let ⟨I,μ,h0,hr⟩:=h.out; ⟨fun b0 b1 w=>(b0=a0/\True)/\I b1 w,fun _ b1 w=>μ b1 w,⟨⟨rfl,trivial⟩,h0⟩,fun⟨_,_,_⟩ _ ⟨⟨e0,_⟩,hI⟩=>by cases e0; exact hr _ _ hI⟩)) <| hEnd)
def z13_b0 (f_1:Addr)(out_3 t_7:Sl)(t_8 t_9:Int)(N0:Addr->Sl->Sl->Int->Int->World->Prop)(K:Pw.T2)(w:World):Prop :=
 cnd (decide (t_9<t_8))
 (nz t_7.p fun a3=>(0<=t_9/\t_9<(t_7.l:Nat))/\∃ x4:Int,w.cell? (a3.add (t_9.toNat*1))=some (Value.int .i64 x4)/\cnd (decide (x4>=(0:Int)))
 (∃ x5:Sl,w.cell? (f_1.add 1)=some (Value.slice x5.p x5.l x5.c)/\nz x5.p fun a6=>(0<=x4/\x4<(x5.l:Nat))/\∃ x7:Int,w.cell? (a6.add (x4.toNat*4))=some (Value.int .i64 x7)/\∃ x8:Int,w.cell? ((a6.add (x4.toNat*4)).add 1)=some (Value.int .i64 x8)/\∃ x9:Int,w.cell? ((a6.add (x4.toNat*4)).add 2)=some (Value.int .i64 x9)/\∃ x10:Int,w.cell? ((a6.add (x4.toNat*4)).add 3)=some (Value.int .i64 x10)/\let w11:=w.alloc (Obj.cells #[(Value.int .i64 x7),(Value.int .i64 x8),(Value.int .i64 x9),(Value.int .i64 x10)] 57)
 apS 4 32 [(Value.int .i64 0),(Value.int .i64 0),(Value.int .i64 0),(Value.int .i64 0)] 57 out_3 (Sl.mk (some (Addr.mk w.heap.size 0 none)) 1 1) w11 fun s12 w13=>inR .i64 (t_9+(1:Int))/\N0 f_1 s12 t_7 t_8 (t_9+(1:Int)) w13)
 (inR .i64 (t_9+(1:Int))/\N0 f_1 out_3 t_7 t_8 (t_9+(1:Int)) w))
 (K out_3 w)
def z13_l0d (f_1:Addr)(out_3 t_7:Sl)(t_8 t_9:Int)(K:Pw.T2)(w:World):Prop :=
 ∃ (I:Sl->Int->World->Prop) (μ:Sl->Int->World->Nat),I out_3 t_9 w/\∀ (out_31:Sl) (t_91:Int) (w1:World),I out_31 t_91 w1 ->
 z13_b0 f_1 out_31 t_7 t_8 t_91 (fun f_1' out_3' t_7' t_8' t_9' w'=>((f_1'=f_1/\t_7'=t_7/\t_8'=t_8/\True)/\I out_3' t_9' w')/\μ out_3' t_9' w'<μ out_31 t_91 w1) K w1
structure z13_l0 (f_1:Addr)(out_3 t_7:Sl)(t_8 t_9:Int)(K:Pw.T2)(w:World):Prop where
 out:z13_l0d f_1 out_3 t_7 t_8 t_9 K w
def z13_sd (f_0_0 f_0_1 f_0_2:Sl)(f_0_3 f_0_4:Int)(f_0_5:Sl)(K:Pw.T2)(w:World):Prop :=
 let w1:=w.alloc (Obj.cells #[(Value.slice f_0_0.p f_0_0.l f_0_0.c),(Value.slice f_0_1.p f_0_1.l f_0_1.c),(Value.slice f_0_2.p f_0_2.l f_0_2.c),(Value.int .i64 f_0_3),(Value.int .i64 f_0_4),(Value.slice f_0_5.p f_0_5.l f_0_5.c)] 99)
 ∃ x2:Sl,w1.cell? (Addr.mk w.heap.size 5 none)=some (Value.slice x2.p x2.l x2.c)/\z13_l0 (Addr.mk w.heap.size 0 none) (Sl.mk none 0 0) x2 (x2.l:Int) (0:Int) K w1
structure z13_sh (f_0_0 f_0_1 f_0_2:Sl)(f_0_3 f_0_4:Int)(f_0_5:Sl)(K:Pw.T2)(w:World):Prop where
 out:z13_sd f_0_0 f_0_1 f_0_2 f_0_3 f_0_4 f_0_5 K w
def z13_L0 (Kv:VW):Cur [tQ,tL,tL,tI,tI] WP:=fun f_1 out_3 t_7 t_8 t_9=>z13_l0 f_1 out_3 t_7 t_8 t_9 (kk [tL] Kv)
noncomputable def z13_S:Pw.Spec:=fun vs w Kv=>un [.g 6,tL,tL,tL,tI,tI,tL] (fun f_0_0 f_0_1 f_0_2 f_0_3 f_0_4 f_0_5=>z13_sh f_0_0 f_0_1 f_0_2 f_0_3 f_0_4 f_0_5 (kk [tL] Kv)) nF vs w
def z13_A (Kv:VW):A:=(qr 2 (qr 1 (qs (qr 4 (qb (A.loop [1,3,7,8,9] (uR0 [tQ,tL,tL,tI,tI] (z13_L0 Kv)) (qr 1 (qs (qc ql ql) (qs (qb (qr 3 (qr 2 (qc (qe 10) ql)))) (qe 2))))))) (qr 2 ql))))
theorem z13_ok:Sound Tryz.prog 115 z13_S:=okS (x:=z13_A) (fun Kv f_0_0 f_0_1 f_0_2 f_0_3 f_0_4 f_0_5=>z13_sd f_0_0 f_0_1 f_0_2 f_0_3 f_0_4 f_0_5 (kk [tL] Kv)) progMixed (Γ:=[]) trivial Tryz.call115 Tryz.func115 (fun Kv=>hStep (hLoop0 (L:=z13_L0 Kv) (fun N0 f_1 out_3 t_7 t_8 t_9=>z13_b0 f_1 out_3 t_7 t_8 t_9 N0 (kk [tL] Kv)) (fun⟨a0,_,a2,a3,_,_⟩ _ h=>let ⟨I,μ,h0,hr⟩:=h.out; ⟨fun b0 b1 b2 b3 b4 w=>(b0=a0/\b2=a2/\b3=a3/\True)/\I b1 b4 w,fun _ b1 _ _ b4 w=>μ b1 b4 w,⟨⟨rfl,rfl,rfl,trivial⟩,h0⟩,fun⟨_,_,_,_,_,_⟩ _ ⟨⟨e0,e2,e3,_⟩,hI⟩=>by cases e0; cases e2; cases e3; exact hr _ _ _ hI⟩)) <| hEnd)
def z0k_b0 (f_1:Addr)(many_3:Nat)(t_8:Sl)(t_9 t_10:Int)(N0:Addr->Nat->Sl->Int->Int->World->Prop)(K:Pw.T0)(w:World):Prop :=
 cnd (decide (t_10<t_9))
 (nz t_8.p fun a11=>(0<=t_10/\t_10<(t_8.l:Nat))/\∃ x12:Int,w.cell? (a11.add (t_10.toNat*4))=some (Value.int .i64 x12)/\∃ x13:Int,w.cell? ((a11.add (t_10.toNat*4)).add 1)=some (Value.int .i64 x13)/\∃ x14:Int,w.cell? ((a11.add (t_10.toNat*4)).add 2)=some (Value.int .i64 x14)/\∃ x15:Int,w.cell? ((a11.add (t_10.toNat*4)).add 3)=some (Value.int .i64 x15)/\let w16:=w.alloc (Obj.cells #[(Value.int .i64 0),(Value.int .i64 0),(Value.int .i64 0),(Value.int .i64 0)] 57)
 stN w16 (Addr.mk w.heap.size 0 none) [(Value.int .i64 x12),(Value.int .i64 x13),(Value.int .i64 x14),(Value.int .i64 x15)] fun w17=>∃ x18:Int,w17.cell? (Addr.mk w.heap.size 1 none)=some (Value.int .i64 x18)/\∃ l19:List (Int × Int),Mp w17 many_3 .i64 (l19.map fun p=>(p.1,Value.int .i64 p.2))/\inR .i64 ((mgetD (0:Int) x18 l19)+(1:Int))/\(∃ l:List (Int × Value),Mp w17 many_3 .i64 l)/\let w20:=w17.mset many_3 .i64 x18 (Value.int .i64 ((mgetD (0:Int) x18 l19)+(1:Int)))
 ∃ x21:Int,w20.cell? (f_1.add 3)=some (Value.int .i64 x21)/\cnd (decide (x21>(0:Int)))
 (∃ x22:Int,w20.cell? (Addr.mk w.heap.size 1 none)=some (Value.int .i64 x22)/\∃ l23:List (Int × Int),Mp w20 many_3 .i64 (l23.map fun p=>(p.1,Value.int .i64 p.2))/\∃ x24:Int,w20.cell? (f_1.add 3)=some (Value.int .i64 x24)/\cnd (decide ((mgetD (0:Int) x22 l23)>x24))
 (K true w20)
 (inR .i64 (t_10+(1:Int))/\N0 f_1 many_3 t_8 t_9 (t_10+(1:Int)) w20))
 (inR .i64 (t_10+(1:Int))/\N0 f_1 many_3 t_8 t_9 (t_10+(1:Int)) w20))
 (K false w)
def z0k_l0d (f_1:Addr)(many_3:Nat)(t_8:Sl)(t_9 t_10:Int)(K:Pw.T0)(w:World):Prop :=
 ∃ (I:Int->World->Prop) (μ:Int->World->Nat),I t_10 w/\∀ (t_101:Int) (w1:World),I t_101 w1 ->
 z0k_b0 f_1 many_3 t_8 t_9 t_101 (fun f_1' many_3' t_8' t_9' t_10' w'=>((f_1'=f_1/\many_3'=many_3/\t_8'=t_8/\t_9'=t_9/\True)/\I t_10' w')/\μ t_10' w'<μ t_101 w1) K w1
structure z0k_l0 (f_1:Addr)(many_3:Nat)(t_8:Sl)(t_9 t_10:Int)(K:Pw.T0)(w:World):Prop where
 out:z0k_l0d f_1 many_3 t_8 t_9 t_10 K w
def z0k_sd (f_0_0 f_0_1 f_0_2:Sl)(f_0_3 f_0_4:Int)(f_0_5:Sl)(K:Pw.T0)(w:World):Prop :=
 let w1:=w.alloc (Obj.cells #[(Value.slice f_0_0.p f_0_0.l f_0_0.c),(Value.slice f_0_1.p f_0_1.l f_0_1.c),(Value.slice f_0_2.p f_0_2.l f_0_2.c),(Value.int .i64 f_0_3),(Value.int .i64 f_0_4),(Value.slice f_0_5.p f_0_5.l f_0_5.c)] 99)
 let w2:=w1.alloc (Obj.map #[] 0)
 ∃ x3:Sl,w2.cell? (Addr.mk w.heap.size 0 none)=some (Value.slice x3.p x3.l x3.c)/\∃ x4:Sl,w2.cell? (Addr.mk w.heap.size 1 none)=some (Value.slice x4.p x4.l x4.c)/\∃ x5:Sl,w2.cell? (Addr.mk w.heap.size 2 none)=some (Value.slice x5.p x5.l x5.c)/\∃ x6:Int,w2.cell? (Addr.mk w.heap.size 3 none)=some (Value.int .i64 x6)/\∃ x7:Int,w2.cell? (Addr.mk w.heap.size 4 none)=some (Value.int .i64 x7)/\∃ x8:Sl,w2.cell? (Addr.mk w.heap.size 5 none)=some (Value.slice x8.p x8.l x8.c)/\z13_sh x3 x4 x5 x6 x7 x8 (fun r10 w9=>z0k_l0 (Addr.mk w.heap.size 0 none) w1.heap.size r10 (r10.l:Int) (0:Int) K w9) w2
structure z0k_sh (f_0_0 f_0_1 f_0_2:Sl)(f_0_3 f_0_4:Int)(f_0_5:Sl)(K:Pw.T0)(w:World):Prop where
 out:z0k_sd f_0_0 f_0_1 f_0_2 f_0_3 f_0_4 f_0_5 K w
def z0k_L0 (Kv:VW):Cur [tQ,tN,tL,tI,tI] WP:=fun f_1 many_3 t_8 t_9 t_10=>z0k_l0 f_1 many_3 t_8 t_9 t_10 (kk [tB] Kv)
noncomputable def z0k_S:Pw.Spec:=fun vs w Kv=>un [.g 6,tL,tL,tL,tI,tI,tL] (fun f_0_0 f_0_1 f_0_2 f_0_3 f_0_4 f_0_5=>z0k_sh f_0_0 f_0_1 f_0_2 f_0_3 f_0_4 f_0_5 (kk [tB] Kv)) nF vs w
def z0k_A (Kv:VW):A:=(qr 2 (qr 2 (qs (qr 4 (qb (A.loop [1,3,8,9,10] (uR0 [tQ,tN,tL,tI,tI] (z0k_L0 Kv)) (qr 1 (qs (qc ql ql) (qs (qb (qr 4 (qr 6 (qs (A.reg (qn 5 (RA.spl 23 (qn 9 RA.done) (qk 8 (qn 1 RA.done))))) (qc (qr 1 ql) ql))))) (qe 2))))))) (qr 1 ql))))
theorem z0k_ok:Sound Tryz.prog 155 z0k_S:=okS (x:=z0k_A) (fun Kv f_0_0 f_0_1 f_0_2 f_0_3 f_0_4 f_0_5=>z0k_sd f_0_0 f_0_1 f_0_2 f_0_3 f_0_4 f_0_5 (kk [tB] Kv)) progMixed (Γ:=[(115,z13_S)]) ⟨.inl z13_ok,trivial⟩ Tryz.call155 Tryz.func155 (fun Kv=>hStep (hLoop0 (L:=z0k_L0 Kv) (fun N0 f_1 many_3 t_8 t_9 t_10=>z0k_b0 f_1 many_3 t_8 t_9 t_10 N0 (kk [tB] Kv)) (fun⟨a0,a1,a2,a3,_,_⟩ _ h=>let ⟨I,μ,h0,hr⟩:=h.out; ⟨fun b0 b1 b2 b3 b4 w=>(b0=a0/\b1=a1/\b2=a2/\b3=a3/\True)/\I b4 w,fun _ _ _ _ b4 w=>μ b4 w,⟨⟨rfl,rfl,rfl,rfl,trivial⟩,h0⟩,fun⟨_,_,_,_,_,_⟩ _ ⟨⟨e0,e1,e2,e3,_⟩,hI⟩=>by cases e0; cases e1; cases e2; cases e3; exact hr _ _ hI⟩)) <| hEnd)
def z12_sd (c_0_0 c_0_1:Int)(c_0_2 c_0_3:Int)(t_1 t_2:Addr)(K:Pw.T0)(w:World):Prop :=
 let w1:=w.alloc (Obj.cells #[(Value.int .i64 c_0_0),(Value.int .i64 c_0_1),(Value.int .i64 c_0_2),(Value.int .i64 c_0_3)] 57)
 ∃ x2:Int,w1.cell? (Addr.mk w.heap.size 0 none)=some (Value.int .i64 x2)/\∃ x3:Int,w1.cell? t_1=some (Value.int .i64 x3)/\cnd (x2 == x3)
 (∃ x4:Int,w1.cell? (Addr.mk w.heap.size 1 none)=some (Value.int .i64 x4)/\∃ x5:Int,w1.cell? t_2=some (Value.int .i64 x5)/\K (x4 == x5) w1)
 (K false w1)
structure z12_sh (c_0_0 c_0_1:Int)(c_0_2 c_0_3:Int)(t_1 t_2:Addr)(K:Pw.T0)(w:World):Prop where
 out:z12_sd c_0_0 c_0_1 c_0_2 c_0_3 t_1 t_2 K w
noncomputable def z12_S:Pw.Spec:=fun vs w Kv=>un [.g 4,tI,tI,tI,tI,tQ,tQ] (fun c_0_0 c_0_1 c_0_2 c_0_3 t_1 t_2=>z12_sh c_0_0 c_0_1 c_0_2 c_0_3 t_1 t_2 (kk [tB] Kv)) nF vs w
def z12_A (_:VW):A:=(qr 2 (qs (A.reg (qn 5 (RA.spl 9 (qn 6 RA.done) (qk 4 (qn 2 RA.done))))) ql))
theorem z12_ok:Sound Tryz.prog 229 z12_S:=okS (x:=z12_A) (fun Kv c_0_0 c_0_1 c_0_2 c_0_3 t_1 t_2=>z12_sd c_0_0 c_0_1 c_0_2 c_0_3 t_1 t_2 (kk [tB] Kv)) progMixed (Γ:=[]) trivial Tryz.call229 Tryz.func229 (fun _=>hEnd)
def z1t_sd (f_0_0 f_0_1 f_0_2:Sl)(f_0_3 f_0_4:Int)(f_0_5:Sl)(lot_1 bidder_2:Int)(K:Pw.T0)(w:World):Prop :=
 let w1:=w.alloc (Obj.cells #[(Value.slice f_0_0.p f_0_0.l f_0_0.c),(Value.slice f_0_1.p f_0_1.l f_0_1.c),(Value.slice f_0_2.p f_0_2.l f_0_2.c),(Value.int .i64 f_0_3),(Value.int .i64 f_0_4),(Value.slice f_0_5.p f_0_5.l f_0_5.c)] 99)
 let w2:=w1.alloc (Obj.cells #[(Value.int .i64 lot_1)] 3)
 let w3:=w2.alloc (Obj.cells #[(Value.int .i64 bidder_2)] 3)
 ∃ x4:Sl,w3.cell? (Addr.mk w.heap.size 0 none)=some (Value.slice x4.p x4.l x4.c)/\∃ x5:Int,w3.cell? (Addr.mk w1.heap.size 0 none)=some (Value.int .i64 x5)/\z46_sh x4 x5 (fun r7 w6=>∃ x8:Sl,w6.cell? (Addr.mk w.heap.size 5 none)=some (Value.slice x8.p x8.l x8.c)/\cnd (decide (r7<(x8.l:Int)))
 (let w9:=w6.drew
 ∃ x10:Sl,w9.cell? (Addr.mk w.heap.size 5 none)=some (Value.slice x10.p x10.l x10.c)/\nz x10.p fun a11=>(0<=r7/\r7<(x10.l:Nat))/\∃ x12:Int,w9.cell? (a11.add (r7.toNat*1))=some (Value.int .i64 x12)/\cnd (decide (x12>=(0:Int)))
 (∃ x13:Sl,w9.cell? (Addr.mk w.heap.size 1 none)=some (Value.slice x13.p x13.l x13.c)/\∃ x14:Sl,w9.cell? (Addr.mk w.heap.size 5 none)=some (Value.slice x14.p x14.l x14.c)/\nz x14.p fun a15=>(0<=r7/\r7<(x14.l:Nat))/\∃ x16:Int,w9.cell? (a15.add (r7.toNat*1))=some (Value.int .i64 x16)/\nz x13.p fun a17=>(0<=x16/\x16<(x13.l:Nat))/\∃ x18:Int,w9.cell? ((a17.add (x16.toNat*4)).add 1)=some (Value.int .i64 x18)/\∃ x19:Int,w9.cell? (Addr.mk w2.heap.size 0 none)=some (Value.int .i64 x19)/\K (x18 == x19) w9)
 (K false w9))
 (∃ x20:Sl,w6.cell? (Addr.mk w.heap.size 1 none)=some (Value.slice x20.p x20.l x20.c)/\z00_sh x20 (Value.func (.func 229) #[] #[(Value.pointer (some (Addr.mk w1.heap.size 0 none))),(Value.pointer (some (Addr.mk w2.heap.size 0 none)))]) (fun r22 w21=>K r22 w21) w6)) w3
structure z1t_sh (f_0_0 f_0_1 f_0_2:Sl)(f_0_3 f_0_4:Int)(f_0_5:Sl)(lot_1 bidder_2:Int)(K:Pw.T0)(w:World):Prop where
 out:z1t_sd f_0_0 f_0_1 f_0_2 f_0_3 f_0_4 f_0_5 lot_1 bidder_2 K w
noncomputable def z1t_S:Pw.Spec:=fun vs w Kv=>un [.g 6,tL,tL,tL,tI,tI,tL,tI,tI] (fun f_0_0 f_0_1 f_0_2 f_0_3 f_0_4 f_0_5 lot_1 bidder_2=>z1t_sh f_0_0 f_0_1 f_0_2 f_0_3 f_0_4 f_0_5 lot_1 bidder_2 (kk [tB] Kv)) nF vs w
def z1t_A (_:VW):A:=(qr 4 (qs (qr 6 (qr 5 (qc (qs (A.drp (dp [0,1,2,3,4,5,6] (DA.spl 24 (dp [7,8,9,10,11,12,13,14,15,16,17,18,19,20,21] DA.done) (DA.skp 7 (DA.skp 8 (DA.skp 9 (DA.skp 10 (DA.skp 11 (DA.skp 12 (DA.skp 13 (DA.skp 14 (DA.skp 15 (DA.skp 16 (DA.skp 17 (DA.skp 18 (DA.skp 19 (dp [20,21] DA.done))))))))))))))))) ql) ql))) (qr 6 ql)))
theorem z1t_ok:Sound Tryz.prog 213 z1t_S:=okS (x:=z1t_A) (fun Kv f_0_0 f_0_1 f_0_2 f_0_3 f_0_4 f_0_5 lot_1 bidder_2=>z1t_sd f_0_0 f_0_1 f_0_2 f_0_3 f_0_4 f_0_5 lot_1 bidder_2 (kk [tB] Kv)) progMixed (Γ:=[(132,z00_S),(148,z46_S)]) ⟨.inl z00_ok,.inl z46_ok,trivial⟩ Tryz.call213 Tryz.func213 (fun _=>hEnd)
def z0t_sd (id_0:Int)(t_1 t_2:Addr)(K:Pw.T0)(w:World):Prop :=
 ∃ x1:Sl,w.cell? t_1=some (Value.slice x1.p x1.l x1.c)/\∃ x2:Sl,w.cell? (t_1.add 1)=some (Value.slice x2.p x2.l x2.c)/\∃ x3:Sl,w.cell? (t_1.add 2)=some (Value.slice x3.p x3.l x3.c)/\∃ x4:Int,w.cell? (t_1.add 3)=some (Value.int .i64 x4)/\∃ x5:Int,w.cell? (t_1.add 4)=some (Value.int .i64 x5)/\∃ x6:Sl,w.cell? (t_1.add 5)=some (Value.slice x6.p x6.l x6.c)/\∃ x7:Int,w.cell? t_2=some (Value.int .i64 x7)/\z1t_sh x1 x2 x3 x4 x5 x6 id_0 x7 (fun r9 w8=>K r9 w8) w
structure z0t_sh (id_0:Int)(t_1 t_2:Addr)(K:Pw.T0)(w:World):Prop where
 out:z0t_sd id_0 t_1 t_2 K w
noncomputable def z0t_S:Pw.Spec:=fun vs w Kv=>un [tI,tQ,tQ] (fun id_0 t_1 t_2=>z0t_sh id_0 t_1 t_2 (kk [tB] Kv)) nF vs w
def z0t_A (_:VW):A:=(qr 1 (qr 6 ql))
theorem z0t_ok:Sound Tryz.prog 212 z0t_S:=okS (x:=z0t_A) (fun Kv id_0 t_1 t_2=>z0t_sd id_0 t_1 t_2 (kk [tB] Kv)) progMixed (Γ:=[(213,z1t_S)]) ⟨.inl z1t_ok,trivial⟩ Tryz.call212 Tryz.func212 (fun _=>hEnd)
def z1f_b0 (f_1:Addr)(sum_3:Int)(t_8:Sl)(t_9 t_10:Int)(N0:Addr->Int->Sl->Int->Int->World->Prop)(K:Pw.T1)(w:World):Prop :=
 cnd (decide (t_10<t_9))
 (nz t_8.p fun a3=>(0<=t_10/\t_10<(t_8.l:Nat))/\∃ x4:Int,w.cell? (a3.add (t_10.toNat*3))=some (Value.int .i64 x4)/\∃ x5:Sl,w.cell? ((a3.add (t_10.toNat*3)).add 1)=some (Value.slice x5.p x5.l x5.c)/\∃ x6:Int,w.cell? ((a3.add (t_10.toNat*3)).add 2)=some (Value.int .i64 x6)/\let w7:=w.alloc (Obj.cells #[(Value.int .i64 0),(Value.slice none 0 0),(Value.int .i64 0)] 81)
 stN w7 (Addr.mk w.heap.size 0 none) [(Value.int .i64 x4),(Value.slice x5.p x5.l x5.c),(Value.int .i64 x6)] fun w8=>∃ x9:Sl,w8.cell? (Addr.mk w.heap.size 1 none)=some (Value.slice x9.p x9.l x9.c)/\z4a_sh x9 (Value.func (.func 212) #[] #[(Value.pointer (some f_1)),(Value.pointer (some (Addr.mk w.heap.size 0 none)))]) (fun r11 w10=>cnd r11
 (∃ x12:Int,w10.cell? (Addr.mk w.heap.size 2 none)=some (Value.int .i64 x12)/\inR .i64 (sum_3+x12)/\inR .i64 (t_10+(1:Int))/\N0 f_1 (sum_3+x12) t_8 t_9 (t_10+(1:Int)) w10)
 (inR .i64 (t_10+(1:Int))/\N0 f_1 sum_3 t_8 t_9 (t_10+(1:Int)) w10)) w8)
 (K sum_3 w)
def z1f_l0d (f_1:Addr)(sum_3:Int)(t_8:Sl)(t_9 t_10:Int)(K:Pw.T1)(w:World):Prop :=
 ∃ (I:Int->Int->World->Prop) (μ:Int->Int->World->Nat),I sum_3 t_10 w/\∀ (sum_31 t_101:Int) (w1:World),I sum_31 t_101 w1 ->
 z1f_b0 f_1 sum_31 t_8 t_9 t_101 (fun f_1' sum_3' t_8' t_9' t_10' w'=>((f_1'=f_1/\t_8'=t_8/\t_9'=t_9/\True)/\I sum_3' t_10' w')/\μ sum_3' t_10' w'<μ sum_31 t_101 w1) K w1
structure z1f_l0 (f_1:Addr)(sum_3:Int)(t_8:Sl)(t_9 t_10:Int)(K:Pw.T1)(w:World):Prop where
 out:z1f_l0d f_1 sum_3 t_8 t_9 t_10 K w
def z1f_sd (f_0_0 f_0_1 f_0_2:Sl)(f_0_3 f_0_4:Int)(f_0_5:Sl)(K:Pw.T1)(w:World):Prop :=
 let w1:=w.alloc (Obj.cells #[(Value.slice f_0_0.p f_0_0.l f_0_0.c),(Value.slice f_0_1.p f_0_1.l f_0_1.c),(Value.slice f_0_2.p f_0_2.l f_0_2.c),(Value.int .i64 f_0_3),(Value.int .i64 f_0_4),(Value.slice f_0_5.p f_0_5.l f_0_5.c)] 99)
 ∃ x2:Sl,w1.cell? (Addr.mk w.heap.size 2 none)=some (Value.slice x2.p x2.l x2.c)/\z1f_l0 (Addr.mk w.heap.size 0 none) (0:Int) x2 (x2.l:Int) (0:Int) K w1
structure z1f_sh (f_0_0 f_0_1 f_0_2:Sl)(f_0_3 f_0_4:Int)(f_0_5:Sl)(K:Pw.T1)(w:World):Prop where
 out:z1f_sd f_0_0 f_0_1 f_0_2 f_0_3 f_0_4 f_0_5 K w
def z1f_L0 (Kv:VW):Cur [tQ,tI,tL,tI,tI] WP:=fun f_1 sum_3 t_8 t_9 t_10=>z1f_l0 f_1 sum_3 t_8 t_9 t_10 (kk [tI] Kv)
noncomputable def z1f_S:Pw.Spec:=fun vs w Kv=>un [.g 6,tL,tL,tL,tI,tI,tL] (fun f_0_0 f_0_1 f_0_2 f_0_3 f_0_4 f_0_5=>z1f_sh f_0_0 f_0_1 f_0_2 f_0_3 f_0_4 f_0_5 (kk [tI] Kv)) nF vs w
def z1f_A (Kv:VW):A:=(qr 2 (qr 1 (qs (qr 5 (qb (A.loop [1,3,8,9,10] (uR0 [tQ,tI,tL,tI,tI] (z1f_L0 Kv)) (qr 1 (qs (qc ql ql) (qs (qb (qr 4 (qr 4 (qc (qe 5) ql)))) (qe 2))))))) (qr 2 ql))))
theorem z1f_ok:Sound Tryz.prog 189 z1f_S:=okS (x:=z1f_A) (fun Kv f_0_0 f_0_1 f_0_2 f_0_3 f_0_4 f_0_5=>z1f_sd f_0_0 f_0_1 f_0_2 f_0_3 f_0_4 f_0_5 (kk [tI] Kv)) progMixed (Γ:=[(106,z4a_S)]) ⟨.inl z4a_ok,trivial⟩ Tryz.call189 Tryz.func189 (fun Kv=>hStep (hLoop0 (L:=z1f_L0 Kv) (fun N0 f_1 sum_3 t_8 t_9 t_10=>z1f_b0 f_1 sum_3 t_8 t_9 t_10 N0 (kk [tI] Kv)) (fun⟨a0,_,a2,a3,_,_⟩ _ h=>let ⟨I,μ,h0,hr⟩:=h.out; ⟨fun b0 b1 b2 b3 b4 w=>(b0=a0/\b2=a2/\b3=a3/\True)/\I b1 b4 w,fun _ b1 _ _ b4 w=>μ b1 b4 w,⟨⟨rfl,rfl,rfl,trivial⟩,h0⟩,fun⟨_,_,_,_,_,_⟩ _ ⟨⟨e0,e2,e3,_⟩,hI⟩=>by cases e0; cases e2; cases e3; exact hr _ _ _ hI⟩)) <| hEnd)
def z11_b0 (f_1:Addr)(sum_3:Int)(t_7:Sl)(t_8 t_9:Int)(N0:Addr->Int->Sl->Int->Int->World->Prop)(K:Pw.T1)(w:World):Prop :=
 cnd (decide (t_9<t_8))
 (nz t_7.p fun a10=>(0<=t_9/\t_9<(t_7.l:Nat))/\∃ x11:Int,w.cell? (a10.add (t_9.toNat*4))=some (Value.int .i64 x11)/\∃ x12:Int,w.cell? ((a10.add (t_9.toNat*4)).add 1)=some (Value.int .i64 x12)/\∃ x13:Int,w.cell? ((a10.add (t_9.toNat*4)).add 2)=some (Value.int .i64 x13)/\∃ x14:Int,w.cell? ((a10.add (t_9.toNat*4)).add 3)=some (Value.int .i64 x14)/\let w15:=w.alloc (Obj.cells #[(Value.int .i64 0),(Value.int .i64 0),(Value.int .i64 0),(Value.int .i64 0)] 57)
 stN w15 (Addr.mk w.heap.size 0 none) [(Value.int .i64 x11),(Value.int .i64 x12),(Value.int .i64 x13),(Value.int .i64 x14)] fun w16=>∃ x17:Int,w16.cell? (Addr.mk w.heap.size 2 none)=some (Value.int .i64 x17)/\inR .i64 (sum_3+x17)/\inR .i64 (t_9+(1:Int))/\N0 f_1 (sum_3+x17) t_7 t_8 (t_9+(1:Int)) w16)
 (∃ x18:Sl,w.cell? f_1=some (Value.slice x18.p x18.l x18.c)/\∃ x19:Sl,w.cell? (f_1.add 1)=some (Value.slice x19.p x19.l x19.c)/\∃ x20:Sl,w.cell? (f_1.add 2)=some (Value.slice x20.p x20.l x20.c)/\∃ x21:Int,w.cell? (f_1.add 3)=some (Value.int .i64 x21)/\∃ x22:Int,w.cell? (f_1.add 4)=some (Value.int .i64 x22)/\∃ x23:Sl,w.cell? (f_1.add 5)=some (Value.slice x23.p x23.l x23.c)/\z1f_sh x18 x19 x20 x21 x22 x23 (fun r25 w24=>inR .i64 (sum_3-r25)/\K (max (0:Int) (sum_3-r25)) w24) w)
def z11_l0d (f_1:Addr)(sum_3:Int)(t_7:Sl)(t_8 t_9:Int)(K:Pw.T1)(w:World):Prop :=
 ∃ (I:Int->Int->World->Prop) (μ:Int->Int->World->Nat),I sum_3 t_9 w/\∀ (sum_31 t_91:Int) (w1:World),I sum_31 t_91 w1 ->
 z11_b0 f_1 sum_31 t_7 t_8 t_91 (fun f_1' sum_3' t_7' t_8' t_9' w'=>((f_1'=f_1/\t_7'=t_7/\t_8'=t_8/\True)/\I sum_3' t_9' w')/\μ sum_3' t_9' w'<μ sum_31 t_91 w1) K w1
structure z11_l0 (f_1:Addr)(sum_3:Int)(t_7:Sl)(t_8 t_9:Int)(K:Pw.T1)(w:World):Prop where
 out:z11_l0d f_1 sum_3 t_7 t_8 t_9 K w
def z11_sd (f_0_0 f_0_1 f_0_2:Sl)(f_0_3 f_0_4:Int)(f_0_5:Sl)(K:Pw.T1)(w:World):Prop :=
 let w1:=w.alloc (Obj.cells #[(Value.slice f_0_0.p f_0_0.l f_0_0.c),(Value.slice f_0_1.p f_0_1.l f_0_1.c),(Value.slice f_0_2.p f_0_2.l f_0_2.c),(Value.int .i64 f_0_3),(Value.int .i64 f_0_4),(Value.slice f_0_5.p f_0_5.l f_0_5.c)] 99)
 ∃ x2:Sl,w1.cell? (Addr.mk w.heap.size 0 none)=some (Value.slice x2.p x2.l x2.c)/\∃ x3:Sl,w1.cell? (Addr.mk w.heap.size 1 none)=some (Value.slice x3.p x3.l x3.c)/\∃ x4:Sl,w1.cell? (Addr.mk w.heap.size 2 none)=some (Value.slice x4.p x4.l x4.c)/\∃ x5:Int,w1.cell? (Addr.mk w.heap.size 3 none)=some (Value.int .i64 x5)/\∃ x6:Int,w1.cell? (Addr.mk w.heap.size 4 none)=some (Value.int .i64 x6)/\∃ x7:Sl,w1.cell? (Addr.mk w.heap.size 5 none)=some (Value.slice x7.p x7.l x7.c)/\z13_sh x2 x3 x4 x5 x6 x7 (fun r9 w8=>z11_l0 (Addr.mk w.heap.size 0 none) (0:Int) r9 (r9.l:Int) (0:Int) K w8) w1
structure z11_sh (f_0_0 f_0_1 f_0_2:Sl)(f_0_3 f_0_4:Int)(f_0_5:Sl)(K:Pw.T1)(w:World):Prop where
 out:z11_sd f_0_0 f_0_1 f_0_2 f_0_3 f_0_4 f_0_5 K w
def z11_L0 (Kv:VW):Cur [tQ,tI,tL,tI,tI] WP:=fun f_1 sum_3 t_7 t_8 t_9=>z11_l0 f_1 sum_3 t_7 t_8 t_9 (kk [tI] Kv)
noncomputable def z11_S:Pw.Spec:=fun vs w Kv=>un [.g 6,tL,tL,tL,tI,tI,tL] (fun f_0_0 f_0_1 f_0_2 f_0_3 f_0_4 f_0_5=>z11_sh f_0_0 f_0_1 f_0_2 f_0_3 f_0_4 f_0_5 (kk [tI] Kv)) nF vs w
def z11_A (Kv:VW):A:=(qr 2 (qr 1 (qs (qr 4 (qb (A.loop [1,3,7,8,9] (uR0 [tQ,tI,tL,tI,tI] (z11_L0 Kv)) (qr 1 (qs (qc ql ql) (qs (qb (qr 4 (qe 5))) (qe 2))))))) (qr 6 ql))))
theorem z11_ok:Sound Tryz.prog 156 z11_S:=okS (x:=z11_A) (fun Kv f_0_0 f_0_1 f_0_2 f_0_3 f_0_4 f_0_5=>z11_sd f_0_0 f_0_1 f_0_2 f_0_3 f_0_4 f_0_5 (kk [tI] Kv)) progMixed (Γ:=[(115,z13_S),(189,z1f_S)]) ⟨.inl z13_ok,.inl z1f_ok,trivial⟩ Tryz.call156 Tryz.func156 (fun Kv=>hStep (hLoop0 (L:=z11_L0 Kv) (fun N0 f_1 sum_3 t_7 t_8 t_9=>z11_b0 f_1 sum_3 t_7 t_8 t_9 N0 (kk [tI] Kv)) (fun⟨a0,_,a2,a3,_,_⟩ _ h=>let ⟨I,μ,h0,hr⟩:=h.out; ⟨fun b0 b1 b2 b3 b4 w=>(b0=a0/\b2=a2/\b3=a3/\True)/\I b1 b4 w,fun _ b1 _ _ b4 w=>μ b1 b4 w,⟨⟨rfl,rfl,rfl,trivial⟩,h0⟩,fun⟨_,_,_,_,_,_⟩ _ ⟨⟨e0,e2,e3,_⟩,hI⟩=>by cases e0; cases e2; cases e3; exact hr _ _ _ hI⟩)) <| hEnd)
def z1u_sd (f_0_0 f_0_1 f_0_2:Sl)(f_0_3 f_0_4:Int)(f_0_5:Sl)(c_1_0 c_1_1:Int)(c_1_2 c_1_3:Int)(K:Pw.T1)(w:World):Prop :=
 let w1:=w.alloc (Obj.cells #[(Value.slice f_0_0.p f_0_0.l f_0_0.c),(Value.slice f_0_1.p f_0_1.l f_0_1.c),(Value.slice f_0_2.p f_0_2.l f_0_2.c),(Value.int .i64 f_0_3),(Value.int .i64 f_0_4),(Value.slice f_0_5.p f_0_5.l f_0_5.c)] 99)
 let w2:=w1.alloc (Obj.cells #[(Value.int .i64 c_1_0),(Value.int .i64 c_1_1),(Value.int .i64 c_1_2),(Value.int .i64 c_1_3)] 57)
 ∃ x3:Int,w2.cell? (Addr.mk w1.heap.size 3 none)=some (Value.int .i64 x3)/\∃ x4:Int,w2.cell? (Addr.mk w.heap.size 4 none)=some (Value.int .i64 x4)/\inR .i64 (x4+(1:Int))/\inR .i64 (x3*(x4+(1:Int)))/\∃ x5:Int,w2.cell? (Addr.mk w1.heap.size 2 none)=some (Value.int .i64 x5)/\inR .i64 ((x3*(x4+(1:Int)))-x5)/\K ((x3*(x4+(1:Int)))-x5) w2
structure z1u_sh (f_0_0 f_0_1 f_0_2:Sl)(f_0_3 f_0_4:Int)(f_0_5:Sl)(c_1_0 c_1_1:Int)(c_1_2 c_1_3:Int)(K:Pw.T1)(w:World):Prop where
 out:z1u_sd f_0_0 f_0_1 f_0_2 f_0_3 f_0_4 f_0_5 c_1_0 c_1_1 c_1_2 c_1_3 K w
noncomputable def z1u_S:Pw.Spec:=fun vs w Kv=>un [.g 6,tL,tL,tL,tI,tI,tL,.g 4,tI,tI,tI,tI] (fun f_0_0 f_0_1 f_0_2 f_0_3 f_0_4 f_0_5 c_1_0 c_1_1 c_1_2 c_1_3=>z1u_sh f_0_0 f_0_1 f_0_2 f_0_3 f_0_4 f_0_5 c_1_0 c_1_1 c_1_2 c_1_3 (kk [tI] Kv)) nF vs w
def z1u_A (_:VW):A:=(qr 3 (qr 11 ql))
theorem z1u_ok:Sound Tryz.prog 191 z1u_S:=okS (x:=z1u_A) (fun Kv f_0_0 f_0_1 f_0_2 f_0_3 f_0_4 f_0_5 c_1_0 c_1_1 c_1_2 c_1_3=>z1u_sd f_0_0 f_0_1 f_0_2 f_0_3 f_0_4 f_0_5 c_1_0 c_1_1 c_1_2 c_1_3 (kk [tI] Kv)) progMixed (Γ:=[]) trivial Tryz.call191 Tryz.func191 (fun _=>hEnd)
def z10_k1d (f_1:Addr)(out_3:Sl)(d_7:Addr)(ok_8:Bool)(t_13:Sl)(t_14 t_15:Int)(N0:Addr->Sl->Sl->Int->Int->World->Prop)(K:Pw.T2)(w:World):Prop :=
 cnd ok_8
 (∃ x54:Int,w.cell? d_7=some (Value.int .i64 x54)/\cnd (decide (x54>(0:Int)))
 (∃ x55:Int,w.cell? d_7=some (Value.int .i64 x55)/\∃ x56:Int,w.cell? (d_7.add 1)=some (Value.int .i64 x56)/\let w57:=w.alloc (Obj.cells #[(Value.int .i64 x55),(Value.int .i64 x56)] 31)
 apS 2 16 [(Value.int .i64 0),(Value.int .i64 0)] 31 out_3 (Sl.mk (some (Addr.mk w.heap.size 0 none)) 1 1) w57 fun s58 w59=>inR .i64 (t_15+(1:Int))/\N0 f_1 s58 t_13 t_14 (t_15+(1:Int)) w59)
 (inR .i64 (t_15+(1:Int))/\N0 f_1 out_3 t_13 t_14 (t_15+(1:Int)) w))
 (inR .i64 (t_15+(1:Int))/\N0 f_1 out_3 t_13 t_14 (t_15+(1:Int)) w)
structure z10_k1 (f_1:Addr)(out_3:Sl)(d_7:Addr)(ok_8:Bool)(t_13:Sl)(t_14 t_15:Int)(N0:Addr->Sl->Sl->Int->Int->World->Prop)(K:Pw.T2)(w:World):Prop where
 out:z10_k1d f_1 out_3 d_7 ok_8 t_13 t_14 t_15 N0 K w
def z10_b0 (f_1:Addr)(out_3 t_13:Sl)(t_14 t_15:Int)(N0:Addr->Sl->Sl->Int->Int->World->Prop)(K:Pw.T2)(w:World):Prop :=
 cnd (decide (t_15<t_14))
 (nz t_13.p fun a6=>(0<=t_15/\t_15<(t_13.l:Nat))/\∃ x7:Int,w.cell? (a6.add (t_15.toNat*4))=some (Value.int .i64 x7)/\∃ x8:Int,w.cell? ((a6.add (t_15.toNat*4)).add 1)=some (Value.int .i64 x8)/\∃ x9:Int,w.cell? ((a6.add (t_15.toNat*4)).add 2)=some (Value.int .i64 x9)/\∃ x10:Int,w.cell? ((a6.add (t_15.toNat*4)).add 3)=some (Value.int .i64 x10)/\let w11:=w.alloc (Obj.cells #[(Value.int .i64 0),(Value.int .i64 0),(Value.int .i64 0),(Value.int .i64 0)] 57)
 stN w11 (Addr.mk w.heap.size 0 none) [(Value.int .i64 x7),(Value.int .i64 x8),(Value.int .i64 x9),(Value.int .i64 x10)] fun w12=>∃ x13:Sl,w12.cell? f_1=some (Value.slice x13.p x13.l x13.c)/\∃ x14:Int,w12.cell? (Addr.mk w.heap.size 0 none)=some (Value.int .i64 x14)/\z46_sh x13 x14 (fun r16 w15=>∃ x17:Sl,w15.cell? (f_1.add 5)=some (Value.slice x17.p x17.l x17.c)/\cnd (decide (r16>=(x17.l:Int)))
 (∃ x18:Int,w15.cell? (Addr.mk w.heap.size 2 none)=some (Value.int .i64 x18)/\cnd (decide (x18>(0:Int)))
 (let w19:=w15.drew
 ∃ S20:World->Prop,S20 w19/\∃ x21:Sl,(∀ w':World,S20 w'->w'.cell? f_1=some (Value.slice x21.p x21.l x21.c))/\∃ x22:Sl,(∀ w':World,S20 w'->w'.cell? (f_1.add 1)=some (Value.slice x22.p x22.l x22.c))/\∃ x23:Sl,(∀ w':World,S20 w'->w'.cell? (f_1.add 2)=some (Value.slice x23.p x23.l x23.c))/\∃ x24:Int,(∀ w':World,S20 w'->w'.cell? (f_1.add 3)=some (Value.int .i64 x24))/\∃ x25:Int,(∀ w':World,S20 w'->w'.cell? (f_1.add 4)=some (Value.int .i64 x25))/\∃ x26:Sl,(∀ w':World,S20 w'->w'.cell? (f_1.add 5)=some (Value.slice x26.p x26.l x26.c))/\∃ x27:Int,(∀ w':World,S20 w'->w'.cell? (Addr.mk w.heap.size 0 none)=some (Value.int .i64 x27))/\∃ x28:Int,(∀ w':World,S20 w'->w'.cell? (Addr.mk w.heap.size 1 none)=some (Value.int .i64 x28))/\∃ x29:Int,(∀ w':World,S20 w'->w'.cell? (Addr.mk w.heap.size 2 none)=some (Value.int .i64 x29))/\∃ x30:Int,(∀ w':World,S20 w'->w'.cell? (Addr.mk w.heap.size 3 none)=some (Value.int .i64 x30))/\∃ x31:Int,(∀ w':World,S20 w'->w'.cell? (Addr.mk w.heap.size 2 none)=some (Value.int .i64 x31))/\(z1u_sh x21 x22 x23 x24 x25 x26 x27 x28 x29 x30 (fun r33 w32=>S20 w32/\(z4t_sh r33 x31 (fun r35_0 r35_1 r36 w34=>S20 w34/\let w37:=w34.alloc (Obj.cells #[(Value.int .i64 0),(Value.int .i64 0)] 31)
 S20 w37/\wrOk w37 (Addr.mk w34.heap.size 0 none)/\
 (let w38:=w37.setCell (Addr.mk w34.heap.size 0 none) (Value.int .i64 r35_0)
 wrOk w38 (Addr.mk w34.heap.size 1 none)/\
 (let w39:=w38.setCell (Addr.mk w34.heap.size 1 none) (Value.int .i64 r35_1)
 z10_k1 f_1 out_3 (Addr.mk w34.heap.size 0 none) r36 t_13 t_14 t_15 N0 K w39))) w32)
/\(let w40:=w32.alloc (Obj.cells #[(Value.int .i64 0),(Value.int .i64 0)] 31)
 S20 w40/\z4t_sh r33 x31 (fun r42_0 r42_1 r43 w41=>S20 w41/\wrOk w41 (Addr.mk w32.heap.size 0 none)/\
 (let w44:=w41.setCell (Addr.mk w32.heap.size 0 none) (Value.int .i64 r42_0)
 wrOk w44 (Addr.mk w32.heap.size 1 none)/\
 (let w45:=w44.setCell (Addr.mk w32.heap.size 1 none) (Value.int .i64 r42_1)
 z10_k1 f_1 out_3 (Addr.mk w32.heap.size 0 none) r43 t_13 t_14 t_15 N0 K w45))) w40)) w19)
/\(let w46:=w19.alloc (Obj.cells #[(Value.int .i64 0),(Value.int .i64 0)] 31)
 S20 w46/\z1u_sh x21 x22 x23 x24 x25 x26 x27 x28 x29 x30 (fun r48 w47=>S20 w47/\z4t_sh r48 x31 (fun r50_0 r50_1 r51 w49=>S20 w49/\wrOk w49 (Addr.mk w19.heap.size 0 none)/\
 (let w52:=w49.setCell (Addr.mk w19.heap.size 0 none) (Value.int .i64 r50_0)
 wrOk w52 (Addr.mk w19.heap.size 1 none)/\
 (let w53:=w52.setCell (Addr.mk w19.heap.size 1 none) (Value.int .i64 r50_1)
 z10_k1 f_1 out_3 (Addr.mk w19.heap.size 0 none) r51 t_13 t_14 t_15 N0 K w53))) w47) w46))
 (inR .i64 (t_15+(1:Int))/\N0 f_1 out_3 t_13 t_14 (t_15+(1:Int)) w15))
 (inR .i64 (t_15+(1:Int))/\N0 f_1 out_3 t_13 t_14 (t_15+(1:Int)) w15)) w12)
 (K out_3 w)
def z10_l0d (f_1:Addr)(out_3 t_13:Sl)(t_14 t_15:Int)(K:Pw.T2)(w:World):Prop :=
 ∃ (I:Sl->Int->World->Prop) (μ:Sl->Int->World->Nat),I out_3 t_15 w/\∀ (out_31:Sl) (t_151:Int) (w1:World),I out_31 t_151 w1 ->
 z10_b0 f_1 out_31 t_13 t_14 t_151 (fun f_1' out_3' t_13' t_14' t_15' w'=>((f_1'=f_1/\t_13'=t_13/\t_14'=t_14/\True)/\I out_3' t_15' w')/\μ out_3' t_15' w'<μ out_31 t_151 w1) K w1
structure z10_l0 (f_1:Addr)(out_3 t_13:Sl)(t_14 t_15:Int)(K:Pw.T2)(w:World):Prop where
 out:z10_l0d f_1 out_3 t_13 t_14 t_15 K w
def z10_sd (f_0_0 f_0_1 f_0_2:Sl)(f_0_3 f_0_4:Int)(f_0_5:Sl)(K:Pw.T2)(w:World):Prop :=
 let w1:=w.alloc (Obj.cells #[(Value.slice f_0_0.p f_0_0.l f_0_0.c),(Value.slice f_0_1.p f_0_1.l f_0_1.c),(Value.slice f_0_2.p f_0_2.l f_0_2.c),(Value.int .i64 f_0_3),(Value.int .i64 f_0_4),(Value.slice f_0_5.p f_0_5.l f_0_5.c)] 99)
 z55_sh (0:Int) (fun r3_0 r3_1 w2=>let w4:=w2.alloc (Obj.cells #[(Value.int .i64 r3_0),(Value.int .i64 r3_1)] 31)
 ∃ x5:Sl,w4.cell? (Addr.mk w.heap.size 1 none)=some (Value.slice x5.p x5.l x5.c)/\z10_l0 (Addr.mk w.heap.size 0 none) (Sl.mk (some (Addr.mk w2.heap.size 0 none)) 1 1) x5 (x5.l:Int) (0:Int) K w4) w1
structure z10_sh (f_0_0 f_0_1 f_0_2:Sl)(f_0_3 f_0_4:Int)(f_0_5:Sl)(K:Pw.T2)(w:World):Prop where
 out:z10_sd f_0_0 f_0_1 f_0_2 f_0_3 f_0_4 f_0_5 K w
def z10_L0 (Kv:VW):Cur [tQ,tL,tL,tI,tI] WP:=fun f_1 out_3 t_13 t_14 t_15=>z10_l0 f_1 out_3 t_13 t_14 t_15 (kk [tL] Kv)
def z10_L1 (Kv:VW):Cur [tQ,tL,tL,tI,tI] WP->Cur [tQ,tL,tQ,tB,tL,tI,tI] WP:=fun N0 f_1 out_3 d_7 ok_8 t_13 t_14 t_15=>z10_k1 f_1 out_3 d_7 ok_8 t_13 t_14 t_15 N0 (kk [tL] Kv)
noncomputable def z10_S:Pw.Spec:=fun vs w Kv=>un [.g 6,tL,tL,tL,tI,tI,tL] (fun f_0_0 f_0_1 f_0_2 f_0_3 f_0_4 f_0_5=>z10_sh f_0_0 f_0_1 f_0_2 f_0_3 f_0_4 f_0_5 (kk [tL] Kv)) nF vs w
def z10_A (Kv:VW):A:=(qr 2 (qr 3 (qs (qr 5 (qb (A.loop [1,3,13,14,15] (uR0 [tQ,tL,tL,tI,tI] (z10_L0 Kv)) (qr 1 (qs (qc ql ql) (qs (qb (qr 4 (qr 7 (qs (A.reg (qn 6 (RA.spl 30 (qn 4 RA.done) (qk 3 (qn 1 RA.done))))) (qc (qs (A.drw (dp [0,1,3,4] (DA.two 2 (DA.two 5 (dp [6,7,8] (DA.eff 9 (DA.eff 10 (DA.pur 11 DA.done)))) 9 (DA.eff 5 (dp [6,7,8] (DA.eff 10 (DA.pur 11 DA.done))))) 9 (DA.eff 2 (DA.eff 5 (dp [6,7,8] (DA.eff 10 (DA.pur 11 DA.done)))))))) (A.cut [1,3,7,8,13,14,15] (uR1 [tQ,tL,tL,tI,tI] [tQ,tL,tQ,tB,tL,tI,tI] (z10_L1 Kv)) (qs (A.reg (qn 2 (RA.spl 45 (qn 4 RA.done) (qk 3 (qn 1 RA.done))))) (qc (qe 5) ql)))) ql))))) (qe 2))))))) (qr 2 ql))))
theorem z10_ok:Sound Tryz.prog 158 z10_S:=okS (x:=z10_A) (fun Kv f_0_0 f_0_1 f_0_2 f_0_3 f_0_4 f_0_5=>z10_sd f_0_0 f_0_1 f_0_2 f_0_3 f_0_4 f_0_5 (kk [tL] Kv)) progMixed (Γ:=[(75,z55_S),(148,z46_S),(190,z4t_S),(191,z1u_S)]) ⟨.inl z55_ok,.inl z46_ok,.inl z4t_ok,.inl z1u_ok,trivial⟩ Tryz.call158 Tryz.func158 (fun Kv=>hStep (hLoop0 (L:=z10_L0 Kv) (fun N0 f_1 out_3 t_13 t_14 t_15=>z10_b0 f_1 out_3 t_13 t_14 t_15 N0 (kk [tL] Kv)) (fun⟨a0,_,a2,a3,_,_⟩ _ h=>let ⟨I,μ,h0,hr⟩:=h.out; ⟨fun b0 b1 b2 b3 b4 w=>(b0=a0/\b2=a2/\b3=a3/\True)/\I b1 b4 w,fun _ b1 _ _ b4 w=>μ b1 b4 w,⟨⟨rfl,rfl,rfl,trivial⟩,h0⟩,fun⟨_,_,_,_,_,_⟩ _ ⟨⟨e0,e2,e3,_⟩,hI⟩=>by cases e0; cases e2; cases e3; exact hr _ _ _ hI⟩)) <| hStep (hCut1 (F:=z10_L1 Kv) (G:=fun N0 f_1 out_3 d_7 ok_8 t_13 t_14 t_15=>z10_k1d f_1 out_3 d_7 ok_8 t_13 t_14 t_15 N0 (kk [tL] Kv))) <| hEnd)
def z0j_k0d (t_7 y_10:Addr)(K:Pw.T5)(w:World):Prop :=
 ∃ x29:Int,w.cell? y_10=some (Value.int .i64 x29)/\∃ x30:Int,w.cell? (y_10.add 1)=some (Value.int .i64 x30)/\wrOk w t_7/\
 (let w31:=w.setCell t_7 (Value.int .i64 x29)
 wrOk w31 (t_7.add 1)/\
 (let w32:=w31.setCell (t_7.add 1) (Value.int .i64 x30)
 ∃ x33:Int,w32.cell? t_7=some (Value.int .i64 x33)/\∃ x34:Int,w32.cell? (t_7.add 1)=some (Value.int .i64 x34)/\K x33 x34 w32))
structure z0j_k0 (t_7 y_10:Addr)(K:Pw.T5)(w:World):Prop where
 out:z0j_k0d t_7 y_10 K w
def z0j_sd (sum_0_0 sum_0_1:Int)(a_1_0 a_1_1:Int)(b_2_0 b_2_1:Int)(t_3:Addr)(K:Pw.T5)(w:World):Prop :=
 let w1:=w.alloc (Obj.cells #[(Value.int .i64 sum_0_0),(Value.int .i64 sum_0_1)] 31)
 let w2:=w1.alloc (Obj.cells #[(Value.int .i64 a_1_0),(Value.int .i64 a_1_1)] 31)
 let w3:=w2.alloc (Obj.cells #[(Value.int .i64 b_2_0),(Value.int .i64 b_2_1)] 31)
 let w4:=w3.alloc (Obj.cells #[(Value.int .i64 0),(Value.int .i64 0)] 31)
 ∃ x5:Int,w4.cell? (Addr.mk w1.heap.size 0 none)=some (Value.int .i64 x5)/\∃ x6:Int,w4.cell? (Addr.mk w1.heap.size 1 none)=some (Value.int .i64 x6)/\∃ x7:Int,w4.cell? (Addr.mk w2.heap.size 0 none)=some (Value.int .i64 x7)/\∃ x8:Int,w4.cell? (Addr.mk w2.heap.size 1 none)=some (Value.int .i64 x8)/\z50_sh x5 x6 x7 x8 (fun r10_0 r10_1 r11 w9=>let w12:=w9.alloc (Obj.cells #[(Value.int .i64 0),(Value.int .i64 0)] 31)
 wrOk w12 (Addr.mk w9.heap.size 0 none)/\
 (let w13:=w12.setCell (Addr.mk w9.heap.size 0 none) (Value.int .i64 r10_0)
 wrOk w13 (Addr.mk w9.heap.size 1 none)/\
 (let w14:=w13.setCell (Addr.mk w9.heap.size 1 none) (Value.int .i64 r10_1)
 ∃ x15:Int,w14.cell? (Addr.mk w.heap.size 0 none)=some (Value.int .i64 x15)/\∃ x16:Int,w14.cell? (Addr.mk w.heap.size 1 none)=some (Value.int .i64 x16)/\∃ x17:Int,w14.cell? (Addr.mk w9.heap.size 0 none)=some (Value.int .i64 x17)/\∃ x18:Int,w14.cell? (Addr.mk w9.heap.size 1 none)=some (Value.int .i64 x18)/\z4y_sh x15 x16 x17 x18 (fun r20_0 r20_1 r21 w19=>let w22:=w19.alloc (Obj.cells #[(Value.int .i64 0),(Value.int .i64 0)] 31)
 wrOk w22 (Addr.mk w19.heap.size 0 none)/\
 (let w23:=w22.setCell (Addr.mk w19.heap.size 0 none) (Value.int .i64 r20_0)
 wrOk w23 (Addr.mk w19.heap.size 1 none)/\
 (let w24:=w23.setCell (Addr.mk w19.heap.size 1 none) (Value.int .i64 r20_1)
 ∃ x25:Bool,w24.cell? t_3=some (Value.bool x25)/\cnd x25
 (cnd r11
 (wrOk w24 t_3/\
 (let w26:=w24.setCell t_3 (Value.bool r21)
 z0j_k0 (Addr.mk w3.heap.size 0 none) (Addr.mk w19.heap.size 0 none) K w26))
 (wrOk w24 t_3/\
 (let w27:=w24.setCell t_3 (Value.bool false)
 z0j_k0 (Addr.mk w3.heap.size 0 none) (Addr.mk w19.heap.size 0 none) K w27)))
 (wrOk w24 t_3/\
 (let w28:=w24.setCell t_3 (Value.bool false)
 z0j_k0 (Addr.mk w3.heap.size 0 none) (Addr.mk w19.heap.size 0 none) K w28))))) w14))) w4
structure z0j_sh (sum_0_0 sum_0_1:Int)(a_1_0 a_1_1:Int)(b_2_0 b_2_1:Int)(t_3:Addr)(K:Pw.T5)(w:World):Prop where
 out:z0j_sd sum_0_0 sum_0_1 a_1_0 a_1_1 b_2_0 b_2_1 t_3 K w
def z0j_L0 (Kv:VW):Cur [tQ,tQ] WP:=fun t_7 y_10=>z0j_k0 t_7 y_10 (kk [.g 2,tI,tI] Kv)
noncomputable def z0j_S:Pw.Spec:=fun vs w Kv=>un [.g 2,tI,tI,.g 2,tI,tI,.g 2,tI,tI,tQ] (fun sum_0_0 sum_0_1 a_1_0 a_1_1 b_2_0 b_2_1 t_3=>z0j_sh sum_0_0 sum_0_1 a_1_0 a_1_1 b_2_0 b_2_1 t_3 (kk [.g 2,tI,tI] Kv)) nF vs w
def z0j_A (Kv:VW):A:=(qr 4 (qr 9 (qr 9 (qs (A.reg (qn 2 (RA.spl 25 (qn 3 (RA.spl 28 (qn 3 RA.done) (qk 1 (qn 2 RA.done)))) (qk 1 (qn 2 (qk 1 (qn 2 RA.done))))))) (A.cut [7,10] (uR0 [tQ,tQ] (z0j_L0 Kv)) (qr 2 ql))))))
theorem z0j_ok:Sound Tryz.prog 192 z0j_S:=okS (x:=z0j_A) (fun Kv sum_0_0 sum_0_1 a_1_0 a_1_1 b_2_0 b_2_1 t_3=>z0j_sd sum_0_0 sum_0_1 a_1_0 a_1_1 b_2_0 b_2_1 t_3 (kk [.g 2,tI,tI] Kv)) progMixed (Γ:=[(78,z4y_S),(124,z50_S)]) ⟨.inl z4y_ok,.inl z50_ok,trivial⟩ Tryz.call192 Tryz.func192 (fun Kv=>hStep (hCut0 (F:=z0j_L0 Kv) (G:=fun t_7 y_10=>z0j_k0d t_7 y_10 (kk [.g 2,tI,tI] Kv))) <| hEnd)
def z0z_k5d (f_2 dual_3:Addr)(fine_6 add_7_c0:Addr)(one_8 sum_9:Addr)(i_10 lot_11:Int)(best_12 x_16:Addr)(t_30:Sl)(t_31 t_32:Int)(t_40:Sl)(t_41 t_42:Int)(N2:Addr->Addr->Addr->Addr->Addr->Addr->Int->Int->Addr->Sl->Int->Int->Sl->Int->Int->World->Prop)(N1:Addr->Addr->Addr->Addr->Addr->Addr->Sl->Int->Int->World->Prop)(K:Pw.T3)(w:World):Prop :=
 ∃ x130:Int,w.cell? x_16=some (Value.int .i64 x130)/\∃ x131:Int,w.cell? (x_16.add 1)=some (Value.int .i64 x131)/\wrOk w best_12/\
 (let w132:=w.setCell best_12 (Value.int .i64 x130)
 wrOk w132 (best_12.add 1)/\
 (let w133:=w132.setCell (best_12.add 1) (Value.int .i64 x131)
 inR .i64 (t_42+(1:Int))/\N2 f_2 dual_3 fine_6 add_7_c0 one_8 sum_9 i_10 lot_11 best_12 t_30 t_31 t_32 t_40 t_41 (t_42+(1:Int)) w133))
structure z0z_k5 (f_2 dual_3:Addr)(fine_6 add_7_c0:Addr)(one_8 sum_9:Addr)(i_10 lot_11:Int)(best_12 x_16:Addr)(t_30:Sl)(t_31 t_32:Int)(t_40:Sl)(t_41 t_42:Int)(N2:Addr->Addr->Addr->Addr->Addr->Addr->Int->Int->Addr->Sl->Int->Int->Sl->Int->Int->World->Prop)(N1:Addr->Addr->Addr->Addr->Addr->Addr->Sl->Int->Int->World->Prop)(K:Pw.T3)(w:World):Prop where
 out:z0z_k5d f_2 dual_3 fine_6 add_7_c0 one_8 sum_9 i_10 lot_11 best_12 x_16 t_30 t_31 t_32 t_40 t_41 t_42 N2 N1 K w
def z0z_k4d (f_2 dual_3:Addr)(fine_6 add_7_c0:Addr)(one_8 sum_9:Addr)(i_10 lot_11:Int)(best_12:Addr)(decided_15:Bool)(x_16:Addr)(t_30:Sl)(t_31 t_32:Int)(t_40:Sl)(t_41 t_42:Int)(N2:Addr->Addr->Addr->Addr->Addr->Addr->Int->Int->Addr->Sl->Int->Int->Sl->Int->Int->World->Prop)(N1:Addr->Addr->Addr->Addr->Addr->Addr->Sl->Int->Int->World->Prop)(K:Pw.T3)(w:World):Prop :=
 cnd decided_15
 (z0z_k5 f_2 dual_3 fine_6 add_7_c0 one_8 sum_9 i_10 lot_11 best_12 x_16 t_30 t_31 t_32 t_40 t_41 t_42 N2 N1 K w)
 (∃ x124:Int,w.cell? x_16=some (Value.int .i64 x124)/\∃ x125:Int,w.cell? (x_16.add 1)=some (Value.int .i64 x125)/\∃ x126:Int,w.cell? best_12=some (Value.int .i64 x126)/\∃ x127:Int,w.cell? (best_12.add 1)=some (Value.int .i64 x127)/\z4z_sh x124 x125 x126 x127 (fun r129 w128=>cnd (decide (r129>(0:Int)))
 (z0z_k5 f_2 dual_3 fine_6 add_7_c0 one_8 sum_9 i_10 lot_11 best_12 x_16 t_30 t_31 t_32 t_40 t_41 t_42 N2 N1 K w128)
 (inR .i64 (t_42+(1:Int))/\N2 f_2 dual_3 fine_6 add_7_c0 one_8 sum_9 i_10 lot_11 best_12 t_30 t_31 t_32 t_40 t_41 (t_42+(1:Int)) w128)) w)
structure z0z_k4 (f_2 dual_3:Addr)(fine_6 add_7_c0:Addr)(one_8 sum_9:Addr)(i_10 lot_11:Int)(best_12:Addr)(decided_15:Bool)(x_16:Addr)(t_30:Sl)(t_31 t_32:Int)(t_40:Sl)(t_41 t_42:Int)(N2:Addr->Addr->Addr->Addr->Addr->Addr->Int->Int->Addr->Sl->Int->Int->Sl->Int->Int->World->Prop)(N1:Addr->Addr->Addr->Addr->Addr->Addr->Sl->Int->Int->World->Prop)(K:Pw.T3)(w:World):Prop where
 out:z0z_k4d f_2 dual_3 fine_6 add_7_c0 one_8 sum_9 i_10 lot_11 best_12 decided_15 x_16 t_30 t_31 t_32 t_40 t_41 t_42 N2 N1 K w
def z0z_k3d (f_2 dual_3:Addr)(fine_6 add_7_c0:Addr)(one_8 sum_9:Addr)(i_10 lot_11:Int)(best_12 c_14:Addr)(decided_15:Bool)(t_30:Sl)(t_31 t_32:Int)(t_40:Sl)(t_41 t_42:Int)(N2:Addr->Addr->Addr->Addr->Addr->Addr->Int->Int->Addr->Sl->Int->Int->Sl->Int->Int->World->Prop)(N1:Addr->Addr->Addr->Addr->Addr->Addr->Sl->Int->Int->World->Prop)(K:Pw.T3)(w:World):Prop :=
 let w66:=w.drew
 ∃ S67:World->Prop,S67 w66/\∃ x68:Sl,(∀ w':World,S67 w'->w'.cell? f_2=some (Value.slice x68.p x68.l x68.c))/\∃ x69:Sl,(∀ w':World,S67 w'->w'.cell? (f_2.add 1)=some (Value.slice x69.p x69.l x69.c))/\∃ x70:Sl,(∀ w':World,S67 w'->w'.cell? (f_2.add 2)=some (Value.slice x70.p x70.l x70.c))/\∃ x71:Int,(∀ w':World,S67 w'->w'.cell? (f_2.add 3)=some (Value.int .i64 x71))/\∃ x72:Int,(∀ w':World,S67 w'->w'.cell? (f_2.add 4)=some (Value.int .i64 x72))/\∃ x73:Sl,(∀ w':World,S67 w'->w'.cell? (f_2.add 5)=some (Value.slice x73.p x73.l x73.c))/\∃ x74:Int,(∀ w':World,S67 w'->w'.cell? c_14=some (Value.int .i64 x74))/\∃ x75:Int,(∀ w':World,S67 w'->w'.cell? (c_14.add 1)=some (Value.int .i64 x75))/\∃ x76:Int,(∀ w':World,S67 w'->w'.cell? (c_14.add 2)=some (Value.int .i64 x76))/\∃ x77:Int,(∀ w':World,S67 w'->w'.cell? (c_14.add 3)=some (Value.int .i64 x77))/\∃ x78:Int,(∀ w':World,S67 w'->w'.cell? dual_3=some (Value.int .i64 x78))/\∃ x79:Int,(∀ w':World,S67 w'->w'.cell? (dual_3.add 1)=some (Value.int .i64 x79))/\∃ x80:Int,(∀ w':World,S67 w'->w'.cell? (c_14.add 2)=some (Value.int .i64 x80))/\inR .i64 (-x80)/\(z1u_sh x68 x69 x70 x71 x72 x73 x74 x75 x76 x77 (fun r82 w81=>S67 w81/\(z55_sh r82 (fun r84_0 r84_1 w83=>S67 w83/\(z55_sh (-x80) (fun r86_0 r86_1 w85=>S67 w85/\(z0j_sh r84_0 r84_1 x78 x79 r86_0 r86_1 add_7_c0 (fun r88_0 r88_1 w87=>S67 w87/\let w89:=w87.alloc (Obj.cells #[(Value.int .i64 0),(Value.int .i64 0)] 31)
 S67 w89/\wrOk w89 (Addr.mk w87.heap.size 0 none)/\
 (let w90:=w89.setCell (Addr.mk w87.heap.size 0 none) (Value.int .i64 r88_0)
 wrOk w90 (Addr.mk w87.heap.size 1 none)/\
 (let w91:=w90.setCell (Addr.mk w87.heap.size 1 none) (Value.int .i64 r88_1)
 z0z_k4 f_2 dual_3 fine_6 add_7_c0 one_8 sum_9 i_10 lot_11 best_12 decided_15 (Addr.mk w87.heap.size 0 none) t_30 t_31 t_32 t_40 t_41 t_42 N2 N1 K w91))) w85)
/\(let w92:=w85.alloc (Obj.cells #[(Value.int .i64 0),(Value.int .i64 0)] 31)
 S67 w92/\z0j_sh r84_0 r84_1 x78 x79 r86_0 r86_1 add_7_c0 (fun r94_0 r94_1 w93=>S67 w93/\wrOk w93 (Addr.mk w85.heap.size 0 none)/\
 (let w95:=w93.setCell (Addr.mk w85.heap.size 0 none) (Value.int .i64 r94_0)
 wrOk w95 (Addr.mk w85.heap.size 1 none)/\
 (let w96:=w95.setCell (Addr.mk w85.heap.size 1 none) (Value.int .i64 r94_1)
 z0z_k4 f_2 dual_3 fine_6 add_7_c0 one_8 sum_9 i_10 lot_11 best_12 decided_15 (Addr.mk w85.heap.size 0 none) t_30 t_31 t_32 t_40 t_41 t_42 N2 N1 K w96))) w92)) w83)
/\(let w97:=w83.alloc (Obj.cells #[(Value.int .i64 0),(Value.int .i64 0)] 31)
 S67 w97/\z55_sh (-x80) (fun r99_0 r99_1 w98=>S67 w98/\z0j_sh r84_0 r84_1 x78 x79 r99_0 r99_1 add_7_c0 (fun r101_0 r101_1 w100=>S67 w100/\wrOk w100 (Addr.mk w83.heap.size 0 none)/\
 (let w102:=w100.setCell (Addr.mk w83.heap.size 0 none) (Value.int .i64 r101_0)
 wrOk w102 (Addr.mk w83.heap.size 1 none)/\
 (let w103:=w102.setCell (Addr.mk w83.heap.size 1 none) (Value.int .i64 r101_1)
 z0z_k4 f_2 dual_3 fine_6 add_7_c0 one_8 sum_9 i_10 lot_11 best_12 decided_15 (Addr.mk w83.heap.size 0 none) t_30 t_31 t_32 t_40 t_41 t_42 N2 N1 K w103))) w98) w97)) w81)
/\(let w104:=w81.alloc (Obj.cells #[(Value.int .i64 0),(Value.int .i64 0)] 31)
 S67 w104/\z55_sh r82 (fun r106_0 r106_1 w105=>S67 w105/\z55_sh (-x80) (fun r108_0 r108_1 w107=>S67 w107/\z0j_sh r106_0 r106_1 x78 x79 r108_0 r108_1 add_7_c0 (fun r110_0 r110_1 w109=>S67 w109/\wrOk w109 (Addr.mk w81.heap.size 0 none)/\
 (let w111:=w109.setCell (Addr.mk w81.heap.size 0 none) (Value.int .i64 r110_0)
 wrOk w111 (Addr.mk w81.heap.size 1 none)/\
 (let w112:=w111.setCell (Addr.mk w81.heap.size 1 none) (Value.int .i64 r110_1)
 z0z_k4 f_2 dual_3 fine_6 add_7_c0 one_8 sum_9 i_10 lot_11 best_12 decided_15 (Addr.mk w81.heap.size 0 none) t_30 t_31 t_32 t_40 t_41 t_42 N2 N1 K w112))) w107) w105) w104)) w66)
/\(let w113:=w66.alloc (Obj.cells #[(Value.int .i64 0),(Value.int .i64 0)] 31)
 S67 w113/\z1u_sh x68 x69 x70 x71 x72 x73 x74 x75 x76 x77 (fun r115 w114=>S67 w114/\z55_sh r115 (fun r117_0 r117_1 w116=>S67 w116/\z55_sh (-x80) (fun r119_0 r119_1 w118=>S67 w118/\z0j_sh r117_0 r117_1 x78 x79 r119_0 r119_1 add_7_c0 (fun r121_0 r121_1 w120=>S67 w120/\wrOk w120 (Addr.mk w66.heap.size 0 none)/\
 (let w122:=w120.setCell (Addr.mk w66.heap.size 0 none) (Value.int .i64 r121_0)
 wrOk w122 (Addr.mk w66.heap.size 1 none)/\
 (let w123:=w122.setCell (Addr.mk w66.heap.size 1 none) (Value.int .i64 r121_1)
 z0z_k4 f_2 dual_3 fine_6 add_7_c0 one_8 sum_9 i_10 lot_11 best_12 decided_15 (Addr.mk w66.heap.size 0 none) t_30 t_31 t_32 t_40 t_41 t_42 N2 N1 K w123))) w118) w116) w114) w113)
structure z0z_k3 (f_2 dual_3:Addr)(fine_6 add_7_c0:Addr)(one_8 sum_9:Addr)(i_10 lot_11:Int)(best_12 c_14:Addr)(decided_15:Bool)(t_30:Sl)(t_31 t_32:Int)(t_40:Sl)(t_41 t_42:Int)(N2:Addr->Addr->Addr->Addr->Addr->Addr->Int->Int->Addr->Sl->Int->Int->Sl->Int->Int->World->Prop)(N1:Addr->Addr->Addr->Addr->Addr->Addr->Sl->Int->Int->World->Prop)(K:Pw.T3)(w:World):Prop where
 out:z0z_k3d f_2 dual_3 fine_6 add_7_c0 one_8 sum_9 i_10 lot_11 best_12 c_14 decided_15 t_30 t_31 t_32 t_40 t_41 t_42 N2 N1 K w
def z0z_b2 (f_2 dual_3:Addr)(fine_6 add_7_c0:Addr)(one_8 sum_9:Addr)(i_10 lot_11:Int)(best_12:Addr)(t_30:Sl)(t_31 t_32:Int)(t_40:Sl)(t_41 t_42:Int)(N2:Addr->Addr->Addr->Addr->Addr->Addr->Int->Int->Addr->Sl->Int->Int->Sl->Int->Int->World->Prop)(N1:Addr->Addr->Addr->Addr->Addr->Addr->Sl->Int->Int->World->Prop)(K:Pw.T3)(w:World):Prop :=
 cnd (decide (t_42<t_41))
 (nz t_40.p fun a54=>(0<=t_42/\t_42<(t_40.l:Nat))/\∃ x55:Int,w.cell? (a54.add (t_42.toNat*4))=some (Value.int .i64 x55)/\∃ x56:Int,w.cell? ((a54.add (t_42.toNat*4)).add 1)=some (Value.int .i64 x56)/\∃ x57:Int,w.cell? ((a54.add (t_42.toNat*4)).add 2)=some (Value.int .i64 x57)/\∃ x58:Int,w.cell? ((a54.add (t_42.toNat*4)).add 3)=some (Value.int .i64 x58)/\let w59:=w.alloc (Obj.cells #[(Value.int .i64 0),(Value.int .i64 0),(Value.int .i64 0),(Value.int .i64 0)] 57)
 stN w59 (Addr.mk w.heap.size 0 none) [(Value.int .i64 x55),(Value.int .i64 x56),(Value.int .i64 x57),(Value.int .i64 x58)] fun w60=>∃ x61:Sl,w60.cell? (f_2.add 5)=some (Value.slice x61.p x61.l x61.c)/\∃ x62:Int,w60.cell? (Addr.mk w.heap.size 0 none)=some (Value.int .i64 x62)/\cnd (x62 != lot_11)
 (inR .i64 (t_42+(1:Int))/\N2 f_2 dual_3 fine_6 add_7_c0 one_8 sum_9 i_10 lot_11 best_12 t_30 t_31 t_32 t_40 t_41 (t_42+(1:Int)) w60)
 (cnd (decide (i_10<(x61.l:Int)))
 (∃ x63:Sl,w60.cell? (f_2.add 5)=some (Value.slice x63.p x63.l x63.c)/\nz x63.p fun a64=>(0<=i_10/\i_10<(x63.l:Nat))/\∃ x65:Int,w60.cell? (a64.add (i_10.toNat*1))=some (Value.int .i64 x65)/\cnd (x65 != t_42)
 (inR .i64 (t_42+(1:Int))/\N2 f_2 dual_3 fine_6 add_7_c0 one_8 sum_9 i_10 lot_11 best_12 t_30 t_31 t_32 t_40 t_41 (t_42+(1:Int)) w60)
 (z0z_k3 f_2 dual_3 fine_6 add_7_c0 one_8 sum_9 i_10 lot_11 best_12 (Addr.mk w.heap.size 0 none) (decide (i_10<(x61.l:Int))) t_30 t_31 t_32 t_40 t_41 t_42 N2 N1 K w60))
 (z0z_k3 f_2 dual_3 fine_6 add_7_c0 one_8 sum_9 i_10 lot_11 best_12 (Addr.mk w.heap.size 0 none) (decide (i_10<(x61.l:Int))) t_30 t_31 t_32 t_40 t_41 t_42 N2 N1 K w60)))
 (∃ x134:Int,w.cell? sum_9=some (Value.int .i64 x134)/\∃ x135:Int,w.cell? (sum_9.add 1)=some (Value.int .i64 x135)/\∃ x136:Int,w.cell? one_8=some (Value.int .i64 x136)/\∃ x137:Int,w.cell? (one_8.add 1)=some (Value.int .i64 x137)/\∃ x138:Int,w.cell? best_12=some (Value.int .i64 x138)/\∃ x139:Int,w.cell? (best_12.add 1)=some (Value.int .i64 x139)/\z0j_sh x134 x135 x136 x137 x138 x139 add_7_c0 (fun r141_0 r141_1 w140=>wrOk w140 sum_9/\
 (let w142:=w140.setCell sum_9 (Value.int .i64 r141_0)
 wrOk w142 (sum_9.add 1)/\
 (let w143:=w142.setCell (sum_9.add 1) (Value.int .i64 r141_1)
 inR .i64 (t_32+(1:Int))/\N1 f_2 dual_3 fine_6 add_7_c0 one_8 sum_9 t_30 t_31 (t_32+(1:Int)) w143))) w)
def z0z_l2d (f_2 dual_3:Addr)(fine_6 add_7_c0:Addr)(one_8 sum_9:Addr)(i_10 lot_11:Int)(best_12:Addr)(t_30:Sl)(t_31 t_32:Int)(t_40:Sl)(t_41 t_42:Int)(N1:Addr->Addr->Addr->Addr->Addr->Addr->Sl->Int->Int->World->Prop)(K:Pw.T3)(w:World):Prop :=
 ∃ (I:Int->World->Prop) (μ:Int->World->Nat),I t_42 w/\∀ (t_421:Int) (w1:World),I t_421 w1 ->
 z0z_b2 f_2 dual_3 fine_6 add_7_c0 one_8 sum_9 i_10 lot_11 best_12 t_30 t_31 t_32 t_40 t_41 t_421 (fun f_2' dual_3' fine_6' add_7_c0' one_8' sum_9' i_10' lot_11' best_12' t_30' t_31' t_32' t_40' t_41' t_42' w'=>((f_2'=f_2/\dual_3'=dual_3/\fine_6'=fine_6/\add_7_c0'=add_7_c0/\one_8'=one_8/\sum_9'=sum_9/\i_10'=i_10/\lot_11'=lot_11/\best_12'=best_12/\t_30'=t_30/\t_31'=t_31/\t_32'=t_32/\t_40'=t_40/\t_41'=t_41/\True)/\I t_42' w')/\μ t_42' w'<μ t_421 w1) N1 K w1
structure z0z_l2 (f_2 dual_3:Addr)(fine_6 add_7_c0:Addr)(one_8 sum_9:Addr)(i_10 lot_11:Int)(best_12:Addr)(t_30:Sl)(t_31 t_32:Int)(t_40:Sl)(t_41 t_42:Int)(N1:Addr->Addr->Addr->Addr->Addr->Addr->Sl->Int->Int->World->Prop)(K:Pw.T3)(w:World):Prop where
 out:z0z_l2d f_2 dual_3 fine_6 add_7_c0 one_8 sum_9 i_10 lot_11 best_12 t_30 t_31 t_32 t_40 t_41 t_42 N1 K w
def z0z_b1 (f_2 dual_3:Addr)(fine_6 add_7_c0:Addr)(one_8 sum_9:Addr)(t_30:Sl)(t_31 t_32:Int)(N1:Addr->Addr->Addr->Addr->Addr->Addr->Sl->Int->Int->World->Prop)(K:Pw.T3)(w:World):Prop :=
 cnd (decide (t_32<t_31))
 (nz t_30.p fun a46=>(0<=t_32/\t_32<(t_30.l:Nat))/\∃ x47:Int,w.cell? (a46.add (t_32.toNat*1))=some (Value.int .i64 x47)/\z55_sh (0:Int) (fun r49_0 r49_1 w48=>let w50:=w48.alloc (Obj.cells #[(Value.int .i64 0),(Value.int .i64 0)] 31)
 wrOk w50 (Addr.mk w48.heap.size 0 none)/\
 (let w51:=w50.setCell (Addr.mk w48.heap.size 0 none) (Value.int .i64 r49_0)
 wrOk w51 (Addr.mk w48.heap.size 1 none)/\
 (let w52:=w51.setCell (Addr.mk w48.heap.size 1 none) (Value.int .i64 r49_1)
 ∃ x53:Sl,w52.cell? (f_2.add 1)=some (Value.slice x53.p x53.l x53.c)/\z0z_l2 f_2 dual_3 fine_6 add_7_c0 one_8 sum_9 t_32 x47 (Addr.mk w48.heap.size 0 none) t_30 t_31 t_32 x53 (x53.l:Int) (0:Int) N1 K w52))) w)
 (∃ x144:Int,w.cell? one_8=some (Value.int .i64 x144)/\∃ x145:Int,w.cell? (one_8.add 1)=some (Value.int .i64 x145)/\∃ x146:Int,w.cell? one_8=some (Value.int .i64 x146)/\∃ x147:Int,w.cell? (one_8.add 1)=some (Value.int .i64 x147)/\∃ x148:Int,w.cell? dual_3=some (Value.int .i64 x148)/\∃ x149:Int,w.cell? (dual_3.add 1)=some (Value.int .i64 x149)/\z0j_sh x144 x145 x146 x147 x148 x149 add_7_c0 (fun r151_0 r151_1 w150=>let w152:=w150.alloc (Obj.cells #[(Value.int .i64 0),(Value.int .i64 0)] 31)
 wrOk w152 (Addr.mk w150.heap.size 0 none)/\
 (let w153:=w152.setCell (Addr.mk w150.heap.size 0 none) (Value.int .i64 r151_0)
 wrOk w153 (Addr.mk w150.heap.size 1 none)/\
 (let w154:=w153.setCell (Addr.mk w150.heap.size 1 none) (Value.int .i64 r151_1)
 let w155:=w154.drew
 ∃ S156:World->Prop,S156 w155/\∃ x157:Int,(∀ w':World,S156 w'->w'.cell? sum_9=some (Value.int .i64 x157))/\∃ x158:Int,(∀ w':World,S156 w'->w'.cell? (sum_9.add 1)=some (Value.int .i64 x158))/\∃ x159:Int,(∀ w':World,S156 w'->w'.cell? (Addr.mk w150.heap.size 0 none)=some (Value.int .i64 x159))/\∃ x160:Int,(∀ w':World,S156 w'->w'.cell? (Addr.mk w150.heap.size 1 none)=some (Value.int .i64 x160))/\∃ x161:Sl,(∀ w':World,S156 w'->w'.cell? f_2=some (Value.slice x161.p x161.l x161.c))/\∃ x162:Sl,(∀ w':World,S156 w'->w'.cell? (f_2.add 1)=some (Value.slice x162.p x162.l x162.c))/\∃ x163:Sl,(∀ w':World,S156 w'->w'.cell? (f_2.add 2)=some (Value.slice x163.p x163.l x163.c))/\∃ x164:Int,(∀ w':World,S156 w'->w'.cell? (f_2.add 3)=some (Value.int .i64 x164))/\∃ x165:Int,(∀ w':World,S156 w'->w'.cell? (f_2.add 4)=some (Value.int .i64 x165))/\∃ x166:Sl,(∀ w':World,S156 w'->w'.cell? (f_2.add 5)=some (Value.slice x166.p x166.l x166.c))/\z1f_sh x161 x162 x163 x164 x165 x166 (fun r168 w167=>S156 w167/\z55_sh r168 (fun r170_0 r170_1 w169=>S156 w169/\z0j_sh x157 x158 x159 x160 r170_0 r170_1 add_7_c0 (fun r172_0 r172_1 w171=>S156 w171/\wrOk w171 sum_9/\
 (let w173:=w171.setCell sum_9 (Value.int .i64 r172_0)
 wrOk w173 (sum_9.add 1)/\
 (let w174:=w173.setCell (sum_9.add 1) (Value.int .i64 r172_1)
 let w175:=w174.drew
 ∃ S176:World->Prop,S176 w175/\∃ x177:Int,(∀ w':World,S176 w'->w'.cell? sum_9=some (Value.int .i64 x177))/\∃ x178:Int,(∀ w':World,S176 w'->w'.cell? (sum_9.add 1)=some (Value.int .i64 x178))/\∃ x179:Bool,(∀ w':World,S176 w'->w'.cell? fine_6=some (Value.bool x179))/\z4i_sh x177 x178 (fun r181 w180=>S176 w180/\K r181 x179 w180) w175))) w169) w167) w155))) w)
def z0z_l1d (f_2 dual_3:Addr)(fine_6 add_7_c0:Addr)(one_8 sum_9:Addr)(t_30:Sl)(t_31 t_32:Int)(K:Pw.T3)(w:World):Prop :=
 ∃ (I:Int->World->Prop) (μ:Int->World->Nat),I t_32 w/\∀ (t_321:Int) (w1:World),I t_321 w1 ->
 z0z_b1 f_2 dual_3 fine_6 add_7_c0 one_8 sum_9 t_30 t_31 t_321 (fun f_2' dual_3' fine_6' add_7_c0' one_8' sum_9' t_30' t_31' t_32' w'=>((f_2'=f_2/\dual_3'=dual_3/\fine_6'=fine_6/\add_7_c0'=add_7_c0/\one_8'=one_8/\sum_9'=sum_9/\t_30'=t_30/\t_31'=t_31/\True)/\I t_32' w')/\μ t_32' w'<μ t_321 w1) K w1
structure z0z_l1 (f_2 dual_3:Addr)(fine_6 add_7_c0:Addr)(one_8 sum_9:Addr)(t_30:Sl)(t_31 t_32:Int)(K:Pw.T3)(w:World):Prop where
 out:z0z_l1d f_2 dual_3 fine_6 add_7_c0 one_8 sum_9 t_30 t_31 t_32 K w
def z0z_k0d (f_2 dual_3:Addr)(fine_6 add_7_c0:Addr)(one_8 sum_9:Addr)(K:Pw.T3)(w:World):Prop :=
 ∃ x45:Sl,w.cell? f_2=some (Value.slice x45.p x45.l x45.c)/\z0z_l1 f_2 dual_3 fine_6 add_7_c0 one_8 sum_9 x45 (x45.l:Int) (0:Int) K w
structure z0z_k0 (f_2 dual_3:Addr)(fine_6 add_7_c0:Addr)(one_8 sum_9:Addr)(K:Pw.T3)(w:World):Prop where
 out:z0z_k0d f_2 dual_3 fine_6 add_7_c0 one_8 sum_9 K w
def z0z_sd (f_0_0 f_0_1 f_0_2:Sl)(f_0_3 f_0_4:Int)(f_0_5:Sl)(dual_1_0 dual_1_1:Int)(K:Pw.T3)(w:World):Prop :=
 let w1:=w.alloc (Obj.cells #[(Value.slice f_0_0.p f_0_0.l f_0_0.c),(Value.slice f_0_1.p f_0_1.l f_0_1.c),(Value.slice f_0_2.p f_0_2.l f_0_2.c),(Value.int .i64 f_0_3),(Value.int .i64 f_0_4),(Value.slice f_0_5.p f_0_5.l f_0_5.c)] 99)
 let w2:=w1.alloc (Obj.cells #[(Value.int .i64 dual_1_0),(Value.int .i64 dual_1_1)] 31)
 let w3:=w2.alloc (Obj.cells #[(Value.bool false)] 4)
 wrOk w3 (Addr.mk w2.heap.size 0 none)/\
 (let w4:=w3.setCell (Addr.mk w2.heap.size 0 none) (Value.bool true)
 z55_sh (1:Int) (fun r6_0 r6_1 w5=>let w7:=w5.alloc (Obj.cells #[(Value.int .i64 0),(Value.int .i64 0)] 31)
 wrOk w7 (Addr.mk w5.heap.size 0 none)/\
 (let w8:=w7.setCell (Addr.mk w5.heap.size 0 none) (Value.int .i64 r6_0)
 wrOk w8 (Addr.mk w5.heap.size 1 none)/\
 (let w9:=w8.setCell (Addr.mk w5.heap.size 1 none) (Value.int .i64 r6_1)
 let w10:=w9.drew
 ∃ S11:World->Prop,S11 w10/\∃ x12:Int,(∀ w':World,S11 w'->w'.cell? (Addr.mk w1.heap.size 0 none)=some (Value.int .i64 x12))/\∃ x13:Int,(∀ w':World,S11 w'->w'.cell? (Addr.mk w1.heap.size 1 none)=some (Value.int .i64 x13))/\∃ x14:Int,(∀ w':World,S11 w'->w'.cell? (Addr.mk w.heap.size 4 none)=some (Value.int .i64 x14))/\(z55_sh (0:Int) (fun r16_0 r16_1 w15=>S11 w15/\(z55_sh x14 (fun r18_0 r18_1 w17=>S11 w17/\(z0j_sh r16_0 r16_1 x12 x13 r18_0 r18_1 (Addr.mk w2.heap.size 0 none) (fun r20_0 r20_1 w19=>S11 w19/\let w21:=w19.alloc (Obj.cells #[(Value.int .i64 0),(Value.int .i64 0)] 31)
 S11 w21/\wrOk w21 (Addr.mk w19.heap.size 0 none)/\
 (let w22:=w21.setCell (Addr.mk w19.heap.size 0 none) (Value.int .i64 r20_0)
 wrOk w22 (Addr.mk w19.heap.size 1 none)/\
 (let w23:=w22.setCell (Addr.mk w19.heap.size 1 none) (Value.int .i64 r20_1)
 z0z_k0 (Addr.mk w.heap.size 0 none) (Addr.mk w1.heap.size 0 none) (Addr.mk w2.heap.size 0 none) (Addr.mk w2.heap.size 0 none) (Addr.mk w5.heap.size 0 none) (Addr.mk w19.heap.size 0 none) K w23))) w17)
/\(let w24:=w17.alloc (Obj.cells #[(Value.int .i64 0),(Value.int .i64 0)] 31)
 S11 w24/\z0j_sh r16_0 r16_1 x12 x13 r18_0 r18_1 (Addr.mk w2.heap.size 0 none) (fun r26_0 r26_1 w25=>S11 w25/\wrOk w25 (Addr.mk w17.heap.size 0 none)/\
 (let w27:=w25.setCell (Addr.mk w17.heap.size 0 none) (Value.int .i64 r26_0)
 wrOk w27 (Addr.mk w17.heap.size 1 none)/\
 (let w28:=w27.setCell (Addr.mk w17.heap.size 1 none) (Value.int .i64 r26_1)
 z0z_k0 (Addr.mk w.heap.size 0 none) (Addr.mk w1.heap.size 0 none) (Addr.mk w2.heap.size 0 none) (Addr.mk w2.heap.size 0 none) (Addr.mk w5.heap.size 0 none) (Addr.mk w17.heap.size 0 none) K w28))) w24)) w15)
/\(let w29:=w15.alloc (Obj.cells #[(Value.int .i64 0),(Value.int .i64 0)] 31)
 S11 w29/\z55_sh x14 (fun r31_0 r31_1 w30=>S11 w30/\z0j_sh r16_0 r16_1 x12 x13 r31_0 r31_1 (Addr.mk w2.heap.size 0 none) (fun r33_0 r33_1 w32=>S11 w32/\wrOk w32 (Addr.mk w15.heap.size 0 none)/\
 (let w34:=w32.setCell (Addr.mk w15.heap.size 0 none) (Value.int .i64 r33_0)
 wrOk w34 (Addr.mk w15.heap.size 1 none)/\
 (let w35:=w34.setCell (Addr.mk w15.heap.size 1 none) (Value.int .i64 r33_1)
 z0z_k0 (Addr.mk w.heap.size 0 none) (Addr.mk w1.heap.size 0 none) (Addr.mk w2.heap.size 0 none) (Addr.mk w2.heap.size 0 none) (Addr.mk w5.heap.size 0 none) (Addr.mk w15.heap.size 0 none) K w35))) w30) w29)) w10)
/\(let w36:=w10.alloc (Obj.cells #[(Value.int .i64 0),(Value.int .i64 0)] 31)
 S11 w36/\z55_sh (0:Int) (fun r38_0 r38_1 w37=>S11 w37/\z55_sh x14 (fun r40_0 r40_1 w39=>S11 w39/\z0j_sh r38_0 r38_1 x12 x13 r40_0 r40_1 (Addr.mk w2.heap.size 0 none) (fun r42_0 r42_1 w41=>S11 w41/\wrOk w41 (Addr.mk w10.heap.size 0 none)/\
 (let w43:=w41.setCell (Addr.mk w10.heap.size 0 none) (Value.int .i64 r42_0)
 wrOk w43 (Addr.mk w10.heap.size 1 none)/\
 (let w44:=w43.setCell (Addr.mk w10.heap.size 1 none) (Value.int .i64 r42_1)
 z0z_k0 (Addr.mk w.heap.size 0 none) (Addr.mk w1.heap.size 0 none) (Addr.mk w2.heap.size 0 none) (Addr.mk w2.heap.size 0 none) (Addr.mk w5.heap.size 0 none) (Addr.mk w10.heap.size 0 none) K w44))) w39) w37) w36)))) w4)
structure z0z_sh (f_0_0 f_0_1 f_0_2:Sl)(f_0_3 f_0_4:Int)(f_0_5:Sl)(dual_1_0 dual_1_1:Int)(K:Pw.T3)(w:World):Prop where
 out:z0z_sd f_0_0 f_0_1 f_0_2 f_0_3 f_0_4 f_0_5 dual_1_0 dual_1_1 K w
def z0z_L0 (Kv:VW):Cur [tQ,tQ,tQ,.c 192 0 1,tQ,tQ,tQ] WP:=fun f_2 dual_3 fine_6 add_7_c0 one_8 sum_9=>z0z_k0 f_2 dual_3 fine_6 add_7_c0 one_8 sum_9 (kk [.u 2,tI,tB] Kv)
def z0z_L1 (Kv:VW):Cur [tQ,tQ,tQ,.c 192 0 1,tQ,tQ,tQ,tL,tI,tI] WP:=fun f_2 dual_3 fine_6 add_7_c0 one_8 sum_9 t_30 t_31 t_32=>z0z_l1 f_2 dual_3 fine_6 add_7_c0 one_8 sum_9 t_30 t_31 t_32 (kk [.u 2,tI,tB] Kv)
def z0z_L2 (Kv:VW):Cur [tQ,tQ,tQ,.c 192 0 1,tQ,tQ,tQ,tL,tI,tI] WP->Cur [tQ,tQ,tQ,.c 192 0 1,tQ,tQ,tQ,tI,tI,tQ,tL,tI,tI,tL,tI,tI] WP:=fun N1 f_2 dual_3 fine_6 add_7_c0 one_8 sum_9 i_10 lot_11 best_12 t_30 t_31 t_32 t_40 t_41 t_42=>z0z_l2 f_2 dual_3 fine_6 add_7_c0 one_8 sum_9 i_10 lot_11 best_12 t_30 t_31 t_32 t_40 t_41 t_42 N1 (kk [.u 2,tI,tB] Kv)
def z0z_L3 (Kv:VW):Cur [tQ,tQ,tQ,.c 192 0 1,tQ,tQ,tQ,tI,tI,tQ,tL,tI,tI,tL,tI,tI] WP->Cur [tQ,tQ,tQ,.c 192 0 1,tQ,tQ,tQ,tL,tI,tI] WP->Cur (tQ :: tQ :: tQ :: .c 192 0 1 :: tQ :: tQ :: tQ :: tI :: tI :: tQ :: tQ :: tB :: tL :: tI :: tI :: tL :: tI :: tI :: []) WP:=fun N2 N1 f_2 dual_3 fine_6 add_7_c0 one_8 sum_9 i_10 lot_11 best_12 c_14 decided_15 t_30 t_31 t_32 t_40 t_41 t_42=>z0z_k3 f_2 dual_3 fine_6 add_7_c0 one_8 sum_9 i_10 lot_11 best_12 c_14 decided_15 t_30 t_31 t_32 t_40 t_41 t_42 N2 N1 (kk [.u 2,tI,tB] Kv)
def z0z_L4 (Kv:VW):Cur [tQ,tQ,tQ,.c 192 0 1,tQ,tQ,tQ,tI,tI,tQ,tL,tI,tI,tL,tI,tI] WP->Cur [tQ,tQ,tQ,.c 192 0 1,tQ,tQ,tQ,tL,tI,tI] WP->Cur (tQ :: tQ :: tQ :: .c 192 0 1 :: tQ :: tQ :: tQ :: tI :: tI :: tQ :: tB :: tQ :: tL :: tI :: tI :: tL :: tI :: tI :: []) WP:=fun N2 N1 f_2 dual_3 fine_6 add_7_c0 one_8 sum_9 i_10 lot_11 best_12 decided_15 x_16 t_30 t_31 t_32 t_40 t_41 t_42=>z0z_k4 f_2 dual_3 fine_6 add_7_c0 one_8 sum_9 i_10 lot_11 best_12 decided_15 x_16 t_30 t_31 t_32 t_40 t_41 t_42 N2 N1 (kk [.u 2,tI,tB] Kv)
def z0z_L5 (Kv:VW):Cur [tQ,tQ,tQ,.c 192 0 1,tQ,tQ,tQ,tI,tI,tQ,tL,tI,tI,tL,tI,tI] WP->Cur [tQ,tQ,tQ,.c 192 0 1,tQ,tQ,tQ,tL,tI,tI] WP->Cur (tQ :: tQ :: tQ :: .c 192 0 1 :: tQ :: tQ :: tQ :: tI :: tI :: tQ :: tQ :: tL :: tI :: tI :: tL :: tI :: tI :: []) WP:=fun N2 N1 f_2 dual_3 fine_6 add_7_c0 one_8 sum_9 i_10 lot_11 best_12 x_16 t_30 t_31 t_32 t_40 t_41 t_42=>z0z_k5 f_2 dual_3 fine_6 add_7_c0 one_8 sum_9 i_10 lot_11 best_12 x_16 t_30 t_31 t_32 t_40 t_41 t_42 N2 N1 (kk [.u 2,tI,tB] Kv)
noncomputable def z0z_S:Pw.Spec:=fun vs w Kv=>un [.g 6,tL,tL,tL,tI,tI,tL,.g 2,tI,tI] (fun f_0_0 f_0_1 f_0_2 f_0_3 f_0_4 f_0_5 dual_1_0 dual_1_1=>z0z_sh f_0_0 f_0_1 f_0_2 f_0_3 f_0_4 f_0_5 dual_1_0 dual_1_1 (kk [.u 2,tI,tB] Kv)) nF vs w
def z0z_A (Kv:VW):A:=(qr 4 (qr 2 (qr 2 (qr 3 (qs (A.drw (dp [0,2,3,4,5] (DA.two 1 (DA.two 6 (DA.two 7 (DA.eff 8 (DA.eff 9 DA.done)) 8 (DA.eff 7 (DA.eff 9 DA.done))) 8 (DA.eff 6 (DA.eff 7 (DA.eff 9 DA.done)))) 8 (DA.eff 1 (DA.eff 6 (DA.eff 7 (DA.eff 9 DA.done))))))) (A.cut [2,3,6,7,8,9] (uR0 [tQ,tQ,tQ,.c 192 0 1,tQ,tQ,tQ] (z0z_L0 Kv)) (qs (qr 5 (qb (A.loop [2,3,6,7,8,9,30,31,32] (uR0 [tQ,tQ,tQ,.c 192 0 1,tQ,tQ,tQ,tL,tI,tI] (z0z_L1 Kv)) (qr 1 (qs (qc ql ql) (qs (qb (qr 5 (qr 3 (qs (qr 5 (qb (A.loop [2,3,6,7,8,9,10,11,12,30,31,32,40,41,42] (uR1 [tQ,tQ,tQ,.c 192 0 1,tQ,tQ,tQ,tL,tI,tI] [tQ,tQ,tQ,.c 192 0 1,tQ,tQ,tQ,tI,tI,tQ,tL,tI,tI,tL,tI,tI] (z0z_L2 Kv)) (qr 1 (qs (qc ql ql) (qs (qb (qr 6 (qr 6 (qs (qs (A.reg (qn 5 (RA.spl 56 (qk 10 (qn 1 RA.done)) (qn 2 (RA.spl 58 (qn 9 RA.done) (qk 7 (qn 2 RA.done))))))) (qc ql ql)) (A.cut [2,3,6,7,8,9,10,11,12,14,15,30,31,32,40,41,42] (uR2 [tQ,tQ,tQ,.c 192 0 1,tQ,tQ,tQ,tI,tI,tQ,tL,tI,tI,tL,tI,tI] [tQ,tQ,tQ,.c 192 0 1,tQ,tQ,tQ,tL,tI,tI] (tQ :: tQ :: tQ :: .c 192 0 1 :: tQ :: tQ :: tQ :: tI :: tI :: tQ :: tQ :: tB :: tL :: tI :: tI :: tL :: tI :: tI :: []) (z0z_L3 Kv)) (qs (A.drw (dp [0,1,2,5,6,7,8] (DA.two 3 (DA.two 4 (DA.two 9 (DA.two 10 (DA.eff 11 (DA.eff 12 DA.done)) 11 (DA.eff 10 (DA.eff 12 DA.done))) 11 (DA.eff 9 (DA.eff 10 (DA.eff 12 DA.done)))) 11 (DA.eff 4 (DA.eff 9 (DA.eff 10 (DA.eff 12 DA.done))))) 11 (DA.eff 3 (DA.eff 4 (DA.eff 9 (DA.eff 10 (DA.eff 12 DA.done)))))))) (A.cut [2,3,6,7,8,9,10,11,12,15,16,30,31,32,40,41,42] (uR2 [tQ,tQ,tQ,.c 192 0 1,tQ,tQ,tQ,tI,tI,tQ,tL,tI,tI,tL,tI,tI] [tQ,tQ,tQ,.c 192 0 1,tQ,tQ,tQ,tL,tI,tI] (tQ :: tQ :: tQ :: .c 192 0 1 :: tQ :: tQ :: tQ :: tI :: tI :: tQ :: tB :: tQ :: tL :: tI :: tI :: tL :: tI :: tI :: []) (z0z_L4 Kv)) (qs (A.reg (qn 2 (RA.spl 80 (qk 4 (qn 1 RA.done)) (qn 5 RA.done)))) (qc (A.cut [2,3,6,7,8,9,10,11,12,16,30,31,32,40,41,42] (uR2 [tQ,tQ,tQ,.c 192 0 1,tQ,tQ,tQ,tI,tI,tQ,tL,tI,tI,tL,tI,tI] [tQ,tQ,tQ,.c 192 0 1,tQ,tQ,tQ,tL,tI,tI] (tQ :: tQ :: tQ :: .c 192 0 1 :: tQ :: tQ :: tQ :: tI :: tI :: tQ :: tQ :: tL :: tI :: tI :: tL :: tI :: tI :: []) (z0z_L5 Kv)) (qe 2)) ql))))))))) (qe 2))))))) (qe 6))))) (qe 2))))))) (qr 7 (qs (A.drw (dp [0,1,2,3] (DA.eff 4 (DA.eff 5 (DA.eff 6 (DA.eff 7 DA.done)))))) (qs (A.drw (dp [0,2] (DA.eff 1 (dp [3,4] DA.done)))) ql))))))))))
theorem z0z_ok:Sound Tryz.prog 159 z0z_S:=okS (x:=z0z_A) (fun Kv f_0_0 f_0_1 f_0_2 f_0_3 f_0_4 f_0_5 dual_1_0 dual_1_1=>z0z_sd f_0_0 f_0_1 f_0_2 f_0_3 f_0_4 f_0_5 dual_1_0 dual_1_1 (kk [.u 2,tI,tB] Kv)) progMixed (Γ:=[(75,z55_S),(77,z4z_S),(80,z4i_S),(189,z1f_S),(191,z1u_S),(192,z0j_S)]) ⟨.inl z55_ok,.inl z4z_ok,.inl z4i_ok,.inl z1f_ok,.inl z1u_ok,.inl z0j_ok,trivial⟩ Tryz.call159 Tryz.func159 (fun Kv=>hStep (hCut0 (F:=z0z_L0 Kv) (G:=fun f_2 dual_3 fine_6 add_7_c0 one_8 sum_9=>z0z_k0d f_2 dual_3 fine_6 add_7_c0 one_8 sum_9 (kk [.u 2,tI,tB] Kv))) <| hStep (hLoop0 (L:=z0z_L1 Kv) (fun N1 f_2 dual_3 fine_6 add_7_c0 one_8 sum_9 t_30 t_31 t_32=>z0z_b1 f_2 dual_3 fine_6 add_7_c0 one_8 sum_9 t_30 t_31 t_32 N1 (kk [.u 2,tI,tB] Kv)) (fun⟨a0,a1,a2,a3,a4,a5,a6,a7,_,_⟩ _ h=>let ⟨I,μ,h0,hr⟩:=h.out; ⟨fun b0 b1 b2 b3 b4 b5 b6 b7 b8 w=>(b0=a0/\b1=a1/\b2=a2/\b3=a3/\b4=a4/\b5=a5/\b6=a6/\b7=a7/\True)/\I b8 w,fun _ _ _ _ _ _ _ _ b8 w=>μ b8 w,⟨⟨rfl,rfl,rfl,rfl,rfl,rfl,rfl,rfl,trivial⟩,h0⟩,fun⟨_,_,_,_,_,_,_,_,_,_⟩ _ ⟨⟨e0,e1,e2,e3,e4,e5,e6,e7,_⟩,hI⟩=>by cases e0; cases e1; cases e2; cases e3; cases e4; cases e5; cases e6; cases e7; exact hr _ _ hI⟩)) <| hStep (hLoop1 (L:=z0z_L2 Kv) (fun N1 N2 f_2 dual_3 fine_6 add_7_c0 one_8 sum_9 i_10 lot_11 best_12 t_30 t_31 t_32 t_40 t_41 t_42=>z0z_b2 f_2 dual_3 fine_6 add_7_c0 one_8 sum_9 i_10 lot_11 best_12 t_30 t_31 t_32 t_40 t_41 t_42 N2 N1 (kk [.u 2,tI,tB] Kv)) (fun _ ⟨a0,a1,a2,a3,a4,a5,a6,a7,a8,a9,a10,a11,a12,a13,_,_⟩ _ h=>let ⟨I,μ,h0,hr⟩:=h.out; ⟨fun b0 b1 b2 b3 b4 b5 b6 b7 b8 b9 b10 b11 b12 b13 b14 w=>(b0=a0/\b1=a1/\b2=a2/\b3=a3/\b4=a4/\b5=a5/\b6=a6/\b7=a7/\b8=a8/\b9=a9/\b10=a10/\b11=a11/\b12=a12/\b13=a13/\True)/\I b14 w,fun _ _ _ _ _ _ _ _ _ _ _ _ _ _ b14 w=>μ b14 w,⟨⟨rfl,rfl,rfl,rfl,rfl,rfl,rfl,rfl,rfl,rfl,rfl,rfl,rfl,rfl,trivial⟩,h0⟩,fun⟨_,_,_,_,_,_,_,_,_,_,_,_,_,_,_,_⟩ _ ⟨⟨e0,e1,e2,e3,e4,e5,e6,e7,e8,e9,e10,e11,e12,e13,_⟩,hI⟩=>by cases e0; cases e1; cases e2; cases e3; cases e4; cases e5; cases e6; cases e7; cases e8; cases e9; cases e10; cases e11; cases e12; cases e13; exact hr _ _ hI⟩)) <| hStep (hCut2 (F:=z0z_L3 Kv) (G:=fun N2 N1 f_2 dual_3 fine_6 add_7_c0 one_8 sum_9 i_10 lot_11 best_12 c_14 decided_15 t_30 t_31 t_32 t_40 t_41 t_42=>z0z_k3d f_2 dual_3 fine_6 add_7_c0 one_8 sum_9 i_10 lot_11 best_12 c_14 decided_15 t_30 t_31 t_32 t_40 t_41 t_42 N2 N1 (kk [.u 2,tI,tB] Kv))) <| hStep (hCut2 (F:=z0z_L4 Kv) (G:=fun N2 N1 f_2 dual_3 fine_6 add_7_c0 one_8 sum_9 i_10 lot_11 best_12 decided_15 x_16 t_30 t_31 t_32 t_40 t_41 t_42=>z0z_k4d f_2 dual_3 fine_6 add_7_c0 one_8 sum_9 i_10 lot_11 best_12 decided_15 x_16 t_30 t_31 t_32 t_40 t_41 t_42 N2 N1 (kk [.u 2,tI,tB] Kv))) <| hStep (hCut2 (F:=z0z_L5 Kv) (G:=fun N2 N1 f_2 dual_3 fine_6 add_7_c0 one_8 sum_9 i_10 lot_11 best_12 x_16 t_30 t_31 t_32 t_40 t_41 t_42=>z0z_k5d f_2 dual_3 fine_6 add_7_c0 one_8 sum_9 i_10 lot_11 best_12 x_16 t_30 t_31 t_32 t_40 t_41 t_42 N2 N1 (kk [.u 2,tI,tB] Kv))) <| hEnd)
def z0u_b0 (sum_3:Int)(t_7:Sl)(t_8 t_9:Int)(N0:Int->Sl->Int->Int->World->Prop)(K:Pw.T1)(w:World):Prop :=
 cnd (decide (t_9<t_8))
 (nz t_7.p fun a10=>(0<=t_9/\t_9<(t_7.l:Nat))/\∃ x11:Int,w.cell? (a10.add (t_9.toNat*4))=some (Value.int .i64 x11)/\∃ x12:Int,w.cell? ((a10.add (t_9.toNat*4)).add 1)=some (Value.int .i64 x12)/\∃ x13:Int,w.cell? ((a10.add (t_9.toNat*4)).add 2)=some (Value.int .i64 x13)/\∃ x14:Int,w.cell? ((a10.add (t_9.toNat*4)).add 3)=some (Value.int .i64 x14)/\let w15:=w.alloc (Obj.cells #[(Value.int .i64 0),(Value.int .i64 0),(Value.int .i64 0),(Value.int .i64 0)] 57)
 stN w15 (Addr.mk w.heap.size 0 none) [(Value.int .i64 x11),(Value.int .i64 x12),(Value.int .i64 x13),(Value.int .i64 x14)] fun w16=>∃ x17:Int,w16.cell? (Addr.mk w.heap.size 3 none)=some (Value.int .i64 x17)/\inR .i64 (sum_3+x17)/\inR .i64 (t_9+(1:Int))/\N0 (sum_3+x17) t_7 t_8 (t_9+(1:Int)) w16)
 (K sum_3 w)
def z0u_l0d (sum_3:Int)(t_7:Sl)(t_8 t_9:Int)(K:Pw.T1)(w:World):Prop :=
 ∃ (I:Int->Int->World->Prop) (μ:Int->Int->World->Nat),I sum_3 t_9 w/\∀ (sum_31 t_91:Int) (w1:World),I sum_31 t_91 w1 ->
 z0u_b0 sum_31 t_7 t_8 t_91 (fun sum_3' t_7' t_8' t_9' w'=>((t_7'=t_7/\t_8'=t_8/\True)/\I sum_3' t_9' w')/\μ sum_3' t_9' w'<μ sum_31 t_91 w1) K w1
structure z0u_l0 (sum_3:Int)(t_7:Sl)(t_8 t_9:Int)(K:Pw.T1)(w:World):Prop where
 out:z0u_l0d sum_3 t_7 t_8 t_9 K w
def z0u_sd (f_0_0 f_0_1 f_0_2:Sl)(f_0_3 f_0_4:Int)(f_0_5:Sl)(K:Pw.T1)(w:World):Prop :=
 let w1:=w.alloc (Obj.cells #[(Value.slice f_0_0.p f_0_0.l f_0_0.c),(Value.slice f_0_1.p f_0_1.l f_0_1.c),(Value.slice f_0_2.p f_0_2.l f_0_2.c),(Value.int .i64 f_0_3),(Value.int .i64 f_0_4),(Value.slice f_0_5.p f_0_5.l f_0_5.c)] 99)
 ∃ x2:Sl,w1.cell? (Addr.mk w.heap.size 0 none)=some (Value.slice x2.p x2.l x2.c)/\∃ x3:Sl,w1.cell? (Addr.mk w.heap.size 1 none)=some (Value.slice x3.p x3.l x3.c)/\∃ x4:Sl,w1.cell? (Addr.mk w.heap.size 2 none)=some (Value.slice x4.p x4.l x4.c)/\∃ x5:Int,w1.cell? (Addr.mk w.heap.size 3 none)=some (Value.int .i64 x5)/\∃ x6:Int,w1.cell? (Addr.mk w.heap.size 4 none)=some (Value.int .i64 x6)/\∃ x7:Sl,w1.cell? (Addr.mk w.heap.size 5 none)=some (Value.slice x7.p x7.l x7.c)/\z13_sh x2 x3 x4 x5 x6 x7 (fun r9 w8=>z0u_l0 (0:Int) r9 (r9.l:Int) (0:Int) K w8) w1
structure z0u_sh (f_0_0 f_0_1 f_0_2:Sl)(f_0_3 f_0_4:Int)(f_0_5:Sl)(K:Pw.T1)(w:World):Prop where
 out:z0u_sd f_0_0 f_0_1 f_0_2 f_0_3 f_0_4 f_0_5 K w
def z0u_L0 (Kv:VW):Cur [tI,tL,tI,tI] WP:=fun sum_3 t_7 t_8 t_9=>z0u_l0 sum_3 t_7 t_8 t_9 (kk [tI] Kv)
noncomputable def z0u_S:Pw.Spec:=fun vs w Kv=>un [.g 6,tL,tL,tL,tI,tI,tL] (fun f_0_0 f_0_1 f_0_2 f_0_3 f_0_4 f_0_5=>z0u_sh f_0_0 f_0_1 f_0_2 f_0_3 f_0_4 f_0_5 (kk [tI] Kv)) nF vs w
def z0u_A (Kv:VW):A:=(qr 2 (qr 1 (qs (qr 4 (qb (A.loop [3,7,8,9] (uR0 [tI,tL,tI,tI] (z0u_L0 Kv)) (qr 1 (qs (qc ql ql) (qs (qb (qr 4 (qe 5))) (qe 2))))))) (qr 2 ql))))
theorem z0u_ok:Sound Tryz.prog 54 z0u_S:=okS (x:=z0u_A) (fun Kv f_0_0 f_0_1 f_0_2 f_0_3 f_0_4 f_0_5=>z0u_sd f_0_0 f_0_1 f_0_2 f_0_3 f_0_4 f_0_5 (kk [tI] Kv)) progMixed (Γ:=[(115,z13_S)]) ⟨.inl z13_ok,trivial⟩ Tryz.call54 Tryz.func54 (fun Kv=>hStep (hLoop0 (L:=z0u_L0 Kv) (fun N0 sum_3 t_7 t_8 t_9=>z0u_b0 sum_3 t_7 t_8 t_9 N0 (kk [tI] Kv)) (fun⟨_,a1,a2,_,_⟩ _ h=>let ⟨I,μ,h0,hr⟩:=h.out; ⟨fun b0 b1 b2 b3 w=>(b1=a1/\b2=a2/\True)/\I b0 b3 w,fun b0 _ _ b3 w=>μ b0 b3 w,⟨⟨rfl,rfl,trivial⟩,h0⟩,fun⟨_,_,_,_,_⟩ _ ⟨⟨e1,e2,_⟩,hI⟩=>by cases e1; cases e2; exact hr _ _ _ hI⟩)) <| hEnd)
def z14_sd (f_0_0 f_0_1 f_0_2:Sl)(f_0_3 f_0_4:Int)(f_0_5:Sl)(K:Pw.T1)(w:World):Prop :=
 let w1:=w.alloc (Obj.cells #[(Value.slice f_0_0.p f_0_0.l f_0_0.c),(Value.slice f_0_1.p f_0_1.l f_0_1.c),(Value.slice f_0_2.p f_0_2.l f_0_2.c),(Value.int .i64 f_0_3),(Value.int .i64 f_0_4),(Value.slice f_0_5.p f_0_5.l f_0_5.c)] 99)
 let w2:=w1.drew
 ∃ S3:World->Prop,S3 w2/\∃ x4:Sl,(∀ w':World,S3 w'->w'.cell? (Addr.mk w.heap.size 0 none)=some (Value.slice x4.p x4.l x4.c))/\∃ x5:Sl,(∀ w':World,S3 w'->w'.cell? (Addr.mk w.heap.size 1 none)=some (Value.slice x5.p x5.l x5.c))/\∃ x6:Sl,(∀ w':World,S3 w'->w'.cell? (Addr.mk w.heap.size 2 none)=some (Value.slice x6.p x6.l x6.c))/\∃ x7:Int,(∀ w':World,S3 w'->w'.cell? (Addr.mk w.heap.size 3 none)=some (Value.int .i64 x7))/\∃ x8:Int,(∀ w':World,S3 w'->w'.cell? (Addr.mk w.heap.size 4 none)=some (Value.int .i64 x8))/\∃ x9:Sl,(∀ w':World,S3 w'->w'.cell? (Addr.mk w.heap.size 5 none)=some (Value.slice x9.p x9.l x9.c))/\∃ x10:Int,(∀ w':World,S3 w'->w'.cell? (Addr.mk w.heap.size 4 none)=some (Value.int .i64 x10))/\inR .i64 (x10+(1:Int))/\∃ x11:Sl,(∀ w':World,S3 w'->w'.cell? (Addr.mk w.heap.size 0 none)=some (Value.slice x11.p x11.l x11.c))/\∃ x12:Sl,(∀ w':World,S3 w'->w'.cell? (Addr.mk w.heap.size 1 none)=some (Value.slice x12.p x12.l x12.c))/\∃ x13:Sl,(∀ w':World,S3 w'->w'.cell? (Addr.mk w.heap.size 2 none)=some (Value.slice x13.p x13.l x13.c))/\∃ x14:Int,(∀ w':World,S3 w'->w'.cell? (Addr.mk w.heap.size 3 none)=some (Value.int .i64 x14))/\∃ x15:Int,(∀ w':World,S3 w'->w'.cell? (Addr.mk w.heap.size 4 none)=some (Value.int .i64 x15))/\∃ x16:Sl,(∀ w':World,S3 w'->w'.cell? (Addr.mk w.heap.size 5 none)=some (Value.slice x16.p x16.l x16.c))/\z0u_sh x4 x5 x6 x7 x8 x9 (fun r18 w17=>S3 w17/\inR .i64 (r18*(x10+(1:Int)))/\z11_sh x11 x12 x13 x14 x15 x16 (fun r20 w19=>S3 w19/\inR .i64 ((r18*(x10+(1:Int)))-r20)/\K ((r18*(x10+(1:Int)))-r20) w19) w17) w2
structure z14_sh (f_0_0 f_0_1 f_0_2:Sl)(f_0_3 f_0_4:Int)(f_0_5:Sl)(K:Pw.T1)(w:World):Prop where
 out:z14_sd f_0_0 f_0_1 f_0_2 f_0_3 f_0_4 f_0_5 K w
noncomputable def z14_S:Pw.Spec:=fun vs w Kv=>un [.g 6,tL,tL,tL,tI,tI,tL] (fun f_0_0 f_0_1 f_0_2 f_0_3 f_0_4 f_0_5=>z14_sh f_0_0 f_0_1 f_0_2 f_0_3 f_0_4 f_0_5 (kk [tI] Kv)) nF vs w
def z14_A (_:VW):A:=(qr 2 (qs (A.drw (dp [0,2,3,4,5,7] (DA.eff 1 (DA.pur 6 (DA.eff 8 (dp [9,10] DA.done)))))) ql))
theorem z14_ok:Sound Tryz.prog 160 z14_S:=okS (x:=z14_A) (fun Kv f_0_0 f_0_1 f_0_2 f_0_3 f_0_4 f_0_5=>z14_sd f_0_0 f_0_1 f_0_2 f_0_3 f_0_4 f_0_5 (kk [tI] Kv)) progMixed (Γ:=[(54,z0u_S),(156,z11_S)]) ⟨.inl z0u_ok,.inl z11_ok,trivial⟩ Tryz.call160 Tryz.func160 (fun _=>hEnd)
def z3g_sd (a_0_0 a_0_1 a_0_2:Sl)(a_0_3 a_0_4:Int)(a_0_5 b_1_0:Sl)(b_1_1 b_1_2:Sl)(b_1_3 b_1_4:Int)(b_1_5:Sl)(K:Pw.T0)(w:World):Prop :=
 let w1:=w.alloc (Obj.cells #[(Value.slice a_0_0.p a_0_0.l a_0_0.c),(Value.slice a_0_1.p a_0_1.l a_0_1.c),(Value.slice a_0_2.p a_0_2.l a_0_2.c),(Value.int .i64 a_0_3),(Value.int .i64 a_0_4),(Value.slice a_0_5.p a_0_5.l a_0_5.c)] 99)
 let w2:=w1.alloc (Obj.cells #[(Value.slice b_1_0.p b_1_0.l b_1_0.c),(Value.slice b_1_1.p b_1_1.l b_1_1.c),(Value.slice b_1_2.p b_1_2.l b_1_2.c),(Value.int .i64 b_1_3),(Value.int .i64 b_1_4),(Value.slice b_1_5.p b_1_5.l b_1_5.c)] 99)
 let w3:=w2.drew
 ∃ S4:World->Prop,S4 w3/\∃ x5:Sl,(∀ w':World,S4 w'->w'.cell? (Addr.mk w.heap.size 0 none)=some (Value.slice x5.p x5.l x5.c))/\∃ x6:Sl,(∀ w':World,S4 w'->w'.cell? (Addr.mk w.heap.size 1 none)=some (Value.slice x6.p x6.l x6.c))/\∃ x7:Sl,(∀ w':World,S4 w'->w'.cell? (Addr.mk w.heap.size 2 none)=some (Value.slice x7.p x7.l x7.c))/\∃ x8:Int,(∀ w':World,S4 w'->w'.cell? (Addr.mk w.heap.size 3 none)=some (Value.int .i64 x8))/\∃ x9:Int,(∀ w':World,S4 w'->w'.cell? (Addr.mk w.heap.size 4 none)=some (Value.int .i64 x9))/\∃ x10:Sl,(∀ w':World,S4 w'->w'.cell? (Addr.mk w.heap.size 5 none)=some (Value.slice x10.p x10.l x10.c))/\∃ x11:Sl,(∀ w':World,S4 w'->w'.cell? (Addr.mk w1.heap.size 0 none)=some (Value.slice x11.p x11.l x11.c))/\∃ x12:Sl,(∀ w':World,S4 w'->w'.cell? (Addr.mk w1.heap.size 1 none)=some (Value.slice x12.p x12.l x12.c))/\∃ x13:Sl,(∀ w':World,S4 w'->w'.cell? (Addr.mk w1.heap.size 2 none)=some (Value.slice x13.p x13.l x13.c))/\∃ x14:Int,(∀ w':World,S4 w'->w'.cell? (Addr.mk w1.heap.size 3 none)=some (Value.int .i64 x14))/\∃ x15:Int,(∀ w':World,S4 w'->w'.cell? (Addr.mk w1.heap.size 4 none)=some (Value.int .i64 x15))/\∃ x16:Sl,(∀ w':World,S4 w'->w'.cell? (Addr.mk w1.heap.size 5 none)=some (Value.slice x16.p x16.l x16.c))/\∃ x17:Sl,(∀ w':World,S4 w'->w'.cell? (Addr.mk w1.heap.size 5 none)=some (Value.slice x17.p x17.l x17.c))/\∃ x18:Sl,(∀ w':World,S4 w'->w'.cell? (Addr.mk w.heap.size 5 none)=some (Value.slice x18.p x18.l x18.c))/\z14_sh x5 x6 x7 x8 x9 x10 (fun r20 w19=>S4 w19/\z14_sh x11 x12 x13 x14 x15 x16 (fun r22 w21=>S4 w21/\z49_sh r20 r22 (fun r24 w23=>S4 w23/\z3k_sh x17 x18 (fun r26 w25=>S4 w25/\let w27:=w25.alloc (Obj.cells #[(Value.int .i64 r24),(Value.int .i64 r26)] 3)
 S4 w27/\z57_sh (Sl.mk (some (Addr.mk w25.heap.size 0 none)) 2 2) (fun r29 w28=>S4 w28/\K (decide (r29>(0:Int))) w28) w27) w23) w21) w19) w3
structure z3g_sh (a_0_0 a_0_1 a_0_2:Sl)(a_0_3 a_0_4:Int)(a_0_5 b_1_0:Sl)(b_1_1 b_1_2:Sl)(b_1_3 b_1_4:Int)(b_1_5:Sl)(K:Pw.T0)(w:World):Prop where
 out:z3g_sd a_0_0 a_0_1 a_0_2 a_0_3 a_0_4 a_0_5 b_1_0 b_1_1 b_1_2 b_1_3 b_1_4 b_1_5 K w
noncomputable def z3g_S:Pw.Spec:=fun vs w Kv=>un [.g 6,tL,tL,tL,tI,tI,tL,.g 6,tL,tL,tL,tI,tI,tL] (fun a_0_0 a_0_1 a_0_2 a_0_3 a_0_4 a_0_5 b_1_0 b_1_1 b_1_2 b_1_3 b_1_4 b_1_5=>z3g_sh a_0_0 a_0_1 a_0_2 a_0_3 a_0_4 a_0_5 b_1_0 b_1_1 b_1_2 b_1_3 b_1_4 b_1_5 (kk [tB] Kv)) nF vs w
def z3g_A (_:VW):A:=(qr 3 (qs (A.drw (dp [0,2,5,6,7,8] (DA.eff 1 (DA.eff 3 (DA.eff 4 (DA.eff 9 (DA.eff 10 (DA.eff 11 (dp [12,13] DA.done))))))))) ql))
theorem z3g_ok:Sound Tryz.prog 112 z3g_S:=okS (x:=z3g_A) (fun Kv a_0_0 a_0_1 a_0_2 a_0_3 a_0_4 a_0_5 b_1_0 b_1_1 b_1_2 b_1_3 b_1_4 b_1_5=>z3g_sd a_0_0 a_0_1 a_0_2 a_0_3 a_0_4 a_0_5 b_1_0 b_1_1 b_1_2 b_1_3 b_1_4 b_1_5 (kk [tB] Kv)) progMixed (Γ:=[(92,z3k_S),(127,z49_S),(160,z14_S),(161,z57_S)]) ⟨.inl z3k_ok,.inl z49_ok,.inl z14_ok,.inl z57_ok,trivial⟩ Tryz.call112 Tryz.func112 (fun _=>hEnd)
def z45_sd (s_0:Sl)(K:Pw.T2)(w:World):Prop :=
 cnd s_0.p.isNone
 (K (Sl.mk none 0 0) w)
 (let w1:=w.alloc (Obj.cells #[] 3)
 apS 1 8 [(Value.int .i64 0)] 3 (Sl.mk (some (Addr.mk w.heap.size 0 none)) 0 0) s_0 w1 fun s2 w3=>K s2 w3)
structure z45_sh (s_0:Sl)(K:Pw.T2)(w:World):Prop where
 out:z45_sd s_0 K w
noncomputable def z45_S:Pw.Spec:=fun vs w Kv=>un [tL] (fun s_0=>z45_sh s_0 (kk [tL] Kv)) nF vs w
def z45_A (_:VW):A:=(qr 1 (qs (qr 2 (qc (qr 1 ql) ql)) (qr 4 ql)))
theorem z45_ok:Sound Tryz.prog 113 z45_S:=okS (x:=z45_A) (fun Kv s_0=>z45_sd s_0 (kk [tL] Kv)) progMixed (Γ:=[]) trivial Tryz.call113 Tryz.func113 (fun _=>hEnd)
def z2q_b0 (yield_0:Value)(t_1:Addr)(i_3:Int)(N0:Value->Addr->Int->World->Prop)(K:Pw.T10)(w:World):Prop :=
 cnd (decide (i_3>=(0:Int)))
 (∃ x2:Sl,w.cell? t_1=some (Value.slice x2.p x2.l x2.c)/\nz x2.p fun a3=>(0<=i_3/\i_3<(x2.l:Nat))/\∃ x4:Int,w.cell? (a3.add (i_3.toNat*1))=some (Value.int .i64 x4)/\CallV Tryz.prog yield_0 [(Value.int .i64 i_3),(Value.int .i64 x4)] w fun u5 w6=>∃ x7:Bool,u5=(Value.bool x7)/\cnd (!x7)
 (K w6)
 (inR .i64 (i_3-(1:Int))/\N0 yield_0 t_1 (i_3-(1:Int)) w6))
 (K w)
def z2q_l0d (yield_0:Value)(t_1:Addr)(i_3:Int)(K:Pw.T10)(w:World):Prop :=
 ∃ (I:Int->World->Prop) (μ:Int->World->Nat),I i_3 w/\∀ (i_31:Int) (w1:World),I i_31 w1 ->
 z2q_b0 yield_0 t_1 i_31 (fun yield_0' t_1' i_3' w'=>((yield_0'=yield_0/\t_1'=t_1/\True)/\I i_3' w')/\μ i_3' w'<μ i_31 w1) K w1
structure z2q_l0 (yield_0:Value)(t_1:Addr)(i_3:Int)(K:Pw.T10)(w:World):Prop where
 out:z2q_l0d yield_0 t_1 i_3 K w
def z2q_sd (yield_0:Value)(t_1:Addr)(K:Pw.T10)(w:World):Prop :=
 ∃ x1:Sl,w.cell? t_1=some (Value.slice x1.p x1.l x1.c)/\inR .i64 ((x1.l:Int)-(1:Int))/\z2q_l0 yield_0 t_1 ((x1.l:Int)-(1:Int)) K w
structure z2q_sh (yield_0:Value)(t_1:Addr)(K:Pw.T10)(w:World):Prop where
 out:z2q_sd yield_0 t_1 K w
def z2q_L0 (Kv:VW):Cur [tV,tQ,tI] WP:=fun yield_0 t_1 i_3=>z2q_l0 yield_0 t_1 i_3 (kk [.u 0] Kv)
noncomputable def z2q_S:Pw.Spec:=fun vs w Kv=>un [tV,tQ] (fun yield_0 t_1=>z2q_sh yield_0 t_1 (kk [.u 0] Kv)) nF vs w
def z2q_A (Kv:VW):A:=(qr 4 (qb (A.loop [0,1,3] (uR0 [tV,tQ,tI] (z2q_L0 Kv)) (qs (qr 2 (qc ql ql)) (qs (qb (qs (A.reg (qn 6 (RA.dyn (Value.bool false) (qn 1 RA.done)))) (qc ql ql))) (qe 3))))))
theorem z2q_ok:Sound Tryz.prog 162 z2q_S:=okS (x:=z2q_A) (fun Kv yield_0 t_1=>z2q_sd yield_0 t_1 (kk [.u 0] Kv)) progMixed (Γ:=[]) trivial Tryz.call162 Tryz.func162 (fun Kv=>hStep (hLoop0 (L:=z2q_L0 Kv) (fun N0 yield_0 t_1 i_3=>z2q_b0 yield_0 t_1 i_3 N0 (kk [.u 0] Kv)) (fun⟨a0,a1,_,_⟩ _ h=>let ⟨I,μ,h0,hr⟩:=h.out; ⟨fun b0 b1 b2 w=>(b0=a0/\b1=a1/\True)/\I b2 w,fun _ _ b2 w=>μ b2 w,⟨⟨rfl,rfl,trivial⟩,h0⟩,fun⟨_,_,_,_⟩ _ ⟨⟨e0,e1,_⟩,hI⟩=>by cases e0; cases e1; exact hr _ _ hI⟩)) <| hEnd)
def z3e_sd (s_0:Sl)(K:Value->World->Prop)(w:World):Prop :=
 let w1:=w.alloc (Obj.cells #[(Value.slice s_0.p s_0.l s_0.c)] 22)
 K (Value.func (.func 162) #[] #[(Value.pointer (some (Addr.mk w.heap.size 0 none)))]) w1
structure z3e_sh (s_0:Sl)(K:Value->World->Prop)(w:World):Prop where
 out:z3e_sd s_0 K w
noncomputable def z3e_S:Pw.Spec:=fun vs w Kv=>un [tL] (fun s_0=>z3e_sh s_0 (kk [tV] Kv)) nF vs w
def z3e_A (_:VW):A:=(qr 2 (qr 2 ql))
theorem z3e_ok:Sound Tryz.prog 114 z3e_S:=okS (x:=z3e_A) (fun Kv s_0=>z3e_sd s_0 (kk [tV] Kv)) progMixed (Γ:=[]) trivial Tryz.call114 Tryz.func114 (fun _=>hEnd)
end Go.Proofs.YtfpobpjandjhjaaGreatDoor
