/- The bodies' formulas, by program. -/
import Derived.Test.YtfpobpjandjhjaaGreatDoorProg
import Derived.KernelRfl
import Derived.Test.YtfpobpjandjhjaaGreatDoorPwY
import Derived.Test.YtfpobpjandjhjaaGreatDoorCG0
import Derived.Test.YtfpobpjandjhjaaGreatDoorCG1
import Derived.Test.YtfpobpjandjhjaaGreatDoorCG2
import Derived.Test.YtfpobpjandjhjaaGreatDoorCG3
import Derived.Test.YtfpobpjandjhjaaGreatDoorCG4
import Derived.Test.YtfpobpjandjhjaaGreatDoorCG5
set_option maxRecDepth 20000
namespace Go.Proofs.YtfpobpjandjhjaaGreatDoor
open Go Pw
def z43_sd (n_0 most_1:Int)(K:Pw.T0)(w:World):Prop :=
 cnd (decide (n_0>=(0:Int)))
 (K (decide (n_0<=most_1)) w)
 (K false w)
structure z43_sh (n_0 most_1:Int)(K:Pw.T0)(w:World):Prop where
 out:z43_sd n_0 most_1 K w
noncomputable def z43_S:Pw.Spec:=fun vs w Kv=>un [tI,tI] (fun n_0 most_1=>z43_sh n_0 most_1 (kk [tB] Kv)) nF vs w
def z43_A (_:VW):A:=(qr 1 (qs (A.reg (qn 3 (RA.spl 7 (qn 5 RA.done) (qk 3 (qn 2 RA.done))))) ql))
theorem z43_ok:Sound Tryz.prog 69 z43_S:=okS (x:=z43_A) (fun Kv n_0 most_1=>z43_sd n_0 most_1 (kk [tB] Kv)) progMixed (Γ:=[]) trivial Tryz.call69 Tryz.func69 (fun _=>hEnd)
def z3b_b0 (l_0:Sl)(seen_3:Nat)(t_7:Sl)(t_8 t_9:Int)(N0:Sl->Nat->Sl->Int->Int->World->Prop)(K:Pw.T0)(w:World):Prop :=
 cnd (decide (t_9<t_8))
 (nz t_7.p fun a2=>(0<=t_9/\t_9<(t_7.l:Nat))/\∃ x3:Int,w.cell? (a2.add (t_9.toNat*1))=some (Value.int .i64 x3)/\(∃ l:List (Int × Value),Mp w seen_3 .i64 l)/\let w4:=w.mset seen_3 .i64 x3 (Value.bool true)
 inR .i64 (t_9+(1:Int))/\N0 l_0 seen_3 t_7 t_8 (t_9+(1:Int)) w4)
 (∃ c5:Nat,Ml w seen_3 c5/\K ((c5:Int) == (l_0.l:Int)) w)
def z3b_l0d (l_0:Sl)(seen_3:Nat)(t_7:Sl)(t_8 t_9:Int)(K:Pw.T0)(w:World):Prop :=
 ∃ (I:Int->World->Prop) (μ:Int->World->Nat),I t_9 w/\∀ (t_91:Int) (w1:World),I t_91 w1 ->
 z3b_b0 l_0 seen_3 t_7 t_8 t_91 (fun l_0' seen_3' t_7' t_8' t_9' w'=>((l_0'=l_0/\seen_3'=seen_3/\t_7'=t_7/\t_8'=t_8/\True)/\I t_9' w')/\μ t_9' w'<μ t_91 w1) K w1
structure z3b_l0 (l_0:Sl)(seen_3:Nat)(t_7:Sl)(t_8 t_9:Int)(K:Pw.T0)(w:World):Prop where
 out:z3b_l0d l_0 seen_3 t_7 t_8 t_9 K w
def z3b_sd (l_0:Sl)(K:Pw.T0)(w:World):Prop :=
 let w1:=w.alloc (Obj.map #[] 0)
 z3b_l0 l_0 w.heap.size l_0 (l_0.l:Int) (0:Int) K w1
structure z3b_sh (l_0:Sl)(K:Pw.T0)(w:World):Prop where
 out:z3b_sd l_0 K w
def z3b_L0 (Kv:VW):Cur [tL,tN,tL,tI,tI] WP:=fun l_0 seen_3 t_7 t_8 t_9=>z3b_l0 l_0 seen_3 t_7 t_8 t_9 (kk [tB] Kv)
noncomputable def z3b_S:Pw.Spec:=fun vs w Kv=>un [tL] (fun l_0=>z3b_sh l_0 (kk [tB] Kv)) nF vs w
def z3b_A (Kv:VW):A:=(qr 1 (qr 2 (qs (qr 3 (qb (A.loop [0,3,7,8,9] (uR0 [tL,tN,tL,tI,tI] (z3b_L0 Kv)) (qr 1 (qs (qc ql ql) (qs (qb (qr 3 (qe 3))) (qe 2))))))) (qr 6 ql))))
theorem z3b_ok:Sound Tryz.prog 70 z3b_S:=okS (x:=z3b_A) (fun Kv l_0=>z3b_sd l_0 (kk [tB] Kv)) progMixed (Γ:=[]) trivial Tryz.call70 Tryz.func70 (fun Kv=>hStep (hLoop0 (L:=z3b_L0 Kv) (fun N0 l_0 seen_3 t_7 t_8 t_9=>z3b_b0 l_0 seen_3 t_7 t_8 t_9 N0 (kk [tB] Kv)) (fun⟨a0,a1,a2,a3,_,_⟩ _ h=>let ⟨I,μ,h0,hr⟩:=h.out; ⟨fun b0 b1 b2 b3 b4 w=>(b0=a0/\b1=a1/\b2=a2/\b3=a3/\True)/\I b4 w,fun _ _ _ _ b4 w=>μ b4 w,⟨⟨rfl,rfl,rfl,rfl,trivial⟩,h0⟩,fun⟨_,_,_,_,_,_⟩ _ ⟨⟨e0,e1,e2,e3,_⟩,hI⟩=>by cases e0; cases e1; cases e2; cases e3; exact hr _ _ hI⟩)) <| hEnd)
def z3r_sd (n_0:Int)(t_1:Addr)(K:Pw.T0)(w:World):Prop :=
 ∃ x1:Option Nat,w.cell? t_1=some (Value.map x1)/\nzm x1 fun m2=>∃ l3:List (Int × Bool),Mp w m2 .i64 (l3.map fun p=>(p.1,Value.bool p.2))/\K (!(mgetD false n_0 l3)) w
structure z3r_sh (n_0:Int)(t_1:Addr)(K:Pw.T0)(w:World):Prop where
 out:z3r_sd n_0 t_1 K w
noncomputable def z3r_S:Pw.Spec:=fun vs w Kv=>un [tI,tQ] (fun n_0 t_1=>z3r_sh n_0 t_1 (kk [tB] Kv)) nF vs w
def z3r_A (_:VW):A:=(qr 1 (qr 5 ql))
theorem z3r_ok:Sound Tryz.prog 72 z3r_S:=okS (x:=z3r_A) (fun Kv n_0 t_1=>z3r_sd n_0 t_1 (kk [tB] Kv)) progMixed (Γ:=[]) trivial Tryz.call72 Tryz.func72 (fun _=>hEnd)
def z4e_b2 (lot_3:Addr)(t_83:Sl)(t_84 t_85:Int)(N2:Addr->Sl->Int->Int->World->Prop)(K:Pw.T0)(w:World):Prop :=
 cnd (decide (t_85<t_84))
 (nz t_83.p fun a44=>(0<=t_85/\t_85<(t_83.l:Nat))/\∃ x45:Int,w.cell? (a44.add (t_85.toNat*3))=some (Value.int .i64 x45)/\∃ x46:Sl,w.cell? ((a44.add (t_85.toNat*3)).add 1)=some (Value.slice x46.p x46.l x46.c)/\∃ x47:Int,w.cell? ((a44.add (t_85.toNat*3)).add 2)=some (Value.int .i64 x47)/\let w48:=w.alloc (Obj.cells #[(Value.int .i64 0),(Value.slice none 0 0),(Value.int .i64 0)] 81)
 stN w48 (Addr.mk w.heap.size 0 none) [(Value.int .i64 x45),(Value.slice x46.p x46.l x46.c),(Value.int .i64 x47)] fun w49=>∃ x50:Sl,w49.cell? (Addr.mk w.heap.size 1 none)=some (Value.slice x50.p x50.l x50.c)/\cnd ((x50.l:Int) == (0:Int))
 (K false w49)
 (∃ x51:Sl,w49.cell? (Addr.mk w.heap.size 1 none)=some (Value.slice x51.p x51.l x51.c)/\z3b_sh x51 (fun r53 w52=>cnd (!r53)
 (K false w52)
 (∃ x54:Int,w52.cell? (Addr.mk w.heap.size 2 none)=some (Value.int .i64 x54)/\z43_sh x54 (1000000000:Int) (fun r56 w55=>cnd (!r56)
 (K false w55)
 (∃ x57:Sl,w55.cell? (Addr.mk w.heap.size 1 none)=some (Value.slice x57.p x57.l x57.c)/\z1r_sh x57 (Value.func (.func 72) #[] #[(Value.pointer (some lot_3))]) (fun r59 w58=>cnd r59
 (K false w58)
 (inR .i64 (t_85+(1:Int))/\N2 lot_3 t_83 t_84 (t_85+(1:Int)) w58)) w55)) w52)) w49))
 (K true w)
def z4e_l2d (lot_3:Addr)(t_83:Sl)(t_84 t_85:Int)(K:Pw.T0)(w:World):Prop :=
 ∃ (I:Int->World->Prop) (μ:Int->World->Nat),I t_85 w/\∀ (t_851:Int) (w1:World),I t_851 w1 ->
 z4e_b2 lot_3 t_83 t_84 t_851 (fun lot_3' t_83' t_84' t_85' w'=>((lot_3'=lot_3/\t_83'=t_83/\t_84'=t_84/\True)/\I t_85' w')/\μ t_85' w'<μ t_851 w1) K w1
structure z4e_l2 (lot_3:Addr)(t_83:Sl)(t_84 t_85:Int)(K:Pw.T0)(w:World):Prop where
 out:z4e_l2d lot_3 t_83 t_84 t_85 K w
def z4e_b1 (p_1 lot_3:Addr)(t_58:Sl)(t_59 t_60:Int)(N1:Addr->Addr->Sl->Int->Int->World->Prop)(K:Pw.T0)(w:World):Prop :=
 cnd (decide (t_60<t_59))
 (nz t_58.p fun a26=>(0<=t_60/\t_60<(t_58.l:Nat))/\∃ x27:Int,w.cell? (a26.add (t_60.toNat*4))=some (Value.int .i64 x27)/\∃ x28:Int,w.cell? ((a26.add (t_60.toNat*4)).add 1)=some (Value.int .i64 x28)/\∃ x29:Int,w.cell? ((a26.add (t_60.toNat*4)).add 2)=some (Value.int .i64 x29)/\∃ x30:Int,w.cell? ((a26.add (t_60.toNat*4)).add 3)=some (Value.int .i64 x30)/\let w31:=w.alloc (Obj.cells #[(Value.int .i64 0),(Value.int .i64 0),(Value.int .i64 0),(Value.int .i64 0)] 57)
 stN w31 (Addr.mk w.heap.size 0 none) [(Value.int .i64 x27),(Value.int .i64 x28),(Value.int .i64 x29),(Value.int .i64 x30)] fun w32=>∃ x33:Option Nat,w32.cell? lot_3=some (Value.map x33)/\∃ x34:Int,w32.cell? (Addr.mk w.heap.size 0 none)=some (Value.int .i64 x34)/\nzm x33 fun m35=>∃ l36:List (Int × Bool),Mp w32 m35 .i64 (l36.map fun p=>(p.1,Value.bool p.2))/\cnd (!(mgetD false x34 l36))
 (K false w32)
 (∃ x37:Int,w32.cell? (Addr.mk w.heap.size 2 none)=some (Value.int .i64 x37)/\z43_sh x37 (1000000000:Int) (fun r39 w38=>cnd (!r39)
 (K false w38)
 (∃ x40:Int,w38.cell? (Addr.mk w.heap.size 3 none)=some (Value.int .i64 x40)/\z43_sh x40 (1000000:Int) (fun r42 w41=>cnd (!r42)
 (K false w41)
 (inR .i64 (t_60+(1:Int))/\N1 p_1 lot_3 t_58 t_59 (t_60+(1:Int)) w41)) w38)) w32))
 (∃ x43:Sl,w.cell? (p_1.add 2)=some (Value.slice x43.p x43.l x43.c)/\z4e_l2 lot_3 x43 (x43.l:Int) (0:Int) K w)
def z4e_l1d (p_1 lot_3:Addr)(t_58:Sl)(t_59 t_60:Int)(K:Pw.T0)(w:World):Prop :=
 ∃ (I:Int->World->Prop) (μ:Int->World->Nat),I t_60 w/\∀ (t_601:Int) (w1:World),I t_601 w1 ->
 z4e_b1 p_1 lot_3 t_58 t_59 t_601 (fun p_1' lot_3' t_58' t_59' t_60' w'=>((p_1'=p_1/\lot_3'=lot_3/\t_58'=t_58/\t_59'=t_59/\True)/\I t_60' w')/\μ t_60' w'<μ t_601 w1) K w1
structure z4e_l1 (p_1 lot_3:Addr)(t_58:Sl)(t_59 t_60:Int)(K:Pw.T0)(w:World):Prop where
 out:z4e_l1d p_1 lot_3 t_58 t_59 t_60 K w
def z4e_b0 (p_1 lot_3:Addr)(t_48:Sl)(t_49 t_50:Int)(N0:Addr->Addr->Sl->Int->Int->World->Prop)(K:Pw.T0)(w:World):Prop :=
 cnd (decide (t_50<t_49))
 (nz t_48.p fun a20=>(0<=t_50/\t_50<(t_48.l:Nat))/\∃ x21:Int,w.cell? (a20.add (t_50.toNat*1))=some (Value.int .i64 x21)/\∃ x22:Option Nat,w.cell? lot_3=some (Value.map x22)/\nzm x22 fun m23=>(∃ l:List (Int × Value),Mp w m23 .i64 l)/\let w24:=w.mset m23 .i64 x21 (Value.bool true)
 inR .i64 (t_50+(1:Int))/\N0 p_1 lot_3 t_48 t_49 (t_50+(1:Int)) w24)
 (∃ x25:Sl,w.cell? (p_1.add 1)=some (Value.slice x25.p x25.l x25.c)/\z4e_l1 p_1 lot_3 x25 (x25.l:Int) (0:Int) K w)
def z4e_l0d (p_1 lot_3:Addr)(t_48:Sl)(t_49 t_50:Int)(K:Pw.T0)(w:World):Prop :=
 ∃ (I:Int->World->Prop) (μ:Int->World->Nat),I t_50 w/\∀ (t_501:Int) (w1:World),I t_501 w1 ->
 z4e_b0 p_1 lot_3 t_48 t_49 t_501 (fun p_1' lot_3' t_48' t_49' t_50' w'=>((p_1'=p_1/\lot_3'=lot_3/\t_48'=t_48/\t_49'=t_49/\True)/\I t_50' w')/\μ t_50' w'<μ t_501 w1) K w1
structure z4e_l0 (p_1 lot_3:Addr)(t_48:Sl)(t_49 t_50:Int)(K:Pw.T0)(w:World):Prop where
 out:z4e_l0d p_1 lot_3 t_48 t_49 t_50 K w
def z4e_sd (p_0_0 p_0_1 p_0_2:Sl)(p_0_3 p_0_4:Int)(K:Pw.T0)(w:World):Prop :=
 let w1:=w.alloc (Obj.cells #[(Value.slice p_0_0.p p_0_0.l p_0_0.c),(Value.slice p_0_1.p p_0_1.l p_0_1.c),(Value.slice p_0_2.p p_0_2.l p_0_2.c),(Value.int .i64 p_0_3),(Value.int .i64 p_0_4)] 28)
 ∃ x2:Sl,w1.cell? (Addr.mk w.heap.size 0 none)=some (Value.slice x2.p x2.l x2.c)/\inR .i64 ((x2.l:Int)-(1:Int))/\z43_sh ((x2.l:Int)-(1:Int)) (11:Int) (fun r4 w3=>cnd (!r4)
 (K false w3)
 (∃ x5:Sl,w3.cell? (Addr.mk w.heap.size 0 none)=some (Value.slice x5.p x5.l x5.c)/\z3b_sh x5 (fun r7 w6=>cnd (!r7)
 (K false w6)
 (∃ x8:Sl,w6.cell? (Addr.mk w.heap.size 1 none)=some (Value.slice x8.p x8.l x8.c)/\cnd (decide ((x8.l:Int)>(480:Int)))
 (K false w6)
 (∃ x9:Sl,w6.cell? (Addr.mk w.heap.size 2 none)=some (Value.slice x9.p x9.l x9.c)/\cnd (decide ((x9.l:Int)>(100:Int)))
 (K false w6)
 (∃ x10:Int,w6.cell? (Addr.mk w.heap.size 3 none)=some (Value.int .i64 x10)/\z43_sh x10 (1000000000:Int) (fun r12 w11=>cnd (!r12)
 (K false w11)
 (∃ x13:Int,w11.cell? (Addr.mk w.heap.size 4 none)=some (Value.int .i64 x13)/\z43_sh x13 (1000000000:Int) (fun r15 w14=>cnd (!r15)
 (K false w14)
 (let w16:=w14.alloc (Obj.map #[] 0)
 let w17:=w16.alloc (Obj.cells #[(Value.map none)] 88)
 wrOk w17 (Addr.mk w16.heap.size 0 none)/\
 (let w18:=w17.setCell (Addr.mk w16.heap.size 0 none) (Value.map (some w14.heap.size))
 ∃ x19:Sl,w18.cell? (Addr.mk w.heap.size 0 none)=some (Value.slice x19.p x19.l x19.c)/\z4e_l0 (Addr.mk w.heap.size 0 none) (Addr.mk w16.heap.size 0 none) x19 (x19.l:Int) (0:Int) K w18))) w11)) w6)))) w3)) w1
structure z4e_sh (p_0_0 p_0_1 p_0_2:Sl)(p_0_3 p_0_4:Int)(K:Pw.T0)(w:World):Prop where
 out:z4e_sd p_0_0 p_0_1 p_0_2 p_0_3 p_0_4 K w
def z4e_L0 (Kv:VW):Cur [tQ,tQ,tL,tI,tI] WP:=fun p_1 lot_3 t_48 t_49 t_50=>z4e_l0 p_1 lot_3 t_48 t_49 t_50 (kk [tB] Kv)
def z4e_L1 (Kv:VW):Cur [tQ,tQ,tL,tI,tI] WP:=fun p_1 lot_3 t_58 t_59 t_60=>z4e_l1 p_1 lot_3 t_58 t_59 t_60 (kk [tB] Kv)
def z4e_L2 (Kv:VW):Cur [tQ,tL,tI,tI] WP:=fun lot_3 t_83 t_84 t_85=>z4e_l2 lot_3 t_83 t_84 t_85 (kk [tB] Kv)
noncomputable def z4e_S:Pw.Spec:=fun vs w Kv=>un [.g 5,tL,tL,tL,tI,tI] (fun p_0_0 p_0_1 p_0_2 p_0_3 p_0_4=>z4e_sh p_0_0 p_0_1 p_0_2 p_0_3 p_0_4 (kk [tB] Kv)) nF vs w
def z4e_A (Kv:VW):A:=(qr 2 (qs (qs (A.reg (qn 7 (RA.spl 16 (qk 4 (qn 2 (qk 4 (qn 2 (qk 4 (qn 2 (qk 4 (qn 2 (qk 4 (qn 1 RA.done)))))))))) (qn 6 (RA.spl 22 (qk 4 (qn 2 (qk 4 (qn 2 (qk 4 (qn 2 (qk 4 (qn 1 RA.done)))))))) (qn 6 (RA.spl 28 (qk 4 (qn 2 (qk 4 (qn 2 (qk 4 (qn 1 RA.done)))))) (qn 6 (RA.spl 34 (qk 4 (qn 2 (qk 4 (qn 1 RA.done)))) (qn 6 (RA.spl 40 (qk 4 (qn 1 RA.done)) (qn 5 RA.done)))))))))))) (qc (qr 1 ql) ql)) (qr 3 (qs (qr 4 (qb (A.loop [1,3,48,49,50] (uR0 [tQ,tQ,tL,tI,tI] (z4e_L0 Kv)) (qr 1 (qs (qc ql ql) (qs (qb (qr 3 (qe 3))) (qe 2))))))) (qs (qr 4 (qb (A.loop [1,3,58,59,60] (uR0 [tQ,tQ,tL,tI,tI] (z4e_L1 Kv)) (qr 1 (qs (qc ql ql) (qs (qb (qr 4 (qs (A.reg (qn 6 (RA.spl 69 (qk 4 (qn 2 (qk 4 (qn 1 RA.done)))) (qn 6 (RA.spl 75 (qk 4 (qn 1 RA.done)) (qn 5 RA.done)))))) (qc (qr 1 ql) ql)))) (qe 2))))))) (qs (qr 4 (qb (A.loop [3,83,84,85] (uR0 [tQ,tL,tI,tI] (z4e_L2 Kv)) (qr 1 (qs (qc ql ql) (qs (qb (qr 4 (qs (A.reg (qn 5 (RA.spl 93 (qk 4 (qn 2 (qk 4 (qn 2 (qk 4 (qn 1 RA.done)))))) (qn 6 (RA.spl 99 (qk 4 (qn 2 (qk 4 (qn 1 RA.done)))) (qn 6 (RA.spl 105 (qk 4 (qn 1 RA.done)) (qn 5 RA.done)))))))) (qc (qr 1 ql) ql)))) (qe 2))))))) (qr 1 ql)))))))
theorem z4e_ok:Sound Tryz.prog 36 z4e_S:=okS (x:=z4e_A) (fun Kv p_0_0 p_0_1 p_0_2 p_0_3 p_0_4=>z4e_sd p_0_0 p_0_1 p_0_2 p_0_3 p_0_4 (kk [tB] Kv)) progMixed (Γ:=[(69,z43_S),(70,z3b_S),(71,z1r_S)]) ⟨.inl z43_ok,.inl z3b_ok,.inl z1r_ok,trivial⟩ Tryz.call36 Tryz.func36 (fun Kv=>hStep (hLoop0 (L:=z4e_L0 Kv) (fun N0 p_1 lot_3 t_48 t_49 t_50=>z4e_b0 p_1 lot_3 t_48 t_49 t_50 N0 (kk [tB] Kv)) (fun⟨a0,a1,a2,a3,_,_⟩ _ h=>let ⟨I,μ,h0,hr⟩:=h.out; ⟨fun b0 b1 b2 b3 b4 w=>(b0=a0/\b1=a1/\b2=a2/\b3=a3/\True)/\I b4 w,fun _ _ _ _ b4 w=>μ b4 w,⟨⟨rfl,rfl,rfl,rfl,trivial⟩,h0⟩,fun⟨_,_,_,_,_,_⟩ _ ⟨⟨e0,e1,e2,e3,_⟩,hI⟩=>by cases e0; cases e1; cases e2; cases e3; exact hr _ _ hI⟩)) <| hStep (hLoop0 (L:=z4e_L1 Kv) (fun N1 p_1 lot_3 t_58 t_59 t_60=>z4e_b1 p_1 lot_3 t_58 t_59 t_60 N1 (kk [tB] Kv)) (fun⟨a0,a1,a2,a3,_,_⟩ _ h=>let ⟨I,μ,h0,hr⟩:=h.out; ⟨fun b0 b1 b2 b3 b4 w=>(b0=a0/\b1=a1/\b2=a2/\b3=a3/\True)/\I b4 w,fun _ _ _ _ b4 w=>μ b4 w,⟨⟨rfl,rfl,rfl,rfl,trivial⟩,h0⟩,fun⟨_,_,_,_,_,_⟩ _ ⟨⟨e0,e1,e2,e3,_⟩,hI⟩=>by cases e0; cases e1; cases e2; cases e3; exact hr _ _ hI⟩)) <| hStep (hLoop0 (L:=z4e_L2 Kv) (fun N2 lot_3 t_83 t_84 t_85=>z4e_b2 lot_3 t_83 t_84 t_85 N2 (kk [tB] Kv)) (fun⟨a0,a1,a2,_,_⟩ _ h=>let ⟨I,μ,h0,hr⟩:=h.out; ⟨fun b0 b1 b2 b3 w=>(b0=a0/\b1=a1/\b2=a2/\True)/\I b3 w,fun _ _ _ b3 w=>μ b3 w,⟨⟨rfl,rfl,rfl,trivial⟩,h0⟩,fun⟨_,_,_,_,_⟩ _ ⟨⟨e0,e1,e2,_⟩,hI⟩=>by cases e0; cases e1; cases e2; exact hr _ _ hI⟩)) <| hEnd)
def z42_b0 (p_2:Addr)(t_13:Sl)(t_14 t_15:Int)(N0:Addr->Sl->Int->Int->World->Prop)(K:Pw.T0)(w:World):Prop :=
 cnd (decide (t_15<t_14))
 (nz t_13.p fun a3=>(0<=t_15/\t_15<(t_13.l:Nat))/\∃ x4:Int,w.cell? (a3.add (t_15.toNat*1))=some (Value.int .i64 x4)/\let w5:=w.drew
 cnd (decide (x4<(-1:Int)))
 (K false w5)
 (∃ x6:Sl,w5.cell? (p_2.add 1)=some (Value.slice x6.p x6.l x6.c)/\cnd (decide (x4>=(x6.l:Int)))
 (K false w5)
 (cnd (decide (x4>=(0:Int)))
 (∃ x7:Sl,w5.cell? (p_2.add 1)=some (Value.slice x7.p x7.l x7.c)/\nz x7.p fun a8=>(0<=x4/\x4<(x7.l:Nat))/\∃ x9:Int,w5.cell? (a8.add (x4.toNat*4))=some (Value.int .i64 x9)/\∃ x10:Sl,w5.cell? p_2=some (Value.slice x10.p x10.l x10.c)/\nz x10.p fun a11=>(0<=t_15/\t_15<(x10.l:Nat))/\∃ x12:Int,w5.cell? (a11.add (t_15.toNat*1))=some (Value.int .i64 x12)/\cnd (x9 != x12)
 (K false w5)
 (inR .i64 (t_15+(1:Int))/\N0 p_2 t_13 t_14 (t_15+(1:Int)) w5))
 (inR .i64 (t_15+(1:Int))/\N0 p_2 t_13 t_14 (t_15+(1:Int)) w5))))
 (K true w)
def z42_l0d (p_2:Addr)(t_13:Sl)(t_14 t_15:Int)(K:Pw.T0)(w:World):Prop :=
 ∃ (I:Int->World->Prop) (μ:Int->World->Nat),I t_15 w/\∀ (t_151:Int) (w1:World),I t_151 w1 ->
 z42_b0 p_2 t_13 t_14 t_151 (fun p_2' t_13' t_14' t_15' w'=>((p_2'=p_2/\t_13'=t_13/\t_14'=t_14/\True)/\I t_15' w')/\μ t_15' w'<μ t_151 w1) K w1
structure z42_l0 (p_2:Addr)(t_13:Sl)(t_14 t_15:Int)(K:Pw.T0)(w:World):Prop where
 out:z42_l0d p_2 t_13 t_14 t_15 K w
def z42_sd (p_0_0 p_0_1 p_0_2:Sl)(p_0_3 p_0_4:Int)(f_1:Sl)(K:Pw.T0)(w:World):Prop :=
 let w1:=w.alloc (Obj.cells #[(Value.slice p_0_0.p p_0_0.l p_0_0.c),(Value.slice p_0_1.p p_0_1.l p_0_1.c),(Value.slice p_0_2.p p_0_2.l p_0_2.c),(Value.int .i64 p_0_3),(Value.int .i64 p_0_4)] 28)
 ∃ x2:Sl,w1.cell? (Addr.mk w.heap.size 0 none)=some (Value.slice x2.p x2.l x2.c)/\cnd (decide ((f_1.l:Int)>(x2.l:Int)))
 (K false w1)
 (z42_l0 (Addr.mk w.heap.size 0 none) f_1 (f_1.l:Int) (0:Int) K w1)
structure z42_sh (p_0_0 p_0_1 p_0_2:Sl)(p_0_3 p_0_4:Int)(f_1:Sl)(K:Pw.T0)(w:World):Prop where
 out:z42_sd p_0_0 p_0_1 p_0_2 p_0_3 p_0_4 f_1 K w
def z42_L0 (Kv:VW):Cur [tQ,tL,tI,tI] WP:=fun p_2 t_13 t_14 t_15=>z42_l0 p_2 t_13 t_14 t_15 (kk [tB] Kv)
noncomputable def z42_S:Pw.Spec:=fun vs w Kv=>un [.g 5,tL,tL,tL,tI,tI,tL] (fun p_0_0 p_0_1 p_0_2 p_0_3 p_0_4 f_1=>z42_sh p_0_0 p_0_1 p_0_2 p_0_3 p_0_4 f_1 (kk [tB] Kv)) nF vs w
def z42_A (Kv:VW):A:=(qr 2 (qs (qr 6 (qc (qr 1 ql) ql)) (qs (qr 3 (qb (A.loop [2,13,14,15] (uR0 [tQ,tL,tI,tI] (z42_L0 Kv)) (qr 1 (qs (qc ql ql) (qs (qb (qr 5 (qs (A.drp (dp [0,1,2] (DA.spl 22 (DA.skp 3 (DA.skp 4 (DA.skp 5 (DA.skp 6 (DA.skp 7 (dp [8,9] (DA.skp 10 (DA.skp 11 (DA.skp 12 (DA.skp 13 (DA.skp 14 (DA.skp 15 (DA.skp 16 (DA.skp 17 (DA.skp 18 (DA.skp 19 (DA.skp 20 (DA.skp 21 (DA.skp 22 (DA.skp 23 (DA.skp 24 (DA.skp 25 (DA.pur 26 DA.done))))))))))))))))))))))) (dp [3,4,5,6,7,8,9] (DA.spl 29 (DA.skp 10 (DA.skp 11 (DA.skp 12 (DA.skp 13 (DA.skp 14 (DA.skp 15 (DA.skp 16 (DA.skp 17 (DA.skp 18 (DA.skp 19 (DA.skp 20 (DA.skp 21 (DA.skp 22 (DA.skp 23 (DA.skp 24 (DA.skp 25 (DA.pur 26 DA.done))))))))))))))))) (dp [10,11,12] (DA.spl 32 (dp [13,14,15,16,17,18,19,20,21,22,23,24,25,26] DA.done) (DA.skp 13 (DA.skp 14 (DA.skp 15 (DA.skp 16 (DA.skp 17 (DA.skp 18 (DA.skp 19 (DA.skp 20 (DA.skp 21 (DA.skp 22 (DA.skp 23 (DA.skp 24 (dp [25,26] DA.done)))))))))))))))))))) (qc (qr 1 ql) ql)))) (qe 2))))))) (qr 1 ql))))
theorem z42_ok:Sound Tryz.prog 37 z42_S:=okS (x:=z42_A) (fun Kv p_0_0 p_0_1 p_0_2 p_0_3 p_0_4 f_1=>z42_sd p_0_0 p_0_1 p_0_2 p_0_3 p_0_4 f_1 (kk [tB] Kv)) progMixed (Γ:=[]) trivial Tryz.call37 Tryz.func37 (fun Kv=>hStep (hLoop0 (L:=z42_L0 Kv) (fun N0 p_2 t_13 t_14 t_15=>z42_b0 p_2 t_13 t_14 t_15 N0 (kk [tB] Kv)) (fun⟨a0,a1,a2,_,_⟩ _ h=>let ⟨I,μ,h0,hr⟩:=h.out; ⟨fun b0 b1 b2 b3 w=>(b0=a0/\b1=a1/\b2=a2/\True)/\I b3 w,fun _ _ _ b3 w=>μ b3 w,⟨⟨rfl,rfl,rfl,trivial⟩,h0⟩,fun⟨_,_,_,_,_⟩ _ ⟨⟨e0,e1,e2,_⟩,hI⟩=>by cases e0; cases e1; cases e2; exact hr _ _ hI⟩)) <| hEnd)
def z32_sd (w_0_0 w_0_1:Int)(w_0_2:Bool)(a_1_0 a_1_1:Int)(b_2_0 b_2_1:Int)(K:Pw.T4)(w:World):Prop :=
 let w1:=w.alloc (Obj.cells #[(Value.int .i64 w_0_0),(Value.int .i64 w_0_1),(Value.bool w_0_2)] 128)
 let w2:=w1.alloc (Obj.cells #[(Value.int .i64 a_1_0),(Value.int .i64 a_1_1)] 31)
 let w3:=w2.alloc (Obj.cells #[(Value.int .i64 b_2_0),(Value.int .i64 b_2_1)] 31)
 let w4:=w3.alloc (Obj.cells #[(Value.int .i64 0),(Value.int .i64 0),(Value.bool false)] 128)
 ∃ x5:Int,w4.cell? (Addr.mk w1.heap.size 0 none)=some (Value.int .i64 x5)/\∃ x6:Int,w4.cell? (Addr.mk w1.heap.size 1 none)=some (Value.int .i64 x6)/\∃ x7:Int,w4.cell? (Addr.mk w2.heap.size 0 none)=some (Value.int .i64 x7)/\∃ x8:Int,w4.cell? (Addr.mk w2.heap.size 1 none)=some (Value.int .i64 x8)/\z50_sh x5 x6 x7 x8 (fun r10_0 r10_1 r11 w9=>let w12:=w9.alloc (Obj.cells #[(Value.int .i64 0),(Value.int .i64 0)] 31)
 wrOk w12 (Addr.mk w9.heap.size 0 none)/\
 (let w13:=w12.setCell (Addr.mk w9.heap.size 0 none) (Value.int .i64 r10_0)
 wrOk w13 (Addr.mk w9.heap.size 1 none)/\
 (let w14:=w13.setCell (Addr.mk w9.heap.size 1 none) (Value.int .i64 r10_1)
 ∃ x15:Int,w14.cell? (Addr.mk w.heap.size 0 none)=some (Value.int .i64 x15)/\∃ x16:Int,w14.cell? (Addr.mk w.heap.size 1 none)=some (Value.int .i64 x16)/\∃ x17:Int,w14.cell? (Addr.mk w9.heap.size 0 none)=some (Value.int .i64 x17)/\∃ x18:Int,w14.cell? (Addr.mk w9.heap.size 1 none)=some (Value.int .i64 x18)/\z4y_sh x15 x16 x17 x18 (fun r20_0 r20_1 r21 w19=>let w22:=w19.alloc (Obj.cells #[(Value.int .i64 0),(Value.int .i64 0)] 31)
 wrOk w22 (Addr.mk w19.heap.size 0 none)/\
 (let w23:=w22.setCell (Addr.mk w19.heap.size 0 none) (Value.int .i64 r20_0)
 wrOk w23 (Addr.mk w19.heap.size 1 none)/\
 (let w24:=w23.setCell (Addr.mk w19.heap.size 1 none) (Value.int .i64 r20_1)
 ∃ x25:Int,w24.cell? (Addr.mk w19.heap.size 0 none)=some (Value.int .i64 x25)/\∃ x26:Int,w24.cell? (Addr.mk w19.heap.size 1 none)=some (Value.int .i64 x26)/\∃ x27:Bool,w24.cell? (Addr.mk w.heap.size 2 none)=some (Value.bool x27)/\cnd x27
 (cnd r11
 (stN w24 (Addr.mk w3.heap.size 0 none) [(Value.int .i64 x25),(Value.int .i64 x26),(Value.bool r21)] fun w28=>∃ x31:Int,w28.cell? (Addr.mk w3.heap.size 0 none)=some (Value.int .i64 x31)/\∃ x32:Int,w28.cell? (Addr.mk w3.heap.size 1 none)=some (Value.int .i64 x32)/\∃ x33:Bool,w28.cell? (Addr.mk w3.heap.size 2 none)=some (Value.bool x33)/\K x31 x32 x33 w28)
 (stN w24 (Addr.mk w3.heap.size 0 none) [(Value.int .i64 x25),(Value.int .i64 x26),(Value.bool false)] fun w29=>∃ x34:Int,w29.cell? (Addr.mk w3.heap.size 0 none)=some (Value.int .i64 x34)/\∃ x35:Int,w29.cell? (Addr.mk w3.heap.size 1 none)=some (Value.int .i64 x35)/\∃ x36:Bool,w29.cell? (Addr.mk w3.heap.size 2 none)=some (Value.bool x36)/\K x34 x35 x36 w29))
 (stN w24 (Addr.mk w3.heap.size 0 none) [(Value.int .i64 x25),(Value.int .i64 x26),(Value.bool false)] fun w30=>∃ x37:Int,w30.cell? (Addr.mk w3.heap.size 0 none)=some (Value.int .i64 x37)/\∃ x38:Int,w30.cell? (Addr.mk w3.heap.size 1 none)=some (Value.int .i64 x38)/\∃ x39:Bool,w30.cell? (Addr.mk w3.heap.size 2 none)=some (Value.bool x39)/\K x37 x38 x39 w30)))) w14))) w4
structure z32_sh (w_0_0 w_0_1:Int)(w_0_2:Bool)(a_1_0 a_1_1:Int)(b_2_0 b_2_1:Int)(K:Pw.T4)(w:World):Prop where
 out:z32_sd w_0_0 w_0_1 w_0_2 a_1_0 a_1_1 b_2_0 b_2_1 K w
noncomputable def z32_S:Pw.Spec:=fun vs w Kv=>un [.g 3,tI,tI,tB,.g 2,tI,tI,.g 2,tI,tI] (fun w_0_0 w_0_1 w_0_2 a_1_0 a_1_1 b_2_0 b_2_1=>z32_sh w_0_0 w_0_1 w_0_2 a_1_0 a_1_1 b_2_0 b_2_1 (kk [.g 3,tI,tI,tB] Kv)) nF vs w
def z32_A (_:VW):A:=(qr 4 (qr 9 (qr 10 (qs (A.reg (qn 4 (RA.spl 27 (qn 3 (RA.spl 30 (qn 4 RA.done) (qk 1 (qn 3 RA.done)))) (qk 1 (qn 2 (qk 1 (qn 3 RA.done))))))) ql))))
theorem z32_ok:Sound Tryz.prog 76 z32_S:=okS (x:=z32_A) (fun Kv w_0_0 w_0_1 w_0_2 a_1_0 a_1_1 b_2_0 b_2_1=>z32_sd w_0_0 w_0_1 w_0_2 a_1_0 a_1_1 b_2_0 b_2_1 (kk [.g 3,tI,tI,tB] Kv)) progMixed (Γ:=[(78,z4y_S),(124,z50_S)]) ⟨.inl z4y_ok,.inl z50_ok,trivial⟩ Tryz.call76 Tryz.func76 (fun _=>hEnd)
def z40_sd (c_0_0 c_0_1:Int)(c_0_2 c_0_3:Int)(t_1 t_2:Addr)(K:Pw.T0)(w:World):Prop :=
 let w1:=w.alloc (Obj.cells #[(Value.int .i64 c_0_0),(Value.int .i64 c_0_1),(Value.int .i64 c_0_2),(Value.int .i64 c_0_3)] 57)
 ∃ x2:Int,w1.cell? (Addr.mk w.heap.size 0 none)=some (Value.int .i64 x2)/\∃ x3:Int,w1.cell? t_1=some (Value.int .i64 x3)/\cnd (x2 == x3)
 (∃ x4:Int,w1.cell? (Addr.mk w.heap.size 1 none)=some (Value.int .i64 x4)/\∃ x5:Int,w1.cell? t_2=some (Value.int .i64 x5)/\K (x4 == x5) w1)
 (K false w1)
structure z40_sh (c_0_0 c_0_1:Int)(c_0_2 c_0_3:Int)(t_1 t_2:Addr)(K:Pw.T0)(w:World):Prop where
 out:z40_sd c_0_0 c_0_1 c_0_2 c_0_3 t_1 t_2 K w
noncomputable def z40_S:Pw.Spec:=fun vs w Kv=>un [.g 4,tI,tI,tI,tI,tQ,tQ] (fun c_0_0 c_0_1 c_0_2 c_0_3 t_1 t_2=>z40_sh c_0_0 c_0_1 c_0_2 c_0_3 t_1 t_2 (kk [tB] Kv)) nF vs w
def z40_A (_:VW):A:=(qr 2 (qs (A.reg (qn 5 (RA.spl 9 (qn 7 RA.done) (qk 5 (qn 2 RA.done))))) ql))
theorem z40_ok:Sound Tryz.prog 133 z40_S:=okS (x:=z40_A) (fun Kv c_0_0 c_0_1 c_0_2 c_0_3 t_1 t_2=>z40_sd c_0_0 c_0_1 c_0_2 c_0_3 t_1 t_2 (kk [tB] Kv)) progMixed (Γ:=[]) trivial Tryz.call133 Tryz.func133 (fun _=>hEnd)
def z4r_b2 (f_1:Sl)(p_2:Addr)(place_5:Nat)(sum_8:Int)(d_10:Addr)(t_28:Sl)(t_29 t_30:Int)(t_35:Sl)(t_36 t_37:Int)(N2:Sl->Addr->Nat->Int->Addr->Sl->Int->Int->Sl->Int->Int->World->Prop)(N1:Sl->Addr->Nat->Int->Sl->Int->Int->World->Prop)(K:Pw.T1)(w:World):Prop :=
 cnd (decide (t_37<t_36))
 (nz t_35.p fun a15=>(0<=t_37/\t_37<(t_35.l:Nat))/\∃ x16:Int,w.cell? (a15.add (t_37.toNat*1))=some (Value.int .i64 x16)/\let w17:=w.alloc (Obj.cells #[(Value.int .i64 0)] 3)
 wrOk w17 (Addr.mk w.heap.size 0 none)/\
 (let w18:=w17.setCell (Addr.mk w.heap.size 0 none) (Value.int .i64 x16)
 ∃ x19:Int,w18.cell? (Addr.mk w.heap.size 0 none)=some (Value.int .i64 x19)/\∃ l20:List (Int × Int),Mp w18 place_5 .i64 (l20.map fun p=>(p.1,Value.int .i64 p.2))/\cnd (decide ((mgetD (0:Int) x19 l20)<(f_1.l:Int)))
 (let w21:=w18.drew
 nz f_1.p fun a22=>(0<=(mgetD (0:Int) x19 l20)/\(mgetD (0:Int) x19 l20)<(f_1.l:Nat))/\∃ x23:Int,w21.cell? (a22.add ((mgetD (0:Int) x19 l20).toNat*1))=some (Value.int .i64 x23)/\cnd (decide (x23<(0:Int)))
 (inR .i64 (t_30+(1:Int))/\N1 f_1 p_2 place_5 sum_8 t_28 t_29 (t_30+(1:Int)) w21)
 (∃ x24:Sl,w21.cell? (p_2.add 1)=some (Value.slice x24.p x24.l x24.c)/\nz f_1.p fun a25=>(0<=(mgetD (0:Int) x19 l20)/\(mgetD (0:Int) x19 l20)<(f_1.l:Nat))/\∃ x26:Int,w21.cell? (a25.add ((mgetD (0:Int) x19 l20).toNat*1))=some (Value.int .i64 x26)/\nz x24.p fun a27=>(0<=x26/\x26<(x24.l:Nat))/\∃ x28:Int,w21.cell? ((a27.add (x26.toNat*4)).add 1)=some (Value.int .i64 x28)/\∃ x29:Int,w21.cell? d_10=some (Value.int .i64 x29)/\cnd (x28 != x29)
 (inR .i64 (t_30+(1:Int))/\N1 f_1 p_2 place_5 sum_8 t_28 t_29 (t_30+(1:Int)) w21)
 (inR .i64 (t_37+(1:Int))/\N2 f_1 p_2 place_5 sum_8 d_10 t_28 t_29 t_30 t_35 t_36 (t_37+(1:Int)) w21)))
 (∃ x30:Sl,w18.cell? (p_2.add 1)=some (Value.slice x30.p x30.l x30.c)/\z00_sh x30 (Value.func (.func 133) #[] #[(Value.pointer (some (Addr.mk w.heap.size 0 none))),(Value.pointer (some d_10))]) (fun r32 w31=>cnd (!r32)
 (inR .i64 (t_30+(1:Int))/\N1 f_1 p_2 place_5 sum_8 t_28 t_29 (t_30+(1:Int)) w31)
 (inR .i64 (t_37+(1:Int))/\N2 f_1 p_2 place_5 sum_8 d_10 t_28 t_29 t_30 t_35 t_36 (t_37+(1:Int)) w31)) w18)))
 (∃ x33:Int,w.cell? (d_10.add 2)=some (Value.int .i64 x33)/\inR .i64 (sum_8+x33)/\inR .i64 (t_30+(1:Int))/\N1 f_1 p_2 place_5 (sum_8+x33) t_28 t_29 (t_30+(1:Int)) w)
def z4r_l2d (f_1:Sl)(p_2:Addr)(place_5:Nat)(sum_8:Int)(d_10:Addr)(t_28:Sl)(t_29 t_30:Int)(t_35:Sl)(t_36 t_37:Int)(N1:Sl->Addr->Nat->Int->Sl->Int->Int->World->Prop)(K:Pw.T1)(w:World):Prop :=
 ∃ (I:Int->World->Prop) (μ:Int->World->Nat),I t_37 w/\∀ (t_371:Int) (w1:World),I t_371 w1 ->
 z4r_b2 f_1 p_2 place_5 sum_8 d_10 t_28 t_29 t_30 t_35 t_36 t_371 (fun f_1' p_2' place_5' sum_8' d_10' t_28' t_29' t_30' t_35' t_36' t_37' w'=>((f_1'=f_1/\p_2'=p_2/\place_5'=place_5/\sum_8'=sum_8/\d_10'=d_10/\t_28'=t_28/\t_29'=t_29/\t_30'=t_30/\t_35'=t_35/\t_36'=t_36/\True)/\I t_37' w')/\μ t_37' w'<μ t_371 w1) N1 K w1
structure z4r_l2 (f_1:Sl)(p_2:Addr)(place_5:Nat)(sum_8:Int)(d_10:Addr)(t_28:Sl)(t_29 t_30:Int)(t_35:Sl)(t_36 t_37:Int)(N1:Sl->Addr->Nat->Int->Sl->Int->Int->World->Prop)(K:Pw.T1)(w:World):Prop where
 out:z4r_l2d f_1 p_2 place_5 sum_8 d_10 t_28 t_29 t_30 t_35 t_36 t_37 N1 K w
def z4r_b1 (f_1:Sl)(p_2:Addr)(place_5:Nat)(sum_8:Int)(t_28:Sl)(t_29 t_30:Int)(N1:Sl->Addr->Nat->Int->Sl->Int->Int->World->Prop)(K:Pw.T1)(w:World):Prop :=
 cnd (decide (t_30<t_29))
 (nz t_28.p fun a8=>(0<=t_30/\t_30<(t_28.l:Nat))/\∃ x9:Int,w.cell? (a8.add (t_30.toNat*3))=some (Value.int .i64 x9)/\∃ x10:Sl,w.cell? ((a8.add (t_30.toNat*3)).add 1)=some (Value.slice x10.p x10.l x10.c)/\∃ x11:Int,w.cell? ((a8.add (t_30.toNat*3)).add 2)=some (Value.int .i64 x11)/\let w12:=w.alloc (Obj.cells #[(Value.int .i64 0),(Value.slice none 0 0),(Value.int .i64 0)] 81)
 stN w12 (Addr.mk w.heap.size 0 none) [(Value.int .i64 x9),(Value.slice x10.p x10.l x10.c),(Value.int .i64 x11)] fun w13=>∃ x14:Sl,w13.cell? (Addr.mk w.heap.size 1 none)=some (Value.slice x14.p x14.l x14.c)/\z4r_l2 f_1 p_2 place_5 sum_8 (Addr.mk w.heap.size 0 none) t_28 t_29 t_30 x14 (x14.l:Int) (0:Int) N1 K w13)
 (K sum_8 w)
def z4r_l1d (f_1:Sl)(p_2:Addr)(place_5:Nat)(sum_8:Int)(t_28:Sl)(t_29 t_30:Int)(K:Pw.T1)(w:World):Prop :=
 ∃ (I:Int->Int->World->Prop) (μ:Int->Int->World->Nat),I sum_8 t_30 w/\∀ (sum_81 t_301:Int) (w1:World),I sum_81 t_301 w1 ->
 z4r_b1 f_1 p_2 place_5 sum_81 t_28 t_29 t_301 (fun f_1' p_2' place_5' sum_8' t_28' t_29' t_30' w'=>((f_1'=f_1/\p_2'=p_2/\place_5'=place_5/\t_28'=t_28/\t_29'=t_29/\True)/\I sum_8' t_30' w')/\μ sum_8' t_30' w'<μ sum_81 t_301 w1) K w1
structure z4r_l1 (f_1:Sl)(p_2:Addr)(place_5:Nat)(sum_8:Int)(t_28:Sl)(t_29 t_30:Int)(K:Pw.T1)(w:World):Prop where
 out:z4r_l1d f_1 p_2 place_5 sum_8 t_28 t_29 t_30 K w
def z4r_b0 (f_1:Sl)(p_2:Addr)(place_5:Nat)(t_16:Sl)(t_17 t_18:Int)(N0:Sl->Addr->Nat->Sl->Int->Int->World->Prop)(K:Pw.T1)(w:World):Prop :=
 cnd (decide (t_18<t_17))
 (nz t_16.p fun a4=>(0<=t_18/\t_18<(t_16.l:Nat))/\∃ x5:Int,w.cell? (a4.add (t_18.toNat*1))=some (Value.int .i64 x5)/\(∃ l:List (Int × Value),Mp w place_5 .i64 l)/\let w6:=w.mset place_5 .i64 x5 (Value.int .i64 t_18)
 inR .i64 (t_18+(1:Int))/\N0 f_1 p_2 place_5 t_16 t_17 (t_18+(1:Int)) w6)
 (∃ x7:Sl,w.cell? (p_2.add 2)=some (Value.slice x7.p x7.l x7.c)/\z4r_l1 f_1 p_2 place_5 (0:Int) x7 (x7.l:Int) (0:Int) K w)
def z4r_l0d (f_1:Sl)(p_2:Addr)(place_5:Nat)(t_16:Sl)(t_17 t_18:Int)(K:Pw.T1)(w:World):Prop :=
 ∃ (I:Int->World->Prop) (μ:Int->World->Nat),I t_18 w/\∀ (t_181:Int) (w1:World),I t_181 w1 ->
 z4r_b0 f_1 p_2 place_5 t_16 t_17 t_181 (fun f_1' p_2' place_5' t_16' t_17' t_18' w'=>((f_1'=f_1/\p_2'=p_2/\place_5'=place_5/\t_16'=t_16/\t_17'=t_17/\True)/\I t_18' w')/\μ t_18' w'<μ t_181 w1) K w1
structure z4r_l0 (f_1:Sl)(p_2:Addr)(place_5:Nat)(t_16:Sl)(t_17 t_18:Int)(K:Pw.T1)(w:World):Prop where
 out:z4r_l0d f_1 p_2 place_5 t_16 t_17 t_18 K w
def z4r_sd (p_0_0 p_0_1 p_0_2:Sl)(p_0_3 p_0_4:Int)(f_1:Sl)(K:Pw.T1)(w:World):Prop :=
 let w1:=w.alloc (Obj.cells #[(Value.slice p_0_0.p p_0_0.l p_0_0.c),(Value.slice p_0_1.p p_0_1.l p_0_1.c),(Value.slice p_0_2.p p_0_2.l p_0_2.c),(Value.int .i64 p_0_3),(Value.int .i64 p_0_4)] 28)
 let w2:=w1.alloc (Obj.map #[] 0)
 ∃ x3:Sl,w2.cell? (Addr.mk w.heap.size 0 none)=some (Value.slice x3.p x3.l x3.c)/\z4r_l0 f_1 (Addr.mk w.heap.size 0 none) w1.heap.size x3 (x3.l:Int) (0:Int) K w2
structure z4r_sh (p_0_0 p_0_1 p_0_2:Sl)(p_0_3 p_0_4:Int)(f_1:Sl)(K:Pw.T1)(w:World):Prop where
 out:z4r_sd p_0_0 p_0_1 p_0_2 p_0_3 p_0_4 f_1 K w
def z4r_L0 (Kv:VW):Cur [tL,tQ,tN,tL,tI,tI] WP:=fun f_1 p_2 place_5 t_16 t_17 t_18=>z4r_l0 f_1 p_2 place_5 t_16 t_17 t_18 (kk [tI] Kv)
def z4r_L1 (Kv:VW):Cur [tL,tQ,tN,tI,tL,tI,tI] WP:=fun f_1 p_2 place_5 sum_8 t_28 t_29 t_30=>z4r_l1 f_1 p_2 place_5 sum_8 t_28 t_29 t_30 (kk [tI] Kv)
def z4r_L2 (Kv:VW):Cur [tL,tQ,tN,tI,tL,tI,tI] WP->Cur [tL,tQ,tN,tI,tQ,tL,tI,tI,tL,tI,tI] WP:=fun N1 f_1 p_2 place_5 sum_8 d_10 t_28 t_29 t_30 t_35 t_36 t_37=>z4r_l2 f_1 p_2 place_5 sum_8 d_10 t_28 t_29 t_30 t_35 t_36 t_37 N1 (kk [tI] Kv)
noncomputable def z4r_S:Pw.Spec:=fun vs w Kv=>un [.g 5,tL,tL,tL,tI,tI,tL] (fun p_0_0 p_0_1 p_0_2 p_0_3 p_0_4 f_1=>z4r_sh p_0_0 p_0_1 p_0_2 p_0_3 p_0_4 f_1 (kk [tI] Kv)) nF vs w
def z4r_A (Kv:VW):A:=(qr 2 (qb (qr 2 (qs (qr 4 (qb (A.loop [1,2,5,16,17,18] (uR0 [tL,tQ,tN,tL,tI,tI] (z4r_L0 Kv)) (qr 1 (qs (qc ql ql) (qs (qb (qr 5 (qe 4))) (qe 2))))))) (qr 1 (qs ql (qs (qr 4 (qb (A.loop [1,2,5,8,28,29,30] (uR0 [tL,tQ,tN,tI,tL,tI,tI] (z4r_L1 Kv)) (qr 1 (qs (qc ql ql) (qs (qb (qr 4 (qs (qr 4 (qb (A.loop [1,2,5,8,10,28,29,30,35,36,37] (uR1 [tL,tQ,tN,tI,tL,tI,tI] [tL,tQ,tN,tI,tQ,tL,tI,tI,tL,tI,tI] (z4r_L2 Kv)) (qr 1 (qs (qc ql ql) (qs (qb (qr 4 (qr 4 (qr 4 (qc (qs (A.drp (dp [0,1,2,3,4,5] (DA.spl 53 (DA.skp 6 (DA.skp 7 (DA.skp 8 (DA.skp 9 (DA.skp 10 (DA.skp 11 (DA.skp 12 (DA.skp 13 (DA.skp 14 (DA.skp 15 (DA.skp 16 (DA.skp 17 (DA.pur 18 DA.done))))))))))))) (dp [6,7,8,9,10,11,12,13,14,15,16,17,18] DA.done)))) (qc ql ql)) (qr 5 (qc ql ql))))))) (qe 2))))))) (qe 5)))) (qe 2))))))) (qr 2 ql))))))))
theorem z4r_ok:Sound Tryz.prog 79 z4r_S:=okS (x:=z4r_A) (fun Kv p_0_0 p_0_1 p_0_2 p_0_3 p_0_4 f_1=>z4r_sd p_0_0 p_0_1 p_0_2 p_0_3 p_0_4 f_1 (kk [tI] Kv)) progMixed (Γ:=[(132,z00_S)]) ⟨.inl z00_ok,trivial⟩ Tryz.call79 Tryz.func79 (fun Kv=>hStep (hLoop0 (L:=z4r_L0 Kv) (fun N0 f_1 p_2 place_5 t_16 t_17 t_18=>z4r_b0 f_1 p_2 place_5 t_16 t_17 t_18 N0 (kk [tI] Kv)) (fun⟨a0,a1,a2,a3,a4,_,_⟩ _ h=>let ⟨I,μ,h0,hr⟩:=h.out; ⟨fun b0 b1 b2 b3 b4 b5 w=>(b0=a0/\b1=a1/\b2=a2/\b3=a3/\b4=a4/\True)/\I b5 w,fun _ _ _ _ _ b5 w=>μ b5 w,⟨⟨rfl,rfl,rfl,rfl,rfl,trivial⟩,h0⟩,fun⟨_,_,_,_,_,_,_⟩ _ ⟨⟨e0,e1,e2,e3,e4,_⟩,hI⟩=>by cases e0; cases e1; cases e2; cases e3; cases e4; exact hr _ _ hI⟩)) <| hStep (hLoop0 (L:=z4r_L1 Kv) (fun N1 f_1 p_2 place_5 sum_8 t_28 t_29 t_30=>z4r_b1 f_1 p_2 place_5 sum_8 t_28 t_29 t_30 N1 (kk [tI] Kv)) (fun⟨a0,a1,a2,_,a4,a5,_,_⟩ _ h=>let ⟨I,μ,h0,hr⟩:=h.out; ⟨fun b0 b1 b2 b3 b4 b5 b6 w=>(b0=a0/\b1=a1/\b2=a2/\b4=a4/\b5=a5/\True)/\I b3 b6 w,fun _ _ _ b3 _ _ b6 w=>μ b3 b6 w,⟨⟨rfl,rfl,rfl,rfl,rfl,trivial⟩,h0⟩,fun⟨_,_,_,_,_,_,_,_⟩ _ ⟨⟨e0,e1,e2,e4,e5,_⟩,hI⟩=>by cases e0; cases e1; cases e2; cases e4; cases e5; exact hr _ _ _ hI⟩)) <| hStep (hLoop1 (L:=z4r_L2 Kv) (fun N1 N2 f_1 p_2 place_5 sum_8 d_10 t_28 t_29 t_30 t_35 t_36 t_37=>z4r_b2 f_1 p_2 place_5 sum_8 d_10 t_28 t_29 t_30 t_35 t_36 t_37 N2 N1 (kk [tI] Kv)) (fun _ ⟨a0,a1,a2,a3,a4,a5,a6,a7,a8,a9,_,_⟩ _ h=>let ⟨I,μ,h0,hr⟩:=h.out; ⟨fun b0 b1 b2 b3 b4 b5 b6 b7 b8 b9 b10 w=>(b0=a0/\b1=a1/\b2=a2/\b3=a3/\b4=a4/\b5=a5/\b6=a6/\b7=a7/\b8=a8/\b9=a9/\True)/\I b10 w,fun _ _ _ _ _ _ _ _ _ _ b10 w=>μ b10 w,⟨⟨rfl,rfl,rfl,rfl,rfl,rfl,rfl,rfl,rfl,rfl,trivial⟩,h0⟩,fun⟨_,_,_,_,_,_,_,_,_,_,_,_⟩ _ ⟨⟨e0,e1,e2,e3,e4,e5,e6,e7,e8,e9,_⟩,hI⟩=>by cases e0; cases e1; cases e2; cases e3; cases e4; cases e5; cases e6; cases e7; cases e8; cases e9; exact hr _ _ hI⟩)) <| hEnd)
def z4d_k6d (f_1:Sl)(p_3 dual_5 sum_8:Addr)(k_9 lot_10:Int)(best_11 one_14:Addr)(t_25:Sl)(t_26 t_27:Int)(t_34:Sl)(t_35 t_36:Int)(N2:Sl->Addr->Addr->Addr->Int->Int->Addr->Sl->Int->Int->Sl->Int->Int->World->Prop)(N1:Sl->Addr->Addr->Addr->Sl->Int->Int->World->Prop)(K:Pw.T3)(w:World):Prop :=
 ∃ x97:Int,w.cell? one_14=some (Value.int .i64 x97)/\∃ x98:Int,w.cell? (one_14.add 1)=some (Value.int .i64 x98)/\wrOk w best_11/\
 (let w99:=w.setCell best_11 (Value.int .i64 x97)
 wrOk w99 (best_11.add 1)/\
 (let w100:=w99.setCell (best_11.add 1) (Value.int .i64 x98)
 inR .i64 (t_36+(1:Int))/\N2 f_1 p_3 dual_5 sum_8 k_9 lot_10 best_11 t_25 t_26 t_27 t_34 t_35 (t_36+(1:Int)) w100))
structure z4d_k6 (f_1:Sl)(p_3 dual_5 sum_8:Addr)(k_9 lot_10:Int)(best_11 one_14:Addr)(t_25:Sl)(t_26 t_27:Int)(t_34:Sl)(t_35 t_36:Int)(N2:Sl->Addr->Addr->Addr->Int->Int->Addr->Sl->Int->Int->Sl->Int->Int->World->Prop)(N1:Sl->Addr->Addr->Addr->Sl->Int->Int->World->Prop)(K:Pw.T3)(w:World):Prop where
 out:z4d_k6d f_1 p_3 dual_5 sum_8 k_9 lot_10 best_11 one_14 t_25 t_26 t_27 t_34 t_35 t_36 N2 N1 K w
def z4d_k5d (f_1:Sl)(p_3 dual_5 sum_8:Addr)(k_9 lot_10:Int)(best_11 one_14:Addr)(t_25:Sl)(t_26 t_27:Int)(t_34:Sl)(t_35 t_36:Int)(N2:Sl->Addr->Addr->Addr->Int->Int->Addr->Sl->Int->Int->Sl->Int->Int->World->Prop)(N1:Sl->Addr->Addr->Addr->Sl->Int->Int->World->Prop)(K:Pw.T3)(w:World):Prop :=
 cnd (decide (k_9<(f_1.l:Int)))
 (z4d_k6 f_1 p_3 dual_5 sum_8 k_9 lot_10 best_11 one_14 t_25 t_26 t_27 t_34 t_35 t_36 N2 N1 K w)
 (∃ x91:Int,w.cell? one_14=some (Value.int .i64 x91)/\∃ x92:Int,w.cell? (one_14.add 1)=some (Value.int .i64 x92)/\∃ x93:Int,w.cell? best_11=some (Value.int .i64 x93)/\∃ x94:Int,w.cell? (best_11.add 1)=some (Value.int .i64 x94)/\z4z_sh x91 x92 x93 x94 (fun r96 w95=>cnd (decide (r96>(0:Int)))
 (z4d_k6 f_1 p_3 dual_5 sum_8 k_9 lot_10 best_11 one_14 t_25 t_26 t_27 t_34 t_35 t_36 N2 N1 K w95)
 (inR .i64 (t_36+(1:Int))/\N2 f_1 p_3 dual_5 sum_8 k_9 lot_10 best_11 t_25 t_26 t_27 t_34 t_35 (t_36+(1:Int)) w95)) w)
structure z4d_k5 (f_1:Sl)(p_3 dual_5 sum_8:Addr)(k_9 lot_10:Int)(best_11 one_14:Addr)(t_25:Sl)(t_26 t_27:Int)(t_34:Sl)(t_35 t_36:Int)(N2:Sl->Addr->Addr->Addr->Int->Int->Addr->Sl->Int->Int->Sl->Int->Int->World->Prop)(N1:Sl->Addr->Addr->Addr->Sl->Int->Int->World->Prop)(K:Pw.T3)(w:World):Prop where
 out:z4d_k5d f_1 p_3 dual_5 sum_8 k_9 lot_10 best_11 one_14 t_25 t_26 t_27 t_34 t_35 t_36 N2 N1 K w
def z4d_k4d (f_1:Sl)(p_3 dual_5 sum_8:Addr)(k_9 lot_10:Int)(best_11 one_14:Addr)(t_25:Sl)(t_26 t_27:Int)(t_34:Sl)(t_35 t_36:Int)(N2:Sl->Addr->Addr->Addr->Int->Int->Addr->Sl->Int->Int->Sl->Int->Int->World->Prop)(N1:Sl->Addr->Addr->Addr->Sl->Int->Int->World->Prop)(K:Pw.T3)(w:World):Prop :=
 ∃ x87:Bool,w.cell? (sum_8.add 2)=some (Value.bool x87)/\cnd x87
 (∃ x88:Bool,w.cell? (one_14.add 2)=some (Value.bool x88)/\wrOk w (sum_8.add 2)/\
 (let w89:=w.setCell (sum_8.add 2) (Value.bool x88)
 z4d_k5 f_1 p_3 dual_5 sum_8 k_9 lot_10 best_11 one_14 t_25 t_26 t_27 t_34 t_35 t_36 N2 N1 K w89))
 (wrOk w (sum_8.add 2)/\
 (let w90:=w.setCell (sum_8.add 2) (Value.bool false)
 z4d_k5 f_1 p_3 dual_5 sum_8 k_9 lot_10 best_11 one_14 t_25 t_26 t_27 t_34 t_35 t_36 N2 N1 K w90))
structure z4d_k4 (f_1:Sl)(p_3 dual_5 sum_8:Addr)(k_9 lot_10:Int)(best_11 one_14:Addr)(t_25:Sl)(t_26 t_27:Int)(t_34:Sl)(t_35 t_36:Int)(N2:Sl->Addr->Addr->Addr->Int->Int->Addr->Sl->Int->Int->Sl->Int->Int->World->Prop)(N1:Sl->Addr->Addr->Addr->Sl->Int->Int->World->Prop)(K:Pw.T3)(w:World):Prop where
 out:z4d_k4d f_1 p_3 dual_5 sum_8 k_9 lot_10 best_11 one_14 t_25 t_26 t_27 t_34 t_35 t_36 N2 N1 K w
def z4d_k3d (f_1:Sl)(p_3 dual_5 sum_8:Addr)(k_9 lot_10:Int)(best_11 c_13:Addr)(t_25:Sl)(t_26 t_27:Int)(t_34:Sl)(t_35 t_36:Int)(N2:Sl->Addr->Addr->Addr->Int->Int->Addr->Sl->Int->Int->Sl->Int->Int->World->Prop)(N1:Sl->Addr->Addr->Addr->Sl->Int->Int->World->Prop)(K:Pw.T3)(w:World):Prop :=
 let w53:=w.drew
 ∃ S54:World->Prop,S54 w53/\∃ x55:Int,(∀ w':World,S54 w'->w'.cell? (c_13.add 3)=some (Value.int .i64 x55))/\∃ x56:Int,(∀ w':World,S54 w'->w'.cell? (p_3.add 4)=some (Value.int .i64 x56))/\inR .i64 (x56+(1:Int))/\inR .i64 (x55*(x56+(1:Int)))/\∃ x57:Int,(∀ w':World,S54 w'->w'.cell? (c_13.add 2)=some (Value.int .i64 x57))/\inR .i64 ((x55*(x56+(1:Int)))-x57)/\∃ x58:Int,(∀ w':World,S54 w'->w'.cell? dual_5=some (Value.int .i64 x58))/\∃ x59:Int,(∀ w':World,S54 w'->w'.cell? (dual_5.add 1)=some (Value.int .i64 x59))/\∃ x60:Int,(∀ w':World,S54 w'->w'.cell? (c_13.add 2)=some (Value.int .i64 x60))/\inR .i64 (-x60)/\(z55_sh ((x55*(x56+(1:Int)))-x57) (fun r62_0 r62_1 w61=>S54 w61/\(z55_sh (-x60) (fun r64_0 r64_1 w63=>S54 w63/\(z32_sh r62_0 r62_1 true x58 x59 r64_0 r64_1 (fun r66_0 r66_1 r66_2 w65=>S54 w65/\let w67:=w65.alloc (Obj.cells #[(Value.int .i64 0),(Value.int .i64 0),(Value.bool false)] 128)
 S54 w67/\stN w67 (Addr.mk w65.heap.size 0 none) [(Value.int .i64 r66_0),(Value.int .i64 r66_1),(Value.bool r66_2)] fun w68=>z4d_k4 f_1 p_3 dual_5 sum_8 k_9 lot_10 best_11 (Addr.mk w65.heap.size 0 none) t_25 t_26 t_27 t_34 t_35 t_36 N2 N1 K w68) w63)
/\(let w69:=w63.alloc (Obj.cells #[(Value.int .i64 0),(Value.int .i64 0),(Value.bool false)] 128)
 S54 w69/\z32_sh r62_0 r62_1 true x58 x59 r64_0 r64_1 (fun r71_0 r71_1 r71_2 w70=>S54 w70/\stN w70 (Addr.mk w63.heap.size 0 none) [(Value.int .i64 r71_0),(Value.int .i64 r71_1),(Value.bool r71_2)] fun w72=>z4d_k4 f_1 p_3 dual_5 sum_8 k_9 lot_10 best_11 (Addr.mk w63.heap.size 0 none) t_25 t_26 t_27 t_34 t_35 t_36 N2 N1 K w72) w69)) w61)
/\(let w73:=w61.alloc (Obj.cells #[(Value.int .i64 0),(Value.int .i64 0),(Value.bool false)] 128)
 S54 w73/\z55_sh (-x60) (fun r75_0 r75_1 w74=>S54 w74/\z32_sh r62_0 r62_1 true x58 x59 r75_0 r75_1 (fun r77_0 r77_1 r77_2 w76=>S54 w76/\stN w76 (Addr.mk w61.heap.size 0 none) [(Value.int .i64 r77_0),(Value.int .i64 r77_1),(Value.bool r77_2)] fun w78=>z4d_k4 f_1 p_3 dual_5 sum_8 k_9 lot_10 best_11 (Addr.mk w61.heap.size 0 none) t_25 t_26 t_27 t_34 t_35 t_36 N2 N1 K w78) w74) w73)) w53)
/\(let w79:=w53.alloc (Obj.cells #[(Value.int .i64 0),(Value.int .i64 0),(Value.bool false)] 128)
 S54 w79/\z55_sh ((x55*(x56+(1:Int)))-x57) (fun r81_0 r81_1 w80=>S54 w80/\z55_sh (-x60) (fun r83_0 r83_1 w82=>S54 w82/\z32_sh r81_0 r81_1 true x58 x59 r83_0 r83_1 (fun r85_0 r85_1 r85_2 w84=>S54 w84/\stN w84 (Addr.mk w53.heap.size 0 none) [(Value.int .i64 r85_0),(Value.int .i64 r85_1),(Value.bool r85_2)] fun w86=>z4d_k4 f_1 p_3 dual_5 sum_8 k_9 lot_10 best_11 (Addr.mk w53.heap.size 0 none) t_25 t_26 t_27 t_34 t_35 t_36 N2 N1 K w86) w82) w80) w79)
structure z4d_k3 (f_1:Sl)(p_3 dual_5 sum_8:Addr)(k_9 lot_10:Int)(best_11 c_13:Addr)(t_25:Sl)(t_26 t_27:Int)(t_34:Sl)(t_35 t_36:Int)(N2:Sl->Addr->Addr->Addr->Int->Int->Addr->Sl->Int->Int->Sl->Int->Int->World->Prop)(N1:Sl->Addr->Addr->Addr->Sl->Int->Int->World->Prop)(K:Pw.T3)(w:World):Prop where
 out:z4d_k3d f_1 p_3 dual_5 sum_8 k_9 lot_10 best_11 c_13 t_25 t_26 t_27 t_34 t_35 t_36 N2 N1 K w
def z4d_b2 (f_1:Sl)(p_3 dual_5 sum_8:Addr)(k_9 lot_10:Int)(best_11:Addr)(t_25:Sl)(t_26 t_27:Int)(t_34:Sl)(t_35 t_36:Int)(N2:Sl->Addr->Addr->Addr->Int->Int->Addr->Sl->Int->Int->Sl->Int->Int->World->Prop)(N1:Sl->Addr->Addr->Addr->Sl->Int->Int->World->Prop)(K:Pw.T3)(w:World):Prop :=
 cnd (decide (t_36<t_35))
 (nz t_34.p fun a43=>(0<=t_36/\t_36<(t_34.l:Nat))/\∃ x44:Int,w.cell? (a43.add (t_36.toNat*4))=some (Value.int .i64 x44)/\∃ x45:Int,w.cell? ((a43.add (t_36.toNat*4)).add 1)=some (Value.int .i64 x45)/\∃ x46:Int,w.cell? ((a43.add (t_36.toNat*4)).add 2)=some (Value.int .i64 x46)/\∃ x47:Int,w.cell? ((a43.add (t_36.toNat*4)).add 3)=some (Value.int .i64 x47)/\let w48:=w.alloc (Obj.cells #[(Value.int .i64 0),(Value.int .i64 0),(Value.int .i64 0),(Value.int .i64 0)] 57)
 stN w48 (Addr.mk w.heap.size 0 none) [(Value.int .i64 x44),(Value.int .i64 x45),(Value.int .i64 x46),(Value.int .i64 x47)] fun w49=>∃ x50:Int,w49.cell? (Addr.mk w.heap.size 0 none)=some (Value.int .i64 x50)/\cnd (x50 != lot_10)
 (inR .i64 (t_36+(1:Int))/\N2 f_1 p_3 dual_5 sum_8 k_9 lot_10 best_11 t_25 t_26 t_27 t_34 t_35 (t_36+(1:Int)) w49)
 (cnd (decide (k_9<(f_1.l:Int)))
 (nz f_1.p fun a51=>(0<=k_9/\k_9<(f_1.l:Nat))/\∃ x52:Int,w49.cell? (a51.add (k_9.toNat*1))=some (Value.int .i64 x52)/\cnd (x52 != t_36)
 (inR .i64 (t_36+(1:Int))/\N2 f_1 p_3 dual_5 sum_8 k_9 lot_10 best_11 t_25 t_26 t_27 t_34 t_35 (t_36+(1:Int)) w49)
 (z4d_k3 f_1 p_3 dual_5 sum_8 k_9 lot_10 best_11 (Addr.mk w.heap.size 0 none) t_25 t_26 t_27 t_34 t_35 t_36 N2 N1 K w49))
 (z4d_k3 f_1 p_3 dual_5 sum_8 k_9 lot_10 best_11 (Addr.mk w.heap.size 0 none) t_25 t_26 t_27 t_34 t_35 t_36 N2 N1 K w49)))
 (let w101:=w.drew
 ∃ S102:World->Prop,S102 w101/\∃ x103:Int,(∀ w':World,S102 w'->w'.cell? sum_8=some (Value.int .i64 x103))/\∃ x104:Int,(∀ w':World,S102 w'->w'.cell? (sum_8.add 1)=some (Value.int .i64 x104))/\∃ x105:Bool,(∀ w':World,S102 w'->w'.cell? (sum_8.add 2)=some (Value.bool x105))/\∃ x106:Int,(∀ w':World,S102 w'->w'.cell? best_11=some (Value.int .i64 x106))/\∃ x107:Int,(∀ w':World,S102 w'->w'.cell? (best_11.add 1)=some (Value.int .i64 x107))/\z55_sh (1:Int) (fun r109_0 r109_1 w108=>S102 w108/\z32_sh x103 x104 x105 x106 x107 r109_0 r109_1 (fun r111_0 r111_1 r111_2 w110=>stN w110 sum_8 [(Value.int .i64 r111_0),(Value.int .i64 r111_1),(Value.bool r111_2)] fun w112=>inR .i64 (t_27+(1:Int))/\N1 f_1 p_3 dual_5 sum_8 t_25 t_26 (t_27+(1:Int)) w112) w108) w101)
def z4d_l2d (f_1:Sl)(p_3 dual_5 sum_8:Addr)(k_9 lot_10:Int)(best_11:Addr)(t_25:Sl)(t_26 t_27:Int)(t_34:Sl)(t_35 t_36:Int)(N1:Sl->Addr->Addr->Addr->Sl->Int->Int->World->Prop)(K:Pw.T3)(w:World):Prop :=
 ∃ (I:Int->World->Prop) (μ:Int->World->Nat),I t_36 w/\∀ (t_361:Int) (w1:World),I t_361 w1 ->
 z4d_b2 f_1 p_3 dual_5 sum_8 k_9 lot_10 best_11 t_25 t_26 t_27 t_34 t_35 t_361 (fun f_1' p_3' dual_5' sum_8' k_9' lot_10' best_11' t_25' t_26' t_27' t_34' t_35' t_36' w'=>((f_1'=f_1/\p_3'=p_3/\dual_5'=dual_5/\sum_8'=sum_8/\k_9'=k_9/\lot_10'=lot_10/\best_11'=best_11/\t_25'=t_25/\t_26'=t_26/\t_27'=t_27/\t_34'=t_34/\t_35'=t_35/\True)/\I t_36' w')/\μ t_36' w'<μ t_361 w1) N1 K w1
structure z4d_l2 (f_1:Sl)(p_3 dual_5 sum_8:Addr)(k_9 lot_10:Int)(best_11:Addr)(t_25:Sl)(t_26 t_27:Int)(t_34:Sl)(t_35 t_36:Int)(N1:Sl->Addr->Addr->Addr->Sl->Int->Int->World->Prop)(K:Pw.T3)(w:World):Prop where
 out:z4d_l2d f_1 p_3 dual_5 sum_8 k_9 lot_10 best_11 t_25 t_26 t_27 t_34 t_35 t_36 N1 K w
def z4d_k7d (f_1:Sl)(p_3 sum_8 more_15:Addr)(ok_16:Bool)(K:Pw.T3)(w:World):Prop :=
 let w139:=w.drew
 ∃ S140:World->Prop,S140 w139/\∃ x141:Int,(∀ w':World,S140 w'->w'.cell? sum_8=some (Value.int .i64 x141))/\∃ x142:Int,(∀ w':World,S140 w'->w'.cell? (sum_8.add 1)=some (Value.int .i64 x142))/\∃ x143:Bool,(∀ w':World,S140 w'->w'.cell? (sum_8.add 2)=some (Value.bool x143))/\∃ x144:Int,(∀ w':World,S140 w'->w'.cell? more_15=some (Value.int .i64 x144))/\∃ x145:Int,(∀ w':World,S140 w'->w'.cell? (more_15.add 1)=some (Value.int .i64 x145))/\∃ x146:Sl,(∀ w':World,S140 w'->w'.cell? p_3=some (Value.slice x146.p x146.l x146.c))/\∃ x147:Sl,(∀ w':World,S140 w'->w'.cell? (p_3.add 1)=some (Value.slice x147.p x147.l x147.c))/\∃ x148:Sl,(∀ w':World,S140 w'->w'.cell? (p_3.add 2)=some (Value.slice x148.p x148.l x148.c))/\∃ x149:Int,(∀ w':World,S140 w'->w'.cell? (p_3.add 3)=some (Value.int .i64 x149))/\∃ x150:Int,(∀ w':World,S140 w'->w'.cell? (p_3.add 4)=some (Value.int .i64 x150))/\z4r_sh x146 x147 x148 x149 x150 f_1 (fun r152 w151=>S140 w151/\z55_sh r152 (fun r154_0 r154_1 w153=>S140 w153/\z32_sh x141 x142 x143 x144 x145 r154_0 r154_1 (fun r156_0 r156_1 r156_2 w155=>S140 w155/\stN w155 sum_8 [(Value.int .i64 r156_0),(Value.int .i64 r156_1),(Value.bool r156_2)] fun w157=>cnd (!ok_16)
 (K (0:Int) false w157)
 (∃ x158:Bool,w157.cell? (sum_8.add 2)=some (Value.bool x158)/\cnd (!x158)
 (K (0:Int) false w157)
 (∃ x159:Int,w157.cell? sum_8=some (Value.int .i64 x159)/\∃ x160:Int,w157.cell? (sum_8.add 1)=some (Value.int .i64 x160)/\z4i_sh x159 x160 (fun r162 w161=>K r162 true w161) w157))) w153) w151) w139
structure z4d_k7 (f_1:Sl)(p_3 sum_8 more_15:Addr)(ok_16:Bool)(K:Pw.T3)(w:World):Prop where
 out:z4d_k7d f_1 p_3 sum_8 more_15 ok_16 K w
def z4d_b1 (f_1:Sl)(p_3 dual_5 sum_8:Addr)(t_25:Sl)(t_26 t_27:Int)(N1:Sl->Addr->Addr->Addr->Sl->Int->Int->World->Prop)(K:Pw.T3)(w:World):Prop :=
 cnd (decide (t_27<t_26))
 (nz t_25.p fun a35=>(0<=t_27/\t_27<(t_25.l:Nat))/\∃ x36:Int,w.cell? (a35.add (t_27.toNat*1))=some (Value.int .i64 x36)/\z55_sh (0:Int) (fun r38_0 r38_1 w37=>let w39:=w37.alloc (Obj.cells #[(Value.int .i64 0),(Value.int .i64 0)] 31)
 wrOk w39 (Addr.mk w37.heap.size 0 none)/\
 (let w40:=w39.setCell (Addr.mk w37.heap.size 0 none) (Value.int .i64 r38_0)
 wrOk w40 (Addr.mk w37.heap.size 1 none)/\
 (let w41:=w40.setCell (Addr.mk w37.heap.size 1 none) (Value.int .i64 r38_1)
 ∃ x42:Sl,w41.cell? (p_3.add 1)=some (Value.slice x42.p x42.l x42.c)/\z4d_l2 f_1 p_3 dual_5 sum_8 t_27 x36 (Addr.mk w37.heap.size 0 none) t_25 t_26 t_27 x42 (x42.l:Int) (0:Int) N1 K w41))) w)
 (let w113:=w.drew
 ∃ S114:World->Prop,S114 w113/\∃ x115:Int,(∀ w':World,S114 w'->w'.cell? dual_5=some (Value.int .i64 x115))/\∃ x116:Int,(∀ w':World,S114 w'->w'.cell? (dual_5.add 1)=some (Value.int .i64 x116))/\(z55_sh (1:Int) (fun r118_0 r118_1 w117=>S114 w117/\(z4y_sh r118_0 r118_1 x115 x116 (fun r120_0 r120_1 r121 w119=>S114 w119/\let w122:=w119.alloc (Obj.cells #[(Value.int .i64 0),(Value.int .i64 0)] 31)
 S114 w122/\wrOk w122 (Addr.mk w119.heap.size 0 none)/\
 (let w123:=w122.setCell (Addr.mk w119.heap.size 0 none) (Value.int .i64 r120_0)
 wrOk w123 (Addr.mk w119.heap.size 1 none)/\
 (let w124:=w123.setCell (Addr.mk w119.heap.size 1 none) (Value.int .i64 r120_1)
 z4d_k7 f_1 p_3 sum_8 (Addr.mk w119.heap.size 0 none) r121 K w124))) w117)
/\(let w125:=w117.alloc (Obj.cells #[(Value.int .i64 0),(Value.int .i64 0)] 31)
 S114 w125/\z4y_sh r118_0 r118_1 x115 x116 (fun r127_0 r127_1 r128 w126=>wrOk w126 (Addr.mk w117.heap.size 0 none)/\
 (let w129:=w126.setCell (Addr.mk w117.heap.size 0 none) (Value.int .i64 r127_0)
 wrOk w129 (Addr.mk w117.heap.size 1 none)/\
 (let w130:=w129.setCell (Addr.mk w117.heap.size 1 none) (Value.int .i64 r127_1)
 z4d_k7 f_1 p_3 sum_8 (Addr.mk w117.heap.size 0 none) r128 K w130))) w125)) w113)
/\(let w131:=w113.alloc (Obj.cells #[(Value.int .i64 0),(Value.int .i64 0)] 31)
 S114 w131/\z55_sh (1:Int) (fun r133_0 r133_1 w132=>S114 w132/\z4y_sh r133_0 r133_1 x115 x116 (fun r135_0 r135_1 r136 w134=>wrOk w134 (Addr.mk w113.heap.size 0 none)/\
 (let w137:=w134.setCell (Addr.mk w113.heap.size 0 none) (Value.int .i64 r135_0)
 wrOk w137 (Addr.mk w113.heap.size 1 none)/\
 (let w138:=w137.setCell (Addr.mk w113.heap.size 1 none) (Value.int .i64 r135_1)
 z4d_k7 f_1 p_3 sum_8 (Addr.mk w113.heap.size 0 none) r136 K w138))) w132) w131))
def z4d_l1d (f_1:Sl)(p_3 dual_5 sum_8:Addr)(t_25:Sl)(t_26 t_27:Int)(K:Pw.T3)(w:World):Prop :=
 ∃ (I:Int->World->Prop) (μ:Int->World->Nat),I t_27 w/\∀ (t_271:Int) (w1:World),I t_271 w1 ->
 z4d_b1 f_1 p_3 dual_5 sum_8 t_25 t_26 t_271 (fun f_1' p_3' dual_5' sum_8' t_25' t_26' t_27' w'=>((f_1'=f_1/\p_3'=p_3/\dual_5'=dual_5/\sum_8'=sum_8/\t_25'=t_25/\t_26'=t_26/\True)/\I t_27' w')/\μ t_27' w'<μ t_271 w1) K w1
structure z4d_l1 (f_1:Sl)(p_3 dual_5 sum_8:Addr)(t_25:Sl)(t_26 t_27:Int)(K:Pw.T3)(w:World):Prop where
 out:z4d_l1d f_1 p_3 dual_5 sum_8 t_25 t_26 t_27 K w
def z4d_k0d (f_1:Sl)(p_3 dual_5 sum_8:Addr)(K:Pw.T3)(w:World):Prop :=
 ∃ x34:Sl,w.cell? p_3=some (Value.slice x34.p x34.l x34.c)/\z4d_l1 f_1 p_3 dual_5 sum_8 x34 (x34.l:Int) (0:Int) K w
structure z4d_k0 (f_1:Sl)(p_3 dual_5 sum_8:Addr)(K:Pw.T3)(w:World):Prop where
 out:z4d_k0d f_1 p_3 dual_5 sum_8 K w
def z4d_sd (p_0_0 p_0_1 p_0_2:Sl)(p_0_3 p_0_4:Int)(f_1:Sl)(dual_2_0 dual_2_1:Int)(K:Pw.T3)(w:World):Prop :=
 let w1:=w.alloc (Obj.cells #[(Value.slice p_0_0.p p_0_0.l p_0_0.c),(Value.slice p_0_1.p p_0_1.l p_0_1.c),(Value.slice p_0_2.p p_0_2.l p_0_2.c),(Value.int .i64 p_0_3),(Value.int .i64 p_0_4)] 28)
 let w2:=w1.alloc (Obj.cells #[(Value.int .i64 dual_2_0),(Value.int .i64 dual_2_1)] 31)
 let w3:=w2.drew
 ∃ S4:World->Prop,S4 w3/\∃ x5:Int,(∀ w':World,S4 w'->w'.cell? (Addr.mk w1.heap.size 0 none)=some (Value.int .i64 x5))/\∃ x6:Int,(∀ w':World,S4 w'->w'.cell? (Addr.mk w1.heap.size 1 none)=some (Value.int .i64 x6))/\∃ x7:Int,(∀ w':World,S4 w'->w'.cell? (Addr.mk w.heap.size 4 none)=some (Value.int .i64 x7))/\(z55_sh (0:Int) (fun r9_0 r9_1 w8=>S4 w8/\(z55_sh x7 (fun r11_0 r11_1 w10=>S4 w10/\(z32_sh r9_0 r9_1 true x5 x6 r11_0 r11_1 (fun r13_0 r13_1 r13_2 w12=>S4 w12/\let w14:=w12.alloc (Obj.cells #[(Value.int .i64 0),(Value.int .i64 0),(Value.bool false)] 128)
 S4 w14/\stN w14 (Addr.mk w12.heap.size 0 none) [(Value.int .i64 r13_0),(Value.int .i64 r13_1),(Value.bool r13_2)] fun w15=>z4d_k0 f_1 (Addr.mk w.heap.size 0 none) (Addr.mk w1.heap.size 0 none) (Addr.mk w12.heap.size 0 none) K w15) w10)
/\(let w16:=w10.alloc (Obj.cells #[(Value.int .i64 0),(Value.int .i64 0),(Value.bool false)] 128)
 S4 w16/\z32_sh r9_0 r9_1 true x5 x6 r11_0 r11_1 (fun r18_0 r18_1 r18_2 w17=>S4 w17/\stN w17 (Addr.mk w10.heap.size 0 none) [(Value.int .i64 r18_0),(Value.int .i64 r18_1),(Value.bool r18_2)] fun w19=>z4d_k0 f_1 (Addr.mk w.heap.size 0 none) (Addr.mk w1.heap.size 0 none) (Addr.mk w10.heap.size 0 none) K w19) w16)) w8)
/\(let w20:=w8.alloc (Obj.cells #[(Value.int .i64 0),(Value.int .i64 0),(Value.bool false)] 128)
 S4 w20/\z55_sh x7 (fun r22_0 r22_1 w21=>S4 w21/\z32_sh r9_0 r9_1 true x5 x6 r22_0 r22_1 (fun r24_0 r24_1 r24_2 w23=>S4 w23/\stN w23 (Addr.mk w8.heap.size 0 none) [(Value.int .i64 r24_0),(Value.int .i64 r24_1),(Value.bool r24_2)] fun w25=>z4d_k0 f_1 (Addr.mk w.heap.size 0 none) (Addr.mk w1.heap.size 0 none) (Addr.mk w8.heap.size 0 none) K w25) w21) w20)) w3)
/\(let w26:=w3.alloc (Obj.cells #[(Value.int .i64 0),(Value.int .i64 0),(Value.bool false)] 128)
 S4 w26/\z55_sh (0:Int) (fun r28_0 r28_1 w27=>S4 w27/\z55_sh x7 (fun r30_0 r30_1 w29=>S4 w29/\z32_sh r28_0 r28_1 true x5 x6 r30_0 r30_1 (fun r32_0 r32_1 r32_2 w31=>S4 w31/\stN w31 (Addr.mk w3.heap.size 0 none) [(Value.int .i64 r32_0),(Value.int .i64 r32_1),(Value.bool r32_2)] fun w33=>z4d_k0 f_1 (Addr.mk w.heap.size 0 none) (Addr.mk w1.heap.size 0 none) (Addr.mk w3.heap.size 0 none) K w33) w29) w27) w26)
structure z4d_sh (p_0_0 p_0_1 p_0_2:Sl)(p_0_3 p_0_4:Int)(f_1:Sl)(dual_2_0 dual_2_1:Int)(K:Pw.T3)(w:World):Prop where
 out:z4d_sd p_0_0 p_0_1 p_0_2 p_0_3 p_0_4 f_1 dual_2_0 dual_2_1 K w
def z4d_L0 (Kv:VW):Cur [tL,tQ,tQ,tQ] WP:=fun f_1 p_3 dual_5 sum_8=>z4d_k0 f_1 p_3 dual_5 sum_8 (kk [.u 2,tI,tB] Kv)
def z4d_L1 (Kv:VW):Cur [tL,tQ,tQ,tQ,tL,tI,tI] WP:=fun f_1 p_3 dual_5 sum_8 t_25 t_26 t_27=>z4d_l1 f_1 p_3 dual_5 sum_8 t_25 t_26 t_27 (kk [.u 2,tI,tB] Kv)
def z4d_L2 (Kv:VW):Cur [tL,tQ,tQ,tQ,tL,tI,tI] WP->Cur [tL,tQ,tQ,tQ,tI,tI,tQ,tL,tI,tI,tL,tI,tI] WP:=fun N1 f_1 p_3 dual_5 sum_8 k_9 lot_10 best_11 t_25 t_26 t_27 t_34 t_35 t_36=>z4d_l2 f_1 p_3 dual_5 sum_8 k_9 lot_10 best_11 t_25 t_26 t_27 t_34 t_35 t_36 N1 (kk [.u 2,tI,tB] Kv)
def z4d_L3 (Kv:VW):Cur [tL,tQ,tQ,tQ,tI,tI,tQ,tL,tI,tI,tL,tI,tI] WP->Cur [tL,tQ,tQ,tQ,tL,tI,tI] WP->Cur [tL,tQ,tQ,tQ,tI,tI,tQ,tQ,tL,tI,tI,tL,tI,tI] WP:=fun N2 N1 f_1 p_3 dual_5 sum_8 k_9 lot_10 best_11 c_13 t_25 t_26 t_27 t_34 t_35 t_36=>z4d_k3 f_1 p_3 dual_5 sum_8 k_9 lot_10 best_11 c_13 t_25 t_26 t_27 t_34 t_35 t_36 N2 N1 (kk [.u 2,tI,tB] Kv)
def z4d_L4 (Kv:VW):Cur [tL,tQ,tQ,tQ,tI,tI,tQ,tL,tI,tI,tL,tI,tI] WP->Cur [tL,tQ,tQ,tQ,tL,tI,tI] WP->Cur [tL,tQ,tQ,tQ,tI,tI,tQ,tQ,tL,tI,tI,tL,tI,tI] WP:=fun N2 N1 f_1 p_3 dual_5 sum_8 k_9 lot_10 best_11 one_14 t_25 t_26 t_27 t_34 t_35 t_36=>z4d_k4 f_1 p_3 dual_5 sum_8 k_9 lot_10 best_11 one_14 t_25 t_26 t_27 t_34 t_35 t_36 N2 N1 (kk [.u 2,tI,tB] Kv)
def z4d_L5 (Kv:VW):Cur [tL,tQ,tQ,tQ,tI,tI,tQ,tL,tI,tI,tL,tI,tI] WP->Cur [tL,tQ,tQ,tQ,tL,tI,tI] WP->Cur [tL,tQ,tQ,tQ,tI,tI,tQ,tQ,tL,tI,tI,tL,tI,tI] WP:=fun N2 N1 f_1 p_3 dual_5 sum_8 k_9 lot_10 best_11 one_14 t_25 t_26 t_27 t_34 t_35 t_36=>z4d_k5 f_1 p_3 dual_5 sum_8 k_9 lot_10 best_11 one_14 t_25 t_26 t_27 t_34 t_35 t_36 N2 N1 (kk [.u 2,tI,tB] Kv)
def z4d_L6 (Kv:VW):Cur [tL,tQ,tQ,tQ,tI,tI,tQ,tL,tI,tI,tL,tI,tI] WP->Cur [tL,tQ,tQ,tQ,tL,tI,tI] WP->Cur [tL,tQ,tQ,tQ,tI,tI,tQ,tQ,tL,tI,tI,tL,tI,tI] WP:=fun N2 N1 f_1 p_3 dual_5 sum_8 k_9 lot_10 best_11 one_14 t_25 t_26 t_27 t_34 t_35 t_36=>z4d_k6 f_1 p_3 dual_5 sum_8 k_9 lot_10 best_11 one_14 t_25 t_26 t_27 t_34 t_35 t_36 N2 N1 (kk [.u 2,tI,tB] Kv)
def z4d_L7 (Kv:VW):Cur [tL,tQ,tQ,tQ,tB] WP:=fun f_1 p_3 sum_8 more_15 ok_16=>z4d_k7 f_1 p_3 sum_8 more_15 ok_16 (kk [.u 2,tI,tB] Kv)
noncomputable def z4d_S:Pw.Spec:=fun vs w Kv=>un [.g 5,tL,tL,tL,tI,tI,tL,.g 2,tI,tI] (fun p_0_0 p_0_1 p_0_2 p_0_3 p_0_4 f_1 dual_2_0 dual_2_1=>z4d_sh p_0_0 p_0_1 p_0_2 p_0_3 p_0_4 f_1 dual_2_0 dual_2_1 (kk [.u 2,tI,tB] Kv)) nF vs w
def z4d_A (Kv:VW):A:=(qr 4 (qs (A.drw (dp [2,3,4] (DA.two 0 (DA.pur 1 (DA.two 5 (DA.two 6 (DA.eff 7 (DA.eff 8 DA.done)) 7 (DA.eff 6 (DA.eff 8 DA.done))) 7 (DA.eff 5 (DA.eff 6 (DA.eff 8 DA.done))))) 7 (DA.eff 0 (DA.pur 1 (DA.eff 5 (DA.eff 6 (DA.eff 8 DA.done)))))))) (A.cut [1,3,5,8] (uR0 [tL,tQ,tQ,tQ] (z4d_L0 Kv)) (qs (qr 4 (qb (A.loop [1,3,5,8,25,26,27] (uR0 [tL,tQ,tQ,tQ,tL,tI,tI] (z4d_L1 Kv)) (qr 1 (qs (qc ql ql) (qs (qb (qr 5 (qr 3 (qs (qr 4 (qb (A.loop [1,3,5,8,9,10,11,25,26,27,34,35,36] (uR1 [tL,tQ,tQ,tQ,tL,tI,tI] [tL,tQ,tQ,tQ,tI,tI,tQ,tL,tI,tI,tL,tI,tI] (z4d_L2 Kv)) (qr 1 (qs (qc ql ql) (qs (qb (qr 6 (qs (qs (A.reg (qn 5 (RA.spl 45 (qk 12 (qn 1 RA.done)) (qn 5 (RA.spl 50 (qn 8 RA.done) (qk 6 (qn 2 RA.done))))))) (qc ql ql)) (A.cut [1,3,5,8,9,10,11,13,25,26,27,34,35,36] (uR2 [tL,tQ,tQ,tQ,tI,tI,tQ,tL,tI,tI,tL,tI,tI] [tL,tQ,tQ,tQ,tL,tI,tI] [tL,tQ,tQ,tQ,tI,tI,tQ,tQ,tL,tI,tI,tL,tI,tI] (z4d_L3 Kv)) (qs (A.drw (dp [0,1,2,3,4,5,6,7,8,11,12,13,14] (DA.two 9 (DA.pur 10 (DA.two 15 (DA.two 16 (DA.eff 17 (DA.eff 18 DA.done)) 17 (DA.eff 16 (DA.eff 18 DA.done))) 17 (DA.eff 15 (DA.eff 16 (DA.eff 18 DA.done))))) 17 (DA.eff 9 (DA.pur 10 (DA.eff 15 (DA.eff 16 (DA.eff 18 DA.done)))))))) (A.cut [1,3,5,8,9,10,11,14,25,26,27,34,35,36] (uR2 [tL,tQ,tQ,tQ,tI,tI,tQ,tL,tI,tI,tL,tI,tI] [tL,tQ,tQ,tQ,tL,tI,tI] [tL,tQ,tQ,tQ,tI,tI,tQ,tQ,tL,tI,tI,tL,tI,tI] (z4d_L4 Kv)) (qs (A.reg (qn 3 (RA.spl 78 (qn 5 RA.done) (qk 2 (qn 3 RA.done))))) (A.cut [1,3,5,8,9,10,11,14,25,26,27,34,35,36] (uR2 [tL,tQ,tQ,tQ,tI,tI,tQ,tL,tI,tI,tL,tI,tI] [tL,tQ,tQ,tQ,tL,tI,tI] [tL,tQ,tQ,tQ,tI,tI,tQ,tQ,tL,tI,tI,tL,tI,tI] (z4d_L5 Kv)) (qs (A.reg (qn 5 (RA.spl 87 (qk 5 (qn 1 RA.done)) (qn 6 RA.done)))) (qc (A.cut [1,3,5,8,9,10,11,14,25,26,27,34,35,36] (uR2 [tL,tQ,tQ,tQ,tI,tI,tQ,tL,tI,tI,tL,tI,tI] [tL,tQ,tQ,tQ,tL,tI,tI] [tL,tQ,tQ,tQ,tI,tI,tQ,tQ,tL,tI,tI,tL,tI,tI] (z4d_L6 Kv)) (qe 3)) ql)))))))))) (qe 2))))))) (A.drw (dp [0,1] (DA.eff 2 (DA.eff 3 (DA.eff 4 DA.done))))))))) (qe 2))))))) (qs (A.drw (DA.pur 1 (DA.two 0 (DA.two 2 (dp [3,4,5] (DA.eff 6 (DA.eff 7 (DA.pur 8 DA.done)))) 6 (DA.eff 2 (dp [3,4,5] (DA.eff 7 (DA.pur 8 DA.done))))) 6 (DA.eff 0 (DA.eff 2 (dp [3,4,5] (DA.eff 7 (DA.pur 8 DA.done)))))))) (A.cut [1,3,8,15,16] (uR0 [tL,tQ,tQ,tQ,tB] (z4d_L7 Kv)) (qs (A.drw (dp [0,1,2,3] (DA.eff 4 (DA.eff 5 (DA.eff 6 (DA.eff 7 DA.done)))))) (qs (qs (A.reg (qn 3 (RA.spl 117 (qk 3 (qn 1 RA.done)) (qn 4 RA.done)))) (qc (qr 2 ql) ql)) (qr 5 ql)))))))))
theorem z4d_ok:Sound Tryz.prog 39 z4d_S:=okS (x:=z4d_A) (fun Kv p_0_0 p_0_1 p_0_2 p_0_3 p_0_4 f_1 dual_2_0 dual_2_1=>z4d_sd p_0_0 p_0_1 p_0_2 p_0_3 p_0_4 f_1 dual_2_0 dual_2_1 (kk [.u 2,tI,tB] Kv)) progMixed (Γ:=[(75,z55_S),(76,z32_S),(77,z4z_S),(78,z4y_S),(79,z4r_S),(80,z4i_S)]) ⟨.inl z55_ok,.inl z32_ok,.inl z4z_ok,.inl z4y_ok,.inl z4r_ok,.inl z4i_ok,trivial⟩ Tryz.call39 Tryz.func39 (fun Kv=>hStep (hCut0 (F:=z4d_L0 Kv) (G:=fun f_1 p_3 dual_5 sum_8=>z4d_k0d f_1 p_3 dual_5 sum_8 (kk [.u 2,tI,tB] Kv))) <| hStep (hLoop0 (L:=z4d_L1 Kv) (fun N1 f_1 p_3 dual_5 sum_8 t_25 t_26 t_27=>z4d_b1 f_1 p_3 dual_5 sum_8 t_25 t_26 t_27 N1 (kk [.u 2,tI,tB] Kv)) (fun⟨a0,a1,a2,a3,a4,a5,_,_⟩ _ h=>let ⟨I,μ,h0,hr⟩:=h.out; ⟨fun b0 b1 b2 b3 b4 b5 b6 w=>(b0=a0/\b1=a1/\b2=a2/\b3=a3/\b4=a4/\b5=a5/\True)/\I b6 w,fun _ _ _ _ _ _ b6 w=>μ b6 w,⟨⟨rfl,rfl,rfl,rfl,rfl,rfl,trivial⟩,h0⟩,fun⟨_,_,_,_,_,_,_,_⟩ _ ⟨⟨e0,e1,e2,e3,e4,e5,_⟩,hI⟩=>by cases e0; cases e1; cases e2; cases e3; cases e4; cases e5; exact hr _ _ hI⟩)) <| hStep (hLoop1 (L:=z4d_L2 Kv) (fun N1 N2 f_1 p_3 dual_5 sum_8 k_9 lot_10 best_11 t_25 t_26 t_27 t_34 t_35 t_36=>z4d_b2 f_1 p_3 dual_5 sum_8 k_9 lot_10 best_11 t_25 t_26 t_27 t_34 t_35 t_36 N2 N1 (kk [.u 2,tI,tB] Kv)) (fun _ ⟨a0,a1,a2,a3,a4,a5,a6,a7,a8,a9,a10,a11,_,_⟩ _ h=>let ⟨I,μ,h0,hr⟩:=h.out; ⟨fun b0 b1 b2 b3 b4 b5 b6 b7 b8 b9 b10 b11 b12 w=>(b0=a0/\b1=a1/\b2=a2/\b3=a3/\b4=a4/\b5=a5/\b6=a6/\b7=a7/\b8=a8/\b9=a9/\b10=a10/\b11=a11/\True)/\I b12 w,fun _ _ _ _ _ _ _ _ _ _ _ _ b12 w=>μ b12 w,⟨⟨rfl,rfl,rfl,rfl,rfl,rfl,rfl,rfl,rfl,rfl,rfl,rfl,trivial⟩,h0⟩,fun⟨_,_,_,_,_,_,_,_,_,_,_,_,_,_⟩ _ ⟨⟨e0,e1,e2,e3,e4,e5,e6,e7,e8,e9,e10,e11,_⟩,hI⟩=>by cases e0; cases e1; cases e2; cases e3; cases e4; cases e5; cases e6; cases e7; cases e8; cases e9; cases e10; cases e11; exact hr _ _ hI⟩)) <| hStep (hCut2 (F:=z4d_L3 Kv) (G:=fun N2 N1 f_1 p_3 dual_5 sum_8 k_9 lot_10 best_11 c_13 t_25 t_26 t_27 t_34 t_35 t_36=>z4d_k3d f_1 p_3 dual_5 sum_8 k_9 lot_10 best_11 c_13 t_25 t_26 t_27 t_34 t_35 t_36 N2 N1 (kk [.u 2,tI,tB] Kv))) <| hStep (hCut2 (F:=z4d_L4 Kv) (G:=fun N2 N1 f_1 p_3 dual_5 sum_8 k_9 lot_10 best_11 one_14 t_25 t_26 t_27 t_34 t_35 t_36=>z4d_k4d f_1 p_3 dual_5 sum_8 k_9 lot_10 best_11 one_14 t_25 t_26 t_27 t_34 t_35 t_36 N2 N1 (kk [.u 2,tI,tB] Kv))) <| hStep (hCut2 (F:=z4d_L5 Kv) (G:=fun N2 N1 f_1 p_3 dual_5 sum_8 k_9 lot_10 best_11 one_14 t_25 t_26 t_27 t_34 t_35 t_36=>z4d_k5d f_1 p_3 dual_5 sum_8 k_9 lot_10 best_11 one_14 t_25 t_26 t_27 t_34 t_35 t_36 N2 N1 (kk [.u 2,tI,tB] Kv))) <| hStep (hCut2 (F:=z4d_L6 Kv) (G:=fun N2 N1 f_1 p_3 dual_5 sum_8 k_9 lot_10 best_11 one_14 t_25 t_26 t_27 t_34 t_35 t_36=>z4d_k6d f_1 p_3 dual_5 sum_8 k_9 lot_10 best_11 one_14 t_25 t_26 t_27 t_34 t_35 t_36 N2 N1 (kk [.u 2,tI,tB] Kv))) <| hStep (hCut0 (F:=z4d_L7 Kv) (G:=fun f_1 p_3 sum_8 more_15 ok_16=>z4d_k7d f_1 p_3 sum_8 more_15 ok_16 (kk [.u 2,tI,tB] Kv))) <| hEnd)
def z4b_sd (p_0_0 p_0_1 p_0_2:Sl)(p_0_3 p_0_4:Int)(fixed_1:Sl)(dual_2_0 dual_2_1:Int)(K:Pw.T3)(w:World):Prop :=
 let w1:=w.alloc (Obj.cells #[(Value.slice p_0_0.p p_0_0.l p_0_0.c),(Value.slice p_0_1.p p_0_1.l p_0_1.c),(Value.slice p_0_2.p p_0_2.l p_0_2.c),(Value.int .i64 p_0_3),(Value.int .i64 p_0_4)] 28)
 let w2:=w1.alloc (Obj.cells #[(Value.int .i64 dual_2_0),(Value.int .i64 dual_2_1)] 31)
 ∃ x3:Sl,w2.cell? (Addr.mk w.heap.size 0 none)=some (Value.slice x3.p x3.l x3.c)/\∃ x4:Sl,w2.cell? (Addr.mk w.heap.size 1 none)=some (Value.slice x4.p x4.l x4.c)/\∃ x5:Sl,w2.cell? (Addr.mk w.heap.size 2 none)=some (Value.slice x5.p x5.l x5.c)/\∃ x6:Int,w2.cell? (Addr.mk w.heap.size 3 none)=some (Value.int .i64 x6)/\∃ x7:Int,w2.cell? (Addr.mk w.heap.size 4 none)=some (Value.int .i64 x7)/\z4e_sh x3 x4 x5 x6 x7 (fun r9 w8=>cnd (!r9)
 (K (0:Int) false w8)
 (∃ x10:Sl,w8.cell? (Addr.mk w.heap.size 0 none)=some (Value.slice x10.p x10.l x10.c)/\∃ x11:Sl,w8.cell? (Addr.mk w.heap.size 1 none)=some (Value.slice x11.p x11.l x11.c)/\∃ x12:Sl,w8.cell? (Addr.mk w.heap.size 2 none)=some (Value.slice x12.p x12.l x12.c)/\∃ x13:Int,w8.cell? (Addr.mk w.heap.size 3 none)=some (Value.int .i64 x13)/\∃ x14:Int,w8.cell? (Addr.mk w.heap.size 4 none)=some (Value.int .i64 x14)/\z42_sh x10 x11 x12 x13 x14 fixed_1 (fun r16 w15=>cnd (!r16)
 (K (0:Int) false w15)
 (∃ x17:Int,w15.cell? (Addr.mk w1.heap.size 0 none)=some (Value.int .i64 x17)/\∃ x18:Int,w15.cell? (Addr.mk w1.heap.size 1 none)=some (Value.int .i64 x18)/\z4j_sh x17 x18 (fun r20 w19=>cnd (!r20)
 (K (0:Int) false w19)
 (∃ x21:Int,w19.cell? (Addr.mk w1.heap.size 0 none)=some (Value.int .i64 x21)/\cnd (decide (x21<(0:Int)))
 (K (0:Int) false w19)
 (∃ x22:Sl,w19.cell? (Addr.mk w.heap.size 0 none)=some (Value.slice x22.p x22.l x22.c)/\∃ x23:Sl,w19.cell? (Addr.mk w.heap.size 1 none)=some (Value.slice x23.p x23.l x23.c)/\∃ x24:Sl,w19.cell? (Addr.mk w.heap.size 2 none)=some (Value.slice x24.p x24.l x24.c)/\∃ x25:Int,w19.cell? (Addr.mk w.heap.size 3 none)=some (Value.int .i64 x25)/\∃ x26:Int,w19.cell? (Addr.mk w.heap.size 4 none)=some (Value.int .i64 x26)/\∃ x27:Int,w19.cell? (Addr.mk w1.heap.size 0 none)=some (Value.int .i64 x27)/\∃ x28:Int,w19.cell? (Addr.mk w1.heap.size 1 none)=some (Value.int .i64 x28)/\z4d_sh x22 x23 x24 x25 x26 fixed_1 x27 x28 (fun r30 r31 w29=>K r30 r31 w29) w19))) w15)) w8)) w2
structure z4b_sh (p_0_0 p_0_1 p_0_2:Sl)(p_0_3 p_0_4:Int)(fixed_1:Sl)(dual_2_0 dual_2_1:Int)(K:Pw.T3)(w:World):Prop where
 out:z4b_sd p_0_0 p_0_1 p_0_2 p_0_3 p_0_4 fixed_1 dual_2_0 dual_2_1 K w
noncomputable def z4b_S:Pw.Spec:=fun vs w Kv=>un [.g 5,tL,tL,tL,tI,tI,tL,.g 2,tI,tI] (fun p_0_0 p_0_1 p_0_2 p_0_3 p_0_4 fixed_1 dual_2_0 dual_2_1=>z4b_sh p_0_0 p_0_1 p_0_2 p_0_3 p_0_4 fixed_1 dual_2_0 dual_2_1 (kk [.u 2,tI,tB] Kv)) nF vs w
def z4b_A (_:VW):A:=(qr 4 (qs (qs (A.reg (qn 4 (RA.spl 11 (qk 4 (qn 2 (qk 3 (qn 2 (qk 3 (qn 1 RA.done)))))) (qn 6 (RA.spl 17 (qk 3 (qn 2 (qk 3 (qn 1 RA.done)))) (qn 5 (RA.spl 22 (qk 3 (qn 1 RA.done)) (qn 4 RA.done)))))))) (qc (qr 2 ql) ql)) (qr 8 ql)))
theorem z4b_ok:Sound Tryz.prog 14 z4b_S:=okS (x:=z4b_A) (fun Kv p_0_0 p_0_1 p_0_2 p_0_3 p_0_4 fixed_1 dual_2_0 dual_2_1=>z4b_sd p_0_0 p_0_1 p_0_2 p_0_3 p_0_4 fixed_1 dual_2_0 dual_2_1 (kk [.u 2,tI,tB] Kv)) progMixed (Γ:=[(36,z4e_S),(37,z42_S),(38,z4j_S),(39,z4d_S)]) ⟨.inl z4e_ok,.inl z42_ok,.inl z4j_ok,.inl z4d_ok,trivial⟩ Tryz.call14 Tryz.func14 (fun _=>hEnd)
def z4s_b0 (f_1:Sl)(p_2:Addr)(sum_5:Int)(t_8:Sl)(t_9 t_10:Int)(N0:Sl->Addr->Int->Sl->Int->Int->World->Prop)(K:Pw.T1)(w:World):Prop :=
 cnd (decide (t_10<t_9))
 (nz t_8.p fun a2=>(0<=t_10/\t_10<(t_8.l:Nat))/\∃ x3:Int,w.cell? (a2.add (t_10.toNat*1))=some (Value.int .i64 x3)/\cnd (decide (x3>=(0:Int)))
 (∃ x4:Sl,w.cell? (p_2.add 1)=some (Value.slice x4.p x4.l x4.c)/\nz x4.p fun a5=>(0<=x3/\x3<(x4.l:Nat))/\∃ x6:Int,w.cell? ((a5.add (x3.toNat*4)).add 2)=some (Value.int .i64 x6)/\inR .i64 (sum_5+x6)/\inR .i64 (t_10+(1:Int))/\N0 f_1 p_2 (sum_5+x6) t_8 t_9 (t_10+(1:Int)) w)
 (inR .i64 (t_10+(1:Int))/\N0 f_1 p_2 sum_5 t_8 t_9 (t_10+(1:Int)) w))
 (∃ x7:Sl,w.cell? p_2=some (Value.slice x7.p x7.l x7.c)/\∃ x8:Sl,w.cell? (p_2.add 1)=some (Value.slice x8.p x8.l x8.c)/\∃ x9:Sl,w.cell? (p_2.add 2)=some (Value.slice x9.p x9.l x9.c)/\∃ x10:Int,w.cell? (p_2.add 3)=some (Value.int .i64 x10)/\∃ x11:Int,w.cell? (p_2.add 4)=some (Value.int .i64 x11)/\z4r_sh x7 x8 x9 x10 x11 f_1 (fun r13 w12=>inR .i64 (sum_5-r13)/\K (max (0:Int) (sum_5-r13)) w12) w)
def z4s_l0d (f_1:Sl)(p_2:Addr)(sum_5:Int)(t_8:Sl)(t_9 t_10:Int)(K:Pw.T1)(w:World):Prop :=
 ∃ (I:Int->Int->World->Prop) (μ:Int->Int->World->Nat),I sum_5 t_10 w/\∀ (sum_51 t_101:Int) (w1:World),I sum_51 t_101 w1 ->
 z4s_b0 f_1 p_2 sum_51 t_8 t_9 t_101 (fun f_1' p_2' sum_5' t_8' t_9' t_10' w'=>((f_1'=f_1/\p_2'=p_2/\t_8'=t_8/\t_9'=t_9/\True)/\I sum_5' t_10' w')/\μ sum_5' t_10' w'<μ sum_51 t_101 w1) K w1
structure z4s_l0 (f_1:Sl)(p_2:Addr)(sum_5:Int)(t_8:Sl)(t_9 t_10:Int)(K:Pw.T1)(w:World):Prop where
 out:z4s_l0d f_1 p_2 sum_5 t_8 t_9 t_10 K w
def z4s_sd (p_0_0 p_0_1 p_0_2:Sl)(p_0_3 p_0_4:Int)(f_1:Sl)(K:Pw.T1)(w:World):Prop :=
 let w1:=w.alloc (Obj.cells #[(Value.slice p_0_0.p p_0_0.l p_0_0.c),(Value.slice p_0_1.p p_0_1.l p_0_1.c),(Value.slice p_0_2.p p_0_2.l p_0_2.c),(Value.int .i64 p_0_3),(Value.int .i64 p_0_4)] 28)
 z4s_l0 f_1 (Addr.mk w.heap.size 0 none) (0:Int) f_1 (f_1.l:Int) (0:Int) K w1
structure z4s_sh (p_0_0 p_0_1 p_0_2:Sl)(p_0_3 p_0_4:Int)(f_1:Sl)(K:Pw.T1)(w:World):Prop where
 out:z4s_sd p_0_0 p_0_1 p_0_2 p_0_3 p_0_4 f_1 K w
def z4s_L0 (Kv:VW):Cur [tL,tQ,tI,tL,tI,tI] WP:=fun f_1 p_2 sum_5 t_8 t_9 t_10=>z4s_l0 f_1 p_2 sum_5 t_8 t_9 t_10 (kk [tI] Kv)
noncomputable def z4s_S:Pw.Spec:=fun vs w Kv=>un [.g 5,tL,tL,tL,tI,tI,tL] (fun p_0_0 p_0_1 p_0_2 p_0_3 p_0_4 f_1=>z4s_sh p_0_0 p_0_1 p_0_2 p_0_3 p_0_4 f_1 (kk [tI] Kv)) nF vs w
def z4s_A (Kv:VW):A:=(qr 2 (qr 1 (qs (qr 3 (qb (A.loop [1,2,5,8,9,10] (uR0 [tL,tQ,tI,tL,tI,tI] (z4s_L0 Kv)) (qr 1 (qs (qc ql ql) (qs (qb (qr 3 (qr 2 (qc (qe 9) ql)))) (qe 2))))))) (qr 7 ql))))
theorem z4s_ok:Sound Tryz.prog 89 z4s_S:=okS (x:=z4s_A) (fun Kv p_0_0 p_0_1 p_0_2 p_0_3 p_0_4 f_1=>z4s_sd p_0_0 p_0_1 p_0_2 p_0_3 p_0_4 f_1 (kk [tI] Kv)) progMixed (Γ:=[(79,z4r_S)]) ⟨.inl z4r_ok,trivial⟩ Tryz.call89 Tryz.func89 (fun Kv=>hStep (hLoop0 (L:=z4s_L0 Kv) (fun N0 f_1 p_2 sum_5 t_8 t_9 t_10=>z4s_b0 f_1 p_2 sum_5 t_8 t_9 t_10 N0 (kk [tI] Kv)) (fun⟨a0,a1,_,a3,a4,_,_⟩ _ h=>let ⟨I,μ,h0,hr⟩:=h.out; ⟨fun b0 b1 b2 b3 b4 b5 w=>(b0=a0/\b1=a1/\b3=a3/\b4=a4/\True)/\I b2 b5 w,fun _ _ b2 _ _ b5 w=>μ b2 b5 w,⟨⟨rfl,rfl,rfl,rfl,trivial⟩,h0⟩,fun⟨_,_,_,_,_,_,_⟩ _ ⟨⟨e0,e1,e3,e4,_⟩,hI⟩=>by cases e0; cases e1; cases e3; cases e4; exact hr _ _ _ hI⟩)) <| hEnd)
def z3p_b0 (p_2:Addr)(many_5:Nat)(t_9:Sl)(t_10 t_11:Int)(N0:Addr->Nat->Sl->Int->Int->World->Prop)(K:Pw.T0)(w:World):Prop :=
 cnd (decide (t_11<t_10))
 (nz t_9.p fun a3=>(0<=t_11/\t_11<(t_9.l:Nat))/\∃ x4:Int,w.cell? (a3.add (t_11.toNat*1))=some (Value.int .i64 x4)/\cnd (decide (x4>=(0:Int)))
 (∃ x5:Sl,w.cell? (p_2.add 1)=some (Value.slice x5.p x5.l x5.c)/\nz x5.p fun a6=>(0<=x4/\x4<(x5.l:Nat))/\∃ x7:Int,w.cell? ((a6.add (x4.toNat*4)).add 1)=some (Value.int .i64 x7)/\∃ l8:List (Int × Int),Mp w many_5 .i64 (l8.map fun p=>(p.1,Value.int .i64 p.2))/\inR .i64 ((mgetD (0:Int) x7 l8)+(1:Int))/\(∃ l:List (Int × Value),Mp w many_5 .i64 l)/\let w9:=w.mset many_5 .i64 x7 (Value.int .i64 ((mgetD (0:Int) x7 l8)+(1:Int)))
 let w10:=w9.drew
 ∃ S11:World->Prop,S11 w10/\∃ x12:Int,(∀ w':World,S11 w'->w'.cell? (p_2.add 3)=some (Value.int .i64 x12))/\cnd (x12 != (0:Int))
 (∃ x13:Sl,(∀ w':World,S11 w'->w'.cell? (p_2.add 1)=some (Value.slice x13.p x13.l x13.c))/\nz x13.p fun a14=>(0<=x4/\x4<(x13.l:Nat))/\∃ x15:Int,(∀ w':World,S11 w'->w'.cell? ((a14.add (x4.toNat*4)).add 1)=some (Value.int .i64 x15))/\∃ x16:Int,(∀ w':World,S11 w'->w'.cell? (p_2.add 3)=some (Value.int .i64 x16))/\∃ l17:List (Int × Int),Mp w10 many_5 .i64 (l17.map fun p=>(p.1,Value.int .i64 p.2))/\S11 w10/\cnd (decide ((mgetD (0:Int) x15 l17)>x16))
 (K true w10)
 (inR .i64 (t_11+(1:Int))/\N0 p_2 many_5 t_9 t_10 (t_11+(1:Int)) w10))
 (inR .i64 (t_11+(1:Int))/\N0 p_2 many_5 t_9 t_10 (t_11+(1:Int)) w10))
 (inR .i64 (t_11+(1:Int))/\N0 p_2 many_5 t_9 t_10 (t_11+(1:Int)) w))
 (K false w)
def z3p_l0d (p_2:Addr)(many_5:Nat)(t_9:Sl)(t_10 t_11:Int)(K:Pw.T0)(w:World):Prop :=
 ∃ (I:Int->World->Prop) (μ:Int->World->Nat),I t_11 w/\∀ (t_111:Int) (w1:World),I t_111 w1 ->
 z3p_b0 p_2 many_5 t_9 t_10 t_111 (fun p_2' many_5' t_9' t_10' t_11' w'=>((p_2'=p_2/\many_5'=many_5/\t_9'=t_9/\t_10'=t_10/\True)/\I t_11' w')/\μ t_11' w'<μ t_111 w1) K w1
structure z3p_l0 (p_2:Addr)(many_5:Nat)(t_9:Sl)(t_10 t_11:Int)(K:Pw.T0)(w:World):Prop where
 out:z3p_l0d p_2 many_5 t_9 t_10 t_11 K w
def z3p_sd (p_0_0 p_0_1 p_0_2:Sl)(p_0_3 p_0_4:Int)(f_1:Sl)(K:Pw.T0)(w:World):Prop :=
 let w1:=w.alloc (Obj.cells #[(Value.slice p_0_0.p p_0_0.l p_0_0.c),(Value.slice p_0_1.p p_0_1.l p_0_1.c),(Value.slice p_0_2.p p_0_2.l p_0_2.c),(Value.int .i64 p_0_3),(Value.int .i64 p_0_4)] 28)
 let w2:=w1.alloc (Obj.map #[] 0)
 z3p_l0 (Addr.mk w.heap.size 0 none) w1.heap.size f_1 (f_1.l:Int) (0:Int) K w2
structure z3p_sh (p_0_0 p_0_1 p_0_2:Sl)(p_0_3 p_0_4:Int)(f_1:Sl)(K:Pw.T0)(w:World):Prop where
 out:z3p_sd p_0_0 p_0_1 p_0_2 p_0_3 p_0_4 f_1 K w
def z3p_L0 (Kv:VW):Cur [tQ,tN,tL,tI,tI] WP:=fun p_2 many_5 t_9 t_10 t_11=>z3p_l0 p_2 many_5 t_9 t_10 t_11 (kk [tB] Kv)
noncomputable def z3p_S:Pw.Spec:=fun vs w Kv=>un [.g 5,tL,tL,tL,tI,tI,tL] (fun p_0_0 p_0_1 p_0_2 p_0_3 p_0_4 f_1=>z3p_sh p_0_0 p_0_1 p_0_2 p_0_3 p_0_4 f_1 (kk [tB] Kv)) nF vs w
def z3p_A (Kv:VW):A:=(qr 2 (qr 2 (qs (qr 3 (qb (A.loop [2,5,9,10,11] (uR0 [tQ,tN,tL,tI,tI] (z3p_L0 Kv)) (qr 1 (qs (qc ql ql) (qs (qb (qr 3 (qr 2 (qc (qr 10 (qs (A.drw (dp [0,1,2,3] (DA.spl 29 (dp [4,5,6,7,8,9,10,12,13] (DA.eff 11 (dp [14,15] DA.done))) (DA.skp 4 (DA.skp 5 (DA.skp 6 (DA.skp 7 (DA.skp 8 (DA.skp 9 (DA.skp 10 (DA.skp 12 (DA.skp 13 (DA.skp 11 (DA.skp 14 (DA.pur 15 DA.done))))))))))))))) (qc (qr 1 ql) ql))) ql)))) (qe 2))))))) (qr 1 ql))))
theorem z3p_ok:Sound Tryz.prog 90 z3p_S:=okS (x:=z3p_A) (fun Kv p_0_0 p_0_1 p_0_2 p_0_3 p_0_4 f_1=>z3p_sd p_0_0 p_0_1 p_0_2 p_0_3 p_0_4 f_1 (kk [tB] Kv)) progMixed (Γ:=[]) trivial Tryz.call90 Tryz.func90 (fun Kv=>hStep (hLoop0 (L:=z3p_L0 Kv) (fun N0 p_2 many_5 t_9 t_10 t_11=>z3p_b0 p_2 many_5 t_9 t_10 t_11 N0 (kk [tB] Kv)) (fun⟨a0,a1,a2,a3,_,_⟩ _ h=>let ⟨I,μ,h0,hr⟩:=h.out; ⟨fun b0 b1 b2 b3 b4 w=>(b0=a0/\b1=a1/\b2=a2/\b3=a3/\True)/\I b4 w,fun _ _ _ _ b4 w=>μ b4 w,⟨⟨rfl,rfl,rfl,rfl,trivial⟩,h0⟩,fun⟨_,_,_,_,_,_⟩ _ ⟨⟨e0,e1,e2,e3,_⟩,hI⟩=>by cases e0; cases e1; cases e2; cases e3; exact hr _ _ hI⟩)) <| hEnd)
def z3c_sd (p_0_0 p_0_1 p_0_2:Sl)(p_0_3 p_0_4:Int)(f_1:Sl)(K:Pw.T0)(w:World):Prop :=
 let w1:=w.alloc (Obj.cells #[(Value.slice p_0_0.p p_0_0.l p_0_0.c),(Value.slice p_0_1.p p_0_1.l p_0_1.c),(Value.slice p_0_2.p p_0_2.l p_0_2.c),(Value.int .i64 p_0_3),(Value.int .i64 p_0_4)] 28)
 let w2:=w1.drew
 ∃ S3:World->Prop,S3 w2/\∃ x4:Sl,(∀ w':World,S3 w'->w'.cell? (Addr.mk w.heap.size 0 none)=some (Value.slice x4.p x4.l x4.c))/\cnd ((f_1.l:Int) == (x4.l:Int))
 (∃ x5:Sl,(∀ w':World,S3 w'->w'.cell? (Addr.mk w.heap.size 0 none)=some (Value.slice x5.p x5.l x5.c))/\∃ x6:Sl,(∀ w':World,S3 w'->w'.cell? (Addr.mk w.heap.size 1 none)=some (Value.slice x6.p x6.l x6.c))/\∃ x7:Sl,(∀ w':World,S3 w'->w'.cell? (Addr.mk w.heap.size 2 none)=some (Value.slice x7.p x7.l x7.c))/\∃ x8:Int,(∀ w':World,S3 w'->w'.cell? (Addr.mk w.heap.size 3 none)=some (Value.int .i64 x8))/\∃ x9:Int,(∀ w':World,S3 w'->w'.cell? (Addr.mk w.heap.size 4 none)=some (Value.int .i64 x9))/\z42_sh x5 x6 x7 x8 x9 f_1 (fun r11 w10=>S3 w10/\cnd r11
 (∃ x12:Sl,(∀ w':World,S3 w'->w'.cell? (Addr.mk w.heap.size 0 none)=some (Value.slice x12.p x12.l x12.c))/\∃ x13:Sl,(∀ w':World,S3 w'->w'.cell? (Addr.mk w.heap.size 1 none)=some (Value.slice x13.p x13.l x13.c))/\∃ x14:Sl,(∀ w':World,S3 w'->w'.cell? (Addr.mk w.heap.size 2 none)=some (Value.slice x14.p x14.l x14.c))/\∃ x15:Int,(∀ w':World,S3 w'->w'.cell? (Addr.mk w.heap.size 3 none)=some (Value.int .i64 x15))/\∃ x16:Int,(∀ w':World,S3 w'->w'.cell? (Addr.mk w.heap.size 4 none)=some (Value.int .i64 x16))/\∃ x17:Int,(∀ w':World,S3 w'->w'.cell? (Addr.mk w.heap.size 4 none)=some (Value.int .i64 x17))/\z4s_sh x12 x13 x14 x15 x16 f_1 (fun r19 w18=>S3 w18/\cnd (decide (r19<=x17))
 (∃ x20:Sl,(∀ w':World,S3 w'->w'.cell? (Addr.mk w.heap.size 0 none)=some (Value.slice x20.p x20.l x20.c))/\∃ x21:Sl,(∀ w':World,S3 w'->w'.cell? (Addr.mk w.heap.size 1 none)=some (Value.slice x21.p x21.l x21.c))/\∃ x22:Sl,(∀ w':World,S3 w'->w'.cell? (Addr.mk w.heap.size 2 none)=some (Value.slice x22.p x22.l x22.c))/\∃ x23:Int,(∀ w':World,S3 w'->w'.cell? (Addr.mk w.heap.size 3 none)=some (Value.int .i64 x23))/\∃ x24:Int,(∀ w':World,S3 w'->w'.cell? (Addr.mk w.heap.size 4 none)=some (Value.int .i64 x24))/\z3p_sh x20 x21 x22 x23 x24 f_1 (fun r26 w25=>S3 w25/\K (!r26) w25) w18)
 (K false w18)) w10)
 (K false w10)) w2)
 (K false w2)
structure z3c_sh (p_0_0 p_0_1 p_0_2:Sl)(p_0_3 p_0_4:Int)(f_1:Sl)(K:Pw.T0)(w:World):Prop where
 out:z3c_sd p_0_0 p_0_1 p_0_2 p_0_3 p_0_4 f_1 K w
noncomputable def z3c_S:Pw.Spec:=fun vs w Kv=>un [.g 5,tL,tL,tL,tI,tI,tL] (fun p_0_0 p_0_1 p_0_2 p_0_3 p_0_4 f_1=>z3c_sh p_0_0 p_0_1 p_0_2 p_0_3 p_0_4 f_1 (kk [tB] Kv)) nF vs w
def z3c_A (_:VW):A:=(qr 2 (qs (A.drw (dp [0,1,2,3,4,5,6] (DA.spl 11 (dp [7,8] (DA.eff 9 (dp [10,11] (DA.spl 16 (dp [12,13,15,16] (DA.eff 14 (dp [17,18,19] (DA.spl 24 (dp [20,21] (DA.eff 22 (dp [23,24,25] DA.done))) (DA.skp 20 (DA.skp 21 (DA.skp 22 (DA.skp 23 (dp [24,25] DA.done))))))))) (DA.skp 12 (DA.skp 13 (DA.skp 15 (DA.skp 16 (DA.skp 14 (DA.skp 17 (dp [18,19] (DA.skp 20 (DA.skp 21 (DA.skp 22 (DA.skp 23 (dp [24,25] DA.done)))))))))))))))) (DA.skp 7 (DA.skp 8 (DA.skp 9 (dp [10,11] (DA.skp 12 (DA.skp 13 (DA.skp 15 (DA.skp 16 (DA.skp 14 (DA.skp 17 (dp [18,19] (DA.skp 20 (DA.skp 21 (DA.skp 22 (DA.skp 23 (dp [24,25] DA.done))))))))))))))))))) ql))
theorem z3c_ok:Sound Tryz.prog 42 z3c_S:=okS (x:=z3c_A) (fun Kv p_0_0 p_0_1 p_0_2 p_0_3 p_0_4 f_1=>z3c_sd p_0_0 p_0_1 p_0_2 p_0_3 p_0_4 f_1 (kk [tB] Kv)) progMixed (Γ:=[(37,z42_S),(89,z4s_S),(90,z3p_S)]) ⟨.inl z42_ok,.inl z4s_ok,.inl z3p_ok,trivial⟩ Tryz.call42 Tryz.func42 (fun _=>hEnd)
def z41_b0 (p_2:Addr)(sum_5:Int)(t_8:Sl)(t_9 t_10:Int)(N0:Addr->Int->Sl->Int->Int->World->Prop)(K:Pw.T1)(w:World):Prop :=
 cnd (decide (t_10<t_9))
 (nz t_8.p fun a2=>(0<=t_10/\t_10<(t_8.l:Nat))/\∃ x3:Int,w.cell? (a2.add (t_10.toNat*1))=some (Value.int .i64 x3)/\cnd (decide (x3>=(0:Int)))
 (∃ x4:Sl,w.cell? (p_2.add 1)=some (Value.slice x4.p x4.l x4.c)/\nz x4.p fun a5=>(0<=x3/\x3<(x4.l:Nat))/\∃ x6:Int,w.cell? ((a5.add (x3.toNat*4)).add 3)=some (Value.int .i64 x6)/\inR .i64 (sum_5+x6)/\inR .i64 (t_10+(1:Int))/\N0 p_2 (sum_5+x6) t_8 t_9 (t_10+(1:Int)) w)
 (inR .i64 (t_10+(1:Int))/\N0 p_2 sum_5 t_8 t_9 (t_10+(1:Int)) w))
 (K sum_5 w)
def z41_l0d (p_2:Addr)(sum_5:Int)(t_8:Sl)(t_9 t_10:Int)(K:Pw.T1)(w:World):Prop :=
 ∃ (I:Int->Int->World->Prop) (μ:Int->Int->World->Nat),I sum_5 t_10 w/\∀ (sum_51 t_101:Int) (w1:World),I sum_51 t_101 w1 ->
 z41_b0 p_2 sum_51 t_8 t_9 t_101 (fun p_2' sum_5' t_8' t_9' t_10' w'=>((p_2'=p_2/\t_8'=t_8/\t_9'=t_9/\True)/\I sum_5' t_10' w')/\μ sum_5' t_10' w'<μ sum_51 t_101 w1) K w1
structure z41_l0 (p_2:Addr)(sum_5:Int)(t_8:Sl)(t_9 t_10:Int)(K:Pw.T1)(w:World):Prop where
 out:z41_l0d p_2 sum_5 t_8 t_9 t_10 K w
def z41_sd (p_0_0 p_0_1 p_0_2:Sl)(p_0_3 p_0_4:Int)(f_1:Sl)(K:Pw.T1)(w:World):Prop :=
 let w1:=w.alloc (Obj.cells #[(Value.slice p_0_0.p p_0_0.l p_0_0.c),(Value.slice p_0_1.p p_0_1.l p_0_1.c),(Value.slice p_0_2.p p_0_2.l p_0_2.c),(Value.int .i64 p_0_3),(Value.int .i64 p_0_4)] 28)
 z41_l0 (Addr.mk w.heap.size 0 none) (0:Int) f_1 (f_1.l:Int) (0:Int) K w1
structure z41_sh (p_0_0 p_0_1 p_0_2:Sl)(p_0_3 p_0_4:Int)(f_1:Sl)(K:Pw.T1)(w:World):Prop where
 out:z41_sd p_0_0 p_0_1 p_0_2 p_0_3 p_0_4 f_1 K w
def z41_L0 (Kv:VW):Cur [tQ,tI,tL,tI,tI] WP:=fun p_2 sum_5 t_8 t_9 t_10=>z41_l0 p_2 sum_5 t_8 t_9 t_10 (kk [tI] Kv)
noncomputable def z41_S:Pw.Spec:=fun vs w Kv=>un [.g 5,tL,tL,tL,tI,tI,tL] (fun p_0_0 p_0_1 p_0_2 p_0_3 p_0_4 f_1=>z41_sh p_0_0 p_0_1 p_0_2 p_0_3 p_0_4 f_1 (kk [tI] Kv)) nF vs w
def z41_A (Kv:VW):A:=(qr 2 (qr 1 (qs (qr 3 (qb (A.loop [2,5,8,9,10] (uR0 [tQ,tI,tL,tI,tI] (z41_L0 Kv)) (qr 1 (qs (qc ql ql) (qs (qb (qr 3 (qr 2 (qc (qe 9) ql)))) (qe 2))))))) (qr 2 ql))))
theorem z41_ok:Sound Tryz.prog 43 z41_S:=okS (x:=z41_A) (fun Kv p_0_0 p_0_1 p_0_2 p_0_3 p_0_4 f_1=>z41_sd p_0_0 p_0_1 p_0_2 p_0_3 p_0_4 f_1 (kk [tI] Kv)) progMixed (Γ:=[]) trivial Tryz.call43 Tryz.func43 (fun Kv=>hStep (hLoop0 (L:=z41_L0 Kv) (fun N0 p_2 sum_5 t_8 t_9 t_10=>z41_b0 p_2 sum_5 t_8 t_9 t_10 N0 (kk [tI] Kv)) (fun⟨a0,_,a2,a3,_,_⟩ _ h=>let ⟨I,μ,h0,hr⟩:=h.out; ⟨fun b0 b1 b2 b3 b4 w=>(b0=a0/\b2=a2/\b3=a3/\True)/\I b1 b4 w,fun _ b1 _ _ b4 w=>μ b1 b4 w,⟨⟨rfl,rfl,rfl,trivial⟩,h0⟩,fun⟨_,_,_,_,_,_⟩ _ ⟨⟨e0,e2,e3,_⟩,hI⟩=>by cases e0; cases e2; cases e3; exact hr _ _ _ hI⟩)) <| hEnd)
def z4g_sd (p_0_0 p_0_1 p_0_2:Sl)(p_0_3 p_0_4:Int)(f_1:Sl)(K:Pw.T1)(w:World):Prop :=
 let w1:=w.alloc (Obj.cells #[(Value.slice p_0_0.p p_0_0.l p_0_0.c),(Value.slice p_0_1.p p_0_1.l p_0_1.c),(Value.slice p_0_2.p p_0_2.l p_0_2.c),(Value.int .i64 p_0_3),(Value.int .i64 p_0_4)] 28)
 let w2:=w1.drew
 ∃ S3:World->Prop,S3 w2/\∃ x4:Sl,(∀ w':World,S3 w'->w'.cell? (Addr.mk w.heap.size 0 none)=some (Value.slice x4.p x4.l x4.c))/\∃ x5:Sl,(∀ w':World,S3 w'->w'.cell? (Addr.mk w.heap.size 1 none)=some (Value.slice x5.p x5.l x5.c))/\∃ x6:Sl,(∀ w':World,S3 w'->w'.cell? (Addr.mk w.heap.size 2 none)=some (Value.slice x6.p x6.l x6.c))/\∃ x7:Int,(∀ w':World,S3 w'->w'.cell? (Addr.mk w.heap.size 3 none)=some (Value.int .i64 x7))/\∃ x8:Int,(∀ w':World,S3 w'->w'.cell? (Addr.mk w.heap.size 4 none)=some (Value.int .i64 x8))/\∃ x9:Int,(∀ w':World,S3 w'->w'.cell? (Addr.mk w.heap.size 4 none)=some (Value.int .i64 x9))/\inR .i64 (x9+(1:Int))/\∃ x10:Sl,(∀ w':World,S3 w'->w'.cell? (Addr.mk w.heap.size 0 none)=some (Value.slice x10.p x10.l x10.c))/\∃ x11:Sl,(∀ w':World,S3 w'->w'.cell? (Addr.mk w.heap.size 1 none)=some (Value.slice x11.p x11.l x11.c))/\∃ x12:Sl,(∀ w':World,S3 w'->w'.cell? (Addr.mk w.heap.size 2 none)=some (Value.slice x12.p x12.l x12.c))/\∃ x13:Int,(∀ w':World,S3 w'->w'.cell? (Addr.mk w.heap.size 3 none)=some (Value.int .i64 x13))/\∃ x14:Int,(∀ w':World,S3 w'->w'.cell? (Addr.mk w.heap.size 4 none)=some (Value.int .i64 x14))/\z41_sh x4 x5 x6 x7 x8 f_1 (fun r16 w15=>S3 w15/\inR .i64 (r16*(x9+(1:Int)))/\z4s_sh x10 x11 x12 x13 x14 f_1 (fun r18 w17=>S3 w17/\inR .i64 ((r16*(x9+(1:Int)))-r18)/\K ((r16*(x9+(1:Int)))-r18) w17) w15) w2
structure z4g_sh (p_0_0 p_0_1 p_0_2:Sl)(p_0_3 p_0_4:Int)(f_1:Sl)(K:Pw.T1)(w:World):Prop where
 out:z4g_sd p_0_0 p_0_1 p_0_2 p_0_3 p_0_4 f_1 K w
noncomputable def z4g_S:Pw.Spec:=fun vs w Kv=>un [.g 5,tL,tL,tL,tI,tI,tL] (fun p_0_0 p_0_1 p_0_2 p_0_3 p_0_4 f_1=>z4g_sh p_0_0 p_0_1 p_0_2 p_0_3 p_0_4 f_1 (kk [tI] Kv)) nF vs w
def z4g_A (_:VW):A:=(qr 2 (qs (A.drw (dp [0,1,3,4,5,7,8] (DA.eff 2 (DA.pur 6 (DA.eff 9 (dp [10,11] DA.done)))))) ql))
theorem z4g_ok:Sound Tryz.prog 91 z4g_S:=okS (x:=z4g_A) (fun Kv p_0_0 p_0_1 p_0_2 p_0_3 p_0_4 f_1=>z4g_sd p_0_0 p_0_1 p_0_2 p_0_3 p_0_4 f_1 (kk [tI] Kv)) progMixed (Γ:=[(43,z41_S),(89,z4s_S)]) ⟨.inl z41_ok,.inl z4s_ok,trivial⟩ Tryz.call91 Tryz.func91 (fun _=>hEnd)
def z3z_k0d (f_1:Sl)(p_4 dual_6:Addr)(best_9:Int)(after_10:Bool)(K:Pw.T0)(w:World):Prop :=
 ∃ x41:Sl,w.cell? p_4=some (Value.slice x41.p x41.l x41.c)/\∃ x42:Sl,w.cell? (p_4.add 1)=some (Value.slice x42.p x42.l x42.c)/\∃ x43:Sl,w.cell? (p_4.add 2)=some (Value.slice x43.p x43.l x43.c)/\∃ x44:Int,w.cell? (p_4.add 3)=some (Value.int .i64 x44)/\∃ x45:Int,w.cell? (p_4.add 4)=some (Value.int .i64 x45)/\∃ x46:Int,w.cell? dual_6=some (Value.int .i64 x46)/\∃ x47:Int,w.cell? (dual_6.add 1)=some (Value.int .i64 x47)/\z4b_sh x41 x42 x43 x44 x45 f_1 x46 x47 (fun r49 r50 w48=>cnd r50
 (cnd (decide (r49<best_9))
 (K true w48)
 (cnd (r49 == best_9)
 (K after_10 w48)
 (K false w48)))
 (K false w48)) w
structure z3z_k0 (f_1:Sl)(p_4 dual_6:Addr)(best_9:Int)(after_10:Bool)(K:Pw.T0)(w:World):Prop where
 out:z3z_k0d f_1 p_4 dual_6 best_9 after_10 K w
def z3z_sd (p_0_0 p_0_1 p_0_2:Sl)(p_0_3 p_0_4:Int)(f_1:Sl)(dual_2_0 dual_2_1:Int)(take_3:Sl)(K:Pw.T0)(w:World):Prop :=
 let w1:=w.alloc (Obj.cells #[(Value.slice p_0_0.p p_0_0.l p_0_0.c),(Value.slice p_0_1.p p_0_1.l p_0_1.c),(Value.slice p_0_2.p p_0_2.l p_0_2.c),(Value.int .i64 p_0_3),(Value.int .i64 p_0_4)] 28)
 let w2:=w1.alloc (Obj.cells #[(Value.int .i64 dual_2_0),(Value.int .i64 dual_2_1)] 31)
 let w3:=w2.drew
 ∃ S4:World->Prop,S4 w3/\∃ x5:Sl,(∀ w':World,S4 w'->w'.cell? (Addr.mk w.heap.size 0 none)=some (Value.slice x5.p x5.l x5.c))/\∃ x6:Sl,(∀ w':World,S4 w'->w'.cell? (Addr.mk w.heap.size 1 none)=some (Value.slice x6.p x6.l x6.c))/\∃ x7:Sl,(∀ w':World,S4 w'->w'.cell? (Addr.mk w.heap.size 2 none)=some (Value.slice x7.p x7.l x7.c))/\∃ x8:Int,(∀ w':World,S4 w'->w'.cell? (Addr.mk w.heap.size 3 none)=some (Value.int .i64 x8))/\∃ x9:Int,(∀ w':World,S4 w'->w'.cell? (Addr.mk w.heap.size 4 none)=some (Value.int .i64 x9))/\z3p_sh x5 x6 x7 x8 x9 f_1 (fun r11 w10=>S4 w10/\cnd r11
 (K true w10)
 (∃ x12:Sl,(∀ w':World,S4 w'->w'.cell? (Addr.mk w.heap.size 0 none)=some (Value.slice x12.p x12.l x12.c))/\∃ x13:Sl,(∀ w':World,S4 w'->w'.cell? (Addr.mk w.heap.size 1 none)=some (Value.slice x13.p x13.l x13.c))/\∃ x14:Sl,(∀ w':World,S4 w'->w'.cell? (Addr.mk w.heap.size 2 none)=some (Value.slice x14.p x14.l x14.c))/\∃ x15:Int,(∀ w':World,S4 w'->w'.cell? (Addr.mk w.heap.size 3 none)=some (Value.int .i64 x15))/\∃ x16:Int,(∀ w':World,S4 w'->w'.cell? (Addr.mk w.heap.size 4 none)=some (Value.int .i64 x16))/\∃ x17:Int,(∀ w':World,S4 w'->w'.cell? (Addr.mk w.heap.size 4 none)=some (Value.int .i64 x17))/\z4s_sh x12 x13 x14 x15 x16 f_1 (fun r19 w18=>S4 w18/\cnd (decide (r19>x17))
 (K true w18)
 (let w20:=w18.drew
 ∃ S21:World->Prop,S21 w20/\∃ x22:Sl,(∀ w':World,S21 w'->w'.cell? (Addr.mk w.heap.size 0 none)=some (Value.slice x22.p x22.l x22.c))/\∃ x23:Sl,(∀ w':World,S21 w'->w'.cell? (Addr.mk w.heap.size 1 none)=some (Value.slice x23.p x23.l x23.c))/\∃ x24:Sl,(∀ w':World,S21 w'->w'.cell? (Addr.mk w.heap.size 2 none)=some (Value.slice x24.p x24.l x24.c))/\∃ x25:Int,(∀ w':World,S21 w'->w'.cell? (Addr.mk w.heap.size 3 none)=some (Value.int .i64 x25))/\∃ x26:Int,(∀ w':World,S21 w'->w'.cell? (Addr.mk w.heap.size 4 none)=some (Value.int .i64 x26))/\(0<=(0:Int)/\(0:Int)<=(f_1.l:Int)/\(f_1.l:Int)<=(take_3.c:Nat))/\z4g_sh x22 x23 x24 x25 x26 take_3 (fun r28 w27=>z3k_sh f_1 (Sl.mk (subP take_3.p 0 take_3.c 1) ((f_1.l:Int).toNat-0) (take_3.c-0)) (fun r30 w29=>S21 w29/\∃ x31:Sl,w29.cell? (Addr.mk w.heap.size 0 none)=some (Value.slice x31.p x31.l x31.c)/\cnd ((f_1.l:Int) == (x31.l:Int))
 (∃ x32:Sl,w29.cell? (Addr.mk w.heap.size 0 none)=some (Value.slice x32.p x32.l x32.c)/\∃ x33:Sl,w29.cell? (Addr.mk w.heap.size 1 none)=some (Value.slice x33.p x33.l x33.c)/\∃ x34:Sl,w29.cell? (Addr.mk w.heap.size 2 none)=some (Value.slice x34.p x34.l x34.c)/\∃ x35:Int,w29.cell? (Addr.mk w.heap.size 3 none)=some (Value.int .i64 x35)/\∃ x36:Int,w29.cell? (Addr.mk w.heap.size 4 none)=some (Value.int .i64 x36)/\z4g_sh x32 x33 x34 x35 x36 f_1 (fun r38 w37=>cnd (decide (r38<r28))
 (K true w37)
 (cnd (r38 == r28)
 (z3k_sh f_1 take_3 (fun r40 w39=>cnd (decide (r40>=(0:Int)))
 (K true w39)
 (z3z_k0 f_1 (Addr.mk w.heap.size 0 none) (Addr.mk w1.heap.size 0 none) r28 (decide (r30>(0:Int))) K w39)) w37)
 (z3z_k0 f_1 (Addr.mk w.heap.size 0 none) (Addr.mk w1.heap.size 0 none) r28 (decide (r30>(0:Int))) K w37))) w29)
 (z3z_k0 f_1 (Addr.mk w.heap.size 0 none) (Addr.mk w1.heap.size 0 none) r28 (decide (r30>(0:Int))) K w29)) w27) w20)) w10)) w3
structure z3z_sh (p_0_0 p_0_1 p_0_2:Sl)(p_0_3 p_0_4:Int)(f_1:Sl)(dual_2_0 dual_2_1:Int)(take_3:Sl)(K:Pw.T0)(w:World):Prop where
 out:z3z_sd p_0_0 p_0_1 p_0_2 p_0_3 p_0_4 f_1 dual_2_0 dual_2_1 take_3 K w
def z3z_L0 (Kv:VW):Cur [tL,tQ,tQ,tI,tB] WP:=fun f_1 p_4 dual_6 best_9 after_10=>z3z_k0 f_1 p_4 dual_6 best_9 after_10 (kk [tB] Kv)
noncomputable def z3z_S:Pw.Spec:=fun vs w Kv=>un [.g 5,tL,tL,tL,tI,tI,tL,.g 2,tI,tI,tL] (fun p_0_0 p_0_1 p_0_2 p_0_3 p_0_4 f_1 dual_2_0 dual_2_1 take_3=>z3z_sh p_0_0 p_0_1 p_0_2 p_0_3 p_0_4 f_1 dual_2_0 dual_2_1 take_3 (kk [tB] Kv)) nF vs w
def z3z_A (Kv:VW):A:=(qr 3 (qs (qs (A.drw (dp [0,1] (DA.eff 2 (DA.pur 3 (DA.spl 17 (DA.skp 4 (DA.skp 5 (DA.skp 7 (DA.skp 8 (DA.skp 6 (DA.skp 9 (DA.pur 10 DA.done))))))) (dp [4,5,7,8] (DA.eff 6 (dp [9,10] DA.done)))))))) (qc (qr 1 ql) ql)) (qs (A.drw (dp [0,1,3,4,5,6,7] (DA.eff 2 (DA.eff 8 (dp [9,10,11] DA.done))))) (qs (qr 6 (qc (qr 4 (qs (A.reg (qn 4 (RA.spl 47 (qk 9 (qn 1 RA.done)) (qn 4 (RA.spl 51 (qn 6 RA.done) (qk 4 (qn 2 RA.done))))))) (qc (qr 1 ql) ql))) ql)) (A.cut [1,4,6,9,10] (uR0 [tL,tQ,tQ,tI,tB] (z3z_L0 Kv)) (qr 9 (qs (A.reg (qn 2 (RA.spl 66 (qn 4 (RA.spl 70 (qk 6 (qn 3 RA.done)) (qn 4 (RA.spl 74 (qn 5 RA.done) (qk 1 (qn 4 RA.done)))))) (qk 11 (qn 2 RA.done))))) ql)))))))
theorem z3z_ok:Sound Tryz.prog 45 z3z_S:=okS (x:=z3z_A) (fun Kv p_0_0 p_0_1 p_0_2 p_0_3 p_0_4 f_1 dual_2_0 dual_2_1 take_3=>z3z_sd p_0_0 p_0_1 p_0_2 p_0_3 p_0_4 f_1 dual_2_0 dual_2_1 take_3 (kk [tB] Kv)) progMixed (Γ:=[(14,z4b_S),(89,z4s_S),(90,z3p_S),(91,z4g_S),(92,z3k_S)]) ⟨.inl z4b_ok,.inl z4s_ok,.inl z3p_ok,.inl z4g_ok,.inl z3k_ok,trivial⟩ Tryz.call45 Tryz.func45 (fun Kv=>hStep (hCut0 (F:=z3z_L0 Kv) (G:=fun f_1 p_4 dual_6 best_9 after_10=>z3z_k0d f_1 p_4 dual_6 best_9 after_10 (kk [tB] Kv))) <| hEnd)
def z3o_k1d (n_0:Int)(f_1:Sl)(t_4 t_5 x_9:Addr)(k_10 at_11 c_12:Int)(N0:Int->Sl->Addr->Addr->Addr->Int->Int->Int->World->Prop)(K:Pw.T0)(w:World):Prop :=
 let w37:=w.drew
 ∃ S38:World->Prop,S38 w37/\∃ x39:Sl,(∀ w':World,S38 w'->w'.cell? (x_9.add 3)=some (Value.slice x39.p x39.l x39.c))/\cnd (decide (at_11>=(x39.l:Int)))
 (K false w37)
 (∃ x40:Sl,(∀ w':World,S38 w'->w'.cell? (x_9.add 3)=some (Value.slice x40.p x40.l x40.c))/\nz x40.p fun a41=>(0<=at_11/\at_11<(x40.l:Nat))/\∃ x42:Int,(∀ w':World,S38 w'->w'.cell? (a41.add (at_11.toNat*1))=some (Value.int .i64 x42))/\cnd (decide (x42<=n_0))
 (K false w37)
 (∃ x43:Value,(∀ w':World,S38 w'->w'.cell? t_5=some x43)/\∃ x44:Sl,(∀ w':World,S38 w'->w'.cell? (x_9.add 3)=some (Value.slice x44.p x44.l x44.c))/\nz x44.p fun a45=>(0<=at_11/\at_11<(x44.l:Nat))/\∃ x46:Int,(∀ w':World,S38 w'->w'.cell? (a45.add (at_11.toNat*1))=some (Value.int .i64 x46))/\(0<=(0:Int)/\(0:Int)<=k_10/\k_10<=k_10/\k_10<=(f_1.c:Nat))/\let w47:=w37.alloc (Obj.cells #[(Value.int .i64 c_12)] 3)
 S38 w47/\apS 1 8 [(Value.int .i64 0)] 3 (Sl.mk (subP f_1.p 0 k_10.toNat 1) (k_10.toNat-0) (k_10.toNat-0)) (Sl.mk (some (Addr.mk w37.heap.size 0 none)) 1 1) w47 fun s48 w49=>S38 w49/\CallV Tryz.prog x43 [(Value.int .i64 x46),(Value.slice s48.p s48.l s48.c)] w49 fun u50 w51=>∃ x52:Bool,u50=(Value.bool x52)/\S38 w51/\cnd (!x52)
 (K false w51)
 (inR .i64 (at_11+(1:Int))/\inR .i64 (c_12+(1:Int))/\N0 n_0 f_1 t_4 t_5 x_9 k_10 (at_11+(1:Int)) (c_12+(1:Int)) w51)))
structure z3o_k1 (n_0:Int)(f_1:Sl)(t_4 t_5 x_9:Addr)(k_10 at_11 c_12:Int)(N0:Int->Sl->Addr->Addr->Addr->Int->Int->Int->World->Prop)(K:Pw.T0)(w:World):Prop where
 out:z3o_k1d n_0 f_1 t_4 t_5 x_9 k_10 at_11 c_12 N0 K w
def z3o_b0 (n_0:Int)(f_1:Sl)(t_4 t_5 x_9:Addr)(k_10 at_11 c_12:Int)(N0:Int->Sl->Addr->Addr->Addr->Int->Int->Int->World->Prop)(K:Pw.T0)(w:World):Prop :=
 ∃ x29:Sl,w.cell? (t_4.add 1)=some (Value.slice x29.p x29.l x29.c)/\cnd (decide (c_12<(x29.l:Int)))
 (let w30:=w.drew
 cnd (decide (c_12>=(0:Int)))
 (∃ x31:Sl,w30.cell? (t_4.add 1)=some (Value.slice x31.p x31.l x31.c)/\nz x31.p fun a32=>(0<=c_12/\c_12<(x31.l:Nat))/\∃ x33:Int,w30.cell? (a32.add (c_12.toNat*4))=some (Value.int .i64 x33)/\∃ x34:Sl,w30.cell? t_4=some (Value.slice x34.p x34.l x34.c)/\nz x34.p fun a35=>(0<=k_10/\k_10<(x34.l:Nat))/\∃ x36:Int,w30.cell? (a35.add (k_10.toNat*1))=some (Value.int .i64 x36)/\cnd (x33 != x36)
 (inR .i64 (c_12+(1:Int))/\N0 n_0 f_1 t_4 t_5 x_9 k_10 at_11 (c_12+(1:Int)) w30)
 (z3o_k1 n_0 f_1 t_4 t_5 x_9 k_10 at_11 c_12 N0 K w30))
 (z3o_k1 n_0 f_1 t_4 t_5 x_9 k_10 at_11 c_12 N0 K w30))
 (∃ x53:Sl,w.cell? (x_9.add 3)=some (Value.slice x53.p x53.l x53.c)/\K (at_11 == (x53.l:Int)) w)
def z3o_l0d (n_0:Int)(f_1:Sl)(t_4 t_5 x_9:Addr)(k_10 at_11 c_12:Int)(K:Pw.T0)(w:World):Prop :=
 ∃ (I:Int->Int->World->Prop) (μ:Int->Int->World->Nat),I at_11 c_12 w/\∀ (at_111 c_121:Int) (w1:World),I at_111 c_121 w1 ->
 z3o_b0 n_0 f_1 t_4 t_5 x_9 k_10 at_111 c_121 (fun n_0' f_1' t_4' t_5' x_9' k_10' at_11' c_12' w'=>((n_0'=n_0/\f_1'=f_1/\t_4'=t_4/\t_5'=t_5/\x_9'=x_9/\k_10'=k_10/\True)/\I at_11' c_12' w')/\μ at_11' c_12' w'<μ at_111 c_121 w1) K w1
structure z3o_l0 (n_0:Int)(f_1:Sl)(t_4 t_5 x_9:Addr)(k_10 at_11 c_12:Int)(K:Pw.T0)(w:World):Prop where
 out:z3o_l0d n_0 f_1 t_4 t_5 x_9 k_10 at_11 c_12 K w
def z3o_sd (n_0:Int)(f_1:Sl)(t_2 t_3:Addr)(t_4 t_5:Addr)(K:Pw.T0)(w:World):Prop :=
 cnd (decide (n_0<(0:Int)))
 (K false w)
 (∃ x1:Sl,w.cell? (t_2.add 3)=some (Value.slice x1.p x1.l x1.c)/\cnd (decide (n_0>=(x1.l:Int)))
 (K false w)
 (∃ x2:Option Nat,w.cell? t_3=some (Value.map x2)/\nzm x2 fun m3=>∃ l4:List (Int × Bool),Mp w m3 .i64 (l4.map fun p=>(p.1,Value.bool p.2))/\cnd (mgetD false n_0 l4)
 (K false w)
 (∃ x5:Option Nat,w.cell? t_3=some (Value.map x5)/\nzm x5 fun m6=>(∃ l:List (Int × Value),Mp w m6 .i64 l)/\let w7:=w.mset m6 .i64 n_0 (Value.bool true)
 ∃ x8:Sl,w7.cell? (t_2.add 3)=some (Value.slice x8.p x8.l x8.c)/\nz x8.p fun a9=>(0<=n_0/\n_0<(x8.l:Nat))/\∃ x10:Int,w7.cell? (a9.add (n_0.toNat*4))=some (Value.int .i64 x10)/\∃ x11:Int,w7.cell? ((a9.add (n_0.toNat*4)).add 1)=some (Value.int .i64 x11)/\∃ x12:Int,w7.cell? ((a9.add (n_0.toNat*4)).add 2)=some (Value.int .i64 x12)/\∃ x13:Sl,w7.cell? ((a9.add (n_0.toNat*4)).add 3)=some (Value.slice x13.p x13.l x13.c)/\let w14:=w7.alloc (Obj.cells #[(Value.int .i64 0),(Value.int .i64 0),(Value.int .i64 0),(Value.slice none 0 0)] 55)
 stN w14 (Addr.mk w7.heap.size 0 none) [(Value.int .i64 x10),(Value.int .i64 x11),(Value.int .i64 x12),(Value.slice x13.p x13.l x13.c)] fun w15=>∃ x16:Sl,w15.cell? (Addr.mk w7.heap.size 3 none)=some (Value.slice x16.p x16.l x16.c)/\cnd ((x16.l:Int) == (0:Int))
 (∃ x17:Sl,w15.cell? t_4=some (Value.slice x17.p x17.l x17.c)/\∃ x18:Sl,w15.cell? (t_4.add 1)=some (Value.slice x18.p x18.l x18.c)/\∃ x19:Sl,w15.cell? (t_4.add 2)=some (Value.slice x19.p x19.l x19.c)/\∃ x20:Int,w15.cell? (t_4.add 3)=some (Value.int .i64 x20)/\∃ x21:Int,w15.cell? (t_4.add 4)=some (Value.int .i64 x21)/\∃ x22:Int,w15.cell? (Addr.mk w7.heap.size 1 none)=some (Value.int .i64 x22)/\∃ x23:Int,w15.cell? (Addr.mk w7.heap.size 2 none)=some (Value.int .i64 x23)/\∃ x24:Sl,w15.cell? t_2=some (Value.slice x24.p x24.l x24.c)/\z3z_sh x17 x18 x19 x20 x21 f_1 x22 x23 x24 (fun r26 w25=>K r26 w25) w15)
 (∃ x27:Int,w15.cell? (Addr.mk w7.heap.size 0 none)=some (Value.int .i64 x27)/\cnd (x27 != (f_1.l:Int))
 (K false w15)
 (∃ x28:Sl,w15.cell? t_4=some (Value.slice x28.p x28.l x28.c)/\cnd (decide ((f_1.l:Int)>=(x28.l:Int)))
 (K false w15)
 (z3o_l0 n_0 f_1 t_4 t_5 (Addr.mk w7.heap.size 0 none) (f_1.l:Int) (0:Int) (-1:Int) K w15))))))
structure z3o_sh (n_0:Int)(f_1:Sl)(t_2 t_3:Addr)(t_4 t_5:Addr)(K:Pw.T0)(w:World):Prop where
 out:z3o_sd n_0 f_1 t_2 t_3 t_4 t_5 K w
def z3o_L0 (Kv:VW):Cur [tI,tL,tQ,tQ,tQ,tI,tI,tI] WP:=fun n_0 f_1 t_4 t_5 x_9 k_10 at_11 c_12=>z3o_l0 n_0 f_1 t_4 t_5 x_9 k_10 at_11 c_12 (kk [tB] Kv)
def z3o_L1 (Kv:VW):Cur [tI,tL,tQ,tQ,tQ,tI,tI,tI] WP->Cur [tI,tL,tQ,tQ,tQ,tI,tI,tI] WP:=fun N0 n_0 f_1 t_4 t_5 x_9 k_10 at_11 c_12=>z3o_k1 n_0 f_1 t_4 t_5 x_9 k_10 at_11 c_12 N0 (kk [tB] Kv)
noncomputable def z3o_S:Pw.Spec:=fun vs w Kv=>un [tI,tL,tQ,tQ,tQ,tQ] (fun n_0 f_1 t_2 t_3 t_4 t_5=>z3o_sh n_0 f_1 t_2 t_3 t_4 t_5 (kk [tB] Kv)) nF vs w
def z3o_A (Kv:VW):A:=(qr 1 (qs (qs (A.reg (qn 3 (RA.spl 15 (qk 5 (qn 2 (qk 3 (qn 1 RA.done)))) (qn 7 (RA.spl 22 (qk 3 (qn 1 RA.done)) (qn 4 RA.done)))))) (qc (qr 1 ql) ql)) (qr 3 (qr 7 (qs (qr 4 (qc (qr 8 ql) ql)) (qr 3 (qs (qs (A.reg (qn 5 (RA.spl 51 (qk 5 (qn 1 RA.done)) (qn 6 RA.done)))) (qc (qr 1 ql) ql)) (qr 1 (qs (qr 1 (qb (A.loop [0,1,4,5,9,10,11,12] (uR0 [tI,tL,tQ,tQ,tQ,tI,tI,tI] (z3o_L0 Kv)) (qs (qr 5 (qc ql ql)) (qs (qb (qs (qs (A.drp (dp [0,1,2] (DA.spl 67 (dp [3,4,5,6,7,8,9,10,11,12,13,14,15] DA.done) (DA.skp 3 (DA.skp 4 (DA.skp 5 (DA.skp 6 (DA.skp 7 (DA.skp 8 (DA.skp 9 (DA.skp 10 (DA.skp 11 (DA.skp 12 (DA.skp 13 (DA.skp 14 (DA.pur 15 DA.done)))))))))))))))) (qc ql ql)) (A.cut [0,1,4,5,9,10,11,12] (uR1 [tI,tL,tQ,tQ,tQ,tI,tI,tI] [tI,tL,tQ,tQ,tQ,tI,tI,tI] (z3o_L1 Kv)) (qs (qs (A.drw (dp [0,1,2,3,4,5] (DA.spl 86 (DA.skp 6 (DA.skp 7 (DA.skp 8 (DA.skp 9 (DA.skp 10 (DA.skp 11 (DA.skp 12 (dp [13,14] (DA.skp 15 (DA.skp 16 (DA.skp 17 (DA.skp 18 (DA.skp 19 (DA.skp 20 (DA.skp 21 (DA.skp 22 (DA.skp 23 (DA.skp 24 (DA.skp 25 (DA.skp 26 (DA.skp 27 (DA.skp 28 (DA.skp 29 (DA.pur 30 DA.done)))))))))))))))))))))))) (dp [6,7,8,9,10,11,12,13,14] (DA.spl 95 (DA.skp 15 (DA.skp 16 (DA.skp 17 (DA.skp 18 (DA.skp 19 (DA.skp 20 (DA.skp 21 (DA.skp 22 (DA.skp 23 (DA.skp 24 (DA.skp 25 (DA.skp 26 (DA.skp 27 (DA.skp 28 (DA.skp 29 (DA.pur 30 DA.done)))))))))))))))) (dp [15,16,17,18,19,20,21,22,23,24,25] (DA.eff 26 (DA.eff 27 (DA.dyn 28 (Value.bool false) (dp [29,30] DA.done)))))))))) (qc (qr 1 ql) ql)) (qe 3))))) (qe 3)))))) (qr 6 ql))))))))))
theorem z3o_ok:Sound Tryz.prog 44 z3o_S:=okS (x:=z3o_A) (fun Kv n_0 f_1 t_2 t_3 t_4 t_5=>z3o_sd n_0 f_1 t_2 t_3 t_4 t_5 (kk [tB] Kv)) progMixed (Γ:=[(45,z3z_S)]) ⟨.inl z3z_ok,trivial⟩ Tryz.call44 Tryz.func44 (fun Kv=>hStep (hLoop0 (L:=z3o_L0 Kv) (fun N0 n_0 f_1 t_4 t_5 x_9 k_10 at_11 c_12=>z3o_b0 n_0 f_1 t_4 t_5 x_9 k_10 at_11 c_12 N0 (kk [tB] Kv)) (fun⟨a0,a1,a2,a3,a4,a5,_,_,_⟩ _ h=>let ⟨I,μ,h0,hr⟩:=h.out; ⟨fun b0 b1 b2 b3 b4 b5 b6 b7 w=>(b0=a0/\b1=a1/\b2=a2/\b3=a3/\b4=a4/\b5=a5/\True)/\I b6 b7 w,fun _ _ _ _ _ _ b6 b7 w=>μ b6 b7 w,⟨⟨rfl,rfl,rfl,rfl,rfl,rfl,trivial⟩,h0⟩,fun⟨_,_,_,_,_,_,_,_,_⟩ _ ⟨⟨e0,e1,e2,e3,e4,e5,_⟩,hI⟩=>by cases e0; cases e1; cases e2; cases e3; cases e4; cases e5; exact hr _ _ _ hI⟩)) <| hStep (hCut1 (F:=z3o_L1 Kv) (G:=fun N0 n_0 f_1 t_4 t_5 x_9 k_10 at_11 c_12=>z3o_k1d n_0 f_1 t_4 t_5 x_9 k_10 at_11 c_12 N0 (kk [tB] Kv))) <| hEnd)
def z4c_sd (p_0_0 p_0_1 p_0_2:Sl)(p_0_3 p_0_4:Int)(r_1_0:Sl)(r_1_1 r_1_2:Int)(r_1_3:Sl)(K:Pw.T1)(w:World):Prop :=
 let w1:=w.alloc (Obj.cells #[(Value.slice p_0_0.p p_0_0.l p_0_0.c),(Value.slice p_0_1.p p_0_1.l p_0_1.c),(Value.slice p_0_2.p p_0_2.l p_0_2.c),(Value.int .i64 p_0_3),(Value.int .i64 p_0_4)] 28)
 let w2:=w1.alloc (Obj.cells #[(Value.slice r_1_0.p r_1_0.l r_1_0.c),(Value.int .i64 r_1_1),(Value.int .i64 r_1_2),(Value.slice r_1_3.p r_1_3.l r_1_3.c)] 45)
 ∃ x3:Sl,w2.cell? (Addr.mk w.heap.size 0 none)=some (Value.slice x3.p x3.l x3.c)/\∃ x4:Sl,w2.cell? (Addr.mk w.heap.size 1 none)=some (Value.slice x4.p x4.l x4.c)/\∃ x5:Sl,w2.cell? (Addr.mk w.heap.size 2 none)=some (Value.slice x5.p x5.l x5.c)/\∃ x6:Int,w2.cell? (Addr.mk w.heap.size 3 none)=some (Value.int .i64 x6)/\∃ x7:Int,w2.cell? (Addr.mk w.heap.size 4 none)=some (Value.int .i64 x7)/\z4e_sh x3 x4 x5 x6 x7 (fun r9 w8=>cnd (!r9)
 (K (1:Int) w8)
 (let w10:=w8.drew
 ∃ S11:World->Prop,S11 w10/\∃ x12:Sl,(∀ w':World,S11 w'->w'.cell? (Addr.mk w.heap.size 0 none)=some (Value.slice x12.p x12.l x12.c))/\∃ x13:Sl,(∀ w':World,S11 w'->w'.cell? (Addr.mk w.heap.size 1 none)=some (Value.slice x13.p x13.l x13.c))/\∃ x14:Sl,(∀ w':World,S11 w'->w'.cell? (Addr.mk w.heap.size 2 none)=some (Value.slice x14.p x14.l x14.c))/\∃ x15:Int,(∀ w':World,S11 w'->w'.cell? (Addr.mk w.heap.size 3 none)=some (Value.int .i64 x15))/\∃ x16:Int,(∀ w':World,S11 w'->w'.cell? (Addr.mk w.heap.size 4 none)=some (Value.int .i64 x16))/\∃ x17:Sl,(∀ w':World,S11 w'->w'.cell? (Addr.mk w1.heap.size 0 none)=some (Value.slice x17.p x17.l x17.c))/\z3c_sh x12 x13 x14 x15 x16 x17 (fun r19 w18=>S11 w18/\cnd (!r19)
 (K (41:Int) w18)
 (∃ x20:Sl,(∀ w':World,S11 w'->w'.cell? (Addr.mk w.heap.size 0 none)=some (Value.slice x20.p x20.l x20.c))/\∃ x21:Sl,(∀ w':World,S11 w'->w'.cell? (Addr.mk w.heap.size 1 none)=some (Value.slice x21.p x21.l x21.c))/\∃ x22:Sl,(∀ w':World,S11 w'->w'.cell? (Addr.mk w.heap.size 2 none)=some (Value.slice x22.p x22.l x22.c))/\∃ x23:Int,(∀ w':World,S11 w'->w'.cell? (Addr.mk w.heap.size 3 none)=some (Value.int .i64 x23))/\∃ x24:Int,(∀ w':World,S11 w'->w'.cell? (Addr.mk w.heap.size 4 none)=some (Value.int .i64 x24))/\∃ x25:Sl,(∀ w':World,S11 w'->w'.cell? (Addr.mk w1.heap.size 0 none)=some (Value.slice x25.p x25.l x25.c))/\∃ x26:Int,(∀ w':World,S11 w'->w'.cell? (Addr.mk w1.heap.size 1 none)=some (Value.int .i64 x26))/\z41_sh x20 x21 x22 x23 x24 x25 (fun r28 w27=>S11 w27/\cnd (r28 != x26)
 (K (41:Int) w27)
 (∃ x29:Int,(∀ w':World,S11 w'->w'.cell? (Addr.mk w1.heap.size 2 none)=some (Value.int .i64 x29))/\∃ x30:Int,(∀ w':World,S11 w'->w'.cell? (Addr.mk w1.heap.size 1 none)=some (Value.int .i64 x30))/\cnd (x29 != x30)
 (K (41:Int) w27)
 (let w31:=w27.alloc (Obj.map #[] 0)
 let w32:=w31.alloc (Obj.cells #[(Value.map none)] 88)
 wrOk w32 (Addr.mk w31.heap.size 0 none)/\
 (let w33:=w32.setCell (Addr.mk w31.heap.size 0 none) (Value.map (some w27.heap.size))
 let w34:=w33.alloc (Obj.cells #[Value.nilFunc] 89)
 wrOk w34 (Addr.mk w33.heap.size 0 none)/\
 (let w35:=w34.setCell (Addr.mk w33.heap.size 0 none) (Value.func (.func 44) #[] #[(Value.pointer (some (Addr.mk w1.heap.size 0 none))),(Value.pointer (some (Addr.mk w31.heap.size 0 none))),(Value.pointer (some (Addr.mk w.heap.size 0 none))),(Value.pointer (some (Addr.mk w33.heap.size 0 none)))])
 ∃ x36:Value,w35.cell? (Addr.mk w33.heap.size 0 none)=some x36/\CallV Tryz.prog x36 [(Value.int .i64 0),(Value.slice none 0 0)] w35 fun u37 w38=>∃ x39:Bool,u37=(Value.bool x39)/\cnd (!x39)
 (K (41:Int) w38)
 (∃ x40:Option Nat,w38.cell? (Addr.mk w31.heap.size 0 none)=some (Value.map x40)/\nzm x40 fun m41=>∃ c42:Nat,Ml w38 m41 c42/\∃ x43:Sl,w38.cell? (Addr.mk w1.heap.size 3 none)=some (Value.slice x43.p x43.l x43.c)/\cnd ((c42:Int) != (x43.l:Int))
 (K (41:Int) w38)
 (K (0:Int) w38))))))) w18)) w10)) w2
structure z4c_sh (p_0_0 p_0_1 p_0_2:Sl)(p_0_3 p_0_4:Int)(r_1_0:Sl)(r_1_1 r_1_2:Int)(r_1_3:Sl)(K:Pw.T1)(w:World):Prop where
 out:z4c_sd p_0_0 p_0_1 p_0_2 p_0_3 p_0_4 r_1_0 r_1_1 r_1_2 r_1_3 K w
noncomputable def z4c_S:Pw.Spec:=fun vs w Kv=>un [.g 5,tL,tL,tL,tI,tI,.g 4,tL,tI,tI,tL] (fun p_0_0 p_0_1 p_0_2 p_0_3 p_0_4 r_1_0 r_1_1 r_1_2 r_1_3=>z4c_sh p_0_0 p_0_1 p_0_2 p_0_3 p_0_4 r_1_0 r_1_1 r_1_2 r_1_3 (kk [tI] Kv)) nF vs w
def z4c_A (_:VW):A:=(qr 3 (qs (qr 3 (qc (qr 1 ql) ql)) (qs (qs (A.drw (dp [0,1,2] (DA.eff 3 (dp [4,5] (DA.spl 15 (DA.skp 6 (DA.skp 7 (DA.skp 8 (DA.skp 10 (DA.skp 11 (DA.skp 9 (DA.skp 12 (dp [13,14] (DA.skp 15 (DA.skp 16 (DA.skp 17 (DA.skp 18 (DA.skp 19 (DA.pur 20 DA.done)))))))))))))) (dp [6,7,8,10,11] (DA.eff 9 (dp [12,13,14] (DA.spl 24 (DA.skp 15 (DA.skp 16 (DA.skp 17 (DA.skp 18 (DA.skp 19 (DA.pur 20 DA.done)))))) (dp [15,16,17,18,19,20] DA.done)))))))))) (qc (qr 1 ql) ql)) (qr 3 (qr 1 (qr 2 (qs (qs (A.reg (qn 1 (RA.dyn (Value.bool false) (qn 2 (RA.spl 36 (qk 6 (qn 1 RA.done)) (qn 7 RA.done)))))) (qc (qr 1 ql) ql)) (qr 1 ql))))))))
theorem z4c_ok:Sound Tryz.prog 18 z4c_S:=okS (x:=z4c_A) (fun Kv p_0_0 p_0_1 p_0_2 p_0_3 p_0_4 r_1_0 r_1_1 r_1_2 r_1_3=>z4c_sd p_0_0 p_0_1 p_0_2 p_0_3 p_0_4 r_1_0 r_1_1 r_1_2 r_1_3 (kk [tI] Kv)) progMixed (Γ:=[(36,z4e_S),(42,z3c_S),(43,z41_S)]) ⟨.inl z4e_ok,.inl z3c_ok,.inl z41_ok,trivial⟩ Tryz.call18 Tryz.func18 (fun _=>hEnd)
end Go.Proofs.YtfpobpjandjhjaaGreatDoor
