/- The bodies' formulas, by program. -/
import Derived.Test.YtfpobpjandjhjaaGreatDoorProg
import Derived.KernelRfl
import Derived.Test.YtfpobpjandjhjaaGreatDoorPwY
import Derived.Test.YtfpobpjandjhjaaGreatDoorCG0
import Derived.Test.YtfpobpjandjhjaaGreatDoorCG1
import Derived.Test.YtfpobpjandjhjaaGreatDoorCG2
set_option maxRecDepth 20000
namespace Go.Proofs.YtfpobpjandjhjaaGreatDoor
open Go Pw
def z34_k1d (key_1:Value)(best_4 x_8:Addr)(k_9:Int)(t_11:Sl)(t_12 t_13:Int)(N0:Value->Addr->Int->Bool->Sl->Int->Int->World->Prop)(K:Pw.T13)(w:World):Prop :=
 ∃ x14:Int,w.cell? x_8=some (Value.int .i64 x14)/\∃ x15:Int,w.cell? (x_8.add 1)=some (Value.int .i64 x15)/\wrOk w best_4/\
 (let w16:=w.setCell best_4 (Value.int .i64 x14)
 wrOk w16 (best_4.add 1)/\
 (let w17:=w16.setCell (best_4.add 1) (Value.int .i64 x15)
 inR .i64 (t_13+(1:Int))/\N0 key_1 best_4 k_9 true t_11 t_12 (t_13+(1:Int)) w17))
structure z34_k1 (key_1:Value)(best_4 x_8:Addr)(k_9:Int)(t_11:Sl)(t_12 t_13:Int)(N0:Value->Addr->Int->Bool->Sl->Int->Int->World->Prop)(K:Pw.T13)(w:World):Prop where
 out:z34_k1d key_1 best_4 x_8 k_9 t_11 t_12 t_13 N0 K w
def z34_b0 (key_1:Value)(best_4:Addr)(n_5:Int)(found_6:Bool)(t_11:Sl)(t_12 t_13:Int)(N0:Value->Addr->Int->Bool->Sl->Int->Int->World->Prop)(K:Pw.T13)(w:World):Prop :=
 cnd (decide (t_13<t_12))
 (nz t_11.p fun a2=>(0<=t_13/\t_13<(t_11.l:Nat))/\∃ x3:Int,w.cell? (a2.add (t_13.toNat*2))=some (Value.int .i64 x3)/\∃ x4:Int,w.cell? ((a2.add (t_13.toNat*2)).add 1)=some (Value.int .i64 x4)/\let w5:=w.alloc (Obj.cells #[(Value.int .i64 0),(Value.int .i64 0)] 31)
 wrOk w5 (Addr.mk w.heap.size 0 none)/\
 (let w6:=w5.setCell (Addr.mk w.heap.size 0 none) (Value.int .i64 x3)
 wrOk w6 (Addr.mk w.heap.size 1 none)/\
 (let w7:=w6.setCell (Addr.mk w.heap.size 1 none) (Value.int .i64 x4)
 ∃ x8:Int,w7.cell? (Addr.mk w.heap.size 0 none)=some (Value.int .i64 x8)/\∃ x9:Int,w7.cell? (Addr.mk w.heap.size 1 none)=some (Value.int .i64 x9)/\CallV Tryz.prog key_1 [(Value.agg #[(Value.int .i64 x8),(Value.int .i64 x9)])] w7 fun u10 w11=>∃ x12:Int,∃ x13:Bool,u10=(Value.tuple #[(Value.int .i64 x12),(Value.bool x13)])/\cnd x13
 (cnd (!found_6)
 (z34_k1 key_1 best_4 (Addr.mk w.heap.size 0 none) x12 t_11 t_12 t_13 N0 K w11)
 (cnd (decide (x12<n_5))
 (z34_k1 key_1 best_4 (Addr.mk w.heap.size 0 none) x12 t_11 t_12 t_13 N0 K w11)
 (inR .i64 (t_13+(1:Int))/\N0 key_1 best_4 n_5 found_6 t_11 t_12 (t_13+(1:Int)) w11)))
 (inR .i64 (t_13+(1:Int))/\N0 key_1 best_4 n_5 found_6 t_11 t_12 (t_13+(1:Int)) w11))))
 (∃ x18:Int,w.cell? best_4=some (Value.int .i64 x18)/\∃ x19:Int,w.cell? (best_4.add 1)=some (Value.int .i64 x19)/\wrOk w best_4/\
 (let w20:=w.setCell best_4 (Value.int .i64 x18)
 wrOk w20 (best_4.add 1)/\
 (let w21:=w20.setCell (best_4.add 1) (Value.int .i64 x19)
 ∃ x22:Int,w21.cell? best_4=some (Value.int .i64 x22)/\∃ x23:Int,w21.cell? (best_4.add 1)=some (Value.int .i64 x23)/\K x22 x23 n_5 found_6 w21)))
def z34_l0d (key_1:Value)(best_4:Addr)(n_5:Int)(found_6:Bool)(t_11:Sl)(t_12 t_13:Int)(K:Pw.T13)(w:World):Prop :=
 ∃ (I:Int->Bool->Int->World->Prop) (μ:Int->Bool->Int->World->Nat),I n_5 found_6 t_13 w/\∀ (n_51:Int) (found_61:Bool) (t_131:Int) (w1:World),I n_51 found_61 t_131 w1 ->
 z34_b0 key_1 best_4 n_51 found_61 t_11 t_12 t_131 (fun key_1' best_4' n_5' found_6' t_11' t_12' t_13' w'=>((key_1'=key_1/\best_4'=best_4/\t_11'=t_11/\t_12'=t_12/\True)/\I n_5' found_6' t_13' w')/\μ n_5' found_6' t_13' w'<μ n_51 found_61 t_131 w1) K w1
structure z34_l0 (key_1:Value)(best_4:Addr)(n_5:Int)(found_6:Bool)(t_11:Sl)(t_12 t_13:Int)(K:Pw.T13)(w:World):Prop where
 out:z34_l0d key_1 best_4 n_5 found_6 t_11 t_12 t_13 K w
def z34_sd (l_0:Sl)(key_1:Value)(K:Pw.T13)(w:World):Prop :=
 let w1:=w.alloc (Obj.cells #[(Value.int .i64 0),(Value.int .i64 0)] 31)
 z34_l0 key_1 (Addr.mk w.heap.size 0 none) (0:Int) false l_0 (l_0.l:Int) (0:Int) K w1
structure z34_sh (l_0:Sl)(key_1:Value)(K:Pw.T13)(w:World):Prop where
 out:z34_sd l_0 key_1 K w
def z34_L0 (Kv:VW):Cur [tV,tQ,tI,tB,tL,tI,tI] WP:=fun key_1 best_4 n_5 found_6 t_11 t_12 t_13=>z34_l0 key_1 best_4 n_5 found_6 t_11 t_12 t_13 (kk [.u 3,.g 2,tI,tI,tI,tB] Kv)
def z34_L1 (Kv:VW):Cur [tV,tQ,tI,tB,tL,tI,tI] WP->Cur [tV,tQ,tQ,tI,tL,tI,tI] WP:=fun N0 key_1 best_4 x_8 k_9 t_11 t_12 t_13=>z34_k1 key_1 best_4 x_8 k_9 t_11 t_12 t_13 N0 (kk [.u 3,.g 2,tI,tI,tI,tB] Kv)
noncomputable def z34_S:Pw.Spec:=fun vs w Kv=>un [tL,tV] (fun l_0 key_1=>z34_sh l_0 key_1 (kk [.u 3,.g 2,tI,tI,tI,tB] Kv)) nF vs w
def z34_A (Kv:VW):A:=(qr 3 (qs (qr 3 (qb (A.loop [1,4,5,6,11,12,13] (uR0 [tV,tQ,tI,tB,tL,tI,tI] (z34_L0 Kv)) (qr 1 (qs (qc ql ql) (qs (qb (qr 4 (qs (A.reg (qn 2 (RA.dyn (Value.tuple #[(Value.int .i64 0),(Value.bool false)]) (qn 5 RA.done)))) (qs (A.reg (qn 2 (RA.spl 24 (qn 3 (RA.spl 27 (qk 3 (qn 2 RA.done)) (qn 5 RA.done))) (qk 7 (qn 1 RA.done))))) (qc (A.cut [1,4,8,9,11,12,13] (uR1 [tV,tQ,tI,tB,tL,tI,tI] [tV,tQ,tQ,tI,tL,tI,tI] (z34_L1 Kv)) (qe 5)) ql))))) (qe 2))))))) (qr 6 ql)))
theorem z34_ok:Sound Tryz.prog 157 z34_S:=okS (x:=z34_A) (fun Kv l_0 key_1=>z34_sd l_0 key_1 (kk [.u 3,.g 2,tI,tI,tI,tB] Kv)) progMixed (Γ:=[]) trivial Tryz.call157 Tryz.func157 (fun Kv=>hStep (hLoop0 (L:=z34_L0 Kv) (fun N0 key_1 best_4 n_5 found_6 t_11 t_12 t_13=>z34_b0 key_1 best_4 n_5 found_6 t_11 t_12 t_13 N0 (kk [.u 3,.g 2,tI,tI,tI,tB] Kv)) (fun⟨a0,a1,_,_,a4,a5,_,_⟩ _ h=>let ⟨I,μ,h0,hr⟩:=h.out; ⟨fun b0 b1 b2 b3 b4 b5 b6 w=>(b0=a0/\b1=a1/\b4=a4/\b5=a5/\True)/\I b2 b3 b6 w,fun _ _ b2 b3 _ _ b6 w=>μ b2 b3 b6 w,⟨⟨rfl,rfl,rfl,rfl,trivial⟩,h0⟩,fun⟨_,_,_,_,_,_,_,_⟩ _ ⟨⟨e0,e1,e4,e5,_⟩,hI⟩=>by cases e0; cases e1; cases e4; cases e5; exact hr _ _ _ _ hI⟩)) <| hStep (hCut1 (F:=z34_L1 Kv) (G:=fun N0 key_1 best_4 x_8 k_9 t_11 t_12 t_13=>z34_k1d key_1 best_4 x_8 k_9 t_11 t_12 t_13 N0 (kk [.u 3,.g 2,tI,tI,tI,tB] Kv))) <| hEnd)
def z0f_k0d (t_4 zero_6:Addr)(K:Pw.T4)(w:World):Prop :=
 ∃ x28:Int,w.cell? zero_6=some (Value.int .i64 x28)/\∃ x29:Int,w.cell? (zero_6.add 1)=some (Value.int .i64 x29)/\wrOk w t_4/\
 (let w30:=w.setCell t_4 (Value.int .i64 x28)
 wrOk w30 (t_4.add 1)/\
 (let w31:=w30.setCell (t_4.add 1) (Value.int .i64 x29)
 ∃ x32:Int,w31.cell? t_4=some (Value.int .i64 x32)/\∃ x33:Int,w31.cell? (t_4.add 1)=some (Value.int .i64 x33)/\K x32 x33 true w31))
structure z0f_k0 (t_4 zero_6:Addr)(K:Pw.T4)(w:World):Prop where
 out:z0f_k0d t_4 zero_6 K w
def z0f_k2d (t_4 dual_8:Addr)(K:Pw.T4)(w:World):Prop :=
 ∃ x103:Int,w.cell? dual_8=some (Value.int .i64 x103)/\∃ x104:Int,w.cell? (dual_8.add 1)=some (Value.int .i64 x104)/\wrOk w t_4/\
 (let w105:=w.setCell t_4 (Value.int .i64 x103)
 wrOk w105 (t_4.add 1)/\
 (let w106:=w105.setCell (t_4.add 1) (Value.int .i64 x104)
 ∃ x107:Int,w106.cell? t_4=some (Value.int .i64 x107)/\∃ x108:Int,w106.cell? (t_4.add 1)=some (Value.int .i64 x108)/\K x107 x108 true w106))
structure z0f_k2 (t_4 dual_8:Addr)(K:Pw.T4)(w:World):Prop where
 out:z0f_k2d t_4 dual_8 K w
def z0f_k3d (t_4 zero_6:Addr)(K:Pw.T4)(w:World):Prop :=
 ∃ x109:Int,w.cell? zero_6=some (Value.int .i64 x109)/\∃ x110:Int,w.cell? (zero_6.add 1)=some (Value.int .i64 x110)/\wrOk w t_4/\
 (let w111:=w.setCell t_4 (Value.int .i64 x109)
 wrOk w111 (t_4.add 1)/\
 (let w112:=w111.setCell (t_4.add 1) (Value.int .i64 x110)
 ∃ x113:Int,w112.cell? t_4=some (Value.int .i64 x113)/\∃ x114:Int,w112.cell? (t_4.add 1)=some (Value.int .i64 x114)/\K x113 x114 false w112))
structure z0f_k3 (t_4 zero_6:Addr)(K:Pw.T4)(w:World):Prop where
 out:z0f_k3d t_4 zero_6 K w
def z0f_k1d (s_0:Option Addr)(f_3 t_4:Addr)(zero_6 best_7 dual_8:Addr)(n_9:Int)(ok_10:Bool)(K:Pw.T4)(w:World):Prop :=
 ∃ x85:Sl,w.cell? best_7=some (Value.slice x85.p x85.l x85.c)/\∃ x86:Sl,w.cell? (best_7.add 1)=some (Value.slice x86.p x86.l x86.c)/\∃ x87:Sl,w.cell? (best_7.add 2)=some (Value.slice x87.p x87.l x87.c)/\∃ x88:Int,w.cell? (best_7.add 3)=some (Value.int .i64 x88)/\∃ x89:Int,w.cell? (best_7.add 4)=some (Value.int .i64 x89)/\∃ x90:Sl,w.cell? (best_7.add 5)=some (Value.slice x90.p x90.l x90.c)/\z14_sh x85 x86 x87 x88 x89 x90 (fun r92 w91=>z49_sh n_9 r92 (fun r94 w93=>let w95:=w93.drew
 ∃ S96:World->Prop,S96 w95/\cnd ok_10
 (cnd (decide (r94<(0:Int)))
 (z0f_k2 t_4 dual_8 K w95)
 (cnd (r94 == (0:Int))
 (∃ x97:Sl,(∀ w':World,S96 w'->w'.cell? (f_3.add 5)=some (Value.slice x97.p x97.l x97.c))/\nz s_0 fun a98=>∃ x99:Sl,(∀ w':World,S96 w'->w'.cell? a98=some (Value.slice x99.p x99.l x99.c))/\∃ x100:Sl,(∀ w':World,S96 w'->w'.cell? (f_3.add 5)=some (Value.slice x100.p x100.l x100.c))/\(0<=(0:Int)/\(0:Int)<=(x100.l:Int)/\(x100.l:Int)<=(x99.c:Nat))/\z3k_sh x97 (Sl.mk (subP x99.p 0 x99.c 1) ((x100.l:Int).toNat-0) (x99.c-0)) (fun r102 w101=>S96 w101/\cnd (decide (r102>(0:Int)))
 (z0f_k2 t_4 dual_8 K w101)
 (z0f_k3 t_4 zero_6 K w101)) w95)
 (z0f_k3 t_4 zero_6 K w95)))
 (z0f_k3 t_4 zero_6 K w95)) w91) w
structure z0f_k1 (s_0:Option Addr)(f_3 t_4:Addr)(zero_6 best_7 dual_8:Addr)(n_9:Int)(ok_10:Bool)(K:Pw.T4)(w:World):Prop where
 out:z0f_k1d s_0 f_3 t_4 zero_6 best_7 dual_8 n_9 ok_10 K w
def z0f_sd (s_0:Option Addr)(f_1_0 f_1_1 f_1_2:Sl)(f_1_3 f_1_4:Int)(f_1_5:Sl)(K:Pw.T4)(w:World):Prop :=
 let w1:=w.alloc (Obj.cells #[(Value.slice f_1_0.p f_1_0.l f_1_0.c),(Value.slice f_1_1.p f_1_1.l f_1_1.c),(Value.slice f_1_2.p f_1_2.l f_1_2.c),(Value.int .i64 f_1_3),(Value.int .i64 f_1_4),(Value.slice f_1_5.p f_1_5.l f_1_5.c)] 99)
 let w2:=w1.alloc (Obj.cells #[(Value.int .i64 0),(Value.int .i64 0)] 31)
 z55_sh (0:Int) (fun r4_0 r4_1 w3=>let w5:=w3.alloc (Obj.cells #[(Value.int .i64 0),(Value.int .i64 0)] 31)
 wrOk w5 (Addr.mk w3.heap.size 0 none)/\
 (let w6:=w5.setCell (Addr.mk w3.heap.size 0 none) (Value.int .i64 r4_0)
 wrOk w6 (Addr.mk w3.heap.size 1 none)/\
 (let w7:=w6.setCell (Addr.mk w3.heap.size 1 none) (Value.int .i64 r4_1)
 let w8:=w7.drew
 ∃ S9:World->Prop,S9 w8/\∃ x10:Sl,(∀ w':World,S9 w'->w'.cell? (Addr.mk w.heap.size 0 none)=some (Value.slice x10.p x10.l x10.c))/\∃ x11:Sl,(∀ w':World,S9 w'->w'.cell? (Addr.mk w.heap.size 1 none)=some (Value.slice x11.p x11.l x11.c))/\∃ x12:Sl,(∀ w':World,S9 w'->w'.cell? (Addr.mk w.heap.size 2 none)=some (Value.slice x12.p x12.l x12.c))/\∃ x13:Int,(∀ w':World,S9 w'->w'.cell? (Addr.mk w.heap.size 3 none)=some (Value.int .i64 x13))/\∃ x14:Int,(∀ w':World,S9 w'->w'.cell? (Addr.mk w.heap.size 4 none)=some (Value.int .i64 x14))/\∃ x15:Sl,(∀ w':World,S9 w'->w'.cell? (Addr.mk w.heap.size 5 none)=some (Value.slice x15.p x15.l x15.c))/\z0k_sh x10 x11 x12 x13 x14 x15 (fun r17 w16=>S9 w16/\cnd r17
 (z0f_k0 (Addr.mk w1.heap.size 0 none) (Addr.mk w3.heap.size 0 none) K w16)
 (∃ x18:Sl,(∀ w':World,S9 w'->w'.cell? (Addr.mk w.heap.size 0 none)=some (Value.slice x18.p x18.l x18.c))/\∃ x19:Sl,(∀ w':World,S9 w'->w'.cell? (Addr.mk w.heap.size 1 none)=some (Value.slice x19.p x19.l x19.c))/\∃ x20:Sl,(∀ w':World,S9 w'->w'.cell? (Addr.mk w.heap.size 2 none)=some (Value.slice x20.p x20.l x20.c))/\∃ x21:Int,(∀ w':World,S9 w'->w'.cell? (Addr.mk w.heap.size 3 none)=some (Value.int .i64 x21))/\∃ x22:Int,(∀ w':World,S9 w'->w'.cell? (Addr.mk w.heap.size 4 none)=some (Value.int .i64 x22))/\∃ x23:Sl,(∀ w':World,S9 w'->w'.cell? (Addr.mk w.heap.size 5 none)=some (Value.slice x23.p x23.l x23.c))/\nz s_0 fun a24=>∃ x25:Int,(∀ w':World,S9 w'->w'.cell? (a24.add 8)=some (Value.int .i64 x25))/\z11_sh x18 x19 x20 x21 x22 x23 (fun r27 w26=>S9 w26/\cnd (decide (r27>x25))
 (z0f_k0 (Addr.mk w1.heap.size 0 none) (Addr.mk w3.heap.size 0 none) K w26)
 (let w34:=w26.drew
 ∃ S35:World->Prop,S35 w34/\nz s_0 fun a36=>∃ x37:Sl,(∀ w':World,S35 w'->w'.cell? (a36.add 4)=some (Value.slice x37.p x37.l x37.c))/\∃ x38:Sl,(∀ w':World,S35 w'->w'.cell? (a36.add 5)=some (Value.slice x38.p x38.l x38.c))/\∃ x39:Sl,(∀ w':World,S35 w'->w'.cell? (a36.add 6)=some (Value.slice x39.p x39.l x39.c))/\∃ x40:Int,(∀ w':World,S35 w'->w'.cell? (a36.add 7)=some (Value.int .i64 x40))/\∃ x41:Int,(∀ w':World,S35 w'->w'.cell? (a36.add 8)=some (Value.int .i64 x41))/\nz s_0 fun a42=>∃ x43:Sl,(∀ w':World,S35 w'->w'.cell? a42=some (Value.slice x43.p x43.l x43.c))/\let w44:=w34.alloc (Obj.cells #[(Value.slice none 0 0),(Value.slice none 0 0),(Value.slice none 0 0),(Value.int .i64 0),(Value.int .i64 0),(Value.slice none 0 0)] 99)
 S35 w44/\stN w44 (Addr.mk w34.heap.size 0 none) [(Value.slice x37.p x37.l x37.c),(Value.slice x38.p x38.l x38.c),(Value.slice x39.p x39.l x39.c),(Value.int .i64 x40),(Value.int .i64 x41),(Value.slice x43.p x43.l x43.c)] fun w45=>let w46:=w45.drew
 ∃ S47:World->Prop,S47 w46/\∃ x48:Sl,(∀ w':World,S47 w'->w'.cell? (Addr.mk w.heap.size 0 none)=some (Value.slice x48.p x48.l x48.c))/\∃ x49:Sl,(∀ w':World,S47 w'->w'.cell? (Addr.mk w.heap.size 1 none)=some (Value.slice x49.p x49.l x49.c))/\∃ x50:Sl,(∀ w':World,S47 w'->w'.cell? (Addr.mk w.heap.size 2 none)=some (Value.slice x50.p x50.l x50.c))/\∃ x51:Int,(∀ w':World,S47 w'->w'.cell? (Addr.mk w.heap.size 3 none)=some (Value.int .i64 x51))/\∃ x52:Int,(∀ w':World,S47 w'->w'.cell? (Addr.mk w.heap.size 4 none)=some (Value.int .i64 x52))/\∃ x53:Sl,(∀ w':World,S47 w'->w'.cell? (Addr.mk w.heap.size 5 none)=some (Value.slice x53.p x53.l x53.c))/\∃ x54:Sl,(∀ w':World,S47 w'->w'.cell? (Addr.mk w.heap.size 0 none)=some (Value.slice x54.p x54.l x54.c))/\∃ x55:Sl,(∀ w':World,S47 w'->w'.cell? (Addr.mk w.heap.size 1 none)=some (Value.slice x55.p x55.l x55.c))/\∃ x56:Sl,(∀ w':World,S47 w'->w'.cell? (Addr.mk w.heap.size 2 none)=some (Value.slice x56.p x56.l x56.c))/\∃ x57:Int,(∀ w':World,S47 w'->w'.cell? (Addr.mk w.heap.size 3 none)=some (Value.int .i64 x57))/\∃ x58:Int,(∀ w':World,S47 w'->w'.cell? (Addr.mk w.heap.size 4 none)=some (Value.int .i64 x58))/\∃ x59:Sl,(∀ w':World,S47 w'->w'.cell? (Addr.mk w.heap.size 5 none)=some (Value.slice x59.p x59.l x59.c))/\(z10_sh x48 x49 x50 x51 x52 x53 (fun r61 w60=>S47 w60/\(z34_sh r61 (Value.func (.func 159) #[(Value.agg #[(Value.slice x54.p x54.l x54.c),(Value.slice x55.p x55.l x55.c),(Value.slice x56.p x56.l x56.c),(Value.int .i64 x57),(Value.int .i64 x58),(Value.slice x59.p x59.l x59.c)])] #[]) (fun r63_0 r63_1 r64 r65 w62=>S47 w62/\let w66:=w62.alloc (Obj.cells #[(Value.int .i64 0),(Value.int .i64 0)] 31)
 S47 w66/\wrOk w66 (Addr.mk w62.heap.size 0 none)/\
 (let w67:=w66.setCell (Addr.mk w62.heap.size 0 none) (Value.int .i64 r63_0)
 wrOk w67 (Addr.mk w62.heap.size 1 none)/\
 (let w68:=w67.setCell (Addr.mk w62.heap.size 1 none) (Value.int .i64 r63_1)
 z0f_k1 s_0 (Addr.mk w.heap.size 0 none) (Addr.mk w1.heap.size 0 none) (Addr.mk w3.heap.size 0 none) (Addr.mk w34.heap.size 0 none) (Addr.mk w62.heap.size 0 none) r64 r65 K w68))) w60)
/\(let w69:=w60.alloc (Obj.cells #[(Value.int .i64 0),(Value.int .i64 0)] 31)
 S47 w69/\z34_sh r61 (Value.func (.func 159) #[(Value.agg #[(Value.slice x54.p x54.l x54.c),(Value.slice x55.p x55.l x55.c),(Value.slice x56.p x56.l x56.c),(Value.int .i64 x57),(Value.int .i64 x58),(Value.slice x59.p x59.l x59.c)])] #[]) (fun r71_0 r71_1 r72 r73 w70=>S47 w70/\wrOk w70 (Addr.mk w60.heap.size 0 none)/\
 (let w74:=w70.setCell (Addr.mk w60.heap.size 0 none) (Value.int .i64 r71_0)
 wrOk w74 (Addr.mk w60.heap.size 1 none)/\
 (let w75:=w74.setCell (Addr.mk w60.heap.size 1 none) (Value.int .i64 r71_1)
 z0f_k1 s_0 (Addr.mk w.heap.size 0 none) (Addr.mk w1.heap.size 0 none) (Addr.mk w3.heap.size 0 none) (Addr.mk w34.heap.size 0 none) (Addr.mk w60.heap.size 0 none) r72 r73 K w75))) w69)) w46)
/\(let w76:=w46.alloc (Obj.cells #[(Value.int .i64 0),(Value.int .i64 0)] 31)
 S47 w76/\z10_sh x48 x49 x50 x51 x52 x53 (fun r78 w77=>S47 w77/\z34_sh r78 (Value.func (.func 159) #[(Value.agg #[(Value.slice x54.p x54.l x54.c),(Value.slice x55.p x55.l x55.c),(Value.slice x56.p x56.l x56.c),(Value.int .i64 x57),(Value.int .i64 x58),(Value.slice x59.p x59.l x59.c)])] #[]) (fun r80_0 r80_1 r81 r82 w79=>S47 w79/\wrOk w79 (Addr.mk w46.heap.size 0 none)/\
 (let w83:=w79.setCell (Addr.mk w46.heap.size 0 none) (Value.int .i64 r80_0)
 wrOk w83 (Addr.mk w46.heap.size 1 none)/\
 (let w84:=w83.setCell (Addr.mk w46.heap.size 1 none) (Value.int .i64 r80_1)
 z0f_k1 s_0 (Addr.mk w.heap.size 0 none) (Addr.mk w1.heap.size 0 none) (Addr.mk w3.heap.size 0 none) (Addr.mk w34.heap.size 0 none) (Addr.mk w46.heap.size 0 none) r81 r82 K w84))) w77) w76))) w16)) w8))) w2
structure z0f_sh (s_0:Option Addr)(f_1_0 f_1_1 f_1_2:Sl)(f_1_3 f_1_4:Int)(f_1_5:Sl)(K:Pw.T4)(w:World):Prop where
 out:z0f_sd s_0 f_1_0 f_1_1 f_1_2 f_1_3 f_1_4 f_1_5 K w
def z0f_L0 (Kv:VW):Cur [tQ,tQ] WP:=fun t_4 zero_6=>z0f_k0 t_4 zero_6 (kk [.u 2,.g 2,tI,tI,tB] Kv)
def z0f_L1 (Kv:VW):Cur [tP,tQ,tQ,tQ,tQ,tQ,tI,tB] WP:=fun s_0 f_3 t_4 zero_6 best_7 dual_8 n_9 ok_10=>z0f_k1 s_0 f_3 t_4 zero_6 best_7 dual_8 n_9 ok_10 (kk [.u 2,.g 2,tI,tI,tB] Kv)
def z0f_L2 (Kv:VW):Cur [tQ,tQ] WP:=fun t_4 dual_8=>z0f_k2 t_4 dual_8 (kk [.u 2,.g 2,tI,tI,tB] Kv)
def z0f_L3 (Kv:VW):Cur [tQ,tQ] WP:=fun t_4 zero_6=>z0f_k3 t_4 zero_6 (kk [.u 2,.g 2,tI,tI,tB] Kv)
noncomputable def z0f_S:Pw.Spec:=fun vs w Kv=>un [tP,.g 6,tL,tL,tL,tI,tI,tL] (fun s_0 f_1_0 f_1_1 f_1_2 f_1_3 f_1_4 f_1_5=>z0f_sh s_0 f_1_0 f_1_1 f_1_2 f_1_3 f_1_4 f_1_5 (kk [.u 2,.g 2,tI,tI,tB] Kv)) nF vs w
def z0f_A (Kv:VW):A:=(qr 3 (qr 3 (qs (qs (A.drw (DA.pur 0 (DA.eff 1 (DA.pur 2 (DA.spl 15 (DA.skp 3 (DA.skp 5 (DA.skp 6 (DA.skp 7 (DA.skp 8 (DA.skp 9 (DA.skp 4 (DA.skp 10 (DA.pur 11 DA.done))))))))) (dp [3,5,6,7,8,9] (DA.eff 4 (dp [10,11] DA.done)))))))) (qc (A.cut [4,6] (uR0 [tQ,tQ] (z0f_L0 Kv)) (qr 3 ql)) ql)) (qs (A.drw (dp [0,1,2,3,4,5,6,7,8,9] (DA.eff 10 (DA.eff 11 DA.done)))) (qs (A.drw (dp [0,2,3] (DA.two 1 (DA.two 4 (dp [5,6,7,8] (DA.eff 9 (DA.eff 10 (dp [11,12] DA.done)))) 9 (DA.eff 4 (dp [5,6,7,8] (DA.eff 10 (dp [11,12] DA.done))))) 9 (DA.eff 1 (DA.eff 4 (dp [5,6,7,8] (DA.eff 10 (dp [11,12] DA.done)))))))) (A.cut [0,3,4,6,7,8,9,10] (uR0 [tP,tQ,tQ,tQ,tQ,tQ,tI,tB] (z0f_L1 Kv)) (qs (qr 5 (qs (A.drw (dp [0,1] (DA.spl 50 (dp [2,3,4] (DA.spl 53 (DA.skp 5 (DA.skp 6 (DA.skp 7 (DA.skp 8 (DA.skp 9 (DA.skp 10 (DA.skp 11 (DA.skp 12 (DA.skp 13 (DA.skp 14 (DA.skp 15 (DA.skp 16 (DA.skp 17 (DA.skp 18 (DA.skp 19 (DA.skp 20 (DA.skp 21 (dp [22,23] DA.done)))))))))))))))))) (dp [5,6,7] (DA.spl 56 (dp [8,9,10,11,12,13,14,15,16,17,18] (DA.eff 19 (dp [20,21,22,23] DA.done))) (DA.skp 8 (DA.skp 9 (DA.skp 10 (DA.skp 11 (DA.skp 12 (DA.skp 13 (DA.skp 14 (DA.skp 15 (DA.skp 16 (DA.skp 17 (DA.skp 18 (DA.skp 19 (DA.skp 20 (dp [21,22,23] DA.done)))))))))))))))))) (DA.skp 2 (DA.skp 3 (DA.skp 4 (DA.skp 5 (DA.skp 6 (DA.skp 7 (DA.skp 8 (DA.skp 9 (DA.skp 10 (DA.skp 11 (DA.skp 12 (DA.skp 13 (DA.skp 14 (DA.skp 15 (DA.skp 16 (DA.skp 17 (DA.skp 18 (DA.skp 19 (DA.skp 20 (DA.skp 21 (DA.skp 22 (DA.pur 23 DA.done))))))))))))))))))))))))) (qc (A.cut [4,8] (uR0 [tQ,tQ] (z0f_L2 Kv)) (qr 3 ql)) ql))) (A.cut [4,6] (uR0 [tQ,tQ] (z0f_L3 Kv)) (qr 3 ql)))))))))
theorem z0f_ok:Sound Tryz.prog 111 z0f_S:=okS (x:=z0f_A) (fun Kv s_0 f_1_0 f_1_1 f_1_2 f_1_3 f_1_4 f_1_5=>z0f_sd s_0 f_1_0 f_1_1 f_1_2 f_1_3 f_1_4 f_1_5 (kk [.u 2,.g 2,tI,tI,tB] Kv)) progMixed (Γ:=[(75,z55_S),(92,z3k_S),(127,z49_S),(155,z0k_S),(156,z11_S),(157,z34_S),(158,z10_S),(160,z14_S)]) ⟨.inl z55_ok,.inl z3k_ok,.inl z49_ok,.inl z0k_ok,.inl z11_ok,.inl z34_ok,.inl z10_ok,.inl z14_ok,trivial⟩ Tryz.call111 Tryz.func111 (fun Kv=>hStep (hCut0 (F:=z0f_L0 Kv) (G:=fun t_4 zero_6=>z0f_k0d t_4 zero_6 (kk [.u 2,.g 2,tI,tI,tB] Kv))) <| hStep (hCut0 (F:=z0f_L1 Kv) (G:=fun s_0 f_3 t_4 zero_6 best_7 dual_8 n_9 ok_10=>z0f_k1d s_0 f_3 t_4 zero_6 best_7 dual_8 n_9 ok_10 (kk [.u 2,.g 2,tI,tI,tB] Kv))) <| hStep (hCut0 (F:=z0f_L2 Kv) (G:=fun t_4 dual_8=>z0f_k2d t_4 dual_8 (kk [.u 2,.g 2,tI,tI,tB] Kv))) <| hStep (hCut0 (F:=z0f_L3 Kv) (G:=fun t_4 zero_6=>z0f_k3d t_4 zero_6 (kk [.u 2,.g 2,tI,tI,tB] Kv))) <| hEnd)
def z0l_b0 (s_0:Option Addr)(k_1:Int)(out_5 t_13:Sl)(t_14 t_15:Int)(N0:Option Addr->Int->Sl->Sl->Int->Int->World->Prop)(K:Pw.T2)(w:World):Prop :=
 cnd (decide (t_15<t_14))
 (nz t_13.p fun a4=>(0<=t_15/\t_15<(t_13.l:Nat))/\∃ x5:Int,w.cell? (a4.add (t_15.toNat*4))=some (Value.int .i64 x5)/\∃ x6:Int,w.cell? ((a4.add (t_15.toNat*4)).add 1)=some (Value.int .i64 x6)/\∃ x7:Int,w.cell? ((a4.add (t_15.toNat*4)).add 2)=some (Value.int .i64 x7)/\∃ x8:Int,w.cell? ((a4.add (t_15.toNat*4)).add 3)=some (Value.int .i64 x8)/\let w9:=w.alloc (Obj.cells #[(Value.int .i64 0),(Value.int .i64 0),(Value.int .i64 0),(Value.int .i64 0)] 57)
 stN w9 (Addr.mk w.heap.size 0 none) [(Value.int .i64 x5),(Value.int .i64 x6),(Value.int .i64 x7),(Value.int .i64 x8)] fun w10=>let w11:=w10.drew
 ∃ x12:Int,w11.cell? (Addr.mk w.heap.size 0 none)=some (Value.int .i64 x12)/\nz s_0 fun a13=>∃ x14:Sl,w11.cell? (a13.add 4)=some (Value.slice x14.p x14.l x14.c)/\nz x14.p fun a15=>(0<=k_1/\k_1<(x14.l:Nat))/\∃ x16:Int,w11.cell? (a15.add (k_1.toNat*1))=some (Value.int .i64 x16)/\cnd (x12 == x16)
 (let w17:=w11.alloc (Obj.cells #[(Value.int .i64 t_15)] 3)
 apS 1 8 [(Value.int .i64 0)] 3 out_5 (Sl.mk (some (Addr.mk w11.heap.size 0 none)) 1 1) w17 fun s18 w19=>inR .i64 (t_15+(1:Int))/\N0 s_0 k_1 s18 t_13 t_14 (t_15+(1:Int)) w19)
 (inR .i64 (t_15+(1:Int))/\N0 s_0 k_1 out_5 t_13 t_14 (t_15+(1:Int)) w11))
 (K out_5 w)
def z0l_l0d (s_0:Option Addr)(k_1:Int)(out_5 t_13:Sl)(t_14 t_15:Int)(K:Pw.T2)(w:World):Prop :=
 ∃ (I:Sl->Int->World->Prop) (μ:Sl->Int->World->Nat),I out_5 t_15 w/\∀ (out_51:Sl) (t_151:Int) (w1:World),I out_51 t_151 w1 ->
 z0l_b0 s_0 k_1 out_51 t_13 t_14 t_151 (fun s_0' k_1' out_5' t_13' t_14' t_15' w'=>((s_0'=s_0/\k_1'=k_1/\t_13'=t_13/\t_14'=t_14/\True)/\I out_5' t_15' w')/\μ out_5' t_15' w'<μ out_51 t_151 w1) K w1
structure z0l_l0 (s_0:Option Addr)(k_1:Int)(out_5 t_13:Sl)(t_14 t_15:Int)(K:Pw.T2)(w:World):Prop where
 out:z0l_l0d s_0 k_1 out_5 t_13 t_14 t_15 K w
def z0l_sd (s_0:Option Addr)(k_1:Int)(K:Pw.T2)(w:World):Prop :=
 let w1:=w.alloc (Obj.cells #[(Value.int .i64 (-1))] 3)
 nz s_0 fun a2=>∃ x3:Sl,w1.cell? (a2.add 5)=some (Value.slice x3.p x3.l x3.c)/\z0l_l0 s_0 k_1 (Sl.mk (some (Addr.mk w.heap.size 0 none)) 1 1) x3 (x3.l:Int) (0:Int) K w1
structure z0l_sh (s_0:Option Addr)(k_1:Int)(K:Pw.T2)(w:World):Prop where
 out:z0l_sd s_0 k_1 K w
def z0l_L0 (Kv:VW):Cur [tP,tI,tL,tL,tI,tI] WP:=fun s_0 k_1 out_5 t_13 t_14 t_15=>z0l_l0 s_0 k_1 out_5 t_13 t_14 t_15 (kk [tL] Kv)
noncomputable def z0l_S:Pw.Spec:=fun vs w Kv=>un [tP,tI] (fun s_0 k_1=>z0l_sh s_0 k_1 (kk [tL] Kv)) nF vs w
def z0l_A (Kv:VW):A:=(qr 1 (qr 2 (qs (qr 7 (qb (A.loop [0,1,5,13,14,15] (uR0 [tP,tI,tL,tL,tI,tI] (z0l_L0 Kv)) (qr 1 (qs (qc ql ql) (qs (qb (qr 6 (qs (A.drp (dp [0,1,2,3,4,5,6,7,8,9,10] DA.done)) (qc (qe 5) ql)))) (qe 2))))))) (qr 2 ql))))
theorem z0l_ok:Sound Tryz.prog 55 z0l_S:=okS (x:=z0l_A) (fun Kv s_0 k_1=>z0l_sd s_0 k_1 (kk [tL] Kv)) progMixed (Γ:=[]) trivial Tryz.call55 Tryz.func55 (fun Kv=>hStep (hLoop0 (L:=z0l_L0 Kv) (fun N0 s_0 k_1 out_5 t_13 t_14 t_15=>z0l_b0 s_0 k_1 out_5 t_13 t_14 t_15 N0 (kk [tL] Kv)) (fun⟨a0,a1,_,a3,a4,_,_⟩ _ h=>let ⟨I,μ,h0,hr⟩:=h.out; ⟨fun b0 b1 b2 b3 b4 b5 w=>(b0=a0/\b1=a1/\b3=a3/\b4=a4/\True)/\I b2 b5 w,fun _ _ b2 _ _ b5 w=>μ b2 b5 w,⟨⟨rfl,rfl,rfl,rfl,trivial⟩,h0⟩,fun⟨_,_,_,_,_,_,_⟩ _ ⟨⟨e0,e1,e3,e4,_⟩,hI⟩=>by cases e0; cases e1; cases e3; cases e4; exact hr _ _ _ hI⟩)) <| hEnd)
end Go.Proofs.YtfpobpjandjhjaaGreatDoor
