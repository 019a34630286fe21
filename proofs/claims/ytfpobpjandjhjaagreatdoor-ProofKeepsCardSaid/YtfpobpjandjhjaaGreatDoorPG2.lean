/- The bodies' formulas, by program. -/
import Derived.Test.YtfpobpjandjhjaaGreatDoorProg
import Derived.KernelRfl
import Derived.Test.YtfpobpjandjhjaaGreatDoorPwY
import Derived.Test.YtfpobpjandjhjaaGreatDoorCG0
import Derived.Test.YtfpobpjandjhjaaGreatDoorCG1
import Derived.Test.YtfpobpjandjhjaaGreatDoorCG2
import Derived.Test.YtfpobpjandjhjaaGreatDoorCG3
import Derived.Test.YtfpobpjandjhjaaGreatDoorCG4
import Derived.Test.YtfpobpjandjhjaaGreatDoorCG5
import Derived.Test.YtfpobpjandjhjaaGreatDoorPG1
import Derived.Test.YtfpobpjandjhjaaGreatDoorPXX
set_option maxRecDepth 20000
namespace Go.Proofs.YtfpobpjandjhjaaGreatDoor
open Go Pw
def z2n_b1 (r_1 t_2 out_3:Addr)(k_4:Int)(N1:Addr->Addr->Addr->Int->World->Prop)(K:Pw.T9)(w:World):Prop :=
 ∃ x22:Sl,w.cell? (r_1.add 3)=some (Value.slice x22.p x22.l x22.c)/\cnd (decide (k_4<(x22.l:Int)))
 (∃ x23:Sl,w.cell? (r_1.add 3)=some (Value.slice x23.p x23.l x23.c)/\nz x23.p fun a24=>(0<=k_4/\k_4<(x23.l:Nat))/\∃ x25:Int,w.cell? (a24.add (k_4.toNat*4))=some (Value.int .i64 x25)/\∃ x26:Int,w.cell? ((a24.add (k_4.toNat*4)).add 1)=some (Value.int .i64 x26)/\∃ x27:Int,w.cell? ((a24.add (k_4.toNat*4)).add 2)=some (Value.int .i64 x27)/\∃ x28:Sl,w.cell? ((a24.add (k_4.toNat*4)).add 3)=some (Value.slice x28.p x28.l x28.c)/\let w29:=w.alloc (Obj.cells #[(Value.int .i64 0),(Value.int .i64 0),(Value.int .i64 0),(Value.slice none 0 0)] 55)
 stN w29 (Addr.mk w.heap.size 0 none) [(Value.int .i64 x25),(Value.int .i64 x26),(Value.int .i64 x27),(Value.slice x28.p x28.l x28.c)] fun w30=>let w31:=w30.alloc (Obj.cells #[] 3)
 ∃ x32:Sl,w31.cell? (Addr.mk w.heap.size 3 none)=some (Value.slice x32.p x32.l x32.c)/\apS 1 8 [(Value.int .i64 0)] 3 (Sl.mk (some (Addr.mk w30.heap.size 0 none)) 0 0) x32 w31 fun s33 w34=>wrOk w34 (Addr.mk w.heap.size 3 none)/\
 (let w35:=w34.setCell (Addr.mk w.heap.size 3 none) (Value.slice s33.p s33.l s33.c)
 ∃ x36:Sl,w35.cell? (out_3.add 3)=some (Value.slice x36.p x36.l x36.c)/\∃ x37:Int,w35.cell? (Addr.mk w.heap.size 0 none)=some (Value.int .i64 x37)/\∃ x38:Int,w35.cell? (Addr.mk w.heap.size 1 none)=some (Value.int .i64 x38)/\∃ x39:Int,w35.cell? (Addr.mk w.heap.size 2 none)=some (Value.int .i64 x39)/\∃ x40:Sl,w35.cell? (Addr.mk w.heap.size 3 none)=some (Value.slice x40.p x40.l x40.c)/\let w41:=w35.alloc (Obj.cells #[(Value.int .i64 x37),(Value.int .i64 x38),(Value.int .i64 x39),(Value.slice x40.p x40.l x40.c)] 55)
 apS 4 48 [(Value.int .i64 0),(Value.int .i64 0),(Value.int .i64 0),(Value.slice none 0 0)] 55 x36 (Sl.mk (some (Addr.mk w35.heap.size 0 none)) 1 1) w41 fun s42 w43=>wrOk w43 (out_3.add 3)/\
 (let w44:=w43.setCell (out_3.add 3) (Value.slice s42.p s42.l s42.c)
 inR .i64 (k_4+(1:Int))/\N1 r_1 t_2 out_3 (k_4+(1:Int)) w44)))
 (∃ x45:Sl,w.cell? out_3=some (Value.slice x45.p x45.l x45.c)/\∃ x46:Int,w.cell? (out_3.add 1)=some (Value.int .i64 x46)/\∃ x47:Int,w.cell? (out_3.add 2)=some (Value.int .i64 x47)/\∃ x48:Sl,w.cell? (out_3.add 3)=some (Value.slice x48.p x48.l x48.c)/\stN w t_2 [(Value.slice x45.p x45.l x45.c),(Value.int .i64 x46),(Value.int .i64 x47),(Value.slice x48.p x48.l x48.c)] fun w49=>∃ x50:Sl,w49.cell? t_2=some (Value.slice x50.p x50.l x50.c)/\∃ x51:Int,w49.cell? (t_2.add 1)=some (Value.int .i64 x51)/\∃ x52:Int,w49.cell? (t_2.add 2)=some (Value.int .i64 x52)/\∃ x53:Sl,w49.cell? (t_2.add 3)=some (Value.slice x53.p x53.l x53.c)/\K x50 x51 x52 x53 w49)
def z2n_l1d (r_1 t_2 out_3:Addr)(k_4:Int)(K:Pw.T9)(w:World):Prop :=
 ∃ (I:Int->World->Prop) (μ:Int->World->Nat),I k_4 w/\∀ (k_41:Int) (w1:World),I k_41 w1 ->
 z2n_b1 r_1 t_2 out_3 k_41 (fun r_1' t_2' out_3' k_4' w'=>((r_1'=r_1/\t_2'=t_2/\out_3'=out_3/\True)/\I k_4' w')/\μ k_4' w'<μ k_41 w1) K w1
structure z2n_l1 (r_1 t_2 out_3:Addr)(k_4:Int)(K:Pw.T9)(w:World):Prop where
 out:z2n_l1d r_1 t_2 out_3 k_4 K w
def z2n_k0d (r_1 t_2 out_3:Addr)(K:Pw.T9)(w:World):Prop :=
 z2n_l1 r_1 t_2 out_3 (0:Int) K w
structure z2n_k0 (r_1 t_2 out_3:Addr)(K:Pw.T9)(w:World):Prop where
 out:z2n_k0d r_1 t_2 out_3 K w
def z2n_sd (r_0_0:Sl)(r_0_1 r_0_2:Int)(r_0_3:Sl)(K:Pw.T9)(w:World):Prop :=
 let w1:=w.alloc (Obj.cells #[(Value.slice r_0_0.p r_0_0.l r_0_0.c),(Value.int .i64 r_0_1),(Value.int .i64 r_0_2),(Value.slice r_0_3.p r_0_3.l r_0_3.c)] 45)
 let w2:=w1.alloc (Obj.cells #[(Value.slice none 0 0),(Value.int .i64 0),(Value.int .i64 0),(Value.slice none 0 0)] 45)
 let w3:=w2.drew
 ∃ S4:World->Prop,S4 w3/\∃ x5:Sl,(∀ w':World,S4 w'->w'.cell? (Addr.mk w.heap.size 0 none)=some (Value.slice x5.p x5.l x5.c))/\∃ x6:Int,(∀ w':World,S4 w'->w'.cell? (Addr.mk w.heap.size 1 none)=some (Value.int .i64 x6))/\∃ x7:Int,(∀ w':World,S4 w'->w'.cell? (Addr.mk w.heap.size 2 none)=some (Value.int .i64 x7))/\(let w8:=w3.alloc (Obj.cells #[] 3)
 S4 w8/\(apS 1 8 [(Value.int .i64 0)] 3 (Sl.mk (some (Addr.mk w3.heap.size 0 none)) 0 0) x5 w8 fun s9 w10=>S4 w10/\let w11:=w10.alloc (Obj.cells #[(Value.slice none 0 0),(Value.int .i64 0),(Value.int .i64 0),(Value.slice none 0 0)] 45)
 S4 w11/\stN w11 (Addr.mk w10.heap.size 0 none) [(Value.slice s9.p s9.l s9.c),(Value.int .i64 x6),(Value.int .i64 x7),(Value.slice none 0 0)] fun w12=>z2n_k0 (Addr.mk w.heap.size 0 none) (Addr.mk w1.heap.size 0 none) (Addr.mk w10.heap.size 0 none) K w12)
/\(let w13:=w8.alloc (Obj.cells #[(Value.slice none 0 0),(Value.int .i64 0),(Value.int .i64 0),(Value.slice none 0 0)] 45)
 S4 w13/\apS 1 8 [(Value.int .i64 0)] 3 (Sl.mk (some (Addr.mk w3.heap.size 0 none)) 0 0) x5 w13 fun s14 w15=>S4 w15/\stN w15 (Addr.mk w8.heap.size 0 none) [(Value.slice s14.p s14.l s14.c),(Value.int .i64 x6),(Value.int .i64 x7),(Value.slice none 0 0)] fun w16=>z2n_k0 (Addr.mk w.heap.size 0 none) (Addr.mk w1.heap.size 0 none) (Addr.mk w8.heap.size 0 none) K w16))
/\(let w17:=w3.alloc (Obj.cells #[(Value.slice none 0 0),(Value.int .i64 0),(Value.int .i64 0),(Value.slice none 0 0)] 45)
 S4 w17/\let w18:=w17.alloc (Obj.cells #[] 3)
 S4 w18/\apS 1 8 [(Value.int .i64 0)] 3 (Sl.mk (some (Addr.mk w17.heap.size 0 none)) 0 0) x5 w18 fun s19 w20=>S4 w20/\stN w20 (Addr.mk w3.heap.size 0 none) [(Value.slice s19.p s19.l s19.c),(Value.int .i64 x6),(Value.int .i64 x7),(Value.slice none 0 0)] fun w21=>z2n_k0 (Addr.mk w.heap.size 0 none) (Addr.mk w1.heap.size 0 none) (Addr.mk w3.heap.size 0 none) K w21)
structure z2n_sh (r_0_0:Sl)(r_0_1 r_0_2:Int)(r_0_3:Sl)(K:Pw.T9)(w:World):Prop where
 out:z2n_sd r_0_0 r_0_1 r_0_2 r_0_3 K w
def z2n_L0 (Kv:VW):Cur [tQ,tQ,tQ] WP:=fun r_1 t_2 out_3=>z2n_k0 r_1 t_2 out_3 (kk [.g 4,tL,tI,tI,tL] Kv)
def z2n_L1 (Kv:VW):Cur [tQ,tQ,tQ,tI] WP:=fun r_1 t_2 out_3 k_4=>z2n_l1 r_1 t_2 out_3 k_4 (kk [.g 4,tL,tI,tI,tL] Kv)
noncomputable def z2n_S:Pw.Spec:=fun vs w Kv=>un [.g 4,tL,tI,tI,tL] (fun r_0_0 r_0_1 r_0_2 r_0_3=>z2n_sh r_0_0 r_0_1 r_0_2 r_0_3 (kk [.g 4,tL,tI,tI,tL] Kv)) nF vs w
def z2n_A (Kv:VW):A:=(qr 2 (qs (A.drw (dp [1,2,4,5,6,7] (DA.two 0 (DA.two 3 (DA.pur 8 (DA.eff 9 (DA.eff 10 DA.done))) 9 (DA.eff 3 (DA.pur 8 (DA.eff 10 DA.done)))) 9 (DA.eff 0 (DA.eff 3 (DA.pur 8 (DA.eff 10 DA.done))))))) (A.cut [1,2,3] (uR0 [tQ,tQ,tQ] (z2n_L0 Kv)) (qs (qr 1 (qb (A.loop [1,2,3,4] (uR0 [tQ,tQ,tQ,tI] (z2n_L1 Kv)) (qs (qr 5 (qc ql ql)) (qs (qb (qr 7 (qr 6 (qe 7)))) (qe 3)))))) (qr 2 ql)))))
theorem z2n_ok:Sound Tryz.prog 33 z2n_S:=okS (x:=z2n_A) (fun Kv r_0_0 r_0_1 r_0_2 r_0_3=>z2n_sd r_0_0 r_0_1 r_0_2 r_0_3 (kk [.g 4,tL,tI,tI,tL] Kv)) progMixed (Γ:=[]) trivial Tryz.call33 Tryz.func33 (fun Kv=>hStep (hCut0 (F:=z2n_L0 Kv) (G:=fun r_1 t_2 out_3=>z2n_k0d r_1 t_2 out_3 (kk [.g 4,tL,tI,tI,tL] Kv))) <| hStep (hLoop0 (L:=z2n_L1 Kv) (fun N1 r_1 t_2 out_3 k_4=>z2n_b1 r_1 t_2 out_3 k_4 N1 (kk [.g 4,tL,tI,tI,tL] Kv)) (fun⟨a0,a1,a2,_,_⟩ _ h=>let ⟨I,μ,h0,hr⟩:=h.out; ⟨fun b0 b1 b2 b3 w=>(b0=a0/\b1=a1/\b2=a2/\True)/\I b3 w,fun _ _ _ b3 w=>μ b3 w,⟨⟨rfl,rfl,rfl,trivial⟩,h0⟩,fun⟨_,_,_,_,_⟩ _ ⟨⟨e0,e1,e2,_⟩,hI⟩=>by cases e0; cases e1; cases e2; exact hr _ _ hI⟩)) <| hEnd)
def z2o_b0 (a_2 b_3:Addr)(k_6:Int)(N0:Addr->Addr->Int->World->Prop)(K:Pw.T0)(w:World):Prop :=
 ∃ x13:Sl,w.cell? (a_2.add 3)=some (Value.slice x13.p x13.l x13.c)/\cnd (decide (k_6<(x13.l:Int)))
 (let w14:=w.drew
 ∃ S15:World->Prop,S15 w14/\∃ x16:Sl,(∀ w':World,S15 w'->w'.cell? (a_2.add 3)=some (Value.slice x16.p x16.l x16.c))/\nz x16.p fun a17=>(0<=k_6/\k_6<(x16.l:Nat))/\∃ x18:Sl,(∀ w':World,S15 w'->w'.cell? ((a17.add (k_6.toNat*4)).add 3)=some (Value.slice x18.p x18.l x18.c))/\∃ x19:Sl,(∀ w':World,S15 w'->w'.cell? (b_3.add 3)=some (Value.slice x19.p x19.l x19.c))/\nz x19.p fun a20=>(0<=k_6/\k_6<(x19.l:Nat))/\∃ x21:Sl,(∀ w':World,S15 w'->w'.cell? ((a20.add (k_6.toNat*4)).add 3)=some (Value.slice x21.p x21.l x21.c))/\z2g_sh x18 x21 (fun r23 w22=>S15 w22/\let w24:=w22.drew
 ∃ x25:Sl,w24.cell? (a_2.add 3)=some (Value.slice x25.p x25.l x25.c)/\nz x25.p fun a26=>(0<=k_6/\k_6<(x25.l:Nat))/\∃ x27:Int,w24.cell? (a26.add (k_6.toNat*4))=some (Value.int .i64 x27)/\∃ x28:Sl,w24.cell? (b_3.add 3)=some (Value.slice x28.p x28.l x28.c)/\nz x28.p fun a29=>(0<=k_6/\k_6<(x28.l:Nat))/\∃ x30:Int,w24.cell? (a29.add (k_6.toNat*4))=some (Value.int .i64 x30)/\cnd (x27 != x30)
 (K false w24)
 (∃ x31:Sl,w24.cell? (a_2.add 3)=some (Value.slice x31.p x31.l x31.c)/\nz x31.p fun a32=>(0<=k_6/\k_6<(x31.l:Nat))/\∃ x33:Int,w24.cell? ((a32.add (k_6.toNat*4)).add 1)=some (Value.int .i64 x33)/\∃ x34:Int,w24.cell? ((a32.add (k_6.toNat*4)).add 2)=some (Value.int .i64 x34)/\∃ x35:Sl,w24.cell? (b_3.add 3)=some (Value.slice x35.p x35.l x35.c)/\nz x35.p fun a36=>(0<=k_6/\k_6<(x35.l:Nat))/\∃ x37:Int,w24.cell? ((a36.add (k_6.toNat*4)).add 1)=some (Value.int .i64 x37)/\∃ x38:Int,w24.cell? ((a36.add (k_6.toNat*4)).add 2)=some (Value.int .i64 x38)/\cnd (!(x33 == x37 && (x34 == x38 && true)))
 (K false w24)
 (cnd (!r23)
 (K false w24)
 (inR .i64 (k_6+(1:Int))/\N0 a_2 b_3 (k_6+(1:Int)) w24)))) w14)
 (K true w)
def z2o_l0d (a_2 b_3:Addr)(k_6:Int)(K:Pw.T0)(w:World):Prop :=
 ∃ (I:Int->World->Prop) (μ:Int->World->Nat),I k_6 w/\∀ (k_61:Int) (w1:World),I k_61 w1 ->
 z2o_b0 a_2 b_3 k_61 (fun a_2' b_3' k_6' w'=>((a_2'=a_2/\b_3'=b_3/\True)/\I k_6' w')/\μ k_6' w'<μ k_61 w1) K w1
structure z2o_l0 (a_2 b_3:Addr)(k_6:Int)(K:Pw.T0)(w:World):Prop where
 out:z2o_l0d a_2 b_3 k_6 K w
def z2o_sd (a_0_0:Sl)(a_0_1 a_0_2:Int)(a_0_3 b_1_0:Sl)(b_1_1 b_1_2:Int)(b_1_3:Sl)(K:Pw.T0)(w:World):Prop :=
 let w1:=w.alloc (Obj.cells #[(Value.slice a_0_0.p a_0_0.l a_0_0.c),(Value.int .i64 a_0_1),(Value.int .i64 a_0_2),(Value.slice a_0_3.p a_0_3.l a_0_3.c)] 45)
 let w2:=w1.alloc (Obj.cells #[(Value.slice b_1_0.p b_1_0.l b_1_0.c),(Value.int .i64 b_1_1),(Value.int .i64 b_1_2),(Value.slice b_1_3.p b_1_3.l b_1_3.c)] 45)
 ∃ x3:Sl,w2.cell? (Addr.mk w.heap.size 0 none)=some (Value.slice x3.p x3.l x3.c)/\∃ x4:Sl,w2.cell? (Addr.mk w1.heap.size 0 none)=some (Value.slice x4.p x4.l x4.c)/\z2g_sh x3 x4 (fun r6 w5=>cnd (!r6)
 (K false w5)
 (∃ x7:Int,w5.cell? (Addr.mk w.heap.size 1 none)=some (Value.int .i64 x7)/\∃ x8:Int,w5.cell? (Addr.mk w1.heap.size 1 none)=some (Value.int .i64 x8)/\cnd (x7 != x8)
 (K false w5)
 (∃ x9:Int,w5.cell? (Addr.mk w.heap.size 2 none)=some (Value.int .i64 x9)/\∃ x10:Int,w5.cell? (Addr.mk w1.heap.size 2 none)=some (Value.int .i64 x10)/\cnd (x9 != x10)
 (K false w5)
 (∃ x11:Sl,w5.cell? (Addr.mk w.heap.size 3 none)=some (Value.slice x11.p x11.l x11.c)/\∃ x12:Sl,w5.cell? (Addr.mk w1.heap.size 3 none)=some (Value.slice x12.p x12.l x12.c)/\cnd ((x11.l:Int) != (x12.l:Int))
 (K false w5)
 (z2o_l0 (Addr.mk w.heap.size 0 none) (Addr.mk w1.heap.size 0 none) (0:Int) K w5))))) w2
structure z2o_sh (a_0_0:Sl)(a_0_1 a_0_2:Int)(a_0_3 b_1_0:Sl)(b_1_1 b_1_2:Int)(b_1_3:Sl)(K:Pw.T0)(w:World):Prop where
 out:z2o_sd a_0_0 a_0_1 a_0_2 a_0_3 b_1_0 b_1_1 b_1_2 b_1_3 K w
def z2o_L0 (Kv:VW):Cur [tQ,tQ,tI] WP:=fun a_2 b_3 k_6=>z2o_l0 a_2 b_3 k_6 (kk [tB] Kv)
noncomputable def z2o_S:Pw.Spec:=fun vs w Kv=>un [.g 4,tL,tI,tI,tL,.g 4,tL,tI,tI,tL] (fun a_0_0 a_0_1 a_0_2 a_0_3 b_1_0 b_1_1 b_1_2 b_1_3=>z2o_sh a_0_0 a_0_1 a_0_2 a_0_3 b_1_0 b_1_1 b_1_2 b_1_3 (kk [tB] Kv)) nF vs w
def z2o_A (Kv:VW):A:=(qr 3 (qr 6 (qs (qs (A.reg (qn 3 (RA.spl 15 (qk 5 (qn 2 (qk 5 (qn 2 (qk 7 (qn 1 RA.done)))))) (qn 7 (RA.spl 22 (qk 5 (qn 2 (qk 7 (qn 1 RA.done)))) (qn 7 (RA.spl 29 (qk 7 (qn 1 RA.done)) (qn 8 RA.done)))))))) (qc (qr 1 ql) ql)) (qs (qr 1 (qb (A.loop [2,3,6] (uR0 [tQ,tQ,tI] (z2o_L0 Kv)) (qs (qr 5 (qc ql ql)) (qs (qb (qs (A.drw (dp [0,1,2,3,4,5,6,7,8,9,10,11] (DA.eff 12 (DA.pur 13 DA.done)))) (qs (A.drp (dp [0,1,2,3,4,5,6,7,8,9,10,11,12,13] (DA.spl 71 (DA.skp 14 (DA.skp 15 (DA.skp 16 (DA.skp 17 (DA.skp 18 (DA.skp 19 (DA.skp 20 (DA.skp 21 (DA.skp 22 (DA.skp 23 (DA.skp 24 (DA.skp 25 (DA.skp 26 (dp [27,28] (DA.skp 29 (DA.skp 30 (DA.pur 31 DA.done))))))))))))))))) (dp [14,15,16,17,18,19,20,21,22,23,24,25,26,27,28] (DA.spl 86 (DA.skp 29 (DA.skp 30 (DA.pur 31 DA.done))) (dp [29,30,31] DA.done)))))) (qc (qr 1 ql) ql)))) (qe 3)))))) (qr 1 ql)))))
theorem z2o_ok:Sound Tryz.prog 30 z2o_S:=okS (x:=z2o_A) (fun Kv a_0_0 a_0_1 a_0_2 a_0_3 b_1_0 b_1_1 b_1_2 b_1_3=>z2o_sd a_0_0 a_0_1 a_0_2 a_0_3 b_1_0 b_1_1 b_1_2 b_1_3 (kk [tB] Kv)) progMixed (Γ:=[(24,z2g_S)]) ⟨.inl z2g_ok,trivial⟩ Tryz.call30 Tryz.func30 (fun Kv=>hStep (hLoop0 (L:=z2o_L0 Kv) (fun N0 a_2 b_3 k_6=>z2o_b0 a_2 b_3 k_6 N0 (kk [tB] Kv)) (fun⟨a0,a1,_,_⟩ _ h=>let ⟨I,μ,h0,hr⟩:=h.out; ⟨fun b0 b1 b2 w=>(b0=a0/\b1=a1/\True)/\I b2 w,fun _ _ b2 w=>μ b2 w,⟨⟨rfl,rfl,trivial⟩,h0⟩,fun⟨_,_,_,_⟩ _ ⟨⟨e0,e1,_⟩,hI⟩=>by cases e0; cases e1; exact hr _ _ hI⟩)) <| hEnd)
end Go.Proofs.YtfpobpjandjhjaaGreatDoor

