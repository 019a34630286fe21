/- The bodies' formulas, by program. -/
import Derived.Test.YtfpobpjandjhjaaGreatDoorProg
import Derived.KernelRfl
import Derived.Test.YtfpobpjandjhjaaGreatDoorPwY
import Derived.Test.YtfpobpjandjhjaaGreatDoorCG0
import Derived.Test.YtfpobpjandjhjaaGreatDoorCG1
import Derived.Test.YtfpobpjandjhjaaGreatDoorCG2
import Derived.Test.YtfpobpjandjhjaaGreatDoorCG3
import Derived.Test.YtfpobpjandjhjaaGreatDoorCG4
import Derived.Test.YtfpobpjandjhjaaGreatDoorCG5
import Derived.Test.YtfpobpjandjhjaaGreatDoorPG1
import Derived.Test.YtfpobpjandjhjaaGreatDoorPG2
set_option maxRecDepth 20000
namespace Go.Proofs.YtfpobpjandjhjaaGreatDoor
open Go Pw
structure z48_sh (a0:Int)(K:Pw.T6)(w:World):Prop where
 out:Calls Tryz.prog 58 #[(Value.int .i64 a0)] w fun e w'=>∃ r0:ByteArray,e=.returned (Value.string r0)/\K r0 w'
noncomputable def z48_S:Pw.Spec:=fun vs w Kv =>
 match vs with
 | [.int .i64 a0]=>z48_sh a0 (fun r0 w'=>Kv (Value.string r0) w') w
 | _=>False
theorem z48_ok:Sound Tryz.prog 58 z48_S:=⟨Tryz.call58,fun vs w Kv h=>by
  unfold z48_S at h
  split at h
  · exact h.out.mono fun e w' he=>by
      obtain⟨_,he,hk⟩:=he
      exact⟨_,he,hk⟩
  · exact h.elim⟩
def z4f_b0 (out_3 t_6:Sl)(t_7 t_8:Int)(N0:Sl->Sl->Int->Int->World->Prop)(K:Pw.T2)(w:World):Prop :=
 cnd (decide (t_8<t_7))
 (nz t_6.p fun a1=>(0<=t_8/\t_8<(t_6.l:Nat))/\∃ x2:Int,w.cell? (a1.add (t_8.toNat*1))=some (Value.int .i64 x2)/\z48_sh x2 (fun r4 w3=>let w5:=w3.alloc (Obj.cells #[(Value.string r4)] 9)
 apS 1 16 [(Value.string (str []))] 9 out_3 (Sl.mk (some (Addr.mk w3.heap.size 0 none)) 1 1) w5 fun s6 w7=>inR .i64 (t_8+(1:Int))/\N0 s6 t_6 t_7 (t_8+(1:Int)) w7) w)
 (K out_3 w)
def z4f_l0d (out_3 t_6:Sl)(t_7 t_8:Int)(K:Pw.T2)(w:World):Prop :=
 ∃ (I:Sl->Int->World->Prop) (μ:Sl->Int->World->Nat),I out_3 t_8 w/\∀ (out_31:Sl) (t_81:Int) (w1:World),I out_31 t_81 w1 ->
 z4f_b0 out_31 t_6 t_7 t_81 (fun out_3' t_6' t_7' t_8' w'=>((t_6'=t_6/\t_7'=t_7/\True)/\I out_3' t_8' w')/\μ out_3' t_8' w'<μ out_31 t_81 w1) K w1
structure z4f_l0 (out_3 t_6:Sl)(t_7 t_8:Int)(K:Pw.T2)(w:World):Prop where
 out:z4f_l0d out_3 t_6 t_7 t_8 K w
def z4f_sd (l_0:Sl)(K:Pw.T2)(w:World):Prop :=
 z4f_l0 (Sl.mk none 0 0) l_0 (l_0.l:Int) (0:Int) K w
structure z4f_sh (l_0:Sl)(K:Pw.T2)(w:World):Prop where
 out:z4f_sd l_0 K w
def z4f_L0 (Kv:VW):Cur [tL,tL,tI,tI] WP:=fun out_3 t_6 t_7 t_8=>z4f_l0 out_3 t_6 t_7 t_8 (kk [tL] Kv)
noncomputable def z4f_S:Pw.Spec:=fun vs w Kv=>un [tL] (fun l_0=>z4f_sh l_0 (kk [tL] Kv)) nF vs w
def z4f_A (Kv:VW):A:=(qr 1 (qr 1 (qs (qr 3 (qb (A.loop [3,6,7,8] (uR0 [tL,tL,tI,tI] (z4f_L0 Kv)) (qr 1 (qs (qc ql ql) (qs (qb (qr 3 (qe 6))) (qe 2))))))) (qr 2 ql))))
theorem z4f_ok:Sound Tryz.prog 57 z4f_S:=okS (x:=z4f_A) (fun Kv l_0=>z4f_sd l_0 (kk [tL] Kv)) progMixed (Γ:=[(58,z48_S)]) ⟨.inl z48_ok,trivial⟩ Tryz.call57 Tryz.func57 (fun Kv=>hStep (hLoop0 (L:=z4f_L0 Kv) (fun N0 out_3 t_6 t_7 t_8=>z4f_b0 out_3 t_6 t_7 t_8 N0 (kk [tL] Kv)) (fun⟨_,a1,a2,_,_⟩ _ h=>let ⟨I,μ,h0,hr⟩:=h.out; ⟨fun b0 b1 b2 b3 w=>(b1=a1/\b2=a2/\True)/\I b0 b3 w,fun b0 _ _ b3 w=>μ b0 b3 w,⟨⟨rfl,rfl,trivial⟩,h0⟩,fun⟨_,_,_,_,_⟩ _ ⟨⟨e1,e2,_⟩,hI⟩=>by cases e1; cases e2; exact hr _ _ _ hI⟩)) <| hEnd)
structure z03_sh (a0:Option Addr)(a1:ByteArray)(K:Int->Value->World->Prop)(w:World):Prop where
 out:Calls Tryz.prog 116 #[(Value.pointer a0),(Value.string a1)] w fun e w'=>∃ r0:Int,∃ r1:Value,e=.returned (Value.tuple #[(Value.int .i64 r0),r1])/\K r0 r1 w'
noncomputable def z03_S:Pw.Spec:=fun vs w Kv =>
 match vs with
 | [.pointer a0,.string a1]=>z03_sh a0 a1 (fun r0 r1 w'=>Kv (Value.tuple #[(Value.int .i64 r0),r1]) w') w
 | _=>False
theorem z03_ok:Sound Tryz.prog 116 z03_S:=⟨Tryz.call116,fun vs w Kv h=>by
  unfold z03_S at h
  split at h
  · exact h.out.mono fun e w' he=>by
      obtain⟨_,_,he,hk⟩:=he
      exact⟨_,he,hk⟩
  · exact h.elim⟩
def z4h_b0 (w_0:Option Addr)(t_11:Sl)(t_12 t_13:Int)(N0:Option Addr->Sl->Int->Int->World->Prop)(K:Pw.T10)(w:World):Prop :=
 cnd (decide (t_13<t_12))
 (nz t_11.p fun a4=>(0<=t_13/\t_13<(t_11.l:Nat))/\∃ x5:ByteArray,w.cell? (a4.add (t_13.toNat*1))=some (Value.string x5)/\((((str [32]).size+x5.size:Nat):Int)<=maxI)/\z03_sh w_0 ((str [32])++x5) (fun r7 r8 w6=>inR .i64 (t_13+(1:Int))/\N0 w_0 t_11 t_12 (t_13+(1:Int)) w6) w)
 (z03_sh w_0 (str [10]) (fun r10 r11 w9=>K w9) w)
def z4h_l0d (w_0:Option Addr)(t_11:Sl)(t_12 t_13:Int)(K:Pw.T10)(w:World):Prop :=
 ∃ (I:Int->World->Prop) (μ:Int->World->Nat),I t_13 w/\∀ (t_131:Int) (w1:World),I t_131 w1 ->
 z4h_b0 w_0 t_11 t_12 t_131 (fun w_0' t_11' t_12' t_13' w'=>((w_0'=w_0/\t_11'=t_11/\t_12'=t_12/\True)/\I t_13' w')/\μ t_13' w'<μ t_131 w1) K w1
structure z4h_l0 (w_0:Option Addr)(t_11:Sl)(t_12 t_13:Int)(K:Pw.T10)(w:World):Prop where
 out:z4h_l0d w_0 t_11 t_12 t_13 K w
def z4h_sd (w_0:Option Addr)(word_1:ByteArray)(parts_2:Sl)(K:Pw.T10)(w:World):Prop :=
 z03_sh w_0 word_1 (fun r2 r3 w1=>z4h_l0 w_0 parts_2 (parts_2.l:Int) (0:Int) K w1) w
structure z4h_sh (w_0:Option Addr)(word_1:ByteArray)(parts_2:Sl)(K:Pw.T10)(w:World):Prop where
 out:z4h_sd w_0 word_1 parts_2 K w
def z4h_L0 (Kv:VW):Cur [tP,tL,tI,tI] WP:=fun w_0 t_11 t_12 t_13=>z4h_l0 w_0 t_11 t_12 t_13 (kk [.u 0] Kv)
noncomputable def z4h_S:Pw.Spec:=fun vs w Kv=>un [tP,tS,tL] (fun w_0 word_1 parts_2=>z4h_sh w_0 word_1 parts_2 (kk [.u 0] Kv)) nF vs w
def z4h_A (Kv:VW):A:=(qr 3 (qs (qr 3 (qb (A.loop [0,11,12,13] (uR0 [tP,tL,tI,tI] (z4h_L0 Kv)) (qr 1 (qs (qc ql ql) (qs (qb (qr 3 (qe 4))) (qe 2))))))) (qe 2)))
theorem z4h_ok:Sound Tryz.prog 56 z4h_S:=okS (x:=z4h_A) (fun Kv w_0 word_1 parts_2=>z4h_sd w_0 word_1 parts_2 (kk [.u 0] Kv)) progMixed (Γ:=[(116,z03_S)]) ⟨.inl z03_ok,trivial⟩ Tryz.call56 Tryz.func56 (fun Kv=>hStep (hLoop0 (L:=z4h_L0 Kv) (fun N0 w_0 t_11 t_12 t_13=>z4h_b0 w_0 t_11 t_12 t_13 N0 (kk [.u 0] Kv)) (fun⟨a0,a1,a2,_,_⟩ _ h=>let ⟨I,μ,h0,hr⟩:=h.out; ⟨fun b0 b1 b2 b3 w=>(b0=a0/\b1=a1/\b2=a2/\True)/\I b3 w,fun _ _ _ b3 w=>μ b3 w,⟨⟨rfl,rfl,rfl,trivial⟩,h0⟩,fun⟨_,_,_,_,_⟩ _ ⟨⟨e0,e1,e2,_⟩,hI⟩=>by cases e0; cases e1; cases e2; exact hr _ _ hI⟩)) <| hEnd)
structure z0p_sh (a0:Option Addr)(K:Pw.T6)(w:World):Prop where
 out:Calls Tryz.prog 59 #[(Value.pointer a0)] w fun e w'=>∃ r0:ByteArray,e=.returned (Value.string r0)/\K r0 w'
noncomputable def z0p_S:Pw.Spec:=fun vs w Kv =>
 match vs with
 | [.pointer a0]=>z0p_sh a0 (fun r0 w'=>Kv (Value.string r0) w') w
 | _=>False
theorem z0p_ok:Sound Tryz.prog 59 z0p_S:=⟨Tryz.call59,fun vs w Kv h=>by
  unfold z0p_S at h
  split at h
  · exact h.out.mono fun e w' he=>by
      obtain⟨_,he,hk⟩:=he
      exact⟨_,he,hk⟩
  · exact h.elim⟩
def z3y_b0 (w_3:Addr)(t_19:Sl)(t_20 t_21:Int)(N0:Addr->Sl->Int->Int->World->Prop)(K:Pw.T6)(w:World):Prop :=
 cnd (decide (t_21<t_20))
 (nz t_19.p fun a14=>(0<=t_21/\t_21<(t_19.l:Nat))/\∃ x15:Int,w.cell? (a14.add (t_21.toNat*4))=some (Value.int .i64 x15)/\∃ x16:Int,w.cell? ((a14.add (t_21.toNat*4)).add 1)=some (Value.int .i64 x16)/\∃ x17:Int,w.cell? ((a14.add (t_21.toNat*4)).add 2)=some (Value.int .i64 x17)/\∃ x18:Sl,w.cell? ((a14.add (t_21.toNat*4)).add 3)=some (Value.slice x18.p x18.l x18.c)/\let w19:=w.alloc (Obj.cells #[(Value.int .i64 0),(Value.int .i64 0),(Value.int .i64 0),(Value.slice none 0 0)] 55)
 stN w19 (Addr.mk w.heap.size 0 none) [(Value.int .i64 x15),(Value.int .i64 x16),(Value.int .i64 x17),(Value.slice x18.p x18.l x18.c)] fun w20=>let w21:=w20.drew
 ∃ S22:World->Prop,S22 w21/\∃ x23:Int,(∀ w':World,S22 w'->w'.cell? (Addr.mk w.heap.size 1 none)=some (Value.int .i64 x23))/\∃ x24:Int,(∀ w':World,S22 w'->w'.cell? (Addr.mk w.heap.size 2 none)=some (Value.int .i64 x24))/\z48_sh x23 (fun r26 w25=>S22 w25/\(((r26.size+(str [47]).size:Nat):Int)<=maxI)/\z48_sh x24 (fun r28 w27=>S22 w27/\((((r26++(str [47])).size+r28.size:Nat):Int)<=maxI)/\let w29:=w27.drew
 ∃ S30:World->Prop,S30 w29/\∃ x31:Int,(∀ w':World,S30 w'->w'.cell? (Addr.mk w.heap.size 0 none)=some (Value.int .i64 x31))/\∃ x32:Sl,(∀ w':World,S30 w'->w'.cell? (Addr.mk w.heap.size 3 none)=some (Value.slice x32.p x32.l x32.c))/\z48_sh x31 (fun r34 w33=>S30 w33/\(let w35:=w33.alloc (Obj.cells #[(Value.string r34),(Value.string ((r26++(str [47]))++r28))] 9)
 S30 w35/\z4f_sh x32 (fun r37 w36=>S30 w36/\apS 1 16 [(Value.string (str []))] 9 (Sl.mk (some (Addr.mk w33.heap.size 0 none)) 2 2) r37 w36 fun s38 w39=>S30 w39/\z4h_sh (some w_3) (str [110,111,100,101]) s38 (fun w40=>S30 w40/\inR .i64 (t_21+(1:Int))/\N0 w_3 t_19 t_20 (t_21+(1:Int)) w40) w39) w35)
/\(z4f_sh x32 (fun r42 w41=>S30 w41/\let w43:=w41.alloc (Obj.cells #[(Value.string r34),(Value.string ((r26++(str [47]))++r28))] 9)
 S30 w43/\apS 1 16 [(Value.string (str []))] 9 (Sl.mk (some (Addr.mk w41.heap.size 0 none)) 2 2) r42 w43 fun s44 w45=>S30 w45/\z4h_sh (some w_3) (str [110,111,100,101]) s44 (fun w46=>S30 w46/\inR .i64 (t_21+(1:Int))/\N0 w_3 t_19 t_20 (t_21+(1:Int)) w46) w45) w33)) w29) w25) w21)
 (z0p_sh (some w_3) (fun r48 w47=>K r48 w47) w)
def z3y_l0d (w_3:Addr)(t_19:Sl)(t_20 t_21:Int)(K:Pw.T6)(w:World):Prop :=
 ∃ (I:Int->World->Prop) (μ:Int->World->Nat),I t_21 w/\∀ (t_211:Int) (w1:World),I t_211 w1 ->
 z3y_b0 w_3 t_19 t_20 t_211 (fun w_3' t_19' t_20' t_21' w'=>((w_3'=w_3/\t_19'=t_19/\t_20'=t_20/\True)/\I t_21' w')/\μ t_21' w'<μ t_211 w1) K w1
structure z3y_l0 (w_3:Addr)(t_19:Sl)(t_20 t_21:Int)(K:Pw.T6)(w:World):Prop where
 out:z3y_l0d w_3 t_19 t_20 t_21 K w
def z3y_sd (r_0_0:Sl)(r_0_1 r_0_2:Int)(r_0_3:Sl)(K:Pw.T6)(w:World):Prop :=
 let w1:=w.alloc (Obj.cells #[(Value.slice r_0_0.p r_0_0.l r_0_0.c),(Value.int .i64 r_0_1),(Value.int .i64 r_0_2),(Value.slice r_0_3.p r_0_3.l r_0_3.c)] 45)
 let w2:=w1.alloc (Obj.cells #[(Value.pointer none),(Value.slice none 0 0)] 105)
 ∃ x3:Sl,w2.cell? (Addr.mk w.heap.size 0 none)=some (Value.slice x3.p x3.l x3.c)/\z4f_sh x3 (fun r5 w4=>z4h_sh (some (Addr.mk w1.heap.size 0 none)) (str [116,97,107,101]) r5 (fun w6=>∃ x7:Int,w6.cell? (Addr.mk w.heap.size 1 none)=some (Value.int .i64 x7)/\∃ x8:Int,w6.cell? (Addr.mk w.heap.size 2 none)=some (Value.int .i64 x8)/\let w9:=w6.alloc (Obj.cells #[(Value.int .i64 x7),(Value.int .i64 x8)] 3)
 z4f_sh (Sl.mk (some (Addr.mk w6.heap.size 0 none)) 2 2) (fun r11 w10=>z4h_sh (some (Addr.mk w1.heap.size 0 none)) (str [112,111,105,110,116,115]) r11 (fun w12=>∃ x13:Sl,w12.cell? (Addr.mk w.heap.size 3 none)=some (Value.slice x13.p x13.l x13.c)/\z3y_l0 (Addr.mk w1.heap.size 0 none) x13 (x13.l:Int) (0:Int) K w12) w10) w9) w4) w2
structure z3y_sh (r_0_0:Sl)(r_0_1 r_0_2:Int)(r_0_3:Sl)(K:Pw.T6)(w:World):Prop where
 out:z3y_sd r_0_0 r_0_1 r_0_2 r_0_3 K w
def z3y_L0 (Kv:VW):Cur [tQ,tL,tI,tI] WP:=fun w_3 t_19 t_20 t_21=>z3y_l0 w_3 t_19 t_20 t_21 (kk [tS] Kv)
noncomputable def z3y_S:Pw.Spec:=fun vs w Kv=>un [.g 4,tL,tI,tI,tL] (fun r_0_0 r_0_1 r_0_2 r_0_3=>z3y_sh r_0_0 r_0_1 r_0_2 r_0_3 (kk [tS] Kv)) nF vs w
def z3y_A (Kv:VW):A:=(qr 2 (qr 1 (qr 4 (qr 7 (qs (qr 4 (qb (A.loop [3,19,20,21] (uR0 [tQ,tL,tI,tI] (z3y_L0 Kv)) (qr 1 (qs (qc ql ql) (qs (qb (qr 4 (qs (A.drw (dp [0,1,2,5,6,7] (DA.eff 3 (DA.pur 4 (DA.eff 8 (dp [9,10] DA.done)))))) (A.drw (dp [0,1,3,5,6] (DA.eff 2 (DA.two 4 (DA.eff 7 (DA.eff 8 (DA.eff 9 DA.done))) 7 (DA.eff 4 (DA.eff 8 (DA.eff 9 DA.done)))))))))) (qe 2))))))) (qr 2 ql))))))
theorem z3y_ok:Sound Tryz.prog 27 z3y_S:=okS (x:=z3y_A) (fun Kv r_0_0 r_0_1 r_0_2 r_0_3=>z3y_sd r_0_0 r_0_1 r_0_2 r_0_3 (kk [tS] Kv)) progMixed (Γ:=[(56,z4h_S),(57,z4f_S),(58,z48_S),(59,z0p_S)]) ⟨.inl z4h_ok,.inl z4f_ok,.inl z48_ok,.inl z0p_ok,trivial⟩ Tryz.call27 Tryz.func27 (fun Kv=>hStep (hLoop0 (L:=z3y_L0 Kv) (fun N0 w_3 t_19 t_20 t_21=>z3y_b0 w_3 t_19 t_20 t_21 N0 (kk [tS] Kv)) (fun⟨a0,a1,a2,_,_⟩ _ h=>let ⟨I,μ,h0,hr⟩:=h.out; ⟨fun b0 b1 b2 b3 w=>(b0=a0/\b1=a1/\b2=a2/\True)/\I b3 w,fun _ _ _ b3 w=>μ b3 w,⟨⟨rfl,rfl,rfl,trivial⟩,h0⟩,fun⟨_,_,_,_,_⟩ _ ⟨⟨e0,e1,e2,_⟩,hI⟩=>by cases e0; cases e1; cases e2; exact hr _ _ hI⟩)) <| hEnd)
end Go.Proofs.YtfpobpjandjhjaaGreatDoor
