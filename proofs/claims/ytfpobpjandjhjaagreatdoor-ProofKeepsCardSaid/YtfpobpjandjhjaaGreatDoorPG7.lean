/- The bodies' formulas, by program. -/
import Derived.Test.YtfpobpjandjhjaaGreatDoorProg
import Derived.KernelRfl
import Derived.Test.YtfpobpjandjhjaaGreatDoorPwY
import Derived.Test.YtfpobpjandjhjaaGreatDoorCG0
import Derived.Test.YtfpobpjandjhjaaGreatDoorCG1
import Derived.Test.YtfpobpjandjhjaaGreatDoorCG2
import Derived.Test.YtfpobpjandjhjaaGreatDoorCG3
import Derived.Test.YtfpobpjandjhjaaGreatDoorCG4
import Derived.Test.YtfpobpjandjhjaaGreatDoorCG5
import Derived.Test.YtfpobpjandjhjaaGreatDoorPG1
import Derived.Test.YtfpobpjandjhjaaGreatDoorPG2
import Derived.Test.YtfpobpjandjhjaaGreatDoorPG3
import Derived.Test.YtfpobpjandjhjaaGreatDoorPG4
import Derived.Test.YtfpobpjandjhjaaGreatDoorPG5
set_option maxRecDepth 20000
namespace Go.Proofs.YtfpobpjandjhjaaGreatDoor
open Go Pw
def z0y_sd (s_0 suffix_1:ByteArray)(K:Pw.T0)(w:World):Prop :=
 cnd (decide ((s_0.size:Int)>=(suffix_1.size:Int)))
 (inR .i64 ((s_0.size:Int)-(suffix_1.size:Int))/\(0<=((s_0.size:Int)-(suffix_1.size:Int))/\((s_0.size:Int)-(suffix_1.size:Int))<=(s_0.size:Nat))/\K (decide ((s_0.extract ((s_0.size:Int)-(suffix_1.size:Int)).toNat s_0.size)=suffix_1)) w)
 (K false w)
structure z0y_sh (s_0 suffix_1:ByteArray)(K:Pw.T0)(w:World):Prop where
 out:z0y_sd s_0 suffix_1 K w
noncomputable def z0y_S:Pw.Spec:=fun vs w Kv=>un [tS,tS] (fun s_0 suffix_1=>z0y_sh s_0 suffix_1 (kk [tB] Kv)) nF vs w
def z0y_A (_:VW):A:=(qr 1 (qs (A.reg (qn 6 (RA.spl 10 (qn 11 RA.done) (qk 9 (qn 2 RA.done))))) ql))
theorem z0y_ok:Sound Tryz.prog 168 z0y_S:=okS (x:=z0y_A) (fun Kv s_0 suffix_1=>z0y_sd s_0 suffix_1 (kk [tB] Kv)) progMixed (Γ:=[]) trivial Tryz.call168 Tryz.func168 (fun _=>hEnd)
def z0q_sd (s_0 suffix_1:ByteArray)(K:Pw.T6)(w:World):Prop :=
 z0y_sh s_0 suffix_1 (fun r2 w1=>cnd r2
 (inR .i64 ((s_0.size:Int)-(suffix_1.size:Int))/\(0<=(0:Int)/\(0:Int)<=((s_0.size:Int)-(suffix_1.size:Int))/\((s_0.size:Int)-(suffix_1.size:Int))<=(s_0.size:Nat))/\K (s_0.extract 0 ((s_0.size:Int)-(suffix_1.size:Int)).toNat) w1)
 (K s_0 w1)) w
structure z0q_sh (s_0 suffix_1:ByteArray)(K:Pw.T6)(w:World):Prop where
 out:z0q_sd s_0 suffix_1 K w
noncomputable def z0q_S:Pw.Spec:=fun vs w Kv=>un [tS,tS] (fun s_0 suffix_1=>z0q_sh s_0 suffix_1 (kk [tS] Kv)) nF vs w
def z0q_A (_:VW):A:=(qr 1 (qs (qr 3 (qc (qr 8 ql) ql)) (qr 2 ql)))
theorem z0q_ok:Sound Tryz.prog 119 z0q_S:=okS (x:=z0q_A) (fun Kv s_0 suffix_1=>z0q_sd s_0 suffix_1 (kk [tS] Kv)) progMixed (Γ:=[(168,z0y_S)]) ⟨.inl z0y_ok,trivial⟩ Tryz.call119 Tryz.func119 (fun _=>hEnd)
def z29_sd (s_0 suffix_1:ByteArray)(K:Pw.T6)(w:World):Prop :=
 z0q_sh s_0 suffix_1 (fun r2 w1=>K r2 w1) w
structure z29_sh (s_0 suffix_1:ByteArray)(K:Pw.T6)(w:World):Prop where
 out:z29_sd s_0 suffix_1 K w
noncomputable def z29_S:Pw.Spec:=fun vs w Kv=>un [tS,tS] (fun s_0 suffix_1=>z29_sh s_0 suffix_1 (kk [tS] Kv)) nF vs w
def z29_A (_:VW):A:=(qr 1 (qr 4 ql))
theorem z29_ok:Sound Tryz.prog 61 z29_S:=okS (x:=z29_A) (fun Kv s_0 suffix_1=>z29_sd s_0 suffix_1 (kk [tS] Kv)) progMixed (Γ:=[(119,z0q_S)]) ⟨.inl z0q_ok,trivial⟩ Tryz.call61 Tryz.func61 (fun _=>hEnd)
structure z3w_sh (a0 a1:ByteArray)(K:Pw.T2)(w:World):Prop where
 out:Calls Tryz.prog 60 #[(Value.string a0),(Value.string a1)] w fun e w'=>∃ r0:Sl,e=.returned (Value.slice r0.p r0.l r0.c)/\K r0 w'
noncomputable def z3w_S:Pw.Spec:=fun vs w Kv =>
 match vs with
 | [.string a0,.string a1]=>z3w_sh a0 a1 (fun r0 w'=>Kv (Value.slice r0.p r0.l r0.c) w') w
 | _=>False
theorem z3w_ok:Sound Tryz.prog 60 z3w_S:=⟨Tryz.call60,fun vs w Kv h=>by
  unfold z3w_S at h
  split at h
  · exact h.out.mono fun e w' he=>by
      obtain⟨_,he,hk⟩:=he
      exact⟨_,he,hk⟩
  · exact h.elim⟩
structure z47_sh (a0:ByteArray)(K:Int->Value->World->Prop)(w:World):Prop where
 out:Calls Tryz.prog 120 #[(Value.string a0)] w fun e w'=>∃ r0:Int,∃ r1:Value,e=.returned (Value.tuple #[(Value.int .i64 r0),r1])/\K r0 r1 w'
noncomputable def z47_S:Pw.Spec:=fun vs w Kv =>
 match vs with
 | [.string a0]=>z47_sh a0 (fun r0 r1 w'=>Kv (Value.tuple #[(Value.int .i64 r0),r1]) w') w
 | _=>False
theorem z47_ok:Sound Tryz.prog 120 z47_S:=⟨Tryz.call120,fun vs w Kv h=>by
  unfold z47_S at h
  split at h
  · exact h.out.mono fun e w' he=>by
      obtain⟨_,_,he,hk⟩:=he
      exact⟨_,he,hk⟩
  · exact h.elim⟩
def z3q_b0 (out_4 t_9:Sl)(t_10 t_11:Int)(N0:Sl->Sl->Int->Int->World->Prop)(K:Pw.T14)(w:World):Prop :=
 cnd (decide (t_11<t_10))
 (nz t_9.p fun a1=>(0<=t_11/\t_11<(t_9.l:Nat))/\∃ x2:ByteArray,w.cell? (a1.add (t_11.toNat*1))=some (Value.string x2)/\z47_sh x2 (fun r4 r5 w3=>nif r5 fun b6=>cnd (!b6)
 (K (Sl.mk none 0 0) false w3)
 (let w7:=w3.alloc (Obj.cells #[(Value.int .i64 r4)] 3)
 apS 1 8 [(Value.int .i64 0)] 3 out_4 (Sl.mk (some (Addr.mk w3.heap.size 0 none)) 1 1) w7 fun s8 w9=>inR .i64 (t_11+(1:Int))/\N0 s8 t_9 t_10 (t_11+(1:Int)) w9)) w)
 (K out_4 true w)
def z3q_l0d (out_4 t_9:Sl)(t_10 t_11:Int)(K:Pw.T14)(w:World):Prop :=
 ∃ (I:Sl->Int->World->Prop) (μ:Sl->Int->World->Nat),I out_4 t_11 w/\∀ (out_41:Sl) (t_111:Int) (w1:World),I out_41 t_111 w1 ->
 z3q_b0 out_41 t_9 t_10 t_111 (fun out_4' t_9' t_10' t_11' w'=>((t_9'=t_9/\t_10'=t_10/\True)/\I out_4' t_11' w')/\μ out_4' t_11' w'<μ out_41 t_111 w1) K w1
structure z3q_l0 (out_4 t_9:Sl)(t_10 t_11:Int)(K:Pw.T14)(w:World):Prop where
 out:z3q_l0d out_4 t_9 t_10 t_11 K w
def z3q_sd (words_0:Sl)(K:Pw.T14)(w:World):Prop :=
 z3q_l0 (Sl.mk none 0 0) words_0 (words_0.l:Int) (0:Int) K w
structure z3q_sh (words_0:Sl)(K:Pw.T14)(w:World):Prop where
 out:z3q_sd words_0 K w
def z3q_L0 (Kv:VW):Cur [tL,tL,tI,tI] WP:=fun out_4 t_9 t_10 t_11=>z3q_l0 out_4 t_9 t_10 t_11 (kk [.u 2,tL,tB] Kv)
noncomputable def z3q_S:Pw.Spec:=fun vs w Kv=>un [tL] (fun words_0=>z3q_sh words_0 (kk [.u 2,tL,tB] Kv)) nF vs w
def z3q_A (Kv:VW):A:=(qr 2 (qr 1 (qs (qr 3 (qb (A.loop [4,9,10,11] (uR0 [tL,tL,tI,tI] (z3q_L0 Kv)) (qr 1 (qs (qc ql ql) (qs (qb (qr 3 (qr 7 (qs (qr 2 (qc (qr 2 ql) ql)) (qe 5))))) (qe 2))))))) (qr 3 ql))))
theorem z3q_ok:Sound Tryz.prog 62 z3q_S:=okS (x:=z3q_A) (fun Kv words_0=>z3q_sd words_0 (kk [.u 2,tL,tB] Kv)) progMixed (Γ:=[(120,z47_S)]) ⟨.inl z47_ok,trivial⟩ Tryz.call62 Tryz.func62 (fun Kv=>hStep (hLoop0 (L:=z3q_L0 Kv) (fun N0 out_4 t_9 t_10 t_11=>z3q_b0 out_4 t_9 t_10 t_11 N0 (kk [.u 2,tL,tB] Kv)) (fun⟨_,a1,a2,_,_⟩ _ h=>let ⟨I,μ,h0,hr⟩:=h.out; ⟨fun b0 b1 b2 b3 w=>(b1=a1/\b2=a2/\True)/\I b0 b3 w,fun b0 _ _ b3 w=>μ b0 b3 w,⟨⟨rfl,rfl,trivial⟩,h0⟩,fun⟨_,_,_,_,_⟩ _ ⟨⟨e1,e2,_⟩,hI⟩=>by cases e1; cases e2; exact hr _ _ _ hI⟩)) <| hEnd)
structure z4l_sh (a0 a1:ByteArray)(K:ByteArray->ByteArray->Bool->World->Prop)(w:World):Prop where
 out:Calls Tryz.prog 121 #[(Value.string a0),(Value.string a1)] w fun e w'=>∃ r0:ByteArray,∃ r1:ByteArray,∃ r2:Bool,e=.returned (Value.tuple #[(Value.string r0),(Value.string r1),(Value.bool r2)])/\K r0 r1 r2 w'
noncomputable def z4l_S:Pw.Spec:=fun vs w Kv =>
 match vs with
 | [.string a0,.string a1]=>z4l_sh a0 a1 (fun r0 r1 r2 w'=>Kv (Value.tuple #[(Value.string r0),(Value.string r1),(Value.bool r2)]) w') w
 | _=>False
theorem z4l_ok:Sound Tryz.prog 121 z4l_S:=⟨Tryz.call121,fun vs w Kv h=>by
  unfold z4l_S at h
  split at h
  · exact h.out.mono fun e w' he=>by
      obtain⟨_,_,_,he,hk⟩:=he
      exact⟨_,he,hk⟩
  · exact h.elim⟩
def z4q_k0d (t_2:Addr)(K:Pw.T15)(w:World):Prop :=
 stN w t_2 [(Value.int .i64 0),(Value.int .i64 0),(Value.int .i64 0),(Value.slice none 0 0)] fun w22=>∃ x23:Int,w22.cell? t_2=some (Value.int .i64 x23)/\∃ x24:Int,w22.cell? (t_2.add 1)=some (Value.int .i64 x24)/\∃ x25:Int,w22.cell? (t_2.add 2)=some (Value.int .i64 x25)/\∃ x26:Sl,w22.cell? (t_2.add 3)=some (Value.slice x26.p x26.l x26.c)/\K x23 x24 x25 x26 false w22
structure z4q_k0 (t_2:Addr)(K:Pw.T15)(w:World):Prop where
 out:z4q_k0d t_2 K w
def z4q_sd (words_0:Sl)(K:Pw.T15)(w:World):Prop :=
 let w1:=w.alloc (Obj.cells #[(Value.int .i64 0),(Value.int .i64 0),(Value.int .i64 0),(Value.slice none 0 0)] 55)
 cnd (decide ((words_0.l:Int)<(2:Int)))
 (stN w1 (Addr.mk w.heap.size 0 none) [(Value.int .i64 0),(Value.int .i64 0),(Value.int .i64 0),(Value.slice none 0 0)] fun w2=>∃ x3:Int,w2.cell? (Addr.mk w.heap.size 0 none)=some (Value.int .i64 x3)/\∃ x4:Int,w2.cell? (Addr.mk w.heap.size 1 none)=some (Value.int .i64 x4)/\∃ x5:Int,w2.cell? (Addr.mk w.heap.size 2 none)=some (Value.int .i64 x5)/\∃ x6:Sl,w2.cell? (Addr.mk w.heap.size 3 none)=some (Value.slice x6.p x6.l x6.c)/\K x3 x4 x5 x6 false w2)
 (nz words_0.p fun a7=>(0<=(1:Int)/\(1:Int)<(words_0.l:Nat))/\∃ x8:ByteArray,w1.cell? (a7.add ((1:Int).toNat*1))=some (Value.string x8)/\z4l_sh x8 (str [47]) (fun r10 r11 r12 w9=>nz words_0.p fun a13=>(0<=(0:Int)/\(0:Int)<(words_0.l:Nat))/\∃ x14:ByteArray,w9.cell? (a13.add ((0:Int).toNat*1))=some (Value.string x14)/\let w15:=w9.alloc (Obj.cells #[(Value.string x14),(Value.string r10),(Value.string r11)] 9)
 z3q_sh (Sl.mk (some (Addr.mk w9.heap.size 0 none)) 3 3) (fun r17 r18 w16=>(0<=(2:Int)/\(2:Int)<=(words_0.l:Nat))/\z3q_sh (Sl.mk (subP words_0.p 2 words_0.c 1) (words_0.l-2) (words_0.c-2)) (fun r20 r21 w19=>cnd (!r18)
 (z4q_k0 (Addr.mk w.heap.size 0 none) K w19)
 (cnd (!r21)
 (z4q_k0 (Addr.mk w.heap.size 0 none) K w19)
 (let w27:=w19.drew
 ∃ S28:World->Prop,S28 w27/\nz r17.p fun a29=>(0<=(0:Int)/\(0:Int)<(r17.l:Nat))/\∃ x30:Int,(∀ w':World,S28 w'->w'.cell? (a29.add ((0:Int).toNat*1))=some (Value.int .i64 x30))/\nz r17.p fun a31=>(0<=(1:Int)/\(1:Int)<(r17.l:Nat))/\∃ x32:Int,(∀ w':World,S28 w'->w'.cell? (a31.add ((1:Int).toNat*1))=some (Value.int .i64 x32))/\nz r17.p fun a33=>(0<=(2:Int)/\(2:Int)<(r17.l:Nat))/\∃ x34:Int,(∀ w':World,S28 w'->w'.cell? (a33.add ((2:Int).toNat*1))=some (Value.int .i64 x34))/\stN w27 (Addr.mk w.heap.size 0 none) [(Value.int .i64 x30),(Value.int .i64 x32),(Value.int .i64 x34),(Value.slice r20.p r20.l r20.c)] fun w35=>∃ x36:Int,w35.cell? (Addr.mk w.heap.size 0 none)=some (Value.int .i64 x36)/\∃ x37:Int,w35.cell? (Addr.mk w.heap.size 1 none)=some (Value.int .i64 x37)/\∃ x38:Int,w35.cell? (Addr.mk w.heap.size 2 none)=some (Value.int .i64 x38)/\∃ x39:Sl,w35.cell? (Addr.mk w.heap.size 3 none)=some (Value.slice x39.p x39.l x39.c)/\K x36 x37 x38 x39 true w35))) w16) w15) w1)
structure z4q_sh (words_0:Sl)(K:Pw.T15)(w:World):Prop where
 out:z4q_sd words_0 K w
def z4q_L0 (Kv:VW):Cur [tQ] WP:=fun t_2=>z4q_k0 t_2 (kk [.u 2,.g 4,tI,tI,tI,tL,tB] Kv)
noncomputable def z4q_S:Pw.Spec:=fun vs w Kv=>un [tL] (fun words_0=>z4q_sh words_0 (kk [.u 2,.g 4,tI,tI,tI,tL,tB] Kv)) nF vs w
def z4q_A (Kv:VW):A:=(qr 2 (qs (qr 3 (qc (qr 3 ql) ql)) (qr 11 (qr 12 (qr 8 (qs (qs (A.reg (qn 3 (RA.spl 41 (qk 2 (qn 1 RA.done)) (qn 3 RA.done)))) (qc (A.cut [2] (uR0 [tQ] (z4q_L0 Kv)) (qr 3 ql)) ql)) (qs (A.drw (dp [0,1,2,3,4,5,6,7,8,9,10,11] (DA.eff 12 (DA.pur 13 DA.done)))) ql)))))))
theorem z4q_ok:Sound Tryz.prog 63 z4q_S:=okS (x:=z4q_A) (fun Kv words_0=>z4q_sd words_0 (kk [.u 2,.g 4,tI,tI,tI,tL,tB] Kv)) progMixed (Γ:=[(62,z3q_S),(121,z4l_S)]) ⟨.inl z3q_ok,.inl z4l_ok,trivial⟩ Tryz.call63 Tryz.func63 (fun Kv=>hStep (hCut0 (F:=z4q_L0 Kv) (G:=fun t_2=>z4q_k0d t_2 (kk [.u 2,.g 4,tI,tI,tI,tL,tB] Kv))) <| hEnd)
def z3x_k1d (s_0:ByteArray)(t_2 r_4:Addr)(ok_8:Bool)(t_13:Sl)(t_14 t_15:Int)(N0:ByteArray->Addr->Addr->Sl->Int->Int->World->Prop)(K:Pw.T7)(w:World):Prop :=
 cnd (!ok_8)
 (stN w t_2 [(Value.slice none 0 0),(Value.int .i64 0),(Value.int .i64 0),(Value.slice none 0 0)] fun w40=>∃ x41:Sl,w40.cell? t_2=some (Value.slice x41.p x41.l x41.c)/\∃ x42:Int,w40.cell? (t_2.add 1)=some (Value.int .i64 x42)/\∃ x43:Int,w40.cell? (t_2.add 2)=some (Value.int .i64 x43)/\∃ x44:Sl,w40.cell? (t_2.add 3)=some (Value.slice x44.p x44.l x44.c)/\K x41 x42 x43 x44 (11:Int) w40)
 (inR .i64 (t_15+(1:Int))/\N0 s_0 t_2 r_4 t_13 t_14 (t_15+(1:Int)) w)
structure z3x_k1 (s_0:ByteArray)(t_2 r_4:Addr)(ok_8:Bool)(t_13:Sl)(t_14 t_15:Int)(N0:ByteArray->Addr->Addr->Sl->Int->Int->World->Prop)(K:Pw.T7)(w:World):Prop where
 out:z3x_k1d s_0 t_2 r_4 ok_8 t_13 t_14 t_15 N0 K w
def z3x_b0 (s_0:ByteArray)(t_2 r_4:Addr)(t_13:Sl)(t_14 t_15:Int)(N0:ByteArray->Addr->Addr->Sl->Int->Int->World->Prop)(K:Pw.T7)(w:World):Prop :=
 cnd (decide (t_15<t_14))
 (nz t_13.p fun a7=>(0<=t_15/\t_15<(t_13.l:Nat))/\∃ x8:ByteArray,w.cell? (a7.add (t_15.toNat*1))=some (Value.string x8)/\z3w_sh x8 (str [32]) (fun r10 w9=>cnd (t_15 == (0:Int))
 ((0<=(1:Int)/\(1:Int)<=(r10.l:Nat))/\z3q_sh (Sl.mk (subP r10.p 1 r10.c 1) (r10.l-1) (r10.c-1)) (fun r12 r13 w11=>wrOk w11 r_4/\
 (let w14:=w11.setCell r_4 (Value.slice r12.p r12.l r12.c)
 z3x_k1 s_0 t_2 r_4 r13 t_13 t_14 t_15 N0 K w14)) w9)
 (cnd (t_15 == (1:Int))
 ((0<=(1:Int)/\(1:Int)<=(r10.l:Nat))/\z3q_sh (Sl.mk (subP r10.p 1 r10.c 1) (r10.l-1) (r10.c-1)) (fun r16 r17 w15=>cnd r17
 (cnd ((r16.l:Int) == (2:Int))
 (let w18:=w15.drew
 ∃ S19:World->Prop,S19 w18/\nz r16.p fun a20=>(0<=(0:Int)/\(0:Int)<(r16.l:Nat))/\∃ x21:Int,(∀ w':World,S19 w'->w'.cell? (a20.add ((0:Int).toNat*1))=some (Value.int .i64 x21))/\nz r16.p fun a22=>(0<=(1:Int)/\(1:Int)<(r16.l:Nat))/\∃ x23:Int,(∀ w':World,S19 w'->w'.cell? (a22.add ((1:Int).toNat*1))=some (Value.int .i64 x23))/\wrOk w18 (r_4.add 1)/\
 (let w24:=w18.setCell (r_4.add 1) (Value.int .i64 x21)
 S19 w24/\wrOk w24 (r_4.add 2)/\
 (let w25:=w24.setCell (r_4.add 2) (Value.int .i64 x23)
 z3x_k1 s_0 t_2 r_4 r17 t_13 t_14 t_15 N0 K w25)))
 (z3x_k1 s_0 t_2 r_4 r17 t_13 t_14 t_15 N0 K w15))
 (z3x_k1 s_0 t_2 r_4 r17 t_13 t_14 t_15 N0 K w15)) w9)
 (let w26:=w9.alloc (Obj.cells #[(Value.int .i64 0),(Value.int .i64 0),(Value.int .i64 0),(Value.slice none 0 0)] 55)
 (0<=(1:Int)/\(1:Int)<=(r10.l:Nat))/\z4q_sh (Sl.mk (subP r10.p 1 r10.c 1) (r10.l-1) (r10.c-1)) (fun r28_0 r28_1 r28_2 r28_3 r29 w27=>stN w27 (Addr.mk w9.heap.size 0 none) [(Value.int .i64 r28_0),(Value.int .i64 r28_1),(Value.int .i64 r28_2),(Value.slice r28_3.p r28_3.l r28_3.c)] fun w30=>∃ x31:Sl,w30.cell? (r_4.add 3)=some (Value.slice x31.p x31.l x31.c)/\∃ x32:Int,w30.cell? (Addr.mk w9.heap.size 0 none)=some (Value.int .i64 x32)/\∃ x33:Int,w30.cell? (Addr.mk w9.heap.size 1 none)=some (Value.int .i64 x33)/\∃ x34:Int,w30.cell? (Addr.mk w9.heap.size 2 none)=some (Value.int .i64 x34)/\∃ x35:Sl,w30.cell? (Addr.mk w9.heap.size 3 none)=some (Value.slice x35.p x35.l x35.c)/\let w36:=w30.alloc (Obj.cells #[(Value.int .i64 x32),(Value.int .i64 x33),(Value.int .i64 x34),(Value.slice x35.p x35.l x35.c)] 55)
 apS 4 48 [(Value.int .i64 0),(Value.int .i64 0),(Value.int .i64 0),(Value.slice none 0 0)] 55 x31 (Sl.mk (some (Addr.mk w30.heap.size 0 none)) 1 1) w36 fun s37 w38=>wrOk w38 (r_4.add 3)/\
 (let w39:=w38.setCell (r_4.add 3) (Value.slice s37.p s37.l s37.c)
 z3x_k1 s_0 t_2 r_4 r29 t_13 t_14 t_15 N0 K w39)) w26))) w)
 (∃ x45:Sl,w.cell? r_4=some (Value.slice x45.p x45.l x45.c)/\∃ x46:Int,w.cell? (r_4.add 1)=some (Value.int .i64 x46)/\∃ x47:Int,w.cell? (r_4.add 2)=some (Value.int .i64 x47)/\∃ x48:Sl,w.cell? (r_4.add 3)=some (Value.slice x48.p x48.l x48.c)/\z3y_sh x45 x46 x47 x48 (fun r50 w49=>cnd (!decide (r50=s_0))
 (stN w49 t_2 [(Value.slice none 0 0),(Value.int .i64 0),(Value.int .i64 0),(Value.slice none 0 0)] fun w51=>∃ x52:Sl,w51.cell? t_2=some (Value.slice x52.p x52.l x52.c)/\∃ x53:Int,w51.cell? (t_2.add 1)=some (Value.int .i64 x53)/\∃ x54:Int,w51.cell? (t_2.add 2)=some (Value.int .i64 x54)/\∃ x55:Sl,w51.cell? (t_2.add 3)=some (Value.slice x55.p x55.l x55.c)/\K x52 x53 x54 x55 (11:Int) w51)
 (∃ x56:Sl,w49.cell? r_4=some (Value.slice x56.p x56.l x56.c)/\∃ x57:Int,w49.cell? (r_4.add 1)=some (Value.int .i64 x57)/\∃ x58:Int,w49.cell? (r_4.add 2)=some (Value.int .i64 x58)/\∃ x59:Sl,w49.cell? (r_4.add 3)=some (Value.slice x59.p x59.l x59.c)/\stN w49 t_2 [(Value.slice x56.p x56.l x56.c),(Value.int .i64 x57),(Value.int .i64 x58),(Value.slice x59.p x59.l x59.c)] fun w60=>∃ x61:Sl,w60.cell? t_2=some (Value.slice x61.p x61.l x61.c)/\∃ x62:Int,w60.cell? (t_2.add 1)=some (Value.int .i64 x62)/\∃ x63:Int,w60.cell? (t_2.add 2)=some (Value.int .i64 x63)/\∃ x64:Sl,w60.cell? (t_2.add 3)=some (Value.slice x64.p x64.l x64.c)/\K x61 x62 x63 x64 (0:Int) w60)) w)
def z3x_l0d (s_0:ByteArray)(t_2 r_4:Addr)(t_13:Sl)(t_14 t_15:Int)(K:Pw.T7)(w:World):Prop :=
 ∃ (I:Int->World->Prop) (μ:Int->World->Nat),I t_15 w/\∀ (t_151:Int) (w1:World),I t_151 w1 ->
 z3x_b0 s_0 t_2 r_4 t_13 t_14 t_151 (fun s_0' t_2' r_4' t_13' t_14' t_15' w'=>((s_0'=s_0/\t_2'=t_2/\r_4'=r_4/\t_13'=t_13/\t_14'=t_14/\True)/\I t_15' w')/\μ t_15' w'<μ t_151 w1) K w1
structure z3x_l0 (s_0:ByteArray)(t_2 r_4:Addr)(t_13:Sl)(t_14 t_15:Int)(K:Pw.T7)(w:World):Prop where
 out:z3x_l0d s_0 t_2 r_4 t_13 t_14 t_15 K w
def z3x_sd (s_0:ByteArray)(K:Pw.T7)(w:World):Prop :=
 let w1:=w.alloc (Obj.cells #[(Value.slice none 0 0),(Value.int .i64 0),(Value.int .i64 0),(Value.slice none 0 0)] 45)
 let w2:=w1.alloc (Obj.cells #[(Value.slice none 0 0),(Value.int .i64 0),(Value.int .i64 0),(Value.slice none 0 0)] 45)
 z29_sh s_0 (str [10]) (fun r4 w3=>z3w_sh r4 (str [10]) (fun r6 w5=>z3x_l0 s_0 (Addr.mk w.heap.size 0 none) (Addr.mk w1.heap.size 0 none) r6 (r6.l:Int) (0:Int) K w5) w3) w2
structure z3x_sh (s_0:ByteArray)(K:Pw.T7)(w:World):Prop where
 out:z3x_sd s_0 K w
def z3x_L0 (Kv:VW):Cur [tS,tQ,tQ,tL,tI,tI] WP:=fun s_0 t_2 r_4 t_13 t_14 t_15=>z3x_l0 s_0 t_2 r_4 t_13 t_14 t_15 (kk [.u 2,.g 4,tL,tI,tI,tL,tI] Kv)
def z3x_L1 (Kv:VW):Cur [tS,tQ,tQ,tL,tI,tI] WP->Cur [tS,tQ,tQ,tB,tL,tI,tI] WP:=fun N0 s_0 t_2 r_4 ok_8 t_13 t_14 t_15=>z3x_k1 s_0 t_2 r_4 ok_8 t_13 t_14 t_15 N0 (kk [.u 2,.g 4,tL,tI,tI,tL,tI] Kv)
noncomputable def z3x_S:Pw.Spec:=fun vs w Kv=>un [tS] (fun s_0=>z3x_sh s_0 (kk [.u 2,.g 4,tL,tI,tI,tL,tI] Kv)) nF vs w
def z3x_A (Kv:VW):A:=(qr 2 (qr 1 (qs (qr 5 (qb (A.loop [0,2,4,13,14,15] (uR0 [tS,tQ,tQ,tL,tI,tI] (z3x_L0 Kv)) (qr 1 (qs (qc ql ql) (qs (qb (qr 5 (qr 3 (qr 1 (qs (qr 1 (qb (qr 2 (qc (qe 9) (qr 2 (qc (qr 1 (qr 8 (qs (A.reg (qn 2 (RA.spl 53 (qn 4 RA.done) (qk 3 (qn 1 RA.done))))) (qc (A.drw (dp [0,1,2,3,4,5,6] (DA.eff 7 (DA.pur 8 (DA.eff 9 DA.done))))) ql)))) (qr 1 (qr 8 (qe 7))))))))) (A.cut [0,2,4,8,13,14,15] (uR1 [tS,tQ,tQ,tL,tI,tI] [tS,tQ,tQ,tB,tL,tI,tI] (z3x_L1 Kv)) (qr 2 (qc (qr 3 ql) ql)))))))) (qe 2))))))) (qs (qr 4 (qc (qr 3 ql) ql)) (qr 3 ql)))))
theorem z3x_ok:Sound Tryz.prog 28 z3x_S:=okS (x:=z3x_A) (fun Kv s_0=>z3x_sd s_0 (kk [.u 2,.g 4,tL,tI,tI,tL,tI] Kv)) progMixed (Γ:=[(27,z3y_S),(60,z3w_S),(61,z29_S),(62,z3q_S),(63,z4q_S)]) ⟨.inl z3y_ok,.inl z3w_ok,.inl z29_ok,.inl z3q_ok,.inl z4q_ok,trivial⟩ Tryz.call28 Tryz.func28 (fun Kv=>hStep (hLoop0 (L:=z3x_L0 Kv) (fun N0 s_0 t_2 r_4 t_13 t_14 t_15=>z3x_b0 s_0 t_2 r_4 t_13 t_14 t_15 N0 (kk [.u 2,.g 4,tL,tI,tI,tL,tI] Kv)) (fun⟨a0,a1,a2,a3,a4,_,_⟩ _ h=>let ⟨I,μ,h0,hr⟩:=h.out; ⟨fun b0 b1 b2 b3 b4 b5 w=>(b0=a0/\b1=a1/\b2=a2/\b3=a3/\b4=a4/\True)/\I b5 w,fun _ _ _ _ _ b5 w=>μ b5 w,⟨⟨rfl,rfl,rfl,rfl,rfl,trivial⟩,h0⟩,fun⟨_,_,_,_,_,_,_⟩ _ ⟨⟨e0,e1,e2,e3,e4,_⟩,hI⟩=>by cases e0; cases e1; cases e2; cases e3; cases e4; exact hr _ _ hI⟩)) <| hStep (hCut1 (F:=z3x_L1 Kv) (G:=fun N0 s_0 t_2 r_4 ok_8 t_13 t_14 t_15=>z3x_k1d s_0 t_2 r_4 ok_8 t_13 t_14 t_15 N0 (kk [.u 2,.g 4,tL,tI,tI,tL,tI] Kv))) <| hEnd)
end Go.Proofs.YtfpobpjandjhjaaGreatDoor
