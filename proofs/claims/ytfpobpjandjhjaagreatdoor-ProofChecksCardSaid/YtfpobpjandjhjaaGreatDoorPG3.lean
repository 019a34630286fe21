/- The bodies' formulas, by program. -/
import Derived.Test.YtfpobpjandjhjaaGreatDoorPG2
set_option maxRecDepth 20000
namespace Go.Proofs.YtfpobpjandjhjaaGreatDoor
open Go Pw
structure z3o_sh (a0:Int)(K:Pw.T27)(w:World):Prop where
 out:Calls Tryz.prog 58 #[(vI a0)] w fun e w'=>∃ r0:ByteArray,e=.returned (Value.string r0)/\K r0 w'
noncomputable def z3o_S:Pw.Spec:=fun vs w Kv =>
 match vs with
 | [.int .i64 a0]=>z3o_sh a0 (fun r0 w'=>Kv (Value.string r0) w') w
 | _=>False
theorem z3o_ok:q3e Tryz.prog 58 z3o_S:=⟨Tryz.call58,fun vs w Kv h=>by
  unfold z3o_S at h
  split at h
  · exact h.out.mono fun e w' he=>by
      obtain⟨_,he,hk⟩:=he
      exact⟨_,he,hk⟩
  · exact h.elim⟩
def z3v_b0 (p3 p6:Sl)(p7 p8:Int)(N0:Sl->Sl->Int->Int->World->Prop)(K:Pw.T4)(w:World):Prop :=
 cnd (decide (p8<p7))
 (nz p6.p fun a1=>(0<=p8/\p8<(p6.l:Nat))/\lI w (a1.add (p8.toNat*1)) fun x2=>z3o_sh x2 (fun r4 w3=>let w5:=w3.alloc (.cells #[(Value.string r4)] 9)
 apS 1 16 [(Value.string (str []))] 9 p3 (Sl.mk (some (hA w3 0)) 1 1) w5 fun s6 w7=>inR .i64 (p8+1)/\N0 s6 p6 p7 (p8+1) w7) w)
 (K p3 w)
structure z3v_l0 (p3 p6:Sl)(p7 p8:Int)(K:Pw.T4)(w:World):Prop where
 out:∃ (I:Sl->Int->World->Prop) (μ:Sl->Int->World->Nat),I p3 p8 w/\∀ (p31:Sl) (p81:Int) (w1:World),I p31 p81 w1 ->
  z3v_b0 p31 p6 p7 p81 (fun p3' p6' p7' p8' w'=>((p6'=p6/\p7'=p7/\True)/\I p3' p8' w')/\μ p3' p8' w'<μ p31 p81 w1) K w1
structure z3v_sh (p0:Sl)(K:Pw.T4)(w:World):Prop where
 out:z3v_l0 (Sl.mk none 0 0) p0 (p0.l:Int) 0 K w
def z3v_L0 (Kv:VW):Cur [tL,tL,tI,tI] WP:=fun p3 p6 p7 p8=>z3v_l0 p3 p6 p7 p8 (kk [tL] Kv)
noncomputable def z3v_S:=sp [tL] [tL] z3v_sh
theorem z3v_ok:okP 57 z3v_S:=okR (x:=fun Kv=>qr 1 (qr 1 (qs (qr 3 (qb (A.loop [3,6,7,8] (uR0 [tL,tL,tI,tI] (z3v_L0 Kv)) (qr 1 (qs (qc ql ql) (qs (qb (qr 3 (qe 6))) (qe 2))))))) (qr 2 ql)))) (Γ:=[(58,z3o_S)]) ⟨.inl z3o_ok,trivial⟩ Tryz.call57 Tryz.func57 (fun Kv=>q07 (q0a (L:=z3v_L0 Kv) (fun N0 p3 p6 p7 p8=>z3v_b0 p3 p6 p7 p8 N0 (kk [tL] Kv)) (fun⟨_,a1,a2,_,_⟩ _ h=>let ⟨I,μ,h0,hr⟩:=h.out; ⟨fun b0 b1 b2 b3 w=>(b1=a1/\b2=a2/\True)/\I b0 b3 w,fun b0 _ _ b3 w=>μ b0 b3 w,⟨⟨rfl,rfl,trivial⟩,h0⟩,fun⟨_,_,_,_,_⟩ _ ⟨⟨e1,e2,_⟩,hI⟩=>by cases e1; cases e2; exact hr _ _ _ hI⟩)) <| hEnd)
structure z02_sh (a0:Option Addr)(a1:ByteArray)(K:Int->Value->World->Prop)(w:World):Prop where
 out:Calls Tryz.prog 116 #[(.pointer a0),(Value.string a1)] w fun e w'=>∃ r0:Int,∃ r1:Value,e=.returned (.tuple #[(vI r0),r1])/\K r0 r1 w'
noncomputable def z02_S:Pw.Spec:=fun vs w Kv =>
 match vs with
 | [.pointer a0,.string a1]=>z02_sh a0 a1 (fun r0 r1 w'=>Kv (.tuple #[(vI r0),r1]) w') w
 | _=>False
theorem z02_ok:q3e Tryz.prog 116 z02_S:=⟨Tryz.call116,fun vs w Kv h=>by
  unfold z02_S at h
  split at h
  · exact h.out.mono fun e w' he=>by
      obtain⟨_,_,he,hk⟩:=he
      exact⟨_,he,hk⟩
  · exact h.elim⟩
def z3x_b0 (p0:Option Addr)(p11:Sl)(p12 p13:Int)(N0:Option Addr->Sl->Int->Int->World->Prop)(K:Pw.T35)(w:World):Prop :=
 cnd (decide (p13<p12))
 (nz p11.p fun a4=>(0<=p13/\p13<(p11.l:Nat))/\∃ x5:ByteArray,w.cell? (a4.add (p13.toNat*1))=some (Value.string x5)/\((((str [32]).size+x5.size:Nat):Int)<=maxI)/\z02_sh p0 ((str [32])++x5) (fun r7 r8 w6=>inR .i64 (p13+1)/\N0 p0 p11 p12 (p13+1) w6) w)
 (z02_sh p0 (str [10]) (fun r10 r11 w9=>K w9) w)
structure z3x_l0 (p0:Option Addr)(p11:Sl)(p12 p13:Int)(K:Pw.T35)(w:World):Prop where
 out:∃ (I:Int->World->Prop) (μ:Int->World->Nat),I p13 w/\∀ (p131:Int) (w1:World),I p131 w1 ->
  z3x_b0 p0 p11 p12 p131 (fun p0' p11' p12' p13' w'=>((p0'=p0/\p11'=p11/\p12'=p12/\True)/\I p13' w')/\μ p13' w'<μ p131 w1) K w1
structure z3x_sh (p0:Option Addr)(p1:ByteArray)(p2:Sl)(K:Pw.T35)(w:World):Prop where
 out:z02_sh p0 p1 (fun r2 r3 w1=>z3x_l0 p0 p2 (p2.l:Int) 0 K w1) w
def z3x_L0 (Kv:VW):Cur [tP,tL,tI,tI] WP:=fun p0 p11 p12 p13=>z3x_l0 p0 p11 p12 p13 (kk [.u 0] Kv)
noncomputable def z3x_S:=sp [tP,tS,tL] [.u 0] z3x_sh
theorem z3x_ok:okP 56 z3x_S:=okR (x:=fun Kv=>qr 3 (qs (qr 3 (qb (A.loop [0,11,12,13] (uR0 [tP,tL,tI,tI] (z3x_L0 Kv)) (qr 1 (qs (qc ql ql) (qs (qb (qr 3 (qe 4))) (qe 2))))))) (qe 2))) (Γ:=[(116,z02_S)]) ⟨.inl z02_ok,trivial⟩ Tryz.call56 Tryz.func56 (fun Kv=>q07 (q0a (L:=z3x_L0 Kv) (fun N0 p0 p11 p12 p13=>z3x_b0 p0 p11 p12 p13 N0 (kk [.u 0] Kv)) (fun⟨a0,a1,a2,_,_⟩ _ h=>let ⟨I,μ,h0,hr⟩:=h.out; ⟨fun b0 b1 b2 b3 w=>(b0=a0/\b1=a1/\b2=a2/\True)/\I b3 w,fun _ _ _ b3 w=>μ b3 w,⟨⟨rfl,rfl,rfl,trivial⟩,h0⟩,fun⟨_,_,_,_,_⟩ _ ⟨⟨e0,e1,e2,_⟩,hI⟩=>by cases e0; cases e1; cases e2; exact hr _ _ hI⟩)) <| hEnd)
structure z0g_sh (a0:Option Addr)(K:Pw.T27)(w:World):Prop where
 out:Calls Tryz.prog 59 #[(.pointer a0)] w fun e w'=>∃ r0:ByteArray,e=.returned (Value.string r0)/\K r0 w'
noncomputable def z0g_S:Pw.Spec:=fun vs w Kv =>
 match vs with
 | [.pointer a0]=>z0g_sh a0 (fun r0 w'=>Kv (Value.string r0) w') w
 | _=>False
theorem z0g_ok:q3e Tryz.prog 59 z0g_S:=⟨Tryz.call59,fun vs w Kv h=>by
  unfold z0g_S at h
  split at h
  · exact h.out.mono fun e w' he=>by
      obtain⟨_,he,hk⟩:=he
      exact⟨_,he,hk⟩
  · exact h.elim⟩
def z3f_b0 (p3:Addr)(p19:Sl)(p20 p21:Int)(N0:Pw.T32)(K:Pw.T27)(w:World):Prop :=
 cnd (decide (p21<p20))
 (nz p19.p fun a14=>(0<=p21/\p21<(p19.l:Nat))/\lI w (a14.add (p21.toNat*4)) fun x15=>∃ x16:Int,w.cell? ((a14.add (p21.toNat*4)).add 1)=some (vI x16)/\∃ x17:Int,w.cell? ((a14.add (p21.toNat*4)).add 2)=some (vI x17)/\∃ x18:Sl,w.cell? ((a14.add (p21.toNat*4)).add 3)=some (vS x18)/\let w19:=w.alloc (.cells #[(vI 0),(vI 0),(vI 0),vN] 55)
 stN w19 (hA w 0) [(vI x15),(vI x16),(vI x17),(vS x18)] fun w20=>let w21:=w20.drew
 ∃ S22:World->Prop,S22 w21/\mI S22 (hA w 1) fun x23=>mI S22 (hA w 2) fun x24=>z3o_sh x23 (fun r26 w25=>S22 w25/\(((r26.size+(str [47]).size:Nat):Int)<=maxI)/\z3o_sh x24 (fun r28 w27=>S22 w27/\((((r26++(str [47])).size+r28.size:Nat):Int)<=maxI)/\let w29:=w27.drew
 ∃ S30:World->Prop,S30 w29/\mI S30 (hA w 0) fun x31=>mS S30 (hA w 3) fun x32=>z3o_sh x31 (fun r34 w33=>S30 w33/\(let w35:=w33.alloc (.cells #[(Value.string r34),(Value.string ((r26++(str [47]))++r28))] 9)
 S30 w35/\z3v_sh x32 (fun r37 w36=>S30 w36/\apS 1 16 [(Value.string (str []))] 9 (Sl.mk (some (hA w33 0)) 2 2) r37 w36 fun s38 w39=>S30 w39/\z3x_sh (some p3) (str [110,111,100,101]) s38 (fun w40=>S30 w40/\inR .i64 (p21+1)/\N0 p3 p19 p20 (p21+1) w40) w39) w35)
/\(z3v_sh x32 (fun r42 w41=>S30 w41/\let w43:=w41.alloc (.cells #[(Value.string r34),(Value.string ((r26++(str [47]))++r28))] 9)
 S30 w43/\apS 1 16 [(Value.string (str []))] 9 (Sl.mk (some (hA w41 0)) 2 2) r42 w43 fun s44 w45=>S30 w45/\z3x_sh (some p3) (str [110,111,100,101]) s44 (fun w46=>S30 w46/\inR .i64 (p21+1)/\N0 p3 p19 p20 (p21+1) w46) w45) w33)) w29) w25) w21)
 (z0g_sh (some p3) (fun r48 w47=>K r48 w47) w)
structure z3f_l0 (p3:Addr)(p19:Sl)(p20 p21:Int)(K:Pw.T27)(w:World):Prop where
 out:∃ (I:Int->World->Prop) (μ:Int->World->Nat),I p21 w/\∀ (p211:Int) (w1:World),I p211 w1 ->
  z3f_b0 p3 p19 p20 p211 (fun p3' p19' p20' p21' w'=>((p3'=p3/\p19'=p19/\p20'=p20/\True)/\I p21' w')/\μ p21' w'<μ p211 w1) K w1
structure z3f_sh (p0_0:Sl)(p0_1 p0_2:Int)(p0_3:Sl)(K:Pw.T27)(w:World):Prop where
 out:let w1:=w.alloc (.cells #[(vS p0_0),(vI p0_1),(vI p0_2),(vS p0_3)] 45)
  let w2:=w1.alloc (.cells #[(.pointer none),vN] 105)
  lS w2 (hA w 0) fun x3=>z3v_sh x3 (fun r5 w4=>z3x_sh (some (hA w1 0)) (str [116,97,107,101]) r5 (fun w6=>lI w6 (hA w 1) fun x7=>∃ x8:Int,w6.cell? (hA w 2)=some (vI x8)/\let w9:=w6.alloc (.cells #[(vI x7),(vI x8)] 3)
  z3v_sh (Sl.mk (some (hA w6 0)) 2 2) (fun r11 w10=>z3x_sh (some (hA w1 0)) (str [112,111,105,110,116,115]) r11 (fun w12=>lS w12 (hA w 3) fun x13=>z3f_l0 (hA w1 0) x13 (x13.l:Int) 0 K w12) w10) w9) w4) w2
def z3f_L0 (Kv:VW):Cur [tQ,tL,tI,tI] WP:=fun p3 p19 p20 p21=>z3f_l0 p3 p19 p20 p21 (kk [tS] Kv)
noncomputable def z3f_S:=sp [.g 4,tL,tI,tI,tL] [tS] z3f_sh
theorem z3f_ok:okP 27 z3f_S:=okR (x:=fun Kv=>qr 2 (qr 1 (qr 4 (qr 7 (qs (qr 4 (qb (A.loop [3,19,20,21] (uR0 [tQ,tL,tI,tI] (z3f_L0 Kv)) (qr 1 (qs (qc ql ql) (qs (qb (qr 4 (qs (A.drw (dp [0,1,2,5,6,7] (DA.eff 3 (DA.pur 4 (DA.eff 8 (dp [9,10] DA.done)))))) (A.drw (dp [0,1,3,5,6] (DA.eff 2 (DA.two 4 (DA.eff 7 (DA.eff 8 (DA.eff 9 DA.done))) 7 (DA.eff 4 (DA.eff 8 (DA.eff 9 DA.done)))))))))) (qe 2))))))) (qr 2 ql)))))) (Γ:=[(56,z3x_S),(57,z3v_S),(58,z3o_S),(59,z0g_S)]) ⟨.inl z3x_ok,.inl z3v_ok,.inl z3o_ok,.inl z0g_ok,trivial⟩ Tryz.call27 Tryz.func27 (fun Kv=>q07 (q0a (L:=z3f_L0 Kv) (fun N0 p3 p19 p20 p21=>z3f_b0 p3 p19 p20 p21 N0 (kk [tS] Kv)) (fun⟨a0,a1,a2,_,_⟩ _ h=>let ⟨I,μ,h0,hr⟩:=h.out; ⟨fun b0 b1 b2 b3 w=>(b0=a0/\b1=a1/\b2=a2/\True)/\I b3 w,fun _ _ _ b3 w=>μ b3 w,⟨⟨rfl,rfl,rfl,trivial⟩,h0⟩,fun⟨_,_,_,_,_⟩ _ ⟨⟨e0,e1,e2,_⟩,hI⟩=>by cases e0; cases e1; cases e2; exact hr _ _ hI⟩)) <| hEnd)
end Go.Proofs.YtfpobpjandjhjaaGreatDoor
