/- The bodies' formulas, by program. -/
import Derived.Test.YtipjnbbfnlfmjaaGreatDoorDG1
set_option maxRecDepth 20000
namespace Go.Proofs.YtipjnbbfnlfmjaaGreatDoor
open Go Pw
structure z19_sh (p0:ByteArray)(p1:Addr)(K:Pw.Y15)(w:World):Prop where
 out:lS w p1 fun x1=>z1l_sh x1 p0 (fun r3 w2=>cnd (!r3)
  (∃ x4:Sl,w2.cell? p1=some (vS x4)/\let w5:=w2.alloc (.cells #[(vT p0)] 9)
  apS 1 16 [(vT (str []))] 9 x4 (Sl.mk (some (hA w2 0)) 1 1) w5 fun s6 w7=>wrOk w7 p1/\
  (let w8:=w7.setCell p1 (vS s6)
  K w8))
  (K w2)) w
def z19_S:=sp [tS,tQ] [.u 0] z19_sh
theorem z19_ok:okP 125 z19_S:=okR (x:=fun _=>qr 4 (qc (qe 5) ql)) (Γ:=[(73,z1l_S)]) ⟨.inl z1l_ok,trivial⟩ Tryz.call125 Tryz.func125 (fun _=>hEnd)
structure z3b_sh (p0:Int)(K:Pw.Y6)(w:World):Prop where
 out:z2e_sh p0 (fun r2 w1=>((((str [108,111,116,32]).size+r2.size:Nat):Int)<=maxI)/\K ((str [108,111,116,32])++r2) w1) w
def z3b_S:=sp [tI] [tS] z3b_sh
theorem z3b_ok:okP 22 z3b_S:=okR (x:=fun _=>qr 1 (qr 4 ql)) (Γ:=[(44,z2e_S)]) ⟨.inl z2e_ok,trivial⟩ Tryz.call22 Tryz.func22 (fun _=>hEnd)
def z1p_b2 (p3 add_4_c0:Addr)(p40 p41:Int)(N2:Addr->Addr->Int->Int->World->Prop)(K:Pw.Y5)(w:World):Prop :=
 cnd (decide (p41<p40))
 (inR .i64 (p41+1)/\z2e_sh (p41+1) (fun r29 w28=>((((str [114,101,113,117,105,114,101,32]).size+r29.size:Nat):Int)<=maxI)/\z19_sh ((str [114,101,113,117,105,114,101,32])++r29) add_4_c0 (fun w30=>inR .i64 (p41+1)/\N2 p3 add_4_c0 p40 (p41+1) w30) w28) w)
 (∃ x31:Sl,w.cell? p3=some (vS x31)/\let w32:=w.alloc (.cells #[(vT (str [114,97,110,103,101])),(vT (str [102,111,114,109,117,108,97])),(vT (str [116,105,101,115])),(vT (str [109,111,115,116])),(vT (str [99,111,109,98,111,115])),(vT (str [98,117,100,103,101,116])),(vT (str [116,105,109,101,115]))] 9)
 apS 1 16 [(vT (str []))] 9 x31 (Sl.mk (some (hA w 0)) 7 7) w32 fun s33 w34=>K s33 w34)
structure z1p_l2 (p3 add_4_c0:Addr)(p40 p41:Int)(K:Pw.Y5)(w:World):Prop where
 out:∃ (I:Int->World->Prop) (μ:Int->World->Nat),I p41 w/\∀ (p411:Int) (w1:World),I p411 w1 ->
  z1p_b2 p3 add_4_c0 p40 p411 (fun p3' add_4_c0' p40' p41' w'=>((p3'=p3/\add_4_c0'=add_4_c0/\p40'=p40/\True)/\I p41' w')/\μ p41' w'<μ p411 w1) K w1
def z1p_b1 (p1 p3 add_4_c0:Addr)(p26:Sl)(p27 p28:Int)(N1:Pw.Y17)(K:Pw.Y5)(w:World):Prop :=
 cnd (decide (p28<p27))
 (nz p26.p fun a17=>(0<=p28/\p28<(p26.l:Nat))/\lT w (a17.add (p28.toNat*5)) fun x18=>∃ x19:Int,w.cell? ((a17.add (p28.toNat*5)).add 1)=some (vI x19)/\∃ x20:Int,w.cell? ((a17.add (p28.toNat*5)).add 2)=some (vI x20)/\∃ x21:Int,w.cell? ((a17.add (p28.toNat*5)).add 3)=some (vI x21)/\∃ x22:Bool,w.cell? ((a17.add (p28.toNat*5)).add 4)=some (.bool x22)/\let w23:=w.alloc (.cells #[(vT (str [])),(vI 0),(vI 0),(vI 0),(.bool false)] 56)
 stN w23 (hA w 0) [(vT x18),(vI x19),(vI x20),(vI x21),(.bool x22)] fun w24=>lT w24 (hA w 0) fun x25=>((((str [99,114,105,116,101,114,105,111,110,32]).size+x25.size:Nat):Int)<=maxI)/\z19_sh ((str [99,114,105,116,101,114,105,111,110,32])++x25) add_4_c0 (fun w26=>inR .i64 (p28+1)/\N1 p1 p3 add_4_c0 p26 p27 (p28+1) w26) w24)
 (lS w (p1.add 3) fun x27=>z1p_l2 p3 add_4_c0 (x27.l:Int) 0 K w)
structure z1p_l1 (p1 p3 add_4_c0:Addr)(p26:Sl)(p27 p28:Int)(K:Pw.Y5)(w:World):Prop where
 out:∃ (I:Int->World->Prop) (μ:Int->World->Nat),I p28 w/\∀ (p281:Int) (w1:World),I p281 w1 ->
  z1p_b1 p1 p3 add_4_c0 p26 p27 p281 (fun p1' p3' add_4_c0' p26' p27' p28' w'=>((p1'=p1/\p3'=p3/\add_4_c0'=add_4_c0/\p26'=p26/\p27'=p27/\True)/\I p28' w')/\μ p28' w'<μ p281 w1) K w1
def z1p_b0 (p1 p3 add_4_c0:Addr)(p13:Sl)(p14 p15:Int)(N0:Pw.Y17)(K:Pw.Y5)(w:World):Prop :=
 cnd (decide (p15<p14))
 (nz p13.p fun a6=>(0<=p15/\p15<(p13.l:Nat))/\lI w (a6.add (p15.toNat*2)) fun x7=>∃ x8:Int,w.cell? ((a6.add (p15.toNat*2)).add 1)=some (vI x8)/\let w9:=w.alloc (.cells #[(vI 0),(vI 0)] 49)
 wrOk w9 (hA w 0)/\
 (let w10:=w9.setCell (hA w 0) (vI x7)
 wrOk w10 (hA w 1)/\
 (let w11:=w10.setCell (hA w 1) (vI x8)
 lI w11 (hA w 0) fun x12=>z3b_sh x12 (fun r14 w13=>z19_sh r14 add_4_c0 (fun w15=>inR .i64 (p15+1)/\N0 p1 p3 add_4_c0 p13 p14 (p15+1) w15) w13) w11)))
 (lS w (p1.add 2) fun x16=>z1p_l1 p1 p3 add_4_c0 x16 (x16.l:Int) 0 K w)
structure z1p_l0 (p1 p3 add_4_c0:Addr)(p13:Sl)(p14 p15:Int)(K:Pw.Y5)(w:World):Prop where
 out:∃ (I:Int->World->Prop) (μ:Int->World->Nat),I p15 w/\∀ (p151:Int) (w1:World),I p151 w1 ->
  z1p_b0 p1 p3 add_4_c0 p13 p14 p151 (fun p1' p3' add_4_c0' p13' p14' p15' w'=>((p1'=p1/\p3'=p3/\add_4_c0'=add_4_c0/\p13'=p13/\p14'=p14/\True)/\I p15' w')/\μ p15' w'<μ p151 w1) K w1
structure z1p_sh (p0:T43)(K:Pw.Y5)(w:World):Prop where
 out:let w1:=w.alloc (.cells (T43.cs p0).toArray 43)
  let w2:=w1.alloc (.cells #[(vT (str [110,97,109,101]))] 9)
  let w3:=w2.alloc (.cells #[vN] 39)
  wrOk w3 (hA w2 0)/\
  (let w4:=w3.setCell (hA w2 0) (.slice (some (hA w1 0)) 1 1)
  lS w4 (hA w 1) fun x5=>z1p_l0 (hA w 0) (hA w2 0) (hA w2 0) x5 (x5.l:Int) 0 K w4)
def z1p_L0 (Kv:VW):Cur [tQ,tQ,.c 125 0 1,tQ,tL,tI,tI] WP:=fun p1 p3 add_4_c0 p13 p14 p15=>z1p_l0 p1 p3 add_4_c0 p13 p14 p15 (kk [tL] Kv)
def z1p_L1 (Kv:VW):Cur [tQ,tQ,.c 125 0 1,tQ,tL,tI,tI] WP:=fun p1 p3 add_4_c0 p26 p27 p28=>z1p_l1 p1 p3 add_4_c0 p26 p27 p28 (kk [tL] Kv)
def z1p_L2 (Kv:VW):Cur [tQ,.c 125 0 1,tQ,tI,tI] WP:=fun p3 add_4_c0 p40 p41=>z1p_l2 p3 add_4_c0 p40 p41 (kk [tL] Kv)
def z1p_S:=sp (g43 []) [tL] (T43.c fun p0=>z1p_sh p0)
theorem z1p_ok:okP 79 z1p_S:=okR (x:=fun Kv=>qr 2 (qr 3 (qr 2 (qs (qr 4 (qb (A.loop [1,3,4,13,14,15] (uR0 [tQ,tQ,.c 125 0 1,tQ,tL,tI,tI] (z1p_L0 Kv)) (qr 1 (qs (qc ql ql) (qs (qb (qr 4 (qe 5))) (qe 2))))))) (qs (qr 4 (qb (A.loop [1,3,4,26,27,28] (uR0 [tQ,tQ,.c 125 0 1,tQ,tL,tI,tI] (z1p_L1 Kv)) (qr 1 (qs (qc ql ql) (qs (qb (qr 4 (qe 5))) (qe 2))))))) (qs (qr 4 (qb (A.loop [3,4,40,41] (uR0 [tQ,.c 125 0 1,tQ,tI,tI] (z1p_L2 Kv)) (qr 1 (qs (qc ql ql) (qs (qb (qr 2 (qe 6))) (qe 2))))))) (qr 4 ql))))))) (Γ:=[(22,z3b_S),(44,z2e_S),(125,z19_S)]) ⟨.inl z3b_ok,.inl z2e_ok,.inl z19_ok,trivial⟩ Tryz.call79 Tryz.func79 (fun Kv=>q08 (q0c (L:=z1p_L0 Kv) (fun N0 p1 p3 add_4_c0 p13 p14 p15=>z1p_b0 p1 p3 add_4_c0 p13 p14 p15 N0 (kk [tL] Kv)) (fun⟨a0,a1,a2,a3,a4,_,_⟩ _ h=>let ⟨I,μ,h0,hr⟩:=h.out; ⟨fun b0 b1 b2 b3 b4 b5 w=>(b0=a0/\b1=a1/\b2=a2/\b3=a3/\b4=a4/\True)/\I b5 w,fun _ _ _ _ _ b5 w=>μ b5 w,⟨⟨rfl,rfl,rfl,rfl,rfl,trivial⟩,h0⟩,fun⟨_,_,_,_,_,_,_⟩ _ ⟨⟨e0,e1,e2,e3,e4,_⟩,hI⟩=>by cases e0; cases e1; cases e2; cases e3; cases e4; exact hr _ _ hI⟩)) <| q08 (q0c (L:=z1p_L1 Kv) (fun N1 p1 p3 add_4_c0 p26 p27 p28=>z1p_b1 p1 p3 add_4_c0 p26 p27 p28 N1 (kk [tL] Kv)) (fun⟨a0,a1,a2,a3,a4,_,_⟩ _ h=>let ⟨I,μ,h0,hr⟩:=h.out; ⟨fun b0 b1 b2 b3 b4 b5 w=>(b0=a0/\b1=a1/\b2=a2/\b3=a3/\b4=a4/\True)/\I b5 w,fun _ _ _ _ _ b5 w=>μ b5 w,⟨⟨rfl,rfl,rfl,rfl,rfl,trivial⟩,h0⟩,fun⟨_,_,_,_,_,_,_⟩ _ ⟨⟨e0,e1,e2,e3,e4,_⟩,hI⟩=>by cases e0; cases e1; cases e2; cases e3; cases e4; exact hr _ _ hI⟩)) <| q08 (q0c (L:=z1p_L2 Kv) (fun N2 p3 add_4_c0 p40 p41=>z1p_b2 p3 add_4_c0 p40 p41 N2 (kk [tL] Kv)) (fun⟨a0,a1,a2,_,_⟩ _ h=>let ⟨I,μ,h0,hr⟩:=h.out; ⟨fun b0 b1 b2 b3 w=>(b0=a0/\b1=a1/\b2=a2/\True)/\I b3 w,fun _ _ _ b3 w=>μ b3 w,⟨⟨rfl,rfl,rfl,trivial⟩,h0⟩,fun⟨_,_,_,_,_⟩ _ ⟨⟨e0,e1,e2,_⟩,hI⟩=>by cases e0; cases e1; cases e2; exact hr _ _ hI⟩)) <| hEnd)
def z2i_b0 (p5 p11:Sl)(p12 p13:Int)(N0:Pw.Y27)(K:Pw.Y5)(w:World):Prop :=
 cnd (decide (p13<p12))
 (nz p11.p fun a9=>(0<=p13/\p13<(p11.l:Nat))/\lT w (a9.add (p13.toNat*1)) fun x10=>z1l_sh p5 x10 (fun r12 w11=>cnd (!r12)
 (let w13:=w11.alloc (.cells #[(vT x10)] 9)
 apS 1 16 [(vT (str []))] 9 p5 (Sl.mk (some (hA w11 0)) 1 1) w13 fun s14 w15=>inR .i64 (p13+1)/\N0 s14 p11 p12 (p13+1) w15)
 (inR .i64 (p13+1)/\N0 p5 p11 p12 (p13+1) w11)) w)
 (K p5 w)
structure z2i_l0 (p5 p11:Sl)(p12 p13:Int)(K:Pw.Y5)(w:World):Prop where
 out:∃ (I:Sl->Int->World->Prop) (μ:Sl->Int->World->Nat),I p5 p13 w/\∀ (p51:Sl) (p131:Int) (w1:World),I p51 p131 w1 ->
  z2i_b0 p51 p11 p12 p131 (fun p5' p11' p12' p13' w'=>((p11'=p11/\p12'=p12/\True)/\I p5' p13' w')/\μ p5' p13' w'<μ p51 p131 w1) K w1
structure z2i_sh (p0 p1:T43)(K:Pw.Y5)(w:World):Prop where
 out:let w1:=w.alloc (.cells (T43.cs p0).toArray 43)
  let w2:=w1.alloc (.cells (T43.cs p1).toArray 43)
  T43.ld w2 (hA w1 0) fun x3=>z1p_sh x3 (fun r5 w4=>T43.ld w4 (hA w 0) fun x6=>z1p_sh x6 (fun r8 w7=>z2i_l0 r5 r8 (r8.l:Int) 0 K w7) w4) w2
def z2i_L0 (Kv:VW):Cur [tL,tL,tI,tI] WP:=fun p5 p11 p12 p13=>z2i_l0 p5 p11 p12 p13 (kk [tL] Kv)
def z2i_S:=sp (g43 (g43 [])) [tL] (T43.c fun p0=>T43.c fun p1=>z2i_sh p0 p1)
theorem z2i_ok:okP 36 z2i_S:=okR (x:=fun Kv=>qr 3 (qr 3 (qs (qr 4 (qb (A.loop [5,11,12,13] (uR0 [tL,tL,tI,tI] (z2i_L0 Kv)) (qr 1 (qs (qc ql ql) (qs (qb (qr 3 (qr 4 (qc (qe 5) ql)))) (qe 2))))))) (qr 2 ql)))) (Γ:=[(73,z1l_S),(79,z1p_S)]) ⟨.inl z1l_ok,.inl z1p_ok,trivial⟩ Tryz.call36 Tryz.func36 (fun Kv=>q08 (q0c (L:=z2i_L0 Kv) (fun N0 p5 p11 p12 p13=>z2i_b0 p5 p11 p12 p13 N0 (kk [tL] Kv)) (fun⟨_,a1,a2,_,_⟩ _ h=>let ⟨I,μ,h0,hr⟩:=h.out; ⟨fun b0 b1 b2 b3 w=>(b1=a1/\b2=a2/\True)/\I b0 b3 w,fun b0 _ _ b3 w=>μ b0 b3 w,⟨⟨rfl,rfl,trivial⟩,h0⟩,fun⟨_,_,_,_,_⟩ _ ⟨⟨e1,e2,_⟩,hI⟩=>by cases e1; cases e2; exact hr _ _ _ hI⟩)) <| hEnd)
structure z2k_sh (p0_0:ByteArray)(p0_1 p0_2:Int)(p0_3:ByteArray)(p0_4:Sl)(p1_0:ByteArray)(p1_1 p1_2:Int)(p1_3:ByteArray)(p1_4:Sl)(K:Pw.Y0)(w:World):Prop where
 out:Calls Tryz.prog 126 #[(Value.agg #[(vT p0_0),(vI p0_1),(vI p0_2),(vT p0_3),(vS p0_4)]),(Value.agg #[(vT p1_0),(vI p1_1),(vI p1_2),(vT p1_3),(vS p1_4)])] w fun e w'=>∃ r0:Bool,e=.returned (.bool r0)/\K r0 w'
def z2k_S:Pw.Spec:=fun vs w Kv =>
 match vs with
 | [.agg ⟨[.string p0_0,.int .i64 p0_1,.int .i64 p0_2,.string p0_3,.slice a_0_4p a_0_4l a_0_4c]⟩,.agg ⟨[.string p1_0,.int .i64 p1_1,.int .i64 p1_2,.string p1_3,.slice b_1_4p b_1_4l b_1_4c]⟩]=>z2k_sh p0_0 p0_1 p0_2 p0_3 ⟨a_0_4p,a_0_4l,a_0_4c⟩ p1_0 p1_1 p1_2 p1_3 ⟨b_1_4p,b_1_4l,b_1_4c⟩ (fun r0 w'=>Kv (.bool r0) w') w
 | _=>False
theorem z2k_okr:q22 Tryz.prog 126 z2k_S:=⟨Tryz.call126,fun vs w Kv h=>by
  unfold z2k_S at h
  split at h
  · exact h.out.mono fun e w' he=>by
      obtain⟨_,he,hk⟩:=he
      exact⟨_,he,hk⟩
  · exact h.elim⟩
def z2k_sd (p0_0:ByteArray)(p0_1 p0_2:Int)(p0_3:ByteArray)(p0_4:Sl)(p1_0:ByteArray)(p1_1 p1_2:Int)(p1_3:ByteArray)(p1_4:Sl)(K:Pw.Y0)(w:World):Prop :=
 let w1:=w.alloc (.cells #[(vT p0_0),(vI p0_1),(vI p0_2),(vT p0_3),(vS p0_4)] 38)
 let w2:=w1.alloc (.cells #[(vT p1_0),(vI p1_1),(vI p1_2),(vT p1_3),(vS p1_4)] 38)
 lT w2 (hA w 0) fun x3=>lT w2 (hA w1 0) fun x4=>cnd (decide (x3=x4))
 (lI w2 (hA w 1) fun x5=>lI w2 (hA w 2) fun x6=>lI w2 (hA w1 1) fun x7=>lI w2 (hA w1 2) fun x8=>cnd (x5 == x7 && (x6 == x8 && true))
 (lT w2 (hA w 3) fun x9=>lT w2 (hA w1 3) fun x10=>cnd (decide (x9=x10))
 (lS w2 (hA w 4) fun x11=>lS w2 (hA w1 4) fun x12=>z08_sh x11 x12 (Value.func (.func 126) #[] #[]) (fun r14 w13=>K r14 w13) w2)
 (K false w2))
 (K false w2))
 (K false w2)
noncomputable def z2k_E:Pw.Env:=[(206,z08_S)]
noncomputable def z2k_C:Code:=(Tryz.f126.body).getD .skip
noncomputable def z2k_A (Kv:VW):Pw.A :=
 (qr 3 (qs (A.reg (qn 6 (RA.spl 10 (qn 7 (RA.spl 17 (qn 7 (RA.spl 24 (qn 7 RA.done) (qk 5 (qn 2 RA.done)))) (qk 5 (qn 2 (qk 5 (qn 2 RA.done)))))) (qk 5 (qn 2 (qk 5 (qn 2 (qk 5 (qn 2 RA.done))))))))) ql))
noncomputable def z2k_O (Kv:VW):List Ob:=(obs Tryz.prog z2k_E 31 (z2k_A Kv) z2k_C (fun _=>retQ Tryz.prog Tryz.f126.results Kv))
theorem z2k_e (Kv:VW)(a_0_0:ByteArray)(a_0_1 a_0_2:Int)(a_0_3:ByteArray)(a_0_4p:Option Addr)(a_0_4l a_0_4c:Nat)(b_1_0:ByteArray)(b_1_1 b_1_2:Int)(b_1_3:ByteArray)(b_1_4p:Option Addr)(b_1_4l b_1_4c:Nat)(w:World):z2k_sd a_0_0 a_0_1 a_0_2 a_0_3 ⟨a_0_4p,a_0_4l,a_0_4c⟩ b_1_0 b_1_1 b_1_2 b_1_3 ⟨b_1_4p,b_1_4l,b_1_4c⟩ (fun r0 w'=>Kv (Value.bool r0) w') w=W Tryz.prog z2k_E 31 (z2k_A Kv) z2k_C [] (retQ Tryz.prog Tryz.f126.results Kv) [] (q1d [(Value.agg #[(Value.string a_0_0),(Value.int .i64 a_0_1),(Value.int .i64 a_0_2),(Value.string a_0_3),(Value.slice a_0_4p a_0_4l a_0_4c)]),(Value.agg #[(Value.string b_1_0),(Value.int .i64 b_1_1),(Value.int .i64 b_1_2),(Value.string b_1_3),(Value.slice b_1_4p b_1_4l b_1_4c)])]) w:=by kernel_rfl
theorem z2k_n (Kv:VW):obAt (z2k_O Kv) 0=none:=by kernel_rfl
theorem z2k_h (Kv:VW):∀ k,q0e Tryz.prog z2k_E 31 (z2k_O Kv) k:=fun _=>q1a (z2k_n Kv) (Nat.zero_le _)
theorem z2k_mk (a_0_0:ByteArray)(a_0_1 a_0_2:Int)(a_0_3:ByteArray)(a_0_4p:Option Addr)(a_0_4l a_0_4c:Nat)(b_1_0:ByteArray)(b_1_1 b_1_2:Int)(b_1_3:ByteArray)(b_1_4p:Option Addr)(b_1_4l b_1_4c:Nat){K:Bool->World->Prop}{w:World}(h:z2k_sd a_0_0 a_0_1 a_0_2 a_0_3 ⟨a_0_4p,a_0_4l,a_0_4c⟩ b_1_0 b_1_1 b_1_2 b_1_3 ⟨b_1_4p,b_1_4l,b_1_4c⟩ K w):z2k_sh a_0_0 a_0_1 a_0_2 a_0_3 ⟨a_0_4p,a_0_4l,a_0_4c⟩ b_1_0 b_1_1 b_1_2 b_1_3 ⟨b_1_4p,b_1_4l,b_1_4c⟩ K w:=by
  have e:(fun r0 w'=>(fun v w'=>∃ r0:Bool,v=(Value.bool r0)/\K r0 w') (Value.bool r0) w')=K:=by
    funext r0 w'
    apply propext
    constructor
    · rintro⟨r0',hv,hk⟩
      cases hv
      exact hk
    · intro hk
      exact⟨_,rfl,hk⟩
  have h':z2k_sd a_0_0 a_0_1 a_0_2 a_0_3 ⟨a_0_4p,a_0_4l,a_0_4c⟩ b_1_0 b_1_1 b_1_2 b_1_3 ⟨b_1_4p,b_1_4l,b_1_4c⟩ (fun r0 w'=>(fun v w'=>∃ r0:Bool,v=(Value.bool r0)/\K r0 w') (Value.bool r0) w') w:=by rw[e]; exact h
  rw[z2k_e (fun v w'=>∃ r0:Bool,v=(Value.bool r0)/\K r0 w')] at h'
  refine⟨(q0z (Γ:=z2k_E) progMixed ⟨.inl z08_ok,trivial⟩ Tryz.func126 (code:=z2k_C) (by kernel_rfl) (z2k_A (fun v w'=>∃ r0:Bool,v=(Value.bool r0)/\K r0 w')) (fun v w'=>∃ r0:Bool,v=(Value.bool r0)/\K r0 w') (q15 (z2k_h (fun v w'=>∃ r0:Bool,v=(Value.bool r0)/\K r0 w'))) (Nat.le_of_ble_eq_true (by kernel_rfl)) h').mono fun e w' he=>?_⟩
  obtain⟨v,rfl,_,rfl,hk⟩:=he
  exact⟨_,rfl,hk⟩
structure z1r_sh (p0 p1:Sl)(K:Pw.Y0)(w:World):Prop where
 out:z1e_sh p0 p1 (fun r2 w1=>K r2 w1) w
def z1r_S:=sp [tL,tL] [tB] z1r_sh
theorem z1r_ok:okP 129 z1r_S:=okR (x:=fun _=>qr 1 (qr 4 ql)) (Γ:=[(130,z1e_S)]) ⟨.inl z1e_ok,trivial⟩ Tryz.call129 Tryz.func129 (fun _=>hEnd)
structure z1s_sh (p0_0 p0_1:Int)(p1:Addr)(K:Pw.Y0)(w:World):Prop where
 out:let w1:=w.alloc (.cells #[(vI p0_0),(vI p0_1)] 49)
  let w2:=w1.drew
  ∃ S3:World->Prop,S3 w2/\mI S3 (hA w 0) fun x4=>mT S3 p1 fun x5=>z3b_sh x4 (fun r7 w6=>S3 w6/\K (decide (r7=x5)) w6) w2
def z1s_S:=sp [.g 2,tI,tI,tQ] [tB] z1s_sh
theorem z1s_ok:okP 131 z1s_S:=okR (x:=fun _=>qr 2 (qs (A.drw (dp [0,1,3] (DA.eff 2 (dp [4,5] DA.done)))) ql)) (Γ:=[(22,z3b_S)]) ⟨.inl z3b_ok,trivial⟩ Tryz.call131 Tryz.func131 (fun _=>hEnd)
structure z0p_sh (p0:Sl)(p1:Value)(K:Pw.Y2)(w:World):Prop where
 out:let w1:=w.alloc (.cells #[(vI 0),(vI 0)] 49)
  z0a_sh p0 p1 (fun r3 w2=>cnd (decide (r3<0))
  (lI w2 (hA w 0) fun x4=>lI w2 (hA w 1) fun x5=>wrOk w2 (hA w 0)/\
  (let w6:=w2.setCell (hA w 0) (vI x4)
  wrOk w6 (hA w 1)/\
  (let w7:=w6.setCell (hA w 1) (vI x5)
  lI w7 (hA w 0) fun x8=>lI w7 (hA w 1) fun x9=>K x8 x9 false w7)))
  (nz p0.p fun a10=>(0<=r3/\r3<(p0.l:Nat))/\lI w2 (a10.add (r3.toNat*2)) fun x11=>∃ x12:Int,w2.cell? ((a10.add (r3.toNat*2)).add 1)=some (vI x12)/\wrOk w2 (hA w 0)/\
  (let w13:=w2.setCell (hA w 0) (vI x11)
  wrOk w13 (hA w 1)/\
  (let w14:=w13.setCell (hA w 1) (vI x12)
  lI w14 (hA w 0) fun x15=>lI w14 (hA w 1) fun x16=>K x15 x16 true w14)))) w1
def z0p_S:=sp [tL,tV] [.u 2,.g 2,tI,tI,tB] z0p_sh
theorem z0p_ok:okP 132 z0p_S:=okR (x:=fun _=>qr 2 (qr 4 (qs (qr 2 (qc (qr 3 ql) ql)) (qr 6 ql)))) (Γ:=[(47,z0a_S)]) ⟨.inl z0a_ok,trivial⟩ Tryz.call132 Tryz.func132 (fun _=>hEnd)
structure z1t_sh (p0_0:ByteArray)(p0_1 p0_2 p0_3:Int)(p0_4:Bool)(p1:Addr)(K:Pw.Y0)(w:World):Prop where
 out:let w1:=w.alloc (.cells #[(vT p0_0),(vI p0_1),(vI p0_2),(vI p0_3),(.bool p0_4)] 56)
  lT w1 (hA w 0) fun x2=>((((str [99,114,105,116,101,114,105,111,110,32]).size+x2.size:Nat):Int)<=maxI)/\lT w1 p1 fun x3=>K (decide (((str [99,114,105,116,101,114,105,111,110,32])++x2)=x3)) w1
def z1t_S:=sp [.g 5,tS,tI,tI,tI,tB,tQ] [tB] z1t_sh
theorem z1t_ok:okP 133 z1t_S:=okR (x:=fun _=>qr 2 (qr 6 ql)) (Γ:=[]) trivial Tryz.call133 Tryz.func133 (fun _=>hEnd)
structure z06_sh (p0:Sl)(p1:Value)(K:Pw.Y25)(w:World):Prop where
 out:let w1:=w.alloc (.cells #[(vT (str [])),(vI 0),(vI 0),(vI 0),(.bool false)] 56)
  z02_sh p0 p1 (fun r3 w2=>cnd (decide (r3<0))
  (lT w2 (hA w 0) fun x4=>lI w2 (hA w 1) fun x5=>lI w2 (hA w 2) fun x6=>lI w2 (hA w 3) fun x7=>lB w2 (hA w 4) fun x8=>stN w2 (hA w 0) [(vT x4),(vI x5),(vI x6),(vI x7),(.bool x8)] fun w9=>lT w9 (hA w 0) fun x10=>lI w9 (hA w 1) fun x11=>lI w9 (hA w 2) fun x12=>lI w9 (hA w 3) fun x13=>lB w9 (hA w 4) fun x14=>K x10 x11 x12 x13 x14 false w9)
  (nz p0.p fun a15=>(0<=r3/\r3<(p0.l:Nat))/\lT w2 (a15.add (r3.toNat*5)) fun x16=>∃ x17:Int,w2.cell? ((a15.add (r3.toNat*5)).add 1)=some (vI x17)/\∃ x18:Int,w2.cell? ((a15.add (r3.toNat*5)).add 2)=some (vI x18)/\∃ x19:Int,w2.cell? ((a15.add (r3.toNat*5)).add 3)=some (vI x19)/\∃ x20:Bool,w2.cell? ((a15.add (r3.toNat*5)).add 4)=some (.bool x20)/\stN w2 (hA w 0) [(vT x16),(vI x17),(vI x18),(vI x19),(.bool x20)] fun w21=>lT w21 (hA w 0) fun x22=>lI w21 (hA w 1) fun x23=>lI w21 (hA w 2) fun x24=>lI w21 (hA w 3) fun x25=>lB w21 (hA w 4) fun x26=>K x22 x23 x24 x25 x26 true w21)) w1
def z06_S:=sp [tL,tV] [.u 2,.g 5,tS,tI,tI,tI,tB,tB] z06_sh
theorem z06_ok:okP 134 z06_S:=okR (x:=fun _=>qr 2 (qr 4 (qs (qr 2 (qc (qr 3 ql) ql)) (qr 6 ql)))) (Γ:=[(85,z02_S)]) ⟨.inl z02_ok,trivial⟩ Tryz.call134 Tryz.func134 (fun _=>hEnd)
structure z1u_sh (p0:T43)(p1:ByteArray)(K:Pw.Y28)(w:World):Prop where
 out:let w1:=w.alloc (.cells (T43.cs p0).toArray 43)
  let w2:=w1.alloc (.cells #[(vT (str [])),(vT (str [])),(vI 0)] 76)
  z0t_sh p1 (str [114,101,113,117,105,114,101,32]) (fun r4 w3=>z2d_sh r4 (fun r6 r7 w5=>lS w5 (hA w 3) fun x8=>inR .i64 (r6-1)/\nz x8.p fun a9=>(0<=(r6-1)/\(r6-1)<(x8.l:Nat))/\∃ x10:ByteArray,w5.cell? (a9.add ((r6-1).toNat*3))=some (vT x10)/\∃ x11:ByteArray,w5.cell? ((a9.add ((r6-1).toNat*3)).add 1)=some (vT x11)/\∃ x12:Int,w5.cell? ((a9.add ((r6-1).toNat*3)).add 2)=some (vI x12)/\stN w5 (hA w1 0) [(vT x10),(vT x11),(vI x12)] fun w13=>lT w13 (hA w1 0) fun x14=>lT w13 (hA w1 1) fun x15=>lI w13 (hA w1 2) fun x16=>K x14 x15 x16 w13) w3) w2
def z1u_S:=sp (g43 [tS]) [.g 3,tS,tS,tI] (T43.c fun p0=>fun p1=>z1u_sh p0 p1)
theorem z1u_ok:okP 135 z1u_S:=okR (x:=fun _=>qr 2 (qr 8 (qr 7 ql))) (Γ:=[(207,z2d_S),(208,z0t_S)]) ⟨.inl z2d_ok,.inl z0t_ok,trivial⟩ Tryz.call135 Tryz.func135 (fun _=>hEnd)
structure z25_sh (p0 p1:T43)(p2:ByteArray)(K:Pw.Y0)(w:World):Prop where
 out:let w1:=w.alloc (.cells (T43.cs p0).toArray 43)
  let w2:=w1.alloc (.cells (T43.cs p1).toArray 43)
  let w3:=w2.alloc (.cells #[(vT p2)] 9)
  lT w3 (hA w2 0) fun x4=>cnd (decide (x4=(str [110,97,109,101])))
  (lT w3 (hA w 0) fun x5=>lT w3 (hA w1 0) fun x6=>K (decide (x5=x6)) w3)
  (cnd (decide (x4=(str [114,97,110,103,101])))
  (lI w3 (hA w 4) fun x7=>lI w3 (hA w1 4) fun x8=>cnd (x7 == x8)
  (lI w3 (hA w 5) fun x9=>lI w3 (hA w1 5) fun x10=>K (x9 == x10) w3)
  (K false w3))
  (cnd (decide (x4=(str [102,111,114,109,117,108,97])))
  (lT w3 (hA w 6) fun x11=>lI w3 (hA w 7) fun x12=>lI w3 (hA w 8) fun x13=>lT w3 (hA w 9) fun x14=>lS w3 (hA w 10) fun x15=>lT w3 (hA w1 6) fun x16=>lI w3 (hA w1 7) fun x17=>lI w3 (hA w1 8) fun x18=>lT w3 (hA w1 9) fun x19=>lS w3 (hA w1 10) fun x20=>z2k_sh x11 x12 x13 x14 x15 x16 x17 x18 x19 x20 (fun r22 w21=>K r22 w21) w3)
  (cnd (decide (x4=(str [116,105,101,115])))
  (lS w3 (hA w 11) fun x23=>lS w3 (hA w1 11) fun x24=>z2b_sh x23 x24 (fun r26 w25=>K r26 w25) w3)
  (cnd (decide (x4=(str [109,111,115,116])))
  (lI w3 (hA w 12) fun x27=>lI w3 (hA w1 12) fun x28=>K (x27 == x28) w3)
  (cnd (decide (x4=(str [99,111,109,98,111,115])))
  (lS w3 (hA w 13) fun x29=>lS w3 (hA w1 13) fun x30=>z1d_sh x29 x30 (Value.func (.func 129) #[] #[]) (fun r32 w31=>K r32 w31) w3)
  (cnd (decide (x4=(str [98,117,100,103,101,116])))
  (lI w3 (hA w 14) fun x33=>lI w3 (hA w1 14) fun x34=>K (x33 == x34) w3)
  (cnd (decide (x4=(str [116,105,109,101,115])))
  (lI w3 (hA w 15) fun x35=>lI w3 (hA w 16) fun x36=>lI w3 (hA w 17) fun x37=>lI w3 (hA w 18) fun x38=>lI w3 (hA w 19) fun x39=>lI w3 (hA w1 15) fun x40=>lI w3 (hA w1 16) fun x41=>lI w3 (hA w1 17) fun x42=>lI w3 (hA w1 18) fun x43=>lI w3 (hA w1 19) fun x44=>K (x35 == x40 && (x36 == x41 && (x37 == x42 && (x38 == x43 && (x39 == x44 && true))))) w3)
  (lT w3 (hA w2 0) fun x45=>z13_sh x45 (str [108,111,116,32]) (fun r47 w46=>cnd r47
  (lS w46 (hA w 1) fun x48=>z0p_sh x48 (Value.func (.func 131) #[] #[(.pointer (some (hA w2 0)))]) (fun r50_0 r50_1 r51 w49=>let w52:=w49.alloc (.cells #[(vI 0),(vI 0)] 49)
  wrOk w52 (hA w49 0)/\
  (let w53:=w52.setCell (hA w49 0) (vI r50_0)
  wrOk w53 (hA w49 1)/\
  (let w54:=w53.setCell (hA w49 1) (vI r50_1)
  lS w54 (hA w1 1) fun x55=>z0p_sh x55 (Value.func (.func 131) #[] #[(.pointer (some (hA w2 0)))]) (fun r57_0 r57_1 r58 w56=>let w59:=w56.alloc (.cells #[(vI 0),(vI 0)] 49)
  wrOk w59 (hA w56 0)/\
  (let w60:=w59.setCell (hA w56 0) (vI r57_0)
  wrOk w60 (hA w56 1)/\
  (let w61:=w60.setCell (hA w56 1) (vI r57_1)
  lI w61 (hA w49 1) fun x62=>lI w61 (hA w56 1) fun x63=>K (x62 == x63) w61))) w54))) w46)
  (lT w46 (hA w2 0) fun x64=>z13_sh x64 (str [99,114,105,116,101,114,105,111,110,32]) (fun r66 w65=>cnd r66
  (lS w65 (hA w 2) fun x67=>z06_sh x67 (Value.func (.func 133) #[] #[(.pointer (some (hA w2 0)))]) (fun r69_0 r69_1 r69_2 r69_3 r69_4 r70 w68=>let w71:=w68.alloc (.cells #[(vT (str [])),(vI 0),(vI 0),(vI 0),(.bool false)] 56)
  stN w71 (hA w68 0) [(vT r69_0),(vI r69_1),(vI r69_2),(vI r69_3),(.bool r69_4)] fun w72=>lS w72 (hA w1 2) fun x73=>z06_sh x73 (Value.func (.func 133) #[] #[(.pointer (some (hA w2 0)))]) (fun r75_0 r75_1 r75_2 r75_3 r75_4 r76 w74=>let w77:=w74.alloc (.cells #[(vT (str [])),(vI 0),(vI 0),(vI 0),(.bool false)] 56)
  stN w77 (hA w74 0) [(vT r75_0),(vI r75_1),(vI r75_2),(vI r75_3),(.bool r75_4)] fun w78=>lT w78 (hA w68 0) fun x79=>lI w78 (hA w68 1) fun x80=>lI w78 (hA w68 2) fun x81=>lI w78 (hA w68 3) fun x82=>lB w78 (hA w68 4) fun x83=>lT w78 (hA w74 0) fun x84=>lI w78 (hA w74 1) fun x85=>lI w78 (hA w74 2) fun x86=>lI w78 (hA w74 3) fun x87=>lB w78 (hA w74 4) fun x88=>K (decide (x79=x84) && (x80 == x85 && (x81 == x86 && (x82 == x87 && (x83 == x88 && true))))) w78) w72) w65)
  (let w89:=w65.drew
  ∃ S90:World->Prop,S90 w89/\T43.lds S90 (hA w 0) fun x91=>mT S90 (hA w2 0) fun x92=>T43.lds S90 (hA w1 0) fun x93=>mT S90 (hA w2 0) fun x94=>z1u_sh x91 x92 (fun r96_0 r96_1 r96_2 w95=>S90 w95/\z1u_sh x93 x94 (fun r98_0 r98_1 r98_2 w97=>S90 w97/\K (decide (r96_0=r98_0) && (decide (r96_1=r98_1) && (r96_2 == r98_2 && true))) w97) w95) w89)) w46)) w3))))))))
def z25_S:=sp (g43 (g43 [tS])) [tB] (T43.c fun p0=>T43.c fun p1=>fun p2=>z25_sh p0 p1 p2)
theorem z25_ok:okP 81 z25_S:=okR (x:=fun _=>qr 4 (qs (qr 1 (qb (qr 2 (qc (qr 6 ql) (qr 2 (qc (qs (A.reg (qn 6 (RA.spl 32 (qn 7 RA.done) (qk 5 (qn 2 RA.done))))) ql) (qr 2 (qc (qr 6 ql) (qr 2 (qc (qr 6 ql) (qr 2 (qc (qr 6 ql) (qr 2 (qc (qr 6 ql) (qr 2 (qc (qr 6 ql) (qr 2 (qc (qr 6 ql) ql)))))))))))))))))) (qs (qr 2 (qc (qr 2 (qr 10 (qr 10 (qr 6 ql)))) ql)) (qs (qr 2 (qc (qr 2 (qr 10 (qr 10 (qr 4 ql)))) ql)) (qs (A.drw (dp [0,1,3,4] (DA.eff 2 (DA.eff 5 (dp [6,7] DA.done))))) ql))))) (Γ:=[(19,z13_S),(126,z2k_S),(127,z2b_S),(128,z1d_S),(132,z0p_S),(134,z06_S),(135,z1u_S)]) ⟨.inl z13_ok,.inl z2k_okr,.inl z2b_ok,.inl z1d_ok,.inl z0p_ok,.inl z06_ok,.inl z1u_ok,trivial⟩ Tryz.call81 Tryz.func81 (fun _=>hEnd)
structure z18_sh (p0:ByteArray)(p1 p2:Addr)(p3 p4:Addr)(K:Pw.Y0)(w:World):Prop where
 out:lS w p1 fun x1=>z1l_sh x1 p0 (fun r3 w2=>cnd r3
  (lS w2 p2 fun x4=>z1l_sh x4 p0 (fun r6 w5=>cnd r6
  (T43.ld w5 p3 fun x7=>T43.ld w5 p4 fun x8=>z25_sh x7 x8 p0 (fun r10 w9=>K r10 w9) w5)
  (K false w5)) w2)
  (K false w2)) w
def z18_S:=sp [tS,tQ,tQ,tQ,tQ] [tB] z18_sh
theorem z18_ok:okP 80 z18_S:=okR (x:=fun _=>qr 1 (qs (A.reg (qn 4 (RA.spl 10 (qn 5 (RA.spl 15 (qn 6 RA.done) (qk 4 (qn 2 RA.done)))) (qk 3 (qn 2 (qk 4 (qn 2 RA.done))))))) ql)) (Γ:=[(73,z1l_S),(81,z25_S)]) ⟨.inl z1l_ok,.inl z25_ok,trivial⟩ Tryz.call80 Tryz.func80 (fun _=>hEnd)
structure z1o_sh (p0 p1:T43)(K:Pw.Y5)(w:World):Prop where
 out:let w1:=w.alloc (.cells (T43.cs p0).toArray 43)
  let w2:=w1.alloc (.cells (T43.cs p1).toArray 43)
  let w3:=w2.drew
  ∃ S4:World->Prop,S4 w3/\T43.lds S4 (hA w 0) fun x5=>T43.lds S4 (hA w1 0) fun x6=>(∀ u u':World,Ext u u'->S4 u->S4 u')/\((∀ u:World,ExtL u (u.alloc (.cells #[vN] 39)))/\(∀ u:World,ExtL u (u.alloc (.cells #[vN] 39)))/\True)/\∀ w7:World,Ext w3 w7->z1p_sh x5 (fun r9 w8=>Ext w7 w8/\∀ w10:World,Ext w8 w10->z1p_sh x6 (fun r12 w11=>Ext w10 w11/\∀ w13:World,Ext w11 w13->∀ w14:World,Ext w3 w14->ninL w14.heap.size []->Ext (w14.alloc (.cells #[vN] 39)) w13->∀ w15:World,Ext w3 w15->ninL w15.heap.size [w14.heap.size]->Ext (w15.alloc (.cells #[vN] 39)) w13->wrOk w13 (hA w14 0)/\
  (let w16:=w13.setCell (hA w14 0) (vS r9)
  S4 w16/\wrOk w16 (hA w15 0)/\
  (let w17:=w16.setCell (hA w15 0) (vS r12)
  T43.ld w17 (hA w 0) fun x18=>T43.ld w17 (hA w1 0) fun x19=>z2i_sh x18 x19 (fun r21 w20=>z11_sh r21 (Value.func (.func 80) #[] #[(.pointer (some (hA w14 0))),(.pointer (some (hA w15 0))),(.pointer (some (hA w 0))),(.pointer (some (hA w1 0)))]) (fun r23 w22=>K r23 w22) w20) w17))) w10) w7
def z1o_S:=sp (g43 (g43 [])) [tL] (T43.c fun p0=>T43.c fun p1=>z1o_sh p0 p1)
theorem z1o_ok:okP 37 z1o_S:=okR (x:=fun _=>qr 3 (qs (A.drw (dp [0,2] (DA.flo [4,5] [1,3] (DA.eff 6 (DA.eff 7 DA.done))))) (qr 6 ql))) (Γ:=[(36,z2i_S),(40,z11_S),(79,z1p_S)]) ⟨.inl z2i_ok,.inl z11_ok,.inl z1p_ok,trivial⟩ Tryz.call37 Tryz.func37 (fun _=>hEnd)
structure z1h_sh (p0:Int)(p1:Addr)(K:Pw.Y0)(w:World):Prop where
 out:let w1:=w.drew
  ∃ S2:World->Prop,S2 w1/\mT S2 p1 fun x3=>z3b_sh p0 (fun r5 w4=>S2 w4/\K (decide (r5=x3)) w4) w1
def z1h_S:=sp [tI,tQ] [tB] z1h_sh
theorem z1h_ok:okP 139 z1h_S:=okR (x:=fun _=>qr 1 (qs (A.drw (dp [0,2] (DA.eff 1 (dp [3,4] DA.done)))) ql)) (Γ:=[(22,z3b_S)]) ⟨.inl z3b_ok,trivial⟩ Tryz.call139 Tryz.func139 (fun _=>hEnd)
structure z1y_sh (p0:Sl)(p1:Addr)(K:Pw.Y0)(w:World):Prop where
 out:z09_sh p0 (Value.func (.func 139) #[] #[(.pointer (some p1))]) (fun r2 w1=>K r2 w1) w
def z1y_S:=sp [tL,tQ] [tB] z1y_sh
theorem z1y_ok:okP 138 z1y_S:=okR (x:=fun _=>qr 1 (qr 4 ql)) (Γ:=[(20,z09_S)]) ⟨.inl z09_ok,trivial⟩ Tryz.call138 Tryz.func138 (fun _=>hEnd)
structure z2j_sh (p0:Sl)(p1:Value)(K:Sl->Bool->World->Prop)(w:World):Prop where
 out:z0b_sh p0 p1 (fun r2 w1=>cnd (decide (r2<0))
  (K (Sl.mk none 0 0) false w1)
  (nz p0.p fun a3=>(0<=r2/\r2<(p0.l:Nat))/\lS w1 (a3.add (r2.toNat*1)) fun x4=>K x4 true w1)) w
def z2j_S:=sp [tL,tV] [.u 2,tL,tB] z2j_sh
theorem z2j_ok:okP 137 z2j_S:=okR (x:=fun _=>qr 2 (qr 4 (qs (qr 2 (qc (qr 3 ql) ql)) (qr 6 ql)))) (Γ:=[(210,z0b_S)]) ⟨.inl z0b_ok,trivial⟩ Tryz.call137 Tryz.func137 (fun _=>hEnd)
structure z2l_sh (p0:T43)(p1 p2:ByteArray)(K:Pw.Y0)(w:World):Prop where
 out:let w1:=w.alloc (.cells (T43.cs p0).toArray 43)
  let w2:=w1.alloc (.cells #[(vT p2)] 9)
  lT w2 (hA w1 0) fun x3=>z12_sh x3 (str [99,114,105,116,101,114,105,111,110,32]) (fun r5 r6 w4=>lT w4 (hA w1 0) fun x7=>z13_sh x7 (str [108,111,116,32]) (fun r9 w8=>z13_sh p1 (str [114,101,113,117,105,114,101,32]) (fun r11 w10=>cnd r11
  (cnd r6
  (T43.ld w10 (hA w 0) fun x12=>z1u_sh x12 p1 (fun r14_0 r14_1 r14_2 w13=>K (decide (r14_0=r5)) w13) w10)
  (K false w10))
  (cnd (decide (p1=(str [102,111,114,109,117,108,97])))
  (lT w10 (hA w 6) fun x15=>lI w10 (hA w 7) fun x16=>lI w10 (hA w 8) fun x17=>lT w10 (hA w 9) fun x18=>lS w10 (hA w 10) fun x19=>z34_sh x15 x16 x17 x18 x19 (fun r21 w20=>lT w20 (hA w1 0) fun x22=>cnd (decide (x22=(str [114,97,110,103,101])))
  (z1l_sh r21 (str [112,114,105,99,101]) (fun r24 w23=>cnd r24
  (K true w23)
  (z1l_sh r21 (str [108,111,119]) (fun r26 w25=>K r26 w25) w23)) w20)
  (cnd r6
  (z1l_sh r21 r5 (fun r28 w27=>K r28 w27) w20)
  (K false w20))) w10)
  (cnd (decide (p1=(str [116,105,101,115])))
  (lT w10 (hA w1 0) fun x29=>cnd (decide (x29=(str [114,97,110,103,101])))
  (lS w10 (hA w 11) fun x30=>z1l_sh x30 (str [112,114,105,99,101]) (fun r32 w31=>K r32 w31) w10)
  (cnd r6
  (lS w10 (hA w 11) fun x33=>z1l_sh x33 r5 (fun r35 w34=>K r35 w34) w10)
  (K false w10)))
  (cnd (decide (p1=(str [109,111,115,116])))
  (K r9 w10)
  (cnd (decide (p1=(str [98,117,100,103,101,116])))
  (cnd r9
  (K true w10)
  (lT w10 (hA w1 0) fun x36=>K (decide (x36=(str [99,111,109,98,111,115]))) w10))
  (cnd (decide (p1=(str [99,111,109,98,111,115])))
  (lS w10 (hA w 13) fun x37=>z2j_sh x37 (Value.func (.func 138) #[] #[(.pointer (some (hA w1 0)))]) (fun r39 r40 w38=>K r40 w38) w10)
  (K false w10))))))) w8) w4) w2
def z2l_S:=sp (g43 [tS,tS]) [tB] (T43.c fun p0=>fun p1 p2=>z2l_sh p0 p1 p2)
theorem z2l_ok:okP 83 z2l_S:=okR (x:=fun _=>qr 3 (qr 7 (qr 3 (qs (qb (qr 3 (qc (qs (A.reg (qn 2 (RA.spl 24 (qn 8 RA.done) (qk 6 (qn 2 RA.done))))) ql) (qr 3 (qc (qr 4 (qs (qr 2 (qc (qs (A.reg (qn 3 (RA.spl 42 (qk 2 (qn 2 RA.done)) (qn 4 RA.done)))) ql) ql)) (qs (A.reg (qn 2 (RA.spl 47 (qn 5 RA.done) (qk 3 (qn 2 RA.done))))) ql))) (qr 3 (qc (qs (qr 2 (qc (qr 4 ql) ql)) (qs (A.reg (qn 2 (RA.spl 61 (qn 6 RA.done) (qk 4 (qn 2 RA.done))))) ql)) (qr 3 (qc (qr 2 ql) (qr 3 (qc (qs (A.reg (qn 2 (RA.spl 75 (qk 2 (qn 2 RA.done)) (qn 4 RA.done)))) ql) (qr 3 (qc (qr 9 (qr 2 ql)) ql))))))))))))) (qr 1 ql))))) (Γ:=[(19,z13_S),(73,z1l_S),(119,z34_S),(135,z1u_S),(136,z12_S),(137,z2j_S)]) ⟨.inl z13_ok,.inl z1l_ok,.inl z34_ok,.inl z1u_ok,.inl z12_ok,.inl z2j_ok,trivial⟩ Tryz.call83 Tryz.func83 (fun _=>hEnd)
structure z1x_sh (p0:ByteArray)(p1 p2:Addr)(K:Pw.Y0)(w:World):Prop where
 out:T43.ld w p1 fun x1=>lT w p2 fun x2=>z2l_sh x1 x2 p0 (fun r4 w3=>K (!r4) w3) w
def z1x_S:=sp [tS,tQ,tQ] [tB] z1x_sh
theorem z1x_ok:okP 82 z1x_S:=okR (x:=fun _=>qr 1 (qr 6 ql)) (Γ:=[(83,z2l_S)]) ⟨.inl z2l_ok,trivial⟩ Tryz.call82 Tryz.func82 (fun _=>hEnd)
structure z2h_sh (p0:T43)(p1:ByteArray)(K:Pw.Y5)(w:World):Prop where
 out:let w1:=w.alloc (.cells (T43.cs p0).toArray 43)
  let w2:=w1.alloc (.cells #[(vT p1)] 9)
  T43.ld w2 (hA w 0) fun x3=>z1p_sh x3 (fun r5 w4=>lT w4 (hA w1 0) fun x6=>z1l_sh r5 x6 (fun r8 w7=>cnd (!r8)
  (K (Sl.mk none 0 0) w7)
  (z11_sh r5 (Value.func (.func 82) #[] #[(.pointer (some (hA w 0))),(.pointer (some (hA w1 0)))]) (fun r10 w9=>K r10 w9) w7)) w4) w2
def z2h_S:=sp (g43 [tS]) [tL] (T43.c fun p0=>fun p1=>z2h_sh p0 p1)
theorem z2h_ok:okP 38 z2h_S:=okR (x:=fun _=>qr 3 (qr 3 (qs (qr 4 (qc (qr 1 ql) ql)) (qr 4 ql)))) (Γ:=[(40,z11_S),(73,z1l_S),(79,z1p_S)]) ⟨.inl z11_ok,.inl z1l_ok,.inl z1p_ok,trivial⟩ Tryz.call38 Tryz.func38 (fun _=>hEnd)
structure z0u_sh (p0:ByteArray)(p1:Addr)(K:Pw.Y0)(w:World):Prop where
 out:∃ x1:Option Nat,w.cell? p1=some (.map x1)/\nzm x1 fun m2=>∃ l3:List (ByteArray × Bool),Ms w m2 (l3.map fun p=>(p.1,Value.bool p.2))/\K (q2p false p0 l3) w
def z0u_S:=sp [tS,tQ] [tB] z0u_sh
theorem z0u_ok:okP 39 z0u_S:=okR (x:=fun _=>qr 1 (qr 4 ql)) (Γ:=[]) trivial Tryz.call39 Tryz.func39 (fun _=>hEnd)
structure z0v_sh (p0:ByteArray)(p1:Addr)(K:Pw.Y0)(w:World):Prop where
 out:∃ x1:Option Nat,w.cell? p1=some (.map x1)/\nzm x1 fun m2=>∃ l3:List (ByteArray × Bool),Ms w m2 (l3.map fun p=>(p.1,Value.bool p.2))/\K (!(q2p false p0 l3)) w
def z0v_S:=sp [tS,tQ] [tB] z0v_sh
theorem z0v_ok:okP 41 z0v_S:=okR (x:=fun _=>qr 1 (qr 5 ql)) (Γ:=[]) trivial Tryz.call41 Tryz.func41 (fun _=>hEnd)
def z1g_b3 (p2 p3:Addr)(p5:Sl)(p6:Addr)(p10:ByteArray)(p29 p30:Int)(p32:Sl)(p33 p34:Int)(p40:Sl)(p41 p42:Int)(N3:Addr->Addr->Sl->Addr->ByteArray->Int->Int->Sl->Int->Int->Sl->Int->Int->World->Prop)(N2:Pw.Y14)(N1:Pw.Y11)(K:Pw.Y5)(w:World):Prop :=
 cnd (decide (p42<p41))
 (nz p40.p fun a24=>(0<=p42/\p42<(p40.l:Nat))/\T43.ld w (a24.add (p42.toNat*20)) fun x25=>let w26:=w.alloc (.cells (T43.cs (T43.mk (str []) (Sl.mk none 0 0) (Sl.mk none 0 0) (Sl.mk none 0 0) 0 0 (str []) 0 0 (str []) (Sl.mk none 0 0) (Sl.mk none 0 0) 0 (Sl.mk none 0 0) 0 0 0 0 0 0)).toArray 43)
 stN w26 (hA w 0) (T43.cs x25) fun w27=>let w28:=w27.drew
 ∃ S29:World->Prop,S29 w28/\∃ x30:Option Nat,(∀ w':World,S29 w'->w'.cell? p6=some (.map x30))/\∃ x31:Option Nat,(∀ w':World,S29 w'->w'.cell? p6=some (.map x31))/\nzm x31 fun m32=>∃ l33:List (ByteArray × Bool),Ms w28 m32 (l33.map fun p=>(p.1,Value.bool p.2))/\S29 w28/\cnd (q2p false p10 l33)
 (nzm x30 fun m34=>(∃ l:List (ByteArray × Value),Ms w28 m34 l)/\let w35:=w28.sset m34 p10 (.bool true)
 inR .i64 (p42+1)/\N3 p2 p3 p5 p6 p10 p29 p30 p32 p33 p34 p40 p41 (p42+1) w35)
 (T43.lds S29 (hA w 0) fun x36=>z2h_sh x36 p10 (fun r38 w37=>S29 w37/\z0m_sh r38 (Value.func (.func 39) #[] #[(.pointer (some p6))]) (fun r40 w39=>S29 w39/\nzm x30 fun m41=>(∃ l:List (ByteArray × Value),Ms w39 m41 l)/\let w42:=w39.sset m41 p10 (.bool r40)
 inR .i64 (p42+1)/\N3 p2 p3 p5 p6 p10 p29 p30 p32 p33 p34 p40 p41 (p42+1) w42) w37) w28))
 (inR .i64 (p34+1)/\N2 p2 p3 p5 p6 p29 p30 p32 p33 (p34+1) w)
structure z1g_l3 (p2 p3:Addr)(p5:Sl)(p6:Addr)(p10:ByteArray)(p29 p30:Int)(p32:Sl)(p33 p34:Int)(p40:Sl)(p41 p42:Int)(N2:Pw.Y14)(N1:Pw.Y11)(K:Pw.Y5)(w:World):Prop where
 out:∃ (I:Int->World->Prop) (μ:Int->World->Nat),I p42 w/\∀ (p421:Int) (w1:World),I p421 w1 ->
  z1g_b3 p2 p3 p5 p6 p10 p29 p30 p32 p33 p34 p40 p41 p421 (fun p2' p3' p5' p6' p10' p29' p30' p32' p33' p34' p40' p41' p42' w'=>((p2'=p2/\p3'=p3/\p5'=p5/\p6'=p6/\p10'=p10/\p29'=p29/\p30'=p30/\p32'=p32/\p33'=p33/\p34'=p34/\p40'=p40/\p41'=p41/\True)/\I p42' w')/\μ p42' w'<μ p421 w1) N2 N1 K w1
def z1g_b2 (p2 p3:Addr)(p5:Sl)(p6:Addr)(p29 p30:Int)(p32:Sl)(p33 p34:Int)(N2:Pw.Y14)(N1:Pw.Y11)(K:Pw.Y5)(w:World):Prop :=
 cnd (decide (p34<p33))
 (nz p32.p fun a19=>(0<=p34/\p34<(p32.l:Nat))/\lT w (a19.add (p34.toNat*1)) fun x20=>T43.ld w p2 fun x21=>T43.ld w p3 fun x22=>let w23:=w.alloc (.cells #[(vT x21.f0),(.slice x21.f1.p x21.f1.l x21.f1.c),(.slice x21.f2.p x21.f2.l x21.f2.c),(.slice x21.f3.p x21.f3.l x21.f3.c),(vI x21.f4),(vI x21.f5),(vT x21.f6),(vI x21.f7),(vI x21.f8),(vT x21.f9),(.slice x21.f10.p x21.f10.l x21.f10.c),(.slice x21.f11.p x21.f11.l x21.f11.c),(vI x21.f12),(.slice x21.f13.p x21.f13.l x21.f13.c),(vI x21.f14),(vI x21.f15),(vI x21.f16),(vI x21.f17),(vI x21.f18),(vI x21.f19),(vT x22.f0),(.slice x22.f1.p x22.f1.l x22.f1.c),(.slice x22.f2.p x22.f2.l x22.f2.c),(.slice x22.f3.p x22.f3.l x22.f3.c),(vI x22.f4),(vI x22.f5),(vT x22.f6),(vI x22.f7),(vI x22.f8),(vT x22.f9),(.slice x22.f10.p x22.f10.l x22.f10.c),(.slice x22.f11.p x22.f11.l x22.f11.c),(vI x22.f12),(.slice x22.f13.p x22.f13.l x22.f13.c),(vI x22.f14),(vI x22.f15),(vI x22.f16),(vI x22.f17),(vI x22.f18),(vI x22.f19)] 43)
 z1g_l3 p2 p3 p5 p6 x20 p29 p30 p32 p33 p34 (Sl.mk (some (hA w 0)) 2 2) 2 0 N2 N1 K w23)
 (inR .i64 (p30+1)/\N1 p2 p3 p5 p6 p29 (p30+1) w)
structure z1g_l2 (p2 p3:Addr)(p5:Sl)(p6:Addr)(p29 p30:Int)(p32:Sl)(p33 p34:Int)(N1:Pw.Y11)(K:Pw.Y5)(w:World):Prop where
 out:∃ (I:Int->World->Prop) (μ:Int->World->Nat),I p34 w/\∀ (p341:Int) (w1:World),I p341 w1 ->
  z1g_b2 p2 p3 p5 p6 p29 p30 p32 p33 p341 (fun p2' p3' p5' p6' p29' p30' p32' p33' p34' w'=>((p2'=p2/\p3'=p3/\p5'=p5/\p6'=p6/\p29'=p29/\p30'=p30/\p32'=p32/\p33'=p33/\True)/\I p34' w')/\μ p34' w'<μ p341 w1) N1 K w1
def z1g_b1 (p2 p3:Addr)(p5:Sl)(p6:Addr)(p29 p30:Int)(N1:Pw.Y11)(K:Pw.Y5)(w:World):Prop :=
 cnd (decide (p30<p29))
 (z1g_l2 p2 p3 p5 p6 p29 p30 p5 (p5.l:Int) 0 N1 K w)
 (z11_sh p5 (Value.func (.func 41) #[] #[(.pointer (some p6))]) (fun r44 w43=>K r44 w43) w)
structure z1g_l1 (p2 p3:Addr)(p5:Sl)(p6:Addr)(p29 p30:Int)(K:Pw.Y5)(w:World):Prop where
 out:∃ (I:Int->World->Prop) (μ:Int->World->Nat),I p30 w/\∀ (p301:Int) (w1:World),I p301 w1 ->
  z1g_b1 p2 p3 p5 p6 p29 p301 (fun p2' p3' p5' p6' p29' p30' w'=>((p2'=p2/\p3'=p3/\p5'=p5/\p6'=p6/\p29'=p29/\True)/\I p30' w')/\μ p30' w'<μ p301 w1) K w1
def z1g_b0 (p2 p3:Addr)(p5:Sl)(p6:Addr)(p19:Sl)(p20 p21:Int)(N0:Addr->Addr->Sl->Addr->Sl->Int->Int->World->Prop)(K:Pw.Y5)(w:World):Prop :=
 cnd (decide (p21<p20))
 (nz p19.p fun a14=>(0<=p21/\p21<(p19.l:Nat))/\lT w (a14.add (p21.toNat*1)) fun x15=>∃ x16:Option Nat,w.cell? p6=some (.map x16)/\nzm x16 fun m17=>(∃ l:List (ByteArray × Value),Ms w m17 l)/\let w18:=w.sset m17 x15 (.bool true)
 inR .i64 (p21+1)/\N0 p2 p3 p5 p6 p19 p20 (p21+1) w18)
 (z1g_l1 p2 p3 p5 p6 (p5.l:Int) 0 K w)
structure z1g_l0 (p2 p3:Addr)(p5:Sl)(p6:Addr)(p19:Sl)(p20 p21:Int)(K:Pw.Y5)(w:World):Prop where
 out:∃ (I:Int->World->Prop) (μ:Int->World->Nat),I p21 w/\∀ (p211:Int) (w1:World),I p211 w1 ->
  z1g_b0 p2 p3 p5 p6 p19 p20 p211 (fun p2' p3' p5' p6' p19' p20' p21' w'=>((p2'=p2/\p3'=p3/\p5'=p5/\p6'=p6/\p19'=p19/\p20'=p20/\True)/\I p21' w')/\μ p21' w'<μ p211 w1) K w1
structure z1g_sh (p0 p1:T43)(K:Pw.Y5)(w:World):Prop where
 out:let w1:=w.alloc (.cells (T43.cs p0).toArray 43)
  let w2:=w1.alloc (.cells (T43.cs p1).toArray 43)
  T43.ld w2 (hA w 0) fun x3=>T43.ld w2 (hA w1 0) fun x4=>z2i_sh x3 x4 (fun r6 w5=>let w7:=w5.alloc (Obj.map #[] 0)
  let w8:=w7.alloc (.cells #[(.map none)] 77)
  wrOk w8 (hA w7 0)/\
  (let w9:=w8.setCell (hA w7 0) (.map (some w5.heap.size))
  T43.ld w9 (hA w 0) fun x10=>T43.ld w9 (hA w1 0) fun x11=>z1o_sh x10 x11 (fun r13 w12=>z1g_l0 (hA w 0) (hA w1 0) r6 (hA w7 0) r13 (r13.l:Int) 0 K w12) w9)) w2
def z1g_L0 (Kv:VW):Cur [tQ,tQ,tL,tQ,tL,tI,tI] WP:=fun p2 p3 p5 p6 p19 p20 p21=>z1g_l0 p2 p3 p5 p6 p19 p20 p21 (kk [tL] Kv)
def z1g_L1 (Kv:VW):Cur [tQ,tQ,tL,tQ,tI,tI] WP:=fun p2 p3 p5 p6 p29 p30=>z1g_l1 p2 p3 p5 p6 p29 p30 (kk [tL] Kv)
def z1g_L2 (Kv:VW):Cur [tQ,tQ,tL,tQ,tI,tI] WP->Cur [tQ,tQ,tL,tQ,tI,tI,tL,tI,tI] WP:=fun N1 p2 p3 p5 p6 p29 p30 p32 p33 p34=>z1g_l2 p2 p3 p5 p6 p29 p30 p32 p33 p34 N1 (kk [tL] Kv)
def z1g_L3 (Kv:VW):Cur [tQ,tQ,tL,tQ,tI,tI,tL,tI,tI] WP->Cur [tQ,tQ,tL,tQ,tI,tI] WP->Cur [tQ,tQ,tL,tQ,tS,tI,tI,tL,tI,tI,tL,tI,tI] WP:=fun N2 N1 p2 p3 p5 p6 p10 p29 p30 p32 p33 p34 p40 p41 p42=>z1g_l3 p2 p3 p5 p6 p10 p29 p30 p32 p33 p34 p40 p41 p42 N2 N1 (kk [tL] Kv)
def z1g_S:=sp (g43 (g43 [])) [tL] (T43.c fun p0=>T43.c fun p1=>z1g_sh p0 p1)
theorem z1g_ok:okP 17 z1g_S:=okR (x:=fun Kv=>qr 3 (qr 4 (qr 3 (qs (qr 5 (qb (A.loop [2,3,5,6,19,20,21] (uR0 [tQ,tQ,tL,tQ,tL,tI,tI] (z1g_L0 Kv)) (qr 1 (qs (qc ql ql) (qs (qb (qr 3 (qe 3))) (qe 2))))))) (qs (qr 3 (qb (A.loop [2,3,5,6,29,30] (uR0 [tQ,tQ,tL,tQ,tI,tI] (z1g_L1 Kv)) (qr 1 (qs (qc ql ql) (qs (qb (qr 3 (qb (A.loop [2,3,5,6,29,30,32,33,34] (uR1 [tQ,tQ,tL,tQ,tI,tI] [tQ,tQ,tL,tQ,tI,tI,tL,tI,tI] (z1g_L2 Kv)) (qr 1 (qs (qc ql ql) (qs (qb (qr 3 (qr 5 (qb (A.loop [2,3,5,6,10,29,30,32,33,34,40,41,42] (uR2 [tQ,tQ,tL,tQ,tI,tI,tL,tI,tI] [tQ,tQ,tL,tQ,tI,tI] [tQ,tQ,tL,tQ,tS,tI,tI,tL,tI,tI,tL,tI,tI] (z1g_L3 Kv)) (qr 1 (qs (qc ql ql) (qs (qb (qr 4 (A.drw (dp [0,1,2,3] (DA.eff 4 (DA.pur 5 (DA.spl 51 (DA.skp 6 (DA.skp 7 (DA.skp 9 (DA.skp 8 (DA.skp 10 (DA.pur 11 (DA.eff 12 DA.done))))))) (dp [6,7,9] (DA.eff 8 (DA.eff 10 (DA.pur 11 (DA.eff 12 DA.done)))))))))))) (qe 2))))))))) (qe 2)))))))) (qe 2))))))) (qr 4 ql)))))) (Γ:=[(16,z0m_S),(36,z2i_S),(37,z1o_S),(38,z2h_S),(40,z11_S)]) ⟨.inl z0m_ok,.inl z2i_ok,.inl z1o_ok,.inl z2h_ok,.inl z11_ok,trivial⟩ Tryz.call17 Tryz.func17 (fun Kv=>q08 (q0c (L:=z1g_L0 Kv) (fun N0 p2 p3 p5 p6 p19 p20 p21=>z1g_b0 p2 p3 p5 p6 p19 p20 p21 N0 (kk [tL] Kv)) (fun⟨a0,a1,a2,a3,a4,a5,_,_⟩ _ h=>let ⟨I,μ,h0,hr⟩:=h.out; ⟨fun b0 b1 b2 b3 b4 b5 b6 w=>(b0=a0/\b1=a1/\b2=a2/\b3=a3/\b4=a4/\b5=a5/\True)/\I b6 w,fun _ _ _ _ _ _ b6 w=>μ b6 w,⟨⟨rfl,rfl,rfl,rfl,rfl,rfl,trivial⟩,h0⟩,fun⟨_,_,_,_,_,_,_,_⟩ _ ⟨⟨e0,e1,e2,e3,e4,e5,_⟩,hI⟩=>by cases e0; cases e1; cases e2; cases e3; cases e4; cases e5; exact hr _ _ hI⟩)) <| q08 (q0c (L:=z1g_L1 Kv) (fun N1 p2 p3 p5 p6 p29 p30=>z1g_b1 p2 p3 p5 p6 p29 p30 N1 (kk [tL] Kv)) (fun⟨a0,a1,a2,a3,a4,_,_⟩ _ h=>let ⟨I,μ,h0,hr⟩:=h.out; ⟨fun b0 b1 b2 b3 b4 b5 w=>(b0=a0/\b1=a1/\b2=a2/\b3=a3/\b4=a4/\True)/\I b5 w,fun _ _ _ _ _ b5 w=>μ b5 w,⟨⟨rfl,rfl,rfl,rfl,rfl,trivial⟩,h0⟩,fun⟨_,_,_,_,_,_,_⟩ _ ⟨⟨e0,e1,e2,e3,e4,_⟩,hI⟩=>by cases e0; cases e1; cases e2; cases e3; cases e4; exact hr _ _ hI⟩)) <| q08 (qj2 (L:=z1g_L2 Kv) (fun N1 N2 p2 p3 p5 p6 p29 p30 p32 p33 p34=>z1g_b2 p2 p3 p5 p6 p29 p30 p32 p33 p34 N2 N1 (kk [tL] Kv)) (fun _ ⟨a0,a1,a2,a3,a4,a5,a6,a7,_,_⟩ _ h=>let ⟨I,μ,h0,hr⟩:=h.out; ⟨fun b0 b1 b2 b3 b4 b5 b6 b7 b8 w=>(b0=a0/\b1=a1/\b2=a2/\b3=a3/\b4=a4/\b5=a5/\b6=a6/\b7=a7/\True)/\I b8 w,fun _ _ _ _ _ _ _ _ b8 w=>μ b8 w,⟨⟨rfl,rfl,rfl,rfl,rfl,rfl,rfl,rfl,trivial⟩,h0⟩,fun⟨_,_,_,_,_,_,_,_,_,_⟩ _ ⟨⟨e0,e1,e2,e3,e4,e5,e6,e7,_⟩,hI⟩=>by cases e0; cases e1; cases e2; cases e3; cases e4; cases e5; cases e6; cases e7; exact hr _ _ hI⟩)) <| q08 (hLoop2 (L:=z1g_L3 Kv) (fun N2 N1 N3 p2 p3 p5 p6 p10 p29 p30 p32 p33 p34 p40 p41 p42=>z1g_b3 p2 p3 p5 p6 p10 p29 p30 p32 p33 p34 p40 p41 p42 N3 N2 N1 (kk [tL] Kv)) (fun _ _ ⟨a0,a1,a2,a3,a4,a5,a6,a7,a8,a9,a10,a11,_,_⟩ _ h=>let ⟨I,μ,h0,hr⟩:=h.out; ⟨fun b0 b1 b2 b3 b4 b5 b6 b7 b8 b9 b10 b11 b12 w=>(b0=a0/\b1=a1/\b2=a2/\b3=a3/\b4=a4/\b5=a5/\b6=a6/\b7=a7/\b8=a8/\b9=a9/\b10=a10/\b11=a11/\True)/\I b12 w,fun _ _ _ _ _ _ _ _ _ _ _ _ b12 w=>μ b12 w,⟨⟨rfl,rfl,rfl,rfl,rfl,rfl,rfl,rfl,rfl,rfl,rfl,rfl,trivial⟩,h0⟩,fun⟨_,_,_,_,_,_,_,_,_,_,_,_,_,_⟩ _ ⟨⟨e0,e1,e2,e3,e4,e5,e6,e7,e8,e9,e10,e11,_⟩,hI⟩=>by cases e0; cases e1; cases e2; cases e3; cases e4; cases e5; cases e6; cases e7; cases e8; cases e9; cases e10; cases e11; exact hr _ _ hI⟩)) <| hEnd)
structure z0o_sh (p0:Int)(p1:Addr)(K:Pw.Y0)(w:World):Prop where
 out:let w1:=w.drew
  ∃ S2:World->Prop,S2 w1/\mT S2 p1 fun x3=>z3b_sh p0 (fun r5 w4=>S2 w4/\K (decide (r5=x3)) w4) w1
def z0o_S:=sp [tI,tQ] [tB] z0o_sh
theorem z0o_ok:okP 21 z0o_S:=okR (x:=fun _=>qr 1 (qs (A.drw (dp [0,2] (DA.eff 1 (dp [3,4] DA.done)))) ql)) (Γ:=[(22,z3b_S)]) ⟨.inl z3b_ok,trivial⟩ Tryz.call21 Tryz.func21 (fun _=>hEnd)
structure z1a_sh (p0:ByteArray)(p1:Addr)(K:Pw.Y0)(w:World):Prop where
 out:let w1:=w.alloc (.cells #[(vT p0)] 9)
  lT w1 (hA w 0) fun x2=>z13_sh x2 (str [108,111,116,32]) (fun r4 w3=>cnd r4
  (lS w3 p1 fun x5=>z09_sh x5 (Value.func (.func 21) #[] #[(.pointer (some (hA w 0)))]) (fun r7 w6=>K r7 w6) w3)
  (lT w3 (hA w 0) fun x8=>cnd (decide (x8=(str [110,97,109,101])))
  (cnd (decide (x8=(str [110,97,109,101])))
  (K false w3)
  (K true w3))
  (cnd (decide (x8=(str [116,105,109,101,115])))
  (cnd (decide (x8=(str [116,105,109,101,115])))
  (K false w3)
  (K true w3))
  (cnd (decide (x8=(str [109,111,115,116])))
  (cnd (decide (x8=(str [109,111,115,116])))
  (K false w3)
  (K true w3))
  (cnd (decide (x8=(str [99,111,109,98,111,115])))
  (cnd (decide (x8=(str [99,111,109,98,111,115])))
  (K false w3)
  (K true w3))
  (cnd (decide (x8=(str [98,117,100,103,101,116])))
  (K false w3)
  (K true w3))))))) w1
def z1a_S:=sp [tS,tQ] [tB] z1a_sh
theorem z1a_ok:okP 18 z1a_S:=okR (x:=fun _=>qr 2 (qs (qr 2 (qc (qr 4 ql) ql)) (qs (qr 1 (qb (qs (qr 2 (qc ql (qr 2 (qc ql (qr 2 (qc ql (qr 2 (qc ql (qe 2))))))))) (qc (qr 1 ql) ql)))) (qr 1 ql)))) (Γ:=[(19,z13_S),(20,z09_S)]) ⟨.inl z13_ok,.inl z09_ok,trivial⟩ Tryz.call18 Tryz.func18 (fun _=>hEnd)
structure z1q_sh (p0 p1:T43)(p2:Sl)(K:Pw.Y0)(w:World):Prop where
 out:let w1:=w.alloc (.cells (T43.cs p0).toArray 43)
  let w2:=w1.alloc (.cells (T43.cs p1).toArray 43)
  let w3:=w2.alloc (.cells #[(vS p2)] 25)
  T43.ld w3 (hA w 0) fun x4=>T43.ld w3 (hA w1 0) fun x5=>z1g_sh x4 x5 (fun r7 w6=>z0m_sh r7 (Value.func (.func 18) #[] #[(.pointer (some (hA w2 0)))]) (fun r9 w8=>K r9 w8) w6) w3
def z1q_S:=sp (g43 (g43 [tL])) [tB] (T43.c fun p0=>T43.c fun p1=>fun p2=>z1q_sh p0 p1 p2)
theorem z1q_ok:okP 8 z1q_S:=okR (x:=fun _=>qr 4 (qr 6 ql)) (Γ:=[(16,z0m_S),(17,z1g_S)]) ⟨.inl z0m_ok,.inl z1g_ok,trivial⟩ Tryz.call8 Tryz.func8 (fun _=>hEnd)
