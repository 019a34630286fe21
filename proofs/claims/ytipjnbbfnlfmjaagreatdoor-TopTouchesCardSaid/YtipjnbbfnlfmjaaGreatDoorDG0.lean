/- The bodies' formulas, by program. -/
import Derived.Test.YtipjnbbfnlfmjaaGreatDoorCG1
set_option maxRecDepth 20000
namespace Go.Proofs.YtipjnbbfnlfmjaaGreatDoor
open Go Pw
structure z2e_sh (a0:Int)(K:Pw.Y6)(w:World):Prop where
 out:Calls Tryz.prog 44 #[(vI a0)] w fun e w'=>∃ r0:ByteArray,e=.returned (vT r0)/\K r0 w'
def z2e_S:Pw.Spec:=fun vs w Kv =>
 match vs with
 | [.int .i64 a0]=>z2e_sh a0 (fun r0 w'=>Kv (vT r0) w') w
 | _=>False
theorem z2e_ok:q22 Tryz.prog 44 z2e_S:=⟨Tryz.call44,fun vs w Kv h=>by
  unfold z2e_S at h
  split at h
  · exact h.out.mono fun e w' he=>by
      obtain⟨_,he,hk⟩:=he
      exact⟨_,he,hk⟩
  · exact h.elim⟩
structure z14_sh (a0 a1:ByteArray)(K:Pw.Y6)(w:World):Prop where
 out:Calls Tryz.prog 331 #[(vT a0),(vT a1)] w fun e w'=>∃ r0:ByteArray,e=.returned (vT r0)/\K r0 w'
def z14_S:Pw.Spec:=fun vs w Kv =>
 match vs with
 | [.string a0,.string a1]=>z14_sh a0 a1 (fun r0 w'=>Kv (vT r0) w') w
 | _=>False
theorem z14_ok:q22 Tryz.prog 331 z14_S:=⟨Tryz.call331,fun vs w Kv h=>by
  unfold z14_S at h
  split at h
  · exact h.out.mono fun e w' he=>by
      obtain⟨_,he,hk⟩:=he
      exact⟨_,he,hk⟩
  · exact h.elim⟩
def z2b_b0 (s1_0 s2_1:Sl)(p12 p13:Int)(N0:Pw.Y27)(K:Pw.Y0)(w:World):Prop :=
 cnd (decide (p13<p12))
 (let w1:=w.drew
 nz s1_0.p fun a2=>(0<=p13/\p13<(s1_0.l:Nat))/\lT w1 (a2.add (p13.toNat*1)) fun x3=>nz s2_1.p fun a4=>(0<=p13/\p13<(s2_1.l:Nat))/\lT w1 (a4.add (p13.toNat*1)) fun x5=>cnd (!decide (x3=x5))
 (K false w1)
 (inR .i64 (p13+1)/\N0 s1_0 s2_1 p12 (p13+1) w1))
 (K true w)
structure z2b_l0 (s1_0 s2_1:Sl)(p12 p13:Int)(K:Pw.Y0)(w:World):Prop where
 out:∃ (I:Int->World->Prop) (μ:Int->World->Nat),I p13 w/\∀ (p131:Int) (w1:World),I p131 w1 ->
  z2b_b0 s1_0 s2_1 p12 p131 (fun s1_0' s2_1' p12' p13' w'=>((s1_0'=s1_0/\s2_1'=s2_1/\p12'=p12/\True)/\I p13' w')/\μ p13' w'<μ p131 w1) K w1
structure z2b_sh (s1_0 s2_1:Sl)(K:Pw.Y0)(w:World):Prop where
 out:cnd ((s1_0.l:Int) != (s2_1.l:Int))
  (K false w)
  (z2b_l0 s1_0 s2_1 (s1_0.l:Int) 0 K w)
def z2b_L0 (Kv:VW):Cur [tL,tL,tI,tI] WP:=fun s1_0 s2_1 p12 p13=>z2b_l0 s1_0 s2_1 p12 p13 (kk [tB] Kv)
def z2b_S:=sp [tL,tL] [tB] z2b_sh
theorem z2b_ok:okP 127 z2b_S:=okR (x:=fun Kv=>qr 1 (qs (qr 5 (qc (qr 1 ql) ql)) (qs (qr 3 (qb (A.loop [0,1,12,13] (uR0 [tL,tL,tI,tI] (z2b_L0 Kv)) (qr 1 (qs (qc ql ql) (qs (qb (qr 2 (qs (A.drp (dp [0,1,2,3,4,5,6,7,8] DA.done)) (qc (qr 1 ql) ql)))) (qe 2))))))) (qr 1 ql)))) (Γ:=[]) trivial Tryz.call127 Tryz.func127 (fun Kv=>q08 (q0c (L:=z2b_L0 Kv) (fun N0 s1_0 s2_1 p12 p13=>z2b_b0 s1_0 s2_1 p12 p13 N0 (kk [tB] Kv)) (fun⟨a0,a1,a2,_,_⟩ _ h=>let ⟨I,μ,h0,hr⟩:=h.out; ⟨fun b0 b1 b2 b3 w=>(b0=a0/\b1=a1/\b2=a2/\True)/\I b3 w,fun _ _ _ b3 w=>μ b3 w,⟨⟨rfl,rfl,rfl,trivial⟩,h0⟩,fun⟨_,_,_,_,_⟩ _ ⟨⟨e0,e1,e2,_⟩,hI⟩=>by cases e0; cases e1; cases e2; exact hr _ _ hI⟩)) <| hEnd)
def z1d_b0 (s2_1:Sl)(p2:Value)(p15:Sl)(p16 p17:Int)(N0:Pw.Y30)(K:Pw.Y0)(w:World):Prop :=
 cnd (decide (p17<p16))
 (nz p15.p fun a1=>(0<=p17/\p17<(p15.l:Nat))/\lS w (a1.add (p17.toNat*1)) fun x2=>nz s2_1.p fun a3=>(0<=p17/\p17<(s2_1.l:Nat))/\lS w (a3.add (p17.toNat*1)) fun x4=>q14 Tryz.prog p2 [(vS x2),(vS x4)] w fun u5 w6=>∃ x7:Bool,u5=(.bool x7)/\cnd (!x7)
 (K false w6)
 (inR .i64 (p17+1)/\N0 s2_1 p2 p15 p16 (p17+1) w6))
 (K true w)
structure z1d_l0 (s2_1:Sl)(p2:Value)(p15:Sl)(p16 p17:Int)(K:Pw.Y0)(w:World):Prop where
 out:∃ (I:Int->World->Prop) (μ:Int->World->Nat),I p17 w/\∀ (p171:Int) (w1:World),I p171 w1 ->
  z1d_b0 s2_1 p2 p15 p16 p171 (fun s2_1' p2' p15' p16' p17' w'=>((s2_1'=s2_1/\p2'=p2/\p15'=p15/\p16'=p16/\True)/\I p17' w')/\μ p17' w'<μ p171 w1) K w1
structure z1d_sh (s1_0 s2_1:Sl)(p2:Value)(K:Pw.Y0)(w:World):Prop where
 out:cnd ((s1_0.l:Int) != (s2_1.l:Int))
  (K false w)
  (z1d_l0 s2_1 p2 s1_0 (s1_0.l:Int) 0 K w)
def z1d_L0 (Kv:VW):Cur [tL,tV,tL,tI,tI] WP:=fun s2_1 p2 p15 p16 p17=>z1d_l0 s2_1 p2 p15 p16 p17 (kk [tB] Kv)
def z1d_S:=sp [tL,tL,tV] [tB] z1d_sh
theorem z1d_ok:okP 128 z1d_S:=okR (x:=fun Kv=>qr 1 (qs (qr 5 (qc (qr 1 ql) ql)) (qs (qr 3 (qb (A.loop [1,2,15,16,17] (uR0 [tL,tV,tL,tI,tI] (z1d_L0 Kv)) (qr 1 (qs (qc ql ql) (qs (qb (qr 5 (qr 5 (qs (A.reg (qn 3 (RA.dyn (Value.bool false) (qn 1 RA.done)))) (qc (qr 1 ql) ql))))) (qe 2))))))) (qr 1 ql)))) (Γ:=[]) trivial Tryz.call128 Tryz.func128 (fun Kv=>q08 (q0c (L:=z1d_L0 Kv) (fun N0 s2_1 p2 p15 p16 p17=>z1d_b0 s2_1 p2 p15 p16 p17 N0 (kk [tB] Kv)) (fun⟨a0,a1,a2,a3,_,_⟩ _ h=>let ⟨I,μ,h0,hr⟩:=h.out; ⟨fun b0 b1 b2 b3 b4 w=>(b0=a0/\b1=a1/\b2=a2/\b3=a3/\True)/\I b4 w,fun _ _ _ _ b4 w=>μ b4 w,⟨⟨rfl,rfl,rfl,rfl,trivial⟩,h0⟩,fun⟨_,_,_,_,_,_⟩ _ ⟨⟨e0,e1,e2,e3,_⟩,hI⟩=>by cases e0; cases e1; cases e2; cases e3; exact hr _ _ hI⟩)) <| hEnd)
def z1e_b0 (s1_0 s2_1:Sl)(p12 p13:Int)(N0:Pw.Y27)(K:Pw.Y0)(w:World):Prop :=
 cnd (decide (p13<p12))
 (let w1:=w.drew
 nz s1_0.p fun a2=>(0<=p13/\p13<(s1_0.l:Nat))/\lI w1 (a2.add (p13.toNat*1)) fun x3=>nz s2_1.p fun a4=>(0<=p13/\p13<(s2_1.l:Nat))/\lI w1 (a4.add (p13.toNat*1)) fun x5=>cnd (x3 != x5)
 (K false w1)
 (inR .i64 (p13+1)/\N0 s1_0 s2_1 p12 (p13+1) w1))
 (K true w)
structure z1e_l0 (s1_0 s2_1:Sl)(p12 p13:Int)(K:Pw.Y0)(w:World):Prop where
 out:∃ (I:Int->World->Prop) (μ:Int->World->Nat),I p13 w/\∀ (p131:Int) (w1:World),I p131 w1 ->
  z1e_b0 s1_0 s2_1 p12 p131 (fun s1_0' s2_1' p12' p13' w'=>((s1_0'=s1_0/\s2_1'=s2_1/\p12'=p12/\True)/\I p13' w')/\μ p13' w'<μ p131 w1) K w1
structure z1e_sh (s1_0 s2_1:Sl)(K:Pw.Y0)(w:World):Prop where
 out:cnd ((s1_0.l:Int) != (s2_1.l:Int))
  (K false w)
  (z1e_l0 s1_0 s2_1 (s1_0.l:Int) 0 K w)
def z1e_L0 (Kv:VW):Cur [tL,tL,tI,tI] WP:=fun s1_0 s2_1 p12 p13=>z1e_l0 s1_0 s2_1 p12 p13 (kk [tB] Kv)
def z1e_S:=sp [tL,tL] [tB] z1e_sh
theorem z1e_ok:okP 130 z1e_S:=okR (x:=fun Kv=>qr 1 (qs (qr 5 (qc (qr 1 ql) ql)) (qs (qr 3 (qb (A.loop [0,1,12,13] (uR0 [tL,tL,tI,tI] (z1e_L0 Kv)) (qr 1 (qs (qc ql ql) (qs (qb (qr 2 (qs (A.drp (dp [0,1,2,3,4,5,6,7,8] DA.done)) (qc (qr 1 ql) ql)))) (qe 2))))))) (qr 1 ql)))) (Γ:=[]) trivial Tryz.call130 Tryz.func130 (fun Kv=>q08 (q0c (L:=z1e_L0 Kv) (fun N0 s1_0 s2_1 p12 p13=>z1e_b0 s1_0 s2_1 p12 p13 N0 (kk [tB] Kv)) (fun⟨a0,a1,a2,_,_⟩ _ h=>let ⟨I,μ,h0,hr⟩:=h.out; ⟨fun b0 b1 b2 b3 w=>(b0=a0/\b1=a1/\b2=a2/\True)/\I b3 w,fun _ _ _ b3 w=>μ b3 w,⟨⟨rfl,rfl,rfl,trivial⟩,h0⟩,fun⟨_,_,_,_,_⟩ _ ⟨⟨e0,e1,e2,_⟩,hI⟩=>by cases e0; cases e1; cases e2; exact hr _ _ hI⟩)) <| hEnd)
def z08_b0 (s2_1:Sl)(p2:Value)(p15:Sl)(p16 p17:Int)(N0:Pw.Y30)(K:Pw.Y0)(w:World):Prop :=
 cnd (decide (p17<p16))
 (nz p15.p fun a1=>(0<=p17/\p17<(p15.l:Nat))/\lT w (a1.add (p17.toNat*5)) fun x2=>∃ x3:Int,w.cell? ((a1.add (p17.toNat*5)).add 1)=some (vI x3)/\∃ x4:Int,w.cell? ((a1.add (p17.toNat*5)).add 2)=some (vI x4)/\∃ x5:ByteArray,w.cell? ((a1.add (p17.toNat*5)).add 3)=some (vT x5)/\∃ x6:Sl,w.cell? ((a1.add (p17.toNat*5)).add 4)=some (vS x6)/\let w7:=w.alloc (.cells #[(vT (str [])),(vI 0),(vI 0),(vT (str [])),vN] 38)
 stN w7 (hA w 0) [(vT x2),(vI x3),(vI x4),(vT x5),(vS x6)] fun w8=>nz s2_1.p fun a9=>(0<=p17/\p17<(s2_1.l:Nat))/\lT w8 (a9.add (p17.toNat*5)) fun x10=>∃ x11:Int,w8.cell? ((a9.add (p17.toNat*5)).add 1)=some (vI x11)/\∃ x12:Int,w8.cell? ((a9.add (p17.toNat*5)).add 2)=some (vI x12)/\∃ x13:ByteArray,w8.cell? ((a9.add (p17.toNat*5)).add 3)=some (vT x13)/\∃ x14:Sl,w8.cell? ((a9.add (p17.toNat*5)).add 4)=some (vS x14)/\let w15:=w8.alloc (.cells #[(vT (str [])),(vI 0),(vI 0),(vT (str [])),vN] 38)
 stN w15 (hA w8 0) [(vT x10),(vI x11),(vI x12),(vT x13),(vS x14)] fun w16=>lX w16 (hA w 0) fun x17 x18 x19 x20 x21=>lX w16 (hA w8 0) fun x22 x23 x24 x25 x26=>q14 Tryz.prog p2 [(Value.agg #[(vT x17),(vI x18),(vI x19),(vT x20),(vS x21)]),(Value.agg #[(vT x22),(vI x23),(vI x24),(vT x25),(vS x26)])] w16 fun u27 w28=>∃ x29:Bool,u27=(.bool x29)/\cnd (!x29)
 (K false w28)
 (inR .i64 (p17+1)/\N0 s2_1 p2 p15 p16 (p17+1) w28))
 (K true w)
structure z08_l0 (s2_1:Sl)(p2:Value)(p15:Sl)(p16 p17:Int)(K:Pw.Y0)(w:World):Prop where
 out:∃ (I:Int->World->Prop) (μ:Int->World->Nat),I p17 w/\∀ (p171:Int) (w1:World),I p171 w1 ->
  z08_b0 s2_1 p2 p15 p16 p171 (fun s2_1' p2' p15' p16' p17' w'=>((s2_1'=s2_1/\p2'=p2/\p15'=p15/\p16'=p16/\True)/\I p17' w')/\μ p17' w'<μ p171 w1) K w1
structure z08_sh (s1_0 s2_1:Sl)(p2:Value)(K:Pw.Y0)(w:World):Prop where
 out:cnd ((s1_0.l:Int) != (s2_1.l:Int))
  (K false w)
  (z08_l0 s2_1 p2 s1_0 (s1_0.l:Int) 0 K w)
def z08_L0 (Kv:VW):Cur [tL,tV,tL,tI,tI] WP:=fun s2_1 p2 p15 p16 p17=>z08_l0 s2_1 p2 p15 p16 p17 (kk [tB] Kv)
def z08_S:=sp [tL,tL,tV] [tB] z08_sh
theorem z08_ok:okP 206 z08_S:=okR (x:=fun Kv=>qr 1 (qs (qr 5 (qc (qr 1 ql) ql)) (qs (qr 3 (qb (A.loop [1,2,15,16,17] (uR0 [tL,tV,tL,tI,tI] (z08_L0 Kv)) (qr 1 (qs (qc ql ql) (qs (qb (qr 6 (qr 6 (qs (A.reg (qn 3 (RA.dyn (Value.bool false) (qn 1 RA.done)))) (qc (qr 1 ql) ql))))) (qe 2))))))) (qr 1 ql)))) (Γ:=[]) trivial Tryz.call206 Tryz.func206 (fun Kv=>q08 (q0c (L:=z08_L0 Kv) (fun N0 s2_1 p2 p15 p16 p17=>z08_b0 s2_1 p2 p15 p16 p17 N0 (kk [tB] Kv)) (fun⟨a0,a1,a2,a3,_,_⟩ _ h=>let ⟨I,μ,h0,hr⟩:=h.out; ⟨fun b0 b1 b2 b3 b4 w=>(b0=a0/\b1=a1/\b2=a2/\b3=a3/\True)/\I b4 w,fun _ _ _ _ b4 w=>μ b4 w,⟨⟨rfl,rfl,rfl,rfl,trivial⟩,h0⟩,fun⟨_,_,_,_,_,_⟩ _ ⟨⟨e0,e1,e2,e3,_⟩,hI⟩=>by cases e0; cases e1; cases e2; cases e3; exact hr _ _ hI⟩)) <| hEnd)
def z0a_b0 (p0:Sl)(p1:Value)(p7 p8:Int)(N0:Pw.Y12)(K:Pw.Y1)(w:World):Prop :=
 cnd (decide (p8<p7))
 (nz p0.p fun a1=>(0<=p8/\p8<(p0.l:Nat))/\lI w (a1.add (p8.toNat*2)) fun x2=>∃ x3:Int,w.cell? ((a1.add (p8.toNat*2)).add 1)=some (vI x3)/\q14 Tryz.prog p1 [(Value.agg #[(vI x2),(vI x3)])] w fun u4 w5=>∃ x6:Bool,u4=(.bool x6)/\cnd x6
 (K p8 w5)
 (inR .i64 (p8+1)/\N0 p0 p1 p7 (p8+1) w5))
 (K (-1:Int) w)
structure z0a_l0 (p0:Sl)(p1:Value)(p7 p8:Int)(K:Pw.Y1)(w:World):Prop where
 out:∃ (I:Int->World->Prop) (μ:Int->World->Nat),I p8 w/\∀ (p81:Int) (w1:World),I p81 w1 ->
  z0a_b0 p0 p1 p7 p81 (fun p0' p1' p7' p8' w'=>((p0'=p0/\p1'=p1/\p7'=p7/\True)/\I p8' w')/\μ p8' w'<μ p81 w1) K w1
structure z0a_sh (p0:Sl)(p1:Value)(K:Pw.Y1)(w:World):Prop where
 out:z0a_l0 p0 p1 (p0.l:Int) 0 K w
def z0a_L0 (Kv:VW):Cur [tL,tV,tI,tI] WP:=fun p0 p1 p7 p8=>z0a_l0 p0 p1 p7 p8 (kk [tI] Kv)
def z0a_S:=sp [tL,tV] [tI] z0a_sh
theorem z0a_ok:okP 47 z0a_S:=okR (x:=fun Kv=>qr 1 (qs (qr 3 (qb (A.loop [0,1,7,8] (uR0 [tL,tV,tI,tI] (z0a_L0 Kv)) (qr 1 (qs (qc ql ql) (qs (qb (qr 2 (qs (A.reg (qn 5 (RA.dyn (Value.bool false) RA.done))) (qc (qr 2 ql) ql)))) (qe 2))))))) (qr 1 ql))) (Γ:=[]) trivial Tryz.call47 Tryz.func47 (fun Kv=>q08 (q0c (L:=z0a_L0 Kv) (fun N0 p0 p1 p7 p8=>z0a_b0 p0 p1 p7 p8 N0 (kk [tI] Kv)) (fun⟨a0,a1,a2,_,_⟩ _ h=>let ⟨I,μ,h0,hr⟩:=h.out; ⟨fun b0 b1 b2 b3 w=>(b0=a0/\b1=a1/\b2=a2/\True)/\I b3 w,fun _ _ _ b3 w=>μ b3 w,⟨⟨rfl,rfl,rfl,trivial⟩,h0⟩,fun⟨_,_,_,_,_⟩ _ ⟨⟨e0,e1,e2,_⟩,hI⟩=>by cases e0; cases e1; cases e2; exact hr _ _ hI⟩)) <| hEnd)
structure z04_sh (p0:Sl)(p1:Value)(K:Pw.Y0)(w:World):Prop where
 out:z0a_sh p0 p1 (fun r2 w1=>K (decide (r2>=0)) w1) w
def z04_S:=sp [tL,tV] [tB] z04_sh
theorem z04_ok:okP 45 z04_S:=okR (x:=fun _=>qr 1 (qr 5 ql)) (Γ:=[(47,z0a_S)]) ⟨.inl z0a_ok,trivial⟩ Tryz.call45 Tryz.func45 (fun _=>hEnd)
def z02_b0 (p0:Sl)(p1:Value)(p7 p8:Int)(N0:Pw.Y12)(K:Pw.Y1)(w:World):Prop :=
 cnd (decide (p8<p7))
 (nz p0.p fun a1=>(0<=p8/\p8<(p0.l:Nat))/\lT w (a1.add (p8.toNat*5)) fun x2=>∃ x3:Int,w.cell? ((a1.add (p8.toNat*5)).add 1)=some (vI x3)/\∃ x4:Int,w.cell? ((a1.add (p8.toNat*5)).add 2)=some (vI x4)/\∃ x5:Int,w.cell? ((a1.add (p8.toNat*5)).add 3)=some (vI x5)/\∃ x6:Bool,w.cell? ((a1.add (p8.toNat*5)).add 4)=some (.bool x6)/\q14 Tryz.prog p1 [(Value.agg #[(vT x2),(vI x3),(vI x4),(vI x5),(.bool x6)])] w fun u7 w8=>∃ x9:Bool,u7=(.bool x9)/\cnd x9
 (K p8 w8)
 (inR .i64 (p8+1)/\N0 p0 p1 p7 (p8+1) w8))
 (K (-1:Int) w)
structure z02_l0 (p0:Sl)(p1:Value)(p7 p8:Int)(K:Pw.Y1)(w:World):Prop where
 out:∃ (I:Int->World->Prop) (μ:Int->World->Nat),I p8 w/\∀ (p81:Int) (w1:World),I p81 w1 ->
  z02_b0 p0 p1 p7 p81 (fun p0' p1' p7' p8' w'=>((p0'=p0/\p1'=p1/\p7'=p7/\True)/\I p8' w')/\μ p8' w'<μ p81 w1) K w1
structure z02_sh (p0:Sl)(p1:Value)(K:Pw.Y1)(w:World):Prop where
 out:z02_l0 p0 p1 (p0.l:Int) 0 K w
def z02_L0 (Kv:VW):Cur [tL,tV,tI,tI] WP:=fun p0 p1 p7 p8=>z02_l0 p0 p1 p7 p8 (kk [tI] Kv)
def z02_S:=sp [tL,tV] [tI] z02_sh
theorem z02_ok:okP 85 z02_S:=okR (x:=fun Kv=>qr 1 (qs (qr 3 (qb (A.loop [0,1,7,8] (uR0 [tL,tV,tI,tI] (z02_L0 Kv)) (qr 1 (qs (qc ql ql) (qs (qb (qr 2 (qs (A.reg (qn 5 (RA.dyn (Value.bool false) RA.done))) (qc (qr 2 ql) ql)))) (qe 2))))))) (qr 1 ql))) (Γ:=[]) trivial Tryz.call85 Tryz.func85 (fun Kv=>q08 (q0c (L:=z02_L0 Kv) (fun N0 p0 p1 p7 p8=>z02_b0 p0 p1 p7 p8 N0 (kk [tI] Kv)) (fun⟨a0,a1,a2,_,_⟩ _ h=>let ⟨I,μ,h0,hr⟩:=h.out; ⟨fun b0 b1 b2 b3 w=>(b0=a0/\b1=a1/\b2=a2/\True)/\I b3 w,fun _ _ _ b3 w=>μ b3 w,⟨⟨rfl,rfl,rfl,trivial⟩,h0⟩,fun⟨_,_,_,_,_⟩ _ ⟨⟨e0,e1,e2,_⟩,hI⟩=>by cases e0; cases e1; cases e2; exact hr _ _ hI⟩)) <| hEnd)
structure z00_sh (p0:Sl)(p1:Value)(K:Pw.Y0)(w:World):Prop where
 out:z02_sh p0 p1 (fun r2 w1=>K (decide (r2>=0)) w1) w
def z00_S:=sp [tL,tV] [tB] z00_sh
theorem z00_ok:okP 50 z00_S:=okR (x:=fun _=>qr 1 (qr 5 ql)) (Γ:=[(85,z02_S)]) ⟨.inl z02_ok,trivial⟩ Tryz.call50 Tryz.func50 (fun _=>hEnd)
def z01_b0 (p0:Sl)(p1:Value)(p7 p8:Int)(N0:Pw.Y12)(K:Pw.Y1)(w:World):Prop :=
 cnd (decide (p8<p7))
 (nz p0.p fun a1=>(0<=p8/\p8<(p0.l:Nat))/\lT w (a1.add (p8.toNat*2)) fun x2=>∃ x3:Value,w.cell? ((a1.add (p8.toNat*2)).add 1)=some x3/\q14 Tryz.prog p1 [(Value.agg #[(vT x2),x3])] w fun u4 w5=>∃ x6:Bool,u4=(.bool x6)/\cnd x6
 (K p8 w5)
 (inR .i64 (p8+1)/\N0 p0 p1 p7 (p8+1) w5))
 (K (-1:Int) w)
structure z01_l0 (p0:Sl)(p1:Value)(p7 p8:Int)(K:Pw.Y1)(w:World):Prop where
 out:∃ (I:Int->World->Prop) (μ:Int->World->Nat),I p8 w/\∀ (p81:Int) (w1:World),I p81 w1 ->
  z01_b0 p0 p1 p7 p81 (fun p0' p1' p7' p8' w'=>((p0'=p0/\p1'=p1/\p7'=p7/\True)/\I p8' w')/\μ p8' w'<μ p81 w1) K w1
structure z01_sh (p0:Sl)(p1:Value)(K:Pw.Y1)(w:World):Prop where
 out:z01_l0 p0 p1 (p0.l:Int) 0 K w
def z01_L0 (Kv:VW):Cur [tL,tV,tI,tI] WP:=fun p0 p1 p7 p8=>z01_l0 p0 p1 p7 p8 (kk [tI] Kv)
def z01_S:=sp [tL,tV] [tI] z01_sh
theorem z01_ok:okP 223 z01_S:=okR (x:=fun Kv=>qr 1 (qs (qr 3 (qb (A.loop [0,1,7,8] (uR0 [tL,tV,tI,tI] (z01_L0 Kv)) (qr 1 (qs (qc ql ql) (qs (qb (qr 2 (qs (A.reg (qn 5 (RA.dyn (Value.bool false) RA.done))) (qc (qr 2 ql) ql)))) (qe 2))))))) (qr 1 ql))) (Γ:=[]) trivial Tryz.call223 Tryz.func223 (fun Kv=>q08 (q0c (L:=z01_L0 Kv) (fun N0 p0 p1 p7 p8=>z01_b0 p0 p1 p7 p8 N0 (kk [tI] Kv)) (fun⟨a0,a1,a2,_,_⟩ _ h=>let ⟨I,μ,h0,hr⟩:=h.out; ⟨fun b0 b1 b2 b3 w=>(b0=a0/\b1=a1/\b2=a2/\True)/\I b3 w,fun _ _ _ b3 w=>μ b3 w,⟨⟨rfl,rfl,rfl,trivial⟩,h0⟩,fun⟨_,_,_,_,_⟩ _ ⟨⟨e0,e1,e2,_⟩,hI⟩=>by cases e0; cases e1; cases e2; exact hr _ _ hI⟩)) <| hEnd)
def z05_b0 (p0:Sl)(p1:Value)(p7 p8:Int)(N0:Pw.Y12)(K:Pw.Y1)(w:World):Prop :=
 cnd (decide (p8<p7))
 (nz p0.p fun a1=>(0<=p8/\p8<(p0.l:Nat))/\lT w (a1.add (p8.toNat*2)) fun x2=>∃ x3:Int,w.cell? ((a1.add (p8.toNat*2)).add 1)=some (vI x3)/\q14 Tryz.prog p1 [(Value.agg #[(vT x2),(vI x3)])] w fun u4 w5=>∃ x6:Bool,u4=(.bool x6)/\cnd x6
 (K p8 w5)
 (inR .i64 (p8+1)/\N0 p0 p1 p7 (p8+1) w5))
 (K (-1:Int) w)
structure z05_l0 (p0:Sl)(p1:Value)(p7 p8:Int)(K:Pw.Y1)(w:World):Prop where
 out:∃ (I:Int->World->Prop) (μ:Int->World->Nat),I p8 w/\∀ (p81:Int) (w1:World),I p81 w1 ->
  z05_b0 p0 p1 p7 p81 (fun p0' p1' p7' p8' w'=>((p0'=p0/\p1'=p1/\p7'=p7/\True)/\I p8' w')/\μ p8' w'<μ p81 w1) K w1
structure z05_sh (p0:Sl)(p1:Value)(K:Pw.Y1)(w:World):Prop where
 out:z05_l0 p0 p1 (p0.l:Int) 0 K w
def z05_L0 (Kv:VW):Cur [tL,tV,tI,tI] WP:=fun p0 p1 p7 p8=>z05_l0 p0 p1 p7 p8 (kk [tI] Kv)
def z05_S:=sp [tL,tV] [tI] z05_sh
theorem z05_ok:okP 143 z05_S:=okR (x:=fun Kv=>qr 1 (qs (qr 3 (qb (A.loop [0,1,7,8] (uR0 [tL,tV,tI,tI] (z05_L0 Kv)) (qr 1 (qs (qc ql ql) (qs (qb (qr 2 (qs (A.reg (qn 5 (RA.dyn (Value.bool false) RA.done))) (qc (qr 2 ql) ql)))) (qe 2))))))) (qr 1 ql))) (Γ:=[]) trivial Tryz.call143 Tryz.func143 (fun Kv=>q08 (q0c (L:=z05_L0 Kv) (fun N0 p0 p1 p7 p8=>z05_b0 p0 p1 p7 p8 N0 (kk [tI] Kv)) (fun⟨a0,a1,a2,_,_⟩ _ h=>let ⟨I,μ,h0,hr⟩:=h.out; ⟨fun b0 b1 b2 b3 w=>(b0=a0/\b1=a1/\b2=a2/\True)/\I b3 w,fun _ _ _ b3 w=>μ b3 w,⟨⟨rfl,rfl,rfl,trivial⟩,h0⟩,fun⟨_,_,_,_,_⟩ _ ⟨⟨e0,e1,e2,_⟩,hI⟩=>by cases e0; cases e1; cases e2; exact hr _ _ hI⟩)) <| hEnd)
def z2c_b0 (p0:Sl)(p1:ByteArray)(p7 p8:Int)(N0:Sl->ByteArray->Int->Int->World->Prop)(K:Pw.Y1)(w:World):Prop :=
 cnd (decide (p8<p7))
 (nz p0.p fun a1=>(0<=p8/\p8<(p0.l:Nat))/\lT w (a1.add (p8.toNat*1)) fun x2=>cnd (decide (p1=x2))
 (K p8 w)
 (inR .i64 (p8+1)/\N0 p0 p1 p7 (p8+1) w))
 (K (-1:Int) w)
structure z2c_l0 (p0:Sl)(p1:ByteArray)(p7 p8:Int)(K:Pw.Y1)(w:World):Prop where
 out:∃ (I:Int->World->Prop) (μ:Int->World->Nat),I p8 w/\∀ (p81:Int) (w1:World),I p81 w1 ->
  z2c_b0 p0 p1 p7 p81 (fun p0' p1' p7' p8' w'=>((p0'=p0/\p1'=p1/\p7'=p7/\True)/\I p8' w')/\μ p8' w'<μ p81 w1) K w1
structure z2c_sh (p0:Sl)(p1:ByteArray)(K:Pw.Y1)(w:World):Prop where
 out:z2c_l0 p0 p1 (p0.l:Int) 0 K w
def z2c_L0 (Kv:VW):Cur [tL,tS,tI,tI] WP:=fun p0 p1 p7 p8=>z2c_l0 p0 p1 p7 p8 (kk [tI] Kv)
def z2c_S:=sp [tL,tS] [tI] z2c_sh
theorem z2c_ok:okP 120 z2c_S:=okR (x:=fun Kv=>qr 1 (qs (qr 3 (qb (A.loop [0,1,7,8] (uR0 [tL,tS,tI,tI] (z2c_L0 Kv)) (qr 1 (qs (qc ql ql) (qs (qb (qr 2 (qr 6 (qc (qr 2 ql) ql)))) (qe 2))))))) (qr 1 ql))) (Γ:=[]) trivial Tryz.call120 Tryz.func120 (fun Kv=>q08 (q0c (L:=z2c_L0 Kv) (fun N0 p0 p1 p7 p8=>z2c_b0 p0 p1 p7 p8 N0 (kk [tI] Kv)) (fun⟨a0,a1,a2,_,_⟩ _ h=>let ⟨I,μ,h0,hr⟩:=h.out; ⟨fun b0 b1 b2 b3 w=>(b0=a0/\b1=a1/\b2=a2/\True)/\I b3 w,fun _ _ _ b3 w=>μ b3 w,⟨⟨rfl,rfl,rfl,trivial⟩,h0⟩,fun⟨_,_,_,_,_⟩ _ ⟨⟨e0,e1,e2,_⟩,hI⟩=>by cases e0; cases e1; cases e2; exact hr _ _ hI⟩)) <| hEnd)
structure z1l_sh (p0:Sl)(p1:ByteArray)(K:Pw.Y0)(w:World):Prop where
 out:z2c_sh p0 p1 (fun r2 w1=>K (decide (r2>=0)) w1) w
def z1l_S:=sp [tL,tS] [tB] z1l_sh
theorem z1l_ok:okP 73 z1l_S:=okR (x:=fun _=>qr 1 (qr 5 ql)) (Γ:=[(120,z2c_S)]) ⟨.inl z2c_ok,trivial⟩ Tryz.call73 Tryz.func73 (fun _=>hEnd)
structure z0h_sh (p0 p1:ByteArray)(K:Pw.Y0)(w:World):Prop where
 out:cnd (decide ((p0.size:Int)>=(p1.size:Int)))
  ((0<=(0:Int)/\(0:Int)<=(p1.size:Int)/\(p1.size:Int)<=(p0.size:Nat))/\K (decide ((p0.extract 0 (p1.size:Int).toNat)=p1)) w)
  (K false w)
def z0h_S:=sp [tS,tS] [tB] z0h_sh
theorem z0h_ok:okP 42 z0h_S:=okR (x:=fun _=>qr 1 (qs (A.reg (qn 6 (RA.spl 10 (qn 8 RA.done) (qk 6 (qn 2 RA.done))))) ql)) (Γ:=[]) trivial Tryz.call42 Tryz.func42 (fun _=>hEnd)
structure z13_sh (p0 p1:ByteArray)(K:Pw.Y0)(w:World):Prop where
 out:z0h_sh p0 p1 (fun r2 w1=>K r2 w1) w
def z13_S:=sp [tS,tS] [tB] z13_sh
theorem z13_ok:okP 19 z13_S:=okR (x:=fun _=>qr 1 (qr 4 ql)) (Γ:=[(42,z0h_S)]) ⟨.inl z0h_ok,trivial⟩ Tryz.call19 Tryz.func19 (fun _=>hEnd)
structure z0c_sh (p0 p1:ByteArray)(K:Pw.Y6)(w:World):Prop where
 out:z0h_sh p0 p1 (fun r2 w1=>cnd r2
  ((0<=(p1.size:Int)/\(p1.size:Int)<=(p0.size:Nat))/\K (p0.extract (p1.size:Int).toNat p0.size) w1)
  (K p0 w1)) w
def z0c_S:=sp [tS,tS] [tS] z0c_sh
theorem z0c_ok:okP 278 z0c_S:=okR (x:=fun _=>qr 1 (qs (qr 3 (qc (qr 5 ql) ql)) (qr 2 ql))) (Γ:=[(42,z0h_S)]) ⟨.inl z0h_ok,trivial⟩ Tryz.call278 Tryz.func278 (fun _=>hEnd)
structure z0t_sh (p0 p1:ByteArray)(K:Pw.Y6)(w:World):Prop where
 out:z0c_sh p0 p1 (fun r2 w1=>K r2 w1) w
def z0t_S:=sp [tS,tS] [tS] z0t_sh
theorem z0t_ok:okP 208 z0t_S:=okR (x:=fun _=>qr 1 (qr 4 ql)) (Γ:=[(278,z0c_S)]) ⟨.inl z0c_ok,trivial⟩ Tryz.call208 Tryz.func208 (fun _=>hEnd)
structure z2d_sh (a0:ByteArray)(K:Int->Value->World->Prop)(w:World):Prop where
 out:Calls Tryz.prog 207 #[(vT a0)] w fun e w'=>∃ r0:Int,∃ r1:Value,e=.returned (.tuple #[(vI r0),r1])/\K r0 r1 w'
def z2d_S:Pw.Spec:=fun vs w Kv =>
 match vs with
 | [.string a0]=>z2d_sh a0 (fun r0 r1 w'=>Kv (.tuple #[(vI r0),r1]) w') w
 | _=>False
theorem z2d_ok:q22 Tryz.prog 207 z2d_S:=⟨Tryz.call207,fun vs w Kv h=>by
  unfold z2d_S at h
  split at h
  · exact h.out.mono fun e w' he=>by
      obtain⟨_,_,he,hk⟩:=he
      exact⟨_,he,hk⟩
  · exact h.elim⟩
def z1f_b0 (p0:Sl)(p1:Value)(p7 p8:Int)(N0:Pw.Y12)(K:Pw.Y1)(w:World):Prop :=
 cnd (decide (p8<p7))
 (nz p0.p fun a1=>(0<=p8/\p8<(p0.l:Nat))/\lT w (a1.add (p8.toNat*1)) fun x2=>q14 Tryz.prog p1 [(vT x2)] w fun u3 w4=>∃ x5:Bool,u3=(.bool x5)/\cnd x5
 (K p8 w4)
 (inR .i64 (p8+1)/\N0 p0 p1 p7 (p8+1) w4))
 (K (-1:Int) w)
structure z1f_l0 (p0:Sl)(p1:Value)(p7 p8:Int)(K:Pw.Y1)(w:World):Prop where
 out:∃ (I:Int->World->Prop) (μ:Int->World->Nat),I p8 w/\∀ (p81:Int) (w1:World),I p81 w1 ->
  z1f_b0 p0 p1 p7 p81 (fun p0' p1' p7' p8' w'=>((p0'=p0/\p1'=p1/\p7'=p7/\True)/\I p8' w')/\μ p8' w'<μ p81 w1) K w1
structure z1f_sh (p0:Sl)(p1:Value)(K:Pw.Y1)(w:World):Prop where
 out:z1f_l0 p0 p1 (p0.l:Int) 0 K w
def z1f_L0 (Kv:VW):Cur [tL,tV,tI,tI] WP:=fun p0 p1 p7 p8=>z1f_l0 p0 p1 p7 p8 (kk [tI] Kv)
def z1f_S:=sp [tL,tV] [tI] z1f_sh
theorem z1f_ok:okP 35 z1f_S:=okR (x:=fun Kv=>qr 1 (qs (qr 3 (qb (A.loop [0,1,7,8] (uR0 [tL,tV,tI,tI] (z1f_L0 Kv)) (qr 1 (qs (qc ql ql) (qs (qb (qr 2 (qs (A.reg (qn 5 (RA.dyn (Value.bool false) RA.done))) (qc (qr 2 ql) ql)))) (qe 2))))))) (qr 1 ql))) (Γ:=[]) trivial Tryz.call35 Tryz.func35 (fun Kv=>q08 (q0c (L:=z1f_L0 Kv) (fun N0 p0 p1 p7 p8=>z1f_b0 p0 p1 p7 p8 N0 (kk [tI] Kv)) (fun⟨a0,a1,a2,_,_⟩ _ h=>let ⟨I,μ,h0,hr⟩:=h.out; ⟨fun b0 b1 b2 b3 w=>(b0=a0/\b1=a1/\b2=a2/\True)/\I b3 w,fun _ _ _ b3 w=>μ b3 w,⟨⟨rfl,rfl,rfl,trivial⟩,h0⟩,fun⟨_,_,_,_,_⟩ _ ⟨⟨e0,e1,e2,_⟩,hI⟩=>by cases e0; cases e1; cases e2; exact hr _ _ hI⟩)) <| hEnd)
def z11_b0 (p0:Sl)(p1:Value)(p5 p6:Int)(N0:Pw.Y12)(K:Pw.Y5)(w:World):Prop :=
 cnd (decide (p6<(p0.l:Int)))
 (nz p0.p fun a3=>(0<=p6/\p6<(p0.l:Nat))/\lT w (a3.add (p6.toNat*1)) fun x4=>q14 Tryz.prog p1 [(vT x4)] w fun u5 w6=>∃ x7:Bool,u5=(.bool x7)/\cnd (!x7)
 (nz p0.p fun a8=>(0<=p5/\p5<(p0.l:Nat))/\wrOk w6 (a8.add (p5.toNat*1))/\
 (let w9:=w6.setCell (a8.add (p5.toNat*1)) (vT x4)
 inR .i64 (p5+1)/\inR .i64 (p6+1)/\N0 p0 p1 (p5+1) (p6+1) w9))
 (inR .i64 (p6+1)/\N0 p0 p1 p5 (p6+1) w6))
 ((0<=p5/\p5<=(p0.l:Nat))/\clS [(vT (str []))] (Sl.mk (subP p0.p p5.toNat p0.c 1) (p0.l-p5.toNat) (p0.c-p5.toNat)) w fun w10=>(0<=(0:Int)/\(0:Int)<=p5/\p5<=(p0.c:Nat))/\K (Sl.mk (subP p0.p 0 p0.c 1) (p5.toNat-0) (p0.c-0)) w10)
structure z11_l0 (p0:Sl)(p1:Value)(p5 p6:Int)(K:Pw.Y5)(w:World):Prop where
 out:∃ (I:Int->Int->World->Prop) (μ:Int->Int->World->Nat),I p5 p6 w/\∀ (p51 p61:Int) (w1:World),I p51 p61 w1 ->
  z11_b0 p0 p1 p51 p61 (fun p0' p1' p5' p6' w'=>((p0'=p0/\p1'=p1/\True)/\I p5' p6' w')/\μ p5' p6' w'<μ p51 p61 w1) K w1
structure z11_sh (p0:Sl)(p1:Value)(K:Pw.Y5)(w:World):Prop where
 out:z1f_sh p0 p1 (fun r2 w1=>cnd (r2 == (-1))
  (K p0 w1)
  (inR .i64 (r2+1)/\z11_l0 p0 p1 r2 (r2+1) K w1)) w
def z11_L0 (Kv:VW):Cur [tL,tV,tI,tI] WP:=fun p0 p1 p5 p6=>z11_l0 p0 p1 p5 p6 (kk [tL] Kv)
def z11_S:=sp [tL,tV] [tL] z11_sh
theorem z11_ok:okP 40 z11_S:=okR (x:=fun Kv=>qr 1 (qr 4 (qs (qr 2 (qc (qr 2 ql) ql)) (qs (qr 3 (qb (A.loop [0,1,5,6] (uR0 [tL,tV,tI,tI] (z11_L0 Kv)) (qs (qr 4 (qc ql ql)) (qs (qb (qr 5 (qs (A.reg (qn 2 (RA.dyn (Value.bool false) (qn 1 RA.done)))) (qc (qr 5 (qe 3)) ql)))) (qe 3)))))) (qr 4 (qr 4 ql)))))) (Γ:=[(35,z1f_S)]) ⟨.inl z1f_ok,trivial⟩ Tryz.call40 Tryz.func40 (fun Kv=>q08 (q0c (L:=z11_L0 Kv) (fun N0 p0 p1 p5 p6=>z11_b0 p0 p1 p5 p6 N0 (kk [tL] Kv)) (fun⟨a0,a1,_,_,_⟩ _ h=>let ⟨I,μ,h0,hr⟩:=h.out; ⟨fun b0 b1 b2 b3 w=>(b0=a0/\b1=a1/\True)/\I b2 b3 w,fun _ _ b2 b3 w=>μ b2 b3 w,⟨⟨rfl,rfl,trivial⟩,h0⟩,fun⟨_,_,_,_,_⟩ _ ⟨⟨e0,e1,_⟩,hI⟩=>by cases e0; cases e1; exact hr _ _ _ hI⟩)) <| hEnd)
structure z0g_sh (p0 p1:ByteArray)(K:Pw.Y23)(w:World):Prop where
 out:z0h_sh p0 p1 (fun r2 w1=>cnd (!r2)
  (K p0 false w1)
  ((0<=(p1.size:Int)/\(p1.size:Int)<=(p0.size:Nat))/\K (p0.extract (p1.size:Int).toNat p0.size) true w1)) w
def z0g_S:=sp [tS,tS] [.u 2,tS,tB] z0g_sh
theorem z0g_ok:okP 209 z0g_S:=okR (x:=fun _=>qr 2 (qs (qr 4 (qc (qr 3 ql) ql)) (qr 6 ql))) (Γ:=[(42,z0h_S)]) ⟨.inl z0h_ok,trivial⟩ Tryz.call209 Tryz.func209 (fun _=>hEnd)
structure z12_sh (p0 p1:ByteArray)(K:Pw.Y23)(w:World):Prop where
 out:z0g_sh p0 p1 (fun r2 r3 w1=>K r2 r3 w1) w
def z12_S:=sp [tS,tS] [.u 2,tS,tB] z12_sh
theorem z12_ok:okP 136 z12_S:=okR (x:=fun _=>qr 2 (qr 7 ql)) (Γ:=[(209,z0g_S)]) ⟨.inl z0g_ok,trivial⟩ Tryz.call136 Tryz.func136 (fun _=>hEnd)
def z0k_b0 (p0:Sl)(p1:Value)(p7 p8:Int)(N0:Pw.Y12)(K:Pw.Y1)(w:World):Prop :=
 cnd (decide (p8<p7))
 (nz p0.p fun a1=>(0<=p8/\p8<(p0.l:Nat))/\lI w (a1.add (p8.toNat*1)) fun x2=>q14 Tryz.prog p1 [(vI x2)] w fun u3 w4=>∃ x5:Bool,u3=(.bool x5)/\cnd x5
 (K p8 w4)
 (inR .i64 (p8+1)/\N0 p0 p1 p7 (p8+1) w4))
 (K (-1:Int) w)
structure z0k_l0 (p0:Sl)(p1:Value)(p7 p8:Int)(K:Pw.Y1)(w:World):Prop where
 out:∃ (I:Int->World->Prop) (μ:Int->World->Nat),I p8 w/\∀ (p81:Int) (w1:World),I p81 w1 ->
  z0k_b0 p0 p1 p7 p81 (fun p0' p1' p7' p8' w'=>((p0'=p0/\p1'=p1/\p7'=p7/\True)/\I p8' w')/\μ p8' w'<μ p81 w1) K w1
structure z0k_sh (p0:Sl)(p1:Value)(K:Pw.Y1)(w:World):Prop where
 out:z0k_l0 p0 p1 (p0.l:Int) 0 K w
def z0k_L0 (Kv:VW):Cur [tL,tV,tI,tI] WP:=fun p0 p1 p7 p8=>z0k_l0 p0 p1 p7 p8 (kk [tI] Kv)
def z0k_S:=sp [tL,tV] [tI] z0k_sh
theorem z0k_ok:okP 43 z0k_S:=okR (x:=fun Kv=>qr 1 (qs (qr 3 (qb (A.loop [0,1,7,8] (uR0 [tL,tV,tI,tI] (z0k_L0 Kv)) (qr 1 (qs (qc ql ql) (qs (qb (qr 2 (qs (A.reg (qn 5 (RA.dyn (Value.bool false) RA.done))) (qc (qr 2 ql) ql)))) (qe 2))))))) (qr 1 ql))) (Γ:=[]) trivial Tryz.call43 Tryz.func43 (fun Kv=>q08 (q0c (L:=z0k_L0 Kv) (fun N0 p0 p1 p7 p8=>z0k_b0 p0 p1 p7 p8 N0 (kk [tI] Kv)) (fun⟨a0,a1,a2,_,_⟩ _ h=>let ⟨I,μ,h0,hr⟩:=h.out; ⟨fun b0 b1 b2 b3 w=>(b0=a0/\b1=a1/\b2=a2/\True)/\I b3 w,fun _ _ _ b3 w=>μ b3 w,⟨⟨rfl,rfl,rfl,trivial⟩,h0⟩,fun⟨_,_,_,_,_⟩ _ ⟨⟨e0,e1,e2,_⟩,hI⟩=>by cases e0; cases e1; cases e2; exact hr _ _ hI⟩)) <| hEnd)
structure z09_sh (p0:Sl)(p1:Value)(K:Pw.Y0)(w:World):Prop where
 out:z0k_sh p0 p1 (fun r2 w1=>K (decide (r2>=0)) w1) w
def z09_S:=sp [tL,tV] [tB] z09_sh
theorem z09_ok:okP 20 z09_S:=okR (x:=fun _=>qr 1 (qr 5 ql)) (Γ:=[(43,z0k_S)]) ⟨.inl z0k_ok,trivial⟩ Tryz.call20 Tryz.func20 (fun _=>hEnd)
def z0b_b0 (p0:Sl)(p1:Value)(p7 p8:Int)(N0:Pw.Y12)(K:Pw.Y1)(w:World):Prop :=
 cnd (decide (p8<p7))
 (nz p0.p fun a1=>(0<=p8/\p8<(p0.l:Nat))/\lS w (a1.add (p8.toNat*1)) fun x2=>q14 Tryz.prog p1 [(vS x2)] w fun u3 w4=>∃ x5:Bool,u3=(.bool x5)/\cnd x5
 (K p8 w4)
 (inR .i64 (p8+1)/\N0 p0 p1 p7 (p8+1) w4))
 (K (-1:Int) w)
structure z0b_l0 (p0:Sl)(p1:Value)(p7 p8:Int)(K:Pw.Y1)(w:World):Prop where
 out:∃ (I:Int->World->Prop) (μ:Int->World->Nat),I p8 w/\∀ (p81:Int) (w1:World),I p81 w1 ->
  z0b_b0 p0 p1 p7 p81 (fun p0' p1' p7' p8' w'=>((p0'=p0/\p1'=p1/\p7'=p7/\True)/\I p8' w')/\μ p8' w'<μ p81 w1) K w1
structure z0b_sh (p0:Sl)(p1:Value)(K:Pw.Y1)(w:World):Prop where
 out:z0b_l0 p0 p1 (p0.l:Int) 0 K w
def z0b_L0 (Kv:VW):Cur [tL,tV,tI,tI] WP:=fun p0 p1 p7 p8=>z0b_l0 p0 p1 p7 p8 (kk [tI] Kv)
def z0b_S:=sp [tL,tV] [tI] z0b_sh
theorem z0b_ok:okP 210 z0b_S:=okR (x:=fun Kv=>qr 1 (qs (qr 3 (qb (A.loop [0,1,7,8] (uR0 [tL,tV,tI,tI] (z0b_L0 Kv)) (qr 1 (qs (qc ql ql) (qs (qb (qr 2 (qs (A.reg (qn 5 (RA.dyn (Value.bool false) RA.done))) (qc (qr 2 ql) ql)))) (qe 2))))))) (qr 1 ql))) (Γ:=[]) trivial Tryz.call210 Tryz.func210 (fun Kv=>q08 (q0c (L:=z0b_L0 Kv) (fun N0 p0 p1 p7 p8=>z0b_b0 p0 p1 p7 p8 N0 (kk [tI] Kv)) (fun⟨a0,a1,a2,_,_⟩ _ h=>let ⟨I,μ,h0,hr⟩:=h.out; ⟨fun b0 b1 b2 b3 w=>(b0=a0/\b1=a1/\b2=a2/\True)/\I b3 w,fun _ _ _ b3 w=>μ b3 w,⟨⟨rfl,rfl,rfl,trivial⟩,h0⟩,fun⟨_,_,_,_,_⟩ _ ⟨⟨e0,e1,e2,_⟩,hI⟩=>by cases e0; cases e1; cases e2; exact hr _ _ hI⟩)) <| hEnd)
structure z0m_sh (p0:Sl)(p1:Value)(K:Pw.Y0)(w:World):Prop where
 out:z1f_sh p0 p1 (fun r2 w1=>K (decide (r2>=0)) w1) w
def z0m_S:=sp [tL,tV] [tB] z0m_sh
theorem z0m_ok:okP 16 z0m_S:=okR (x:=fun _=>qr 1 (qr 5 ql)) (Γ:=[(35,z1f_S)]) ⟨.inl z1f_ok,trivial⟩ Tryz.call16 Tryz.func16 (fun _=>hEnd)
