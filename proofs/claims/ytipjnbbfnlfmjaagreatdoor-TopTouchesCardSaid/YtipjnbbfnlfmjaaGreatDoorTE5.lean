/- The bodies' formulas, by program. -/
import Derived.Test.YtipjnbbfnlfmjaaGreatDoorTE4
set_option maxRecDepth 20000
namespace Go.Proofs.YtipjnbbfnlfmjaaGreatDoor
open Go Pw
structure z3k_k1 (p3:Addr)(p8:Sl)(p13:Addr)(p33:Sl)(p34 p35:Int)(N0:Pw.Y21)(K:Pw.Y8)(w:World):Prop where
 out:lI w (p13.add 3) fun x23=>inR .i64 (p35+1)/\N0 p3 p8 x23 true p33 p34 (p35+1) w
structure z3k_k3 (p3:Addr)(p10:Int)(p14 p15:Sl)(p17:Addr)(p18:Int)(p19:Addr)(p56:Sl)(p57 p58:Int)(N2:Pw.Y22)(K:Pw.Y8)(w:World):Prop where
 out:cnd (p18 != 0)
  (∃ x52:Int,w.cell? p17=some (vI x52)/\let w53:=w.alloc (.cells #[(vI x52),(vI 0),(vI 0),(vI 0),(vI p18)] 65)
  apS 5 40 [(vI 0),(vI 0),(vI 0),(vI 0),(vI 0)] 65 p15 (Sl.mk (some (hA w 0)) 1 1) w53 fun s54 w55=>inR .i64 (p58+1)/\N2 p3 p10 p14 s54 p56 p57 (p58+1) w55)
  (lI w p17 fun x56=>lI w (p17.add 1) fun x57=>lI w (p17.add 2) fun x58=>lI w (p17.add 3) fun x59=>lS w (p17.add 4) fun x60=>lI w p19 fun x61=>∃ x62:Int,w.cell? (p19.add 1)=some (vI x62)/\let w63:=w.alloc (.cells #[(vI x56),(vI x57),(vI x58),(vI x59),(vS x60),(vI x61),(vI x62)] 91)
  apS 7 72 [(vI 0),(vI 0),(vI 0),(vI 0),vN,(vI 0),(vI 0)] 91 p14 (Sl.mk (some (hA w 0)) 1 1) w63 fun s64 w65=>inR .i64 (p58+1)/\N2 p3 p10 s64 p15 p56 p57 (p58+1) w65)
def z3k_b4 (p15 p20 p95:Sl)(p96 p97:Int)(N4:Sl->Sl->Sl->Int->Int->World->Prop)(K:Pw.Y8)(w:World):Prop :=
 cnd (decide (p97<p96))
 (nz p95.p fun a68=>(0<=p97/\p97<(p95.l:Nat))/\lI w (a68.add (p97.toNat*7)) fun x69=>∃ x70:Int,w.cell? ((a68.add (p97.toNat*7)).add 1)=some (vI x70)/\∃ x71:Int,w.cell? ((a68.add (p97.toNat*7)).add 2)=some (vI x71)/\∃ x72:Int,w.cell? ((a68.add (p97.toNat*7)).add 3)=some (vI x72)/\∃ x73:Sl,w.cell? ((a68.add (p97.toNat*7)).add 4)=some (vS x73)/\∃ x74:Int,w.cell? ((a68.add (p97.toNat*7)).add 5)=some (vI x74)/\∃ x75:Int,w.cell? ((a68.add (p97.toNat*7)).add 6)=some (vI x75)/\let w76:=w.alloc (.cells #[(vI 0),(vI 0),(vI 0),(vI 0),vN,(vI 0),(vI 0)] 91)
 stN w76 (hA w 0) [(vI x69),(vI x70),(vI x71),(vI x72),(vS x73),(vI x74),(vI x75)] fun w77=>lI w77 (hA w 0) fun x78=>lI w77 (hA w 5) fun x79=>lI w77 (hA w 6) fun x80=>inR .i64 (p97+1)/\let w81:=w77.alloc (.cells #[(vI x78),(vI x79),(vI x80),(vI (p97+1)),(vI 0)] 65)
 apS 5 40 [(vI 0),(vI 0),(vI 0),(vI 0),(vI 0)] 65 p20 (Sl.mk (some (hA w77 0)) 1 1) w81 fun s82 w83=>inR .i64 (p97+1)/\N4 p15 s82 p95 p96 (p97+1) w83)
 (apS 5 40 [(vI 0),(vI 0),(vI 0),(vI 0),(vI 0)] 65 p20 p15 w fun s84 w85=>K s84 0 w85)
structure z3k_l4 (p15 p20 p95:Sl)(p96 p97:Int)(K:Pw.Y8)(w:World):Prop where
 out:∃ (I:Sl->Int->World->Prop) (μ:Sl->Int->World->Nat),I p20 p97 w/\∀ (p201:Sl) (p971:Int) (w1:World),I p201 p971 w1 ->
  z3k_b4 p15 p201 p95 p96 p971 (fun p15' p20' p95' p96' p97' w'=>((p15'=p15/\p95'=p95/\p96'=p96/\True)/\I p20' p97' w')/\μ p20' p97' w'<μ p201 p971 w1) K w1
def z3k_b2 (p3:Addr)(p10:Int)(p14 p15 p56:Sl)(p57 p58:Int)(N2:Pw.Y22)(K:Pw.Y8)(w:World):Prop :=
 cnd (decide (p58<p57))
 (nz p56.p fun a24=>(0<=p58/\p58<(p56.l:Nat))/\lI w (a24.add (p58.toNat*5)) fun x25=>∃ x26:Int,w.cell? ((a24.add (p58.toNat*5)).add 1)=some (vI x26)/\∃ x27:Int,w.cell? ((a24.add (p58.toNat*5)).add 2)=some (vI x27)/\∃ x28:Int,w.cell? ((a24.add (p58.toNat*5)).add 3)=some (vI x28)/\∃ x29:Sl,w.cell? ((a24.add (p58.toNat*5)).add 4)=some (vS x29)/\let w30:=w.alloc (.cells #[(vI 0),(vI 0),(vI 0),(vI 0),vN] 54)
 stN w30 (hA w 0) [(vI x25),(vI x26),(vI x27),(vI x28),(vS x29)] fun w31=>T43.ld w31 p3 fun x32=>lI w31 (hA w 0) fun x33=>lI w31 (hA w 1) fun x34=>lI w31 (hA w 2) fun x35=>lI w31 (hA w 3) fun x36=>lS w31 (hA w 4) fun x37=>z3c_sh x32 x33 x34 x35 x36 x37 (fun r39 w38=>let w40:=w38.alloc (.cells #[(vI 0),(vI 0)] 35)
 cnd (r39 == 0)
 (T43.ld w40 p3 fun x41=>lI w40 (hA w 0) fun x42=>lI w40 (hA w 1) fun x43=>lI w40 (hA w 2) fun x44=>lI w40 (hA w 3) fun x45=>lS w40 (hA w 4) fun x46=>z2m_sh x41 x42 x43 x44 x45 x46 p10 (fun r48_0 r48_1 r49 w47=>wrOk w47 (hA w38 0)/\
 (let w50:=w47.setCell (hA w38 0) (vI r48_0)
 wrOk w50 (hA w38 1)/\
 (let w51:=w50.setCell (hA w38 1) (vI r48_1)
 z3k_k3 p3 p10 p14 p15 (hA w 0) r49 (hA w38 0) p56 p57 p58 N2 K w51))) w40)
 (z3k_k3 p3 p10 p14 p15 (hA w 0) r39 (hA w38 0) p56 p57 p58 N2 K w40)) w31)
 (T43.ld w p3 fun x66=>z1m_sh p14 (Value.func (.func 27) #[(Value.agg #[(vT x66.f0),(.slice x66.f1.p x66.f1.l x66.f1.c),(.slice x66.f2.p x66.f2.l x66.f2.c),(.slice x66.f3.p x66.f3.l x66.f3.c),(vI x66.f4),(vI x66.f5),(vT x66.f6),(vI x66.f7),(vI x66.f8),(vT x66.f9),(.slice x66.f10.p x66.f10.l x66.f10.c),(.slice x66.f11.p x66.f11.l x66.f11.c),(vI x66.f12),(.slice x66.f13.p x66.f13.l x66.f13.c),(vI x66.f14),(vI x66.f15),(vI x66.f16),(vI x66.f17),(vI x66.f18),(vI x66.f19)])] #[]) (fun w67=>z3k_l4 p15 (Sl.mk none 0 0) p14 (p14.l:Int) 0 K w67) w)
structure z3k_l2 (p3:Addr)(p10:Int)(p14 p15 p56:Sl)(p57 p58:Int)(K:Pw.Y8)(w:World):Prop where
 out:∃ (I:Sl->Sl->Int->World->Prop) (μ:Sl->Sl->Int->World->Nat),I p14 p15 p58 w/\∀ (p141 p151:Sl) (p581:Int) (w1:World),I p141 p151 p581 w1 ->
  z3k_b2 p3 p10 p141 p151 p56 p57 p581 (fun p3' p10' p14' p15' p56' p57' p58' w'=>((p3'=p3/\p10'=p10/\p56'=p56/\p57'=p57/\True)/\I p14' p15' p58' w')/\μ p14' p15' p58' w'<μ p141 p151 p581 w1) K w1
def z3k_b0 (p3:Addr)(p8:Sl)(p10:Int)(p11:Bool)(p33:Sl)(p34 p35:Int)(N0:Pw.Y21)(K:Pw.Y8)(w:World):Prop :=
 cnd (decide (p35<p34))
 (nz p33.p fun a6=>(0<=p35/\p35<(p33.l:Nat))/\lI w (a6.add (p35.toNat*5)) fun x7=>∃ x8:Int,w.cell? ((a6.add (p35.toNat*5)).add 1)=some (vI x8)/\∃ x9:Int,w.cell? ((a6.add (p35.toNat*5)).add 2)=some (vI x9)/\∃ x10:Int,w.cell? ((a6.add (p35.toNat*5)).add 3)=some (vI x10)/\∃ x11:Sl,w.cell? ((a6.add (p35.toNat*5)).add 4)=some (vS x11)/\let w12:=w.alloc (.cells #[(vI 0),(vI 0),(vI 0),(vI 0),vN] 54)
 stN w12 (hA w 0) [(vI x7),(vI x8),(vI x9),(vI x10),(vS x11)] fun w13=>T43.ld w13 p3 fun x14=>lI w13 (hA w 0) fun x15=>lI w13 (hA w 1) fun x16=>lI w13 (hA w 2) fun x17=>lI w13 (hA w 3) fun x18=>lS w13 (hA w 4) fun x19=>z3c_sh x14 x15 x16 x17 x18 x19 (fun r21 w20=>cnd (r21 == 0)
 (cnd (!p11)
 (z3k_k1 p3 p8 (hA w 0) p33 p34 p35 N0 K w20)
 (lI w20 (hA w 3) fun x22=>cnd (decide (x22<p10))
 (z3k_k1 p3 p8 (hA w 0) p33 p34 p35 N0 K w20)
 (inR .i64 (p35+1)/\N0 p3 p8 p10 p11 p33 p34 (p35+1) w20)))
 (inR .i64 (p35+1)/\N0 p3 p8 p10 p11 p33 p34 (p35+1) w20)) w13)
 (z3k_l2 p3 p10 (Sl.mk none 0 0) (Sl.mk none 0 0) p8 (p8.l:Int) 0 K w)
structure z3k_l0 (p3:Addr)(p8:Sl)(p10:Int)(p11:Bool)(p33:Sl)(p34 p35:Int)(K:Pw.Y8)(w:World):Prop where
 out:∃ (I:Int->Bool->Int->World->Prop) (μ:Int->Bool->Int->World->Nat),I p10 p11 p35 w/\∀ (p101:Int) (p111:Bool) (p351:Int) (w1:World),I p101 p111 p351 w1 ->
  z3k_b0 p3 p8 p101 p111 p33 p34 p351 (fun p3' p8' p10' p11' p33' p34' p35' w'=>((p3'=p3/\p8'=p8/\p33'=p33/\p34'=p34/\True)/\I p10' p11' p35' w')/\μ p10' p11' p35' w'<μ p101 p111 p351 w1) K w1
structure z3k_sh (p0:T43)(p1:Int)(p2:Sl)(K:Pw.Y8)(w:World):Prop where
 out:let w1:=w.alloc (.cells (T43.cs p0).toArray 43)
  T43.ld w1 (hA w 0) fun x2=>z22_sh x2 p1 p2 (fun r4 r5 w3=>cnd (r5 != 0)
  (K (Sl.mk none 0 0) r5 w3)
  (z3k_l0 (hA w 0) r4 0 false r4 (r4.l:Int) 0 K w3)) w1
def z3k_L0 (Kv:VW):Cur [tQ,tL,tI,tB,tL,tI,tI] WP:=fun p3 p8 p10 p11 p33 p34 p35=>z3k_l0 p3 p8 p10 p11 p33 p34 p35 (kk [.u 2,tL,tI] Kv)
def z3k_L1 (Kv:VW):Cur [tQ,tL,tI,tB,tL,tI,tI] WP->Cur [tQ,tL,tQ,tL,tI,tI] WP:=fun N0 p3 p8 p13 p33 p34 p35=>z3k_k1 p3 p8 p13 p33 p34 p35 N0 (kk [.u 2,tL,tI] Kv)
def z3k_L2 (Kv:VW):Cur [tQ,tI,tL,tL,tL,tI,tI] WP:=fun p3 p10 p14 p15 p56 p57 p58=>z3k_l2 p3 p10 p14 p15 p56 p57 p58 (kk [.u 2,tL,tI] Kv)
def z3k_L3 (Kv:VW):Cur [tQ,tI,tL,tL,tL,tI,tI] WP->Cur [tQ,tI,tL,tL,tQ,tI,tQ,tL,tI,tI] WP:=fun N2 p3 p10 p14 p15 p17 p18 p19 p56 p57 p58=>z3k_k3 p3 p10 p14 p15 p17 p18 p19 p56 p57 p58 N2 (kk [.u 2,tL,tI] Kv)
def z3k_L4 (Kv:VW):Cur [tL,tL,tL,tI,tI] WP:=fun p15 p20 p95 p96 p97=>z3k_l4 p15 p20 p95 p96 p97 (kk [.u 2,tL,tI] Kv)
def z3k_S:=sp (g43 [tI,tL]) [.u 2,tL,tI] (T43.c fun p0=>fun p1 p2=>z3k_sh p0 p1 p2)
theorem z3k_ok:okP 9 z3k_S:=okR (x:=fun Kv=>qr 3 (qr 9 (qs (qr 2 (qc (qr 3 ql) ql)) (qr 2 (qs (qr 3 (qb (A.loop [3,8,10,11,33,34,35] (uR0 [tQ,tL,tI,tB,tL,tI,tI] (z3k_L0 Kv)) (qr 1 (qs (qc ql ql) (qs (qb (qr 4 (qs (A.reg (qn 5 (RA.spl 43 (qn 3 (RA.spl 46 (qk 4 (qn 2 RA.done)) (qn 6 RA.done))) (qk 8 (qn 1 RA.done))))) (qc (A.cut [3,8,13,33,34,35] (uR1 [tQ,tL,tI,tB,tL,tI,tI] [tQ,tL,tQ,tL,tI,tI] (z3k_L1 Kv)) (qe 4)) ql)))) (qe 2))))))) (qr 1 (qr 1 (qs (qr 3 (qb (A.loop [3,10,14,15,56,57,58] (uR0 [tQ,tI,tL,tL,tL,tI,tI] (z3k_L2 Kv)) (qr 1 (qs (qc ql ql) (qs (qb (qr 4 (qr 4 (qr 1 (qs (qr 2 (qc (qe 9) ql)) (A.cut [3,10,14,15,17,18,19,56,57,58] (uR1 [tQ,tI,tL,tL,tL,tI,tI] [tQ,tI,tL,tL,tQ,tI,tQ,tL,tI,tI] (z3k_L3 Kv)) (qs (qr 2 (qc (qr 8 ql) ql)) (qe 7)))))))) (qe 2))))))) (qr 5 (qr 1 (qs (qr 3 (qb (A.loop [15,20,95,96,97] (uR0 [tL,tL,tL,tI,tI] (z3k_L4 Kv)) (qr 1 (qs (qc ql ql) (qs (qb (qr 6 (qe 12))) (qe 2))))))) (qr 5 ql)))))))))))) (Γ:=[(23,z22_S),(24,z3c_S),(25,z2m_S),(26,z1m_S)]) ⟨.inl z22_ok,.inl z3c_ok,.inl z2m_ok,.inl z1m_ok,trivial⟩ Tryz.call9 Tryz.func9 (fun Kv=>q08 (q0c (L:=z3k_L0 Kv) (fun N0 p3 p8 p10 p11 p33 p34 p35=>z3k_b0 p3 p8 p10 p11 p33 p34 p35 N0 (kk [.u 2,tL,tI] Kv)) (fun⟨a0,a1,_,_,a4,a5,_,_⟩ _ h=>let ⟨I,μ,h0,hr⟩:=h.out; ⟨fun b0 b1 b2 b3 b4 b5 b6 w=>(b0=a0/\b1=a1/\b4=a4/\b5=a5/\True)/\I b2 b3 b6 w,fun _ _ b2 b3 _ _ b6 w=>μ b2 b3 b6 w,⟨⟨rfl,rfl,rfl,rfl,trivial⟩,h0⟩,fun⟨_,_,_,_,_,_,_,_⟩ _ ⟨⟨e0,e1,e4,e5,_⟩,hI⟩=>by cases e0; cases e1; cases e4; cases e5; exact hr _ _ _ _ hI⟩)) <| q08 (hK1 (F:=z3k_L1 Kv)) <| q08 (q0c (L:=z3k_L2 Kv) (fun N2 p3 p10 p14 p15 p56 p57 p58=>z3k_b2 p3 p10 p14 p15 p56 p57 p58 N2 (kk [.u 2,tL,tI] Kv)) (fun⟨a0,a1,_,_,a4,a5,_,_⟩ _ h=>let ⟨I,μ,h0,hr⟩:=h.out; ⟨fun b0 b1 b2 b3 b4 b5 b6 w=>(b0=a0/\b1=a1/\b4=a4/\b5=a5/\True)/\I b2 b3 b6 w,fun _ _ b2 b3 _ _ b6 w=>μ b2 b3 b6 w,⟨⟨rfl,rfl,rfl,rfl,trivial⟩,h0⟩,fun⟨_,_,_,_,_,_,_,_⟩ _ ⟨⟨e0,e1,e4,e5,_⟩,hI⟩=>by cases e0; cases e1; cases e4; cases e5; exact hr _ _ _ _ hI⟩)) <| q08 (hK1 (F:=z3k_L3 Kv)) <| q08 (q0c (L:=z3k_L4 Kv) (fun N4 p15 p20 p95 p96 p97=>z3k_b4 p15 p20 p95 p96 p97 N4 (kk [.u 2,tL,tI] Kv)) (fun⟨a0,_,a2,a3,_,_⟩ _ h=>let ⟨I,μ,h0,hr⟩:=h.out; ⟨fun b0 b1 b2 b3 b4 w=>(b0=a0/\b2=a2/\b3=a3/\True)/\I b1 b4 w,fun _ b1 _ _ b4 w=>μ b1 b4 w,⟨⟨rfl,rfl,rfl,trivial⟩,h0⟩,fun⟨_,_,_,_,_,_⟩ _ ⟨⟨e0,e2,e3,_⟩,hI⟩=>by cases e0; cases e2; cases e3; exact hr _ _ _ hI⟩)) <| hEnd)
structure z10_sh (K:Pw.Y0)(w:World):Prop where
 out:Calls Tryz.prog 4 #[] w fun e w'=>∃ r0:Bool,e=.returned (.bool r0)/\K r0 w'
def z10_S:Pw.Spec:=fun vs w Kv =>
 match vs with
 | []=>z10_sh (fun r0 w'=>Kv (.bool r0) w') w
 | _=>False
theorem z10_ok:q22 Tryz.prog 4 z10_S:=⟨Tryz.call4,fun vs w Kv h=>by
  unfold z10_S at h
  split at h
  · exact h.out.mono fun e w' he=>by
      obtain⟨_,he,hk⟩:=he
      exact⟨_,he,hk⟩
  · exact h.elim⟩
def z1c_b0 (p3:Nat)(p8:Sl)(p9 p10:Int)(N0:Nat->Sl->Int->Int->World->Prop)(K:Pw.Y0)(w:World):Prop :=
 cnd (decide (p10<p9))
 (nz p8.p fun a4=>(0<=p10/\p10<(p8.l:Nat))/\lT w (a4.add (p10.toNat*5)) fun x5=>∃ x6:Int,w.cell? ((a4.add (p10.toNat*5)).add 1)=some (vI x6)/\∃ x7:Int,w.cell? ((a4.add (p10.toNat*5)).add 2)=some (vI x7)/\∃ x8:Int,w.cell? ((a4.add (p10.toNat*5)).add 3)=some (vI x8)/\∃ x9:Bool,w.cell? ((a4.add (p10.toNat*5)).add 4)=some (.bool x9)/\let w10:=w.alloc (.cells #[(vT (str [])),(vI 0),(vI 0),(vI 0),(.bool false)] 56)
 stN w10 (hA w 0) [(vT x5),(vI x6),(vI x7),(vI x8),(.bool x9)] fun w11=>lT w11 (hA w 0) fun x12=>∃ l13:List (ByteArray × Bool),Ms w11 p3 (l13.map fun p=>(p.1,Value.bool p.2))/\cnd (q2p false x12 l13)
 (K true w11)
 (lT w11 (hA w 0) fun x14=>(∃ l:List (ByteArray × Value),Ms w11 p3 l)/\let w15:=w11.sset p3 x14 (.bool true)
 inR .i64 (p10+1)/\N0 p3 p8 p9 (p10+1) w15))
 (K false w)
structure z1c_l0 (p3:Nat)(p8:Sl)(p9 p10:Int)(K:Pw.Y0)(w:World):Prop where
 out:∃ (I:Int->World->Prop) (μ:Int->World->Nat),I p10 w/\∀ (p101:Int) (w1:World),I p101 w1 ->
  z1c_b0 p3 p8 p9 p101 (fun p3' p8' p9' p10' w'=>((p3'=p3/\p8'=p8/\p9'=p9/\True)/\I p10' w')/\μ p10' w'<μ p101 w1) K w1
structure z1c_sh (p0:T43)(K:Pw.Y0)(w:World):Prop where
 out:let w1:=w.alloc (.cells (T43.cs p0).toArray 43)
  let w2:=w1.alloc (Obj.map #[] 0)
  lS w2 (hA w 2) fun x3=>z1c_l0 w1.heap.size x3 (x3.l:Int) 0 K w2
def z1c_L0 (Kv:VW):Cur [tN,tL,tI,tI] WP:=fun p3 p8 p9 p10=>z1c_l0 p3 p8 p9 p10 (kk [tB] Kv)
def z1c_S:=sp (g43 []) [tB] (T43.c fun p0=>z1c_sh p0)
theorem z1c_ok:okP 7 z1c_S:=okR (x:=fun Kv=>qr 2 (qr 2 (qs (qr 4 (qb (A.loop [3,8,9,10] (uR0 [tN,tL,tI,tI] (z1c_L0 Kv)) (qr 1 (qs (qc ql ql) (qs (qb (qr 4 (qs (qr 4 (qc (qr 1 ql) ql)) (qe 4)))) (qe 2))))))) (qr 1 ql)))) (Γ:=[]) trivial Tryz.call7 Tryz.func7 (fun Kv=>q08 (q0c (L:=z1c_L0 Kv) (fun N0 p3 p8 p9 p10=>z1c_b0 p3 p8 p9 p10 N0 (kk [tB] Kv)) (fun⟨a0,a1,a2,_,_⟩ _ h=>let ⟨I,μ,h0,hr⟩:=h.out; ⟨fun b0 b1 b2 b3 w=>(b0=a0/\b1=a1/\b2=a2/\True)/\I b3 w,fun _ _ _ b3 w=>μ b3 w,⟨⟨rfl,rfl,rfl,trivial⟩,h0⟩,fun⟨_,_,_,_,_⟩ _ ⟨⟨e0,e1,e2,_⟩,hI⟩=>by cases e0; cases e1; cases e2; exact hr _ _ hI⟩)) <| hEnd)
def z0d_b3 (p1:Sl)(p7:Bool)(p8 p9:Addr)(p11:Int)(p12:Sl)(p13:Int)(p14:Addr)(p81:Sl)(p82 p83:Int)(N3:Sl->Bool->Addr->Addr->Int->Sl->Int->Addr->Sl->Int->Int->World->Prop)(N2:Pw.Y16)(K:Pw.Y0)(w:World):Prop :=
 cnd (decide (p83<p82))
 (nz p81.p fun a44=>(0<=p83/\p83<(p81.l:Nat))/\lT w (a44.add (p83.toNat*5)) fun x45=>∃ x46:Int,w.cell? ((a44.add (p83.toNat*5)).add 1)=some (vI x46)/\∃ x47:Int,w.cell? ((a44.add (p83.toNat*5)).add 2)=some (vI x47)/\∃ x48:Int,w.cell? ((a44.add (p83.toNat*5)).add 3)=some (vI x48)/\∃ x49:Bool,w.cell? ((a44.add (p83.toNat*5)).add 4)=some (.bool x49)/\let w50:=w.alloc (.cells #[(vT (str [])),(vI 0),(vI 0),(vI 0),(.bool false)] 56)
 stN w50 (hA w 0) [(vT x45),(vI x46),(vI x47),(vI x48),(.bool x49)] fun w51=>let w52:=w51.drew
 ∃ S53:World->Prop,S53 w52/\mS S53 (p14.add 4) fun x54=>mT S53 (hA w 0) fun x55=>(3:Int)≠0/\inR .i64 ((1:Int)+(Int.tmod p83 3))/\nz p1.p fun a56=>(0<=p13/\p13<(p1.l:Nat))/\(0<=((1:Int)+(Int.tmod p83 3))/\((1:Int)+(Int.tmod p83 3))<(4:Nat))/\∃ x57:Int,(∀ w':World,S53 w'->w'.cell? ((a56.add (p13.toNat*4)).add (((1:Int)+(Int.tmod p83 3)).toNat*1))=some (vI x57))/\let w58:=w52.alloc (.cells #[(vT x55),(vI x57)] 58)
 S53 w58/\apS 2 24 [(vT (str [])),(vI 0)] 58 x54 (Sl.mk (some (hA w52 0)) 1 1) w58 fun s59 w60=>S53 w60/\wrOk w60 (p14.add 4)/\
 (let w61:=w60.setCell (p14.add 4) (vS s59)
 inR .i64 (p83+1)/\N3 p1 p7 p8 p9 p11 p12 p13 p14 p81 p82 (p83+1) w61))
 (lI w p14 fun x62=>lI w (p14.add 1) fun x63=>lI w (p14.add 2) fun x64=>lI w (p14.add 3) fun x65=>∃ x66:Sl,w.cell? (p14.add 4)=some (vS x66)/\let w67:=w.alloc (.cells #[(vI x62),(vI x63),(vI x64),(vI x65),(vS x66)] 54)
 apS 5 56 [(vI 0),(vI 0),(vI 0),(vI 0),vN] 54 p12 (Sl.mk (some (hA w 0)) 1 1) w67 fun s68 w69=>inR .i64 (p13+1)/\N2 p1 p7 p8 p9 p11 s68 (p13+1) w69)
structure z0d_l3 (p1:Sl)(p7:Bool)(p8 p9:Addr)(p11:Int)(p12:Sl)(p13:Int)(p14:Addr)(p81:Sl)(p82 p83:Int)(N2:Pw.Y16)(K:Pw.Y0)(w:World):Prop where
 out:∃ (I:Int->World->Prop) (μ:Int->World->Nat),I p83 w/\∀ (p831:Int) (w1:World),I p831 w1 ->
  z0d_b3 p1 p7 p8 p9 p11 p12 p13 p14 p81 p82 p831 (fun p1' p7' p8' p9' p11' p12' p13' p14' p81' p82' p83' w'=>((p1'=p1/\p7'=p7/\p8'=p8/\p9'=p9/\p11'=p11/\p12'=p12/\p13'=p13/\p14'=p14/\p81'=p81/\p82'=p82/\True)/\I p83' w')/\μ p83' w'<μ p831 w1) N2 K w1
def z0d_b5 (p7:Bool)(p17 p19:Sl)(p140 p141:Int)(N5:Bool->Sl->Sl->Int->Int->World->Prop)(K:Pw.Y0)(w:World):Prop :=
 cnd (decide (p141<p140))
 (let w83:=w.drew
 nz p17.p fun a84=>(0<=p141/\p141<(p17.l:Nat))/\lI w83 (a84.add (p141.toNat*5)) fun x85=>∃ x86:Int,w83.cell? ((a84.add (p141.toNat*5)).add 1)=some (vI x86)/\∃ x87:Int,w83.cell? ((a84.add (p141.toNat*5)).add 2)=some (vI x87)/\∃ x88:Int,w83.cell? ((a84.add (p141.toNat*5)).add 3)=some (vI x88)/\∃ x89:Int,w83.cell? ((a84.add (p141.toNat*5)).add 4)=some (vI x89)/\nz p19.p fun a90=>(0<=p141/\p141<(p19.l:Nat))/\lI w83 (a90.add (p141.toNat*5)) fun x91=>∃ x92:Int,w83.cell? ((a90.add (p141.toNat*5)).add 1)=some (vI x92)/\∃ x93:Int,w83.cell? ((a90.add (p141.toNat*5)).add 2)=some (vI x93)/\∃ x94:Int,w83.cell? ((a90.add (p141.toNat*5)).add 3)=some (vI x94)/\∃ x95:Int,w83.cell? ((a90.add (p141.toNat*5)).add 4)=some (vI x95)/\cnd (!((x85 == x91) && ((x86 == x92 && (x87 == x93 && true)) && ((x88 == x94) && ((x89 == x95) && true)))))
 (K false w83)
 (inR .i64 (p141+1)/\N5 p7 p17 p19 p140 (p141+1) w83))
 (K p7 w)
structure z0d_l5 (p7:Bool)(p17 p19:Sl)(p140 p141:Int)(K:Pw.Y0)(w:World):Prop where
 out:∃ (I:Int->World->Prop) (μ:Int->World->Nat),I p141 w/\∀ (p1411:Int) (w1:World),I p1411 w1 ->
  z0d_b5 p7 p17 p19 p140 p1411 (fun p7' p17' p19' p140' p141' w'=>((p7'=p7/\p17'=p17/\p19'=p19/\p140'=p140/\True)/\I p141' w')/\μ p141' w'<μ p1411 w1) K w1
structure z0d_k4 (p7:Bool)(p8 p9:Addr)(p11:Int)(p12:Sl)(K:Pw.Y0)(w:World):Prop where
 out:T43.ld w p8 fun x70=>T43.ld w p9 fun x71=>let w72:=w.alloc (.cells #[(vI p11)] 3)
  z1q_sh x70 x71 (Sl.mk (some (hA w 0)) 1 1) (fun r74 w73=>cnd r74
  (K p7 w73)
  (T43.ld w73 p8 fun x75=>z3k_sh x75 p11 p12 (fun r77 r78 w76=>T43.ld w76 p9 fun x79=>z3k_sh x79 p11 p12 (fun r81 r82 w80=>cnd (r78 != r82)
  (K false w80)
  (cnd ((r77.l:Int) != (r81.l:Int))
  (K false w80)
  (z0d_l5 p7 r77 r81 (r77.l:Int) 0 K w80))) w76) w73)) w72
def z0d_b2 (p1:Sl)(p7:Bool)(p8 p9:Addr)(p11:Int)(p12:Sl)(p13:Int)(N2:Pw.Y16)(K:Pw.Y0)(w:World):Prop :=
 cnd (decide (p13<(p1.l:Int)))
 (cnd (decide (p13<8))
 (nz p1.p fun a39=>(0<=p13/\p13<(p1.l:Nat))/\(0<=(0:Int)/\(0:Int)<(4:Nat))/\∃ x40:Int,w.cell? ((a39.add (p13.toNat*4)).add ((0:Int).toNat*1))=some (vI x40)/\let w41:=w.alloc (.cells #[(vI 0),(vI 0),(vI 0),(vI 0),vN] 54)
 stN w41 (hA w 0) [(vI p13),(vI p11),(vI p13),(vI x40),vN] fun w42=>lS w42 (p8.add 2) fun x43=>z0d_l3 p1 p7 p8 p9 p11 p12 p13 (hA w 0) x43 (x43.l:Int) 0 N2 K w42)
 (z0d_k4 p7 p8 p9 p11 p12 K w))
 (z0d_k4 p7 p8 p9 p11 p12 K w)
structure z0d_l2 (p1:Sl)(p7:Bool)(p8 p9:Addr)(p11:Int)(p12:Sl)(p13:Int)(K:Pw.Y0)(w:World):Prop where
 out:∃ (I:Sl->Int->World->Prop) (μ:Sl->Int->World->Nat),I p12 p13 w/\∀ (p121:Sl) (p131:Int) (w1:World),I p121 p131 w1 ->
  z0d_b2 p1 p7 p8 p9 p11 p121 p131 (fun p1' p7' p8' p9' p11' p12' p13' w'=>((p1'=p1/\p7'=p7/\p8'=p8/\p9'=p9/\p11'=p11/\True)/\I p12' p13' w')/\μ p12' p13' w'<μ p121 p131 w1) K w1
structure z0d_k1 (p1:Sl)(p7:Bool)(p8 p9:Addr)(K:Pw.Y0)(w:World):Prop where
 out:lS w (p8.add 1) fun x29=>cnd ((x29.l:Int) == 0)
  (K p7 w)
  (T43.ld w p8 fun x30=>z1c_sh x30 (fun r32 w31=>cnd r32
  (K p7 w31)
  (T43.ld w31 p9 fun x33=>z1c_sh x33 (fun r35 w34=>cnd r35
  (K p7 w34)
  (lS w34 (p8.add 1) fun x36=>nz x36.p fun a37=>(0<=(0:Int)/\(0:Int)<(x36.l:Nat))/\∃ x38:Int,w34.cell? (a37.add ((0:Int).toNat*2))=some (vI x38)/\z0d_l2 p1 p7 p8 p9 x38 (Sl.mk none 0 0) 0 K w34)) w31)) w)
def z0d_b0 (p1 p2:Sl)(p7:Bool)(p8 p9:Addr)(p10:Int)(N0:Sl->Sl->Bool->Addr->Addr->Int->World->Prop)(K:Pw.Y0)(w:World):Prop :=
 cnd (decide (p10<(p2.l:Int)))
 (cnd (decide (p10<4))
 (let w19:=w.drew
 ∃ S20:World->Prop,S20 w19/\T43.lds S20 p9 fun x21=>nz p2.p fun a22=>(0<=p10/\p10<(p2.l:Nat))/\mI S20 (a22.add (p10.toNat*3)) fun x23=>∃ x24:Int,(∀ w':World,S20 w'->w'.cell? ((a22.add (p10.toNat*3)).add 1)=some (vI x24))/\∃ x25:Int,(∀ w':World,S20 w'->w'.cell? ((a22.add (p10.toNat*3)).add 2)=some (vI x25))/\z0y_sh x21 x23 x24 x25 (fun r27 w26=>stN w26 p9 (T43.cs r27) fun w28=>inR .i64 (p10+1)/\N0 p1 p2 p7 p8 p9 (p10+1) w28) w19)
 (z0d_k1 p1 p7 p8 p9 K w))
 (z0d_k1 p1 p7 p8 p9 K w)
structure z0d_l0 (p1 p2:Sl)(p7:Bool)(p8 p9:Addr)(p10:Int)(K:Pw.Y0)(w:World):Prop where
 out:∃ (I:Int->World->Prop) (μ:Int->World->Nat),I p10 w/\∀ (p101:Int) (w1:World),I p101 w1 ->
  z0d_b0 p1 p2 p7 p8 p9 p101 (fun p1' p2' p7' p8' p9' p10' w'=>((p1'=p1/\p2'=p2/\p7'=p7/\p8'=p8/\p9'=p9/\True)/\I p10' w')/\μ p10' w'<μ p101 w1) K w1
structure z0d_sh (p0:T29)(p1 p2:Sl)(K:Pw.Y0)(w:World):Prop where
 out:let w1:=w.alloc (.cells (T29.cs p0).toArray 29)
  z10_sh (fun r3 w2=>let w4:=w2.drew
  ∃ S5:World->Prop,S5 w4/\T29.lds S5 (hA w 0) fun x6=>T29.lds S5 (hA w 0) fun x7=>(∀ u u':World,Ext u u'->S5 u->S5 u')/\((∀ u:World,ExtL u (u.alloc (.cells #[(vT (str [])),vN,vN,vN,(vI 0),(vI 0),(vT (str [])),(vI 0),(vI 0),(vT (str [])),vN,vN,(vI 0),vN,(vI 0),(vI 0),(vI 0),(vI 0),(vI 0),(vI 0)] 43)))/\(∀ u:World,ExtL u (u.alloc (.cells #[(vT (str [])),vN,vN,vN,(vI 0),(vI 0),(vT (str [])),(vI 0),(vI 0),(vT (str [])),vN,vN,(vI 0),vN,(vI 0),(vI 0),(vI 0),(vI 0),(vI 0),(vI 0)] 43)))/\True)/\∀ w8:World,Ext w4 w8->z07_sh x6 (fun r10 w9=>Ext w8 w9/\∀ w11:World,Ext w9 w11->z07_sh x7 (fun r13 w12=>Ext w11 w12/\∀ w14:World,Ext w12 w14->∀ w15:World,Ext w4 w15->ninL w15.heap.size []->Ext (w15.alloc (.cells #[(vT (str [])),vN,vN,vN,(vI 0),(vI 0),(vT (str [])),(vI 0),(vI 0),(vT (str [])),vN,vN,(vI 0),vN,(vI 0),(vI 0),(vI 0),(vI 0),(vI 0),(vI 0)] 43)) w14->∀ w16:World,Ext w4 w16->ninL w16.heap.size [w15.heap.size]->Ext (w16.alloc (.cells #[(vT (str [])),vN,vN,vN,(vI 0),(vI 0),(vT (str [])),(vI 0),(vI 0),(vT (str [])),vN,vN,(vI 0),vN,(vI 0),(vI 0),(vI 0),(vI 0),(vI 0),(vI 0)] 43)) w14->stN w14 (hA w15 0) (T43.cs r10) fun w17=>S5 w17/\stN w17 (hA w16 0) (T43.cs r13) fun w18=>z0d_l0 p1 p2 r3 (hA w15 0) (hA w16 0) 0 K w18) w11) w8) w1
def z0d_L0 (Kv:VW):Cur [tL,tL,tB,tQ,tQ,tI] WP:=fun p1 p2 p7 p8 p9 p10=>z0d_l0 p1 p2 p7 p8 p9 p10 (kk [tB] Kv)
def z0d_L1 (Kv:VW):Cur [tL,tB,tQ,tQ] WP:=fun p1 p7 p8 p9=>z0d_k1 p1 p7 p8 p9 (kk [tB] Kv)
def z0d_L2 (Kv:VW):Cur [tL,tB,tQ,tQ,tI,tL,tI] WP:=fun p1 p7 p8 p9 p11 p12 p13=>z0d_l2 p1 p7 p8 p9 p11 p12 p13 (kk [tB] Kv)
def z0d_L3 (Kv:VW):Cur [tL,tB,tQ,tQ,tI,tL,tI] WP->Cur [tL,tB,tQ,tQ,tI,tL,tI,tQ,tL,tI,tI] WP:=fun N2 p1 p7 p8 p9 p11 p12 p13 p14 p81 p82 p83=>z0d_l3 p1 p7 p8 p9 p11 p12 p13 p14 p81 p82 p83 N2 (kk [tB] Kv)
def z0d_L4 (Kv:VW):Cur [tB,tQ,tQ,tI,tL] WP:=fun p7 p8 p9 p11 p12=>z0d_k4 p7 p8 p9 p11 p12 (kk [tB] Kv)
def z0d_L5 (Kv:VW):Cur [tB,tL,tL,tI,tI] WP:=fun p7 p17 p19 p140 p141=>z0d_l5 p7 p17 p19 p140 p141 (kk [tB] Kv)
def z0d_S:Pw.Spec:=fun vs w Kv=>un (.g 16 :: tL :: tL :: tL :: tL :: tL :: tL :: tI :: tI :: tI :: tI :: tI :: tI :: tI :: tI :: tI :: tI :: tL :: tL :: []) (fun p0_0 p0_1 p0_2 p0_3 p0_4 p0_5 p0_6 p0_7 p0_8 p0_9 p0_10 p0_11 p0_12 p0_13 p0_14 p0_15 p1 p2=>z0d_sh ⟨p0_0,p0_1,p0_2,p0_3,p0_4,p0_5,p0_6,p0_7,p0_8,p0_9,p0_10,p0_11,p0_12,p0_13,p0_14,p0_15⟩ p1 p2 (kk [tB] Kv)) nF vs w
theorem z0d_ok:okP 3 z0d_S:=okR (x:=fun Kv=>qr 2 (qr 2 (qs (A.drw (dp [0,2] (DA.flo [4,5] [1,3] (DA.eff 6 (DA.eff 7 DA.done))))) (qs (qr 1 (qb (A.loop [1,2,7,8,9,10] (uR0 [tL,tL,tB,tQ,tQ,tI] (z0d_L0 Kv)) (qs (qs (A.reg (qn 5 (RA.spl 31 (qn 3 RA.done) (qk 2 (qn 1 RA.done))))) (qc ql ql)) (qs (qb (A.drw (dp [0,1,2,3,4] (DA.eff 5 (DA.eff 6 DA.done))))) (qe 3)))))) (A.cut [1,7,8,9] (uR0 [tL,tB,tQ,tQ] (z0d_L1 Kv)) (qs (qs (A.reg (qn 5 (RA.spl 47 (qk 2 (qn 2 (qk 2 (qn 1 RA.done)))) (qn 4 (RA.spl 51 (qk 2 (qn 1 RA.done)) (qn 3 RA.done)))))) (qc (qr 2 ql) ql)) (qr 6 (qr 1 (qs (qr 1 (qb (A.loop [1,7,8,9,11,12,13] (uR0 [tL,tB,tQ,tQ,tI,tL,tI] (z0d_L2 Kv)) (qs (qs (A.reg (qn 5 (RA.spl 65 (qn 3 RA.done) (qk 2 (qn 1 RA.done))))) (qc ql ql)) (qs (qb (qr 11 (qs (qr 4 (qb (A.loop [1,7,8,9,11,12,13,14,81,82,83] (uR1 [tL,tB,tQ,tQ,tI,tL,tI] [tL,tB,tQ,tQ,tI,tL,tI,tQ,tL,tI,tI] (z0d_L3 Kv)) (qr 1 (qs (qc ql ql) (qs (qb (qr 6 (A.drw (dp [0,1,2,3,4,5,6,7,8,9,10,11,12] (DA.eff 13 (DA.eff 14 (DA.pur 15 (DA.eff 16 DA.done)))))))) (qe 2))))))) (qe 5)))) (qe 3)))))) (A.cut [7,8,9,11,12] (uR0 [tB,tQ,tQ,tI,tL] (z0d_L4 Kv)) (qs (qr 5 (qc (qr 2 ql) ql)) (qr 9 (qr 9 (qs (qs (A.reg (qn 4 (RA.spl 132 (qk 5 (qn 1 RA.done)) (qn 6 RA.done)))) (qc (qr 1 ql) ql)) (qs (qr 3 (qb (A.loop [7,17,19,140,141] (uR0 [tB,tL,tL,tI,tI] (z0d_L5 Kv)) (qr 1 (qs (qc ql ql) (qs (qb (qr 2 (qs (A.drp (dp [0,1,2,3,4,5,6,7,8] DA.done)) (qc (qr 1 ql) ql)))) (qe 2))))))) (qr 2 ql)))))))))))))))) (Γ:=[(4,z10_S),(5,z07_S),(6,z0y_S),(7,z1c_S),(8,z1q_S),(9,z3k_S)]) ⟨.inl z10_ok,.inl z07_ok,.inl z0y_ok,.inl z1c_ok,.inl z1q_ok,.inl z3k_ok,trivial⟩ Tryz.call3 Tryz.func3 (fun Kv=>q08 (q0c (L:=z0d_L0 Kv) (fun N0 p1 p2 p7 p8 p9 p10=>z0d_b0 p1 p2 p7 p8 p9 p10 N0 (kk [tB] Kv)) (fun⟨a0,a1,a2,a3,a4,_,_⟩ _ h=>let ⟨I,μ,h0,hr⟩:=h.out; ⟨fun b0 b1 b2 b3 b4 b5 w=>(b0=a0/\b1=a1/\b2=a2/\b3=a3/\b4=a4/\True)/\I b5 w,fun _ _ _ _ _ b5 w=>μ b5 w,⟨⟨rfl,rfl,rfl,rfl,rfl,trivial⟩,h0⟩,fun⟨_,_,_,_,_,_,_⟩ _ ⟨⟨e0,e1,e2,e3,e4,_⟩,hI⟩=>by cases e0; cases e1; cases e2; cases e3; cases e4; exact hr _ _ hI⟩)) <| q08 (hK0 (F:=z0d_L1 Kv)) <| q08 (q0c (L:=z0d_L2 Kv) (fun N2 p1 p7 p8 p9 p11 p12 p13=>z0d_b2 p1 p7 p8 p9 p11 p12 p13 N2 (kk [tB] Kv)) (fun⟨a0,a1,a2,a3,a4,_,_,_⟩ _ h=>let ⟨I,μ,h0,hr⟩:=h.out; ⟨fun b0 b1 b2 b3 b4 b5 b6 w=>(b0=a0/\b1=a1/\b2=a2/\b3=a3/\b4=a4/\True)/\I b5 b6 w,fun _ _ _ _ _ b5 b6 w=>μ b5 b6 w,⟨⟨rfl,rfl,rfl,rfl,rfl,trivial⟩,h0⟩,fun⟨_,_,_,_,_,_,_,_⟩ _ ⟨⟨e0,e1,e2,e3,e4,_⟩,hI⟩=>by cases e0; cases e1; cases e2; cases e3; cases e4; exact hr _ _ _ hI⟩)) <| q08 (qj2 (L:=z0d_L3 Kv) (fun N2 N3 p1 p7 p8 p9 p11 p12 p13 p14 p81 p82 p83=>z0d_b3 p1 p7 p8 p9 p11 p12 p13 p14 p81 p82 p83 N3 N2 (kk [tB] Kv)) (fun _ ⟨a0,a1,a2,a3,a4,a5,a6,a7,a8,a9,_,_⟩ _ h=>let ⟨I,μ,h0,hr⟩:=h.out; ⟨fun b0 b1 b2 b3 b4 b5 b6 b7 b8 b9 b10 w=>(b0=a0/\b1=a1/\b2=a2/\b3=a3/\b4=a4/\b5=a5/\b6=a6/\b7=a7/\b8=a8/\b9=a9/\True)/\I b10 w,fun _ _ _ _ _ _ _ _ _ _ b10 w=>μ b10 w,⟨⟨rfl,rfl,rfl,rfl,rfl,rfl,rfl,rfl,rfl,rfl,trivial⟩,h0⟩,fun⟨_,_,_,_,_,_,_,_,_,_,_,_⟩ _ ⟨⟨e0,e1,e2,e3,e4,e5,e6,e7,e8,e9,_⟩,hI⟩=>by cases e0; cases e1; cases e2; cases e3; cases e4; cases e5; cases e6; cases e7; cases e8; cases e9; exact hr _ _ hI⟩)) <| q08 (hK0 (F:=z0d_L4 Kv)) <| q08 (q0c (L:=z0d_L5 Kv) (fun N5 p7 p17 p19 p140 p141=>z0d_b5 p7 p17 p19 p140 p141 N5 (kk [tB] Kv)) (fun⟨a0,a1,a2,a3,_,_⟩ _ h=>let ⟨I,μ,h0,hr⟩:=h.out; ⟨fun b0 b1 b2 b3 b4 w=>(b0=a0/\b1=a1/\b2=a2/\b3=a3/\True)/\I b4 w,fun _ _ _ _ b4 w=>μ b4 w,⟨⟨rfl,rfl,rfl,rfl,trivial⟩,h0⟩,fun⟨_,_,_,_,_,_⟩ _ ⟨⟨e0,e1,e2,e3,_⟩,hI⟩=>by cases e0; cases e1; cases e2; cases e3; exact hr _ _ hI⟩)) <| hEnd)
