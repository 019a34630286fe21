/- The bodies' formulas, by program. -/
import Derived.Test.YtipjnbbfnlfmjaaGreatDoorCG0
set_option maxRecDepth 20000
namespace Go.Proofs.YtipjnbbfnlfmjaaGreatDoor
open Go Pw
structure z1i_sh (p0:Int)(K:Pw.Y3)(w:World):Prop where
 out:let w1:=w.alloc (.cells #[(vI 0),(vI 0)] 35)
  wrOk w1 (hA w 0)/\
  (let w2:=w1.setCell (hA w 0) (vI p0)
  wrOk w2 (hA w 1)/\
  (let w3:=w2.setCell (hA w 1) (vI 1)
  lI w3 (hA w 0) fun x4=>lI w3 (hA w 1) fun x5=>K x4 x5 w3))
def z1i_S:=sp [tI] [.g 2,tI,tI] z1i_sh
theorem z1i_ok:okP 74 z1i_S:=okR (x:=fun _=>qr 1 (qr 3 ql)) (Γ:=[]) trivial Tryz.call74 Tryz.func74 (fun _=>hEnd)
structure z0r_sh (p0:Int)(K:Pw.Y0)(w:World):Prop where
 out:cnd (decide (p0>(-1000000000)))
  (K (decide (p0<1000000000)) w)
  (K false w)
def z0r_S:=sp [tI] [tB] z0r_sh
theorem z0r_ok:okP 75 z0r_S:=okR (x:=fun _=>qr 1 (qs (A.reg (qn 3 (RA.spl 5 (qn 4 RA.done) (qk 2 (qn 2 RA.done))))) ql)) (Γ:=[]) trivial Tryz.call75 Tryz.func75 (fun _=>hEnd)
def z0q_b1 (p0 p1:Int)(p4:Addr)(p5 p6:Int)(N1:Int->Int->Addr->Int->Int->World->Prop)(K:Pw.Y3)(w:World):Prop :=
 cnd (decide (p6>0))
 (p6≠0/\N1 p0 p1 p4 p6 (Int.tmod p5 p6) w)
 (let w2:=w.drew
 ∃ S3:World->Prop,S3 w2/\p5≠0/\inR .i64 (Int.tdiv p0 p5)/\p5≠0/\inR .i64 (Int.tdiv p1 p5)/\wrOk w2 p4/\
 (let w4:=w2.setCell p4 (vI (Int.tdiv p0 p5))
 wrOk w4 (p4.add 1)/\
 (let w5:=w4.setCell (p4.add 1) (vI (Int.tdiv p1 p5))
 lI w5 p4 fun x6=>lI w5 (p4.add 1) fun x7=>K x6 x7 w5)))
structure z0q_l1 (p0 p1:Int)(p4:Addr)(p5 p6:Int)(K:Pw.Y3)(w:World):Prop where
 out:∃ (I:Int->Int->World->Prop) (μ:Int->Int->World->Nat),I p5 p6 w/\∀ (p51 p61:Int) (w1:World),I p51 p61 w1 ->
  z0q_b1 p0 p1 p4 p51 p61 (fun p0' p1' p4' p5' p6' w'=>((p0'=p0/\p1'=p1/\p4'=p4/\True)/\I p5' p6' w')/\μ p5' p6' w'<μ p51 p61 w1) K w1
structure z0q_k0 (p0 p1:Int)(p4:Addr)(K:Pw.Y3)(w:World):Prop where
 out:inR .i64 (-p0)/\z0q_l1 p0 p1 p4 (max p0 (-p0)) p1 K w
structure z0q_sh (p0 p1:Int)(K:Pw.Y3)(w:World):Prop where
 out:let w1:=w.alloc (.cells #[(vI 0),(vI 0)] 35)
  cnd (decide (p1<0))
  (inR .i64 (-p0)/\inR .i64 (-p1)/\z0q_k0 (-p0) (-p1) (hA w 0) K w1)
  (z0q_k0 p0 p1 (hA w 0) K w1)
def z0q_L0 (Kv:VW):Cur [tI,tI,tQ] WP:=fun p0 p1 p4=>z0q_k0 p0 p1 p4 (kk [.g 2,tI,tI] Kv)
def z0q_L1 (Kv:VW):Cur [tI,tI,tQ,tI,tI] WP:=fun p0 p1 p4 p5 p6=>z0q_l1 p0 p1 p4 p5 p6 (kk [.g 2,tI,tI] Kv)
def z0q_S:=sp [tI,tI] [.g 2,tI,tI] z0q_sh
theorem z0q_ok:okP 76 z0q_S:=okR (x:=fun Kv=>qr 1 (qs (qr 2 (qc (qr 3 (qe 3)) ql)) (A.cut [0,1,4] (uR0 [tI,tI,tQ] (z0q_L0 Kv)) (qr 5 (qr 2 (qs (qb (A.loop [0,1,4,5,6] (uR0 [tI,tI,tQ,tI,tI] (z0q_L1 Kv)) (qs (qr 2 (qc ql ql)) (qb (qr 4 (qr 2 (qe 2))))))) (qs (A.drw (dp [0,1,2,3,4,5,6] (DA.eff 7 DA.done))) ql))))))) (Γ:=[]) trivial Tryz.call76 Tryz.func76 (fun Kv=>q08 (hK0 (F:=z0q_L0 Kv)) <| q08 (q0c (L:=z0q_L1 Kv) (fun N1 p0 p1 p4 p5 p6=>z0q_b1 p0 p1 p4 p5 p6 N1 (kk [.g 2,tI,tI] Kv)) (fun⟨a0,a1,a2,_,_,_⟩ _ h=>let ⟨I,μ,h0,hr⟩:=h.out; ⟨fun b0 b1 b2 b3 b4 w=>(b0=a0/\b1=a1/\b2=a2/\True)/\I b3 b4 w,fun _ _ _ b3 b4 w=>μ b3 b4 w,⟨⟨rfl,rfl,rfl,trivial⟩,h0⟩,fun⟨_,_,_,_,_,_⟩ _ ⟨⟨e0,e1,e2,_⟩,hI⟩=>by cases e0; cases e1; cases e2; exact hr _ _ _ hI⟩)) <| hEnd)
structure z0w_sh (p0 p1:Int)(K:Pw.Y2)(w:World):Prop where
 out:let w1:=w.alloc (.cells #[(vI 0),(vI 0)] 35)
  cnd (p1 == 0)
  (z1i_sh 0 (fun r3_0 r3_1 w2=>wrOk w2 (hA w 0)/\
  (let w4:=w2.setCell (hA w 0) (vI r3_0)
  wrOk w4 (hA w 1)/\
  (let w5:=w4.setCell (hA w 1) (vI r3_1)
  lI w5 (hA w 0) fun x6=>lI w5 (hA w 1) fun x7=>K x6 x7 false w5))) w1)
  (z0r_sh p0 (fun r9 w8=>cnd r9
  (z0r_sh p1 (fun r11 w10=>cnd r11
  (z0q_sh p0 p1 (fun r13_0 r13_1 w12=>wrOk w12 (hA w 0)/\
  (let w14:=w12.setCell (hA w 0) (vI r13_0)
  wrOk w14 (hA w 1)/\
  (let w15:=w14.setCell (hA w 1) (vI r13_1)
  lI w15 (hA w 0) fun x16=>lI w15 (hA w 1) fun x17=>K x16 x17 true w15))) w10)
  (False)) w8)
  (False)) w1)
def z0w_S:=sp [tI,tI] [.u 2,.g 2,tI,tI,tB] z0w_sh
theorem z0w_ok:okP 33 z0w_S:=okR (x:=fun _=>qr 2 (qs (qr 2 (qc (qr 3 ql) ql)) (qs (qs (A.reg (qn 3 (RA.spl 11 (qn 3 RA.done) (qk 2 (qn 1 RA.done))))) (qc (qr 5 ql) ql)) ql))) (Γ:=[(74,z1i_S),(75,z0r_S),(76,z0q_S)]) ⟨.inl z1i_ok,.inl z0r_ok,.inl z0q_ok,trivial⟩ Tryz.call33 Tryz.func33 (fun _=>hEnd)
