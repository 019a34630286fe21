/- The bodies' formulas, by program. -/
import Derived.Test.YtipjnbbfnlfmjaaGreatDoorTE3
set_option maxRecDepth 20000
namespace Go.Proofs.YtipjnbbfnlfmjaaGreatDoor
open Go Pw
structure z3o_sh (a0_0:ByteArray)(a0_1 a0_2:Int)(a0_3:ByteArray)(a0_4 a1:Sl)(K:Pw.Y13)(w:World):Prop where
 out:Calls Tryz.prog 52 #[(Value.agg #[(vT a0_0),(vI a0_1),(vI a0_2),(vT a0_3),(vS a0_4)]),(vS a1)] w fun e w'=>∃ r0_0:Int,∃ r0_1:Int,∃ r1:Int,e=.returned (.tuple #[(Value.agg #[(vI r0_0),(vI r0_1)]),(vI r1)])/\K r0_0 r0_1 r1 w'
def z3o_S:Pw.Spec:=fun vs w Kv =>
 match vs with
 | [.agg ⟨[.string a0_0,.int .i64 a0_1,.int .i64 a0_2,.string a0_3,.slice a0_4p a0_4l a0_4c]⟩,.slice a1p a1l a1c]=>z3o_sh a0_0 a0_1 a0_2 a0_3 ⟨a0_4p,a0_4l,a0_4c⟩ ⟨a1p,a1l,a1c⟩ (fun r0_0 r0_1 r1 w'=>Kv (.tuple #[(Value.agg #[(vI r0_0),(vI r0_1)]),(vI r1)]) w') w
 | _=>False
theorem z3o_ok:q22 Tryz.prog 52 z3o_S:=⟨Tryz.call52,fun vs w Kv h=>by
  unfold z3o_S at h
  split at h
  · exact h.out.mono fun e w' he=>by
      obtain⟨_,_,_,he,hk⟩:=he
      exact⟨_,he,hk⟩
  · exact h.elim⟩
structure z2m_sh (p0:T43)(p1_0 p1_1:Int)(p1_2 p1_3:Int)(p1_4:Sl)(p2:Int)(K:Pw.Y13)(w:World):Prop where
 out:let w1:=w.alloc (.cells (T43.cs p0).toArray 43)
  let w2:=w1.alloc (.cells #[(vI p1_0),(vI p1_1),(vI p1_2),(vI p1_3),(vS p1_4)] 54)
  let w3:=w2.alloc (.cells #[(vI 0),(vI 0)] 35)
  ∃ x4:Int,w3.cell? (hA w1 3)=some (vI x4)/\let w5:=w3.alloc (.cells #[(vT (str [112,114,105,99,101])),(vI x4),(vT (str [108,111,119])),(vI p2)] 58)
  let w6:=w5.drew
  ∃ S7:World->Prop,S7 w6/\mT S7 (hA w 6) fun x8=>mI S7 (hA w 7) fun x9=>mI S7 (hA w 8) fun x10=>mT S7 (hA w 9) fun x11=>mS S7 (hA w 10) fun x12=>mS S7 (hA w1 4) fun x13=>apS 2 24 [(vT (str [])),(vI 0)] 58 (Sl.mk (some (hA w3 0)) 2 2) x13 w6 fun s14 w15=>S7 w15/\z3o_sh x8 x9 x10 x11 x12 s14 (fun r17_0 r17_1 r18 w16=>S7 w16/\wrOk w16 (hA w2 0)/\
  (let w19:=w16.setCell (hA w2 0) (vI r17_0)
  wrOk w19 (hA w2 1)/\
  (let w20:=w19.setCell (hA w2 1) (vI r17_1)
  lI w20 (hA w2 0) fun x21=>lI w20 (hA w2 1) fun x22=>K x21 x22 r18 w20))) w15
def z2m_S:=sp (g43 [.g 5,tI,tI,tI,tI,tL,tI]) [.u 2,.g 2,tI,tI,tI] (T43.c fun p0=>fun p1_0 p1_1 p1_2 p1_3 p1_4 p2=>z2m_sh p0 p1_0 p1_1 p1_2 p1_3 p1_4 p2)
theorem z2m_ok:okP 25 z2m_S:=okR (x:=fun _=>qr 4 (qr 7 (qs (A.drw (dp [0,1,2,3,4] (DA.eff 5 (DA.eff 6 (dp [7,8] (DA.eff 9 (DA.pur 10 DA.done))))))) ql))) (Γ:=[(52,z3o_S)]) ⟨.inl z3o_ok,trivial⟩ Tryz.call25 Tryz.func25 (fun _=>hEnd)
def z0f_b0 (p0:Sl)(p1 p2:Int)(p4:Value)(N0:Sl->Int->Int->Value->World->Prop)(K:Pw.Y15)(w:World):Prop :=
 inR .i64 (p2-p1)/\cnd (decide ((p2-p1)<=12))
 (z03_sh p0 p1 p2 p4 (fun w1=>K w1) w)
 (False)
structure z0f_l0 (p0:Sl)(p1 p2:Int)(p4:Value)(K:Pw.Y15)(w:World):Prop where
 out:∃ (I:Int->Int->World->Prop) (μ:Int->Int->World->Nat),I p1 p2 w/\∀ (p11 p21:Int) (w1:World),I p11 p21 w1 ->
  z0f_b0 p0 p11 p21 p4 (fun p0' p1' p2' p4' w'=>((p0'=p0/\p4'=p4/\True)/\I p1' p2' w')/\μ p1' p2' w'<μ p11 p21 w1) K w1
structure z0f_sh (p0:Sl)(p1 p2 p3:Int)(p4:Value)(K:Pw.Y15)(w:World):Prop where
 out:z0f_l0 p0 p1 p2 p4 K w
def z0f_L0 (Kv:VW):Cur [tL,tI,tI,tV] WP:=fun p0 p1 p2 p4=>z0f_l0 p0 p1 p2 p4 (kk [.u 0] Kv)
def z0f_S:=sp [tL,tI,tI,tI,tV] [.u 0] z0f_sh
theorem z0f_ok:okP 53 z0f_S:=okR (x:=fun Kv=>qr 1 (qr 1 (qb (A.loop [0,1,2,4] (uR0 [tL,tI,tI,tV] (z0f_L0 Kv)) (qb (qr 4 (qs (qr 2 (qc (qr 5 ql) ql)) ql))))))) (Γ:=[(89,z03_S)]) ⟨.inl z03_ok,trivial⟩ Tryz.call53 Tryz.func53 (fun Kv=>q08 (q0c (L:=z0f_L0 Kv) (fun N0 p0 p1 p2 p4=>z0f_b0 p0 p1 p2 p4 N0 (kk [.u 0] Kv)) (fun⟨a0,_,_,a3,_⟩ _ h=>let ⟨I,μ,h0,hr⟩:=h.out; ⟨fun b0 b1 b2 b3 w=>(b0=a0/\b3=a3/\True)/\I b1 b2 w,fun _ b1 b2 _ w=>μ b1 b2 w,⟨⟨rfl,rfl,trivial⟩,h0⟩,fun⟨_,_,_,_,_⟩ _ ⟨⟨e0,e3,_⟩,hI⟩=>by cases e0; cases e3; exact hr _ _ _ hI⟩)) <| hEnd)
structure z1m_sh (p0:Sl)(p1:Value)(K:Pw.Y15)(w:World):Prop where
 out:inR .u64 (p0.l:Int)/\z41_sh (p0.l:Int) (fun r2 w1=>z0f_sh p0 0 (p0.l:Int) r2 p1 (fun w3=>K w3) w1) w
def z1m_S:=sp [tL,tV] [.u 0] z1m_sh
theorem z1m_ok:okP 26 z1m_S:=okR (x:=fun _=>qr 3 (qe 7)) (Γ:=[(53,z0f_S),(54,z41_S)]) ⟨.inl z0f_ok,.inl z41_ok,trivial⟩ Tryz.call26 Tryz.func26 (fun _=>hEnd)
