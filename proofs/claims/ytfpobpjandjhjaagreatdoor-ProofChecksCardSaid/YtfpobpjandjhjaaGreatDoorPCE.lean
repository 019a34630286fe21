/- Spoiled with a bound on the choices; Prefixes under a wider bound. Conditions: none. -/
import Derived.Test.YtfpobpjandjhjaaGreatDoorPXZ
open List renaming getElem?_eq_getElem->J0,mem_singleton->J1,countP_le_length->J2,nil_append->J3,mem_append->J4,countP_append->J5,countP_cons->J6,countP_nil->J7
open Int renaming emod_lt_of_pos->J8,emod_nonneg->J9
namespace Go.Proofs.YtfpobpjandjhjaaGreatDoor
open Go Pw
section
variable {w w0 wP:World}{s sL sC sD s0 s1 s2:Sl}{l0:List Int}{l1:List Ch}{dc:List (De × Sl)}{p:Pr}{pb tb qb nb:Nat}{m b n:Int}{L:List (Nat × List Value)}
theorem qei {q2:Int}{R Rq:List Value}{v1 v2 v3 v4 v5:Value}{K:Sl->Sl->Sl->Int->Int->World->Prop}{cb:Nat}(hcb:l1.length<=cb)(hl0:l0.length<=12)(hl1:l1.length<2^40)(hl2:dc.length<2^40)(hx:∀ x∈dc,VI wP x.2 x.1.lots/\x.1.lots.length<2^40)
  (h:Sp w0 w [(nb,R),(tb,[v1,v2,v3,v4,v5]),(qb,Rq),(pb,prC sL sC sD m b)] (fun b=>inB sC b\/inB sD b) (fun u=>Ow 4 encC u sC l1/\Ow 3 encD u sD dc) 1 IE sL l0)
  (hK:∀ w' s0' s1' s2' (p':Pr),Fr F0 w0 w'->p'.ch.length<=cb->(∀ u,Fr F0 wP u->(∀ b,w0.heap.size<=b->u.heap[b]?=w'.heap[b]?)->PV u s0' s1' s2' p')->K s0' s1' s2' p'.most p'.budget w'):z0z_l0 ⟨pb,0,none⟩ ⟨tb,0,none⟩ q2 0 K w:=by
 refine⟨⟨fun i w'=>∃ (i':Nat) (sL:Sl) (l0:List Int),i=i'/\i'<=20/\l0.length<=12+i'/\Sp w0 w' [(nb,R),(tb,[v1,v2,v3,v4,v5]),(qb,Rq),(pb,prC sL sC sD m b)] (fun b=>inB sC b\/inB sD b) (fun u=>Ow 4 encC u sC l1/\Ow 3 encD u sD dc) 1 IE sL l0,
  fun i _=>20-i.toNat,⟨0,sL,l0,rfl,by omega,by omega,h⟩,?_⟩⟩
 clear h hl0
 rintro i w1 ⟨i,sL,l0,rfl,hi,hl0,h⟩
 unfold z0z_b0
 intro w2
 have h:Sp w0 w2 _ _ _ _ _ _ _:=h.drew
 have hlen:=h.ow.vw.len
 refine⟨fun u=>Row u pb (prC sL sC sD m b),h.row 3,sL,fun u hu=>hu.at,q6i (by decide) (by decide) ?_⟩
 have r1:=J9 q2 (show(3:Int)≠0 by decide)
 have r2:=J8 q2 (show(0:Int)<3 by decide)
 refine⟨h.row 3,q01,q01,q01,q00.2 ?_⟩
 refine⟨fun hlt=>⟨sL,h.ld 3,q01,?_⟩,fun hge=>?_⟩
 ·intro w3
  refine h.push (a:=100+(i:Int)) rfl rfl (q1y _ _) rfl (by omega) (by omega) fun r w4 h=>⟨h.wr 3,?_⟩
  intro w5
  have h:Sp w0 w5 [(nb,R),(tb,[v1,v2,v3,v4,v5]),(qb,Rq),(pb,prC r sC sD m b)] _ _ _ _ _ _:=h.set 3
  exact⟨q01,⟨⟨rfl,rfl,rfl,trivial⟩,i+1,r,_,by omega,by omega,by simp; omega,h⟩,by dsimp only; omega⟩
 ·exact Sk1 (jp:=3) (jt:=1) h rfl rfl fun u h=>hK u _ _ _ ⟨l0,l1,dc.map (·.1),m,b⟩ h.m.1 hcb fun v hv ha=>have h:=h.far ha; mkPV h.ow.vw h.q.1.vw h.q.2.vw (fun x hx'=>⟨(hx x hx').1.fr hv,(hx x hx').2⟩) (by omega) hl1 hl2
theorem q9v {q0 q1 q2:Int}{K:Sl->Sl->Sl->Int->Int->World->Prop}(hp:q03 p)(hP0:PV wP s0 s1 s2 p)(hf0:Fr F0 wP w)
  (hK:∀ w' s0' s1' s2' (p':Pr),Fr F0 w w'->p'.ch.length<=p.ch.length+1->(∀ u,Fr F0 wP u->(∀ b,w.heap.size<=b->u.heap[b]?=w'.heap[b]?)->PV u s0' s1' s2' p')->K s0' s1' s2' p'.most p'.budget w'):z0z_sh s0 s1 s2 p.most p.budget q0 q1 q2 K w:=by
 have g0:=hp.few
 have g0':=hp.some
 have g1:=hp.chs
 have g2:=hp.des
 have hP:=hP0.fr hf0
 obtain⟨dc,hd0,hm,hx⟩:=hP0.de
 have hd:=hd0.fr hf0
 have hlm:dc.length=p.de.length:=by rw[← hm,List.length_map]
 refine⟨?_⟩
 intro w1
 have M:Mem w w1 _:=Mem.nil.allocL
 intro w2
 have M:Mem w w2 _:=M.allocL
 intro w3
 have M:Mem w w3 _:=M.allocL
 intro w4
 have h:Sp w w4 _ _ _ _ _ _ _:=Sp.empty (α:=Int) (n:=1) (enc:=IE) (fun a=>q05 _ _ a) M
 refine⟨s0,h.ld 2,h.app (hP.lots.fr h.m.1) (q1y _ _) rfl (by simp; omega) (by simp; omega) fun sL w7 h=>?_⟩
 rw[J3] at h
 refine⟨h.wr 2,?_⟩
 intro w8
 have h:Sp w w8 [(w2.heap.size,[.slice none 0 0,.slice none 0 0,.slice none 0 0,.int .i64 0,.int .i64 0]),(w1.heap.size,[.int .i64 q0,.int .i64 q1,.int .i64 q2]),(w.heap.size,prC sL s1 s2 p.most p.budget)] _ _ _ _ _ _:=h.set 2
 intro w9
 have h:Sp w w9 _ _ _ _ _ _ _:=h.nextE (β:=Ch) (n':=4) (enc':=encC) (fun a=>q2h a)
 refine⟨s1,h.ld 2,h.app (hP.ch.fr h.m.1) q76 rfl (by simp; omega) (by simp; omega) fun sC w12 h=>?_⟩
 rw[J3] at h
 have hCL:∀ b,inB sC b->¬inB sL b:=fun b hb hb'=>(h.os b hb).2.1 (.inr hb')
 refine⟨h.wr 2,?_⟩
 intro w13
 have h:Sp w w13 [(w2.heap.size,[.slice none 0 0,.slice none 0 0,.slice none 0 0,.int .i64 0,.int .i64 0]),(w1.heap.size,[.int .i64 q0,.int .i64 q1,.int .i64 q2]),(w.heap.size,prC sL sC s2 p.most p.budget)] _ _ _ _ _ _:=h.set 2
 intro w14
 have h:Sp w w14 _ _ _ _ _ _ _:=h.nextE (β:=De × Sl) (n':=3) (enc':=encD) (fun a=>q2i a)
 refine⟨s2,h.ld 2,h.app (hd.fr h.m.1) q9a rfl (by simp; omega) (by simp; omega) fun sD w17 h=>?_⟩
 rw[J3] at h
 refine⟨h.wr 2,?_⟩
 intro w18
 have h:Sp w w18 [(w2.heap.size,[.slice none 0 0,.slice none 0 0,.slice none 0 0,.int .i64 0,.int .i64 0]),(w1.heap.size,[.int .i64 q0,.int .i64 q1,.int .i64 q2]),(w.heap.size,prC sL sC sD p.most p.budget)] _ _ _ _ _ _:=h.set 2
 intro w19
 have h:Sp w w19 ((w18.heap.size,([-1,0,1,1000000000,1000000001,1000001,10]:List Int).map (Value.int .i64)) :: _) _ _ _ _ _ _:=h.allocL (vs:=([-1,0,1,1000000000,1000000001,1000001,10]:List Int).map (Value.int .i64))
 have h:Sp w w19 [(w18.heap.size,([-1,0,1,1000000000,1000000001,1000001,10]:List Int).map (Value.int .i64)),(w2.heap.size,[.slice none 0 0,.slice none 0 0,.slice none 0 0,.int .i64 0,.int .i64 0]),(w1.heap.size,[.int .i64 q0,.int .i64 q1,.int .i64 q2]),(w.heap.size,prC sL sC sD p.most p.budget)] (fun b=>inB sL b\/inB sC b) (fun u=>Ow 1 IE u sL p.lots/\Ow 4 encC u sC p.ch) 3 encD sD dc :=
  h.say ((q1t.ow sL _).and (q1t.ow sC _)) (fun b hb=>hb.elim (fun h=>.inl (.inr h)) .inr) fun q=>⟨q.1.2,q.2⟩
 refine⟨by decide,_,h.ld 2,q6i (by decide) (by decide) ?_⟩
 have r1:=J9 q1 (show(7:Int)≠0 by decide)
 have r2:=J8 q1 (show(0:Int)<7 by decide)
 generalize q1 % 7=k at r1 r2 ⊢
 have hk:k.toNat<([-1,0,1,1000000000,1000000001,1000001,10]:List Int).length:=by simp; omega
 obtain⟨n,hn⟩:∃ n,([-1,0,1,1000000000,1000000001,1000001,10]:List Int)[k.toNat]?=some n:=⟨_,J0 hk⟩
 refine⟨⟨r1,r2⟩,n,?_,by decide,_,h.ld 2,by decide,_,h.ld 2,q6i (by decide) (by decide) ?_⟩
 ·rw[Nat.mul_one,addr0]
  exact h.ld 0 rfl (by rw[List.getElem?_map,hn]; rfl)
 have hx':∀ {u},Fr F0 wP u->∀ x∈dc,VI u x.2 x.1.lots/\x.1.lots.length<2^40:=fun hf x hx'=>⟨(hx x hx').1.fr hf,(hx x hx').2⟩
 have hC:=toC h hCL
 have hL:=toL h hCL
 have hnz:∀ {u},VI u sL p.lots->∃ ad lot,sL.p=some ad/\sL.l=p.lots.length/\∀ v,VI v sL p.lots->v.cell? (ad.add ((0:Int).toNat*1))=some (.int .i64 lot):=fun {u} hu=>by
  obtain⟨ad,hp,_⟩:=hu.at (fun a=>q05 _ _ a) (J0 g0') (by decide)
  refine⟨ad,p.lots[0],hp,hu.len,fun v hv=>?_⟩
  obtain⟨ad',hp',hc⟩:=hv.at (fun a=>q05 _ _ a) (J0 g0') (by decide)
  rw[hp] at hp'
  cases hp'
  exact hc 0 _ rfl
 obtain⟨ad,lot,had,hadl,hlot⟩:=hnz h.q.1.vw
 refine q09.2 ⟨fun _=>⟨h.wr 3,?_⟩,fun _=>q09.2 ⟨fun _=>⟨h.wr 3,?_⟩,fun _=>q09.2 ⟨fun _=>⟨sL,hL.ld 3,?_⟩,fun _=>q09.2 ⟨fun _=>⟨sC,hC.ld 3,?_⟩,fun _=>q09.2 ⟨fun _=>?_,fun _=>q09.2 ⟨fun _=>?_,fun _=>q09.2 ⟨fun _=>?_,fun _=>q09.2 ⟨fun _=>?_,fun _=>q09.2 ⟨fun _=>?_,fun _=>q09.2 ⟨fun _=>⟨h.wr 3,?_⟩,fun _=>q09.2 ⟨fun _=>?_,fun _=>?_⟩⟩⟩⟩⟩⟩⟩⟩⟩⟩⟩
 ·intro u0
  have h:Sp w u0 [_,(w2.heap.size,[.slice none 0 0,.slice none 0 0,.slice none 0 0,.int .i64 0,.int .i64 0]),_,(w.heap.size,prC sL sC sD p.most n)] _ _ _ _ _ _:=h.set 3
  exact Sk1 (jp:=3) (jt:=1) h rfl rfl fun u h=>hK u _ _ _ ⟨p.lots,p.ch,dc.map (·.1),p.most,n⟩ h.m.1 (by first | (show p.ch.length<=_; omega) | (show(p.ch++[_]).length<=_; simp)) fun v hv ha=>have h:=h.far ha; (mkPV h.q.1.vw h.q.2.vw h.ow.vw (hx' hv) (by omega) (by omega) (by omega))
 ·intro u0
  have h:Sp w u0 [_,(w2.heap.size,[.slice none 0 0,.slice none 0 0,.slice none 0 0,.int .i64 0,.int .i64 0]),_,(w.heap.size,prC sL sC sD n p.budget)] _ _ _ _ _ _:=h.set 3
  exact Sk1 (jp:=3) (jt:=1) h rfl rfl fun u h=>hK u _ _ _ ⟨p.lots,p.ch,dc.map (·.1),n,p.budget⟩ h.m.1 (by first | (show p.ch.length<=_; omega) | (show(p.ch++[_]).length<=_; simp)) fun v hv ha=>have h:=h.far ha; (mkPV h.q.1.vw h.q.2.vw h.ow.vw (hx' hv) (by omega) (by omega) (by omega))
 ·intro u0
  refine hL.push (a:=n) rfl rfl (q1y _ _) rfl (by omega) (by omega) fun r u1 h=>⟨h.wr 3,?_⟩
  intro u2
  have h:Sp w u2 [_,(w2.heap.size,[.slice none 0 0,.slice none 0 0,.slice none 0 0,.int .i64 0,.int .i64 0]),_,(w.heap.size,prC r sC sD p.most p.budget)] _ _ _ _ _ _:=h.set 3
  exact Sk1 (jp:=3) (jt:=1) h rfl rfl fun u h=>hK u _ _ _ ⟨p.lots++[n],p.ch,dc.map (·.1),p.most,p.budget⟩ h.m.1 (by first | (show p.ch.length<=_; omega) | (show(p.ch++[_]).length<=_; simp)) fun v hv ha=>have h:=h.far ha; (mkPV h.ow.vw h.q.1.vw h.q.2.vw (hx' hv) (by simp; omega) (by omega) (by omega))
 ·intro u0
  refine hC.push (a:=⟨n,1,0,0⟩) rfl rfl q76 rfl (by omega) (by omega) fun r u1 h=>⟨h.wr 3,?_⟩
  intro u2
  have h:Sp w u2 [_,(w2.heap.size,[.slice none 0 0,.slice none 0 0,.slice none 0 0,.int .i64 0,.int .i64 0]),_,(w.heap.size,prC sL r sD p.most p.budget)] _ _ _ _ _ _:=h.set 3
  exact Sk1 (jp:=3) (jt:=1) h rfl rfl fun u h=>hK u _ _ _ ⟨p.lots,p.ch++[⟨n,1,0,0⟩],dc.map (·.1),p.most,p.budget⟩ h.m.1 (by first | (show p.ch.length<=_; omega) | (show(p.ch++[_]).length<=_; simp)) fun v hv ha=>have h:=h.far ha; (mkPV h.q.1.vw h.ow.vw h.q.2.vw (hx' hv) (by omega) (by simp; omega) (by omega))
 ·intro u0
  have h:Sp w u0 _ _ _ _ _ _ _:=hC.drew
  refine⟨fun u=>Row u w.heap.size (prC sL sC sD p.most p.budget)/\VI u sL p.lots,⟨h.row 3,h.q.1.vw⟩,sC,fun u hu=>hu.1.at,sL,fun u hu=>hu.1.at,q0b.2 ⟨ad,had,⟨by decide,by omega⟩,lot,fun u hu=>hlot u hu.2,?_⟩⟩
  intro u1
  have h':=h.fr (Fr.alloc:Fr F0 u0 u1)
  refine⟨⟨h'.row 3,h'.q.1.vw⟩,h.push (a:=⟨lot,n,n,0⟩) rfl rfl q76 rfl (by omega) (by omega) fun r u1 h=>⟨⟨h.row 3,h.q.1.vw⟩,h.wr 3,?_⟩⟩
  intro u2
  have h:Sp w u2 [_,(w2.heap.size,[.slice none 0 0,.slice none 0 0,.slice none 0 0,.int .i64 0,.int .i64 0]),_,(w.heap.size,prC sL r sD p.most p.budget)] _ _ _ _ _ _:=h.set 3
  exact Sk1 (jp:=3) (jt:=1) h rfl rfl fun u h=>hK u _ _ _ ⟨p.lots,p.ch++[⟨lot,n,n,0⟩],dc.map (·.1),p.most,p.budget⟩ h.m.1 (by first | (show p.ch.length<=_; omega) | (show(p.ch++[_]).length<=_; simp)) fun v hv ha=>have h:=h.far ha; (mkPV h.q.1.vw h.ow.vw h.q.2.vw (hx' hv) (by omega) (by simp; omega) (by omega))
 ·intro u0
  have h:Sp w u0 _ _ _ _ _ _ _:=hC.drew
  refine⟨fun u=>Row u w.heap.size (prC sL sC sD p.most p.budget)/\VI u sL p.lots,⟨h.row 3,h.q.1.vw⟩,sC,fun u hu=>hu.1.at,sL,fun u hu=>hu.1.at,q0b.2 ⟨ad,had,⟨by decide,by omega⟩,lot,fun u hu=>hlot u hu.2,?_⟩⟩
  intro u1
  have h':=h.fr (Fr.alloc:Fr F0 u0 u1)
  refine⟨⟨h'.row 3,h'.q.1.vw⟩,h.push (a:=⟨lot,0,0,n⟩) rfl rfl q76 rfl (by omega) (by omega) fun r u1 h=>⟨⟨h.row 3,h.q.1.vw⟩,h.wr 3,?_⟩⟩
  intro u2
  have h:Sp w u2 [_,(w2.heap.size,[.slice none 0 0,.slice none 0 0,.slice none 0 0,.int .i64 0,.int .i64 0]),_,(w.heap.size,prC sL r sD p.most p.budget)] _ _ _ _ _ _:=h.set 3
  exact Sk1 (jp:=3) (jt:=1) h rfl rfl fun u h=>hK u _ _ _ ⟨p.lots,p.ch++[⟨lot,0,0,n⟩],dc.map (·.1),p.most,p.budget⟩ h.m.1 (by first | (show p.ch.length<=_; omega) | (show(p.ch++[_]).length<=_; simp)) fun v hv ha=>have h:=h.far ha; (mkPV h.q.1.vw h.ow.vw h.q.2.vw (hx' hv) (by omega) (by simp; omega) (by omega))
 ·intro u0
  have h:Sp w u0 _ _ _ _ _ _ _:=h.drew
  refine⟨fun u=>Row u w.heap.size (prC sL sC sD p.most p.budget)/\VI u sL p.lots,⟨h.row 3,h.q.1.vw⟩,sD,fun u hu=>hu.1.at,sL,fun u hu=>hu.1.at,q0b.2 ⟨ad,had,⟨by decide,by omega⟩,lot,fun u hu=>hlot u hu.2,?_⟩⟩
  intro u1
  have h:Sp w u1 ((u0.heap.size,([lot,n]:List Int).map (Value.int .i64)) :: _) _ _ _ _ _ _:=h.allocL (vs:=([lot,n]:List Int).map (Value.int .i64))
  refine⟨⟨h.row 4,h.q.1.vw⟩,?_⟩
  intro u2
  have h':=h.fr (Fr.alloc:Fr F0 u1 u2)
  refine⟨⟨h'.row 4,h'.q.1.vw⟩,h.push (a:=((⟨1,[lot,n],0⟩:De),(⟨some ⟨u0.heap.size,0,none⟩,2,2⟩:Sl))) rfl rfl q9a rfl (by omega) (by omega) fun r u1 h=>⟨⟨h.row 4,h.q.1.vw⟩,h.wr 4,?_⟩⟩
  intro u3
  have h:Sp w u3 [(u0.heap.size,([lot,n]:List Int).map (Value.int .i64)),_,(w2.heap.size,[.slice none 0 0,.slice none 0 0,.slice none 0 0,.int .i64 0,.int .i64 0]),_,(w.heap.size,prC sL sC r p.most p.budget)] _ _ _ _ _ _:=h.set 4
  refine Sk1 (jp:=4) (jt:=2) h rfl rfl fun u h=>hK u _ _ _ ⟨p.lots,p.ch,(dc++[((⟨1,[lot,n],0⟩:De),(⟨some ⟨u0.heap.size,0,none⟩,2,2⟩:Sl))]).map (·.1),p.most,p.budget⟩ h.m.1 (by first | (show p.ch.length<=_; omega) | (show(p.ch++[_]).length<=_; simp)) fun v hv ha=>have h:=h.far ha; (mkPV h.q.1.vw h.q.2.vw h.ow.vw (fun x hx1=>?_) (by omega) (by omega) (by simp; omega))
  rcases J4.1 hx1 with hx1 | hx1
  ·exact hx' hv x hx1
  ·rw[J1] at hx1
   subst hx1
   exact⟨(Ow.row (l:=[lot,n]) (h.row 0)).vw,by simp⟩
 ·intro u0
  have h:Sp w u0 _ _ _ _ _ _ _:=h.drew
  have e1:=J9 q2 (show(2:Int)≠0 by decide)
  have e2:=J8 q2 (show(0:Int)<2 by decide)
  have hcap:=h.q.1.vw.cap
  refine⟨fun u=>Row u w.heap.size (prC sL sC sD p.most p.budget)/\VI u sL p.lots,⟨h.row 3,h.q.1.vw⟩,sD,fun u hu=>hu.1.at,sL,fun u hu=>hu.1.at,q6i (by decide) (by decide) ⟨⟨h.row 3,h.q.1.vw⟩,⟨by decide,by omega,by omega⟩,?_⟩⟩
  intro u2
  have h':=h.fr (Fr.alloc:Fr F0 u0 u2)
  refine⟨⟨h'.row 3,h'.q.1.vw⟩,h.push (a:=((⟨1,p.lots.take (q2 % 2).toNat,n⟩:De),(⟨subP sL.p 0 sL.c 1,(q2 % 2).toNat-0,sL.c-0⟩:Sl))) rfl rfl q9a rfl (by omega) (by omega) fun r u1 h=>⟨⟨h.row 3,h.q.1.vw⟩,h.wr 3,?_⟩⟩
  intro u3
  have h:Sp w u3 [_,(w2.heap.size,[.slice none 0 0,.slice none 0 0,.slice none 0 0,.int .i64 0,.int .i64 0]),_,(w.heap.size,prC sL sC r p.most p.budget)] _ _ _ _ _ _:=h.set 3
  refine Sk1 (jp:=3) (jt:=1) h rfl rfl fun u h=>hK u _ _ _ ⟨p.lots,p.ch,(dc++[((⟨1,p.lots.take (q2 % 2).toNat,n⟩:De),(⟨subP sL.p 0 sL.c 1,(q2 % 2).toNat-0,sL.c-0⟩:Sl))]).map (·.1),p.most,p.budget⟩ h.m.1 (by first | (show p.ch.length<=_; omega) | (show(p.ch++[_]).length<=_; simp)) fun v hv ha=>have h:=h.far ha; (mkPV h.q.1.vw h.q.2.vw h.ow.vw (fun x hx1=>?_) (by omega) (by omega) (by simp; omega))
  rcases J4.1 hx1 with hx1 | hx1
  ·exact hx' hv x hx1
  ·rw[J1] at hx1
   subst hx1
   exact⟨h.q.1.vw.take (fun a=>q05 _ _ a) (by omega),by simp; omega⟩
 ·intro u0
  have h:Sp w u0 _ _ _ _ _ _ _:=h.drew
  refine⟨fun u=>Row u w.heap.size (prC sL sC sD p.most p.budget)/\VI u sL p.lots,⟨h.row 3,h.q.1.vw⟩,sD,fun u hu=>hu.1.at,sL,fun u hu=>hu.1.at,q0b.2 ⟨ad,had,⟨by decide,by omega⟩,lot,fun u hu=>hlot u hu.2,?_⟩⟩
  intro u1
  have h:Sp w u1 ((u0.heap.size,([lot]:List Int).map (Value.int .i64)) :: _) _ _ _ _ _ _:=h.allocL (vs:=([lot]:List Int).map (Value.int .i64))
  refine⟨⟨h.row 4,h.q.1.vw⟩,?_⟩
  intro u2
  have h':=h.fr (Fr.alloc:Fr F0 u1 u2)
  refine⟨⟨h'.row 4,h'.q.1.vw⟩,h.push (a:=((⟨1,[lot],n⟩:De),(⟨some ⟨u0.heap.size,0,none⟩,1,1⟩:Sl))) rfl rfl q9a rfl (by omega) (by omega) fun r u1 h=>⟨⟨h.row 4,h.q.1.vw⟩,h.wr 4,?_⟩⟩
  intro u3
  have h:Sp w u3 [(u0.heap.size,([lot]:List Int).map (Value.int .i64)),_,(w2.heap.size,[.slice none 0 0,.slice none 0 0,.slice none 0 0,.int .i64 0,.int .i64 0]),_,(w.heap.size,prC sL sC r p.most p.budget)] _ _ _ _ _ _:=h.set 4
  refine Sk1 (jp:=4) (jt:=2) h rfl rfl fun u h=>hK u _ _ _ ⟨p.lots,p.ch,(dc++[((⟨1,[lot],n⟩:De),(⟨some ⟨u0.heap.size,0,none⟩,1,1⟩:Sl))]).map (·.1),p.most,p.budget⟩ h.m.1 (by first | (show p.ch.length<=_; omega) | (show(p.ch++[_]).length<=_; simp)) fun v hv ha=>have h:=h.far ha; (mkPV h.q.1.vw h.q.2.vw h.ow.vw (fun x hx1=>?_) (by omega) (by omega) (by simp; omega))
  rcases J4.1 hx1 with hx1 | hx1
  ·exact hx' hv x hx1
  ·rw[J1] at hx1
   subst hx1
   exact⟨(Ow.row (l:=[lot]) (h.row 0)).vw,by simp⟩
 ·intro u0
  have h:Sp w u0 [_,(w2.heap.size,[.slice none 0 0,.slice none 0 0,.slice none 0 0,.int .i64 0,.int .i64 0]),_,(w.heap.size,prC ⟨none,0,0⟩ sC sD p.most p.budget)] _ _ _ _ _ _:=h.set 3
  exact Sk1 (jp:=3) (jt:=1) h rfl rfl fun u h=>hK u _ _ _ ⟨[],p.ch,dc.map (·.1),p.most,p.budget⟩ h.m.1 (by first | (show p.ch.length<=_; omega) | (show(p.ch++[_]).length<=_; simp)) fun v hv ha=>have h:=h.far ha; (mkPV Vw.nil h.q.2.vw h.ow.vw (hx' hv) (by simp) (by omega) (by omega))
 ·exact qei (Nat.le_succ _) g0 (by omega) (by omega) hx hL hK
 ·exact Sk1 (jp:=3) (jt:=1) h rfl rfl fun u h=>hK u _ _ _ ⟨p.lots,p.ch,dc.map (·.1),p.most,p.budget⟩ h.m.1 (by first | (show p.ch.length<=_; omega) | (show(p.ch++[_]).length<=_; simp)) fun v hv ha=>have h:=h.far ha; (mkPV h.q.1.vw h.q.2.vw h.ow.vw (hx' hv) (by omega) (by omega) (by omega))
end
section
variable {w w':World}{p:Pr}
theorem q9w {s0 s1 s2:Sl}{p:Pr}{K:Int->World->Prop}(h:PV w s0 s1 s2 p)(hb:q2g p p.lots<2^62)(hK:∀ w',Fr F0 w w'->K (q2g p p.lots) w'):z0l_sh s0 s1 s2 p.most p.budget K w:=by
 refine⟨?_⟩
 have l0:=h.l0; have l1:=h.l1
 have e0:=h.lots.len; have e1:=h.ch.len
 intro w1
 have hf1:Fr F0 w w1:=Fr.alloc
 have hr:Row w1 w.heap.size (prC s0 s1 s2 p.most p.budget):=Row.new
 refine⟨⟨fun out now i w'=>∃ i' o n:Nat,i=i'/\out=o/\now=n/\i'<=p.lots.length/\o+n*(q2g p (p.lots.drop i')-1)=q2g p p.lots/\Fr F0 w1 w',fun _ _ i _=>p.lots.length-i.toNat,
  ⟨0,1,1,rfl,rfl,rfl,by omega,by rw[List.drop_zero]; have:=q3r p p.lots; omega,Fr.refl⟩,?_⟩⟩
 rintro _ _ i w2 ⟨i,o,n,rfl,rfl,rfl,hi,hsum,hf2⟩
 unfold z0l_b0
 have hr2:=hf2.row hr fun h=>h
 refine⟨s0,hr2.at,q00.2 ?_⟩
 refine⟨fun hlt=>?_,fun hge=>?_⟩
 ·have hlt:i<p.lots.length:=by omega
  have hdrop:p.lots.drop i=p.lots[i] :: p.lots.drop (i+1):=List.drop_eq_getElem_cons hlt
  rw[hdrop,q2g] at hsum
  have hpos:=q3r p (p.lots.drop (i+1))
  have hol:(opts p p.lots[i]).length=1+p.ch.countP (fun c=>c.lot == p.lots[i]):=by simp[opts,optsFrom_len]; omega
  have hcl:=J2 (p:=fun c:Ch=>c.lot == p.lots[i]) (l:=p.ch)
  refine⟨⟨fun m k w'=>∃ k':Nat,k=k'/\k'<=p.ch.length/\m=((1+(p.ch.take k').countP (fun c=>c.lot == p.lots[i]):Nat):Int)/\Fr F0 w1 w',fun _ k _=>p.ch.length-k.toNat,⟨0,rfl,by omega,by simp,hf2⟩,?_⟩⟩
  rintro m k w3 ⟨k,rfl,hk,rfl,hf3⟩
  unfold z0l_b1
  refine⟨s1,(hf3.row hr fun h=>h).at rfl,q00.2 ?_⟩
  refine⟨fun hlk=>?_,fun hgk=>?_⟩
  ·have hlk:k<p.ch.length:=by omega
   intro w4
   have hf4:Fr F0 w1 w4:=hf3.t Fr.drew
   have hr4:=hf4.row hr fun h=>h
   refine⟨s1,hr4.at,VC.ld (h.fr (hf1.t hf4)).ch k rfl hlk fun a hc=>⟨_,(hc w4 Fr.refl).1,s0,hr4.at,VI.ld (h.fr (hf1.t hf4)).lots i rfl hlt ?_⟩⟩
   have hts:=q08 hlk
   have hcl2:=J2 (p:=fun c:Ch=>c.lot == p.lots[i]) (l:=p.ch.take k)
   rw[List.length_take] at hcl2
   refine q09.2<|⟨fun he=>⟨q01,q01,⟨⟨rfl,rfl,rfl,rfl,trivial⟩,k+1,by omega,by omega,?_,hf4⟩,by dsimp only; omega⟩,fun hne=>⟨q01,⟨⟨rfl,rfl,rfl,rfl,trivial⟩,k+1,by omega,by omega,?_,hf4⟩,by dsimp only; omega⟩⟩
   ·rw[hts,J5,J6,J7]
    simp[he]
    omega
   ·rw[hts,J5,J6,J7]
    simp[hne]
  ·have:k=p.ch.length:=by omega
   subst this
   rw[List.take_length,← hol]
   generalize hq:q2g p (p.lots.drop (i+1))=q at *
   generalize (opts p p.lots[i]).length=m at *
   have e2:n*(1+m*q-1)=n*m*q:=by rw[Nat.add_sub_cancel_left,Nat.mul_assoc]
   rw[e2] at hsum
   have e3:n*m+n*m*(q-1)=n*m*q:=by
    obtain⟨q',rfl⟩:∃ q',q=q'+1:=⟨q-1,by omega⟩
    rw[Nat.add_sub_cancel,Nat.mul_add,Nat.mul_one,Nat.add_comm]
   have hle:n*m<=n*m*q:=Nat.le_mul_of_pos_right _ (by omega)
   have e4:(n:Int)*(m:Int)=((n*m:Nat):Int):=by rw[Int.natCast_mul]
   rw[e4]
   refine⟨q01,q01,q01,⟨⟨rfl,trivial⟩,i+1,o+n*m,n*m,by omega,by omega,rfl,by omega,by rw[hq]; omega,hf3⟩,by dsimp only; omega⟩
 ·have:i=p.lots.length:=by omega
  subst this
  rw[List.drop_of_length_le (Nat.le_refl _),q2g] at hsum
  have:=hK w2 (hf1.t hf2)
  rw[← hsum] at this
  simpa using this
def prB2:Nat->Nat
 | 0=>1
 | k+1=>1+15*prB2 k
theorem qdf (h:p.ch.length<=14):∀ ls:List Int,q2g p ls<=prB2 ls.length
 | []=>Nat.le_refl _
 | lot :: ls=>by
  have ih:=qdf h ls
  have hl:(opts p lot).length<=15:=by
   have:=q58 p lot
   omega
  unfold q2g
  have h2:(opts p lot).length*q2g p ls<=15*prB2 ls.length:=Nat.mul_le_mul hl ih
  simp only[List.length_cons,prB2]
  omega
theorem qj3:∀ {a b:Nat},a<=b->prB2 a<=prB2 b:=fun {a b} h=>by
 induction h with
 | refl=>exact Nat.le_refl _
 | step _ ih=>exact Nat.le_trans ih (by simp only[prB2]; omega)
theorem qkr (h:p.ch.length<=14)(hl:p.lots.length<=12):q2g p p.lots<2^62 :=
 Nat.lt_of_le_of_lt (qdf h _) (Nat.lt_of_le_of_lt (qj3 hl) (by decide))
end
end Go.Proofs.YtfpobpjandjhjaaGreatDoor

