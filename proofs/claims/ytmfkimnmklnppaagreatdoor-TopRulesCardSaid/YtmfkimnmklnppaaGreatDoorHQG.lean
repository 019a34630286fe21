/- slices: a short list is sorted where it stands. Conditions: none. -/
import Derived.Test.YtmfkimnmklnppaaGreatDoorHQF
open List renaming getElem_mem->J0,length_append->J1,eq_nil_of_length_eq_zero->J2,drop_length->J3,pairwise_iff_getElem->J4,getElem?_eq_getElem->J5,length_eq_zero_iff->J6,not_mem_nil->J7,mem_iff_getElem->J8,flatMap_append->J9,flatMap_cons->Ja,getElem_take->Jb,mem_cons->Jc,getElem_inj->Jd,length_set->Je,mem_map->Jf
open Nat renaming le_refl->Jg,zero_add->Jh,min_eq_left->Ji,zero_le->Jj,le_trans->Jk,one_pos->Jl
namespace Pw
open Go
theorem qnl{b o:Nat}{K:World->Prop}:∀(vs:List Value) (i:Nat) (w:World) (cs:List Value),Row w b cs->o+i+vs.length<=cs.length->K (wrC w ⟨b,o,none⟩ i vs)->stN.go ⟨b,o,none⟩ K vs i w
 | [],_,_,_,_,_,h=>h
 | v::vs,i,w,cs,hr,hl,h=>by
  simp only[List.length_cons]at hl
  refine⟨by rw[q04];exact hr.wr oo,qnl vs (i+1) _ (cs.set (o+i) v) ?_ oy h⟩
  rw[q04]
  exact hr.set (o+i) v
theorem qnm{α:Type}{n:Nat}{enc:α->List Value}(hn:∀a,(enc a).length=n)(l:List α)(i:Nat)(hi:i<l.length)(a:α)(r:List Value):q2e (l.flatMap enc++r) (i*n) (enc a)=(l.set i a).flatMap enc++r:=by
 have e1:l=l.take i++l[i]::l.drop (i+1):=ud
 have e2:l.set i a=l.take i++a::l.drop (i+1):=oz
 have hk:((l.take i).flatMap enc).length=i*n:=by rw[q1d hn,List.length_take,Ji oo]
 rw[e2]
 conv=>lhs;rw[e1]
 simp only[J9,Ja]
 unfold q2e
 grind
theorem Mk.stN{α:Type}{n:Nat}{enc:α->List Value}{w0 w:World}{s:Sl}{l:List α}{K:World->Prop}(hn:∀a,(enc a).length=n)(h:Mk w0 n enc w s l){i:Int}(i':Nat)(hii:i=(i':Int))(hi:i'<l.length)(a:α)
  (hK:∀w',Mk w0 n enc w' s (l.set i' a)->Fr (inB s) w w'->K w'):nz s.p fun ad=>(0<=i/\i<(s.l:Nat))/\Pw.stN w (ad.add (i.toNat*n)) (enc a) K:=by
 subst hii
 obtain⟨hl,hown⟩:=h.ow
 obtain⟨hlen,hnil|⟨b,cs,hp,hrow,hcs,hle,ht⟩⟩:=hown
 ·omega
 have hb:w0.heap.size<=b:=h.nw b ⟨_,hp,rfl⟩
 rw[hp]
 refine⟨⟨oo,oo⟩,?_⟩
 rw[q04,Jh,Int.toNat_natCast]
 have hfm:(l.flatMap enc).length=l.length*n:=q1d hn l
 have hcl:(l.flatMap enc).length<=cs.length:=oz
 have hin:i'*n+n<=l.length*n:=by
  have:(i'+1)*n<=l.length*n:=Nat.mul_le_mul_right n hi
  grind
 have hfit:i'*n+0+(enc a).length<=cs.length:=by rw[hn];omega
 refine qnl (enc a) 0 w cs hrow hfit ?_
 have hr':=qfh (o:=i'*n) (enc a) 0 w cs hrow hfit
 have hF:Fr (inB s) w (wrC w ⟨b,i'*n,none⟩ 0 (enc a)):=⟨by rw[qbe];exact Jg _,fun c _ hnn=>qlm (a:=⟨b,i'*n,none⟩) (fun he=>hnn ⟨_,hp,he⟩) _ _ _,qll _ _ _,qfg _ _ _,qbf _ _ _⟩
 have ecs:cs=l.flatMap enc++cs.drop (l.flatMap enc).length:=by
  conv=>lhs;rw[←List.take_append_drop (l.flatMap enc).length cs]
  rw[ht]
 refine hK _ ⟨h.fr0.trans hF fun c hc hlt=>absurd (h.nw c hc) oo,⟨by rw[Je];exact hl,by rw[q1d hn,Je,←hl],.inr ⟨b,_,hp,hr',by rw[q5z _ _ _ hfit];exact hcs,hle,?_⟩⟩,h.nw⟩ hF
 rw[Nat.add_zero,ecs,qnm hn l i' hi]
 rw[List.take_left']
 rfl
end Pw
namespace Go.Proofs.YtmfkimnmklnppaaGreatDoor
open Go Pw Dp
def qud(w0:World)(f:Value)(g:Dp.Sc->Dp.Sc->Int):Prop:=
 ∀(u:World) (y z:Dp.Sc) (K:VW),Fr F0 w0 u->ScOk w0 y->ScOk w0 z->(∀u',Fr F0 u u'->K (.int .i64 (g y z)) u') ->
  q0y Tryz.prog f [.agg #[.int .i64 y.1.b,.int .i64 y.1.l,.int .i64 y.1.r,.int .i64 y.1.p,.slice y.1.v.p y.1.v.l y.1.v.c,.int .i64 y.2.1,.int .i64 y.2.2],.agg #[.int .i64 z.1.b,.int .i64 z.1.l,.int .i64 z.1.r,.int .i64 z.1.p,.slice z.1.v.p z.1.v.l z.1.v.c,.int .i64 z.2.1,.int .i64 z.2.2]] u K
section
variable{w w' w0 u:World}{s:Sl}
theorem qqn{α:Type}{m:List α}{j:Nat}{y z:α}(hy:y∈m)(hz:z∈m):∀x∈(m.set (j+1) y).set j z,x∈m:=fun x hx=>oz
theorem qqo{l:List Dp.Sc}{f:Value}{g:Dp.Sc->Dp.Sc->Int}{K:World->Prop}(h:Mk w0 7 encS w s l)(hl:l.length<2^40)(ho:∀y∈l,ScOk w0 y)(hg:qud w0 f g)(hK:∀w',Mk w0 7 encS w' s (q39 g l l.length)->Fr (inB s) w w'->K w') :
  z03_sh s 0 (l.length:Int) f K w:=by
 refine⟨⟨q01,?_⟩⟩
 have h1s:l.length>=1->q39 g l 1=l:=fun _=>rfl
 refine⟨⟨fun i u=>∃(i':Nat) (m:List Dp.Sc),i=i'/\1<=i'/\(l.length=0\/i'<=l.length)/\Mk w0 7 encS u s m/\Fr (inB s) w u/\m.length=l.length/\(∀y∈m,ScOk w0 y)/\(l.length=0\/m=q39 g l i'),fun i _=>l.length+1-i.toNat,⟨1,l,rfl,oo,oo,h,Fr.refl,rfl,ho,.inr rfl⟩,?_⟩⟩
 rintro i u ⟨i,m,rfl,hi1,hi,hm,hF,hml,hmo,hq⟩
 refine fi ?_
 refine q00.2 ⟨fun hlt=>?_,fun hge=>?_⟩
 ·have hil:i<l.length:=oo
  have hq:m=q39 g l i:=hq.resolve_left oo
  refine⟨⟨fun j v=>∃(j':Nat) (m':List Dp.Sc),j=j'/\j'<=i/\Mk w0 7 encS v s m'/\Fr (inB s) w v/\m'.length=l.length/\(∀y∈m',ScOk w0 y)/\sink g m' j'=q39 g l (i+1),fun j _=>j.toNat,⟨i,m,rfl,Jg _,hm,hF,hml,hmo,by rw[hq];rfl⟩,?_⟩⟩
  rintro j v ⟨j,m',rfl,hji,hm',hF',hml',hmo',hs⟩
  refine fi ?_
  intro w1
  have d1:Fr F0 v w1:=Fr.drew
  have hm1:=hm'.fr d1
  have hF1:=hF'.tF d1
  clear_value w1
  have out:sink g m' j=m'->∀ {v':World},Fr F0 w1 v'->inR .i64 ((i:Int)+1)/\((s=s/\(0:Int)=0/\(l.length:Int)=l.length/\f=f/\True)/\∃(i':Nat) (m:List Dp.Sc),(i:Int)+1=i'/\1<=i'/\(l.length=0\/i'<=l.length)/\Mk w0 7 encS v' s m/\Fr (inB s) w v'/\m.length=l.length/\(∀y∈m,ScOk w0 y)/\(l.length=0\/m=q39 g l i'))/\l.length+1-((i:Int)+1).toNat<l.length+1-(i:Int).toNat:=fun e {v'} d =>
   ⟨q01,⟨⟨rfl,rfl,rfl,rfl,trivial⟩,i+1,m',oo,oo,oo,hm1.fr d,hF1.tF d,hml',hmo',.inr (by rw[←hs,e])⟩,oo⟩
  refine⟨fun v'=>Fr F0 w1 v',Fr.refl,?_⟩
  refine q00.2 ⟨fun hj=>?_,fun hj=>?_⟩
  ·obtain⟨j,rfl⟩:∃k,j=k+1:=⟨j-1,oo⟩
   have ej:((j+1:Nat):Int)-1=(j:Int):=oo
   rw[ej]
   have hj1:j+1<m'.length:=oo
   have hj0:j<m'.length:=oo
   have V:∀ {x:World},Fr F0 w1 x->Vw 7 encS x s m':=fun d=>(hm1.fr d).vw
   refine Vw.goS (S:=fun v'=>Fr F0 w1 v') q24 od Fr.refl (fun x d=>V d) (j+1) rfl hj1 fun ad hc=>⟨_,fun x d=>hc 0 _ rfl x d,_,fun x d=>hc 1 _ rfl x d,_,fun x d=>hc 2 _ rfl x d,_,fun x d=>hc 3 _ rfl x d,_,fun x d=>hc 4 _ rfl x d,_,fun x d=>hc 5 _ rfl x d,_,fun x d=>hc 6 _ rfl x d,q01,?_⟩
   refine Vw.goS (S:=fun v'=>Fr F0 w1 v') q24 od Fr.refl (fun x d=>V d) j rfl hj0 fun ad hc=>⟨_,fun x d=>hc 0 _ rfl x d,_,fun x d=>hc 1 _ rfl x d,_,fun x d=>hc 2 _ rfl x d,_,fun x d=>hc 3 _ rfl x d,_,fun x d=>hc 4 _ rfl x d,_,fun x d=>hc 5 _ rfl x d,_,fun x d=>hc 6 _ rfl x d,?_⟩
   refine hg w1 m'[j+1] m'[j] _ hm1.fr0 (hmo' _ (J0 hj1)) (hmo' _ (J0 hj0)) fun w20 d20=>⟨_,rfl,?_⟩
   have hsk:sink g m' (j+1)=if g m'[j+1] m'[j]<0 then sink g ((m'.set (j+1) m'[j]).set j m'[j+1]) j else m':=by
    conv=>lhs;unfold sink
    grind
   refine q00.2 ⟨fun hc=>?_,fun hc=>out oz d20⟩
   rw[hsk,if_pos hc]at hs
   intro w22
   have d22:Fr F0 w1 w22:=d20.t Fr.drew
   have hm2:=hm1.fr d22
   have hF2:=hF1.tF d22
   clear_value w22
   refine⟨fun v'=>v'=w22,rfl,q01,q01,?_⟩
   refine Vw.goS (S:=fun v'=>v'=w22) q24 od rfl (fun x d=>by rw[d];exact hm2.vw) j rfl hj0 fun ad hc=>⟨_,fun x d=>hc 0 _ rfl x d,_,fun x d=>hc 1 _ rfl x d,_,fun x d=>hc 2 _ rfl x d,_,fun x d=>hc 3 _ rfl x d,_,fun x d=>hc 4 _ rfl x d,_,fun x d=>hc 5 _ rfl x d,_,fun x d=>hc 6 _ rfl x d,?_⟩
   refine Vw.goS (S:=fun v'=>v'=w22) q24 od rfl (fun x d=>by rw[d];exact hm2.vw) (j+1) rfl hj1 fun ad hc=>⟨_,fun x d=>hc 0 _ rfl x d,_,fun x d=>hc 1 _ rfl x d,_,fun x d=>hc 2 _ rfl x d,_,fun x d=>hc 3 _ rfl x d,_,fun x d=>hc 4 _ rfl x d,_,fun x d=>hc 5 _ rfl x d,_,fun x d=>hc 6 _ rfl x d,?_⟩
   refine hm2.stN q24 (j+1) rfl hj1 m'[j] fun w41 hm3 d41=>?_
   refine hm3.stN q24 j rfl oz m'[j+1] fun w43 hm4 d43=>?_
   refine⟨q01,⟨⟨rfl,rfl,rfl,rfl,rfl,trivial⟩,j,_,rfl,oo,hm4,(hF2.trans d41 fun _ h _=>h).trans d43 fun _ h _=>h,by simp;exact hml',fun y hy=>hmo' y (qqn (J0 hj0) (J0 hj1) y hy),hs⟩,uo⟩
  ·have:j=0:=oo
   subst this
   exact out rfl Fr.refl
 ·rcases hi with h0|hi
  ·have e0:m=[]:=J6.1 oo
   have el:l=[]:=J6.1 h0
   subst e0
   subst el
   exact hK u hm hF
  ·grind
theorem qqp{n:Nat}{K:Int->World->Prop}(hn:n<256)(hK:∀r:Nat,K r w):z7c_sh (n:Int) K w:=by
 refine⟨⟨fi ?_⟩⟩
 refine q00.2 ⟨fun h=>oo,fun _=>⟨q00.2 ⟨fun h=>oo,fun _=>⟨q00.2 ⟨fun h=>oo,fun _=>⟨fi ?_⟩⟩⟩⟩⟩⟩
 have ht:=qsd n hn
 have hs:=qi5
 have hb:tabL.getD n 0<=8:=by
  rcases Nat.eq_zero_or_pos n with h|h
  ·subst h;decide
  ·exact(qly ⟨n,hn⟩ h).2.1
 have e:((n:Int)).toNat=n:=oo
 rw[e]
 refine @cast (inR .u8 (n:Int)/\(0<=(n:Int)/\(n:Int)<(((str tabL).size:Nat):Int))/\inR .i64 ((((str tabL).data.toList.getD n 0).toNat:Nat):Int)/\inR .i64 ((0:Int)+((((str tabL).data.toList.getD n 0).toNat:Nat):Int))/\K ((0:Int)+((((str tabL).data.toList.getD n 0).toNat:Nat):Int)) w) _ (by kernel_rfl) ?_
 rw[ht,hs]
 generalize tabL.getD n 0=t at *
 refine⟨?_,⟨oo,oo⟩,q01,q01,?_⟩
 ·unfold inR IntKind.wrap
  simp[IntKind.bits,IntKind.signed]
  omega
 ·grind
theorem qcf{l:List Dp.Sc}{f:Value}{g:Dp.Sc->Dp.Sc->Int}{K:World->Prop}(h:Mk w0 7 encS w s l)(hl:l.length<=12)(ho:∀y∈l,ScOk w0 y)(hg:qud w0 f g)(hK:∀w',Mk w0 7 encS w' s (q39 g l l.length)->Fr (inB s) w w'->K w') :
  z3k_sh s f K w:=by
 have el:=h.len
 refine⟨fi ?_⟩
 rw[el]
 refine⟨by unfold inR IntKind.wrap;simp[IntKind.bits,IntKind.signed];omega,qqp oo fun r=>?_⟩
 refine⟨fi ?_⟩
 refine⟨⟨fun a b x=>a=0/\b=(l.length:Int)/\x=w,fun _ _ _=>0,⟨rfl,rfl,rfl⟩,?_⟩⟩
 rintro a b x ⟨rfl,rfl,rfl⟩
 refine fi ?_
 exact⟨q01,q00.2 ⟨fun _=>qqo h oo ho hg hK,fun h=>absurd oo h⟩⟩
end
end Go.Proofs.YtmfkimnmklnppaaGreatDoor
namespace Pw
open Go
theorem Mp.congr{w w':World}{r:Nat}{k:IntKind}{l:List (Int×Value)}(h:Mp w r k l)(e:w'.heap[r]?=w.heap[r]?):Mp w' r k l:=by
 obtain⟨es,c,h1,h2⟩:=h
 exact⟨es,c,by rw[e];exact h1,h2⟩
theorem Mp.frF{w w':World}{r:Nat}{k:IntKind}{l:List (Int×Value)}{F:Nat->Prop}(h:Mp w r k l)(f:Fr F w w')(hn:¬F r):Mp w' r k l:=by
 obtain⟨es,c,h1,h2⟩:=h
 exact Mp.congr ⟨es,c,h1,h2⟩ (f.2.1 r (Array.getElem?_eq_some_iff.1 h1).1 hn)
theorem qcg{α:Type}{n:Int}{v:α}:∀ {l:List (Int×α)},(∀p∈l,p.1≠n)->mput n v l=l++[(n,v)]
 | [],_=>rfl
 | p::l,h=>by
  unfold mput
  rw[if_neg (h p og),qcg fun q hq=>h q (by simp[hq])]
  rfl
theorem qch{w:World}{r:Nat}{k:IntKind}{n:Int}{v:Value}:Fr (fun b=>b=r) w (w.mset r k n v):=by
 refine⟨by simp[World.mset],fun b _ hn=>?_,rfl,rfl,rfl⟩
 unfold World.mset
 grind
end Pw
namespace Go.Proofs.YtmfkimnmklnppaaGreatDoor
open Go Pw Dp
section
variable{w w' w0 u:World}{s:Sl}{x:T43}{t:Td}
theorem qci{l:Int×Int}{lot:Int}{b:Nat}{K:Bool->World->Prop}(h:Row w b [.int .i64 lot])(hK:∀w',Fr F0 w w'->K (decide (l.1=lot)) w'):z3h_sh l.1 l.2 ⟨b,0,none⟩ K w:=by
 refine⟨fi ?_⟩
 intro w1
 have m1:Mem w w1 [(w.heap.size,[.int .i64 l.1,.int .i64 l.2])]:=Mem.nil.allocL (cs:=[.int .i64 l.1,.int .i64 l.2])
 clear_value w1
 refine⟨l.1,m1.ld 0,lot,(m1.1.row h fun h=>h).at rfl,?_⟩
 rw[q8z]
 exact hK _ m1.1
theorem ldE{l:List En}{i:Int}{K:Int->Int->Int->Int->Sl->Prop}(h:Vw 5 encE w s l)(i':Nat)(hi:i=(i':Int))(h1:i'<l.length)(hK:K l[i'].b l[i'].l l[i'].r l[i'].p l[i'].v) :
  nz s.p fun a=>(0<=i/\i<(s.l:Nat))/\∃x:Int,w.cell? (a.add (i.toNat*5))=some (Value.int .i64 x)/\∃y:Int,w.cell? ((a.add (i.toNat*5)).add 1)=some (Value.int .i64 y)/\∃z:Int,w.cell? ((a.add (i.toNat*5)).add 2)=some (Value.int .i64 z)/\∃q:Int,w.cell? ((a.add (i.toNat*5)).add 3)=some (Value.int .i64 q)/\∃v:Sl,w.cell? ((a.add (i.toNat*5)).add 4)=some (Value.slice v.p v.l v.c)/\K x y z q v:=
 Vw.go qga od h i' hi h1 fun _ hc=>⟨_,hc 0 _ rfl,_,hc 1 _ rfl,_,hc 2 _ rfl,_,hc 3 _ rfl,_,hc 4 _ rfl,hK⟩
structure EnI(w w7:World)(bl b1 b2:Nat)(lot:Int)(l:List En)(i:Nat)(o:Sl)(u:World):Prop where
 f:Fr F0 w u
 le:w7.heap.size<=u.heap.size
 r:Row u bl [.int .i64 lot]
 ow:Ow 5 encE u o (l.take i)
 os:∀b,inB o b->w7.heap.size<=b
 m1:Mp u b1 .i64 ((l.take i).map fun e=>(e.b,.bool true))
 m2:Mp u b2 .i64 ((l.take i).map fun e=>(e.r,.bool true))
theorem EnI.fr{w7:World}{bl b1 b2:Nat}{lot:Int}{l:List En}{i:Nat}{o:Sl}(h:EnI w w7 bl b1 b2 lot l i o u)(f:Fr F0 u w'):EnI w w7 bl b1 b2 lot l i o w':=
 ⟨h.f.t f,Jk h.le f.1,f.row h.r fun h=>h,h.ow.fr f,h.os,h.m1.frF f fun h=>h,h.m2.frF f fun h=>h⟩
theorem qe6{l:List En}{lot:Int}{K:Sl->Int->World->Prop}(T:TP w x t)(hF:Fit t)(hv:Vw 5 encE w s l)(hl:l.length<=40)(hlot:t.lots.any (fun m=>decide (m.1=lot))=true)
  (h1:∀e∈l,e.l=lot) (hb:(l.map (·.b)).Nodup) (hr:(l.map (·.r)).Nodup) (hK:∀r w',Mk w 5 encE w' r l->K r 0 w'):z49_sh x lot s K w:=by
 have hll:=hF.lots
 have es:=hv.len
 refine⟨fi ?_⟩
 intro w1 w2
 have m:Mem w w2 [(w1.heap.size,[.int .i64 lot]),(w.heap.size,x.cs)]:=(Mem.nil.allocL (cs:=x.cs)).allocL (cs:=[.int .i64 lot])
 clear_value w2 w1
 refine⟨_,m.ld (i:=1) 1 rfl rfl,?_⟩
 refine q1l (T.lots.fr m.1) oo (p:=fun m=>decide (m.1=lot)) (fun l _=>fun u K hu hK=>q02 z3h_ok (qci (K:=kk [tB] K) (hu.row (m.row 0) fun h=>h) hK)) fun w4 f4=>?_
 rw[hlot]
 have m:=m.fr f4
 refine q0h ?_
 intro w6 w7
 have f6:Fr F0 w4 w6:=Fr.alloc
 have f7:Fr F0 w6 w7:=Fr.alloc
 have q1:Mp w6 w4.heap.size .i64 []:=Mp.made _ _
 have q2:Mp w7 w6.heap.size .i64 []:=Mp.made _ _
 have s6:w6.heap.size=w4.heap.size+1:=World.size_alloc _ _
 have s7:w7.heap.size=w6.heap.size+1:=World.size_alloc _ _
 have hbl:=(m.row 0).lt
 have hbw:w.heap.size<=w1.heap.size:=m.2.2.2 _ (List.mem_cons_self ..)
 have hw4:=m.1.1
 have hI:EnI w w7 w1.heap.size w4.heap.size w6.heap.size lot l 0 ⟨none,0,0⟩ w7:=
  ⟨m.1.t (f6.t f7),Jg _,(f6.t f7).row (m.row 0) fun h=>h,⟨rfl,by simpa using OwnV.nil⟩,(fun b ⟨a,ha,_⟩=>by cases ha),q1.frF f7 fun h=>h,q2⟩
 clear_value w7 w6
 refine⟨⟨fun o i u=>∃i':Nat,i=i'/\i'<=l.length/\EnI w w7 w1.heap.size w4.heap.size w6.heap.size lot l i' o u,fun _ i _=>l.length-i.toNat,⟨0,rfl,oo,hI⟩,?_⟩⟩
 rintro o i u ⟨i,rfl,hi,I⟩
 refine fi ?_
 refine q00.2 ⟨fun hlt=>?_,fun hge=>?_⟩
 ·have hil:i<l.length:=oo
  have tk:l.take (i+1)=l.take i++[l[i]]:=ud
  have tl:(l.take i).length=i:=oz
  refine ldE (hv.fr I.f) i rfl hil ?_
  intro w14
  refine q1u rfl Mem.nil fun w15 m15=>?_
  have m15:Mem u w15 [(u.heap.size,encE l[i])]:=m15
  clear w14
  have I5:=I.fr m15.1
  have hub:=I.le
  refine⟨_,m15.ld (i:=1) 0 rfl rfl,lot,I5.r.at,?_⟩
  rw[q8z,h1 _ (J0 hil),decide_eq_true rfl]
  refine q08 ⟨_,m15.ld (i:=0) 0 rfl rfl,_,m15.ld (i:=1) 0 rfl rfl,_,m15.ld (i:=2) 0 rfl rfl,_,m15.ld (i:=3) 0 rfl rfl,_,m15.ld (i:=4) 0 rfl rfl,?_⟩
  intro w23
  have hx:Vw 5 encE w23 ⟨some ⟨w15.heap.size,0,none⟩,1,1⟩ [l[i]]:=Vw.new (enc:=encE) rfl (by
   have:=h1 _ (J0 hil)
   simp only[encE,this])
  have m23:=m15.fr (w':=w23) Fr.alloc
  have I5:=I5.fr (w':=w23) Fr.alloc
  clear_value w23
  refine I5.ow.app hx encE_ok rfl oz oz fun s24 w25 ho hf hs=>?_
  have no:∀b,b<w7.heap.size->¬inB o b:=fun b hb hin=>by have:=I5.os b hin;omega
  have le25:=hf.1
  have l23:=I5.le
  have q1:=I5.m1.frF hf (no _ oo)
  have q2:=I5.m2.frF hf (no _ oo)
  have hnob:¬inB o u.heap.size:=fun hin=>by
   have:=I.ow.lt' hin
   omega
  have r25:=hf.row (m23.row 0) hnob
  have rl25:=hf.row I5.r (no _ oo)
  have f25:Fr F0 w w25:=I5.f.trans hf fun b hb hlt=>oz
  have os25:∀b,inB s24 b->w7.heap.size<=b:=fun b hb=>oz
  intro w26
  have d:Fr F0 w25 w26:=Fr.drew
  have q1:=q1.frF d fun h=>h
  have q2:=q2.frF d fun h=>h
  have r26:=d.row r25 fun h=>h
  have rl:=d.row rl25 fun h=>h
  have f26:=f25.t d
  have ho:=ho.fr d
  have le26:=d.1
  clear_value w26
  refine⟨fun v=>Row v u.heap.size (encE l[i]),r26,_,fun v h=>h.at (i:=0) rfl,_,fun v h=>h.at (i:=2) rfl,⟨_,q1⟩,?_⟩
  intro w30
  have s30:Fr (fun b=>b=w4.heap.size) w26 w30:=qch
  have q1':Mp w30 w4.heap.size .i64 (mput l[i].b (.bool true) _):=q1.set _ _
  have q2':=q2.frF s30 oo
  have r30:=s30.row r26 oo
  have rl30:=s30.row rl oo
  have f30:Fr F0 w w30:=f26.trans s30 fun b hb hlt=>oo
  have ho30:=ho.frF s30 fun b hb he=>oz
  have le30:=s30.1
  refine⟨r30,⟨_,q2'⟩,?_⟩
  intro w31
  have s31:Fr (fun b=>b=w6.heap.size) w30 w31:=qch
  have q2'':Mp w31 w6.heap.size .i64 (mput l[i].r (.bool true) _):=q2'.set _ _
  have q1'':=q1'.frF s31 oo
  have rl31:=s31.row rl30 oo
  have f31:Fr F0 w w31:=f30.trans s31 fun b hb hlt=>oo
  have ho31:=ho30.frF s31 fun b hb he=>oz
  have le31:=s31.1
  refine⟨q01,⟨⟨rfl,rfl,rfl,rfl,rfl,trivial⟩,i+1,oo,oo,f31,oo,rl31,by rw[tk];exact ho31,os25,?_,?_⟩,uo⟩
  ·rw[qcg fun p hp=>?_]at q1''
   ·grind
   ·obtain⟨e,he,rfl⟩:=Jf.1 hp
    obtain⟨j,hj,rfl⟩:=J8.1 he
    rw[tl]at hj
    rw[Jb]
    intro hE
    have:=(Jd (h₀:=(by simp;omega:j<(l.map (·.b)).length)) (h₁:=(by simp;omega:i<(l.map (·.b)).length)) hb).1 (by simpa using hE)
    omega
  ·rw[qcg fun p hp=>?_]at q2''
   ·grind
   ·obtain⟨e,he,rfl⟩:=Jf.1 hp
    obtain⟨j,hj,rfl⟩:=J8.1 he
    rw[tl]at hj
    rw[Jb]
    intro hE
    have:=(Jd (h₀:=(by simp;omega:j<(l.map (·.r)).length)) (h₁:=(by simp;omega:i<(l.map (·.r)).length)) hr).1 (by simpa using hE)
    omega
 ·have hil:i=l.length:=oo
  subst hil
  obtain⟨f,le,r,ow,os,m1,m2⟩:=I
  rw[List.take_length]at ow m1 m2
  have eo:=ow.len
  have l1:=m1.len
  have l2:=m2.len
  rw[List.length_map]at l1 l2
  refine q00.2 ⟨fun h=>oo,fun _=>⟨_,l1,q00.2 ⟨fun h=>oo,fun _=>⟨_,l2,q00.2 ⟨fun h=>oo,fun _=>?_⟩⟩⟩⟩⟩
  refine hK o u ⟨f,ow,fun b hb=>?_⟩
  grind
end
end Go.Proofs.YtmfkimnmklnppaaGreatDoor
set_option maxRecDepth 20000
namespace Go.Proofs.YtmfkimnmklnppaaGreatDoor
open Go Pw Dp
theorem q76{α:Type}(d:α)(n:Int)(v:α):∀l:List (Int×α),q2v d n (mput n v l)=v
 | []=>by simp[mput,q2v]
 | p::l=>by
  unfold mput
  split
  ·simp[q2v]
  ·rename_i h
   simp only[q2v,if_neg h]
   exact q76 d n v l
theorem q5n{α:Type}(d:α){m n:Int}(hm:m≠n)(v:α):∀l:List (Int×α),q2v d n (mput m v l)=q2v d n l
 | []=>by simp[mput,q2v,hm]
 | p::l=>by
  unfold mput
  split
  ·rename_i h
   subst h
   simp[q2v,hm]
  ·simp only[q2v]
   split
   ·rfl
   ·exact q5n d hm v l
theorem NU.mp{w:World}{r:Nat}{l:List (Int×Value)}(h:Mp w r .i64 l):NU w r:=by
 obtain⟨es,cl,h,_⟩:=h
 refine⟨(Array.getElem?_eq_some_iff.1 h).1,fun c f hc=>?_⟩
 grind
structure CS(w0:World)(tb bb:Nat)(x:T43)(t:Td)(rest:List Ln)(cb:Nat)(cs:List Value)(ms:Option (Nat×Bool×Bool))(w:World):Prop where
 d:DS w0 w tb bb x t rest [(cb,cs)]
 m:∀mb a b,ms=some (mb,a,b)->bb<mb/\cb≠mb/\∃l:List (Int×ByteArray),Mp w mb .i64 (l.map fun p=>(p.1,Value.string p.2))/\(a=true->q2v (str []) 1 l=ofL qdk)/\(b=true->q2v (str []) 2 l=ofL qdl)
section
variable{w w' w0:World}{tb bb cb mb:Nat}{a b:Bool}{cs:List Value}{ms:Option (Nat×Bool×Bool)}{x:T43}{t:Td}{rest:List Ln}{k:Ln}{L:List (Nat×List Value)}{s:Sl}{ws:List B}{K:ByteArray->World->Prop}
theorem CS.fr(h:CS w0 tb bb x t rest cb cs ms w)(f:Fr F0 w w'):CS w0 tb bb x t rest cb cs ms w':=
 ⟨h.d.fr f,fun mb a b e=>let⟨h1,h2,l,h3,h4⟩:=h.m mb a b e;⟨h1,h2,l,h3.frF f fun h=>h,h4⟩⟩
theorem CS.row(h:CS w0 tb bb x t rest cb cs ms w):Row w cb cs:=h.d.row 0 rfl
theorem CS.made(h:CS w0 tb bb x t rest cb cs none w):CS w0 tb bb x t rest cb cs (some (w.heap.size,false,false)) (w.alloc (Obj.map #[] 0)):=
 ⟨h.d.fr Fr.alloc,fun mb a b e=>by
  cases e
  refine⟨h.d.blt,?_,[],Mp.made w _,fun h=>(by cases h),fun h=>(by cases h)⟩
  have:=h.row.lt
  omega⟩
theorem CS.mp(h:CS w0 tb bb x t rest cb cs (some (mb,a,b)) w):∃l:List (Int×Value),Mp w mb .i64 l:=let⟨_,_,_,h,_⟩:=h.m mb a b rfl;⟨_,h⟩
theorem CS.set(h:CS w0 tb bb x t rest cb cs (some (mb,a,b)) w)(n:Int)(v:ByteArray):DS w0 (w.mset mb .i64 n (Value.string v)) tb bb x t rest [(cb,cs)]:=by
 obtain⟨h1,h2,l,h3,_⟩:=h.m mb a b rfl
 refine h.d.nuF qch fun k hk=>?_
 subst hk
 exact⟨NU.mp h3,h1,fun p hp=>by rw[List.mem_singleton.1 hp];exact h2⟩
theorem CS.set1(h:CS w0 tb bb x t rest cb cs (some (mb,a,b)) w):CS w0 tb bb x t rest cb cs (some (mb,true,b)) (w.mset mb .i64 (1:Int) (Value.string (str [103,114,97,100,101]))):=
 ⟨h.set _ _,fun mb' a' b' e=>by
  cases e
  obtain⟨h1,h2,l,h3,_,h5⟩:=h.m mb a b rfl
  refine⟨h1,h2,mput 1 (ofL qdk) l,?_,fun _=>q76 _ _ _ _,fun hb=>?_⟩
  ·rw[←qb9]
   exact h3.set 1 _
  ·rw[q5n _ od]
   exact h5 hb⟩
theorem CS.set2(h:CS w0 tb bb x t rest cb cs (some (mb,a,b)) w):CS w0 tb bb x t rest cb cs (some (mb,a,true)) (w.mset mb .i64 (2:Int) (Value.string (str [111,102,102,101,114]))):=
 ⟨h.set _ _,fun mb' a' b' e=>by
  cases e
  obtain⟨h1,h2,l,h3,h5,_⟩:=h.m mb a b rfl
  refine⟨h1,h2,mput 2 (ofL qdl) l,?_,fun hb=>?_,fun _=>q76 _ _ _ _⟩
  ·rw[←qb9]
   exact h3.set 2 _
  ·rw[q5n _ od]
   exact h5 hb⟩
theorem CS.look{kind:Int}(h:CS w0 tb bb x t rest cb cs (some (mb,true,true)) w)(hk:kind=1\/kind=2):∃l:List (Int×ByteArray),Mp w mb .i64 (l.map fun p=>(p.1,Value.string p.2))/\q2v (str []) kind l=ofL (q2o kind):=by
 obtain⟨_,_,l,h3,h4,h5⟩:=h.m mb true true rfl
 refine⟨l,h3,?_⟩
 rcases hk with rfl|rfl
 ·exact h4 rfl
 ·exact h5 rfl
theorem CS.fin{c:Cr}{v:ByteArray}{P:Sl->World->Prop}(h:CS w0 tb bb x t rest cb cs ms w)(hv:v=ofL (q2o c.kind))
  (hP:∀s w',DS w0 w' tb bb x t rest [(cb,cs)]->Wd w' bb [(cb,cs)] s [wCrit',c.name,q2o c.kind,Lib.itoa c.low,Lib.itoa c.high]->P s w') :
  let w':World:=w.alloc (Obj.cells #[(Value.string (str [99,114,105,116,101,114,105,111,110])),(Value.string (ofL c.name)),(Value.string v),(Value.string (ofL (Lib.itoa c.low))),(Value.string (ofL (Lib.itoa c.high)))] 9)
  Row w' cb cs/\P (Sl.mk (some (Addr.mk w.heap.size 0 none)) 5 5) w':=by
 subst hv
 intro w'
 obtain⟨h,hw⟩:=h.d.words (cs:=[wCrit',c.name,q2o c.kind,Lib.itoa c.low,Lib.itoa c.high].flatMap encB) [wCrit',c.name,q2o c.kind,Lib.itoa c.low,Lib.itoa c.high] rfl
 exact⟨h.row 0 rfl,hP _ _ h hw⟩
theorem qiq{t45:Sl}{n46 i47:Int}{N1:Addr->Addr->Addr->Sl->Int->Int->World->Prop}(c:DC w0 x t)(h:DS w0 w tb bb x t (k::rest) L)(hw:Wd w bb L s k.words)(hi:inR .i64 (i47+1))
  (hN:∀w',DS w0 w' tb bb x t rest L->N1 ⟨tb,0,none⟩ ⟨bb,0,none⟩ ⟨bb,0,none⟩ t45 n46 (i47+1) w'):z6o_k3 ⟨tb,0,none⟩ ⟨bb,0,none⟩ ⟨bb,0,none⟩ s t45 n46 i47 N1 K w:=by
 refine⟨fi ?_⟩
 exact q2c c.hl h hw fun w' h=>⟨hi,hN w' h⟩
theorem qqq{c0:Cr}{t45:Sl}{n46 i47:Int}{N1:Addr->Addr->Addr->Sl->Int->Int->World->Prop}(c:DC w0 x t)(h:DS w0 w tb bb x t (.crit c0::rest) [(cb,encC c0)])(hw:Wd w bb [(cb,encC c0)] s [wCrit',c0.name,q2o c0.kind,Lib.itoa c0.low,Lib.itoa c0.high])(hi:inR .i64 (i47+1))
  (hN:∀w',DS w0 w' tb bb x t rest [(cb,encC c0)]->N1 ⟨tb,0,none⟩ ⟨bb,0,none⟩ ⟨bb,0,none⟩ t45 n46 (i47+1) w'):z6o_k2 ⟨tb,0,none⟩ ⟨bb,0,none⟩ ⟨bb,0,none⟩ ⟨cb,0,none⟩ s t45 n46 i47 N1 K w:=by
 refine⟨fi ?_⟩
 simp -zeta only[q04]
 refine⟨_,(h.row 0 rfl).at rfl,q09.2 ⟨fun hl=>?_,fun hl=>?_⟩⟩
 ·intro w1
  obtain⟨h,hx⟩:=h.words (cs:=[Value.string (ofL q4m)]) [q4m] rfl
  have hw:Wd w1 bb _ s _:=hw.fr Fr.alloc
  refine h.app hw hx.ow.vw (show(6:Nat)<=2^20 by decide) fun r w' h hw f=>?_
  exact qiq c h (by
   have e:(Ln.crit c0).words=[wCrit',c0.name,q2o c0.kind,Lib.itoa c0.low,Lib.itoa c0.high]++[q4m]:=by
    show wCrit'::([c0.name,q2o c0.kind,Lib.itoa c0.low,Lib.itoa c0.high]++(if c0.less then [q4m]else []))=_
    grind
   grind) hi hN
 ·exact qiq c h (by
   have e:(Ln.crit c0).words=[wCrit',c0.name,q2o c0.kind,Lib.itoa c0.low,Lib.itoa c0.high]:=by
    show wCrit'::([c0.name,q2o c0.kind,Lib.itoa c0.low,Lib.itoa c0.high]++(if c0.less then [q4m]else []))=_
    grind
   grind) hi hN
set_option maxHeartbeats 4000000 in
theorem qqr{j:Nat}{R:List Ln}{N1:Addr->Addr->Addr->Sl->Int->Int->World->Prop}(c:DC w0 x t)(h:DS w0 w tb bb x t ((t.crit.drop j).map Ln.crit++R) [])(hj:j<t.crit.length)
  (hN:∀w',DS w0 w' tb bb x t ((t.crit.drop (j+1)).map Ln.crit++R) []->N1 ⟨tb,0,none⟩ ⟨bb,0,none⟩ ⟨bb,0,none⟩ x.f2 (x.f2.l:Int) ((j:Int)+1) w'):z6o_b1 ⟨tb,0,none⟩ ⟨bb,0,none⟩ ⟨bb,0,none⟩ x.f2 (x.f2.l:Int) (j:Int) N1 K w:=by
 have hv:=c.T.crit.fr h.f
 have hvl:=hv.len
 have hcl:=c.R.crit
 refine fi ?_
 refine q00.2 ⟨fun hlt=>?_,fun hge=>oo⟩
 refine ldCr hv j rfl hj ?_
 obtain⟨_,hkind,hlo,hhi⟩:=c.R.critN _ (J0 hj)
 have hlo:=q4t hlo od
 have hhi:=q4t hhi od
 rw[qcd hj]at h
 generalize t.crit[j]=c0 at *
 intro w1
 refine h.box (cs:=[_,_,_,_,_]) od rfl fun w2 h=>?_
 intro w3
 have h:CS w0 tb bb x t _ _ (encC c0) none w3:=⟨h.fr Fr.drew,fun _ _ _ e=>(by cases e)⟩
 clear_value w3
 refine⟨fun u=>Row u w.heap.size (encC c0),h.row,_,fun v hv=>hv.at,_,fun v hv=>hv.at,_,fun v hv=>hv.at,_,fun v hv=>hv.at,?_⟩
 have hk:∀s w',DS w0 w' tb bb x t (Ln.crit c0::((t.crit.drop (j+1)).map Ln.crit++R)) [(w.heap.size,encC c0)]->Wd w' bb [(w.heap.size,encC c0)] s [wCrit',c0.name,q2o c0.kind,Lib.itoa c0.low,Lib.itoa c0.high]->z6o_k2 ⟨tb,0,none⟩ ⟨bb,0,none⟩ ⟨bb,0,none⟩ ⟨w.heap.size,0,none⟩ s x.f2 (x.f2.l:Int) (j:Int) N1 K w':=fun s w' h hw=>qqq c h hw (inR1 oo) fun w' h=>hN w' h.drop
 clear hN
 have hg:∀ {ms u},CS w0 tb bb x t (Ln.crit c0::((t.crit.drop (j+1)).map Ln.crit++R)) w.heap.size (encC c0) ms u->GlT u:=fun h=>c.g.fr h.d.f
 repeat' first
  | exact CS.fin ox ox hk
  | refine⟨CS.row ox,?_⟩
  |refine q15 ox (hg ox) fun w' f=>?_
   have:=CS.fr ox f
  |intro w'
   have:CS w0 tb bb x t _ _ _ _ w':=CS.made ox
   clear_value w'
  |refine⟨CS.mp ox,?_⟩
   intro w'
   first
    | have:CS w0 tb bb x t _ _ _ _ w':=CS.set1 ox
    | have:CS w0 tb bb x t _ _ _ _ w':=CS.set2 ox
   clear_value w'
  |obtain⟨l,hl1,hl2⟩:=CS.look ox hkind
   refine⟨l,hl1,?_⟩
  | refine⟨?_,?_⟩
end
section
variable{w w' w0:World}{tb bb:Nat}{x:T43}{t:Td}{rest:List Ln}{k:Ln}{L:List (Nat×List Value)}{s:Sl}{ws:List B}{K:ByteArray->World->Prop}
def tail5(t:Td):List Ln:=(if t.most=0 then []else [.most t.most])++(t.combos.map Ln.combo++[.budget t.budget,.times t.t1 t.t2 t.t3 t.t4 t.t5])
def qgs(t:Td):List Ln:=.price t.low t.high :: .form t.fm::((if t.ties=[]then []else [.tie t.ties])++tail5 t)
theorem qqs(c:DC w0 x t)(h:DS w0 w tb bb x t (t.reqs.map Ln.req++qgs t) [])(hK:∀w',Fr F0 w0 w'->K (ofL (q0f t)) w'):z6o_l4 ⟨tb,0,none⟩ ⟨bb,0,none⟩ ⟨bb,0,none⟩ x.f3 (x.f3.l:Int) (0:Int) K w:=by
 have hrl:=c.R.reqs
 refine⟨⟨fun i u=>∃j:Nat,i=j/\j<=t.reqs.length/\DS w0 u tb bb x t ((t.reqs.drop j).map Ln.req++qgs t) [],fun i _=>t.reqs.length-i.toNat,⟨0,rfl,Jj _,h⟩,?_⟩⟩
 rintro _ u ⟨j,rfl,hj,h⟩
 have hv:=c.T.reqs.fr h.f
 have hvl:=hv.len
 refine fi ?_
 refine q00.2 ⟨fun hlt=>?_,fun hge=>?_⟩
 ·have hj':j<t.reqs.length:=oo
  refine ldRq hv j rfl hj' ?_
  obtain⟨_,_,hn⟩:=c.R.reqN _ (J0 hj')
  rw[qcd hj']at h
  generalize t.reqs[j]=r0 at *
  intro w1
  refine h.box (cs:=[_,_,_]) od rfl fun w2 h=>?_
  intro w3
  have h:DS w0 w3 tb bb x t _ _:=h.fr Fr.drew
  refine⟨fun v=>Row v u.heap.size (encR r0),h.row 0 rfl,_,fun v hv=>hv.at rfl,_,fun v hv=>hv.at rfl,_,fun v hv=>hv.at rfl,?_⟩
  refine q15 (q4t hn od) (c.g.fr h.f) fun w7 f7=>?_
  have h:=h.fr f7
  refine⟨h.row 0 rfl,?_⟩
  intro w8
  obtain⟨h,hw⟩:=h.words (cs:=[q68,r0.name,r0.rel,Lib.itoa r0.val].flatMap encB) [q68,r0.name,r0.rel,Lib.itoa r0.val] rfl
  refine⟨h.row 0 rfl,?_⟩
  exact q2c c.hl h hw fun w9 h=>⟨h.row 0 rfl,inR1 oo,⟨⟨rfl,rfl,rfl,rfl,rfl,trivial⟩,j+1,oo,oo,h.drop⟩,uo⟩
 ·have hj':j=t.reqs.length:=oo
  subst hj'
  rw[J3]at h
  simp -zeta only[q04]
  intro w1
  have h:DS w0 w1 tb bb x t (qgs t) []:=h.fr Fr.drew
  refine⟨fun v=>Row v tb x.cs,h.r,_,fun v hv=>hv.at,_,fun v hv=>hv.at,?_⟩
  rw[c.T.low,c.T.high]
  refine q15 (q4t c.R.low od) (c.g.fr h.f) fun w2 f2=>?_
  have h:=h.fr f2
  refine⟨h.r,q15 (q4t c.R.high od) (c.g.fr h.f) fun w3 f3=>?_⟩
  have h:=h.fr f3
  refine⟨h.r,?_⟩
  intro w4
  obtain⟨h,hw⟩:=h.words (cs:=[wPrice,Lib.itoa t.low,Lib.itoa t.high].flatMap encB) [wPrice,Lib.itoa t.low,Lib.itoa t.high] rfl
  refine⟨h.r,?_⟩
  refine q2c c.hl h hw fun w5 h=>⟨h.r,?_⟩
  refine⟨_,h.r.at,_,h.r.at,_,h.r.at,_,h.r.at,_,h.r.at,?_⟩
  obtain⟨f4,f5,f6⟩:=c.R.fm
  refine q3p (c.T.fm.fr h.f) ⟨f4,f5,f6⟩ (c.g.fr h.f) fun w6 f6=>?_
  have h:=h.fr f6
  intro w7
  obtain⟨h,hw⟩:=h.words (cs:=[q38,t.fm.shw 0].flatMap encB) [q38,t.fm.shw 0] rfl
  refine q2c c.hl h hw fun w8 h=>?_
  refine⟨_,h.r.at,?_⟩
  have hv:=c.T.ties.fr h.f
  have hvl:=hv.len
  have htl:=c.R.ties
  refine q00.2 ⟨fun hlt=>?_,fun hge=>?_⟩
  ·have hne:t.ties≠[]:=fun e=>oz
   rw[if_neg hne]at h
   intro w9
   obtain⟨h,hw⟩:=h.words (cs:=[wTie].flatMap encB) [wTie] rfl
   have hv:Vw 1 encB w9 x.f11 t.ties:=hv.fr Fr.alloc
   refine⟨_,h.r.at,?_⟩
   refine h.app hw hv oy fun r w' h hw f=>?_
   exact q2c c.hl h hw fun w10 h=>qip c h hK
  ·have he:t.ties=[]:=ud
   rw[if_pos he]at h
   exact qip c h hK
theorem qqt(c:DC w0 x t)(h:DS w0 w tb bb x t (t.crit.map Ln.crit++(t.reqs.map Ln.req++qgs t)) [])(hK:∀w',Fr F0 w0 w'->K (ofL (q0f t)) w'):z6o_l1 ⟨tb,0,none⟩ ⟨bb,0,none⟩ ⟨bb,0,none⟩ x.f2 (x.f2.l:Int) (0:Int) K w:=by
 refine⟨⟨fun i u=>∃j:Nat,i=j/\j<=t.crit.length/\DS w0 u tb bb x t ((t.crit.drop j).map Ln.crit++(t.reqs.map Ln.req++qgs t)) [],fun i _=>t.crit.length-i.toNat,⟨0,rfl,Jj _,h⟩,?_⟩⟩
 rintro _ u ⟨j,rfl,hj,h⟩
 have hv:=c.T.crit.fr h.f
 have hvl:=hv.len
 rcases Nat.lt_or_ge j t.crit.length with hj'|hj'
 ·exact qqr c h hj' fun w' h=>⟨⟨⟨rfl,rfl,rfl,rfl,rfl,trivial⟩,j+1,oo,oo,h⟩,uo⟩
 ·refine fi ?_
  refine q00.2 ⟨fun hlt=>oo,fun hge=>?_⟩
  have hj':j=t.crit.length:=oo
  subst hj'
  rw[J3]at h
  simp -zeta only[q04]
  exact⟨_,h.r.at,qqs c h hK⟩
theorem qqu(c:DC w0 x t)(h:DS w0 w tb bb x t (t.lots.map (fun l=>Ln.lot l.1 l.2)++(t.crit.map Ln.crit++(t.reqs.map Ln.req++qgs t))) [])(hK:∀w',Fr F0 w0 w'->K (ofL (q0f t)) w'):z6o_l0 ⟨tb,0,none⟩ ⟨bb,0,none⟩ ⟨bb,0,none⟩ x.f1 (x.f1.l:Int) (0:Int) K w:=by
 have hll:=c.R.lots
 refine⟨⟨fun i u=>∃j:Nat,i=j/\j<=t.lots.length/\DS w0 u tb bb x t ((t.lots.drop j).map (fun l=>Ln.lot l.1 l.2)++(t.crit.map Ln.crit++(t.reqs.map Ln.req++qgs t))) [],fun i _=>t.lots.length-i.toNat,⟨0,rfl,Jj _,h⟩,?_⟩⟩
 rintro _ u ⟨j,rfl,hj,h⟩
 have hv:=c.T.lots.fr h.f
 have hvl:=hv.len
 refine fi ?_
 refine q00.2 ⟨fun hlt=>?_,fun hge=>?_⟩
 ·have hj':j<t.lots.length:=oo
  refine ldL hv j rfl hj' ?_
  obtain⟨hn1,hn2⟩:=c.R.lotN _ (J0 hj')
  rw[qcd (f:=fun l=>Ln.lot l.1 l.2) hj']at h
  generalize t.lots[j]=r0 at *
  obtain⟨id,most⟩:=r0
  have e:=h.box (cs:=[Value.int .i64 (0:Int),Value.int .i64 (0:Int)]) (vs:=[Value.int .i64 id,Value.int .i64 most]) (e:=46) (K:=fun w'=>DS w0 w' tb bb x t _ [(u.heap.size,[Value.int .i64 id,Value.int .i64 most])]) od rfl fun w' h=>h
  obtain⟨e1,e2,e3⟩:=e
  refine⟨e1,e2,?_⟩
  intro w4
  have h:DS w0 w4 tb bb x t _ _:=e3.fr Fr.drew
  refine⟨fun v=>Row v u.heap.size [Value.int .i64 id,Value.int .i64 most],h.row 0 rfl,_,fun v hv=>hv.at rfl,_,fun v hv=>hv.at rfl,?_⟩
  refine q15 (q4t hn1 od) (c.g.fr h.f) fun w7 f7=>?_
  have h:=h.fr f7
  refine⟨h.row 0 rfl,q15 (q4t hn2 od) (c.g.fr h.f) fun w8 f8=>?_⟩
  have h:=h.fr f8
  refine⟨h.row 0 rfl,?_⟩
  intro w9
  obtain⟨h,hw⟩:=h.words (cs:=[q42,Lib.itoa id,q3l,Lib.itoa most].flatMap encB) [q42,Lib.itoa id,q3l,Lib.itoa most] rfl
  refine⟨h.row 0 rfl,?_⟩
  exact q2c c.hl h hw fun w9 h=>⟨h.row 0 rfl,inR1 oo,⟨⟨rfl,rfl,rfl,rfl,rfl,trivial⟩,j+1,oo,oo,h.drop⟩,uo⟩
 ·have hj':j=t.lots.length:=oo
  subst hj'
  rw[J3]at h
  simp -zeta only[q04]
  exact⟨_,h.r.at,qqt c h hK⟩
theorem qk4(T:TP w x t)(R:q0m t)(hl:(q0f t).length<=4000)(g:GlT w)(hK:∀w',Fr F0 w w'->K (ofL (q0f t)) w'):z6o_sh x K w:=by
 have c:DC w x t:=⟨T,R,hl,g⟩
 refine⟨fi ?_⟩
 intro w1
 have hs1:w1.heap.size=w.heap.size+1:=World.size_alloc _ _
 have r1:Row w1 w.heap.size x.cs:=Row.new (cs:=x.cs)
 have f1:Fr F0 w w1:=Fr.alloc
 clear_value w1
 intro w2
 have hb:Bld w1.heap.size [] w2:=Bld.new
 have f2:Fr F0 w1 w2:=Fr.alloc
 clear_value w2
 have h:DS w w2 w.heap.size w1.heap.size x t (q0a t) []:=⟨f1.trans f2 fun _ h _=>h,Jg _,oo,f2.row r1 fun h=>h,⟨[],hb,rfl⟩,fun p hp=>(by cases hp)⟩
 generalize w1.heap.size=bb at h ⊢
 generalize w.heap.size=tb at h ⊢
 refine⟨_,h.r.at,?_⟩
 rw[T.name]
 intro w4
 obtain⟨h,hw⟩:=h.words (cs:=[q1f,t.name].flatMap encB) [q1f,t.name] rfl
 refine q2c hl (k:=.tender t.name) h hw fun w5 h=>?_
 exact⟨_,h.r.at,qqu c h hK⟩
end
section
variable{w w' w0:World}{t:Td}{s s':Sl}
theorem qqv{l:List (Int×Int)}{K:Bool->World->Prop}(hv:Vw 2 encL w s l)(hv':Vw 2 encL w s' l)(hl:l.length<2^62)(hK:∀w',Fr F0 w w'->K true w'):z1a_sh s s' K w:=by
 have el:=hv.len
 have el':=hv'.len
 refine⟨fi ?_⟩
 refine q0r.2 ⟨fun hne=>absurd oo hne,fun he=>?_⟩
 refine⟨⟨fun i u=>∃i':Nat,i=i'/\i'<=l.length/\Fr F0 w u,fun i _=>l.length-i.toNat,⟨0,rfl,oo,Fr.refl⟩,?_⟩⟩
 rintro i u ⟨i,rfl,hi,hf⟩
 refine fi ?_
 refine q00.2 ⟨fun hlt=>?_,fun hge=>hK _ hf⟩
 have hil:i<l.length:=oo
 intro u1
 have hf:Fr F0 w u1:=hf.t Fr.drew
 clear_value u1
 refine ldL (hv.fr hf) i rfl hil (ldL (hv'.fr hf) i rfl hil ?_)
 refine q09.2 ⟨fun h=>by simp at h,fun _=>?_⟩
 exact⟨q01,⟨⟨rfl,rfl,rfl,trivial⟩,i+1,oo,oo,hf⟩,uo⟩
theorem qqw{l:List Cr}{K:Bool->World->Prop}(hv:Vw 5 encC w s l)(hv':Vw 5 encC w s' l)(hl:l.length<2^62)(hK:∀w',Fr F0 w w'->K true w'):z08_sh s s' K w:=by
 have el:=hv.len
 have el':=hv'.len
 refine⟨fi ?_⟩
 refine q0r.2 ⟨fun hne=>absurd oo hne,fun he=>?_⟩
 refine⟨⟨fun i u=>∃i':Nat,i=i'/\i'<=l.length/\Fr F0 w u,fun i _=>l.length-i.toNat,⟨0,rfl,oo,Fr.refl⟩,?_⟩⟩
 rintro i u ⟨i,rfl,hi,hf⟩
 refine fi ?_
 refine q00.2 ⟨fun hlt=>?_,fun hge=>hK _ hf⟩
 have hil:i<l.length:=oo
 intro u1
 have hf:Fr F0 w u1:=hf.t Fr.drew
 clear_value u1
 refine ldCr (hv.fr hf) i rfl hil (ldCr (hv'.fr hf) i rfl hil ?_)
 refine q09.2 ⟨fun h=>by simp at h,fun _=>?_⟩
 exact⟨q01,⟨⟨rfl,rfl,rfl,trivial⟩,i+1,oo,oo,hf⟩,uo⟩
theorem qqx{l:List Rq}{K:Bool->World->Prop}(hv:Vw 3 encR w s l)(hv':Vw 3 encR w s' l)(hl:l.length<2^62)(hK:∀w',Fr F0 w w'->K true w'):z0c_sh s s' K w:=by
 have el:=hv.len
 have el':=hv'.len
 refine⟨fi ?_⟩
 refine q0r.2 ⟨fun hne=>absurd oo hne,fun he=>?_⟩
 refine⟨⟨fun i u=>∃i':Nat,i=i'/\i'<=l.length/\Fr F0 w u,fun i _=>l.length-i.toNat,⟨0,rfl,oo,Fr.refl⟩,?_⟩⟩
 rintro i u ⟨i,rfl,hi,hf⟩
 refine fi ?_
 refine q00.2 ⟨fun hlt=>?_,fun hge=>hK _ hf⟩
 have hil:i<l.length:=oo
 intro u1
 have hf:Fr F0 w u1:=hf.t Fr.drew
 clear_value u1
 refine ldRq (hv.fr hf) i rfl hil (ldRq (hv'.fr hf) i rfl hil ?_)
 refine q09.2 ⟨fun h=>by simp at h,fun _=>?_⟩
 exact⟨q01,⟨⟨rfl,rfl,rfl,trivial⟩,i+1,oo,oo,hf⟩,uo⟩
theorem qqy{l:List (List Int)}{K:Bool->World->Prop}(hv:CP w s l)(hv':CP w s' l)(hl:l.length<2^62)(hll:∀x∈l,x.length<2^62)(hK:∀w',Fr F0 w w'->K true w'):z33_sh s s' (Value.func (.func 163) #[] #[]) K w:=by
 obtain⟨Z,hv,hz,hi⟩:=hv
 obtain⟨Y,hv',hy,hi'⟩:=hv'
 have el:=hv.len
 have el':=hv'.len
 refine⟨fi ?_⟩
 refine q0r.2 ⟨fun hne=>absurd oo hne,fun he=>?_⟩
 refine⟨⟨fun i u=>∃i':Nat,i=i'/\i'<=l.length/\Fr F0 w u,fun i _=>l.length-i.toNat,⟨0,rfl,oo,Fr.refl⟩,?_⟩⟩
 rintro i u ⟨i,rfl,hj,hf⟩
 refine fi ?_
 refine q00.2 ⟨fun hlt=>?_,fun hge=>hK _ hf⟩
 have hil:i<l.length:=oo
 refine ldZ (hv.fr hf) i rfl oo (ldZ (hv'.fr hf) i rfl oo ?_)
 refine q02 z34_ok (show z34_sh _ _ _ u from qfr ((hi i oo hil).fr hf) ((hi' i oo hil).fr hf) (hll _ (J0 hil)) fun u1 f1=>?_)
 rw[decide_eq_true rfl]
 exact⟨true,rfl,q0h ⟨q01,⟨⟨rfl,rfl,rfl,rfl,trivial⟩,i+1,oo,oo,hf.t f1⟩,uo⟩⟩
def xcA(c:XC):Value:=.agg #[.string c.op,.int .i64 c.n,.int .i64 c.d,.string c.nm,.slice c.a.p c.a.l c.a.c]
theorem qcj{f:Value}{l l':List XC}{K:Bool->World->Prop}(hv:Vw 5 encX w s l)(hv':Vw 5 encX w s' l')(hll:l.length=l'.length)(hl:l.length<2^62)
  (hf:∀i (h:i<l.length) (h':i<l'.length) (u:World) (K:VW),Fr F0 w u->(∀u',Fr F0 u u'->K (.bool true) u')->q0y Tryz.prog f [xcA l[i],xcA l'[i]] u K) (hK:∀w',Fr F0 w w'->K true w'):z0a_sh s s' f K w:=by
 have el:=hv.len
 have el':=hv'.len
 refine⟨fi ?_⟩
 refine q0r.2 ⟨fun hne=>absurd oo hne,fun he=>?_⟩
 refine⟨⟨fun i u=>∃i':Nat,i=i'/\i'<=l.length/\Fr F0 w u,fun i _=>l.length-i.toNat,⟨0,rfl,oo,Fr.refl⟩,?_⟩⟩
 rintro i u ⟨i,rfl,hj,fu⟩
 refine fi ?_
 refine q00.2 ⟨fun hlt=>?_,fun hge=>hK _ fu⟩
 have hil:i<l.length:=oo
 have hil':i<l'.length:=oo
 refine ldX (hv.fr fu) i rfl hil ?_
 intro w1
 have m:Mem u w1 [(u.heap.size,[_,_,_,_,_])]:=Mem.nil.allocL
 clear_value w1
 refine q13 (m.row 0 rfl) (Jg 5) fun w2 f2 r2=>?_
 have g2:Fr F0 u w2:=m.1.trans f2 fun b hb hlt=>oo
 refine ldX (hv'.fr (fu.t g2)) i rfl hil' ?_
 intro w3
 have m3:Mem w2 w3 [(w2.heap.size,[_,_,_,_,_])]:=Mem.nil.allocL
 clear_value w3
 refine q13 (m3.row 0 rfl) (Jg 5) fun w4 f4 r4=>?_
 have g4:Fr F0 w2 w4:=m3.1.trans f4 fun b hb hlt=>oo
 have r2:Row w4 u.heap.size (encX l[i]):=g4.row r2 fun h=>h
 have r4:Row w4 w2.heap.size (encX l'[i]):=r4
 refine⟨_,r2.at,_,r2.at,_,r2.at,_,r2.at,_,r2.at,_,r4.at,_,r4.at,_,r4.at,_,r4.at,_,r4.at,?_⟩
 refine hf i hil hil' w4 _ (fu.t (g2.t g4)) fun u' f'=>?_
 exact⟨true,rfl,q0h ⟨q01,⟨⟨rfl,rfl,rfl,rfl,trivial⟩,i+1,oo,oo,fu.t ((g2.t g4).t f')⟩,uo⟩⟩
theorem qnn{c c':XC}{K:Bool->World->Prop}(h0:c.op=c'.op)(h1:c.n=c'.n)(h2:c.d=c'.d)(h3:c.nm=c'.nm)(hX:∀u,Fr F0 w u->z0a_sh c.a c'.a (Value.func (.func 164) #[] #[]) K u) :
  z1v_sh c.op c.n c.d c.nm c.a c'.op c'.n c'.d c'.nm c'.a K w:=by
 refine z1v_mk (fi ?_)
 intro w1
 have m:Mem w w1 [(w.heap.size,encX c)]:=Mem.nil.allocL
 clear_value w1
 generalize w.heap.size=b0 at m ⊢
 intro w2
 have m:Mem w w2 [(w1.heap.size,encX c'),(b0,encX c)]:=m.allocL
 clear_value w2
 refine⟨_,m.ld 1,_,m.ld 0,?_⟩
 rw[decide_eq_true h0]
 refine q08 ⟨_,m.ld 1,_,m.ld 1,_,m.ld 0,_,m.ld 0,?_⟩
 rw[h1,h2]
 refine q09.2 ⟨fun _=>?_,fun h=>by simp at h⟩
 refine⟨_,m.ld 1,_,m.ld 0,?_⟩
 rw[decide_eq_true h3]
 exact q08 ⟨_,m.ld 1,_,m.ld 0,hX _ m.1⟩
theorem qqz:∀(e:Fm) {c c':XC} {w:World} {K:Bool->World->Prop},XP w e c->XP w e c'->(∀w',Fr F0 w w'->K true w')->z1v_sh c.op c.n c.d c.nm c.a c'.op c'.n c'.d c'.nm c'.a K w:=by
 intro e
 induction e with
 | num n d =>
  intro c c' w K h h' hK
  obtain⟨rfl,_⟩:=h
  obtain⟨rfl,_⟩:=h'
  exact qnn rfl rfl rfl rfl fun u f=>qcj (l:=[]) (l':=[]) Vw.nil Vw.nil rfl od (fun i h=>by cases h) fun w' f'=>hK w' (f.t f')
 | name s =>
  intro c c' w K h h' hK
  obtain⟨rfl,_⟩:=h
  obtain⟨rfl,_⟩:=h'
  exact qnn rfl rfl rfl rfl fun u f=>qcj (l:=[]) (l':=[]) Vw.nil Vw.nil rfl od (fun i h=>by cases h) fun w' f'=>hK w' (f.t f')
 | op o a b iha ihb =>
  intro c c' w K h h' hK
  obtain⟨ca,cb,⟨e0,e1,e2,e3⟩,hv,ha,hb⟩:=h
  obtain⟨ca',cb',⟨e0',e1',e2',e3'⟩,hv',ha',hb'⟩:=h'
  refine qnn (e0.trans e0'.symm) (e1.trans e1'.symm) (e2.trans e2'.symm) (e3.trans e3'.symm) fun u f=>qcj (l:=[ca,cb]) (l':=[ca',cb']) (hv.fr f) (hv'.fr f) rfl (show(2:Nat)<2^62 by decide) (fun i hi hi' u1 K f1 hK=>?_) fun w' f'=>hK w' (f.t f')
  have f2:=f.t f1
  match i,hi,hi' with
  | 0,_,_=>exact q02 z1v_okr (show z1v_sh _ _ _ _ _ _ _ _ _ _ _ u1 from iha (ha.fr f2) (ha'.fr f2) hK)
  | 1,_,_=>exact q02 z1v_okr (show z1v_sh _ _ _ _ _ _ _ _ _ _ _ u1 from ihb (hb.fr f2) (hb'.fr f2) hK)
theorem qk5{x y:T43}{K:Bool->World->Prop}(T:TP w x t)(T':TP w y t)(R:q0m t)(hK:∀w',Fr F0 w w'->K true w'):z6k_sh x y K w:=by
 refine⟨fi ?_⟩
 intro w1
 have m:Mem w w1 [(w.heap.size,x.cs)]:=Mem.nil.allocL
 clear_value w1
 generalize w.heap.size=b0 at m ⊢
 intro w2
 have m:Mem w w2 [(w1.heap.size,y.cs),(b0,x.cs)]:=m.allocL
 clear_value w2
 generalize w1.heap.size=b1 at m ⊢
 refine⟨_,m.ld 1,_,m.ld 0,?_⟩
 rw[T.name,T'.name,decide_eq_true rfl]
 refine q08 ⟨_,m.ld 1,_,m.ld 0,?_⟩
 rw[T.low,T'.low]
 refine q0i.2 ⟨fun _=>⟨_,m.ld 1,_,m.ld 0,?_⟩,fun h=>absurd rfl h⟩
 rw[T.high,T'.high]
 refine q0i.2 ⟨fun _=>⟨_,m.ld 1,_,m.ld 0,?_⟩,fun h=>absurd rfl h⟩
 rw[T.most,T'.most]
 refine q0i.2 ⟨fun _=>⟨_,m.ld 1,_,m.ld 0,?_⟩,fun h=>absurd rfl h⟩
 rw[T.budget,T'.budget]
 refine q0i.2 ⟨fun _=>⟨_,m.ld 1,_,m.ld 1,_,m.ld 1,_,m.ld 1,_,m.ld 1,_,m.ld 0,_,m.ld 0,_,m.ld 0,_,m.ld 0,_,m.ld 0,?_⟩,fun h=>absurd rfl h⟩
 rw[T.t1,T'.t1,T.t2,T'.t2,T.t3,T'.t3,T.t4,T'.t4,T.t5,T'.t5]
 refine q09.2 ⟨fun _=>?_,fun h=>by simp at h⟩
 have l1:=R.lots.2
 have l2:=R.crit
 have l3:=R.reqs
 have l4:=R.ties
 have l5:=R.combos
 have f:=m.1
 refine⟨_,m.ld 1,_,m.ld 0,qqv (T.lots.fr f) (T'.lots.fr f) oo fun w3 f3=>?_⟩
 have m:=m.fr f3
 have f:=m.1
 refine q08 ⟨_,m.ld 1,_,m.ld 0,qqw (T.crit.fr f) (T'.crit.fr f) oo fun w4 f4=>?_⟩
 have m:=m.fr f4
 have f:=m.1
 refine q08 ⟨_,m.ld 1,_,m.ld 0,qqx (T.reqs.fr f) (T'.reqs.fr f) oo fun w5 f5=>?_⟩
 have m:=m.fr f5
 have f:=m.1
 refine q08 ⟨_,m.ld 1,_,m.ld 0,qfq (T.ties.fr f) (T'.ties.fr f) oo fun w6 f6=>?_⟩
 have m:=m.fr f6
 have f:=m.1
 rw[decide_eq_true rfl]
 refine q08 ⟨_,m.ld 1,_,m.ld 0,qqy (T.combos.fr f) (T'.combos.fr f) oo (fun l hl=>by have:=(R.comboN l hl).2.1;omega) fun w7 f7=>?_⟩
 have m:=m.fr f7
 have f:=m.1
 refine q08 ⟨_,m.ld 1,_,m.ld 1,_,m.ld 1,_,m.ld 1,_,m.ld 1,_,m.ld 0,_,m.ld 0,_,m.ld 0,_,m.ld 0,_,m.ld 0,?_⟩
 exact qqz t.fm (T.fm.fr f) (T'.fm.fr f) fun w8 f8=>hK w8 (f.t f8)
theorem qk6{x:T43}{K:ByteArray->World->Prop}(T:TP w x t)(R:q0m t)(hl:(q0f t).length<=4000)(g:GlT w)(gm:Gm w)(hK:∀w',Fr F0 w w'->K (ofL (q0f t)) w'):z6m_sh x K w:=by
 refine⟨fi ?_⟩
 intro w1
 have m:Mem w w1 [(w.heap.size,x.cs)]:=Mem.nil.allocL
 clear_value w1
 generalize w.heap.size=b0 at m ⊢
 refine T43.ld_row (m.row 0) ?_
 refine qk4 (T.fr m.1) R hl (g.fr m.1) fun w3 f3=>?_
 have m:=m.fr f3
 refine qar R hl (gm.fr m.1) fun w5 y f5 T'=>?_
 have T':=T'.tp
 have m:=m.fr f5
 intro w9
 have m:Mem w w9 [(w5.heap.size,zX.cs),(b0,x.cs)]:=m.allocL (cs:=zX.cs)
 have f9:Fr F0 w5 w9:=Fr.alloc
 clear_value w9
 have hlt:b0<w5.heap.size:=by
  have:=m.2.2.1
  grind
 have hge:w.heap.size<=w5.heap.size:=(m.2.2.2 (w5.heap.size,zX.cs) og)
 refine q13 (m.row 0 rfl) (Jg 20) fun w10 f10 r10=>?_
 have g10:Fr F0 w5 w10:=f9.trans f10 fun b hb hl=>oo
 have h10:Fr F0 w w10:=m.1.trans f10 fun b hb hl=>oo
 have r0:Row w10 b0 x.cs:=f10.row (m.row 1) fun h=>oo
 have r10:Row w10 w5.heap.size y.cs:=r10
 refine q0h ?_
 refine T43.ld_row r0 (T43.ld_row r10 ?_)
 refine qk5 (T.fr h10) (T'.fr g10) R fun w13 f13=>?_
 exact q0h (hK w13 (h10.t f13))
end
end Go.Proofs.YtmfkimnmklnppaaGreatDoor
namespace Dp
open Go Pw
def Fm.post:Fm->List Fm
 | .num n d=>[.num n d]
 | .name s=>[.name s]
 | .op o a b=>a.post++b.post++[.op o a b]
theorem qno(e:Fm):e.post=e.kids.flatMap Fm.post++[e]:=by cases e<;>simp[Fm.post,Fm.kids]
inductive Run {α:Type} (stp:α->Fm->α->Prop):α->List Fm->α->Prop
 | nil {a:α}:Run stp a [] a
 | cons {a b c:α} {e:Fm} {l:List Fm}:stp a e b->Run stp b l c->Run stp a (e::l) c
theorem Run.app{α:Type}{stp:α->Fm->α->Prop}:∀ {l m:List Fm} {a c:α},Run stp a (l++m) c->∃b,Run stp a l b/\Run stp b m c
 | [],_,a,_,h=>⟨a,.nil,h⟩
 | _::_,_,_,_,.cons h1 h2=>let⟨b,h3,h4⟩:=Run.app h2;⟨b,.cons h1 h3,h4⟩
theorem Run.join{α:Type}{stp:α->Fm->α->Prop}:∀ {l m:List Fm} {a b c:α},Run stp a l b->Run stp b m c->Run stp a (l++m) c
 | _,_,_,_,_,.nil,h=>h
 | _,_,_,_,_,.cons h1 h2,h=>.cons h1 (h2.join h)
end Dp
namespace Go.Proofs.YtmfkimnmklnppaaGreatDoor
open Go Pw Dp
structure Vz{α:Type}(w0:World)(l:Nat)(J:World->α->(Nat->Prop)->Prop)(stp:α->Fm->α->Prop):Prop where
 fr:∀ {w w':World} {a:α} {P:Nat->Prop},J w a P->Fr F0 w w'->J w' a P
 f0:∀ {w:World} {a:α} {P:Nat->Prop},J w a P->Fr F0 w0 w
 lt:∀ {w:World} {a:α} {P:Nat->Prop} {b:Nat},J w a P->P b->w0.heap.size<=b/\b<w.heap.size
 step:∀ {w:World} {a a':α} {P:Nat->Prop} {e:Fm} {c:XC} {K':VW},XP w0 e c->J w a P->stp a e a'->(∀w' P',J w' a' P'->Fr P w w'->(∀b,P' b->P b\/w.heap.size<=b)->K' (.bool true) w')->Yl Tryz.prog l #[xcA c] w K'
section
variable{α:Type}{w0 w w':World}{l vb yb:Nat}{J:World->α->(Nat->Prop)->Prop}{stp:α->Fm->α->Prop}
def VisG(w0:World)(l vb yb:Nat)(J:World->α->(Nat->Prop)->Prop)(stp:α->Fm->α->Prop)(e:Fm):Prop:=
 ∀ {c:XC} {w:World} {a a':α} {P:Nat->Prop} {K:Bool->World->Prop},XP w0 e c->J w a P->Run stp a e.post a'->Row w vb [fnV vb yb]->Row w yb [fnY l]->¬P vb->¬P yb ->
  (∀w' P',J w' a' P'->Fr P w w'->(∀b,P' b->P b\/w.heap.size<=b)->K true w')->z3r_sh c.op c.n c.d c.nm c.a ⟨vb,0,none⟩ ⟨yb,0,none⟩ K w
theorem q9a{e:Fm}(z:Vz w0 l J stp)(hkids:∀k∈e.kids,VisG w0 l vb yb J stp k):VisG w0 l vb yb J stp e:=by
 intro c w a a' P K hx hJ hrun hv hy hpv hpy hK
 obtain⟨cs,hcv,hcl,hck⟩:=hx.kids
 have hea:c.a.l=e.kids.length:=by rw[hcv.len,hcl]
 refine⟨fi ?_⟩
 intro w1
 have m1:Mem w w1 [(w.heap.size,_)]:=Mem.nil.allocL (cs:=encX c)
 clear_value w1
 have hJ1:=z.fr hJ m1.1
 have hbox:=m1.row 0
 have hk2:e.kids.length<=2:=by cases e<;>simp[Fm.kids]
 have hs1:=m1.1.1
 rw[qno]at hrun
 refine⟨c.a,hbox.at,⟨⟨fun t u=>∃(i:Nat) (ai:α) (P':Nat->Prop),t=i/\i<=e.kids.length/\J u ai P'/\Run stp ai ((e.kids.drop i).flatMap Fm.post++[e]) a'/\Fr P w1 u/\∀b,P' b->P b\/w1.heap.size<=b,fun t _=>e.kids.length-t.toNat,⟨0,a,P,rfl,oo,hJ1,by simpa using hrun,Fr.refl,fun b hb=>.inl hb⟩,?_⟩⟩⟩
 rintro t u ⟨i,ai,P',rfl,hi,hJu,hr,hFu,hPu⟩
 have hv1:=m1.1.row hv fun h=>h
 have hy1:=m1.1.row hy fun h=>h
 refine fi ?_
 have hvu:=hFu.row hv1 hpv
 have hyu:=hFu.row hy1 hpy
 have hpv':¬P' vb:=fun h=>(hPu vb h).elim hpv fun h=>by have:=hv1.lt;omega
 have hpy':¬P' yb:=fun h=>(hPu yb h).elim hpy fun h=>by have:=hy1.lt;omega
 refine q00.2 ⟨fun hlt=>?_,fun hge=>?_⟩
 ·have hil:i<e.kids.length:=oo
  refine ldX (hcv.fr (z.f0 hJu)) i rfl oo ?_
  refine q1u (vs:=encX cs[i]) rfl Mem.nil fun w2 m2=>?_
  have hr2:=m2.row 0
  refine⟨fnV vb yb,(m2.1.row hvu fun h=>h).at rfl,_,hr2.at,_,hr2.at,_,hr2.at,_,hr2.at,cs[i].a,hr2.at,?_⟩
  refine q02 z3r_ok ?_
  rw[List.drop_eq_getElem_cons hil,Ja,List.append_assoc]at hr
  obtain⟨aj,hr1,hr2'⟩:=hr.app
  refine hkids _ (J0 hil) (hck i oo hil) (z.fr hJu m2.1) hr1 (m2.1.row hvu fun h=>h) (m2.1.row hyu fun h=>h) hpv' hpy' fun w3 P3 hJ3 hF3 hP3=>⟨true,rfl,?_⟩
  have hs2:=m2.1.1
  have hsu:=hFu.1
  refine⟨q01,⟨⟨rfl,rfl,rfl,rfl,rfl,trivial⟩,i+1,aj,P3,oo,oo,hJ3,hr2',?_,fun b hb=>?_⟩,uo⟩
  ·refine hFu.trans (m2.1.f0.trans hF3 fun b hb hl=>hb) fun b hb hl=>?_
   grind
  ·grind
 ·have hie:i=e.kids.length:=oo
  subst hie
  rw[J3]at hr
  cases hr with
  | cons hst hn =>
  cases hn
  have hnb:¬P w.heap.size:=fun h=>by have:=(z.lt hJ h).2;omega
  have hbu:=hFu.row hbox hnb
  refine⟨fnY l,hyu.at,_,hbu.at,?_⟩
  simp only[q04,Jh]
  refine⟨_,hbu.at,_,hbu.at,_,hbu.at,c.a,hbu.at,?_⟩
  have hsu:=hFu.1
  refine q5l (z.step hx hJu hst fun w2 P2 hJ2 hF2 hP2=>⟨true,rfl,hK w2 P2 hJ2 ?_ fun b hb=>?_⟩)
  ·refine m1.1.f0.trans (hFu.trans hF2 fun b hb hl=>?_) fun b hb hl=>hb
   grind
  ·grind
theorem qnp(z:Vz w0 l J stp):∀e:Fm,VisG w0 l vb yb J stp e:=by
 intro e
 induction e with
 | num n d=>exact q9a z fun k hk=>by cases hk
 | name s=>exact q9a z fun k hk=>by cases hk
 | op o a b iha ihb =>
  refine q9a z fun k hk=>?_
  simp only[Fm.kids,Jc,J7,or_false]at hk
  grind
theorem qir{e:Fm}{c:XC}{n eb:Nat}{σ:St}{ps:Array Tmp}{sa bd:Code}{N R:World->Prop}(hx:XP w0 e c)(hb:Row w eb (encX c))
  (hz:∀fn tmps w1,agrT n σ tmps->Sx w w1 [(fun c=>c=w.heap.size+1,fun u=>u.heap[w.heap.size+1]?=some (lrec fn tmps ps sa bd w.heap.size .ready none)),(fun c=>c=w.heap.size,fun u=>u.heap[w.heap.size]?=some (.deferred (some [])))] ->
   ∃(J:World->α->(Nat->Prop)->Prop) (stp:α->Fm->α->Prop) (a a':α) (P:Nat->Prop),Vz w0 (w.heap.size+1) J stp/\J w1 a P/\Run stp a e.post a' /\
    ∀w2 P2,J w2 a' P2->Fr P w1 w2->(∀b,P2 b->P b\/w1.heap.size<=b)->w2.heap[w.heap.size+1]?=some (lrec fn tmps ps sa bd w.heap.size .ready none)/\N (w2.putObj (w.heap.size+1) (lrec fn tmps ps sa bd w.heap.size .exhausted none))) :
  rfF Tryz.prog n σ (Value.func (.func 251) #[] #[(Value.pointer (some (Addr.mk eb 0 none)))]) ps sa bd w N R:=by
 refine⟨⟨_,_,_,rfl⟩,fun fn tmps hag=>?_⟩
 have hd:Fr F0 w (w.alloc (.deferred (some []))):=Fr.alloc
 have hdD:(w.alloc (.deferred (some []))).heap[w.heap.size]?=some (.deferred (some [])):=by show(w.heap.push _)[w.heap.size]?=_;simp
 have hds:(w.alloc (.deferred (some []))).heap.size=w.heap.size+1:=ud
 generalize w.alloc (.deferred (some []))=wd at *
 have hl:Fr F0 wd (wd.alloc (lrec fn tmps ps sa bd w.heap.size .ready none)):=Fr.alloc
 have hlL:(wd.alloc (lrec fn tmps ps sa bd w.heap.size .ready none)).heap[wd.heap.size]?=some (lrec fn tmps ps sa bd w.heap.size .ready none):=by
  show(wd.heap.push _)[wd.heap.size]?=_;simp
 have hls:(wd.alloc (lrec fn tmps ps sa bd w.heap.size .ready none)).heap.size=wd.heap.size+1:=ud
 generalize wd.alloc (lrec fn tmps ps sa bd w.heap.size .ready none)=wl at *
 rw[hds]at hlL hls
 have hdl:=hl.2.1 w.heap.size oo fun h=>h
 rw[hdD]at hdl
 have hwl:Fr F0 w wl:=hd.t hl
 have hsx:Sx w wl [(fun c=>c=w.heap.size+1,fun u=>u.heap[w.heap.size+1]?=some (lrec fn tmps ps sa bd w.heap.size .ready none)),(fun c=>c=w.heap.size,fun u=>u.heap[w.heap.size]?=some (.deferred (some [])))]:=by
  have h0:Sx w wd [(fun c=>c=w.heap.size,fun u=>u.heap[w.heap.size]?=some (.deferred (some [])))]:=(Sx.nil Fr.refl).add hd (fun _ _ he h=>(he _ rfl).trans h) hdD fun b hb=>oo
  exact h0.add hl (fun _ _ he h=>(he _ rfl).trans h) hlL fun b hb=>oo
 obtain⟨J,stp,a,a',P,z,hJ,hrun,hfin⟩:=hz fn tmps wl hag hsx
 refine q02 z4n_ok ⟨fi ?_⟩
 intro w16
 have m16:Mem wl w16 [(wl.heap.size,[fnY (w.heap.size+1)])]:=Mem.nil.allocL (cs:=[fnY (w.heap.size+1)])
 clear_value w16
 intro w17
 have m17:Mem wl w17 [(w16.heap.size,[.nilFunc]),(wl.heap.size,[fnY (w.heap.size+1)])]:=m16.allocL (cs:=[.nilFunc])
 clear_value w17
 refine⟨m17.wr 0,?_⟩
 intro w18
 have m18:Mem wl w18 [(w16.heap.size,[fnV w16.heap.size wl.heap.size]),(wl.heap.size,[fnY (w.heap.size+1)])]:=m17.set (v:=fnV w16.heap.size wl.heap.size) 0
 clear_value w18
 have hb18:=(hwl.t m18.1).row hb fun h=>h
 refine⟨_,m18.ld 0,_,hb18.at,?_⟩
 simp -zeta only[q04,Jh]
 refine⟨_,hb18.at,_,hb18.at,_,hb18.at,c.a,hb18.at,?_⟩
 refine q02 z3r_ok ?_
 have z4:=m16.1.1
 refine qnp z e hx (z.fr hJ m18.1) hrun (m18.row 0) (m18.row 1) (fun h=>by have:=(z.lt hJ h).2;omega) (fun h=>by have:=(z.lt hJ h).2;omega) fun w2 P2 hJ2 hF2 hP2=>?_
 have h18:=m18.1.1
 obtain⟨h1,h2⟩:=hfin w2 P2 hJ2 (m18.1.f0.trans hF2 fun b hb _=>hb) fun b hb=>(hP2 b hb).imp id fun h=>oo
 exact⟨true,rfl,.inl ⟨h1,h2⟩⟩
end
section
variable{w w' w0:World}{t:Td}{s s':Sl}{x:T43}
theorem qr0{n:B}{nb:Nat}(r:Row w nb [Value.string (ofL n)])(c:Cr):Dcs F0 (Value.func (.func 93) #[] #[(Value.pointer (some (Addr.mk nb 0 none)))]) w [.agg #[.string (ofL c.name),.int .i64 c.kind,.int .i64 c.low,.int .i64 c.high,.bool c.less]] (decide (c.name=n)):=fun u K hu hK=>by
 refine q02 z41_ok (show z41_sh _ _ _ _ _ _ _ u from⟨fi ?_⟩)
 intro w1
 have m:Mem u w1 [(u.heap.size,encC c)]:=Mem.nil.allocL
 clear_value w1
 refine⟨_,m.ld 0,_,(m.1.row (hu.row r fun h=>h) fun h=>h).at rfl,?_⟩
 rw[q0c]
 exact hK _ m.1
theorem q5o{n:B}{K:Int->Int->Bool->World->Prop}(T:TP w x t)(hl:t.crit.length<2^62)(hK:∀w',Fr F0 w w'->match bndQ t n with
  | some p=>K p.1 p.2 true w'
  | none=>K 0 0 false w'):z5a_sh x (ofL n) K w:=by
 have k0:∀ {u:World} {b:Nat},Fr F0 w u->Row u b x.cs->n=wPrice\/n=wLow->z5a_k0 ⟨b,0,none⟩ K u:=fun {u b} f r hn=>by
  refine⟨fi ?_⟩
  intro w5
  have f5:Fr F0 u w5:=Fr.drew
  clear_value w5
  have r5:=f5.row r fun h=>h
  simp -zeta only[q04]
  refine⟨_,r5.at,_,r5.at,?_⟩
  have:=hK w5 (f.t f5)
  unfold bndQ at this
  rw[if_pos hn]at this
  rw[T.low,T.high]
  exact this
 refine⟨fi ?_⟩
 intro w1
 have m:Mem w w1 [(w.heap.size,x.cs)]:=Mem.nil.allocL
 clear_value w1
 generalize w.heap.size=b0 at m ⊢
 intro w2
 have m:Mem w w2 [(w1.heap.size,[Value.string (ofL n)]),(b0,x.cs)]:=m.allocL
 clear_value w2
 generalize w1.heap.size=b1 at m ⊢
 refine⟨_,m.ld 0,?_⟩
 rw[show str [112,114,105,99,101]=ofL wPrice from rfl,q0c]
 refine q00.2 ⟨fun h=>k0 m.1 (m.row 1) (.inl h),fun h1=>⟨_,m.ld 0,?_⟩⟩
 rw[show str [108,111,119]=ofL wLow from rfl,q0c]
 refine q00.2 ⟨fun h=>k0 m.1 (m.row 1) (.inr h),fun h2=>⟨_,m.ld 1,?_⟩⟩
 refine q29 (T.crit.fr m.1) hl (fun c _=>qr0 (m.row 0) c) fun r w9 f9 ix=>?_
 have m:=m.fr f9
 refine q00.2 ⟨fun hr=>?_,fun hr=>?_⟩
 ·have:=hK w9 m.1
  unfold bndQ at this
  rw[if_neg (fun h=>h.elim h1 h2),ix.none hr]at this
  exact this
 ·obtain⟨i,hi,rfl,hf⟩:=ix.find hr
  intro w11
  have m:Mem w w11 _:=m.drew
  clear_value w11
  have hv:=T.crit.fr m.1
  refine⟨_,m.ld 1,?_⟩
  have hg:=hv.at (enc:=encC) (fun _=>rfl) (J5 hi) od
  obtain⟨ad,ha,hc⟩:=hg
  have hvl:=hv.len
  rw[ha]
  refine⟨⟨oo,oo⟩,_,hc 2 _ rfl,_,m.ld 1,?_⟩
  rw[ha]
  refine⟨⟨oo,oo⟩,_,hc 3 _ rfl,?_⟩
  have:=hK w11 m.1
  unfold bndQ at this
  grind
theorem qk7{n:B}{nb:Nat}{cs:List Value}(r:Row w nb (Value.string (ofL n)::cs))(c:Cr):Dcs F0 (Value.func (.func 90) #[] #[(Value.pointer (some (Addr.mk nb 0 none)))]) w [.agg #[.string (ofL c.name),.int .i64 c.kind,.int .i64 c.low,.int .i64 c.high,.bool c.less]] (decide (c.name=n)):=fun u K hu hK=>by
 refine q02 z3a_ok (show z3a_sh _ _ _ _ _ _ _ u from⟨fi ?_⟩)
 intro w1
 have m:Mem u w1 [(u.heap.size,encC c)]:=Mem.nil.allocL
 clear_value w1
 refine⟨_,m.ld 0,_,(m.1.row (hu.row r fun h=>h) fun h=>h).at rfl,?_⟩
 rw[q0c]
 exact hK _ m.1
theorem qck{r:Rq}{K:Int->World->Prop}(T:TP w x t)(hl:t.crit.length<2^62)(hr:∃c,t.crit.find? (fun c=>decide (c.name=r.name))=some c/\c.kind=2)(hK:∀w',Fr F0 w w'->K 0 w'):z42_sh x (ofL r.name) (ofL r.rel) r.val K w:=by
 obtain⟨c,hc,hk⟩:=hr
 refine⟨fi ?_⟩
 intro w1
 have m:Mem w w1 [(w.heap.size,x.cs)]:=Mem.nil.allocL
 clear_value w1
 generalize w.heap.size=b0 at m ⊢
 intro w2
 have m:Mem w w2 [(w1.heap.size,encR r),(b0,x.cs)]:=m.allocL
 clear_value w2
 generalize w1.heap.size=b1 at m ⊢
 refine⟨_,m.ld 1,?_⟩
 refine q29 (T.crit.fr m.1) hl (fun c _=>qk7 (m.row 0) c) fun i w9 f9 ix=>?_
 have m:=m.fr f9
 refine q00.2 ⟨fun hr=>?_,fun hr=>?_⟩
 ·rw[ix.none hr]at hc;cases hc
 ·obtain⟨i,hi,rfl,hf⟩:=ix.find hr
  rw[hf]at hc
  cases hc
  have hv:=T.crit.fr m.1
  refine⟨_,m.ld 1,?_⟩
  obtain⟨ad,ha,hc⟩:=hv.at (enc:=encC) (fun _=>rfl) (J5 hi) od
  have hvl:=hv.len
  rw[ha]
  refine⟨⟨oo,oo⟩,_,hc 1 _ rfl,?_⟩
  rw[hk]
  exact hK _ m.1
end
end Go.Proofs.YtmfkimnmklnppaaGreatDoor
namespace Pw
open Go
section
variable{w0 w w':World}{L:List Pt}{p q:Pt}
theorem Ow.cut{α:Type}{n:Nat}{enc:α->List Value}{s:Sl}{l m:List α}{k:Nat}(h:Ow n enc w s (l++m))(hn:∀a,(enc a).length=n)(hk:k=l.length):Ow n enc w ⟨subP s.p 0 s.c n,k-0,s.c-0⟩ l:=by
 subst hk
 have hsl:=h.len
 rw[J1]at hsl
 have hf:∀l:List α,(l.flatMap enc).length=l.length*n:=fun l=>q1d hn l
 obtain⟨h1,h2⟩:=h.own
 refine⟨rfl,?_,?_⟩
 ·grind
 ·rcases h2 with⟨e1,e2,e3⟩|⟨b,cs,e1,e2,e3,e4,e5⟩
  ·refine .inl ⟨?_,?_,?_⟩
   ·show subP s.p 0 s.c n=none
    rw[e1,e3];rfl
   ·grind
   ·omega
  ·refine .inr ⟨b,cs,?_,e2,e3,?_,?_⟩
   ·show subP s.p 0 s.c n=_
    unfold subP
    simp_all
   ·grind
   ·rw[J9,J1,hf l]at e5
    have e6:cs.take (l.length*n)=(cs.take (l.length*n+(m.flatMap enc).length)).take (l.length*n):=by rw[List.take_take,Ji (Nat.le_add_right _ _)]
    grind
theorem q9b{s:Sl}{b n:Nat}(h:∃a,subP s.p 0 s.c n=some a/\a.block=b):inB s b:=by
 obtain⟨a,ha,hb⟩:=h
 unfold subP at ha
 split at ha
 ·exact⟨a,ha,hb⟩
 ·cases hp:s.p with
  | none=>grind
  | some c =>
   rw[hp]at ha
   cases ha
   refine⟨c,hp,?_⟩
   rw[←hb]
   unfold Addr.add
   split<;>rfl
theorem Sx.box{cs vs:List Value}{e:TypeId}{K:World->Prop}(h:Sx w0 w L)(hl:cs.length=vs.length)(hK:∀w',Fr F0 w w'->Sx w0 w' ((fun c=>c=w.heap.size,fun u=>Row u w.heap.size vs)::L)->K w') :
  stN (w.alloc (Obj.cells cs.toArray e)) ⟨w.heap.size,0,none⟩ vs K:=
 q1u hl Mem.nil fun w' m=>hK w' m.1 (h.add m.1 (q0b.row _ _) (m.row 0) fun b hb=>by have hb:b=w.heap.size:=hb;subst hb;exact⟨Jg _,(m.row 0).lt⟩)
theorem Sx.st{b:Nat}{cs vs:List Value}{K:World->Prop}(h:Sx w0 w L)(j:Nat)(hj:L[j]?=some (fun c=>c=b,fun u=>Row u b cs))(hl:vs.length=cs.length)(hK:∀w',Fr (fun c=>c=b) w w'->Sx w0 w' (L.set j (fun c=>c=b,fun u=>Row u b vs))->K w'):stN w ⟨b,0,none⟩ vs K:=
 q13 (h.get j hj:Row w b cs) oo fun w' f r=>hK w' f (h.upd j hj f (q0b.row _ _) (by
  have:q2e cs 0 vs=vs:=by unfold q2e;simp[hl]
  grind) fun _ hb=>.inl hb)
theorem q0b.obj(l:Nat)(o:Obj):q0b (fun c=>c=l) (fun u=>u.heap[l]?=some o):=fun _ _ he h=>(he l rfl).trans h
theorem Sx.obj{l:Nat}{o o':Obj}(h:Sx w0 w L)(j:Nat)(hj:L[j]?=some (fun c=>c=l,fun u=>u.heap[l]?=some o)):Sx w0 (w.putObj l o') (L.set j (fun c=>c=l,fun u=>u.heap[l]?=some o')):=by
 have hlt:l<w.heap.size:=(h.nw j _ hj l rfl).2
 exact h.upd j hj (Go.Proofs.YtmfkimnmklnppaaGreatDoor.Fr.put rfl) (q0b.obj _ _) (World.putObj_heap_same hlt) fun _ hb=>.inl hb
end
end Pw
namespace Go.Proofs.YtmfkimnmklnppaaGreatDoor
open Go Pw Dp
section
variable{T:Type}(nT:Nat)(enc:T->List Value)
def JL(sb l:Nat)(rec:Obj)(fix:List Pt)(s:Sl)(a:List T):List Pt:=
 (fun c=>c=sb,fun u=>Row u sb [.slice s.p s.l s.c])::(inB s,fun u=>Ow nT enc u s a)::(fun c=>c=l,fun u=>u.heap[l]?=some rec)::fix
def FJ(w0:World)(sb l:Nat)(rec:Obj)(fix:List Pt)(w:World)(a:List T)(P:Nat->Prop):Prop:=
 ∃s,Sx w0 w (JL nT enc sb l rec fix s a)/\P=fun b=>b=sb\/b=l\/inB s b
variable{nT enc}{w0 w w' u:World}{sb l fn d bytes ety:Nat}{tmps:Array Value}{ps:Array Tmp}{sa bd:Code}{fix:List Pt}{a:List T}{P:Nat->Prop}{K':VW}{q1 q2:Pt}{s s0:Sl}{p:T}{zero:List Value}
theorem qe7(hn:∀a,(enc a).length=nT)(hok:∀a,∀v∈enc a,okC v=true)(hz:zero.length=nT)(hby:bytes<=64)(ha:a.length<=2^20)
  (h:Sx w0 u (q1::q2::JL nT enc sb l (lrec fn tmps ps sa bd d .busy none) fix s a)) (F:Fr (fun b=>b=sb\/b=l\/inB s0 b) w u) (hi:∀b,inB s b->inB s0 b\/w.heap.size<=b)
  (hK:∀w' P',FJ nT enc w0 sb l (lrec fn tmps ps sa bd d .ready none) fix w' (a++[p]) P'->Fr (fun b=>b=sb\/b=l\/inB s0 b) w w'->(∀b,P' b->(b=sb\/b=l\/inB s0 b)\/w.heap.size<=b)->K' (.bool true) w') :
  apS nT bytes zero ety s ⟨some ⟨u.heap.size,0,none⟩,1,1⟩ (u.alloc (Obj.cells (enc p).toArray ety)) fun s' w'=>wrOk w' ⟨sb,0,none⟩ /\
   (let w'':World:=w'.setCell ⟨sb,0,none⟩ (Value.slice s'.p s'.l s'.c)
   rN l fn tmps ps sa bd d K' w''):=by
 have hv:Vw nT enc (u.alloc (Obj.cells (enc p).toArray ety)) ⟨some ⟨u.heap.size,0,none⟩,1,1⟩ [p]:=Vw.new (hn p) rfl
 have f1:Fr F0 u (u.alloc (Obj.cells (enc p).toArray ety)):=Fr.alloc
 generalize u.alloc (Obj.cells (enc p).toArray ety)=u1 at *
 have h:=h.fr f1
 have hbb:(a.length+1)*bytes<=2^47:=Jk (Nat.mul_le_mul (show a.length+1<=2^20+1 by omega) hby) od
 refine(h.get 3 rfl:Ow nT enc u1 s a).app hv hok hz (by simpa using hbb) oy fun r w1 ho hf hr=>?_
 have h:=h.upd (q:=(inB r,fun u=>Ow nT enc u r (a++[p]))) 3 rfl hf (q0b.ow r (a++[p])) ho fun b hb=>(hr b hb).imp id fun h=>⟨h,ho.lt' hb⟩
 have F1:Fr (fun b=>b=sb\/b=l\/inB s0 b) w w1:=(F.tF f1).trans hf fun b hb hlt=>oz
 refine⟨h.wr 2 rfl rfl,?_⟩
 intro w2
 have h:Sx w0 w2 (q1::q2::JL nT enc sb l (lrec fn tmps ps sa bd d .busy none) fix r (a++[p])):=h.set 2 rfl
 have F2:Fr (fun b=>b=sb\/b=l\/inB s0 b) w w2:=F1.trans (Fr.set (F:=fun b=>b=sb) rfl) fun b hb _=>.inl hb
 clear_value w2
 refine⟨h.get 4 rfl,?_⟩
 have h:Sx w0 _ (q1::q2::JL nT enc sb l (lrec fn tmps ps sa bd d .ready none) fix r (a++[p])):=h.obj (o':=lrec fn tmps ps sa bd d .ready none) 4 rfl
 refine hK _ _ ⟨r,h.tail.tail,rfl⟩ (F2.trans (Fr.put (F:=fun b=>b=l) rfl) fun b hb _=>.inr (.inl hb)) fun b hb=>?_
 have z1:=F.1
 have z2:=f1.1
 rcases hb with h|h|h
 ·omega
 ·omega
 ·grind
end
def qgt{T:Type}(lf:Fm->T->Prop)(comb:Fin 6->T->T->T->Prop)(a:List T)(e:Fm)(a':List T):Prop:=
 a.length<=2^20/\match e with
 | .op o _ _=>∃b p q r,a=b++[p,q]/\comb o p q r/\a'=b++[r]
 | .num n d=>∃p,lf (.num n d) p/\a'=a++[p]
 | .name s=>∃p,lf (.name s) p/\a'=a++[p]
def fixL(lb nb t6 t7 d:Nat)(leafV nodeV:Value)(c6 c7:List Value):List Pt:=
 [(fun c=>c=lb,fun u=>Row u lb [leafV]),(fun c=>c=nb,fun u=>Row u nb [nodeV]),(fun c=>c=t6,fun u=>Row u t6 c6),(fun c=>c=t7,fun u=>Row u t7 c7),(fun c=>c=d,fun u=>u.heap[d]?=some (.deferred (some [])))]
def encU(p:Int×Bool):List Value:=[.int .i64 p.1,.bool p.2]
section
variable{w0 w w' u:World}{sb l fn d:Nat}{tmps:Array Value}{a:List (Int×Bool)}{P:Nat->Prop}{K':VW}
theorem que(a:Int×Bool):∀v∈encU a,okC v=true:=by
 intro v hv
 simp only[encU,Jc,J7,or_false]at hv
 rcases hv with rfl|rfl<;>rfl
theorem stepU{c:XC}{e:Fm}{a':List (Int×Bool)}{lf:Fm->Int×Bool->Prop}{comb:Fin 6->Int×Bool->Int×Bool->Int×Bool->Prop}{leafV nodeV t15:Value}{lb nb t6 t7:Nat}{c6 c7:List Value}
  (hleaf:∀e c p (u:World) (K:VW),XP w0 e c->e.kids=[]->lf e p->Fr F0 w0 u->(∀u',Fr F0 u u'->K (.tuple #[.agg (encU p).toArray,.int .i64 0]) u')->q0y Tryz.prog leafV [xcA c] u K)
  (hnode:∀o p q r (u:World) (K:VW),comb o p q r->Fr F0 w0 u->(∀u',Fr F0 u u'->K (.tuple #[.agg (encU r).toArray,.int .i64 0]) u')->q0y Tryz.prog nodeV [.string (ofL (opB o)),.agg (encU p).toArray,.agg (encU q).toArray] u K)
  (hx:XP w0 e c) (hJ:FJ 2 encU w0 sb l (lrec fn tmps z0v_ps0 z0v_as0 z0v_bd0 d .ready none) (fixL lb nb t6 t7 d leafV nodeV c6 c7) w a P) (hst:qgt lf comb a e a')
  (hag:agrT 61 [(4,(Value.pointer (some ⟨lb,0,none⟩))),(5,(Value.pointer (some ⟨nb,0,none⟩))),(6,(Value.pointer (some ⟨t6,0,none⟩))),(7,(Value.pointer (some ⟨t7,0,none⟩))),(8,(Value.pointer (some ⟨sb,0,none⟩))),(15,t15)] tmps)
  (hK:∀w' P',FJ 2 encU w0 sb l (lrec fn tmps z0v_ps0 z0v_as0 z0v_bd0 d .ready none) (fixL lb nb t6 t7 d leafV nodeV c6 c7) w' a' P'->Fr P w w'->(∀b,P' b->P b\/w.heap.size<=b)->K' (.bool true) w') :
  Yl Tryz.prog l #[xcA c] w K':=by
 obtain⟨s0,h,rfl⟩:=hJ
 obtain⟨ha,hst⟩:=hst
 have h0:=h.fr0
 have kids:=hx.kids
 obtain⟨op,n,dd,nm,ap,al,ac⟩:=c
 refine z0v_y0 hag (h.get 2 rfl) ⟨fi ?_⟩
 refine h.box (vs:=encX ⟨op,n,dd,nm,⟨ap,al,ac⟩⟩) rfl fun w1 f1 h=>?_
 generalize w.heap.size=pb at h ⊢
 refine⟨h.get 3 rfl,?_⟩
 have h:Sx w0 _ (_::JL 2 encU sb l (lrec fn tmps z0v_ps0 z0v_as0 z0v_bd0 d .busy none) (fixL lb nb t6 t7 d leafV nodeV c6 c7) s0 a):=h.obj (o':=lrec fn tmps z0v_ps0 z0v_as0 z0v_bd0 d .busy none) 3 rfl
 have F:Fr (fun b=>b=sb\/b=l\/inB s0 b) w (w1.putObj l (lrec fn tmps z0v_ps0 z0v_as0 z0v_bd0 d .busy none)):=f1.f0.trans (Fr.put (F:=fun b=>b=l) rfl) fun b hb _=>.inr (.inl hb)
 generalize w1.putObj l (lrec fn tmps z0v_ps0 z0v_as0 z0v_bd0 d .busy none)=w2 at *
 have hF2:=F
 dsimp -zeta only
 intro w3
 have h:Sx w0 w3 (_::_::JL 2 encU sb l (lrec fn tmps z0v_ps0 z0v_as0 z0v_bd0 d .busy none) (fixL lb nb t6 t7 d leafV nodeV c6 c7) s0 a):=h.row (cs:=[Value.int .i64 (0:Int),Value.bool false])
 have F:Fr (fun b=>b=sb\/b=l\/inB s0 b) w w3:=F.tF Fr.alloc
 clear_value w3
 have hxb:w.heap.size<=w2.heap.size:=hF2.1
 generalize w2.heap.size=xb at h hxb ⊢
 refine⟨s0,h.ld 2 rfl rfl,⟨ap,al,ac⟩,h.ld 1 rfl rfl,?_⟩
 have fin:∀(u:World) (s:Sl) (b:List (Int×Bool)) (p:Int×Bool) Kk,b.length<=2^20->a'=b++[p]->Sx w0 u ((fun c=>c=xb,fun u=>Row u xb (encU p))::(fun c=>c=pb,fun u=>Row u pb (encX ⟨op,n,dd,nm,⟨ap,al,ac⟩⟩))::JL 2 encU sb l (lrec fn tmps z0v_ps0 z0v_as0 z0v_bd0 d .busy none) (fixL lb nb t6 t7 d leafV nodeV c6 c7) s b) ->
   Fr (fun b=>b=sb\/b=l\/inB s0 b) w u->(∀b,inB s b->inB s0 b\/w.heap.size<=b)->z0v_k1 ⟨t6,0,none⟩ ⟨t7,0,none⟩ ⟨sb,0,none⟩ ⟨xb,0,none⟩ 0 (rN l fn tmps z0v_ps0 z0v_as0 z0v_bd0 d K') (rR l fn tmps z0v_ps0 z0v_as0 z0v_bd0 d K') Kk u:=fun u s b p Kk hb e h F hi=>by
  refine⟨fi ?_⟩
  refine q0h ⟨s,h.ld 2 rfl rfl,?_⟩
  simp -zeta only[q04]
  refine⟨_,h.ld 0 rfl rfl,_,h.ld 0 rfl rfl,?_⟩
  intro w4
  refine qe7 (enc:=encU) (p:=p) (bytes:=16) (fun _=>rfl) que rfl od hb h F hi fun w5 P5 hJ5 F5 hP5=>?_
  rw[←e]at hJ5
  exact hK w5 P5 hJ5 F5 hP5
 obtain⟨xs,hxv,hxl,hxk⟩:=kids
 have hal:al=e.kids.length:=by rw[←hxl];exact hxv.len
 refine q0i.2 ⟨fun hk=>?_,fun hk=>?_⟩
 ·have hk:(al:Int)=0:=hk
  have hk0:e.kids=[]:=J2 oo
  have hlf:∃p,lf e p/\a'=a++[p]:=by
   cases e with
   | op o x y=>cases hk0
   | num n d=>exact hst
   | name s=>exact hst
  obtain⟨p,hp,rfl⟩:=hlf
  refine⟨leafV,h.ld 5 rfl rfl,_,h.ld 1 rfl rfl,_,h.ld 1 rfl rfl,_,h.ld 1 rfl rfl,_,h.ld 1 rfl rfl,⟨ap,al,ac⟩,h.ld 1 rfl rfl,?_⟩
  refine hleaf e ⟨op,n,dd,nm,⟨ap,al,ac⟩⟩ p w3 _ hx hk0 hp h.fr0 fun w4 f4=>⟨_,_,_,rfl,?_⟩
  have h:=h.fr f4
  exact h.st (vs:=encU p) 0 rfl rfl fun w5 f5 h=>fin w5 s0 a p _ ha rfl h ((F.tF f4).trans f5 fun b (hb:b=xb) hlt=>absurd hlt oo) fun b hb=>.inl hb
 ·cases e with
  | num n d=>exact absurd (by rw[hal];rfl) hk
  | name s=>exact absurd (by rw[hal];rfl) hk
  | op o x y =>
   obtain⟨b,p,q,r,rfl,hc,rfl⟩:=hst
   obtain⟨ca,cb,⟨hop,_⟩,_⟩:=hx
   have hop:op=ofL (opB o):=hop
   subst hop
   rw[J1]at ha
   have ha:b.length+2<=2^20:=ha
   have hl2:(b++[p,q]).length=b.length+2:=oz
   have how:Ow 2 encU w3 s0 (b++[p,q]):=h.get 3 rfl
   have hsl:s0.l=b.length+2:=by rw[how.len,J1];rfl
   intro w4
   have h:Sx w0 w4 _:=h.fr Fr.drew
   have F:Fr (fun b=>b=sb\/b=l\/inB s0 b) w w4:=F.tF Fr.drew
   clear_value w4
   obtain⟨S,hSi,hSe⟩:∃S:World->Prop,(∀u,(Row u nb [nodeV]/\Row u pb (encX ⟨ofL (opB o),n,dd,nm,⟨ap,al,ac⟩⟩)/\Row u sb [.slice s0.p s0.l s0.c]/\Ow 2 encU u s0 (b++[p,q]))->S u)/\∀u,S u->Row u nb [nodeV]/\Row u pb (encX ⟨ofL (opB o),n,dd,nm,⟨ap,al,ac⟩⟩)/\Row u sb [.slice s0.p s0.l s0.c]/\Ow 2 encU u s0 (b++[p,q]):=⟨fun u=>Row u nb [nodeV]/\Row u pb (encX ⟨ofL (opB o),n,dd,nm,⟨ap,al,ac⟩⟩)/\Row u sb [.slice s0.p s0.l s0.c]/\Ow 2 encU u s0 (b++[p,q]),fun _ h=>h,fun _ h=>h⟩
   have hS:=hSi w4 ⟨h.get 6 rfl,h.get 1 rfl,h.get 2 rfl,h.get 3 rfl⟩
   refine⟨S,hS,nodeV,fun u hu=>(hSe u hu).1.at,_,fun u hu=>(hSe u hu).2.1.at,s0,fun u hu=>(hSe u hu).2.2.1.at,q01,?_⟩
   refine Vw.goS (enc:=encU) (fun _=>rfl) od hS (fun v hv=>(hSe v hv).2.2.2.vw) b.length oo oo fun ad hc0=>?_
   have e0:(b++[p,q])[b.length]'oo=p:=og
   rw[e0]at hc0
   refine⟨_,hc0 0 _ rfl,_,hc0 1 _ rfl,?_⟩
   refine⟨s0,fun u hu=>(hSe u hu).2.2.1.at,q01,?_⟩
   refine Vw.goS (enc:=encU) (fun _=>rfl) od hS (fun v hv=>(hSe v hv).2.2.2.vw) (b.length+1) oo oo fun ad hc1=>?_
   have e1:(b++[p,q])[b.length+1]'oo=q:=og
   rw[e1]at hc1
   refine⟨_,hc1 0 _ rfl,_,hc1 1 _ rfl,?_⟩
   refine hnode o p q r w4 _ hc h.fr0 fun w5 f5=>⟨_,_,_,rfl,?_⟩
   have h:=h.fr f5
   refine⟨hSi w5 ⟨h.get 6 rfl,h.get 1 rfl,h.get 2 rfl,h.get 3 rfl⟩,?_⟩
   refine⟨h.wr 0 rfl rfl,?_⟩
   intro w51
   have h:Sx w0 w51 _:=h.set (i:=0) (v:=Value.int .i64 r.1) 0 rfl
   have f6:Fr (fun c=>c=xb) w5 w51:=Fr.set rfl
   clear_value w51
   refine⟨h.wr 0 rfl rfl,?_⟩
   intro w6
   have h:Sx w0 w6 ((fun c=>c=xb,fun u=>Row u xb (encU r))::(fun c=>c=pb,fun u=>Row u pb (encX ⟨ofL (opB o),n,dd,nm,⟨ap,al,ac⟩⟩))::JL 2 encU sb l (lrec fn tmps z0v_ps0 z0v_as0 z0v_bd0 d .busy none) (fixL lb nb t6 t7 d leafV nodeV c6 c7) s0 (b++[p,q])):=h.set (i:=1) (v:=Value.bool r.2) 0 rfl
   have f6:Fr (fun c=>c=xb) w5 w6:=f6.trans (Fr.set (F:=fun c=>c=xb) rfl) fun _ h _=>h
   clear_value w6
   have F:Fr (fun b=>b=sb\/b=l\/inB s0 b) w w6:=(F.tF f5).trans f6 fun b (hb:b=xb) hlt=>absurd hlt oo
   have how:Ow 2 encU w6 s0 (b++[p,q]):=h.get 3 rfl
   refine⟨s0,h.ld 2 rfl rfl,q01,⟨oo,oo,?_⟩,h.wr 2 rfl rfl,?_⟩
   ·have:=how.vw.cap
    omega
   intro w7
   have h:Sx w0 w7 _:=h.set (i:=0) (v:=Value.slice (subP s0.p 0 s0.c 2) (((s0.l:Int)-(2:Int)).toNat-0) (s0.c-0)) 2 rfl
   have F:Fr (fun b=>b=sb\/b=l\/inB s0 b) w w7:=F.trans (Fr.set (F:=fun b=>b=sb) rfl) fun b hb _=>.inl hb
   have how7:Ow 2 encU w7 s0 (b++[p,q]):=h.get 3 rfl
   have hcut:=how7.cut (k:=((s0.l:Int)-(2:Int)).toNat) (fun _=>rfl) oo
   have h:=h.upd (q:=(inB ⟨subP s0.p 0 s0.c 2,((s0.l:Int)-(2:Int)).toNat-0,s0.c-0⟩,fun u=>Ow 2 encU u ⟨subP s0.p 0 s0.c 2,((s0.l:Int)-(2:Int)).toNat-0,s0.c-0⟩ b)) 3 rfl Fr.refl (q0b.ow _ _) hcut fun b hb=>.inl (q9b hb)
   exact fin w7 ⟨subP s0.p 0 s0.c 2,((s0.l:Int)-(2:Int)).toNat-0,s0.c-0⟩ b r _ oo rfl h F fun b hb=>.inl (q9b hb)
end
def encJ(p:Rat×Rat):List Value:=[.int .i64 p.1.num,.int .i64 (p.1.den:Int),.int .i64 p.2.num,.int .i64 (p.2.den:Int)]
section
variable{w0 w w' u:World}{sb l fn d:Nat}{tmps:Array Value}{a:List (Rat×Rat)}{P:Nat->Prop}{K':VW}
theorem quf(a:Rat×Rat):∀v∈encJ a,okC v=true:=by
 intro v hv
 simp only[encJ,Jc,J7,or_false]at hv
 rcases hv with rfl|rfl|rfl|rfl<;>rfl
theorem stepI{c:XC}{e:Fm}{a':List (Rat×Rat)}{lf:Fm->Rat×Rat->Prop}{comb:Fin 6->Rat×Rat->Rat×Rat->Rat×Rat->Prop}{leafV nodeV t15:Value}{lb nb t6 t7:Nat}{c6 c7:List Value}
  (hleaf:∀e c p (u:World) (K:VW),XP w0 e c->e.kids=[]->lf e p->Fr F0 w0 u->(∀u',Fr F0 u u'->K (.tuple #[.agg (encJ p).toArray,.int .i64 0]) u')->q0y Tryz.prog leafV [xcA c] u K)
  (hnode:∀o p q r (u:World) (K:VW),comb o p q r->Fr F0 w0 u->(∀u',Fr F0 u u'->K (.tuple #[.agg (encJ r).toArray,.int .i64 0]) u')->q0y Tryz.prog nodeV [.string (ofL (opB o)),.agg (encJ p).toArray,.agg (encJ q).toArray] u K)
  (hx:XP w0 e c) (hJ:FJ 4 encJ w0 sb l (lrec fn tmps z6u_ps0 z6u_as0 z6u_bd0 d .ready none) (fixL lb nb t6 t7 d leafV nodeV c6 c7) w a P) (hst:qgt lf comb a e a')
  (hag:agrT 61 [(4,(Value.pointer (some ⟨lb,0,none⟩))),(5,(Value.pointer (some ⟨nb,0,none⟩))),(6,(Value.pointer (some ⟨t6,0,none⟩))),(7,(Value.pointer (some ⟨t7,0,none⟩))),(8,(Value.pointer (some ⟨sb,0,none⟩))),(15,t15)] tmps)
  (hK:∀w' P',FJ 4 encJ w0 sb l (lrec fn tmps z6u_ps0 z6u_as0 z6u_bd0 d .ready none) (fixL lb nb t6 t7 d leafV nodeV c6 c7) w' a' P'->Fr P w w'->(∀b,P' b->P b\/w.heap.size<=b)->K' (.bool true) w') :
  Yl Tryz.prog l #[xcA c] w K':=by
 obtain⟨s0,h,rfl⟩:=hJ
 obtain⟨ha,hst⟩:=hst
 have h0:=h.fr0
 have kids:=hx.kids
 obtain⟨op,n,dd,nm,ap,al,ac⟩:=c
 refine z6u_y0 hag (h.get 2 rfl) ⟨fi ?_⟩
 refine h.box (vs:=encX ⟨op,n,dd,nm,⟨ap,al,ac⟩⟩) rfl fun w1 f1 h=>?_
 generalize w.heap.size=pb at h ⊢
 refine⟨h.get 3 rfl,?_⟩
 have h:Sx w0 _ (_::JL 4 encJ sb l (lrec fn tmps z6u_ps0 z6u_as0 z6u_bd0 d .busy none) (fixL lb nb t6 t7 d leafV nodeV c6 c7) s0 a):=h.obj (o':=lrec fn tmps z6u_ps0 z6u_as0 z6u_bd0 d .busy none) 3 rfl
 have F:Fr (fun b=>b=sb\/b=l\/inB s0 b) w (w1.putObj l (lrec fn tmps z6u_ps0 z6u_as0 z6u_bd0 d .busy none)):=f1.f0.trans (Fr.put (F:=fun b=>b=l) rfl) fun b hb _=>.inr (.inl hb)
 generalize w1.putObj l (lrec fn tmps z6u_ps0 z6u_as0 z6u_bd0 d .busy none)=w2 at *
 have hF2:=F
 dsimp -zeta only
 intro w3
 have h:Sx w0 w3 (_::_::JL 4 encJ sb l (lrec fn tmps z6u_ps0 z6u_as0 z6u_bd0 d .busy none) (fixL lb nb t6 t7 d leafV nodeV c6 c7) s0 a):=h.row (cs:=[Value.int .i64 (0:Int),Value.int .i64 (0:Int),Value.int .i64 (0:Int),Value.int .i64 (0:Int)])
 have F:Fr (fun b=>b=sb\/b=l\/inB s0 b) w w3:=F.tF Fr.alloc
 clear_value w3
 have hxb:w.heap.size<=w2.heap.size:=hF2.1
 generalize w2.heap.size=xb at h hxb ⊢
 refine⟨s0,h.ld 2 rfl rfl,⟨ap,al,ac⟩,h.ld 1 rfl rfl,?_⟩
 have fin:∀(u:World) (s:Sl) (b:List (Rat×Rat)) (p:Rat×Rat) Kk,b.length<=2^20->a'=b++[p]->Sx w0 u ((fun c=>c=xb,fun u=>Row u xb (encJ p))::(fun c=>c=pb,fun u=>Row u pb (encX ⟨op,n,dd,nm,⟨ap,al,ac⟩⟩))::JL 4 encJ sb l (lrec fn tmps z6u_ps0 z6u_as0 z6u_bd0 d .busy none) (fixL lb nb t6 t7 d leafV nodeV c6 c7) s b) ->
   Fr (fun b=>b=sb\/b=l\/inB s0 b) w u->(∀b,inB s b->inB s0 b\/w.heap.size<=b)->z6u_k1 ⟨t6,0,none⟩ ⟨t7,0,none⟩ ⟨sb,0,none⟩ ⟨xb,0,none⟩ 0 (rN l fn tmps z6u_ps0 z6u_as0 z6u_bd0 d K') (rR l fn tmps z6u_ps0 z6u_as0 z6u_bd0 d K') Kk u:=fun u s b p Kk hb e h F hi=>by
  refine⟨fi ?_⟩
  refine q0h ⟨s,h.ld 2 rfl rfl,?_⟩
  simp -zeta only[q04]
  refine⟨_,h.ld 0 rfl rfl,_,h.ld 0 rfl rfl,_,h.ld 0 rfl rfl,_,h.ld 0 rfl rfl,?_⟩
  intro w4
  refine qe7 (enc:=encJ) (p:=p) (bytes:=32) (fun _=>rfl) quf rfl od hb h F hi fun w5 P5 hJ5 F5 hP5=>?_
  rw[←e]at hJ5
  exact hK w5 P5 hJ5 F5 hP5
 obtain⟨xs,hxv,hxl,hxk⟩:=kids
 have hal:al=e.kids.length:=by rw[←hxl];exact hxv.len
 refine q0i.2 ⟨fun hk=>?_,fun hk=>?_⟩
 ·have hk:(al:Int)=0:=hk
  have hk0:e.kids=[]:=J2 oo
  have hlf:∃p,lf e p/\a'=a++[p]:=by
   cases e with
   | op o x y=>cases hk0
   | num n d=>exact hst
   | name s=>exact hst
  obtain⟨p,hp,rfl⟩:=hlf
  refine⟨leafV,h.ld 5 rfl rfl,_,h.ld 1 rfl rfl,_,h.ld 1 rfl rfl,_,h.ld 1 rfl rfl,_,h.ld 1 rfl rfl,⟨ap,al,ac⟩,h.ld 1 rfl rfl,?_⟩
  refine hleaf e ⟨op,n,dd,nm,⟨ap,al,ac⟩⟩ p w3 _ hx hk0 hp h.fr0 fun w4 f4=>⟨_,_,_,_,_,rfl,?_⟩
  have h:=h.fr f4
  exact h.st (vs:=encJ p) 0 rfl rfl fun w5 f5 h=>fin w5 s0 a p _ ha rfl h ((F.tF f4).trans f5 fun b (hb:b=xb) hlt=>absurd hlt oo) fun b hb=>.inl hb
 ·cases e with
  | num n d=>exact absurd (by rw[hal];rfl) hk
  | name s=>exact absurd (by rw[hal];rfl) hk
  | op o x y =>
   obtain⟨b,p,q,r,rfl,hc,rfl⟩:=hst
   obtain⟨ca,cb,⟨hop,_⟩,_⟩:=hx
   have hop:op=ofL (opB o):=hop
   subst hop
   rw[J1]at ha
   have ha:b.length+2<=2^20:=ha
   have hl2:(b++[p,q]).length=b.length+2:=oz
   have how:Ow 4 encJ w3 s0 (b++[p,q]):=h.get 3 rfl
   have hsl:s0.l=b.length+2:=by rw[how.len,J1];rfl
   intro w4
   have h:Sx w0 w4 _:=h.fr Fr.drew
   have F:Fr (fun b=>b=sb\/b=l\/inB s0 b) w w4:=F.tF Fr.drew
   clear_value w4
   obtain⟨S,hSi,hSe⟩:∃S:World->Prop,(∀u,(Row u nb [nodeV]/\Row u pb (encX ⟨ofL (opB o),n,dd,nm,⟨ap,al,ac⟩⟩)/\Row u sb [.slice s0.p s0.l s0.c]/\Ow 4 encJ u s0 (b++[p,q]))->S u)/\∀u,S u->Row u nb [nodeV]/\Row u pb (encX ⟨ofL (opB o),n,dd,nm,⟨ap,al,ac⟩⟩)/\Row u sb [.slice s0.p s0.l s0.c]/\Ow 4 encJ u s0 (b++[p,q]):=⟨fun u=>Row u nb [nodeV]/\Row u pb (encX ⟨ofL (opB o),n,dd,nm,⟨ap,al,ac⟩⟩)/\Row u sb [.slice s0.p s0.l s0.c]/\Ow 4 encJ u s0 (b++[p,q]),fun _ h=>h,fun _ h=>h⟩
   have hS:=hSi w4 ⟨h.get 6 rfl,h.get 1 rfl,h.get 2 rfl,h.get 3 rfl⟩
   refine⟨S,hS,nodeV,fun u hu=>(hSe u hu).1.at,_,fun u hu=>(hSe u hu).2.1.at,s0,fun u hu=>(hSe u hu).2.2.1.at,q01,?_⟩
   refine Vw.goS (enc:=encJ) (fun _=>rfl) od hS (fun v hv=>(hSe v hv).2.2.2.vw) b.length oo oo fun ad hc0=>?_
   have e0:(b++[p,q])[b.length]'oo=p:=og
   rw[e0]at hc0
   refine⟨_,hc0 0 _ rfl,_,hc0 1 _ rfl,_,hc0 2 _ rfl,_,hc0 3 _ rfl,?_⟩
   refine⟨s0,fun u hu=>(hSe u hu).2.2.1.at,q01,?_⟩
   refine Vw.goS (enc:=encJ) (fun _=>rfl) od hS (fun v hv=>(hSe v hv).2.2.2.vw) (b.length+1) oo oo fun ad hc1=>?_
   have e1:(b++[p,q])[b.length+1]'oo=q:=og
   rw[e1]at hc1
   refine⟨_,hc1 0 _ rfl,_,hc1 1 _ rfl,_,hc1 2 _ rfl,_,hc1 3 _ rfl,?_⟩
   refine hnode o p q r w4 _ hc h.fr0 fun w5 f5=>⟨_,_,_,_,_,rfl,?_⟩
   have h:=h.fr f5
   refine⟨hSi w5 ⟨h.get 6 rfl,h.get 1 rfl,h.get 2 rfl,h.get 3 rfl⟩,?_⟩
   refine h.st (vs:=encJ r) 0 rfl rfl fun w6 f6 h=>?_
   have F:Fr (fun b=>b=sb\/b=l\/inB s0 b) w w6:=(F.tF f5).trans f6 fun b (hb:b=xb) hlt=>absurd hlt oo
   have how:Ow 4 encJ w6 s0 (b++[p,q]):=h.get 3 rfl
   refine⟨s0,h.ld 2 rfl rfl,q01,⟨oo,oo,?_⟩,h.wr 2 rfl rfl,?_⟩
   ·have:=how.vw.cap
    omega
   intro w7
   have h:Sx w0 w7 _:=h.set (i:=0) (v:=Value.slice (subP s0.p 0 s0.c 4) (((s0.l:Int)-(2:Int)).toNat-0) (s0.c-0)) 2 rfl
   have F:Fr (fun b=>b=sb\/b=l\/inB s0 b) w w7:=F.trans (Fr.set (F:=fun b=>b=sb) rfl) fun b hb _=>.inl hb
   have how7:Ow 4 encJ w7 s0 (b++[p,q]):=h.get 3 rfl
   have hcut:=how7.cut (k:=((s0.l:Int)-(2:Int)).toNat) (fun _=>rfl) oo
   have h:=h.upd (q:=(inB ⟨subP s0.p 0 s0.c 4,((s0.l:Int)-(2:Int)).toNat-0,s0.c-0⟩,fun u=>Ow 4 encJ u ⟨subP s0.p 0 s0.c 4,((s0.l:Int)-(2:Int)).toNat-0,s0.c-0⟩ b)) 3 rfl Fr.refl (q0b.ow _ _) hcut fun b hb=>.inl (q9b hb)
   exact fin w7 ⟨subP s0.p 0 s0.c 4,((s0.l:Int)-(2:Int)).toNat-0,s0.c-0⟩ b r _ oo rfl h F fun b hb=>.inl (q9b hb)
end
end Go.Proofs.YtmfkimnmklnppaaGreatDoor
namespace Pw
open Go
section
variable{w0 w w':World}{L M:List Pt}{p q:Pt}
theorem Sx.pick(h:Sx w0 w L)(idx:List Nat)(hn:idx.Nodup)(hM:idx.map (fun i=>L[i]?)=M.map some):Sx w0 w M:=by
 have hl:idx.length=M.length:=by simpa using congrArg List.length hM
 have key:∀i p,M[i]?=some p->∃hi:i<idx.length,L[idx[i]]?=some p:=fun i p hi=>by
  have hlt:i<M.length:=(List.getElem?_eq_some_iff.1 hi).1
  have h2:=congrArg (fun l=>l[i]?) hM
  grind
 refine⟨h.fr0,fun i p hi=>?_,fun i p hi=>?_,fun i p hi=>?_,fun i j p q hne hi hj=>?_⟩
 ·obtain⟨_,hi⟩:=key i p hi;exact h.rs _ p hi
 ·obtain⟨_,hi⟩:=key i p hi;exact h.hd _ p hi
 ·obtain⟨_,hi⟩:=key i p hi;exact h.nw _ p hi
 ·obtain⟨l1,hi⟩:=key i p hi
  obtain⟨l2,hj⟩:=key j q hj
  exact h.dj _ _ p q (fun e=>(Nat.lt_or_gt_of_ne hne).elim (fun h'=>J4.1 hn i j l1 l2 h' e) fun h'=>J4.1 hn j i l2 l1 h' e.symm) hi hj
theorem Sx.both(h:Sx w0 w L)(k:Sx w w' M):Sx w0 w' (M++L):=by
 have h':=h.fr k.fr0
 have z:=h.fr0.1
 have key:∀i p,(M++L)[i]?=some p->M[i]?=some p\/(M.length<=i/\L[i-M.length]?=some p):=fun i p hi=>oz
 refine⟨h'.fr0,fun i p hi=>?_,fun i p hi=>?_,fun i p hi b hb=>?_,fun i j p q hne hi hj b hb hb'=>?_⟩
 ·rcases key i p hi with hi|⟨_,hi⟩
  ·exact k.rs _ p hi
  ·exact h.rs _ p hi
 ·rcases key i p hi with hi|⟨_,hi⟩
  ·exact k.hd _ p hi
  ·exact h'.hd _ p hi
 ·rcases key i p hi with hi|⟨_,hi⟩
  ·have:=k.nw _ p hi b hb
   omega
  ·exact h'.nw _ p hi b hb
 ·rcases key i p hi with hi'|⟨li,hi'⟩
  ·rcases key j q hj with hj'|⟨lj,hj'⟩
   ·exact k.dj _ _ p q hne hi' hj' b hb hb'
   ·have:=(k.nw _ p hi' b hb).1
    have:=(h.nw _ q hj' b hb').2
    omega
  ·rcases key j q hj with hj'|⟨lj,hj'⟩
   ·have:=(k.nw _ q hj' b hb').1
    have:=(h.nw _ p hi' b hb).2
    omega
   ·exact h.dj _ _ p q oo hi' hj' b hb hb'
end
end Pw
namespace Go.Proofs.YtmfkimnmklnppaaGreatDoor
open Go Pw Dp
theorem qis{T:Type}{lf:Fm->T->Prop}{comb:Fin 6->T->T->T->Prop}{V:Fm->T->Prop}(h1:∀n d p,V (.num n d) p->lf (.num n d) p)(h2:∀s p,V (.name s) p->lf (.name s) p)
  (h3:∀o x y r,V (.op o x y) r->∃p q,V x p/\V y q/\comb o p q r):∀(e:Fm) (p:T) (a:List T),V e p->a.length+e.parts<=2^20->Run (qgt lf comb) a e.post (a++[p]):=by
 intro e
 induction e with
 | num n d=>exact fun p a h hl=>.cons ⟨by simp only[Fm.parts]at hl;omega,p,h1 n d p h,rfl⟩ .nil
 | name s=>exact fun p a h hl=>.cons ⟨by simp only[Fm.parts]at hl;omega,p,h2 s p h,rfl⟩ .nil
 | op o x y ihx ihy =>
  intro r a h hl
  simp only[Fm.parts]at hl
  obtain⟨p,q,hp,hq,hc⟩:=h3 o x y r h
  have e2:2<=x.parts+y.parts:=by
   have hx:1<=x.parts:=by cases x<;>simp[Fm.parts]<;>omega
   have hy:1<=y.parts:=by cases y<;>simp[Fm.parts]<;>omega
   omega
  refine Run.join (Run.join (ihx p a hp oo) (ihy q (a++[p]) hq ?_)) (.cons ⟨?_,a,p,q,r,og,hc,rfl⟩ .nil)
  ·grind
  ·grind
theorem qk8{w:World}{e:Fm}{c:XC}{p:Int×Bool}{lf:Fm->Int×Bool->Prop}{comb:Fin 6->Int×Bool->Int×Bool->Int×Bool->Prop}{leafV nodeV:Value}{K:Int->Bool->Int->World->Prop}
  (hlc:Value.cells leafV=#[leafV]) (hnc:Value.cells nodeV=#[nodeV])
  (hleaf:∀e c p (u:World) (K:VW),XP w e c->e.kids=[]->lf e p->Fr F0 w u->(∀u',Fr F0 u u'->K (.tuple #[.agg (encU p).toArray,.int .i64 0]) u')->q0y Tryz.prog leafV [xcA c] u K)
  (hnode:∀o p q r (u:World) (K:VW),comb o p q r->Fr F0 w u->(∀u',Fr F0 u u'->K (.tuple #[.agg (encU r).toArray,.int .i64 0]) u')->q0y Tryz.prog nodeV [.string (ofL (opB o)),.agg (encU p).toArray,.agg (encU q).toArray] u K)
  (hx:XP w e c) (hr:Run (qgt lf comb) [] e.post [p]) (hK:∀w',Fr F0 w w'->K p.1 p.2 0 w'):z0v_sh c.op c.n c.d c.nm c.a leafV nodeV K w:=by
 refine⟨fi ?_⟩
 rw[hlc,hnc]
 intro w1
 have h:Sx w w1 _:=(Sx.nil Fr.refl).row (cs:=encX c)
 clear_value w1
 generalize w.heap.size=eb at h ⊢
 intro w2
 have h:Sx w w2 _:=h.row (cs:=[leafV])
 clear_value w2
 generalize w1.heap.size=lb at h ⊢
 intro w3
 have h:Sx w w3 _:=h.row (cs:=[nodeV])
 clear_value w3
 generalize w2.heap.size=nb at h ⊢
 intro w4
 have h:Sx w w4 _:=h.row (cs:=[Value.int .i64 (0:Int),Value.bool false])
 clear_value w4
 generalize w3.heap.size=t6 at h ⊢
 intro w5
 have h:Sx w w5 _:=h.row (cs:=[Value.int .i64 (0:Int)])
 clear_value w5
 generalize w4.heap.size=t7 at h ⊢
 intro w6
 have h:Sx w w6 _:=h.row (cs:=[Value.slice none 0 0])
 clear_value w6
 generalize w5.heap.size=sb at h ⊢
 refine⟨_,h.ld 5 rfl rfl,_,h.ld 5 rfl rfl,_,h.ld 5 rfl rfl,_,h.ld 5 rfl rfl,c.a,h.ld 5 rfl rfl,⟨fi ?_⟩⟩
 intro w7
 have h:Sx w w7 _:=h.row (cs:=encX c)
 clear_value w7
 generalize w6.heap.size=pb at h ⊢
 have hb:Row w7 pb (encX c):=h.get 0 rfl
 refine⟨fi ?_⟩
 refine qir (α:=List (Int×Bool)) (w0:=w) hx hb fun fn tmps w8 hag hsx=>?_
 have h:=h.both hsx
 generalize w7.heap.size=d at h hag hsx ⊢
 have h:=h.add (q:=(inB ⟨none,0,0⟩,fun u=>Ow 2 encU u ⟨none,0,0⟩ [])) Fr.refl (q0b.ow _ _) ⟨rfl,OwnV.nil⟩ fun b ⟨a,ha,_⟩=>by cases ha
 have h:Sx w w8 (JL 2 encU sb (d+1) (lrec fn tmps z0v_ps0 z0v_as0 z0v_bd0 d .ready none) (fixL lb nb t6 t7 d leafV nodeV [Value.int .i64 (0:Int),Value.bool false] [Value.int .i64 (0:Int)]) ⟨none,0,0⟩ []):=h.pick [4,0,1,8,7,6,5,2] od rfl
 refine⟨FJ 2 encU w sb (d+1) (lrec fn tmps z0v_ps0 z0v_as0 z0v_bd0 d .ready none) (fixL lb nb t6 t7 d leafV nodeV [Value.int .i64 (0:Int),Value.bool false] [Value.int .i64 (0:Int)]),qgt lf comb,[],[p],_,⟨?_,?_,?_,?_⟩,⟨_,h,rfl⟩,hr,?_⟩
 ·rintro u u' a P ⟨s,hs,hp⟩ hf
  exact⟨s,hs.fr hf,hp⟩
 ·rintro u a P ⟨s,hs,hp⟩
  exact hs.fr0
 ·rintro u a P b ⟨s,hs,rfl⟩ hb
  rcases hb with hb|hb|hb
  ·exact hs.nw 0 _ rfl b hb
  ·exact hs.nw 2 _ rfl b hb
  ·exact hs.nw 1 _ rfl b hb
 ·intro u a a' P e c K' hx hJ hs hK
  exact stepU hleaf hnode hx hJ hs hag hK
 ·rintro u P ⟨s,h,_⟩ _ _
  refine⟨h.get 2 rfl,?_⟩
  have h:=h.obj (o':=lrec fn tmps z0v_ps0 z0v_as0 z0v_bd0 d .exhausted none) 2 rfl
  generalize u.putObj (d+1) (lrec fn tmps z0v_ps0 z0v_as0 z0v_bd0 d .exhausted none)=w3 at h ⊢
  have how:Ow 2 encU w3 s [p]:=h.get 1 rfl
  refine⟨s,h.ld 0 rfl rfl,?_⟩
  refine Vw.go (enc:=encU) (fun _=>rfl) od how.vw 0 rfl Jl fun ad hc=>?_
  refine⟨_,hc 0 _ rfl,_,hc 1 _ rfl,?_⟩
  simp -zeta only[q04]
  refine⟨h.wr 5 rfl rfl,?_⟩
  intro w4
  have h:Sx w w4 _:=h.set (i:=0) (v:=Value.int .i64 p.1) 5 rfl
  refine⟨h.wr 5 rfl rfl,?_⟩
  intro w5
  have h:Sx w w5 (JL 2 encU sb (d+1) _ [_,_,(fun c=>c=t6,fun u=>Row u t6 (encU p)),(fun c=>c=t7,fun u=>Row u t7 _),(fun c=>c=d,fun u=>u.heap[d]?=some (.deferred (some [])))] s [p]):=h.set (i:=1) (v:=Value.bool p.2) 5 rfl
  clear_value w5
  refine⟨h.wr 6 rfl rfl,?_⟩
  intro w6
  have h:Sx w w6 _:=h.set (i:=0) (v:=Value.int .i64 0) 6 rfl
  refine⟨h.get 7 rfl,?_⟩
  have h:=h.obj (o':=.deferred none) 7 rfl
  clear_value w6
  intro w7
  have h:Sx w w7 _:=h
  clear_value w7
  exact⟨_,h.ld 5 rfl rfl,_,h.ld 5 rfl rfl,_,h.ld 6 rfl rfl,hK _ h.fr0⟩
theorem qk9{w:World}{e:Fm}{c:XC}{p:Rat×Rat}{lf:Fm->Rat×Rat->Prop}{comb:Fin 6->Rat×Rat->Rat×Rat->Rat×Rat->Prop}{leafV nodeV:Value}{K:Int->Int->Int->Int->Int->World->Prop}
  (hlc:Value.cells leafV=#[leafV]) (hnc:Value.cells nodeV=#[nodeV])
  (hleaf:∀e c p (u:World) (K:VW),XP w e c->e.kids=[]->lf e p->Fr F0 w u->(∀u',Fr F0 u u'->K (.tuple #[.agg (encJ p).toArray,.int .i64 0]) u')->q0y Tryz.prog leafV [xcA c] u K)
  (hnode:∀o p q r (u:World) (K:VW),comb o p q r->Fr F0 w u->(∀u',Fr F0 u u'->K (.tuple #[.agg (encJ r).toArray,.int .i64 0]) u')->q0y Tryz.prog nodeV [.string (ofL (opB o)),.agg (encJ p).toArray,.agg (encJ q).toArray] u K)
  (hx:XP w e c) (hr:Run (qgt lf comb) [] e.post [p]) (hK:∀w',Fr F0 w w'->K p.1.num (p.1.den:Int) p.2.num (p.2.den:Int) 0 w'):z6u_sh c.op c.n c.d c.nm c.a leafV nodeV K w:=by
 refine⟨fi ?_⟩
 rw[hlc,hnc]
 intro w1
 have h:Sx w w1 _:=(Sx.nil Fr.refl).row (cs:=encX c)
 clear_value w1
 generalize w.heap.size=eb at h ⊢
 intro w2
 have h:Sx w w2 _:=h.row (cs:=[leafV])
 clear_value w2
 generalize w1.heap.size=lb at h ⊢
 intro w3
 have h:Sx w w3 _:=h.row (cs:=[nodeV])
 clear_value w3
 generalize w2.heap.size=nb at h ⊢
 intro w4
 have h:Sx w w4 _:=h.row (cs:=[Value.int .i64 (0:Int),Value.int .i64 (0:Int),Value.int .i64 (0:Int),Value.int .i64 (0:Int)])
 clear_value w4
 generalize w3.heap.size=t6 at h ⊢
 intro w5
 have h:Sx w w5 _:=h.row (cs:=[Value.int .i64 (0:Int)])
 clear_value w5
 generalize w4.heap.size=t7 at h ⊢
 intro w6
 have h:Sx w w6 _:=h.row (cs:=[Value.slice none 0 0])
 clear_value w6
 generalize w5.heap.size=sb at h ⊢
 refine⟨_,h.ld 5 rfl rfl,_,h.ld 5 rfl rfl,_,h.ld 5 rfl rfl,_,h.ld 5 rfl rfl,c.a,h.ld 5 rfl rfl,⟨fi ?_⟩⟩
 intro w7
 have h:Sx w w7 _:=h.row (cs:=encX c)
 clear_value w7
 generalize w6.heap.size=pb at h ⊢
 have hb:Row w7 pb (encX c):=h.get 0 rfl
 refine⟨fi ?_⟩
 refine qir (α:=List (Rat×Rat)) (w0:=w) hx hb fun fn tmps w8 hag hsx=>?_
 have h:=h.both hsx
 generalize w7.heap.size=d at h hag hsx ⊢
 have h:=h.add (q:=(inB ⟨none,0,0⟩,fun u=>Ow 4 encJ u ⟨none,0,0⟩ [])) Fr.refl (q0b.ow _ _) ⟨rfl,OwnV.nil⟩ fun b ⟨a,ha,_⟩=>by cases ha
 have h:Sx w w8 (JL 4 encJ sb (d+1) (lrec fn tmps z6u_ps0 z6u_as0 z6u_bd0 d .ready none) (fixL lb nb t6 t7 d leafV nodeV [Value.int .i64 (0:Int),Value.int .i64 (0:Int),Value.int .i64 (0:Int),Value.int .i64 (0:Int)] [Value.int .i64 (0:Int)]) ⟨none,0,0⟩ []):=h.pick [4,0,1,8,7,6,5,2] od rfl
 refine⟨FJ 4 encJ w sb (d+1) (lrec fn tmps z6u_ps0 z6u_as0 z6u_bd0 d .ready none) (fixL lb nb t6 t7 d leafV nodeV [Value.int .i64 (0:Int),Value.int .i64 (0:Int),Value.int .i64 (0:Int),Value.int .i64 (0:Int)] [Value.int .i64 (0:Int)]),qgt lf comb,[],[p],_,⟨?_,?_,?_,?_⟩,⟨_,h,rfl⟩,hr,?_⟩
 ·rintro u u' a P ⟨s,hs,hp⟩ hf
  exact⟨s,hs.fr hf,hp⟩
 ·rintro u a P ⟨s,hs,hp⟩
  exact hs.fr0
 ·rintro u a P b ⟨s,hs,rfl⟩ hb
  rcases hb with hb|hb|hb
  ·exact hs.nw 0 _ rfl b hb
  ·exact hs.nw 2 _ rfl b hb
  ·exact hs.nw 1 _ rfl b hb
 ·intro u a a' P e c K' hx hJ hs hK
  exact stepI hleaf hnode hx hJ hs hag hK
 ·rintro u P ⟨s,h,_⟩ _ _
  refine⟨h.get 2 rfl,?_⟩
  have h:=h.obj (o':=lrec fn tmps z6u_ps0 z6u_as0 z6u_bd0 d .exhausted none) 2 rfl
  generalize u.putObj (d+1) (lrec fn tmps z6u_ps0 z6u_as0 z6u_bd0 d .exhausted none)=w3 at h ⊢
  have how:Ow 4 encJ w3 s [p]:=h.get 1 rfl
  refine⟨s,h.ld 0 rfl rfl,?_⟩
  refine Vw.go (enc:=encJ) (fun _=>rfl) od how.vw 0 rfl Jl fun ad hc=>?_
  refine⟨_,hc 0 _ rfl,_,hc 1 _ rfl,_,hc 2 _ rfl,_,hc 3 _ rfl,?_⟩
  simp -zeta only[q04]
  refine h.st (vs:=encJ p) 5 rfl rfl fun w5 f5 h=>?_
  refine⟨h.wr 6 rfl rfl,?_⟩
  intro w6
  have h:Sx w w6 _:=h.set (i:=0) (v:=Value.int .i64 0) 6 rfl
  refine⟨h.get 7 rfl,?_⟩
  have h:=h.obj (o':=.deferred none) 7 rfl
  clear_value w6
  intro w7
  have h:Sx w w7 _:=h
  clear_value w7
  exact⟨_,h.ld 5 rfl rfl,_,h.ld 5 rfl rfl,_,h.ld 5 rfl rfl,_,h.ld 5 rfl rfl,_,h.ld 6 rfl rfl,hK _ h.fr0⟩
