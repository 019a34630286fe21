/- The reference's digits: trimming, comparing, sums, differences. Conditions: none. -/
import Derived.Test.YtfpobpjandjhjaaGreatDoorPwT
import Derived.Test.YtfpobpjandjhjaaGreatDoorRQ0
open List renaming set_cons_zero->J0,mem_cons_self->J1,set_cons_succ->J2,getD_eq_getElem?_getD->J3,getElem?_eq_none->J4,getElem?_eq_getElem->J5,drop_length->J6,drop_zero->J7
open Int renaming lt_or_le->J8,ediv_neg_of_neg_of_pos->J9,tdiv->Ja,natAbs_tdiv->Jb,mul_pos->Jc,tmod->Jd
open Nat renaming le_trans->Je,mul_add->Jf,lt_or_ge->Jg,le_refl->Jh,eq_zero_or_pos->Ji,mul_assoc->Jj,lt_of_lt_of_le->Jk,pow_le_pow_right->Jl,mul_le_mul_right->Jm,gcd->Jn,div_le_self->Jo,mul_le_mul->Jp,gcd_pos_of_pos_right->Jq,mod_add_div->Jr,pow_succ->Js,gcd_comm->Jt,mul_le_mul_left->Ju,mod_lt->Jv,gcd_zero_right->Jw,mul_zero->Jx,add_zero->Jy,div_eq_of_lt->Jz,mul_add_div->JA,div_add_mod->JB,pow_pos->JC,add_assoc->JD,le_total->JE,lt_trans->JF,mul_comm->JG,add_mul->JH,gcd_rec->JI,mul_pos->JJ
open Bool renaming not_false->JK,not_true->JL,true_and->JM,false_and->JN
namespace Go.Proofs.YtfpobpjandjhjaaGreatDoor
open Go Pw
abbrev di:Nat->List Value:=ie .i64 (fun d:Nat=>(d:Int))
def Nm (k:Nat)(w:World)(s:Sl)(n:Nat):Prop:=∃ l,Vw 1 di w s l/\Dg l/\vl l=n/\l.length<=k
def Nt (k:Nat)(w:World)(s:Sl)(n:Nat):Prop:=∃ l,Vw 1 di w s l/\Dg l/\Tr l/\vl l=n/\l.length<=k
def Btw (lo hi:Nat)(s:Sl):Prop:=∀ c,inB s c->lo<=c/\c<hi
section
variable {w w' w0:World}{s a b:Sl}{k j n m:Nat}
theorem Nm.fr (h:Nm k w s n)(hf:Fr F0 w w'):Nm k w' s n:=let ⟨l,h1,h2⟩:=h; ⟨l,h1.fr hf,h2⟩
theorem Nt.fr (h:Nt k w s n)(hf:Fr F0 w w'):Nt k w' s n:=let ⟨l,h1,h2⟩:=h; ⟨l,h1.fr hf,h2⟩
theorem Nt.nm (h:Nt k w s n):Nm k w s n:=let ⟨l,h1,h2,_,h3,h4⟩:=h; ⟨l,h1,h2,h3,h4⟩
theorem Nm.up (h:Nm k w s n)(hk:k<=j):Nm j w s n:=let ⟨l,h1,h2,h3,h4⟩:=h; ⟨l,h1,h2,h3,Je h4 hk⟩
theorem Nt.short (h:Nt k w s n)(hj:n<65536^j):Nt j w s n:=let ⟨l,h1,h2,h3,h4,_⟩:=h; ⟨l,h1,h2,h3,h4,h3.short (by rw[h4]; exact hj)⟩
theorem Nt.zero (h:Nt k w s n):s.l=0 ↔ n=0:=by
 obtain⟨l,h1,_,h3,h4,_⟩:=h
 rw[h1.len,← h4]
 exact h3.zero.symm
theorem qlm {c i k l z:Nat}(h:inB ⟨subP s.p i z k,l,j⟩ c):inB s c:=by
 obtain⟨ad,h1,h2⟩:=h
 unfold subP at h1
 split at h1
 ·exact⟨ad,h1,h2⟩
 ·cases hs:s.p with
  | none=>simp only at h1; rw[hs] at h1; cases h1
  | some a =>
   simp only at h1
   rw[hs] at h1
   cases h1
   exact⟨a,hs,by rw[← h2,q4k]⟩
theorem q1e {K:Sl->World->Prop}(h:Nm k w s n)(hk:k<=2^40)(hK:∀ s',Nt k w s' n->(∀ c,inB s' c->inB s c)->K s' w):z1z_sh s K w:=by
 refine⟨⟨fun s' w'=>Nm k w s' n/\(∀ c,inB s' c->inB s c)/\w'=w,fun s' _=>s'.l,⟨h,fun _ hc=>hc,rfl⟩,?_⟩⟩
 rintro s1 w1 ⟨⟨l,hv,hd,hn,hl⟩,hin,rfl⟩
 have hlen:=hv.len
 unfold z1z_b0
 refine q00.2 ?_
 constructor
 ·intro hpos
  refine⟨q01,hv.ld 0 (l.length-1) (by omega) (by omega) ?_⟩
  refine q09.2 ?_
  constructor
  ·intro h0
   have h0':l.getD (l.length-1) 0=0:=by simpa using h0
   have hcap:=hv.cap
   refine⟨q01,⟨by omega,by omega,by omega⟩,⟨trivial,⟨l.take ((s1.l:Int)-1).toNat,hv.take (fun _=>rfl) (by omega),hd.take _,?_,by simp; omega⟩,fun c hc=>hin c (qlm hc),rfl⟩,by simp; omega⟩
   have hidx:((s1.l:Int)-1).toNat=l.length-1:=by omega
   have:=q1k l (l.length-1) (by omega)
   rw[hidx]
   rw[q0q _ _ (by omega),h0'] at this
   omega
  ·intro h0
   refine hK _ ⟨l,hv,hd,.inr ?_,hn,hl⟩ hin
   intro h1
   exact h0 (by rw[h1]; rfl)
 ·intro h0
  exact hK _ ⟨l,hv,hd,.inl (by omega),hn,hl⟩ hin
theorem q49 {K:Int->World->Prop}(ha:Nt k w a n)(hb:Nt j w b m)(hk:k<=2^40)(hK:∀ w',Fr F0 w w'->K (cmpI n m) w'):z0w_sh a b K w:=by
 obtain⟨la,va,da,ta,rfl,kla⟩:=ha
 obtain⟨lb,vb,db,tb,rfl,klb⟩:=hb
 have hla:=va.len
 have hlb:=vb.len
 refine⟨q0u.2 ?_⟩
 constructor
 ·intro hne
  refine q00.2 ?_
  constructor
  ·intro hlt
   have:=q4u da tb (by omega)
   rw[← q43 (x:=(vl la:Int)) (y:=(vl lb:Int)) (by omega)]
   exact hK w Fr.refl
  ·intro hlt
   have:=q4u db ta (by omega)
   rw[← q3m (x:=(vl la:Int)) (y:=(vl lb:Int)) (by omega)]
   exact hK w Fr.refl
 ·intro heq
  refine⟨q01,⟨⟨fun i w'=>∃ i':Nat,i=(i':Int)-1/\i'<=la.length/\la.drop i'=lb.drop i'/\Fr F0 w w',fun i _=>(i+1).toNat,⟨la.length,by omega,Jh _,?_,Fr.refl⟩,?_⟩⟩⟩
  ·rw[J6,show la.length=lb.length by omega,J6]
  ·rintro i w1 ⟨i',rfl,hi',hd,hf⟩
   unfold z0w_b0
   refine q00.2 ?_
   constructor
   ·intro hpos
    obtain⟨i,rfl⟩:∃ i,i'=i+1:=⟨i'-1,by omega⟩
    intro w2
    have hf2:Fr F0 w w2:=Fr0.t hf Fr.drew
    clear_value w2
    refine(va.fr hf2).ld 0 i (by omega) (by omega) ((vb.fr hf2).ld 0 i (by omega) (by omega) ?_)
    refine q0u.2 ?_
    constructor
    ·intro hne w3
     have hf3:Fr F0 w w3:=Fr0.t hf2 Fr.drew
     clear_value w3
     refine(va.fr hf3).ld 0 i (by omega) (by omega) ((vb.fr hf3).ld 0 i (by omega) (by omega) ?_)
     refine q00.2 ?_
     constructor
     ·intro hlt
      have:=qfa da (by omega) (by omega) hd (by omega:la.getD i 0<lb.getD i 0)
      rw[← q43 (x:=(vl la:Int)) (y:=(vl lb:Int)) (by omega)]
      exact hK _ hf3
     ·intro hlt
      have:=qfa db (by omega) (by omega) hd.symm (by omega:lb.getD i 0<la.getD i 0)
      rw[← q3m (x:=(vl la:Int)) (y:=(vl lb:Int)) (by omega)]
      exact hK _ hf3
    ·intro heq
     refine⟨q01,⟨⟨rfl,rfl,trivial⟩,i,by omega,by omega,qge (by omega) (by omega) hd (by omega),hf2⟩,by dsimp only; omega⟩
   ·intro h0
    have:i'=0:=by omega
    subst this
    simp only[J7] at hd
    rw[← q5s (x:=(vl la:Int)) (y:=(vl lb:Int)) (by rw[hd])]
    exact hK _ hf
end
open Go Pw
section
variable {w w' w0:World}{s a b:Sl}{k j n m:Nat}
theorem qfb {lo:List Nat}{out:Sl}{i d:Nat}{bo:Int}{N:Sl->Sl->Sl->Int->Int->World->Prop}{K:Sl->World->Prop}(ho:Mk w0 1 di w out lo)(hl:lo.length<=2^40)(hi:i<=2^40)
  (hN:∀ o' w',Mk w0 1 di w' o' (lo++[d])->N a b o' bo ((i:Int)+1) w'):z1k_k2 a b out bo i (d:Int) N K w:=by
 exact⟨ho.push (a:=d) rfl rfl (q1y _ _) rfl (by omega) (by omega) fun r w2 h2 _=>⟨q01,hN r w2 h2⟩⟩
theorem q7c {K:Sl->World->Prop}(ha:Nm k w a n)(hb:Nm j w b m)(hnm:m<=n)(hk:k<=2^40)(hK:∀ s' w',Nt k w' s' (n-m)->Fr F0 w w'->Btw w.heap.size w'.heap.size s'->K s' w'):z1k_sh a b K w:=by
 obtain⟨la,va,da,rfl,kla⟩:=ha
 obtain⟨lb,vb,db,rfl,klb⟩:=hb
 have hla:=va.len
 have hlb:=vb.len
 refine⟨⟨⟨fun out bo i w'=>∃ (lo:List Nat) (b' i':Nat),bo=b'/\i=i'/\b'<=1/\i'<=la.length/\lo.length=i'/\Dg lo/\Mk w 1 di w' out lo/\vl lo+vl (lb.take i')=vl (la.take i')+65536^i'*b',fun _ _ i _=>la.length-i.toNat,
  ⟨[],0,0,rfl,rfl,by omega,by omega,rfl,Dg.nil,Mk.nil Fr.refl,by simp[vl]⟩,?_⟩⟩⟩
 rintro out bo i w1 ⟨lo,b',i',rfl,rfl,hb1,hi,hlo,hdo,ho,hv⟩
 unfold z1k_b0
 refine q00.2 ?_
 constructor
 ·intro hlt
  have hlt:i'<la.length:=by omega
  have hda:=da.getD i'
  have hta:=q1k la i' hlt
  refine(va.fr ho.fr0).ld 0 i' rfl hlt ⟨q01,?_⟩
  have k1:∀ (y:Nat) ,y<65536->(vl (lb.take (i'+1))=vl (lb.take i')+65536^i'*y) ->
    z1k_k1 a b out (i':Int) ((la.getD i' 0:Nat)-(b':Int)-(y:Int)) (fun (a_0':Sl) (b_1':Sl) (out_5':Sl) (borrow_6':Int) (i_7':Int) (w':World)=>((a_0'=a/\b_1'=b/\True)/\∃ (lo:List Nat) (b' i':Nat),borrow_6'=b'/\i_7'=i'/\b'<=1/\i'<=la.length/\lo.length=i'/\Dg lo/\Mk w 1 di w' out_5' lo/\vl lo+vl (lb.take i')=vl (la.take i')+65536^i'*b')/\la.length-i_7'.toNat<la.length-(i':Int).toNat) K w1:=by
   intro y hy hty
   refine⟨q00.2 ?_⟩
   have fin:∀ (e d:Nat),d<65536->e<=1->d+y+b'=la.getD i' 0+65536*e->vl (lo++[d])+vl (lb.take (i'+1))=vl (la.take (i'+1))+65536^(i'+1)*e:=by
    intro e d hd he h
    rw[hty,hta,q3w,hlo]
    simp only[vl,Jx,Jy,Js]
    generalize 65536^i'=P at *
    have h2:P*(d+y+b')=P*(la.getD i' 0+65536*e):=by rw[h]
    rw[Jf,Jf,Jf,← Jj] at h2
    omega
   constructor
   ·intro hneg
    refine⟨q01,?_⟩
    obtain⟨d,hd⟩:∃ d:Nat,(d:Int)=(la.getD i' 0:Nat)-(b':Int)-(y:Int)+65536:=⟨((la.getD i' 0:Nat)-(b':Int)-(y:Int)+65536).toNat,by omega⟩
    rw[← hd]
    refine qfb ho (by omega) (by omega) fun o' w' h'=>⟨⟨⟨rfl,rfl,trivial⟩,lo++[d],1,i'+1,rfl,by omega,by omega,by omega,by simp[hlo],hdo.push (by omega),h',fin 1 d (by omega) (by omega) (by omega)⟩,by omega⟩
   ·intro hneg
    obtain⟨d,hd⟩:∃ d:Nat,(d:Int)=(la.getD i' 0:Nat)-(b':Int)-(y:Int):=⟨((la.getD i' 0:Nat)-(b':Int)-(y:Int)).toNat,by omega⟩
    rw[← hd]
    refine qfb ho (by omega) (by omega) fun o' w' h'=>⟨⟨⟨rfl,rfl,trivial⟩,lo++[d],0,i'+1,rfl,by omega,by omega,by omega,by simp[hlo],hdo.push (by omega),h',fin 0 d (by omega) (by omega) (by omega)⟩,by omega⟩
  refine q00.2 ?_
  constructor
  ·intro hlb'
   have hdb:=db.getD i'
   exact(vb.fr ho.fr0).ld 0 i' rfl (by omega) ⟨q01,k1 _ hdb (q1k lb i' (by omega))⟩
  ·intro hlb'
   have:=k1 0 (by omega) (by rw[q0q _ _ (by omega),q0q _ _ (by omega)]; simp)
   simpa using this
 ·intro hlt
  have hi':i'=la.length:=by omega
  subst hi'
  rw[q0q la _ (Jh _)] at hv
  have h1:=qgd hdo
  rw[hlo] at h1
  have h2:=qgd da
  have hvb:vl (lb.take la.length)<=vl lb:=by
   rcases JE lb.length la.length with h | h
   ·rw[q0q _ _ h]; exact Jh _
   ·rw[q59 lb la.length h]; omega
  have hb0:b'=0:=by
   rcases Ji b' with h | h
   ·exact h
   ·have:b'=1:=by omega
    subst this
    omega
  subst hb0
  have hvb':vl (lb.take la.length)=vl lb:=by
   rcases JE lb.length la.length with h | h
   ·exact q0q _ _ h
   ·have h3:=q59 lb la.length h
    have h4:vl (lb.drop la.length)=0:=by
     rcases Ji (vl (lb.drop la.length)) with h5 | h5
     ·exact h5
     ·have:65536^la.length*1<=65536^la.length*vl (lb.drop la.length):=Ju _ h5
      omega
    rw[h4] at h3
    omega
  rw[hvb'] at hv
  exact q1e (k:=k) (n:=vl la-vl lb) ⟨lo,ho.vw,hdo,by omega,by omega⟩ hk fun s' hs' hin=>hK s' w1 hs' ho.fr0 fun c hc=>⟨ho.nw c (hin c hc),ho.ow.own.lt (hin c hc)⟩
end
open Go Pw
section
variable {w w' w0:World}{s a b:Sl}{k j n m:Nat}
theorem q5k {l:List Nat}{i p v:Nat}(h:p≠i):(l.set i v).getD p 0=l.getD p 0:=by
 simp[J3,List.getElem?_set_ne (Ne.symm h)]
theorem qbq {l:List Nat}{i v:Nat}(h:i<l.length):(l.set i v).getD i 0=v:=by
 simp[J3,List.getElem?_set_self h]
theorem qe2 {o x y c:Nat}(ho:o<65536)(hx:x<65536)(hy:y<65536)(hc:c<65536):o+x*y+c<65536*65536:=by
 have:x*y<=65535*65535:=Jp (by omega) (by omega)
 omega
theorem q9c {K:Sl->World->Prop}(ha:Nm k w a n)(hb:Nm j w b m)(hk:k<=2^39)(hj:j<=2^39)(hK:∀ s' w',Nt (k+j) w' s' (n*m)->Fr F0 w w'->Btw w.heap.size w'.heap.size s'->K s' w'):z1n_sh a b K w:=by
 obtain⟨la,va,da,rfl,kla⟩:=ha
 obtain⟨lb,vb,db,rfl,klb⟩:=hb
 have hla:=va.len
 have hlb:=vb.len
 refine⟨⟨q01,Mk.make (w0:=w) (enc:=di) (z:=0) Fr.refl rfl rfl (by omega) (by omega) (by omega) fun out w1 h1 _=>?_⟩⟩
 refine⟨⟨fun i w'=>∃ (i':Nat) (lo:List Nat),i=i'/\i'<=la.length/\lo.length=la.length+lb.length/\Dg lo/\Mk w 1 di w' out lo/\vl lo=vl (la.take i')*vl lb/\∀ p,i'+lb.length<=p->lo.getD p 0=0,
  fun i _=>la.length-i.toNat,⟨0,_,rfl,by omega,by simp; omega,Dg.replicate _,h1,by simp[qcw,vl],fun p _=>by simp[J3,List.getElem?_replicate]; split<;>rfl⟩,?_⟩⟩
 clear h1
 rintro i w2 ⟨i',lo,rfl,hi,hlo,hdo,ho,hv,hz⟩
 unfold z1n_b0
 refine q00.2 ?_
 constructor
 ·intro hlt
  have hlt:i'<la.length:=by omega
  have hai:=da.getD i'
  refine⟨⟨fun c kk w'=>∃ (c' k':Nat) (lo:List Nat),c=c'/\kk=k'/\c'<65536/\k'<=lb.length/\lo.length=la.length+lb.length/\Dg lo/\Mk w 1 di w' out lo /\
    vl lo+65536^(i'+k')*c'=vl (la.take i')*vl lb+65536^i'*(la.getD i' 0*vl (lb.take k'))/\∀ p,i'+lb.length<=p->lo.getD p 0=0,
   fun _ kk _=>lb.length-kk.toNat,⟨0,0,lo,rfl,rfl,by omega,by omega,hlo,hdo,ho,by simp[vl,hv],hz⟩,?_⟩⟩
  clear ho hdo hlo hv hz lo
  rintro c kk w3 ⟨c',k',lo,rfl,rfl,hc,hk',hlo,hdo,ho,hv,hz⟩
  unfold z1n_b1
  refine q00.2 ?_
  constructor
  ·intro hlt2
   have hlt2:k'<lb.length:=by omega
   have hbk:=db.getD k'
   have hok:=hdo.getD (i'+k')
   intro w4
   have ho:Mk w 1 di w4 out lo:=ho.fr Fr.drew
   refine⟨q01,ho.vw.ld 0 (i'+k') (by omega) (by omega) ((va.fr ho.fr0).ld 0 i' rfl hlt ((vb.fr ho.fr0).ld 0 k' rfl hlt2 ?_))⟩
   have hbd:=qe2 hok hai hbk hc
   rw[mulN,addN,addN]
   generalize hd:lo.getD (i'+k') 0+la.getD i' 0*lb.getD k' 0+c'=d at *
   have hq:d / 65536<65536:=by omega
   have hm:d % 65536<65536:=by omega
   refine⟨q01,q01,q01,q01,by omega,?_⟩
   obtain⟨ad,hp,hbd2,hwr,hset⟩:=ho.st (i:=(i':Int)+k') (i'+k') (by omega) (by omega)
   rw[hp]
   refine⟨hbd2,hwr,?_⟩
   intro w5
   have h5:Mk w 1 di w5 out (lo.set (i'+k') (d % 65536)):=(hset (d % 65536)).1
   refine⟨by omega,?_,q01,⟨⟨rfl,rfl,rfl,rfl,trivial⟩,d / 65536,k'+1,_,rfl,by omega,hq,by omega,by simp[hlo],hdo.set _ hm,h5,?_,?_⟩,by dsimp only; omega⟩
   ·exact q01 (by rw[show(65536:Int)=((65536:Nat):Int) from rfl,q2y]; omega) (by rw[show(65536:Int)=((65536:Nat):Int) from rfl,q2y]; omega)
   ·have e1:=qia lo (i'+k') (d % 65536) (by omega)
    rw[q1k lb k' hlt2,← JD,Js]
    have e2:65536^(i'+k')*d=65536^(i'+k')*(d % 65536)+65536^(i'+k')*65536*(d / 65536):=by
     rw[Jj,← Jf,Jr]
    rw[← hd,Jf,Jf] at e2
    have e3:65536^(i'+k')*(la.getD i' 0*lb.getD k' 0)=65536^i'*(la.getD i' 0*(65536^k'*lb.getD k' 0)):=by
     rw[Nat.pow_add,Jj,Nat.mul_left_comm (65536^k')]
    rw[hd,e3] at e2
    rw[Jf,Jf]
    omega
   ·intro p hp
    rw[q5k (by omega)]
    exact hz p hp
  ·intro hlt2
   have hk2:k'=lb.length:=by omega
   subst hk2
   obtain⟨ad,hp,hbd2,hwr,hset⟩:=ho.st (i:=(i':Int)+(b.l:Int)) (i'+lb.length) (by omega) (by omega)
   rw[hp]
   refine⟨q01,hbd2,hwr,?_⟩
   intro w4
   have h4:Mk w 1 di w4 out (lo.set (i'+lb.length) c'):=(hset c').1
   refine⟨q01,⟨⟨rfl,rfl,rfl,trivial⟩,i'+1,_,rfl,by omega,by simp[hlo],hdo.set _ hc,h4,?_,?_⟩,by dsimp only; omega⟩
   ·have e1:=qia lo (i'+lb.length) c' (by omega)
    rw[hz _ (Jh _),q0q lb _ (Jh _)] at *
    rw[q1k la i' hlt,JH,Jj]
    omega
   ·intro p hp
    rw[q5k (by omega)]
    exact hz p (by omega)
 ·intro hlt
  have:i'=la.length:=by omega
  subst this
  rw[q0q la _ (Jh _)] at hv
  exact q1e (k:=k+j) ⟨lo,ho.vw,hdo,hv,by omega⟩ (by omega) fun s' hs' hin=>hK s' w2 hs' ho.fr0 fun c hc=>⟨ho.nw c (hin c hc),ho.ow.own.lt (hin c hc)⟩
theorem qic {K:Sl->World->Prop}{d:Nat}(ha:Nm k w a n)(hd:d<65536)(hk:k<=2^39)(hK:∀ s' w',Nt (k+1) w' s' (n*d)->Fr F0 w w'->K s' w'):z2t_sh a (d:Int) K w:=by
 refine⟨?_⟩
 intro w1
 have hf:Fr F0 w w1:=Fr.alloc
 refine q9c (j:=1) (m:=d) (ha.fr hf) ⟨[d],Vw.new (enc:=di) rfl rfl,by intro x hx; simp at hx; omega,by simp[vl],by simp⟩ hk (by omega) fun s' w' hs hf' _=>hK s' w' hs (Fr0.t hf hf')
end
open Go Pw
section
variable {w w' w0:World}{s a b:Sl}{k j n m:Nat}
theorem qln {m R lo hi:Nat}(h1:m*lo<=R)(h2:R<m*hi)(h3:hi<=lo+1):lo=R / m/\R-m*lo=R % m:=by
 have hm:0<m:=by
  rcases Ji m with h | h
  ·subst h; omega
  ·exact h
 have h4:m*hi<=m*(lo+1):=Ju _ h3
 rw[Jf] at h4
 have e:R=m*lo+(R-m*lo):=by omega
 have h5:R / m=lo:=by
  rw[e,JA hm,Jz (by omega)]; rfl
 have h6:=JB R m
 rw[h5] at h6
 omega
theorem qlo {q r:Sl}{i low high R:Nat}{lq:List Nat}{N:Sl->Sl->Sl->Sl->Int->World->Prop}{K:Sl->Sl->World->Prop}
  (hb:Nm j w0 b m) (hj:j<=2^38) (hr:Nt (j+1) w r R) (hq:Mk w0 1 di w q lq) (hi:i<lq.length) (hl:lq.length<=2^40) (hlo:low<high) (hhi:high<=65536) (h1:m*low<=R) (h2:R<m*high) (hmj:m<65536^j) (hd:∀ c,inB r c->¬inB q c)
  (hN:∀ r' w',Nt j w' r' (R % m)->(∀ c,inB r' c->w.heap.size<=c)->w.heap.size<=w'.heap.size->Mk w0 1 di w' q (lq.set i (R / m))->N a b q r' ((i:Int)-1) w'):z1w_l2 a b q r (i:Int) (low:Int) (high:Int) N K w:=by
 refine⟨⟨fun lo hi w'=>∃ lo' hi':Nat,lo=lo'/\hi=hi'/\lo'<hi'/\hi'<=65536/\m*lo'<=R/\R<m*hi'/\Fr F0 w w',fun lo hi _=>(hi-lo).toNat,⟨low,high,rfl,rfl,hlo,hhi,h1,h2,Fr.refl⟩,?_⟩⟩
 clear h1 h2 hlo hhi
 rintro lo hi w1 ⟨lo',hi',rfl,rfl,hlo,hhi,h1,h2,hf⟩
 have hf0:=Fr0.t hq.fr0 hf
 unfold z1w_b2
 refine⟨q01,q00.2 ?_⟩
 constructor
 ·intro hgt
  have hmid:Ja ((lo':Int)+(hi':Int)) 2=(((lo'+hi') / 2:Nat):Int):=by rw[addN,show(2:Int)=((2:Nat):Int) from rfl,q2y]
  rw[hmid]
  generalize hmd:(lo'+hi') / 2=mid
  have e1:lo'<mid:=by omega
  have e2:mid<hi':=by omega
  refine⟨q01,by omega,q01,qic (hb.fr hf0) (by omega) (by omega) fun s2 w2 hs2 hf2=>q49 hs2 ((hr.fr hf).fr hf2) (by omega) fun w3 hf3=>?_⟩
  have hfa:=Fr0.t (Fr0.t hf hf2) hf3
  refine q00.2 ?_
  constructor
  ·intro hc
   have:m*mid<=R:=by
    rcases Jg R (m*mid) with h | h
    ·rw[q3m (by omega)] at hc; omega
    ·exact h
   exact⟨⟨⟨rfl,rfl,rfl,rfl,rfl,trivial⟩,mid,hi',rfl,rfl,e2,hhi,this,h2,hfa⟩,by dsimp only; omega⟩
  ·intro hc
   have:R<m*mid:=by
    rcases Jg R (m*mid) with h | h
    ·exact h
    ·rcases Jg (m*mid) R with h' | h'
     ·rw[q43 (by omega)] at hc; omega
     ·rw[q5s (by omega)] at hc; omega
   exact⟨⟨⟨rfl,rfl,rfl,rfl,rfl,trivial⟩,lo',mid,rfl,rfl,e1,by omega,h1,this,hfa⟩,by dsimp only; omega⟩
 ·intro hgt
  obtain⟨e1,e2⟩:=qln h1 h2 (by omega)
  have hq1:=hq.fr hf
  obtain⟨ad,hp,hbd,hwr,hset⟩:=hq1.st (i:=(i:Int)) i rfl hi
  rw[hp]
  refine⟨hbd,hwr,?_⟩
  intro w2
  have h5:Mk w0 1 di w2 q (lq.set i lo')/\Fr (inB q) w1 w2:=hset lo'
  have hf2:=h5.1.fr0
  have hr2:Nt (j+1) w2 r R:=by
   obtain⟨lr,vr,dr,tr,er,kr⟩:=hr.fr hf
   exact⟨lr,vr.frF h5.2 hd,dr,tr,er,kr⟩
  refine qic (hb.fr hf2) (by omega) (by omega) fun s3 w3 hs3 hf3=>q7c (hr2.fr hf3).nm hs3.nm h1 (by omega) fun s4 w4 hs4 hf4 hn4=>⟨q01,?_⟩
  rw[e2] at hs4
  have:=hN s4 w4 (hs4.short (JF (Jv _ (by
   rcases Ji m with h | h
   ·subst h; omega
   ·exact h)) hmj)) (fun c hc=>Je (Je hf.1 (Je h5.2.1 hf3.1)) (hn4 c hc).1) (Je (Je hf.1 h5.2.1) (Je hf3.1 hf4.1)) (by rw[← e1]; exact(h5.1.fr hf3).fr hf4)
  exact this
theorem q9d {K:Sl->Sl->World->Prop}(ha:Nm k w a n)(hb:Nm j w b m)(hbt:Nt j w b m)(hm:0<m)(hmj:m<65536^j)(hk:k<=2^38)(hj:j<=2^38)
  (hK:∀ q r w',Nt k w' q (n / m)->Nt j w' r (n % m)->Fr F0 w w'->K q r w'):z1w_sh a b K w:=by
 obtain⟨la,va,da,rfl,kla⟩:=ha
 have hla:=va.len
 refine⟨Mk.make (w0:=w) (enc:=di) (z:=0) Fr.refl rfl rfl (by omega) (by omega) (by omega) fun q w1 h1 hf1=>⟨q01,?_⟩⟩
 have hqlt:∀ c,inB q c->c<w1.heap.size:=fun c hc=>h1.ow.own.lt hc
 refine⟨⟨fun r i w'=>∃ (i':Nat) (lq:List Nat) (r':Nat),i=(i':Int)-1/\i'<=la.length/\lq.length=la.length/\Dg lq/\Mk w 1 di w' q lq/\Nt j w' r r'/\r'<m/\(∀ c,inB r c->w1.heap.size<=c)/\Fr F0 w w'/\w1.heap.size<=w'.heap.size/\vl (la.drop i')=vl (lq.drop i')*m+r',
  fun _ i _=>(i+1).toNat,⟨la.length,_,0,by omega,Jh _,by simp; omega,Dg.replicate _,h1,⟨[],Vw.nil,Dg.nil,.inl rfl,rfl,Nat.zero_le _⟩,hm,(fun c ⟨_,hc,_⟩=>by cases hc),hf1,Jh _,?_⟩,?_⟩⟩
 ·rw[J6,List.drop_of_length_le (by simp; omega)]; simp[vl]
 rintro r i w2 ⟨i',lq,r',rfl,hi,hlq,hdq,hq,hr,hrm,hrn,hf2,hsz,hv⟩
 unfold z1w_b0
 refine q00.2 ?_
 constructor
 ·intro hpos
  obtain⟨i,rfl⟩:∃ i,i'=i+1:=⟨i'-1,by omega⟩
  have hidx:((i+1:Nat):Int)-1=(i:Int):=by omega
  rw[hidx]
  have hx:=da.getD i
  refine(va.fr hf2).ld 0 i rfl (by omega) ?_
  intro w3
  have hf3:Fr F0 w2 w3:=Fr.alloc
  have hmk:Mk w2 1 di w3 ⟨some ⟨w2.heap.size,0,none⟩,1,1⟩ [la.getD i 0]:=Mk.new Fr.refl rfl rfl
  clear_value w3
  obtain⟨lr,vr,dr,tr,er,kr⟩:=hr.fr hf3
  refine hmk.app vr (q1y _ _) rfl (by simp; omega) (by simp; omega) fun s6 w4 h6 hf4=>?_
  have hf4':Fr F0 w2 w4:=h6.fr0
  have hRv:vl ([la.getD i 0]++lr)=la.getD i 0+65536*r':=by simp[vl,er]
  have hRd:Dg ([la.getD i 0]++lr):=dr.cons hx
  refine q1e (k:=j+1) ⟨_,h6.vw,hRd,hRv,by simp; omega⟩ (by omega) fun s9 h9 hin9=>?_
  have hfa:=Fr0.t hf2 hf4'
  refine q49 h9 (hbt.fr hfa) (by omega) fun w5 hf5=>?_
  have hf5':=Fr0.t hf4' hf5
  have hq5:=hq.fr hf5'
  have hdis:∀ c,inB s9 c->¬inB q c:=fun c hc hcq=>by
   have e1:=h6.nw c (hin9 c hc)
   have e2:=hqlt c hcq
   omega
  have next:∀ low high:Nat,low<high->high<=65536->m*low<=la.getD i 0+65536*r'->la.getD i 0+65536*r'<m*high ->
    z1w_k1 a b q s9 (i:Int) (low:Int) (high:Int) (fun (a_0':Sl) (b_1':Sl) (q_6':Sl) (r_7':Sl) (i_8':Int) (w':World)=>((a_0'=a/\b_1'=b/\q_6'=q/\True)/\∃ (i':Nat) (lq:List Nat) (r':Nat),i_8'=(i':Int)-1/\i'<=la.length/\lq.length=la.length/\Dg lq/\Mk w 1 di w' q lq/\Nt j w' r_7' r'/\r'<m/\(∀ c,inB r_7' c->w1.heap.size<=c)/\Fr F0 w w'/\w1.heap.size<=w'.heap.size/\vl (la.drop i')=vl (lq.drop i')*m+r')/\(i_8'+1).toNat<(((i:Int))+1).toNat) K w5:=by
   intro low high e1 e2 e3 e4
   refine⟨qlo hb hj (h9.fr hf5) hq5 (by omega) (by omega) e1 e2 e3 e4 hmj hdis fun r2 w6 hr2 hn2 hs6 hq6=>⟨⟨⟨rfl,rfl,rfl,trivial⟩,i,_,_,rfl,by omega,by simp[hlq],hdq.set _ ?_,hq6,hr2,Jv _ hm,fun c hc=>Je (Je hsz hf5'.1) (hn2 c hc),hq6.fr0,Je (Je hsz hf5'.1) hs6,?_⟩,by omega⟩⟩
   ·have:=Nat.div_lt_of_lt_mul e4
    omega
   ·rw[q9b la i (by omega),q9b (lq.set i _) i (by simp; omega),hv,qbq (by omega),List.drop_set_of_lt (by omega)]
    have:=JB (la.getD i 0+65536*r') m
    rw[JH,Jf,← Jj,JG ((la.getD i 0+65536*r') / m) m]
    omega
  refine q00.2 ?_
  constructor
  ·intro hc
   have hlt:la.getD i 0+65536*r'<m:=by
    rcases Jg (la.getD i 0+65536*r') m with h | h
    ·exact h
    ·rcases Jg m (la.getD i 0+65536*r') with h' | h'
     ·rw[q3m (by omega)] at hc; omega
     ·rw[q5s (by omega)] at hc; omega
   exact next 0 1 (by omega) (by omega) (by omega) (by omega)
  ·intro hc
   exact next 0 65536 (by omega) (by omega) (by omega) (by omega)
 ·intro hneg
  have:i'=0:=by omega
  subst this
  simp only[J7] at hv
  have e:vl lq=vl la / m/\r'=vl la % m:=by
   rw[hv,JG,JA hm,Jz hrm,Nat.mul_add_mod,Nat.mod_eq_of_lt hrm]
   exact⟨rfl,rfl⟩
  refine q1e (k:=k) ⟨lq,hq.vw,hdq,e.1,by omega⟩ (by omega) fun s' hs' _=>hK s' r w2 hs' (by rw[← e.2]; exact hr) hf2
theorem qe3 {K:Sl->World->Prop}(ha:Nm k w a n)(hb:Nm k w b m)(hnk:n<65536^k)(hmk:m<65536^k)(hk:k<=2^38)
  (hK:∀ s' w',Nt k w' s' (Jn n m)->Fr F0 w w'->K s' w'):z16_sh a b K w:=by
 refine⟨⟨⟨fun a b w'=>∃ x y:Nat,Nm k w' a x/\Nm k w' b y/\x<65536^k/\y<65536^k/\Jn x y=Jn n m/\Fr F0 w w',fun a b w'=>Classical.epsilon fun y=>Nm k w' b y,⟨n,m,ha,hb,hnk,hmk,rfl,Fr.refl⟩,?_⟩⟩⟩
 rintro a1 b1 w1 ⟨x,y,hx,hy,hxk,hyk,hg,hf⟩
 have huniq:∀ {w':World} {s:Sl} {u v:Nat},Nm k w' s u->Nm k w' s v->u=v:=by
  rintro w' s u v ⟨l,h1,h2,rfl,_⟩ ⟨l',h1',h2',rfl,_⟩
  have e:l=l':=by
   have g2:=h1'.rd
   have hl:=h1.len
   have hl':=h1'.len
   apply List.ext_getElem?
   intro i
   rcases Jg i l.length with hi | hi
   ·have hi':i<l'.length:=by omega
    obtain⟨ad,hp,hc⟩:=h1.at (fun _=>rfl) (J5 hi) (by decide)
    obtain⟨ad',hp',hc'⟩:=h1'.at (fun _=>rfl) (J5 hi') (by decide)
    rw[hp] at hp'
    cases hp'
    have e1:=hc 0 _ rfl
    have e2:=hc' 0 _ rfl
    rw[e1] at e2
    rw[J5 hi,J5 hi']
    have:=Option.some.inj e2
    injection this with _ e3
    congr 1
    have e4:((l[i]:Nat):Int)=(l'[i]:Nat):=e3
    omega
   ·rw[J4 hi,J4 (by omega)]
  rw[e]
 have heps:∀ {w':World} {s:Sl} {u:Nat},Nm k w' s u->(Classical.epsilon fun y=>Nm k w' s y)=u:=fun {w' s u} h=>huniq (Classical.epsilon_spec (p:=fun y=>Nm k w' s y) ⟨u,h⟩) h
 unfold z16_b0
 refine q1e hy (by omega) fun s2 h2 _=>?_
 have hz:=h2.zero
 refine q00.2 ?_
 constructor
 ·intro hpos
  have hy0:0<y:=by
   rcases Ji y with h | h
   ·rw[hz.2 h] at hpos; omega
   ·exact h
  refine q1e hx (by omega) fun s4 h4 _=>q1e hy (by omega) fun s6 h6 _=>q9d h4.nm h6.nm h6 hy0 hyk (by omega) (by omega) fun q r w2 _ hr hf2=>⟨⟨trivial,y,x % y,hy.fr hf2,hr.nm,hyk,?_,?_,Fr0.t hf hf2⟩,?_⟩
  ·exact JF (Jv _ hy0) hyk
  ·rw[← hg,Jt y,← JI,Jt]
  ·show(Classical.epsilon fun z=>Nm k w2 r z)<(Classical.epsilon fun z=>Nm k w1 b1 z)
   rw[heps hr.nm,heps hy]
   exact Jv _ hy0
 ·intro h0
  have hy0:y=0:=hz.1 (by omega)
  subst hy0
  rw[Jw] at hg
  refine q1e hx (by omega) fun s4 h4 _=>hK s4 w1 (by rw[← hg]; exact h4) hf
end
open Go Pw
section
variable {w w' w0:World}{s a b:Sl}{k j n m:Nat}
theorem qid {l:List (Nat × List Value)}{b:Nat}{x y:Value}{s:Sl}{e:Bool}{K:Bool->Sl->World->Prop}(m:Mem w0 w l)(j:Nat)(hj:l[j]?=some (b,[x,y]))(hK:∀ w',Mem w0 w' (l.set j (b,[.bool e,.slice s.p s.l s.c]))->Fr (fun c=>c=b) w w'->K e s w') :
  wrOk w (Addr.mk b 0 none)/\(let w4:World:=w.setCell (Addr.mk b 0 none) (Value.bool e)
   wrOk w4 (Addr.mk b 1 none)/\(let w5:World:=w4.setCell (Addr.mk b 1 none) (Value.slice s.p s.l s.c)
    ∃ x6:Bool,w5.cell? (Addr.mk b 0 none)=some (Value.bool x6)/\∃ x7:Sl,w5.cell? (Addr.mk b 1 none)=some (Value.slice x7.p x7.l x7.c)/\K x6 x7 w5)):=by
 have hl:j<l.length:=(List.getElem?_eq_some_iff.1 hj).1
 refine⟨m.wr j hj rfl,?_⟩
 intro w2
 have m:Mem w0 w2 _:=m.set j hj
 have f2:Fr (fun c=>c=b) w w2:=Fr.set rfl
 refine⟨m.wr j (cs:=[Value.bool e,y]) (by simp[hl]) rfl,?_⟩
 intro w3
 have m:Mem w0 w3 _:=m.set j (cs:=[Value.bool e,y]) (by simp[hl])
 have f3:Fr (fun c=>c=b) w w3:=f2.trans (Fr.set (F:=fun c=>c=b) rfl) fun _ h _=>h
 refine⟨_,m.ld j (cs:=[Value.bool e,Value.slice s.p s.l s.c]) (by simp[hl]) rfl,s,m.ld j (cs:=[Value.bool e,Value.slice s.p s.l s.c]) (by simp[hl]) rfl,hK w3 ?_ f3⟩
 simpa using m
theorem qlp {l:List Nat}{d:Nat}(hd:d≠0):Tr (l++[d]):=.inr (by simp[J3,hd])
theorem q0n {n:Int}{K:Bool->Sl->World->Prop}(h:I64 n)(hK:∀ s' w',Nt 4 w' s' n.natAbs->Fr F0 w w'->K (decide (n<0)) s' w'):z2u_sh n K w:=by
 have hbound:=q0t h
 refine⟨?_⟩
 intro w1
 have m:Mem w w1 _:=Mem.nil.alloc
 have hlt1:w.heap.size<w1.heap.size:=(m.2.1 _ (J1 ..)).lt
 have k0:z2u_k0 n (Addr.mk w.heap.size 0 none) (Sl.mk none 0 0) (n.natAbs:Int) K w1:=by
  refine⟨⟨⟨fun l mm w'=>∃ (lo:List Nat) (m':Nat),mm=m'/\Mk w1 1 di w' l lo/\Dg lo/\vl lo+65536^lo.length*m'=n.natAbs/\(m'=0->Tr lo)/\lo.length<=4,fun _ mm _=>mm.toNat,⟨[],n.natAbs,rfl,Mk.nil Fr.refl,Dg.nil,by simp[vl],fun _=>.inl rfl,by simp⟩,?_⟩⟩⟩
  rintro l mm w2 ⟨lo,m',rfl,ho,hdo,hv,htr,hlen⟩
  unfold z2u_b1
  refine q00.2 ?_
  constructor
  ·intro hpos
   have hlt:lo.length<4:=by
    rcases Jg lo.length 4 with h4 | h4
    ·exact h4
    ·have:65536^4*1<=65536^lo.length*m':=Jp (Jl (by decide) h4) (by omega)
     omega
   have hm64:m'<18446744073709551616:=by
    have:1*m'<=65536^lo.length*m':=Jm _ (JC (by decide))
    have:(65536:Nat)^4=18446744073709551616:=by decide
    omega
   refine⟨by omega,?_⟩
   have ew:IntKind.wrap .i64 (Jd (m':Int) 65536)=((m' % 65536:Nat):Int):=by
    rw[show(65536:Int)=((65536:Nat):Int) from rfl,qhg]
    exact q4o ⟨by omega,by omega⟩
   rw[ew]
   refine ho.push (a:=m' % 65536) rfl rfl (q1y _ _) rfl (by omega) (by omega) fun r w3 h3 _=>⟨by omega,inRu (by rw[show(65536:Int)=((65536:Nat):Int) from rfl,q2y]; omega) (by rw[show(65536:Int)=((65536:Nat):Int) from rfl,q2y]; omega),⟨⟨rfl,rfl,trivial⟩,lo++[m' % 65536],m' / 65536,rfl,h3,hdo.push (by omega),?_,fun h0=>qlp (by omega),by simp; omega⟩,?_⟩
   ·rw[q3w,← hv]
    simp only[vl,Jx,Jy,List.length_append,List.length_cons,List.length_nil,Nat.zero_add,Js]
    rw[Jj,JD,← Jf,Jr]
   ·show(Ja (m':Int) 65536).toNat<((m':Int)).toNat
    rw[show(65536:Int)=((65536:Nat):Int) from rfl,q2y]
    omega
  ·intro h0
   have hm0:m'=0:=by omega
   subst hm0
   have m:=m.fr ho.fr0
   have hs:∀ c,inB l c->¬c=w.heap.size:=fun c hc e=>by
    have h1:=ho.nw c hc
    omega
   refine qid m 0 rfl fun w3 m3 hf3=>hK l w3 ⟨lo,ho.vw.frF hf3 hs,hdo,htr rfl,by rw[← hv]; simp,hlen⟩ m3.1
 have hn1:=h.1
 have hn2:=h.2
 refine q00.2 ?_
 constructor
 ·intro hn
  have e:IntKind.wrap .u64 ((0:Int)-IntKind.wrap .u64 n)=(n.natAbs:Int):=by
   simp only[q2x]
   omega
  rw[e]
  exact k0
 ·intro hn
  have e:IntKind.wrap .u64 n=(n.natAbs:Int):=by
   simp only[q2x]
   omega
  rw[e]
  exact k0
end
open Go Pw
def fitI (neg:Bool)(n:Nat):Int × Bool:=if neg=true/\n<=9223372036854775808 then (-(n:Int),true) else if 9223372036854775808<=n then (0,false) else ((n:Int),true)
section
variable {w w' w0:World}{s a b:Sl}{k j n m:Nat}
theorem qbr {neg:Bool}{K:Int->Bool->World->Prop}(h:Nm k w s n)(hk:k<=2^40)(hK:∀ w',Fr F0 w w'->K (fitI neg n).1 (fitI neg n).2 w'):z2i_sh neg s K w:=by
 unfold fitI at hK
 refine⟨?_⟩
 intro w1
 have hf1:Fr F0 w w1:=Fr.alloc
 have m:Mem w w1 _:=Mem.nil.alloc
 clear_value w1
 refine⟨s,m.ld 0,q1e (h.fr hf1) hk fun s4 h4 _=>?_⟩
 obtain⟨l,hv,hd,ht,rfl,hl⟩:=h4
 have hlen:=hv.len
 have hpow:(65536:Nat)^4=18446744073709551616:=by decide
 refine q00.2 ?_
 constructor
 ·intro hgt
  have h5:=ht.le (by omega)
  have h6:65536^4<=65536^(l.length-1):=Jl (by decide) (by omega)
  have:=hK w1 hf1
  rw[if_neg (by omega),if_pos (by omega)] at this
  exact this
 ·intro hle
  have hlt:vl l<18446744073709551616:=by
   have h5:=qgd hd
   have h6:65536^l.length<=65536^4:=Jl (by decide) (by omega)
   omega
  have ew:IntKind.wrap .i64 ((s4.l:Int)-1)=(l.length:Int)-1:=by rw[hlen]; exact q4o ⟨by omega,by omega⟩
  rw[ew]
  refine⟨⟨fun mm i w'=>∃ i':Nat,i=(i':Int)-1/\i'<=l.length/\mm=(vl (l.drop i'):Nat)/\w'=w1,fun _ i _=>(i+1).toNat,⟨l.length,rfl,Jh _,by rw[J6]; rfl,rfl⟩,?_⟩⟩
  rintro mm i w2 ⟨i',rfl,hi,rfl,rfl⟩
  unfold z2i_b0
  have hdle:vl (l.drop i')<=vl l:=by
   rw[q59 l i' hi]
   have:1*vl (l.drop i')<=65536^i'*vl (l.drop i'):=Jm _ (JC (by decide))
   omega
  refine q00.2 ?_
  constructor
  ·intro hpos
   obtain⟨i,rfl⟩:∃ i,i'=i+1:=⟨i'-1,by omega⟩
   have hdle2:vl (l.drop i)<=vl l:=by
    rw[q59 l i (by omega)]
    have:1*vl (l.drop i)<=65536^i*vl (l.drop i):=Jm _ (JC (by decide))
    omega
   have hx:=hd.getD i
   have e:=q9b l i (by omega)
   refine hv.ld 0 i (by omega) (by omega) ?_
   have e1:IntKind.wrap .u64 (IntKind.wrap .u64 ((vl (l.drop (i+1)):Nat)*65536)+IntKind.wrap .u64 ((l.getD i 0:Nat):Int))=((vl (l.drop i):Nat):Int):=by
    rw[q2x,q2x,q2x]
    omega
   have e2:IntKind.wrap .i64 (((i+1:Nat):Int)-1-1)=(i:Int)-1:=by rw[q4o ⟨by omega,by omega⟩]; omega
   rw[e1,e2]
   exact⟨⟨⟨rfl,rfl,trivial⟩,i,rfl,by omega,rfl,rfl⟩,by dsimp only; omega⟩
  ·intro hneg
   have h0:i'=0:=by omega
   subst h0
   rw[J7]
   have k1:¬(neg=true/\vl l<=9223372036854775808)->z2i_k1 ((vl l:Nat):Int) K w2:=by
    intro hn
    have:=hK w2 hf1
    rw[if_neg hn] at this
    refine⟨?_⟩
    refine q00.2 ?_
    constructor
    ·intro h
     rw[if_pos (by omega)] at this
     exact this
    ·intro h
     rw[if_neg (by omega)] at this
     rw[q4o ⟨by omega,by omega⟩]
     exact this
   refine⟨neg,m.ld 0,?_⟩
   cases neg
   ·rw[q0h]
    exact k1 (by simp)
   ·rw[q17,q00]
    constructor
    ·intro h
     have:=hK w2 hf1
     rw[if_pos ⟨rfl,by omega⟩] at this
     have e:IntKind.wrap .i64 (IntKind.wrap .u64 ((0:Int)-(vl l:Nat)))=-((vl l:Nat):Int):=by
      rw[q2x]
      unfold IntKind.wrap
      simp[IntKind.bits,IntKind.signed]
      omega
     rw[e]
     exact this
    ·intro h
     exact k1 (by omega)
end
open Go Pw
section
variable {w w' w0:World}{s a b:Sl}{k j n m:Nat}
theorem q1f {n:Int}{K:Int->Int->World->Prop}(hK:∀ w',Fr F0 w w'->K n 1 w'):z2s_sh n K w:=by
 refine⟨?_⟩
 intro w1
 have m:Mem w w1 _:=Mem.nil.alloc
 exact put2 m 0 rfl hK
theorem q34 {n:Int}{K:Bool->World->Prop}(hK:K (decide (-1000000000<n/\n<1000000000)) w):z1m_sh n K w:=by
 refine⟨q00.2 ?_⟩
 constructor
 ·intro h
  by_cases h2:n<1000000000
  ·rw[decide_eq_true (⟨by omega,h2⟩:-1000000000<n/\n<1000000000)] at hK
   rw[decide_eq_true h2]; exact hK
  ·rw[decide_eq_false (by omega)] at hK
   rw[decide_eq_false h2]; exact hK
 ·intro h
  rw[decide_eq_false (by omega)] at hK
  exact hK
theorem qie {l:List (Nat × List Value)}{t:Nat}{x y:Value}{K:Int->Int->Bool->World->Prop}(m:Mem w0 w l)(j:Nat)(hj:l[j]?=some (t,[x,y]))(hK:∀ w',Fr F0 w0 w'->Kr K zr w'):z17_k1 ⟨t,0,none⟩ K w :=
 ⟨q1f fun _ hf=>q5p (m.fr hf) j hj hK⟩
theorem qcx {l:List (Nat × List Value)}{t:Nat}{x y:Value}{neg neg':Bool}{c d:Nat}{K:Int->Int->Bool->World->Prop}(m:Mem w0 w l)(j:Nat)(hj:l[j]?=some (t,[x,y]))(hy:Nm k w s d)(hk:k<=2^38)
  (hneg:neg'=(neg && decide (c≠0))) (hK:∀ w',Fr F0 w0 w'->Kr K (ratI neg c d) w'):z17_k0 ⟨t,0,none⟩ s (fitI neg' c).1 (fitI neg' c).2 K w:=by
 refine⟨qbr hy (by omega) fun w1 hf=>?_⟩
 have m:=m.fr hf
 have hd:fitI false d=if 9223372036854775808<=d then (0,false) else ((d:Int),true):=by simp[fitI]
 have hbad:¬(d<9223372036854775808/\(c<9223372036854775808\/c=9223372036854775808/\neg=true))->z17_k1 ⟨t,0,none⟩ K w1:=by
  intro h
  refine qie m j hj fun w' hf=>?_
  have:=hK w' hf
  unfold ratI at this
  rw[if_neg h] at this
  exact this
 by_cases hc:(fitI neg' c).2=true
 ·rw[hc,JL,q0h]
  have hc':(c<9223372036854775808\/c=9223372036854775808/\neg=true)/\(fitI neg' c).1=if neg then -(c:Int) else c:=by
   subst hneg
   unfold fitI at hc ⊢
   cases neg
   ·simp at hc ⊢
    split at hc
    ·cases hc
    ·rename_i h
     exact⟨by omega,by rw[if_neg h]⟩
   ·simp at hc ⊢
    split at hc
    ·rename_i h
     rw[if_pos h]
     exact⟨by omega,rfl⟩
    ·rename_i h
     split at hc
     ·cases hc
     ·rename_i h'
      rw[if_neg h,if_neg h']
      exact⟨by omega,by simp at h; omega⟩
  rw[hc'.2,hd]
  by_cases hdl:9223372036854775808<=d
  ·rw[if_pos hdl,JK,q17]
   exact hbad fun h=>absurd h.1 (by omega)
  ·rw[if_neg hdl,JL,q0h]
   refine q5p m j hj fun w' hf=>?_
   have:=hK w' hf
   unfold ratI at this
   rw[if_pos ⟨by omega,hc'.1⟩] at this
   exact this
 ·have hc:(fitI neg' c).2=false:=by simpa using hc
  rw[hc,JK,q17]
  refine hbad ?_
  rintro⟨_,h⟩
  subst hneg
  unfold fitI at hc
  cases neg
  ·simp at hc h
   split at hc
   ·omega
   ·cases hc
  ·simp at hc h
   split at hc
   ·cases hc
   ·rename_i h2
    split at hc
    ·omega
    ·cases hc
theorem q29 {neg1 neg2:Bool}{s1 s2:Sl}{d:Nat}{K:Int->Int->Bool->World->Prop}(h1:Nm k w s1 n)(h2:Nm k w s2 d)(hn:n<65536^k)(hd:d<65536^k)(hd0:0<d)(hk:k<=2^37)
  (hK:∀ w',Fr F0 w w'->Kr K (fitQ (mkRat (sgn (neg1 != neg2) n) d)) w'):z17_sh neg1 s1 neg2 s2 K w:=by
 rw[← q53 (neg1 != neg2) n d (by omega)] at hK
 have hg0:0<Jn n d:=Jq _ hd0
 have hgk:Jn n d<65536^k:=Nat.lt_of_le_of_lt (Nat.gcd_le_right _ hd0) hd
 refine⟨?_⟩
 intro w1
 have m:Mem w w1 _:=Mem.nil.alloc
 intro w2
 have m:Mem w w2 _:=m.alloc
 intro w3
 have m:Mem w w3 _:=m.alloc
 refine⟨s1,m.ld 2,s2,m.ld 1,qe3 (h1.fr m.1) (h2.fr m.1) hn hd (by omega) fun s7 w6 h7 hf6=>?_⟩
 have m:=m.fr hf6
 refine⟨s1,m.ld 2,q1e (h1.fr m.1) (by omega) fun s10 h10 _=>q9d h10.nm h7.nm h7 hg0 hgk (by omega) (by omega) fun s12 s13 w11 h12 _ hf11=>?_⟩
 have m:=m.fr hf11
 refine⟨s2,m.ld 1,q1e (h2.fr m.1) (by omega) fun s16 h16 _=>q9d h16.nm (h7.fr hf11).nm (h7.fr hf11) hg0 hgk (by omega) (by omega) fun s18 s19 w17 h18 _ hf17=>?_⟩
 have m:=m.fr hf17
 have h12:=h12.fr hf17
 refine⟨neg1,m.ld 2,neg2,m.ld 1,?_⟩
 have hz:=h12.zero
 cases hne:neg1 == neg2
 ·have e:(neg1 != neg2)=true:=by simp[bne,hne]
  rw[JK,q17]
  refine qbr h12.nm (by omega) fun w22 hf22=>qcx (neg:=neg1 != neg2) (m.fr hf22) 0 rfl (h18.fr hf22).nm (by omega) ?_ hK
  rw[e,JM]
  apply decide_eq_decide.2
  omega
 ·have e:(neg1 != neg2)=false:=by simp[bne,hne]
  rw[JL,q0h]
  refine qbr h12.nm (by omega) fun w22 hf22=>qcx (neg:=neg1 != neg2) (m.fr hf22) 0 rfl (h18.fr hf22).nm (by omega) ?_ hK
  rw[e,JN]
end
theorem q3x (n d:Int):mkRat (sgn ((decide (n<0)) != (decide (d<0))) n.natAbs) d.natAbs=Rat.divInt n d:=by
 rcases J8 d 0 with hneg | hpos
 ·have e1:Rat.divInt n d=Rat.divInt (-n) (-d):=(Rat.neg_divInt_neg n d).symm
  have e2:-d=((d.natAbs:Nat):Int):=by omega
  rw[e1,e2,Rat.divInt_ofNat]
  congr 1
  rcases J8 n 0 with h | h
  ·simp[sgn,h,hneg]; omega
  ·have h':¬n<0:=by omega
   simp[sgn,h',hneg]; omega
 ·have e2:d=((d.natAbs:Nat):Int):=by omega
  have hd':¬d<0:=by omega
  conv=>rhs; rw[e2]
  rw[Rat.divInt_ofNat]
  congr 1
  rcases J8 n 0 with h | h
  ·simp[sgn,h,hd']; omega
  ·have h':¬n<0:=by omega
   simp[sgn,h',hd']; omega
section
variable {w w0:World}
theorem qe4 {n d:Int}(hn:n.natAbs<9223372036854775808)(hd:d.natAbs<9223372036854775808)(hd0:0<d) :
  fitQ (Rat.divInt n d)=⟨Ja n (Jn n.natAbs d.natAbs:Nat),Ja d (Jn n.natAbs d.natAbs:Nat),true⟩:=by
 have hd1:¬d<0:=by omega
 rw[← q3x,← q53 _ _ _ (by omega)]
 have h1:=Jo n.natAbs (Jn n.natAbs d.natAbs)
 have h2:=Jo d.natAbs (Jn n.natAbs d.natAbs)
 unfold ratI
 rw[if_pos ⟨by omega,.inl (by omega)⟩]
 generalize Jn n.natAbs d.natAbs=g at *
 have e2:d=((d.natAbs:Nat):Int):=by omega
 congr 1
 ·rcases J8 n 0 with h | h
  ·have e1:n=-((n.natAbs:Nat):Int):=by omega
   simp only[h,hd1,decide_true,decide_false]
   conv=>rhs; rw[e1]
   rw[Int.neg_tdiv,q2y]
   simp
  ·have e1:n=((n.natAbs:Nat):Int):=by omega
   have h':¬n<0:=by omega
   simp only[h',hd1,decide_false]
   conv=>rhs; rw[e1]
   rw[q2y]
   simp
 ·conv=>rhs; rw[e2]
  rw[q2y]
theorem qfc {n d:Int}{t:Nat}{x y:Value}{l:List (Nat × List Value)}{K:Int->Int->World->Prop}(m:Mem w0 w l)(j:Nat)(hj:l[j]?=some (t,[x,y]))(hn:n.natAbs<9223372036854775808)(hd:d.natAbs<9223372036854775808)(hd0:0<d)
  (hK:∀ w',Fr F0 w0 w'->K (fitQ (Rat.divInt n d)).n (fitQ (Rat.divInt n d)).d w'):z1l_k0 n d ⟨t,0,none⟩ K w:=by
 rw[qe4 hn hd hd0] at hK
 have hm:max n (-n)=(n.natAbs:Int):=by omega
 refine⟨?_⟩
 rw[hm]
 have e2:d=((d.natAbs:Nat):Int):=by omega
 refine⟨q01,⟨⟨fun x y w'=>∃ a b:Nat,x=a/\y=b/\Jn a b=Jn n.natAbs d.natAbs/\w'=w,fun _ y _=>y.toNat,⟨n.natAbs,d.natAbs,rfl,e2,rfl,rfl⟩,?_⟩⟩⟩
 rintro x y w1 ⟨a,b,rfl,rfl,hg,rfl⟩
 unfold z1l_b1
 refine q00.2 ?_
 constructor
 ·intro h
  refine⟨by omega,⟨⟨rfl,rfl,rfl,trivial⟩,b,a % b,rfl,rfl,?_,rfl⟩,?_⟩
  ·rw[← hg,Jt b,← JI,Jt]
  ·rw[qhg]
   have:=Jv a (show 0<b by omega)
   show((a % b:Nat):Int).toNat<(b:Int).toNat
   omega
 ·intro h
  have hb:b=0:=by omega
  subst hb
  rw[Jw] at hg
  subst hg
  intro w2
  have m:Mem w0 w2 _:=m.drew
  have hg0:0<Jn n.natAbs d.natAbs:=Jq _ (by omega)
  have b1:(Ja n (Jn n.natAbs d.natAbs:Nat)).natAbs<=n.natAbs:=by rw[Jb]; exact Jo _ _
  have b2:(Ja d (Jn n.natAbs d.natAbs:Nat)).natAbs<=d.natAbs:=by rw[Jb]; exact Jo _ _
  exact⟨fun _=>True,trivial,by omega,q01,by omega,q01,put2 m j hj hK⟩
theorem q7d {n d:Int}{K:Int->Int->World->Prop}(hn:n.natAbs<9223372036854775808)(hd:d.natAbs<9223372036854775808)(hd0:d≠0)
  (hK:∀ w',Fr F0 w w'->K (fitQ (Rat.divInt n d)).n (fitQ (Rat.divInt n d)).d w'):z1l_sh n d K w:=by
 refine⟨?_⟩
 intro w1
 have m:Mem w w1 _:=Mem.nil.alloc
 refine q00.2 ?_
 constructor
 ·intro h
  refine⟨q01,q01,qfc m 0 rfl (by omega) (by omega) (by omega) ?_⟩
  rw[Rat.neg_divInt_neg]
  exact hK
 ·intro h
  exact qfc m 0 rfl hn hd (by omega) hK
theorem qfd {n d:Int}(hn:n.natAbs<9223372036854775808)(hd:d.natAbs<9223372036854775808)(hd0:d≠0):(fitQ (Rat.divInt n d)).ok=true:=by
 rcases J8 d 0 with h | h
 ·rw[← Rat.neg_divInt_neg,qe4 (by omega) (by omega) (by omega)]
 ·rw[qe4 hn hd (by omega)]
end
end Go.Proofs.YtfpobpjandjhjaaGreatDoor

namespace Go.Proofs.YtfpobpjandjhjaaGreatDoor
open Go Pw
section
variable {w w' w0:World}{s a b:Sl}{k j n m:Nat}
theorem qlq {lo:List Nat}{out:Sl}{i d:Nat}{N:Sl->Sl->Sl->Int->Int->World->Prop}{K:Sl->World->Prop}(ho:Mk w0 1 di w out lo)(hl:lo.length<=2^40)(hi:i<=2^40)(hd:d<2^40)
  (hN:∀ o' w',Mk w0 1 di w' o' (lo++[d % 65536])->N a b o' ((d / 65536:Nat):Int) ((i:Int)+1) w'):z1x_k3 a b out i (d:Int) N K w:=by
 refine⟨?_⟩
 have e1:Jd (d:Int) 65536=((d % 65536:Nat):Int):=by rw[show(65536:Int)=((65536:Nat):Int) from rfl,qhg]
 have e2:Ja (d:Int) 65536=((d / 65536:Nat):Int):=by rw[show(65536:Int)=((65536:Nat):Int) from rfl,q2y]
 rw[e1,e2]
 refine⟨by omega,ho.push (a:=d % 65536) rfl rfl (q1y _ _) rfl (by omega) (by omega) fun r w2 h2 _=>⟨by omega,q01,q01,hN r w2 h2⟩⟩
theorem qif {K:Sl->World->Prop}(ha:Nm k w a n)(hb:Nm k w b m)(hk:k<=2^39)(hK:∀ s' w',Nm (k+1) w' s' (n+m)->Fr F0 w w'->Btw w.heap.size w'.heap.size s'->K s' w'):z1x_sh a b K w:=by
 obtain⟨la,va,da,rfl,kla⟩:=ha
 obtain⟨lb,vb,db,rfl,klb⟩:=hb
 have hla:=va.len
 have hlb:=vb.len
 refine⟨⟨⟨fun out c i w'=>∃ (lo:List Nat) (c' i':Nat),c=c'/\i=i'/\c'<=1/\i'<=k+1/\lo.length=i'/\Dg lo/\Mk w 1 di w' out lo/\vl lo+65536^i'*c'=vl (la.take i')+vl (lb.take i')/\(i'=k+1->c'=0),fun _ _ i _=>k+1-i.toNat,
  ⟨[],0,0,rfl,rfl,by omega,by omega,rfl,Dg.nil,Mk.nil Fr.refl,by simp[vl],fun _=>rfl⟩,?_⟩⟩⟩
 rintro out c i w1 ⟨lo,c',i',rfl,rfl,hc,hi,hlo,hdo,ho,hv,hend⟩
 unfold z1x_b0
 have hda:=da.getD i'
 have hdb:=db.getD i'
 have hta:vl (la.take (i'+1))=vl (la.take i')+65536^i'*la.getD i' 0:=by
  rcases Jg i' la.length with h | h
  ·exact q1k la i' h
  ·rw[q0q _ _ (by omega),q0q _ _ h,J3,J4 h]; simp
 have htb:vl (lb.take (i'+1))=vl (lb.take i')+65536^i'*lb.getD i' 0:=by
  rcases Jg i' lb.length with h | h
  ·exact q1k lb i' h
  ·rw[q0q _ _ (by omega),q0q _ _ h,J3,J4 h]; simp
 have k1:i'<k+1->z1x_k1 a b out (c':Int) (i':Int) (fun (a_0':Sl) (b_1':Sl) (out_5':Sl) (carry_6':Int) (i_7':Int) (w':World)=>((a_0'=a/\b_1'=b/\True)/\∃ (lo:List Nat) (c' i':Nat),carry_6'=c'/\i_7'=i'/\c'<=1/\i'<=k+1/\lo.length=i'/\Dg lo/\Mk w 1 di w' out_5' lo/\vl lo+65536^i'*c'=vl (la.take i')+vl (lb.take i')/\(i'=k+1->c'=0))/\k+1-i_7'.toNat<k+1-(i':Int).toNat) K w1:=by
  intro hik
  have fin:∀ d:Nat,d=c'+la.getD i' 0+lb.getD i' 0->z1x_k3 a b out (i':Int) (d:Int) (fun (a_0':Sl) (b_1':Sl) (out_5':Sl) (carry_6':Int) (i_7':Int) (w':World)=>((a_0'=a/\b_1'=b/\True)/\∃ (lo:List Nat) (c' i':Nat),carry_6'=c'/\i_7'=i'/\c'<=1/\i'<=k+1/\lo.length=i'/\Dg lo/\Mk w 1 di w' out_5' lo/\vl lo+65536^i'*c'=vl (la.take i')+vl (lb.take i')/\(i'=k+1->c'=0))/\k+1-i_7'.toNat<k+1-(i':Int).toNat) K w1:=by
   intro d hd
   refine qlq ho (by omega) (by omega) (by omega) fun o' w2 h2=>⟨⟨⟨rfl,rfl,trivial⟩,lo++[d % 65536],d / 65536,i'+1,rfl,by omega,by omega,by omega,by simp[hlo],hdo.push (by omega),h2,?_,?_⟩,by omega⟩
   ·rw[hta,htb,q3w,hlo]
    simp only[vl,Jx,Jy,Js]
    have e2:65536^i'*d=65536^i'*(d % 65536)+65536^i'*65536*(d / 65536):=by
     rw[Jj,← Jf,Jr]
    rw[hd,Jf,Jf,← hd] at e2
    omega
   ·intro he
    have hi':i'=k:=by omega
    subst hi'
    have z1:la.getD i' 0=0:=by rw[J3,J4 (by omega)]; rfl
    have z2:lb.getD i' 0=0:=by rw[J3,J4 (by omega)]; rfl
    omega
  refine⟨q00.2 ?_⟩
  have k2:∀ e:Nat,e=c'+la.getD i' 0->z1x_k2 a b out (i':Int) (e:Int) (fun (a_0':Sl) (b_1':Sl) (out_5':Sl) (carry_6':Int) (i_7':Int) (w':World)=>((a_0'=a/\b_1'=b/\True)/\∃ (lo:List Nat) (c' i':Nat),carry_6'=c'/\i_7'=i'/\c'<=1/\i'<=k+1/\lo.length=i'/\Dg lo/\Mk w 1 di w' out_5' lo/\vl lo+65536^i'*c'=vl (la.take i')+vl (lb.take i')/\(i'=k+1->c'=0))/\k+1-i_7'.toNat<k+1-(i':Int).toNat) K w1:=by
   intro e he
   refine⟨q00.2 ?_⟩
   constructor
   ·intro hlt
    refine(vb.fr ho.fr0).ld 0 i' rfl (by omega) ⟨q01,?_⟩
    rw[addN]
    exact fin _ (by omega)
   ·intro hge
    have z2:lb.getD i' 0=0:=by rw[J3,J4 (by omega)]; rfl
    exact fin _ (by omega)
  constructor
  ·intro hlt
   refine(va.fr ho.fr0).ld 0 i' rfl (by omega) ⟨q01,?_⟩
   rw[addN]
   exact k2 _ rfl
  ·intro hge
   have z1:la.getD i' 0=0:=by rw[J3,J4 (by omega)]; rfl
   exact k2 _ (by omega)
 refine q00.2<|⟨fun h=>k1 (by omega),fun h1=>q00.2 ?_⟩
 refine⟨fun h=>k1 (by omega),fun h2=>q00.2 ?_⟩
 refine⟨fun h=>k1 ?_,fun h3=>?_⟩
 ·rcases Jg i' (k+1) with h4 | h4
  ·exact h4
  ·have:=hend (by omega)
   omega
 ·have:c'=0:=by omega
  subst this
  rw[q0q la i' (by omega),q0q lb i' (by omega)] at hv
  exact hK _ _ ⟨lo,ho.vw,hdo,by omega,by omega⟩ ho.fr0 fun c hc=>⟨ho.nw c hc,ho.ow.own.lt hc⟩
end
open Go Pw
theorem q3d {w0 w:World}{l:List (Nat × List Value)}(h:Mem w0 w l){p:Nat × List Value}(hp:p∈l):p.1<w.heap.size:=(h.2.1 p hp).lt
section
variable {w w' w0:World}{s a b:Sl}{k j n m:Nat}
theorem Nm.frN {F:Nat->Prop}(h:Nm k w s n)(hf:Fr F w w')(hd:∀ c,inB s c->¬F c):Nm k w' s n:=let ⟨l,h1,h2⟩:=h; ⟨l,h1.frF hf hd,h2⟩
theorem Nt.frN {F:Nat->Prop}(h:Nt k w s n)(hf:Fr F w w')(hd:∀ c,inB s c->¬F c):Nt k w' s n:=let ⟨l,h1,h2⟩:=h; ⟨l,h1.frF hf hd,h2⟩
theorem q1z {x y:Bool}{K:Bool->Sl->World->Prop}(ha:Nm k w a n)(hb:Nm j w b m)(hk:k<=2^38)(hj:j<=2^38)(hK:∀ s' w',Nt (k+j) w' s' (n*m)->Fr F0 w w'->Btw w.heap.size w'.heap.size s'->K (x != y) s' w'):z2j_sh x a y b K w:=by
 refine⟨?_⟩
 intro w1
 have m1:Mem w w1 _:=Mem.nil.allocL
 intro w2
 have m1:Mem w w2 _:=m1.allocL
 intro w3
 have m1:Mem w w3 _:=m1.allocL
 intro w4
 have m1:Mem w w4 _:=m1.drew
 refine⟨fun u=>Rs u _,m1.sub 0,x,fun _ h=>h.ld 2,y,fun _ h=>h.ld 1,a,fun _ h=>h.ld 2,b,fun _ h=>h.ld 1,q9c (ha.fr m1.1) (hb.fr m1.1) (by omega) (by omega) fun s' w5 hs hf hn=>⟨(m1.fr hf).sub 0,?_⟩⟩
 have hlt:=q3d m1 (J1 ..)
 refine qid (m1.fr hf) 0 rfl fun w6 m6 hf6=>hK s' w6 (hs.frN hf6 fun c hc e=>?_) m6.1 fun c hc=>⟨Je m1.1.1 (hn c hc).1,Jk (hn c hc).2 hf6.1⟩
 have:=(hn c hc).1
 simp only at hlt
 omega
theorem q5a {x y:Bool}{K:Bool->Sl->World->Prop}(ha:Nm k w a n)(hb:Nm k w b m)(hk:k<=2^38)
  (hK:∀ s' w',Nm (k+1) w' s' (sumS x y n m).2->Fr F0 w w'->Btw w.heap.size w'.heap.size s'->K (sumS x y n m).1 s' w'):z2h_sh x a y b K w:=by
 unfold sumS at hK
 refine⟨?_⟩
 intro w1
 have m1:Mem w w1 _:=Mem.nil.allocL
 intro w2
 have m1:Mem w w2 _:=m1.allocL
 intro w3
 have m1:Mem w w3 _:=m1.allocL
 refine⟨x,m1.ld 2,y,m1.ld 1,?_⟩
 have hlt:=q3d m1 (J1 ..)
 simp only at hlt
 by_cases hxy:x=y
 ·subst hxy
  rw[if_pos rfl] at hK
  rw[beq_self_eq_true,q17]
  intro w4
  have m1:Mem w w4 _:=m1.drew
  have h34:w3.heap.size<=w4.heap.size:=Jh _
  refine⟨fun u=>Rs u _,m1.sub 0,x,fun _ h=>h.ld 2,a,fun _ h=>h.ld 2,b,fun _ h=>h.ld 1,qif (ha.fr m1.1) (hb.fr m1.1) (by omega) fun s' w5 hs hf hn=>⟨(m1.fr hf).sub 0,qid (m1.fr hf) 0 rfl fun w6 m6 hf6=>hK s' w6 (hs.frN hf6 fun c hc e=>?_) m6.1 fun c hc=>⟨Je m1.1.1 (hn c hc).1,Jk (hn c hc).2 hf6.1⟩⟩⟩
  have:=(hn c hc).1
  omega
 ·rw[if_neg hxy] at hK
  have e:(x == y)=false:=by simpa using hxy
  rw[e,q0h]
  intro w4
  have m1:Mem w w4 _:=m1.drew
  have h34:w3.heap.size<=w4.heap.size:=Jh _
  refine⟨fun u=>Rs u _,m1.sub 0,a,fun _ h=>h.ld 2,b,fun _ h=>h.ld 1,q1e (ha.fr m1.1) (by omega) fun s5 h5 _=>⟨m1.sub 0,q1e (hb.fr m1.1) (by omega) fun s6 h6 _=>⟨m1.sub 0,q49 h5 h6 (by omega) fun w7 hf7=>⟨(m1.fr hf7).sub 0,?_⟩⟩⟩⟩
  have m1:=m1.fr hf7
  have h37:w3.heap.size<=w7.heap.size:=Je h34 hf7.1
  refine q00.2 ?_
  constructor
  ·intro hc
   have hle:m<=n:=by
    rcases Jg n m with h | h
    ·rw[q43 (by omega)] at hc; omega
    ·exact h
   rw[if_pos hle] at hK
   intro w8
   have m1:Mem w w8 _:=m1.drew
   have h38:w3.heap.size<=w8.heap.size:=h37
   refine⟨fun u=>Rs u _,m1.sub 0,x,fun _ h=>h.ld 2,a,fun _ h=>h.ld 2,b,fun _ h=>h.ld 1,q7c (ha.fr m1.1) (hb.fr m1.1) hle (by omega) fun s' w9 hs hf hn=>⟨(m1.fr hf).sub 0,qid (m1.fr hf) 0 rfl fun w6 m6 hf6=>hK s' w6 ((hs.frN hf6 fun c hc e=>?_).nm.up (by omega)) m6.1 fun c hc=>⟨Je m1.1.1 (hn c hc).1,Jk (hn c hc).2 hf6.1⟩⟩⟩
   have:=(hn c hc).1
   omega
  ·intro hc
   have hle:¬m<=n:=by
    intro h
    rcases Jg m n with h' | h'
    ·rw[q3m (by omega)] at hc; omega
    ·rw[q5s (by omega)] at hc; omega
   rw[if_neg hle] at hK
   intro w8
   have m1:Mem w w8 _:=m1.drew
   have h38:w3.heap.size<=w8.heap.size:=h37
   refine⟨fun u=>Rs u _,m1.sub 0,y,fun _ h=>h.ld 1,b,fun _ h=>h.ld 1,a,fun _ h=>h.ld 2,q7c (hb.fr m1.1) (ha.fr m1.1) (by omega) (by omega) fun s' w9 hs hf hn=>⟨(m1.fr hf).sub 0,qid (m1.fr hf) 0 rfl fun w6 m6 hf6=>hK s' w6 ((hs.frN hf6 fun c hc e=>?_).nm.up (by omega)) m6.1 fun c hc=>⟨Je m1.1.1 (hn c hc).1,Jk (hn c hc).2 hf6.1⟩⟩⟩
   have:=(hn c hc).1
   omega
end
open Go Pw
theorem qgf {K:Int->Int->Bool->World->Prop}{r:RR}{w:World}(h:K r.n r.d r.ok w):Kr K r w:=h
theorem qah {n d:Int}(hn:I64 n)(hd:I64 d)(hpos:0<d):((fitQ (Rat.divInt n d)).ok && ((fitQ (Rat.divInt n d)).n == n && ((fitQ (Rat.divInt n d)).d == d && true)))=decide (q04 n d):=by
 have hr:=q54 (Rat.divInt n d)
 rw[Bool.eq_iff_iff]
 simp only[Bool.and_eq_true,beq_iff_eq,and_true,decide_eq_true_eq]
 constructor
 ·rintro⟨_,h1,h2⟩
  rw[h1,h2] at hr
  exact hr
 ·intro h
  rw[← q8x hpos,qi3 h hn hd]
  exact⟨rfl,rfl,rfl⟩
section
variable {w w' w0:World}
theorem q85 {n d:Int}{a b:Nat}{l:List (Nat × List Value)}{K:Bool->World->Prop}(hn:I64 n)(hd:I64 d)(hpos:0<d)
  (m:Mem w0 w ((b,[.int .i64 (fitQ (Rat.divInt n d)).n,.int .i64 (fitQ (Rat.divInt n d)).d]) :: (a,[.int .i64 n,.int .i64 d]) :: l)) (hK:∀ w',Fr F0 w0 w'->K (decide (q04 n d)) w') :
  z1j_k1 ⟨a,0,none⟩ ⟨b,0,none⟩ (fitQ (Rat.divInt n d)).ok K w:=by
 rw[← qah hn hd hpos] at hK
 refine⟨?_⟩
 have:=hK w m.1
 cases hok:(fitQ (Rat.divInt n d)).ok
 ·rw[hok,JN] at this
  rw[q0h]
  exact this
 ·rw[hok,JM] at this
  rw[q17]
  refine⟨_,m.ld 1,_,m.ld 1,_,m.ld 0,_,m.ld 0,?_⟩
  show K _ _
  rw[show(n == (fitQ (Rat.divInt n d)).n)=((fitQ (Rat.divInt n d)).n == n) from BEq.comm,show(d == (fitQ (Rat.divInt n d)).d)=((fitQ (Rat.divInt n d)).d == d) from BEq.comm]
  exact this
theorem qfe {n d:Int}{a:Nat}{l:List (Nat × List Value)}{K:Bool->World->Prop}(hn:I64 n)(hd:I64 d)(hpos:0<d)(m:Mem w0 w ((a,[.int .i64 n,.int .i64 d]) :: l))(hK:∀ w',Fr F0 w0 w'->K (decide (q04 n d)) w') :
  z1j_k0 ⟨a,0,none⟩ K w:=by
 refine⟨?_⟩
 unfold z1j_k0d
 intro w17; have m:Mem w0 w17 _:=m.drew; clear_value w17
 refine⟨fun u=>Rs u _,m.sub 0,⟨_,fun _ h=>h.ld 0,⟨_,fun _ h=>h.ld 0,⟨?_,?_⟩⟩⟩⟩
 ·refine q0n (by assumption) fun s1 w21 o1 hf=>?_; have m:=m.fr hf; (try have o1:=o1.fr hf)
  refine⟨m.sub 0,⟨?_,?_⟩⟩
  ·refine q0n (by assumption) fun s2 w23 o2 hf=>?_; have m:=m.fr hf; have o1:=o1.fr hf
   refine⟨m.sub 0,⟨?_,?_⟩⟩
   ·refine q29 (k:=4) o1.nm o2.nm (q0t hn) (q0t hd) (by omega) (by decide) fun w25 hf=>?_; have m:=m.fr hf; rw[q3x]; refine qgf ?_
    refine⟨m.sub 0,?_⟩
    intro w28; have m:Mem w0 w28 _:=m.allocL; clear_value w28
    refine⟨m.sub 1,⟨m.wr 0,?_⟩⟩
    intro w29; have m:Mem w0 w29 _:=m.set 0; clear_value w29; simp only[J0] at m
    refine⟨m.wr 0,?_⟩
    intro w30; have m:Mem w0 w30 _:=m.set 0; clear_value w30; simp only[J0,J2] at m
    exact q85 hn hd hpos m hK
   ·intro w31; have m:Mem w0 w31 _:=m.allocL; have o1:Nt 4 w31 _ _:=o1.fr Fr.alloc; have o2:Nt 4 w31 _ _:=o2.fr Fr.alloc; clear_value w31
    refine⟨m.sub 1,?_⟩
    refine q29 (k:=4) o1.nm o2.nm (q0t hn) (q0t hd) (by omega) (by decide) fun w32 hf=>?_; have m:=m.fr hf; rw[q3x]; refine qgf ?_
    refine⟨m.sub 1,⟨m.wr 0,?_⟩⟩
    intro w35; have m:Mem w0 w35 _:=m.set 0; clear_value w35; simp only[J0] at m
    refine⟨m.wr 0,?_⟩
    intro w36; have m:Mem w0 w36 _:=m.set 0; clear_value w36; simp only[J0,J2] at m
    exact q85 hn hd hpos m hK
  ·intro w37; have m:Mem w0 w37 _:=m.allocL; (try have o1:Nt 4 w37 _ _:=o1.fr Fr.alloc); (try have o2:Nt 4 w37 _ _:=o2.fr Fr.alloc); clear_value w37
   refine⟨m.sub 1,?_⟩
   refine q0n (by assumption) fun s2 w38 o2 hf=>?_; have m:=m.fr hf; have o1:=o1.fr hf
   refine⟨m.sub 1,?_⟩
   refine q29 (k:=4) o1.nm o2.nm (q0t hn) (q0t hd) (by omega) (by decide) fun w40 hf=>?_; have m:=m.fr hf; rw[q3x]; refine qgf ?_
   refine⟨m.sub 1,⟨m.wr 0,?_⟩⟩
   intro w43; have m:Mem w0 w43 _:=m.set 0; clear_value w43; simp only[J0] at m
   refine⟨m.wr 0,?_⟩
   intro w44; have m:Mem w0 w44 _:=m.set 0; clear_value w44; simp only[J0,J2] at m
   exact q85 hn hd hpos m hK
 ·intro w45; have m:Mem w0 w45 _:=m.allocL; (try have o1:Nt 4 w45 _ _:=o1.fr Fr.alloc); (try have o2:Nt 4 w45 _ _:=o2.fr Fr.alloc); clear_value w45
  refine⟨m.sub 1,?_⟩
  refine q0n (by assumption) fun s1 w46 o1 hf=>?_; have m:=m.fr hf; (try have o1:=o1.fr hf)
  refine⟨m.sub 1,?_⟩
  refine q0n (by assumption) fun s2 w48 o2 hf=>?_; have m:=m.fr hf; have o1:=o1.fr hf
  refine⟨m.sub 1,?_⟩
  refine q29 (k:=4) o1.nm o2.nm (q0t hn) (q0t hd) (by omega) (by decide) fun w50 hf=>?_; have m:=m.fr hf; rw[q3x]; refine qgf ?_
  refine⟨m.sub 1,⟨m.wr 0,?_⟩⟩
  intro w53; have m:Mem w0 w53 _:=m.set 0
  refine⟨m.wr 0,?_⟩
  intro w54; have m:Mem w0 w54 _:=m.set 0
  exact q85 hn hd hpos m hK
theorem q4a {n d:Int}{K:Bool->World->Prop}(hn:I64 n)(hd:I64 d)(hK:∀ w',Fr F0 w w'->K (decide (q04 n d)) w'):z1j_sh n d K w:=by
 refine⟨?_⟩
 intro w1
 have m:Mem w w1 _:=Mem.nil.allocL
 refine⟨_,m.ld 0,q00.2 ?_⟩
 constructor
 ·intro h
  have:=hK w1 m.1
  rw[decide_eq_false (fun hr=>by have:=hr.1; omega)] at this
  exact this
 ·intro h
  have hpos:0<d:=by omega
  refine⟨_,m.ld 0,q34 ?_⟩
  refine q00.2<|⟨fun h1=>?_,fun h1=>qfe hn hd hpos m hK⟩
  refine⟨_,m.ld 0,q34 ?_⟩
  refine q00.2<|⟨fun h2=>?_,fun h2=>qfe hn hd hpos m hK⟩
  intro w9; have m:Mem w w9 _:=m.drew
  refine⟨fun u=>Rs u _,m.sub 0,_,fun _ h=>h.ld 0,_,fun _ h=>h.ld 0,_,fun _ h=>h.ld 0,_,fun _ h=>h.ld 0,q7d (by omega) (by omega) (by omega) fun w2 hf2=>⟨(m.fr hf2).sub 0,?_⟩⟩
  have:=hK w2 (m.fr hf2).1
  rw[← qah hn hd hpos,qfd (by omega) (by omega) (by omega),JM] at this
  exact this
theorem q7e {n d n' d':Int}{K:Bool->World->Prop}(hn:I64 n)(hd:I64 d)(hn':I64 n')(hd':I64 d')(hK:∀ w',Fr F0 w w'->K (decide (q04 n d) && decide (q04 n' d')) w'):z1v_sh n d n' d' K w:=by
 refine⟨?_⟩
 intro w1
 have m:Mem w w1 _:=Mem.nil.allocL
 intro w2
 have m:Mem w w2 _:=m.allocL
 refine⟨_,m.ld 1,_,m.ld 1,q4a hn hd fun w3 hf=>?_⟩
 have m:=m.fr hf
 refine⟨_,m.ld 0,_,m.ld 0,q4a hn' hd' fun w4 hf=>?_⟩
 have m:=m.fr hf
 have:=hK w4 m.1
 refine q02.2 ?_
 constructor
 ·intro h
  rw[h,JM] at this
  exact this
 ·intro h
  rw[h,JN] at this
  exact this
def Sm (n:Int):Prop:=-1000000000<n/\n<1000000000
instance (n:Int):Decidable (Sm n):=inferInstanceAs (Decidable (_/\_))
theorem qcy {n d n' d':Int}{K:Bool->World->Prop}(hK:∀ w',Fr F0 w w'->K (decide (Sm n/\Sm d/\Sm n'/\Sm d')) w'):z1y_sh n d n' d' K w:=by
 refine⟨?_⟩
 intro w1
 have m:Mem w w1 _:=Mem.nil.allocL
 intro w2
 have m:Mem w w2 _:=m.allocL
 have:=hK w2 m.1
 refine⟨_,m.ld 1,q34 ?_⟩
 refine q00.2<|⟨fun h1=>?_,fun h1=>by rw[decide_eq_false (fun h=>h1 h.1)] at this; exact this⟩
 refine⟨_,m.ld 1,q34 ?_⟩
 refine q00.2<|⟨fun h2=>?_,fun h2=>by rw[decide_eq_false (fun h=>h2 h.2.1)] at this; exact this⟩
 refine⟨_,m.ld 0,q34 ?_⟩
 refine q00.2<|⟨fun h3=>?_,fun h3=>by rw[decide_eq_false (fun h=>h3 h.2.2.1)] at this; exact this⟩
 refine⟨_,m.ld 0,q34 ?_⟩
 by_cases h4:Sm d'
 ·rw[decide_eq_true (⟨h1,h2,h3,h4⟩:Sm n/\Sm d/\Sm n'/\Sm d')] at this
  show K (decide (Sm d')) w2
  rw[decide_eq_true h4]
  exact this
 ·rw[decide_eq_false (fun h=>h4 h.2.2.2)] at this
  show K (decide (Sm d')) w2
  rw[decide_eq_false h4]
  exact this
end
open Go Pw
theorem qcz {a b:Int}(ha:Sm a)(hb:Sm b):(a*b).natAbs<=999999998000000001:=by
 rw[Int.natAbs_mul]
 obtain⟨h1,h2⟩:=ha
 obtain⟨h3,h4⟩:=hb
 exact Jp (show a.natAbs<=999999999 by omega) (show b.natAbs<=999999999 by omega)
theorem qe5 {a b:Int}(ha:I64 a)(hb:I64 b):a.natAbs*b.natAbs<=85070591730234615865843651857942052864 :=
 Jp (show a.natAbs<=9223372036854775808 from ha.abs) (show b.natAbs<=9223372036854775808 from hb.abs)
theorem pow9:(65536:Nat)^9=22300745198530623141535718272648361505980416:=by decide
theorem qe6 {a b:Int}(ha:I64 a)(hb:I64 b):a.natAbs*b.natAbs<65536^9:=by
 have:=qe5 ha hb
 rw[pow9]
 omega
theorem qlr (x y:Bool)(a b:Nat):(sumS x y a b).2<=a+b:=by
 rcases qa4 x y a b with h | h | h<;>omega
theorem add_lt {x y:Bool}{n d n' d':Int}(hn:I64 n)(hd:I64 d)(hn':I64 n')(hd':I64 d'):(sumS x y (n.natAbs*d'.natAbs) (n'.natAbs*d.natAbs)).2<65536^9:=by
 have h1:=qe5 hn hd'
 have h2:=qe5 hn' hd
 have h3:=qlr x y (n.natAbs*d'.natAbs) (n'.natAbs*d.natAbs)
 rw[pow9]
 omega
theorem q6s (a b:Int):sgn (decide (a<0) != decide (b<0)) (a.natAbs*b.natAbs)=a*b:=by
 rw[← qhs,qds,qds]
theorem big_q {s:Bool}{v:Nat}{num d d':Int}(h:sgn s v=num)(hd:0<d)(hd':0<d') :
  mkRat (sgn (s != (decide (d<0) != decide (d'<0))) v) (d.natAbs*d'.natAbs)=Rat.divInt num (d*d'):=by
 have h1:¬d<0:=by omega
 have h2:¬d'<0:=by omega
 have e:d*d'=((d.natAbs*d'.natAbs:Nat):Int):=by
  rw[Int.natCast_mul,show((d.natAbs:Nat):Int)=d by omega,show((d'.natAbs:Nat):Int)=d' by omega]
 rw[e,Rat.divInt_ofNat,← h]
 simp[h1,h2]
theorem qls {n d n' d':Int}(_:0<d)(_:0<d'):sgn (sumS (decide (n<0) != decide (d'<0)) (decide (n'<0) != decide (d<0)) (n.natAbs*d'.natAbs) (n'.natAbs*d.natAbs)).1 (sumS (decide (n<0) != decide (d'<0)) (decide (n'<0) != decide (d<0)) (n.natAbs*d'.natAbs) (n'.natAbs*d.natAbs)).2=n*d'+n'*d:=by
 rw[← qdr,q6s,q6s]
theorem qlt (n n':Int):sgn (decide (n<0) != decide (n'<0)) (n.natAbs*n'.natAbs)=n*n':=q6s n n'
theorem qka {n d n' d':Int}(h:q04 n d/\q04 n' d'):addQ n d n' d'=fitQ (Rat.divInt (n*d'+n'*d) (d*d')):=by
 have h1:=h.1.1
 have h2:=h.2.1
 rw[qf0 h.1 h.2,q8x h1,q8x h2,Rat.divInt_add_divInt _ _ (by omega) (by omega)]
theorem qkb {n d n' d':Int}(h:q04 n d/\q04 n' d'):mulQ n d n' d'=fitQ (Rat.divInt (n*n') (d*d')):=by
 rw[qf1 h.1 h.2,q8x h.1.1,q8x h.2.1,Rat.divInt_mul_divInt]
section
variable {w w' w0:World}
theorem Kq {n d:Int}{K:Int->Int->Bool->World->Prop}(hn:n.natAbs<9223372036854775808)(hd:d.natAbs<9223372036854775808)(hd0:d≠0)(h:K (fitQ (Rat.divInt n d)).n (fitQ (Rat.divInt n d)).d (fitQ (Rat.divInt n d)).ok w):K (fitQ (Rat.divInt n d)).n (fitQ (Rat.divInt n d)).d true w:=by
 rw[qfd hn hd hd0] at h
 exact h
theorem q4v {n d n' d':Int}{K:Int->Int->Bool->World->Prop}(hn:I64 n)(hd:I64 d)(hn':I64 n')(hd':I64 d')(hK:∀ w',Fr F0 w w'->K (addQ n d n' d').n (addQ n d n' d').d (addQ n d n' d').ok w'):z2d_sh n d n' d' K w:=by
 have hbad:¬(q04 n d/\q04 n' d')->∀ w',Fr F0 w w'->K 0 1 false w':=fun h w' hf=>by
  have:=hK w' hf
  unfold addQ at this
  rw[if_neg h] at this
  exact this
 have hgood:q04 n d/\q04 n' d'->∀ w',Fr F0 w w'->K (fitQ (Rat.divInt (n*d'+n'*d) (d*d'))).n (fitQ (Rat.divInt (n*d'+n'*d) (d*d'))).d (fitQ (Rat.divInt (n*d'+n'*d) (d*d'))).ok w':=fun h w' hf=>by
  rw[← qka h]
  exact hK w' hf
 refine⟨?_⟩
 have m:Mem w w []:=Mem.nil
 intro w1; have m:Mem w w1 _:=m.allocL; clear_value w1
 intro w2; have m:Mem w w2 _:=m.allocL; clear_value w2
 intro w3; have m:Mem w w3 _:=m.allocL; clear_value w3
 refine⟨_,m.ld 2,⟨_,m.ld 2,⟨_,m.ld 1,⟨_,m.ld 1,?_⟩⟩⟩⟩
 refine q7e hn hd hn' hd' fun w8 hf=>?_; have m:=m.fr hf
 refine q02.2 ⟨fun hc1=>?_,fun hc1=>?_⟩
 ·refine q1f fun w10 hf=>?_; have m:=m.fr hf
  refine⟨m.wr 0,?_⟩
  intro w12; have m:Mem w w12 _:=m.set 0; clear_value w12; simp only[J0] at m
  refine⟨m.wr 0,?_⟩
  intro w13; have m:Mem w w13 _:=m.set 0; clear_value w13; simp only[J0,J2] at m
  exact⟨_,m.ld 0,⟨_,m.ld 0,hbad (by intro hh; simp[hh.1,hh.2] at hc1) _ m.1⟩⟩
 ·have hr:q04 n d/\q04 n' d':=by simpa using hc1
  have hd0:=hr.1.1
  have hd0':=hr.2.1
  refine⟨_,m.ld 2,⟨_,m.ld 2,⟨_,m.ld 1,⟨_,m.ld 1,?_⟩⟩⟩⟩
  refine qcy fun w20 hf=>?_; have m:=m.fr hf
  refine q02.2 ⟨fun hc2=>?_,fun hc2=>?_⟩
  ·have ht:=of_decide_eq_true hc2
   have p1:=qcz ht.1 ht.2.2.2
   have p2:=qcz ht.2.2.1 ht.2.1
   have p3:=qcz ht.2.1 ht.2.2.2
   have p4:0<d*d':=Jc hd0 hd0'
   refine⟨_,m.ld 2,⟨_,m.ld 1,⟨q01,⟨_,m.ld 1,⟨_,m.ld 2,⟨q01,⟨q01,⟨_,m.ld 2,⟨_,m.ld 1,⟨q01,?_⟩⟩⟩⟩⟩⟩⟩⟩⟩⟩
   refine q7d (by omega) (by omega) (by omega) fun w28 hf=>?_; have m:=m.fr hf
   refine⟨m.wr 0,?_⟩
   intro w30; have m:Mem w w30 _:=m.set 0; clear_value w30; simp only[J0] at m
   refine⟨m.wr 0,?_⟩
   intro w31; have m:Mem w w31 _:=m.set 0; clear_value w31; simp only[J0,J2] at m
   exact⟨_,m.ld 0,⟨_,m.ld 0,Kq (by omega) (by omega) (by omega) (hgood hr _ m.1)⟩⟩
  ·intro w34; have m:Mem w w34 _:=m.drew; clear_value w34
   refine⟨fun u=>Rs u _,m.sub 0,?_⟩
   refine⟨_,fun _ h=>h.ld 2,?_⟩
   refine⟨_,fun _ h=>h.ld 1,?_⟩
   refine⟨_,fun _ h=>h.ld 1,?_⟩
   refine⟨_,fun _ h=>h.ld 2,?_⟩
   refine⟨_,fun _ h=>h.ld 2,?_⟩
   refine⟨_,fun _ h=>h.ld 1,?_⟩
   refine q0n (by assumption) fun s1 w42 o1 hf=>?_; have m:=m.fr hf; (try have o1:=o1.fr hf)
   refine⟨m.sub 0,?_⟩
   refine q0n (by assumption) fun s2 w44 o2 hf=>?_; have m:=m.fr hf; (try have o1:=o1.fr hf); (try have o2:=o2.fr hf)
   refine⟨m.sub 0,?_⟩
   refine q1z o1.nm o2.nm (by decide) (by decide) fun su1 w46 u1 hf bu1=>?_; have m:=m.fr hf; (try have u1:=u1.fr hf)
   refine⟨m.sub 0,?_⟩
   refine q0n (by assumption) fun s3 w48 o3 hf=>?_; have m:=m.fr hf; (try have o3:=o3.fr hf); (try have u1:=u1.fr hf)
   refine⟨m.sub 0,?_⟩
   refine q0n (by assumption) fun s4 w50 o4 hf=>?_; have m:=m.fr hf; (try have o3:=o3.fr hf); (try have o4:=o4.fr hf); (try have u1:=u1.fr hf)
   refine⟨m.sub 0,?_⟩
   refine q1z o3.nm o4.nm (by decide) (by decide) fun su2 w52 u2 hf bu2=>?_; have m:=m.fr hf; (try have u1:=u1.fr hf); (try have u2:=u2.fr hf)
   refine⟨m.sub 0,?_⟩
   refine q5a u1.nm u2.nm (by decide) fun sv1 w54 v1 hf bv1=>?_; have m:=m.fr hf; (try have v1:=v1.fr hf)
   refine⟨m.sub 0,?_⟩
   refine q0n (by assumption) fun s5 w56 o5 hf=>?_; have m:=m.fr hf; (try have o5:=o5.fr hf); (try have v1:=v1.fr hf)
   refine⟨m.sub 0,?_⟩
   refine q0n (by assumption) fun s6 w58 o6 hf=>?_; have m:=m.fr hf; (try have o5:=o5.fr hf); (try have o6:=o6.fr hf); (try have v1:=v1.fr hf)
   refine⟨m.sub 0,?_⟩
   refine q1z o5.nm o6.nm (by decide) (by decide) fun su3 w60 u3 hf bu3=>?_; have m:=m.fr hf; (try have u3:=u3.fr hf); (try have v1:=v1.fr hf)
   refine⟨m.sub 0,?_⟩
   refine q29 (k:=9) v1 (u3.nm.up (by decide)) (add_lt hn hd hn' hd') (qe6 hd hd') (JJ (by omega) (by omega)) (by decide) fun w62 hf=>?_; have m:=m.fr hf; rw[big_q (num:=n*d'+n'*d) (qls hd0 hd0') hd0 hd0']; refine qgf ?_
   refine⟨m.sub 0,⟨m.wr 0,?_⟩⟩
   intro w65; have m:Mem w w65 _:=m.set 0
   refine⟨m.wr 0,?_⟩
   intro w66; have m:Mem w w66 _:=m.set 0
   exact⟨_,m.ld 0,⟨_,m.ld 0,hgood hr _ m.1⟩⟩
theorem qig {n d n' d':Int}{K:Int->Int->Bool->World->Prop}(hn:I64 n)(hd:I64 d)(hn':I64 n')(hd':I64 d')(hK:∀ w',Fr F0 w w'->K (mulQ n d n' d').n (mulQ n d n' d').d (mulQ n d n' d').ok w'):z2g_sh n d n' d' K w:=by
 have hbad:¬(q04 n d/\q04 n' d')->∀ w',Fr F0 w w'->K 0 1 false w':=fun h w' hf=>by
  have:=hK w' hf
  unfold mulQ at this
  rw[if_neg h] at this
  exact this
 have hgood:q04 n d/\q04 n' d'->∀ w',Fr F0 w w'->K (fitQ (Rat.divInt (n*n') (d*d'))).n (fitQ (Rat.divInt (n*n') (d*d'))).d (fitQ (Rat.divInt (n*n') (d*d'))).ok w':=fun h w' hf=>by
  rw[← qkb h]
  exact hK w' hf
 refine⟨?_⟩
 have m:Mem w w []:=Mem.nil
 intro w1; have m:Mem w w1 _:=m.allocL; clear_value w1
 intro w2; have m:Mem w w2 _:=m.allocL; clear_value w2
 intro w3; have m:Mem w w3 _:=m.allocL; clear_value w3
 refine⟨_,m.ld 2,⟨_,m.ld 2,⟨_,m.ld 1,⟨_,m.ld 1,?_⟩⟩⟩⟩
 refine q7e hn hd hn' hd' fun w8 hf=>?_; have m:=m.fr hf
 refine q02.2 ⟨fun hc1=>?_,fun hc1=>?_⟩
 ·refine q1f fun w10 hf=>?_; have m:=m.fr hf
  refine⟨m.wr 0,?_⟩
  intro w12; have m:Mem w w12 _:=m.set 0; clear_value w12; simp only[J0] at m
  refine⟨m.wr 0,?_⟩
  intro w13; have m:Mem w w13 _:=m.set 0; clear_value w13; simp only[J0,J2] at m
  exact⟨_,m.ld 0,⟨_,m.ld 0,hbad (by intro hh; simp[hh.1,hh.2] at hc1) _ m.1⟩⟩
 ·have hr:q04 n d/\q04 n' d':=by simpa using hc1
  have hd0:=hr.1.1
  have hd0':=hr.2.1
  refine⟨_,m.ld 2,⟨_,m.ld 2,⟨_,m.ld 1,⟨_,m.ld 1,?_⟩⟩⟩⟩
  refine qcy fun w20 hf=>?_; have m:=m.fr hf
  refine q02.2 ⟨fun hc2=>?_,fun hc2=>?_⟩
  ·have ht:=of_decide_eq_true hc2
   have p1:=qcz ht.1 ht.2.2.1
   have p3:=qcz ht.2.1 ht.2.2.2
   have p4:0<d*d':=Jc hd0 hd0'
   refine⟨_,m.ld 2,⟨_,m.ld 1,⟨q01,⟨_,m.ld 2,⟨_,m.ld 1,⟨q01,?_⟩⟩⟩⟩⟩⟩
   refine q7d (by omega) (by omega) (by omega) fun w26 hf=>?_; have m:=m.fr hf
   refine⟨m.wr 0,?_⟩
   intro w28; have m:Mem w w28 _:=m.set 0; clear_value w28; simp only[J0] at m
   refine⟨m.wr 0,?_⟩
   intro w29; have m:Mem w w29 _:=m.set 0; clear_value w29; simp only[J0,J2] at m
   exact⟨_,m.ld 0,⟨_,m.ld 0,Kq (by omega) (by omega) (by omega) (hgood hr _ m.1)⟩⟩
  ·intro w32; have m:Mem w w32 _:=m.drew; clear_value w32
   refine⟨fun u=>Rs u _,m.sub 0,⟨_,fun _ h=>h.ld 2,?_⟩⟩
   refine⟨_,fun _ h=>h.ld 1,?_⟩
   refine⟨_,fun _ h=>h.ld 2,?_⟩
   refine⟨_,fun _ h=>h.ld 1,?_⟩
   refine q0n (by assumption) fun s1 w38 o1 hf=>?_; have m:=m.fr hf; (try have o1:=o1.fr hf)
   refine⟨m.sub 0,?_⟩
   refine q0n (by assumption) fun s2 w40 o2 hf=>?_; have m:=m.fr hf; (try have o1:=o1.fr hf); (try have o2:=o2.fr hf)
   refine⟨m.sub 0,?_⟩
   refine q1z o1.nm o2.nm (by decide) (by decide) fun su1 w42 u1 hf bu1=>?_; have m:=m.fr hf; (try have u1:=u1.fr hf)
   refine⟨m.sub 0,?_⟩
   refine q0n (by assumption) fun s3 w44 o3 hf=>?_; have m:=m.fr hf; (try have o3:=o3.fr hf); (try have u1:=u1.fr hf)
   refine⟨m.sub 0,?_⟩
   refine q0n (by assumption) fun s4 w46 o4 hf=>?_; have m:=m.fr hf; (try have o3:=o3.fr hf); (try have o4:=o4.fr hf); (try have u1:=u1.fr hf)
   refine⟨m.sub 0,?_⟩
   refine q1z o3.nm o4.nm (by decide) (by decide) fun su2 w48 u2 hf bu2=>?_; have m:=m.fr hf; (try have u1:=u1.fr hf); (try have u2:=u2.fr hf)
   refine⟨m.sub 0,?_⟩
   refine q29 (k:=9) (u1.nm.up (by decide)) (u2.nm.up (by decide)) (qe6 hn hn') (qe6 hd hd') (JJ (by omega) (by omega)) (by decide) fun w50 hf=>?_; have m:=m.fr hf; rw[big_q (num:=n*n') (qlt n n') hd0 hd0']; refine qgf ?_
   refine⟨m.sub 0,⟨m.wr 0,?_⟩⟩
   intro w53; have m:Mem w w53 _:=m.set 0
   refine⟨m.wr 0,?_⟩
   intro w54; have m:Mem w w54 _:=m.set 0
   exact⟨_,m.ld 0,⟨_,m.ld 0,hgood hr _ m.1⟩⟩
end
end Go.Proofs.YtfpobpjandjhjaaGreatDoor

namespace Go.Proofs.YtfpobpjandjhjaaGreatDoor
open Go Pw
theorem q9e (n d n' d':Int):sgn (sumS (decide (n<0) != decide (d'<0)) (!(decide (n'<0) != decide (d<0))) (n.natAbs*d'.natAbs) (n'.natAbs*d.natAbs)).1 (sumS (decide (n<0) != decide (d'<0)) (!(decide (n'<0) != decide (d<0))) (n.natAbs*d'.natAbs) (n'.natAbs*d.natAbs)).2=n*d'-n'*d:=by
 have e:∀ (s:Bool) (v:Nat),sgn (!s) v=-sgn s v:=fun s v=>by cases s<;>simp[sgn]
 rw[← qdr,e,q6s,q6s]
 omega
open Go Pw
section
variable {w w' w0:World}
theorem qd0 {x y:Int}{v:Nat}{e:Bool}{bd:Nat}{l:List (Nat × List Value)}{s:Sl}{K:Int->World->Prop}(hv:sgn e v=x-y)(m:Mem w0 w ((bd,[.bool e,.slice s.p s.l s.c]) :: l))(v1:Nm 9 w s v)(_:∀ c,inB s c->¬c=bd)
  (hK:∀ w',Fr F0 w0 w'->K (cmpI x y) w'):z2e_k1 ⟨bd,0,none⟩ K w:=by
 refine⟨⟨s,m.ld 0,q1e v1 (by decide) fun st h1 _=>?_⟩⟩
 have hz:=h1.zero
 have:=hK w m.1
 refine q09.2 ?_
 constructor
 ·intro h0
  have hv0:v=0:=hz.1 (by omega)
  subst hv0
  have:x=y:=by cases e<;>simp[sgn] at hv<;>omega
  rw[q5s this] at *
  assumption
 ·intro h0
  have hv0:v≠0:=fun h=>h0 (by rw[hz.2 h]; rfl)
  refine⟨e,m.ld 0,?_⟩
  cases e
  ·rw[q0h]
   have:y<x:=by simp[sgn] at hv; omega
   rw[q3m this] at *
   assumption
  ·rw[q17]
   have:x<y:=by simp[sgn] at hv; omega
   rw[q43 this] at *
   assumption
theorem qff {n d n' d':Int}{bm bb ba:Nat}{s:Sl}{K:Int->World->Prop}(hn:I64 n)(_:I64 d)(_:I64 n')(hd':I64 d')
  (m:Mem w0 w [(bm,[.bool (decide (n'<0) != decide (d<0)),.slice s.p s.l s.c]),(bb,[.int .i64 n',.int .i64 d']),(ba,[.int .i64 n,.int .i64 d])])
  (uM:Nt 8 w s (n'.natAbs*d.natAbs)) (bd:∀ c,inB s c->¬c=bm)
  (hK:∀ w',Fr F0 w0 w'->K (cmpI (n*d') (n'*d)) w') :
  z2e_k0 ⟨ba,0,none⟩ ⟨bb,0,none⟩ ⟨bm,0,none⟩ K w:=by
 refine⟨?_⟩
 unfold z2e_k0d
 refine⟨_,m.ld 0,⟨m.wr 0,?_⟩⟩
 intro w44; have m:Mem w0 w44 _:=m.set 0; have uM:Nt 8 w44 _ _:=uM.frN (Fr.set (F:=fun c=>c=bm) rfl) bd; clear_value w44; simp only[J0] at m
 intro w45; have m:Mem w0 w45 _:=m.drew; have uM:Nt 8 w45 _ _:=uM.fr Fr.drew; clear_value w45
 refine⟨fun u=>Rs u _,m.sub 0,⟨_,fun _ h=>h.ld 2,⟨_,fun _ h=>h.ld 1,⟨_,fun _ h=>h.ld 0,⟨_,fun _ h=>h.ld 0,⟨?_,?_⟩⟩⟩⟩⟩⟩
 ·refine q0n (by assumption) fun s1 w51 o1 hf=>?_; have m:=m.fr hf; (try have o1:=o1.fr hf); (try have uM:=uM.fr hf)
  refine⟨m.sub 0,⟨?_,?_⟩⟩
  ·refine q0n (by assumption) fun s2 w53 o2 hf=>?_; have m:=m.fr hf; (try have o1:=o1.fr hf); (try have o2:=o2.fr hf); (try have uM:=uM.fr hf)
   refine⟨m.sub 0,⟨?_,?_⟩⟩
   ·have lts:=fun p (hp:p∈_)=>q3d m (p:=p) hp; refine q1z o1.nm o2.nm (by decide) (by decide) fun su1 w55 u1 hf bu1=>?_; have m:=m.fr hf; (try have u1:=u1.fr hf); (try have uM:=uM.fr hf)
    refine⟨m.sub 0,⟨?_,?_⟩⟩
    ·have ltv:=fun p (hp:p∈_)=>q3d m (p:=p) hp; refine q5a u1.nm uM.nm (by decide) fun sv1 w57 v1 hf bv1=>?_; have m:=m.fr hf; (try have v1:=v1.fr hf)
     refine⟨m.sub 0,?_⟩
     intro w59; have m:Mem w0 w59 _:=m.allocL; have v1:Nm 9 w59 _ _:=v1.fr Fr.alloc; clear_value w59
     refine⟨m.sub 1,⟨m.wr 0,?_⟩⟩
     intro w60; have m:Mem w0 w60 _:=m.set 0; have v1:Nm 9 w60 _ _:=v1.frN (Fr.set (F:=fun c=>c=w57.heap.size) rfl) (fun c hc e=>by have h1:=bv1 c hc; have h2:=ltv _ (J1 ..); simp only at h2; omega); clear_value w60; simp only[J0] at m
     refine⟨m.wr 0,?_⟩
     intro w61; have m:Mem w0 w61 _:=m.set 0; have v1:Nm 9 w61 _ _:=v1.frN (Fr.set (F:=fun c=>c=w57.heap.size) rfl) (fun c hc e=>by have h1:=bv1 c hc; have h2:=ltv _ (J1 ..); simp only at h2; omega); clear_value w61; simp only[J0,J2] at m
     exact qd0 (q9e n d n' d') m v1 (fun c hc e=>by have h1:=bv1 c hc; have h2:=ltv _ (J1 ..); simp only at h2; omega) hK
    ·intro w62; have m:Mem w0 w62 _:=m.allocL; (try have u1:Nt 8 w62 _ _:=u1.fr Fr.alloc); (try have uM:Nt 8 w62 _ _:=uM.fr Fr.alloc); (try have v1:Nm 9 w62 _ _:=v1.fr Fr.alloc); clear_value w62
     refine⟨m.sub 1,?_⟩
     have ltv:=fun p (hp:p∈_)=>q3d m (p:=p) hp; refine q5a u1.nm uM.nm (by decide) fun sv1 w63 v1 hf bv1=>?_; have m:=m.fr hf; (try have v1:=v1.fr hf)
     refine⟨m.sub 1,⟨m.wr 0,?_⟩⟩
     intro w65; have m:Mem w0 w65 _:=m.set 0; have v1:Nm 9 w65 _ _:=v1.frN (Fr.set (F:=fun c=>c=w55.heap.size) rfl) (fun c hc e=>by have h1:=bv1 c hc; have h2:=ltv _ (J1 ..); simp only at h2; omega); clear_value w65; simp only[J0] at m
     refine⟨m.wr 0,?_⟩
     intro w66; have m:Mem w0 w66 _:=m.set 0; have v1:Nm 9 w66 _ _:=v1.frN (Fr.set (F:=fun c=>c=w55.heap.size) rfl) (fun c hc e=>by have h1:=bv1 c hc; have h2:=ltv _ (J1 ..); simp only at h2; omega); clear_value w66; simp only[J0,J2] at m
     exact qd0 (q9e n d n' d') m v1 (fun c hc e=>by have h1:=bv1 c hc; have h2:=ltv _ (J1 ..); simp only at h2; omega) hK
   ·intro w67; have m:Mem w0 w67 _:=m.allocL; (try have o1:Nt 4 w67 _ _:=o1.fr Fr.alloc); (try have o2:Nt 4 w67 _ _:=o2.fr Fr.alloc); (try have u1:Nt 8 w67 _ _:=u1.fr Fr.alloc); (try have uM:Nt 8 w67 _ _:=uM.fr Fr.alloc); (try have v1:Nm 9 w67 _ _:=v1.fr Fr.alloc); clear_value w67
    refine⟨m.sub 1,?_⟩
    have lts:=fun p (hp:p∈_)=>q3d m (p:=p) hp; refine q1z o1.nm o2.nm (by decide) (by decide) fun su1 w68 u1 hf bu1=>?_; have m:=m.fr hf; (try have u1:=u1.fr hf); (try have v1:=v1.fr hf); (try have uM:=uM.fr hf)
    refine⟨m.sub 1,?_⟩
    have ltv:=fun p (hp:p∈_)=>q3d m (p:=p) hp; refine q5a u1.nm uM.nm (by decide) fun sv1 w70 v1 hf bv1=>?_; have m:=m.fr hf; (try have v1:=v1.fr hf)
    refine⟨m.sub 1,⟨m.wr 0,?_⟩⟩
    intro w72; have m:Mem w0 w72 _:=m.set 0; have v1:Nm 9 w72 _ _:=v1.frN (Fr.set (F:=fun c=>c=w53.heap.size) rfl) (fun c hc e=>by have h1:=bv1 c hc; have h2:=ltv _ (J1 ..); simp only at h2; omega); clear_value w72; simp only[J0] at m
    refine⟨m.wr 0,?_⟩
    intro w73; have m:Mem w0 w73 _:=m.set 0; have v1:Nm 9 w73 _ _:=v1.frN (Fr.set (F:=fun c=>c=w53.heap.size) rfl) (fun c hc e=>by have h1:=bv1 c hc; have h2:=ltv _ (J1 ..); simp only at h2; omega); clear_value w73; simp only[J0,J2] at m
    exact qd0 (q9e n d n' d') m v1 (fun c hc e=>by have h1:=bv1 c hc; have h2:=ltv _ (J1 ..); simp only at h2; omega) hK
  ·intro w74; have m:Mem w0 w74 _:=m.allocL; (try have o1:Nt 4 w74 _ _:=o1.fr Fr.alloc); (try have o2:Nt 4 w74 _ _:=o2.fr Fr.alloc); (try have u1:Nt 8 w74 _ _:=u1.fr Fr.alloc); (try have uM:Nt 8 w74 _ _:=uM.fr Fr.alloc); (try have v1:Nm 9 w74 _ _:=v1.fr Fr.alloc); clear_value w74
   refine⟨m.sub 1,?_⟩
   refine q0n (by assumption) fun s2 w75 o2 hf=>?_; have m:=m.fr hf; (try have o1:=o1.fr hf); (try have o2:=o2.fr hf); (try have u1:=u1.fr hf); (try have v1:=v1.fr hf); (try have uM:=uM.fr hf)
   refine⟨m.sub 1,?_⟩
   have lts:=fun p (hp:p∈_)=>q3d m (p:=p) hp; refine q1z o1.nm o2.nm (by decide) (by decide) fun su1 w77 u1 hf bu1=>?_; have m:=m.fr hf; (try have u1:=u1.fr hf); (try have v1:=v1.fr hf); (try have uM:=uM.fr hf)
   refine⟨m.sub 1,?_⟩
   have ltv:=fun p (hp:p∈_)=>q3d m (p:=p) hp; refine q5a u1.nm uM.nm (by decide) fun sv1 w79 v1 hf bv1=>?_; have m:=m.fr hf; (try have v1:=v1.fr hf)
   refine⟨m.sub 1,⟨m.wr 0,?_⟩⟩
   intro w81; have m:Mem w0 w81 _:=m.set 0; have v1:Nm 9 w81 _ _:=v1.frN (Fr.set (F:=fun c=>c=w51.heap.size) rfl) (fun c hc e=>by have h1:=bv1 c hc; have h2:=ltv _ (J1 ..); simp only at h2; omega); clear_value w81; simp only[J0] at m
   refine⟨m.wr 0,?_⟩
   intro w82; have m:Mem w0 w82 _:=m.set 0; have v1:Nm 9 w82 _ _:=v1.frN (Fr.set (F:=fun c=>c=w51.heap.size) rfl) (fun c hc e=>by have h1:=bv1 c hc; have h2:=ltv _ (J1 ..); simp only at h2; omega); clear_value w82; simp only[J0,J2] at m
   exact qd0 (q9e n d n' d') m v1 (fun c hc e=>by have h1:=bv1 c hc; have h2:=ltv _ (J1 ..); simp only at h2; omega) hK
 ·intro w83; have m:Mem w0 w83 _:=m.allocL; (try have o1:Nt 4 w83 _ _:=o1.fr Fr.alloc); (try have o2:Nt 4 w83 _ _:=o2.fr Fr.alloc); (try have u1:Nt 8 w83 _ _:=u1.fr Fr.alloc); (try have uM:Nt 8 w83 _ _:=uM.fr Fr.alloc); (try have v1:Nm 9 w83 _ _:=v1.fr Fr.alloc); clear_value w83
  refine⟨m.sub 1,?_⟩
  refine q0n (by assumption) fun s1 w84 o1 hf=>?_; have m:=m.fr hf; (try have o1:=o1.fr hf); (try have o2:=o2.fr hf); (try have u1:=u1.fr hf); (try have v1:=v1.fr hf); (try have uM:=uM.fr hf)
  refine⟨m.sub 1,?_⟩
  refine q0n (by assumption) fun s2 w86 o2 hf=>?_; have m:=m.fr hf; (try have o1:=o1.fr hf); (try have o2:=o2.fr hf); (try have u1:=u1.fr hf); (try have v1:=v1.fr hf); (try have uM:=uM.fr hf)
  refine⟨m.sub 1,?_⟩
  have lts:=fun p (hp:p∈_)=>q3d m (p:=p) hp; refine q1z o1.nm o2.nm (by decide) (by decide) fun su1 w88 u1 hf bu1=>?_; have m:=m.fr hf; (try have u1:=u1.fr hf); (try have v1:=v1.fr hf); (try have uM:=uM.fr hf)
  refine⟨m.sub 1,?_⟩
  have ltv:=fun p (hp:p∈_)=>q3d m (p:=p) hp; refine q5a u1.nm uM.nm (by decide) fun sv1 w90 v1 hf bv1=>?_; have m:=m.fr hf; (try have v1:=v1.fr hf)
  refine⟨m.sub 1,⟨m.wr 0,?_⟩⟩
  intro w92; have m:Mem w0 w92 _:=m.set 0; have v1:Nm 9 w92 _ _:=v1.frN (Fr.set (F:=fun c=>c=w45.heap.size) rfl) (fun c hc e=>by have h1:=bv1 c hc; have h2:=ltv _ (J1 ..); simp only at h2; omega); clear_value w92; simp only[J0] at m
  refine⟨m.wr 0,?_⟩
  intro w93; have m:Mem w0 w93 _:=m.set 0; have v1:Nm 9 w93 _ _:=v1.frN (Fr.set (F:=fun c=>c=w45.heap.size) rfl) (fun c hc e=>by have h1:=bv1 c hc; have h2:=ltv _ (J1 ..); simp only at h2; omega); clear_value w93; simp only[J0,J2] at m
  exact qd0 (q9e n d n' d') m v1 (fun c hc e=>by have h1:=bv1 c hc; have h2:=ltv _ (J1 ..); simp only at h2; omega) hK
theorem qih {n d n' d':Int}{K:Int->World->Prop}(hn:I64 n)(hd:I64 d)(hn':I64 n')(hd':I64 d')(hK:∀ w',Fr F0 w w'->K (cmpQ n d n' d') w'):z2e_sh n d n' d' K w:=by
 have hbad:¬(q04 n d/\q04 n' d')->∀ w',Fr F0 w w'->K 0 w':=fun h w' hf=>by
  have:=hK w' hf
  unfold cmpQ at this
  rw[if_neg h] at this
  exact this
 have hgood:q04 n d/\q04 n' d'->∀ w',Fr F0 w w'->K (cmpI (n*d') (n'*d)) w':=fun h w' hf=>by
  have:=hK w' hf
  unfold cmpQ at this
  rw[if_pos h] at this
  exact this
 refine⟨?_⟩
 unfold z2e_sd
 have m:Mem w w []:=Mem.nil
 intro w1; have m:Mem w w1 _:=m.allocL; clear_value w1
 intro w2; have m:Mem w w2 _:=m.allocL; clear_value w2
 refine⟨_,m.ld 1,⟨_,m.ld 1,⟨_,m.ld 0,⟨_,m.ld 0,?_⟩⟩⟩⟩
 refine q7e hn hd hn' hd' fun w7 hf=>?_; have m:=m.fr hf
 refine q02.2 ⟨fun hc1=>?_,fun hc1=>?_⟩
 ·exact hbad (by intro hh; simp[hh.1,hh.2] at hc1) _ m.1
 ·have hr:q04 n d/\q04 n' d':=by simpa using hc1
  intro w9; have m:Mem w w9 _:=m.drew; clear_value w9
  refine⟨fun u=>Rs u _,m.sub 0,?_⟩
  refine⟨_,fun _ h=>h.ld 0,?_⟩
  refine⟨_,fun _ h=>h.ld 1,?_⟩
  refine⟨?_,?_⟩
  ·refine q0n (by assumption) fun s1 w13 o1 hf=>?_; have m:=m.fr hf; (try have o1:=o1.fr hf)
   refine⟨m.sub 0,?_⟩
   refine⟨?_,?_⟩
   ·refine q0n (by assumption) fun s2 w15 o2 hf=>?_; have m:=m.fr hf; (try have o1:=o1.fr hf); (try have o2:=o2.fr hf)
    refine⟨m.sub 0,?_⟩
    refine⟨?_,?_⟩
    ·have lts:=fun p (hp:p∈_)=>q3d m (p:=p) hp; refine q1z o1.nm o2.nm (by decide) (by decide) fun su1 w17 u1 hf bu1=>?_; have m:=m.fr hf; (try have u1:=u1.fr hf)
     refine⟨m.sub 0,?_⟩
     intro w19; have m:Mem w w19 _:=m.allocL; have u1:Nt 8 w19 _ _:=u1.fr Fr.alloc; clear_value w19
     refine⟨m.sub 1,?_⟩
     refine⟨m.wr 0,?_⟩
     intro w20; have m:Mem w w20 _:=m.set 0; have u1:Nt 8 w20 _ _:=u1.frN (Fr.set (F:=fun c=>c=w17.heap.size) rfl) (fun c hc e=>by have h1:=bu1 c hc; have h2:=lts _ (J1 ..); simp only at h2; omega); clear_value w20; simp only[J0] at m
     refine⟨m.wr 0,?_⟩
     intro w21; have m:Mem w w21 _:=m.set 0; have u1:Nt 8 w21 _ _:=u1.frN (Fr.set (F:=fun c=>c=w17.heap.size) rfl) (fun c hc e=>by have h1:=bu1 c hc; have h2:=lts _ (J1 ..); simp only at h2; omega); clear_value w21; simp only[J0,J2] at m
     exact qff hn hd hn' hd' m u1 (fun c hc e=>by have h1:=bu1 c hc; have h2:=lts _ (J1 ..); simp only at h2; omega) (hgood hr)
    ·intro w22; have m:Mem w w22 _:=m.allocL; (try have o1:Nt 4 w22 _ _:=o1.fr Fr.alloc); (try have o2:Nt 4 w22 _ _:=o2.fr Fr.alloc); (try have u1:Nt 8 w22 _ _:=u1.fr Fr.alloc); clear_value w22
     refine⟨m.sub 1,?_⟩
     have lts:=fun p (hp:p∈_)=>q3d m (p:=p) hp; refine q1z o1.nm o2.nm (by decide) (by decide) fun su1 w23 u1 hf bu1=>?_; have m:=m.fr hf; (try have u1:=u1.fr hf)
     refine⟨m.sub 1,⟨m.wr 0,?_⟩⟩
     intro w25; have m:Mem w w25 _:=m.set 0; have u1:Nt 8 w25 _ _:=u1.frN (Fr.set (F:=fun c=>c=w15.heap.size) rfl) (fun c hc e=>by have h1:=bu1 c hc; have h2:=lts _ (J1 ..); simp only at h2; omega); clear_value w25; simp only[J0] at m
     refine⟨m.wr 0,?_⟩
     intro w26; have m:Mem w w26 _:=m.set 0; have u1:Nt 8 w26 _ _:=u1.frN (Fr.set (F:=fun c=>c=w15.heap.size) rfl) (fun c hc e=>by have h1:=bu1 c hc; have h2:=lts _ (J1 ..); simp only at h2; omega); clear_value w26; simp only[J0,J2] at m
     exact qff hn hd hn' hd' m u1 (fun c hc e=>by have h1:=bu1 c hc; have h2:=lts _ (J1 ..); simp only at h2; omega) (hgood hr)
   ·intro w27; have m:Mem w w27 _:=m.allocL; (try have o1:Nt 4 w27 _ _:=o1.fr Fr.alloc); (try have o2:Nt 4 w27 _ _:=o2.fr Fr.alloc); (try have u1:Nt 8 w27 _ _:=u1.fr Fr.alloc); clear_value w27
    refine⟨m.sub 1,?_⟩
    refine q0n (by assumption) fun s2 w28 o2 hf=>?_; have m:=m.fr hf; (try have o1:=o1.fr hf); (try have o2:=o2.fr hf); (try have u1:=u1.fr hf)
    refine⟨m.sub 1,?_⟩
    have lts:=fun p (hp:p∈_)=>q3d m (p:=p) hp; refine q1z o1.nm o2.nm (by decide) (by decide) fun su1 w30 u1 hf bu1=>?_; have m:=m.fr hf; (try have u1:=u1.fr hf)
    refine⟨m.sub 1,⟨m.wr 0,?_⟩⟩
    intro w32; have m:Mem w w32 _:=m.set 0; have u1:Nt 8 w32 _ _:=u1.frN (Fr.set (F:=fun c=>c=w13.heap.size) rfl) (fun c hc e=>by have h1:=bu1 c hc; have h2:=lts _ (J1 ..); simp only at h2; omega); clear_value w32; simp only[J0] at m
    refine⟨m.wr 0,?_⟩
    intro w33; have m:Mem w w33 _:=m.set 0; have u1:Nt 8 w33 _ _:=u1.frN (Fr.set (F:=fun c=>c=w13.heap.size) rfl) (fun c hc e=>by have h1:=bu1 c hc; have h2:=lts _ (J1 ..); simp only at h2; omega); clear_value w33; simp only[J0,J2] at m
    exact qff hn hd hn' hd' m u1 (fun c hc e=>by have h1:=bu1 c hc; have h2:=lts _ (J1 ..); simp only at h2; omega) (hgood hr)
  ·intro w34; have m:Mem w w34 _:=m.allocL; (try have o1:Nt 4 w34 _ _:=o1.fr Fr.alloc); (try have o2:Nt 4 w34 _ _:=o2.fr Fr.alloc); (try have u1:Nt 8 w34 _ _:=u1.fr Fr.alloc); clear_value w34
   refine⟨m.sub 1,?_⟩
   refine q0n (by assumption) fun s1 w35 o1 hf=>?_; have m:=m.fr hf; (try have o1:=o1.fr hf); (try have o2:=o2.fr hf); (try have u1:=u1.fr hf)
   refine⟨m.sub 1,?_⟩
   refine q0n (by assumption) fun s2 w37 o2 hf=>?_; have m:=m.fr hf; (try have o1:=o1.fr hf); (try have o2:=o2.fr hf); (try have u1:=u1.fr hf)
   refine⟨m.sub 1,?_⟩
   have lts:=fun p (hp:p∈_)=>q3d m (p:=p) hp; refine q1z o1.nm o2.nm (by decide) (by decide) fun su1 w39 u1 hf bu1=>?_; have m:=m.fr hf; (try have u1:=u1.fr hf)
   refine⟨m.sub 1,⟨m.wr 0,?_⟩⟩
   intro w41; have m:Mem w w41 _:=m.set 0; have u1:Nt 8 w41 _ _:=u1.frN (Fr.set (F:=fun c=>c=w9.heap.size) rfl) (fun c hc e=>by have h1:=bu1 c hc; have h2:=lts _ (J1 ..); simp only at h2; omega); clear_value w41; simp only[J0] at m
   refine⟨m.wr 0,?_⟩
   intro w42; have m:Mem w w42 _:=m.set 0; have u1:Nt 8 w42 _ _:=u1.frN (Fr.set (F:=fun c=>c=w9.heap.size) rfl) (fun c hc e=>by have h1:=bu1 c hc; have h2:=lts _ (J1 ..); simp only at h2; omega); clear_value w42; simp only[J0,J2] at m
   exact qff hn hd hn' hd' m u1 (fun c hc e=>by have h1:=bu1 c hc; have h2:=lts _ (J1 ..); simp only at h2; omega) (hgood hr)
theorem qe7 {n d:Int}{K:Int->World->Prop}(hn:I64 n)(hd:I64 d)(hK:∀ w',Fr F0 w w'->K (q1w n d) w'):z1i_sh n d K w:=by
 unfold q1w at hK
 refine⟨?_⟩
 intro w1
 have m:Mem w w1 _:=Mem.nil.alloc
 refine⟨_,m.ld 0,_,m.ld 0,q4a hn hd fun w2 hf=>?_⟩
 have m:Mem w w2 _:=m.fr hf
 by_cases h:q04 n d
 ·rw[if_pos h] at hK
  rw[decide_eq_true h,JL,q0h]
  have hpos:=h.1
  have hb1:n / d<=9223372036854775807/\-9223372036854775808<=n / d:=by
   have a1:=hn.1
   have a2:=hn.2
   constructor
   ·rcases J8 n 0 with hh | hh
    ·have:=J9 hh hpos; omega
    ·have:=Int.ediv_le_self d hh; omega
   ·rw[Int.le_ediv_iff_mul_le hpos]
    have:-9223372036854775808*d<=-9223372036854775808*1:=Int.mul_le_mul_of_nonpos_left (by omega) (by omega)
    omega
  obtain⟨f1,f2⟩:=qa6 (n:=n) hpos
  have hq:I64 (Ja n d):=by
   by_cases hr:Jd n d<0
   ·have h1:=f1 hr
    have h2:n<0:=by
     rcases J8 n 0 with hh | hh
     ·exact hh
     ·have:=Int.tmod_nonneg d hh
      omega
    have h3:=J9 h2 hpos
    unfold I64
    omega
   ·have h1:=f2 hr
    unfold I64
    omega
  refine⟨_,m.ld 0,_,m.ld 0,by omega,q01 hq.1 hq.2,_,m.ld 0,_,m.ld 0,by omega,q00.2 ?_⟩
  constructor
  ·intro hr
   rw[f1 hr]
   exact⟨q01,hK w2 m.1⟩
  ·intro hr
   rw[f2 hr]
   exact hK w2 m.1
 ·rw[if_neg h] at hK
  rw[decide_eq_false h,JK,q17]
  exact hK w2 m.1
end
end Go.Proofs.YtfpobpjandjhjaaGreatDoor
