/- The reference's bound of a prefix. Conditions: none. -/
import Derived.Test.YtfpobpjandjhjaaGreatDoorCXZ
import Derived.Test.YtfpobpjandjhjaaGreatDoorRXV
import Derived.Lib.ItoaMem
import Derived.Lib.AtoiAllCases
import Derived.Lib.IndexBytes
import Derived.Lib.IndexMore
open List renaming set_cons_zero->J0,set_cons_succ->J1,getElem?_eq_getElem->J2,drop_eq_getElem_cons->J3,length_eq_zero_iff->J4,nil_append->J5,drop_of_length_le->J6,take_length->J7,replicate->J8,mem_cons->J9,getElem_mem->Ja,not_mem_nil->Jb,countP_le_length->Jc,mem_iff_getElem->Jd,append_nil->Je,cons_append->Jf
open Bool renaming true_and->Jg,false_and->Jh,and_eq_true_iff->Ji,false_or->Jj,and_eq_true->Jk,and_assoc->Jl,not_true->Jm
namespace Go.Proofs.YtfpobpjandjhjaaGreatDoor
open Go Pw
theorem q86 {n d:Int}(h:q04 n d)(hn:I64 n)(hd:I64 d):mulQ 1 1 n d=⟨n,d,true⟩:=by
 unfold mulQ
 rw[if_pos ⟨q0k 1,h⟩,q5v,show((1:Int):Rat)*val n d=val n d by grind]
 unfold fitQ
 have e1:=q70 h
 have e2:=q71 h
 unfold I64 at hn hd
 rw[if_pos (by omega),e1,e2]
def upR (p:Pr)(f:List Int)(a b:Int):Int × Bool:=match (if q0g p && q4f p p.lots f then upB p f a b else none) with
 | some n=>(n,true)
 | none=>(0,false)
section
variable {w w' w0:World}{s0 s1 s2 s5:Sl}{p:Pr}{f:List Int}{bb sb db pb cb xb mb:Nat}{s st x:RR}{dn dd:Int}{c:Ch}
theorem q1p {n d a b a' b':Int}{K:Int->Int->Bool->World->Prop}(hn:I64 n)(hd:I64 d)(ha:I64 a)(hb:I64 b)(ha':I64 a')(hb':I64 b')
  (hK:∀ w',Fr F0 w w'->K (q06 ⟨n,d,true⟩ (a,b) (a',b')).n (q06 ⟨n,d,true⟩ (a,b) (a',b')).d (q06 ⟨n,d,true⟩ (a,b) (a',b')).ok w'):z2l_sh n d a b a' b' K w:=by
 have hm:=qbj a b a' b'
 have hfin:∀ {ok:Bool} (w':World),Fr F0 w w'->ok=(q06 ⟨n,d,true⟩ (a,b) (a',b')).ok->K (q06 ⟨n,d,true⟩ (a,b) (a',b')).n (q06 ⟨n,d,true⟩ (a,b) (a',b')).d ok w':=fun w' hf e=>e ▸ hK w' hf
 have m:Mem w w []:=Mem.nil
 refine⟨?_⟩
 intro w1; have m:Mem w w1 _:=m.allocL
 intro w2; have m:Mem w w2 _:=m.allocL
 intro w3; have m:Mem w w3 _:=m.allocL
 intro w4; have m:Mem w w4 _:=m.allocL
 refine⟨_,m.ld 2,⟨_,m.ld 2,⟨_,m.ld 1,⟨_,m.ld 1,?_⟩⟩⟩⟩
 refine qig ha hb ha' hb' fun w9 hf=>?_; have m:=m.fr hf
 intro w12; have m:Mem w w12 _:=m.allocL
 refine⟨m.wr 0,?_⟩
 intro w13; have m:Mem w w13 _:=m.set 0
 refine⟨m.wr 0,?_⟩
 intro w14; have m:Mem w w14 _:=m.set 0
 refine⟨_,m.ld 4,⟨_,m.ld 4,⟨_,m.ld 0,⟨_,m.ld 0,?_⟩⟩⟩⟩
 refine q4v hn hd hm.1 hm.2 fun w19 hf=>?_; have m:=m.fr hf
 intro w22; have m:Mem w w22 _:=m.allocL
 refine⟨m.wr 0,?_⟩
 intro w23; have m:Mem w w23 _:=m.set 0
 refine⟨m.wr 0,?_⟩
 intro w24; have m:Mem w w24 _:=m.set 0
 refine⟨_,m.ld 0,⟨_,m.ld 0,q02.2 ⟨fun hc1=>?_,fun hc1=>?_⟩⟩⟩
 ·refine⟨m.wr 2,?_⟩
  intro w27; have m:Mem w w27 _:=m.set 2
  refine⟨m.wr 2,?_⟩
  intro w28; have m:Mem w w28 _:=m.set 2
  exact⟨_,m.ld 2,⟨_,m.ld 2,hfin _ m.1 (by simp[q06,hc1])⟩⟩
 ·refine⟨m.wr 2,?_⟩
  intro w29; have m:Mem w w29 _:=m.set 2
  refine⟨m.wr 2,?_⟩
  intro w30; have m:Mem w w30 _:=m.set 2
  exact⟨_,m.ld 2,⟨_,m.ld 2,hfin _ m.1 (by simp[q06,hc1])⟩⟩
abbrev UL (sb db pb:Nat)(s:RR)(dn dd:Int)(C:List Value):List (Nat × List Value):=[(sb,rrC s.n s.d),(db,rrC dn dd),(pb,C)]
theorem qfg {C:List Value}{ok:Bool}{i k:Nat}{N2:Sl->Addr->Addr->Addr->Bool->Int->Addr->Int->World->Prop}{N1:Sl->Addr->Addr->Addr->Bool->Int->World->Prop}{K:Int->Bool->World->Prop}
  (m:Mem w0 w ((xb,rrC x.n x.d) :: (cb,encC c) :: (bb,rrC st.n st.d) :: UL sb db pb s dn dd C)) (hk:k<2^40)
  (hN:∀ w',Mem w0 w' ((bb,rrC x.n x.d) :: UL sb db pb s dn dd C)->N2 s5 ⟨pb,0,none⟩ ⟨db,0,none⟩ ⟨sb,0,none⟩ ok i ⟨bb,0,none⟩ ((k:Int)+1) w') :
  z1r_k6 s5 ⟨pb,0,none⟩ ⟨db,0,none⟩ ⟨sb,0,none⟩ ok i ⟨bb,0,none⟩ k ⟨xb,0,none⟩ N2 N1 K w:=by
 refine⟨⟨_,m.ld 0,_,m.ld 0,m.wr 2,?_⟩⟩
 intro w1; have m:Mem w0 w1 _:=m.set 2
 refine⟨m.wr 2,?_⟩
 intro w2; have m:Mem w0 w2 _:=m.set 2
 exact⟨q01,hN w2 (m.dr 2)⟩
theorem qkc {C:List Value}{i k:Nat}{N2:Sl->Addr->Addr->Addr->Bool->Int->Addr->Int->World->Prop}{N1:Sl->Addr->Addr->Addr->Bool->Int->World->Prop}{K:Int->Bool->World->Prop}
  (m:Mem w0 w ((xb,rrC x.n x.d) :: (cb,encC c) :: (bb,rrC st.n st.d) :: UL sb db pb s dn dd C)) (hk:k<2^40) (el:s5.l=f.length) (hx:I64 x.n/\I64 x.d) (hst:I64 st.n/\I64 st.d)
  (hN:∀ w' (st':RR),st'=(if i<f.length\/0<cmpQ x.n x.d st.n st.d then x else ⟨st.n,st.d,x.ok⟩)->Mem w0 w' ((bb,rrC st'.n st'.d) :: UL sb db pb s dn dd C)->N2 s5 ⟨pb,0,none⟩ ⟨db,0,none⟩ ⟨sb,0,none⟩ st'.ok i ⟨bb,0,none⟩ ((k:Int)+1) w') :
  z1r_k5 s5 ⟨pb,0,none⟩ ⟨db,0,none⟩ ⟨sb,0,none⟩ x.ok i ⟨bb,0,none⟩ k ⟨xb,0,none⟩ N2 N1 K w:=by
 refine⟨q00.2 ⟨fun h=>qfg m hk fun w' m'=>hN w' x (if_pos (.inl (by omega))).symm m',fun h=>⟨_,m.ld 0,_,m.ld 0,_,m.ld 2,_,m.ld 2,qih hx.1 hx.2 hst.1 hst.2 fun w1 hf=>?_⟩⟩⟩
 have m:=m.fr hf
 refine q00.2 ⟨fun hc=>qfg m hk fun w' m'=>hN w' x (if_pos (.inr hc)).symm m',fun hc=>⟨q01,hN w1 ⟨st.n,st.d,x.ok⟩ (if_neg ?_).symm (m.dr 2)⟩⟩
 rintro (q | q)
 ·omega
 ·exact hc q
theorem qkd {i k:Nat}{N2:Sl->Addr->Addr->Addr->Bool->Int->Addr->Int->World->Prop}{N1:Sl->Addr->Addr->Addr->Bool->Int->World->Prop}{K:Int->Bool->World->Prop}
  (hp:q03 p) (hc:c∈p.ch) (hdn:I64 dn) (hdd:I64 dd) (hst:I64 st.n/\I64 st.d) (el:s5.l=f.length) (hk:k<2^40)
  (m:Mem w0 w ((cb,encC c) :: (bb,rrC st.n st.d) :: UL sb db pb s dn dd (prC s0 s1 s2 p.most p.budget))) (hx:x=q06 ⟨q3g p c,1,st.ok⟩ (dn,dd) (-c.price,1))
  (hN:∀ w' (st':RR),st'=(if i<f.length\/0<cmpQ x.n x.d st.n st.d then x else ⟨st.n,st.d,x.ok⟩)->Mem w0 w' ((bb,rrC st'.n st'.d) :: UL sb db pb s dn dd (prC s0 s1 s2 p.most p.budget))->N2 s5 ⟨pb,0,none⟩ ⟨db,0,none⟩ ⟨sb,0,none⟩ st'.ok i ⟨bb,0,none⟩ ((k:Int)+1) w') :
  z1r_k3 s5 ⟨pb,0,none⟩ ⟨db,0,none⟩ ⟨sb,0,none⟩ st.ok i ⟨bb,0,none⟩ k ⟨cb,0,none⟩ N2 N1 K w:=by
 refine⟨?_⟩
 unfold z1r_k3d
 have hb:=q4p hp hc
 have hprW:=(hp.ch c hc).2.1
 have hbu:=hp.budget
 have ⟨b1,b2⟩:0<=p.budget/\p.budget<=1000000000:=hbu
 have ⟨p1,p2⟩:0<=c.price/\c.price<=1000000000:=hprW
 have hnet:I64 (c.pts*(p.budget+1)-c.price):=⟨by omega,by omega⟩
 have hpr:I64 (-c.price):=⟨by omega,by omega⟩
 have hone:I64 1:=⟨by decide,by decide⟩
 have hxi:I64 x.n/\I64 x.d:=hx ▸ q13 _ _ _
 have fin:∀ {w' xb},Mem w0 w' ((xb,[.int .i64 (q06 ⟨c.pts*(p.budget+1)-c.price,1,true⟩ (dn,dd) (-c.price,1)).n,.int .i64 (q06 ⟨c.pts*(p.budget+1)-c.price,1,true⟩ (dn,dd) (-c.price,1)).d]) :: (cb,encC c) :: (bb,rrC st.n st.d) :: UL sb db pb s dn dd (prC s0 s1 s2 p.most p.budget)) ->
   z1r_k4 s5 ⟨pb,0,none⟩ ⟨db,0,none⟩ ⟨sb,0,none⟩ st.ok i ⟨bb,0,none⟩ k ⟨xb,0,none⟩ (q06 ⟨c.pts*(p.budget+1)-c.price,1,true⟩ (dn,dd) (-c.price,1)).ok N2 N1 K w':=by
  intro w' xb m'
  have e1:(q06 ⟨c.pts*(p.budget+1)-c.price,1,true⟩ (dn,dd) (-c.price,1)).n=x.n:=by rw[hx]; rfl
  have e2:(q06 ⟨c.pts*(p.budget+1)-c.price,1,true⟩ (dn,dd) (-c.price,1)).d=x.d:=by rw[hx]; rfl
  have e3:x.ok=(st.ok && (q06 ⟨c.pts*(p.budget+1)-c.price,1,true⟩ (dn,dd) (-c.price,1)).ok):=by rw[hx]; simp[q06,q3g]
  rw[e1,e2] at m'
  refine⟨?_⟩
  have h5:=qkc (N1:=N1) (K:=K) m' hk el hxi hst hN
  rw[e3] at h5
  refine q02.2 ⟨fun hc=>?_,fun hc=>?_⟩
  ·rw[hc,Jg] at h5; exact h5
  ·rw[hc,Jh] at h5; exact h5
 intro w83; have m:Mem w0 w83 _:=m.drew
 refine⟨fun u=>Rs u _,m.sub 0,⟨_,fun _ h=>h.ld 0,⟨_,fun _ h=>h.ld 4,⟨q01,⟨q01,⟨_,fun _ h=>h.ld 0,⟨q01,⟨_,fun _ h=>h.ld 3,⟨_,fun _ h=>h.ld 3,⟨_,fun _ h=>h.ld 0,⟨q01,⟨?_,?_⟩⟩⟩⟩⟩⟩⟩⟩⟩⟩⟩⟩
 ·refine q1f fun w91 hf=>?_; have m:=m.fr hf
  refine⟨m.sub 0,⟨?_,?_⟩⟩
  ·refine q1f fun w93 hf=>?_; have m:=m.fr hf
   refine⟨m.sub 0,⟨?_,?_⟩⟩
   ·refine q1p hnet hone hdn hdd hpr hone fun w95 hf=>?_; have m:=m.fr hf
    refine⟨m.sub 0,?_⟩
    intro w98; have m:Mem w0 w98 _:=m.allocL
    refine⟨m.sub 1,⟨m.wr 0,?_⟩⟩
    intro w99; have m:Mem w0 w99 _:=m.set 0
    refine⟨m.wr 0,?_⟩
    intro w100; have m:Mem w0 w100 _:=m.set 0
    exact fin m
   ·intro w101; have m:Mem w0 w101 _:=m.allocL
    refine⟨m.sub 1,?_⟩
    refine q1p hnet hone hdn hdd hpr hone fun w102 hf=>?_; have m:=m.fr hf
    refine⟨m.sub 1,⟨m.wr 0,?_⟩⟩
    intro w105; have m:Mem w0 w105 _:=m.set 0
    refine⟨m.wr 0,?_⟩
    intro w106; have m:Mem w0 w106 _:=m.set 0
    exact fin m
  ·intro w107; have m:Mem w0 w107 _:=m.allocL
   refine⟨m.sub 1,?_⟩
   refine q1f fun w108 hf=>?_; have m:=m.fr hf
   refine⟨m.sub 1,?_⟩
   refine q1p hnet hone hdn hdd hpr hone fun w110 hf=>?_; have m:=m.fr hf
   refine⟨m.sub 1,⟨m.wr 0,?_⟩⟩
   intro w113; have m:Mem w0 w113 _:=m.set 0
   refine⟨m.wr 0,?_⟩
   intro w114; have m:Mem w0 w114 _:=m.set 0
   exact fin m
 ·intro w115; have m:Mem w0 w115 _:=m.allocL
  refine⟨m.sub 1,?_⟩
  refine q1f fun w116 hf=>?_; have m:=m.fr hf
  refine⟨m.sub 1,?_⟩
  refine q1f fun w118 hf=>?_; have m:=m.fr hf
  refine⟨m.sub 1,?_⟩
  refine q1p hnet hone hdn hdd hpr hone fun w120 hf=>?_; have m:=m.fr hf
  refine⟨m.sub 1,⟨m.wr 0,?_⟩⟩
  intro w123; have m:Mem w0 w123 _:=m.set 0
  refine⟨m.wr 0,?_⟩
  intro w124; have m:Mem w0 w124 _:=m.set 0
  exact fin m
theorem qke {i:Nat}{N1:Sl->Addr->Addr->Addr->Bool->Int->World->Prop}{K:Int->Bool->World->Prop}
  (hp:q03 p) (h:PF w0 s0 s1 s2 s5 p f) (hil:i<p.lots.length) (hdn:I64 dn) (hdd:I64 dd) (hs:I64 s.n/\I64 s.d)
  (m:Mem w0 w ((bb,rrC 0 1) :: UL sb db pb s dn dd (prC s0 s1 s2 p.most p.budget)))
  (hN:∀ w' (s':RR),s'=q4r p f (dn,dd) i p.lots[i] s->Mem w0 w' (UL sb db pb s' dn dd (prC s0 s1 s2 p.most p.budget))->N1 s5 ⟨pb,0,none⟩ ⟨db,0,none⟩ ⟨sb,0,none⟩ s'.ok ((i:Int)+1) w') :
  z1r_l2 s5 ⟨pb,0,none⟩ ⟨db,0,none⟩ ⟨sb,0,none⟩ s.ok i ⟨bb,0,none⟩ 0 N1 K w:=by
 have l1:=h.pv.l1; have l5:=h.lt; have l0:=h.pv.l0
 have e1:=h.pv.ch.len; have e5:=h.tk.len
 have hzero:I64 0:=⟨by decide,by decide⟩
 have hone:I64 1:=⟨by decide,by decide⟩
 refine⟨⟨fun ok j w'=>∃ (j':Nat) (st:RR),j=j'/\ok=st.ok/\j'<=p.ch.length/\(I64 st.n/\I64 st.d)/\q1c p f (dn,dd) i p.lots[i] j' (p.ch.drop j') st=q1c p f (dn,dd) i p.lots[i] 0 p.ch ⟨0,1,s.ok⟩/\Mem w0 w' ((bb,rrC st.n st.d) :: UL sb db pb s dn dd (prC s0 s1 s2 p.most p.budget)),fun _ j _=>p.ch.length-j.toNat,
  ⟨0,⟨0,1,s.ok⟩,rfl,rfl,by omega,⟨hzero,hone⟩,by simp,m⟩,?_⟩⟩
 rintro ok j w2 ⟨j,st,rfl,rfl,hj,hst,he,m⟩
 unfold z1r_b2
 refine⟨s1,m.ld 3,q00.2 ⟨fun hlt=>?_,fun hge=>?_⟩⟩
 ·have hlt:j<p.ch.length:=by omega
  have hcm:=Ja hlt
  rw[J3 hlt,q1c] at he
  refine⟨s1,m.ld 3,VC.ld (h.fr m.1).pv.ch j rfl hlt fun a hc=>?_⟩
  obtain⟨c0,c1,c2,c3⟩:=hc w2 Fr.refl
  refine⟨_,c0,_,c1,_,c2,_,c3,q19 rfl m fun w3 m3=>?_⟩
  have m3:Mem w0 w3 ((w2.heap.size,encC p.ch[j]) :: (bb,rrC st.n st.d) :: UL sb db pb s dn dd (prC s0 s1 s2 p.most p.budget)):=m3
  intro w4; have m3:Mem w0 w4 _:=m3.drew
  have hnext:∀ {w4:World} {st':RR},q28 p f (dn,dd) i p.lots[i] st j p.ch[j]=st'->Mem w0 w4 ((bb,rrC st'.n st'.d) :: UL sb db pb s dn dd (prC s0 s1 s2 p.most p.budget)) ->
    (((s5=s5/\(⟨pb,0,none⟩:Addr)=⟨pb,0,none⟩/\(⟨db,0,none⟩:Addr)=⟨db,0,none⟩/\(⟨sb,0,none⟩:Addr)=⟨sb,0,none⟩/\(i:Int)=i/\(⟨bb,0,none⟩:Addr)=⟨bb,0,none⟩/\True) /\
    ∃ (j':Nat) (st:RR),(j:Int)+1=j'/\st'.ok=st.ok/\j'<=p.ch.length/\(I64 st.n/\I64 st.d)/\q1c p f (dn,dd) i p.lots[i] j' (p.ch.drop j') st=q1c p f (dn,dd) i p.lots[i] 0 p.ch ⟨0,1,s.ok⟩/\Mem w0 w4 ((bb,rrC st.n st.d) :: UL sb db pb s dn dd (prC s0 s1 s2 p.most p.budget)))/\p.ch.length-((j:Int)+1).toNat<p.ch.length-(j:Int).toNat) :=
   fun {w4 st'} hb m4=>⟨⟨⟨rfl,rfl,rfl,rfl,rfl,rfl,trivial⟩,j+1,st',by omega,rfl,by omega,hb ▸ q8z hst,by rw[← hb]; exact he,m4⟩,by omega⟩
  have h3:=h.fr m3.1
  refine⟨_,m3.ld 0,s0,m3.ld 4,VI.ld h3.pv.lots i rfl hil ?_⟩
  have hgo:∀ {N2:Sl->Addr->Addr->Addr->Bool->Int->Addr->Int->World->Prop},(∀ w4 st',q28 p f (dn,dd) i p.lots[i] st j p.ch[j]=st'->Mem w0 w4 ((bb,rrC st'.n st'.d) :: UL sb db pb s dn dd (prC s0 s1 s2 p.most p.budget))->N2 s5 ⟨pb,0,none⟩ ⟨db,0,none⟩ ⟨sb,0,none⟩ st'.ok i ⟨bb,0,none⟩ ((j:Int)+1) w4)->¬(p.ch[j].lot≠p.lots[i]\/(i<f.length/\f.getD i 0≠(j:Int)))->z1r_k3 s5 ⟨pb,0,none⟩ ⟨db,0,none⟩ ⟨sb,0,none⟩ st.ok i ⟨bb,0,none⟩ j ⟨w2.heap.size,0,none⟩ N2 N1 K w4:=fun {N2} hN2 hn =>
   qkd (f:=f) hp hcm hdn hdd hst e5 (by omega) m3 rfl fun w5 st' hst' m5=>hN2 w5 st' (by unfold q28; rw[if_neg hn]; exact hst'.symm) m5
  refine q0u.2 ⟨fun hne=>⟨q01,hnext (st':=st) ?_ (m3.dr 1)⟩,fun hlot=>q00.2 ⟨fun hdec=>?_,fun hdec=>hgo (fun w4 st'=>hnext) ?_⟩⟩
  ·unfold q28
   rw[if_pos (.inl hne)]
  ·have hif:i<f.length:=by omega
   have hg:f.getD i 0=f[i]:=by simp[hif]
   refine VI.ld h3.tk i rfl hif (q0u.2 ⟨fun hne=>⟨q01,hnext (st':=st) ?_ (m3.dr 1)⟩,fun heq=>hgo (fun w4 st'=>hnext) ?_⟩)
   ·unfold q28
    rw[if_pos (.inr ⟨hif,by rw[hg]; exact hne⟩)]
   ·rintro (q | q)
    ·exact q hlot
    ·rw[hg] at q; exact q.2 heq
  ·rintro (q | q)
   ·exact q hlot
   ·omega
 ·have:j=p.ch.length:=by omega
  subst this
  rw[J6 (Nat.le_refl _),q1c] at he
  have hr:q04 st.n st.d:=he ▸ q46 _ _ _ (q0k 0)
  refine⟨_,m.ld 1,_,m.ld 1,_,m.ld 0,_,m.ld 0,q4v hs.1 hs.2 hst.1 hst.2 fun w3 hf=>?_⟩
  have m:=m.fr hf
  have hls:q4r p f (dn,dd) i p.lots[i] s=⟨(addQ s.n s.d st.n st.d).n,(addQ s.n s.d st.n st.d).d,st.ok && (addQ s.n s.d st.n st.d).ok⟩:=by
   unfold q4r q06
   rw[← he]
   simp only[q86 hr hst.1 hst.2,Jg]
  intro w4; have m:Mem w0 w4 _:=m.allocL
  refine⟨m.wr 0,?_⟩
  intro w5; have m:Mem w0 w5 _:=m.set 0
  refine⟨m.wr 0,?_⟩
  intro w6; have m:Mem w0 w6 _:=m.set 0
  refine⟨_,m.ld 0,_,m.ld 0,m.wr 2,?_⟩
  intro w7; have m:Mem w0 w7 _:=m.set 2
  refine⟨m.wr 2,?_⟩
  intro w8; have m:Mem w0 w8 _:=m.set 2
  have hN':=hN w8 _ hls.symm (m.dr 2)
  refine q02.2 ⟨fun hc=>⟨q01,?_⟩,fun hc=>⟨q01,?_⟩⟩
  ·rw[hc,Jg] at hN'; exact hN'
  ·rw[hc,Jh] at hN'; exact hN'
theorem qkf {ok one:Bool}{mn md:Int}{K:Int->Bool->World->Prop}(hp:q03 p)(h:PF w0 s0 s1 s2 s5 p f)(hd:Decs p p.lots f)(hs:I64 s.n/\I64 s.d)(hm:I64 mn/\I64 md)
  (m:Mem w0 w ((mb,rrC mn md) :: UL sb db pb s dn dd (prC s0 s1 s2 p.most p.budget)))
  (hF:∀ w',Fr F0 w0 w'->(ok && one && (q06 ⟨s.n,s.d,true⟩ (mn,md) (offs p f,1)).ok)=false->K 0 false w')
  (hT:∀ w',Fr F0 w0 w'->(ok && one && (q06 ⟨s.n,s.d,true⟩ (mn,md) (offs p f,1)).ok)=true->K (q1w (q06 ⟨s.n,s.d,true⟩ (mn,md) (offs p f,1)).n (q06 ⟨s.n,s.d,true⟩ (mn,md) (offs p f,1)).d) true w') :
  z1r_k8 s5 ⟨pb,0,none⟩ ⟨sb,0,none⟩ ok ⟨mb,0,none⟩ one K w:=by
 have hone:I64 1:=⟨by decide,by decide⟩
 have hob:=q1a (f:=f) hp (List.prefix_refl p.de)
 have ho:I64 (offs p f):=by unfold offs; exact⟨by omega,by omega⟩
 have hr:=q13 ⟨s.n,s.d,true⟩ (mn,md) (offs p f,1)
 refine⟨?_⟩
 intro w175; have m:Mem w0 w175 _:=m.drew
 refine⟨fun u=>Rs u _,m.sub 0,⟨_,fun _ h=>h.ld 1,⟨_,fun _ h=>h.ld 1,⟨_,fun _ h=>h.ld 0,⟨_,fun _ h=>h.ld 0,⟨_,fun _ h=>h.ld 3,⟨_,fun _ h=>h.ld 3,⟨_,fun _ h=>h.ld 3,⟨_,fun _ h=>h.ld 3,⟨_,fun _ h=>h.ld 3,?_⟩⟩⟩⟩⟩⟩⟩⟩⟩⟩
 refine q7q hp (h.fr m.1) hd fun w186 hf=>?_; have m:=m.fr hf
 refine⟨m.sub 0,?_⟩
 refine q1f fun w188 hf=>?_; have m:=m.fr hf
 refine⟨m.sub 0,?_⟩
 refine q1p hs.1 hs.2 hm.1 hm.2 ho hone fun w190 hf=>?_; have m:=m.fr hf
 refine⟨m.sub 0,⟨m.wr 1,?_⟩⟩
 intro w193; have m:Mem w0 w193 _:=m.set 1
 refine⟨m.wr 1,?_⟩
 intro w194; have m:Mem w0 w194 _:=m.set 1
 refine q02.2 ⟨fun hc1=>?_,fun hc1=>?_⟩
 ·exact hF _ m.1 (by simp_all)
 ·refine q02.2 ⟨fun hc2=>?_,fun hc2=>?_⟩
  ·exact hF _ m.1 (by simp_all)
  ·refine q02.2 ⟨fun hc3=>?_,fun hc3=>?_⟩
   ·exact hF _ m.1 (by simp_all)
   ·refine⟨_,m.ld 1,⟨_,m.ld 1,?_⟩⟩
    refine qe7 hr.1 hr.2 fun w197 hf=>?_; have m:=m.fr hf
    exact hT _ m.1 (by simp_all)
theorem qkg {R:RR}{K:Int->Bool->World->Prop}(hp:q03 p)(h:PF w0 s0 s1 s2 s5 p f)(hd:Decs p p.lots f)(hs:I64 s.n/\I64 s.d)(hdn:I64 dn)(hdd:I64 dd)(hdr:q04 dn dd)
  (m:Mem w0 w (UL sb db pb s dn dd (prC s0 s1 s2 p.most p.budget))) (hR:s=R\/(s.ok=false/\R.ok=false))
  (hK:∀ w',Fr F0 w0 w'->K (if (q5u p f R (q3b (dn,dd) R.ok)).ok then q1w (q5u p f R (q3b (dn,dd) R.ok)).n (q5u p f R (q3b (dn,dd) R.ok)).d else 0) (q5u p f R (q3b (dn,dd) R.ok)).ok w') :
  z1r_k7 s5 ⟨pb,0,none⟩ ⟨db,0,none⟩ ⟨sb,0,none⟩ s.ok K w:=by
 have hone:I64 1:=⟨by decide,by decide⟩
 have ha:=qbi 1 1 dn dd
 have hbm:∀ ok,q3b (dn,dd) ok=⟨(addQ 1 1 dn dd).n,(addQ 1 1 dn dd).d,ok && (addQ 1 1 dn dd).ok⟩:=fun ok=>by
  unfold q3b q06
  simp only[q86 hdr hdn hdd,Jg]
 have hbl:∀ t:RR,q5u p f t (q3b (dn,dd) t.ok)=⟨(q06 ⟨t.n,t.d,true⟩ ((addQ 1 1 dn dd).n,(addQ 1 1 dn dd).d) (offs p f,1)).n,(q06 ⟨t.n,t.d,true⟩ ((addQ 1 1 dn dd).n,(addQ 1 1 dn dd).d) (offs p f,1)).d,
   t.ok && (addQ 1 1 dn dd).ok && (q06 ⟨t.n,t.d,true⟩ ((addQ 1 1 dn dd).n,(addQ 1 1 dn dd).d) (offs p f,1)).ok⟩:=fun t=>by
  rw[hbm]; simp[q5u,q06]
 have hF:∀ w',Fr F0 w0 w'->(s.ok && (addQ 1 1 dn dd).ok && (q06 ⟨s.n,s.d,true⟩ ((addQ 1 1 dn dd).n,(addQ 1 1 dn dd).d) (offs p f,1)).ok)=false->K 0 false w':=fun w' hf he=>by
  have hk:=hK w' hf
  have e:(q5u p f R (q3b (dn,dd) R.ok)).ok=false:=by
   rcases hR with rfl | ⟨_,h2⟩
   ·rw[hbl]; exact he
   ·rw[hbl]; simp[h2]
  rw[e] at hk
  exact hk
 have hT:∀ w',Fr F0 w0 w'->(s.ok && (addQ 1 1 dn dd).ok && (q06 ⟨s.n,s.d,true⟩ ((addQ 1 1 dn dd).n,(addQ 1 1 dn dd).d) (offs p f,1)).ok)=true->K (q1w (q06 ⟨s.n,s.d,true⟩ ((addQ 1 1 dn dd).n,(addQ 1 1 dn dd).d) (offs p f,1)).n (q06 ⟨s.n,s.d,true⟩ ((addQ 1 1 dn dd).n,(addQ 1 1 dn dd).d) (offs p f,1)).d) true w':=fun w' hf he=>by
  have hk:=hK w' hf
  rcases hR with rfl | ⟨h1,_⟩
  ·rw[hbl] at hk
   simp only[he,if_true] at hk
   exact hk
  ·rw[h1] at he; cases he
 have fin:∀ {w' mb},Mem w0 w' ((mb,[.int .i64 (addQ 1 1 dn dd).n,.int .i64 (addQ 1 1 dn dd).d]) :: UL sb db pb s dn dd (prC s0 s1 s2 p.most p.budget))->z1r_k8 s5 ⟨pb,0,none⟩ ⟨sb,0,none⟩ s.ok ⟨mb,0,none⟩ (addQ 1 1 dn dd).ok K w':=fun m=>qkf hp h hd hs ha m hF hT
 refine⟨?_⟩
 unfold z1r_k7d
 intro w149; have m:Mem w0 w149 _:=m.drew
 refine⟨fun u=>Rs u _,m.sub 0,⟨_,fun _ h=>h.ld 1,⟨_,fun _ h=>h.ld 1,⟨?_,?_⟩⟩⟩⟩
 ·refine q1f fun w153 hf=>?_; have m:=m.fr hf
  refine⟨m.sub 0,⟨?_,?_⟩⟩
  ·refine q4v hone hone hdn hdd fun w155 hf=>?_; have m:=m.fr hf
   refine⟨m.sub 0,?_⟩
   intro w158; have m:Mem w0 w158 _:=m.allocL
   refine⟨m.sub 1,⟨m.wr 0,?_⟩⟩
   intro w159; have m:Mem w0 w159 _:=m.set 0
   refine⟨m.wr 0,?_⟩
   intro w160; have m:Mem w0 w160 _:=m.set 0
   exact fin m
  ·intro w161; have m:Mem w0 w161 _:=m.allocL
   refine⟨m.sub 1,?_⟩
   refine q4v hone hone hdn hdd fun w162 hf=>?_; have m:=m.fr hf
   refine⟨m.wr 0,?_⟩
   intro w165; have m:Mem w0 w165 _:=m.set 0
   refine⟨m.wr 0,?_⟩
   intro w166; have m:Mem w0 w166 _:=m.set 0
   exact fin m
 ·intro w167; have m:Mem w0 w167 _:=m.allocL
  refine⟨m.sub 1,?_⟩
  refine q1f fun w168 hf=>?_; have m:=m.fr hf
  refine⟨m.sub 1,?_⟩
  refine q4v hone hone hdn hdd fun w170 hf=>?_; have m:=m.fr hf
  refine⟨m.wr 0,?_⟩
  intro w173; have m:Mem w0 w173 _:=m.set 0
  refine⟨m.wr 0,?_⟩
  intro w174; have m:Mem w0 w174 _:=m.set 0
  exact fin m
theorem qkh {K:Int->Bool->World->Prop}(hp:q03 p)(h:PF w0 s0 s1 s2 s5 p f)(hd:Decs p p.lots f)(hdn:I64 dn)(hdd:I64 dd)(hdr:q04 dn dd)(hs:s=q1j p (dn,dd))
  (m:Mem w0 w (UL sb db pb s dn dd (prC s0 s1 s2 p.most p.budget)))
  (hK:∀ w',Fr F0 w0 w'->K (if (q0c p f (dn,dd)).ok then q1w (q0c p f (dn,dd)).n (q0c p f (dn,dd)).d else 0) (q0c p f (dn,dd)).ok w') :
  z1r_k0 s5 ⟨pb,0,none⟩ ⟨db,0,none⟩ ⟨sb,0,none⟩ s.ok K w:=by
 have e0:=h.pv.lots.len
 have hfew:=hp.few
 have hone:I64 1:=⟨by decide,by decide⟩
 have hzero:I64 0:=⟨by decide,by decide⟩
 refine⟨?_⟩
 refine⟨⟨fun ok i w'=>∃ (i':Nat) (s:RR),i=i'/\ok=s.ok/\i'<=p.lots.length/\(I64 s.n/\I64 s.d)/\q1o p f (dn,dd) i' (p.lots.drop i') s=q1o p f (dn,dd) 0 p.lots (q1j p (dn,dd))/\Mem w0 w' (UL sb db pb s dn dd (prC s0 s1 s2 p.most p.budget)),fun _ i _=>p.lots.length-i.toNat,
  ⟨0,s,rfl,rfl,by omega,hs ▸ q13 _ _ _,by rw[hs,List.drop_zero],m⟩,?_⟩⟩
 rintro ok i w2 ⟨i,s,rfl,rfl,hi,hsi,he,m⟩
 unfold z1r_b1
 have h7:(s=q1o p f (dn,dd) 0 p.lots (q1j p (dn,dd))\/(s.ok=false/\(q1o p f (dn,dd) 0 p.lots (q1j p (dn,dd))).ok=false))->z1r_k7 s5 ⟨pb,0,none⟩ ⟨db,0,none⟩ ⟨sb,0,none⟩ s.ok K w2:=fun hR=>qkg hp h hd hsi hdn hdd hdr m hR hK
 refine⟨s0,m.ld 2,q00.2 ⟨fun hlt=>q02.2 ⟨fun hok=>?_,fun hok=>h7 (.inr ⟨hok,?_⟩)⟩,fun hge=>h7 (.inl ?_)⟩⟩
 ·have hil:i<p.lots.length:=by omega
  refine q1f fun w3 hf=>?_
  have m:=m.fr hf
  intro w4; have m:Mem w0 w4 _:=m.allocL
  refine⟨m.wr 0,?_⟩
  intro w5; have m:Mem w0 w5 _:=m.set 0
  refine⟨m.wr 0,?_⟩
  intro w6; have m:Mem w0 w6 _:=m.set 0
  refine qke hp h hil hdn hdd hsi m fun w' s' hs' m'=>⟨⟨⟨rfl,rfl,rfl,rfl,trivial⟩,i+1,s',by omega,rfl,by omega,hs' ▸ q13 _ _ _,?_,m'⟩,by dsimp only; omega⟩
  rw[J3 hil,q1o] at he
  rw[hs']
  exact he
 ·rw[← he]
  cases hq:(q1o p f (dn,dd) i (p.lots.drop i) s).ok with
  | false=>rfl
  | true=>rw[q83 _ _ _ hq] at hok; cases hok
 ·have:i=p.lots.length:=by omega
  subst this
  rw[J6 (Nat.le_refl _),q1o] at he
  exact he
theorem qbs {K:Int->Bool->World->Prop}(h:PF w s0 s1 s2 s5 p f)(hdn:I64 dn)(hdd:I64 dd)(hK:∀ w',Fr F0 w w'->K (upR p f dn dd).1 (upR p f dn dd).2 w'):z1r_sh s0 s1 s2 p.most p.budget s5 dn dd K w:=by
 have hbad:∀ w',Fr F0 w w'->((q0g p && q4f p p.lots f)=true->q04 dn dd/\0<=dn->False)->K 0 false w':=fun w' hf hn=>by
  have hk:=hK w' hf
  have e:upR p f dn dd=(0,false):=by
   unfold upR
   by_cases hg:(q0g p && q4f p p.lots f)=true
   ·rw[if_pos hg]
    unfold upB
    rw[if_neg fun q=>hn hg ⟨q.1,q.2.2.2⟩]
   ·rw[if_neg hg]
  rw[e] at hk
  exact hk
 have hone:I64 1:=⟨by decide,by decide⟩
 have hzero:I64 0:=⟨by decide,by decide⟩
 have m:Mem w w []:=Mem.nil
 refine⟨?_⟩
 unfold z1r_sd
 intro w1; have m:Mem w w1 _:=m.allocL
 intro w2; have m:Mem w w2 _:=m.allocL
 refine⟨_,m.ld 1,⟨_,m.ld 1,⟨_,m.ld 1,⟨_,m.ld 1,⟨_,m.ld 1,?_⟩⟩⟩⟩⟩
 refine q47 (h.pv.fr m.1) fun w8 hf=>?_; have m:=m.fr hf
 refine⟨_,m.ld 0,⟨_,m.ld 0,?_⟩⟩
 refine q4a hdn hdd fun w12 hf=>?_; have m:=m.fr hf
 refine q02.2 ⟨fun hc1=>?_,fun hc1=>?_⟩
 ·exact hbad _ m.1 (fun q q2=>by first | (have:=q2.2; omega) | simp_all)
 ·refine⟨_,m.ld 1,⟨_,m.ld 1,⟨_,m.ld 1,⟨_,m.ld 1,⟨_,m.ld 1,?_⟩⟩⟩⟩⟩
  refine q5i (h.fr m.1) fun w19 hf=>?_; have m:=m.fr hf
  refine q02.2 ⟨fun hc2=>?_,fun hc2=>?_⟩
  ·exact hbad _ m.1 (fun q q2=>by first | (have:=q2.2; omega) | simp_all)
  ·refine q02.2 ⟨fun hc3=>?_,fun hc3=>?_⟩
   ·exact hbad _ m.1 (fun q q2=>by first | (have:=q2.2; omega) | simp_all)
   ·refine⟨_,m.ld 0,q00.2 ⟨fun hc4=>?_,fun hc4=>?_⟩⟩
    ·exact hbad _ m.1 (fun q q2=>by first | (have:=q2.2; omega) | simp_all)
    ·have hp:q03 p:=q0f.1 (by simpa using hc1)
     have hd:Decs p p.lots f:=q1b.1 (by simpa using hc2)
     have hdr:q04 dn dd:=by simpa using hc3
     have ⟨b1,b2⟩:0<=p.budget/\p.budget<=1000000000:=hp.budget
     have hbud:I64 p.budget:=⟨by omega,by omega⟩
     have eU:upR p f dn dd=(if (q0c p f (dn,dd)).ok then q1w (q0c p f (dn,dd)).n (q0c p f (dn,dd)).d else 0,(q0c p f (dn,dd)).ok):=by
      unfold upR
      rw[if_pos (by rw[q0f.2 hp,q1b.2 hd]; rfl)]
      unfold upB
      rw[if_pos ⟨hdr,hdn,hdd,by omega⟩]
      cases hq:(q0c p f (dn,dd)).ok<;>rfl
     rw[eU] at hK
     have fin:∀ {w' sb},Mem w w' [(sb,[.int .i64 (q06 ⟨0,1,true⟩ (dn,dd) (p.budget,1)).n,.int .i64 (q06 ⟨0,1,true⟩ (dn,dd) (p.budget,1)).d]),(w1.heap.size,[.int .i64 dn,.int .i64 dd]),(w.heap.size,prC s0 s1 s2 p.most p.budget)] ->
       z1r_k0 s5 ⟨w.heap.size,0,none⟩ ⟨w1.heap.size,0,none⟩ ⟨sb,0,none⟩ (q06 ⟨0,1,true⟩ (dn,dd) (p.budget,1)).ok K w':=fun m=>qkh hp h hd hdn hdd hdr rfl m hK
     intro w22; have m:Mem w w22 _:=m.drew
     refine⟨fun u=>Rs u _,m.sub 0,⟨_,fun _ h=>h.ld 0,⟨_,fun _ h=>h.ld 0,⟨_,fun _ h=>h.ld 1,⟨?_,?_⟩⟩⟩⟩⟩
     ·refine q1f fun w27 hf=>?_; have m:=m.fr hf
      refine⟨m.sub 0,⟨?_,?_⟩⟩
      ·refine q1f fun w29 hf=>?_; have m:=m.fr hf
       refine⟨m.sub 0,⟨?_,?_⟩⟩
       ·refine q1p hzero hone hdn hdd hbud hone fun w31 hf=>?_; have m:=m.fr hf
        refine⟨m.sub 0,?_⟩
        intro w34; have m:Mem w w34 _:=m.allocL
        refine⟨m.sub 1,⟨m.wr 0,?_⟩⟩
        intro w35; have m:Mem w w35 _:=m.set 0
        refine⟨m.wr 0,?_⟩
        intro w36; have m:Mem w w36 _:=m.set 0
        exact fin m
       ·intro w37; have m:Mem w w37 _:=m.allocL
        refine⟨m.sub 1,?_⟩
        refine q1p hzero hone hdn hdd hbud hone fun w38 hf=>?_; have m:=m.fr hf
        refine⟨m.sub 1,⟨m.wr 0,?_⟩⟩
        intro w41; have m:Mem w w41 _:=m.set 0
        refine⟨m.wr 0,?_⟩
        intro w42; have m:Mem w w42 _:=m.set 0
        exact fin m
      ·intro w43; have m:Mem w w43 _:=m.allocL
       refine⟨m.sub 1,?_⟩
       refine q1f fun w44 hf=>?_; have m:=m.fr hf
       refine⟨m.sub 1,?_⟩
       refine q1p hzero hone hdn hdd hbud hone fun w46 hf=>?_; have m:=m.fr hf
       refine⟨m.sub 1,⟨m.wr 0,?_⟩⟩
       intro w49; have m:Mem w w49 _:=m.set 0
       refine⟨m.wr 0,?_⟩
       intro w50; have m:Mem w w50 _:=m.set 0
       exact fin m
     ·intro w51; have m:Mem w w51 _:=m.allocL
      refine⟨m.sub 1,?_⟩
      refine q1f fun w52 hf=>?_; have m:=m.fr hf
      refine⟨m.sub 1,?_⟩
      refine q1f fun w54 hf=>?_; have m:=m.fr hf
      refine⟨m.sub 1,?_⟩
      refine q1p hzero hone hdn hdd hbud hone fun w56 hf=>?_; have m:=m.fr hf
      refine⟨m.sub 1,⟨m.wr 0,?_⟩⟩
      intro w59; have m:Mem w w59 _:=m.set 0
      refine⟨m.wr 0,?_⟩
      intro w60; have m:Mem w w60 _:=m.set 0
      exact fin m
end
end Go.Proofs.YtfpobpjandjhjaaGreatDoor
namespace Pw
open Go
theorem Sp.one {α:Type}{n:Nat}{enc:α->List Value}{w0 w:World}{L:List (Nat × List Value)}{a:α}{e:TypeId}(hn:∀ a,(enc a).length=n)(h:Mem w0 w L):Sp w0 (w.alloc (Obj.cells (enc a).toArray e)) L (fun _=>False) (fun _=>True) n enc ⟨some ⟨w.heap.size,0,none⟩,1,1⟩ [a]:=by
 refine⟨h.fr Fr.alloc,q1t.top,trivial,fun _ hb=>hb.elim,Row.ow hn (l:=[a]) (by simpa using Row.new),fun b ⟨x,ha,hb⟩=>?_⟩
 cases ha
 subst hb
 exact⟨h.1.1,fun h=>h,fun p hp e=>by have:=(h.2.1 p hp).lt; simp only at e; omega⟩
end Pw
namespace Go.Proofs.YtfpobpjandjhjaaGreatDoor
open Go Pw
section
variable {w wB:World}{s t s0 s1 s2 s5 t5:Sl}{a b l f g:List Int}{p:Pr}{pb:Nat}
theorem qd1 {i:Nat}(hd:Decs p p.lots f)(hi:i<f.length)(h0:0<=f[i]):f[i].toNat<p.ch.length:=by
 obtain⟨_,q⟩:=q39 hd hi
 rcases q with q | ⟨c,q,_⟩
 ·omega
 ·obtain⟨_,q2,_⟩:=q1i q; exact q2
def cntB (p:Pr)(f:List Int)(i k:Nat):Nat:=match chAt p (f.getD i 0) with
 | some c=>(took p (f.take k)).countP (fun d=>d.bid == c.bid)
 | none=>0
theorem qii {i k:Nat}(hk:k<f.length):cntB p f i (k+1)=cntB p f i k+(match chAt p (f.getD i 0),chAt p f[k] with | some c,some d=>if c.bid=d.bid then 1 else 0 | _,_=>0):=by
 unfold cntB
 cases chAt p (f.getD i 0) with
 | none=>rfl
 | some c =>
  rw[q3a hk]
  cases chAt p f[k] with
  | none=>simp
  | some d =>
   simp only[List.countP_append,List.countP_cons,List.countP_nil]
   by_cases h:c.bid=d.bid
   ·simp[h]
   ·have:¬d.bid=c.bid:=fun e=>h e.symm
    simp[h,this]
theorem qgg {i:Nat}{N0:Sl->Addr->Int->World->Prop}{K:Bool->World->Prop}(hp:q03 p)(h:PF wB s0 s1 s2 s5 p f)(hd:Decs p p.lots f)(hB:Fr F0 wB w)(hi:i<f.length)
  (hpr:Row w pb (prC s0 s1 s2 p.most p.budget)) (hT:0<p.most/\p.most<cntB p f i f.length->∀ w',Fr F0 w w'->K true w') (hF:¬(0<p.most/\p.most<cntB p f i f.length)->∀ w',Fr F0 w w'->N0 s5 ⟨pb,0,none⟩ ((i:Int)+1) w') :
  z0x_l1 s5 ⟨pb,0,none⟩ i 0 0 N0 K w:=by
 have el:=h.tk.len
 have hl12:=q1h hp hd
 have e1:=h.pv.ch.len
 have hgi:f.getD i 0=f[i]:=by simp[hi]
 refine⟨⟨fun n k w'=>∃ k':Nat,k=k'/\k'<=f.length/\n=cntB p f i k'/\Fr F0 w w',fun _ k _=>f.length-k.toNat,⟨0,rfl,by omega,by unfold cntB; cases chAt p (f.getD i 0)<;>simp[took],Fr.refl⟩,?_⟩⟩
 rintro n k w1 ⟨k,rfl,hk,rfl,hf⟩
 have hcb:cntB p f i k<=12:=by
  unfold cntB
  split
  ·exact Nat.le_trans (Jc) (Nat.le_trans (q44 _) (by simp; omega))
  ·omega
 unfold z0x_b1
 refine q00.2<|⟨fun hlt=>?_,fun hge=>?_⟩
 ·have hkf:k<f.length:=by omega
  have hs:=qii (p:=p) (i:=i) hkf
  rw[hgi] at hs
  intro w2
  have hf2:Fr F0 w w2:=hf.t Fr.drew
  have h2:=h.fr (hB.t hf2)
  have hp2:=hf2.row hpr fun h=>h
  refine VI.ld h2.tk i rfl hi<|q00.2<|⟨fun h0=>VI.ld h2.tk k rfl hkf ?_,fun h0=>?_⟩
  ·have hci:=qd1 hd hi h0
   rw[q2n h0 hci] at hs
   refine q00.2<|⟨fun h3=>?_,fun h3=>?_⟩
   ·have hck:=qd1 hd hkf h3
    rw[q2n h3 hck] at hs
    simp only at hs
    refine⟨s1,hp2.at,VI.ld h2.tk i rfl hi (VC.ld h2.pv.ch f[i].toNat (by omega) hci fun x hc=>?_)⟩
    obtain⟨_,c1,_,_⟩:=hc w2 Fr.refl
    refine⟨_,c1,s1,hp2.at,VI.ld h2.tk k rfl hkf (VC.ld h2.pv.ch f[k].toNat (by omega) hck fun y hc'=>?_)⟩
    obtain⟨_,d1,_,_⟩:=hc' w2 Fr.refl
    refine⟨_,d1,q09.2 ?_⟩
    refine⟨fun he=>?_,fun hne=>?_⟩
    ·rw[if_pos he] at hs
     exact⟨q01,q01,⟨⟨rfl,rfl,rfl,trivial⟩,k+1,by omega,by omega,by omega,hf2⟩,by dsimp only; omega⟩
    ·rw[if_neg hne] at hs
     exact⟨q01,⟨⟨rfl,rfl,rfl,trivial⟩,k+1,by omega,by omega,by omega,hf2⟩,by dsimp only; omega⟩
   ·rw[q24 h3] at hs
    simp only at hs
    exact⟨q01,⟨⟨rfl,rfl,rfl,trivial⟩,k+1,by omega,by omega,by omega,hf2⟩,by dsimp only; omega⟩
  ·rw[q24 h0] at hs
   simp only at hs
   exact⟨q01,⟨⟨rfl,rfl,rfl,trivial⟩,k+1,by omega,by omega,by omega,hf2⟩,by dsimp only; omega⟩
 ·have:k=f.length:=by omega
  subst this
  have hp2:=hf.row hpr fun h=>h
  refine⟨_,hp2.at,q00.2 ?_⟩
  refine⟨fun h1=>⟨_,hp2.at,?_⟩,fun h1=>⟨q01,hF (fun q=>h1 q.1) w1 hf⟩⟩
  exact q00.2<|⟨fun h2=>hT ⟨h1,h2⟩ w1 hf,fun h2=>⟨q01,hF (fun q=>h2 q.2) w1 hf⟩⟩
theorem q4w {K:Bool->World->Prop}(hp:q03 p)(h:PF w s0 s1 s2 s5 p f)(hd:Decs p p.lots f)(hK:∀ w',Fr F0 w w'->K (q2c p f) w'):z0x_sh s0 s1 s2 p.most p.budget s5 K w:=by
 have el:=h.tk.len
 have hl12:=q1h hp hd
 have hcase:∀ i,i<f.length->(0<p.most/\p.most<cntB p f i f.length)->q2c p f=true:=fun i hi q=>by
  unfold cntB at q
  have hgi:f.getD i 0=f[i]:=by simp[hi]
  rw[hgi,J7] at q
  cases hc:chAt p f[i] with
  | none=>rw[hc] at q; simp at q; omega
  | some c =>
   rw[hc] at q
   exact q12.2 ⟨q.1,c.bid,q.2⟩
 refine⟨?_⟩
 intro w1
 have m:Mem w w1 _:=Mem.nil.allocL
 have hpr:=m.row 0
 refine⟨⟨fun i w'=>∃ i':Nat,i=i'/\i'<=f.length/\Fr F0 w1 w'/\∀ j<i',¬(0<p.most/\p.most<cntB p f j f.length),fun i _=>f.length-i.toNat,⟨0,rfl,by omega,Fr.refl,fun j hj=>by omega⟩,?_⟩⟩
 rintro i w2 ⟨i,rfl,hi,hf,hin⟩
 unfold z0x_b0
 refine q00.2<|⟨fun hlt=>?_,fun hge=>?_⟩
 ·have hif:i<f.length:=by omega
  refine qgg hp h hd (m.1.t hf) hif (hf.row hpr fun h=>h) (fun q w' hw=>?_) fun q w' hw=>⟨⟨⟨rfl,rfl,trivial⟩,i+1,by omega,by omega,hf.t hw,fun j hj=>?_⟩,by dsimp only; omega⟩
  ·have hk:=hK w' (m.1.t (hf.t hw))
   rwa [hcase i hif q] at hk
  ·rcases Nat.lt_succ_iff_lt_or_eq.1 hj with hj | rfl
   ·exact hin j hj
   ·exact q
 ·have:i=f.length:=by omega
  subst this
  have hk:=hK w2 (m.1.t hf)
  cases hc:q2c p f with
  | false=>rwa [hc] at hk
  | true =>
   exfalso
   obtain⟨h0,bd,hb⟩:=q12.1 hc
   have hpos:0<(took p f).countP (fun d=>d.bid == bd):=by omega
   obtain⟨c,hcm,hcb⟩:=List.countP_pos_iff.1 hpos
   obtain⟨n,hn,hnc⟩:=List.mem_filterMap.1 hcm
   obtain⟨j,hj,rfl⟩:=Jd.1 hn
   refine hin j hj ⟨h0,?_⟩
   unfold cntB
   have hgj:f.getD j 0=f[j]:=by simp[hj]
   rw[hgj,hnc,J7]
   have:c.bid=bd:=by simpa using hcb
   subst this
   exact hb
theorem q20 {K:Bool->World->Prop}(h:PF w s0 s1 s2 s5 p f)(hK:∀ w',Fr F0 w w'->K (q0g p && q21 p f) w'):z0e_sh s0 s1 s2 p.most p.budget s5 K w:=by
 refine⟨?_⟩
 intro w1
 have m:Mem w w1 _:=Mem.nil.allocL
 refine⟨s0,m.ld 0,s1,m.ld 0,s2,m.ld 0,_,m.ld 0,_,m.ld 0,qcv (h.fr m.1) fun w7 hf=>?_⟩
 have m:=m.fr hf
 intro w9
 have m:Mem w w9 _:=m.drew
 refine⟨fun u=>Row u w.heap.size (prC s0 s1 s2 p.most p.budget),m.row 0,?_⟩
 unfold q21 at hK
 refine q02.2 ⟨fun hy=>?_,fun hn=>?_⟩
 ·obtain⟨er,ef⟩:=Ji.1 hy
  have hp:=q0f.1 er
  have hd:=q33 ef
  rw[er,ef,Jg,Jg] at hK
  refine⟨s0,fun u hu=>hu.at,s1,fun u hu=>hu.at,s2,fun u hu=>hu.at,_,fun u hu=>hu.at,_,fun u hu=>hu.at,_,fun u hu=>hu.at,q48 hp (h.fr m.1) hd fun w17 hf=>?_⟩
  have m:=m.fr hf
  refine⟨m.row 0,q00.2 ?_⟩
  refine⟨fun hle=>?_,fun hgt=>?_⟩
  ·rw[decide_eq_true hle,Jg] at hK
   refine⟨s0,fun u hu=>hu.at,s1,fun u hu=>hu.at,s2,fun u hu=>hu.at,_,fun u hu=>hu.at,_,fun u hu=>hu.at,q4w hp (h.fr m.1) hd fun w24 hf=>?_⟩
   have m:=m.fr hf
   exact⟨m.row 0,hK w24 m.1⟩
  ·rw[decide_eq_false hgt,Jh] at hK
   exact hK w17 m.1
 ·have hk:=hK w9 m.1
  rw[← Jl,hn,Jh] at hk
  exact hk
theorem q4b {K:Int->World->Prop}(hp:q03 p)(h:PF w s0 s1 s2 s5 p f)(hfit:q3s p f=true)(hK:∀ w',Fr F0 w w'->K (q14 p f) w'):z1s_sh s0 s1 s2 p.most p.budget s5 K w:=by
 have hd:=q33 hfit
 have hbu:=hp.budget
 have ⟨b1,b2⟩:0<=p.budget/\p.budget<=1000000000:=hbu
 obtain⟨q1,q2,q3,q4⟩:=q5t hp hd
 have ep:q5y p (q0g p) (q3s p f) f=q1r p f:=by
  unfold q5y
  rw[q0f.2 hp,hfit]
  rfl
 refine⟨?_⟩
 intro w1
 have m:Mem w w1 _:=Mem.nil.allocL
 intro w2
 have m:Mem w w2 _:=m.drew
 refine⟨fun u=>Row u w.heap.size (prC s0 s1 s2 p.most p.budget),m.row 0,s0,fun u hu=>hu.at,s1,fun u hu=>hu.at,s2,fun u hu=>hu.at,_,fun u hu=>hu.at,_,fun u hu=>hu.at,_,fun u hu=>hu.at,q01,s0,fun u hu=>hu.at,s1,fun u hu=>hu.at,s2,fun u hu=>hu.at,_,fun u hu=>hu.at,_,fun u hu=>hu.at,q5j (h.fr m.1) fun w15 hf=>?_⟩
 have m:=m.fr hf
 rw[ep]
 refine⟨m.row 0,q01,q48 hp (h.fr m.1) hd fun w17 hf=>?_⟩
 have m:=m.fr hf
 have hk:=hK w17 m.1
 unfold q14 at hk q3 q4
 exact⟨m.row 0,q01,hk⟩
theorem q4x {K:Bool->World->Prop}(ha:VI w s a)(hb:VI w t b)(hla:a.length<2^63)(hK:∀ w',Fr F0 w w'->K (gtL a b) w'):z0y_sh s t K w:=by
 have ea:=ha.len
 have eb:=hb.len
 refine⟨⟨⟨fun i w'=>∃ i':Nat,i=i'/\i'<=a.length/\Fr F0 w w'/\gtL a b=gtL (a.drop i') (b.drop i'),fun i _=>a.length-i.toNat,⟨0,rfl,by omega,Fr.refl,rfl⟩,?_⟩⟩⟩
 rintro i w1 ⟨i,rfl,hi,hf,hg⟩
 unfold z0y_b0
 refine q00.2<|⟨fun hlt=>?_,fun hge=>?_⟩
 ·have hia:i<a.length:=by omega
  refine q00.2<|⟨fun hlt2=>?_,fun hge2=>?_⟩
  ·have hib:i<b.length:=by omega
   rw[J3 hia,J3 hib,gtL] at hg
   intro w2
   have hf2:Fr F0 w w2:=hf.t Fr.drew
   refine VI.ld (ha.fr hf2) i rfl hia (VI.ld (hb.fr hf2) i rfl hib ?_)
   refine q0u.2<|⟨fun hne=>?_,fun he=>?_⟩
   ·rw[if_neg hne] at hg
    intro w3
    have hf3:Fr F0 w w3:=hf2.t Fr.drew
    refine VI.ld (ha.fr hf3) i rfl hia (VI.ld (hb.fr hf3) i rfl hib ?_)
    have hk:=hK w3 hf3
    rwa [hg] at hk
   ·rw[if_pos he] at hg
    exact⟨q01,⟨⟨rfl,rfl,trivial⟩,i+1,by omega,by omega,hf2,hg⟩,by dsimp only; omega⟩
  ·rw[J6 (show b.length<=i by omega)] at hg
   have hk:=hK w1 hf
   rw[hg] at hk
   have e:gtL (a.drop i) []=false:=by cases a.drop i<;>rfl
   rwa [e] at hk
 ·rw[J6 (show a.length<=i by omega)] at hg
  have hk:=hK w1 hf
  rw[hg] at hk
  exact hk
theorem q3y {p:Pr}{f:List Int}(h:q21 p f=true):q3s p f=true:=(Ji.1 h).1
theorem q5l {K:Bool->World->Prop}(ha:PF w s0 s1 s2 s5 p a)(hb:PF w s0 s1 s2 t5 p b)(hK:∀ w',Fr F0 w w'->K (q2m p a b) w'):z18_sh s0 s1 s2 p.most p.budget s5 t5 K w:=by
 refine⟨?_⟩
 intro w1
 have m:Mem w w1 _:=Mem.nil.allocL
 refine⟨s0,m.ld 0,s1,m.ld 0,s2,m.ld 0,_,m.ld 0,_,m.ld 0,q20 (ha.fr m.1) fun w7 hf=>?_⟩
 have m:=m.fr hf
 refine⟨s0,m.ld 0,s1,m.ld 0,s2,m.ld 0,_,m.ld 0,_,m.ld 0,q20 (hb.fr m.1) fun w14 hf=>?_⟩
 have m:=m.fr hf
 unfold q2m at hK
 refine q02.2 ⟨fun hn=>?_,fun hy=>?_⟩
 ·have hk:=hK w14 m.1
  have e:(q0g p && q21 p a)=false:=by
   cases hq:(q0g p && q21 p a) with
   | false=>rfl
   | true=>rw[hq] at hn; cases hn
  rw[← Jl,e,Jh] at hk
  rw[e]
  exact hk
 ·have e:(q0g p && q21 p a)=true:=by
   cases hq:(q0g p && q21 p a) with
   | true=>rfl
   | false=>rw[hq] at hy; cases hy
  obtain⟨er,ea⟩:=Ji.1 e
  have hp:=q0f.1 er
  rw[er,ea,Jg,Jg] at hK
  refine q02.2 ⟨fun hn=>?_,fun hy2=>?_⟩
  ·have e2:q21 p b=false:=by
    cases hq:q21 p b with
    | false=>rfl
    | true=>rw[er,hq] at hn; cases hn
   have hk:=hK w14 m.1
   rw[e2] at hk
   rw[er,ea]
   exact hk
  ·have e2:q21 p b=true:=by
    cases hq:q21 p b with
    | true=>rfl
    | false=>rw[hq,Bool.and_false] at hy2; cases hy2
   rw[e2,Jm,Jj] at hK
   refine⟨s0,m.ld 0,s1,m.ld 0,s2,m.ld 0,_,m.ld 0,_,m.ld 0,q4b hp (ha.fr m.1) (q3y ea) fun w21 hf=>?_⟩
   have m:=m.fr hf
   refine⟨s0,m.ld 0,s1,m.ld 0,s2,m.ld 0,_,m.ld 0,_,m.ld 0,q4b hp (hb.fr m.1) (q3y e2) fun w28 hf=>?_⟩
   have m:=m.fr hf
   unfold btB at hK
   refine q00.2<|⟨fun hg=>?_,fun hng=>?_⟩
   ·have hk:=hK w28 m.1
    rw[decide_eq_true (show q14 p b<q14 p a from hg),Bool.true_or] at hk
    exact hk
   ·rw[decide_eq_false (show ¬q14 p b<q14 p a from hng),Jj] at hK
    refine q09.2<|⟨fun he=>?_,fun hne=>?_⟩
    ·rw[decide_eq_true he,Jg] at hK
     exact q4x (hb.fr m.1).tk (ha.fr m.1).tk hb.lt fun w30 hf=>hK w30 (m.1.t hf)
    ·have hk:=hK w28 m.1
     rw[decide_eq_false hne,Jh] at hk
     exact hk
end
open Go Pw
def q4y (p:Pr)(f:List Int)(a b:Int)(T:List Int):Bool:=(upR p f a b).2 && (decide ((upR p f a b).1<q14 p T) || (decide ((upR p f a b).1=q14 p T) && gtL f T))
def q0w (p:Pr)(f:List Int)(a b:Int)(T:List Int):Bool:=q2c p f || (decide (p.budget<q0i p f) || ((decide (f.length=p.lots.length) && !q2m p f T) || q4y p f a b T))
section
variable {w w' w0:World}{s0 s1 s2 s5 t5:Sl}{p:Pr}{f T:List Int}{db pb:Nat}{dn dd:Int}{K:Bool->World->Prop}
theorem qij (hp:q03 p)(h:PF w0 s0 s1 s2 s5 p f)(hT:PF w0 s0 s1 s2 t5 p T)(hfit:q3s p T=true)(hdn:I64 dn)(hdd:I64 dd)
  (m:Mem w0 w [(db,rrC dn dd),(pb,prC s0 s1 s2 p.most p.budget)]) (hK:∀ w',Fr F0 w0 w'->K (q4y p f dn dd T) w'):z1b_k0 s5 t5 ⟨pb,0,none⟩ ⟨db,0,none⟩ K w:=by
 have hfin:∀ w' (b:Bool),Fr F0 w0 w'->b=q4y p f dn dd T->K b w':=fun w' b hf e=>e ▸ hK w' hf
 unfold q4y at hfin
 refine⟨⟨_,m.ld 1,⟨_,m.ld 1,⟨_,m.ld 1,⟨_,m.ld 1,⟨_,m.ld 1,⟨_,m.ld 0,⟨_,m.ld 0,?_⟩⟩⟩⟩⟩⟩⟩⟩
 refine qbs (h.fr m.1) hdn hdd fun w35 hf=>?_; have m:=m.fr hf
 refine⟨_,m.ld 1,⟨_,m.ld 1,⟨_,m.ld 1,⟨_,m.ld 1,⟨_,m.ld 1,?_⟩⟩⟩⟩⟩
 refine q4b hp (hT.fr m.1) hfit fun w43 hf=>?_; have m:=m.fr hf
 refine q02.2 ⟨fun hc1=>?_,fun hc1=>?_⟩
 ·refine q00.2 ⟨fun hc2=>?_,fun hc2=>?_⟩
  ·exact hfin _ _ m.1 (by simp_all)
  ·refine q09.2 ⟨fun hc3=>?_,fun hc3=>?_⟩
   ·refine q4x (h.fr m.1).tk (hT.fr m.1).tk h.lt fun w45 hf=>?_; have m:=m.fr hf
    exact hfin _ _ m.1 (by simp_all)
   ·exact hfin _ _ m.1 (by simp_all)
 ·exact hfin _ _ m.1 (by simp_all)
theorem qe8 (hp:q03 p)(h:PF w s0 s1 s2 s5 p f)(hd:Decs p p.lots f)(hT:PF w s0 s1 s2 t5 p T)(hfit:q3s p T=true)(hdn:I64 dn)(hdd:I64 dd)(hK:∀ w',Fr F0 w w'->K (q0w p f dn dd T) w') :
  z1b_sh s0 s1 s2 p.most p.budget s5 dn dd t5 K w:=by
 have e0:=h.pv.lots.len
 have e5:=h.tk.len
 have hfin:∀ w',Fr F0 w w'->q0w p f dn dd T=true->K true w':=fun w' hf e=>e ▸ hK w' hf
 have hk0:∀ {w' db pb},Mem w w' [(db,rrC dn dd),(pb,prC s0 s1 s2 p.most p.budget)]->(q2c p f=false/\q0i p f<=p.budget)->(f.length=p.lots.length->q2m p f T=true)->z1b_k0 s5 t5 ⟨pb,0,none⟩ ⟨db,0,none⟩ K w':=fun m h1 h2 =>
  qij hp h hT hfit hdn hdd m fun w' hf=>by
   have hk:=hK w' hf
   have e:q0w p f dn dd T=q4y p f dn dd T:=by
    unfold q0w
    rw[h1.1,decide_eq_false (by omega)]
    by_cases hl:f.length=p.lots.length
    ·rw[h2 hl]; simp
    ·rw[decide_eq_false hl]; simp
   rw[e] at hk
   exact hk
 have m:Mem w w []:=Mem.nil
 refine⟨?_⟩
 intro w1; have m:Mem w w1 _:=m.allocL
 intro w2; have m:Mem w w2 _:=m.allocL
 intro w3; have m:Mem w w3 _:=m.drew
 refine⟨fun u=>Rs u _,m.sub 0,⟨_,fun _ h=>h.ld 1,⟨_,fun _ h=>h.ld 1,⟨_,fun _ h=>h.ld 1,⟨_,fun _ h=>h.ld 1,⟨_,fun _ h=>h.ld 1,?_⟩⟩⟩⟩⟩⟩
 refine q4w hp (h.fr m.1) hd fun w10 hf=>?_; have m:=m.fr hf
 refine⟨m.sub 0,q02.2 ⟨fun hc1=>?_,fun hc1=>?_⟩⟩
 ·exact hfin _ m.1 (by first | (unfold q0w; rw[hc1]; rfl) | (unfold q0w; rw[decide_eq_true (show p.budget<q0i p f by omega)]; simp; done) | (unfold q0w; rw[decide_eq_true (show f.length=p.lots.length by omega),hc4]; simp))
 ·refine⟨_,fun _ h=>h.ld 1,⟨_,fun _ h=>h.ld 1,⟨_,fun _ h=>h.ld 1,⟨_,fun _ h=>h.ld 1,⟨_,fun _ h=>h.ld 1,⟨_,fun _ h=>h.ld 1,?_⟩⟩⟩⟩⟩⟩
  refine q48 hp (h.fr m.1) hd fun w18 hf=>?_; have m:=m.fr hf
  refine⟨m.sub 0,q00.2 ⟨fun hc2=>?_,fun hc2=>?_⟩⟩
  ·exact hfin _ m.1 (by first | (unfold q0w; rw[hc1]; rfl) | (unfold q0w; rw[decide_eq_true (show p.budget<q0i p f by omega)]; simp; done) | (unfold q0w; rw[decide_eq_true (show f.length=p.lots.length by omega),hc4]; simp))
  ·refine⟨_,m.ld 1,q09.2 ⟨fun hc3=>?_,fun hc3=>?_⟩⟩
   ·refine⟨_,m.ld 1,⟨_,m.ld 1,⟨_,m.ld 1,⟨_,m.ld 1,⟨_,m.ld 1,?_⟩⟩⟩⟩⟩
    refine q5l (h.fr m.1) (hT.fr m.1) fun w26 hf=>?_; have m:=m.fr hf
    refine q02.2 ⟨fun hc4=>?_,fun hc4=>?_⟩
    ·exact hfin _ m.1 (by first | (unfold q0w; rw[hc1]; rfl) | (unfold q0w; rw[decide_eq_true (show p.budget<q0i p f by omega)]; simp; done) | (unfold q0w; rw[decide_eq_true (show f.length=p.lots.length by omega),hc4]; simp))
    ·exact hk0 m ⟨hc1,by omega⟩ (fun hl=>by first | (exact absurd (show(s5.l:Int)=s0.l by omega) hc3) | simpa using hc4)
   ·exact hk0 m ⟨hc1,by omega⟩ (fun hl=>by first | (exact absurd (show(s5.l:Int)=s0.l by omega) hc3) | simpa using hc4)
end
open Go Pw
def bF (p:Pr):List Int->List Int->List Int->List Int
 | f,[],kn=>if q2m p f kn then f else kn
 | f,lot :: ls,kn=>(opts p lot).foldl (fun kn o=>bF p (f++[o]) ls kn) kn
structure qai (p:Pr)(S:List Int->Prop)(kn R:List Int):Prop where
 one:R=kn\/(Perm p R/\S R)
 all:∀ t,S t->Perm p t->Perm p R/\¬Bt p t R
 old:Perm p kn->Perm p R/\¬Bt p kn R
theorem bt_le {p:Pr}{a b c:List Int}(hb:Perm p b)(h1:¬Bt p a b)(h2:¬Bt p b c)(hc:Perm p c):¬Bt p a c:=fun h=>by
 by_cases e:b=c
 ·exact h1 (e ▸ h)
 ·rcases Bt.total (p:=p) (show b.length=c.length by rw[hb.1,hc.1]) e with q | q
  ·exact h2 q
  ·exact h1 (h.trans q)
theorem qai.comp {p:Pr}{S1 S2:List Int->Prop}{kn R1 R2:List Int}(h1:qai p S1 kn R1)(h2:qai p S2 R1 R2):qai p (fun t=>S1 t\/S2 t) kn R2:=by
 refine⟨?_,fun t ht hp=>?_,fun hp=>?_⟩
 ·rcases h2.one with e | ⟨q,s⟩
  ·rcases h1.one with e1 | ⟨q,s⟩
   ·exact .inl (e.trans e1)
   ·exact .inr ⟨e ▸ q,.inl (e ▸ s)⟩
  ·exact .inr ⟨q,.inr s⟩
 ·rcases ht with ht | ht
  ·obtain⟨q1,q2⟩:=h1.all t ht hp
   obtain⟨q3,q4⟩:=h2.old q1
   exact⟨q3,bt_le q1 q2 q4 q3⟩
  ·exact h2.all t ht hp
 ·obtain⟨q1,q2⟩:=h1.old hp
  obtain⟨q3,q4⟩:=h2.old q1
  exact⟨q3,bt_le q1 q2 q4 q3⟩
theorem qlu {p:Pr}(hp:q03 p):∀ (ls f kn:List Int),qai p (fun t=>∃ r,t=f++r/\r.length=ls.length/\Decs p ls r) kn (bF p f ls kn)
 | [],f,kn=>by
  unfold bF
  cases hb:q2m p f kn with
  | true =>
   unfold q2m at hb
   rw[Jk,Jk] at hb
   obtain⟨_,ha,hb⟩:=hb
   have hpa:=q23.1 ha
   rw[if_pos rfl]
   refine⟨.inr ⟨hpa,[],by simp,rfl,trivial⟩,?_,fun hk=>⟨hpa,?_⟩⟩
   ·rintro t ⟨r,rfl,hr,_⟩ _
    obtain rfl:=J4.1 hr
    rw[Je]
    exact⟨hpa,Bt.irrefl⟩
   ·rw[q23.2 hk,Jm,Jj] at hb
    exact(q4q.1 hb).asymm
  | false =>
   rw[if_neg (by decide)]
   refine⟨.inl rfl,?_,fun hk=>⟨hk,Bt.irrefl⟩⟩
   rintro t ⟨r,rfl,hr,_⟩ hpt
   obtain rfl:=J4.1 hr
   rw[Je] at hpt ⊢
   unfold q2m at hb
   rw[q0f.2 hp,q23.2 hpt,Jg,Jg,Bool.or_eq_false_iff] at hb
   obtain⟨h1,h2⟩:=hb
   refine⟨q23.1 (by simpa using h1),fun h=>?_⟩
   rw[q4q.2 h] at h2
   cases h2
 | lot :: ls,f,kn=>by
  unfold bF
  have key:∀ (os:List Int) (kn:List Int),qai p (fun t=>∃ o∈os,∃ r,t=f++[o]++r/\r.length=ls.length/\Decs p ls r) kn (os.foldl (fun kn o=>bF p (f++[o]) ls kn) kn):=by
   intro os
   induction os with
   | nil=>exact fun kn=>⟨.inl rfl,fun t ⟨o,ho,_⟩=>(by cases ho),fun hk=>⟨hk,Bt.irrefl⟩⟩
   | cons o os ih =>
    intro kn
    have h:=(qlu hp ls (f++[o]) kn).comp (ih (bF p (f++[o]) ls kn))
    refine⟨?_,fun t ht=>?_,h.old⟩
    ·rcases h.one with e | ⟨q,s⟩
     ·exact .inl e
     ·refine .inr ⟨q,?_⟩
      rcases s with⟨r,s⟩ | ⟨o',ho,s⟩
      ·exact⟨o,List.mem_cons_self ..,r,s⟩
      ·exact⟨o',List.mem_cons_of_mem _ ho,s⟩
    ·obtain⟨o',ho,r,s⟩:=ht
     rcases J9.1 ho with rfl | ho
     ·exact h.all t (.inl ⟨r,s⟩)
     ·exact h.all t (.inr ⟨o',ho,r,s⟩)
  have h:=key (opts p lot) kn
  refine⟨?_,?_,h.old⟩
  ·rcases h.one with e | ⟨q,o,ho,r,s1,s2,s3⟩
   ·exact .inl e
   ·exact .inr ⟨q,o :: r,by rw[s1]; simp,by simp[s2],q3k.1 ho,s3⟩
  ·rintro t ⟨r,rfl,hr,hd⟩ hpt
   cases r with
   | nil=>simp at hr
   | cons o r=>exact h.all _ ⟨o,q3k.2 hd.1,r,by simp,by simpa using hr,hd.2⟩ hpt
theorem qlv {p:Pr}(hp:q03 p):q7n p (bF p [] p.lots []):=by
 have h:=qlu hp p.lots [] []
 have hs:∀ t,Perm p t->(∃ r,t=[]++r/\r.length=p.lots.length/\Decs p p.lots r):=fun t ht=>⟨t,by simp,ht.1,ht.2.1⟩
 have h0:=qcq hp
 exact⟨(h.all _ (hs _ h0) h0).1,fun u hu=>(h.all u (hs u hu) hu).2⟩
theorem q7r {lot:Int}{c:Ch}:∀ (l:List Ch) (i:Nat),q0j lot i (l++[c])=q0j lot i l++(if c.lot=lot then [((i+l.length:Nat):Int)] else [])
 | [],i=>by simp[q0j]
 | d :: l,i=>by
  rw[Jf,q0j,q0j,q7r l (i+1)]
  have e:i+1+l.length=i+(d :: l).length:=by simp; omega
  rw[e]
  split<;>simp
section
variable {w wB:World}{s t s0 s1 s2 s5 t5:Sl}{a b l f g:List Int}{p:Pr}{pb:Nat}
theorem q6t {k:Nat}{K:Sl->World->Prop}(h:PV w s0 s1 s2 p)(hk:k<p.lots.length)(hK:∀ w' s,Mk w 1 (ie .i64 (id:Int->Int)) w' s (opts p p.lots[k])->K s w'):z10_sh s0 s1 s2 p.most p.budget k K w:=by
 have e0:=h.lots.len
 have e1:=h.ch.len
 have hl1:=h.l1
 have hl0:=h.l0
 refine⟨?_⟩
 intro w1
 have m:Mem w w1 _:=Mem.nil.allocL
 intro w2
 have h2:Sp w w2 _ _ _ _ _ _ _:=Sp.one (α:=Int) (n:=1) (enc:=ie .i64 (id:Int->Int)) (a:=-1) (fun a=>q05 _ _ a) m
 refine⟨⟨fun out i w'=>∃ i':Nat,i=i'/\i'<=p.ch.length/\Sp w w' [(w.heap.size,prC s0 s1 s2 p.most p.budget)] (fun _=>False) (fun _=>True) 1 (ie .i64 (id:Int->Int)) out (-1 :: q0j p.lots[k] 0 (p.ch.take i')),fun _ i _=>p.ch.length-i.toNat,⟨0,rfl,by omega,h2⟩,?_⟩⟩
 rintro out i w3 ⟨i,rfl,hi,h3⟩
 unfold z10_b0
 refine⟨s1,h3.ld 0,q00.2 ?_⟩
 refine⟨fun hlt=>?_,fun hge=>?_⟩
 ·have hic:i<p.ch.length:=by omega
  have hts:=q08 hic
  have hlen:(q0j p.lots[k] 0 (p.ch.take i)).length<=i:=by
   rw[optsFrom_len]
   have:=Jc (p:=fun c:Ch=>c.lot == p.lots[k]) (l:=p.ch.take i)
   simp at this
   omega
  have hap:-1 :: q0j p.lots[k] 0 (p.ch.take (i+1))=(-1 :: q0j p.lots[k] 0 (p.ch.take i))++(if p.ch[i].lot=p.lots[k] then [(i:Int)] else []):=by
   rw[hts,q7r]
   simp only[List.length_take,Jf]
   rw[show 0+min i p.ch.length=i by omega]
  intro w4
  have h4:Sp w w4 _ _ _ _ _ _ _:=h3.drew
  have hp4:=h.fr h4.m.1
  refine⟨s1,h4.ld 0,VC.ld hp4.ch i rfl hic fun x hc=>?_⟩
  obtain⟨c0,_,_,_⟩:=hc w4 Fr.refl
  refine⟨_,c0,s0,h4.ld 0,VI.ld hp4.lots k rfl hk ?_⟩
  refine q09.2<|⟨fun he=>?_,fun hne=>?_⟩
  ·rw[if_pos he] at hap
   intro w5
   refine h4.push (a:=(i:Int)) rfl rfl (q1y _ _) rfl (by simp; omega) (by simp; omega) fun r w6 h6=>?_
   rw[← hap] at h6
   exact⟨q01,⟨⟨rfl,rfl,trivial⟩,i+1,by omega,by omega,h6⟩,by dsimp only; omega⟩
  ·rw[if_neg hne,Je] at hap
   rw[← hap] at h4
   exact⟨q01,⟨⟨rfl,rfl,trivial⟩,i+1,by omega,by omega,h4⟩,by dsimp only; omega⟩
 ·have:i=p.ch.length:=by omega
  subst this
  rw[J7] at h3
  exact hK w3 out ⟨h3.m.1,h3.ow,fun b hb=>(h3.os b hb).1⟩
theorem q9f {k:Nat}{K:Sl->World->Prop}(h:PV w s0 s1 s2 p)(hk:k<p.lots.length)(hK:∀ w' s,Fr F0 w w'->VI w' s (opts p p.lots[k])->K s w'):z10_sh s0 s1 s2 p.most p.budget k K w :=
 q6t h hk fun w' s hm=>hK w' s hm.fr0 hm.vw
theorem qik (hp:q03 p)(hP0:PV wB s0 s1 s2 p):∀ (ls ds f kn:List Int) (w:World) (s5 t5:Sl) (K:Sl->World->Prop),Fr F0 wB w->p.lots=ds++ls->f.length=ds.length->VI w s5 f->VI w t5 kn->kn.length<=12 ->
  (∀ w' s,Fr F0 w w'->VI w' s (bF p f ls kn)->K s w')->z23_sh s0 s1 s2 p.most p.budget s5 t5 K w:=by
 intro ls
 induction ls with
 | nil =>
  intro ds f kn w s5 t5 K hB hl hfl hv hkn hkl hK
  have hP:=hP0.fr hB
  have hds:p.lots.length=f.length:=by rw[hl,hfl]; simp
  have e0:=hP.lots.len
  have e5:=hv.len
  have hfew:=hp.few
  apply z23_mk
  unfold z23_sd
  intro w1
  have m:Mem w w1 _:=Mem.nil.allocL
  refine⟨s0,m.ld 0,q09.2 ?_⟩
  refine⟨fun _=>⟨s0,m.ld 0,s1,m.ld 0,s2,m.ld 0,_,m.ld 0,_,m.ld 0,?_⟩,fun h=>absurd (show(s5.l:Int)=(s0.l:Int) by omega) h⟩
  refine q5l (a:=f) (b:=kn) ⟨hP.fr m.1,hv.fr m.1,by omega⟩ ⟨hP.fr m.1,hkn.fr m.1,by omega⟩ fun w8 hf=>?_
  have m:=m.fr hf
  unfold bF at hK
  refine q02.2 ⟨fun hb=>?_,fun hb=>?_⟩
  ·rw[if_pos hb] at hK
   intro w10
   have h:Sp w w10 _ _ _ _ _ _ _:=Sp.empty (α:=Int) (n:=1) (enc:=ie .i64 (id:Int->Int)) (fun a=>q05 _ _ a) m
   refine h.app (hv.fr h.m.1) (q1y _ _) rfl (by simp; omega) (by simp; omega) fun r w12 h=>?_
   rw[J5] at h
   exact hK w12 r h.m.1 h.ow.vw
  ·rw[if_neg (by rw[hb]; decide)] at hK
   exact hK w8 t5 m.1 (hkn.fr m.1)
 | cons lot ls ih =>
  intro ds f kn w s5 t5 K hB hl hfl hv hkn hkl hK
  have hP:=hP0.fr hB
  have hds:p.lots.length=f.length+(ls.length+1):=by rw[hl,hfl]; simp
  have e0:=hP.lots.len
  have e5:=hv.len
  have hfew:=hp.few
  have hch:=hp.chs
  have hkf:f.length<p.lots.length:=by omega
  have hlot:∀ (k:Nat) (hk:k<p.lots.length),k=f.length->p.lots[k]=lot:=by
   rintro k hk rfl
   have:p.lots[f.length]?=some lot:=by rw[hl,hfl]; simp
   rw[J2 hkf] at this
   exact Option.some.inj this
  apply z23_mk
  unfold z23_sd
  intro w1
  have m:Mem w w1 _:=Mem.nil.allocL
  have hpr:=m.row 0
  refine⟨s0,m.ld 0,q09.2 ?_⟩
  refine⟨fun h=>absurd (show(s5.l:Int)=s0.l from h) (by omega),fun _=>⟨s0,m.ld 0,s1,m.ld 0,s2,m.ld 0,_,m.ld 0,_,m.ld 0,q9f (k:=s5.l) (hP.fr m.1) (by omega) fun w18 sl hf hsl=>?_⟩⟩
  rw[hlot s5.l (by omega) e5] at hsl
  have hf18:=m.1.t hf
  have hol:=q58 p lot
  have esl:=hsl.len
  have hbl:∀ (os kn:List Int),kn.length<=12->(os.foldl (fun kn o=>bF p (f++[o]) ls kn) kn).length<=12:=by
   intro os
   induction os with
   | nil=>exact fun kn h=>h
   | cons o os ih2 =>
    intro kn h
    refine ih2 _ ?_
    show(bF p (f++[o]) ls kn).length<=12
    rcases (qlu hp ls (f++[o]) kn).one with e | ⟨q,_⟩
    ·rw[e]; exact h
    ·rw[q.1]; exact hfew
  refine⟨⟨fun kn' i w'=>∃ i':Nat,i=i'/\i'<=(opts p lot).length/\Fr F0 w18 w'/\VI w' kn' (((opts p lot).take i').foldl (fun kn o=>bF p (f++[o]) ls kn) kn),fun _ i _=>(opts p lot).length-i.toNat,⟨0,rfl,by omega,Fr.refl,hkn.fr hf18⟩,?_⟩⟩
  rintro kn' i w2 ⟨i,rfl,hi,hf2,hkv⟩
  unfold z23_b0
  refine q00.2<|⟨fun hlt=>?_,fun hge=>?_⟩
  ·have hio:i<(opts p lot).length:=by omega
   have hfold:((opts p lot).take (i+1)).foldl (fun kn o=>bF p (f++[o]) ls kn) kn=bF p (f++[(opts p lot)[i]]) ls (((opts p lot).take i).foldl (fun kn o=>bF p (f++[o]) ls kn) kn):=by
    rw[q08 hio,List.foldl_append]
    rfl
   have hkl':=hbl ((opts p lot).take i) kn hkl
   intro w20
   have hf20:Fr F0 w18 w20:=hf2.t Fr.drew
   have hkv:VI w20 kn' _:=hkv.fr Fr.drew
   have hS:∀ {u},Fr F0 w20 u->(Row u w.heap.size (prC s0 s1 s2 p.most p.budget)/\VI u sl (opts p lot)):=fun hu=>⟨(hf.t (hf20.t hu)).row hpr fun h=>h,hsl.fr (hf20.t hu)⟩
   refine⟨fun u=>Row u w.heap.size (prC s0 s1 s2 p.most p.budget)/\VI u sl (opts p lot),hS Fr.refl,s0,fun u hu=>hu.1.at,s1,fun u hu=>hu.1.at,s2,fun u hu=>hu.1.at,_,fun u hu=>hu.1.at,_,fun u hu=>hu.1.at,?_⟩
   obtain⟨ad,hp',_⟩:=hsl.at (fun a=>q05 _ _ a) (J2 hio) (by decide)
   have hv20:=hv.fr (hf18.t hf20)
   have hrec:∀ {u:World} {r:Sl} {K':Sl->World->Prop},Fr F0 w20 u->VI u r (f++[(opts p lot)[i]])->(∀ w' s,Fr F0 w20 w'->VI w' s (((opts p lot).take (i+1)).foldl (fun kn o=>bF p (f++[o]) ls kn) kn)->K' s w')->z23_sh s0 s1 s2 p.most p.budget r kn' K' u:=fun {u r K'} hu hr hk =>
    ih (ds++[lot]) (f++[(opts p lot)[i]]) _ u r kn' K' (hB.t (hf18.t (hf20.t hu))) (by rw[hl]; simp) (by simp[hfl]) hr (hkv.fr hu) hkl' fun w' s hw hs=>hk w' s (hu.t hw) (hfold ▸ hs)
   have hfin:∀ {w':World} {r:Sl},Fr F0 w20 w'->VI w' r (((opts p lot).take (i+1)).foldl (fun kn o=>bF p (f++[o]) ls kn) kn)->∃ i':Nat,(i:Int)+1=i'/\i'<=(opts p lot).length/\Fr F0 w18 w'/\VI w' r (((opts p lot).take i').foldl (fun kn o=>bF p (f++[o]) ls kn) kn):=fun hw hr=>⟨i+1,by omega,by omega,hf20.t hw,hr⟩
   refine q0b.2 ⟨ad,hp',⟨by omega,by omega⟩,(opts p lot)[i],fun u hu=>?_,?_,?_⟩
   ·obtain⟨ad',hp'',hc⟩:=hu.2.at (fun a=>q05 _ _ a) (J2 hio) (by decide)
    rw[hp'] at hp''
    cases hp''
    exact hc 0 _ rfl
   ·intro w29
    have h:Sp w20 w29 [] _ _ _ _ _ _:=Sp.empty (α:=Int) (n:=1) (enc:=ie .i64 (id:Int->Int)) (fun a=>q05 _ _ a) Mem.nil
    refine⟨hS h.m.1,?_,?_⟩
    ·refine h.app (hv20.fr h.m.1) (q1y _ _) rfl (by simp; omega) (by simp; omega) fun s30 w31 h=>⟨hS h.m.1,?_⟩
     rw[J5] at h
     intro w32
     refine⟨hS (h.fr (Fr.alloc:Fr F0 w31 w32)).m.1,h.push (a:=(opts p lot)[i]) rfl rfl (q1y _ _) rfl (by omega) (by omega) fun s33 w34 h=>⟨hS h.m.1,hrec h.m.1 h.ow.vw fun w35 r hw hr=>⟨hS hw,q01,⟨⟨rfl,rfl,rfl,trivial⟩,hfin hw hr⟩,by dsimp only; omega⟩⟩⟩
    ·intro w37
     have h:Sp w20 w37 _ _ _ _ _ _ _:=h.allocL (vs:=([(opts p lot)[i]]:List Int).map (Value.int .i64))
     refine⟨hS h.m.1,h.app (hv20.fr h.m.1) (q1y _ _) rfl (by simp; omega) (by simp; omega) fun s38 w39 h=>⟨hS h.m.1,?_⟩⟩
     rw[J5] at h
     exact h.app (m:=[(opts p lot)[i]]) (Ow.row (l:=[(opts p lot)[i]]) (h.row 0)).vw (q1y _ _) rfl (by simp; omega) (by simp; omega) fun s40 w41 h=>⟨hS h.m.1,hrec h.m.1 h.ow.vw fun w35 r hw hr=>⟨hS hw,q01,⟨⟨rfl,rfl,rfl,trivial⟩,hfin hw hr⟩,by dsimp only; omega⟩⟩
   ·intro w44
    have m:Mem w20 w44 _:=Mem.nil.allocL
    refine⟨hS m.1,?_⟩
    intro w45
    have h:Sp w20 w45 _ _ _ _ _ _ _:=Sp.empty (α:=Int) (n:=1) (enc:=ie .i64 (id:Int->Int)) (fun a=>q05 _ _ a) m
    refine⟨hS h.m.1,h.app (hv20.fr h.m.1) (q1y _ _) rfl (by simp; omega) (by simp; omega) fun s46 w47 h=>⟨hS h.m.1,?_⟩⟩
    rw[J5] at h
    exact h.app (m:=[(opts p lot)[i]]) (Ow.row (l:=[(opts p lot)[i]]) (h.row 0)).vw (q1y _ _) rfl (by simp; omega) (by simp; omega) fun s48 w49 h=>⟨hS h.m.1,hrec h.m.1 h.ow.vw fun w35 r hw hr=>⟨hS hw,q01,⟨⟨rfl,rfl,rfl,trivial⟩,hfin hw hr⟩,by dsimp only; omega⟩⟩
  ·have:i=(opts p lot).length:=by omega
   subst this
   rw[J7] at hkv
   exact hK w2 kn' (hf18.t hf2) hkv
theorem qd2 {K:Sl->World->Prop}(hp:q03 p)(h:PV w s0 s1 s2 p)(hK:∀ w' s,Fr F0 w w'->VI w' s (bF p [] p.lots [])->K s w'):z20_sh s0 s1 s2 p.most p.budget K w:=by
 refine⟨?_⟩
 intro w1
 have m:Mem w w1 _:=Mem.nil.allocL
 exact⟨s0,m.ld 0,s1,m.ld 0,s2,m.ld 0,_,m.ld 0,_,m.ld 0,qik hp h p.lots [] [] [] w1 _ _ _ m.1 rfl rfl Vw.nil Vw.nil (by simp) fun w' s hw hs=>hK w' s (m.1.t hw) hs⟩
end
open Go Pw
def NdV (w:World)(c:NdC)(n:Nd):Prop:=(c.lot=n.lot/\c.num=n.num/\c.den=n.den)/\VI w c.nx n.next/\I64 n.num/\I64 n.den
structure NV (w:World)(s:Sl)(N:List Nd):Prop where
 nds:∃ cs:List NdC,Vw 4 encN w s cs/\cs.length=N.length/\∀ (i:Nat) c n,cs[i]?=some c->N[i]?=some n->NdV w c n
 lt:N.length<2^47
theorem NV.fr {w w':World}{s:Sl}{N:List Nd}(h:NV w s N)(hf:Fr F0 w w'):NV w' s N:=by
 obtain⟨⟨cs,h1,h2,h3⟩,h4⟩:=h
 exact⟨⟨cs,h1.fr hf,h2,fun i c n hc hn=>⟨(h3 i c n hc hn).1,(h3 i c n hc hn).2.1.fr hf,(h3 i c n hc hn).2.2⟩⟩,h4⟩
theorem NV.len {w:World}{s:Sl}{N:List Nd}(h:NV w s N):s.l=N.length:=by
 obtain⟨⟨cs,h1,h2,_⟩,_⟩:=h
 rw[h1.len,h2]
def be:Bool->List Value:=fun b=>[.bool b]
@[simp] theorem be_length (b:Bool):(be b).length=1:=rfl
def q2r (W:List Int->Int->List Bool->Bool × List Bool)(n:Int)(f:List Int):List Int->List Int->List Bool->Bool × List Bool
 | o :: os,k :: ks,seen=>if k<=n then (false,seen) else
   if (W (f++[o]) k seen).1 then q2r W n f os ks (W (f++[o]) k seen).2 else (false,(W (f++[o]) k seen).2)
 | _,_,seen=>(true,seen)
def q0y (p:Pr)(N:List Nd)(T:List Int):List Int->List Int->Int->List Bool->Bool × List Bool
 | ls,f,n,seen=>match (if 0<=n then N[n.toNat]? else none) with
  | none=>(false,seen)
  | some x=>if seen.getD n.toNat true then (false,seen) else
   if x.next=[] then (q0w p f x.num x.den T,seen.set n.toNat true) else
   match ls with
   | []=>(false,seen.set n.toNat true)
   | lot :: ls=>if x.lot≠f.length\/x.next.length≠(opts p lot).length then (false,seen.set n.toNat true)
    else q2r (q0y p N T ls) n f (opts p lot) x.next (seen.set n.toNat true)
end Go.Proofs.YtfpobpjandjhjaaGreatDoor
namespace Pw
open Go
theorem Fr.any {F:Nat->Prop}{w w':World}(h:Fr F0 w w'):Fr F w w':=⟨h.1,fun b hb _=>h.2.1 b hb fun h=>h,h.2.2⟩
theorem Sp.mk'' {α:Type}{n:Nat}{enc:α->List Value}{w0 w:World}{s:Sl}{l:List α}{L:List (Nat × List Value)}{B:Nat->Prop}{Q:World->Prop}(h:Sp w0 w L B Q n enc s l):Mk w0 n enc w s l:=⟨h.m.1,h.ow,fun b hb=>(h.os b hb).1⟩
theorem Fr.comp {F:Nat->Prop}{w w' w2:World}(h:Fr F w w')(h':Fr F w' w2):Fr F w w2:=h.trans h' fun _ hb _=>hb
end Pw
namespace Go.Proofs.YtfpobpjandjhjaaGreatDoor
open Go Pw
section
variable {w w' w0:World}{s:Sl}{l:List Bool}{N:List Nd}
theorem be_ld {i:Int}{K:Bool->Prop}(h:Vw 1 be w s l)(i':Nat)(hi:i=(i':Int))(h1:i'<l.length)(hK:K l[i']) :
  nz s.p fun a=>(0<=i/\i<(s.l:Nat))/\∃ x:Bool,w.cell? (a.add (i.toNat*1))=some (Value.bool x)/\K x:=by
 subst hi
 obtain⟨ad,hp,hc⟩:=h.at be_length (J2 h1) (by decide)
 have hl:=h.len
 rw[hp]
 exact⟨⟨by omega,by omega⟩,_,hc 0 _ rfl,hK⟩
theorem be_st {i:Int}(h:Mk w0 1 be w s l)(i':Nat)(hi:i=(i':Int))(h1:i'<l.length) :
  ∃ ad,s.p=some ad/\(0<=i/\i<(s.l:Nat))/\wrOk w (ad.add (i.toNat*1))/\∀ a,Mk w0 1 be (w.setCell (ad.add (i.toNat*1)) (Value.bool a)) s (l.set i' a)/\Fr (inB s) w (w.setCell (ad.add (i.toNat*1)) (Value.bool a)):=by
 subst hi
 obtain⟨hl,hown⟩:=h.ow
 obtain⟨hlen,hnil | ⟨b,cs,hp,hrow,hcs,hle,ht⟩⟩:=hown
 ·omega
 ·refine⟨_,hp,⟨by omega,by omega⟩,?_⟩
  simp only[q1q,Nat.mul_one,Nat.zero_add,Int.toNat_natCast]
  rw[q0d be_length] at ht hlen
  have hi:i'<cs.length:=by omega
  refine⟨hrow.wr hi,fun a=>?_⟩
  have hfr:Fr (inB s) w (w.setCell ⟨b,i',none⟩ (Value.bool a)):=Fr.set ⟨_,hp,rfl⟩
  refine⟨⟨h.fr0.trans hfr fun c hc hlt=>absurd (h.nw c hc) (by omega),⟨by simp[hl],?_,.inr ⟨b,_,hp,hrow.set i' (Value.bool a),by simp[hcs],hle,?_⟩⟩,h.nw⟩,hfr⟩
  ·rw[q0d be_length]; simp[hl]
  ·rw[q0d be_length]
   simp only[List.length_set,Nat.mul_one] at ht ⊢
   rw[List.take_set,ht]
   exact qa0 (fun a=>Value.bool a) l i' a
theorem NV.ld {i:Int}{K:Addr->Prop}(h:NV w0 s N)(hf:Fr F0 w0 w)(i':Nat)(hi:i=(i':Int))(h1:i'<N.length)
  (hK:∀ (a:Addr) (nx:Sl),VI w0 nx N[i'].next->(w.cell? (a.add (i.toNat*4))=some (.int .i64 N[i'].lot)/\w.cell? ((a.add (i.toNat*4)).add 1)=some (.int .i64 N[i'].num)/\w.cell? ((a.add (i.toNat*4)).add 2)=some (.int .i64 N[i'].den)/\w.cell? ((a.add (i.toNat*4)).add 3)=some (.slice nx.p nx.l nx.c))->K a) :
  nz s.p fun a=>(0<=i/\i<(s.l:Nat))/\K a:=by
 subst hi
 have hl:=h.len
 obtain⟨⟨cs,hv,hcl,hn⟩,_⟩:=h
 have h2:i'<cs.length:=by omega
 obtain⟨⟨e1,e2,e3⟩,hx,_⟩:=hn i' _ _ (J2 h2) (J2 h1)
 obtain⟨ad,hp,hc⟩:=(hv.fr hf).at (fun a=>q0p a) (J2 h2) (by decide)
 rw[hp]
 refine⟨⟨by omega,by omega⟩,hK _ cs[i'].nx hx ⟨?_,?_,?_,?_⟩⟩
 ·rw[← e1]; exact hc 0 _ rfl
 ·rw[← e2]; exact hc 1 _ rfl
 ·rw[← e3]; exact hc 2 _ rfl
 ·exact hc 3 _ rfl
theorem NV.i64 (h:NV w s N){x:Nd}(hx:x∈N):I64 x.num/\I64 x.den:=by
 obtain⟨⟨cs,hv,hcl,hn⟩,_⟩:=h
 obtain⟨i,hi,rfl⟩:=Jd.1 hx
 obtain⟨_,_,h2,h3⟩:=hn i _ _ (J2 (by omega)) (J2 hi)
 exact⟨h2,h3⟩
theorem qd3 {W:List Int->Int->List Bool->Bool × List Bool}{n:Int}{f:List Int}{c:Nat}(hW:∀ g k seen,seen.length=c->(W g k seen).2.length=c):∀ (os ks:List Int) (seen:List Bool),seen.length=c->(q2r W n f os ks seen).2.length=c
 | [],[],_,h=>h
 | [],_ :: _,_,h=>h
 | _ :: _,[],_,h=>h
 | o :: os,k :: ks,seen,h=>by
  unfold q2r
  split
  ·exact h
  ·split
   ·exact qd3 hW os ks _ (hW _ _ _ h)
   ·exact hW _ _ _ h
theorem q6u {p:Pr}{T:List Int}{c:Nat}:∀ (ls f:List Int) (n:Int) (seen:List Bool),seen.length=c->(q0y p N T ls f n seen).2.length=c:=by
 intro ls
 induction ls with
 | nil =>
  intro f n seen h
  unfold q0y
  split
  ·exact h
  ·split
   ·exact h
   ·split<;>simpa using h
 | cons lot ls ih =>
  intro f n seen h
  unfold q0y
  split
  ·exact h
  ·split
   ·exact h
   ·split
    ·simpa using h
    ·simp only
     split
     ·simpa using h
     ·exact qd3 ih _ _ _ (by simpa using h)
end
section
variable {w w' w0:World}{s0 s1 s2 t5 ns:Sl}{p:Pr}{T:List Int}{N:List Nd}{pts bnd:Int}
abbrev rsC (t5:Sl)(pts bnd:Int)(ns:Sl):List Value:=[.slice t5.p t5.l t5.c,.int .i64 pts,.int .i64 bnd,.slice ns.p ns.l ns.c]
def qil (w0:World)(s0 s1 s2:Sl)(p:Pr)(t5:Sl)(T:List Int)(pts bnd:Int)(ns:Sl)(N:List Nd)(ls:List Int):Prop :=
 ∀ (ds f:List Int) (n:Int) (seen:List Bool) (w:World) (s5 sn:Sl) (K:Bool->World->Prop),Mk w0 1 be w sn seen->seen.length=N.length->p.lots=ds++ls->f.length=ds.length->Decs p p.lots f->VI w s5 f->(∀ b,inB s5 b->¬inB sn b) ->
  (∀ w',Mk w0 1 be w' sn (q0y p N T ls f n seen).2->Fr (inB sn) w w'->K (q0y p N T ls f n seen).1 w')->z26_sh s0 s1 s2 p.most p.budget t5 pts bnd ns n s5 sn K w
theorem q9g {p:Pr}:∀ {ds ls f:List Int} {lot o:Int},Decs p (ds++lot :: ls) f->f.length=ds.length->Dec p lot o->Decs p (ds++lot :: ls) (f++[o])
 | [],ls,[],lot,o,_,_,ho=>⟨ho,by cases ls<;>trivial⟩
 | [],_,_ :: _,_,_,_,h,_=>by simp at h
 | _ :: _,_,[],_,_,_,h,_=>by simp at h
 | d :: ds,ls,x :: f,lot,o,h,hl,ho=>⟨h.1,q9g h.2 (by simpa using hl) ho⟩
theorem qd4 (hp:q03 p)(hP0:PV w0 s0 s1 s2 p)(hT0:VI w0 t5 T)(hfit:q3s p T=true)(hN0:NV w0 ns N)(ls:List Int)
  (hIH:∀ lot ls',ls=lot :: ls'->qil w0 s0 s1 s2 p t5 T pts bnd ns N ls'):qil w0 s0 s1 s2 p t5 T pts bnd ns N ls:=by
 intro ds f n seen w s5 sn K hm hsl hlots hfl hd hv hdj hK
 have e0:=hP0.lots.len
 have e5:=hv.len
 have en:=hN0.len
 have hNl:=hN0.lt
 have hfew:=hp.few
 have hTl:T.length<2^63:=by have:=q33 hfit; have:=q1n this; omega
 have hsb:∀ {b},inB sn b->b<w.heap.size:=fun hb=>hm.ow.lt' hb
 have hend:∀ {u:World} {r:Bool × List Bool},q0y p N T ls f n seen=r->Mk w0 1 be u sn r.2->Fr (inB sn) w u->K r.1 u:=fun {u r} e hu hf=>by
  have:=hK u (e ▸ hu) hf
  rwa [e] at this
 apply z26_mk
 unfold z26_sd
 intro w1
 have m:Mem w0 w1 _:=(Mem.nil.fr hm.fr0).allocL
 have hf1:Fr F0 w w1:=Fr.alloc
 clear_value w1
 intro w2
 have m:Mem w0 w2 [(w1.heap.size,rsC t5 pts bnd ns),(w.heap.size,prC s0 s1 s2 p.most p.budget)]:=m.allocL
 have hf2:Fr F0 w w2:=hf1.t Fr.alloc
 have hsz1:w.heap.size<=w1.heap.size:=hf1.1
 clear_value w2
 have hm2:=hm.fr hf2
 refine q00.2 ⟨fun hneg=>hend (r:=(false,seen)) ?_ hm2 hf2.any,fun hpos=>?_⟩
 ·unfold q0y
  rw[if_neg (by omega)]
 refine⟨ns,m.ld 0,q00.2 ⟨fun hge=>hend (r:=(false,seen)) ?_ hm2 hf2.any,fun hlt=>?_⟩⟩
 ·unfold q0y
  rw[if_pos (by omega),List.getElem?_eq_none (by omega)]
 obtain⟨n,rfl⟩:=Int.eq_ofNat_of_zero_le (show 0<=n by omega)
 have hnN:n<N.length:=by omega
 have hns:n<seen.length:=by omega
 have hw:q0y p N T ls f (n:Int) seen=if seen[n] then (false,seen) else
   if N[n].next=[] then (q0w p f N[n].num N[n].den T,seen.set n true) else
   match (generalizing:=false) ls with
   | []=>(false,seen.set n true)
   | lot :: ls=>if N[n].lot≠f.length\/N[n].next.length≠(opts p lot).length then (false,seen.set n true)
    else q2r (q0y p N T ls) n f (opts p lot) N[n].next (seen.set n true):=by
  have h0:(0:Int)<=(n:Int):=by omega
  rw[q0y.eq_def]
  simp only[h0,if_true,Int.toNat_natCast,J2 hnN,List.getD_eq_getElem?_getD,J2 hns,Option.getD_some]
 refine be_ld hm2.vw n rfl hns (q02.2 ⟨fun hs=>hend (r:=(false,seen)) ?_ hm2 hf2.any,fun hs=>?_⟩)
 ·rw[hw,if_pos hs]
 rw[hw,if_neg (by rw[hs]; decide)] at hend
 obtain⟨ad,hsp,hb,hwr,hst⟩:=be_st hm2 n rfl hns
 refine q0b.2 ⟨ad,hsp,hb,hwr,?_⟩
 intro w7
 obtain⟨hm7,hf7⟩:Mk w0 1 be w7 sn (seen.set n true)/\Fr (inB sn) w2 w7:=hst true
 have hrows:∀ q∈[(w1.heap.size,rsC t5 pts bnd ns),(w.heap.size,prC s0 s1 s2 p.most p.budget)],¬inB sn q.1:=fun q hq hb=>by
  have:=hsb hb
  simp only[J9,Jb,or_false] at hq
  rcases hq with rfl | rfl<;>simp only at this<;>omega
 have m:Mem w0 w7 _:=m.frF hf7 hrows hm.nw
 have hF7:Fr (inB sn) w w7:=(hf2.any).comp hf7
 have hv7:VI w7 s5 f:=(hv.fr hf2).frF hf7 hdj
 clear_value w7
 refine⟨ns,m.ld 0,hN0.ld hm7.fr0 n rfl hnN fun a nx hnx hc=>?_⟩
 obtain⟨c0,c1,c2,c3⟩:=hc
 obtain⟨i1,i2⟩:=hN0.i64 (Ja hnN)
 have enx:=hnx.len
 refine⟨_,c0,_,c1,_,c2,nx,c3,?_⟩
 have hF8:Fr F0 w7 w7:=Fr.refl
 refine q19 (w0:=w7) (l:=[]) rfl Mem.nil fun w15 m15=>?_
 have m:Mem w0 w15 [(w7.heap.size,[.int .i64 N[n].lot,.int .i64 N[n].num,.int .i64 N[n].den,.slice nx.p nx.l nx.c]),(w1.heap.size,rsC t5 pts bnd ns),(w.heap.size,prC s0 s1 s2 p.most p.budget)]:=by
  refine⟨m.1.t m15.1,fun q hq=>?_,?_,fun q hq=>?_⟩
  ·rcases J9.1 hq with rfl | hq
   ·exact m15.row 0
   ·exact m15.1.row (m.2.1 q hq) fun h=>h
  ·have:=m.2.2.1
   simp only[List.map_cons,List.pairwise_cons] at this ⊢
   refine⟨fun b hb=>?_,this⟩
   have h1:=(m.row 0).lt
   have h2:=(m.row 1).lt
   simp only[J9,List.map_nil,Jb,or_false] at hb
   rcases hb with rfl | rfl<;>omega
  ·rcases J9.1 hq with rfl | hq
   ·exact m.1.1
   ·exact m.2.2.2 q hq
 have hm15:=hm7.fr m15.1
 have hF15:Fr (inB sn) w w15:=hF7.comp m15.1.any
 have hv15:=hv7.fr m15.1
 have hm0:=hP0
 have pf15:∀ {u},Fr F0 w15 u->PF u s0 s1 s2 s5 p f:=fun hu=>⟨hP0.fr (m.1.t hu),hv15.fr hu,by have:=q1n hd; omega⟩
 refine⟨nx,m.ld 0,q09.2 ⟨fun hz=>?_,fun hnz=>?_⟩⟩
 ·have hz':N[n].next=[]:=J4.1 (by omega)
  exact⟨s0,m.ld 2,s1,m.ld 2,s2,m.ld 2,_,m.ld 2,_,m.ld 2,_,m.ld 0,_,m.ld 0,t5,m.ld 1,qe8 hp (pf15 Fr.refl) hd ⟨hP0.fr m.1,hT0.fr m.1,hTl⟩ hfit i1 i2 fun w25 hf=>hend (r:=(_,seen.set n true)) (if_pos hz') (hm15.fr hf) (hF15.comp hf.any)⟩
 rw[if_neg (fun h=>hnz (by rw[enx,h]; rfl))] at hend
 have hl2:p.lots.length=ds.length+ls.length:=by rw[hlots]; simp
 refine⟨s0,m.ld 2,q00.2 ⟨fun hge=>?_,fun hlt2=>?_⟩⟩
 ·have hge:(s5.l:Int)>=(s0.l:Int):=hge
  have:ls=[]:=J4.1 (by omega)
  subst this
  exact hend (r:=(false,seen.set n true)) rfl hm15 hF15
 have hlt2:¬(s5.l:Int)>=(s0.l:Int):=hlt2
 cases ls with
 | nil=>simp at hl2; omega
 | cons lot ls =>
 have ih:=hIH lot ls rfl
 simp only at hend
 refine⟨_,m.ld 0,q0u.2 ⟨fun hne=>hend (r:=(false,seen.set n true)) (if_pos (.inl (by have hne:N[n].lot≠(s5.l:Int):=hne; omega))) hm15 hF15,fun hloteq=>?_⟩⟩
 have hloteq:N[n].lot=(s5.l:Int):=hloteq
 refine⟨s0,m.ld 2,s1,m.ld 2,s2,m.ld 2,_,m.ld 2,_,m.ld 2,q6t (k:=s5.l) (hP0.fr m.1) (by omega) fun w34 sl hsl34=>?_⟩
 have hlot:p.lots[s5.l]'(by omega)=lot:=by
  have:p.lots[s5.l]?=some lot:=by rw[hlots,e5,hfl]; simp
  rw[J2 (by omega)] at this
  exact Option.some.inj this
 rw[hlot] at hsl34
 have hf34:=hsl34.fr0
 have m:=m.fr hf34
 have hm34:=hm15.fr hf34
 have hF34:Fr (inB sn) w w34:=hF15.comp hf34.any
 have hv34:=hv15.fr hf34
 have esl:=hsl34.vw.len
 have hol:=q58 p lot
 have hchs:=hp.chs
 have hslj:∀ b,inB sl b->¬inB sn b:=fun b hb hb'=>by have:=hsl34.nw b hb; have:=hsb hb'; have:=hF15.1; omega
 refine⟨nx,m.ld 0,q0u.2 ⟨fun hne=>hend (r:=(false,seen.set n true)) (if_pos (.inr (by omega))) hm34 hF34,fun hleneq=>?_⟩⟩
 rw[if_neg (by rintro (q | q)<;>omega)] at hend
 have hln:N[n].next.length=(opts p lot).length:=by omega
 generalize hos:opts p lot=os at *
 generalize hks:N[n].next=ks at *
 have hx0:w.heap.size<=w34.heap.size:=hF34.1
 have hrows34:∀ q∈[(w7.heap.size,[Value.int .i64 N[n].lot,.int .i64 N[n].num,.int .i64 N[n].den,.slice nx.p nx.l nx.c]),(w1.heap.size,rsC t5 pts bnd ns),(w.heap.size,prC s0 s1 s2 p.most p.budget)],¬inB sn q.1:=fun q hq hb=>by
  have:=hsb hb
  have:=hF7.1
  simp only[J9,Jb,or_false] at hq
  rcases hq with rfl | rfl | rfl<;>simp only at this<;>omega
 have hS:∀ {u},Fr F0 w0 u->Fr (inB sn) w34 u->Rs u [(w7.heap.size,[.int .i64 N[n].lot,.int .i64 N[n].num,.int .i64 N[n].den,.slice nx.p nx.l nx.c]),(w1.heap.size,rsC t5 pts bnd ns),(w.heap.size,prC s0 s1 s2 p.most p.budget)]/\VI u sl os/\VI u nx ks :=
  fun {u} h0 hu=>⟨fun q hq=>hu.row (m.2.1 q hq) (hrows34 q hq),hsl34.vw.frF hu hslj,hnx.fr h0⟩
 refine⟨⟨fun i u=>∃ (i':Nat) (sq:List Bool),i=i'/\i'<=os.length/\sq.length=N.length/\Mk w0 1 be u sn sq/\Fr (inB sn) w34 u/\q2r (q0y p N T ls) n f (os.drop i') (ks.drop i') sq=q2r (q0y p N T ls) n f os ks (seen.set n true),fun i _=>os.length-i.toNat,
  ⟨0,seen.set n true,rfl,by omega,by simp[hsl],hm34,Fr.refl,rfl⟩,?_⟩⟩
 rintro i u1 ⟨i,sq,rfl,hi,hsq,hmq,hFq,he⟩
 unfold z26_b0
 refine q00.2 ⟨fun hlt3=>?_,fun hge3=>?_⟩
 ·have hio:i<os.length:=by omega
  have hik:i<ks.length:=by omega
  rw[J3 hio,J3 hik,q2r] at he
  intro w37
  have hm37:Mk w0 1 be w37 sn sq:=hmq.fr Fr.drew
  have hF37:Fr (inB sn) w34 w37:=hFq.comp Fr.drew
  refine⟨fun u=>Rs u [(w7.heap.size,[.int .i64 N[n].lot,.int .i64 N[n].num,.int .i64 N[n].den,.slice nx.p nx.l nx.c]),(w1.heap.size,rsC t5 pts bnd ns),(w.heap.size,prC s0 s1 s2 p.most p.budget)]/\VI u sl os/\VI u nx ks,hS hm37.fr0 hF37,nx,fun u hu=>hu.1.ld 0,?_⟩
  obtain⟨ka,hkp,_⟩:=(hS hm37.fr0 hF37).2.2.at (fun a=>q05 _ _ a) (J2 hik) (by decide)
  obtain⟨oa,hop,_⟩:=(hS hm37.fr0 hF37).2.1.at (fun a=>q05 _ _ a) (J2 hio) (by decide)
  have hkc:∀ u,VI u nx ks->u.cell? (ka.add ((i:Int).toNat*1))=some (.int .i64 ks[i]):=fun u hu=>by
   obtain⟨ad',hp'',hc⟩:=hu.at (fun a=>q05 _ _ a) (J2 hik) (by decide)
   rw[hkp] at hp''
   cases hp''
   exact hc 0 _ rfl
  have hoc:∀ u,VI u sl os->u.cell? (oa.add ((i:Int).toNat*1))=some (.int .i64 os[i]):=fun u hu=>by
   obtain⟨ad',hp'',hc⟩:=hu.at (fun a=>q05 _ _ a) (J2 hio) (by decide)
   rw[hop] at hp''
   cases hp''
   exact hc 0 _ rfl
  refine q0b.2 ⟨ka,hkp,⟨by omega,by omega⟩,ks[i],fun u hu=>hkc u hu.2.2,q00.2 ⟨fun hle=>?_,fun hgt=>?_⟩⟩
  ·rw[if_pos hle] at he
   exact hend (r:=(false,sq)) he.symm hm37 (hF34.comp hF37)
  rw[if_neg hgt] at he
  refine⟨s0,fun u hu=>hu.1.ld 2,s1,fun u hu=>hu.1.ld 2,s2,fun u hu=>hu.1.ld 2,_,fun u hu=>hu.1.ld 2,_,fun u hu=>hu.1.ld 2,t5,fun u hu=>hu.1.ld 1,_,fun u hu=>hu.1.ld 1,_,fun u hu=>hu.1.ld 1,ns,fun u hu=>hu.1.ld 1,nx,fun u hu=>hu.1.ld 0,?_⟩
  have hdo:Dec p lot os[i]:=q3k.1 (by rw[hos]; exact Ja hio)
  have hv37:VI w37 s5 f:=hv34.frF hF37 hdj
  have hal:∀ {u},Fr F0 w37 u->Rs u _/\VI u sl os/\VI u nx ks:=fun hu=>hS (hm37.fr0.t hu) (hF37.comp hu.any)
  have hsb37:∀ {b},inB sn b->b<w37.heap.size:=fun hb=>hm37.ow.lt' hb
  have hrec:∀ {u:World} {r:Sl} {K':Bool->World->Prop},Mk w37 1 (ie .i64 (id:Int->Int)) u r (f++[os[i]])->(∀ w' b,(Rs w' [(w7.heap.size,[.int .i64 N[n].lot,.int .i64 N[n].num,.int .i64 N[n].den,.slice nx.p nx.l nx.c]),(w1.heap.size,rsC t5 pts bnd ns),(w.heap.size,prC s0 s1 s2 p.most p.budget)]/\VI w' sl os/\VI w' nx ks)->Mk w0 1 be w' sn (q0y p N T ls (f++[os[i]]) ks[i] sq).2->Fr (inB sn) w34 w'->b=(q0y p N T ls (f++[os[i]]) ks[i] sq).1->K' b w')->z26_sh s0 s1 s2 p.most p.budget t5 pts bnd ns ks[i] r sn K' u:=fun {u r K'} hr hk =>
   ih (ds++[lot]) (f++[os[i]]) ks[i] sq u r sn K' (hm37.fr hr.fr0) hsq (by rw[hlots]; simp) (by simp[hfl]) (by rw[hlots]; exact q9g (hlots ▸ hd) hfl hdo) hr.vw (fun b hb hb'=>by have:=hr.nw b hb; have:=hsb37 hb'; omega) fun w' hm' hf' =>
    hk w' _ (hS hm'.fr0 ((hF37.comp hr.fr0.any).comp hf')) hm' ((hF37.comp hr.fr0.any).comp hf') rfl
  have hfin:∀ {w':World} {b:Bool},Mk w0 1 be w' sn (q0y p N T ls (f++[os[i]]) ks[i] sq).2->Fr (inB sn) w34 w'->b=(q0y p N T ls (f++[os[i]]) ks[i] sq).1->((!b)=true->K false w')/\((!b)=false->inR .i64 ((i:Int)+1)/\(((n:Int)=n/\s5=s5/\sn=sn/\(⟨w.heap.size,0,none⟩:Addr)=⟨w.heap.size,0,none⟩/\(⟨w1.heap.size,0,none⟩:Addr)=⟨w1.heap.size,0,none⟩/\(⟨w7.heap.size,0,none⟩:Addr)=⟨w7.heap.size,0,none⟩/\sl=sl/\True) /\
    ∃ (i':Nat) (sq:List Bool),(i:Int)+1=i'/\i'<=os.length/\sq.length=N.length/\Mk w0 1 be w' sn sq/\Fr (inB sn) w34 w'/\q2r (q0y p N T ls) n f (os.drop i') (ks.drop i') sq=q2r (q0y p N T ls) n f os ks (seen.set n true))/\os.length-((i:Int)+1).toNat<os.length-(i:Int).toNat):=fun {w' b} hm' hF' hb=>by
   refine⟨fun hnb=>?_,fun hyb=>⟨q01,⟨⟨rfl,rfl,rfl,rfl,rfl,rfl,rfl,trivial⟩,i+1,_,by omega,by omega,q6u _ _ _ _ hsq,hm',hF',?_⟩,by omega⟩⟩
   ·rw[if_neg (by rw[← hb]; cases b; decide; cases hnb)] at he
    exact hend (r:=(false,_)) he.symm hm' (hF34.comp hF')
   ·rw[if_pos (by rw[← hb]; cases b; cases hyb; rfl)] at he
    exact he
  refine q0b.2 ⟨ka,hkp,⟨by omega,by omega⟩,ks[i],fun u hu=>hkc u hu.2.2,q0b.2 ⟨oa,hop,⟨by omega,by omega⟩,os[i],fun u hu=>hoc u hu.2.1,?_,?_⟩⟩
  ·intro w56
   have h:Sp w37 w56 [] _ _ _ _ _ _:=Sp.empty (α:=Int) (n:=1) (enc:=ie .i64 (id:Int->Int)) (fun a=>q05 _ _ a) Mem.nil
   refine⟨hal h.m.1,?_,?_⟩
   ·refine h.app (hv37.fr h.m.1) (q1y _ _) rfl (by simp; omega) (by simp; omega) fun s30 w31 h=>⟨hal h.m.1,?_⟩
    rw[J5] at h
    intro w32
    refine⟨hal (h.fr (Fr.alloc:Fr F0 w31 w32)).m.1,h.push (a:=os[i]) rfl rfl (q1y _ _) rfl (by omega) (by omega) fun s33 w34' h=>⟨hal h.m.1,hrec h.mk'' fun w' b hs hm' hF' hb=>⟨hs,?_⟩⟩⟩
    obtain⟨g1,g2⟩:=hfin hm' hF' hb
    exact q02.2 ⟨g1,g2⟩
   ·intro w37'
    have h:Sp w37 w37' _ _ _ _ _ _ _:=h.allocL (vs:=([os[i]]:List Int).map (Value.int .i64))
    clear_value w37'
    refine⟨hal h.m.1,h.app (hv37.fr h.m.1) (q1y _ _) rfl (by simp; omega) (by simp; omega) fun s38 w39 h=>⟨hal h.m.1,?_⟩⟩
    rw[J5] at h
    refine h.app (m:=[os[i]]) (Ow.row (l:=[os[i]]) (h.row 0)).vw (q1y _ _) rfl (by simp; omega) (by simp; omega) fun s40 w41 h=>⟨hal h.m.1,hrec h.mk'' fun w' b hs hm' hF' hb=>⟨hs,?_⟩⟩
    obtain⟨g1,g2⟩:=hfin hm' hF' hb
    exact q02.2 ⟨g1,g2⟩
  ·intro w44
   have m:Mem w37 w44 _:=Mem.nil.allocL
   refine⟨hal m.1,?_⟩
   intro w45
   have h:Sp w37 w45 _ _ _ _ _ _ _:=Sp.empty (α:=Int) (n:=1) (enc:=ie .i64 (id:Int->Int)) (fun a=>q05 _ _ a) m
   refine⟨hal h.m.1,h.app (hv37.fr h.m.1) (q1y _ _) rfl (by simp; omega) (by simp; omega) fun s46 w47 h=>⟨hal h.m.1,?_⟩⟩
   rw[J5] at h
   refine h.app (m:=[os[i]]) (Ow.row (l:=[os[i]]) (h.row 0)).vw (q1y _ _) rfl (by simp; omega) (by simp; omega) fun s48 w49 h=>⟨hal h.m.1,hrec h.mk'' fun w' b hs hm' hF' hb=>⟨hs,?_⟩⟩
   obtain⟨g1,g2⟩:=hfin hm' hF' hb
   exact q02.2 ⟨g1,g2⟩
 ·have:i=os.length:=by omega
  subst this
  rw[List.drop_length,q2r.eq_def] at he
  simp only at he
  exact hend (r:=(true,sq)) he.symm hmq (hF34.comp hFq)
end
open Go Pw
def q5m (p:Pr)(N:List Nd)(T:List Int):Bool:=(q0g p && q21 p T) && ((q0y p N T p.lots [] 0 (J8 N.length false)).1 && (q0y p N T p.lots [] 0 (J8 N.length false)).2.all id)
section
variable {w wB w0:World}{s0 s1 s2 t5 ns:Sl}{p:Pr}{T:List Int}{N:List Nd}{pts bnd:Int}
theorem qlw (hp:q03 p)(hP0:PV w0 s0 s1 s2 p)(hT0:VI w0 t5 T)(hfit:q3s p T=true)(hN0:NV w0 ns N):∀ ls,qil w0 s0 s1 s2 p t5 T pts bnd ns N ls:=by
 intro ls
 induction ls with
 | nil=>exact qd4 hp hP0 hT0 hfit hN0 [] fun lot ls' h=>by cases h
 | cons lot ls ih =>
  refine qd4 hp hP0 hT0 hfit hN0 _ fun lot' ls' h=>?_
  cases h
  exact ih
theorem qgh {K:Bool->World->Prop}(hP:PV w s0 s1 s2 p)(hT:VI w t5 T)(hTl:T.length<2^63)(hN:NV w ns N)(hK:∀ w',Fr F0 w w'->K (q5m p N T) w'):z1p_sh s0 s1 s2 p.most p.budget t5 pts bnd ns K w:=by
 have en:=hN.len
 have hNl:=hN.lt
 refine⟨?_⟩
 intro w1
 have m:Mem w w1 _:=Mem.nil.allocL
 intro w2
 have m:Mem w w2 [(w1.heap.size,rsC t5 pts bnd ns),(w.heap.size,prC s0 s1 s2 p.most p.budget)]:=m.allocL
 refine⟨s0,m.ld 1,s1,m.ld 1,s2,m.ld 1,_,m.ld 1,_,m.ld 1,t5,m.ld 0,q20 ⟨hP.fr m.1,hT.fr m.1,hTl⟩ fun w9 hf=>?_⟩
 have m:=m.fr hf
 have hb9:Fr F0 w w9:=m.1
 refine⟨ns,m.ld 0,Mk.make (w0:=w9) (enc:=be) (z:=false) Fr.refl rfl rfl (by omega) (by omega) (by omega) fun sn w13 hmk hf13=>?_⟩
 rw[show((ns.l:Int)).toNat=N.length by omega] at hmk
 have m:=m.fr hf13
 have hw9:Fr F0 w w13:=m.1
 unfold q5m at hK
 refine q02.2 ⟨fun hn=>?_,fun hy=>?_⟩
 ·have e:(q0g p && q21 p T)=false:=by cases hq:(q0g p && q21 p T)<;>simp_all
  have hk:=hK w13 hw9
  rw[e,Jh] at hk
  exact hk
 have e:(q0g p && q21 p T)=true:=by cases hq:(q0g p && q21 p T)<;>simp_all
 obtain⟨er,ep⟩:=Ji.1 e
 have hp:=q0f.1 er
 rw[e,Jg] at hK
 refine⟨s0,m.ld 1,s1,m.ld 1,s2,m.ld 1,_,m.ld 1,_,m.ld 1,t5,m.ld 0,_,m.ld 0,_,m.ld 0,ns,m.ld 0,qlw (w0:=w9) hp (hP.fr hb9) (hT.fr hb9) (q3y ep) (hN.fr hb9) p.lots [] [] 0 _ w13 ⟨none,0,0⟩ sn _ hmk (by simp) rfl rfl (by cases p.lots<;>trivial) Vw.nil (fun b ⟨a,ha,_⟩=>by cases ha) fun w23 hm23 hF=>?_⟩
 have hf23:Fr F0 w w23:=hb9.t hm23.fr0
 refine q02.2 ⟨fun hn=>?_,fun hy=>?_⟩
 ·have hk:=hK w23 hf23
  rw[show(q0y p N T p.lots [] 0 (J8 N.length false)).1=false by simpa using hn,Jh] at hk
  exact hk
 rw[show(q0y p N T p.lots [] 0 (J8 N.length false)).1=true by simpa using hy,Jg] at hK
 have hlen:=q6u (N:=N) (p:=p) (T:=T) p.lots [] 0 (J8 N.length false) (by simp:_=N.length)
 generalize (q0y p N T p.lots [] 0 (J8 N.length false)).2=sq at *
 have esn:=hm23.vw.len
 refine⟨⟨fun i u=>∃ i':Nat,i=i'/\i'<=sq.length/\Fr F0 w23 u/\(sq.take i').all id=true,fun i _=>sq.length-i.toNat,⟨0,rfl,by omega,Fr.refl,rfl⟩,?_⟩⟩
 rintro i u ⟨i,rfl,hi,hfu,hall⟩
 unfold z1p_b0
 refine q00.2 ⟨fun hlt=>?_,fun hge=>?_⟩
 ·have hil:i<sq.length:=by omega
  refine be_ld (hm23.vw.fr hfu) i rfl hil (q02.2 ⟨fun hn=>?_,fun hy=>⟨q01,⟨⟨rfl,trivial⟩,i+1,by omega,by omega,hfu,?_⟩,by dsimp only; omega⟩⟩)
  ·have hk:=hK u (hf23.t hfu)
   have e:sq.all id=false:=by
    rw[List.all_eq_false]
    exact⟨sq[i],Ja hil,by simpa using hn⟩
   rw[e] at hk
   exact hk
  ·rw[q08 hil,List.all_append,hall]
   simpa using hy
 ·have:i=sq.length:=by omega
  subst this
  rw[J7] at hall
  have hk:=hK u (hf23.t hfu)
  rw[hall] at hk
  exact hk
end
end Go.Proofs.YtfpobpjandjhjaaGreatDoor

