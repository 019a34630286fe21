/- ProofKeeps: the law. Conditions: none. -/
import Derived.Test.YtfpobpjandjhjaaGreatDoorPXZ
import Derived.Test.YtfpobpjandjhjaaGreatDoorPGA
namespace Go.Proofs.YtfpobpjandjhjaaGreatDoor
open Go Pw
section
variable {w w' w0 u v:World}{s a b s0 s1 s2 u0 u1 u2 t ns st sns:Sl}{l T T1:List Int}{N N1:List Nd}{x1 x2:Int}{p:Pr}{r:Re}
theorem Keeps_end {lb pb ob rb sb bb:Nat}{k m:Int}{N0:Addr->Bool->Addr->Addr->Addr->Addr->ByteArray->Addr->Int->Int->World->Prop}{K:Bool->World->Prop}(hge:¬k<m)(g:Gl w)(hlie:Row w lb (rsC a x1 x2 b))(hpb:Row w pb (prC s0 s1 s2 p.most p.budget))(hob:Row w ob (prC u0 u1 u2 p.most p.budget))(hrb:Row w rb (rsC t r.pts r.bnd ns))(hsb:Row w sb (rsC st r.pts r.bnd sns))
  (hx:LieV w a T1 x1 x2 b N1) (hP:PV w s0 s1 s2 p) (hO:PV w u0 u1 u2 p) (hTv:VI w t r.T) (hNv:NV w ns r.N) (hsT:VI w st r.T) (hsN:NV w sns r.N) (hI:r.I) (htx:r.txt.length<=1000000000) (hT12:r.T.length<=12) (hn14:∀ x∈r.N,x.next.length<=14) (hK:∀ w',Fr F0 w w'->K true w') :
  probitylaw22_ProofKeeps_b0 ⟨lb,0,none⟩ true ⟨pb,0,none⟩ ⟨ob,0,none⟩ ⟨rb,0,none⟩ ⟨sb,0,none⟩ (ofL r.txt) ⟨bb,0,none⟩ m k N0 K w:=by
 unfold probitylaw22_ProofKeeps_b0
 refine cnd_prop.2 ⟨fun h=>absurd h hge,fun _=>?_⟩
 refine pDecode_spec (by omega) g (fun r' t2 ns2 w65 hd _ _ f65 hm hn=>?_) fun w65 hno _=>absurd rfl (hno r (decQ_yes hI))
 rw[decQ_yes hI] at hd
 cases hd
 refine stN_new (w0:=w65) (l:=[]) rfl Mem.nil fun w69 n1=>?_
 have f69:=f65.t n1.1
 have la:=f69.row hlie fun h=>h
 refine⟨a,la.at rfl,_,la.at rfl,_,la.at rfl,b,la.at rfl,?_⟩
 refine result_spec (hx.fr f69) fun w74 yns f74 hyn=>?_
 refine stN_new (w0:=w74) (l:=[]) rfl Mem.nil fun w77 n2=>?_
 have f77:=(f69.t f74).t n2.1
 refine⟨a,n2.ld 0 rfl rfl,_,n2.ld 0 rfl rfl,_,n2.ld 0 rfl rfl,yns,n2.ld 0 rfl rfl,?_⟩
 have hyl:(N1.take 20).length<=20:=by simp only[List.length_take]; omega
 have htl:=hx.tl
 have hyx:∀ x∈N1.take 20,x.next.length<2^44:=fun x h=>by
  have:=(hx.ni x (List.mem_of_mem_take h)).2.2
  omega
 refine Copy_spec (hx.tk.fr f77) (hyn.fr n2.1) ⟨by omega,by omega,hyx⟩ fun w82 zt zns zcs f82 ho=>?_
 refine stN_new (w0:=w82) (l:=[]) rfl Mem.nil fun w85 n3=>?_
 have f85:=(f77.t f82).t n3.1
 have p85:=f85.row hpb fun h=>h
 have y85:=(f82.t n3.1).row (n2.row 0 rfl) fun h=>h
 refine⟨s0,p85.at rfl,s1,p85.at rfl,s2,p85.at rfl,_,p85.at rfl,_,p85.at rfl,a,y85.at rfl,_,y85.at rfl,_,y85.at rfl,yns,y85.at rfl,?_⟩
 refine pCheck_spec (hP.fr f85) (hx.tk.fr f85) (by omega) (hyn.fr ((n2.1.t f82).t n3.1)) fun w95 f95=>?_
 have f95':=f85.t f95
 have r95:=f95'.row hrb fun h=>h
 have s95:=f95'.row hsb fun h=>h
 refine cnd_iff.2 ⟨fun _=>cnd_beq.2 ⟨fun _=>?_,fun h=>absurd rfl h⟩,fun h=>(by cases h)⟩
 have hT62:r.T.length<2^62:=by omega
 have hN62:∀ x∈r.N,x.next.length<2^62:=fun x h=>by have:=hn14 x h; omega
 refine⟨t,r95.at rfl,_,r95.at rfl,_,r95.at rfl,ns,r95.at rfl,st,s95.at rfl,_,s95.at rfl,_,s95.at rfl,sns,s95.at rfl,?_⟩
 refine Same_true (hTv.fr f95') (hsT.fr f95') (hNv.fr f95') (hsN.fr f95') hT62 hN62 fun w105 f105=>cnd_iff.2 ⟨fun _=>?_,fun h=>(by cases h)⟩
 have f105':=f95'.t f105
 have gb:=n1.row 0 rfl
 have f69to:Fr F0 w69 w105:=(((f74.t n2.1).t f82).t n3.1).t (f95.t f105)
 have gb:=f69to.row gb fun h=>h
 have s105:=f105.row s95 fun h=>h
 refine⟨t2,gb.at rfl,_,gb.at rfl,_,gb.at rfl,ns2,gb.at rfl,st,s105.at rfl,_,s105.at rfl,_,s105.at rfl,sns,s105.at rfl,?_⟩
 refine Same_true (hm.vw.fr (n1.1.t f69to)) (hsT.fr f105') (hn.fr (n1.1.t f69to)) (hsN.fr f105') hT62 hN62 fun w115 f115=>cnd_iff.2 ⟨fun _=>?_,fun h=>(by cases h)⟩
 have f115':=f105'.t f115
 have y115:=(f95.t (f105.t f115)).row y85 fun h=>h
 have z115:=(f95.t (f105.t f115)).row (n3.row 0 rfl) fun h=>h
 have f82to:Fr F0 w82 w115:=n3.1.t (f95.t (f105.t f115))
 refine⟨a,y115.at rfl,_,y115.at rfl,_,y115.at rfl,yns,y115.at rfl,zt,z115.at rfl,_,z115.at rfl,_,z115.at rfl,zns,z115.at rfl,?_⟩
 refine Same_true (hx.tk.fr f115') (ho.tk.vw.fr f82to) (hyn.fr ((n2.1.t f82).t f82to)) ((ho.nv (by omega)).fr f82to) (by omega) (fun x h=>by have:=hyx x h; omega) fun w125 f125=>cnd_iff.2 ⟨fun _=>?_,fun h=>(by cases h)⟩
 have f125':=f115'.t f125
 have p125:=f125'.row hpb fun h=>h
 have o125:=f125'.row hob fun h=>h
 have hl0:=hP.l0
 refine⟨s0,p125.at rfl,u0,o125.at rfl,Ints_spec (hP.lots.fr f125') (hO.lots.fr f125') (by omega) fun w129 f129=>cnd_iff.2 ⟨fun _=>?_,fun h=>by simp at h⟩⟩
 have p129:=f129.row p125 fun h=>h
 have o129:=f129.row o125 fun h=>h
 refine⟨s1,p129.at rfl,u1,o129.at rfl,?_⟩
 have e1:=hP.ch.len
 have e2:=hO.ch.len
 have e:((s1.l:Int) == (u1.l:Int))=true:=by rw[e1,e2]; simp
 rw[e]
 exact hK w129 (f125'.t f129)
theorem Keeps_fr {K:Bool->World->Prop}(g:Gl w)(hv:VI w s l)(hl:l.length<2^63)(hx:LieV w a T1 x1 x2 b N1)(hK:∀ w',Fr F0 w w'->K true w'):probitylaw22_ProofKeeps_sh s a x1 x2 b K w:=by
 have hpn:=made_prefN l
 have hp:=madeP_right l
 have hch:=made_ch13 l
 refine⟨?_⟩
 unfold probitylaw22_ProofKeeps_sd
 intro w1
 have m:Mem w w1 _:=Mem.nil.allocL (cs:=rsC a x1 x2 b)
 clear_value w1
 refine sanity_spec (g.fr m.1).tab fun w2 f2=>?_
 have m:=m.fr f2
 refine Made_spec (hv.fr m.1) hl fun w4 s0 s1 s2 f4 hP=>?_
 have m:=m.fr f4
 refine Made_spec (hv.fr m.1) hl fun w6 u0 u1 u2 f6 hO=>?_
 have m:=m.fr f6
 have hP:=hP.fr f6
 generalize madeP l=p at *
 intro w8
 have n:Mem w6 w8 _:=Mem.nil.allocL (cs:=[.slice none 0 0,.slice none 0 0,.slice none 0 0,.int .i64 0,.int .i64 0])
 clear_value w8
 intro w9
 have n:Mem w6 w9 [(w8.heap.size,[.slice none 0 0,.slice none 0 0,.slice none 0 0,.int .i64 0,.int .i64 0]),(w6.heap.size,[.slice none 0 0,.slice none 0 0,.slice none 0 0,.int .i64 0,.int .i64 0])]:=n.allocL (cs:=[.slice none 0 0,.slice none 0 0,.slice none 0 0,.int .i64 0,.int .i64 0])
 clear_value w9
 refine stN_at n 1 rfl rfl fun w10 n=>?_
 simp only[List.set_cons_succ,List.set_cons_zero] at n
 refine stN_at n 0 rfl rfl fun w11 n=>?_
 simp only[List.set_cons_zero] at n
 have n:Mem w6 w11 [(w8.heap.size,prC u0 u1 u2 p.most p.budget),(w6.heap.size,prC s0 s1 s2 p.most p.budget)]:=n
 refine⟨s0,n.ld 1 rfl rfl,s1,n.ld 1 rfl rfl,s2,n.ld 1 rfl rfl,_,n.ld 1 rfl rfl,_,n.ld 1 rfl rfl,?_⟩
 refine Solve_full hp (hP.fr n.1) ⟨by omega,by omega⟩ (by omega) fun w17 t bnd ns T cs N hV hT hbd hTr=>?_
 subst hbd
 obtain⟨hI,htx,hT12,hn14⟩:=found hp hch hV hT hTr.1 hTr.2
 have hNV:NV w17 ns N:=hV.nvr (by have:=hTr.2; omega)
 have hTV:=hV.tv.vw
 have hNl:=hTr.2
 have n:=n.fr hV.m.1
 refine stN_new (w0:=w17) (l:=[]) rfl Mem.nil fun w21 q=>?_
 have n:=n.fr q.1
 have hTV:=hTV.fr q.1
 have hNV:=hNV.fr q.1
 refine⟨t,q.ld 0 rfl rfl,_,q.ld 0 rfl rfl,_,q.ld 0 rfl rfl,ns,q.ld 0 rfl rfl,?_⟩
 refine Copy_spec hTV hNV ⟨by omega,by omega,fun x h=>by have:=hn14 x h; omega⟩ fun w26 st sns scs f26 ho=>?_
 refine stN_new (w0:=w26) (l:=[]) rfl Mem.nil fun w29 c=>?_
 have f29:=f26.t c.1
 have n:=n.fr f29
 have q:=q.fr f29
 have hTV:=hTV.fr f29
 have hNV:=hNV.fr f29
 refine⟨s0,n.ld 1 rfl rfl,s1,n.ld 1 rfl rfl,s2,n.ld 1 rfl rfl,_,n.ld 1 rfl rfl,_,n.ld 1 rfl rfl,t,q.ld 0 rfl rfl,_,q.ld 0 rfl rfl,_,q.ld 0 rfl rfl,ns,q.ld 0 rfl rfl,?_⟩
 refine pCheck_spec (hP.fr n.1) hTV (by omega) hNV fun w39 f39=>?_
 have n:=n.fr f39
 have q:=q.fr f39
 have c:=c.fr f39
 have hTV:=hTV.fr f39
 have hNV:=hNV.fr f39
 refine⟨s0,n.ld 1 rfl rfl,s1,n.ld 1 rfl rfl,s2,n.ld 1 rfl rfl,_,n.ld 1 rfl rfl,_,n.ld 1 rfl rfl,t,q.ld 0 rfl rfl,?_⟩
 refine pBound_spec ⟨hP.fr n.1,hTV,by omega⟩ ⟨by decide,by decide⟩ ⟨by decide,by decide⟩ fun w47 f47=>?_
 have n:=n.fr f47
 have q:=q.fr f47
 have c:=c.fr f47
 have hTV:=hTV.fr f47
 have hNV:=hNV.fr f47
 refine⟨t,q.ld 0 rfl rfl,_,q.ld 0 rfl rfl,_,q.ld 0 rfl rfl,ns,q.ld 0 rfl rfl,?_⟩
 have g47:=g.fr (m.1.t n.1)
 refine Encode_spec hTV hNV ⟨by omega,by omega,fun x h=>by have:=hn14 x h; omega⟩ (fun x h=>by have:=hn14 x h; omega) (by omega) hI.f g47.tab (by have:(encT T (ptsOf p T) (ptsOf p T) N).length<=1000000000:=htx; omega) fun w54 f54=>?_
 obtain⟨r,hr⟩:∃ r:Re,r=⟨T,ptsOf p T,ptsOf p T,N⟩:=⟨_,rfl⟩
 have n:=n.fr f54
 have q:=q.fr f54
 have c:=c.fr f54
 have hTV:=hTV.fr f54
 have hNV:=hNV.fr f54
 have hsT:=ho.tk.vw.fr c.1
 have hsN:=(ho.nv (by omega)).fr c.1
 rw[show encT T (ptsOf p T) (ptsOf p T) N=r.txt by rw[hr]; rfl]
 have q:Mem w17 w54 [(w17.heap.size,rsC t r.pts r.bnd ns)]:=by rw[hr]; exact q
 have c:Mem w26 w54 [(w26.heap.size,rsC st r.pts r.bnd sns)]:=by rw[hr]; exact c
 rw[← hr] at hI htx
 rw[show T=r.T by rw[hr]] at hTV hsT hT12
 rw[show N=r.N by rw[hr]] at hNV hsN hn14
 clear hr
 have F54:=m.1.t n.1
 have lie:=n.1.row (m.row 0 rfl) fun h=>h
 refine pDecode_spec (by omega) (g.fr F54) (fun r' t' ns' w56 hd _ _ f56 hm hn=>?_) fun w56 hno _=>absurd rfl (hno r (decQ_yes hI))
 rw[decQ_yes hI] at hd
 cases hd
 have hlt:∀ b,inB t' b->b<w56.heap.size:=fun b hb=>hm.ow.lt' hb
 refine stN_new (w0:=w56) (l:=[]) rfl Mem.nil fun w60 k=>?_
 have hm:=hm.fr k.1
 have kr:=k.row 0 rfl
 refine cnd_bne.2 ⟨fun h=>absurd rfl h,fun _=>⟨t',kr.at rfl,?_⟩⟩
 have et:=hm.len
 refine⟨⟨fun k u=>∃ (k':Nat) (L':List Int),k=k'/\k'<=r.T.length/\L'.length=r.T.length/\Mk w54 1 IN u t' L'/\Row u w56.heap.size (rsC t' r.pts r.bnd ns'),fun k _=>r.T.length-k.toNat,⟨0,r.T,rfl,by omega,rfl,hm,kr⟩,?_⟩⟩
 rintro k u ⟨k,L',rfl,hk,hL,hu,hrow⟩
 have eu:=hu.len
 rcases Nat.lt_or_ge k r.T.length with hkl | hkl
 ·unfold probitylaw22_ProofKeeps_b0
  refine cnd_prop.2 ⟨fun _=>?_,fun h=>absurd (by omega) h⟩
  obtain⟨ad,hpa,hb,hw,hset⟩:=hu.st (i:=(k:Int)) k rfl (by omega)
  obtain⟨h1,h2⟩:=hset 77
  exact⟨t',hrow.at rfl,nz_iff.2 ⟨ad,hpa,hb,hw,inR64 (by omega) (by omega),⟨⟨rfl,rfl,rfl,rfl,rfl,rfl,rfl,rfl,rfl,trivial⟩,k+1,L'.set k 77,by omega,by omega,by simp[hL],h1,h2.row hrow fun h=>absurd (hlt _ h) (by omega)⟩,by dsimp only; omega⟩⟩
 ·have fu:=hu.fr0
  exact Keeps_end (r:=r) (p:=p) (by omega) (g.fr (F54.t fu)) (fu.row lie fun h=>h) (fu.row (n.row 1 rfl) fun h=>h) (fu.row (n.row 0 rfl) fun h=>h) (fu.row (q.row 0 rfl) fun h=>h) (fu.row (c.row 0 rfl) fun h=>h) (hx.fr (F54.t fu)) (hP.fr (n.1.t fu)) (hO.fr (n.1.t fu)) (hTV.fr fu) (hNV.fr fu) (hsT.fr fu) (hsN.fr fu) hI htx hT12 hn14 fun w' h=>hK w' ((F54.t fu).t h)
end
end Go.Proofs.YtfpobpjandjhjaaGreatDoor
