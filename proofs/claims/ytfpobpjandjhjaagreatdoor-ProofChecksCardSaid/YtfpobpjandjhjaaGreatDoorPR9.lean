/- The reference's Copy: what it makes is its own, and lies apart. Conditions: none. -/
import Derived.Test.YtfpobpjandjhjaaGreatDoorPR8
import Derived.Test.YtfpobpjandjhjaaGreatDoorCEC
open List renaming set_cons_zero->J0,nil_append->J1,set_cons_succ->J2,mem_singleton->J3,getElem_mem->J4,mem_append->J5
namespace Go.Proofs.YtfpobpjandjhjaaGreatDoor
open Go Pw
structure OwR (w0 w:World)(t:Sl)(T:List Int)(ns:Sl)(cs:List NdC)(N:List Nd):Prop where
 tk:OI w t T
 nds:Ow 4 encN w ns cs
 len:cs.length=N.length
 nd:∀ (i:Nat) c n,cs[i]?=some c->N[i]?=some n->(c.lot=n.lot/\c.num=n.num/\c.den=n.den)/\OI w c.nx n.next/\I64 n.num/\I64 n.den
 nw:∀ b,(inB t b\/inB ns b\/∃ c∈cs,inB c.nx b)->w0.heap.size<=b
 tn:∀ b,inB t b->¬inB ns b
 tc:∀ c∈cs,∀ b,inB t b->¬inB c.nx b
 nc:∀ c∈cs,∀ b,inB ns b->¬inB c.nx b
 cc:cs.Pairwise fun c d=>∀ b,inB c.nx b->¬inB d.nx b
theorem OwR.nv {w0 w:World}{t ns:Sl}{T:List Int}{cs:List NdC}{N:List Nd}(h:OwR w0 w t T ns cs N)(hN:N.length<2^47):NV w ns N :=
 ⟨⟨cs,h.nds.vw,h.len,fun i c n hc hn=>⟨(h.nd i c n hc hn).1,(h.nd i c n hc hn).2.1.vw,(h.nd i c n hc hn).2.2⟩⟩,hN⟩
theorem OwR.fr {w0 w w':World}{t ns:Sl}{T:List Int}{cs:List NdC}{N:List Nd}(h:OwR w0 w t T ns cs N)(hf:Fr F0 w w'):OwR w0 w' t T ns cs N :=
 { h with tk:=h.tk.fr hf,nds:=h.nds.fr hf,nd:=fun i c n hc hn=>⟨(h.nd i c n hc hn).1,(h.nd i c n hc hn).2.1.fr hf,(h.nd i c n hc hn).2.2⟩ }
section
variable {w w' w0:World}{t t5 ns:Sl}{T:List Int}{N:List Nd}{pts bnd:Int}{rb tb ob:Nat}
structure SmR (T:List Int)(N:List Nd):Prop where
 t:T.length<2^44
 n:N.length<2^41
 x:∀ n∈N,n.next.length<2^44
theorem qec {K:Sl->Int->Int->Sl->World->Prop}(hN:NV w0 ns N)(hs:SmR T N)
  (h:Sp w0 w [(ob,rsC t pts bnd ⟨none,0,0⟩),(tb,rsC ⟨none,0,0⟩ 0 0 ⟨none,0,0⟩),(rb,rsC t5 pts bnd ns)] (fun _=>False) (fun _=>True) 1 (ie .i64 (id:Int->Int)) t T)
  (hK:∀ w' ns' cs,Fr F0 w0 w'->OwR w0 w' t T ns' cs N->K t pts bnd ns' w'):z28_k0 ⟨rb,0,none⟩ ⟨tb,0,none⟩ ⟨ob,0,none⟩ K w:=by
 have en:=hN.len
 have hn1:=hs.n
 have h:Sp w0 w _ _ _ 4 encN ⟨none,0,0⟩ []:=h.next
 refine⟨?_⟩
 refine⟨⟨fun k u=>∃ (k':Nat) (s:Sl) (cs:List NdC) (B:Nat->Prop) (Q:World->Prop),k=k'/\k'<=N.length/\cs.length=k'/\Sp w0 u [(ob,rsC t pts bnd s),(tb,rsC ⟨none,0,0⟩ 0 0 ⟨none,0,0⟩),(rb,rsC t5 pts bnd ns)] B Q 4 encN s cs/\q1t B Q /\
   (∀ u,Q u->OI u t T/\∀ (i:Nat) c n,cs[i]?=some c->N[i]?=some n->(c.lot=n.lot/\c.num=n.num/\c.den=n.den)/\OI u c.nx n.next/\I64 n.num/\I64 n.den) /\
   (∀ b,(inB t b\/∃ c∈cs,inB c.nx b)->B b)/\(∀ c∈cs,∀ b,inB t b->¬inB c.nx b)/\cs.Pairwise (fun c d=>∀ b,inB c.nx b->¬inB d.nx b),
  fun k _=>N.length-k.toNat,⟨0,⟨none,0,0⟩,[],_,_,rfl,by omega,rfl,h,h.rs,fun u hq=>⟨hq.2,fun i c n hc=>by simp at hc⟩,fun b hb=>?_,fun c hc=>by simp at hc,.nil⟩,?_⟩⟩
 ·rcases hb with hb | ⟨c,hc,_⟩
  ·exact .inr hb
  ·simp at hc
 clear h
 rintro k u1 ⟨k,s,cs,B,Q,rfl,hk,hcl,h,hB,hQ,hcov,htc,hcc⟩
 unfold z28_b1
 refine⟨ns,h.ld 2,q00.2 ⟨fun hlt=>?_,fun hge=>?_⟩⟩
 ·have hkN:k<N.length:=by omega
  obtain⟨i1,i2⟩:=hN.i64 (J4 hkN)
  have hx:=hs.x _ (J4 hkN)
  refine⟨ns,h.ld 2,hN.ld h.m.1 k rfl hkN fun a nx hnx hc=>?_⟩
  obtain⟨c0,c1,c2,c3⟩:=hc
  have enx:=hnx.len
  refine⟨_,c0,_,c1,_,c2,nx,c3,?_⟩
  intro w29
  have h:Sp w0 w29 _ _ _ _ _ _ _:=h.allocL (vs:=[.int .i64 0,.int .i64 0,.int .i64 0,.slice none 0 0])
  refine q6r h 0 rfl rfl fun w30 h=>?_
  intro w31
  have hdis:=fun b hb=>(h.os b hb).2.1
  have h:Sp w0 w31 _ _ _ 1 (ie .i64 (id:Int->Int)) _ _:=h.nextE (fun a=>q05 _ _ a)
  refine⟨nx,h.ld 0,h.app (hnx.fr h.m.1) (q1y _ _) rfl (by simp; omega) (by simp; omega) fun s33 w34 h=>?_⟩
  rw[J1] at h
  refine⟨h.wr 0,?_⟩
  intro w35
  have h:=h.set (i:=3) (v:=.slice s33.p s33.l s33.c) 0
  have h:Sp w0 w35 _ _ _ _ _ _ _:=h
  have hnew:∀ b,inB s33 b->¬B b:=fun b hb hBb=>(h.os b hb).2.1 (.inl hBb)
  have h:=h.back hB hdis
  refine⟨s,h.ld 1,_,h.ld 0,_,h.ld 0,_,h.ld 0,s33,h.ld 0,?_⟩
  intro w41
  refine h.push (a:=⟨N[k].lot,N[k].num,N[k].den,s33⟩) rfl rfl qbn rfl (by omega) (by omega) fun s42 w43 h=>⟨h.wr 1,?_⟩
  intro w44
  have h:=h.set (i:=3) (v:=.slice s42.p s42.l s42.c) 1
  have h:Sp w0 w44 _ _ _ _ _ _ _:=h
  have h:Sp w0 w44 [(ob,rsC t pts bnd s42),(tb,rsC ⟨none,0,0⟩ 0 0 ⟨none,0,0⟩),(rb,rsC t5 pts bnd ns)] _ _ 4 encN s42 _:=h.dr 1
  refine⟨q01,⟨⟨rfl,rfl,rfl,trivial⟩,k+1,s42,cs++[⟨N[k].lot,N[k].num,N[k].den,s33⟩],_,_,by omega,by omega,by simp[hcl],h,h.rs,fun u hq=>⟨(hQ u hq.1).1,fun i c n hc hn=>?_⟩,fun b hb=>?_,fun c hc b hb=>?_,?_⟩,by dsimp only; omega⟩
  ·rcases Nat.lt_or_ge i cs.length with hi | hi
   ·rw[List.getElem?_append_left hi] at hc
    exact(hQ u hq.1).2 i c n hc hn
   ·rw[List.getElem?_append_right hi] at hc
    have:i=k:=by
     have:=(List.getElem?_eq_some_iff.1 hc).1
     simp at this
     omega
    subst this
    rw[hcl,Nat.sub_self] at hc
    simp at hc
    subst hc
    rw[List.getElem?_eq_getElem hkN] at hn
    cases hn
    exact⟨⟨rfl,rfl,rfl⟩,hq.2,i1,i2⟩
  ·rcases hb with hb | ⟨c,hc,hb⟩
   ·exact .inl (hcov b (.inl hb))
   ·rcases J5.1 hc with hc | hc
    ·exact .inl (hcov b (.inr ⟨c,hc,hb⟩))
    ·rw[J3] at hc
     subst hc
     exact .inr hb
  ·rcases J5.1 hc with hc | hc
   ·exact htc c hc b hb
   ·rw[J3] at hc
    subst hc
    exact fun hb'=>hnew b hb' (hcov b (.inl hb))
  ·rw[List.pairwise_append]
   refine⟨hcc,List.pairwise_singleton ..,fun c hc d hd b hb=>?_⟩
   rw[J3] at hd
   subst hd
   exact fun hb'=>hnew b hb' (hcov b (.inr ⟨c,hc,hb⟩))
 ·have:k=N.length:=by omega
  subst this
  refine⟨t,h.ld 0,_,h.ld 0,_,h.ld 0,s,h.ld 0,q6r h 1 rfl rfl fun w49 h=>?_⟩
  refine⟨t,h.ld 1,_,h.ld 1,_,h.ld 1,s,h.ld 1,hK w49 s cs h.m.1 ⟨(hQ _ h.q).1,h.ow,hcl,(hQ _ h.q).2,fun b hb=>?_,fun b hb hb'=>(h.os b hb').2.1 (hcov b (.inl hb)),htc,fun c hc b hb hb'=>(h.os b hb).2.1 (hcov b (.inr ⟨c,hc,hb'⟩)),hcc⟩⟩
  rcases hb with hb | hb | hb
  ·exact(h.ap b (hcov b (.inl hb))).2.1
  ·exact(h.os b hb).1
  ·exact(h.ap b (hcov b (.inr hb))).2.1
theorem q0z {K:Sl->Int->Int->Sl->World->Prop}(hT:VI w t5 T)(hN:NV w ns N)(hs:SmR T N)
  (hK:∀ w' t' ns' cs,Fr F0 w w'->OwR w w' t' T ns' cs N->K t' pts bnd ns' w'):z28_sh t5 pts bnd ns K w:=by
 have e5:=hT.len
 have ht:=hs.t
 refine⟨?_⟩
 unfold z28_sd
 intro w1
 have m:Mem w w1 _:=Mem.nil.allocL
 intro w2
 have m:Mem w w2 [(w1.heap.size,rsC ⟨none,0,0⟩ 0 0 ⟨none,0,0⟩),(w.heap.size,rsC t5 pts bnd ns)]:=m.allocL
 intro w3
 have m:Mem w w3 _:=m.drew
 refine⟨fun u=>Rs u [(w1.heap.size,rsC ⟨none,0,0⟩ 0 0 ⟨none,0,0⟩),(w.heap.size,rsC t5 pts bnd ns)],m.sub 0,t5,fun _ h=>h.ld 1,_,fun _ h=>h.ld 1,_,fun _ h=>h.ld 1,?_,?_⟩
 ·intro w8
  have h:Sp w w8 _ _ _ 1 (ie .i64 (id:Int->Int)) _ _:=Sp.empty (fun a=>q05 _ _ a) m
  refine⟨h.sub 0,?_,?_⟩
  ·refine h.app (hT.fr h.m.1) (q1y _ _) rfl (by simp; omega) (by simp; omega) fun s9 w10 h=>⟨h.sub 0,?_⟩
   rw[J1] at h
   intro w11
   have h:Sp w w11 _ _ _ _ _ _ _:=h.allocL (vs:=rsC ⟨none,0,0⟩ 0 0 ⟨none,0,0⟩)
   refine⟨h.sub 1,q6r h 0 rfl rfl fun w12 h=>?_⟩
   exact qec hN hs h fun w' ns' cs hf ho=>hK w' s9 ns' cs hf ho
  ·intro w13
   have h:Sp w w13 _ _ _ _ _ _ _:=h.allocL (vs:=rsC ⟨none,0,0⟩ 0 0 ⟨none,0,0⟩)
   refine⟨h.sub 1,h.app (hT.fr h.m.1) (q1y _ _) rfl (by simp; omega) (by simp; omega) fun s14 w15 h=>⟨h.sub 1,?_⟩⟩
   rw[J1] at h
   refine q6r h 0 rfl rfl fun w16 h=>?_
   exact qec hN hs h fun w' ns' cs hf ho=>hK w' s14 ns' cs hf ho
 ·intro w17
  have m:Mem w w17 _:=m.allocL
  refine⟨m.sub 1,?_⟩
  intro w18
  have h:Sp w w18 _ _ _ 1 (ie .i64 (id:Int->Int)) _ _:=Sp.empty (fun a=>q05 _ _ a) m
  refine⟨h.sub 1,h.app (hT.fr h.m.1) (q1y _ _) rfl (by simp; omega) (by simp; omega) fun s19 w20 h=>⟨h.sub 1,?_⟩⟩
  rw[J1] at h
  refine q6r h 0 rfl rfl fun w21 h=>?_
  exact qec hN hs h fun w' ns' cs hf ho=>hK w' s19 ns' cs hf ho
end
end Go.Proofs.YtfpobpjandjhjaaGreatDoor
