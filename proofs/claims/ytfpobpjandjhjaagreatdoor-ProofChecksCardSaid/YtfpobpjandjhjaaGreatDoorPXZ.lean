/- The chapter's examples hold. Conditions: none. -/
import Derived.Test.YtfpobpjandjhjaaGreatDoorPXY
import Derived.Test.YtfpobpjandjhjaaGreatDoorPG4
import Derived.Test.YtfpobpjandjhjaaGreatDoorCL1
open List renaming getElem?_eq_getElem->J0,mem_of_getElem?->J1,set_cons_zero->J2,set_cons_succ->J3,getElem_mem->J4,getElem?_eq_some_iff->J5,mem_or_eq_of_mem_set->J6,pairwise_iff_getElem->J7,mem_of_mem_eraseIdx->J8,getElem?_set->J9,mem_singleton->Ja
open Int renaming eq_ofNat_of_zero_le->Jb,toNat_natCast->Jc
namespace Go.Proofs.YtfpobpjandjhjaaGreatDoor
open Go Pw
def q4z:Pr:=⟨[1],[⟨1,5,7,3⟩,⟨1,6,9,4⟩],[],0,8⟩
def exN:List Nd:=[⟨0,0,0,[1,2,3]⟩,⟨0,0,1,[]⟩,⟨0,0,1,[]⟩,⟨0,0,1,[]⟩]
theorem NV.take {w:World}{s:Sl}{N:List Nd}(h:NV w s N){j:Nat}(hj:j<=N.length):NV w ⟨subP s.p 0 s.c 4,j-0,s.c-0⟩ (N.take j):=by
 obtain⟨⟨cs,h1,h2,h3⟩,h4⟩:=h
 refine⟨⟨cs.take j,h1.take (fun a=>q0p a) (by omega),by simp[h2],fun i c n hc hn=>?_⟩,by simp; omega⟩
 have hi:i<j:=by
  have:=(J5.1 hc).1
  simp at this
  omega
 rw[List.getElem?_take,if_pos hi] at hc hn
 exact h3 i c n hc hn
theorem OwR.far {w0 w w':World}{t ns:Sl}{T:List Int}{cs:List NdC}{N:List Nd}{x:Nat}(h:OwR w0 w t T ns cs N)(hf:∀ c,c≠x->w'.heap[c]?=w.heap[c]?)(hx:∀ b,(inB t b\/inB ns b\/∃ c∈cs,inB c.nx b)->b≠x):OwR w0 w' t T ns cs N :=
 { h with
  tk:=q1t.ow t T w w' (fun b hb=>hf b (hx b (.inl hb))) h.tk
  nds:=q1t.ow ns cs w w' (fun b hb=>hf b (hx b (.inr (.inl hb)))) h.nds
  nd:=fun i c n hc hn=>⟨(h.nd i c n hc hn).1,q1t.ow c.nx n.next w w' (fun b hb=>hf b (hx b (.inr (.inr ⟨c,J1 hc,hb⟩)))) (h.nd i c n hc hn).2.1,(h.nd i c n hc hn).2.2⟩ }
theorem OwR.lt {w0 w:World}{t ns:Sl}{T:List Int}{cs:List NdC}{N:List Nd}(h:OwR w0 w t T ns cs N):∀ b,(inB t b\/inB ns b\/∃ c∈cs,inB c.nx b)->b<w.heap.size:=fun b hb=>by
 rcases hb with hb | hb | ⟨c,hc,hb⟩
 ·exact h.tk.lt' hb
 ·exact h.nds.lt' hb
 ·obtain⟨i,hi,rfl⟩:=List.mem_iff_getElem.1 hc
  have hl:=h.len
  exact(h.nd i _ _ (J0 hi) (J0 (by omega))).2.1.lt' hb
section
variable {w w' w0 wB wC wD:World}{s0 s1 s2 tS nS t1 n1 t2 n2:Sl}{cs1 cs2:List NdC}{pb rb wa sa:Nat}
theorem q9u {K:Sl->Sl->Sl->Int->Int->World->Prop}(hK:∀ w' s0 s1 s2,Fr F0 w w'->PV w' s0 s1 s2 q4z->K s0 s1 s2 0 8 w'):z0v_sh K w:=by
 refine⟨?_⟩
 intro w1
 have m:Mem w w1 _:=Mem.nil.allocL
 intro w2
 have m:Mem w w2 _:=m.allocL
 intro w3
 have m:Mem w w3 _:=m.allocL
 refine q22 m 2 rfl rfl fun w4 m=>?_
 refine⟨⟨some ⟨w1.heap.size,0,none⟩,1,1⟩,m.ld 2,⟨some ⟨w2.heap.size,0,none⟩,2,2⟩,m.ld 2,⟨none,0,0⟩,m.ld 2,_,m.ld 2,_,m.ld 2,hK w4 _ _ _ m.1 ?_⟩
 refine⟨?_,?_,⟨[],Vw.nil,rfl,fun x hx=>by cases hx⟩,by simp[q4z],by simp[q4z],by simp[q4z]⟩
 ·exact(Row.ow (fun a=>q05 _ _ a) (l:=[(1:Int)]) (m.row 1)).vw
 ·exact(Row.ow (fun a=>q2h a) (l:=q4z.ch) (m.row 0)).vw
theorem qbw:exN.length<2^47:=by decide
theorem q2w:SmR [0] exN:=⟨by decide,by decide,by decide⟩
theorem qj0 {K:Bool->World->Prop}(g:GlT wB)(hP:PV wB s0 s1 s2 q4z)(hpr:Row wB pb (prC s0 s1 s2 0 8))(hrr:Row wB rb (rsC tS 3 3 nS))(hT:VI wB tS [0])(hN:NV wB nS exN)
  (hF:Fr F0 wB w) (hw:Row w wa (rsC t1 3 3 n1)) (hs:Row w sa (rsC t2 3 3 n2)) (hwa:wB.heap.size<=wa) (hsa:wB.heap.size<=sa) (hne:wa≠sa) (o1:OwR wC w t1 [0] n1 cs1 exN) (o2:OwR wD w t2 [0] n2 cs2 exN)
  (h1:∀ b,(inB t1 b\/inB n1 b\/∃ c∈cs1,inB c.nx b)->b≠sa/\b≠wa) (h2:∀ b,(inB t2 b\/inB n2 b\/∃ c∈cs2,inB c.nx b)->b≠sa/\b≠wa)
  (hK:∀ w',Fr F0 wB w'->K true w'):z15_k0 ⟨pb,0,none⟩ 27 true 26 true ⟨rb,0,none⟩ ⟨wa,0,none⟩ ⟨sa,0,none⟩ K w:=by
 refine⟨⟨hw.wr (i:=1) (by show 1<4; decide),?_⟩⟩
 intro w1
 have o1:OwR wC w1 t1 [0] n1 cs1 exN:=o1.far (x:=wa) (fun c hc=>q0r (Ne.symm hc)) fun b hb=>(h1 b hb).2
 have o2:OwR wD w1 t2 [0] n2 cs2 exN:=o2.far (x:=wa) (fun c hc=>q0r (Ne.symm hc)) fun b hb=>(h2 b hb).2
 have hw:Row w1 wa (rsC t1 4 3 n1):=hw.set 1 _
 have hs:Row w1 sa (rsC t2 3 3 n2):=hs.congr (q0r hne)
 have hF:Fr F0 wB w1:=hF.trans (Fr.set (F:=fun c=>c=wa) rfl) fun b hb hlt=>by omega
 refine⟨hw.wr (i:=2) (by show 2<4; decide),?_⟩
 intro w2
 have o1:OwR wC w2 t1 [0] n1 cs1 exN:=o1.far (x:=wa) (fun c hc=>q0r (Ne.symm hc)) fun b hb=>(h1 b hb).2
 have o2:OwR wD w2 t2 [0] n2 cs2 exN:=o2.far (x:=wa) (fun c hc=>q0r (Ne.symm hc)) fun b hb=>(h2 b hb).2
 have hw:Row w2 wa (rsC t1 4 4 n1):=hw.set 2 _
 have hs:Row w2 sa (rsC t2 3 3 n2):=hs.congr (q0r hne)
 have hF:Fr F0 wB w2:=hF.trans (Fr.set (F:=fun c=>c=wa) rfl) fun b hb hlt=>by omega
 have hn2l:n2.l=4:=(o2.nv qbw).len
 have hn2c:=o2.nds.vw.cap
 refine⟨n2,hs.at,⟨by omega,by omega,by omega⟩,hs.wr (i:=3) (by show 3<4; decide),?_⟩
 intro w3
 have o1:OwR wC w3 t1 [0] n1 cs1 exN:=o1.far (x:=sa) (fun c hc=>q0r (Ne.symm hc)) fun b hb=>(h1 b hb).1
 have o2:OwR wD w3 t2 [0] n2 cs2 exN:=o2.far (x:=sa) (fun c hc=>q0r (Ne.symm hc)) fun b hb=>(h2 b hb).1
 have hs:Row w3 sa (rsC t2 3 3 ⟨subP n2.p 0 n2.c 4,3-0,n2.c-0⟩):=hs.set 3 _
 have hw:Row w3 wa (rsC t1 4 4 n1):=hw.congr (q0r (Ne.symm hne))
 have hF:Fr F0 wB w3:=hF.trans (Fr.set (F:=fun c=>c=sa) rfl) fun b hb hlt=>by omega
 have v1:VI w3 t1 [0]:=o1.tk.vw
 have v2:VI w3 t2 [0]:=o2.tk.vw
 have x1:NV w3 n1 exN:=o1.nv qbw
 have x2:NV w3 ⟨subP n2.p 0 n2.c 4,3-0,n2.c-0⟩ (exN.take 3):=(o2.nv qbw).take (j:=3) (by decide)
 intro w4
 have m4:Mem w3 w4 _:=Mem.nil.allocL
 intro w5
 have m4:Mem w3 w5 _:=m4.allocL
 have vT:VI w5 ⟨some ⟨w3.heap.size,0,none⟩,1,1⟩ [0]:=(Row.ow (fun a=>q05 _ _ a) (l:=[(0:Int)]) (m4.row 1)).vw
 have vN:NV w5 ⟨some ⟨w4.heap.size,0,none⟩,1,1⟩ [⟨0,1,2,[]⟩]:=by
  refine⟨⟨[⟨0,1,2,⟨none,0,0⟩⟩],(Row.ow (fun a=>q0p a) (l:=[(⟨0,1,2,⟨none,0,0⟩⟩:NdC)]) (m4.row 0)).vw,rfl,fun i c n hc hn=>?_⟩,by decide⟩
  match i,hc,hn with
  | 0,hc,hn =>
   cases hc
   cases hn
   exact⟨⟨rfl,rfl,rfl⟩,Vw.nil,⟨by decide,by decide⟩,⟨by decide,by decide⟩⟩
 refine qef vT vN ⟨by decide,by decide,by decide⟩ (by decide) (by decide) ⟨by decide,⟨by decide,by decide⟩,⟨by decide,by decide⟩,by decide⟩ (g.fr (hF.t m4.1)) (by rw[q9h]; decide) fun w6 f6=>?_
 have hF6:Fr F0 wB w6:=hF.t (m4.1.t f6)
 have f36:Fr F0 w3 w6:=m4.1.t f6
 refine q02.2 ⟨fun _=>q02.2 ⟨fun _=>q02.2 ⟨fun _=>q02.2 ⟨fun _=>?_,fun h=>by cases h⟩,fun h=>by cases h⟩,fun h=>by cases h⟩,fun h=>by cases h⟩
 have p6:=hF6.row hpr fun h=>h
 have r6:=hF6.row hrr fun h=>h
 refine⟨s0,p6.at,s1,p6.at,s2,p6.at,_,p6.at,_,p6.at,tS,r6.at,_,r6.at,_,r6.at,nS,r6.at,q4d (p:=q4z) (hP.fr hF6) (hT.fr hF6) (by decide) (hN.fr hF6) fun w7 f7=>?_⟩
 rw[show chkP q4z [0] 3 3 exN=0 by decide +kernel]
 refine q02.2 ⟨fun _=>?_,fun h=>by cases h⟩
 have p7:=f7.row p6 fun h=>h
 have f37:=f36.t f7
 have w7r:=f37.row hw fun h=>h
 refine⟨s0,p7.at,s1,p7.at,s2,p7.at,_,p7.at,_,p7.at,t1,w7r.at,_,w7r.at,_,w7r.at,n1,w7r.at,q4d (p:=q4z) (hP.fr (hF6.t f7)) (v1.fr f37) (by decide) (x1.fr f37) fun w8 f8=>?_⟩
 rw[show chkP q4z [0] 4 4 exN=41 by decide +kernel]
 refine q02.2 ⟨fun _=>?_,fun h=>by cases h⟩
 have p8:=f8.row p7 fun h=>h
 have f38:=f37.t f8
 have w8r:=f38.row hs fun h=>h
 refine⟨s0,p8.at,s1,p8.at,s2,p8.at,_,p8.at,_,p8.at,t2,w8r.at,_,w8r.at,_,w8r.at,⟨subP n2.p 0 n2.c 4,3-0,n2.c-0⟩,w8r.at,q4d (p:=q4z) (hP.fr (hF6.t (f7.t f8))) (v2.fr f38) (by decide) (x2.fr f38) fun w9 f9=>?_⟩
 rw[show chkP q4z [0] 3 3 (exN.take 3)=41 by decide +kernel]
 refine q02.2 ⟨fun _=>?_,fun h=>by cases h⟩
 rw[q9h,decide_eq_true (by rfl)]
 exact hK w9 (hF6.t (f7.t (f8.t f9)))
theorem qeg {K:Bool->World->Prop}(g:GlT w)(hK:∀ w',Fr F0 w w'->K true w'):z15_sh K w:=by
 refine⟨?_⟩
 unfold z15_sd
 refine q9u fun w1 s0 s1 s2 f1 hP=>?_
 intro w3
 have m:Mem w1 w3 _:=Mem.nil.allocL
 refine q22 m 0 rfl rfl fun w4 m=>?_
 have m:Mem w1 w4 [(w1.heap.size,prC s0 s1 s2 0 8)]:=m
 intro w5
 have m:Mem w1 w5 _:=m.allocL
 refine⟨m.wr 0,?_⟩
 intro w6
 have m:Mem w1 w6 [(w4.heap.size,[.int .i64 0,.int .i64 0]),(w1.heap.size,prC s0 s1 s2 0 8)]:=m.set 0
 refine⟨m.wr 0,?_⟩
 intro w7
 have m:Mem w1 w7 [(w4.heap.size,[.int .i64 0,.int .i64 1]),(w1.heap.size,prC s0 s1 s2 0 8)]:=m.set 0
 have hPF:∀ {u},Fr F0 w1 u->PF u s0 s1 s2 ⟨none,0,0⟩ q4z []:=fun h=>⟨hP.fr h,Vw.nil,by decide⟩
 refine⟨s0,m.ld 1,s1,m.ld 1,s2,m.ld 1,_,m.ld 1,_,m.ld 1,_,m.ld 0,_,m.ld 0,q63 (p:=q4z) (hPF m.1) ⟨by decide,by decide⟩ ⟨by decide,by decide⟩ fun w15 f15=>?_⟩
 rw[show upR q4z [] 0 1=(27,true) by decide +kernel]
 have m:=m.fr f15
 refine⟨s0,m.ld 1,s1,m.ld 1,s2,m.ld 1,_,m.ld 1,_,m.ld 1,q63 (p:=q4z) (hPF m.1) ⟨by decide,by decide⟩ ⟨by decide,by decide⟩ fun w23 f23=>?_⟩
 rw[show upR q4z [] 1 1=(26,true) by decide +kernel]
 have m:=m.fr f23
 refine⟨_,m.ld 0,_,m.ld 0,?_⟩
 intro w28
 have m:Mem w1 w28 _:=m.allocL
 refine q22 m 0 rfl rfl fun w29 m=>?_
 intro w30
 have m:Mem w1 w30 _:=m.allocL
 intro w31
 have m:Mem w1 w31 _:=m.allocL
 refine⟨_,m.ld 2,_,m.ld 2,_,m.ld 2,⟨none,0,0⟩,m.ld 2,_,m.ld 2,_,m.ld 2,_,m.ld 2,⟨none,0,0⟩,m.ld 2,_,m.ld 2,_,m.ld 2,_,m.ld 2,⟨none,0,0⟩,m.ld 2,?_⟩
 intro w44
 have m:Mem w1 w44 _:=m.allocL
 intro w45
 have m:Mem w1 w45 _:=m.allocL
 refine q22 m 0 rfl rfl fun wB m=>?_
 have hpr:Row wB w1.heap.size (prC s0 s1 s2 0 8):=m.row 6
 have hrr:Row wB w44.heap.size (rsC ⟨some ⟨w29.heap.size,0,none⟩,1,1⟩ 3 3 ⟨some ⟨w31.heap.size,0,none⟩,4,4⟩):=m.row 0
 have hT:VI wB ⟨some ⟨w29.heap.size,0,none⟩,1,1⟩ [0]:=(Row.ow (fun a=>q05 _ _ a) (l:=[(0:Int)]) (m.row 3)).vw
 have hX:VI wB ⟨some ⟨w30.heap.size,0,none⟩,3,3⟩ [1,2,3]:=(Row.ow (fun a=>q05 _ _ a) (l:=[(1:Int),2,3]) (m.row 2)).vw
 have hN:NV wB ⟨some ⟨w31.heap.size,0,none⟩,4,4⟩ exN:=by
  refine⟨⟨_,(Row.ow (fun a=>q0p a) (l:=([⟨0,0,0,⟨some ⟨w30.heap.size,0,none⟩,3,3⟩⟩,⟨0,0,1,⟨none,0,0⟩⟩,⟨0,0,1,⟨none,0,0⟩⟩,⟨0,0,1,⟨none,0,0⟩⟩]:List NdC)) (m.row 1)).vw,rfl,fun i c n hc hn=>?_⟩,qbw⟩
  match i,hc,hn with
  | 0,hc,hn=>cases hc; cases hn; exact⟨⟨rfl,rfl,rfl⟩,hX,⟨by decide,by decide⟩,⟨by decide,by decide⟩⟩
  | 1,hc,hn=>cases hc; cases hn; exact⟨⟨rfl,rfl,rfl⟩,Vw.nil,⟨by decide,by decide⟩,⟨by decide,by decide⟩⟩
  | 2,hc,hn=>cases hc; cases hn; exact⟨⟨rfl,rfl,rfl⟩,Vw.nil,⟨by decide,by decide⟩,⟨by decide,by decide⟩⟩
  | 3,hc,hn=>cases hc; cases hn; exact⟨⟨rfl,rfl,rfl⟩,Vw.nil,⟨by decide,by decide⟩,⟨by decide,by decide⟩⟩
 have hPB:=hP.fr m.1
 have hFB:Fr F0 w wB:=f1.t m.1
 have gB:=g.fr hFB
 clear m
 generalize (⟨some ⟨w29.heap.size,0,none⟩,1,1⟩:Sl)=tS at *
 generalize (⟨some ⟨w31.heap.size,0,none⟩,4,4⟩:Sl)=nS at *
 intro w47
 have m:Mem wB w47 []:=Mem.nil.drew
 have hSS:∀ {u},Fr F0 wB u->Rs u [(w44.heap.size,rsC tS 3 3 nS)]:=fun h q hq=>by
  rw[Ja] at hq
  subst hq
  exact h.row hrr fun h=>h
 have hgo:∀ {u:World} {wa sa:Nat} {t1 n1:Sl} {cs1:List NdC} {t2 n2:Sl} {cs2:List NdC} {wC wD:World},Fr F0 wB u->Row u wa (rsC t1 3 3 n1)->Row u sa (rsC t2 3 3 n2)->wB.heap.size<=wa->wB.heap.size<=sa->wa≠sa->OwR wC u t1 [0] n1 cs1 exN->OwR wD u t2 [0] n2 cs2 exN->(∀ b,(inB t1 b\/inB n1 b\/∃ c∈cs1,inB c.nx b)->b≠sa/\b≠wa)->(∀ b,(inB t2 b\/inB n2 b\/∃ c∈cs2,inB c.nx b)->b≠sa/\b≠wa) ->
   z15_k0 ⟨w1.heap.size,0,none⟩ 27 true 26 true ⟨w44.heap.size,0,none⟩ ⟨wa,0,none⟩ ⟨sa,0,none⟩ K u:=fun m a b c d e o1 o2 h1 h2=>qj0 gB hPB hpr hrr hT hN m a b c d e o1 o2 h1 h2 fun w' h=>hK w' (hFB.t h)
 refine⟨fun u=>Rs u [(w44.heap.size,rsC tS 3 3 nS)],hSS m.1,tS,fun _ h=>h.ld 0,_,fun _ h=>h.ld 0,_,fun _ h=>h.ld 0,nS,fun _ h=>h.ld 0,tS,fun _ h=>h.ld 0,_,fun _ h=>h.ld 0,_,fun _ h=>h.ld 0,nS,fun _ h=>h.ld 0,⟨?_,?_,?_⟩⟩
 ·skip
  refine q0z (hT.fr m.1) (hN.fr m.1) q2w fun u1 tA nA csA f1 oA=>⟨hSS (m.1.t f1),?_⟩
  have lA:∀ b,(inB tA b\/inB nA b\/∃ c∈csA,inB c.nx b)->w47.heap.size<=b/\b<u1.heap.size:=fun b hb=>⟨oA.nw b hb,oA.lt b hb⟩
  have z1:w47.heap.size<=u1.heap.size:=f1.1
  have m:=m.fr f1
  refine⟨?_,?_,?_⟩
  ·skip
   refine q0z (hT.fr m.1) (hN.fr m.1) q2w fun u2 tB nB csB f2 oB=>⟨hSS (m.1.t f2),?_⟩
   have lB:∀ b,(inB tB b\/inB nB b\/∃ c∈csB,inB c.nx b)->u1.heap.size<=b/\b<u2.heap.size:=fun b hb=>⟨oB.nw b hb,oB.lt b hb⟩
   have z2:u1.heap.size<=u2.heap.size:=f2.1
   have oA:=oA.fr f2
   have m:=m.fr f2
   refine⟨?_,?_⟩
   ·skip
    intro u3
    have m:Mem wB u3 _:=m.allocL
    have z3:u2.heap.size<u3.heap.size:=(m.row 0).lt
    have oA:OwR _ u3 _ _ _ _ _:=oA.fr Fr.alloc
    have oB:OwR _ u3 _ _ _ _ _:=oB.fr Fr.alloc
    refine⟨hSS m.1,?_⟩
    intro u4
    have m:Mem wB u4 _:=m.allocL
    have z4:u3.heap.size<u4.heap.size:=(m.row 0).lt
    have oA:OwR _ u4 _ _ _ _ _:=oA.fr Fr.alloc
    have oB:OwR _ u4 _ _ _ _ _:=oB.fr Fr.alloc
    refine⟨hSS m.1,q16 m 1 rfl rfl fun v1 m e1=>⟨hSS m.1,?_⟩⟩
    have oA:=oA.far e1 fun b hb=>by have:=lA b hb; omega
    have oB:=oB.far e1 fun b hb=>by have:=lB b hb; omega
    refine q16 m 0 rfl rfl fun v2 m e2=>?_
    have oA:=oA.far e2 fun b hb=>by have:=lA b hb; omega
    have oB:=oB.far e2 fun b hb=>by have:=lB b hb; omega
    exact hgo m.1 (m.row 1) (m.row 0) (m.2.2.2 _ (J1 (i:=1) rfl)) (m.2.2.2 _ (J1 (i:=0) rfl)) (by omega) oA oB (fun b hb=>by have:=lA b hb; omega) (fun b hb=>by have:=lB b hb; omega)
   ·skip
    intro u5
    have m:Mem wB u5 _:=m.allocL
    have z5:u2.heap.size<u5.heap.size:=(m.row 0).lt
    have oA:OwR _ u5 _ _ _ _ _:=oA.fr Fr.alloc
    have oB:OwR _ u5 _ _ _ _ _:=oB.fr Fr.alloc
    refine⟨hSS m.1,?_⟩
    intro u6
    have m:Mem wB u6 _:=m.allocL
    have z6:u5.heap.size<u6.heap.size:=(m.row 0).lt
    have oA:OwR _ u6 _ _ _ _ _:=oA.fr Fr.alloc
    have oB:OwR _ u6 _ _ _ _ _:=oB.fr Fr.alloc
    refine⟨hSS m.1,q16 m 0 rfl rfl fun v1 m e1=>⟨hSS m.1,?_⟩⟩
    have oA:=oA.far e1 fun b hb=>by have:=lA b hb; omega
    have oB:=oB.far e1 fun b hb=>by have:=lB b hb; omega
    refine q16 m 1 rfl rfl fun v2 m e2=>?_
    have oA:=oA.far e2 fun b hb=>by have:=lA b hb; omega
    have oB:=oB.far e2 fun b hb=>by have:=lB b hb; omega
    exact hgo m.1 (m.row 0) (m.row 1) (m.2.2.2 _ (J1 (i:=0) rfl)) (m.2.2.2 _ (J1 (i:=1) rfl)) (by omega) oA oB (fun b hb=>by have:=lA b hb; omega) (fun b hb=>by have:=lB b hb; omega)
  ·skip
   intro u7
   have m:Mem wB u7 _:=m.allocL
   have z7:u1.heap.size<u7.heap.size:=(m.row 0).lt
   have oA:OwR _ u7 _ _ _ _ _:=oA.fr Fr.alloc
   refine⟨hSS m.1,⟨?_,?_⟩⟩
   ·skip
    refine q0z (hT.fr m.1) (hN.fr m.1) q2w fun u8 tB nB csB f8 oB=>⟨hSS (m.1.t f8),?_⟩
    have lB:∀ b,(inB tB b\/inB nB b\/∃ c∈csB,inB c.nx b)->u7.heap.size<=b/\b<u8.heap.size:=fun b hb=>⟨oB.nw b hb,oB.lt b hb⟩
    have z8:u7.heap.size<=u8.heap.size:=f8.1
    have oA:=oA.fr f8
    have m:=m.fr f8
    intro u9
    have m:Mem wB u9 _:=m.allocL
    have z9:u8.heap.size<u9.heap.size:=(m.row 0).lt
    have oA:OwR _ u9 _ _ _ _ _:=oA.fr Fr.alloc
    have oB:OwR _ u9 _ _ _ _ _:=oB.fr Fr.alloc
    refine⟨hSS m.1,q16 m 1 rfl rfl fun v1 m e1=>⟨hSS m.1,?_⟩⟩
    have oA:=oA.far e1 fun b hb=>by have:=lA b hb; omega
    have oB:=oB.far e1 fun b hb=>by have:=lB b hb; omega
    refine q16 m 0 rfl rfl fun v2 m e2=>?_
    have oA:=oA.far e2 fun b hb=>by have:=lA b hb; omega
    have oB:=oB.far e2 fun b hb=>by have:=lB b hb; omega
    exact hgo m.1 (m.row 1) (m.row 0) (m.2.2.2 _ (J1 (i:=1) rfl)) (m.2.2.2 _ (J1 (i:=0) rfl)) (by omega) oA oB (fun b hb=>by have:=lA b hb; omega) (fun b hb=>by have:=lB b hb; omega)
   ·skip
    intro u10
    have m:Mem wB u10 _:=m.allocL
    have z10:u7.heap.size<u10.heap.size:=(m.row 0).lt
    have oA:OwR _ u10 _ _ _ _ _:=oA.fr Fr.alloc
    refine⟨hSS m.1,q0z (hT.fr m.1) (hN.fr m.1) q2w fun u11 tB nB csB f11 oB=>⟨hSS (m.1.t f11),?_⟩⟩
    have lB:∀ b,(inB tB b\/inB nB b\/∃ c∈csB,inB c.nx b)->u10.heap.size<=b/\b<u11.heap.size:=fun b hb=>⟨oB.nw b hb,oB.lt b hb⟩
    have z11:u10.heap.size<=u11.heap.size:=f11.1
    have oA:=oA.fr f11
    have m:=m.fr f11
    refine q16 m 1 rfl rfl fun v1 m e1=>⟨hSS m.1,?_⟩
    have oA:=oA.far e1 fun b hb=>by have:=lA b hb; omega
    have oB:=oB.far e1 fun b hb=>by have:=lB b hb; omega
    refine q16 m 0 rfl rfl fun v2 m e2=>?_
    have oA:=oA.far e2 fun b hb=>by have:=lA b hb; omega
    have oB:=oB.far e2 fun b hb=>by have:=lB b hb; omega
    exact hgo m.1 (m.row 1) (m.row 0) (m.2.2.2 _ (J1 (i:=1) rfl)) (m.2.2.2 _ (J1 (i:=0) rfl)) (by omega) oA oB (fun b hb=>by have:=lA b hb; omega) (fun b hb=>by have:=lB b hb; omega)
  ·skip
   intro u12
   have m:Mem wB u12 _:=m.allocL
   have z12:u1.heap.size<u12.heap.size:=(m.row 0).lt
   have oA:OwR _ u12 _ _ _ _ _:=oA.fr Fr.alloc
   refine⟨hSS m.1,⟨?_,?_⟩⟩
   ·skip
    refine q0z (hT.fr m.1) (hN.fr m.1) q2w fun u13 tB nB csB f13 oB=>⟨hSS (m.1.t f13),?_⟩
    have lB:∀ b,(inB tB b\/inB nB b\/∃ c∈csB,inB c.nx b)->u12.heap.size<=b/\b<u13.heap.size:=fun b hb=>⟨oB.nw b hb,oB.lt b hb⟩
    have z13:u12.heap.size<=u13.heap.size:=f13.1
    have oA:=oA.fr f13
    have m:=m.fr f13
    intro u14
    have m:Mem wB u14 _:=m.allocL
    have z14:u13.heap.size<u14.heap.size:=(m.row 0).lt
    have oA:OwR _ u14 _ _ _ _ _:=oA.fr Fr.alloc
    have oB:OwR _ u14 _ _ _ _ _:=oB.fr Fr.alloc
    refine⟨hSS m.1,q16 m 0 rfl rfl fun v1 m e1=>⟨hSS m.1,?_⟩⟩
    have oA:=oA.far e1 fun b hb=>by have:=lA b hb; omega
    have oB:=oB.far e1 fun b hb=>by have:=lB b hb; omega
    refine q16 m 1 rfl rfl fun v2 m e2=>?_
    have oA:=oA.far e2 fun b hb=>by have:=lA b hb; omega
    have oB:=oB.far e2 fun b hb=>by have:=lB b hb; omega
    exact hgo m.1 (m.row 0) (m.row 1) (m.2.2.2 _ (J1 (i:=0) rfl)) (m.2.2.2 _ (J1 (i:=1) rfl)) (by omega) oA oB (fun b hb=>by have:=lA b hb; omega) (fun b hb=>by have:=lB b hb; omega)
   ·skip
    intro u15
    have m:Mem wB u15 _:=m.allocL
    have z15:u12.heap.size<u15.heap.size:=(m.row 0).lt
    have oA:OwR _ u15 _ _ _ _ _:=oA.fr Fr.alloc
    refine⟨hSS m.1,q0z (hT.fr m.1) (hN.fr m.1) q2w fun u16 tB nB csB f16 oB=>⟨hSS (m.1.t f16),?_⟩⟩
    have lB:∀ b,(inB tB b\/inB nB b\/∃ c∈csB,inB c.nx b)->u15.heap.size<=b/\b<u16.heap.size:=fun b hb=>⟨oB.nw b hb,oB.lt b hb⟩
    have z16:u15.heap.size<=u16.heap.size:=f16.1
    have oA:=oA.fr f16
    have m:=m.fr f16
    refine q16 m 0 rfl rfl fun v1 m e1=>⟨hSS m.1,?_⟩
    have oA:=oA.far e1 fun b hb=>by have:=lA b hb; omega
    have oB:=oB.far e1 fun b hb=>by have:=lB b hb; omega
    refine q16 m 1 rfl rfl fun v2 m e2=>?_
    have oA:=oA.far e2 fun b hb=>by have:=lA b hb; omega
    have oB:=oB.far e2 fun b hb=>by have:=lB b hb; omega
    exact hgo m.1 (m.row 0) (m.row 1) (m.2.2.2 _ (J1 (i:=0) rfl)) (m.2.2.2 _ (J1 (i:=1) rfl)) (by omega) oA oB (fun b hb=>by have:=lA b hb; omega) (fun b hb=>by have:=lB b hb; omega)
 ·skip
  intro u17
  have m:Mem wB u17 _:=m.allocL
  have z17:w47.heap.size<u17.heap.size:=(m.row 0).lt
  refine⟨hSS m.1,⟨?_,?_⟩⟩
  ·skip
   refine q0z (hT.fr m.1) (hN.fr m.1) q2w fun u18 tA nA csA f18 oA=>⟨hSS (m.1.t f18),?_⟩
   have lA:∀ b,(inB tA b\/inB nA b\/∃ c∈csA,inB c.nx b)->u17.heap.size<=b/\b<u18.heap.size:=fun b hb=>⟨oA.nw b hb,oA.lt b hb⟩
   have z18:u17.heap.size<=u18.heap.size:=f18.1
   have m:=m.fr f18
   refine⟨?_,?_⟩
   ·skip
    refine q0z (hT.fr m.1) (hN.fr m.1) q2w fun u19 tB nB csB f19 oB=>⟨hSS (m.1.t f19),?_⟩
    have lB:∀ b,(inB tB b\/inB nB b\/∃ c∈csB,inB c.nx b)->u18.heap.size<=b/\b<u19.heap.size:=fun b hb=>⟨oB.nw b hb,oB.lt b hb⟩
    have z19:u18.heap.size<=u19.heap.size:=f19.1
    have oA:=oA.fr f19
    have m:=m.fr f19
    intro u20
    have m:Mem wB u20 _:=m.allocL
    have z20:u19.heap.size<u20.heap.size:=(m.row 0).lt
    have oA:OwR _ u20 _ _ _ _ _:=oA.fr Fr.alloc
    have oB:OwR _ u20 _ _ _ _ _:=oB.fr Fr.alloc
    refine⟨hSS m.1,q16 m 1 rfl rfl fun v1 m e1=>⟨hSS m.1,?_⟩⟩
    have oA:=oA.far e1 fun b hb=>by have:=lA b hb; omega
    have oB:=oB.far e1 fun b hb=>by have:=lB b hb; omega
    refine q16 m 0 rfl rfl fun v2 m e2=>?_
    have oA:=oA.far e2 fun b hb=>by have:=lA b hb; omega
    have oB:=oB.far e2 fun b hb=>by have:=lB b hb; omega
    exact hgo m.1 (m.row 1) (m.row 0) (m.2.2.2 _ (J1 (i:=1) rfl)) (m.2.2.2 _ (J1 (i:=0) rfl)) (by omega) oA oB (fun b hb=>by have:=lA b hb; omega) (fun b hb=>by have:=lB b hb; omega)
   ·skip
    intro u21
    have m:Mem wB u21 _:=m.allocL
    have z21:u18.heap.size<u21.heap.size:=(m.row 0).lt
    have oA:OwR _ u21 _ _ _ _ _:=oA.fr Fr.alloc
    refine⟨hSS m.1,q0z (hT.fr m.1) (hN.fr m.1) q2w fun u22 tB nB csB f22 oB=>⟨hSS (m.1.t f22),?_⟩⟩
    have lB:∀ b,(inB tB b\/inB nB b\/∃ c∈csB,inB c.nx b)->u21.heap.size<=b/\b<u22.heap.size:=fun b hb=>⟨oB.nw b hb,oB.lt b hb⟩
    have z22:u21.heap.size<=u22.heap.size:=f22.1
    have oA:=oA.fr f22
    have m:=m.fr f22
    refine q16 m 1 rfl rfl fun v1 m e1=>⟨hSS m.1,?_⟩
    have oA:=oA.far e1 fun b hb=>by have:=lA b hb; omega
    have oB:=oB.far e1 fun b hb=>by have:=lB b hb; omega
    refine q16 m 0 rfl rfl fun v2 m e2=>?_
    have oA:=oA.far e2 fun b hb=>by have:=lA b hb; omega
    have oB:=oB.far e2 fun b hb=>by have:=lB b hb; omega
    exact hgo m.1 (m.row 1) (m.row 0) (m.2.2.2 _ (J1 (i:=1) rfl)) (m.2.2.2 _ (J1 (i:=0) rfl)) (by omega) oA oB (fun b hb=>by have:=lA b hb; omega) (fun b hb=>by have:=lB b hb; omega)
  ·skip
   intro u23
   have m:Mem wB u23 _:=m.allocL
   have z23:u17.heap.size<u23.heap.size:=(m.row 0).lt
   refine⟨hSS m.1,q0z (hT.fr m.1) (hN.fr m.1) q2w fun u24 tA nA csA f24 oA=>⟨hSS (m.1.t f24),?_⟩⟩
   have lA:∀ b,(inB tA b\/inB nA b\/∃ c∈csA,inB c.nx b)->u23.heap.size<=b/\b<u24.heap.size:=fun b hb=>⟨oA.nw b hb,oA.lt b hb⟩
   have z24:u23.heap.size<=u24.heap.size:=f24.1
   have m:=m.fr f24
   refine q0z (hT.fr m.1) (hN.fr m.1) q2w fun u25 tB nB csB f25 oB=>⟨hSS (m.1.t f25),?_⟩
   have lB:∀ b,(inB tB b\/inB nB b\/∃ c∈csB,inB c.nx b)->u24.heap.size<=b/\b<u25.heap.size:=fun b hb=>⟨oB.nw b hb,oB.lt b hb⟩
   have z25:u24.heap.size<=u25.heap.size:=f25.1
   have oA:=oA.fr f25
   have m:=m.fr f25
   refine q16 m 1 rfl rfl fun v1 m e1=>⟨hSS m.1,?_⟩
   have oA:=oA.far e1 fun b hb=>by have:=lA b hb; omega
   have oB:=oB.far e1 fun b hb=>by have:=lB b hb; omega
   refine q16 m 0 rfl rfl fun v2 m e2=>?_
   have oA:=oA.far e2 fun b hb=>by have:=lA b hb; omega
   have oB:=oB.far e2 fun b hb=>by have:=lB b hb; omega
   exact hgo m.1 (m.row 1) (m.row 0) (m.2.2.2 _ (J1 (i:=1) rfl)) (m.2.2.2 _ (J1 (i:=0) rfl)) (by omega) oA oB (fun b hb=>by have:=lA b hb; omega) (fun b hb=>by have:=lB b hb; omega)
 ·skip
  intro u26
  have m:Mem wB u26 _:=m.allocL
  have z26:w47.heap.size<u26.heap.size:=(m.row 0).lt
  refine⟨hSS m.1,⟨?_,?_⟩⟩
  ·skip
   refine q0z (hT.fr m.1) (hN.fr m.1) q2w fun u27 tA nA csA f27 oA=>⟨hSS (m.1.t f27),?_⟩
   have lA:∀ b,(inB tA b\/inB nA b\/∃ c∈csA,inB c.nx b)->u26.heap.size<=b/\b<u27.heap.size:=fun b hb=>⟨oA.nw b hb,oA.lt b hb⟩
   have z27:u26.heap.size<=u27.heap.size:=f27.1
   have m:=m.fr f27
   refine⟨?_,?_⟩
   ·skip
    refine q0z (hT.fr m.1) (hN.fr m.1) q2w fun u28 tB nB csB f28 oB=>⟨hSS (m.1.t f28),?_⟩
    have lB:∀ b,(inB tB b\/inB nB b\/∃ c∈csB,inB c.nx b)->u27.heap.size<=b/\b<u28.heap.size:=fun b hb=>⟨oB.nw b hb,oB.lt b hb⟩
    have z28:u27.heap.size<=u28.heap.size:=f28.1
    have oA:=oA.fr f28
    have m:=m.fr f28
    intro u29
    have m:Mem wB u29 _:=m.allocL
    have z29:u28.heap.size<u29.heap.size:=(m.row 0).lt
    have oA:OwR _ u29 _ _ _ _ _:=oA.fr Fr.alloc
    have oB:OwR _ u29 _ _ _ _ _:=oB.fr Fr.alloc
    refine⟨hSS m.1,q16 m 0 rfl rfl fun v1 m e1=>⟨hSS m.1,?_⟩⟩
    have oA:=oA.far e1 fun b hb=>by have:=lA b hb; omega
    have oB:=oB.far e1 fun b hb=>by have:=lB b hb; omega
    refine q16 m 1 rfl rfl fun v2 m e2=>?_
    have oA:=oA.far e2 fun b hb=>by have:=lA b hb; omega
    have oB:=oB.far e2 fun b hb=>by have:=lB b hb; omega
    exact hgo m.1 (m.row 0) (m.row 1) (m.2.2.2 _ (J1 (i:=0) rfl)) (m.2.2.2 _ (J1 (i:=1) rfl)) (by omega) oA oB (fun b hb=>by have:=lA b hb; omega) (fun b hb=>by have:=lB b hb; omega)
   ·skip
    intro u30
    have m:Mem wB u30 _:=m.allocL
    have z30:u27.heap.size<u30.heap.size:=(m.row 0).lt
    have oA:OwR _ u30 _ _ _ _ _:=oA.fr Fr.alloc
    refine⟨hSS m.1,q0z (hT.fr m.1) (hN.fr m.1) q2w fun u31 tB nB csB f31 oB=>⟨hSS (m.1.t f31),?_⟩⟩
    have lB:∀ b,(inB tB b\/inB nB b\/∃ c∈csB,inB c.nx b)->u30.heap.size<=b/\b<u31.heap.size:=fun b hb=>⟨oB.nw b hb,oB.lt b hb⟩
    have z31:u30.heap.size<=u31.heap.size:=f31.1
    have oA:=oA.fr f31
    have m:=m.fr f31
    refine q16 m 0 rfl rfl fun v1 m e1=>⟨hSS m.1,?_⟩
    have oA:=oA.far e1 fun b hb=>by have:=lA b hb; omega
    have oB:=oB.far e1 fun b hb=>by have:=lB b hb; omega
    refine q16 m 1 rfl rfl fun v2 m e2=>?_
    have oA:=oA.far e2 fun b hb=>by have:=lA b hb; omega
    have oB:=oB.far e2 fun b hb=>by have:=lB b hb; omega
    exact hgo m.1 (m.row 0) (m.row 1) (m.2.2.2 _ (J1 (i:=0) rfl)) (m.2.2.2 _ (J1 (i:=1) rfl)) (by omega) oA oB (fun b hb=>by have:=lA b hb; omega) (fun b hb=>by have:=lB b hb; omega)
  ·skip
   intro u32
   have m:Mem wB u32 _:=m.allocL
   have z32:u26.heap.size<u32.heap.size:=(m.row 0).lt
   refine⟨hSS m.1,q0z (hT.fr m.1) (hN.fr m.1) q2w fun u33 tA nA csA f33 oA=>⟨hSS (m.1.t f33),?_⟩⟩
   have lA:∀ b,(inB tA b\/inB nA b\/∃ c∈csA,inB c.nx b)->u32.heap.size<=b/\b<u33.heap.size:=fun b hb=>⟨oA.nw b hb,oA.lt b hb⟩
   have z33:u32.heap.size<=u33.heap.size:=f33.1
   have m:=m.fr f33
   refine q0z (hT.fr m.1) (hN.fr m.1) q2w fun u34 tB nB csB f34 oB=>⟨hSS (m.1.t f34),?_⟩
   have lB:∀ b,(inB tB b\/inB nB b\/∃ c∈csB,inB c.nx b)->u33.heap.size<=b/\b<u34.heap.size:=fun b hb=>⟨oB.nw b hb,oB.lt b hb⟩
   have z34:u33.heap.size<=u34.heap.size:=f34.1
   have oA:=oA.fr f34
   have m:=m.fr f34
   refine q16 m 0 rfl rfl fun v1 m e1=>⟨hSS m.1,?_⟩
   have oA:=oA.far e1 fun b hb=>by have:=lA b hb; omega
   have oB:=oB.far e1 fun b hb=>by have:=lB b hb; omega
   refine q16 m 1 rfl rfl fun v2 m e2=>?_
   have oA:=oA.far e2 fun b hb=>by have:=lA b hb; omega
   have oB:=oB.far e2 fun b hb=>by have:=lB b hb; omega
   exact hgo m.1 (m.row 0) (m.row 1) (m.2.2.2 _ (J1 (i:=0) rfl)) (m.2.2.2 _ (J1 (i:=1) rfl)) (by omega) oA oB (fun b hb=>by have:=lA b hb; omega) (fun b hb=>by have:=lB b hb; omega)
end
end Go.Proofs.YtfpobpjandjhjaaGreatDoor

namespace Pw
open Go
theorem qkz {b:Nat}{K K':World->Prop}:∀ (us:List Value) (i:Nat) (u:World),stN.go ⟨b,0,none⟩ K us i u->(∀ w',Fr (fun c=>c=b) u w'->K w'->K' w')->stN.go ⟨b,0,none⟩ K' us i u
 | [],_,_,h,hk=>hk _ Fr.refl h
 | _ :: us,i,_,h,hk=>⟨h.1,qkz us (i+1) _ h.2 fun w' hf=>hk w' ((Fr.set (F:=fun c=>c=b) (by simp[q1q])).comp hf)⟩
theorem qj1 {u:World}{b:Nat}{cs vs:List Value}{K:World->Prop}(h:Row u b cs)(hl:cs.length=vs.length)(hK:∀ w',Row w' b vs->Fr (fun c=>c=b) u w'->K w'):stN u ⟨b,0,none⟩ vs K:=by
 have m:Mem { u with heap:=#[] } u [(b,cs)]:=⟨⟨by simp,fun c hc=>by simp at hc,rfl,rfl,rfl⟩,fun p hp=>by rw[Ja] at hp; subst hp; exact h,by simp,fun p _=>by simp⟩
 exact qkz vs 0 u (q22 m 0 rfl hl fun w' m'=>m'.row 0) fun w' hf hr=>hK w' hr hf
theorem Ow.st {k:IntKind}{u:World}{s:Sl}{l:List Int}(h:Ow 1 (ie k (id:Int->Int)) u s l)(i:Nat)(h1:i<l.length) :
  ∃ ad,s.p=some ad/\wrOk u (ad.add (i*1))/\∀ a:Int,Ow 1 (ie k (id:Int->Int)) (u.setCell (ad.add (i*1)) (Value.int k a)) s (l.set i a)/\Fr (inB s) u (u.setCell (ad.add (i*1)) (Value.int k a)):=by
 have m:Mk { u with heap:=#[] } 1 (ie k (id:Int->Int)) u s l:=⟨⟨by simp,fun c hc=>by simp at hc,rfl,rfl,rfl⟩,h,fun b _=>by simp⟩
 obtain⟨ad,hp,_,hw,hst⟩:=m.st i rfl h1
 exact⟨ad,hp,hw,fun a=>⟨(hst a).1.ow,(hst a).2⟩⟩
end Pw
namespace Go.Proofs.YtfpobpjandjhjaaGreatDoor
open Go Pw
theorem Ow.nodeAt {u:World}{ns:Sl}{cs:List NdC}(h:Ow 4 encN u ns cs){i:Nat}{c:NdC}(hi:cs[i]?=some c):∃ b,ns.p=some ⟨b,0,none⟩/\∀ k,k<4->wrOk u ⟨b,i*4+k,none⟩/\∀ v d,encN d=(encN c).set k v->Ow 4 encN (u.setCell ⟨b,i*4+k,none⟩ v) ns (cs.set i d):=by
 have hlt:i<cs.length:=(J5.1 hi).1
 obtain⟨hl,hown⟩:=h
 obtain⟨hol,hnil | ⟨b,vs,hp,hrow,hcs,hle,ht⟩⟩:=hown
 ·omega
 ·refine⟨b,hp,fun k hk=>?_⟩
  rw[q0d q0p] at hol ht
  have hbd:i*4+k<vs.length:=by omega
  refine⟨hrow.wr hbd,fun v d hd=>⟨by simp[hl],?_,.inr ⟨b,_,hp,hrow.set (i*4+k) v,by simpa using hcs,hle,?_⟩⟩⟩
  ·rw[q0d q0p]; simp[hl]
  ·rw[q0d q0p,List.length_set,List.take_set,ht,q4t cs i k c d v hi hk hd]
theorem qdd {u:World}{ns:Sl}{cs:List NdC}{b i k:Nat}{c:NdC}{v:Value}(h:Vw 4 encN u ns cs)(hp:ns.p=some ⟨b,0,none⟩)(hi:cs[i]?=some c)(hk:(encN c)[k]?=some v):u.cell? ⟨b,i*4+k,none⟩=some v:=by
 obtain⟨ad,hp',hc⟩:=h.at (fun a=>q0p a) hi (by decide)
 rw[hp] at hp'
 cases hp'
 have:=hc k v hk
 simpa only[q1q,Nat.zero_add] using this
structure RdR (u:World)(t:Sl)(T:List Int)(ns:Sl)(cs:List NdC)(N:List Nd):Prop where
 tk:VI u t T
 nds:Vw 4 encN u ns cs
 len:cs.length=N.length
 nd:∀ (i:Nat) c n,cs[i]?=some c->N[i]?=some n->NdV u c n
def blk (t ns:Sl)(cs:List NdC)(b:Nat):Prop:=inB t b\/inB ns b\/∃ c∈cs,inB c.nx b
structure SzR (k:Nat)(T:List Int)(N:List Nd):Prop where
 t:T.length<2^40+k
 n:N.length<2^40+k
 x:∀ n∈N,n.next.length<2^40+k
section
variable {w w' w0 w3 u u':World}{t t5 ns s:Sl}{T:List Int}{N:List Nd}{cs:List NdC}{pts bnd q0 q1 q2 q3:Int}{rb tb ob qb k:Nat}
theorem RdR.frF {F:Nat->Prop}(h:RdR u t T ns cs N)(hf:Fr F u u')(hx:∀ b,blk t ns cs b->¬F b):RdR u' t T ns cs N :=
 ⟨h.tk.frF hf fun b hb=>hx b (.inl hb),h.nds.frF hf fun b hb=>hx b (.inr (.inl hb)),h.len,fun i c n hc hn=>⟨(h.nd i c n hc hn).1,(h.nd i c n hc hn).2.1.frF hf fun b hb=>hx b (.inr (.inr ⟨c,J1 hc,hb⟩)),(h.nd i c n hc hn).2.2⟩⟩
theorem OwR.frF {F:Nat->Prop}(h:OwR w0 u t T ns cs N)(hf:Fr F u u')(hx:∀ b,blk t ns cs b->¬F b):OwR w0 u' t T ns cs N :=
 { h with
  tk:=h.tk.frF hf fun b hb=>hx b (.inl hb)
  nds:=h.nds.frF hf fun b hb=>hx b (.inr (.inl hb))
  nd:=fun i c n hc hn=>⟨(h.nd i c n hc hn).1,(h.nd i c n hc hn).2.1.frF hf fun b hb=>hx b (.inr (.inr ⟨c,J1 hc,hb⟩)),(h.nd i c n hc hn).2.2⟩ }
theorem RdR.nv (h:RdR u t T ns cs N)(hN:N.length<2^47):NV u ns N:=⟨⟨cs,h.nds,h.len,h.nd⟩,hN⟩
theorem OwR.rd (h:OwR w0 u t T ns cs N):RdR u t T ns cs N:=⟨h.tk.vw,h.nds.vw,h.len,fun i c n hc hn=>⟨(h.nd i c n hc hn).1,(h.nd i c n hc hn).2.1.vw,(h.nd i c n hc hn).2.2⟩⟩
theorem OwR.setNd {r nb:Nat}{d:NdC}{n':Nd}(o:OwR w0 u t T ns cs N)(hnp:ns.p=some ⟨nb,0,none⟩)(hf:Fr (fun c=>c=nb) u u')(hds:Ow 4 encN u' ns (cs.set r d))(hd:NdV u' d n'):RdR u' t T ns (cs.set r d) (N.set r n'):=by
 have hnb:inB ns nb:=⟨_,hnp,rfl⟩
 refine⟨o.tk.vw.frF hf fun b hb he=>o.tn b hb (he ▸ hnb),hds.vw,by simp[o.len],fun i c n hc hn=>?_⟩
 rw[J9] at hc hn
 by_cases hi:r=i
 ·subst hi
  rw[if_pos rfl] at hc hn
  split at hc
  ·split at hn
   ·cases hc; cases hn; exact hd
   ·cases hn
  ·cases hc
 ·rw[if_neg hi] at hc hn
  have:=o.rd.nd i c n hc hn
  exact⟨this.1,this.2.1.frF hf fun b hb he=>o.nc c (J1 hc) nb hnb (he ▸ hb),this.2.2⟩
theorem SzR.mono {j:Nat}(h:SzR k T N)(hk:k<=j):SzR j T N:=⟨by have:=h.t; omega,by have:=h.n; omega,fun n hn=>by have:=h.x n hn; omega⟩
theorem q50 {r:Nat}{n':Nd}{B:Nat}(h:∀ n∈N,n.next.length<B)(hn:n'.next.length<B):∀ n∈N.set r n',n.next.length<B:=fun n hn'=>by
 rcases J6 hn' with h' | rfl
 ·exact h n h'
 ·exact hn
structure BSt (w w3 v:World)(ob tb qb:Nat)(t:Sl)(T:List Int)(ns:Sl)(cs:List NdC)(N:List Nd)(pts bnd q0 q1 q2 q3:Int):Prop where
 ro:Row v ob (rsC t pts bnd ns)
 rt:Row v tb (rsC ⟨none,0,0⟩ 0 0 ⟨none,0,0⟩)
 rq:Row v qb [.int .i64 q0,.int .i64 q1,.int .i64 q2,.int .i64 q3]
 ow:OwR w3 v t T ns cs N
 fr0:Fr F0 w v
theorem BSt.fr {v v':World}(h:BSt w w3 v ob tb qb t T ns cs N pts bnd q0 q1 q2 q3)(hf:Fr F0 v v'):BSt w w3 v' ob tb qb t T ns cs N pts bnd q0 q1 q2 q3 :=
 ⟨hf.row h.ro fun h=>h,hf.row h.rt fun h=>h,hf.row h.rq fun h=>h,h.ow.fr hf,h.fr0.t hf⟩
theorem qkp {K:Sl->Int->Int->Sl->World->Prop}{p' b':Int}(ro:Row u ob (rsC t p' b' ns))(rt:Row u tb (rsC ⟨none,0,0⟩ 0 0 ⟨none,0,0⟩))(hne:ob≠tb)(hF:Fr F0 w u)(htb:w.heap.size<=tb)(rd:RdR u t T ns cs N)(hb:∀ b,blk t ns cs b->b≠tb)(sz:SzR k T N)
  (hK:∀ w' t' T' n' N' p' b',Fr F0 w w'->VI w' t' T'->NV w' n' N'->SzR k T' N'->K t' p' b' n' w') (hk:k<100):z27_k0d ⟨tb,0,none⟩ ⟨ob,0,none⟩ K u:=by
 unfold z27_k0d
 refine⟨t,ro.at,_,ro.at,_,ro.at,ns,ro.at,qj1 rt rfl fun w1 r1 f1=>⟨t,r1.at,_,r1.at,_,r1.at,ns,r1.at,?_⟩⟩
 have rd':=rd.frF f1 fun b hb'=>hb b hb'
 exact hK w1 t T ns N _ _ (hF.trans f1 fun b hb' hlt=>by omega) rd'.tk (rd'.nv (by have:=sz.n; omega)) sz
theorem qj2 {r:Nat}{d:NdC}{P:Nat->Prop}(h:∀ b,blk t ns cs b->P b)(hd:∀ b,inB d.nx b->P b):∀ b,blk t ns (cs.set r d) b->P b:=fun b hb=>by
 rcases hb with hb | hb | ⟨c,hc,hb⟩
 ·exact h b (.inl hb)
 ·exact h b (.inr (.inl hb))
 ·rcases J6 hc with hc | rfl
  ·exact h b (.inr (.inr ⟨c,hc,hb⟩))
  ·exact hd b hb
end
open Go Pw
theorem qan {r:Int}(h0:-9223372036854775808<=r)(h1:r<9223372036854775808):IntKind.wrap .i64 r=r:=q01 h0 h1
section
variable {w w' w0 w3 u u':World}{t t5 ns s:Sl}{T:List Int}{N:List Nd}{cs:List NdC}{pts bnd q0 q1 q2 q3:Int}{rb tb ob qb k:Nat}{K:Sl->Int->Int->Sl->World->Prop}
def BK (k:Nat)(w:World)(K:Sl->Int->Int->Sl->World->Prop):Prop:=∀ w' t' T' n' N' p' b',Fr F0 w w'->VI w' t' T'->NV w' n' N'->SzR (k+1) T' N'->K t' p' b' n' w'
theorem qde (hT:VI w t5 T)(hN:NV w ns N)(hz:SzR k T N)(hk:k<90)(hq2:I64 q2)(hK:BK k w K):z27_sh t5 pts bnd ns q0 q1 q2 q3 K w:=by
 have z1:=hz.t
 have z2:=hz.n
 have z3:=hz.x
 refine⟨?_⟩
 intro w1
 have m:Mem w w1 _:=Mem.nil.allocL
 have l01:=(m.row 0).lt
 intro w2
 have m:Mem w w2 _:=m.allocL
 have l12:=(m.row 0).lt
 intro w3
 have m:Mem w w3 [(w2.heap.size,rsC ⟨none,0,0⟩ 0 0 ⟨none,0,0⟩),(w1.heap.size,[.int .i64 q0,.int .i64 q1,.int .i64 q2,.int .i64 q3]),(w.heap.size,rsC t5 pts bnd ns)]:=m.allocL
 have l2:=(m.row 0).lt
 have l1:=(m.row 1).lt
 have l0:=(m.row 2).lt
 have htb:w.heap.size<=w2.heap.size:=m.2.2.2 _ (List.mem_cons_self ..)
 refine⟨t5,m.ld 2,_,m.ld 2,_,m.ld 2,ns,m.ld 2,q0z (hT.fr m.1) (hN.fr m.1) ⟨by omega,by omega,fun n hn=>by have:=z3 n hn; omega⟩ fun w8 t ns cs f8 o=>?_⟩
 have m:=m.fr f8
 have lb:∀ b,blk t ns cs b->w3.heap.size<=b/\b<w8.heap.size:=fun b hb=>⟨o.nw b hb,o.lt b hb⟩
 have f8s:=f8.1
 intro w10
 have f10:Fr F0 w8 w10:=Fr.alloc
 have ro:Row w10 w8.heap.size (rsC ⟨none,0,0⟩ 0 0 ⟨none,0,0⟩):=Row.new
 have m:=m.fr f10
 have o:=o.fr f10
 refine qj1 ro rfl fun w11 ro f11=>?_
 have st:BSt w w3 w11 w8.heap.size w2.heap.size w1.heap.size t T ns cs N pts bnd q0 q1 q2 q3 :=
  ⟨ro,f11.row (m.row 0) (by omega),f11.row (m.row 1) (by omega),o.frF f11 (fun b hb=>by have:=lb b hb; omega),m.1.trans f11 fun b hb hlt=>by omega⟩
 clear m o ro f11 f10
 have hb3:∀ b,blk t ns cs b->b≠w8.heap.size/\b≠w2.heap.size/\b≠w1.heap.size:=fun b hb=>by have:=lb b hb; omega
 have hob:w2.heap.size<w8.heap.size:=by omega
 have hqt:w1.heap.size<w2.heap.size:=by omega
 have hlow:w.heap.size<=w1.heap.size:=by omega
 have hlow8:w.heap.size<=w8.heap.size:=by omega
 have fin:∀ {v:World} {p' b':Int} {t' n':Sl} {T':List Int} {N':List Nd} {cs':List NdC},Row v w8.heap.size (rsC t' p' b' n')->Row v w2.heap.size (rsC ⟨none,0,0⟩ 0 0 ⟨none,0,0⟩)->Fr F0 w v->RdR v t' T' n' cs' N'->(∀ b,blk t' n' cs' b->b≠w2.heap.size)->SzR (k+1) T' N' ->
   z27_k0d ⟨w2.heap.size,0,none⟩ ⟨w8.heap.size,0,none⟩ K v:=fun ro rt hF rd hb sz=>qkp ro rt (by omega) hF htb rd hb sz hK (by omega)
 have hz1:=hz.mono (Nat.le_succ k)
 have same:∀ {v:World},BSt w w3 v w8.heap.size w2.heap.size w1.heap.size t T ns cs N pts bnd q0 q1 q2 q3->z27_k0d ⟨w2.heap.size,0,none⟩ ⟨w8.heap.size,0,none⟩ K v:=fun h=>fin h.ro h.rt h.fr0 h.ow.rd (fun b hb=>(hb3 b hb).2.1) hz1
 have frB:∀ {F:Nat->Prop} {v v':World},Fr F0 w v->Fr F v v'->(∀ b,F b->w.heap.size<=b)->Fr F0 w v':=fun h h' hb=>h.trans h' fun b hb' hlt=>by have:=hb b hb'; omega
 have tlow:∀ b,inB t b->w.heap.size<=b:=fun b hb=>by have:=lb b (.inl hb); omega
 have et:=st.ow.tk.vw.len
 have en:=st.ow.nds.vw.len
 have ec:=st.ow.len
 dsimp -zeta only[hA]
 generalize w8.heap.size=ob at *
 generalize w2.heap.size=tb at *
 generalize w1.heap.size=qb at *
 refine⟨⟨by decide,by decide⟩,_,st.rq.at (i:=1) rfl,ns,st.ro.at,q2s (by omega) (by omega) fun rn hn0 hn1=>⟨⟨by decide,by decide⟩,_,st.rq.at (i:=1) rfl,t,st.ro.at,q2s (by omega) (by omega) fun rt ht0 ht1=>⟨⟨by decide,by decide⟩,_,st.rq.at (i:=0) rfl,q2s (by decide) (by decide) fun sw _ _=>?_⟩⟩⟩
 obtain⟨rn,rfl⟩:=Jb hn0
 obtain⟨rt,rfl⟩:=Jb ht0
 have setT:∀ {v:World} {x:Int},BSt w w3 v ob tb qb t T ns cs N pts bnd q0 q1 q2 q3->rt<T.length->∃ ad,t.p=some ad/\wrOk v (ad.add (rt*1))/\z27_k0d ⟨tb,0,none⟩ ⟨ob,0,none⟩ K (v.setCell (ad.add (rt*1)) (.int .i64 x)):=fun {v x} st hr=>by
  obtain⟨ad,hp,hw,hst⟩:=Ow.st st.ow.tk rt hr
  obtain⟨h1,h2⟩:=hst x
  refine⟨ad,hp,hw,fin (T':=T.set rt x) (N':=N) (cs':=cs) (h2.row st.ro fun hb=>(hb3 _ (.inl hb)).1 rfl) (h2.row st.rt fun hb=>(hb3 _ (.inl hb)).2.1 rfl) (frB st.fr0 h2 tlow) ⟨h1.vw,st.ow.nds.vw.frF h2 fun b hb hb'=>st.ow.tn b hb' hb,st.ow.len,fun i c n hc hn=>?_⟩ (fun b hb=>(hb3 b hb).2.1) ⟨by simpa using hz1.t,hz1.n,hz1.x⟩⟩
  have:=st.ow.rd.nd i c n hc hn
  exact⟨this.1,this.2.1.frF h2 fun b hb hb'=>st.ow.tc c (J1 hc) b hb' hb,this.2.2⟩
 refine q09.2 ⟨fun _=>⟨t,st.ro.at,q00.2 ⟨fun hpos=>?_,fun _=>⟨same st⟩⟩⟩,fun _=>q09.2 ⟨fun _=>⟨t,st.ro.at,q00.2 ⟨fun hpos=>?_,fun _=>⟨same st⟩⟩⟩,fun _=>q09.2 ⟨fun _=>?_,fun _=>q09.2 ⟨fun _=>?_,fun _=>q09.2 ⟨fun _=>?_,fun _=>?_⟩⟩⟩⟩⟩
 ·
  intro w24
  have st:BSt w w3 w24 ob tb qb t T ns cs N pts bnd q0 q1 q2 q3:=st.fr Fr.drew
  have hr:rt<T.length:=by omega
  obtain⟨ad,hp,hw,hk0⟩:=setT (x:=IntKind.wrap .i64 (T[rt]+1)) st hr
  refine⟨fun v=>BSt w w3 v ob tb qb t T ns cs N pts bnd q0 q1 q2 q3,st,t,fun v hv=>hv.ro.at,t,fun v hv=>hv.ro.at,q0b.2 ⟨ad,hp,⟨by omega,by omega⟩,T[rt],fun v hv=>?_,q0b.2 ⟨ad,hp,⟨by omega,by omega⟩,by simpa using hw,?_⟩⟩⟩
  ·obtain⟨ad',hp',hc⟩:=hv.ow.tk.vw.at (fun a=>q05 _ _ a) (J0 hr) (by decide)
   rw[hp] at hp'
   cases hp'
   exact hc 0 _ rfl
  ·exact⟨by simpa using hk0⟩
 ·
  intro w33
  have st:BSt w w3 w33 ob tb qb t T ns cs N pts bnd q0 q1 q2 q3:=st.fr Fr.drew
  have hr:rt<T.length:=by omega
  refine⟨fun v=>BSt w w3 v ob tb qb t T ns cs N pts bnd q0 q1 q2 q3,st,t,fun v hv=>hv.ro.at,⟨by decide,by decide⟩,_,fun v hv=>hv.rq.at (i:=2) rfl,q2s (by decide) (by decide) fun r38 h0 h1=>⟨st,?_⟩⟩
  rw[show IntKind.wrap .i64 (r38-1)=r38-1 from q01]
  obtain⟨ad,hp,hw,hk0⟩:=setT (x:=r38-1) st hr
  exact q0b.2 ⟨ad,hp,⟨by omega,by omega⟩,by simpa using hw,⟨by simpa using hk0⟩⟩
 ·
  refine⟨_,st.ro.at,⟨by decide,by decide⟩,_,st.rq.at (i:=2) rfl,st.ro.wr (i:=1) (by show 1<4; decide),?_⟩
  intro w43
  have f:Fr (fun c=>c=ob) w11 w43:=Fr.set rfl
  have ro:Row w43 ob (rsC t _ bnd ns):=st.ro.set 1 _
  exact⟨fin ro (f.row st.rt (by omega)) (frB st.fr0 f fun b hb=>by omega) (st.ow.rd.frF f fun b hb=>(hb3 b hb).1) (fun b hb=>(hb3 b hb).2.1) hz1⟩
 ·
  refine⟨_,st.ro.at,⟨by decide,by decide⟩,_,st.rq.at (i:=2) rfl,st.ro.wr (i:=2) (by show 2<4; decide),?_⟩
  intro w43
  have f:Fr (fun c=>c=ob) w11 w43:=Fr.set rfl
  have ro:Row w43 ob (rsC t pts _ ns):=st.ro.set 2 _
  exact⟨fin ro (f.row st.rt (by omega)) (frB st.fr0 f fun b hb=>by omega) (st.ow.rd.frF f fun b hb=>(hb3 b hb).1) (fun b hb=>(hb3 b hb).2.1) hz1⟩
 ·
  refine⟨t,st.ro.at,?_⟩
  intro w48
  have f48:Fr F0 w11 w48:=Fr.alloc
  have st:BSt w w3 w48 ob tb qb t T ns cs N pts bnd q0 q1 q2 q3:=st.fr f48
  have hx:Vw 1 (ie .i64 (id:Int->Int)) w48 ⟨some ⟨w11.heap.size,0,none⟩,1,1⟩ [-1]:=Vw.new rfl rfl
  have hs48:=f48.1
  refine st.ow.tk.app hx (q1y _ _) rfl (by simp; omega) (by simp; omega) fun s49 w50 ho f50 hi=>?_
  have ro:=f50.row st.ro fun hb=>(hb3 _ (.inl hb)).1 rfl
  have rt':=f50.row st.rt fun hb=>(hb3 _ (.inl hb)).2.1 rfl
  have hF50:=frB st.fr0 f50 tlow
  have rd50:RdR w50 s49 (T++[-1]) ns cs N:=⟨ho.vw,st.ow.nds.vw.frF f50 fun b hb hb'=>st.ow.tn b hb' hb,st.ow.len,fun i c n hc hn=>by
   have:=st.ow.rd.nd i c n hc hn
   exact⟨this.1,this.2.1.frF f50 fun b hb hb'=>st.ow.tc c (J1 hc) b hb' hb,this.2.2⟩⟩
  have hobw:ob<w48.heap.size:=st.ro.lt
  have htbw:tb<w48.heap.size:=st.rt.lt
  have hb50:∀ b,blk s49 ns cs b->b≠ob/\b≠tb:=fun b hb=>by
   rcases hb with hb | hb
   ·rcases hi b hb with h | h
    ·exact⟨(hb3 b (.inl h)).1,(hb3 b (.inl h)).2.1⟩
    ·omega
   ·exact⟨(hb3 b (.inr hb)).1,(hb3 b (.inr hb)).2.1⟩
  refine⟨ro.wr (i:=0) (by show 0<4; decide),?_⟩
  intro w51
  have f:Fr (fun c=>c=ob) w50 w51:=Fr.set rfl
  have ro:Row w51 ob (rsC s49 pts bnd ns):=ro.set 0 _
  exact⟨fin ro (f.row rt' (by omega)) (frB hF50 f fun b hb=>by omega) (rd50.frF f fun b hb=>(hb50 b hb).1) (fun b hb=>(hb50 b hb).2) ⟨by have:=hz.t; simp; omega,hz1.n,hz1.x⟩⟩
 refine⟨ns,st.ro.at,q09.2 ⟨fun _=>same st,fun hne=>⟨ns,st.ro.at,?_⟩⟩⟩
 have hrN:rn<N.length:=by omega
 have hrc:rn<cs.length:=by omega
 obtain⟨nb,hnp,hnq⟩:=Ow.nodeAt st.ow.nds (J0 hrc)
 have hnb:inB ns nb:=⟨_,hnp,rfl⟩
 have hnb3:=hb3 nb (.inr (.inl hnb))
 have nlow:∀ b,b=nb->w.heap.size<=b:=fun b hb=>by have:=lb nb (.inr (.inl hnb)); omega
 have hnd:=st.ow.rd.nd rn _ _ (J0 hrc) (J0 hrN)
 have hxl:=z3 _ (J4 hrN)
 have setN:∀ {v v':World} {d:NdC} {n':Nd},BSt w w3 v ob tb qb t T ns cs N pts bnd q0 q1 q2 q3->Fr (fun c=>c=nb) v v'->Ow 4 encN v' ns (cs.set rn d)->NdV v' d n'->(∀ b,inB d.nx b->b≠tb)->n'.next.length<2^40+(k+1)->z27_k0d ⟨tb,0,none⟩ ⟨ob,0,none⟩ K v':=fun {v v' d n'} st hf hds hd hdb hl =>
  fin (hf.row st.ro (by omega)) (hf.row st.rt (by omega)) (frB st.fr0 hf nlow) (st.ow.setNd hnp hf hds hd) (qj2 (fun b hb=>(hb3 b hb).2.1) hdb) ⟨hz1.t,by simpa using hz1.n,q50 hz1.x hl⟩
 refine q0b.2 ⟨_,hnp,⟨by omega,by omega⟩,⟨by decide,by decide⟩,_,st.rq.at (i:=0) rfl,q2s (by decide) (by decide) fun s2 _ _=>?_⟩
 simp -zeta only[q1q,Nat.zero_add,Jc]
 have cxb:∀ b,inB cs[rn].nx b->blk t ns cs b:=fun b hb=>.inr (.inr ⟨_,J4 hrc,hb⟩)
 have cxn:∀ b,inB cs[rn].nx b->b≠nb:=fun b hb he=>st.ow.nc _ (J4 hrc) nb hnb (he ▸ hb)
 refine q09.2 ⟨fun _=>?_,fun _=>q09.2 ⟨fun _=>?_,fun _=>q09.2 ⟨fun _=>?_,fun _=>q09.2 ⟨fun _=>?_,fun _=>q09.2 ⟨fun _=>?_,fun _=>q09.2 ⟨fun _=>?_,fun _=>q09.2 ⟨fun _=>?_,fun _=>⟨same st⟩⟩⟩⟩⟩⟩⟩⟩
 ·
  intro w67
  have st:BSt w w3 w67 ob tb qb t T ns cs N pts bnd q0 q1 q2 q3:=st.fr Fr.drew
  obtain⟨nb',hnp',hnq⟩:=Ow.nodeAt st.ow.nds (J0 hrc)
  rw[hnp] at hnp'
  cases hnp'
  obtain⟨hw,hds⟩:=hnq 0 (by decide)
  have hnd:=st.ow.rd.nd rn _ _ (J0 hrc) (J0 hrN)
  refine⟨fun v=>BSt w w3 v ob tb qb t T ns cs N pts bnd q0 q1 q2 q3,st,cs[rn].lot,fun v hv=>by simpa using qdd (k:=0) hv.ow.nds.vw hnp (J0 hrc) rfl,⟨by decide,by decide⟩,_,fun v hv=>hv.rq.at (i:=2) rfl,by simpa using hw,?_⟩
  intro w71
  have f:Fr (fun c=>c=nb) w67 w71:=Fr.set rfl
  have hds':Ow 4 encN w71 ns (cs.set rn { cs[rn] with lot:=IntKind.wrap .i64 (cs[rn].lot+q2) }):=by
   have:=hds (.int .i64 (IntKind.wrap .i64 (cs[rn].lot+q2))) { cs[rn] with lot:=IntKind.wrap .i64 (cs[rn].lot+q2) } rfl
   simpa using this
  exact⟨setN (n':={ N[rn] with lot:=IntKind.wrap .i64 (cs[rn].lot+q2) }) st f hds' ⟨⟨rfl,hnd.1.2.1,hnd.1.2.2⟩,hnd.2.1.frF f fun b hb=>cxn b hb,hnd.2.2⟩ (fun b hb=>(hb3 b (cxb b hb)).2.1) (by show N[rn].next.length<_; omega)⟩
 ·
  intro w72
  have st:BSt w w3 w72 ob tb qb t T ns cs N pts bnd q0 q1 q2 q3:=st.fr Fr.drew
  obtain⟨nb',hnp',hnq⟩:=Ow.nodeAt st.ow.nds (J0 hrc)
  rw[hnp] at hnp'
  cases hnp'
  have hnd:=st.ow.rd.nd rn _ _ (J0 hrc) (J0 hrN)
  refine⟨fun v=>BSt w w3 v ob tb qb t T ns cs N pts bnd q0 q1 q2 q3,st,⟨by decide,by decide⟩,_,fun v hv=>hv.rq.at (i:=2) rfl,⟨by decide,by decide⟩,_,fun v hv=>hv.rq.at (i:=3) rfl,q2s (by decide) (by decide) fun r77 h0 h1=>⟨st,?_⟩⟩
  rw[qan (r:=1+r77) (by omega) (by omega)]
  obtain⟨hw,hds⟩:=hnq 1 (by decide)
  refine⟨hw,?_⟩
  intro w78
  have f:Fr (fun c=>c=nb) w72 w78:=Fr.set rfl
  have hds1:Ow 4 encN w78 ns (cs.set rn { cs[rn] with num:=q2 }):=hds (.int .i64 q2) { cs[rn] with num:=q2 } rfl
  have hrc1:rn<(cs.set rn { cs[rn] with num:=q2 }).length:=by simpa using hrc
  obtain⟨nb',hnp',hnq⟩:=Ow.nodeAt hds1 (J0 hrc1)
  rw[hnp] at hnp'
  cases hnp'
  obtain⟨hw,hds⟩:=hnq 2 (by decide)
  refine⟨hw,?_⟩
  intro w79
  have f2:Fr (fun c=>c=nb) w72 w79:=f.comp (Fr.set rfl)
  have hds2:Ow 4 encN w79 ns (cs.set rn { cs[rn] with num:=q2,den:=1+r77 }):=by
   have:=hds (.int .i64 (1+r77)) { cs[rn] with num:=q2,den:=1+r77 } (by simp[encN])
   simpa using this
  exact⟨setN (n':={ N[rn] with num:=q2,den:=1+r77 }) st f2 hds2 ⟨⟨hnd.1.1,rfl,rfl⟩,hnd.2.1.frF f2 fun b hb=>cxn b hb,hq2,⟨by show _<=1+r77; omega,by show 1+r77<_; omega⟩⟩ (fun b hb=>(hb3 b (cxb b hb)).2.1) (by show N[rn].next.length<_; omega)⟩
 ·
  intro w80
  have st:BSt w w3 w80 ob tb qb t T ns cs N pts bnd q0 q1 q2 q3:=st.fr Fr.drew
  refine⟨fun v=>BSt w w3 v ob tb qb t T ns cs N pts bnd q0 q1 q2 q3\/(Vw 4 encN v ns cs/\Row v qb [.int .i64 q0,.int .i64 q1,.int .i64 q2,.int .i64 q3]),.inl st,cs[rn].nx,fun v hv=>?_,⟨by decide,by decide⟩,q2,fun v hv=>?_,?_⟩
  ·rcases hv with hv | hv
   ·exact qdd (k:=3) hv.ow.nds.vw hnp (J0 hrc) rfl
   ·exact qdd (k:=3) hv.1 hnp (J0 hrc) rfl
  ·rcases hv with hv | hv
   ·exact hv.rq.at (i:=2) rfl
   ·exact hv.2.at (i:=2) rfl
  intro w84
  have f84:Fr F0 w80 w84:=Fr.alloc
  have st:BSt w w3 w84 ob tb qb t T ns cs N pts bnd q0 q1 q2 q3:=st.fr f84
  have hx:Vw 1 (ie .i64 (id:Int->Int)) w84 ⟨some ⟨w80.heap.size,0,none⟩,1,1⟩ [q2]:=Vw.new rfl rfl
  have hnd:=(st.ow.nd rn _ _ (J0 hrc) (J0 hrN))
  have exl:=hnd.2.1.vw.len
  refine⟨.inl st,hnd.2.1.app hx (q1y _ _) rfl (by simp; omega) (by simp; omega) fun s85 w86 ho f86 hi=>?_⟩
  have v86:Vw 4 encN w86 ns cs:=st.ow.nds.vw.frF f86 fun b hb hb'=>st.ow.nc _ (J4 hrc) b hb hb'
  have hobw:ob<w84.heap.size:=st.ro.lt
  have htbw:tb<w84.heap.size:=st.rt.lt
  have ho4:Ow 4 encN w86 ns cs:=st.ow.nds.frF f86 fun b hb hb'=>st.ow.nc _ (J4 hrc) b hb hb'
  refine⟨.inr ⟨v86,f86.row st.rq fun hb=>(hb3 _ (cxb _ hb)).2.2 rfl⟩,?_⟩
  obtain⟨nb',hnp',hnq⟩:=Ow.nodeAt ho4 (J0 hrc)
  rw[hnp] at hnp'
  cases hnp'
  obtain⟨hw,hds⟩:=hnq 3 (by decide)
  refine⟨hw,?_⟩
  intro w87
  have f87:Fr (fun c=>c=nb) w86 w87:=Fr.set rfl
  have hds':Ow 4 encN w87 ns (cs.set rn { cs[rn] with nx:=s85 }):=hds (.slice s85.p s85.l s85.c) { cs[rn] with nx:=s85 } rfl
  have hnbw:nb<w84.heap.size:=st.ow.nds.lt' hnb
  have s85n:∀ b,inB s85 b->b≠nb/\b≠tb:=fun b hb=>by
   rcases hi b hb with h | h
   ·exact⟨cxn b h,(hb3 b (cxb b h)).2.1⟩
   ·omega
  have rd86:∀ (i:Nat) c n,i≠rn->cs[i]?=some c->N[i]?=some n->NdV w87 c n:=fun i c n hir hc hn=>by
   have:=st.ow.rd.nd i c n hc hn
   obtain⟨hil,rfl⟩:=J5.1 hc
   have hpw:=J7.1 st.ow.cc
   refine⟨this.1,(this.2.1.frF f86 fun b hb hb'=>?_).frF f87 fun b hb he=>st.ow.nc _ (J4 hil) nb hnb (he ▸ hb),this.2.2⟩
   rcases Nat.lt_or_gt_of_ne hir with h | h
   ·exact hpw i rn hil hrc h b hb hb'
   ·exact hpw rn i hrc hil h b hb' hb
  refine⟨fin (T':=T) (N':=N.set rn { N[rn] with next:=N[rn].next++[q2] }) (cs':=cs.set rn { cs[rn] with nx:=s85 }) (f87.row (f86.row st.ro fun hb=>(hb3 _ (cxb _ hb)).1 rfl) (by omega)) (f87.row (f86.row st.rt fun hb=>(hb3 _ (cxb _ hb)).2.1 rfl) (by omega)) (frB (frB st.fr0 f86 fun b hb=>by have:=lb b (cxb b hb); omega) f87 nlow) ⟨?_,hds'.vw,by simp[st.ow.len],fun i c n hc hn=>?_⟩ (qj2 (fun b hb=>(hb3 b hb).2.1) fun b hb=>(s85n b hb).2) ⟨hz1.t,by simpa using hz1.n,q50 hz1.x (by simp; omega)⟩⟩
  ·exact(st.ow.tk.vw.frF f86 fun b hb hb'=>st.ow.tc _ (J4 hrc) b hb hb').frF f87 fun b hb he=>st.ow.tn b hb (he ▸ hnb)
  ·rw[J9] at hc hn
   by_cases hir:rn=i
   ·subst hir
    rw[if_pos rfl,if_pos hrc] at hc
    rw[if_pos rfl,if_pos hrN] at hn
    cases hc
    cases hn
    exact⟨hnd.1,ho.vw.frF f87 fun b hb=>(s85n b hb).1,hnd.2.2⟩
   ·rw[if_neg hir] at hc hn
    exact rd86 i c n (Ne.symm hir) hc hn
 ·
  have ld3:∀ {v:World},BSt w w3 v ob tb qb t T ns cs N pts bnd q0 q1 q2 q3->v.cell? ⟨nb,rn*4+3,none⟩=some (.slice cs[rn].nx.p cs[rn].nx.l cs[rn].nx.c):=fun hv=>qdd (k:=3) hv.ow.nds.vw hnp (J0 hrc) rfl
  refine⟨cs[rn].nx,ld3 st,q00.2 ⟨fun hpos=>?_,fun _=>⟨same st⟩⟩⟩
  intro w89
  have st:BSt w w3 w89 ob tb qb t T ns cs N pts bnd q0 q1 q2 q3:=st.fr Fr.drew
  have hnd:=(st.ow.nd rn _ _ (J0 hrc) (J0 hrN))
  have exl:=hnd.2.1.vw.len
  have exc:=hnd.2.1.vw.cap
  obtain⟨nb',hnp',hnq⟩:=Ow.nodeAt st.ow.nds (J0 hrc)
  rw[hnp] at hnp'
  cases hnp'
  obtain⟨hw,hds⟩:=hnq 3 (by decide)
  obtain⟨j,hj⟩:∃ j:Nat,((cs[rn].nx.l:Int)-1)=j:=⟨cs[rn].nx.l-1,by omega⟩
  refine⟨fun v=>BSt w w3 v ob tb qb t T ns cs N pts bnd q0 q1 q2 q3,st,cs[rn].nx,fun v hv=>ld3 hv,cs[rn].nx,fun v hv=>ld3 hv,?_⟩
  rw[show IntKind.wrap .i64 ((cs[rn].nx.l:Int)-1)=(cs[rn].nx.l:Int)-1 from q01]
  refine⟨⟨by omega,by omega,by omega⟩,hw,?_⟩
  rw[hj,Jc]
  intro w93
  have f:Fr (fun c=>c=nb) w89 w93:=Fr.set rfl
  have hds':Ow 4 encN w93 ns (cs.set rn { cs[rn] with nx:=⟨subP cs[rn].nx.p 0 cs[rn].nx.c 1,j-0,cs[rn].nx.c-0⟩ }):=hds _ { cs[rn] with nx:=⟨subP cs[rn].nx.p 0 cs[rn].nx.c 1,j-0,cs[rn].nx.c-0⟩ } rfl
  have hinb:∀ b,inB (⟨subP cs[rn].nx.p 0 cs[rn].nx.c 1,j-0,cs[rn].nx.c-0⟩:Sl) b->inB cs[rn].nx b:=fun b ⟨a,ha,hb⟩=>⟨a,by rw[qda] at ha; exact ha,hb⟩
  exact⟨setN (n':={ N[rn] with next:=N[rn].next.take j }) st f hds' ⟨hnd.1,(hnd.2.1.vw.take (fun a=>q05 _ _ a) (by omega)).frF f fun b hb=>cxn b (hinb b hb),hnd.2.2⟩ (fun b hb=>(hb3 b (cxb b (hinb b hb))).2.1) (by simp; omega)⟩
 ·
  have ld3:∀ {v:World},BSt w w3 v ob tb qb t T ns cs N pts bnd q0 q1 q2 q3->v.cell? ⟨nb,rn*4+3,none⟩=some (.slice cs[rn].nx.p cs[rn].nx.l cs[rn].nx.c):=fun hv=>qdd (k:=3) hv.ow.nds.vw hnp (J0 hrc) rfl
  refine⟨cs[rn].nx,ld3 st,q00.2 ⟨fun hpos=>?_,fun _=>⟨same st⟩⟩⟩
  intro w95
  have st:BSt w w3 w95 ob tb qb t T ns cs N pts bnd q0 q1 q2 q3:=st.fr Fr.drew
  have hnd:=(st.ow.nd rn _ _ (J0 hrc) (J0 hrN))
  have exl:=hnd.2.1.vw.len
  refine⟨fun v=>BSt w w3 v ob tb qb t T ns cs N pts bnd q0 q1 q2 q3,st,cs[rn].nx,fun v hv=>ld3 hv,⟨by decide,by decide⟩,_,fun v hv=>hv.rq.at (i:=2) rfl,cs[rn].nx,fun v hv=>ld3 hv,⟨by decide,by decide⟩,_,fun v hv=>hv.rq.at (i:=3) rfl,ns,fun v hv=>hv.ro.at,q2s (by omega) (by omega) fun r1 h0 h1=>⟨st,q2s (by omega) (by omega) fun r2 _ _=>⟨st,?_⟩⟩⟩
  obtain⟨r1,rfl⟩:=Jb h0
  have hr1:r1<N[rn].next.length:=by omega
  obtain⟨ad,hp,hw,hst⟩:=Ow.st hnd.2.1 r1 hr1
  refine q0b.2 ⟨ad,hp,⟨by omega,by omega⟩,by simpa using hw,?_⟩
  intro w107
  have f107:Fr (inB cs[rn].nx) w95 w107:=(hst r2).2
  have ho:OI w107 cs[rn].nx (N[rn].next.set r1 r2):=(hst r2).1
  refine⟨fin (T':=T) (N':=N.set rn { N[rn] with next:=N[rn].next.set r1 r2 }) (cs':=cs) (f107.row st.ro fun hb=>(hb3 _ (cxb _ hb)).1 rfl) (f107.row st.rt fun hb=>(hb3 _ (cxb _ hb)).2.1 rfl) (frB st.fr0 f107 fun b hb=>by have:=lb b (cxb b hb); omega) ⟨st.ow.tk.vw.frF f107 fun b hb hb'=>st.ow.tc _ (J4 hrc) b hb hb',st.ow.nds.vw.frF f107 fun b hb hb'=>st.ow.nc _ (J4 hrc) b hb hb',by simp[st.ow.len],fun i c n hc hn=>?_⟩ (fun b hb=>(hb3 b hb).2.1) ⟨hz1.t,by simpa using hz1.n,q50 hz1.x (by simp; omega)⟩⟩
  rw[J9] at hn
  by_cases hir:rn=i
  ·subst hir
   rw[if_pos rfl,if_pos hrN] at hn
   rw[J0 hrc] at hc
   cases hc
   cases hn
   exact⟨hnd.1,ho.vw,hnd.2.2⟩
  ·rw[if_neg hir] at hn
   have:=st.ow.rd.nd i c n hc hn
   obtain⟨hil,rfl⟩:=J5.1 hc
   have hpw:=J7.1 st.ow.cc
   refine⟨this.1,this.2.1.frF f107 fun b hb hb'=>?_,this.2.2⟩
   rcases Nat.lt_or_gt_of_ne (Ne.symm hir) with h | h
   ·exact hpw i rn hil hrc h b hb hb'
   ·exact hpw rn i hrc hil h b hb' hb
 ·
  obtain⟨hw,hds⟩:=hnq 3 (by decide)
  refine⟨hw,?_⟩
  intro w108
  have f:Fr (fun c=>c=nb) w11 w108:=Fr.set rfl
  have hds':Ow 4 encN w108 ns (cs.set rn { cs[rn] with nx:=⟨none,0,0⟩ }):=hds (.slice none 0 0) { cs[rn] with nx:=⟨none,0,0⟩ } rfl
  exact⟨setN (n':={ N[rn] with next:=[] }) st f hds' ⟨hnd.1,Vw.nil,hnd.2.2⟩ (fun b ⟨a,ha,_⟩=>by cases ha) (by show 0<_; omega)⟩
 ·
  intro w109
  have st:BSt w w3 w109 ob tb qb t T ns cs N pts bnd q0 q1 q2 q3:=st.fr Fr.drew
  have st0:=st
  have ncap:=st.ow.nds.vw.cap
  rw[qan (r:=(rn:Int)+1) (by omega) (by omega)]
  have e2:((rn:Int)+1).toNat=rn+1:=by omega
  rw[e2]
  refine⟨fun v=>BSt w w3 v ob tb qb t T ns cs N pts bnd q0 q1 q2 q3,st,ns,fun v hv=>hv.ro.at,⟨by omega,by omega,by omega⟩,ns,fun v hv=>hv.ro.at,⟨by omega,by omega⟩,?_⟩
  intro w113
  have hm:Sp w109 w113 _ _ _ 4 encN _ _:=Sp.empty (fun a=>q0p a) Mem.nil
  have hm:=hm.mk''
  have vw:∀ {v},Fr F0 w109 v->Vw 4 encN v ns cs:=fun h=>st.ow.nds.vw.fr h
  refine⟨st.fr hm.fr0,hm.app ((vw hm.fr0).take (fun a=>q0p a) (j:=rn) (by omega)) qbn rfl (by simp; omega) (by simp; omega) fun s114 w115 hm _=>⟨st.fr hm.fr0,?_⟩⟩
  rw[List.nil_append] at hm
  refine hm.app ((vw hm.fr0).drop (fun a=>q0p a) (j:=rn+1) (by omega)) qbn rfl (by simp; omega) (by simp; omega) fun s116 w117 hm _=>⟨st.fr hm.fr0,?_⟩
  have st:=st.fr hm.fr0
  have hobl:ob<w109.heap.size:=st0.ro.lt
  have htbl:tb<w109.heap.size:=st0.rt.lt
  have s116n:∀ b,inB s116 b->b≠ob/\b≠tb:=fun b hb=>by have:=hm.nw b hb; have:=(hm.fr0.1); have h1:=hobl; have h2:=htbl; omega
  refine⟨st.ro.wr (i:=3) (by show 3<4; decide),?_⟩
  intro w118
  have f:Fr (fun c=>c=ob) w117 w118:=Fr.set rfl
  have ro:Row w118 ob (rsC t pts bnd s116):=st.ro.set 3 _
  have hce:cs.take rn++cs.drop (rn+1)=cs.eraseIdx rn:=(List.eraseIdx_eq_take_drop_succ ..).symm
  rw[hce] at hm
  have rd:RdR w117 t T s116 (cs.eraseIdx rn) (N.eraseIdx rn):=⟨st.ow.tk.vw,hm.vw,by simp[List.length_eraseIdx,ec],fun i c n hc hn=>by
   rw[List.getElem?_eraseIdx] at hc hn
   split at hc
   ·rename_i h
    rw[if_pos h] at hn
    exact st.ow.rd.nd i c n hc hn
   ·rename_i h
    rw[if_neg h] at hn
    exact st.ow.rd.nd (i+1) c n hc hn⟩
  have hb116:∀ b,blk t s116 (cs.eraseIdx rn) b->b≠ob/\b≠tb:=fun b hb=>by
   rcases hb with hb | hb | ⟨c,hc,hb⟩
   ·exact⟨(hb3 b (.inl hb)).1,(hb3 b (.inl hb)).2.1⟩
   ·exact s116n b hb
   ·have:=hb3 b (.inr (.inr ⟨c,J8 hc,hb⟩))
    exact⟨this.1,this.2.1⟩
  exact⟨fin ro (f.row st.rt (by omega)) (frB st.fr0 f fun b hb=>by omega) (rd.frF f fun b hb=>(hb116 b hb).1) (fun b hb=>(hb116 b hb).2) ⟨hz1.t,Nat.lt_of_le_of_lt (List.length_eraseIdx_le ..) hz1.n,fun n hn=>hz1.x n (J8 hn)⟩⟩
end
open Go Pw
section
variable {p:Pr}{T:List Int}{N:List Nd}
theorem q5n {f:List Int}{a b:Int}(hp:q03 p)(hT:Perm p T)(h:q0w p f a b T=true):q5g (upB p) p f a b T:=by
 unfold q0w at h
 simp only[Bool.or_eq_true,Bool.and_eq_true,decide_eq_true_eq] at h
 rcases h with h | h | ⟨hl,h⟩ | h
 ·exact .inl (q12.1 h)
 ·exact .inr (.inl h)
 ·refine .inr (.inr (.inl ⟨hl,fun⟨h1,h2⟩=>?_⟩))
  unfold q2m at h
  rw[q0f.2 hp,q23.2 h1,q23.2 hT,q4q.2 h2] at h
  cases h
 ·refine .inr (.inr (.inr ?_))
  cases ho:(if (q0g p && q4f p p.lots f)=true then upB p f a b else none) with
  | none =>
   unfold q4y upR at h
   rw[ho] at h
   simp at h
  | some n =>
   unfold q4y upR at h
   rw[ho] at h
   simp at h
   refine⟨n,?_,h⟩
   split at ho
   ·exact ho
   ·cases ho
theorem qgm (hp:q03 p)(hT:Perm p T){t:List Int}(ht:Perm p t):∀ (ls ds f:List Int) (n:Int) (seen:List Bool),p.lots=ds++ls->f.length=ds.length->f <+: t->(q0y p N T ls f n seen).1=true->¬Bt p t T:=by
 intro ls
 induction ls with
 | nil =>
  intro ds f n seen hl hf hft hw
  unfold q0y at hw
  split at hw
  ·cases hw
  ·split at hw
   ·cases hw
   ·split at hw
    ·exact q3j hp (qbl hp) (q5n hp hT hw) hft ht
    ·cases hw
 | cons lot ls ih =>
  intro ds f n seen hl hf hft hw
  unfold q0y at hw
  split at hw
  ·cases hw
  ·split at hw
   ·cases hw
   ·split at hw
    ·exact q3j hp (qbl hp) (q5n hp hT hw) hft ht
    ·simp only at hw
     split at hw
     ·cases hw
     ·rename_i x _ _ _ hc
      have hlen:x.next.length=(opts p lot).length:=by
       by_cases h:x.next.length=(opts p lot).length
       ·exact h
       ·exact absurd (.inr h) hc
      have hflt:f.length<t.length:=by rw[ht.1,hl,hf]; simp
      have hsn:f++[t[f.length]] <+: t:=by
       obtain⟨r,rfl⟩:=hft
       cases r with
       | nil=>simp at hflt
       | cons y r=>exact⟨r,by simp⟩
      have hdo:t[f.length]∈opts p lot:=by
       refine q3k.2 ?_
       have hd:=ht.2.1
       obtain⟨lt',h1,h2⟩:=qhw p.lots t f.length t[f.length] hd (J0 hflt)
       rw[hl,hf] at h1
       simp at h1
       rw[h1]
       exact h2
      have key:∀ (os ks:List Int) (sq:List Bool),ks.length=os.length->(q2r (q0y p N T ls) n f os ks sq).1=true->∀ o∈os,∃ k sq',(q0y p N T ls (f++[o]) k sq').1=true:=by
       intro os
       induction os with
       | nil=>intro ks sq _ _ o ho; cases ho
       | cons o os iho =>
        intro ks sq hl h o' ho'
        cases ks with
        | nil=>simp at hl
        | cons k ks =>
         unfold q2r at h
         split at h
         ·cases h
         ·split at h
          ·rename_i hk
           rcases List.mem_cons.1 ho' with rfl | ho'
           ·exact⟨k,sq,hk⟩
           ·exact iho ks _ (by simpa using hl) h o' ho'
          ·cases h
      obtain⟨k,sq',hk⟩:=key _ _ _ hlen hw _ hdo
      exact ih (ds++[lot]) (f++[t[f.length]]) k sq' (by rw[hl]; simp) (by simp[hf]) hsn hk
theorem qeh (h:q5m p N T=true):q03 p/\q7n p T:=by
 unfold q5m at h
 simp only[Bool.and_eq_true] at h
 obtain⟨⟨hr,hT⟩,hw,_⟩:=h
 have hp:=q0f.1 hr
 have hT:=q23.1 hT
 exact⟨hp,hT,fun u hu=>qgm hp hT hu p.lots [] [] 0 _ rfl rfl (List.nil_prefix) hw⟩
theorem qkq {pts bnd:Int}(h:chkP p T pts bnd N=0):q03 p/\q7n p T:=by
 unfold chkP at h
 split at h
 ·split at h
  ·rename_i hc
   simp only[Bool.and_eq_true] at hc
   exact qeh hc.2.2.2
  ·cases h
 ·cases h
end
end Go.Proofs.YtfpobpjandjhjaaGreatDoor
