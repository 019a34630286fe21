/- The chapter's examples hold. Conditions: none. -/
import Derived.Test.YtfpobpjandjhjaaGreatDoorPXY
import Derived.Test.YtfpobpjandjhjaaGreatDoorPG4
import Derived.Test.YtfpobpjandjhjaaGreatDoorCL1
import Derived.Test.YtfpobpjandjhjaaGreatDoorPG5
import Derived.Test.YtfpobpjandjhjaaGreatDoorPLR
import Derived.Deep.Slices
import Derived.ChangeArms
import Derived.Test.YtfpobpjandjhjaaGreatDoorPK5
import Derived.Test.YtfpobpjandjhjaaGreatDoorProg
import Derived.KernelRfl
import Derived.Test.YtfpobpjandjhjaaGreatDoorPwY
import Derived.Test.YtfpobpjandjhjaaGreatDoorCG0
import Derived.Test.YtfpobpjandjhjaaGreatDoorCG1
import Derived.Test.YtfpobpjandjhjaaGreatDoorCG2
import Derived.Test.YtfpobpjandjhjaaGreatDoorCG3
import Derived.Test.YtfpobpjandjhjaaGreatDoorCG4
import Derived.Test.YtfpobpjandjhjaaGreatDoorCG5
import Derived.Test.YtfpobpjandjhjaaGreatDoorPG1
import Derived.Test.YtfpobpjandjhjaaGreatDoorPG2
import Derived.Test.YtfpobpjandjhjaaGreatDoorPG3
import Derived.Test.YtfpobpjandjhjaaGreatDoorPG7
import Derived.Test.YtfpobpjandjhjaaGreatDoorCXV
import Derived.Test.YtfpobpjandjhjaaGreatDoorCXZ
namespace Go.Proofs.YtfpobpjandjhjaaGreatDoor
open Go Pw
def exP22:Pr:=⟨[1],[⟨1,5,7,3⟩,⟨1,6,9,4⟩],[],0,8⟩
def exN:List Nd:=[⟨0,0,0,[1,2,3]⟩,⟨0,0,1,[]⟩,⟨0,0,1,[]⟩,⟨0,0,1,[]⟩]
theorem NV.take {w:World}{s:Sl}{N:List Nd}(h:NV w s N){j:Nat}(hj:j<=N.length):NV w ⟨subP s.p 0 s.c 4,j-0,s.c-0⟩ (N.take j):=by
 obtain⟨⟨cs,h1,h2,h3⟩,h4⟩:=h
 refine⟨⟨cs.take j,h1.take (fun a=>encN_length a) (by omega),by simp[h2],fun i c n hc hn=>?_⟩,by simp; omega⟩
 have hi:i<j:=by
  have:=(List.getElem?_eq_some_iff.1 hc).1
  simp at this
  omega
 rw[List.getElem?_take,if_pos hi] at hc hn
 exact h3 i c n hc hn
theorem OwR.far {w0 w w':World}{t ns:Sl}{T:List Int}{cs:List NdC}{N:List Nd}{x:Nat}(h:OwR w0 w t T ns cs N)(hf:∀ c,c≠x->w'.heap[c]?=w.heap[c]?)(hx:∀ b,(inB t b\/inB ns b\/∃ c∈cs,inB c.nx b)->b≠x):OwR w0 w' t T ns cs N :=
 { h with
  tk:=Rests.ow t T w w' (fun b hb=>hf b (hx b (.inl hb))) h.tk
  nds:=Rests.ow ns cs w w' (fun b hb=>hf b (hx b (.inr (.inl hb)))) h.nds
  nd:=fun i c n hc hn=>⟨(h.nd i c n hc hn).1,Rests.ow c.nx n.next w w' (fun b hb=>hf b (hx b (.inr (.inr ⟨c,List.mem_of_getElem? hc,hb⟩)))) (h.nd i c n hc hn).2.1,(h.nd i c n hc hn).2.2⟩ }
theorem OwR.lt {w0 w:World}{t ns:Sl}{T:List Int}{cs:List NdC}{N:List Nd}(h:OwR w0 w t T ns cs N):∀ b,(inB t b\/inB ns b\/∃ c∈cs,inB c.nx b)->b<w.heap.size:=fun b hb=>by
 rcases hb with hb | hb | ⟨c,hc,hb⟩
 ·exact h.tk.lt' hb
 ·exact h.nds.lt' hb
 ·obtain⟨i,hi,rfl⟩:=List.mem_iff_getElem.1 hc
  have hl:=h.len
  exact(h.nd i _ _ (List.getElem?_eq_getElem hi) (List.getElem?_eq_getElem (by omega))).2.1.lt' hb
section
variable {w w' w0 wB wC wD:World}{s0 s1 s2 tS nS t1 n1 t2 n2:Sl}{cs1 cs2:List NdC}{pb rb wa sa:Nat}
theorem example22_spec {K:Sl->Sl->Sl->Int->Int->World->Prop}(hK:∀ w' s0 s1 s2,Fr F0 w w'->PV w' s0 s1 s2 exP22->K s0 s1 s2 0 8 w'):z16_sh K w:=by
 refine⟨?_⟩
 unfold z16_sd
 intro w1
 have m:Mem w w1 _:=Mem.nil.allocL (cs:=[.slice none 0 0,.slice none 0 0,.slice none 0 0,.int .i64 0,.int .i64 0])
 clear_value w1
 intro w2
 have m:Mem w w2 _:=m.allocL (cs:=[.int .i64 1])
 clear_value w2
 intro w3
 have m:Mem w w3 _:=m.allocL (cs:=[.int .i64 1,.int .i64 5,.int .i64 7,.int .i64 3,.int .i64 1,.int .i64 6,.int .i64 9,.int .i64 4])
 clear_value w3
 refine stN_at m 2 rfl rfl fun w4 m=>?_
 simp only[List.set_cons_zero,List.set_cons_succ] at m
 refine⟨⟨some ⟨w1.heap.size,0,none⟩,1,1⟩,m.ld 2 rfl rfl,⟨some ⟨w2.heap.size,0,none⟩,2,2⟩,m.ld 2 rfl rfl,⟨none,0,0⟩,m.ld 2 rfl rfl,_,m.ld 2 rfl rfl,_,m.ld 2 rfl rfl,hK w4 _ _ _ m.1 ?_⟩
 refine⟨?_,?_,⟨[],Vw.nil,rfl,fun x hx=>by cases hx⟩,by simp[exP22],by simp[exP22],by simp[exP22]⟩
 ·exact(Row.ow (fun a=>ie_length _ _ a) (l:=[(1:Int)]) (m.row 1 rfl)).vw
 ·exact(Row.ow (fun a=>encC_length a) (l:=exP22.ch) (m.row 0 rfl)).vw
theorem exN_len:exN.length<2^47:=by decide
theorem exN_sm:SmR [0] exN:=⟨by decide,by decide,by decide⟩
theorem sanity_k0 {K:Bool->World->Prop}(g:GlT wB)(hP:PV wB s0 s1 s2 exP22)(hpr:Row wB pb (prC s0 s1 s2 0 8))(hrr:Row wB rb (rsC tS 3 3 nS))(hT:VI wB tS [0])(hN:NV wB nS exN)
  (hF:Fr F0 wB w) (hw:Row w wa (rsC t1 3 3 n1)) (hs:Row w sa (rsC t2 3 3 n2)) (hwa:wB.heap.size<=wa) (hsa:wB.heap.size<=sa) (hne:wa≠sa) (o1:OwR wC w t1 [0] n1 cs1 exN) (o2:OwR wD w t2 [0] n2 cs2 exN)
  (h1:∀ b,(inB t1 b\/inB n1 b\/∃ c∈cs1,inB c.nx b)->b≠sa/\b≠wa) (h2:∀ b,(inB t2 b\/inB n2 b\/∃ c∈cs2,inB c.nx b)->b≠sa/\b≠wa)
  (hK:∀ w',Fr F0 wB w'->K true w'):z1h_k0 ⟨pb,0,none⟩ 27 true 26 true ⟨rb,0,none⟩ ⟨wa,0,none⟩ ⟨sa,0,none⟩ K w:=by
 refine⟨?_⟩
 unfold z1h_k0d
 refine⟨hw.wr (i:=1) (by show 1<4; decide),?_⟩
 intro w1
 have o1:OwR wC w1 t1 [0] n1 cs1 exN:=o1.far (x:=wa) (fun c hc=>heap_set_ne (Ne.symm hc)) fun b hb=>(h1 b hb).2
 have o2:OwR wD w1 t2 [0] n2 cs2 exN:=o2.far (x:=wa) (fun c hc=>heap_set_ne (Ne.symm hc)) fun b hb=>(h2 b hb).2
 have hw:Row w1 wa (rsC t1 4 3 n1):=hw.set 1 _
 have hs:Row w1 sa (rsC t2 3 3 n2):=hs.congr (heap_set_ne hne)
 have hF:Fr F0 wB w1:=hF.trans (Fr.set (F:=fun c=>c=wa) rfl) fun b hb hlt=>by omega
 clear_value w1
 refine⟨hw.wr (i:=2) (by show 2<4; decide),?_⟩
 intro w2
 have o1:OwR wC w2 t1 [0] n1 cs1 exN:=o1.far (x:=wa) (fun c hc=>heap_set_ne (Ne.symm hc)) fun b hb=>(h1 b hb).2
 have o2:OwR wD w2 t2 [0] n2 cs2 exN:=o2.far (x:=wa) (fun c hc=>heap_set_ne (Ne.symm hc)) fun b hb=>(h2 b hb).2
 have hw:Row w2 wa (rsC t1 4 4 n1):=hw.set 2 _
 have hs:Row w2 sa (rsC t2 3 3 n2):=hs.congr (heap_set_ne hne)
 have hF:Fr F0 wB w2:=hF.trans (Fr.set (F:=fun c=>c=wa) rfl) fun b hb hlt=>by omega
 clear_value w2
 have hn2l:n2.l=4:=(o2.nv exN_len).len
 have hn2c:=o2.nds.vw.cap
 refine⟨n2,hs.at rfl,⟨by omega,by omega,by omega⟩,hs.wr (i:=3) (by show 3<4; decide),?_⟩
 intro w3
 have o1:OwR wC w3 t1 [0] n1 cs1 exN:=o1.far (x:=sa) (fun c hc=>heap_set_ne (Ne.symm hc)) fun b hb=>(h1 b hb).1
 have o2:OwR wD w3 t2 [0] n2 cs2 exN:=o2.far (x:=sa) (fun c hc=>heap_set_ne (Ne.symm hc)) fun b hb=>(h2 b hb).1
 have hs:Row w3 sa (rsC t2 3 3 ⟨subP n2.p 0 n2.c 4,3-0,n2.c-0⟩):=hs.set 3 _
 have hw:Row w3 wa (rsC t1 4 4 n1):=hw.congr (heap_set_ne (Ne.symm hne))
 have hF:Fr F0 wB w3:=hF.trans (Fr.set (F:=fun c=>c=sa) rfl) fun b hb hlt=>by omega
 clear_value w3
 have v1:VI w3 t1 [0]:=o1.tk.vw
 have v2:VI w3 t2 [0]:=o2.tk.vw
 have x1:NV w3 n1 exN:=o1.nv exN_len
 have x2:NV w3 ⟨subP n2.p 0 n2.c 4,3-0,n2.c-0⟩ (exN.take 3):=(o2.nv exN_len).take (j:=3) (by decide)
 intro w4
 have m4:Mem w3 w4 _:=Mem.nil.allocL (cs:=[.int .i64 0])
 clear_value w4
 intro w5
 have m4:Mem w3 w5 _:=m4.allocL (cs:=[.int .i64 0,.int .i64 1,.int .i64 2,.slice none 0 0])
 clear_value w5
 have vT:VI w5 ⟨some ⟨w3.heap.size,0,none⟩,1,1⟩ [0]:=(Row.ow (fun a=>ie_length _ _ a) (l:=[(0:Int)]) (m4.row 1 rfl)).vw
 have vN:NV w5 ⟨some ⟨w4.heap.size,0,none⟩,1,1⟩ [⟨0,1,2,[]⟩]:=by
  refine⟨⟨[⟨0,1,2,⟨none,0,0⟩⟩],(Row.ow (fun a=>encN_length a) (l:=[(⟨0,1,2,⟨none,0,0⟩⟩:NdC)]) (m4.row 0 rfl)).vw,rfl,fun i c n hc hn=>?_⟩,by decide⟩
  match i,hc,hn with
  | 0,hc,hn =>
   cases hc
   cases hn
   exact⟨⟨rfl,rfl,rfl⟩,Vw.nil,⟨by decide,by decide⟩,⟨by decide,by decide⟩⟩
 refine Encode_spec vT vN ⟨by decide,by decide,by decide⟩ (by decide) (by decide) ⟨by decide,⟨by decide,by decide⟩,⟨by decide,by decide⟩,by decide⟩ (g.fr (hF.t m4.1)) (by rw[enc_example]; decide) fun w6 f6=>?_
 have hF6:Fr F0 wB w6:=hF.t (m4.1.t f6)
 have f36:Fr F0 w3 w6:=m4.1.t f6
 refine cnd_iff.2 ⟨fun _=>cnd_iff.2 ⟨fun _=>cnd_iff.2 ⟨fun _=>cnd_iff.2 ⟨fun _=>?_,fun h=>by cases h⟩,fun h=>by cases h⟩,fun h=>by cases h⟩,fun h=>by cases h⟩
 have p6:=hF6.row hpr fun h=>h
 have r6:=hF6.row hrr fun h=>h
 refine⟨s0,p6.at rfl,s1,p6.at rfl,s2,p6.at rfl,_,p6.at rfl,_,p6.at rfl,tS,r6.at rfl,_,r6.at rfl,_,r6.at rfl,nS,r6.at rfl,?_⟩
 refine pCheck_spec (p:=exP22) (hP.fr hF6) (hT.fr hF6) (by decide) (hN.fr hF6) fun w7 f7=>?_
 rw[show chkP exP22 [0] 3 3 exN=0 by decide +kernel]
 refine cnd_iff.2 ⟨fun _=>?_,fun h=>by cases h⟩
 have p7:=f7.row p6 fun h=>h
 have f37:=f36.t f7
 have w7r:=f37.row hw fun h=>h
 refine⟨s0,p7.at rfl,s1,p7.at rfl,s2,p7.at rfl,_,p7.at rfl,_,p7.at rfl,t1,w7r.at rfl,_,w7r.at rfl,_,w7r.at rfl,n1,w7r.at rfl,?_⟩
 refine pCheck_spec (p:=exP22) (hP.fr (hF6.t f7)) (v1.fr f37) (by decide) (x1.fr f37) fun w8 f8=>?_
 rw[show chkP exP22 [0] 4 4 exN=41 by decide +kernel]
 refine cnd_iff.2 ⟨fun _=>?_,fun h=>by cases h⟩
 have p8:=f8.row p7 fun h=>h
 have f38:=f37.t f8
 have w8r:=f38.row hs fun h=>h
 refine⟨s0,p8.at rfl,s1,p8.at rfl,s2,p8.at rfl,_,p8.at rfl,_,p8.at rfl,t2,w8r.at rfl,_,w8r.at rfl,_,w8r.at rfl,⟨subP n2.p 0 n2.c 4,3-0,n2.c-0⟩,w8r.at rfl,?_⟩
 refine pCheck_spec (p:=exP22) (hP.fr (hF6.t (f7.t f8))) (v2.fr f38) (by decide) (x2.fr f38) fun w9 f9=>?_
 rw[show chkP exP22 [0] 3 3 (exN.take 3)=41 by decide +kernel]
 refine cnd_iff.2 ⟨fun _=>?_,fun h=>by cases h⟩
 rw[enc_example,decide_eq_true (by rfl)]
 exact hK w9 (hF6.t (f7.t (f8.t f9)))
theorem sanity_spec {K:Bool->World->Prop}(g:GlT w)(hK:∀ w',Fr F0 w w'->K true w'):z1h_sh K w:=by
 refine⟨?_⟩
 unfold z1h_sd
 refine example22_spec fun w1 s0 s1 s2 f1 hP=>?_
 intro w3
 have m:Mem w1 w3 _:=Mem.nil.allocL (cs:=prC ⟨none,0,0⟩ ⟨none,0,0⟩ ⟨none,0,0⟩ 0 0)
 clear_value w3
 refine stN_at m 0 rfl rfl fun w4 m=>?_
 have m:Mem w1 w4 [(w1.heap.size,prC s0 s1 s2 0 8)]:=m
 intro w5
 have m:Mem w1 w5 _:=m.allocL (cs:=[.int .i64 0,.int .i64 0])
 clear_value w5
 refine⟨m.wr 0 rfl rfl,?_⟩
 intro w6
 have m:Mem w1 w6 [(w4.heap.size,[.int .i64 0,.int .i64 0]),(w1.heap.size,prC s0 s1 s2 0 8)]:=m.set 0 rfl
 clear_value w6
 refine⟨m.wr 0 rfl rfl,?_⟩
 intro w7
 have m:Mem w1 w7 [(w4.heap.size,[.int .i64 0,.int .i64 1]),(w1.heap.size,prC s0 s1 s2 0 8)]:=m.set 0 rfl
 clear_value w7
 have hPF:∀ {u},Fr F0 w1 u->PF u s0 s1 s2 ⟨none,0,0⟩ exP22 []:=fun h=>⟨hP.fr h,Vw.nil,by decide⟩
 refine⟨s0,m.ld 1 rfl rfl,s1,m.ld 1 rfl rfl,s2,m.ld 1 rfl rfl,_,m.ld 1 rfl rfl,_,m.ld 1 rfl rfl,_,m.ld 0 rfl rfl,_,m.ld 0 rfl rfl,?_⟩
 refine pBound_spec (p:=exP22) (hPF m.1) ⟨by decide,by decide⟩ ⟨by decide,by decide⟩ fun w15 f15=>?_
 rw[show upR exP22 [] 0 1=(27,true) by decide +kernel]
 have m:=m.fr f15
 refine⟨s0,m.ld 1 rfl rfl,s1,m.ld 1 rfl rfl,s2,m.ld 1 rfl rfl,_,m.ld 1 rfl rfl,_,m.ld 1 rfl rfl,?_⟩
 refine pBound_spec (p:=exP22) (hPF m.1) ⟨by decide,by decide⟩ ⟨by decide,by decide⟩ fun w23 f23=>?_
 rw[show upR exP22 [] 1 1=(26,true) by decide +kernel]
 have m:=m.fr f23
 refine⟨_,m.ld 0 rfl rfl,_,m.ld 0 rfl rfl,?_⟩
 intro w28
 have m:Mem w1 w28 _:=m.allocL (cs:=[.int .i64 0,.int .i64 0,.int .i64 0,.slice none 0 0])
 clear_value w28
 refine stN_at m 0 rfl rfl fun w29 m=>?_
 simp only[List.set_cons_zero] at m
 intro w30
 have m:Mem w1 w30 _:=m.allocL (cs:=[.int .i64 0])
 clear_value w30
 intro w31
 have m:Mem w1 w31 _:=m.allocL (cs:=[.int .i64 1,.int .i64 2,.int .i64 3])
 clear_value w31
 refine⟨_,m.ld 2 rfl rfl,_,m.ld 2 rfl rfl,_,m.ld 2 rfl rfl,⟨none,0,0⟩,m.ld 2 rfl rfl,_,m.ld 2 rfl rfl,_,m.ld 2 rfl rfl,_,m.ld 2 rfl rfl,⟨none,0,0⟩,m.ld 2 rfl rfl,_,m.ld 2 rfl rfl,_,m.ld 2 rfl rfl,_,m.ld 2 rfl rfl,⟨none,0,0⟩,m.ld 2 rfl rfl,?_⟩
 intro w44
 have m:Mem w1 w44 _:=m.allocL (cs:=([⟨0,0,0,⟨some ⟨w30.heap.size,0,none⟩,3,3⟩⟩,⟨0,0,1,⟨none,0,0⟩⟩,⟨0,0,1,⟨none,0,0⟩⟩,⟨0,0,1,⟨none,0,0⟩⟩]:List NdC).flatMap encN)
 clear_value w44
 intro w45
 have m:Mem w1 w45 _:=m.allocL (cs:=rsC ⟨none,0,0⟩ 0 0 ⟨none,0,0⟩)
 clear_value w45
 refine stN_at m 0 rfl rfl fun wB m=>?_
 simp only[List.set_cons_zero] at m
 have hpr:Row wB w1.heap.size (prC s0 s1 s2 0 8):=m.row 6 rfl
 have hrr:Row wB w44.heap.size (rsC ⟨some ⟨w29.heap.size,0,none⟩,1,1⟩ 3 3 ⟨some ⟨w31.heap.size,0,none⟩,4,4⟩):=m.row 0 rfl
 have hT:VI wB ⟨some ⟨w29.heap.size,0,none⟩,1,1⟩ [0]:=(Row.ow (fun a=>ie_length _ _ a) (l:=[(0:Int)]) (m.row 3 rfl)).vw
 have hX:VI wB ⟨some ⟨w30.heap.size,0,none⟩,3,3⟩ [1,2,3]:=(Row.ow (fun a=>ie_length _ _ a) (l:=[(1:Int),2,3]) (m.row 2 rfl)).vw
 have hN:NV wB ⟨some ⟨w31.heap.size,0,none⟩,4,4⟩ exN:=by
  refine⟨⟨_,(Row.ow (fun a=>encN_length a) (l:=([⟨0,0,0,⟨some ⟨w30.heap.size,0,none⟩,3,3⟩⟩,⟨0,0,1,⟨none,0,0⟩⟩,⟨0,0,1,⟨none,0,0⟩⟩,⟨0,0,1,⟨none,0,0⟩⟩]:List NdC)) (m.row 1 rfl)).vw,rfl,fun i c n hc hn=>?_⟩,exN_len⟩
  match i,hc,hn with
  | 0,hc,hn=>cases hc; cases hn; exact⟨⟨rfl,rfl,rfl⟩,hX,⟨by decide,by decide⟩,⟨by decide,by decide⟩⟩
  | 1,hc,hn=>cases hc; cases hn; exact⟨⟨rfl,rfl,rfl⟩,Vw.nil,⟨by decide,by decide⟩,⟨by decide,by decide⟩⟩
  | 2,hc,hn=>cases hc; cases hn; exact⟨⟨rfl,rfl,rfl⟩,Vw.nil,⟨by decide,by decide⟩,⟨by decide,by decide⟩⟩
  | 3,hc,hn=>cases hc; cases hn; exact⟨⟨rfl,rfl,rfl⟩,Vw.nil,⟨by decide,by decide⟩,⟨by decide,by decide⟩⟩
 have hPB:=hP.fr m.1
 have hFB:Fr F0 w wB:=f1.t m.1
 have gB:=g.fr hFB
 clear m
 generalize (⟨some ⟨w29.heap.size,0,none⟩,1,1⟩:Sl)=tS at *
 generalize (⟨some ⟨w31.heap.size,0,none⟩,4,4⟩:Sl)=nS at *
 intro w47
 have m:Mem wB w47 []:=Mem.nil.drew
 clear_value w47
 have hSS:∀ {u},Fr F0 wB u->Rs u [(w44.heap.size,rsC tS 3 3 nS)]:=fun h q hq=>by
  rw[List.mem_singleton] at hq
  subst hq
  exact h.row hrr fun h=>h
 have hgo:∀ {u:World} {wa sa:Nat} {t1 n1:Sl} {cs1:List NdC} {t2 n2:Sl} {cs2:List NdC} {wC wD:World},Fr F0 wB u->Row u wa (rsC t1 3 3 n1)->Row u sa (rsC t2 3 3 n2)->wB.heap.size<=wa->wB.heap.size<=sa->wa≠sa->OwR wC u t1 [0] n1 cs1 exN->OwR wD u t2 [0] n2 cs2 exN->(∀ b,(inB t1 b\/inB n1 b\/∃ c∈cs1,inB c.nx b)->b≠sa/\b≠wa)->(∀ b,(inB t2 b\/inB n2 b\/∃ c∈cs2,inB c.nx b)->b≠sa/\b≠wa) ->
   z1h_k0 ⟨w1.heap.size,0,none⟩ 27 true 26 true ⟨w44.heap.size,0,none⟩ ⟨wa,0,none⟩ ⟨sa,0,none⟩ K u:=fun m a b c d e o1 o2 h1 h2=>sanity_k0 gB hPB hpr hrr hT hN m a b c d e o1 o2 h1 h2 fun w' h=>hK w' (hFB.t h)
 refine⟨fun u=>Rs u [(w44.heap.size,rsC tS 3 3 nS)],hSS m.1,tS,fun _ h=>h.ld 0 rfl rfl,_,fun _ h=>h.ld 0 rfl rfl,_,fun _ h=>h.ld 0 rfl rfl,nS,fun _ h=>h.ld 0 rfl rfl,tS,fun _ h=>h.ld 0 rfl rfl,_,fun _ h=>h.ld 0 rfl rfl,_,fun _ h=>h.ld 0 rfl rfl,nS,fun _ h=>h.ld 0 rfl rfl,?_⟩
 refine⟨?_,?_,?_⟩
 ·skip
  refine Copy_spec (hT.fr m.1) (hN.fr m.1) exN_sm fun u1 tA nA csA f1 oA=>⟨hSS (m.1.t f1),?_⟩
  have lA:∀ b,(inB tA b\/inB nA b\/∃ c∈csA,inB c.nx b)->w47.heap.size<=b/\b<u1.heap.size:=fun b hb=>⟨oA.nw b hb,oA.lt b hb⟩
  have z1:w47.heap.size<=u1.heap.size:=f1.1
  have m:=m.fr f1
  refine⟨?_,?_,?_⟩
  ·skip
   refine Copy_spec (hT.fr m.1) (hN.fr m.1) exN_sm fun u2 tB nB csB f2 oB=>⟨hSS (m.1.t f2),?_⟩
   have lB:∀ b,(inB tB b\/inB nB b\/∃ c∈csB,inB c.nx b)->u1.heap.size<=b/\b<u2.heap.size:=fun b hb=>⟨oB.nw b hb,oB.lt b hb⟩
   have z2:u1.heap.size<=u2.heap.size:=f2.1
   have oA:=oA.fr f2
   have m:=m.fr f2
   refine⟨?_,?_⟩
   ·skip
    intro u3
    have m:Mem wB u3 _:=m.allocL (cs:=rsC ⟨none,0,0⟩ 0 0 ⟨none,0,0⟩)
    have z3:u2.heap.size<u3.heap.size:=(m.row 0 rfl).lt
    have oA:OwR _ u3 _ _ _ _ _:=oA.fr Fr.alloc
    have oB:OwR _ u3 _ _ _ _ _:=oB.fr Fr.alloc
    clear_value u3
    refine⟨hSS m.1,?_⟩
    intro u4
    have m:Mem wB u4 _:=m.allocL (cs:=rsC ⟨none,0,0⟩ 0 0 ⟨none,0,0⟩)
    have z4:u3.heap.size<u4.heap.size:=(m.row 0 rfl).lt
    have oA:OwR _ u4 _ _ _ _ _:=oA.fr Fr.alloc
    have oB:OwR _ u4 _ _ _ _ _:=oB.fr Fr.alloc
    clear_value u4
    refine⟨hSS m.1,?_⟩
    refine stN_far m 1 rfl rfl fun v1 m e1=>⟨hSS m.1,?_⟩
    have oA:=oA.far e1 fun b hb=>by have:=lA b hb; omega
    have oB:=oB.far e1 fun b hb=>by have:=lB b hb; omega
    refine stN_far m 0 rfl rfl fun v2 m e2=>?_
    have oA:=oA.far e2 fun b hb=>by have:=lA b hb; omega
    have oB:=oB.far e2 fun b hb=>by have:=lB b hb; omega
    simp only[List.set_cons_zero,List.set_cons_succ] at m
    exact hgo m.1 (m.row 1 rfl) (m.row 0 rfl) (m.2.2.2 _ (List.mem_of_getElem? (i:=1) rfl)) (m.2.2.2 _ (List.mem_of_getElem? (i:=0) rfl)) (by omega) oA oB (fun b hb=>by have:=lA b hb; omega) (fun b hb=>by have:=lB b hb; omega)
   ·skip
    intro u5
    have m:Mem wB u5 _:=m.allocL (cs:=rsC ⟨none,0,0⟩ 0 0 ⟨none,0,0⟩)
    have z5:u2.heap.size<u5.heap.size:=(m.row 0 rfl).lt
    have oA:OwR _ u5 _ _ _ _ _:=oA.fr Fr.alloc
    have oB:OwR _ u5 _ _ _ _ _:=oB.fr Fr.alloc
    clear_value u5
    refine⟨hSS m.1,?_⟩
    intro u6
    have m:Mem wB u6 _:=m.allocL (cs:=rsC ⟨none,0,0⟩ 0 0 ⟨none,0,0⟩)
    have z6:u5.heap.size<u6.heap.size:=(m.row 0 rfl).lt
    have oA:OwR _ u6 _ _ _ _ _:=oA.fr Fr.alloc
    have oB:OwR _ u6 _ _ _ _ _:=oB.fr Fr.alloc
    clear_value u6
    refine⟨hSS m.1,?_⟩
    refine stN_far m 0 rfl rfl fun v1 m e1=>⟨hSS m.1,?_⟩
    have oA:=oA.far e1 fun b hb=>by have:=lA b hb; omega
    have oB:=oB.far e1 fun b hb=>by have:=lB b hb; omega
    refine stN_far m 1 rfl rfl fun v2 m e2=>?_
    have oA:=oA.far e2 fun b hb=>by have:=lA b hb; omega
    have oB:=oB.far e2 fun b hb=>by have:=lB b hb; omega
    simp only[List.set_cons_zero,List.set_cons_succ] at m
    exact hgo m.1 (m.row 0 rfl) (m.row 1 rfl) (m.2.2.2 _ (List.mem_of_getElem? (i:=0) rfl)) (m.2.2.2 _ (List.mem_of_getElem? (i:=1) rfl)) (by omega) oA oB (fun b hb=>by have:=lA b hb; omega) (fun b hb=>by have:=lB b hb; omega)
  ·skip
   intro u7
   have m:Mem wB u7 _:=m.allocL (cs:=rsC ⟨none,0,0⟩ 0 0 ⟨none,0,0⟩)
   have z7:u1.heap.size<u7.heap.size:=(m.row 0 rfl).lt
   have oA:OwR _ u7 _ _ _ _ _:=oA.fr Fr.alloc
   clear_value u7
   refine⟨hSS m.1,?_⟩
   refine⟨?_,?_⟩
   ·skip
    refine Copy_spec (hT.fr m.1) (hN.fr m.1) exN_sm fun u8 tB nB csB f8 oB=>⟨hSS (m.1.t f8),?_⟩
    have lB:∀ b,(inB tB b\/inB nB b\/∃ c∈csB,inB c.nx b)->u7.heap.size<=b/\b<u8.heap.size:=fun b hb=>⟨oB.nw b hb,oB.lt b hb⟩
    have z8:u7.heap.size<=u8.heap.size:=f8.1
    have oA:=oA.fr f8
    have m:=m.fr f8
    intro u9
    have m:Mem wB u9 _:=m.allocL (cs:=rsC ⟨none,0,0⟩ 0 0 ⟨none,0,0⟩)
    have z9:u8.heap.size<u9.heap.size:=(m.row 0 rfl).lt
    have oA:OwR _ u9 _ _ _ _ _:=oA.fr Fr.alloc
    have oB:OwR _ u9 _ _ _ _ _:=oB.fr Fr.alloc
    clear_value u9
    refine⟨hSS m.1,?_⟩
    refine stN_far m 1 rfl rfl fun v1 m e1=>⟨hSS m.1,?_⟩
    have oA:=oA.far e1 fun b hb=>by have:=lA b hb; omega
    have oB:=oB.far e1 fun b hb=>by have:=lB b hb; omega
    refine stN_far m 0 rfl rfl fun v2 m e2=>?_
    have oA:=oA.far e2 fun b hb=>by have:=lA b hb; omega
    have oB:=oB.far e2 fun b hb=>by have:=lB b hb; omega
    simp only[List.set_cons_zero,List.set_cons_succ] at m
    exact hgo m.1 (m.row 1 rfl) (m.row 0 rfl) (m.2.2.2 _ (List.mem_of_getElem? (i:=1) rfl)) (m.2.2.2 _ (List.mem_of_getElem? (i:=0) rfl)) (by omega) oA oB (fun b hb=>by have:=lA b hb; omega) (fun b hb=>by have:=lB b hb; omega)
   ·skip
    intro u10
    have m:Mem wB u10 _:=m.allocL (cs:=rsC ⟨none,0,0⟩ 0 0 ⟨none,0,0⟩)
    have z10:u7.heap.size<u10.heap.size:=(m.row 0 rfl).lt
    have oA:OwR _ u10 _ _ _ _ _:=oA.fr Fr.alloc
    clear_value u10
    refine⟨hSS m.1,?_⟩
    refine Copy_spec (hT.fr m.1) (hN.fr m.1) exN_sm fun u11 tB nB csB f11 oB=>⟨hSS (m.1.t f11),?_⟩
    have lB:∀ b,(inB tB b\/inB nB b\/∃ c∈csB,inB c.nx b)->u10.heap.size<=b/\b<u11.heap.size:=fun b hb=>⟨oB.nw b hb,oB.lt b hb⟩
    have z11:u10.heap.size<=u11.heap.size:=f11.1
    have oA:=oA.fr f11
    have m:=m.fr f11
    refine stN_far m 1 rfl rfl fun v1 m e1=>⟨hSS m.1,?_⟩
    have oA:=oA.far e1 fun b hb=>by have:=lA b hb; omega
    have oB:=oB.far e1 fun b hb=>by have:=lB b hb; omega
    refine stN_far m 0 rfl rfl fun v2 m e2=>?_
    have oA:=oA.far e2 fun b hb=>by have:=lA b hb; omega
    have oB:=oB.far e2 fun b hb=>by have:=lB b hb; omega
    simp only[List.set_cons_zero,List.set_cons_succ] at m
    exact hgo m.1 (m.row 1 rfl) (m.row 0 rfl) (m.2.2.2 _ (List.mem_of_getElem? (i:=1) rfl)) (m.2.2.2 _ (List.mem_of_getElem? (i:=0) rfl)) (by omega) oA oB (fun b hb=>by have:=lA b hb; omega) (fun b hb=>by have:=lB b hb; omega)
  ·skip
   intro u12
   have m:Mem wB u12 _:=m.allocL (cs:=rsC ⟨none,0,0⟩ 0 0 ⟨none,0,0⟩)
   have z12:u1.heap.size<u12.heap.size:=(m.row 0 rfl).lt
   have oA:OwR _ u12 _ _ _ _ _:=oA.fr Fr.alloc
   clear_value u12
   refine⟨hSS m.1,?_⟩
   refine⟨?_,?_⟩
   ·skip
    refine Copy_spec (hT.fr m.1) (hN.fr m.1) exN_sm fun u13 tB nB csB f13 oB=>⟨hSS (m.1.t f13),?_⟩
    have lB:∀ b,(inB tB b\/inB nB b\/∃ c∈csB,inB c.nx b)->u12.heap.size<=b/\b<u13.heap.size:=fun b hb=>⟨oB.nw b hb,oB.lt b hb⟩
    have z13:u12.heap.size<=u13.heap.size:=f13.1
    have oA:=oA.fr f13
    have m:=m.fr f13
    intro u14
    have m:Mem wB u14 _:=m.allocL (cs:=rsC ⟨none,0,0⟩ 0 0 ⟨none,0,0⟩)
    have z14:u13.heap.size<u14.heap.size:=(m.row 0 rfl).lt
    have oA:OwR _ u14 _ _ _ _ _:=oA.fr Fr.alloc
    have oB:OwR _ u14 _ _ _ _ _:=oB.fr Fr.alloc
    clear_value u14
    refine⟨hSS m.1,?_⟩
    refine stN_far m 0 rfl rfl fun v1 m e1=>⟨hSS m.1,?_⟩
    have oA:=oA.far e1 fun b hb=>by have:=lA b hb; omega
    have oB:=oB.far e1 fun b hb=>by have:=lB b hb; omega
    refine stN_far m 1 rfl rfl fun v2 m e2=>?_
    have oA:=oA.far e2 fun b hb=>by have:=lA b hb; omega
    have oB:=oB.far e2 fun b hb=>by have:=lB b hb; omega
    simp only[List.set_cons_zero,List.set_cons_succ] at m
    exact hgo m.1 (m.row 0 rfl) (m.row 1 rfl) (m.2.2.2 _ (List.mem_of_getElem? (i:=0) rfl)) (m.2.2.2 _ (List.mem_of_getElem? (i:=1) rfl)) (by omega) oA oB (fun b hb=>by have:=lA b hb; omega) (fun b hb=>by have:=lB b hb; omega)
   ·skip
    intro u15
    have m:Mem wB u15 _:=m.allocL (cs:=rsC ⟨none,0,0⟩ 0 0 ⟨none,0,0⟩)
    have z15:u12.heap.size<u15.heap.size:=(m.row 0 rfl).lt
    have oA:OwR _ u15 _ _ _ _ _:=oA.fr Fr.alloc
    clear_value u15
    refine⟨hSS m.1,?_⟩
    refine Copy_spec (hT.fr m.1) (hN.fr m.1) exN_sm fun u16 tB nB csB f16 oB=>⟨hSS (m.1.t f16),?_⟩
    have lB:∀ b,(inB tB b\/inB nB b\/∃ c∈csB,inB c.nx b)->u15.heap.size<=b/\b<u16.heap.size:=fun b hb=>⟨oB.nw b hb,oB.lt b hb⟩
    have z16:u15.heap.size<=u16.heap.size:=f16.1
    have oA:=oA.fr f16
    have m:=m.fr f16
    refine stN_far m 0 rfl rfl fun v1 m e1=>⟨hSS m.1,?_⟩
    have oA:=oA.far e1 fun b hb=>by have:=lA b hb; omega
    have oB:=oB.far e1 fun b hb=>by have:=lB b hb; omega
    refine stN_far m 1 rfl rfl fun v2 m e2=>?_
    have oA:=oA.far e2 fun b hb=>by have:=lA b hb; omega
    have oB:=oB.far e2 fun b hb=>by have:=lB b hb; omega
    simp only[List.set_cons_zero,List.set_cons_succ] at m
    exact hgo m.1 (m.row 0 rfl) (m.row 1 rfl) (m.2.2.2 _ (List.mem_of_getElem? (i:=0) rfl)) (m.2.2.2 _ (List.mem_of_getElem? (i:=1) rfl)) (by omega) oA oB (fun b hb=>by have:=lA b hb; omega) (fun b hb=>by have:=lB b hb; omega)
 ·skip
  intro u17
  have m:Mem wB u17 _:=m.allocL (cs:=rsC ⟨none,0,0⟩ 0 0 ⟨none,0,0⟩)
  have z17:w47.heap.size<u17.heap.size:=(m.row 0 rfl).lt
  clear_value u17
  refine⟨hSS m.1,?_⟩
  refine⟨?_,?_⟩
  ·skip
   refine Copy_spec (hT.fr m.1) (hN.fr m.1) exN_sm fun u18 tA nA csA f18 oA=>⟨hSS (m.1.t f18),?_⟩
   have lA:∀ b,(inB tA b\/inB nA b\/∃ c∈csA,inB c.nx b)->u17.heap.size<=b/\b<u18.heap.size:=fun b hb=>⟨oA.nw b hb,oA.lt b hb⟩
   have z18:u17.heap.size<=u18.heap.size:=f18.1
   have m:=m.fr f18
   refine⟨?_,?_⟩
   ·skip
    refine Copy_spec (hT.fr m.1) (hN.fr m.1) exN_sm fun u19 tB nB csB f19 oB=>⟨hSS (m.1.t f19),?_⟩
    have lB:∀ b,(inB tB b\/inB nB b\/∃ c∈csB,inB c.nx b)->u18.heap.size<=b/\b<u19.heap.size:=fun b hb=>⟨oB.nw b hb,oB.lt b hb⟩
    have z19:u18.heap.size<=u19.heap.size:=f19.1
    have oA:=oA.fr f19
    have m:=m.fr f19
    intro u20
    have m:Mem wB u20 _:=m.allocL (cs:=rsC ⟨none,0,0⟩ 0 0 ⟨none,0,0⟩)
    have z20:u19.heap.size<u20.heap.size:=(m.row 0 rfl).lt
    have oA:OwR _ u20 _ _ _ _ _:=oA.fr Fr.alloc
    have oB:OwR _ u20 _ _ _ _ _:=oB.fr Fr.alloc
    clear_value u20
    refine⟨hSS m.1,?_⟩
    refine stN_far m 1 rfl rfl fun v1 m e1=>⟨hSS m.1,?_⟩
    have oA:=oA.far e1 fun b hb=>by have:=lA b hb; omega
    have oB:=oB.far e1 fun b hb=>by have:=lB b hb; omega
    refine stN_far m 0 rfl rfl fun v2 m e2=>?_
    have oA:=oA.far e2 fun b hb=>by have:=lA b hb; omega
    have oB:=oB.far e2 fun b hb=>by have:=lB b hb; omega
    simp only[List.set_cons_zero,List.set_cons_succ] at m
    exact hgo m.1 (m.row 1 rfl) (m.row 0 rfl) (m.2.2.2 _ (List.mem_of_getElem? (i:=1) rfl)) (m.2.2.2 _ (List.mem_of_getElem? (i:=0) rfl)) (by omega) oA oB (fun b hb=>by have:=lA b hb; omega) (fun b hb=>by have:=lB b hb; omega)
   ·skip
    intro u21
    have m:Mem wB u21 _:=m.allocL (cs:=rsC ⟨none,0,0⟩ 0 0 ⟨none,0,0⟩)
    have z21:u18.heap.size<u21.heap.size:=(m.row 0 rfl).lt
    have oA:OwR _ u21 _ _ _ _ _:=oA.fr Fr.alloc
    clear_value u21
    refine⟨hSS m.1,?_⟩
    refine Copy_spec (hT.fr m.1) (hN.fr m.1) exN_sm fun u22 tB nB csB f22 oB=>⟨hSS (m.1.t f22),?_⟩
    have lB:∀ b,(inB tB b\/inB nB b\/∃ c∈csB,inB c.nx b)->u21.heap.size<=b/\b<u22.heap.size:=fun b hb=>⟨oB.nw b hb,oB.lt b hb⟩
    have z22:u21.heap.size<=u22.heap.size:=f22.1
    have oA:=oA.fr f22
    have m:=m.fr f22
    refine stN_far m 1 rfl rfl fun v1 m e1=>⟨hSS m.1,?_⟩
    have oA:=oA.far e1 fun b hb=>by have:=lA b hb; omega
    have oB:=oB.far e1 fun b hb=>by have:=lB b hb; omega
    refine stN_far m 0 rfl rfl fun v2 m e2=>?_
    have oA:=oA.far e2 fun b hb=>by have:=lA b hb; omega
    have oB:=oB.far e2 fun b hb=>by have:=lB b hb; omega
    simp only[List.set_cons_zero,List.set_cons_succ] at m
    exact hgo m.1 (m.row 1 rfl) (m.row 0 rfl) (m.2.2.2 _ (List.mem_of_getElem? (i:=1) rfl)) (m.2.2.2 _ (List.mem_of_getElem? (i:=0) rfl)) (by omega) oA oB (fun b hb=>by have:=lA b hb; omega) (fun b hb=>by have:=lB b hb; omega)
  ·skip
   intro u23
   have m:Mem wB u23 _:=m.allocL (cs:=rsC ⟨none,0,0⟩ 0 0 ⟨none,0,0⟩)
   have z23:u17.heap.size<u23.heap.size:=(m.row 0 rfl).lt
   clear_value u23
   refine⟨hSS m.1,?_⟩
   refine Copy_spec (hT.fr m.1) (hN.fr m.1) exN_sm fun u24 tA nA csA f24 oA=>⟨hSS (m.1.t f24),?_⟩
   have lA:∀ b,(inB tA b\/inB nA b\/∃ c∈csA,inB c.nx b)->u23.heap.size<=b/\b<u24.heap.size:=fun b hb=>⟨oA.nw b hb,oA.lt b hb⟩
   have z24:u23.heap.size<=u24.heap.size:=f24.1
   have m:=m.fr f24
   refine Copy_spec (hT.fr m.1) (hN.fr m.1) exN_sm fun u25 tB nB csB f25 oB=>⟨hSS (m.1.t f25),?_⟩
   have lB:∀ b,(inB tB b\/inB nB b\/∃ c∈csB,inB c.nx b)->u24.heap.size<=b/\b<u25.heap.size:=fun b hb=>⟨oB.nw b hb,oB.lt b hb⟩
   have z25:u24.heap.size<=u25.heap.size:=f25.1
   have oA:=oA.fr f25
   have m:=m.fr f25
   refine stN_far m 1 rfl rfl fun v1 m e1=>⟨hSS m.1,?_⟩
   have oA:=oA.far e1 fun b hb=>by have:=lA b hb; omega
   have oB:=oB.far e1 fun b hb=>by have:=lB b hb; omega
   refine stN_far m 0 rfl rfl fun v2 m e2=>?_
   have oA:=oA.far e2 fun b hb=>by have:=lA b hb; omega
   have oB:=oB.far e2 fun b hb=>by have:=lB b hb; omega
   simp only[List.set_cons_zero,List.set_cons_succ] at m
   exact hgo m.1 (m.row 1 rfl) (m.row 0 rfl) (m.2.2.2 _ (List.mem_of_getElem? (i:=1) rfl)) (m.2.2.2 _ (List.mem_of_getElem? (i:=0) rfl)) (by omega) oA oB (fun b hb=>by have:=lA b hb; omega) (fun b hb=>by have:=lB b hb; omega)
 ·skip
  intro u26
  have m:Mem wB u26 _:=m.allocL (cs:=rsC ⟨none,0,0⟩ 0 0 ⟨none,0,0⟩)
  have z26:w47.heap.size<u26.heap.size:=(m.row 0 rfl).lt
  clear_value u26
  refine⟨hSS m.1,?_⟩
  refine⟨?_,?_⟩
  ·skip
   refine Copy_spec (hT.fr m.1) (hN.fr m.1) exN_sm fun u27 tA nA csA f27 oA=>⟨hSS (m.1.t f27),?_⟩
   have lA:∀ b,(inB tA b\/inB nA b\/∃ c∈csA,inB c.nx b)->u26.heap.size<=b/\b<u27.heap.size:=fun b hb=>⟨oA.nw b hb,oA.lt b hb⟩
   have z27:u26.heap.size<=u27.heap.size:=f27.1
   have m:=m.fr f27
   refine⟨?_,?_⟩
   ·skip
    refine Copy_spec (hT.fr m.1) (hN.fr m.1) exN_sm fun u28 tB nB csB f28 oB=>⟨hSS (m.1.t f28),?_⟩
    have lB:∀ b,(inB tB b\/inB nB b\/∃ c∈csB,inB c.nx b)->u27.heap.size<=b/\b<u28.heap.size:=fun b hb=>⟨oB.nw b hb,oB.lt b hb⟩
    have z28:u27.heap.size<=u28.heap.size:=f28.1
    have oA:=oA.fr f28
    have m:=m.fr f28
    intro u29
    have m:Mem wB u29 _:=m.allocL (cs:=rsC ⟨none,0,0⟩ 0 0 ⟨none,0,0⟩)
    have z29:u28.heap.size<u29.heap.size:=(m.row 0 rfl).lt
    have oA:OwR _ u29 _ _ _ _ _:=oA.fr Fr.alloc
    have oB:OwR _ u29 _ _ _ _ _:=oB.fr Fr.alloc
    clear_value u29
    refine⟨hSS m.1,?_⟩
    refine stN_far m 0 rfl rfl fun v1 m e1=>⟨hSS m.1,?_⟩
    have oA:=oA.far e1 fun b hb=>by have:=lA b hb; omega
    have oB:=oB.far e1 fun b hb=>by have:=lB b hb; omega
    refine stN_far m 1 rfl rfl fun v2 m e2=>?_
    have oA:=oA.far e2 fun b hb=>by have:=lA b hb; omega
    have oB:=oB.far e2 fun b hb=>by have:=lB b hb; omega
    simp only[List.set_cons_zero,List.set_cons_succ] at m
    exact hgo m.1 (m.row 0 rfl) (m.row 1 rfl) (m.2.2.2 _ (List.mem_of_getElem? (i:=0) rfl)) (m.2.2.2 _ (List.mem_of_getElem? (i:=1) rfl)) (by omega) oA oB (fun b hb=>by have:=lA b hb; omega) (fun b hb=>by have:=lB b hb; omega)
   ·skip
    intro u30
    have m:Mem wB u30 _:=m.allocL (cs:=rsC ⟨none,0,0⟩ 0 0 ⟨none,0,0⟩)
    have z30:u27.heap.size<u30.heap.size:=(m.row 0 rfl).lt
    have oA:OwR _ u30 _ _ _ _ _:=oA.fr Fr.alloc
    clear_value u30
    refine⟨hSS m.1,?_⟩
    refine Copy_spec (hT.fr m.1) (hN.fr m.1) exN_sm fun u31 tB nB csB f31 oB=>⟨hSS (m.1.t f31),?_⟩
    have lB:∀ b,(inB tB b\/inB nB b\/∃ c∈csB,inB c.nx b)->u30.heap.size<=b/\b<u31.heap.size:=fun b hb=>⟨oB.nw b hb,oB.lt b hb⟩
    have z31:u30.heap.size<=u31.heap.size:=f31.1
    have oA:=oA.fr f31
    have m:=m.fr f31
    refine stN_far m 0 rfl rfl fun v1 m e1=>⟨hSS m.1,?_⟩
    have oA:=oA.far e1 fun b hb=>by have:=lA b hb; omega
    have oB:=oB.far e1 fun b hb=>by have:=lB b hb; omega
    refine stN_far m 1 rfl rfl fun v2 m e2=>?_
    have oA:=oA.far e2 fun b hb=>by have:=lA b hb; omega
    have oB:=oB.far e2 fun b hb=>by have:=lB b hb; omega
    simp only[List.set_cons_zero,List.set_cons_succ] at m
    exact hgo m.1 (m.row 0 rfl) (m.row 1 rfl) (m.2.2.2 _ (List.mem_of_getElem? (i:=0) rfl)) (m.2.2.2 _ (List.mem_of_getElem? (i:=1) rfl)) (by omega) oA oB (fun b hb=>by have:=lA b hb; omega) (fun b hb=>by have:=lB b hb; omega)
  ·skip
   intro u32
   have m:Mem wB u32 _:=m.allocL (cs:=rsC ⟨none,0,0⟩ 0 0 ⟨none,0,0⟩)
   have z32:u26.heap.size<u32.heap.size:=(m.row 0 rfl).lt
   clear_value u32
   refine⟨hSS m.1,?_⟩
   refine Copy_spec (hT.fr m.1) (hN.fr m.1) exN_sm fun u33 tA nA csA f33 oA=>⟨hSS (m.1.t f33),?_⟩
   have lA:∀ b,(inB tA b\/inB nA b\/∃ c∈csA,inB c.nx b)->u32.heap.size<=b/\b<u33.heap.size:=fun b hb=>⟨oA.nw b hb,oA.lt b hb⟩
   have z33:u32.heap.size<=u33.heap.size:=f33.1
   have m:=m.fr f33
   refine Copy_spec (hT.fr m.1) (hN.fr m.1) exN_sm fun u34 tB nB csB f34 oB=>⟨hSS (m.1.t f34),?_⟩
   have lB:∀ b,(inB tB b\/inB nB b\/∃ c∈csB,inB c.nx b)->u33.heap.size<=b/\b<u34.heap.size:=fun b hb=>⟨oB.nw b hb,oB.lt b hb⟩
   have z34:u33.heap.size<=u34.heap.size:=f34.1
   have oA:=oA.fr f34
   have m:=m.fr f34
   refine stN_far m 0 rfl rfl fun v1 m e1=>⟨hSS m.1,?_⟩
   have oA:=oA.far e1 fun b hb=>by have:=lA b hb; omega
   have oB:=oB.far e1 fun b hb=>by have:=lB b hb; omega
   refine stN_far m 1 rfl rfl fun v2 m e2=>?_
   have oA:=oA.far e2 fun b hb=>by have:=lA b hb; omega
   have oB:=oB.far e2 fun b hb=>by have:=lB b hb; omega
   simp only[List.set_cons_zero,List.set_cons_succ] at m
   exact hgo m.1 (m.row 0 rfl) (m.row 1 rfl) (m.2.2.2 _ (List.mem_of_getElem? (i:=0) rfl)) (m.2.2.2 _ (List.mem_of_getElem? (i:=1) rfl)) (by omega) oA oB (fun b hb=>by have:=lA b hb; omega) (fun b hb=>by have:=lB b hb; omega)
end
end Go.Proofs.YtfpobpjandjhjaaGreatDoor


namespace Go.Proofs.YtfpobpjandjhjaaGreatDoor
open Go Pw
structure LieV (w:World)(a:Sl)(T:List Int)(u v:Int)(b:Sl)(N:List Nd):Prop where
 tk:VI w a T
 tl:T.length*8<=140737488351232
 nds:NV w b N
 ti:∀ n∈T,I64 n
 ui:I64 u
 vi:I64 v
 ni:∀ x∈N,I64 x.lot/\(∀ n∈x.next,I64 n)/\x.next.length*8<=140737488351232
theorem LieV.fr {w w':World}{a b:Sl}{T:List Int}{u v:Int}{N:List Nd}(h:LieV w a T u v b N)(hf:Fr F0 w w'):LieV w' a T u v b N:={ h with tk:=h.tk.fr hf,nds:=h.nds.fr hf }
section
variable {w w' w0:World}{s s0 s1 s2 s5 a b:Sl}{p:Pr}{l T:List Int}{x1 x2:Int}{N:List Nd}
theorem NV.ldV {i:Int}{K:Addr->Prop}{w:World}(h:NV w0 s N)(hf:Fr F0 w0 w)(i':Nat)(hi:i=(i':Int))(h1:i'<N.length)
  (hK:∀ (ad:Addr) (c:NdC),NdV w0 c N[i']->(w.cell? (ad.add (i.toNat*4))=some (.int .i64 c.lot)/\w.cell? ((ad.add (i.toNat*4)).add 1)=some (.int .i64 c.num)/\w.cell? ((ad.add (i.toNat*4)).add 2)=some (.int .i64 c.den)/\w.cell? ((ad.add (i.toNat*4)).add 3)=some (.slice c.nx.p c.nx.l c.nx.c))->K ad) :
  nz s.p fun a=>(0<=i/\i<(s.l:Nat))/\K a:=by
 subst hi
 have hl:=h.len
 obtain⟨⟨cs,hv,hcl,hn⟩,_⟩:=h
 have h2:i'<cs.length:=by omega
 obtain⟨ad,hp,hc⟩:=(hv.fr hf).at (fun a=>encN_length a) (List.getElem?_eq_getElem h2) (by decide)
 rw[hp]
 exact⟨⟨by omega,by omega⟩,hK _ cs[i'] (hn i' _ _ (List.getElem?_eq_getElem h2) (List.getElem?_eq_getElem h1)) ⟨hc 0 _ rfl,hc 1 _ rfl,hc 2 _ rfl,hc 3 _ rfl⟩⟩
theorem result_spec {K:Sl->Int->Int->Sl->World->Prop}(hx:LieV w a T x1 x2 b N)(hK:∀ w' ns,Fr F0 w w'->NV w' ns (N.take 20)->K a x1 x2 ns w'):z0g_sh a x1 x2 b K w:=by
 have hN:=hx.nds
 have en:=hN.len
 have hNl:=hN.lt
 refine⟨?_⟩
 unfold z0g_sd
 intro w1
 have m:Mem w w1 _:=Mem.nil.allocL (cs:=rsC a x1 x2 b)
 clear_value w1
 intro w2
 have m:Mem w w2 [(w1.heap.size,rsC ⟨none,0,0⟩ 0 0 ⟨none,0,0⟩),(w.heap.size,rsC a x1 x2 b)]:=m.allocL (cs:=rsC ⟨none,0,0⟩ 0 0 ⟨none,0,0⟩)
 clear_value w2
 refine⟨a,m.ld 1 rfl rfl,_,m.ld 1 rfl rfl,_,m.ld 1 rfl rfl,?_⟩
 refine stN_new rfl m fun w7 m=>?_
 have m:Mem w w7 [(w2.heap.size,rsC a x1 x2 ⟨none,0,0⟩),(w1.heap.size,rsC ⟨none,0,0⟩ 0 0 ⟨none,0,0⟩),(w.heap.size,rsC a x1 x2 b)]:=m
 have h:Sp w w7 _ _ _ 4 encN ⟨none,0,0⟩ []:=Sp.start m
 refine⟨⟨fun k u=>∃ (k':Nat) (s:Sl) (cs:List NdC),k=k'/\k'<=N.length/\k'<=20/\cs.length=k'/\Sp w u [(w2.heap.size,rsC a x1 x2 s),(w1.heap.size,rsC ⟨none,0,0⟩ 0 0 ⟨none,0,0⟩),(w.heap.size,rsC a x1 x2 b)] (fun _=>False) (fun _=>True) 4 encN s cs /\
   (∀ (i:Nat) c n,cs[i]?=some c->N[i]?=some n->NdV w c n),fun k _=>N.length-k.toNat,⟨0,⟨none,0,0⟩,[],rfl,by omega,by omega,rfl,h,fun i c n hc=>by simp at hc⟩,?_⟩⟩
 clear h m
 rintro k u ⟨k,s,cs,rfl,hk,hk20,hcl,h,hc⟩
 have hend:(k=N.length\/k=20)->z0g_k1 ⟨w1.heap.size,0,none⟩ ⟨w2.heap.size,0,none⟩ K u:=fun he=>by
  refine⟨?_⟩
  unfold z0g_k1d
  refine⟨a,h.ld 0 rfl rfl,_,h.ld 0 rfl rfl,_,h.ld 0 rfl rfl,s,h.ld 0 rfl rfl,stN_sp h 1 rfl rfl fun w30 h=>?_⟩
  simp only[List.set_cons_zero,List.set_cons_succ] at h
  refine⟨a,h.ld 1 rfl rfl,_,h.ld 1 rfl rfl,_,h.ld 1 rfl rfl,s,h.ld 1 rfl rfl,hK w30 s h.m.1 ⟨⟨cs,h.ow.vw,by simp; omega,fun i c n hci hni=>?_⟩,by simp; omega⟩⟩
  have hni:N[i]?=some n:=by
   rw[List.getElem?_take] at hni
   split at hni
   ·exact hni
   ·cases hni
  have:=hc i c n hci hni
  exact⟨this.1,this.2.1.fr h.m.1,this.2.2⟩
 unfold z0g_b0
 refine⟨b,h.ld 2 rfl rfl,cnd_prop.2 ⟨fun hlt=>cnd_prop.2 ⟨fun hlt2=>?_,fun _=>hend (by omega)⟩,fun _=>hend (by omega)⟩⟩
 have hkN:k<N.length:=by omega
 refine⟨b,h.ld 2 rfl rfl,hN.ldV h.m.1 k rfl hkN fun ad c hcv hcc=>?_⟩
 obtain⟨c0,c1,c2,c3⟩:=hcc
 refine⟨_,c0,_,c1,_,c2,c.nx,c3,?_⟩
 intro w15
 have h:Sp w w15 _ _ _ _ _ _ _:=h.allocL (vs:=[.int .i64 0,.int .i64 0,.int .i64 0,.slice none 0 0])
 clear_value w15
 refine stN_sp h 0 rfl rfl fun w16 h=>?_
 simp only[List.set_cons_zero] at h
 refine⟨s,h.ld 1 rfl rfl,_,h.ld 0 rfl rfl,⟨by decide,by decide⟩,_,h.ld 0 (i:=1) rfl rfl,⟨by decide,by decide⟩,_,h.ld 0 (i:=2) rfl rfl,c.nx,h.ld 0 rfl rfl,?_⟩
 intro w22
 refine h.push (a:=c) rfl rfl encN_ok rfl (by omega) (by omega) fun s23 w24 h=>?_
 refine⟨h.wr 1 rfl rfl,?_⟩
 intro w25
 have h:=h.set (i:=3) (v:=.slice s23.p s23.l s23.c) 1 rfl
 have h:Sp w w25 _ _ _ _ _ _ _:=h
 simp only[List.set_cons_zero,List.set_cons_succ] at h
 clear_value w25
 have h:Sp w w25 [(w2.heap.size,rsC a x1 x2 s23),(w1.heap.size,rsC ⟨none,0,0⟩ 0 0 ⟨none,0,0⟩),(w.heap.size,rsC a x1 x2 b)] _ _ 4 encN s23 _:=h.dr 1 rfl
 refine⟨inR64 (by omega) (by omega),⟨⟨rfl,rfl,rfl,trivial⟩,k+1,s23,cs++[c],by omega,by omega,by omega,by simp[hcl],h,fun i c' n hci hni=>?_⟩,by dsimp only; omega⟩
 rcases Nat.lt_or_ge i cs.length with hi | hi
 ·rw[List.getElem?_append_left hi] at hci
  exact hc i c' n hci hni
 ·rw[List.getElem?_append_right hi] at hci
  have:i=k:=by
   have:=(List.getElem?_eq_some_iff.1 hci).1
   simp at this
   omega
  subst this
  rw[hcl,Nat.sub_self] at hci
  simp at hci
  subst hci
  rw[List.getElem?_eq_getElem hkN] at hni
  cases hni
  exact hcv
end
end Go.Proofs.YtfpobpjandjhjaaGreatDoor
namespace Pw
open Go Go.ChangeShapes Go.WideShapes Go.ChangeAt Go.RowKit
section
variable {H:Type}{enc:TypeId × Value->H}{P:Program}{W:World}{base:Nat}{spare:Nat->Bool}{held:Bool}
theorem trod_struct3' {t:TypeId}{f0 f1 f2:Field}{fuel:Nat}{cs:List Value}{x:DataW H × List MemPlace}(ht:P.underlying t=some (.struct #[f0,f1,f2]))(h:DataW.trod enc P W base spare held fuel t cs=some x) :
  ∃ y0 y1 y2 n,x.1=.agg [y0.1,y1.1,y2.1]/\cs.length=P.cellsOf t/\DataW.trod enc P W base spare held n f0.type ((cs.drop f0.offset).take (P.cellsOf f0.type))=some y0 /\
   DataW.trod enc P W base spare held n f1.type ((cs.drop f1.offset).take (P.cellsOf f1.type))=some y1/\DataW.trod enc P W base spare held n f2.type ((cs.drop f2.offset).take (P.cellsOf f2.type))=some y2:=by
 obtain⟨xs,n,_,rfl,hl,hlen,hf⟩:=DataW.trod_struct ht h
 match xs,hlen with
 | [y0,y1,y2],_=>exact⟨y0,y1,y2,n,by simp,hl,by simpa using hf 0 f0 rfl,by simpa using hf 1 f1 rfl,by simpa using hf 2 f2 rfl⟩
theorem trod_struct4' {t:TypeId}{f0 f1 f2 f3:Field}{fuel:Nat}{cs:List Value}{x:DataW H × List MemPlace}(ht:P.underlying t=some (.struct #[f0,f1,f2,f3]))(h:DataW.trod enc P W base spare held fuel t cs=some x) :
  ∃ y0 y1 y2 y3 n,x.1=.agg [y0.1,y1.1,y2.1,y3.1]/\cs.length=P.cellsOf t/\DataW.trod enc P W base spare held n f0.type ((cs.drop f0.offset).take (P.cellsOf f0.type))=some y0 /\
   DataW.trod enc P W base spare held n f1.type ((cs.drop f1.offset).take (P.cellsOf f1.type))=some y1/\DataW.trod enc P W base spare held n f2.type ((cs.drop f2.offset).take (P.cellsOf f2.type))=some y2 /\
   DataW.trod enc P W base spare held n f3.type ((cs.drop f3.offset).take (P.cellsOf f3.type))=some y3:=by
 obtain⟨xs,n,_,rfl,hl,hlen,hf⟩:=DataW.trod_struct ht h
 match xs,hlen with
 | [y0,y1,y2,y3],_=>exact⟨y0,y1,y2,y3,n,by simp,hl,by simpa using hf 0 f0 rfl,by simpa using hf 1 f1 rfl,by simpa using hf 2 f2 rfl,by simpa using hf 3 f3 rfl⟩
end
end Pw
namespace Go.Proofs.YtfpobpjandjhjaaGreatDoor
open Go Pw Go.ChangeShapes Go.WideShapes Go.ChangeAt Go.RowKit
section
variable {H:Type}{enc:TypeId × Value->H}{P:Program}{W:World}
theorem i64_of {n:Int}(h:(Lit.int .i64 n).wf=true):I64 n:=wf_i64 h
def NdF (W:World)(R:Nat)(c:NdC)(n:Nd):Prop:=NdV W c n/\I64 n.lot/\(∀ x∈n.next,I64 x)/\n.next.length*8<=R
theorem open_knot {kn g e:TypeId}{g0 g1 g2:Field}{fuel R:Nat}{cs:List Value}{y:DataW H × List MemPlace}(hk:P.underlying kn=some (.struct #[g0,g1,g2]))(k0:P.underlying g0.type=some (.int .i64))(k1:P.underlying g1.type=some (.array 2 g))(kg:P.underlying g=some (.int .i64))
  (k2:P.underlying g2.type=some (.slice e)) (ke:P.underlying e=some (.int .i64)) (o:g0.offset=0/\g1.offset=1/\g2.offset=3) (c:P.cellsOf kn=4/\P.cellsOf g0.type=1/\P.cellsOf g1.type=2/\P.cellsOf g=1/\P.cellsOf g2.type=1/\P.cellsOf e=1) (hb:P.bytesOf e=8)
  (h:DataW.trod enc P W 0 (fun _=>true) true fuel kn cs=some y) (hw:∀ n∈y.1.weights P kn,n<=R):∃ q:NdC × Nd,cs=encN q.1/\NdF W R q.1 q.2:=by
 obtain⟨o0,o1,o2⟩:=o
 obtain⟨ck,c0,c1,cg,c2,ce⟩:=c
 obtain⟨y0,y1,y2,n,hy,hl,h0,h1,h2⟩:=trod_struct3' hk h
 rw[ck] at hl
 obtain⟨v0,v1,v2,v3,rfl⟩:∃ a b c d,cs=[a,b,c,d]:=by
  match cs,hl with
  | [a,b,c,d],_=>exact⟨a,b,c,d,rfl⟩
 rw[o0,c0] at h0
 rw[o1,c1] at h1
 rw[o2,c2] at h2
 obtain⟨a,ha,_,wa⟩:=DataW.trod_int k0 h0
 obtain⟨xs,m,_,_,_,hx,hat⟩:=DataW.trod_array k1 h1
 have g0':=hat 0 (by omega)
 have g1':=hat 1 (by omega)
 rw[cg,List.getElem?_eq_getElem (by omega)] at g0' g1'
 obtain⟨b,hb0,_,wb⟩:=DataW.trod_int kg g0'
 obtain⟨d,hd0,_,wd⟩:=DataW.trod_int kg g1'
 obtain⟨q,l,hq,hv,hwf,_,hlen⟩:=cell_viR k2 ke ce h2
 simp at ha hb0 hd0 hq
 subst ha hb0 hd0 hq
 have hw2:∀ n∈y2.1.weights P g2.type,n<=R:=fun n hn=>hw n (by
  rw[hy]
  simp only[DataW.weights,hk,List.map_cons,List.map_nil,DataW.weightsEach,List.mem_append]
  exact .inr (.inr (.inl hn)))
 exact⟨⟨⟨a,b,d,q⟩,⟨a,b,d,l⟩⟩,rfl,⟨⟨rfl,rfl,rfl⟩,hv,i64_of wb,i64_of wd⟩,i64_of wa,fun x hx=>i64_of (hwf x hx),hlen R 8 hb hw2⟩
theorem arg_lie {r:Reach}{b0:Nat}{t kn g e e':TypeId}{f0 f1 f2 f3 g0 g1 g2:Field}{v:Value}{d:DataW H}{ps:List MemPlace}(ht:P.underlying t=some (.struct #[f0,f1,f2,f3]))(h0:P.underlying f0.type=some (.slice e))(he:P.underlying e=some (.int .i64))
  (h1:P.underlying f1.type=some (.int .i64)) (h2:P.underlying f2.type=some (.int .i64)) (h3:P.underlying f3.type=some (.slice kn)) (hk:P.underlying kn=some (.struct #[g0,g1,g2])) (k0:P.underlying g0.type=some (.int .i64)) (k1:P.underlying g1.type=some (.array 2 g)) (kg:P.underlying g=some (.int .i64))
  (k2:P.underlying g2.type=some (.slice e')) (ke:P.underlying e'=some (.int .i64)) (o:f0.offset=0/\f1.offset=1/\f2.offset=2/\f3.offset=3) (o':g0.offset=0/\g1.offset=1/\g2.offset=3)
  (c:P.cellsOf t=4/\P.cellsOf f0.type=1/\P.cellsOf f1.type=1/\P.cellsOf f2.type=1/\P.cellsOf f3.type=1/\P.cellsOf e=1) (c':P.cellsOf kn=4/\P.cellsOf g0.type=1/\P.cellsOf g1.type=2/\P.cellsOf g=1/\P.cellsOf g2.type=1/\P.cellsOf e'=1)
  (hb:P.bytesOf e=8) (hb':P.bytesOf e'=8) (hbk:P.bytesOf kn=48) (hval:Value.okWide P W r b0 t v) (h:DataW.Trod enc P W 0 (fun _=>true) true t v d ps) (hw:∀ n∈d.weights P t,n<=reachBytes) :
  ∃ (a b:Sl) (T:List Int) (x1 x2:Int) (N:List Nd),v=.agg #[.slice a.p a.l a.c,.int .i64 x1,.int .i64 x2,.slice b.p b.l b.c]/\LieV W a T x1 x2 b N:=by
 obtain⟨o0,o1,o2,o3⟩:=o
 obtain⟨ct,c0,c1,c2,c3,ce⟩:=c
 have ck:=c'.1
 unfold Value.okWide at hval
 rw[ht] at hval
 obtain⟨cs,rfl,hsz,_⟩:=hval
 obtain⟨fuel,hf⟩:=h
 obtain⟨y0,y1,y2,y3,n,hy,_,q0,q1,q2,q3⟩:=trod_struct4' ht hf
 rw[ct] at hsz
 obtain⟨v0,v1,v2,v3,rfl⟩:∃ a b c d,cs=#[a,b,c,d]:=by
  rcases cs with⟨l⟩
  match l,hsz with
  | [a,b,c,d],_=>exact⟨a,b,c,d,rfl⟩
 rw[o0,c0] at q0
 rw[o1,c1] at q1
 rw[o2,c2] at q2
 rw[o3,c3] at q3
 simp only at hy
 obtain⟨a,T,ha,hTv,hTw,_,hTl⟩:=cell_viR h0 he ce q0
 obtain⟨x1,e1,_,w1⟩:=DataW.trod_int h1 q1
 obtain⟨x2,e2,_,w2⟩:=DataW.trod_int h2 q2
 simp[Value.cells] at ha e1 e2
 subst ha e1 e2
 have hwa:∀ n,n∈y0.1.weights P f0.type\/n∈y3.1.weights P f3.type->n<=reachBytes:=fun n hn=>hw n (by
  rw[hy]
  simp only[DataW.weights,ht,List.map_cons,List.map_nil,DataW.weightsEach,List.mem_append]
  rcases hn with hn | hn
  ·exact .inl hn
  ·exact .inr (.inr (.inr (.inl hn))))
 have hT8:=hTl reachBytes 8 hb fun n hn=>hwa n (.inl hn)
 rcases Go.Deep.open_slice h3 q3 with⟨hcs,_⟩ | ⟨a',len,cap,m,n',D,Pl,hcs,_,hle,_,hm,hx,hel⟩
 ·simp[Value.cells] at hcs
  subst hcs
  exact⟨a,⟨none,0,0⟩,T,x1,x2,[],rfl,hTv,hT8,⟨⟨[],Vw.nil,rfl,fun i c n hc=>by simp at hc⟩,by simp⟩,fun x hx=>i64_of (hTw x hx),i64_of w1,i64_of w2,fun x hx=>by cases hx⟩
 ·simp[Value.cells] at hcs
  subst hcs
  simp only[if_true] at hm
  subst hm
  rw[ck] at hel
  have hxw:y3.1=.slice ((List.range len).map D) ((List.range (m-len)).map fun j=>D (len+j)):=by rw[hx]
  have hlenw:((List.range len).map D).length*48+((List.range (m-len)).map fun j=>D (len+j)).length*48<=reachBytes:=hwa _ (.inr (by
   rw[hxw]
   simp only[DataW.weights,h3,hbk]
   rw[← Nat.add_mul]
   exact List.mem_cons_self ..))
  simp only[List.length_map,List.length_range] at hlenw
  have hDw:∀ i,i<len->∀ n∈(D i).weights P kn,n<=reachBytes:=fun i hi n hn=>hwa n (.inr (by
   rw[hxw]
   simp only[DataW.weights,h3]
   refine List.mem_cons_of_mem _ (List.mem_append_left _ ?_)
   have hmem:D i∈(List.range len).map D:=List.mem_map_of_mem (List.mem_range.2 hi)
   revert hmem
   generalize (List.range len).map D=L
   intro hmem
   induction L with
   | nil=>cases hmem
   | cons z L ih =>
    simp only[DataW.weightsAll,List.mem_append]
    rcases List.mem_cons.1 hmem with rfl | hmem
    ·exact .inl hn
    ·exact .inr (ih hmem)))
  have key:∀ i,i<len->∃ q:NdC × Nd,NdF W reachBytes q.1 q.2/\∀ j,j<4->W.cell? ((a'.add (i*4)).add j)=(encN q.1)[j]?:=fun i hi=>by
   obtain⟨cs',g1',g2'⟩:=hel i (by omega)
   obtain⟨q,rfl,hq⟩:=open_knot hk k0 k1 kg k2 ke o' c' hb' g2' (hDw i hi)
   exact⟨q,hq,(World.cells?_some g1').2.2⟩
  let qs:=(List.range len).pmap (fun i (hi:i<len)=>Classical.choose (key i hi)) (fun i hi=>List.mem_range.1 hi)
  have hql:qs.length=len:=by simp[qs]
  have hq:∀ i (hi:i<qs.length),NdF W reachBytes qs[i].1 qs[i].2/\∀ j,j<4->W.cell? ((a'.add (i*4)).add j)=(encN qs[i].1)[j]?:=fun i hi=>by
   have hi':i<len:=by omega
   have e:qs[i]=Classical.choose (key i hi'):=by simp[qs]
   rw[e]
   exact Classical.choose_spec (key i hi')
  clear_value qs
  have hreach:reachBytes=140737488351232:=rfl
  have hNV:NV W ⟨some a',len,m⟩ (qs.map (·.2)):=by
   refine⟨⟨qs.map (·.1),⟨by simp[hql],hle,?_⟩,by simp,fun i c n hc hn=>?_⟩,by simp; omega⟩
   ·refine⟨by rw[fm_length (fun a=>encN_length a)]; simp[hql],fun i hi=>?_⟩
    rw[fm_length (fun a=>encN_length a)] at hi
    simp at hi
    have hi4:i / 4<qs.length:=by omega
    have h2:=(hq (i / 4) hi4).2 (i % 4) (Nat.mod_lt _ (by decide))
    have h3:=fm_at (fun a=>encN_length a) (qs.map (·.1)) (i / 4) (i % 4) qs[i / 4].1 (by simp[hi4]) (Nat.mod_lt _ (by decide))
    rw[add_add] at h2
    rw[show i / 4*4+i % 4=i by omega] at h2 h3
    rw[h2,← h3]
    exact List.getElem?_eq_getElem _
   ·rw[List.getElem?_map] at hc hn
    obtain⟨z,hz,rfl⟩:=Option.map_eq_some_iff.1 hc
    rw[hz] at hn
    cases hn
    obtain⟨hi,rfl⟩:=List.getElem?_eq_some_iff.1 hz
    exact(hq i hi).1.1
  refine⟨a,⟨some a',len,m⟩,T,x1,x2,qs.map (·.2),rfl,hTv,hT8,hNV,fun x hx=>i64_of (hTw x hx),i64_of w1,i64_of w2,fun x hx=>?_⟩
  obtain⟨z,hz,rfl⟩:=List.mem_map.1 hx
  obtain⟨i,hi,rfl⟩:=List.mem_iff_getElem.1 hz
  exact⟨(hq i hi).1.2.1,(hq i hi).1.2.2.1,(hq i hi).1.2.2.2⟩
end
end Go.Proofs.YtfpobpjandjhjaaGreatDoor
namespace Pw
open Go
def szL:List (List UInt8)->Nat
 | []=>0
 | l :: ls=>l.length+1+szL ls
theorem splitC_sz {c:UInt8}:∀ (k:Nat) (s:List UInt8),s.length<=k->szL (splitC c s)=s.length+1
 | k,s,hk=>by
  by_cases hc:c∈s
  ·obtain⟨a,b,rfl,ha⟩:=List.eq_append_cons_of_mem hc
   simp only[List.length_append,List.length_cons] at hk ⊢
   cases k with
   | zero=>omega
   | succ k =>
    rw[splitC_hit ha]
    have:=splitC_sz (c:=c) k b (by omega)
    simp only[szL,this]
    omega
  ·rw[splitC_miss hc]
   simp[szL]
theorem splitC_sz' (c:UInt8)(s:List UInt8):szL (splitC c s)=s.length+1:=splitC_sz s.length s (Nat.le_refl _)
theorem szL_len:∀ ls:List (List UInt8),ls.length<=szL ls
 | []=>Nat.le_refl _
 | l :: ls=>by
  have:=szL_len ls
  simp only[List.length_cons,szL]
  omega
theorem szL_mem:∀ {ls:List (List UInt8)} {l:List UInt8},l∈ls->l.length+1<=szL ls
 | a :: ls,l,h=>by
  simp only[szL]
  rcases List.mem_cons.1 h with rfl | h
  ·omega
  ·have:=szL_mem h
   omega
theorem splitC_cons (c:UInt8)(s:List UInt8):∃ a l,splitC c s=a :: l:=by
 cases h:splitC c s with
 | nil =>
  have:=splitC_sz' c s
  rw[h] at this
  simp[szL] at this
 | cons a l=>exact⟨a,l,rfl⟩
theorem trim_len (s p:List UInt8):(Lib.trimSuffix s p).length<=s.length:=by
 unfold Lib.trimSuffix
 split
 ·simp only[List.length_take]; omega
 ·exact Nat.le_refl _
theorem readN_drop {ws:List (List UInt8)}{l:List Int}{i:Nat}(hi:i<ws.length)(h:readN ws=(readN (ws.drop i)).map (l++·)) :
  (∀ n,Lib.atoiAll ws[i]=.ok n->readN ws=(readN (ws.drop (i+1))).map ((l++[n])++·))/\((∀ n,Lib.atoiAll ws[i]≠.ok n)->readN ws=none):=by
 rw[List.drop_eq_getElem_cons hi] at h
 refine⟨fun n hn=>?_,fun hn=>?_⟩
 ·simp only[readN,hn] at h
  rw[h,Option.map_map]
  congr 1
  funext x
  simp
 ·rw[h]
  simp only[readN]
  rfl
end Pw
namespace Go.Proofs.YtfpobpjandjhjaaGreatDoor
open Go Pw
section
variable {w w' w0:World}
theorem TrimSuffix_spec {s:List UInt8}{K:ByteArray->World->Prop}(hs:s.length<2^62)(hK:K (ofL (Lib.trimSuffix s [10])) w):z29_sh (ofL s) (str [10]) K w:=by
 have so:(ofL s).size=s.length:=by rw[← bl_length,bl_ofL]
 have s10:(str [10]).size=1:=by decide
 have e10:bl (str [10])=[10]:=by rw[bl_str]; rfl
 refine⟨?_⟩
 unfold z29_sd
 refine⟨?_⟩
 unfold z0q_sd
 have key:∀ {K':Bool->World->Prop},K' (Lib.hasSuffix s [10]) w->z0y_sh (ofL s) (str [10]) K' w:=fun {K'} hk=>by
  refine⟨?_⟩
  unfold z0y_sd
  rw[so,s10]
  refine cnd_prop.2 ⟨fun hge=>⟨inR64 (by omega) (by omega),⟨by omega,by omega⟩,?_⟩,fun hlt=>?_⟩
  ·have e:Lib.hasSuffix s [10]=decide ((ofL s).extract ((s.length:Int)-((1:Nat):Int)).toNat s.length=str [10]):=by
    unfold Lib.hasSuffix
    rw[Bool.eq_iff_iff,decide_eq_true_eq,List.isSuffixOf_iff_suffix]
    have e1:((s.length:Int)-((1:Nat):Int)).toNat=s.length-1:=by omega
    rw[e1]
    constructor
    ·rintro⟨t,rfl⟩
     refine bl_inj ?_
     rw[bl_extract,bl_ofL,e10,List.take_of_length_le (Nat.le_refl _)]
     simp
    ·intro h
     have h2:=congrArg bl h
     rw[bl_extract,bl_ofL,e10,List.take_of_length_le (Nat.le_refl _)] at h2
     exact⟨s.take (s.length-1),by rw[← h2,List.take_append_drop]⟩
   rw[e] at hk
   exact hk
  ·have:s=[]:=List.eq_nil_of_length_eq_zero (by omega)
   subst this
   exact hk
 refine key ?_
 have hk:=hK
 unfold Lib.trimSuffix at hk
 cases hh:Lib.hasSuffix s [10] with
 | false =>
  rw[hh] at hk
  exact hk
 | true =>
  rw[hh,if_pos rfl] at hk
  have hl:1<=s.length:=by
   unfold Lib.hasSuffix at hh
   obtain⟨t,rfl⟩:=List.isSuffixOf_iff_suffix.1 hh
   simp
  rw[so,s10]
  refine⟨inR64 (by omega) (by omega),⟨by omega,by omega,by omega⟩,?_⟩
  have e:(ofL s).extract 0 ((s.length:Int)-((1:Nat):Int)).toNat=ofL (s.take (s.length-[(10:UInt8)].length)):=by
   refine bl_inj ?_
   rw[bl_extract,bl_ofL,bl_ofL,show((s.length:Int)-((1:Nat):Int)).toNat=s.length-1 by omega]
   rfl
  rw[e]
  exact hk
theorem numbers_spec {s:Sl}{ws:List (List UInt8)}{K:Sl->Bool->World->Prop}(hv:Vw 1 encS w s (ws.map ofL))(hl:ws.length<2^43)(hz:∀ x∈ws,x.length<2^40)(g:Gl w)
  (hY:∀ l w' r,readN ws=some l->Mk w 1 (ie .i64 (id:Int->Int)) w' r l->K r true w') (hN:∀ w',readN ws=none->Fr F0 w w'->K ⟨none,0,0⟩ false w'):z3q_sh s K w:=by
 have es:=hv.len
 rw[List.length_map] at es
 refine⟨?_⟩
 unfold z3q_sd
 refine⟨⟨fun r k u=>∃ (k':Nat) (l:List Int),k=k'/\k'<=ws.length/\l.length=k'/\readN ws=(readN (ws.drop k')).map (l++·)/\Mk w 1 (ie .i64 (id:Int->Int)) u r l,fun _ k _=>ws.length-k.toNat,⟨0,[],rfl,by omega,rfl,by simp,Mk.nil Fr.refl⟩,?_⟩⟩
 rintro r k u ⟨k,l,rfl,hk,hlen,hr,hm⟩
 unfold z3q_b0
 refine cnd_prop.2 ⟨fun hlt=>?_,fun hge=>?_⟩
 ·have hi:k<ws.length:=by omega
  obtain⟨r1,r2⟩:=readN_drop hi hr
  have hzi:=hz _ (List.getElem_mem hi)
  refine encS_ld (hv.fr hm.fr0) k rfl (by simpa using hi) ?_
  rw[List.getElem_map]
  refine Atoi_spec (by rw[← bl_length,bl_ofL]; omega) (g.fr hm.fr0) (fun v w3 ha hf=>?_) fun v t p w3 _ ha hf=>?_
  ·rw[bl_ofL] at ha
   rw[nif_nil]
   refine cnd_iff.2 ⟨fun h=>(by cases h),fun _=>?_⟩
   intro w7
   refine(hm.fr hf).push (a:=v) rfl rfl (ie_ok _ _) rfl (by omega) (by omega) fun s8 w9 h _=>⟨inR64 (by omega) (by omega),⟨⟨rfl,rfl,trivial⟩,k+1,l++[v],by omega,by omega,by simp[hlen],r1 v ha,h⟩,by dsimp only; omega⟩
  ·rw[bl_ofL] at ha
   rw[nif_if]
   refine cnd_iff.2 ⟨fun _=>hN w3 (r2 ha) (hm.fr0.t hf),fun h=>(by cases h)⟩
 ·have:k=ws.length:=by omega
  subst this
  rw[List.drop_length] at hr
  exact hY l u r (by rw[hr]; simp[readN]) hm
end
end Go.Proofs.YtfpobpjandjhjaaGreatDoor
namespace Pw
open Go
theorem Vw.cel {α:Type}{k:IntKind}{f:α->Int}{w:World}{s:Sl}{l:List α}{ad:Addr}{a:α}(h:Vw 1 (ie k f) w s l)(hp:s.p=some ad)(i:Nat)(hi:l[i]?=some a):w.cell? (ad.add (i*1))=some (.int k (f a)):=by
 obtain⟨ad',hp',hc⟩:=h.at (fun a=>ie_length k f a) hi (by decide)
 rw[hp] at hp'
 cases hp'
 exact hc 0 _ rfl
end Pw
namespace Go.Proofs.YtfpobpjandjhjaaGreatDoor
open Go Pw
section
variable {w w' w0:World}
abbrev IN:Int->List Value:=ie .i64 (id:Int->Int)
theorem node_spec {s:Sl}{ws:List (List UInt8)}{K:Int->Int->Int->Sl->Bool->World->Prop}(hv:Vw 1 encS w s (ws.map ofL))(hl:ws.length<2^43)(hz:∀ x∈ws,x.length<4294967281)(g:Gl w)
  (hY:∀ x w' r,nodeR ws=some x->Mk w 1 IN w' r x.next->K x.lot x.num x.den r true w') (hN:∀ w',nodeR ws=none->Fr F0 w w'->K 0 0 0 ⟨none,0,0⟩ false w'):z4q_sh s K w:=by
 have es:=hv.len
 rw[List.length_map] at es
 refine⟨?_⟩
 unfold z4q_sd
 intro w1
 have m:Mem w w1 _:=Mem.nil.allocL (cs:=[.int .i64 0,.int .i64 0,.int .i64 0,.slice none 0 0])
 clear_value w1
 refine cnd_prop.2 ⟨fun hlt=>?_,fun hge=>?_⟩
 ·have hn:nodeR ws=none:=by
   match ws,es with
   | [],_=>rfl
   | [a],_=>rfl
   | a :: b :: q,es=>simp only[List.length_cons] at es; omega
  refine stN_at m 0 rfl rfl fun w2 m2=>?_
  simp only[List.set_cons_zero] at m2
  exact⟨_,m2.ld 0 rfl rfl,_,m2.ld 0 rfl rfl,_,m2.ld 0 rfl rfl,⟨none,0,0⟩,m2.ld 0 rfl rfl,hN w2 hn m2.1⟩
 obtain⟨a,b,q,rfl⟩:∃ a b q,ws=a :: b :: q:=by
  match ws,es with
  | [],es=>simp only[List.length_nil] at es; omega
  | [a],es=>simp only[List.length_cons,List.length_nil] at es; omega
  | a :: b :: q,_=>exact⟨a,b,q,rfl⟩
 have e47:bl (str [47])=[47]:=by rw[bl_str]; rfl
 have hzb:=hz b (by simp)
 have hza:=hz a (by simp)
 have hcut:(Lib.cut b [47]).1.length<=b.length/\(Lib.cut b [47]).2.1.length<=b.length:=by
  by_cases hc:(47:UInt8)∈b
  ·obtain⟨x,y,rfl,hx⟩:=List.eq_append_cons_of_mem hc
   rw[cut_hit hx]
   simp only[List.length_append,List.length_cons]
   omega
  ·rw[cut_miss hc]
   simp
 simp only[List.length_cons] at es hl
 refine encS_ld (hv.fr m.1) 1 rfl (by simp) ?_
 show z4l_sh (ofL b) (str [47]) _ w1
 refine Cut_spec (by rw[← bl_length,bl_ofL]; exact hzb) (g.fr m.1) fun w9 f9=>?_
 rw[bl_ofL,e47]
 refine encS_ld (hv.fr (m.1.t f9)) 0 rfl (by simp) ?_
 intro w15
 have m15:Mem w9 w15 _:=Mem.nil.allocL (cs:=([ofL a,ofL (Lib.cut b [47]).1,ofL (Lib.cut b [47]).2.1]:List ByteArray).flatMap encS)
 clear_value w15
 have f15:=f9.t m15.1
 have hk0:∀ {v:World},Mem w v [(w.heap.size,[.int .i64 0,.int .i64 0,.int .i64 0,.slice none 0 0])]->nodeR (a :: b :: q)=none->z4q_k0 ⟨w.heap.size,0,none⟩ K v:=fun {v} m hn=>by
  refine⟨?_⟩
  unfold z4q_k0d
  refine stN_at m 0 rfl rfl fun w2 m2=>?_
  simp only[List.set_cons_zero] at m2
  exact⟨_,m2.ld 0 rfl rfl,_,m2.ld 0 rfl rfl,_,m2.ld 0 rfl rfl,⟨none,0,0⟩,m2.ld 0 rfl rfl,hN w2 hn m2.1⟩
 have hsec:∀ {v:World} {K':Sl->Bool->World->Prop},Fr F0 w1 v->(∀ l w' r,readN q=some l->Mk v 1 IN w' r l->K' r true w')->(∀ w',readN q=none->Fr F0 v w'->K' ⟨none,0,0⟩ false w')->(0<=(2:Int)/\(2:Int)<=(s.l:Nat))/\z3q_sh (Sl.mk (subP s.p 2 s.c 1) (s.l-2) (s.c-2)) K' v:=fun {v K'} hf h1 h2 =>
  ⟨⟨by omega,by omega⟩,numbers_spec (ws:=q) ((hv.fr (m.1.t hf)).drop encS_length (j:=2) (by simp)) (by omega) (fun x hx=>by have:=hz x (by simp[hx]); omega) (g.fr (m.1.t hf)) h1 h2⟩
 refine numbers_spec (ws:=[a,(Lib.cut b [47]).1,(Lib.cut b [47]).2.1]) (Row.ow encS_length (l:=[ofL a,ofL (Lib.cut b [47]).1,ofL (Lib.cut b [47]).2.1]) (m15.row 0 rfl)).vw (by simp) (fun x hx=>?_) (g.fr (m.1.t f15)) (fun l3 w16 r17 h3 hm16=>?_) fun w16 h3 f16=>?_
 ·simp only[List.mem_cons,List.not_mem_nil,or_false] at hx
  rcases hx with rfl | rfl | rfl<;>omega
 ·have hl3:=readN_len h3
  obtain⟨n0,n1,n2,rfl⟩:∃ n0 n1 n2,l3=[n0,n1,n2]:=by
   match l3,hl3 with
   | [n0,n1,n2],_=>exact⟨n0,n1,n2,rfl⟩
  have f16:=f15.t hm16.fr0
  refine hsec f16 (fun nx w19 r20 hq hm19=>?_) fun w19 hq f19=>?_
  ·refine cnd_iff.2 ⟨fun h=>by simp at h,fun _=>cnd_iff.2 ⟨fun h=>by simp at h,fun _=>?_⟩⟩
   have hx:nodeR (a :: b :: q)=some ⟨n0,n1,n2,nx⟩:=by
    unfold nodeR
    simp only[h3,hq]
   have h17:VI w19 r17 [n0,n1,n2]:=hm16.vw.fr hm19.fr0
   intro w27
   have h:Sp w w27 _ _ _ _ _ _ _:=(Sp.ofMk (m.fr f16) hm19).drew
   have h17:VI w27 r17 [n0,n1,n2]:=h17.fr Fr.drew
   clear_value w27
   obtain⟨ad,hp⟩:=h17.ne (fun a=>ie_length _ _ a) (by decide) (by simp)
   have e17:=h17.len
   simp only[List.length_cons,List.length_nil] at e17
   rw[hp]
   refine⟨fun v=>VI v r17 [n0,n1,n2],h17,⟨by decide,by omega⟩,n0,fun v hv=>hv.cel hp 0 rfl,⟨by decide,by omega⟩,n1,fun v hv=>hv.cel hp 1 rfl,⟨by decide,by omega⟩,n2,fun v hv=>hv.cel hp 2 rfl,?_⟩
   refine stN_sp h 0 rfl rfl fun w35 h=>?_
   simp only[List.set_cons_zero] at h
   exact⟨_,h.ld 0 rfl rfl,_,h.ld 0 rfl rfl,_,h.ld 0 rfl rfl,r20,h.ld 0 rfl rfl,hY ⟨n0,n1,n2,nx⟩ w35 r20 hx h.mk'⟩
  ·refine cnd_iff.2 ⟨fun h=>by simp at h,fun _=>cnd_iff.2 ⟨fun _=>hk0 (m.fr (f16.t f19)) ?_,fun h=>by simp at h⟩⟩
   unfold nodeR
   simp only[h3,hq]
 ·have hn:nodeR (a :: b :: q)=none:=by
   unfold nodeR
   simp only[h3]
  refine hsec (f15.t f16) (fun nx w19 r20 hq hm19=>?_) fun w19 hq f19=>?_
  ·exact cnd_iff.2 ⟨fun _=>hk0 (m.fr ((f15.t f16).t hm19.fr0)) hn,fun h=>by simp at h⟩
  ·exact cnd_iff.2 ⟨fun _=>hk0 (m.fr ((f15.t f16).t f19)) hn,fun h=>by simp at h⟩
end
open Go Pw
def cz (r:Re):Nat:=(listT r.T).length+(r.N.flatMap nodeT).length
theorem listT_22:∀ {l:List Int},(∀ n∈l,I64 n)->(listT l).length<=22*l.length
 | [],_=>Nat.le_refl _
 | n :: l,h=>by
  have h1:=listT_22 (l:=l) fun m hm=>h m (by simp[hm])
  have h2:=itoa_len' (h n (by simp))
  have e:listT (n :: l)=32 :: Lib.itoa n++listT l:=rfl
  rw[e,List.length_append,List.length_cons,List.length_cons]
  omega
theorem nodeT_22 {x:Nd}(h:I64 x.lot/\I64 x.num/\I64 x.den/\∀ n∈x.next,I64 n):(nodeT x).length<=80+22*x.next.length/\x.next.length<=(nodeT x).length:=by
 have e:=congrArg List.length (nodeT_eq x [])
 have h1:=itoa_len' h.1
 have h2:=itoa_len' h.2.1
 have h3:=itoa_len' h.2.2.1
 have h4:=listT_22 h.2.2.2
 have h5:=listT_len x.next
 have e4:nodeW.length=4:=rfl
 simp only[List.append_nil,List.length_append,List.length_cons,List.length_nil,e4] at e
 omega
theorem txt_cz {r:Re}(h:r.I):r.txt.length<=60+cz r:=by
 have e:=congrArg List.length (encT_eq r)
 have h1:=itoa_len' h.f.pts
 have h2:=itoa_len' h.f.bnd
 have e4:takeW.length=4:=rfl
 have e6:pointsW.length=6:=rfl
 simp only[List.length_append,List.length_cons,e4,e6] at e
 unfold cz
 omega
theorem nds_le:∀ N:List Nd,N.length<=(N.flatMap nodeT).length
 | []=>Nat.le_refl _
 | x :: N=>by
  have h1:=nds_le N
  have hn:0<(nodeT x).length:=by unfold nodeT lineT nodeW; simp
  rw[List.flatMap_cons,List.length_append,List.length_cons]
  omega
theorem nd_mem:∀ {N:List Nd} {x:Nd},x∈N->(nodeT x).length<=(N.flatMap nodeT).length
 | a :: N,x,h=>by
  rw[List.flatMap_cons,List.length_append]
  rcases List.mem_cons.1 h with rfl | h
  ·omega
  ·have:=nd_mem h
   omega
theorem nodeR_len {ws:List (List UInt8)}{x:Nd}(h:nodeR ws=some x):x.next.length<=ws.length:=by
 unfold nodeR at h
 split at h
 ·split at h
  ·rename_i h1 h2
   cases h
   have:=readN_len h2
   simp only[List.length_cons]
   omega
  ·cases h
 ·cases h
theorem lineQ_cz {k n:Nat}{ws:List (List UInt8)}{r r':Re}(hw:ws.length<=n+1)(h:lineQ k ws r=some r'):cz r'<=cz r+200*(n+1):=by
 unfold lineQ at h
 split at h
 ·obtain⟨T,hT,rfl⟩:=Option.map_eq_some_iff.1 h
  have h1:=listT_22 (readN_I hT)
  have h2:=readN_len hT
  unfold cz
  simp only
  omega
 ·split at h
  ·obtain⟨l,hl,rfl⟩:=Option.map_eq_some_iff.1 h
   unfold cz
   split<;>(try simp only)<;>omega
  ·obtain⟨x,hx,rfl⟩:=Option.map_eq_some_iff.1 h
   have h1:=(nodeT_22 (nodeR_I hx)).1
   have h2:=nodeR_len hx
   unfold cz
   simp only[List.flatMap_append,List.flatMap_cons,List.flatMap_nil,List.append_nil,List.length_append]
   omega
theorem lineQ_one {ws:List (List UInt8)}{l:List Int}{r:Re}(h:readN ws=some l)(hl:l.length≠2):lineQ 1 ws r=some r:=by
 unfold lineQ
 rw[if_neg (by decide),if_pos rfl,h]
 match l,hl with
 | [],_=>rfl
 | [a],_=>rfl
 | [a,b],hl=>exact absurd rfl hl
 | a :: b :: c :: q,_=>rfl
section
variable {w w' w0 u v:World}{s:List UInt8}{ls:List (List UInt8)}{r6:Sl}{rb tb:Nat}
def DcI (w:World)(ls:List (List UInt8))(r6:Sl)(rb tb:Nat)(k:Int)(u:World):Prop :=
 ∃ (k':Nat) (r:Re) (t ns:Sl) (cs:List NdC) (B:Nat->Prop) (Q:World->Prop),k=k'/\k'<=ls.length/\linesQ 0 ls re0=linesQ k' (ls.drop k') r/\r.I/\cz r+200*szL (ls.drop k')<=200*szL ls/\cs.length=r.N.length /\
  Sp w u [(rb,rsC t r.pts r.bnd ns),(tb,rsC ⟨none,0,0⟩ 0 0 ⟨none,0,0⟩)] B Q 4 encN ns cs/\(∀ b,inB t b->B b)/\∀ u,Q u->Vw 1 encS u r6 (ls.map ofL)/\OI u t r.T/\∀ (i:Nat) c n,cs[i]?=some c->r.N[i]?=some n->NdV u c n
theorem dec_bad {α:Type}{n:Nat}{enc:α->List Value}{sl:Sl}{l:List α}{B:Nat->Prop}{Q:World->Prop}{L:List (Nat × List Value)}{j:Nat}{vs:List Value}{K:Sl->Int->Int->Sl->Int->World->Prop}{N0:ByteArray->Addr->Addr->Sl->Int->Int->World->Prop}{a b:Int}{S:ByteArray}{A:Addr}{q:Sl}
  (h:Sp w u L B Q n enc sl l) (hj:L[j]?=some (tb,vs)) (hl:vs.length=4) (hK:∀ w',Fr F0 w w'->K ⟨none,0,0⟩ 0 0 ⟨none,0,0⟩ 11 w'):z3x_k1 S ⟨tb,0,none⟩ A false q a b N0 K u:=by
 have hjl:j<L.length:=(List.getElem?_eq_some_iff.1 hj).1
 have hL:∀ X,(L.set j X)[j]?=some X:=fun X=>List.getElem?_set_self hjl
 refine⟨?_⟩
 unfold z3x_k1d
 refine cnd_iff.2 ⟨fun _=>?_,fun h=>by simp at h⟩
 refine stN_sp h j hj (by rw[hl]; rfl) fun w40 h=>?_
 exact⟨⟨none,0,0⟩,h.ld j (hL _) rfl,_,h.ld j (hL _) rfl,_,h.ld j (hL _) rfl,⟨none,0,0⟩,h.ld j (hL _) rfl,hK w40 h.m.1⟩
theorem dec_good {K:Sl->Int->Int->Sl->Int->World->Prop}{N0:ByteArray->Addr->Addr->Sl->Int->Int->World->Prop}{a:Int}{k:Nat}{S:ByteArray}{A A':Addr}{q:Sl}(hk:k<2^62)(h:N0 S A A' q a ((k:Int)+1) u):z3x_k1 S A A' true q a (k:Int) N0 K u:=by
 refine⟨?_⟩
 unfold z3x_k1d
 exact cnd_iff.2 ⟨fun h=>by simp at h,fun _=>⟨inR64 (by omega) (by omega),h⟩⟩
theorem nd_next {cs:List NdC}{N:List Nd}{c:NdC}{n:Nd}{u:World}(hl:cs.length=N.length)(h:∀ (i:Nat) c n,cs[i]?=some c->N[i]?=some n->NdV u c n)(hn:NdV u c n):∀ (i:Nat) c' n',(cs++[c])[i]?=some c'->(N++[n])[i]?=some n'->NdV u c' n':=by
 intro i c' n' hc hn'
 rcases Nat.lt_or_ge i cs.length with hi | hi
 ·rw[List.getElem?_append_left hi] at hc
  rw[List.getElem?_append_left (by omega)] at hn'
  exact h i c' n' hc hn'
 ·rw[List.getElem?_append_right hi] at hc
  rw[List.getElem?_append_right (by omega)] at hn'
  have:i=cs.length:=by
   have:=(List.getElem?_eq_some_iff.1 hc).1
   simp at this
   omega
  subst this
  rw[Nat.sub_self] at hc
  rw[hl,Nat.sub_self] at hn'
  simp at hc hn'
  subst hc hn'
  exact hn
theorem dec_step {K:Sl->Int->Int->Sl->Int->World->Prop}{N0:ByteArray->Addr->Addr->Sl->Int->Int->World->Prop}{k:Nat}{r:Re}{t ns:Sl}{cs:List NdC}{B:Nat->Prop}{Q:World->Prop}(hz:szL ls<4294967282)(g:Gl w)(hkl:k<ls.length)(hlq:linesQ 0 ls re0=linesQ k (ls.drop k) r)(hI:r.I)(hcz:cz r+200*szL (ls.drop k)<=200*szL ls)(hcl:cs.length=r.N.length)
  (h:Sp w u [(rb,rsC t r.pts r.bnd ns),(tb,rsC ⟨none,0,0⟩ 0 0 ⟨none,0,0⟩)] B Q 4 encN ns cs) (hcov:∀ b,inB t b->B b) (hQ:∀ u,Q u->Vw 1 encS u r6 (ls.map ofL)/\OI u t r.T/\∀ (i:Nat) c n,cs[i]?=some c->r.N[i]?=some n->NdV u c n)
  (hN0:∀ v,DcI w ls r6 rb tb ((k:Int)+1) v->N0 (ofL s) ⟨tb,0,none⟩ ⟨rb,0,none⟩ r6 (r6.l:Int) ((k:Int)+1) v) (hK:∀ w',linesQ 0 ls re0=none->Fr F0 w w'->K ⟨none,0,0⟩ 0 0 ⟨none,0,0⟩ 11 w'):z3x_b0 (ofL s) ⟨tb,0,none⟩ ⟨rb,0,none⟩ r6 (r6.l:Int) (k:Int) N0 K u:=by
 have hv:=(hQ _ h.q).1
 have e6:=hv.len
 rw[List.length_map] at e6
 have hlsl:=szL_len ls
 have hd:=List.drop_eq_getElem_cons hkl
 have hlk:=szL_mem (List.getElem_mem hkl)
 have hnn:=nds_le r.N
 have hczn:(r.N.flatMap nodeT).length<=cz r:=by unfold cz; omega
 rw[hd] at hcz hlq
 simp only[szL] at hcz
 obtain⟨a,ws,hsp⟩:=splitC_cons 32 ls[k]
 have hsz:=splitC_sz' 32 ls[k]
 rw[hsp] at hsz
 have hwl:=szL_len ws
 simp only[szL] at hsz
 have hline:linesQ k (ls[k] :: ls.drop (k+1)) r=match lineQ k ws r with | some r'=>linesQ (k+1) (ls.drop (k+1)) r' | none=>none:=by
  simp only[linesQ]
  rw[hsp,List.tail_cons]
  cases lineQ k ws r<;>rfl
 unfold z3x_b0
 refine cnd_prop.2 ⟨fun _=>?_,fun hge=>absurd (by omega) hge⟩
 refine encS_ld hv k rfl (by simpa using hkl) ?_
 rw[List.getElem_map]
 have e32:str [32]=ofL [32]:=rfl
 rw[e32]
 refine Split_spec (by omega) (g.fr h.m.1) fun w9 r10 hm10=>?_
 rw[hsp] at hm10
 have h9:=h.fr hm10.fr0
 have e10:=hm10.len
 rw[List.length_map,List.length_cons] at e10
 have hb1:(0:Int)<=1/\(1:Int)<=(r10.l:Nat):=⟨by decide,by omega⟩
 have hdis:∀ b,inB ns b->¬B b:=fun b hb=>(h.os b hb).2.1
 have hvd:∀ {v:World},Fr F0 w9 v->Vw 1 encS v ⟨subP r10.p 1 r10.c 1,r10.l-1,r10.c-1⟩ (ws.map ofL):=fun hf=>(hm10.vw.fr hf).drop encS_length (j:=1) (by simp)
 have hws:∀ x∈ws,x.length<4294967281:=fun x hx=>by
  have:=szL_mem hx
  omega
 have hbad:lineQ k ws r=none->linesQ 0 ls re0=none:=fun hh=>by rw[hlq,hline,hh]
 have hgood:∀ {v:World} {r':Re} {t' ns':Sl} {cs':List NdC} {B':Nat->Prop} {Q':World->Prop},lineQ k ws r=some r'->cs'.length=r'.N.length->Sp w v [(rb,rsC t' r'.pts r'.bnd ns'),(tb,rsC ⟨none,0,0⟩ 0 0 ⟨none,0,0⟩)] B' Q' 4 encN ns' cs'->(∀ b,inB t' b->B' b)->(∀ u,Q' u->Vw 1 encS u r6 (ls.map ofL)/\OI u t' r'.T/\∀ (i:Nat) c n,cs'[i]?=some c->r'.N[i]?=some n->NdV u c n)->z3x_k1 (ofL s) ⟨tb,0,none⟩ ⟨rb,0,none⟩ true r6 (r6.l:Int) (k:Int) N0 K v:=fun {v r' t' ns' cs' B' Q'} hq hc hs hcv hQ'=>by
  have h1:=lineQ_cz (n:=ls[k].length) (by omega) hq
  refine dec_good (by omega) (hN0 v ⟨k+1,r',t',ns',cs',B',Q',by omega,by omega,?_,lineQ_I hI hq,by omega,hc,hs,hcv,hQ'⟩)
  rw[hlq,hline,hq]
 refine cnd_beq.2 ⟨fun h0=>⟨hb1,?_⟩,fun h0=>cnd_beq.2 ⟨fun h1=>⟨hb1,?_⟩,fun h1=>?_⟩⟩
 ·have hk0:k=0:=by omega
  subst hk0
  refine numbers_spec (hvd Fr.refl) (by omega) (fun x hx=>by have:=hws x hx; omega) (g.fr h9.m.1) (fun T w11 r12 hT hm12=>?_) fun w11 hT f11=>?_
  ·have h11:=(h9.nextMk hm12).back h.rs hdis
   refine⟨h11.wr 0 rfl rfl,?_⟩
   intro w14
   have h14:Sp w w14 _ _ _ _ _ _ _:=h11.set (i:=0) (v:=.slice r12.p r12.l r12.c) 0 rfl
   simp only[List.set_cons_zero] at h14
   refine hgood (r':={ r with T:=T }) (t':=r12) (by unfold lineQ; rw[if_pos rfl,hT]; rfl) hcl h14 (fun b hb=>.inr hb) fun u hq=>⟨(hQ u hq.1).1,hq.2,(hQ u hq.1).2.2⟩
  ·have h11:=h9.fr f11
   refine⟨h11.wr 0 rfl rfl,?_⟩
   intro w14
   have h14:Sp w w14 _ _ _ _ _ _ _:=h11.set (i:=0) (v:=.slice none 0 0) 0 rfl
   simp only[List.set_cons_zero] at h14
   exact dec_bad h14 (j:=1) rfl rfl fun w' hf=>hK w' (hbad (by unfold lineQ; rw[if_pos rfl,hT]; rfl)) hf
 ·have hk1:k=1:=by omega
  subst hk1
  refine numbers_spec (hvd Fr.refl) (by omega) (fun x hx=>by have:=hws x hx; omega) (g.fr h9.m.1) (fun T w15 r16 hT hm16=>?_) fun w15 hT f15=>?_
  ·have h15:=(h9.nextMk hm16).back h.rs hdis
   have e16:=hm16.len
   refine cnd_iff.2 ⟨fun _=>cnd_beq.2 ⟨fun h2=>?_,fun h2=>?_⟩,fun hh=>(by cases hh)⟩
   ·obtain⟨x,y,rfl⟩:∃ x y,T=[x,y]:=by
     have:T.length=2:=by omega
     match T,this with
     | [x,y],_=>exact⟨x,y,rfl⟩
    intro w18
    have h18:Sp w w18 _ _ _ _ _ _ _:=h15.drew
    clear_value w18
    obtain⟨ad,hp⟩:=h18.q.2.vw.ne (fun a=>ie_length _ _ a) (by decide) (by simp)
    rw[hp]
    refine⟨fun v=>VI v r16 [x,y],h18.q.2.vw,⟨by decide,by omega⟩,x,fun v hv=>hv.cel hp 0 rfl,⟨by decide,by omega⟩,y,fun v hv=>hv.cel hp 1 rfl,h18.wr 0 rfl rfl,?_⟩
    intro w24
    have h24:Sp w w24 _ _ _ _ _ _ _:=h18.set (i:=1) (v:=.int .i64 x) 0 rfl
    simp only[List.set_cons_zero,List.set_cons_succ] at h24
    clear_value w24
    refine⟨h24.q.2.vw,h24.wr 0 rfl rfl,?_⟩
    intro w25
    have h25:Sp w w25 _ _ _ _ _ _ _:=h24.set (i:=2) (v:=.int .i64 y) 0 rfl
    simp only[List.set_cons_zero,List.set_cons_succ] at h25
    clear_value w25
    exact hgood (r':={ r with pts:=x,bnd:=y }) (t':=t) (by unfold lineQ; rw[if_neg (by decide),if_pos rfl,hT]; rfl) hcl h25 (fun b hb=>.inl (hcov b hb)) fun u hq=>hQ u hq.1
   ·exact hgood (r':=r) (t':=t) (lineQ_one hT (by omega)) hcl h15 (fun b hb=>.inl (hcov b hb)) fun u hq=>hQ u hq.1
  ·refine cnd_iff.2 ⟨fun hh=>(by cases hh),fun _=>?_⟩
   exact dec_bad (h9.fr f15) (j:=1) rfl rfl fun w' hf=>hK w' (hbad (by unfold lineQ; rw[if_neg (by decide),if_pos rfl,hT]; rfl)) hf
 ·have hk2:k≠0/\k≠1:=⟨by omega,by omega⟩
  have hlq2:lineQ k ws r=(nodeR ws).map fun x=>{ r with N:=r.N++[x] }:=by
   unfold lineQ
   rw[if_neg hk2.1,if_neg hk2.2]
  intro w26
  have h26:Sp w w26 _ _ _ _ _ _ _:=h9.allocL (vs:=[.int .i64 0,.int .i64 0,.int .i64 0,.slice none 0 0])
  have f26:Fr F0 w9 w26:=Fr.alloc
  clear_value w26
  refine⟨hb1,node_spec (hvd f26) (by omega) hws (g.fr h26.m.1) (fun x w27 r28 hx hm27=>?_) fun w27 hx f27=>?_⟩
  ·have h27:=h26.nextMk hm27
   refine stN_sp h27 0 rfl rfl fun w30 h30=>?_
   simp only[List.set_cons_zero] at h30
   have h30:=h30.back h.rs hdis
   have hxi:=nodeR_I hx
   refine⟨ns,h30.ld 1 rfl rfl,_,h30.ld 0 rfl rfl,_,h30.ld 0 rfl rfl,_,h30.ld 0 rfl rfl,r28,h30.ld 0 rfl rfl,?_⟩
   intro w36
   refine h30.push (a:=⟨x.lot,x.num,x.den,r28⟩) rfl rfl encN_ok rfl (by omega) (by omega) fun s37 w38 h38=>⟨h38.wr 1 rfl rfl,?_⟩
   intro w39
   have h39:Sp w w39 _ _ _ _ _ _ _:=h38.set (i:=3) (v:=.slice s37.p s37.l s37.c) 1 rfl
   simp only[List.set_cons_zero,List.set_cons_succ] at h39
   have h39:=h39.dr 1 rfl
   exact hgood (r':={ r with N:=r.N++[x] }) (t':=t) (ns':=s37) (by rw[hlq2,hx]; rfl) (by simp[hcl]) h39 (fun b hb=>.inl (hcov b hb)) fun u hq=>⟨(hQ u hq.1).1,(hQ u hq.1).2.1,nd_next hcl (hQ u hq.1).2.2 ⟨⟨rfl,rfl,rfl⟩,hq.2.vw,hxi.2.1,hxi.2.2.1⟩⟩
  ·have h27:=h26.fr f27
   refine stN_sp h27 0 rfl rfl fun w30 h30=>?_
   simp only[List.set_cons_zero] at h30
   refine⟨ns,h30.ld 1 rfl rfl,_,h30.ld 0 rfl rfl,_,h30.ld 0 rfl rfl,_,h30.ld 0 rfl rfl,⟨none,0,0⟩,h30.ld 0 rfl rfl,?_⟩
   intro w36
   refine h30.push (a:=⟨0,0,0,⟨none,0,0⟩⟩) rfl rfl encN_ok rfl (by omega) (by omega) fun s37 w38 h38=>⟨h38.wr 1 rfl rfl,?_⟩
   intro w39
   have h39:Sp w w39 _ _ _ _ _ _ _:=h38.set (i:=3) (v:=.slice s37.p s37.l s37.c) 1 rfl
   simp only[List.set_cons_zero,List.set_cons_succ] at h39
   exact dec_bad h39 (j:=2) rfl rfl fun w' hf=>hK w' (hbad (by rw[hlq2,hx]; rfl)) hf
theorem pDecode_spec {K:Sl->Int->Int->Sl->Int->World->Prop}(hs:s.length<4294967281)(g:Gl w)
  (hY:∀ (r:Re) t ns w',decQ s=some r->r.txt=s->r.I->Fr F0 w w'->Mk w 1 IN w' t r.T->NV w' ns r.N->K t r.pts r.bnd ns 0 w')
  (hN:∀ w',(∀ r,decQ s=some r->r.txt≠s)->Fr F0 w w'->K ⟨none,0,0⟩ 0 0 ⟨none,0,0⟩ 11 w'):z3x_sh (ofL s) K w:=by
 have htl:=trim_len s [10]
 refine⟨?_⟩
 unfold z3x_sd
 intro w1
 have m:Mem w w1 _:=Mem.nil.allocL (cs:=rsC ⟨none,0,0⟩ 0 0 ⟨none,0,0⟩)
 clear_value w1
 intro w2
 have m:Mem w w2 _:=m.allocL (cs:=rsC ⟨none,0,0⟩ 0 0 ⟨none,0,0⟩)
 clear_value w2
 refine TrimSuffix_spec (by omega) ?_
 have e10:str [10]=ofL [10]:=rfl
 rw[e10]
 refine Split_spec (by omega) (g.fr m.1) fun w5 r6 hm6=>?_
 have hsz:=splitC_sz' 10 (Lib.trimSuffix s [10])
 have hdec:decQ s=linesQ 0 (splitC 10 (Lib.trimSuffix s [10])) re0:=rfl
 generalize splitC 10 (Lib.trimSuffix s [10])=ls at hm6 hsz hdec
 have e6:=hm6.len
 rw[List.length_map] at e6
 have h5:=Sp.ofMk m hm6
 have h5:Sp w w5 _ _ _ 4 encN ⟨none,0,0⟩ ([]:List NdC):=h5.next
 refine⟨⟨DcI w ls r6 w1.heap.size w.heap.size,fun k _=>ls.length-k.toNat,⟨0,re0,⟨none,0,0⟩,⟨none,0,0⟩,[],_,_,rfl,by omega,rfl,re0_I,by unfold cz; simp[re0,listT],rfl,h5,fun b ⟨a,ha,_⟩=>(by cases ha),fun u hq=>⟨hq.2.vw,⟨rfl,by simpa [re0] using OwnV.nil⟩,fun i c n hc=>by simp at hc⟩⟩,?_⟩⟩
 rintro k u ⟨k,r,t,ns,cs,B,Q,rfl,hk,hlq,hI,hcz,hcl,h,hcov,hQ⟩
 rcases Nat.lt_or_ge k ls.length with hkl | hkl
 ·refine dec_step (by omega) g hkl hlq hI hcz hcl h hcov hQ (fun v hv=>⟨⟨⟨rfl,rfl,rfl,rfl,rfl,trivial⟩,hv⟩,by dsimp only; omega⟩) fun w' he hf=>hN w' (fun r hr=>by rw[hdec,he] at hr; cases hr) hf
 ·have hke:k=ls.length:=by omega
  subst hke
  rw[List.drop_length] at hlq hcz
  have hd:decQ s=some r:=by rw[hdec,hlq]; rfl
  have hnn:=nds_le r.N
  have htt:=listT_len r.T
  have htz:=txt_cz hI
  have hsm:cz r<2^40:=by omega
  have hcz2:(listT r.T).length+(r.N.flatMap nodeT).length=cz r:=rfl
  have hnx:∀ x∈r.N,x.next.length<2^42:=fun x hx=>by
   have h1:=nd_mem hx
   have h2:=(nodeT_22 ⟨(hI.f.n x hx).1,(hI.n x hx).1,(hI.n x hx).2,(hI.f.n x hx).2⟩).2
   omega
  have hNV:NV u ns r.N:=⟨⟨cs,h.ow.vw,hcl,(hQ _ h.q).2.2⟩,by omega⟩
  unfold z3x_b0
  refine cnd_prop.2 ⟨fun hlt=>absurd hlt (by omega),fun _=>?_⟩
  refine⟨t,h.ld 0 rfl rfl,_,h.ld 0 rfl rfl,_,h.ld 0 rfl rfl,ns,h.ld 0 rfl rfl,?_⟩
  refine Encode_spec (hQ _ h.q).2.1.vw hNV ⟨by omega,by omega,fun x hx=>by have:=hnx x hx; omega⟩ hnx (by omega) hI.f (g.fr h.m.1).tab (by show r.txt.length<=_; omega) fun w49 f49=>?_
  have h:=h.fr f49
  refine cnd_iff.2 ⟨fun hne=>?_,fun heq=>?_⟩
  ·have hne2:r.txt≠s:=fun hh=>by
    have:encT r.T r.pts r.bnd r.N=s:=hh
    rw[this] at hne
    simp at hne
   refine stN_sp h 1 rfl rfl fun w51 h=>?_
   simp only[List.set_cons_zero,List.set_cons_succ] at h
   exact⟨⟨none,0,0⟩,h.ld 1 rfl rfl,_,h.ld 1 rfl rfl,_,h.ld 1 rfl rfl,⟨none,0,0⟩,h.ld 1 rfl rfl,hN w51 (fun r' hr=>by rw[hd] at hr; cases hr; exact hne2) h.m.1⟩
  ·have heq2:r.txt=s:=by
    have h1:ofL (encT r.T r.pts r.bnd r.N)=ofL s:=by simpa using heq
    have:=congrArg bl h1
    rwa [bl_ofL,bl_ofL] at this
   refine⟨t,h.ld 0 rfl rfl,_,h.ld 0 rfl rfl,_,h.ld 0 rfl rfl,ns,h.ld 0 rfl rfl,?_⟩
   refine stN_sp h 1 rfl rfl fun w60 h=>?_
   simp only[List.set_cons_zero,List.set_cons_succ] at h
   exact⟨t,h.ld 1 rfl rfl,_,h.ld 1 rfl rfl,_,h.ld 1 rfl rfl,ns,h.ld 1 rfl rfl,hY r t ns w60 hd heq2 hI h.m.1 ⟨h.m.1,(hQ _ h.q).2.1,fun b hb=>(h.ap b (hcov b hb)).2.1⟩ ⟨⟨cs,h.ow.vw,hcl,(hQ _ h.q).2.2⟩,by omega⟩⟩
end
end Go.Proofs.YtfpobpjandjhjaaGreatDoor
set_option maxRecDepth 20000



set_option maxRecDepth 20000
namespace Go.Proofs.YtfpobpjandjhjaaGreatDoor
open Go Pw
section
variable {w w' w0 u v:World}{a b t t' ns ns':Sl}{T:List Int}{N:List Nd}{pts bnd x1 x2:Int}
theorem NV.cel {i:Nat}(h:NV w ns N)(hi:i<N.length):∃ (ad:Addr) (nx:Sl),ns.p=some ad/\VI w nx N[i].next/\∀ w',Fr F0 w w'->w'.cell? (ad.add (i*4))=some (.int .i64 N[i].lot)/\w'.cell? ((ad.add (i*4)).add 1)=some (.int .i64 N[i].num)/\w'.cell? ((ad.add (i*4)).add 2)=some (.int .i64 N[i].den)/\w'.cell? ((ad.add (i*4)).add 3)=some (.slice nx.p nx.l nx.c):=by
 obtain⟨⟨cs,hv,hcl,hn⟩,_⟩:=h
 have hci:cs[i]?=some cs[i]:=List.getElem?_eq_getElem (by omega)
 have hni:N[i]?=some N[i]:=List.getElem?_eq_getElem hi
 obtain⟨⟨e0,e1,e2⟩,hx,_⟩:=hn i _ _ hci hni
 obtain⟨ad,hp,_⟩:=hv.at encN_length hci (by decide)
 refine⟨ad,cs[i].nx,hp,hx,fun w' hf=>?_⟩
 obtain⟨ad',hp',hc⟩:=(hv.fr hf).at encN_length hci (by decide)
 rw[hp] at hp'
 cases hp'
 rw[← e0,← e1,← e2]
 exact⟨hc 0 _ rfl,hc 1 _ rfl,hc 2 _ rfl,hc 3 _ rfl⟩
theorem Same_true {K:Bool->World->Prop}(h1:VI w t T)(h2:VI w t' T)(n1:NV w ns N)(n2:NV w ns' N)(hT:T.length<2^62)(hx:∀ x∈N,x.next.length<2^62)(hK:∀ w',Fr F0 w w'->K true w'):z2o_sh t pts bnd ns t' pts bnd ns' K w:=by
 have l1:=n1.len
 have l2:=n2.len
 have hl47:=n1.lt
 refine⟨?_⟩
 unfold z2o_sd
 intro w1
 have m:Mem w w1 _:=Mem.nil.allocL (cs:=rsC t pts bnd ns)
 clear_value w1
 intro w2
 have m:Mem w w2 [(w1.heap.size,rsC t' pts bnd ns'),(w.heap.size,rsC t pts bnd ns)]:=m.allocL (cs:=rsC t' pts bnd ns')
 clear_value w2
 refine⟨t,m.ld 1 rfl rfl,t',m.ld 0 rfl rfl,Ints_spec (h1.fr m.1) (h2.fr m.1) (by omega) fun w5 f5=>?_⟩
 have m:=m.fr f5
 refine cnd_iff.2 ⟨fun h=>by simp at h,fun _=>⟨_,m.ld 1 rfl rfl,_,m.ld 0 rfl rfl,cnd_bne.2 ⟨fun h=>absurd rfl h,fun _=>⟨_,m.ld 1 rfl rfl,_,m.ld 0 rfl rfl,cnd_bne.2 ⟨fun h=>absurd rfl h,fun _=>⟨ns,m.ld 1 rfl rfl,ns',m.ld 0 rfl rfl,cnd_bne.2 ⟨fun h=>absurd (by omega) h,fun _=>?_⟩⟩⟩⟩⟩⟩⟩
 have n1:=n1.fr m.1
 have n2:=n2.fr m.1
 have ra:=m.row 1 rfl
 have rb:=m.row 0 rfl
 refine⟨⟨fun k u=>∃ k':Nat,k=k'/\k'<=N.length/\Fr F0 w5 u,fun k _=>N.length-k.toNat,⟨0,rfl,by omega,Fr.refl⟩,?_⟩⟩
 rintro k u ⟨k,rfl,hk,hf⟩
 unfold z2o_b0
 refine⟨ns,(hf.row ra fun h=>h).at rfl,cnd_prop.2 ⟨fun hlt=>?_,fun hge=>hK u (m.1.t hf)⟩⟩
 have hkN:k<N.length:=by omega
 have hxk:=hx _ (List.getElem_mem hkN)
 intro w14
 have f14:Fr F0 w5 w14:=hf.t Fr.drew
 clear_value w14
 obtain⟨ad,nx,hp,hnx,hc⟩:=n1.cel hkN
 obtain⟨ad',nx',hp',hnx',hc'⟩:=n2.cel hkN
 have b1:(0:Int)<=(k:Int)/\(k:Int)<(ns.l:Nat):=⟨by omega,by omega⟩
 have b2:(0:Int)<=(k:Int)/\(k:Int)<(ns'.l:Nat):=⟨by omega,by omega⟩
 refine⟨fun v=>Fr F0 w5 v,f14,ns,fun v hv=>(hv.row ra fun h=>h).at rfl,nz_iff.2 ⟨ad,hp,b1,nx,fun v hv=>(hc v hv).2.2.2,ns',fun v hv=>(hv.row rb fun h=>h).at rfl,nz_iff.2 ⟨ad',hp',b2,nx',fun v hv=>(hc' v hv).2.2.2,?_⟩⟩⟩
 refine Ints_spec (hnx.fr f14) (hnx'.fr f14) (by omega) fun w22 f22=>⟨f14.t f22,?_⟩
 intro w24
 have f24:Fr F0 w5 w24:=(f14.t f22).t Fr.drew
 clear_value w24
 have c1:=hc _ f24
 have c2:=hc' _ f24
 have ra':=f24.row ra fun h=>h
 have rb':=f24.row rb fun h=>h
 refine⟨ns,ra'.at rfl,nz_iff.2 ⟨ad,hp,b1,_,c1.1,ns',rb'.at rfl,nz_iff.2 ⟨ad',hp',b2,_,c2.1,cnd_bne.2 ⟨fun h=>absurd rfl h,fun _=>?_⟩⟩⟩⟩
 refine⟨ns,ra'.at rfl,nz_iff.2 ⟨ad,hp,b1,_,c1.2.1,_,c1.2.2.1,ns',rb'.at rfl,nz_iff.2 ⟨ad',hp',b2,_,c2.2.1,_,c2.2.2.1,?_⟩⟩⟩
 refine cnd_iff.2 ⟨fun h=>by simp at h,fun _=>cnd_iff.2 ⟨fun h=>by simp at h,fun _=>⟨inR64 (by omega) (by omega),⟨⟨rfl,rfl,trivial⟩,k+1,by omega,by omega,f24⟩,by dsimp only; omega⟩⟩⟩
end
end Go.Proofs.YtfpobpjandjhjaaGreatDoor

namespace Go.Proofs.YtfpobpjandjhjaaGreatDoor
open Go Pw
section
variable {w w' w0 wM wB:World}{s s0 s1 s2 t ns:Sl}{p:Pr}{l T:List Int}{N:List Nd}{cs:List NdC}{pts bnd:Int}{L:List (Nat × List Value)}
theorem V.nvr (h:V wM wB L [] [] ns t T cs N)(hN:N.length<2^47):NV wB ns N:=by
 refine⟨⟨cs,h.ow.vw,h.nv.len,fun i c n hc hn=>?_⟩,hN⟩
 have:=h.nv.at hc hn
 exact⟨⟨this.lot,this.num,this.den⟩,this.nx.vw,this.i1,this.i2⟩
end
end Go.Proofs.YtfpobpjandjhjaaGreatDoor
namespace Pw
open Go
theorem kids_nx {Tr:List Int->Nat->Nat->Prop}{R:Nat->Prop}{f:List Int}(hT:∀ g n m,Tr g n m->n<m/\∀ i,n<=i->i<m->R i):∀ (os ks:List Int) (a b:Nat),kids Tr f os ks a b->ks.length=os.length/\a<=b/\(∀ i,a<=i->i<b->R i)/\∀ k∈ks,(a:Int)<=k/\k<(b:Int)
 | [],[],a,b,h=>by
  have h:a=b:=h
  subst h
  exact⟨rfl,Nat.le_refl _,fun i h1 h2=>by omega,fun k hk=>by cases hk⟩
 | [],_ :: _,_,_,h=>h.elim
 | _ :: _,[],_,_,h=>h.elim
 | o :: os,k :: ks,a,b,h=>by
  obtain⟨m,h1,rfl,h2⟩:=h
  obtain⟨e1,e2,e3,e4⟩:=kids_nx hT os ks a m h1
  obtain⟨e5,e6⟩:=hT _ _ _ h2
  refine⟨by simp[e1],by omega,fun i h3 h4=>?_,fun k hk=>?_⟩
  ·rcases Nat.lt_or_ge i m with h | h
   ·exact e3 i h3 h
   ·exact e6 i h h4
  ·rcases List.mem_cons.1 hk with rfl | hk
   ·omega
   ·have:=e4 k hk
    omega
theorem optsFrom_len {lot:Int}:∀ (i:Nat) (l:List Ch),(optsFrom lot i l).length<=l.length
 | _,[]=>Nat.le_refl _
 | i,c :: l=>by
  have:=optsFrom_len (lot:=lot) (i+1) l
  unfold optsFrom
  split
  ·simp only[List.length_cons]; omega
  ·simp only[List.length_cons]; omega
def NxOk (p:Pr)(N:List Nd)(i:Nat):Prop:=∃ x,N[i]?=some x/\x.next.length<=p.ch.length+1/\∀ k∈x.next,0<=k/\k<(N.length:Int)
theorem tree_nx {up:List Int->Int->Int->Option Int}{p:Pr}{T:List Int}{N:List Nd}:∀ (ls f:List Int) (n m:Nat),Tree up p T N ls f n m->n<m/\∀ i,n<=i->i<m->NxOk p N i
 | [],f,n,m,h=>by
  obtain⟨x,h1,h2,rfl,_⟩:=h
  refine⟨by omega,fun i h3 h4=>?_⟩
  have:i=n:=by omega
  subst this
  exact⟨x,h1,by rw[h2]; simp,fun k hk=>by rw[h2] at hk; cases hk⟩
 | lot :: ls,f,n,m,h=>by
  obtain⟨x,h1,⟨h2,rfl,_⟩ | ⟨_,h2⟩⟩:=h
  ·refine⟨by omega,fun i h3 h4=>?_⟩
   have:i=n:=by omega
   subst this
   exact⟨x,h1,by rw[h2]; simp,fun k hk=>by rw[h2] at hk; cases hk⟩
  ·obtain⟨e1,e2,e3,e4⟩:=kids_nx (R:=NxOk p N) (fun g n m h=>tree_nx ls g n m h) _ _ _ _ h2
   have hm:m<=N.length:=by
    rcases Nat.lt_or_ge (n+1) m with h | h
    ·obtain⟨y,hy,_⟩:=e3 (m-1) (by omega) (by omega)
     have:=(List.getElem?_eq_some_iff.1 hy).1
     omega
    ·have:=(List.getElem?_eq_some_iff.1 h1).1
     omega
   refine⟨by omega,fun i h3 h4=>?_⟩
   rcases Nat.lt_or_ge n i with h | h
   ·exact e3 i h h4
   ·have:i=n:=by omega
    subst this
    have ho:=optsFrom_len (lot:=lot) 0 p.ch
    refine⟨x,h1,by rw[e1]; unfold opts; simp only[List.length_cons]; omega,fun k hk=>?_⟩
    have:=e4 k hk
    omega
theorem decs_in {p:Pr}:∀ {ls f:List Int},Decs p ls f->∀ n∈f,-1<=n/\n<(p.ch.length:Int)
 | _,[],_=>fun n hn=>by cases hn
 | [],_ :: _,h=>h.elim
 | lot :: ls,m :: f,h=>fun n hn=>by
  rcases List.mem_cons.1 hn with rfl | hn
  ·rcases h.1 with rfl | ⟨c,hc,_⟩
   ·omega
   ·unfold chAt at hc
    split at hc
    ·have:=(List.getElem?_eq_some_iff.1 hc).1
     omega
    ·cases hc
  ·exact decs_in h.2 n hn
end Pw
namespace Go.Proofs.YtfpobpjandjhjaaGreatDoor
open Go Pw
theorem flat_le':∀ {N:List Nd} {k:Nat},(∀ x∈N,(nodeT x).length<=k)->(N.flatMap nodeT).length<=N.length*k
 | [],k,_=>by simp
 | x :: N,k,h=>by
  have h1:=flat_le' (N:=N) fun y hy=>h y (by simp[hy])
  have h2:=h x (by simp)
  rw[List.flatMap_cons,List.length_append,List.length_cons,Nat.add_mul]
  omega
theorem made_ch13 (l:List Int):(madeP l).ch.length<=13:=by
 have h:=nv_range (l:=l) (j:=3+(mLots l).toNat) (n:=13) (by decide)
 show((List.range (mChoices l).toNat).map (mCh l)).length<=13
 have:mChoices l=nv l (3+(mLots l).toNat) 13:=rfl
 simp
 omega
section
variable {wB w:World}{ns t:Sl}{cs:List NdC}{r:Re}{p:Pr}
theorem found {T:List Int}{N:List Nd}{up:List Int->Int->Int->Option Int}(hp:RightPr p)(hc:p.ch.length<=13)(hV:V wB w [] [] [] ns t T cs N)(hT:IsBest p T)(hTr:Tree up p T N p.lots [] 0 N.length)(hN:(N.length:Int)<=1048576) :
  (⟨T,ptsOf p T,ptsOf p T,N⟩:Re).I/\(⟨T,ptsOf p T,ptsOf p T,N⟩:Re).txt.length<=1000000000/\T.length<=12/\∀ x∈N,x.next.length<=14:=by
 have hd:=hT.1.2.1
 have hTl:T.length<=12:=by have:=hT.1.1; have:=hp.few; omega
 have hpts:=pts_bound hp hd
 have hnx:∀ x∈N,x.next.length<=14/\∀ n∈x.next,I64 n:=fun x hx=>by
  obtain⟨i,hi,rfl⟩:=List.mem_iff_getElem.1 hx
  obtain⟨y,hy,h1,h2⟩:=(tree_nx _ _ _ _ hTr).2 i (Nat.zero_le _) hi
  rw[List.getElem?_eq_getElem hi] at hy
  cases hy
  refine⟨by omega,fun n hn=>?_⟩
  have:=h2 n hn
  exact⟨by omega,by omega⟩
 have hok:∀ x∈N,I64 x.lot/\I64 x.num/\I64 x.den:=fun x hx=>by
  obtain⟨i,hi,rfl⟩:=List.mem_iff_getElem.1 hx
  have hcl:=hV.nv.len
  have:=hV.nv.at (List.getElem?_eq_getElem (show i<cs.length by omega)) (List.getElem?_eq_getElem hi)
  exact⟨this.i0,this.i1,this.i2⟩
 have hI:(⟨T,ptsOf p T,ptsOf p T,N⟩:Re).I:=⟨⟨fun n hn=>by
  have:=decs_in hd n hn
  exact⟨by omega,by omega⟩,⟨by show _<=ptsOf p T; omega,by show ptsOf p T<_; omega⟩,⟨by show _<=ptsOf p T; omega,by show ptsOf p T<_; omega⟩,fun x hx=>⟨(hok x hx).1,(hnx x hx).2⟩⟩,fun x hx=>(hok x hx).2⟩
 refine⟨hI,?_,hTl,fun x hx=>(hnx x hx).1⟩
 have h1:=txt_cz hI
 have h2:=listT_22 hI.f.t
 have h3:=flat_le' (N:=N) (k:=388) fun x hx'=>by
  have h4:=(nodeT_22 ⟨(hok x hx').1,(hok x hx').2.1,(hok x hx').2.2,(hnx x hx').2⟩).1
  have h5:=(hnx x hx').1
  omega
 have h4:N.length*388<=1048576*388:=Nat.mul_le_mul_right _ (by omega)
 unfold cz at h1
 simp only at h1 h2
 omega
end
end Go.Proofs.YtfpobpjandjhjaaGreatDoor
