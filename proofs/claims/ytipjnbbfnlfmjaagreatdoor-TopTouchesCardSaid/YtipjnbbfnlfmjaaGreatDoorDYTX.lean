/- depend: Clauses, and the requirement of a clause. Conditions: none. -/
import Derived.Test.YtipjnbbfnlfmjaaGreatDoorDXTX
import Derived.Test.YtipjnbbfnlfmjaaGreatDoorDG2
open List renaming getElem?_eq_getElem->J0,foldl_append->J1,getElem_mem->J2,take_add_one->J3,range->J4,getElem?_eq_none->J5,isPrefixOf_iff_prefix->J6,take_length->J7,length_filter_le->J8,mem_iff_getElem->J9,length_cons->Ja,not_mem_nil->Jb,all_eq_true->Jc,filter_congr->Jd,mem_range->Je,ext_getElem?->Jf,length_take->Jg,mem_cons->Jh,length_nil->Ji,length_map->Jj,map_append->Jk,length_append->Jl,all_eq_false->Jm,any_eq_true->Jn,foldl_cons->Jo,isPrefixOf->Jp
open Nat renaming le_trans->Jq,lt_or_ge->Jr,zero_add->Js,le_refl->Jt
open Bool renaming eq_iff_iff->Ju,not_not->Jv,false_or->Jw,and_eq_true->Jx,true_and->Jy
open Array renaming getElem?_eq_some_iff->Jz
namespace Dp
open Go Pw
theorem q1f:∀ (m l:List B),(m.foldl addB l).length<=l.length+m.length
 | [],l=>by simp
 | a :: m,l=>by
  have h1:=q1f m (addB l a)
  have h2:=qg2 l a
  simp only[Jo,Ja]
  omega
theorem q0l (t:Td):(q02 t).length<=t.lots.length+t.crit.length+t.reqs.length+8:=by
 have:=q1f (q8x t) []
 unfold q02
 rw[Jl]
 have h7:q35.length=7:=rfl
 have:(q8x t).length=1+(t.lots.length+(t.crit.length+t.reqs.length)):=by simp[q8x]; omega
 simp only[Ji] at *
 omega
end Dp
namespace Go.Proofs.YtipjnbbfnlfmjaaGreatDoor
open Go Pw Dp
section
variable {w0 w w':World}{L L':List (Nat × List Value)}{s s':Sl}{l:List B}
theorem _root_.Pw.Mem.subl (h:Mem w0 w L)(hs:L'.Sublist L):Mem w0 w L' :=
 ⟨h.1,fun p hp=>h.2.1 p (hs.mem hp),(h.2.2.1).sublist (hs.map _),fun p hp=>h.2.2.2 p (hs.mem hp)⟩
theorem Row.ow {α:Type}{n:Nat}{enc:α->List Value}{w:World}{b:Nat}{l:List α}(hn:∀ a,(enc a).length=n)(h:Row w b (l.flatMap enc)):Ow n enc w ⟨some ⟨b,0,none⟩,l.length,l.length⟩ l:=by
 refine⟨rfl,?_,.inr ⟨b,_,rfl,h,?_,Jt _,?_⟩⟩
 ·simp[q0a hn]
 ·rw[q0a hn]
 ·exact List.take_of_length_le (Jt _)
abbrev SpB (w0 w:World)(L:List (Nat × List Value))(s:Sl)(l:List B):Prop:=Sp w0 w L (fun _=>False) (fun _=>True) 1 encB s l
theorem SpB.of (m:Mem w0 w L)(ho:Ow 1 encB w s l)(hs:∀ b,inB s b->w0.heap.size<=b/\∀ p∈L,p.1≠b):SpB w0 w L s l :=
 ⟨m,q2q.top,trivial,fun _ hb=>hb.elim,ho,fun b hb=>⟨(hs b hb).1,fun h=>h,(hs b hb).2⟩⟩
theorem SpB.mk' (h:SpB w0 w L s l):Mk w0 1 encB w s l:=⟨h.m.1,h.ow,fun b hb=>(h.os b hb).1⟩
theorem qpd:str [108,111,116,32]=ofL wLot:=by decide
theorem qg3:str [99,114,105,116,101,114,105,111,110,32]=ofL q1b:=by decide
theorem qji:str [114,101,113,117,105,114,101,32]=ofL wReq:=by decide
theorem q78 {id:Int}{K:ByteArray->World->Prop}(h:I64 id)(g:GlT w)(hK:∀ w',Fr F0 w w'->K (ofL (lotC id)) w'):z3b_sh id K w:=by
 refine⟨?_⟩
 have:=q2w h
 refine q3z h g fun w1 hf1=>?_
 rw[qpd,q0i,q0i,q17]
 exact⟨by unfold maxI; simp[wLot]; omega,hK w1 hf1⟩
theorem qao {x:B}{ob j:Nat}{K:World->Prop}(h:SpB w0 w L s l)(hj:L[j]?=some (ob,[.slice s.p s.l s.c]))(hl:l.length<=2^40)
  (hK:∀ w' s',SpB w0 w' (L.set j (ob,[.slice s'.p s'.l s'.c])) s' (addB l x)->K w'):z19_sh (ofL x) ⟨ob,0,none⟩ K w:=by
 refine⟨?_⟩
 refine⟨s,h.ld j hj rfl,q0k h.ow.vw (by omega) ?_⟩
 cases hc:decide (x∈l) with
 | true =>
  refine hK w s ?_
  unfold addB
  rw[if_pos (of_decide_eq_true hc),qae hj]
  exact h
 | false =>
  refine⟨s,h.ld j hj rfl,?_⟩
  refine h.push (a:=x) rfl rfl q4z rfl (by omega) (by omega) fun s6 w7 h7=>⟨h7.wr j hj rfl,?_⟩
  have h8:=h7.set (i:=0) (v:=.slice s6.p s6.l s6.c) j hj
  refine hK _ s6 ?_
  unfold addB
  rw[if_neg (of_decide_eq_false hc)]
  exact h8
def clL (ob tb:Nat)(x:T43)(s:Sl):List (Nat × List Value):=[(ob,[.slice s.p s.l s.c]),(tb,x.cs)]
variable {x:T43}{t:Td}{ob tb:Nat}
theorem q84 {K:Sl->World->Prop}{l:List B}(hx:TP w0 x t)(hF:Fit t)(g:GlT w0)(h:SpB w0 w (clL ob tb x s) s l)(hl:l.length<=2^30)
  (hK:∀ w' s',Mk w0 1 encB w' s' (((J4 t.reqs.length).map reqC).foldl addB l++q35)->K s' w'):z1p_l2 ⟨ob,0,none⟩ ⟨ob,0,none⟩ (t.reqs.length:Int) 0 K w:=by
 have h20:=hF.reqs
 refine⟨⟨fun i u=>∃ (i':Nat) (s':Sl),i=i'/\i'<=t.reqs.length/\SpB w0 u (clL ob tb x s') s' (((J4 i').map reqC).foldl addB l),fun i _=>t.reqs.length-i.toNat,⟨0,s,rfl,by omega,h⟩,?_⟩⟩
 rintro i u ⟨i,s',rfl,hi,hu⟩
 unfold z1p_b2
 have hlen:=q1f ((J4 i).map reqC) l
 simp only[Jj,List.length_range] at hlen
 refine q00.2 ⟨fun hlt=>?_,fun hge=>?_⟩
 ·have h64:I64 ((i:Int)+1):=⟨by omega,by omega⟩
  have:=q2w h64
  refine⟨q03,q3z h64 (g.fr hu.m.1) fun w1 hf1=>?_⟩
  rw[qji,q0i,q0i,q17]
  refine⟨by unfold maxI; simp[wReq]; omega,qao (x:=reqC i) (hu.fr hf1) (j:=0) rfl (by omega) fun w2 s2 h2=>⟨q03,⟨⟨rfl,rfl,rfl,trivial⟩,i+1,s2,by omega,by omega,?_⟩,by dsimp only; omega⟩⟩
  rw[List.range_succ,Jk,J1]
  exact h2
 ·have:i=t.reqs.length:=by omega
  subst this
  refine⟨s',hu.ld 0,?_⟩
  intro w1
  have h1:SpB w0 w1 ((u.heap.size,_) :: clL ob tb x s') s' _:=hu.allocL (vs:=q35.flatMap encB)
  clear_value w1
  refine h1.app (m:=q35) (Row.ow q0w (h1.row 0)).vw q4z rfl (by simp[q35]; omega) (by simp[q35]; omega) fun s2 w2 h2=>hK w2 s2 (SpB.mk' h2)
theorem q85 {K:Sl->World->Prop}{l:List B}(hx:TP w0 x t)(hF:Fit t)(g:GlT w0)(h:SpB w0 w (clL ob tb x s) s l)(hl:l.length<=2^24)
  (hK:∀ w' s',Mk w0 1 encB w' s' (((J4 t.reqs.length).map reqC).foldl addB ((t.crit.map fun c=>q0t c.name).foldl addB l)++q35)->K s' w'):z1p_l1 ⟨tb,0,none⟩ ⟨ob,0,none⟩ ⟨ob,0,none⟩ x.f2 (x.f2.l:Int) 0 K w:=by
 have h20:=hF.crit
 have el:=hx.crit.len
 refine⟨⟨fun i u=>∃ (i':Nat) (s':Sl),i=i'/\i'<=t.crit.length/\SpB w0 u (clL ob tb x s') s' (((t.crit.take i').map fun c=>q0t c.name).foldl addB l),fun i _=>t.crit.length-i.toNat,⟨0,s,rfl,by omega,by simpa using h⟩,?_⟩⟩
 rintro i u ⟨i,s',rfl,hi,hu⟩
 unfold z1p_b1
 have hlen:=q1f ((t.crit.take i).map fun c=>q0t c.name) l
 simp only[Jj,Jg] at hlen
 refine q00.2 ⟨fun hlt=>?_,fun hge=>?_⟩
 ·have hil:i<t.crit.length:=by omega
  have hn20:=(hF.cr _ (J2 hil)).1
  refine ldCr (hx.crit.fr hu.m.1) i rfl hil ?_
  intro w1
  have h1:SpB w0 w1 ((u.heap.size,_) :: clL ob tb x s') s' _:=hu.allocL (vs:=[.string (str []),.int .i64 0,.int .i64 0,.int .i64 0,.bool false])
  clear_value w1
  refine q3w (vs:=encC t.crit[i]) h1 0 rfl rfl fun w2 h2=>?_
  refine⟨_,h2.ld 0,?_⟩
  dsimp -zeta only; rw[qg3,q0i,q0i,q17]
  refine⟨by unfold maxI; simp[q1b]; omega,qao (x:=q0t t.crit[i].name) (h2.dr 1) (j:=0) rfl (by omega) fun w3 s3 h3=>⟨q03,⟨⟨rfl,rfl,rfl,rfl,rfl,trivial⟩,i+1,s3,by omega,by omega,?_⟩,by omega⟩⟩
  rw[J3,J0 hil,Jk,J1]
  exact h3
 ·have:i=t.crit.length:=by omega
  subst this
  rw[J7] at hu hlen
  refine⟨x.f3,hu.ld (i:=3) 1 rfl rfl,?_⟩
  have e3:(x.f3.l:Int)=(t.reqs.length:Int):=by rw[hx.reqs.len]
  dsimp -zeta only; rw[e3]
  exact q84 hx hF g hu (by omega) hK
theorem q1x {K:Sl->World->Prop}(hx:TP w x t)(hF:Fit t)(g:GlT w)(hK:∀ w' s',Mk w 1 encB w' s' (q02 t)->K s' w'):z1p_sh x K w:=by
 have h20:=hF.lots
 have el:=hx.lots.len
 refine⟨?_⟩
 intro w1
 have m:Mem w w1 [(w.heap.size,x.cs)]:=Mem.nil.allocL
 clear_value w1
 intro w2
 have m:Mem w w2 ((w1.heap.size,[q0n].flatMap encB) :: _):=m.allocL
 clear_value w2
 intro w3
 have m:Mem w w3 _:=m.allocL (cs:=[.slice none 0 0])
 clear_value w3
 refine⟨m.wr 0,?_⟩
 intro w4
 have m:Mem w w4 [(w2.heap.size,[.slice (some ⟨w1.heap.size,0,none⟩) 1 1]),(w1.heap.size,[q0n].flatMap encB),(w.heap.size,x.cs)]:=m.set (v:=.slice (some ⟨w1.heap.size,0,none⟩) 1 1) 0
 clear_value w4
 have hpw:=m.2.2.1
 have hge:=m.2.2.2
 have h4:SpB w w4 (clL w2.heap.size w.heap.size x ⟨some ⟨w1.heap.size,0,none⟩,1,1⟩) ⟨some ⟨w1.heap.size,0,none⟩,1,1⟩ [q0n]:=by
  refine SpB.of (m.subl (.cons_cons _ (.cons _ (List.Sublist.refl _)))) (Row.ow q0w (l:=[q0n]) (m.row 1)) fun b ⟨a,ha,hb⟩=>?_
  cases ha
  subst hb
  simp only[List.map_cons,List.map_nil,List.pairwise_cons,Jh,Jb,or_false,forall_eq_or_imp,forall_eq] at hpw
  refine⟨hge _ (List.mem_cons_of_mem _ List.mem_cons_self),fun p hp=>?_⟩
  simp only[clL,Jh,Jb,or_false] at hp
  rcases hp with rfl | rfl
  ·have:=hpw.1.1; simp only; omega
  ·have:=hpw.2.1; simp only; omega
 refine⟨x.f1,h4.ld (i:=1) 1 rfl rfl,⟨⟨fun i u=>∃ (i':Nat) (s':Sl),i=i'/\i'<=t.lots.length/\SpB w u (clL w2.heap.size w.heap.size x s') s' (((t.lots.take i').map fun l=>lotC l.1).foldl addB [q0n]),fun i _=>t.lots.length-i.toNat,⟨0,_,rfl,by omega,by simpa using h4⟩,?_⟩⟩⟩
 rintro i u ⟨i,s',rfl,hi,hu⟩
 unfold z1p_b0
 have hlen:=q1f ((t.lots.take i).map fun l=>lotC l.1) [q0n]
 simp only[Jj,Jg,Ja,Ji] at hlen
 refine q00.2 ⟨fun hlt=>?_,fun hge=>?_⟩
 ·have hil:i<t.lots.length:=by omega
  refine ldL (hx.lots.fr hu.m.1) i rfl hil ?_
  intro w5
  have h5:SpB w w5 ((u.heap.size,_) :: clL w2.heap.size w.heap.size x s') s' _:=hu.allocL (vs:=[.int .i64 0,.int .i64 0])
  clear_value w5
  refine⟨h5.wr 0,?_⟩
  intro w6
  have h6:=h5.set (i:=0) (v:=.int .i64 t.lots[i].1) 0
  change SpB w w6 _ _ _ at h6
  clear_value w6
  refine⟨h6.wr 0,?_⟩
  intro w7
  have h7:=h6.set (i:=1) (v:=.int .i64 t.lots[i].2) 0
  change SpB w w7 _ _ _ at h7
  clear_value w7
  refine⟨t.lots[i].1,h7.ld 0,q78 (hF.lot _ (J2 hil)).1 (g.fr h7.m.1) fun w8 hf8=>?_⟩
  refine qao ((h7.fr hf8).dr 1) (j:=0) rfl (by omega) fun w9 s9 h9=>⟨q03,⟨⟨rfl,rfl,rfl,rfl,rfl,trivial⟩,i+1,s9,by omega,by omega,?_⟩,by dsimp only; omega⟩
  rw[J3,J0 hil,Jk,J1]
  exact h9
 ·have:i=t.lots.length:=by omega
  subst this
  rw[J7] at hu hlen
  refine⟨x.f2,hu.ld (i:=2) 1 rfl rfl,q85 hx hF g hu (by omega) fun w' s2 h2=>hK w' s2 ?_⟩
  have e:q02 t=((J4 t.reqs.length).map reqC).foldl addB ((t.crit.map fun c=>q0t c.name).foldl addB ((t.lots.map fun l=>lotC l.1).foldl addB [q0n]))++q35:=by
   unfold q02 q8x
   rw[Jo,J1,J1]
   rfl
  rw[e]
  exact h2
theorem ldR {i:Int}{l:List Rq}{K:ByteArray->ByteArray->Int->Prop}(h:Vw 3 encR w s l)(i':Nat)(hi:i=(i':Int))(h1:i'<l.length)(hK:K (ofL l[i'].name) (ofL l[i'].rel) l[i'].val) :
  nz s.p fun a=>(0<=i/\i<(s.l:Nat))/\∃ x:ByteArray,w.cell? (a.add (i.toNat*3))=some (Value.string x)/\∃ y:ByteArray,w.cell? ((a.add (i.toNat*3)).add 1)=some (Value.string y)/\∃ z:Int,w.cell? ((a.add (i.toNat*3)).add 2)=some (Value.int .i64 z)/\K x y z :=
 Vw.go q1j (by decide) h i' hi h1 fun _ hc=>⟨_,hc 0 _ rfl,_,hc 1 _ rfl,_,hc 2 _ rfl,hK⟩
theorem q40 {k:Nat}{K:ByteArray->ByteArray->Int->World->Prop}(hx:TP w x t)(hF:Fit t)(hk:k<t.reqs.length)(hK:∀ w',Fr F0 w w'->K (ofL t.reqs[k].name) (ofL t.reqs[k].rel) t.reqs[k].val w'):z1u_sh x (ofL (reqC k)) K w:=by
 have h20:=hF.reqs
 refine⟨?_⟩
 intro w1
 have m:Mem w w1 [(w.heap.size,x.cs)]:=Mem.nil.allocL
 clear_value w1
 intro w2
 have m:Mem w w2 [(w1.heap.size,[.string (str []),.string (str []),.int .i64 0]),(w.heap.size,x.cs)]:=m.allocL
 clear_value w2
 rw[qji]
 have h64:I64 ((k:Int)+1):=⟨by omega,by omega⟩
 refine q7x (J6.2 ⟨_,rfl⟩) ?_
 have e:(reqC k).drop wReq.length=Lib.itoa ((k:Int)+1):=rfl
 rw[e]
 have hlen:=q2w h64
 refine qje (by omega) (q3v h64.1 h64.2) fun w3 hf3=>?_
 have m:=m.fr hf3
 refine⟨x.f3,m.ld (i:=3) 1 rfl rfl,q03,ldR (hx.reqs.fr m.1) k (by omega) hk ?_⟩
 refine qir m 0 rfl rfl fun w4 m=>?_
 exact⟨_,m.ld 0,_,m.ld 0,_,m.ld 0,hK w4 m.1⟩
end
end Go.Proofs.YtipjnbbfnlfmjaaGreatDoor
namespace Dp
theorem qeg {l:List B}{s:B}(h:s∈l):addB l s=l:=if_pos h
theorem qn0 {l:List B}{s:B}(h:s ∉ l):addB l s=l++[s]:=if_neg h
end Dp
namespace Go.Proofs.YtipjnbbfnlfmjaaGreatDoor
open Go Pw Dp
section
variable {w0 w w':World}{s s':Sl}{x:T43}{t:Td}
theorem qpe {l l':List Int}(h:Vw 1 encI w s l)(h':Vw 1 encI w s l'):l=l':=by
 refine List.ext_getElem (by rw[← h.len,h'.len]) fun i h1 h2=>?_
 obtain⟨a,ha,hc⟩:=h.at encI_length (J0 h1) (by decide)
 obtain⟨a',ha',hc'⟩:=h'.at encI_length (J0 h2) (by decide)
 rw[ha] at ha'
 cases ha'
 have e:=(hc 0 _ rfl).symm.trans (hc' 0 _ rfl)
 injection e with e
 injection e
theorem qjj {Z:List Sl}{f:Value}{p:Sl->Bool}{K:Sl->Bool->World->Prop}(hv:Vw 1 encZ w s Z)(hl:Z.length<2^62)(hp:∀ z∈Z,Dcs F0 f w [.slice z.p z.l z.c] (p z))(hK:∀ r w',Fr F0 w w'->K r (Z.any p) w'):z2j_sh s f K w:=by
 refine⟨?_⟩
 refine q7w hv hl hp fun r w1 hf hr=>?_
 rw[hr.lt]
 refine q04.2 ⟨fun h=>?_,fun h=>?_⟩
 ·have:Z.any p=false:=by simpa using h
  rw[← this]
  exact hK _ w1 hf
 ·have ha:Z.any p=true:=by simpa using h
  have hn:¬r<0:=by
   have:=hr.lt
   rw[ha] at this
   simpa using this
  obtain⟨i,hi,rfl,_⟩:=hr.find hn
  refine ldZ (hv.fr hf) i rfl hi ?_
  rw[← ha]
  exact hK _ w1 hf
theorem qeh {id:Int}{o:B}{ob:Nat}{K:Bool->World->Prop}(h:I64 id)(g:GlT w)(hr:Row w ob [.string (ofL o)])(hK:∀ w',Fr F0 w w'->K (decide (lotC id=o)) w'):z1h_sh id ⟨ob,0,none⟩ K w:=by
 refine⟨?_⟩
 intro w1
 have hf:Fr F0 w w1:=Fr.drew
 clear_value w1
 have hr1:=hf.row hr fun h=>h
 refine⟨fun u=>Fr F0 w1 u,Fr.refl,ofL o,fun u hu=>(hu.row hr1 fun h=>h).at rfl,q78 h (g.fr hf) fun w2 hf2=>⟨hf2,?_⟩⟩
 rw[q0h]
 exact hK w2 (hf.t hf2)
theorem qhg {l:List Int}{o:B}{ob:Nat}{K:Bool->World->Prop}(hv:Vw 1 encI w s l)(hl:l.length<=2^20)(hi:∀ i∈l,I64 i)(g:GlT w)(hr:Row w ob [.string (ofL o)])(hK:∀ w',Fr F0 w w'->K (l.any fun id=>decide (lotC id=o)) w'):z1y_sh s ⟨ob,0,none⟩ K w :=
 ⟨q2m hv (by omega) (p:=fun id=>decide (lotC id=o)) (fun i hi' u K' hu hK'=>q05 z1h_ok (qeh (hi i hi') (g.fr hu) (hu.row hr fun h=>h) hK')) hK⟩
theorem qap {l p:B}{K:ByteArray->Bool->World->Prop}(hK:∀ r b,b=p.isPrefixOf l->(b=true->r=ofL (l.drop p.length))->K r b w):z12_sh (ofL l) (ofL p) K w :=
 q8z (fun h=>hK _ _ h.symm fun _=>rfl) (fun h=>hK _ _ h.symm fun h'=>by cases h')
open Classical in
theorem qjk {c o:B}{K:Bool->World->Prop}(hx:TP w x t)(hF:Fit t)(g:GlT w)(hc:c∈q02 t)(hK:∀ w',Fr F0 w w'->K (q5k t c o) w'):z2l_sh x (ofL c) (ofL o) K w:=by
 have fin:∀ b w',Fr F0 w w'->q5k t c o=b->K b w':=fun b w' hf e=>e ▸ hK w' hf
 clear hK
 have hFr:=hF.reqs
 refine⟨?_⟩
 intro w1
 have m:Mem w w1 [(w.heap.size,x.cs)]:=Mem.nil.allocL
 clear_value w1
 intro w2
 have m:Mem w w2 [(w1.heap.size,[.string (ofL o)]),(w.heap.size,x.cs)]:=m.allocL
 clear_value w2
 have hx2:=hx.fr m.1
 have g2:=g.fr m.1
 have ro:=m.row 0
 refine⟨ofL o,ro.at,qap (p:=q1b) fun r5 r6 h6 h5=>⟨ofL o,ro.at,q1e (p:=wLot) (q1e (p:=wReq) (q04.2 ⟨fun hr=>?_,fun hr=>?_⟩))⟩⟩
 ·obtain⟨k,hk,rfl⟩:∃ k,k<t.reqs.length/\c=reqC k:=by
   rcases q39 hc with rfl | ⟨l,hl,rfl⟩ | ⟨x,_,rfl⟩ | h | hf
   ·exact absurd hr (by decide)
   ·exact absurd hr (by simp[lotC,wLot,wReq,Jp])
   ·exact absurd hr (by simp[q0t,wReq,q1b,Jp])
   ·exact h
   ·have:∀ o∈q35,wReq.isPrefixOf o=false:=by decide
    rw[this c hf] at hr
    cases hr
  have e:q5k t (reqC k) o=(q1b.isPrefixOf o && decide (t.reqs[k].name=o.drop 10)):=by
   unfold q5k
   rw[if_pos hr,q6g hk (by omega)]
   rfl
  refine q04.2 ⟨fun hb=>T43.ld_row (m.row 1 rfl) (q40 hx2 hF hk fun w3 hf3=>?_),fun hb=>fin _ w2 m.1 (by rw[e,← h6,hb]; rfl)⟩
  rw[h5 hb,show(ofL (o.drop q1b.length))=ofL (o.drop 10) from rfl,q0h]
  exact fin _ w3 (m.1.t hf3) (by rw[e,← h6,hb]; rfl)
 ·refine q00.2 ⟨fun h=>?_,fun n1=>q00.2 ⟨fun h=>?_,fun n2=>q00.2 ⟨fun h=>?_,fun n3=>q00.2 ⟨fun h=>?_,fun n4=>q00.2 ⟨fun h=>?_,fun n5=>?_⟩⟩⟩⟩⟩
  ·have h:c=q2t:=q0x.1 h
   subst h
   have e:q5k t q2t o=if o=q0y then decide (q1m∈t.fm.namesR) || decide (wLow∈t.fm.namesR) else q1b.isPrefixOf o && decide (o.drop 10∈t.fm.namesR):=rfl
   have rt:=m.row 1
   refine⟨x.f6,rt.at (i:=6) rfl,x.f7,rt.at (i:=7) rfl,x.f8,rt.at (i:=8) rfl,x.f9,rt.at (i:=9) rfl,x.f10,rt.at (i:=10) rfl,?_⟩
   refine qef (c:=⟨x.f6,x.f7,x.f8,x.f9,x.f10⟩) hx2.fm g2 (by have:=hF.fp; omega) fun w3 r l hm hl hlen=>?_
   have hF3:=m.1.t hm.fr0
   have hll:l.length<2^62:=by have:=hF.fp; omega
   have hd:∀ v:B,decide (v∈l)=decide (v∈t.fm.namesR):=fun v=>by rw[decide_eq_decide,hl]
   refine⟨ofL o,(hm.fr0.row ro fun h=>h).at rfl,q00.2 ⟨fun h=>?_,fun h=>?_⟩⟩
   ·have h:o=q0y:=q0x.1 h
    refine q0k (v:=q1m) hm.vw hll (q04.2 ⟨fun h1=>fin _ w3 hF3 ?_,fun h1=>q0k (v:=wLow) hm.vw hll (fin _ w3 hF3 ?_)⟩)
    ·rw[e,if_pos h,← hd,h1]; rfl
    ·rw[e,if_pos h,← hd,← hd,h1]; rfl
   ·have h:¬o=q0y:=fun e=>h (by rw[e]; rfl)
    refine q04.2 ⟨fun hb=>?_,fun hb=>fin _ w3 hF3 (by rw[e,if_neg h,← h6,hb]; rfl)⟩
    rw[h5 hb]
    refine q0k hm.vw hll (fin _ w3 hF3 ?_)
    rw[e,if_neg h,← h6,hb,← hd]
    rfl
  ·have h:c=q2u:=q0x.1 h
   subst h
   have e:q5k t q2u o=if o=q0y then decide (q1m∈t.ties) else q1b.isPrefixOf o && decide (o.drop 10∈t.ties):=rfl
   have rt:=m.row 1
   have hll:t.ties.length<2^62:=by have:=hF.ties; omega
   refine⟨ofL o,ro.at,q00.2 ⟨fun h=>⟨x.f11,rt.at (i:=11) rfl,q0k (v:=q1m) hx2.ties hll (fin _ w2 m.1 ?_)⟩,fun h=>?_⟩⟩
   ·have h:o=q0y:=q0x.1 h
    rw[e,if_pos h]
   ·have h:¬o=q0y:=fun e=>h (by rw[e]; rfl)
    refine q04.2 ⟨fun hb=>⟨x.f11,rt.at (i:=11) rfl,?_⟩,fun hb=>fin _ w2 m.1 (by rw[e,if_neg h,← h6,hb]; rfl)⟩
    rw[h5 hb]
    refine q0k hx2.ties hll (fin _ w2 m.1 ?_)
    rw[e,if_neg h,← h6,hb]
    rfl
  ·have h:c=q1v:=q0x.1 h
   subst h
   exact fin _ w2 m.1 rfl
  ·have h:c=q0o:=q0x.1 h
   subst h
   have e:q5k t q0o o=(wLot.isPrefixOf o || decide (o=q0f)):=rfl
   refine q04.2 ⟨fun hb=>fin _ w2 m.1 (by rw[e,hb]; rfl),fun hb=>⟨ofL o,ro.at,?_⟩⟩
   refine fin _ w2 m.1 ?_
   rw[e,hb]
   exact(q0h o q0f).symm
  ··have h:c=q0f:=q0x.1 h
    subst h
    have e:q5k t q0f o=t.combos.any (fun l=>l.any fun id=>decide (lotC id=o)):=rfl
    obtain⟨Z,hZ,hzl,hz⟩:=hx2.combos
    have rt:=m.row 1
    have hll:Z.length<2^62:=by have:=hF.combos; omega
    let p:Sl->Bool:=fun z=>decide (∃ l,Vw 1 encI w2 z l/\(l.any fun id=>decide (lotC id=o))=true)
    have hpz:∀ i (h:i<Z.length) (h':i<t.combos.length),p Z[i]=t.combos[i].any fun id=>decide (lotC id=o):=fun i h h'=>by
     rw[Ju]
     simp only[p,decide_eq_true_eq]
     exact⟨fun⟨l,hl,ha⟩=>by rw[qpe (hz i h h') hl]; exact ha,fun ha=>⟨_,hz i h h',ha⟩⟩
    refine⟨x.f13,rt.at (i:=13) rfl,qjj hZ hll (p:=p) (fun z hzm u K' hu hK'=>?_) fun r w3 hf3=>fin _ w3 (m.1.t hf3) ?_⟩
    ·obtain⟨i,hi,rfl⟩:=J9.1 hzm
     have hi':i<t.combos.length:=by omega
     obtain⟨c1,c2⟩:=hF.combo _ (J2 hi')
     rw[hpz i hi hi'] at hK'
     exact q05 z1y_ok (qhg ((hz i hi hi').fr hu) c1 c2 (g2.fr hu) (hu.row ro fun h=>h) hK')
    ·rw[e,Ju,Jn,Jn]
     constructor
     ·rintro⟨l,hl,ha⟩
      obtain⟨i,hi,rfl⟩:=J9.1 hl
      exact⟨Z[i]'(by omega),J2 _,by rw[hpz i (by omega) hi]; exact ha⟩
     ·rintro⟨z,hzm,ha⟩
      obtain⟨i,hi,rfl⟩:=J9.1 hzm
      exact⟨t.combos[i]'(by omega),J2 _,by rw[hpz i hi (by omega)] at ha; exact ha⟩
  ··refine fin _ w2 m.1 ?_
    have k1:¬c=q2t:=fun e=>n1 (by rw[e]; rfl)
    have k2:¬c=q2u:=fun e=>n2 (by rw[e]; rfl)
    have k3:¬c=q1v:=fun e=>n3 (by rw[e]; rfl)
    have k4:¬c=q0o:=fun e=>n4 (by rw[e]; rfl)
    have k5:¬c=q0f:=fun e=>n5 (by rw[e]; rfl)
    unfold q5k
    rw[if_neg (by rw[hr]; decide),if_neg k1,if_neg k2,if_neg k3,if_neg k4,if_neg k5]
theorem qjl {c:B}{K:Sl->World->Prop}(hx:TP w x t)(hF:Fit t)(g:GlT w)(hK:∀ w' r,Mk w 1 encB w' r (uses t c)->K r w'):z2h_sh x (ofL c) K w:=by
 have hcl:=q0l t
 have h1:=hF.lots
 have h2:=hF.crit
 have h3:=hF.reqs
 refine⟨?_⟩
 intro w1
 have m:Mem w w1 [(w.heap.size,x.cs)]:=Mem.nil.allocL
 clear_value w1
 intro w2
 have m:Mem w w2 [(w1.heap.size,[.string (ofL c)]),(w.heap.size,x.cs)]:=m.allocL
 clear_value w2
 refine T43.ld_row (m.row 1 rfl) (q1x (hx.fr m.1) hF (g.fr m.1) fun w3 r hm=>?_)
 have m3:=m.fr hm.fr0
 refine⟨ofL c,m3.ld 0,q0k hm.vw (by omega) (q04.2 ⟨fun h=>?_,fun h=>?_⟩)⟩
 ·refine hK w3 _ ?_
  have:c ∉ q02 t:=by simpa using h
  unfold uses
  rw[if_neg this]
  exact Mk.nil m3.1
 ·have hc:c∈q02 t:=by simpa using h
  have hw1:=(m.row 0).lt
  have hw0:=(m.row 1).lt
  have hb0:¬inB r w.heap.size:=fun hb=>by have:=hm.nw _ hb; omega
  have hb1:¬inB r w1.heap.size:=fun hb=>by have:=hm.nw _ hb; omega
  refine q2c hm (by omega) (p:=fun o=>!q5k t c o) (fun o ho u K' hu hK'=>q05 z1x_ok ⟨?_⟩) fun r' w4 hm4 hf4 hi4=>hK w4 r' ?_
  ·have hFu:Fr F0 w u:=m.1.t (Fr.new hm hu)
   refine T43.ld_row (hu.row (m3.row 1) hb0) ⟨ofL c,(hu.row (m3.row 0) hb1).at rfl,qjk (hx.fr hFu) hF (g.fr hFu) hc fun w' hf'=>hK' w' hf'⟩
  ·have e:uses t c=(q02 t).filter fun o=>!(!q5k t c o):=by
    unfold uses
    rw[if_pos hc]
    exact Jd fun o ho=>by rw[Jv,qp8 (by omega) hc ho]
   rw[e]
   exact⟨m.1.t hm4.fr0,hm4.ow,fun b hb=>Jq m.1.1 (hm4.nw b hb)⟩
theorem q9q {x y:T43}{a b:Td}{K:Sl->World->Prop}(hx:TP w x a)(hy:TP w y b)(hA:Fit a)(hB:Fit b)(g:GlT w)(hK:∀ w' r,Mk w 1 encB w' r (both a b)->K r w'):z2i_sh x y K w:=by
 have ha:=q0l a
 have hb:=q0l b
 have a1:=hA.lots; have a2:=hA.crit; have a3:=hA.reqs
 have b1:=hB.lots; have b2:=hB.crit; have b3:=hB.reqs
 refine⟨?_⟩
 intro w1
 have m:Mem w w1 [(w.heap.size,x.cs)]:=Mem.nil.allocL
 clear_value w1
 intro w2
 have m:Mem w w2 [(w1.heap.size,y.cs),(w.heap.size,x.cs)]:=m.allocL
 clear_value w2
 refine T43.ld_row (m.row 0 rfl) (q1x (hy.fr m.1) hB (g.fr m.1) fun w3 r hm=>?_)
 have m3:=m.fr hm.fr0
 refine T43.ld_row (m3.row 1 rfl) (q1x (hx.fr m3.1) hA (g.fr m3.1) fun w4 q hq=>?_)
 have hel:=hq.len
 rw[hel]
 have hr4:Mk w2 1 encB w4 r (q02 b):=hm.fr hq.fr0
 have hqn:∀ b,inB q b->w3.heap.size<=b:=hq.nw
 have hrn:∀ c,inB r c->c<w3.heap.size:=fun c hc=>hm.ow.lt' hc
 refine⟨⟨fun out i u=>∃ i':Nat,i=i'/\i'<=(q02 a).length/\Mk w2 1 encB u out (((q02 a).take i').foldl addB (q02 b))/\Ow 1 encB u q (q02 a)/\∀ c,inB out c->¬inB q c,fun _ i _=>(q02 a).length-i.toNat,⟨0,rfl,by omega,by simpa using hr4,hq.ow,fun c h1 h2=>by have:=hrn c h1; have:=hqn c h2; omega⟩,?_⟩⟩
 rintro out i u ⟨i,rfl,hi,hu,hv,hd⟩
 unfold z2i_b0
 have hlen:=q1f ((q02 a).take i) (q02 b)
 simp only[Jg] at hlen
 refine q00.2 ⟨fun hlt=>?_,fun hge=>?_⟩
 ·have hil:i<(q02 a).length:=by omega
  refine ldB hv.vw i rfl hil (q0k hu.vw (by omega) (q04.2 ⟨fun h=>?_,fun h=>?_⟩))
  ·have hn:(q02 a)[i] ∉ ((q02 a).take i).foldl addB (q02 b):=by simpa using h
   have hqlt:∀ c,inB q c->c<u.heap.size:=fun c hc=>hv.lt' hc
   intro w5
   have hf5:Fr F0 u w5:=Fr.alloc
   have hx5:Vw 1 encB w5 ⟨some ⟨u.heap.size,0,none⟩,1,1⟩ [(q02 a)[i]]:=Vw.new rfl rfl
   clear_value w5
   refine(hu.fr hf5).ow.app hx5 q4z rfl (by simp; omega) (by simp; omega) fun s6 w7 h7 hf7 hi7=>?_
   have hq7:Ow 1 encB w7 q (q02 a):=(hv.fr hf5).frF hf7 fun c h1 h2=>hd c h2 h1
   refine⟨q03,⟨⟨rfl,rfl,trivial⟩,i+1,by omega,by omega,?_,hq7,fun c h1 h2=>?_⟩,by dsimp only; omega⟩
   ·rw[J3,J0 hil,J1]
    rw[← qn0 hn] at h7
    refine⟨Fr.new (hu.fr hf5) hf7,h7,fun c hc=>?_⟩
    rcases hi7 c hc with h | h
    ·exact hu.nw c h
    ·have:=hu.fr0.1; have:=hf5.1; omega
   ·rcases hi7 c h1 with h | h
    ·exact hd c h h2
    ·have:=hqlt c h2; have:=hf5.1; omega
  ·have hn:(q02 a)[i]∈((q02 a).take i).foldl addB (q02 b):=by simpa using h
   refine⟨q03,⟨⟨rfl,rfl,trivial⟩,i+1,by omega,by omega,?_,hv,hd⟩,by dsimp only; omega⟩
   rw[J3,J0 hil,J1]
   rw[← qeg hn] at hu
   exact hu
 ·have:i=(q02 a).length:=by omega
  subst this
  rw[J7] at hu
  exact hK u out ⟨m.1.t hu.fr0,hu.ow,fun b hb=>Jq m.1.1 (hu.nw b hb)⟩
end
end Go.Proofs.YtipjnbbfnlfmjaaGreatDoor
namespace Dp
open Go Pw
def hop:Fm->B
 | .num _ _=>wNum
 | .name _=>q0n
 | .op o _ _=>opB o
def hnn:Fm->Int
 | .num n _=>n
 | _=>0
def hdd:Fm->Int
 | .num _ d=>d
 | _=>0
def hnm:Fm->B
 | .name s=>s
 | _=>[]
theorem qg4:∀ o:Fin 6,opB o≠wNum/\opB o≠q0n:=by decide
theorem qpf:∀ o o':Fin 6,opB o=opB o'->o=o':=by decide
theorem qjm:∀ a b:Fm,a=b ↔ (hop a=hop b/\hnn a=hnn b/\hdd a=hdd b/\hnm a=hnm b/\a.kids=b.kids)
 | .num n d,.num n' d'=>by simp[hop,hnn,hdd,hnm,Fm.kids]
 | .num n d,.name s=>by simp[hop,wNum,q0n]
 | .num n d,.op o a b=>by
  have:=(qg4 o).1
  simp[hop,Ne.symm this]
 | .name s,.num n d=>by simp[hop,wNum,q0n]
 | .name s,.name s'=>by simp[hop,hnn,hdd,hnm,Fm.kids]
 | .name s,.op o a b=>by
  have:=(qg4 o).2
  simp[hop,Ne.symm this]
 | .op o a b,.num n d=>by
  have:=(qg4 o).1
  simp[hop,this]
 | .op o a b,.name s=>by
  have:=(qg4 o).2
  simp[hop,this]
 | .op o a b,.op o' a' b'=>by
  simp only[Fm.op.injEq,hop,hnn,hdd,hnm,Fm.kids,List.cons.injEq,and_true,true_and]
  constructor
  ·rintro⟨rfl,rfl,rfl⟩
   exact⟨rfl,rfl,rfl⟩
  ·rintro⟨h1,h2,h3⟩
   exact⟨qpf _ _ h1,h2,h3⟩
theorem qpg {l m:List Fm}:decide (l=m)=(decide (l.length=m.length) && (J4 l.length).all fun i=>decide (l[i]?=m[i]?)):=by
 rw[Ju]
 simp only[decide_eq_true_eq,Jx,Jc,Je]
 constructor
 ·rintro rfl
  exact⟨rfl,fun _ _=>rfl⟩
 ·rintro⟨h,h'⟩
  apply Jf
  intro i
  rcases Jr i l.length with hi | hi
  ·exact h' i hi
  ·rw[J5 hi,J5 (by omega)]
end Dp
namespace Go.Proofs.YtipjnbbfnlfmjaaGreatDoor
open Go Pw Dp
section
variable {w0 w w':World}{s s':Sl}{x y:T43}{a b:Td}
theorem XP.head {w:World}:∀ {e:Fm} {c:XC},XP w e c->c.op=ofL (hop e)/\c.n=hnn e/\c.d=hdd e/\c.nm=ofL (hnm e)
 | .num n d,c,h=>by obtain⟨rfl,_⟩:=h; exact⟨rfl,rfl,rfl,rfl⟩
 | .name s,c,h=>by obtain⟨rfl,_⟩:=h; exact⟨rfl,rfl,rfl,rfl⟩
 | .op o a b,c,h=>by obtain⟨_,_,⟨h1,h2,h3,h4⟩,_⟩:=h; exact⟨h1,h2,h3,h4⟩
def aggX (c:XC):Value:=.agg #[.string c.op,.int .i64 c.n,.int .i64 c.d,.string c.nm,.slice c.a.p c.a.l c.a.c]
theorem q86 {l m:List XC}{f:Value}{p:Nat->Bool}{K:Bool->World->Prop}(hv:Vw 5 encX w s l)(hv':Vw 5 encX w s' m)(hl:l.length<2^62)
  (hp:∀ i (h:i<l.length) (h':i<m.length),Dcs F0 f w [aggX l[i],aggX m[i]] (p i)) (hK:∀ w',Fr F0 w w'->K (decide (l.length=m.length) && (J4 l.length).all p) w'):z08_sh s s' f K w:=by
 have el:=hv.len
 have el':=hv'.len
 refine⟨?_⟩
 refine q1s.2 ⟨fun hne=>?_,fun he=>?_⟩
 ·have:decide (l.length=m.length)=false:=decide_eq_false fun e=>hne (by rw[el,el',e])
  rw[this] at hK
  exact hK w Fr.refl
 have he:l.length=m.length:=by omega
 rw[decide_eq_true he,Jy] at hK
 refine⟨⟨fun i u=>∃ i':Nat,i=i'/\i'<=l.length/\Fr F0 w u/\∀ j,j<i'->p j=true,fun i _=>l.length-i.toNat,⟨0,rfl,by omega,Fr.refl,fun j h=>by omega⟩,?_⟩⟩
 rintro i u ⟨i,rfl,hi,hf,hb⟩
 unfold z08_b0
 refine q00.2 ⟨fun hlt=>?_,fun hge=>?_⟩
 ·have hil:i<l.length:=by omega
  refine ldX (hv.fr hf) i rfl hil ?_
  refine q11 (vs:=encX l[i]) rfl Mem.nil fun u1 m1=>?_
  refine ldX ((hv'.fr hf).fr m1.1) i rfl (by omega) ?_
  refine q11 (vs:=encX (m[i]'(by omega))) rfl m1 fun u2 m2=>?_
  have r1:=m2.row 1
  have r2:=m2.row 0
  refine⟨_,r1.at,_,r1.at,_,r1.at,_,r1.at,l[i].a,r1.at,_,r2.at,_,r2.at,_,r2.at,_,r2.at,(m[i]'(by omega)).a,r2.at,?_⟩
  refine hp i hil (by omega) u2 _ (hf.t m2.1) fun u3 hf3=>⟨p i,rfl,?_⟩
  have hF:=hf.t (m2.1.t hf3)
  cases hpi:p i with
  | true =>
   refine⟨q03,⟨⟨rfl,rfl,rfl,rfl,trivial⟩,i+1,by omega,by omega,hF,fun j hj=>?_⟩,by dsimp only; omega⟩
   rcases Jr j i with h' | h'
   ·exact hb j h'
   ·have:j=i:=by omega
    subst this
    exact hpi
  | false =>
   have:(J4 l.length).all p=false:=Jm.2 ⟨i,by simpa using hil,by simp[hpi]⟩
   rw[this] at hK
   exact hK u3 hF
 ·have:(J4 l.length).all p=true:=Jc.2 fun j hj=>hb j (by have:=Je.1 hj; omega)
  rw[this] at hK
  exact hK u hf
theorem q87 {l m:List Sl}{f:Value}{p:Nat->Bool}{K:Bool->World->Prop}(hv:Vw 1 encZ w s l)(hv':Vw 1 encZ w s' m)(hl:l.length<2^62)
  (hp:∀ i (h:i<l.length) (h':i<m.length),Dcs F0 f w [.slice l[i].p l[i].l l[i].c,.slice m[i].p m[i].l m[i].c] (p i)) (hK:∀ w',Fr F0 w w'->K (decide (l.length=m.length) && (J4 l.length).all p) w'):z1d_sh s s' f K w:=by
 have el:=hv.len
 have el':=hv'.len
 refine⟨?_⟩
 refine q1s.2 ⟨fun hne=>?_,fun he=>?_⟩
 ·have:decide (l.length=m.length)=false:=decide_eq_false fun e=>hne (by rw[el,el',e])
  rw[this] at hK
  exact hK w Fr.refl
 have he:l.length=m.length:=by omega
 rw[decide_eq_true he,Jy] at hK
 refine⟨⟨fun i u=>∃ i':Nat,i=i'/\i'<=l.length/\Fr F0 w u/\∀ j,j<i'->p j=true,fun i _=>l.length-i.toNat,⟨0,rfl,by omega,Fr.refl,fun j h=>by omega⟩,?_⟩⟩
 rintro i u ⟨i,rfl,hi,hf,hb⟩
 unfold z1d_b0
 refine q00.2 ⟨fun hlt=>?_,fun hge=>?_⟩
 ·have hil:i<l.length:=by omega
  refine ldZ (hv.fr hf) i rfl hil (ldZ (hv'.fr hf) i rfl (by omega) (hp i hil (by omega) u _ hf fun u3 hf3=>⟨p i,rfl,?_⟩))
  have hF:=hf.t hf3
  cases hpi:p i with
  | true =>
   refine⟨q03,⟨⟨rfl,rfl,rfl,rfl,trivial⟩,i+1,by omega,by omega,hF,fun j hj=>?_⟩,by dsimp only; omega⟩
   rcases Jr j i with h' | h'
   ·exact hb j h'
   ·have:j=i:=by omega
    subst this
    exact hpi
  | false =>
   have:(J4 l.length).all p=false:=Jm.2 ⟨i,by simpa using hil,by simp[hpi]⟩
   rw[this] at hK
   exact hK u3 hF
 ·have:(J4 l.length).all p=true:=Jc.2 fun j hj=>hb j (by have:=Je.1 hj; omega)
  rw[this] at hK
  exact hK u hf
def Sam (e:Fm):Prop:=∀ {e':Fm} {c c':XC} {w:World} {K:Bool->World->Prop},XP w e c->XP w e' c'->(∀ w',Fr F0 w w'->K (decide (e=e')) w')->z2k_sh c.op c.n c.d c.nm c.a c'.op c'.n c'.d c'.nm c'.a K w
theorem q88 {e:Fm}(hk:∀ k∈e.kids,Sam k):Sam e:=by
 intro e' c c' w K hx hx' hK
 obtain⟨cs,hcv,hcl,hck⟩:=hx.kids
 obtain⟨ds,hdv,hdl,hdk⟩:=hx'.kids
 obtain⟨h1,h2,h3,h4⟩:=hx.head
 obtain⟨g1,g2,g3,g4⟩:=hx'.head
 have hk2:e.kids.length<=2:=by cases e<;>simp[Fm.kids]
 refine z2k_mk _ _ _ _ _ _ _ _ _ _ _ _ _ _ ?_
 unfold z2k_sd
 intro w1
 have m:Mem w w1 [(w.heap.size,encX c)]:=Mem.nil.allocL
 clear_value w1
 intro w2
 have m:Mem w w2 [(w1.heap.size,encX c'),(w.heap.size,encX c)]:=m.allocL
 clear_value w2
 have r1:=m.row 1
 have r2:=m.row 0
 refine⟨_,r1.at,_,r2.at,?_⟩
 dsimp -zeta only; rw[h1,g1,q0h]
 refine q00.2 ⟨fun q1=>⟨_,r1.at,_,r1.at,_,r2.at,_,r2.at,?_⟩,fun q1=>?_⟩
 ·have e2:(c.n == c'.n && (c.d == c'.d && true))=decide (hnn e=hnn e'/\hdd e=hdd e'):=by rw[h2,g2,h3,g3,Ju]; simp
  dsimp -zeta only; rw[e2]
  refine q00.2 ⟨fun q2=>⟨_,r1.at,_,r2.at,?_⟩,fun q2=>?_⟩
  ·dsimp -zeta only; rw[h4,g4,q0h]
   refine q00.2 ⟨fun q3=>⟨c.a,r1.at,c'.a,r2.at,?_⟩,fun q3=>?_⟩
   ·refine q86 (hcv.fr m.1) (hdv.fr m.1) (by omega) (p:=fun i=>decide (e.kids[i]?=e'.kids[i]?)) (fun i hi hi' u K' hu hK'=>?_) fun w3 hf3=>?_
    ·have hi1:i<e.kids.length:=by omega
     have hi2:i<e'.kids.length:=by omega
     have ee:decide (e.kids[i]?=e'.kids[i]?)=decide (e.kids[i]=e'.kids[i]):=by rw[J0 hi1,J0 hi2,decide_eq_decide]; simp
     rw[ee] at hK'
     exact q05 z2k_okr (hk _ (J2 hi1) ((hck i hi hi1).fr (m.1.t hu)) ((hdk i hi' hi2).fr (m.1.t hu)) hK')
    ·have ee:(decide (cs.length=ds.length) && (J4 cs.length).all fun i=>decide (e.kids[i]?=e'.kids[i]?))=decide (e=e'):=by
      rw[hcl,hdl,← qpg,decide_eq_decide,qjm e e']
      exact⟨fun h=>⟨q1,q2.1,q2.2,q3,h⟩,fun h=>h.2.2.2.2⟩
     rw[ee]
     exact hK w3 (m.1.t hf3)
   ·have:decide (e=e')=false:=decide_eq_false fun h=>q3 ((qjm e e').1 h).2.2.2.1
    rw[this] at hK
    exact hK w2 m.1
  ·have:decide (e=e')=false:=decide_eq_false fun h=>q2 ⟨((qjm e e').1 h).2.1,((qjm e e').1 h).2.2.1⟩
   rw[this] at hK
   exact hK w2 m.1
 ·have:decide (e=e')=false:=decide_eq_false fun h=>q1 ((qjm e e').1 h).1
  rw[this] at hK
  exact hK w2 m.1
theorem qjn:∀ e:Fm,Sam e:=by
 intro e
 induction e with
 | num n d=>exact q88 fun k hk=>by cases hk
 | name s=>exact q88 fun k hk=>by cases hk
 | op o a b iha ihb =>
  refine q88 fun k hk=>?_
  simp only[Fm.kids,Jh,Jb,or_false] at hk
  rcases hk with rfl | rfl
  ·exact iha
  ·exact ihb
theorem q9r {l:List (Int × Int)}{f:Value}{p:Int × Int->Bool}{K:Int->Int->Bool->World->Prop}(hv:Vw 2 encL w s l)(hl:l.length<2^62)(hp:∀ z∈l,Dcs F0 f w [.agg #[.int .i64 z.1,.int .i64 z.2]] (p z))
  (hK:∀ r w',Fr F0 w w'->K ((l.find? p).getD (0,0)).1 ((l.find? p).getD (0,0)).2 r w'):z0p_sh s f K w:=by
 refine⟨?_⟩
 intro w1
 have m:Mem w w1 [(w.heap.size,[.int .i64 0,.int .i64 0])]:=Mem.nil.allocL
 clear_value w1
 refine q29 (hv.fr m.1) hl (fun z hz=>(hp z hz).fr m.1) fun r w2 hf hr=>q00.2 ⟨fun h=>?_,fun h=>?_⟩
 ·have m:=m.fr hf
  refine⟨0,m.ld 0,0,m.ld 0,put2 (k1:=.i64) (k2:=.i64) m 0 rfl fun w3 hf3=>?_⟩
  have:=hK false w3 hf3
  rw[hr.none h] at this
  exact this
 ·have m:=m.fr hf
  obtain⟨i,hi,rfl,hfd⟩:=hr.find h
  refine ldL (hv.fr m.1) i rfl hi (put2 (k1:=.i64) (k2:=.i64) m 0 rfl fun w3 hf3=>?_)
  have:=hK true w3 hf3
  rw[hfd] at this
  exact this
theorem q9s {l:List Cr}{f:Value}{p:Cr->Bool}{K:ByteArray->Int->Int->Int->Bool->Bool->World->Prop}(hv:Vw 5 encC w s l)(hl:l.length<2^62)(hp:∀ z∈l,Dcs F0 f w [.agg #[.string (ofL z.name),.int .i64 z.kind,.int .i64 z.low,.int .i64 z.high,.bool z.less]] (p z))
  (hK:∀ r w',Fr F0 w w'->(fun c:Cr=>K (ofL c.name) c.kind c.low c.high c.less r w') ((l.find? p).getD ⟨[],0,0,0,false⟩)):z06_sh s f K w:=by
 refine⟨?_⟩
 intro w1
 have m:Mem w w1 [(w.heap.size,encC ⟨[],0,0,0,false⟩)]:=Mem.nil.allocL (cs:=encC ⟨[],0,0,0,false⟩)
 clear_value w1
 refine q2a (hv.fr m.1) hl (fun z hz=>(hp z hz).fr m.1) fun r w2 hf hr=>q00.2 ⟨fun h=>?_,fun h=>?_⟩
 ·have m:=m.fr hf
  refine⟨_,m.ld 0,_,m.ld 0,_,m.ld 0,_,m.ld 0,_,m.ld 0,qir (vs:=encC ⟨[],0,0,0,false⟩) m 0 rfl rfl fun w3 m=>?_⟩
  refine⟨_,m.ld 0,_,m.ld 0,_,m.ld 0,_,m.ld 0,_,m.ld 0,?_⟩
  have:=hK false w3 m.1
  rw[hr.none h] at this
  exact this
 ·have m:=m.fr hf
  obtain⟨i,hi,rfl,hfd⟩:=hr.find h
  refine ldCr (hv.fr m.1) i rfl hi (qir (vs:=encC l[i]) m 0 rfl rfl fun w3 m=>?_)
  refine⟨_,m.ld 0,_,m.ld 0,_,m.ld 0,_,m.ld 0,_,m.ld 0,?_⟩
  have:=hK true w3 m.1
  rw[hfd] at this
  exact this
end
section
variable {w0 w w':World}{s s':Sl}{x y:T43}{a b:Td}
theorem _root_.Pw.Ext.f0 {w w':World}(h:Ext w w'):Fr F0 w w':=⟨h.1,fun b hb _=>h.2.1 b hb,h.2.2⟩
theorem _root_.Pw.Fr.ext {w w':World}(h:Fr F0 w w'):Ext w w':=⟨h.1,fun b hb=>h.2.1 b hb fun h=>h,h.2.2⟩
theorem rq_eq (r r':Rq):(decide (ofL r.name=ofL r'.name) && (decide (ofL r.rel=ofL r'.rel) && (r.val == r'.val && true)))=decide (some r=some r'):=by
 obtain⟨n,l,v⟩:=r
 obtain⟨n',l',v'⟩:=r'
 rw[Ju]
 simp[q0x]
theorem cr_eq (r r':Cr):(decide (ofL r.name=ofL r'.name) && (r.kind == r'.kind && (r.low == r'.low && (r.high == r'.high && (r.less == r'.less && true)))))=decide (r=r'):=by
 obtain⟨n,l,v,h,b⟩:=r
 obtain⟨n',l',v',h',b'⟩:=r'
 rw[Ju]
 simp[q0x]
theorem q89 {p:Int × Int}{c:B}{cb:Nat}{K:Bool->World->Prop}(h:I64 p.1)(g:GlT w)(hr:Row w cb [.string (ofL c)])(hK:∀ w',Fr F0 w w'->K (decide (lotC p.1=c)) w'):z1s_sh p.1 p.2 ⟨cb,0,none⟩ K w:=by
 refine⟨?_⟩
 intro w1
 have m:Mem w w1 [(w.heap.size,[.int .i64 p.1,.int .i64 p.2])]:=Mem.nil.allocL
 clear_value w1
 intro w2
 have m:Mem w w2 _:=m.drew
 clear_value w2
 have hr2:=m.1.row hr fun h=>h
 have hb2:=m.row 0
 refine⟨fun u=>Fr F0 w2 u,Fr.refl,p.1,fun u hu=>(hu.row hb2 fun h=>h).at rfl,ofL c,fun u hu=>(hu.row hr2 fun h=>h).at rfl,q78 h (g.fr m.1) fun w3 hf3=>⟨hf3,?_⟩⟩
 rw[q0h]
 exact hK w3 (m.1.t hf3)
theorem q8a {p:Cr}{c:B}{cb:Nat}{K:Bool->World->Prop}(h:p.name.length<=2^20)(hr:Row w cb [.string (ofL c)])(hK:∀ w',Fr F0 w w'->K (decide (q0t p.name=c)) w'):z1t_sh (ofL p.name) p.kind p.low p.high p.less ⟨cb,0,none⟩ K w:=by
 refine⟨?_⟩
 intro w1
 have m:Mem w w1 [(w.heap.size,encC p)]:=Mem.nil.allocL
 clear_value w1
 have hr2:=m.1.row hr fun h=>h
 refine⟨_,m.ld 0,?_⟩
 dsimp -zeta only; rw[qg3,q0i,q0i,q17]
 refine⟨by unfold maxI; simp[q1b]; omega,ofL c,hr2.at,?_⟩
 dsimp -zeta only; rw[q0h]
 exact hK w1 m.1
theorem qhh {c:B}{K:Bool->World->Prop}(hx:TP w x a)(hy:TP w y b)(hA:Fit a)(hB:Fit b)(g:GlT w)(hc:c∈q02 a)(hc':c∈q02 b)(hK:∀ w',Fr F0 w w'->K (eqc a b c) w'):z25_sh x y (ofL c) K w:=by
 have fin:∀ r w',Fr F0 w w'->eqc a b c=r->K r w':=fun r w' hf e=>e ▸ hK w' hf
 clear hK
 have a1:=hA.lots; have a2:=hA.crit; have a3:=hA.reqs; have a4:=hA.ties; have a5:=hA.combos
 have b1:=hB.lots; have b2:=hB.crit; have b3:=hB.reqs; have b5:=hB.combos
 refine⟨?_⟩
 intro w1
 have m:Mem w w1 [(w.heap.size,x.cs)]:=Mem.nil.allocL
 clear_value w1
 intro w2
 have m:Mem w w2 [(w1.heap.size,y.cs),(w.heap.size,x.cs)]:=m.allocL
 clear_value w2
 intro w3
 have m:Mem w w3 [(w2.heap.size,[.string (ofL c)]),(w1.heap.size,y.cs),(w.heap.size,x.cs)]:=m.allocL
 clear_value w3
 have rc:=m.row 0
 have ry:=m.row 1
 have rx:=m.row 2
 have hx3:=hx.fr m.1
 have hy3:=hy.fr m.1
 have g3:=g.fr m.1
 refine⟨ofL c,rc.at,q00.2 ⟨fun h=>?_,fun n1=>q00.2 ⟨fun h=>?_,fun n2=>q00.2 ⟨fun h=>?_,fun n3=>q00.2 ⟨fun h=>?_,fun n4=>q00.2 ⟨fun h=>?_,fun n5=>q00.2 ⟨fun h=>?_,fun n6=>q00.2 ⟨fun h=>?_,fun n7=>q00.2 ⟨fun h=>?_,fun n8=>?_⟩⟩⟩⟩⟩⟩⟩⟩⟩
 ·have h:c=q0n:=q0x.1 h
  subst h
  refine⟨x.f0,rx.at (i:=0) rfl,y.f0,ry.at (i:=0) rfl,fin _ w3 m.1 ?_⟩
  rw[hx.name,hy.name,q0h]
  rfl
 ·have h:c=q0y:=q0x.1 h
  subst h
  have e:eqc a b q0y=(decide (a.low=b.low) && decide (a.high=b.high)):=rfl
  refine⟨x.f4,rx.at (i:=4) rfl,y.f4,ry.at (i:=4) rfl,q09.2 ⟨fun h=>⟨x.f5,rx.at (i:=5) rfl,y.f5,ry.at (i:=5) rfl,fin _ w3 m.1 ?_⟩,fun h=>fin _ w3 m.1 ?_⟩⟩
  ·rw[hx.low,hy.low] at h
   rw[e,h,hx.high,hy.high,Ju]
   simp
  ·rw[hx.low,hy.low] at h
   rw[e,decide_eq_false h]
   rfl
 ·have h:c=q2t:=q0x.1 h
  subst h
  refine⟨x.f6,rx.at (i:=6) rfl,x.f7,rx.at (i:=7) rfl,x.f8,rx.at (i:=8) rfl,x.f9,rx.at (i:=9) rfl,x.f10,rx.at (i:=10) rfl,y.f6,ry.at (i:=6) rfl,y.f7,ry.at (i:=7) rfl,y.f8,ry.at (i:=8) rfl,y.f9,ry.at (i:=9) rfl,y.f10,ry.at (i:=10) rfl,?_⟩
  exact qjn a.fm (c:=⟨x.f6,x.f7,x.f8,x.f9,x.f10⟩) (c':=⟨y.f6,y.f7,y.f8,y.f9,y.f10⟩) hx3.fm hy3.fm fun w4 hf4=>fin _ w4 (m.1.t hf4) rfl
 ·have h:c=q2u:=q0x.1 h
  subst h
  exact⟨x.f11,rx.at (i:=11) rfl,y.f11,ry.at (i:=11) rfl,qe7 hx3.ties hy3.ties (by omega) fun w4 hf4=>fin _ w4 (m.1.t hf4) rfl⟩
 ·have h:c=q1v:=q0x.1 h
  subst h
  refine⟨x.f12,rx.at (i:=12) rfl,y.f12,ry.at (i:=12) rfl,fin _ w3 m.1 ?_⟩
  rw[hx.most,hy.most]
  rfl
 ·have h:c=q0f:=q0x.1 h
  subst h
  obtain⟨Z,hZ,hzl,hz⟩:=hx3.combos
  obtain⟨Y,hY,hyl,hyz⟩:=hy3.combos
  have e:eqc a b q0f=decide (a.combos=b.combos):=rfl
  refine⟨x.f13,rx.at (i:=13) rfl,y.f13,ry.at (i:=13) rfl,q87 hZ hY (by omega) (p:=fun i=>decide (a.combos[i]?=b.combos[i]?)) (fun i hi hi' u K' hu hK'=>?_) fun w4 hf4=>fin _ w4 (m.1.t hf4) ?_⟩
  ·have hi1:i<a.combos.length:=by omega
   have hi2:i<b.combos.length:=by omega
   have ee:decide (a.combos[i]?=b.combos[i]?)=decide (a.combos[i]=b.combos[i]):=by rw[J0 hi1,J0 hi2,decide_eq_decide]; simp
   rw[ee] at hK'
   have hl:=(hA.combo _ (J2 hi1)).1
   exact q05 z1r_ok ⟨qe8 ((hz i hi hi1).fr hu) ((hyz i hi' hi2).fr hu) (by omega) hK'⟩
  ·rw[e,hzl,hyl,Ju]
   simp only[Jx,decide_eq_true_eq,Jc,Je]
   constructor
   ·intro h
    rw[h]
    exact⟨rfl,fun _ _=>rfl⟩
   ·rintro⟨h,h'⟩
    apply Jf
    intro i
    rcases Jr i a.combos.length with hi | hi
    ·exact h' i hi
    ·rw[J5 hi,J5 (by omega)]
 ·have h:c=q0o:=q0x.1 h
  subst h
  refine⟨x.f14,rx.at (i:=14) rfl,y.f14,ry.at (i:=14) rfl,fin _ w3 m.1 ?_⟩
  rw[hx.budget,hy.budget]
  rfl
 ·have h:c=q16:=q0x.1 h
  subst h
  have e:eqc a b q16=(decide (a.t1=b.t1) && (decide (a.t2=b.t2) && (decide (a.t3=b.t3) && (decide (a.t4=b.t4) && decide (a.t5=b.t5))))):=rfl
  refine⟨x.f15,rx.at (i:=15) rfl,x.f16,rx.at (i:=16) rfl,x.f17,rx.at (i:=17) rfl,x.f18,rx.at (i:=18) rfl,x.f19,rx.at (i:=19) rfl,y.f15,ry.at (i:=15) rfl,y.f16,ry.at (i:=16) rfl,y.f17,ry.at (i:=17) rfl,y.f18,ry.at (i:=18) rfl,y.f19,ry.at (i:=19) rfl,fin _ w3 m.1 ?_⟩
  rw[e,hx.t1,hx.t2,hx.t3,hx.t4,hx.t5,hy.t1,hy.t2,hy.t3,hy.t4,hy.t5,Ju]
  simp
 have k1:¬c=q0n:=fun e=>n1 (by rw[e]; rfl)
 have k2:¬c=q0y:=fun e=>n2 (by rw[e]; rfl)
 have k3:¬c=q2t:=fun e=>n3 (by rw[e]; rfl)
 have k4:¬c=q2u:=fun e=>n4 (by rw[e]; rfl)
 have k5:¬c=q1v:=fun e=>n5 (by rw[e]; rfl)
 have k6:¬c=q0f:=fun e=>n6 (by rw[e]; rfl)
 have k7:¬c=q0o:=fun e=>n7 (by rw[e]; rfl)
 have k8:¬c=q16:=fun e=>n8 (by rw[e]; rfl)
 have e:eqc a b c=if wLot.isPrefixOf c then decide (lotM a c=lotM b c) else if q1b.isPrefixOf c then decide (q8y a c=q8y b c) else decide (reqF a c=reqF b c):=by
  unfold eqc
  rw[if_neg k1,if_neg k2,if_neg k3,if_neg k4,if_neg k5,if_neg k6,if_neg k7,if_neg k8]
 refine⟨ofL c,rc.at,q1e (p:=wLot) (q04.2 ⟨fun hl=>?_,fun hl=>⟨ofL c,rc.at,q1e (p:=q1b) (q04.2 ⟨fun hr=>?_,fun hr=>?_⟩)⟩⟩)⟩
 ·rw[if_pos hl] at e
  have hlm:∀ t:Td,lotM t c=((t.lots.find? fun z=>decide (lotC z.1=c)).getD (0,0)).2:=fun t=>by
   unfold lotM
   cases t.lots.find? fun z=>decide (lotC z.1=c)<;>rfl
  refine⟨x.f1,rx.at (i:=1) rfl,q9r hx3.lots (by omega) (p:=fun z=>decide (lotC z.1=c)) (fun z hz u K' hu hK'=>q05 z1s_ok (q89 (hA.lot z hz).1 (g3.fr hu) (hu.row rc fun h=>h) hK')) fun r w4 hf4=>?_⟩
  have m4:=m.fr hf4
  intro w5
  have m5:Mem w w5 _:=m4.allocL (cs:=[.int .i64 0,.int .i64 0])
  clear_value w5
  refine⟨m5.wr 0,?_⟩
  intro w6
  have m6:Mem w w6 _:=m5.set 0
  clear_value w6
  refine⟨m6.wr 0,?_⟩
  intro w7
  have m7:=m6.set (i:=1) (v:=.int .i64 ((a.lots.find? fun z=>decide (lotC z.1=c)).getD (0,0)).2) 0
  change Mem w w7 _ at m7
  clear_value w7
  have rc7:=m7.row 1
  refine⟨y.f1,m7.ld (i:=1) 2 rfl rfl,q9r (hy.fr m7.1).lots (by omega) (p:=fun z=>decide (lotC z.1=c)) (fun z hz u K' hu hK'=>q05 z1s_ok (q89 (hB.lot z hz).1 ((g.fr m7.1).fr hu) (hu.row rc7 fun h=>h) hK')) fun r w8 hf8=>?_⟩
  have m8:=m7.fr hf8
  intro w9
  have m9:Mem w w9 _:=m8.allocL (cs:=[.int .i64 0,.int .i64 0])
  clear_value w9
  refine⟨m9.wr 0,?_⟩
  intro w10
  have m10:Mem w w10 _:=m9.set 0
  clear_value w10
  refine⟨m10.wr 0,?_⟩
  intro w11
  have m11:=m10.set (i:=1) (v:=.int .i64 ((b.lots.find? fun z=>decide (lotC z.1=c)).getD (0,0)).2) 0
  change Mem w w11 _ at m11
  clear_value w11
  refine⟨_,m11.ld 1,_,m11.ld 0,fin _ w11 m11.1 ?_⟩
  rw[e,hlm,hlm]
  rfl
 ·rw[if_neg (by rw[hl]; decide),if_pos hr] at e
  refine⟨x.f2,rx.at (i:=2) rfl,q9s hx3.crit (by omega) (p:=fun z=>decide (q0t z.name=c)) (fun z hz u K' hu hK'=>q05 z1t_ok (q8a (hA.cr z hz).1 (hu.row rc fun h=>h) hK')) fun r w4 hf4=>?_⟩
  have m4:=m.fr hf4
  refine q11 (vs:=encC (q8y a c)) rfl m4 fun w5 m5=>?_
  have rc5:=m5.row 1
  refine⟨y.f2,m5.ld (i:=2) 2 rfl rfl,q9s (hy.fr m5.1).crit (by omega) (p:=fun z=>decide (q0t z.name=c)) (fun z hz u K' hu hK'=>q05 z1t_ok (q8a (hB.cr z hz).1 (hu.row rc5 fun h=>h) hK')) fun r w6 hf6=>?_⟩
  have m6:=m5.fr hf6
  refine q11 (vs:=encC (q8y b c)) rfl m6 fun w7 m7=>?_
  refine⟨_,m7.ld 1,_,m7.ld 1,_,m7.ld 1,_,m7.ld 1,_,m7.ld 1,_,m7.ld 0,_,m7.ld 0,_,m7.ld 0,_,m7.ld 0,_,m7.ld 0,fin _ w7 m7.1 ?_⟩
  rw[e,cr_eq]
 ·rw[if_neg (by rw[hl]; decide),if_neg (by rw[hr]; decide)] at e
  have nf:∀ c∈q35,c=q0n\/c=q0y\/c=q2t\/c=q2u\/c=q1v\/c=q0f\/c=q0o\/c=q16:=by decide
  have nreq:∀ t:Td,c∈q02 t->∃ k,k<t.reqs.length/\c=reqC k:=fun t ht=>by
   rcases q39 ht with rfl | ⟨l,_,rfl⟩ | ⟨z,_,rfl⟩ | h | hf
   ·exact absurd rfl k1
   ·have:wLot.isPrefixOf (lotC l.1)=true:=J6.2 ⟨_,rfl⟩
    rw[this] at hl
    cases hl
   ·have:q1b.isPrefixOf (q0t z.name)=true:=J6.2 ⟨_,rfl⟩
    rw[this] at hr
    cases hr
   ·exact h
   ·rcases nf c hf with h | h | h | h | h | h | h | h
    ·exact absurd h k1
    ·exact absurd h k2
    ·exact absurd h k3
    ·exact absurd h k4
    ·exact absurd h k5
    ·exact absurd h k6
    ·exact absurd h k7
    ·exact absurd h k8
  obtain⟨k,hk,rfl⟩:=nreq a hc
  obtain⟨k',hk',ek⟩:=nreq b hc'
  have:=q76 (by omega) (by omega) ek
  subst this
  intro w4
  have m4:Mem w w4 _:=m.drew
  clear_value w4
  have hS:∀ {u:World},Fr F0 w4 u->Mem w u _:=fun h=>m4.fr h
  refine⟨fun u=>Fr F0 w4 u,Fr.refl,T43.lds_row (fun u hu=>(hS hu).row 2) ⟨_,fun u hu=>(hS hu).ld 0,T43.lds_row (fun u hu=>(hS hu).row 1) ⟨_,fun u hu=>(hS hu).ld 0,?_⟩⟩⟩
  refine q40 (hx.fr m4.1) hA hk fun w5 hf5=>⟨hf5,q40 ((hy.fr m4.1).fr hf5) hB hk' fun w6 hf6=>⟨hf5.t hf6,fin _ w6 (m4.1.t (hf5.t hf6)) ?_⟩⟩
  rw[e,q6g hk (by omega),q6g hk' (by omega),rq_eq]
theorem qaq {c:B}{ra rb:Sl}{ab bb xb yb:Nat}{K:Bool->World->Prop}(hx:TP w x a)(hy:TP w y b)(hA:Fit a)(hB:Fit b)(g:GlT w)(hra:Row w ab [.slice ra.p ra.l ra.c])(hrb:Row w bb [.slice rb.p rb.l rb.c])
  (ha:Vw 1 encB w ra (q02 a)) (hb:Vw 1 encB w rb (q02 b)) (hrx:Row w xb x.cs) (hry:Row w yb y.cs) (hK:∀ w',Fr F0 w w'->K (!isCh a b c) w'):z18_sh (ofL c) ⟨ab,0,none⟩ ⟨bb,0,none⟩ ⟨xb,0,none⟩ ⟨yb,0,none⟩ K w:=by
 have hca:=q0l a
 have hcb:=q0l b
 have a1:=hA.lots; have a2:=hA.crit; have a3:=hA.reqs
 have b1:=hB.lots; have b2:=hB.crit; have b3:=hB.reqs
 have e:(!isCh a b c)=(decide (c∈q02 a) && (decide (c∈q02 b) && eqc a b c)):=by unfold isCh; rw[Jv]
 rw[e] at hK
 refine⟨?_⟩
 refine⟨ra,hra.at,q0k ha (by omega) (q00.2 ⟨fun h=>⟨rb,hrb.at,q0k hb (by omega) (q00.2 ⟨fun h'=>?_,fun h'=>?_⟩)⟩,fun h=>?_⟩)⟩
 ·rw[decide_eq_true h,decide_eq_true h'] at hK
  exact T43.ld_row hrx (T43.ld_row hry (qhh hx hy hA hB g h h' hK))
 ·rw[decide_eq_true h,decide_eq_false h'] at hK
  exact hK w Fr.refl
 ·rw[decide_eq_false h] at hK
  exact hK w Fr.refl
end
section
variable {w0 w w':World}{s s':Sl}{x y:T43}{a b:Td}
theorem _root_.Pw.ExtL.alloc {w:World}{o:Obj}:ExtL w (w.alloc o):=⟨(Fr.alloc (F:=F0) (o:=o)).ext,by show w.heap.size<(w.heap.push o).size; simp⟩
theorem _root_.Pw.Row.uniq {w:World}{b:Nat}{cs cs':List Value}(h:Row w b cs)(h':Row w b cs'):cs=cs':=by
 apply Jf
 intro i
 rw[← h.cell i,← h'.cell i]
theorem _root_.Pw.Ow.not_slice {w:World}{s:Sl}{l:List B}{c:Nat}{z:Sl}(h:Ow 1 encB w s l)(hl:l≠[])(hr:Row w c [.slice z.p z.l z.c]):¬inB s c:=by
 rintro⟨ad,ha,rfl⟩
 obtain⟨hlen,hown⟩:=h
 obtain⟨hvl,hnil | ⟨b,cs,hp,hrow,hcs,hle,ht⟩⟩:=hown
 ·rw[hnil.1] at ha; cases ha
 ·rw[hp] at ha
  cases ha
  have e:=hrow.uniq hr
  subst e
  cases l with
  | nil=>exact hl rfl
  | cons v l =>
   simp only[List.flatMap_cons,encB,Jl,Ja,Ji] at ht
   rw[Nat.add_comm,List.take_succ_cons] at ht
   injection ht with h1 _
   cases h1
theorem q4f (t:Td):q02 t≠[]:=by
 unfold q02
 intro h
 have:=(List.append_eq_nil_iff.1 h).2
 cases this
theorem qcs {K:Sl->World->Prop}(hx:TP w x a)(hy:TP w y b)(hA:Fit a)(hB:Fit b)(g:GlT w)(hK:∀ w' r,Mk w 1 encB w' r (q12 a b)->K r w'):z1o_sh x y K w:=by
 have hca:=q0l a
 have hcb:=q0l b
 have a1:=hA.lots; have a2:=hA.crit; have a3:=hA.reqs
 have b1:=hB.lots; have b2:=hB.crit; have b3:=hB.reqs
 refine⟨?_⟩
 intro w1
 have m:Mem w w1 [(w.heap.size,x.cs)]:=Mem.nil.allocL
 clear_value w1
 intro w2
 have m:Mem w w2 [(w1.heap.size,y.cs),(w.heap.size,x.cs)]:=m.allocL
 clear_value w2
 intro w3
 have m:Mem w w3 [(w1.heap.size,y.cs),(w.heap.size,x.cs)]:=m.drew
 clear_value w3
 have hS:∀ {u:World},Fr F0 w3 u->Mem w u _:=fun h=>m.fr h
 refine⟨fun u=>Fr F0 w3 u,Fr.refl,T43.lds_row (fun u hu=>(hS hu).row 1) (T43.lds_row (fun u hu=>(hS hu).row 0) ⟨fun u u' h hs=>hs.t h.f0,⟨fun u=>ExtL.alloc,fun u=>ExtL.alloc,trivial⟩,fun w7 e7=>?_⟩)⟩
 have f7:=e7.f0
 refine q1x (hx.fr (m.1.t f7)) hA (g.fr (m.1.t f7)) fun w8 r hm=>⟨hm.fr0.ext,fun w10 e10=>?_⟩
 have f10:=f7.t (hm.fr0.t e10.f0)
 refine q1x (hy.fr (m.1.t f10)) hB (g.fr (m.1.t f10)) fun w11 q hq=>⟨hq.fr0.ext,fun w13 e13 w14 e14 _ e14' w15 e15 hn e15'=>?_⟩
 have f13:Fr F0 w3 w13:=f10.t (hq.fr0.t e13.f0)
 have hne:w14.heap.size≠w15.heap.size:=hn _ (by simp)
 have ra:Row w13 w14.heap.size [.slice none 0 0]:=e14'.f0.row (Row.new (cs:=[.slice none 0 0])) fun h=>h
 have rb:Row w13 w15.heap.size [.slice none 0 0]:=e15'.f0.row (Row.new (cs:=[.slice none 0 0])) fun h=>h
 have hr13:Ow 1 encB w13 r (q02 a):=hm.ow.fr (e10.f0.t (hq.fr0.t e13.f0))
 have hq13:Ow 1 encB w13 q (q02 b):=hq.ow.fr e13.f0
 have n1:=hr13.not_slice (q4f a) (z:=⟨none,0,0⟩) ra
 have n2:=hr13.not_slice (q4f a) (z:=⟨none,0,0⟩) rb
 have n3:=hq13.not_slice (q4f b) (z:=⟨none,0,0⟩) ra
 have n4:=hq13.not_slice (q4f b) (z:=⟨none,0,0⟩) rb
 refine⟨ra.wr (by simp),?_⟩
 intro w16
 have s16:Fr (fun c=>c=w14.heap.size) w13 w16:=Fr.set rfl
 have ra16:Row w16 w14.heap.size [.slice r.p r.l r.c]:=ra.set 0 (.slice r.p r.l r.c)
 have rb16:=s16.row rb (Ne.symm hne)
 clear_value w16
 have f16:Fr F0 w3 w16:=f13.nb s16 fun c h=>h ▸ e14.1
 refine⟨f16,rb16.wr (by simp),?_⟩
 intro w17
 have s17:Fr (fun c=>c=w15.heap.size) w16 w17:=Fr.set rfl
 have rb17:Row w17 w15.heap.size [.slice q.p q.l q.c]:=rb16.set 0 (.slice q.p q.l q.c)
 have ra17:=s17.row ra16 hne
 clear_value w17
 have f17:Fr F0 w3 w17:=f16.nb s17 fun c h=>h ▸ e15.1
 have hr17:Ow 1 encB w17 r (q02 a):=(hr13.frF s16 fun c h e=>n1 (e ▸ h)).frF s17 fun c h e=>n2 (e ▸ h)
 have hq17:Ow 1 encB w17 q (q02 b):=(hq13.frF s16 fun c h e=>n3 (e ▸ h)).frF s17 fun c h e=>n4 (e ▸ h)
 have m17:=m.fr f17
 have F17:=m17.1
 refine T43.ld_row (m17.row 1 rfl) (T43.ld_row (m17.row 0 rfl) (q9q (hx.fr F17) (hy.fr F17) hA hB (g.fr F17) fun w20 z hz=>?_))
 have hbl:(both a b).length<=2^30:=by
  have:=q1f (q02 a) (q02 b)
  unfold both
  omega
 refine q2c hz (by omega) (p:=fun c=>!isCh a b c) (fun c hc u K' hu hK'=>?_) fun r' w22 hm' hf' hi'=>hK w22 r' ?_
 ·have hF:Fr F0 w17 u:=Fr.new hz hu
  have m':=m17.fr hF
  exact q05 z18_ok (qaq (hx.fr m'.1) (hy.fr m'.1) hA hB (g.fr m'.1) (hF.row ra17 fun h=>h) (hF.row rb17 fun h=>h) (hr17.fr hF).vw (hq17.fr hF).vw (m'.row 1) (m'.row 0) hK')
 ·have e:q12 a b=(both a b).filter fun c=>!(!isCh a b c):=by
   unfold q12
   exact Jd fun c _=>(Jv _).symm
  rw[e]
  exact⟨F17.t hm'.fr0,hm'.ow,fun b hb=>Jq F17.1 (hm'.nw b hb)⟩
end
section
variable {w0 w w':World}{mb:Nat}{S S':List B}
theorem Ms.fr {w w':World}{r:Nat}{l:List (ByteArray × Value)}(h:Ms w r l)(hf:Fr F0 w w'):Ms w' r l:=by
 obtain⟨es,clock,h1,h2⟩:=h
 refine⟨es,clock,?_,h2⟩
 rw[hf.2.1 r (Jz.1 h1).1 fun h=>h]
 exact h1
theorem sset_frB {w:World}{r:Nat}{n:ByteArray}{v:Value}:Fr (fun b=>b=r) w (w.sset r n v):=by
 refine⟨by simp[World.sset],fun b _ hn=>?_,rfl,rfl,rfl⟩
 unfold World.sset
 simp only[Array.getElem?_modify]
 rw[if_neg (fun h=>hn h.symm)]
theorem qg5 {n n':ByteArray}{v d:Bool}:∀ l:List (ByteArray × Bool),q2p d n (sput n' v l)=if n'=n then v else q2p d n l
 | []=>by simp[sput,q2p]
 | p :: l=>by
  unfold sput
  by_cases h:p.1=n'
  ·rw[if_pos h]
   simp only[q2p]
   by_cases h':n'=n
   ·simp[h']
   ·rw[if_neg h',if_neg h',if_neg (by rw[h]; exact h')]
  ·rw[if_neg h]
   simp only[q2p]
   rw[qg5 l]
   by_cases h':p.1=n
   ·rw[if_pos h',if_pos h',if_neg (fun e=>h (by rw[h',e]))]
   ·rw[if_neg h',if_neg h']
def SMp (w:World)(mb:Nat)(S:List B):Prop :=
 ∃ l:List (ByteArray × Bool),Ms w mb (l.map fun p=>(p.1,.bool p.2))/\∀ c:B,q2p false (ofL c) l=decide (c∈S)
theorem SMp.fr (h:SMp w mb S)(hf:Fr F0 w w'):SMp w' mb S:=let ⟨l,h1,h2⟩:=h; ⟨l,Ms.fr h1 hf,h2⟩
theorem SMp.congr (h:SMp w mb S)(he:∀ c,c∈S ↔ c∈S'):SMp w mb S':=let ⟨l,h1,h2⟩:=h; ⟨l,h1,fun c=>by rw[h2,decide_eq_decide,he]⟩
theorem SMp.made:SMp (w.alloc (.map #[] 0)) w.heap.size []:=⟨[],Ms.made w,fun c=>rfl⟩
theorem SMp.not_row {b:Nat}{cs:List Value}(h:SMp w mb S)(hr:Row w b cs):b≠mb:=by
 rintro rfl
 obtain⟨l,⟨es,clock,h1,_⟩,_⟩:=h
 obtain⟨e,f,hc,_⟩:=hr
 rw[h1] at hc
 cases hc
theorem SMp.put (h:SMp w mb S)(c:B)(v:Bool)(hv:v=false->c ∉ S):SMp (w.sset mb (ofL c) (.bool v)) mb (if v then addB S c else S):=by
 obtain⟨l,h1,h2⟩:=h
 refine⟨sput (ofL c) v l,?_,fun c'=>?_⟩
 ·rw[← qfk Value.bool]
  exact h1.set _ _
 ·rw[qg5,h2]
  by_cases hc:c=c'
  ·subst hc
   rw[if_pos rfl]
   cases v with
   | true=>exact(decide_eq_true (q23.2 (.inr rfl))).symm
   | false=>exact(decide_eq_false (hv rfl)).symm
  ·rw[if_neg (fun e=>hc (q0x.1 e))]
   cases v with
   | true =>
    rw[if_pos rfl,decide_eq_decide,q23]
    exact⟨.inl,fun h=>h.elim id fun e=>absurd e.symm hc⟩
   | false=>rfl
theorem qei (h:SMp w mb S):∃ l:List (ByteArray × Value),Ms w mb l:=let ⟨_,h1,_⟩:=h; ⟨_,h1⟩
end
section
variable {w0 w w' u u':World}{mb ib xb yb:Nat}{x y:T43}{a b:Td}{all:Sl}{S S':List B}
structure AG (w u:World)(mb ib xb yb:Nat)(x y:T43)(a b:Td)(all:Sl)(S:List B):Prop where
 fr:Fr F0 w u
 rx:Row u xb x.cs
 ry:Row u yb y.cs
 ri:Row u ib [.map (some mb)]
 al:Ow 1 encB u all (both a b)
 sm:SMp u mb S
 ml:w.heap.size<=mb
 an:¬inB all mb
 nw:∀ c,inB all c->w.heap.size<=c
theorem AG.grow (h:AG w u mb ib xb yb x y a b all S)(hf:Fr F0 u u'):AG w u' mb ib xb yb x y a b all S :=
 ⟨h.fr.t hf,hf.row h.rx fun h=>h,hf.row h.ry fun h=>h,hf.row h.ri fun h=>h,h.al.fr hf,h.sm.fr hf,h.ml,h.an,h.nw⟩
theorem AG.put (h:AG w u mb ib xb yb x y a b all S)(c:B)(v:Bool)(hv:v=false->c ∉ S):AG w (u.sset mb (ofL c) (.bool v)) mb ib xb yb x y a b all (if v then addB S c else S):=by
 have hf:Fr (fun b=>b=mb) u (u.sset mb (ofL c) (.bool v)):=sset_frB
 exact⟨h.fr.nb hf fun b hb=>hb ▸ h.ml,hf.row h.rx (h.sm.not_row h.rx),hf.row h.ry (h.sm.not_row h.ry),hf.row h.ri (h.sm.not_row h.ri),h.al.frF hf fun c hc e=>h.an (e ▸ hc),h.sm.put c v hv,h.ml,h.an,h.nw⟩
theorem AG.congr (h:AG w u mb ib xb yb x y a b all S)(he:∀ c,c∈S ↔ c∈S'):AG w u mb ib xb yb x y a b all S':={ h with sm:=h.sm.congr he }
theorem q91 {c:B}{K:Bool->World->Prop}(hi:Row u ib [.map (some mb)])(hs:SMp u mb S)(hK:K (decide (c∈S)) u):z0u_sh (ofL c) ⟨ib,0,none⟩ K u:=by
 obtain⟨l,h1,h2⟩:=hs
 refine⟨⟨some mb,hi.at,l,h1,?_⟩⟩
 rw[h2]
 exact hK
theorem q92 {c:B}{K:Bool->World->Prop}(hi:Row u ib [.map (some mb)])(hs:SMp u mb S)(hK:K (!decide (c∈S)) u):z0v_sh (ofL c) ⟨ib,0,none⟩ K u:=by
 obtain⟨l,h1,h2⟩:=hs
 refine⟨⟨some mb,hi.at,l,h1,?_⟩⟩
 rw[h2]
 exact hK
theorem qn1 (t:Td)(c:B):(uses t c).length<=(q02 t).length:=by
 unfold uses
 split
 ·exact J8 _ _
 ·simp
def say (t:Td)(S:List B)(c:B):List B:=if decide (c∈S) || (uses t c).any (fun u=>decide (u∈S)) then addB S c else S
theorem qph (c:B):∀ d,d∈say b (say a S c) c ↔ d∈q6z a b S c:=by
 intro d
 unfold q6z hitB say
 by_cases h:c∈S
 ·have e:addB S c=S:=qeg h
  simp[h,e]
 ·simp only[h,decide_false,Jw]
  cases h1:(uses a c).any fun u=>decide (u∈S) with
  | true =>
   have hin:c∈addB S c:=q23.2 (.inr rfl)
   simp[hin,qeg hin]
  | false =>
   simp only[Bool.false_eq_true,if_false,h,decide_false,Jw]
def sayN (a b:Td)(S:List B)(c:B):Nat->List B
 | 0=>S
 | 1=>say a S c
 | _=>say b (say a S c) c
theorem T43.len (x:T43):x.cs.length=20:=rfl
theorem q70 {c:B}{ab al:Addr}{all5 t32:Sl}{t29 t30 t33 t34:Int}{N2:Addr->Addr->Sl->Addr->Int->Int->Sl->Int->Int->World->Prop}{N1:Addr->Addr->Sl->Addr->Int->Int->World->Prop}{K:Sl->World->Prop}
  (hx:TP w x a) (hy:TP w y b) (hA:Fit a) (hB:Fit b) (g:GlT w) (h:AG w u mb ib xb yb x y a b all S) (hN:∀ u',AG w u' mb ib xb yb x y a b all (q6z a b S c)->inR .i64 (t34+(1:Int))/\N2 ab al all5 ⟨ib,0,none⟩ t29 t30 t32 t33 (t34+(1:Int)) u')
  {tb:Nat} (ht:Row u tb (x.cs++y.cs)):z1g_l3 ab al all5 ⟨ib,0,none⟩ (ofL c) t29 t30 t32 t33 t34 ⟨some ⟨tb,0,none⟩,2,2⟩ (2:Int) (0:Int) N2 N1 K u:=by
 have a1:=hA.lots; have a2:=hA.crit; have a3:=hA.reqs
 have b1:=hB.lots; have b2:=hB.crit; have b3:=hB.reqs
 refine⟨⟨fun i v=>∃ i':Nat,i=i'/\i'<=2/\AG w v mb ib xb yb x y a b all (sayN a b S c i')/\Row v tb (x.cs++y.cs),fun i _=>2-i.toNat,⟨0,rfl,by omega,h,ht⟩,?_⟩⟩
 rintro i v ⟨i,rfl,hi,hG,hr⟩
 unfold z1g_b3
 refine q00.2 ⟨fun hlt=>?_,fun hge=>?_⟩
 ·obtain⟨z,t,hz,hT,hcs,hsay⟩:∃ (z:T43) (t:Td),TP w z t/\Fit t/\(∀ k e,z.cs[k]?=some e->(x.cs++y.cs)[i*20+k]?=some e)/\sayN a b S c (i+1)=say t (sayN a b S c i) c:=by
   have h2:i=0\/i=1:=by omega
   rcases h2 with rfl | rfl
   ·refine⟨x,a,hx,hA,fun k e he=>?_,rfl⟩
    have hk:=(List.getElem?_eq_some_iff.1 he).1
    rw[Nat.zero_mul,Js,List.getElem?_append_left hk]
    exact he
   ·refine⟨y,b,hy,hB,fun k e he=>?_,rfl⟩
    rw[Nat.one_mul,List.getElem?_append_right (by rw[T43.len]; omega),T43.len,Nat.add_sub_cancel_left]
    exact he
  have hcl:=q0l t
  have hul:=qn1 t c
  have t1:=hT.lots; have t2:=hT.crit; have t3:=hT.reqs
  have hnext:∀ (v':World),AG w v' mb ib xb yb x y a b all (say t (sayN a b S c i) c)->Row v' tb (x.cs++y.cs)->AG w v' mb ib xb yb x y a b all (sayN a b S c (i+1))/\Row v' tb (x.cs++y.cs):=fun v' h1 h2=>⟨hsay ▸ h1,h2⟩
  show nz (some _) _
  rw[qhz]
  refine⟨⟨by omega,by omega⟩,?_⟩
  rw[q01,Js,Int.toNat_natCast]
  refine T43.ld_off (x:=z) (fun k e he=>hr.at (hcs k e he)) ?_
  refine q11 (vs:=z.cs) rfl Mem.nil fun w27 m27=>?_
  intro w28
  have m28:Mem v w28 [(v.heap.size,z.cs)]:=m27.drew
  clear_value w28
  have hG28:=hG.grow m28.1
  have hr28:=m28.1.row hr fun h=>h
  have hbx:=m28.row 0
  obtain⟨l,hl1,hl2⟩:=hG28.sm
  refine⟨fun e=>Fr F0 w28 e,Fr.refl,some mb,fun e he=>(he.row hG28.ri fun h=>h).at rfl,some mb,fun e he=>(he.row hG28.ri fun h=>h).at rfl,l,hl1,Fr.refl,?_⟩
  rw[hl2]
  refine q00.2 ⟨fun hc=>⟨qei hG28.sm,?_⟩,fun hc=>?_⟩
  ·intro w35
   have hG35:AG w w35 mb ib xb yb x y a b all _:=hG28.put c true fun h=>by cases h
   have hr35:Row w35 tb _:=(sset_frB).row hr28 (hG28.sm.not_row hr28)
   clear_value w35
   have e:say t (sayN a b S c i) c=addB (sayN a b S c i) c:=by unfold say; rw[decide_eq_true hc]; rfl
   exact⟨q03,⟨⟨rfl,rfl,rfl,rfl,rfl,rfl,rfl,rfl,rfl,rfl,rfl,rfl,trivial⟩,i+1,by omega,by omega,hnext w35 (by rw[e]; exact hG35) hr35⟩,by dsimp only; omega⟩
  ·refine T43.lds_row (fun e he=>he.row hbx fun h=>h) (qjl (hz.fr hG28.fr) hT (g.fr hG28.fr) fun w37 r hm=>⟨hm.fr0,?_⟩)
   have hG37:=hG28.grow hm.fr0
   refine q2l hm.vw (by omega) (p:=fun d=>decide (d∈sayN a b S c i)) (fun d _ e K' he hK'=>q05 z0u_ok ?_) fun w39 hf39=>⟨hm.fr0.t hf39,qei (hG37.grow hf39).sm,?_⟩
   ·have hGe:=hG37.grow he
    exact q91 hGe.ri hGe.sm (hK' e Fr.refl)
   ·have hG39:=hG37.grow hf39
    have hr39:=(hm.fr0.t hf39).row hr28 fun h=>h
    intro w42
    have hG42:AG w w42 mb ib xb yb x y a b all _:=hG39.put c ((uses t c).any fun d=>decide (d∈sayN a b S c i)) fun _=>hc
    have hr42:Row w42 tb _:=(sset_frB).row hr39 (hG39.sm.not_row hr39)
    clear_value w42
    have e:say t (sayN a b S c i) c=if ((uses t c).any fun d=>decide (d∈sayN a b S c i)) then addB (sayN a b S c i) c else sayN a b S c i:=by unfold say; rw[decide_eq_false hc,Jw]
    exact⟨q03,⟨⟨rfl,rfl,rfl,rfl,rfl,rfl,rfl,rfl,rfl,rfl,rfl,rfl,trivial⟩,i+1,by omega,by omega,hnext w42 (by rw[e]; exact hG42) hr42⟩,by dsimp only; omega⟩
 ·have:i=2:=by omega
  subst this
  exact hN v (hG.congr (qph c))
theorem q71 {ab al:Addr}{t29 t30:Int}{N1:Addr->Addr->Sl->Addr->Int->Int->World->Prop}{K:Sl->World->Prop}(hab:ab=⟨xb,0,none⟩)(hal:al=⟨yb,0,none⟩)
  (hx:TP w x a) (hy:TP w y b) (hA:Fit a) (hB:Fit b) (g:GlT w) (h:AG w u mb ib xb yb x y a b all S) (hN:∀ u',AG w u' mb ib xb yb x y a b all (q9m a b S)->inR .i64 (t30+(1:Int))/\N1 ab al all ⟨ib,0,none⟩ t29 (t30+(1:Int)) u') :
  z1g_l2 ab al all ⟨ib,0,none⟩ t29 t30 all (all.l:Int) (0:Int) N1 K u:=by
 subst hab hal
 have a1:=hA.lots; have a2:=hA.crit; have a3:=hA.reqs
 have b1:=hB.lots; have b2:=hB.crit; have b3:=hB.reqs
 have hbl:(both a b).length<=2^30:=by
  have:=q1f (q02 a) (q02 b)
  have:=q0l a
  have:=q0l b
  unfold both
  omega
 have el:=h.al.len
 refine⟨⟨fun i v=>∃ i':Nat,i=i'/\i'<=(both a b).length/\AG w v mb ib xb yb x y a b all (q7t a b S ((both a b).take i')),fun i _=>(both a b).length-i.toNat,⟨0,rfl,by omega,h⟩,?_⟩⟩
 rintro i v ⟨i,rfl,hi,hG⟩
 unfold z1g_b2
 refine q00.2 ⟨fun hlt=>?_,fun hge=>?_⟩
 ·have hil:i<(both a b).length:=by omega
  refine ldB hG.al.vw i rfl hil (T43.ld_row hG.rx (T43.ld_row hG.ry ?_))
  intro w23
  have m23:Mem v w23 [(v.heap.size,x.cs++y.cs)]:=Mem.nil.allocL (cs:=x.cs++y.cs)
  clear_value w23
  refine q70 hx hy hA hB g (hG.grow m23.1) (fun u' hu'=>⟨q03,⟨⟨rfl,rfl,rfl,rfl,rfl,rfl,rfl,rfl,trivial⟩,i+1,by omega,by omega,?_⟩,by dsimp only; omega⟩) (m23.row 0)
  rw[J3,J0 hil]
  unfold q7t at hu' ⊢
  rw[J1]
  exact hu'
 ·have:i=(both a b).length:=by omega
  subst this
  rw[J7] at hG
  exact hN v hG
theorem qar {K:Sl->World->Prop}(hx:TP w x a)(hy:TP w y b)(hA:Fit a)(hB:Fit b)(g:GlT w)(hK:∀ w' r,Mk w 1 encB w' r (q38 a b)->K r w'):z1g_sh x y K w:=by
 have a1:=hA.lots; have a2:=hA.crit; have a3:=hA.reqs
 have b1:=hB.lots; have b2:=hB.crit; have b3:=hB.reqs
 have hbl:(both a b).length<=2^30:=by
  have:=q1f (q02 a) (q02 b)
  have:=q0l a
  have:=q0l b
  unfold both
  omega
 have hcl:(q12 a b).length<=(both a b).length:=J8 _ _
 refine⟨?_⟩
 intro w1
 have m:Mem w w1 [(w.heap.size,x.cs)]:=Mem.nil.allocL
 clear_value w1
 intro w2
 have m:Mem w w2 [(w1.heap.size,y.cs),(w.heap.size,x.cs)]:=m.allocL
 clear_value w2
 refine T43.ld_row (m.row 1 rfl) (T43.ld_row (m.row 0 rfl) (q9q (hx.fr m.1) (hy.fr m.1) hA hB (g.fr m.1) fun w5 all hall=>?_))
 have m5:=m.fr hall.fr0
 intro w7
 have f7:Fr F0 w5 w7:=Fr.alloc
 have s7:SMp w7 w5.heap.size []:=SMp.made
 have z7:w7.heap.size=w5.heap.size+1:=by show(w5.heap.push _).size=_; simp
 clear_value w7
 have m7:=m5.fr f7
 intro w8
 have m8:Mem w w8 [(w7.heap.size,[.map none]),(w1.heap.size,y.cs),(w.heap.size,x.cs)]:=m7.allocL (cs:=[.map none])
 have f8:Fr F0 w7 w8:=Fr.alloc
 clear_value w8
 refine⟨m8.wr 0,?_⟩
 intro w9
 have m9:Mem w w9 [(w7.heap.size,[.map (some w5.heap.size)]),(w1.heap.size,y.cs),(w.heap.size,x.cs)]:=m8.set (v:=.map (some w5.heap.size)) 0
 have f9:Fr (fun b=>b=w7.heap.size) w8 w9:=Fr.set rfl
 clear_value w9
 have hal8:=hall.ow.fr (f7.t f8)
 have halb:∀ c,inB all c->c<w5.heap.size:=fun c hc=>hall.ow.lt' hc
 have hal9:Ow 1 encB w9 all (both a b):=hal8.frF f9 fun c hc e=>by have:=halb c hc; omega
 have s9:SMp w9 w5.heap.size []:=by
  obtain⟨l,⟨es,cl,h1,h2⟩,h3⟩:=s7.fr f8
  exact⟨l,⟨es,cl,by rw[f9.2.1 _ (Jz.1 h1).1 (by omega)]; exact h1,h2⟩,h3⟩
 have hw5:=m5.1.1
 have hG9:AG w w9 w5.heap.size w7.heap.size w.heap.size w1.heap.size x y a b all [] :=
  ⟨m9.1,m9.row 2,m9.row 1,m9.row 0,hal9,s9,hw5,fun hb=>by have:=halb _ hb; omega,fun c hc=>Jq m.1.1 (hall.nw c hc)⟩
 refine T43.ld_row hG9.rx (T43.ld_row hG9.ry (qcs (hx.fr m9.1) (hy.fr m9.1) hA hB (g.fr m9.1) fun w12 r hr=>?_))
 have hG12:=hG9.grow hr.fr0
 have er:=hr.len
 have hrm:∀ c,inB r c->w9.heap.size<=c:=hr.nw
 have hmlt:w5.heap.size<w9.heap.size:=by
  obtain⟨l,⟨es,cl,h1,_⟩,_⟩:=s9
  exact(Jz.1 h1).1
 refine⟨⟨fun i v=>∃ i':Nat,i=i'/\i'<=(q12 a b).length/\∃ S,AG w v w5.heap.size w7.heap.size w.heap.size w1.heap.size x y a b all S/\(∀ c,c∈S ↔ c∈(q12 a b).take i')/\Ow 1 encB v r (q12 a b),fun i _=>(q12 a b).length-i.toNat,⟨0,rfl,by omega,[],hG12,fun c=>by simp,hr.ow⟩,?_⟩⟩
 rintro i v ⟨i,rfl,hi,S,hG,hS,hrv⟩
 unfold z1g_b0
 refine q00.2 ⟨fun hlt=>?_,fun hge=>?_⟩
 ·have hil:i<(q12 a b).length:=by omega
  refine ldB hrv.vw i rfl hil ⟨some w5.heap.size,hG.ri.at,qei hG.sm,?_⟩
  intro w18
  have hG18:AG w w18 _ _ _ _ x y a b all _:=hG.put (q12 a b)[i] true fun h=>by cases h
  have hr18:Ow 1 encB w18 r (q12 a b):=hrv.frF sset_frB fun c hc e=>by have:=hrm c hc; omega
  clear_value w18
  refine⟨q03,⟨⟨rfl,rfl,rfl,rfl,rfl,rfl,trivial⟩,i+1,by omega,by omega,_,hG18,fun c=>?_,hr18⟩,by dsimp only; omega⟩
  rw[if_pos rfl,q23,hS,J3,J0 hil,List.mem_append,Option.toList_some,List.mem_singleton]
 ·have:i=(q12 a b).length:=by omega
  subst this
  rw[J7] at hS
  have hG:=hG.congr hS
  have ea:(all.l:Int)=((both a b).length:Int):=by rw[hG.al.len]
  refine⟨⟨fun k e=>∃ k':Nat,k=k'/\k'<=(both a b).length/\∃ S,AG w e w5.heap.size w7.heap.size w.heap.size w1.heap.size x y a b all S/\qcc a b ((both a b).length-k') S=affS a b,fun k _=>(both a b).length-k.toNat,⟨0,rfl,by omega,_,hG,rfl⟩,?_⟩⟩
  rintro k e ⟨k,rfl,hk,S2,hG2,hS2⟩
  unfold z1g_b1
  refine q00.2 ⟨fun hlt=>?_,fun hge=>?_⟩
  ·refine q71 rfl rfl hx hy hA hB g hG2 fun u' hu'=>⟨q03,⟨⟨rfl,rfl,rfl,rfl,rfl,trivial⟩,k+1,by omega,by omega,_,hu',?_⟩,by dsimp only; omega⟩
   have e1:(both a b).length-k=((both a b).length-(k+1))+1:=by omega
   rw[e1] at hS2
   exact hS2
  ·have:k=(both a b).length:=by omega
   subst this
   rw[Nat.sub_self] at hS2
   have hS2:S2=affS a b:=hS2
   subst hS2
   have hmk:Mk w 1 encB e all (both a b):=⟨hG2.fr,hG2.al,hG2.nw⟩
   refine q2c hmk (by omega) (p:=fun c=>!decide (c∈affS a b)) (fun c hc q K' hq hK'=>q05 z0v_ok ?_) fun r' w43 hm' hf' hi'=>hK w43 r' ?_
   ·have hri:Row q w7.heap.size _:=hq.row hG2.ri fun hb=>by have:=halb _ hb; omega
    have hsm:SMp q w5.heap.size (affS a b):=by
     obtain⟨l,⟨es,cl,h1,h2⟩,h3⟩:=hG2.sm
     exact⟨l,⟨es,cl,by rw[hq.2.1 _ (Jz.1 h1).1 hG2.an]; exact h1,h2⟩,h3⟩
    exact q92 hri hsm (hK' q Fr.refl)
   ·have e2:q38 a b=(both a b).filter fun c=>!(!decide (c∈affS a b)):=by
     unfold q38
     exact Jd fun c _=>(Jv _).symm
    rw[e2]
    exact hm'
end
section
variable {w w' u:World}{x y:T43}{a b:Td}{ls:Sl}{lots:List Int}
theorem q93 {id:Int}{o:B}{ob:Nat}{K:Bool->World->Prop}(h:I64 id)(g:GlT w)(hr:Row w ob [.string (ofL o)])(hK:∀ w',Fr F0 w w'->K (decide (lotC id=o)) w'):z0o_sh id ⟨ob,0,none⟩ K w:=by
 refine⟨?_⟩
 intro w1
 have hf:Fr F0 w w1:=Fr.drew
 clear_value w1
 have hr1:=hf.row hr fun h=>h
 refine⟨fun u=>Fr F0 w1 u,Fr.refl,ofL o,fun u hu=>(hu.row hr1 fun h=>h).at rfl,q78 h (g.fr hf) fun w2 hf2=>⟨hf2,?_⟩⟩
 rw[q0h]
 exact hK w2 (hf.t hf2)
theorem five {c:B}{T F:Prop}(h1:c∈[q0n,q16,q1v,q0f,q0o]->F)(h2:c ∉ [q0n,q16,q1v,q0f,q0o]->T) :
  cnd (decide (ofL c=str [110,97,109,101])) (cnd (decide (ofL c=str [110,97,109,101])) F T) (cnd (decide (ofL c=str [116,105,109,101,115])) (cnd (decide (ofL c=str [116,105,109,101,115])) F T)
  (cnd (decide (ofL c=str [109,111,115,116])) (cnd (decide (ofL c=str [109,111,115,116])) F T) (cnd (decide (ofL c=str [99,111,109,98,111,115])) (cnd (decide (ofL c=str [99,111,109,98,111,115])) F T)
  (cnd (decide (ofL c=str [98,117,100,103,101,116])) F T)))):=by
 rw[show decide (ofL c=str [110,97,109,101])=decide (c=q0n) from q0h c q0n,show decide (ofL c=str [116,105,109,101,115])=decide (c=q16) from q0h c q16,show decide (ofL c=str [109,111,115,116])=decide (c=q1v) from q0h c q1v,
  show decide (ofL c=str [99,111,109,98,111,115])=decide (c=q0f) from q0h c q0f,show decide (ofL c=str [98,117,100,103,101,116])=decide (c=q0o) from q0h c q0o]
 simp only[Jh,Jb,or_false] at h1 h2
 refine q00.2 ⟨fun h=>q00.2 ⟨fun _=>h1 (.inl h),fun h'=>absurd h h'⟩,fun n1=>q00.2 ⟨fun h=>q00.2 ⟨fun _=>h1 (.inr (.inl h)),fun h'=>absurd h h'⟩,fun n2=>q00.2 ⟨fun h=>q00.2 ⟨fun _=>h1 (.inr (.inr (.inl h))),fun h'=>absurd h h'⟩,fun n3 =>
  q00.2 ⟨fun h=>q00.2 ⟨fun _=>h1 (.inr (.inr (.inr (.inl h)))),fun h'=>absurd h h'⟩,fun n4=>q00.2 ⟨fun h=>h1 (.inr (.inr (.inr (.inr h)))),fun n5=>h2 ?_⟩⟩⟩⟩⟩
 rintro (h | h | h | h | h)
 ·exact n1 h
 ·exact n2 h
 ·exact n3 h
 ·exact n4 h
 ·exact n5 h
theorem qas {c:B}{lb:Nat}{K:Bool->World->Prop}(g:GlT w)(hr:Row w lb [.slice ls.p ls.l ls.c])(hv:Vw 1 encI w ls lots)(hl:lots.length<2^62)(hi:∀ i∈lots,I64 i)(hK:∀ w',Fr F0 w w'->K (q5i lots c) w'):z1a_sh (ofL c) ⟨lb,0,none⟩ K w:=by
 have fin:∀ b w',Fr F0 w w'->q5i lots c=b->K b w':=fun b w' hf e=>e ▸ hK w' hf
 clear hK
 refine⟨?_⟩
 intro w1
 have m:Mem w w1 [(w.heap.size,[.string (ofL c)])]:=Mem.nil.allocL
 clear_value w1
 have rc:=m.row 0
 refine⟨ofL c,rc.at,q1e (p:=wLot) (q04.2 ⟨fun h=>⟨ls,(m.1.row hr fun h=>h).at rfl,?_⟩,fun h=>⟨ofL c,rc.at,?_⟩⟩)⟩
 ·refine q2m (hv.fr m.1) hl (p:=fun i=>decide (lotC i=c)) (fun i hi' v K' hv' hK'=>q05 z0o_ok (q93 (hi i hi') (g.fr (m.1.t hv')) (hv'.row rc fun h=>h) hK')) fun w2 hf2=>fin _ w2 (m.1.t hf2) ?_
  unfold q5i
  rw[if_pos h]
 ·have e:q5i lots c=!decide (c∈[q0n,q16,q1v,q0f,q0o]):=by unfold q5i; rw[if_neg (by rw[h]; decide)]
  exact five (fun h'=>fin _ w1 m.1 (by rw[e,decide_eq_true h']; rfl)) fun h'=>fin _ w1 m.1 (by rw[e,decide_eq_false h']; rfl)
theorem qct {K:Bool->World->Prop}(hx:TP w x a)(hy:TP w y b)(hA:Fit a)(hB:Fit b)(g:GlT w)(hv:Vw 1 encI w ls lots)(hl:lots.length<2^62)(hi:∀ i∈lots,I64 i)(hK:∀ w',Fr F0 w w'->K (q7r a b lots) w'):z1q_sh x y ls K w:=by
 have a1:=hA.lots; have a2:=hA.crit; have a3:=hA.reqs
 have b1:=hB.lots; have b2:=hB.crit; have b3:=hB.reqs
 have hbl:(both a b).length<=2^30:=by
  have:=q1f (q02 a) (q02 b)
  have:=q0l a
  have:=q0l b
  unfold both
  omega
 have hal:(q38 a b).length<=(both a b).length:=J8 _ _
 refine⟨?_⟩
 intro w1
 have m:Mem w w1 [(w.heap.size,x.cs)]:=Mem.nil.allocL
 clear_value w1
 intro w2
 have m:Mem w w2 [(w1.heap.size,y.cs),(w.heap.size,x.cs)]:=m.allocL
 clear_value w2
 intro w3
 have m:Mem w w3 [(w2.heap.size,[.slice ls.p ls.l ls.c]),(w1.heap.size,y.cs),(w.heap.size,x.cs)]:=m.allocL (cs:=[.slice ls.p ls.l ls.c])
 clear_value w3
 refine T43.ld_row (m.row 2 rfl) (T43.ld_row (m.row 1 rfl) (qar (hx.fr m.1) (hy.fr m.1) hA hB (g.fr m.1) fun w6 r hr=>?_))
 have m6:=m.fr hr.fr0
 refine q2l hr.vw (by omega) (p:=q5i lots) (fun c _ v K' hv' hK'=>q05 z1a_ok (qas (g.fr (m6.1.t hv')) (hv'.row (m6.row 0) fun h=>h) (hv.fr (m6.1.t hv')) hl hi hK')) fun w8 hf8=>hK w8 (m6.1.t hf8)
end
end Go.Proofs.YtipjnbbfnlfmjaaGreatDoor
namespace Pw
open Go
theorem qg6 {b:Nat}{K:World->Prop}:∀ (vs:List Value) (i:Nat) (w:World) (cs:List Value),Row w b cs->i+vs.length<=cs.length->(∀ w',Fr (fun c=>c=b) w w'->Row w' b (q1r cs i vs)->K w')->stN.go ⟨b,0,none⟩ K vs i w
 | [],i,w,cs,hr,_,hK=>hK w Fr.refl (by rw[q9e]; exact hr)
 | v :: vs,i,w,cs,hr,hi,hK=>by
  simp only[Ja] at hi
  refine⟨by rw[q01,Js]; exact hr.wr (by omega),?_⟩
  rw[q01,Js]
  refine qg6 vs (i+1) _ _ (hr.set i v) (by rw[List.length_set]; omega) fun w' hf hr'=>hK w' ((Fr.set (F:=fun c=>c=b) rfl).trans hf fun _ h _=>h) ?_
  rw[q7p _ _ _ _ (by omega)] at hr'
  exact hr'
theorem qg7 {b:Nat}{K:World->Prop}{w:World}{cs vs:List Value}(hr:Row w b cs)(hl:cs.length=vs.length)(hK:∀ w',Fr (fun c=>c=b) w w'->Row w' b vs->K w'):stN w ⟨b,0,none⟩ vs K:=by
 refine qg6 vs 0 w cs hr (by omega) fun w' hf hr'=>hK w' hf ?_
 have e:q1r cs 0 vs=vs:=by simp[q1r,← hl]
 rw[e] at hr'
 exact hr'
theorem Row.uniq2 {w:World}{b:Nat}{cs ds:List Value}(h:Row w b cs)(h':Row w b ds):cs.length=ds.length:=by
 obtain⟨e,f,h1,_⟩:=h
 obtain⟨e',f',h2,_⟩:=h'
 rw[h1] at h2
 have:=congrArg (fun o=>match o with | some (Obj.cells c _ _)=>c.toList.length | _=>0) h2
 simpa using this
end Pw
namespace Go.Proofs.YtipjnbbfnlfmjaaGreatDoor
open Go Pw Dp
def zT:List Value:=T43.cs ⟨ofL [],⟨none,0,0⟩,⟨none,0,0⟩,⟨none,0,0⟩,0,0,ofL [],0,0,ofL [],⟨none,0,0⟩,⟨none,0,0⟩,0,⟨none,0,0⟩,0,0,0,0,0,0⟩
