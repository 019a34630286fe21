/- The reference: names of formulas, formulas that are right, equal formulas. Conditions: none. -/
import Derived.Test.YtmfkimnmklnppaaGreatDoorHQJ
open List renaming length_append->J0,getElem_mem->J1,length_cons->J2,length_nil->J3,length_map->J4,drop_eq_getElem_cons->J5,flatMap_cons->J6,getElem?_eq_getElem->J7,append_assoc->J8,flatMap_nil->J9,take_add_one->Ja,eq_nil_of_length_eq_zero->Jb,take_length->Jc,flatMap_append->Jd,pairwise_iff_getElem->Je,take_append_drop->Jf,append_nil->Jg,length->Jh,not_mem_nil->Ji,getElem_inj->Jj,flatMap_map->Jk,map_append->Jl,all_append->Jm,sum_append->Jn,zip_append->Jo,mem_cons->Jp
open Nat renaming zero_le->Jq,strongRecOn->Jr,zero_add->Js
open Bool renaming and_eq_true->Jt,eq_false_iff->Ju,eq_iff_iff->Jv
namespace Dp
open Go Pw
theorem Fm.kidInd{P:Fm->Prop}(h:∀e,(∀k∈e.kids,P k)->P e):∀e,P e
 | .num _ _=>h _ fun k hk=>by cases hk
 | .name _=>h _ fun k hk=>by cases hk
 | .op o a b=>h _ fun k hk=>by
  have ha:=Fm.kidInd h a
  have hb:=Fm.kidInd h b
  simp only[Fm.kids,Jp,Ji,or_false]at hk
  grind
def Fm.tiny:Fm->Bool
 | .num n d=>decide (-1000000000<n/\n<1000000000/\-1000000000<d/\d<1000000000)
 | .name _=>true
 | .op _ a b=>a.tiny&&b.tiny
theorem q9l{e:Fm}(h:e.tiny=true):∀k∈e.kids,k.tiny=true:=by
 cases e with
 | num n d=>intro k hk;cases hk
 | name s=>intro k hk;cases hk
 | op o a b =>
  simp only[Fm.tiny,Jt]at h
  intro k hk
  simp only[Fm.kids,Jp,Ji,or_false]at hk
  grind
def Fm.fit:Fm->Bool
 | .num n d=>q2h n d
 | .name s=>q2k s
 | .op _ _ _=>true
theorem qb2(e:Fm):e.sound=(e.fit&&e.kids.all Fm.sound):=by
 cases e<;>simp[Fm.sound,Fm.fit,Fm.kids]
theorem qb3(e:Fm):e.parts=1+(e.kids.map Fm.parts).sum:=by
 cases e<;>simp[Fm.parts,Fm.kids]
 omega
theorem qkj(e:Fm):e.depth=(e.kids.map Fm.depth).foldl max 0+1:=by
 cases e<;>simp[Fm.depth,Fm.kids]
theorem q5r:∀e:Fm,e.depth<=e.parts
 | .num _ _=>by simp[Fm.depth,Fm.parts]
 | .name _=>by simp[Fm.depth,Fm.parts]
 | .op _ a b=>by
  have:=q5r a
  have:=q5r b
  simp only[Fm.depth,Fm.parts]
  omega
theorem qcu(e:Fm):e.kids.length<=2:=by cases e<;>simp[Fm.kids]
theorem q79{α β:Type}(f:α->β)(l:List α){i:Nat}(h:i<l.length):(l.take (i+1)).map f=(l.take i).map f++[f l[i]]:=by
 rw[Ja,J7 h,Jl]
 rfl
theorem qrt(e:Fm)(i:Nat):((e.kids.take i).map Fm.parts).sum+1<=e.parts:=by
 rw[qb3]
 have h:((e.kids.take i).map Fm.parts).sum<=(e.kids.map Fm.parts).sum:=by
  conv=>rhs;rw[←Jf i e.kids]
  grind
 omega
end Dp
namespace Go.Proofs.YtmfkimnmklnppaaGreatDoor
open Go Pw Dp
section
variable{w0 w w':World}{s s':Sl}{l:List B}{x:T43}{t:Td}
theorem q7o{c:UInt8}{K:Bool->World->Prop}(hK:K (q23 c) w):z0z_sh (c.toNat:Int) K w:=by
 refine⟨fi ?_⟩
 have e2:q23 c=((decide (97<=c.toNat)&&decide (c.toNat<=122))||(decide (65<=c.toNat)&&decide (c.toNat<=90))):=rfl
 refine q00.2 ⟨fun h1=>q00.2 ⟨fun h2=>?_,fun h2=>q00.2 ⟨fun h3=>?_,fun h3=>?_⟩⟩,fun h1=>q00.2 ⟨fun h3=>?_,fun h3=>?_⟩⟩
 ·grind
 ·grind
 ·omega
 ·grind
 ·grind
theorem qhb{c:UInt8}{K:Bool->World->Prop}(hK:K (q17 c) w):z1l_sh (c.toNat:Int) K w:=by
 refine⟨fi ?_⟩
 refine q00.2 ⟨fun h1=>?_,fun h1=>?_⟩
 ·have:q17 c=decide ((c.toNat:Int)<=57):=by unfold q17;rw[Jv];simp;omega
  rwa [this]at hK
 ·have:q17 c=false:=by unfold q17;simp;omega
  rwa [this]at hK
theorem qcv{c:UInt8}{K:Bool->World->Prop}(hK:K (q14 c) w):z0q_sh (c.toNat:Int) K w:=by
 refine⟨fi ?_⟩
 refine q7o (qhb (q09.2 ⟨fun h=>?_,fun h=>q09.2 ⟨fun h'=>?_,fun h'=>?_⟩⟩))
 ·have:q14 c=true:=by unfold q14;rw[h];rfl
  rwa [this]at hK
 ·have:q14 c=true:=by unfold q14;rw[h,h'];rfl
  rwa [this]at hK
 ·have:q14 c=((c.toNat:Int)==95):=by unfold q14;rw[h,h',Jv];simp;omega
  rwa [this]at hK
theorem q4y{l:B}{K:Bool->World->Prop}(hl:l.length<2^62)(hK:K (q0w l) w):z0x_sh (ofL l) K w:=by
 refine⟨fi ?_⟩
 rw[q0u]
 refine q00.2 ⟨fun h=>?_,fun h1=>q00.2 ⟨fun h=>?_,fun h30=>?_⟩⟩
 ·have:l=[]:=Jb oo
  subst this
  exact hK
 ·have:q0w l=false:=by
   cases l with
   | nil=>rfl
   | cons c r =>
    show(decide ((c::r).length<=30)&&_)=false
    grind
  grind
 obtain⟨c0,r0,rfl⟩:∃c r,l=c::r:=by
  cases l with
  | nil=>simp at h1
  | cons c r=>grind
 have en:q0w (c0::r0)=(q23 c0&&(c0::r0).all q14):=by
  show(decide ((c0::r0).length<=30)&&_)=_
  grind
 generalize hl0:c0::r0=l at *
 refine⟨⟨fun i u=>∃i':Nat,i=i'/\i'<=l.length/\u=w/\(l.take i').all q14=true/\(0<i'->q23 c0=true),fun i _=>l.length-i.toNat,⟨0,rfl,oo,rfl,og,fun h=>oo⟩,?_⟩⟩
 rintro i u ⟨i,rfl,hi,rfl,hb,hc⟩
 refine fi ?_
 rw[q0u]
 refine q00.2 ⟨fun hlt=>⟨⟨oo,oo⟩,?_⟩,fun hge=>?_⟩
 ·have hil:i<l.length:=oo
  have e:((ofL l).data.toList.getD (i:Int).toNat 0)=l[i]:=by
   show(bl (ofL l)).getD i 0=_
   simp_all
  rw[e]
  have no:q14 l[i]=false->q0w l=false:=fun h=>oz
  have nx:q14 l[i]=true->(0<i+1->q23 c0=true)->inR .i64 ((i:Int)+1)/\(((True/\True))/\∃i':Nat,(i:Int)+1=i'/\i'<=l.length/\u=u/\(l.take i').all q14=true/\(0<i'->q23 c0=true)):=fun h hc=>by
   refine⟨q01,⟨trivial,trivial⟩,i+1,oo,oo,rfl,?_,hc⟩
   rw[Ja,J7 hil,Jm,hb]
   simp[h]
  refine qcv ⟨⟨oo,oo⟩,q7o (q09.2 ⟨fun h=>?_,fun h=>q0i.2 ⟨fun h0=>q09.2 ⟨fun h'=>?_,fun h'=>?_⟩,fun h0=>?_⟩⟩)⟩
  ·grind
  ·grind
  ·grind
  ·grind
 ·grind
theorem qkk{n d:Int}(hn:I64 n)(hd:I64 d)(hpos:0<d):((fitQ (Rat.divInt n d)).ok&&((fitQ (Rat.divInt n d)).n==n&&((fitQ (Rat.divInt n d)).d==d&&true)))=decide (q0k n d):=by
 have hr:=qaa (Rat.divInt n d)
 rw[Jv]
 simp only[Jt,beq_iff_eq,and_true,decide_eq_true_eq]
 constructor
 ·grind
 ·intro h
  rw[←qu4 hpos,qn2 h hn hd]
  grind
section
variable{w w' w0:World}
theorem q7p{n d:Int}{K:Bool->World->Prop}(hs:-1000000000<n/\n<1000000000/\-1000000000<d/\d<1000000000)(hn:I64 n)(hd:I64 d)(hK:∀w',Fr F0 w w'->K (decide (q0k n d)) w'):z1e_sh n d K w:=by
 refine⟨fi ?_⟩
 intro w1
 have h:Sx w w1 _:=(Sx.nil Fr.refl).row (cs:=[.int .i64 n,.int .i64 d])
 clear_value w1
 generalize w.heap.size=t0 at h ⊢
 refine⟨_,h.ld 0 rfl rfl,q00.2 ⟨fun hl=>?_,fun hl=>?_⟩⟩
 ·have:=hK w1 h.fr0
  rw[decide_eq_false (fun hr=>by have:=hr.1;omega)]at this
  exact this
 ·have hpos:0<d:=oo
  refine⟨_,h.ld 0 rfl rfl,q56 (q00.2 ⟨fun _=>⟨_,h.ld 0 rfl rfl,q56 (q00.2 ⟨fun _=>?_,fun hh=>absurd ⟨hs.2.2.1,hs.2.2.2⟩ hh⟩)⟩,fun hh=>absurd ⟨hs.1,hs.2.1⟩ hh⟩)⟩
  intro w9
  have h:Sx w w9 [(fun c=>c=t0,fun u=>Row u t0 [.int .i64 n,.int .i64 d])]:=h.fr Fr.drew
  clear_value w9
  obtain⟨S,hSi,hSe⟩:∃S:World->Prop,(∀u,Sx w u [(fun c=>c=t0,fun u=>Row u t0 [.int .i64 n,.int .i64 d])]->S u)/\∀u,S u->Sx w u [(fun c=>c=t0,fun u=>Row u t0 [.int .i64 n,.int .i64 d])]:=⟨_,fun _ h=>h,fun _ h=>h⟩
  refine⟨S,hSi _ h,_,fun u hu=>(hSe u hu).ld 0 rfl rfl,_,fun u hu=>(hSe u hu).ld 0 rfl rfl,_,fun u hu=>(hSe u hu).ld 0 rfl rfl,_,fun u hu=>(hSe u hu).ld 0 rfl rfl,?_⟩
  refine qan oo oo oo fun w2 hf2=>⟨hSi _ (h.fr hf2),?_⟩
  have:=hK w2 (h.fr hf2).fr0
  rw[←qkk hn hd hpos,qij oo oo oo,Bool.true_and]at this
  exact this
theorem qhc{e:Fm}{c:XC}{K:Bool->World->Prop}(hx:XP w e c)(ht:e.tiny=true)(hK:∀w',Fr F0 w w'->K e.fit w'):z23_sh c.op c.n c.d c.nm c.a K w:=by
 refine⟨fi ?_⟩
 intro w1
 have m:Mem w w1 [(w.heap.size,_)]:=Mem.nil.allocL (cs:=encX c)
 clear_value w1
 have hbox:=m.row 0
 cases e with
 | num n d =>
  obtain⟨rfl,hn64,hd64⟩:=hx
  refine⟨_,hbox.at,?_⟩
  have ee:decide (ofL wNum=str [110,117,109])=true:=od
  rw[ee]
  refine⟨n,hbox.at,d,hbox.at,q7p (of_decide_eq_true ht) hn64 hd64 fun w3 hf3=>?_⟩
  have hbox3:=hf3.row hbox fun h=>h
  have fin:∀b,q2h n d=b->K b w3:=fun b hb=>by subst hb;exact hK w3 (m.1.t hf3)
  refine q00.2 ⟨fun h1=>⟨n,hbox3.at,q00.2 ⟨fun h2=>?_,fun h2=>fin _ (Ju.2 fun h=>h2 (q1b.1 h).2.1)⟩⟩,fun h1=>fin _ (Ju.2 fun h=>h1 (q1b.1 h).1)⟩
  have hd0:0<d:=h1.1
  refine⟨d,hbox3.at,oo,q0i.2 ⟨fun h3=>?_,fun h3=>fin _ (Ju.2 fun h=>h3 (q1b.1 h).2.2.1)⟩⟩
  have hdl:=qi9 hd0 h3
  refine⟨n,hbox3.at,d,hbox3.at,q01,q00.2 ⟨fun h4=>?_,fun h4=>fin _ (Ju.2 fun h=>h4 (q1b.1 h).2.2.2)⟩⟩
  refine⟨_,hbox3.at,?_⟩
  have ee:decide (ofL []=str [])=true:=od
  rw[ee]
  exact⟨⟨none,0,0⟩,hbox3.at,fin _ (q1b.2 ⟨h1,h2,h3,h4⟩)⟩
 | name s =>
  obtain⟨rfl,hs20⟩:=hx
  have fin:∀b,q2k s=b->K b w1:=fun b hb=>by subst hb;exact hK w1 m.1
  have en:q2k s=(q0w s&&(!decide (s=wMin) && !decide (s=wMax))):=rfl
  refine⟨_,hbox.at,?_⟩
  have ee:decide (ofL q1w=str [110,117,109])=false:=od
  have ee':decide (ofL q1w=str [110,97,109,101])=true:=od
  rw[ee,ee']
  refine⟨_,hbox.at,q4y oo (q09.2 ⟨fun h1=>⟨_,hbox.at,?_⟩,fun h1=>fin _ (by rw[en,h1];rfl)⟩)⟩
  rw[show decide (ofL s=str [109,105,110])=decide (s=wMin)from q0c s wMin]
  refine q09.2 ⟨fun h2=>⟨_,hbox.at,?_⟩,fun h2=>fin _ (by rw[en,h2];simp)⟩
  rw[show decide (ofL s=str [109,97,120])=decide (s=wMax)from q0c s wMax]
  refine q09.2 ⟨fun h3=>⟨0,hbox.at,0,hbox.at,?_⟩,fun h3=>fin _ (by rw[en,h3];simp)⟩
  show cnd true _ _
  rw[q1c]
  exact⟨⟨none,0,0⟩,hbox.at,fin _ oz⟩
 | op o a b =>
  obtain⟨ca,cb,⟨h1,h2,h3,h4⟩,hv,hxa,hxb⟩:=hx
  obtain⟨op,n,d,nm,sa⟩:=c
  simp only at h1 h2 h3 h4 hv
  subst h1 h2 h3 h4
  have hl2:sa.l=2:=hv.len
  refine⟨_,hbox.at,?_⟩
  rw[qji o,q8q o,op43 o,op45 o,op42 o,op47 o,qpo o,qpp o]
  refine qi8 ⟨fi ?_⟩ o
  simp only[q04,Js]
  refine⟨0,hbox.at,0,hbox.at,?_⟩
  show cnd true _ _
  rw[q1c]
  refine⟨_,hbox.at,?_⟩
  have ee:decide (ofL []=str [])=true:=od
  rw[ee,q1c]
  refine⟨sa,hbox.at,?_⟩
  rw[hl2]
  exact hK w1 m.1
theorem qew(e:Fm):∀ {c:XC} {w:World} {K:Bool->World->Prop},XP w e c->e.tiny=true->(∀w',Fr F0 w w'->K e.sound w')->z1o_sh c.op c.n c.d c.nm c.a K w:=by
 refine Fm.kidInd (P:=fun e=>∀ {c:XC} {w:World} {K:Bool->World->Prop},XP w e c->e.tiny=true->(∀w',Fr F0 w w'->K e.sound w')->z1o_sh c.op c.n c.d c.nm c.a K w) (fun e ih c w K hx ht hK=>?_) e
 obtain⟨cs,hcv,hcl,hck⟩:=hx.kids
 have hea:c.a.l=e.kids.length:=by rw[hcv.len,hcl]
 have h2:=qcu e
 refine z1o_mk (fi ?_)
 intro w1
 have m:Mem w w1 [(w.heap.size,_)]:=Mem.nil.allocL (cs:=encX c)
 clear_value w1
 have hbox:=m.row 0
 refine⟨_,hbox.at,_,hbox.at,_,hbox.at,_,hbox.at,c.a,hbox.at,qhc (hx.fr m.1) ht fun w2 f2=>?_⟩
 refine⟨⟨fun ok i u=>∃i':Nat,i=i'/\i'<=e.kids.length/\Fr F0 w1 u/\ok=(e.fit&&(e.kids.take i').all Fm.sound),fun _ i _=>e.kids.length-i.toNat,⟨0,rfl,oo,f2,og⟩,?_⟩⟩
 rintro ok i u ⟨i,rfl,hi,hf,rfl⟩
 refine fi ?_
 have hb:=hf.row hbox fun h=>h
 refine⟨c.a,hb.at (i:=4) rfl,?_⟩
 rw[hea]
 refine q00.2 ⟨fun hlt=>q09.2 ⟨fun ho=>⟨c.a,hb.at (i:=4) rfl,?_⟩,fun ho=>?_⟩,fun hge=>?_⟩
 ·have hil:i<e.kids.length:=oo
  refine ldX (hcv.fr (m.1.t hf)) i rfl oo ?_
  refine ih _ (J1 hil) ((hck i oo hil).fr (m.1.t hf)) (q9l ht _ (J1 hil)) fun w3 f3=>⟨q01,⟨⟨rfl,trivial⟩,i+1,oo,oo,hf.t f3,?_⟩,uo⟩
  rw[Ja,J7 hil,Jm,←Bool.and_assoc,ho]
  simp
 ·have:e.sound=false:=by
   rw[qb2]
   grind
  rw[ho,←this]
  exact hK u (m.1.t hf)
 ·have:i=e.kids.length:=oo
  subst this
  rw[Jc,←qb2]
  exact hK u (m.1.t hf)
theorem qex(e:Fm):∀ {c:XC} {w:World} {K:Int->World->Prop},XP w e c->e.parts<=2^38->(∀w',Fr F0 w w'->K (e.parts:Int) w')->z1i_sh c.op c.n c.d c.nm c.a K w:=by
 refine Fm.kidInd (P:=fun e=>∀ {c:XC} {w:World} {K:Int->World->Prop},XP w e c->e.parts<=2^38->(∀w',Fr F0 w w'->K (e.parts:Int) w')->z1i_sh c.op c.n c.d c.nm c.a K w) (fun e ih c w K hx hp hK=>?_) e
 obtain⟨cs,hcv,hcl,hck⟩:=hx.kids
 have hea:c.a.l=e.kids.length:=by rw[hcv.len,hcl]
 have h2:=qcu e
 refine z1i_mk (fi ?_)
 intro w1
 have m:Mem w w1 [(w.heap.size,_)]:=Mem.nil.allocL (cs:=encX c)
 clear_value w1
 have hbox:=m.row 0
 refine⟨⟨fun n i u=>∃i':Nat,i=i'/\i'<=e.kids.length/\Fr F0 w1 u/\n=((1+((e.kids.take i').map Fm.parts).sum:Nat):Int),fun _ i _=>e.kids.length-i.toNat,⟨0,rfl,oo,Fr.refl,og⟩,?_⟩⟩
 rintro n i u ⟨i,rfl,hi,hf,rfl⟩
 refine fi ?_
 have hb:=hf.row hbox fun h=>h
 refine⟨c.a,hb.at (i:=4) rfl,?_⟩
 rw[hea]
 refine q00.2 ⟨fun hlt=>⟨c.a,hb.at (i:=4) rfl,?_⟩,fun hge=>?_⟩
 ·have hil:i<e.kids.length:=oo
  have hkp:=qdw e _ (J1 hil)
  have hs:=qrt e (i+1)
  rw[q79 Fm.parts _ hil,Jn]at hs
  simp only[List.sum_cons,List.sum_nil]at hs
  refine ldX (hcv.fr (m.1.t hf)) i rfl oo ?_
  refine ih _ (J1 hil) ((hck i oo hil).fr (m.1.t hf)) oo fun w3 f3=>⟨q01,q01,⟨⟨rfl,trivial⟩,i+1,oo,oo,hf.t f3,?_⟩,uo⟩
  rw[q79 Fm.parts _ hil,Jn]
  grind
 ·have:i=e.kids.length:=oo
  subst this
  rw[Jc,←qb3]
  exact hK u (m.1.t hf)
theorem qog{l:List Nat}{n:Nat}:(l++[n]).foldl max 0=max (l.foldl max 0) n:=oz
theorem qey(e:Fm):∀ {c:XC} {w:World} {K:Int->World->Prop},XP w e c->e.parts<=2^38->(∀w',Fr F0 w w'->K (e.depth:Int) w')->z1h_sh c.op c.n c.d c.nm c.a K w:=by
 refine Fm.kidInd (P:=fun e=>∀ {c:XC} {w:World} {K:Int->World->Prop},XP w e c->e.parts<=2^38->(∀w',Fr F0 w w'->K (e.depth:Int) w')->z1h_sh c.op c.n c.d c.nm c.a K w) (fun e ih c w K hx hp hK=>?_) e
 obtain⟨cs,hcv,hcl,hck⟩:=hx.kids
 have hea:c.a.l=e.kids.length:=by rw[hcv.len,hcl]
 have h2:=qcu e
 refine z1h_mk (fi ?_)
 intro w1
 have m:Mem w w1 [(w.heap.size,_)]:=Mem.nil.allocL (cs:=encX c)
 clear_value w1
 have hbox:=m.row 0
 refine⟨⟨fun n i u=>∃i':Nat,i=i'/\i'<=e.kids.length/\Fr F0 w1 u/\n=((((e.kids.take i').map Fm.depth).foldl max 0:Nat):Int),fun _ i _=>e.kids.length-i.toNat,⟨0,rfl,oo,Fr.refl,og⟩,?_⟩⟩
 rintro n i u ⟨i,rfl,hi,hf,rfl⟩
 refine fi ?_
 have hb:=hf.row hbox fun h=>h
 refine⟨c.a,hb.at (i:=4) rfl,?_⟩
 rw[hea]
 refine q00.2 ⟨fun hlt=>⟨c.a,hb.at (i:=4) rfl,?_⟩,fun hge=>?_⟩
 ·have hil:i<e.kids.length:=oo
  have hkp:=qdw e _ (J1 hil)
  refine ldX (hcv.fr (m.1.t hf)) i rfl oo ?_
  refine ih _ (J1 hil) ((hck i oo hil).fr (m.1.t hf)) oo fun w3 f3=>⟨q01,⟨⟨rfl,trivial⟩,i+1,oo,oo,hf.t f3,?_⟩,uo⟩
  rw[q79 Fm.depth _ hil,qog]
  omega
 ·have:i=e.kids.length:=oo
  subst this
  have hd:=q5r e
  have he:=qkj e
  rw[Jc]
  have e1:(((e.kids.map Fm.depth).foldl max 0:Nat):Int)+1=(e.depth:Int):=oo
  rw[e1]
  exact⟨q01,hK u (m.1.t hf)⟩
theorem qcw{e:Fm}{c:XC}{K:Bool->World->Prop}(hx:XP w e c)(ht:e.tiny=true)(hp:e.parts<=2^38)(hK:∀w',Fr F0 w w'->K e.right w'):z06_sh c.op c.n c.d c.nm c.a K w:=by
 refine⟨fi ?_⟩
 intro w1
 have m:Mem w w1 [(w.heap.size,_)]:=Mem.nil.allocL (cs:=encX c)
 clear_value w1
 have hbox:=m.row 0
 have er:e.right=(e.sound&&(decide (e.parts<=60)&&decide (e.depth<=12))):=rfl
 refine⟨_,hbox.at,_,hbox.at,_,hbox.at,_,hbox.at,c.a,hbox.at,qew e (hx.fr m.1) ht fun w2 f2=>?_⟩
 have F2:=m.1.t f2
 have hb2:=f2.row hbox fun h=>h
 refine q09.2 ⟨fun h1=>?_,fun h1=>?_⟩
 ·refine⟨_,hb2.at,_,hb2.at,_,hb2.at,_,hb2.at,c.a,hb2.at,qex e (hx.fr F2) hp fun w3 f3=>?_⟩
  have F3:=F2.t f3
  have hb3:=f3.row hb2 fun h=>h
  refine q00.2 ⟨fun h2=>?_,fun h2=>?_⟩
  ·refine⟨_,hb3.at,_,hb3.at,_,hb3.at,_,hb3.at,c.a,hb3.at,qey e (hx.fr F3) hp fun w4 f4=>?_⟩
   have:decide ((e.depth:Int)<=12)=e.right:=oz
   rw[this]
   exact hK w4 (F3.t f4)
  ·grind
 ·grind
end
end
end Go.Proofs.YtmfkimnmklnppaaGreatDoor
set_option maxRecDepth 20000
namespace Go.Proofs.YtmfkimnmklnppaaGreatDoor
open Go Pw Dp
theorem q0o(l:B):(ofL l).size=l.length:=by rw[←ByteArray.size_data];simp[ofL]
theorem q9m:∀(k u:Nat),u<10^(k+1)->(Lib.decDigits u).length<=k+1:=by
 intro k
 induction k with
 | zero =>
  intro u hu
  rw[Lib.decDigits,dif_pos (by simpa using hu)]
  simp
 | succ k ih =>
  intro u hu
  rw[Lib.decDigits]
  grind
theorem qcx{n:Int}(h:I64 n):(Lib.itoa n).length<=20:=by
 unfold Lib.itoa
 have h1:=h.1
 have h2:=h.2
 split
 ·have:=q9m 18 n.natAbs oo
  grind
 ·have:=q9m 18 n.toNat oo
  omega
section
variable{w w' w0:World}
theorem q5s(u:Nat):u<9223372036854775809->∀ {w:World} {K:ByteArray->World->Prop},u<9223372036854775808->(∀w',Fr F0 w w'->K (ofL (Lib.decDigits u)) w')->z0o_sh u K w:=by
 induction u using Jr with
 | ind u ih =>
  intro _ w K hu hK
  refine z0o_mk (fi ?_)
  rw[decide_eq_false oo,q0x]
  refine⟨fi ?_⟩
  rw[decide_eq_false oo,q0x,q00]
  constructor
  ·intro h
   refine⟨q01,(show IntKind.wrap .u8 _=_ by simp[IntKind.wrap,IntKind.bits,IntKind.signed];omega),?_⟩
   intro w7
   have e:Value.int .u8 (48+(u:Int))=bv (UInt8.ofNat (48+u)):=by
    unfold bv
    rw[q1n oo]
    rfl
   have m:Mem w w7 [(w.heap.size,[Value.int .u8 (48+(u:Int))])]:=Mem.nil.allocL
   rw[e]at m
   clear_value w7
   have e2:Lib.decDigits u=[UInt8.ofNat (48+u)]:=by rw[Lib.decDigits,dif_pos oo]
   refine qt4 (l:=[UInt8.ofNat (48+u)]) ⟨rfl,fun i hi=>?_⟩ ?_
   ·have:i=0:=by simp at hi;omega
    subst this
    exact m.ld 0
   ·rw[←e2]
    exact hK w7 m.1
  ·intro h
   have e1:Int.tdiv (u:Int) 10=((u/10:Nat):Int):=rfl
   have e2:Int.tmod (u:Int) 10=((u%10:Nat):Int):=rfl
   have e3:Lib.decDigits (u%10)=[UInt8.ofNat (48+u%10)]:=by rw[Lib.decDigits,dif_pos oo]
   have e4:Lib.decDigits u=Lib.decDigits (u/10)++[UInt8.ofNat (48+u%10)]:=by rw[Lib.decDigits,dif_neg oo]
   rw[e1,e2]
   refine⟨od,q01,ih (u/10) oo oo oo fun w2 hf2=>?_⟩
   refine⟨od,ih (u%10) oo oo oo fun w3 hf3=>?_⟩
   have hl:=q9m 18 (u/10) oo
   refine⟨?_,?_⟩
   ·rw[q0o,q0o,e3]
    unfold maxI
    grind
   ·have:=hK w3 (Fr0.t hf2 hf3)
    rw[e4,←e3]at this
    rw[show ofL (Lib.decDigits (u/10))++ofL (Lib.decDigits (u%10))=ofL (Lib.decDigits (u/10)++Lib.decDigits (u%10))from q7b ud]
    exact this
theorem qhd(u:Nat):0<u->u<=9223372036854775808->∀ {w:World} {K:ByteArray->World->Prop},(∀w',Fr F0 w w'->K (ofL (45::Lib.decDigits u)) w')->z0o_sh (-(u:Int)) K w:=by
 induction u using Jr with
 | ind u ih =>
  intro h0 hu w K hK
  refine z0o_mk (fi ?_)
  rw[decide_eq_true oo,q1c,q00]
  constructor
  ·intro h
   rw[Int.neg_neg]
   have hl:=q9m 0 u oo
   refine⟨q01,q5s u oo oo fun w2 hf2=>⟨?_,?_⟩⟩
   ·rw[q0o,show(str [45]).size=1 by decide]
    unfold maxI
    omega
   ·rw[show str [45]++ofL (Lib.decDigits u)=ofL (45::Lib.decDigits u)from q7b (by rw[qlp,q28,q28];rfl)]
    exact hK w2 hf2
  ·intro h
   refine⟨fi ?_⟩
   rw[decide_eq_true oo,q1c]
   have e1:Int.tdiv (-(u:Int)) 10=-((u/10:Nat):Int):=oz
   have e2:-Int.tmod (-(u:Int)) 10=((u%10:Nat):Int):=oz
   have e3:Lib.decDigits (u%10)=[UInt8.ofNat (48+u%10)]:=by rw[Lib.decDigits,dif_pos oo]
   have e4:Lib.decDigits u=Lib.decDigits (u/10)++[UInt8.ofNat (48+u%10)]:=by rw[Lib.decDigits,dif_neg oo]
   rw[e1,e2]
   refine⟨od,q01,ih (u/10) oo oo oo fun w2 hf2=>?_⟩
   refine⟨od,q01,q5s (u%10) oo oo fun w3 hf3=>?_⟩
   have hl:=q9m 18 (u/10) oo
   refine⟨?_,?_⟩
   ·rw[q0o,q0o,e3]
    unfold maxI
    grind
   ·have:=hK w3 (Fr0.t hf2 hf3)
    rw[e4,←e3]at this
    rw[show ofL (45::Lib.decDigits (u/10))++ofL (Lib.decDigits (u%10))=ofL (45::(Lib.decDigits (u/10)++Lib.decDigits (u%10)))from q7b ud]
    exact this
theorem qkl{n:Int}{K:ByteArray->World->Prop}(h:I64 n)(hK:∀w',Fr F0 w w'->K (ofL (Lib.itoa n)) w'):z0o_sh n K w:=by
 have h1:=h.1
 have h2:=h.2
 unfold Lib.itoa at hK
 by_cases hn:n<0
 ·rw[if_pos hn]at hK
  have:=qhd n.natAbs oo oo hK
  grind
 ·rw[if_neg hn]at hK
  have:=q5s n.toNat oo oo hK
  grind
theorem q0g{n:Int}{K:ByteArray->World->Prop}(hs:-1000000000<n/\n<1000000000)(hK:∀w',Fr F0 w w'->K (ofL (Lib.itoa n)) w'):z11_sh n K w:=by
 have hn:I64 n:=⟨oo,oo⟩
 refine⟨fi ?_⟩
 refine⟨fi ?_⟩
 intro w1
 have h:Sx w w1 _:=(Sx.nil Fr.refl).row (cs:=[.int .i64 n,.int .i64 1])
 clear_value w1
 generalize w.heap.size=t0 at h ⊢
 refine⟨_,h.ld 0 rfl rfl,_,h.ld 0 rfl rfl,q7p ⟨hs.1,hs.2,oo,oo⟩ hn ⟨oo,oo⟩ fun w2 f2=>?_⟩
 have h:=h.fr f2
 have hr:q0k n 1:=⟨oo,og⟩
 rw[decide_eq_true hr]
 refine q0h ⟨_,h.ld 0 rfl rfl,q0i.2 ⟨fun _=>⟨_,h.ld 0 rfl rfl,qkl hn fun w3 f3=>hK w3 (h.fr0.t f3)⟩,fun h=>absurd rfl h⟩⟩
end
end Go.Proofs.YtmfkimnmklnppaaGreatDoor
namespace Dp
open Go Pw
def msD(r d:Int):Nat:=if r=0 then 0 else if 10*r%d=0 then 1 else 2
theorem qoh:∀d∈([1,2,4,5,10]:List Int),∀r∈([1,2,3,4,5,6,7,8,9]:List Int),r<d->q2n r d=Lib.itoa (10*r/d)++q2n (10*r%d) d/\msD (10*r%d) d<msD r d:=by decide +kernel
theorem qoi{r d:Int}(hd:q1x d=true)(h0:0<r)(h1:r<d):q2n r d=Lib.itoa (10*r/d)++q2n (10*r%d) d/\msD (10*r%d) d<msD r d:=by
 unfold q1x at hd
 have hd:=of_decide_eq_true hd
 refine qoh d ?_ r ?_ h1
 ·grind
 ·have:r=1\/r=2\/r=3\/r=4\/r=5\/r=6\/r=7\/r=8\/r=9:=oo
  simp_all
end Dp
namespace Go.Proofs.YtmfkimnmklnppaaGreatDoor
open Go Pw Dp
section
variable{w w' w0:World}
theorem ofL_app(a b:B):ofL a++ofL b=ofL (a++b):=q7b ud
theorem qoj{d:Int}{xb:Nat}{nv:Value}{K:ByteArray->World->Prop}{o:B}{r:Int}(hd:q1x d=true)(hx:Row w xb [nv,.int .i64 d])(h0:0<=r)(h1:r<d)(ho:o.length<=100)(hK:∀w',Fr F0 w w'->K (ofL (o++q2n r d)) w') :
  z0p_k0 ⟨xb,0,none⟩ (ofL o) r K w:=by
 have hdl:1<=d/\d<=10:=by
  have:=of_decide_eq_true hd
  omega
 refine⟨fi ?_⟩
 refine⟨⟨fun z s u=>∃o2:B,z=ofL o2/\0<=s/\s<d/\o2.length+20*msD s d<=200/\o2++q2n s d=o++q2n r d/\Fr F0 w u,fun _ s _=>msD s d,⟨o,rfl,h0,h1,?_,rfl,Fr.refl⟩,?_⟩⟩
 ·unfold msD
  grind
 rintro _ s u ⟨o2,rfl,hs0,hs1,hol,heq,f⟩
 refine fi ?_
 have hr:=f.row hx fun h=>h
 refine q00.2 ⟨fun hpos=>?_,fun hz=>?_⟩
 ·obtain⟨e1,e2⟩:=qoi hd (r:=s) oo hs1
  have ht:Int.tdiv (10*s) d=10*s/d:=Int.tdiv_eq_ediv_of_nonneg oo
  have hm:Int.tmod (10*s) d=10*s%d:=Int.tmod_eq_emod_of_nonneg oo
  have hq0:0<=10*s/d:=Int.ediv_nonneg oo oo
  have hq1:10*s/d<=10*s:=Int.ediv_le_self _ oo
  have hm0:=Int.emod_nonneg (10*s) (show d≠0 by omega)
  have hm1:=Int.emod_lt_of_pos (10*s) (show 0<d by omega)
  have hi20:=qcx (n:=10*s/d) ⟨oo,oo⟩
  refine⟨q01,d,hr.at,oo,q01 (by rw[ht];omega) (by rw[ht];omega),?_⟩
  rw[ht]
  refine q0g ⟨oo,oo⟩ fun w2 f2=>⟨?_,q01,d,(f2.row hr fun h=>h).at rfl,oo,?_⟩
  ·rw[q0o,q0o]
   unfold maxI
   omega
  ·rw[hm,ofL_app]
   refine⟨⟨⟨rfl,trivial⟩,_,rfl,hm0,hm1,?_,?_,f.t f2⟩,e2⟩
   ·grind
   ·grind
 ·have hs:s=0:=oo
  subst hs
  rw[show q2n 0 d=[]from rfl,Jg]at heq
  grind
theorem qkm{n d:Int}{K:ByteArray->World->Prop}(hd:q1x d=true)(hn:0<=n/\n<1000000000)(hK:∀w',Fr F0 w w'->K (ofL (decB n d)) w'):z0p_sh n d K w:=by
 have hdl:1<=d/\d<=10:=by
  have:=of_decide_eq_true hd
  omega
 have ht:Int.tdiv n d=n/d:=Int.tdiv_eq_ediv_of_nonneg oo
 have hm:Int.tmod n d=n%d:=Int.tmod_eq_emod_of_nonneg oo
 have hq0:0<=n/d:=Int.ediv_nonneg oo oo
 have hq1:n/d<=n:=Int.ediv_le_self _ oo
 have hm0:=Int.emod_nonneg n (show d≠0 by omega)
 have hm1:=Int.emod_lt_of_pos n (show 0<d by omega)
 have hi20:=qcx (n:=n/d) ⟨oo,oo⟩
 refine⟨fi ?_⟩
 intro w1
 have h:Sx w w1 _:=(Sx.nil Fr.refl).row (cs:=[.int .i64 n,.int .i64 d])
 clear_value w1
 generalize w.heap.size=t0 at h ⊢
 refine⟨_,h.ld 0 rfl rfl,_,h.ld 0 rfl rfl,oo,q01 (by rw[ht];omega) (by rw[ht];omega),?_⟩
 rw[ht]
 refine q0g ⟨oo,oo⟩ fun w2 f2=>?_
 have h:=h.fr f2
 refine⟨_,h.ld 0 rfl rfl,_,h.ld 0 rfl rfl,oo,?_⟩
 rw[hm]
 unfold decB at hK
 refine q00.2 ⟨fun hp=>⟨?_,?_⟩,fun hp=>?_⟩
 ·rw[q0o,show(str [46]).size=1 from rfl]
  unfold maxI
  omega
 ·rw[show str [46]=ofL [46]from rfl,ofL_app]
  refine qoj hd (h.get 0 rfl) hm0 hm1 oz fun w3 f3=>?_
  have:=hK w3 (h.fr0.t f3)
  grind
 ·have hz:n%d=0:=oo
  rw[hz]
  refine qoj hd (h.get 0 rfl) oo oo oo fun w3 f3=>?_
  have:=hK w3 (h.fr0.t f3)
  rw[if_pos hz]at this
  exact this
end
end Go.Proofs.YtmfkimnmklnppaaGreatDoor
namespace Dp
open Go Pw
namespace Fm
def prodB:Fm->Bool
 | .op o _ _=>decide (o=2)||decide (o=3)
 | _=>false
def sumB:Fm->Bool
 | .op o _ _=>decide (o=0)||decide (o=1)
 | _=>false
end Fm
theorem lev_a:∀o p:Fin 6,lev o<2->lev p<2->decide (lev p<lev o)=((decide (p=0)||decide (p=1))&&(decide (o=2)||decide (o=3))):=od
theorem lev_b:∀o p:Fin 6,lev o<2->lev p<2->decide (lev p<lev o+1)=((decide (p=0)||decide (p=1))||((decide (p=2)||decide (p=3))&&(decide (o=2)||decide (o=3)))):=od
theorem shw_a{o:Fin 6}(ho:lev o<2):∀ {a:Fm},a.four=true->a.shw (lev o)=parB (a.sumB&&(decide (o=2)||decide (o=3))) (a.shw 0)
 | .num n d,_=>by simp[Fm.sumB,parB,Fm.shw]
 | .name s,_=>by simp[Fm.sumB,parB,Fm.shw]
 | .op p x y,h=>by
  simp only[Fm.four,Jt,decide_eq_true_eq]at h
  have hp:=h.1
  have e:decide (lev p<lev o)=(Fm.sumB (.op p x y)&&(decide (o=2)||decide (o=3))):=lev_a o p ho hp
  show parB (decide (lev p<lev o)) _=parB _ (parB (decide (lev p<0)) _)
  rw[e]
  simp[parB]
theorem shw_b{o:Fin 6}(ho:lev o<2):∀ {a:Fm},a.four=true->a.shw (lev o+1)=parB (a.sumB||(a.prodB&&(decide (o=2)||decide (o=3)))) (a.shw 0)
 | .num n d,_=>by simp[Fm.sumB,Fm.prodB,parB,Fm.shw]
 | .name s,_=>by simp[Fm.sumB,Fm.prodB,parB,Fm.shw]
 | .op p x y,h=>by
  simp only[Fm.four,Jt,decide_eq_true_eq]at h
  have hp:=h.1
  have e:decide (lev p<lev o+1)=(Fm.sumB (.op p x y)||(Fm.prodB (.op p x y)&&(decide (o=2)||decide (o=3)))):=lev_b o p ho hp
  show parB (decide (lev p<lev o+1)) _=parB _ (parB (decide (lev p<0)) _)
  rw[e]
  simp[parB]
end Dp
namespace Go.Proofs.YtmfkimnmklnppaaGreatDoor
open Go Pw Dp
section
variable{w w' w0:World}
theorem qb4{e:Fm}{c:XC}{K:Bool->World->Prop}(hx:XP w e c)(hK:∀w',Fr F0 w w'->K e.prodB w'):z0s_sh c.op c.n c.d c.nm c.a K w:=by
 refine⟨fi ?_⟩
 intro w1
 have h:Sx w w1 _:=(Sx.nil Fr.refl).row (cs:=encX c)
 clear_value w1
 generalize w.heap.size=t0 at h ⊢
 refine⟨_,h.ld 0 rfl rfl,?_⟩
 have hk:=hK w1 h.fr0
 cases e with
 | num n d =>
  obtain⟨rfl,_⟩:=hx
  exact q00.2 ⟨fun hh=>absurd (show ofL wNum=str [42]from hh) od,fun _=>⟨_,h.ld 0 rfl rfl,hk⟩⟩
 | name s =>
  obtain⟨rfl,_⟩:=hx
  exact q00.2 ⟨fun hh=>absurd (show ofL q1w=str [42]from hh) od,fun _=>⟨_,h.ld 0 rfl rfl,hk⟩⟩
 | op o a b =>
  obtain⟨ca,cb,⟨h1,h2,h3,h4⟩,_⟩:=hx
  obtain⟨op,n,d,nm,sa⟩:=c
  simp only at h1
  subst h1
  have hk:K (decide (o=2)||decide (o=3)) w1:=hk
  show cnd (decide (ofL (opB o)=str [42])) _ _
  rw[op42 o]
  by_cases ho:o=2
  ·simp_all
  ·rw[decide_eq_false ho]at hk ⊢
   refine q0h ⟨_,h.ld 0 rfl rfl,?_⟩
   show K (decide (ofL (opB o)=str [47])) w1
   rw[op47 o]
   exact hk
theorem qez{e:Fm}{c:XC}{K:Bool->World->Prop}(hx:XP w e c)(hK:∀w',Fr F0 w w'->K e.sumB w'):z31_sh c.op c.n c.d c.nm c.a K w:=by
 refine⟨fi ?_⟩
 intro w1
 have h:Sx w w1 _:=(Sx.nil Fr.refl).row (cs:=encX c)
 clear_value w1
 generalize w.heap.size=t0 at h ⊢
 refine⟨_,h.ld 0 rfl rfl,?_⟩
 have hk:=hK w1 h.fr0
 cases e with
 | num n d =>
  obtain⟨rfl,_⟩:=hx
  exact q00.2 ⟨fun hh=>absurd (show ofL wNum=str [43]from hh) od,fun _=>⟨_,h.ld 0 rfl rfl,hk⟩⟩
 | name s =>
  obtain⟨rfl,_⟩:=hx
  exact q00.2 ⟨fun hh=>absurd (show ofL q1w=str [43]from hh) od,fun _=>⟨_,h.ld 0 rfl rfl,hk⟩⟩
 | op o a b =>
  obtain⟨ca,cb,⟨h1,h2,h3,h4⟩,_⟩:=hx
  obtain⟨op,n,d,nm,sa⟩:=c
  simp only at h1
  subst h1
  have hk:K (decide (o=0)||decide (o=1)) w1:=hk
  show cnd (decide (ofL (opB o)=str [43])) _ _
  rw[op43 o]
  by_cases ho:o=0
  ·simp_all
  ·rw[decide_eq_false ho]at hk ⊢
   refine q0h ⟨_,h.ld 0 rfl rfl,?_⟩
   show K (decide (ofL (opB o)=str [45])) w1
   rw[op45 o]
   exact hk
end
section
variable{w w' w0:World}
theorem qok:∀o:Fin 6,(opS o).length<=3:=od
theorem quz:∀o:Fin 6,opS o=opB o:=od
theorem qru(r d:Int):(q2n r d).length<=2:=by
 unfold q2n
 grind
theorem qrv(b:Bool)(s:B):(parB b s).length<=s.length+2:=by
 cases b
 ·show s.length<=_;omega
 ·show(40::(s++[41])).length<=_
  grind
theorem shw_len:∀ {e:Fm} {c:XC} {w:World},XP w e c->e.four=true->e.tiny=true->∀k,(e.shw k).length+10<=2^21*e.parts
 | .num n d,c,w,hx,hf,ht,k=>by
  have ht:=of_decide_eq_true ht
  simp only[Fm.four,Jt]at hf
  have hd:=of_decide_eq_true hf.2
  have h0:=(q1b.1 hf.1).2.1
  have hq0:0<=n/d:=Int.ediv_nonneg oo oo
  have hq1:n/d<=n:=Int.ediv_le_self _ oo
  have h1:=qcx (n:=n/d) ⟨oo,oo⟩
  have h2:=qru (n%d) d
  have h3:(decB n d).length<=23:=by
   unfold decB
   grind
  show(decB n d).length+10<=2^21*1
  omega
 | .name s,c,w,hx,hf,ht,k=>by
  obtain⟨rfl,hs⟩:=hx
  show s.length+10<=2^21*1
  omega
 | .op o a b,c,w,hx,hf,ht,k=>by
  obtain⟨ca,cb,_,_,hxa,hxb⟩:=hx
  simp only[Fm.four,Jt]at hf
  have ht:=q9l ht
  have h1:=shw_len hxa hf.2.1 (ht a (by simp[Fm.kids])) (lev o)
  have h2:=shw_len hxb hf.2.2 (ht b (by simp[Fm.kids])) (lev o+1)
  have h3:=qrv (decide (lev o<k)) (a.shw (lev o)++(32::(opS o++(32::b.shw (lev o+1)))))
  have h4:(opS o).length<=3:=qok o
  simp only[J0,J2]at h3
  show(parB (decide (lev o<k)) (a.shw (lev o)++(32::(opS o++(32::b.shw (lev o+1)))))).length+10<=2^21*(1+a.parts+b.parts)
  omega
theorem q6o{e:Fm}{c:XC}{p:Bool}{K:ByteArray->World->Prop}(hx:XP w e c)(hl:(e.shw 0).length<=2^60)
  (hp:∀ {w1:World} {K:ByteArray->World->Prop},XP w1 e c->(∀w',Fr F0 w1 w'->K (ofL (e.shw 0)) w')->z1m_sh c.op c.n c.d c.nm c.a K w1)
  (hK:∀w',Fr F0 w w'->K (ofL (parB p (e.shw 0))) w'):z0g_sh c.op c.n c.d c.nm c.a p K w:=by
 refine⟨fi ?_⟩
 intro w1
 have h:Sx w w1 _:=(Sx.nil Fr.refl).row (cs:=encX c)
 have hx:=hx.fr (w':=w1) Fr.alloc
 clear_value w1
 generalize w.heap.size=t0 at h ⊢
 cases p
 ·exact q0h ⟨_,h.ld 0 rfl rfl,_,h.ld 0 rfl rfl,_,h.ld 0 rfl rfl,_,h.ld 0 rfl rfl,c.a,h.ld 0 rfl rfl,hp hx fun w2 f2=>hK w2 (h.fr0.t f2)⟩
 ·refine q08 ⟨_,h.ld 0 rfl rfl,_,h.ld 0 rfl rfl,_,h.ld 0 rfl rfl,_,h.ld 0 rfl rfl,c.a,h.ld 0 rfl rfl,hp hx fun w2 f2=>?_⟩
  have:=hK w2 (h.fr0.t f2)
  rw[show str [40]=ofL [40]from rfl,show str [41]=ofL [41]from rfl,ofL_app,ofL_app,q0o,q0o,q0o,q0o]
  refine⟨?_,?_,?_⟩
  ·unfold maxI;simp only[J2,J3];omega
  ·unfold maxI;simp only[J2,J3,J0];omega
  ·exact this
theorem qcy{c:XC}{K:ByteArray->World->Prop}(h:z12_sd c.op c.n c.d c.nm c.a K w):z1m_sh c.op c.n c.d c.nm c.a K w:=
 ⟨(z12_mk h).out⟩
theorem q7a:∀(e:Fm) {c:XC} {w:World} {K:ByteArray->World->Prop},XP w e c->e.four=true->e.tiny=true->e.parts<=2^30->(∀w',Fr F0 w w'->K (ofL (e.shw 0)) w')->z1m_sh c.op c.n c.d c.nm c.a K w
 | .num n d,c,w,K,hx,hf,ht,hp,hK=>by
  obtain⟨rfl,_⟩:=hx
  have ht:=of_decide_eq_true ht
  simp only[Fm.four,Jt]at hf
  have h0:=(q1b.1 hf.1).2.1
  refine qcy ?_
  refine fi ?_
  intro w1
  have h:Sx w w1 _:=(Sx.nil Fr.refl).row (cs:=encX ⟨ofL wNum,n,d,ofL [],⟨none,0,0⟩⟩)
  clear_value w1
  generalize w.heap.size=t0 at h ⊢
  refine⟨_,h.ld 0 rfl rfl,q00.2 ⟨fun _=>⟨_,h.ld 0 rfl rfl,_,h.ld 0 rfl rfl,qkm hf.2 ⟨h0,ht.2.1⟩ fun w2 f2=>hK w2 (h.fr0.t f2)⟩,fun hh=>absurd (show ofL wNum=str [110,117,109] by decide) hh⟩⟩
 | .name s,c,w,K,hx,hf,ht,hp,hK=>by
  obtain⟨rfl,_⟩:=hx
  refine qcy ?_
  refine fi ?_
  intro w1
  have h:Sx w w1 _:=(Sx.nil Fr.refl).row (cs:=encX ⟨ofL q1w,0,0,ofL s,⟨none,0,0⟩⟩)
  clear_value w1
  generalize w.heap.size=t0 at h ⊢
  refine⟨_,h.ld 0 rfl rfl,q00.2 ⟨fun hh=>absurd (show ofL q1w=str [110,117,109]from hh) od,fun _=>q00.2 ⟨fun _=>⟨_,h.ld 0 rfl rfl,hK w1 h.fr0⟩,fun hh=>absurd (show ofL q1w=str [110,97,109,101] by decide) hh⟩⟩⟩
 | .op o a b,c,w,K,hx,hf,ht,hp,hK=>by
  have hb:=fun k=>shw_len hx hf ht k
  obtain⟨ca,cb,⟨h1,h2,h3,h4⟩,hv,hxa,hxb⟩:=hx
  obtain⟨op,n,d,nm,sa⟩:=c
  simp only at h1 h2 h3 h4 hv
  subst h1 h2 h3 h4
  simp only[Fm.four,Jt]at hf
  have ho:=of_decide_eq_true hf.1
  have ht:=q9l ht
  have hta:=ht a (by simp[Fm.kids])
  have htb:=ht b (by simp[Fm.kids])
  have hpp:1+a.parts+b.parts<=2^30:=hp
  have hla:=shw_len hxa hf.2.1 hta
  have hlb:=shw_len hxb hf.2.2 htb
  have ihA:∀ {w1:World} {K:ByteArray->World->Prop},XP w1 a ca->(∀w',Fr F0 w1 w'->K (ofL (a.shw 0)) w')->z1m_sh ca.op ca.n ca.d ca.nm ca.a K w1:=fun hx hK=>q7a a hx hf.2.1 hta oo hK
  have ihB:∀ {w1:World} {K:ByteArray->World->Prop},XP w1 b cb->(∀w',Fr F0 w1 w'->K (ofL (b.shw 0)) w')->z1m_sh cb.op cb.n cb.d cb.nm cb.a K w1:=fun hx hK=>q7a b hx hf.2.2 htb oo hK
  refine qcy ?_
  refine fi ?_
  intro w1
  have h:Sx w w1 _:=(Sx.nil Fr.refl).row (cs:=encX ⟨ofL (opB o),0,0,ofL [],sa⟩)
  clear_value w1
  generalize w.heap.size=t0 at h ⊢
  have k1:z12_k1 ⟨t0,0,none⟩ K w1:=by
   refine⟨fi ?_⟩
   refine⟨sa,h.ld 0 rfl rfl,?_⟩
   refine ldX (hv.fr h.fr0) 0 rfl (by show 0<2;omega) ?_
   refine h.box (vs:=encX ca) rfl fun w2 f2 h=>?_
   generalize w1.heap.size=ba at h ⊢
   refine⟨sa,h.ld 1 rfl rfl,?_⟩
   refine ldX (hv.fr h.fr0) 1 rfl (by show 1<2;omega) ?_
   refine h.box (vs:=encX cb) rfl fun w3 f3 h=>?_
   generalize w2.heap.size=bb at h ⊢
   refine⟨_,h.ld 2 rfl rfl,_,h.ld 2 rfl rfl,_,h.ld 2 rfl rfl,_,h.ld 2 rfl rfl,sa,h.ld 2 rfl rfl,?_⟩
   have hxe:XP w (.op o a b) ⟨ofL (opB o),0,0,ofL [],sa⟩:=⟨ca,cb,⟨rfl,rfl,rfl,rfl⟩,hv,hxa,hxb⟩
   refine qb4 (hxe.fr h.fr0) fun w4 f4=>?_
   have h:=h.fr f4
   refine⟨_,h.ld 1 rfl rfl,_,h.ld 1 rfl rfl,_,h.ld 1 rfl rfl,_,h.ld 1 rfl rfl,ca.a,h.ld 1 rfl rfl,?_⟩
   refine qez (hxa.fr h.fr0) fun w5 f5=>?_
   have h:=h.fr f5
   refine⟨_,h.ld 0 rfl rfl,_,h.ld 0 rfl rfl,_,h.ld 0 rfl rfl,_,h.ld 0 rfl rfl,cb.a,h.ld 0 rfl rfl,?_⟩
   refine qez (hxb.fr h.fr0) fun w6 f6=>?_
   have h:=h.fr f6
   refine⟨_,h.ld 0 rfl rfl,_,h.ld 0 rfl rfl,_,h.ld 0 rfl rfl,_,h.ld 0 rfl rfl,cb.a,h.ld 0 rfl rfl,?_⟩
   refine qb4 (hxb.fr h.fr0) fun w7 f7=>?_
   have h:=h.fr f7
   intro w8
   have h:=h.fr (w':=w8) Fr.drew
   clear_value w8
   obtain⟨S,hSi,hSe⟩:∃S:World->Prop,(∀u,Sx w u [(fun c=>c=bb,fun u=>Row u bb (encX cb)),(fun c=>c=ba,fun u=>Row u ba (encX ca)),(fun c=>c=t0,fun u=>Row u t0 (encX ⟨ofL (opB o),0,0,ofL [],sa⟩))]->S u)/\∀u,S u->Sx w u [(fun c=>c=bb,fun u=>Row u bb (encX cb)),(fun c=>c=ba,fun u=>Row u ba (encX ca)),(fun c=>c=t0,fun u=>Row u t0 (encX ⟨ofL (opB o),0,0,ofL [],sa⟩))]:=⟨_,fun _ h=>h,fun _ h=>h⟩
   refine⟨S,hSi _ h,_,fun u hu=>(hSe u hu).ld 1 rfl rfl,_,fun u hu=>(hSe u hu).ld 1 rfl rfl,_,fun u hu=>(hSe u hu).ld 1 rfl rfl,_,fun u hu=>(hSe u hu).ld 1 rfl rfl,ca.a,fun u hu=>(hSe u hu).ld 1 rfl rfl,_,fun u hu=>(hSe u hu).ld 2 rfl rfl,_,fun u hu=>(hSe u hu).ld 0 rfl rfl,_,fun u hu=>(hSe u hu).ld 0 rfl rfl,_,fun u hu=>(hSe u hu).ld 0 rfl rfl,_,fun u hu=>(hSe u hu).ld 0 rfl rfl,cb.a,fun u hu=>(hSe u hu).ld 0 rfl rfl,?_⟩
   have hpe:(Fm.op o a b).prodB=(decide (o=2)||decide (o=3)):=rfl
   have ea:=shw_a ho hf.2.1
   have eb:=shw_b ho hf.2.2
   have h4:=qok o
   have l1:=hla (lev o)
   have l2:=hlb (lev o+1)
   have l3:=hla 0
   have l4:=hlb 0
   have eo:=quz o
   have ek:(Fm.op o a b).shw 0=a.shw (lev o)++(32::(opS o++(32::b.shw (lev o+1)))):=by
    show parB (decide (lev o<0)) _=_
    rw[show decide (lev o<0)=false from og]
    rfl
   rw[ek]at hK
   rw[hpe]
   generalize(decide (o=2)||decide (o=3))=pe at ea eb
   rw[←eo]
   have sz:∀A:B,A.length<=2^60->(((ofL A).size+(str [32]).size:Nat):Int)<=maxI/\(((ofL A++str [32]).size+(ofL (opS o)).size:Nat):Int)<=maxI/\((((ofL A++str [32])++ofL (opS o)).size+(str [32]).size:Nat):Int)<=maxI:=fun A hA=>by
    rw[show str [32]=ofL [32]from rfl,ofL_app,ofL_app,q0o,q0o,q0o,q0o,q0o]
    unfold maxI
    grind
   have fin:∀(w10:World),Fr F0 w w10->(((((ofL (a.shw (lev o))++str [32])++ofL (opS o))++str [32]).size+(ofL (b.shw (lev o+1))).size:Nat):Int)<=maxI/\K ((((ofL (a.shw (lev o))++str [32])++ofL (opS o))++str [32])++ofL (b.shw (lev o+1))) w10:=fun w10 f=>by
    rw[show str [32]=ofL [32]from rfl,ofL_app,ofL_app,ofL_app,ofL_app,q0o,q0o]
    refine⟨?_,?_⟩
    ·unfold maxI
     grind
    ·grind
   cases hsa:a.sumB
   all_goals
    rw[hsa]at ea
    first
     | refine q0h (q6o (hxa.fr h.fr0) oo ihA fun w9 f9=>?_)
     | refine q08 (q6o (hxa.fr h.fr0) oo ihA fun w9 f9=>?_)
    first
     | rw[show parB false (a.shw 0)=a.shw (lev o)from by rw[ea];rfl]
     | rw[show parB pe (a.shw 0)=a.shw (lev o)from by rw[ea];rfl]
    refine⟨hSi _ (h.fr f9),(sz (a.shw (lev o)) oo).1,(sz (a.shw (lev o)) oo).2.1,(sz (a.shw (lev o)) oo).2.2,?_⟩
    have h9:=h.fr f9
    cases hsb:b.sumB
    ·rw[hsb]at eb
     refine q0h ?_
     cases hpb:b.prodB
     ·rw[hpb]at eb
      refine q0h (q6o (hxb.fr h9.fr0) oo ihB fun w10 f10=>?_)
      rw[show parB false (b.shw 0)=b.shw (lev o+1)from by rw[eb];rfl]
      exact⟨hSi _ (h9.fr f10),fin w10 (h9.fr f10).fr0⟩
     ·rw[hpb]at eb
      refine q08 (q6o (hxb.fr h9.fr0) oo ihB fun w10 f10=>?_)
      rw[show parB pe (b.shw 0)=b.shw (lev o+1)from by rw[eb];rfl]
      exact⟨hSi _ (h9.fr f10),fin w10 (h9.fr f10).fr0⟩
    ·rw[hsb]at eb
     refine q08 (q6o (hxb.fr h9.fr0) oo ihB fun w10 f10=>?_)
     rw[show parB true (b.shw 0)=b.shw (lev o+1)from by rw[eb];rfl]
     exact⟨hSi _ (h9.fr f10),fin w10 (h9.fr f10).fr0⟩
  refine⟨_,h.ld 0 rfl rfl,?_⟩
  show cnd (decide (ofL (opB o)=str [110,117,109])) _ _
  rw[qji o]
  refine q0h ?_
  show cnd (decide (ofL (opB o)=str [110,97,109,101])) _ _
  rw[q8q o]
  refine q0h ?_
  show cnd (decide (ofL (opB o)=str [109,105,110])) _ (cnd (decide (ofL (opB o)=str [109,97,120])) _ _)
  rw[qpo o,qpp o,decide_eq_false (show ¬o=4 from fun h=>by subst h;revert ho;decide),decide_eq_false (show ¬o=5 from fun h=>by subst h;revert ho;decide)]
  exact k1
end
section
variable{w w' w0:World}{t:Td}{x:T43}
theorem q0t{n lo:Int}{K:Bool->World->Prop}(h:inN lo n)(hK:K true w):z1n_sh n lo K w:=by
 refine⟨fi ?_⟩
 refine q00.2 ⟨fun _=>?_,fun hh=>absurd h.1 hh⟩
 rw[decide_eq_true (show n<=1000000000 from h.2)]
 exact hK
theorem q4z{s:B}{K:Bool->World->Prop}(h:q1e s=true)(hl:s.length<2^62)(hK:K true w):z0y_sh (ofL s) K w:=by
 unfold q1e q2k at h
 simp only[Jt,Bool.not_eq_true',decide_eq_false_iff_not]at h
 obtain⟨⟨h1,h2,h3⟩,h4,h5⟩:=h
 refine⟨fi ?_⟩
 refine q4y hl ?_
 rw[h1]
 refine q08 ?_
 rw[show decide (ofL s=str [112,114,105,99,101])=decide (s=wPrice)from q0c s wPrice,decide_eq_false h4]
 refine q08 ?_
 rw[show decide (ofL s=str [108,111,119])=decide (s=wLow)from q0c s wLow,decide_eq_false h5]
 refine q08 ?_
 rw[show decide (ofL s=str [109,105,110])=decide (s=wMin)from q0c s wMin,decide_eq_false h2]
 refine q08 ?_
 rw[show decide (ofL s=str [109,97,120])=decide (s=wMax)from q0c s wMax,decide_eq_false h3]
 exact hK
end
section
variable{w w' w0:World}{t:Td}{x:T43}{t0:Nat}{K:Bool->World->Prop}
structure LB(w:World)(t0:Nat)(x:T43)(t:Td):Prop where
 r:Row w t0 x.cs
 T:TP w x t
theorem LB.fr(h:LB w t0 x t)(f:Fr F0 w w'):LB w' t0 x t:=⟨f.row h.r fun h=>h,h.T.fr f⟩
theorem qol{k:Int}{s:Sl}{l:List Int}{j:Nat}{N12:Addr->Bool->Int->Sl->Int->World->Prop}{N10:Addr->Bool->Int->World->Prop}(hv:Vw 1 encI w s l)(hd:l.Nodup)(hj:j<l.length)(hl:l.length<=12)(hN:∀u,Fr F0 w u->N12 ⟨t0,0,none⟩ true k s ((j:Int)+1) u) :
  z10_k13 ⟨t0,0,none⟩ true k s (j:Int) N12 N10 K w:=by
 refine⟨fi ?_⟩
 refine⟨⟨fun ok i u=>ok=true/\∃m:Nat,i=(m:Int)/\m<=j/\Fr F0 w u,fun _ i _=>j-i.toNat,⟨rfl,0,rfl,Jq _,Fr.refl⟩,?_⟩⟩
 rintro _ _ u ⟨rfl,m,rfl,hm,f⟩
 refine fi ?_
 refine q00.2 ⟨fun hlt=>?_,fun _=>⟨q01,hN u f⟩⟩
 intro w1
 have f1:Fr F0 w w1:=f.t Fr.drew
 clear_value w1
 refine q08 ?_
 refine Vw.go (enc:=encI) (fun _=>rfl) od (hv.fr f1) m rfl oo fun ad hc=>⟨_,hc 0 _ rfl,?_⟩
 refine Vw.go (enc:=encI) (fun _=>rfl) od (hv.fr f1) j rfl hj fun ad2 hc2=>⟨_,hc2 0 _ rfl,q01,⟨⟨rfl,rfl,rfl,rfl,trivial⟩,?_,m+1,oo,oo,f1⟩,uo⟩
 simp only[bne_iff_ne,ne_eq]
 intro he
 have:=(Jj hd).1 he
 omega
theorem qom{k:Int}{s:Sl}{l:List Int}{N10:Addr->Bool->Int->World->Prop}(hv:Vw 1 encI w s l)(hd:l.Nodup)(hi:∀n∈l,inN 1 n)(hl:l.length<=12)(hk:inR .i64 (k+1))(hN:∀u,Fr F0 w u->N10 ⟨t0,0,none⟩ true (k+1) u) :
  z10_k11 ⟨t0,0,none⟩ true k s N10 K w:=by
 have hvl:=hv.len
 refine⟨fi ?_⟩
 refine⟨⟨fun ok i u=>ok=true/\∃m:Nat,i=(m:Int)/\m<=l.length/\Fr F0 w u,fun _ i _=>l.length-i.toNat,⟨rfl,0,rfl,Jq _,Fr.refl⟩,?_⟩⟩
 rintro _ _ u ⟨rfl,m,rfl,hm,f⟩
 refine fi ?_
 refine q00.2 ⟨fun hlt=>q08 ?_,fun _=>⟨hk,hN u f⟩⟩
 have hml:m<l.length:=oo
 refine Vw.go (enc:=encI) (fun _=>rfl) od (hv.fr f) m rfl hml fun ad hc=>⟨_,hc 0 _ rfl,?_⟩
 refine q0t (hi _ (J1 hml)) ?_
 exact qol (hv.fr f) hd hml hl fun v fv=>⟨⟨⟨rfl,rfl,rfl,trivial⟩,rfl,m+1,oo,oo,f.t fv⟩,uo⟩
theorem qon(h:LB w t0 x t)(R:q0m t)(hK:∀w',Fr F0 w w'->K true w'):z10_l10 ⟨t0,0,none⟩ true (0:Int) K w:=by
 have hc12:=R.combos
 obtain⟨Z,hz,hzl,hzv⟩:=h.T.combos
 have hvl:=hz.len
 refine⟨⟨fun ok i u=>ok=true/\∃k:Nat,i=(k:Int)/\k<=Z.length/\Fr F0 w u,fun _ i _=>Z.length-i.toNat,⟨rfl,0,rfl,Jq _,Fr.refl⟩,?_⟩⟩
 rintro _ _ u ⟨rfl,k,rfl,hk,f⟩
 have hu:=h.fr f
 refine fi ?_
 refine⟨x.f13,hu.r.at,q00.2 ⟨fun hlt=>⟨x.f13,hu.r.at,?_⟩,fun _=>hK u f⟩⟩
 have hkl:k<Z.length:=oo
 refine Vw.go (enc:=encZ) (fun _=>rfl) od (hz.fr f) k rfl hkl fun ad hc=>⟨Z[k],hc 0 _ rfl,q08 ?_⟩
 have hkv:=hzv k hkl oo
 obtain⟨n2,n12,ni,nd⟩:=R.comboN _ (J1 (show k<t.combos.length by omega))
 have hkl2:=hkv.len
 refine q00.2 ⟨fun _=>?_,fun hh=>absurd (show(Z[k].l:Int)>=2 by omega) hh⟩
 rw[decide_eq_true (show(Z[k].l:Int)<=12 by omega)]
 exact qom (hkv.fr f) nd ni n12 (q01) fun v fv=>⟨⟨⟨rfl,trivial⟩,rfl,k+1,oo,oo,f.t fv⟩,uo⟩
theorem qj0{k:Nat}{N7:Addr->Bool->Int->World->Prop}(h:LB w t0 x t)(R:q0m t)(hkl:k<t.ties.length)(hN:∀u,Fr F0 w u->N7 ⟨t0,0,none⟩ true ((k:Int)+1) u):z10_k8 ⟨t0,0,none⟩ true (k:Int) N7 K w:=by
 have h12:=R.ties
 have hv:=h.T.ties
 refine⟨fi ?_⟩
 refine⟨⟨fun ok i u=>ok=true/\∃j:Nat,i=(j:Int)/\j<=k/\Fr F0 w u,fun _ i _=>k-i.toNat,⟨rfl,0,rfl,Jq _,Fr.refl⟩,?_⟩⟩
 rintro _ _ u ⟨rfl,j,rfl,hj,f⟩
 refine fi ?_
 refine q00.2 ⟨fun hlt=>?_,fun _=>⟨q01,hN u f⟩⟩
 intro w1
 have f1:Fr F0 w w1:=f.t Fr.drew
 clear_value w1
 have hu:=h.fr f1
 refine q08 ⟨x.f11,hu.r.at,?_⟩
 refine Vw.go (enc:=encB) (fun _=>rfl) od (hv.fr f1) j rfl oo fun ad hc=>⟨_,hc 0 _ rfl,x.f11,hu.r.at,?_⟩
 refine Vw.go (enc:=encB) (fun _=>rfl) od (hv.fr f1) k rfl hkl fun ad2 hc2=>⟨_,hc2 0 _ rfl,q01,⟨⟨rfl,rfl,trivial⟩,?_,j+1,oo,oo,f1⟩,uo⟩
 rw[q0c,decide_eq_false (fun he=>by
  have:=(Jj R.tieD).1 he
  omega)]
 rfl
theorem qrw(h:LB w t0 x t)(R:q0m t)(F:Fit t)(hK:∀w',Fr F0 w w'->K true w'):z10_l7 ⟨t0,0,none⟩ true (0:Int) K w:=by
 have h12:=R.ties
 have hv:=h.T.ties
 have hvl:=hv.len
 refine⟨⟨fun ok i u=>ok=true/\∃k:Nat,i=(k:Int)/\k<=t.ties.length/\Fr F0 w u,fun _ i _=>t.ties.length-i.toNat,⟨rfl,0,rfl,Jq _,Fr.refl⟩,?_⟩⟩
 rintro _ _ u ⟨rfl,k,rfl,hk,f⟩
 have hu:=h.fr f
 refine fi ?_
 refine⟨x.f11,hu.r.at,q00.2 ⟨fun hlt=>q08 ⟨x.f11,hu.r.at,?_⟩,fun _=>qon hu R fun w' f'=>hK w' (f.t f')⟩⟩
 have hkl:k<t.ties.length:=oo
 have nx:∀v,Fr F0 u v->Fr F0 w v:=fun v fv=>f.t fv
 refine Vw.go (enc:=encB) (fun _=>rfl) od (hv.fr f) k rfl hkl fun ad hc=>⟨_,hc 0 _ rfl,?_⟩
 rw[show str [112,114,105,99,101]=ofL wPrice from rfl,q0c]
 refine q00.2 ⟨fun _=>qj0 hu R hkl fun v fv=>⟨⟨⟨rfl,trivial⟩,rfl,k+1,oo,oo,nx v fv⟩,uo⟩,fun hne=>⟨x.f11,hu.r.at,?_⟩⟩
 refine Vw.go (enc:=encB) (fun _=>rfl) od (hv.fr f) k rfl hkl fun ad2 hc2=>⟨_,hc2 0 _ rfl,?_⟩
 have hw:=(R.tieN _ (J1 hkl)).resolve_left hne
 have hl:=F.tie _ (J1 hkl)
 exact q4z hw oo (qj0 hu R hkl fun v fv=>⟨⟨⟨rfl,trivial⟩,rfl,k+1,oo,oo,nx v fv⟩,uo⟩)
end
section
variable{w w' w0:World}{t:Td}{x:T43}{t0:Nat}{K:Bool->World->Prop}
theorem qrx(h:LB w t0 x t)(R:q0m t)(F:Fit t)(hK:∀w',Fr F0 w w'->K true w'):z10_l6 ⟨t0,0,none⟩ true (0:Int) K w:=by
 have h12:=R.reqs
 have hv:=h.T.reqs
 have hvl:=hv.len
 refine⟨⟨fun ok i u=>ok=true/\∃k:Nat,i=(k:Int)/\k<=t.reqs.length/\Fr F0 w u,fun _ i _=>t.reqs.length-i.toNat,⟨rfl,0,rfl,Jq _,Fr.refl⟩,?_⟩⟩
 rintro _ _ u ⟨rfl,k,rfl,hk,f⟩
 have hu:=h.fr f
 refine fi ?_
 refine⟨x.f3,hu.r.at,q00.2 ⟨fun hlt=>⟨x.f3,hu.r.at,?_⟩,fun _=>qrw hu R F fun w' f'=>hK w' (f.t f')⟩⟩
 have hkl:k<t.reqs.length:=oo
 refine Vw.go (enc:=encR) (fun _=>rfl) od (hv.fr f) k rfl hkl fun ad hc=>⟨_,hc 0 _ rfl,_,hc 1 _ rfl,_,hc 2 _ rfl,?_⟩
 obtain⟨q1,q2,q3⟩:=R.reqN _ (J1 hkl)
 obtain⟨g1,_,_⟩:=F.rq _ (J1 hkl)
 generalize t.reqs[k]=r at q1 q2 q3 g1 ⊢
 have h0:Sx u u []:=Sx.nil Fr.refl
 refine h0.box (vs:=encR r) rfl fun w1 f1 h1=>q08 ?_
 generalize u.heap.size=rb at h1 ⊢
 refine⟨_,h1.ld 0 rfl rfl,q4z q1 oo (q08 ⟨_,h1.ld 0 rfl rfl,q0t q3 (q08 ⟨_,h1.ld 0 rfl rfl,?_⟩)⟩)⟩
 have f1:Fr F0 w w1:=f.t h1.fr0
 rw[show str [60,61]=ofL wLe from rfl,q0c]
 refine q00.2 ⟨fun _=>⟨q01,⟨⟨rfl,trivial⟩,rfl,k+1,oo,oo,f1⟩,uo⟩,fun hne=>⟨_,h1.ld 0 rfl rfl,q01,⟨⟨rfl,trivial⟩,?_,k+1,oo,oo,f1⟩,uo⟩⟩
 rw[show str [62,61]=ofL wGe from rfl,q0c]
 grind
theorem qj1{k cb:Nat}{c:Cr}{N3:Addr->Bool->Int->World->Prop}(h:LB w t0 x t)(R:q0m t)(hkl:k<t.crit.length)(hcr:Row w cb (encC c))(hc:t.crit[k]=c)(hN:∀u,Fr F0 w u->N3 ⟨t0,0,none⟩ true ((k:Int)+1) u):z10_k4 ⟨t0,0,none⟩ true (k:Int) ⟨cb,0,none⟩ N3 K w:=by
 have h12:=R.crit
 have hv:=h.T.crit
 refine⟨fi ?_⟩
 refine⟨⟨fun ok i u=>ok=true/\∃j:Nat,i=(j:Int)/\j<=k/\Fr F0 w u,fun _ i _=>k-i.toNat,⟨rfl,0,rfl,Jq _,Fr.refl⟩,?_⟩⟩
 rintro _ _ u ⟨rfl,j,rfl,hj,f⟩
 refine fi ?_
 refine q00.2 ⟨fun hlt=>?_,fun _=>⟨q01,hN u f⟩⟩
 intro w1
 have f1:Fr F0 w w1:=f.t Fr.drew
 clear_value w1
 have hu:=h.fr f1
 refine q08 ⟨x.f2,hu.r.at,?_⟩
 refine Vw.go (enc:=encC) (fun _=>rfl) od (hv.fr f1) j rfl oo fun ad hcc=>⟨_,hcc 0 _ rfl,_,(f1.row hcr fun h=>h).at rfl,q01,⟨⟨rfl,rfl,rfl,trivial⟩,?_,j+1,oo,oo,f1⟩,uo⟩
 have hne:=Je.1 R.critD j k oo hkl oo
 rw[hc]at hne
 rw[q0c,decide_eq_false hne]
 rfl
theorem qry(h:LB w t0 x t)(R:q0m t)(F:Fit t)(hK:∀w',Fr F0 w w'->K true w'):z10_l3 ⟨t0,0,none⟩ true (0:Int) K w:=by
 have h12:=R.crit
 have hv:=h.T.crit
 have hvl:=hv.len
 refine⟨⟨fun ok i u=>ok=true/\∃k:Nat,i=(k:Int)/\k<=t.crit.length/\Fr F0 w u,fun _ i _=>t.crit.length-i.toNat,⟨rfl,0,rfl,Jq _,Fr.refl⟩,?_⟩⟩
 rintro _ _ u ⟨rfl,k,rfl,hk,f⟩
 have hu:=h.fr f
 refine fi ?_
 refine⟨x.f2,hu.r.at,q00.2 ⟨fun hlt=>⟨x.f2,hu.r.at,?_⟩,fun _=>qrx hu R F fun w' f'=>hK w' (f.t f')⟩⟩
 have hkl:k<t.crit.length:=oo
 refine Vw.go (enc:=encC) (fun _=>rfl) od (hv.fr f) k rfl hkl fun ad hc=>⟨_,hc 0 _ rfl,_,hc 1 _ rfl,_,hc 2 _ rfl,_,hc 3 _ rfl,_,hc 4 _ rfl,?_⟩
 obtain⟨q1,q2,q3,q4⟩:=R.critN _ (J1 hkl)
 obtain⟨g1,_,_⟩:=F.cr _ (J1 hkl)
 obtain⟨c,hce⟩:∃c,t.crit[k]=c:=⟨_,rfl⟩
 rw[hce]at q1 q2 q3 q4 g1 ⊢
 have h0:Sx u u []:=Sx.nil Fr.refl
 refine h0.box (vs:=encC c) rfl fun w1 f1 h1=>q08 ?_
 generalize u.heap.size=rb at h1 ⊢
 have f1:Fr F0 w w1:=f.t h1.fr0
 refine⟨_,h1.ld 0 rfl rfl,q4z q1 oo (q08 ⟨_,h1.ld 0 rfl rfl,q0t q3 (q08 ⟨_,h1.ld 0 rfl rfl,q0t q4 (q08 ⟨_,h1.ld 0 rfl rfl,?_⟩)⟩)⟩)⟩
 refine q0i.2 ⟨fun _=>qj1 (h.fr f1) R hkl (h1.get 0 rfl) hce fun v fv=>⟨⟨⟨rfl,trivial⟩,rfl,k+1,oo,oo,f1.t fv⟩,uo⟩,fun hne=>⟨_,h1.ld 0 rfl rfl,?_⟩⟩
 rw[show(c.kind==(2:Int))=true from by rw[q2.resolve_left hne];rfl]
 exact qj1 (h.fr f1) R hkl (h1.get 0 rfl) hce fun v fv=>⟨⟨⟨rfl,trivial⟩,rfl,k+1,oo,oo,f1.t fv⟩,uo⟩
theorem qrz{k:Nat}{N0:Addr->Bool->Int->World->Prop}(h:LB w t0 x t)(R:q0m t)(hkl:k<t.lots.length)(hN:∀u,Fr F0 w u->N0 ⟨t0,0,none⟩ true ((k:Int)+1) u):z10_k1 ⟨t0,0,none⟩ true (k:Int) N0 K w:=by
 have h12:=R.lots
 have hv:=h.T.lots
 refine⟨fi ?_⟩
 refine⟨⟨fun ok i u=>ok=true/\∃j:Nat,i=(j:Int)/\j<=k/\Fr F0 w u,fun _ i _=>k-i.toNat,⟨rfl,0,rfl,Jq _,Fr.refl⟩,?_⟩⟩
 rintro _ _ u ⟨rfl,j,rfl,hj,f⟩
 refine fi ?_
 refine q00.2 ⟨fun hlt=>?_,fun _=>⟨q01,hN u f⟩⟩
 intro w1
 have f1:Fr F0 w w1:=f.t Fr.drew
 clear_value w1
 have hu:=h.fr f1
 refine q08 ⟨x.f1,hu.r.at,?_⟩
 refine Vw.go (enc:=encL) (fun _=>rfl) od (hv.fr f1) j rfl oo fun ad hc=>⟨_,hc 0 _ rfl,x.f1,hu.r.at,?_⟩
 refine Vw.go (enc:=encL) (fun _=>rfl) od (hv.fr f1) k rfl hkl fun ad2 hc2=>⟨_,hc2 0 _ rfl,q01,⟨⟨rfl,rfl,trivial⟩,?_,j+1,oo,oo,f1⟩,uo⟩
 have hne:=Je.1 R.lotD j k oo hkl oo
 grind
theorem qhe(T:TP w x t)(R:q0m t)(F:Fit t)(hK:∀w',Fr F0 w w'->K true w'):z10_sh x K w:=by
 have r1:=R.lots
 have r2:=R.crit
 have r3:=R.reqs
 have r4:=R.ties
 have r5:=R.combos
 have l1:=T.lots.len
 have l2:=T.crit.len
 have l3:=T.reqs.len
 have l4:=T.ties.len
 have l5:x.f13.l=t.combos.length:=by
  obtain⟨Z,hz,hzl,_⟩:=T.combos
  rw[hz.len,hzl]
 refine⟨fi ?_⟩
 intro w1
 have h:Sx w w1 _:=(Sx.nil Fr.refl).row (cs:=x.cs)
 clear_value w1
 generalize w.heap.size=t0 at h ⊢
 refine⟨x.f1,h.ld 0 rfl rfl,q00.2 ⟨fun hh=>oo,fun _=>⟨x.f1,h.ld 0 rfl rfl,q00.2 ⟨fun hh=>oo,fun _=>⟨x.f2,h.ld 0 rfl rfl,q00.2 ⟨fun hh=>oo,fun _=>⟨x.f3,h.ld 0 rfl rfl,q00.2 ⟨fun hh=>oo,fun _=>⟨x.f11,h.ld 0 rfl rfl,q00.2 ⟨fun hh=>oo,fun _=>⟨x.f13,h.ld 0 rfl rfl,q00.2 ⟨fun hh=>oo,fun _=>?_⟩⟩⟩⟩⟩⟩⟩⟩⟩⟩⟩⟩
 have hb:LB w1 t0 x t:=⟨h.get 0 rfl,T.fr h.fr0⟩
 refine⟨⟨fun ok i u=>ok=true/\∃k:Nat,i=(k:Int)/\k<=t.lots.length/\Fr F0 w1 u,fun _ i _=>t.lots.length-i.toNat,⟨rfl,0,rfl,Jq _,Fr.refl⟩,?_⟩⟩
 rintro _ _ u ⟨rfl,k,rfl,hk,f⟩
 have hu:=hb.fr f
 refine fi ?_
 refine⟨x.f1,hu.r.at,q00.2 ⟨fun hlt=>q08 ⟨x.f1,hu.r.at,?_⟩,fun _=>qry hu R F fun w' f'=>hK w' ((h.fr0.t f).t f')⟩⟩
 have hkl:k<t.lots.length:=oo
 obtain⟨q1,q2⟩:=R.lotN _ (J1 hkl)
 refine Vw.go (enc:=encL) (fun _=>rfl) od (hu.T.lots) k rfl hkl fun ad hc=>⟨_,hc 0 _ rfl,q0t q1 (q08 ⟨x.f1,hu.r.at,?_⟩)⟩
 refine Vw.go (enc:=encL) (fun _=>rfl) od (hu.T.lots) k rfl hkl fun ad2 hc2=>⟨_,hc2 1 _ rfl,q0t q2 ?_⟩
 exact qrz hu R hkl fun v fv=>⟨⟨⟨rfl,trivial⟩,rfl,k+1,oo,oo,f.t fv⟩,uo⟩
end
end Go.Proofs.YtmfkimnmklnppaaGreatDoor
namespace Dp
open Go Pw
def endB(t:Td):B:=(Ln.budget t.budget).line++[10]++((Ln.times t.t1 t.t2 t.t3 t.t4 t.t5).line++[10])
def lnB(k:Ln):B:=k.line++[10]
end Dp
namespace Go.Proofs.YtmfkimnmklnppaaGreatDoor
open Go Pw Dp
section
variable{w w' w0:World}{t:Td}{x:T43}{t0:Nat}{K:ByteArray->World->Prop}
theorem q19(l:List Nat):str l=ofL (l.map UInt8.ofNat):=rfl
theorem szz{n:Nat}(h:n<=1000000000:=by simp only[q19,ofL_app,q0o,List.length_append,List.length_map,List.length_cons,List.length_nil];omega):(n:Int)<=maxI:=by unfold maxI;omega
theorem q6p{n:Int}(h:inN 0 n)(hm:n<1000000000):-1000000000<n/\n<1000000000:=⟨by have:=h.1;omega,hm⟩
theorem q2r{n:Int}(h:-1000000000<n/\n<1000000000):(Lib.itoa n).length<=20:=qcx ⟨oo,oo⟩
structure SmT(t:Td):Prop where
 b:t.budget<1000000000
 t1:t.t1<1000000000
 t2:t.t2<1000000000
 t3:t.t3<1000000000
 t4:t.t4<1000000000
 t5:t.t5<1000000000
 low:t.low<1000000000
 high:t.high<1000000000
 most:t.most<1000000000
 lots:∀l∈t.lots,l.1<1000000000/\l.2<1000000000
 crit:∀c∈t.crit,c.low<1000000000/\c.high<1000000000
 reqs:∀r∈t.reqs,r.val<1000000000
 combos:∀l∈t.combos,∀n∈l,n<1000000000
 fm:t.fm.tiny=true
theorem qhf{o:B}{N7:Addr->ByteArray->Int->World->Prop}{k:Int}(h:LB w t0 x t)(R:q0m t)(S:SmT t)(ho:o.length<=100000)(hk:¬k<(x.f13.l:Int))(hK:∀w',Fr F0 w w'->K (ofL (o++endB t)) w') :
  z0r_b7 ⟨t0,0,none⟩ (ofL o) k N7 K w:=by
 refine fi ?_
 refine⟨x.f13,h.r.at,q00.2 ⟨fun hh=>absurd hh hk,fun _=>?_⟩⟩
 refine⟨_,h.r.at,_,h.r.at,_,h.r.at,_,h.r.at,_,h.r.at,?_⟩
 have hs:Sx w w []:=Sx.nil Fr.refl
 rw[h.T.t1,h.T.t2,h.T.t3,h.T.t4,h.T.t5]
 refine hs.box (vs:=[.int .i64 t.t1,.int .i64 t.t2,.int .i64 t.t3,.int .i64 t.t4,.int .i64 t.t5]) rfl fun w1 f1 hs=>?_
 generalize w.heap.size=tb at hs ⊢
 have n0:=q6p R.budget S.b
 have n1:=q6p R.t1 S.t1
 have n2:=q6p R.t2 S.t2
 have n3:=q6p R.t3 S.t3
 have n4:=q6p R.t4 S.t4
 have n5:=q6p R.t5 S.t5
 have l0:=q2r n0
 have l1:=q2r n1
 have l2:=q2r n2
 have l3:=q2r n3
 have l4:=q2r n4
 have l5:=q2r n5
 have h1:=h.fr hs.fr0
 simp -zeta only[q19,ofL_app]
 refine⟨?_,x.f14,h1.r.at,?_⟩
 ·simp only[q0o,J0,J4,J2,J3];unfold maxI;omega
 ·rw[h.T.budget]
  refine q0g n0 fun w2 f2=>?_
  simp -zeta only[ofL_app]
  refine⟨?_,?_,?_⟩
  ·simp only[q0o,J0,J4,J2,J3];unfold maxI;omega
  ·simp only[q0o,J0,J4,J2,J3];unfold maxI;omega
  ·intro w3
   have hs:Sx w w3 [(fun c=>c=tb,fun u=>Row u tb [.int .i64 t.t1,.int .i64 t.t2,.int .i64 t.t3,.int .i64 t.t4,.int .i64 t.t5])]:=(hs.fr f2).fr Fr.drew
   clear_value w3
   obtain⟨S,hSi,hSe⟩:∃S:World->Prop,(∀u,Sx w u [(fun c=>c=tb,fun u=>Row u tb [.int .i64 t.t1,.int .i64 t.t2,.int .i64 t.t3,.int .i64 t.t4,.int .i64 t.t5])]->S u)/\∀u,S u->Sx w u [(fun c=>c=tb,fun u=>Row u tb [.int .i64 t.t1,.int .i64 t.t2,.int .i64 t.t3,.int .i64 t.t4,.int .i64 t.t5])]:=⟨_,fun _ h=>h,fun _ h=>h⟩
   refine⟨S,hSi _ hs,szz,_,fun u hu=>(hSe u hu).ld 0 rfl rfl,_,fun u hu=>(hSe u hu).ld 0 rfl rfl,_,fun u hu=>(hSe u hu).ld 0 rfl rfl,_,fun u hu=>(hSe u hu).ld 0 rfl rfl,_,fun u hu=>(hSe u hu).ld 0 rfl rfl,?_⟩
   refine q0g n1 fun w4 f4=>⟨hSi _ (hs.fr f4),szz,szz,?_⟩
   have hs:=hs.fr f4
   refine q0g n2 fun w5 f5=>⟨hSi _ (hs.fr f5),szz,szz,?_⟩
   have hs:=hs.fr f5
   refine q0g n3 fun w6 f6=>⟨hSi _ (hs.fr f6),szz,szz,?_⟩
   have hs:=hs.fr f6
   refine q0g n4 fun w7 f7=>⟨hSi _ (hs.fr f7),szz,szz,?_⟩
   have hs:=hs.fr f7
   refine q0g n5 fun w8 f8=>⟨hSi _ (hs.fr f8),szz,szz,?_⟩
   have hs:=hs.fr f8
   simp only[ofL_app]
   have:=hK w8 hs.fr0
   refine cast (congrArg (fun z=>K (ofL z) w8) ?_) this
   simp[endB,Ln.line,Ln.word,Ln.body,Ln.args,q1k,q2f]
end
end Go.Proofs.YtmfkimnmklnppaaGreatDoor
namespace Dp
open Go Pw
def comB(t:Td)(k:Nat):B:=(t.combos.drop k).flatMap (fun l=>lnB (.combo l))++endB t
end Dp
namespace Go.Proofs.YtmfkimnmklnppaaGreatDoor
open Go Pw Dp
section
variable{w w' w0:World}{t:Td}{x:T43}{t0:Nat}{K:ByteArray->World->Prop}
theorem qoo{o:B}{k:Nat}{N7:Addr->ByteArray->Int->World->Prop}(h:LB w t0 x t)(R:q0m t)(S:SmT t)(hk:k<t.combos.length)(ho:o.length<=90000)(hN:∀u,Fr F0 w u->N7 ⟨t0,0,none⟩ (ofL (o++(t.combos[k].map Lib.itoa).flatMap (32 :: ·)++[10])) ((k:Int)+1) u) :
  z0r_l8 ⟨t0,0,none⟩ (ofL o) (k:Int) (0:Int) N7 K w:=by
 have h12:=R.combos
 obtain⟨Z,hz,hzl,hzv⟩:=h.T.combos
 have hkl:k<Z.length:=oo
 have hv:=hzv k hkl hk
 have hvl:=hv.len
 have hzz:=hz.len
 obtain⟨_,n12,ni,_⟩:=R.comboN _ (J1 hk)
 have sm:=S.combos _ (J1 hk)
 generalize t.combos[k]=l at hv hvl n12 ni sm hN
 refine⟨⟨fun z j u=>∃m:Nat,j=(m:Int)/\m<=l.length/\z=ofL (o++((l.take m).map Lib.itoa).flatMap (32 :: ·))/\(((l.take m).map Lib.itoa).flatMap (32 :: ·)).length<=21*m/\Fr F0 w u,fun _ j _=>l.length-j.toNat,⟨0,rfl,Jq _,og,Jq _,Fr.refl⟩,?_⟩⟩
 rintro _ _ u ⟨m,rfl,hm,rfl,hml,f⟩
 have hu:=h.fr f
 refine fi ?_
 refine⟨x.f13,hu.r.at,?_⟩
 refine Vw.go (enc:=encZ) (fun _=>rfl) od (hz.fr f) k rfl hkl fun ad hc=>⟨Z[k],hc 0 _ rfl,q00.2 ⟨fun hlt=>⟨szz,x.f13,hu.r.at,?_⟩,fun hge=>?_⟩⟩
 ·have hmk:m<l.length:=oo
  refine Vw.go (enc:=encZ) (fun _=>rfl) od (hz.fr f) k rfl hkl fun ad2 hc2=>⟨Z[k],hc2 0 _ rfl,?_⟩
  refine Vw.go (enc:=encI) (fun _=>rfl) od (hv.fr f) m rfl hmk fun ad3 hc3=>⟨_,hc3 0 _ rfl,?_⟩
  have h1:=(ni _ (J1 hmk)).1
  have h2:=sm _ (J1 hmk)
  have hi:=q2r (n:=l[m]) ⟨oo,h2⟩
  have tk:((l.take (m+1)).map Lib.itoa).flatMap (32 :: ·)=((l.take m).map Lib.itoa).flatMap (32 :: ·)++(32::Lib.itoa l[m]):=by
   rw[Ja,J7 hmk,Jl,Jd]
   grind
  refine q0g ⟨oo,h2⟩ fun v fv=>⟨szz,q01,⟨⟨rfl,rfl,trivial⟩,m+1,oo,oo,?_,?_,f.t fv⟩,uo⟩
  ·simp only[q19,ofL_app]
   grind
  ·grind
 ·have hme:m=l.length:=oo
  subst hme
  rw[Jc]at hml ⊢
  refine⟨szz,q01,?_⟩
  have:=hN u f
  simp only[q19,ofL_app]
  exact this
end
section
variable{w w' w0:World}{t:Td}{x:T43}{t0:Nat}{K:ByteArray->World->Prop}
theorem qf0{o:B}(h:LB w t0 x t)(R:q0m t)(S:SmT t)(ho:o.length<=40000)(hK:∀w',Fr F0 w w'->K (ofL (o++comB t 0)) w'):z0r_k6 ⟨t0,0,none⟩ (ofL o) K w:=by
 have h12:=R.combos
 have l5:x.f13.l=t.combos.length:=by
  obtain⟨Z,hz,hzl,_⟩:=h.T.combos
  rw[hz.len,hzl]
 refine⟨fi ?_⟩
 refine⟨⟨fun z j u=>∃(k:Nat) (o':B),j=(k:Int)/\k<=t.combos.length/\z=ofL o'/\o'++comB t k=o++comB t 0/\o'.length<=40000+300*k/\Fr F0 w u,fun _ j _=>t.combos.length-j.toNat,⟨0,o,rfl,Jq _,rfl,rfl,oo,Fr.refl⟩,?_⟩⟩
 rintro _ _ u ⟨k,o',rfl,hk,rfl,he,hol,f⟩
 have hu:=h.fr f
 by_cases hkl:k<t.combos.length
 ·refine fi ?_
  refine⟨x.f13,hu.r.at,q00.2 ⟨fun _=>⟨szz,?_⟩,fun hh=>absurd (show(k:Int)<x.f13.l by omega) hh⟩⟩
  simp only[q19,ofL_app]
  have n12:=(R.comboN _ (J1 hkl)).2.1
  have hfl:∀l:List Int,l.length<=12->(∀n∈l,(Lib.itoa n).length<=20)->((l.map Lib.itoa).flatMap (32 :: ·)).length<=21*l.length:=by
   intro l
   induction l with
   | nil=>intro _ _;simp
   | cons a l ih=>grind
  have hfk:=hfl _ n12 fun n hn=>q2r ⟨by have:=((R.comboN _ (J1 hkl)).2.2.1 n hn).1;omega,S.combos _ (J1 hkl) n hn⟩
  refine qoo hu R S hkl oz fun v fv=>⟨⟨⟨rfl,trivial⟩,k+1,_,oo,oo,rfl,?_,?_,f.t fv⟩,oo⟩
  ·rw[←he]
   unfold comB
   rw[J5 hkl]
   generalize t.combos[k]=a
   generalize t.combos.drop (k+1)=r
   simp[lnB,Ln.line,Ln.word,Ln.body,Ln.args,wCombo,Jk,J8]
  ·grind
 ·have hke:k=t.combos.length:=oo
  subst hke
  refine qhf hu R S oo oo fun v fv=>?_
  have:=hK v (f.t fv)
  rw[←he]at this
  unfold comB at this
  grind
end
end Go.Proofs.YtmfkimnmklnppaaGreatDoor
namespace Dp
open Go Pw
def qop(t:Td):B:=(if t.most=0 then []else lnB (.most t.most))++comB t 0
end Dp
namespace Go.Proofs.YtmfkimnmklnppaaGreatDoor
open Go Pw Dp
section
variable{w w' w0:World}{t:Td}{x:T43}{t0:Nat}{K:ByteArray->World->Prop}
theorem qf1{o:B}(h:LB w t0 x t)(R:q0m t)(S:SmT t)(ho:o.length<=39000)(hK:∀w',Fr F0 w w'->K (ofL (o++qop t)) w'):z0r_k5 ⟨t0,0,none⟩ (ofL o) K w:=by
 have nm:=q6p R.most S.most
 have lm:=q2r nm
 unfold qop at hK
 refine⟨fi ?_⟩
 refine⟨_,h.r.at,?_⟩
 rw[h.T.most]
 refine q0r.2 ⟨fun hne=>⟨szz,x.f12,h.r.at,?_⟩,fun he=>?_⟩
 ·rw[h.T.most]
  rw[if_neg hne]at hK
  refine q0g nm fun w1 f1=>⟨szz,szz,?_⟩
  simp only[q19,ofL_app]
  refine qf0 (h.fr f1) R S (by simp only[J0,J4,J2,J3];omega) fun v fv=>?_
  have:=hK v (f1.t fv)
  refine cast (congrArg (fun z=>K (ofL z) v) ?_) this
  simp[lnB,Ln.line,Ln.word,Ln.body,Ln.args,q3l]
 ·rw[if_pos he]at hK
  exact qf0 h R S oo hK
end
section
variable{w w' w0:World}{t:Td}{x:T43}{t0:Nat}{K:ByteArray->World->Prop}
theorem qoq{o:B}(h:LB w t0 x t)(R:q0m t)(S:SmT t)(ho:o.length+(t.ties.flatMap (32 :: ·)).length<=38000)(hK:∀w',Fr F0 w w'->K (ofL (o++t.ties.flatMap (32 :: ·)++[10]++qop t)) w'):z0r_l4 ⟨t0,0,none⟩ (ofL o) (0:Int) K w:=by
 have h12:=R.ties
 have hv:=h.T.ties
 have hvl:=hv.len
 refine⟨⟨fun z j u=>∃(k:Nat) (o':B),j=(k:Int)/\k<=t.ties.length/\z=ofL o'/\o'++(t.ties.drop k).flatMap (32 :: ·)=o++t.ties.flatMap (32 :: ·)/\Fr F0 w u,fun _ j _=>t.ties.length-j.toNat,⟨0,o,rfl,Jq _,rfl,rfl,Fr.refl⟩,?_⟩⟩
 rintro _ _ u ⟨k,o',rfl,hk,rfl,he,f⟩
 have hu:=h.fr f
 have hlen:=congrArg Jh he
 rw[J0,J0]at hlen
 refine fi ?_
 refine⟨x.f11,hu.r.at,q00.2 ⟨fun hlt=>⟨szz,x.f11,hu.r.at,?_⟩,fun hge=>?_⟩⟩
 ·have hkl:k<t.ties.length:=oo
  refine Vw.go (enc:=encB) (fun _=>rfl) od (hv.fr f) k rfl hkl fun ad hc=>⟨_,hc 0 _ rfl,?_⟩
  have hd:=J5 hkl
  rw[hd]at he hlen
  generalize t.ties[k]=a at he hlen ⊢
  simp only[J6,J0,J2]at hlen
  refine⟨szz,q01,⟨⟨rfl,trivial⟩,k+1,o'++(32::a),oo,oo,?_,?_,f⟩,uo⟩
  ·simp only[q19,ofL_app]
   grind
  ·grind
 ·have hke:k=t.ties.length:=oo
  subst hke
  rw[List.drop_length,J9,Jg]at he
  subst he
  refine⟨szz,?_⟩
  simp only[q19,ofL_app]
  exact qf1 hu R S oz fun v fv=>hK v (f.t fv)
end
end Go.Proofs.YtmfkimnmklnppaaGreatDoor
namespace Dp
open Go Pw
def priB(t:Td):B:=lnB (.price t.low t.high)++(lnB (.form t.fm)++((if t.ties=[]then []else lnB (.tie t.ties))++qop t))
def reqB(t:Td)(k:Nat):B:=(t.reqs.drop k).flatMap (fun r=>lnB (.req r))++priB t
end Dp
namespace Go.Proofs.YtmfkimnmklnppaaGreatDoor
open Go Pw Dp
section
variable{w w' w0:World}{t:Td}{x:T43}{t0:Nat}{K:ByteArray->World->Prop}
theorem qkn{o:B}{k:Int}{N3:Addr->ByteArray->Int->World->Prop}(h:LB w t0 x t)(R:q0m t)(S:SmT t)(hk:¬k<(x.f3.l:Int))(ho:(o++priB t).length<=30000)(hK:∀w',Fr F0 w w'->K (ofL (o++priB t)) w'):z0r_b3 ⟨t0,0,none⟩ (ofL o) k N3 K w:=by
 have n1:=q6p R.low S.low
 have n2:=q6p R.high S.high
 have l1:=q2r n1
 have l2:=q2r n2
 have ht4:=h.T.ties.len
 refine fi ?_
 refine⟨x.f3,h.r.at,q00.2 ⟨fun hh=>absurd hh hk,fun _=>?_⟩⟩
 intro w1
 have f1:Fr F0 w w1:=Fr.drew
 clear_value w1
 obtain⟨Q,hSi,hSe⟩:∃S:World->Prop,(∀u,LB u t0 x t->S u)/\∀u,S u->LB u t0 x t:=⟨_,fun _ h=>h,fun _ h=>h⟩
 have hlen:=ho
 simp only[priB,lnB,Ln.line,Ln.word,Ln.body,Ln.args,q38,wPrice,J0,J2,J3,J6,J9]at hlen
 refine⟨Q,hSi _ (h.fr f1),szz,_,fun u hu=>(hSe u hu).r.at,_,fun u hu=>(hSe u hu).r.at,_,fun u hu=>(hSe u hu).r.at,_,fun u hu=>(hSe u hu).r.at,_,fun u hu=>(hSe u hu).r.at,_,fun u hu=>(hSe u hu).r.at,x.f10,fun u hu=>(hSe u hu).r.at,?_⟩
 rw[h.T.low,h.T.high]
 refine q0g n1 fun w2 f2=>⟨hSi _ (h.fr (f1.t f2)),szz,szz,?_⟩
 refine q0g n2 fun w3 f3=>⟨hSi _ (h.fr ((f1.t f2).t f3)),szz,szz,?_⟩
 have f3:=(f1.t f2).t f3
 refine q7a t.fm (c:=⟨x.f6,x.f7,x.f8,x.f9,x.f10⟩) (h.fr f3).T.fm R.fm.1 S.fm (by have:=R.fm.2.1;omega) fun w4 f4=>⟨hSi _ (h.fr (f3.t f4)),szz,szz,?_⟩
 have f4:=f3.t f4
 refine⟨x.f11,(h.fr f4).r.at,q00.2 ⟨fun hp=>⟨szz,?_⟩,fun hz=>?_⟩⟩
 ·have hne:t.ties≠[]:=fun e=>oz
  rw[if_neg hne]at hlen
  simp only[lnB,Ln.line,Ln.word,Ln.body,Ln.args,wTie,J0,J2,J3]at hlen
  simp only[q19,ofL_app]
  refine qoq (h.fr f4) R S (by simp only[J0,J4,J2,J3];omega) fun v fv=>?_
  have:=hK v (f4.t fv)
  refine cast (congrArg (fun z=>K (ofL z) v) ?_) this
  simp[priB,hne,lnB,Ln.line,Ln.word,Ln.body,Ln.args,wTie,q38,wPrice]
 ·have he:t.ties=[]:=Jb oo
  simp only[q19,ofL_app]
  refine qf1 (h.fr f4) R S (by simp only[J0,J4,J2,J3];omega) fun v fv=>?_
  have:=hK v (f4.t fv)
  refine cast (congrArg (fun z=>K (ofL z) v) ?_) this
  simp[priB,he,lnB,Ln.line,Ln.word,Ln.body,Ln.args,q38,wPrice]
end
section
variable{w w' w0:World}{t:Td}{x:T43}{t0:Nat}{K:ByteArray->World->Prop}
theorem qor{o:B}(h:LB w t0 x t)(R:q0m t)(S:SmT t)(ho:(o++reqB t 0).length<=30000)(hK:∀w',Fr F0 w w'->K (ofL (o++reqB t 0)) w'):z0r_l3 ⟨t0,0,none⟩ (ofL o) (0:Int) K w:=by
 have h12:=R.reqs
 have hv:=h.T.reqs
 have hvl:=hv.len
 refine⟨⟨fun z j u=>∃(k:Nat) (o':B),j=(k:Int)/\k<=t.reqs.length/\z=ofL o'/\o'++reqB t k=o++reqB t 0/\Fr F0 w u,fun _ j _=>t.reqs.length-j.toNat,⟨0,o,rfl,Jq _,rfl,rfl,Fr.refl⟩,?_⟩⟩
 rintro _ _ u ⟨k,o',rfl,hk,rfl,he,f⟩
 have hu:=h.fr f
 by_cases hkl:k<t.reqs.length
 ·refine fi ?_
  refine⟨x.f3,hu.r.at,q00.2 ⟨fun _=>⟨x.f3,hu.r.at,?_⟩,fun hh=>absurd (show(k:Int)<x.f3.l by omega) hh⟩⟩
  refine Vw.go (enc:=encR) (fun _=>rfl) od (hv.fr f) k rfl hkl fun ad hc=>⟨_,hc 0 _ rfl,_,hc 1 _ rfl,_,hc 2 _ rfl,?_⟩
  obtain⟨q1,q2,q3⟩:=R.reqN _ (J1 hkl)
  have sm:=S.reqs _ (J1 hkl)
  have hstep:reqB t k=lnB (.req t.reqs[k])++reqB t (k+1):=by
   unfold reqB
   rw[J5 hkl,J6,J8]
  generalize t.reqs[k]=r at q1 q2 q3 sm hstep ⊢
  have nv:=q6p q3 sm
  have lv:=q2r nv
  rw[hstep]at he
  have hlen:=congrArg Jh he
  simp only[lnB,Ln.line,Ln.word,Ln.body,Ln.args,q68,J0,J2,J3,J6,J9]at hlen ho
  have hs:Sx u u []:=Sx.nil Fr.refl
  refine hs.box (vs:=encR r) rfl fun w1 f1 hs=>?_
  generalize u.heap.size=rb at hs ⊢
  intro w2
  have hs:Sx u w2 [(fun c=>c=rb,fun u=>Row u rb (encR r))]:=hs.fr Fr.drew
  clear_value w2
  obtain⟨Q,hSi,hSe⟩:∃S:World->Prop,(∀v,Sx u v [(fun c=>c=rb,fun u=>Row u rb (encR r))]->S v)/\∀v,S v->Sx u v [(fun c=>c=rb,fun u=>Row u rb (encR r))]:=⟨_,fun _ h=>h,fun _ h=>h⟩
  refine⟨Q,hSi _ hs,szz,_,fun v hv=>(hSe v hv).ld 0 rfl rfl,szz,szz,_,fun v hv=>(hSe v hv).ld 0 rfl rfl,szz,szz,_,fun v hv=>(hSe v hv).ld 0 rfl rfl,?_⟩
  refine q0g nv fun w3 f3=>⟨hSi _ (hs.fr f3),szz,szz,q01,⟨⟨rfl,trivial⟩,k+1,_,oo,oo,(by simp only[q19,ofL_app];rfl),?_,f.t (hs.fr f3).fr0⟩,uo⟩
  rw[←he]
  simp[lnB,Ln.line,Ln.word,Ln.body,Ln.args,q68]
 ·have hke:k=t.reqs.length:=oo
  subst hke
  have er:reqB t t.reqs.length=priB t:=by
   unfold reqB
   grind
  rw[er]at he
  refine qkn hu R S oo (by rw[he];exact ho) fun v fv=>?_
  rw[he]
  exact hK v (f.t fv)
end
end Go.Proofs.YtmfkimnmklnppaaGreatDoor
namespace Dp
open Go Pw
def rb0(u:World):Nat:=u.heap.size
def criB(t:Td)(k:Nat):B:=(t.crit.drop k).flatMap (fun c=>lnB (.crit c))++reqB t 0
end Dp
namespace Go.Proofs.YtmfkimnmklnppaaGreatDoor
open Go Pw Dp
section
variable{w w' w0:World}{t:Td}{x:T43}{t0:Nat}{K:ByteArray->World->Prop}
theorem qos{o:B}{k:Int}{cb:Nat}{c:Cr}{N1:Addr->ByteArray->Int->World->Prop}(hr:Row w cb (encC c))(ho:o.length<=100000)(hk:inR .i64 (k+1))(hN:N1 ⟨t0,0,none⟩ (ofL (o++(if c.less then 32::q4m else [])++[10])) (k+1) w) :
  z0r_k2 ⟨t0,0,none⟩ (ofL o) k ⟨cb,0,none⟩ N1 K w:=by
 refine⟨fi ?_⟩
 refine⟨c.less,hr.at,?_⟩
 cases hl:c.less
 ·rw[hl]at hN
  refine q0h ⟨szz,hk,?_⟩
  simp only[q19,ofL_app]
  grind
 ·rw[hl]at hN
  refine q08 ⟨szz,szz,hk,?_⟩
  simp only[q19,ofL_app]
  refine cast (congrArg (fun z=>N1 ⟨t0,0,none⟩ (ofL z) (k+1) w) ?_) hN
  simp[q4m]
theorem qot{o:B}(h:LB w t0 x t)(R:q0m t)(S:SmT t)(ho:(o++criB t 0).length<=30000)(hK:∀w',Fr F0 w w'->K (ofL (o++criB t 0)) w'):z0r_l1 ⟨t0,0,none⟩ (ofL o) (0:Int) K w:=by
 have h12:=R.crit
 have hv:=h.T.crit
 have hvl:=hv.len
 refine⟨⟨fun z j u=>∃(k:Nat) (o':B),j=(k:Int)/\k<=t.crit.length/\z=ofL o'/\o'++criB t k=o++criB t 0/\Fr F0 w u,fun _ j _=>t.crit.length-j.toNat,⟨0,o,rfl,Jq _,rfl,rfl,Fr.refl⟩,?_⟩⟩
 rintro _ _ u ⟨k,o',rfl,hk,rfl,he,f⟩
 have hu:=h.fr f
 refine fi ?_
 refine⟨x.f2,hu.r.at,q00.2 ⟨fun hlt=>⟨x.f2,hu.r.at,?_⟩,fun hge=>?_⟩⟩
 ·have hkl:k<t.crit.length:=oo
  refine Vw.go (enc:=encC) (fun _=>rfl) od (hv.fr f) k rfl hkl fun ad hc=>⟨_,hc 0 _ rfl,_,hc 1 _ rfl,_,hc 2 _ rfl,_,hc 3 _ rfl,_,hc 4 _ rfl,?_⟩
  obtain⟨q1,q2,q3,q4⟩:=R.critN _ (J1 hkl)
  have sm:=S.crit _ (J1 hkl)
  have hstep:criB t k=lnB (.crit t.crit[k])++criB t (k+1):=by
   unfold criB
   rw[J5 hkl,J6,J8]
  generalize t.crit[k]=c at q1 q2 q3 q4 sm hstep ⊢
  have n1:=q6p q3 sm.1
  have n2:=q6p q4 sm.2
  have l1:=q2r n1
  have l2:=q2r n2
  rw[hstep]at he
  have hlen:=congrArg Jh he
  simp only[lnB,Ln.line,Ln.word,Ln.body,Ln.args,wCrit',J0,J2,J3,Jd,J6,J9]at hlen ho
  have hkw:(q2o c.kind).length<=5:=by
   unfold q2o
   split<;>decide
  have fin:∀(v:World) (z:B),Sx u v [(fun a=>a=rb0 u,fun u'=>Row u' (rb0 u) (encC c))]->z=o'++lnB (.crit c)->∃(k':Nat) (o2:B),(k:Int)+1=(k':Int)/\k'<=t.crit.length/\ofL z=ofL o2/\o2++criB t k'=o++criB t 0/\Fr F0 w v:=fun v z hs hz=>⟨k+1,z,oo,oo,rfl,by rw[hz,←he,J8],f.t hs.fr0⟩
  have hs:Sx u u []:=Sx.nil Fr.refl
  refine hs.box (vs:=encC c) rfl fun w1 f1 hs=>?_
  have fin:=fin
  unfold rb0 at fin
  generalize u.heap.size=rb at hs fin ⊢
  intro w2
  have hs:Sx u w2 [(fun a=>a=rb,fun u=>Row u rb (encC c))]:=hs.fr Fr.drew
  clear_value w2
  obtain⟨nm,kd,lo,hi,ls⟩:=c
  dsimp only at q2 n1 n2 l1 l2 hlen ho hkw
  have hl1:(if ls=true then [q4m]else []).flatMap (fun x=>32::x)=if ls=true then 32::q4m else []:=by cases ls<;>rfl
  have hl5:(if ls=true then 32::q4m else []).length<=5:=by cases ls<;>decide
  have hkd:1<=kd/\kd<=2:=oo
  have rd:∀(v:World) (b:Nat),Row v b [.string (str [103,114,97,100,101]),.string (str [111,102,102,101,114])]->v.cell? ((Addr.mk b 0 none).add ((kd-1).toNat*1))=some (.string (ofL (q2o kd))):=fun v b hr=>by
   rcases q2 with e|e<;>(rw[show kd=_ from e];exact hr.at)
  have f2:∀ {v:World} {z:B},Sx u v [(fun a=>a=rb,fun u=>Row u rb (encC ⟨nm,kd,lo,hi,ls⟩))]->z=o'++(wCrit'++32::(nm++32::(q2o kd++32::(Lib.itoa lo++32::Lib.itoa hi))))->z0r_k2 ⟨t0,0,none⟩ (ofL z) k ⟨rb,0,none⟩ (fun t_1' out_3' k_5' w'=>((t_1'=(⟨t0,0,none⟩:Addr)/\True)/\∃(k:Nat) (o':B),k_5'=(k:Int)/\k<=t.crit.length/\out_3'=ofL o'/\o'++criB t k=o++criB t 0/\Fr F0 w w')/\t.crit.length-k_5'.toNat<t.crit.length-(k:Int).toNat) K v:=fun {v z} hs hz=>by
   subst hz
   refine qos (hs.get 0 rfl) (by simp only[J0,J2,show wCrit'.length=9 from rfl];omega) (q01) ⟨⟨⟨rfl,trivial⟩,fin v _ hs ?_⟩,oo⟩
   simp[lnB,Ln.line,Ln.word,Ln.body,Ln.args,hl1]
  refine⟨fun v=>Sx u v [(fun a=>a=rb,fun u=>Row u rb (encC ⟨nm,kd,lo,hi,ls⟩))],hs,szz,_,fun v hv=>hv.ld 0 rfl rfl,szz,szz,kd,fun v hv=>hv.ld 0 rfl rfl,q01,_,fun v hv=>hv.ld 0 rfl rfl,_,fun v hv=>hv.ld 0 rfl rfl,?_⟩
  have g1:0<=kd-1/\kd-1<((2:Nat):Int):=oo
  have mk:∀ {v:World},Sx u v [(fun a=>a=rb,fun u=>Row u rb (encC ⟨nm,kd,lo,hi,ls⟩))]->Sx u (v.alloc (Obj.cells #[.string (str [103,114,97,100,101]),.string (str [111,102,102,101,114])] 9)) ((fun a=>a=v.heap.size,fun u=>Row u v.heap.size [.string (str [103,114,97,100,101]),.string (str [111,102,102,101,114])])::[(fun a=>a=rb,fun u=>Row u rb (encC ⟨nm,kd,lo,hi,ls⟩))]):=fun h=>h.row
  refine⟨?_,q0g n1 fun w3 f3=>?_⟩
  ·intro w4
   have hs:=mk hs
   refine⟨fun v=>Sx u v _,hs,fun _ h=>h.tail,g1,_,fun v hv=>rd v _ (hv.get 0 rfl),szz,szz,q0g n1 fun w5 f5=>⟨fun v=>Sx u v _,hs.fr f5,fun _ h=>h,szz,szz,q0g n2 fun w6 f6=>⟨fun v=>Sx u v _,(hs.fr f5).fr f6,fun _ h=>h,szz,?_⟩⟩⟩
   simp only[q19,ofL_app]
   exact f2 ((hs.fr f5).fr f6).tail (by simp[wCrit'])
  have hs:=hs.fr f3
  refine⟨fun v=>Sx u v _,hs,fun _ h=>h,?_,q0g n2 fun w5 f5=>?_⟩
  ·intro w4
   have hs:=mk hs
   refine⟨fun v=>Sx u v _,hs,fun _ h=>h.tail,g1,_,fun v hv=>rd v _ (hv.get 0 rfl),szz,szz,szz,szz,q0g n2 fun w6 f6=>⟨fun v=>Sx u v _,hs.fr f6,fun _ h=>h,szz,?_⟩⟩
   simp only[q19,ofL_app]
   exact f2 (hs.fr f6).tail (by simp[wCrit'])
  have hs:=hs.fr f5
  refine⟨fun v=>Sx u v _,hs,fun _ h=>h,?_⟩
  intro w4
  have hs:=mk hs
  refine⟨fun v=>Sx u v _,hs,fun _ h=>h.tail,g1,_,fun v hv=>rd v _ (hv.get 0 rfl),szz,szz,szz,szz,szz,?_⟩
  simp only[q19,ofL_app]
  exact f2 hs.tail (by simp[wCrit'])
 ·have hke:k=t.crit.length:=oo
  subst hke
  have er:criB t t.crit.length=reqB t 0:=by
   unfold criB
   grind
  rw[er]at he
  refine qor hu R S (by rw[he];exact ho) fun v fv=>?_
  rw[he]
  exact hK v (f.t fv)
end
end Go.Proofs.YtmfkimnmklnppaaGreatDoor
namespace Dp
open Go Pw
def lotB(t:Td)(k:Nat):B:=(t.lots.drop k).flatMap (fun l=>lnB (.lot l.1 l.2))++criB t 0
theorem textB(t:Td):q0f t=q1f++32::(t.name++10::lotB t 0):=by
 unfold q0f q0a lotB criB reqB priB qop comB endB
 simp only[J6,Jd,Jk,List.drop_zero,J8]
 by_cases h1:t.ties=[]<;>by_cases h2:t.most=0<;>simp[h1,h2,lnB,Ln.line,Ln.word,Ln.body,Ln.args]
end Dp
namespace Go.Proofs.YtmfkimnmklnppaaGreatDoor
open Go Pw Dp
section
variable{w w' w0:World}{t:Td}{x:T43}{t0:Nat}{K:ByteArray->World->Prop}
theorem qou{o:B}(h:LB w t0 x t)(R:q0m t)(S:SmT t)(ho:(o++lotB t 0).length<=30000)(hK:∀w',Fr F0 w w'->K (ofL (o++lotB t 0)) w'):z0r_l0 ⟨t0,0,none⟩ (ofL o) (0:Int) K w:=by
 have h12:=R.lots
 have hvl:=h.T.lots.len
 refine⟨⟨fun z j u=>∃(k:Nat) (o':B),j=(k:Int)/\k<=t.lots.length/\z=ofL o'/\o'++lotB t k=o++lotB t 0/\Fr F0 w u,fun _ j _=>t.lots.length-j.toNat,⟨0,o,rfl,Jq _,rfl,rfl,Fr.refl⟩,?_⟩⟩
 rintro _ _ u ⟨k,o',rfl,hk,rfl,he,f⟩
 have hu:=h.fr f
 refine fi ?_
 refine⟨x.f1,hu.r.at,q00.2 ⟨fun hlt=>?_,fun hge=>?_⟩⟩
 ·have hkl:k<t.lots.length:=oo
  intro w1
  have f1:Fr F0 u w1:=Fr.drew
  clear_value w1
  have hL:∀v,Fr F0 u v->LB v t0 x t:=fun v f=>hu.fr f
  obtain⟨q1,q2⟩:=R.lotN _ (J1 hkl)
  have sm:=S.lots _ (J1 hkl)
  have hstep:lotB t k=lnB (.lot t.lots[k].1 t.lots[k].2)++lotB t (k+1):=by
   unfold lotB
   rw[J5 hkl,J6,J8]
  have n1:=q6p (n:=t.lots[k].1) ⟨by have:=q1.1;omega,q1.2⟩ sm.1
  have n2:=q6p q2 sm.2
  have l1:=q2r n1
  have l2:=q2r n2
  rw[hstep]at he
  have hlen:=congrArg Jh he
  simp only[lnB,Ln.line,Ln.word,Ln.body,Ln.args,q42,q3l,J0,J2,J3,J6,J9]at hlen ho
  refine⟨Fr F0 u,f1,by simp only[q19,q0o,J4,J2,J3];unfold maxI;omega,x.f1,fun v fv=>(hL v fv).r.at,?_⟩
  refine Vw.goS (enc:=encL) (S:=Fr F0 u) (fun _=>rfl) od f1 (fun v fv=>(hL v fv).T.lots) k rfl hkl fun ad hc=>⟨t.lots[k].1,hc 0 _ rfl,x.f1,fun v fv=>(hL v fv).r.at,?_⟩
  refine Vw.goS (enc:=encL) (S:=Fr F0 u) (fun _=>rfl) od f1 (fun v fv=>(hL v fv).T.lots) k rfl hkl fun ad2 hc2=>⟨t.lots[k].2,hc2 1 _ rfl,?_⟩
  generalize t.lots[k]=l at n1 n2 l1 l2 hlen he ⊢
  refine q0g n1 fun w2 f2=>⟨f1.t f2,?_,?_,q0g n2 fun w3 f3=>⟨(f1.t f2).t f3,?_,?_,q01,⟨⟨rfl,trivial⟩,k+1,_,oo,oo,(by simp only[q19,ofL_app];rfl),?_,f.t ((f1.t f2).t f3)⟩,uo⟩⟩
  ·simp only[q19,ofL_app,q0o,J0,J4,J2,J3];unfold maxI;omega
  ·simp only[q19,ofL_app,q0o,J0,J4,J2,J3];unfold maxI;omega
  ·simp only[q19,ofL_app,q0o,J0,J4,J2,J3];unfold maxI;omega
  ·simp only[q19,ofL_app,q0o,J0,J4,J2,J3];unfold maxI;omega
  ·rw[←he]
   simp[lnB,Ln.line,Ln.word,Ln.body,Ln.args,q42,q3l]
 ·have hke:k=t.lots.length:=oo
  subst hke
  have er:lotB t t.lots.length=criB t 0:=by
   unfold lotB
   grind
  rw[er]at he
  refine qot hu R S (by rw[he];exact ho) fun v fv=>?_
  rw[he]
  exact hK v (f.t fv)
theorem qf2(T:TP w x t)(R:q0m t)(S:SmT t)(hl:(q0f t).length<=4000)(hK:∀w',Fr F0 w w'->K (ofL (q0f t)) w'):z0r_sh x K w:=by
 refine⟨fi ?_⟩
 intro w1
 have h:Sx w w1 _:=(Sx.nil Fr.refl).row (cs:=x.cs)
 clear_value w1
 generalize w.heap.size=t0 at h ⊢
 have hb:LB w1 t0 x t:=⟨h.get 0 rfl,T.fr h.fr0⟩
 have ht:=textB t
 have hlen:=congrArg Jh ht
 simp only[q1f,J0,J2,J3]at hlen
 have e:((str [116,101,110,100,101,114,32])++ofL t.name)++(str [10])=ofL (q1f++32::(t.name++[10])):=by
  simp only[q19,ofL_app]
  congr 1
 refine⟨ofL t.name,by rw[←T.name];exact h.ld 0 rfl rfl,?_,?_,?_⟩
 ·simp only[q19,ofL_app,q0o,J0,J4,J2,J3];unfold maxI;omega
 ·simp only[q19,ofL_app,q0o,J0,J4,J2,J3];unfold maxI;omega
 ·rw[e]
  have e2:(q1f++32::(t.name++[10]))++lotB t 0=q0f t:=by rw[ht];simp
  refine qou hb R S (by rw[e2];omega) fun v fv=>?_
  rw[e2]
  exact hK v (h.fr0.t fv)
theorem qhg{K:ByteArray->Bool->World->Prop}(T:TP w x t)(R:q0m t)(F:Fit t)(S:SmT t)(hl:(q0f t).length<=4000)(hK:∀w',Fr F0 w w'->K (ofL (q0f t)) true w'):z1k_sh x K w:=by
 have hfr:t.fm.right=true:=FR.right ⟨R.fm.1,R.fm.2.1,R.fm.2.2⟩
 refine⟨fi ?_⟩
 intro w1
 have h:Sx w w1 _:=(Sx.nil Fr.refl).row (cs:=x.cs)
 clear_value w1
 generalize w.heap.size=t0 at h ⊢
 refine⟨ofL t.name,by rw[←T.name];exact h.ld 0 rfl rfl,q4y (by have:=F.name;omega) ?_⟩
 rw[R.name]
 have T1:=T.fr h.fr0
 refine⟨x.f6,h.ld 0 rfl rfl,x.f7,h.ld 0 rfl rfl,x.f8,h.ld 0 rfl rfl,x.f9,h.ld 0 rfl rfl,x.f10,h.ld 0 rfl rfl,qcw T1.fm S.fm (by have:=F.fp;omega) fun w2 f2=>?_⟩
 rw[hfr]
 have h:=h.fr f2
 refine T43.ld_row (h.get 0 rfl) (qhe (T1.fr f2) R F fun w3 f3=>?_)
 have h:=h.fr f3
 refine⟨_,h.ld 0 rfl rfl,_,h.ld 0 rfl rfl,_,h.ld 0 rfl rfl,_,h.ld 0 rfl rfl,_,h.ld 0 rfl rfl,?_⟩
 refine h.box (vs:=[.int .i64 x.f15,.int .i64 x.f16,.int .i64 x.f17,.int .i64 x.f18,.int .i64 x.f19]) rfl fun w4 f4 h=>?_
 generalize w3.heap.size=b2 at h ⊢
 refine⟨_,h.ld 1 rfl rfl,q0t (by rw[T.low];exact R.low) (q08 ⟨_,h.ld 1 rfl rfl,q0t (by rw[T.high];exact R.high) (q08 ⟨_,h.ld 1 rfl rfl,q0t (by rw[T.most];exact R.most) (q08 ⟨_,h.ld 1 rfl rfl,q0t (by rw[T.budget];exact R.budget) (q08
  ⟨_,h.ld 0 rfl rfl,q0t (by rw[T.t1];exact R.t1) (q08 ⟨_,h.ld 0 rfl rfl,q0t (by rw[T.t2];exact R.t2) (q08 ⟨_,h.ld 0 rfl rfl,q0t (by rw[T.t3];exact R.t3) (q08 ⟨_,h.ld 0 rfl rfl,q0t (by rw[T.t4];exact R.t4) (q08 ⟨_,h.ld 0 rfl rfl,q0t (by rw[T.t5];exact R.t5) ⟨fi ?_⟩⟩)⟩)⟩)⟩)⟩)⟩)⟩)⟩)⟩
 refine q0h (q0h (q0h (q0h (T43.ld_row (h.get 1 rfl) (qf2 (T.fr h.fr0) R S hl fun w5 f5=>?_)))))
 rw[q0o,decide_eq_true (show((q0f t).length:Int)<=4000 by omega)]
 exact hK w5 (h.fr0.t f5)
theorem qhh(T:TP w x t)(R:q0m t)(F:Fit t)(S:SmT t)(hl:(q0f t).length<=4000)(hK:∀w',Fr F0 w w'->K (ofL (q0f t)) w'):z1j_sh x K w:=by
 refine⟨fi ?_⟩
 intro w1
 have h:Sx w w1 _:=(Sx.nil Fr.refl).row (cs:=x.cs)
 clear_value w1
 exact T43.ld_row (h.get 0 rfl) (qhg (T.fr h.fr0) R F S hl fun w2 f2=>q0h (hK w2 (h.fr0.t f2)))
end
end Go.Proofs.YtmfkimnmklnppaaGreatDoor
namespace Dp
open Go Pw
structure PB(p:FP):Prop where
 low:0<=p.low/\p.low<=39
 high:p.low<p.high/\p.high<=p.low+500
 budget:100<=p.budget/\p.budget<=2099
 most:0<=p.most/\p.most<=2
 lots:1<=p.lots.length/\p.lots.length<=3
 lot:∀m∈p.lots,p.low<=m/\m<=p.low+519
 k:1<=p.k/\p.k<=9
 cs:p.cs.length<=3
 c:∀c∈p.cs,c.Ok
theorem PB.ok{p:FP}(h:PB p){co:Bool}{t1 t2 t3 t4 t5:Int}(hc:co=true->2<=p.lots.length)(h1:10<=t1/\t1<=14)(h2:t1<t2/\t2<=t1+5)(h3:t2<t3/\t3<=t2+5)(h4:t3<t4/\t4<=t3+5)(h5:1<=t5/\t5<=10) :
  ({ p with combo:=co,t1:=t1,t2:=t2,t3:=t3,t4:=t4,t5:=t5 }:FP).Ok:=⟨h.low,h.high,h.budget,h.most,h.lots,h.lot,h.k,h.cs,h.c,hc,h1,h2,h3,h4,h5⟩
theorem qf3:∀(l:List Int) (i:Nat) (m:Int),idsL i (l++[m])=idsL i l++[(1+2*((i+l.length:Nat):Int),m)]
 | [],i,m=>rfl
 | a::l,i,m=>by
  show _::idsL (i+1) (l++[m])=_
  rw[qf3 l (i+1) m]
  simp only[idsL,List.cons_append,J2]
  grind
theorem qko{p:FP}{c:FC}{nm:B}(hn:q1q[p.cs.length]?=some nm):({ p with cs:=p.cs++[c] }:FP).crits=p.crits++[(c,nm)]:=by
 obtain⟨hl,hg⟩:=List.getElem?_eq_some_iff.1 hn
 unfold FP.crits
 have e:q1q=q1q.take p.cs.length++nm::q1q.drop (p.cs.length+1):=by
  rw[←hg,←J5,Jf]
 have h1:p.cs.zip q1q=p.cs.zip (q1q.take p.cs.length):=by
  conv=>lhs;rw[e]
  rw[←Jg p.cs,Jo oy]
  simp
 rw[h1]
 conv=>lhs;rw[e]
 show List.zip (p.cs++[c]) _=_
 rw[Jo oy]
 simp
end Dp
namespace Go.Proofs.YtmfkimnmklnppaaGreatDoor
open Go Pw Dp
theorem qs0:∀n∈[(1:Int),2,3,4,5,6,7,8,9],∀d∈[(1:Int),2,10,4],(1<=(q2p n d).n/\(q2p n d).n<=9)/\q2h (q2p n d).n (q2p n d).d=true/\q1x (q2p n d).d=true:=by decide +kernel
theorem qsv(n:Int)(h:0<=n/\n<=1000000000):(q2p n 1).n=n/\(q2p n 1).d=1:=by
 have e:Rat.divInt n 1=mkRat n 1:=rfl
 unfold q2p fitQ
 rw[if_neg od,e,(q2b n).1,(q2b n).2,if_pos ⟨oo,oo,od⟩]
 grind
section
variable{w w' w0:World}{L:List Pt}
abbrev Nx(mb:Nat)(s:Sl)(l:List Int):Pt:=(fun c=>c=mb,fun u=>∃k:Nat,k<=l.length/\Row u mb [.slice s.p s.l s.c,.int .i64 (k:Int)])
theorem Nx.rests(mb:Nat)(s:Sl)(l:List Int):q0b (Nx mb s l).1 (Nx mb s l).2:=fun _ _ he ⟨k,hk,r⟩=>⟨k,hk,r.congr (he mb rfl)⟩
structure NA(w0:World)(s:Sl)(l:List Int):Prop where
 v:Vw 1 encI w0 s l
 l:l.length<2^62
theorem qs1{mb:Nat}{s:Sl}{l:List Int}{n:Int}{K:Int->World->Prop}(h:Sx w0 w (Nx mb s l::L))(A:NA w0 s l)(hn:0<n)(hn2:n<10000)
  (hK:∀w' r,0<=r->r<n->Sx w0 w' (Nx mb s l::L)->K r w'):z07_sh (some ⟨mb,0,none⟩) n K w:=by
 obtain⟨k,hk,r⟩:=h.get 0 rfl
 have h1:Sx w0 w (Nrd mb s k::L):=h.upd (q:=Nrd mb s k) 0 rfl Fr.refl (q0b.row _ _) r fun _ hb=>.inl hb
 have b:=nxt_bd (l:=l) (k:=k) hn
 refine qod h1 (fun u hu=>A.v.fr hu.fr0) A.l hk hn oo fun w' h'=>hK w' _ b.1 b.2 ?_
 exact h'.upd (q:=Nx mb s l) 0 rfl Fr.refl (Nx.rests mb s l) ⟨nxk l k,by unfold nxk;split<;>omega,h'.get 0 rfl⟩ fun _ hb=>.inl hb
end
structure FZ(w0 w:World)(mb:Nat)(ls:Sl)(l:List Int)(bt:Nat)(x:T43)(t:Td)(Z:List Sl)(F:Nat->Prop)(fl:Bool)(E:List Pt):Prop where
 sx:Sx w0 w (Nx mb ls l::TPs bt x t Z F fl E)
 sc:TSc x t
section
variable{w w' w0:World}{mb bt:Nat}{ls:Sl}{l:List Int}{x x':T43}{t t':Td}{Z:List Sl}{F:Nat->Prop}{fl:Bool}{E:List Pt}{q:Pt}
theorem FZ.fr(h:FZ w0 w mb ls l bt x t Z F fl E)(f:Fr F0 w w'):FZ w0 w' mb ls l bt x t Z F fl E:=⟨h.sx.fr f,h.sc⟩
theorem FZ.next{n:Int}{K:Int->World->Prop}(h:FZ w0 w mb ls l bt x t Z F fl E)(A:NA w0 ls l)(hn:0<n)(hn2:n<10000)
  (hK:∀w' r,0<=r->r<n->FZ w0 w' mb ls l bt x t Z F fl E->K r w'):z07_sh (some ⟨mb,0,none⟩) n K w:=
 qs1 h.sx A hn hn2 fun w' r h1 h2 hs=>hK w' r h1 h2 ⟨hs,h.sc⟩
theorem FZ.box(h:FZ w0 w mb ls l bt x t Z F fl E):Row w bt x.cs:=h.sx.get 1 rfl
theorem FZ.wr(h:FZ w0 w mb ls l bt x t Z F fl E){i:Nat}(hi:Nat.blt i 20=true):wrOk w ⟨bt,i,none⟩:=h.sx.wr 1 rfl hi
theorem FZ.put(h:FZ w0 w mb ls l bt x t Z F fl E){i:Nat}{v:Value}(hx:x.cs.set i v=x'.cs)(e1:x'.f1=x.f1)(e2:x'.f2=x.f2)(e3:x'.f3=x.f3)(e4:x'.f11=x.f11)(e5:x'.f13=x.f13)
  (e6:(⟨x'.f6,x'.f7,x'.f8,x'.f9,x'.f10⟩:XC)=⟨x.f6,x.f7,x.f8,x.f9,x.f10⟩) (g1:t'.lots=t.lots) (g2:t'.crit=t.crit) (g3:t'.reqs=t.reqs) (g4:t'.ties=t.ties) (g5:t'.combos=t.combos) (g6:t'.fm=t.fm) (hs:TSc x' t') :
  FZ w0 (w.setCell ⟨bt,i,none⟩ v) mb ls l bt x' t' Z F fl E:=by
 refine⟨?_,hs⟩
 have:=h.sx.set (i:=i) (v:=v) 1 rfl
 unfold TPs at this ⊢
 grind
theorem FZ.ins(h:FZ w0 w mb ls l bt x t Z F fl E)(hf:Fr F0 w w')(hr:q0b q.1 q.2)(hq:q.2 w')(hn:∀b,q.1 b->w.heap.size<=b/\b<w'.heap.size):FZ w0 w' mb ls l bt x t Z F fl (q::E):=
 ⟨Sx.ins (A:=[_,_,_,_,_,_,_,_,_]) (B:=E) h.sx hf hr hq hn,h.sc⟩
theorem FZ.del(h:FZ w0 w mb ls l bt x t Z F fl (q::E)):FZ w0 w mb ls l bt x t Z F fl E:=
 ⟨Sx.del (A:=[_,_,_,_,_,_,_,_,_]) (B:=E) h.sx,h.sc⟩
theorem FZ.row{cs:List Value}{e:TypeId}(h:FZ w0 w mb ls l bt x t Z F fl E):FZ w0 (w.alloc (Obj.cells cs.toArray e)) mb ls l bt x t Z F fl ((fun c=>c=w.heap.size,fun u=>Row u w.heap.size cs)::E):=
 h.ins Fr.alloc (q0b.row _ _) Row.new fun b hb=>ud
theorem FZ.loc{c:Nat}{cs:List Value}(h:FZ w0 w mb ls l bt x t Z F fl ((fun d=>d=c,fun u=>Row u c cs)::E)):Row w c cs:=h.sx.get 9 rfl
theorem FZ.st{b:Nat}{cs vs:List Value}{K:World->Prop}(h:FZ w0 w mb ls l bt x t Z F fl ((fun d=>d=b,fun u=>Row u b cs)::E))(hl:vs.length=cs.length)
  (hK:∀w',FZ w0 w' mb ls l bt x t Z F fl ((fun d=>d=b,fun u=>Row u b vs)::E)->K w'):stN w ⟨b,0,none⟩ vs K:=
 h.sx.st 9 rfl hl fun w' _ h'=>hK w' ⟨h',h.sc⟩
theorem FZ.box2{cs vs:List Value}{e:TypeId}{K:World->Prop}(h:FZ w0 w mb ls l bt x t Z F fl E)(hl:cs.length=vs.length)(hK:∀w',Fr F0 w w'->FZ w0 w' mb ls l bt x t Z F fl ((fun c=>c=w.heap.size,fun u=>Row u w.heap.size vs)::E)->K w') :
  stN (w.alloc (Obj.cells cs.toArray e)) ⟨w.heap.size,0,none⟩ vs K:=
 q1u hl Mem.nil fun w' m=>hK w' m.1 (h.ins m.1 (q0b.row _ _) (m.row 0) fun b hb=>by have hb:b=w.heap.size:=hb;subst hb;exact⟨Nat.le_refl _,(m.row 0).lt⟩)
theorem FZ.tp(h:FZ w0 w mb ls l bt x t Z F true E):TP w x t:=qsk (G:=F0) h.sx.tail h.sc Fr.refl fun _ h=>h.elim
theorem FZ.fm{e:Fm}{c:XC}{F':Nat->Prop}{K:World->Prop}(h:FZ w0 w mb ls l bt x t Z F fl E)(f:Fr F0 w w')(hx:XW F' w' e c)(hn:∀b,F' b->F b\/w.heap.size<=b/\b<w'.heap.size)
  (hK:∀u,FZ w0 u mb ls l bt { x with f6:=c.op,f7:=c.n,f8:=c.d,f9:=c.nm,f10:=c.a } { t with fm:=e } Z F' true E->K u):stN w' ⟨bt,6,none⟩ [.string c.op,.int .i64 c.n,.int .i64 c.d,.string c.nm,.slice c.a.p c.a.l c.a.c] K:=by
 have hs:=h.sx.upd (q:=(F',fun u=>true=true->XW F' u e c)) 8 rfl f.f0 (fun u u' he h _=>(h rfl).go he) (fun _=>hx) hn
 refine q13 (o:=6) (h.fr f).box (by show 6+5<=20;decide) fun u f14 r14=>hK u ⟨?_,{ h.sc with }⟩
 exact hs.upd (q:=(fun c=>c=bt,fun u=>Row u bt (T43.cs { x with f6:=c.op,f7:=c.n,f8:=c.d,f9:=c.nm,f10:=c.a }))) 1 rfl f14 (q0b.row _ _) r14 fun _ hb=>.inl hb
theorem q7q{t2:Nat}{K:T43->World->Prop}(h:FZ w0 w mb ls l bt x t Z F true ((fun d=>d=t2,fun u=>Row u t2 zX.cs)::E))(A:NA w0 ls l)
  (hK:∀w' x' t1 t2 t3 t4 t5,Fr F0 w0 w'->(10<=t1/\t1<=14)->(t1<t2/\t2<=t1+5)->(t2<t3/\t3<=t2+5)->(t3<t4/\t4<=t3+5)->(1<=t5/\t5<=10)->TP w' x' { t with t1:=t1,t2:=t2,t3:=t3,t4:=t4,t5:=t5 }->K x' w') :
  z24_k5 ⟨t2,0,none⟩ ⟨mb,0,none⟩ ⟨bt,0,none⟩ K w:=by
 refine⟨fi ?_⟩
 simp -zeta only[q04,Js]
 refine h.next A od od fun w1 r1 a1 b1 h=>⟨q01,h.wr rfl,?_⟩
 intro w2
 have h:FZ w0 w2 mb ls l bt { x with f15:=10+r1 } { t with t1:=10+r1 } Z F true _:=h.put rfl rfl rfl rfl rfl rfl rfl rfl rfl rfl rfl rfl rfl { h.sc with t1:=rfl }
 clear_value w2
 intro w3
 have h:=h.fr (w':=w3) Fr.drew
 clear_value w3
 refine⟨fun u=>u.cell? ⟨bt,15,none⟩=some (.int .i64 (10+r1)),h.sx.ld 1 rfl rfl,_,fun u hu=>hu,q01,?_⟩
 refine h.next A od od fun w4 r2 a2 b2 h=>⟨h.sx.ld 1 rfl rfl,q01,h.wr rfl,?_⟩
 intro w5
 have h:FZ w0 w5 mb ls l bt { x with f15:=10+r1,f16:=10+r1+1+r2 } { t with t1:=10+r1,t2:=10+r1+1+r2 } Z F true _:=h.put rfl rfl rfl rfl rfl rfl rfl rfl rfl rfl rfl rfl rfl { h.sc with t2:=rfl }
 clear_value w5
 intro w6
 have h:=h.fr (w':=w6) Fr.drew
 clear_value w6
 refine⟨fun u=>u.cell? ⟨bt,16,none⟩=some (.int .i64 (10+r1+1+r2)),h.sx.ld 1 rfl rfl,_,fun u hu=>hu,q01,?_⟩
 refine h.next A od od fun w7 r3 a3 b3 h=>⟨h.sx.ld 1 rfl rfl,q01,h.wr rfl,?_⟩
 intro w8
 have h:FZ w0 w8 mb ls l bt { x with f15:=10+r1,f16:=10+r1+1+r2,f17:=10+r1+1+r2+1+r3 } { t with t1:=10+r1,t2:=10+r1+1+r2,t3:=10+r1+1+r2+1+r3 } Z F true _:=h.put rfl rfl rfl rfl rfl rfl rfl rfl rfl rfl rfl rfl rfl { h.sc with t3:=rfl }
 clear_value w8
 intro w9
 have h:=h.fr (w':=w9) Fr.drew
 clear_value w9
 refine⟨fun u=>u.cell? ⟨bt,17,none⟩=some (.int .i64 (10+r1+1+r2+1+r3)),h.sx.ld 1 rfl rfl,_,fun u hu=>hu,q01,?_⟩
 refine h.next A od od fun w10 r4 a4 b4 h=>⟨h.sx.ld 1 rfl rfl,q01,h.wr rfl,?_⟩
 intro w11
 have h:FZ w0 w11 mb ls l bt { x with f15:=10+r1,f16:=10+r1+1+r2,f17:=10+r1+1+r2+1+r3,f18:=10+r1+1+r2+1+r3+1+r4 } { t with t1:=10+r1,t2:=10+r1+1+r2,t3:=10+r1+1+r2+1+r3,t4:=10+r1+1+r2+1+r3+1+r4 } Z F true _:=h.put rfl rfl rfl rfl rfl rfl rfl rfl rfl rfl rfl rfl rfl { h.sc with t4:=rfl }
 clear_value w11
 refine h.next A od od fun w12 r5 a5 b5 h=>⟨q01,h.wr rfl,?_⟩
 intro w13
 have h:FZ w0 w13 mb ls l bt { x with f15:=10+r1,f16:=10+r1+1+r2,f17:=10+r1+1+r2+1+r3,f18:=10+r1+1+r2+1+r3+1+r4,f19:=1+r5 } { t with t1:=10+r1,t2:=10+r1+1+r2,t3:=10+r1+1+r2+1+r3,t4:=10+r1+1+r2+1+r3+1+r4,t5:=1+r5 } Z F true _:=h.put rfl rfl rfl rfl rfl rfl rfl rfl rfl rfl rfl rfl rfl { h.sc with t5:=rfl }
 clear_value w13
 refine T43.ld_row h.box (h.st rfl fun w14 h=>T43.ld_row h.loc (hK w14 _ _ _ _ _ _ h.sx.fr0 ?_ ?_ ?_ ?_ ?_ h.tp))<;>omega
end
