/- text: a formula of the four operations is printed. Conditions: none. -/
import Derived.Test.YtmfkimnmklnppaaGreatDoorHQB
import Derived.Test.YtmfkimnmklnppaaGreatDoorGQB
open List renaming getElem?_eq_getElem->J0,not_mem_nil->J1,getElem_mem->J2,length_pos_iff->J3,getElem?_eq_some_iff->J4,getElem?_cons_zero->J5,mem_cons->J6,mem_iff_getElem->J7,mem_cons_self->J8,take_length->J9,length_cons->Ja,dropWhile->Jb
open Nat renaming lt_of_lt_of_le->Jc,le_trans->Jd,zero_add->Je,le_refl->Jf,lt_or_ge->Jg
open Bool renaming and_eq_true->Jh,not_eq_true'->Ji
open Array renaming getElem?_eq_some_iff->Jj
namespace Dp
open Go Pw
theorem dec7{a b:Nat}(ha:a<10)(hb:b<10):Lib.itoa (1000000+(a*100000+b*10000:Nat))=[49,UInt8.ofNat (48+a),UInt8.ofNat (48+b),48,48,48,48]:=by
 have e:((1000000:Int)+(a*100000+b*10000:Nat)).toNat=1000000+a*100000+b*10000:=oo
 unfold Lib.itoa
 rw[if_neg oo,e]
 have step:∀u q r:Nat,u=10*q+r->r<10->0<q->Lib.decDigits u=Lib.decDigits q++[UInt8.ofNat (48+r)]:=fun u q r hu hr hq=>by
  rw[Lib.decDigits,dif_neg oo,show u/10=q by omega,show u%10=r by omega]
 rw[step _ (100000+a*10000+b*1000) 0 oo oo oo,step _ (10000+a*1000+b*100) 0 oo oo oo,step _ (1000+a*100+b*10) 0 oo oo oo,step _ (100+a*10+b) 0 oo oo oo,
  step _ (10+a) b oo oo oo,step _ 1 a oo oo oo,Lib.decDigits,dif_pos od]
 rfl
theorem qia{a:Nat}(h:a<10)(h0:a≠0):UInt8.ofNat (48+a)≠48:=fun e=>by
 have:=congrArg UInt8.toNat e
 rw[q1n h]at this
 grind
theorem trim1{c:UInt8}(h:c≠48):Lib.trimRightB [c,48,48,48,48,48] 48=[c]:=by
 have:(c==48)=false:=by simpa using h
 simp[Lib.trimRightB,Jb,this]
theorem trim2{a c:UInt8}(h:c≠48):Lib.trimRightB [a,c,48,48,48,48] 48=[a,c]:=by
 have:(c==48)=false:=by simpa using h
 simp[Lib.trimRightB,Jb,this]
theorem qmg{r d:Int}(hd:q1x d=true)(h0:0<r)(h1:r<d):Lib.trimRightB ((Lib.itoa (1000000+r*(1000000/d))).drop 1) 48=q2n r d:=by
 have hdd:d=1\/d=2\/d=4\/d=5\/d=10:=by unfold q1x at hd;simpa using hd
 have hx:∃x:Nat,x<100/\x≠0/\100*r/d=(x:Int)/\r*(1000000/d)=((x/10*100000+x%10*10000:Nat):Int):=by
  rcases hdd with h|h|h|h|h<;>subst h
  ·omega
  ·exact⟨(50*r).toNat,oo,oo,oo,oo⟩
  ·exact⟨(25*r).toNat,oo,oo,oo,oo⟩
  ·exact⟨(20*r).toNat,oo,oo,oo,oo⟩
  ·exact⟨(10*r).toNat,oo,oo,oo,oo⟩
 obtain⟨x,x1,x0,e1,e2⟩:=hx
 rw[e2,dec7 oo oo]
 unfold q2n
 rw[if_neg oo,e1,Int.toNat_natCast]
 by_cases h10:x%10=0
 ·rw[if_pos h10,h10]
  exact trim1 (qia oo oo)
 ·rw[if_neg h10]
  exact trim2 (qia oo h10)
end Dp
namespace Go.Proofs.YtmfkimnmklnppaaGreatDoor
open Go Pw Dp
section
variable{w w' w0:World}
theorem qpw(o:Fin 6){K:Int->World->Prop}(hK:K (lev o:Nat) w):z6q_sh (ofL (opB o)) K w:=by
 refine⟨fi ?_⟩
 rw[op43,op45]
 have h:0<lev o->z6q_k0 (ofL (opB o)) K w:=fun h0=>by
  refine⟨fi ?_⟩
  rw[op42,op47]
  match o,h0,hK with
  | 0,h0,_=>exact absurd h0 od
  | 1,h0,_=>exact absurd h0 od
  | 2,_,hK=>exact hK
  | 3,_,hK=>exact hK
  | 4,_,hK=>exact hK
  | 5,_,hK=>exact hK
 match o,h,hK with
 | 0,_,hK=>exact hK
 | 1,_,hK=>exact hK
 | 2,h,_=>exact h od
 | 3,h,_=>exact h od
 | 4,h,_=>exact h od
 | 5,h,_=>exact h od
theorem qib{x:B}{K:Int->World->Prop}(h:∀o:Fin 4,x≠opB (o.castAdd 2))(hK:K 2 w):z6q_sh (ofL x) K w:=by
 have e:∀o:Fin 4,decide (ofL x=ofL (opB (o.castAdd 2)))=false:=fun o=>by rw[q0c];exact decide_eq_false (h o)
 refine⟨fi ?_⟩
 rw[show decide (ofL x=str [43])=false from e 0,show decide (ofL x=str [45])=false from e 1]
 refine⟨fi ?_⟩
 rw[show decide (ofL x=str [42])=false from e 2,show decide (ofL x=str [47])=false from e 3]
 exact hK
theorem qdt{n d:Int}{K:ByteArray->World->Prop}(h:q2h n d=true)(hs:q1x d=true)(hn:I64 n)(g:GlT w)(hK:∀w',Fr F0 w w'->K (ofL (decB n d)) w'):z53_sh n d K w:=by
 obtain⟨hr,h0,ht,hm⟩:=q1b.1 h
 have hd0:0<d:=hr.1
 have hdl:=qi9 hd0 ht
 have hn1:=hn.1
 have hn2:=hn.2
 refine⟨fi ?_⟩
 intro w1
 have m:Mem w w1 [(w.heap.size,_)]:=Mem.nil.allocL (cs:=[.int .i64 n,.int .i64 d])
 clear_value w1
 intro w2
 have m:=m.drew (w:=w1)
 change Mem w w2 _ at m
 clear_value w2
 have e1:Int.tmod n d=n%d:=Int.tmod_eq_emod_of_nonneg h0
 have e2:Int.tdiv 1000000 d=1000000/d:=Int.tdiv_eq_ediv_of_nonneg oo
 have e3:Int.tdiv n d=n/d:=Int.tdiv_eq_ediv_of_nonneg h0
 have b1:=Int.emod_nonneg n (show d≠0 by omega)
 have b2:=Int.emod_lt_of_pos n hd0
 have b3:0<=1000000/d:=Int.ediv_nonneg oo oo
 have b4:1000000/d<=1000000:=Int.ediv_le_self _ oo
 have b5:0<=n/d:=Int.ediv_nonneg h0 oo
 have b6:n/d<=n:=Int.ediv_le_self _ h0
 have b7:0<=n%d*(1000000/d):=Int.mul_nonneg b1 b3
 have b8:n%d*(1000000/d)<=1000000*1000000:=Int.mul_le_mul oo b4 b3 oo
 have b9:0<1000000/d:=Int.lt_of_lt_of_le od (Int.le_ediv_of_mul_le hd0 (a:=1) oo)
 have r0:w2.cell? (Addr.mk w.heap.size 0 none)=some (Value.int .i64 n):=m.ld 0
 have r1:w2.cell? (Addr.mk w.heap.size 1 none)=some (Value.int .i64 d):=m.ld 0
 have g2:=g.fr m.1
 unfold decB at hK
 refine⟨n,r0,d,r1,oo,d,r1,oo,?_⟩
 rw[e1,e2]
 refine⟨q01,q01,q0i.2 ⟨fun hz=>⟨n,r0,d,r1,oo,?_⟩,fun hz=>⟨n,r0,d,r1,oo,?_⟩⟩⟩
 ·have hz0:n%d=0:=by
   rcases Int.mul_eq_zero.1 hz with h|h
   ·exact h
   ·omega
  rw[if_pos hz0,List.append_nil]at hK
  rw[e3]
  refine⟨q01,q15 ⟨oo,oo⟩ g2 fun w3 hf3=>?_⟩
  exact hK w3 (m.1.t hf3)
 ·have hz0:n%d≠0:=fun e=>hz oz
  rw[if_neg hz0]at hK
  rw[e3]
  refine⟨q01,q15 ⟨oo,oo⟩ g2 fun w3 hf3=>?_⟩
  have l1:=q4l (n:=n/d) ⟨oo,oo⟩
  have e46:str [46]=ofL [46]:=od
  rw[e46,q0u,q0u]
  refine⟨by unfold maxI;simp;omega,q01,q15 ⟨oo,oo⟩ (g2.fr hf3) fun w4 hf4=>?_⟩
  have l2:=q4l (n:=1000000+n%d*(1000000/d)) ⟨oo,oo⟩
  have l3:0<(Lib.itoa (1000000+n%d*(1000000/d))).length:=J3.2 (q3z _)
  rw[q0u]
  refine⟨⟨oo,oo⟩,?_⟩
  rw[qi3 _ _ _ (Jf _)]
  refine q9s oz ?_
  rw[qmg hs oo b2,ofL_app,q0u,q0u,ofL_app]
  have l4:(q2n (n%d) d).length<=2:=by
   unfold q2n
   grind
  refine⟨by unfold maxI;rw[List.length_append];simp;omega,?_⟩
  rw[show Lib.itoa (n/d)++[46]++q2n (n%d) d=Lib.itoa (n/d)++46::q2n (n%d) d by simp]
  exact hK w4 (m.1.t (hf3.t hf4))
theorem qts:∀o:Fin 6,(opB o).length<=3:=od
theorem qtt:∀o:Fin 6,opB o=opS o:=od
theorem qdu{s:Sl}{ca cb:XC}{w1:World}{i:Int}{K:ByteArray->Int->Int->ByteArray->Sl->Prop}(hv:Vw 5 encX w1 s [ca,cb])(i':Nat)(hi:i=(i':Int))(h1:i'<[ca,cb].length)(hK:K [ca,cb][i'].op [ca,cb][i'].n [ca,cb][i'].d [ca,cb][i'].nm [ca,cb][i'].a) :
  nz s.p fun a=>(0<=i/\i<(s.l:Nat))/\∃x:ByteArray,(∀w':World,Fr F0 w1 w'->w'.cell? (a.add (i.toNat*5))=some (Value.string x))/\∃y:Int,(∀w':World,Fr F0 w1 w'->w'.cell? ((a.add (i.toNat*5)).add 1)=some (Value.int .i64 y))/\∃z:Int,(∀w':World,Fr F0 w1 w'->w'.cell? ((a.add (i.toNat*5)).add 2)=some (Value.int .i64 z)) /\
   ∃u:ByteArray,(∀w':World,Fr F0 w1 w'->w'.cell? ((a.add (i.toNat*5)).add 3)=some (Value.string u))/\∃v:Sl,(∀w':World,Fr F0 w1 w'->w'.cell? ((a.add (i.toNat*5)).add 4)=some (Value.slice v.p v.l v.c))/\K x y z u v:=
 Vw.goS (S:=fun v=>Fr F0 w1 v) q1p od Fr.refl (fun _ h=>hv.fr h) i' hi h1 fun _ hc=>⟨_,hc 0 _ rfl,_,hc 1 _ rfl,_,hc 2 _ rfl,_,hc 3 _ rfl,_,hc 4 _ rfl,hK⟩
theorem four6{B:Prop}(h:B):∀o:Fin 6,lev o<2->cnd (decide (o=4)) (cnd (decide (o=4)) False B) (cnd (decide (o=5)) False B)
 | 0,_=>h
 | 1,_=>h
 | 2,_=>h
 | 3,_=>h
 | 4,h=>absurd h od
 | 5,h=>absurd h od
theorem qmh:∀(e:Fm) {c:XC} {k:Nat} {w0 w:World} {K:ByteArray->World->Prop},XP w0 e c->Fr F0 w0 w->GlT w->e.four=true->e.parts<=2^20->k<=2->(∀w',Fr F0 w w'->K (ofL (e.shw k)) w')->z7b_sh c.op c.n c.d c.nm c.a (k:Int) K w:=by
 intro e
 induction e with
 | num n d =>
  intro c k w0 w K hx hf g hs hp hk hK
  obtain⟨rfl,hn64,hd64⟩:=hx
  unfold Fm.four at hs
  simp only[Jh]at hs
  refine z7b_mk (fi ?_)
  intro w1
  have m:Mem w w1 [(w.heap.size,_)]:=Mem.nil.allocL (cs:=encX ⟨ofL wNum,n,d,ofL [],⟨none,0,0⟩⟩)
  clear_value w1
  have hbox:=m.row 0
  refine⟨_,hbox.at,qib od ⟨_,hbox.at,?_⟩⟩
  have ee:decide (ofL wNum=str [110,117,109])=true:=od
  rw[ee,q1c]
  refine⟨n,hbox.at,d,hbox.at,qdt hs.1 hs.2 hn64 (g.fr m.1) fun w2 hf2=>⟨fi ?_⟩⟩
  rw[decide_eq_false oo,q0x]
  exact hK _ (m.1.t hf2)
 | name s =>
  intro c k w0 w K hx hf g hs hp hk hK
  obtain⟨rfl,hs20⟩:=hx
  refine z7b_mk (fi ?_)
  intro w1
  have m:Mem w w1 [(w.heap.size,_)]:=Mem.nil.allocL (cs:=encX ⟨ofL q1w,0,0,ofL s,⟨none,0,0⟩⟩)
  clear_value w1
  have hbox:=m.row 0
  refine⟨_,hbox.at,qib od ⟨_,hbox.at,?_⟩⟩
  have ee:decide (ofL q1w=str [110,117,109])=false:=od
  have ee':decide (ofL q1w=str [110,97,109,101])=true:=od
  rw[ee,ee',q1c,q0x]
  refine⟨_,hbox.at,⟨fi ?_⟩⟩
  rw[decide_eq_false oo,q0x]
  exact hK _ m.1
 | op o a b iha ihb =>
  intro c k w0 w K hx hf g hs hp hk hK
  obtain⟨ca,cb,⟨h1,h2,h3,h4⟩,hv,hxa,hxb⟩:=hx
  obtain⟨op,n,d,nm,sa⟩:=c
  simp only at h1 h2 h3 h4 hv
  subst h1 h2 h3 h4
  have hs':=hs
  unfold Fm.four at hs
  simp only[Jh,decide_eq_true_eq]at hs
  obtain⟨ho2,hsa,hsb⟩:=hs
  have la:=shw_len a (lev o) hsa
  have lb:=shw_len b (lev o+1) hsb
  simp only[Fm.parts]at hp
  have hpa:=q2m a
  have hpb:=q2m b
  have ho3:=qts o
  refine z7b_mk (fi ?_)
  intro w1
  have m:Mem w w1 [(w.heap.size,_)]:=Mem.nil.allocL (cs:=encX ⟨ofL (opB o),0,0,ofL [],sa⟩)
  clear_value w1
  have hbox:=m.row 0
  refine⟨_,hbox.at,qpw o ⟨_,hbox.at,?_⟩⟩
  rw[qji o,q8q o,qpo o,qpp o,q0x,q0x]
  have k0:z7b_k0 (k:Int) ⟨w.heap.size,0,none⟩ (lev o:Nat) K w1:=by
   refine⟨fi ?_⟩
   simp -zeta only[q04,Je]
   intro w2
   have m2:Mem w w2 _:=m.drew
   clear_value w2
   have hF02:Fr F0 w0 w2:=hf.t m2.1
   have hb2:=m2.row 0
   have hbS:∀ {v:World},Fr F0 w2 v->Row v w.heap.size _:=fun h=>h.row hb2 fun h=>h
   have e32:str [32]=ofL [32]:=od
   rw[e32]
   refine⟨fun v=>Fr F0 w2 v,Fr.refl,sa,fun v h=>(hbS h).at rfl,?_⟩
   refine qdu (hv.fr hF02) 0 rfl og ⟨ofL (opB o),fun v h=>(hbS h).at rfl,sa,fun v h=>(hbS h).at rfl,?_⟩
   refine qdu (hv.fr hF02) 1 rfl og ⟨q01,?_⟩
   refine iha hxa hF02 (g.fr m2.1) hsa oo oo fun w3 hf3=>⟨hf3,?_⟩
   simp only[ofL_app,q0u]
   refine⟨by unfold maxI;simp;omega,by unfold maxI;simp;omega,by unfold maxI;simp;omega,ihb (k:=lev o+1) hxb (hF02.t hf3) ((g.fr m2.1).fr hf3) hsb oo oo fun w4 hf4=>⟨hf3.t hf4,?_⟩⟩
   rw[q0u,ofL_app]
   refine⟨by unfold maxI;simp;omega,⟨fi ?_⟩⟩
   have hk4:=hK w4 (m2.1.t (hf3.t hf4))
   unfold Fm.shw parB at hk4
   rw[qtt]
   rw[show a.shw (lev o)++[32]++opS o++[32]++b.shw (lev o+1)=a.shw (lev o)++(32::(opS o++(32::b.shw (lev o+1)))) by simp]
   rw[qtt]at ho3
   refine q00.2 ⟨fun hlt=>?_,fun hge=>?_⟩
   ·rw[if_pos (decide_eq_true oo)]at hk4
    have e40:str [40]=ofL [40]:=od
    have e41:str [41]=ofL [41]:=od
    rw[e40,e41,ofL_app,q0u,q0u,q0u,q0u,ofL_app]
    refine⟨by unfold maxI;simp;omega,by unfold maxI;simp;omega,?_⟩
    grind
   ·grind
  exact four6 k0 o ho2
structure FR(e:Fm):Prop where
 four:e.four=true
 parts:e.parts<=60
 depth:e.depth<=12
theorem q6z:∀ {e:Fm},e.four=true->e.sound=true
 | .num n d,h=>by unfold Fm.four at h;simp only[Jh]at h;exact h.1
 | .name s,h=>h
 | .op o a b,h=>by
  unfold Fm.four at h
  simp only[Jh]at h
  unfold Fm.sound
  rw[q6z h.2.1,q6z h.2.2]
  rfl
theorem FR.right{e:Fm}(h:FR e):e.right=true:=by
 unfold Fm.right
 rw[q6z h.four,decide_eq_true h.parts,decide_eq_true h.depth]
 rfl
theorem q3p{e:Fm}{c:XC}{K:ByteArray->World->Prop}(hx:XP w e c)(he:FR e)(g:GlT w)(hK:∀w',Fr F0 w w'->K (ofL (e.shw 0)) w'):z2f_sh c.op c.n c.d c.nm c.a K w:=by
 refine⟨fi ?_⟩
 intro w1
 have m:Mem w w1 [(w.heap.size,_)]:=Mem.nil.allocL (cs:=encX c)
 clear_value w1
 intro w2
 have m:Mem w w2 _:=m.allocL (cs:=[.int .i64 0])
 clear_value w2
 refine⟨m.wr 0,?_⟩
 intro w3
 have m:Mem w w3 _:=m.set 0
 clear_value w3
 have hbox:=m.row 1
 have hpb:=m.row 0
 have hne:w.heap.size≠w1.heap.size:=by
  have h3:=m.2.2.1
  grind
 have hge:w.heap.size<=w1.heap.size:=m.2.2.2 (w1.heap.size,[.int .i64 0]) og
 refine⟨_,hbox.at,_,hbox.at,_,hbox.at,_,hbox.at,c.a,hbox.at,?_⟩
 refine q6x e (deep:=12) (k:=0) hx m.1 hge hpb oo oo fun w4 hf4 _=>?_
 rw[qm9,he.right]
 have hbox4:=hf4.row hbox hne
 have hF4:Fr F0 w w4:=m.1.nb hf4 fun b h=>h▸hge
 rw[Bool.not_true,q0x]
 refine⟨_,hbox4.at,_,hbox4.at,_,hbox4.at,_,hbox4.at,c.a,hbox4.at,?_⟩
 exact qmh e (k:=0) hx hF4 (g.fr hF4) he.four (by have:=he.parts;omega) oo fun w5 hf5=>hK w5 (hF4.t hf5)
theorem shw_ne:∀(e:Fm) (k:Nat),e.four=true->e.shw k≠[]
 | .num n d,_,_=>by unfold Fm.shw decB;intro h;exact q3z _ (List.append_eq_nil_iff.1 h).1
 | .name s,_,h=>by
  unfold Fm.shw
  intro e
  subst e
  exact absurd h od
 | .op o a b,k,_=>by unfold Fm.shw parB;split<;>simp
theorem q5k{e:Fm}{c:XC}{K:Bool->World->Prop}(hx:XP w e c)(he:FR e)(g:GlT w)(hK:∀w',Fr F0 w w'->K true w'):z66_sh c.op c.n c.d c.nm c.a K w:=by
 refine⟨fi ?_⟩
 intro w1
 have m:Mem w w1 [(w.heap.size,_)]:=Mem.nil.allocL (cs:=encX c)
 clear_value w1
 have hbox:=m.row 0
 refine⟨_,hbox.at,_,hbox.at,_,hbox.at,_,hbox.at,c.a,hbox.at,?_⟩
 refine q3p (hx.fr m.1) he (g.fr m.1) fun w7 f7=>?_
 rw[show decide (ofL (e.shw 0)=str [])=false by
  rw[show str []=ofL []from rfl,q0c]
  exact decide_eq_false (shw_ne e 0 he.four)]
 exact hK w7 (m.1.t f7)
end
end Go.Proofs.YtmfkimnmklnppaaGreatDoor
namespace Dp
open Go Pw
def nm1(m:List B):Fm->List B
 | .name s=>addB m s
 | _=>m
def nmA:List B->Fm->List B
 | m,.num _ _=>m
 | m,.name s=>addB m s
 | m,.op _ a b=>nmA (nmA m a) b
theorem qmi:∀ {e:Fm} {m:List B} {x:B},x∈nmA m e ↔ x∈m\/x∈e.names
 | .num _ _,_,_=>by simp[nmA,Fm.names]
 | .name s,_,_=>by simp[nmA,Fm.names,qpf]
 | .op _ a b,_,_=>by simp only[nmA,Fm.names,qmi,List.mem_append,or_assoc]
theorem qpx(m:List B)(s:B):(addB m s).length<=m.length+1:=by unfold addB;split<;>simp
theorem q70:∀(e:Fm) (m:List B),(nmA m e).length<=m.length+e.parts
 | .num _ _,m=>by simp[nmA]
 | .name s,m=>by simpa [nmA,Fm.parts]using qpx m s
 | .op _ a b,m=>by
  have h1:=q70 a m
  have h2:=q70 b (nmA m a)
  simp only[nmA,Fm.parts]
  omega
end Dp
namespace Go.Proofs.YtmfkimnmklnppaaGreatDoor
open Go Pw Dp
theorem q5l{l:Nat}{vs:List Value}{w:World}{K:VW}(h:Yl Tryz.prog l vs.toArray w K):q0y Tryz.prog (.func (.yield l) #[] #[]) vs w K:=by
 unfold q0y
 simpa using h
theorem Fr.put{F:Nat->Prop}{w:World}{l:Nat}{o:Obj}(h:F l):Fr F w (w.putObj l o):=
 ⟨og,fun c _ hn=>World.putObj_heap_other fun he=>hn (he▸h),rfl,rfl,rfl⟩
structure NI(w0 w:World)(ob l fn d:Nat)(tmps:Array Value)(s:Sl)(m:List B):Prop where
 fr0:Fr F0 w0 w
 row:Row w ob [.slice s.p s.l s.c]
 ow:Ow 1 encB w s m
 nw:∀b,inB s b->w0.heap.size<=b/\b≠ob/\b≠l
 lp:w.heap[l]?=some (lrec fn tmps z63_ps0 z63_as0 z63_bd0 d .ready none)
structure NS(ob l:Nat)(w:World)(s:Sl)(w':World)(s':Sl):Prop where
 fr:Fr (fun b=>b=ob\/b=l\/inB s b) w w'
 nw:∀b,inB s' b->inB s b\/w.heap.size<=b
section
variable{w0 w w' w2:World}{ob l fn d:Nat}{tmps:Array Value}{s s' s2:Sl}{m:List B}
theorem NS.t(h:NS ob l w s w' s')(h':NS ob l w' s' w2 s2):NS ob l w s w2 s2:=
 ⟨h.fr.trans h'.fr fun b hb hlt=>by
  rcases hb with hb|hb|hb
  ·exact .inl hb
  ·exact .inr (.inl hb)
  ·rcases h.nw b hb with h|h
   ·exact .inr (.inr h)
   ·omega,fun b hb=>by
  rcases h'.nw b hb with h1|h1
  ·exact h.nw b h1
  ·exact .inr (Jd h.fr.1 h1)⟩
theorem NS.row{b:Nat}{cs:List Value}(h:NS ob l w s w' s')(hr:Row w b cs)(h1:b≠ob)(h2:b≠l)(h3:¬inB s b):Row w' b cs/\¬inB s' b:=
 ⟨h.fr.row hr oz,fun hb=>by
  rcases h.nw b hb with h|h
  ·exact h3 h
  ·have:=hr.lt;omega⟩
theorem NI.fr(h:NI w0 w ob l fn d tmps s m)(hf:Fr F0 w w'):NI w0 w' ob l fn d tmps s m:=
 ⟨h.fr0.t hf,hf.row h.row fun h=>h,h.ow.fr hf,h.nw,by rw[hf.2.1 l (Jj.1 h.lp).1 fun h=>h];exact h.lp⟩
theorem NS.of(hf:Fr F0 w w'):NS ob l w s w' s:=⟨hf.f0,fun _ h=>.inl h⟩
theorem qtu(e:Fm):(∃n,e=.name n)\/((∀m,nm1 m e=m)/\∀ {w:World} {c:XC},XP w e c->decide (c.op=str [110,97,109,101])=false):=by
 cases e with
 | num n d =>
  refine .inr ⟨fun _=>rfl,fun {w c} h=>?_⟩
  obtain⟨rfl,_⟩:=h
  show decide (ofL wNum=_)=false
  decide
 | name n=>grind
 | op o a b =>
  refine .inr ⟨fun _=>rfl,fun {w c} h=>?_⟩
  obtain⟨ca,cb,⟨h1,_⟩,_⟩:=h
  rw[h1]
  exact q8q o
theorem qpy{e:Fm}{c:XC}{t9:Value}{K':VW}(hx:XP w0 e c)(h:NI w0 w ob l fn d tmps s m)(hob:w0.heap.size<=ob)(hl:w0.heap.size<=l)(hne:ob≠l)(hm:m.length<=2^40)
  (hag:agrT 27 [(2,(Value.slice none 0 0)),(3,(Value.pointer (some ⟨ob,0,none⟩))),(9,t9)] tmps)
  (hK:∀w' s',NI w0 w' ob l fn d tmps s' (nm1 m e)->NS ob l w s w' s'->K' (.bool true) w') :
  Yl Tryz.prog l #[.agg #[.string c.op,.int .i64 c.n,.int .i64 c.d,.string c.nm,.slice c.a.p c.a.l c.a.c]] w K':=by
 obtain⟨op,n,dd,nm,ap,al,ac⟩:=c
 refine z63_y0 hag h.lp ⟨fi ?_⟩
 refine q1u (vs:=encX ⟨op,n,dd,nm,⟨ap,al,ac⟩⟩) rfl Mem.nil fun w1 m1=>?_
 have h1:=h.fr m1.1
 have hobl:=h.row.lt
 have hll:l<w.heap.size:=(Jj.1 h.lp).1
 refine⟨h1.lp,?_⟩
 have hp:Fr (fun b=>b=l) w1 (w1.putObj l (lrec fn tmps z63_ps0 z63_as0 z63_bd0 d .busy none)):=Fr.put rfl
 have hlb:(w1.putObj l (lrec fn tmps z63_ps0 z63_as0 z63_bd0 d .busy none)).heap[l]?=some (lrec fn tmps z63_ps0 z63_as0 z63_bd0 d .busy none):=
  World.putObj_heap_same (Jc hll m1.1.1)
 generalize w1.putObj l (lrec fn tmps z63_ps0 z63_as0 z63_bd0 d .busy none)=w2 at *
 have hbox:=hp.row (m1.row 0) oo
 have hrow:=hp.row h1.row hne
 have how:Ow 1 encB w2 s m:=h1.ow.frF hp fun b hb e=>(h1.nw b hb).2.2 e
 have hF2:Fr (fun b=>b=ob\/b=l\/inB s b) w w2:=m1.1.f0.trans hp fun b hb _=>.inr (.inl hb)
 have hsz:=hF2.1
 have fin:∀(w3:World) (s3:Sl) (m3:List B),w2.heap.size<=w3.heap.size->w3.heap[l]?=some (lrec fn tmps z63_ps0 z63_as0 z63_bd0 d .busy none)->Row w3 ob [.slice s3.p s3.l s3.c]->Ow 1 encB w3 s3 m3->(∀b,inB s3 b->inB s b\/w2.heap.size<=b) ->
   Fr (fun b=>b=ob\/b=l\/inB s b) w w3->m3=nm1 m e->rN l fn tmps z63_ps0 z63_as0 z63_bd0 d K' w3:=fun w3 s3 m3 hs3 hl3 hr3 ho3 hi3 hf3 e3=>by
  have hp3:Fr (fun b=>b=l) w3 (w3.putObj l (lrec fn tmps z63_ps0 z63_as0 z63_bd0 d .ready none)):=Fr.put rfl
  have hi:∀b,inB s3 b->inB s b\/w.heap.size<=b:=fun b hb=>(hi3 b hb).imp id fun h=>Jd hsz h
  have hfall:=hf3.trans hp3 fun b hb _=>.inr (.inl hb)
  have hnb:∀b,inB s3 b->w0.heap.size<=b/\b≠ob/\b≠l:=fun b hb=>by
   rcases hi b hb with h'|h'
   ·exact h.nw b h'
   ·omega
  refine⟨hl3,hK _ s3 ⟨h.fr0.nb hfall fun b hb=>?_,hp3.row hr3 hne,?_,hnb,World.putObj_heap_same oo⟩ ⟨hfall,hi⟩⟩
  ·rcases hb with rfl|rfl|hb
   ·exact hob
   ·exact hl
   ·exact(h.nw b hb).1
  ·rw[←e3]
   exact ho3.frF hp3 fun b hb e=>(hnb b hb).2.2 e
 refine⟨_,hbox.at,?_⟩
 rcases qtu e with⟨nn,rfl⟩|⟨hn1,hn2⟩
 ·obtain⟨hxe,h20⟩:=hx
  cases hxe
  have ee:decide (ofL q1w=str [110,97,109,101])=true:=od
  rw[ee,q1c]
  refine⟨s,hrow.at,ofL nn,hbox.at,q1s how.vw oo ?_⟩
  cases hc:decide (nn∈m)with
  | true =>
   refine fin w2 s m (Jf _) hlb hrow how (fun b hb=>.inl hb) hF2 ?_
   simp only[nm1,addB]
   grind
  | false =>
   refine⟨s,hrow.at,ofL nn,hbox.at,?_⟩
   intro w3
   have hf3:Fr F0 w2 w3:=Fr.alloc
   have hx3:Vw 1 encB w3 ⟨some ⟨w2.heap.size,0,none⟩,1,1⟩ [nn]:=Vw.new rfl rfl
   clear_value w3
   refine(how.fr hf3).app hx3 qbj rfl oy oy fun s4 w4 ho4 hf4 hi4=>?_
   have hnb4:¬inB s ob:=fun hb=>(h.nw ob hb).2.1 rfl
   have hnl4:¬inB s l:=fun hb=>(h.nw l hb).2.2 rfl
   have hr4:=hf4.row (hf3.row hrow fun h=>h) hnb4
   refine⟨hr4.wr og,?_⟩
   intro w5
   have hr5:Row w5 ob _:=hr4.set 0 (.slice s4.p s4.l s4.c)
   have hf5:Fr (fun b=>b=ob) w4 w5:=Fr.set rfl
   have hl5:w5.heap[l]?=some (lrec fn tmps z63_ps0 z63_as0 z63_bd0 d .busy none):=by
    have hl2:l<w2.heap.size:=oo
    have hl3:l<w3.heap.size:=Jc hl2 hf3.1
    rw[hf5.2.1 l (Jc hl3 hf4.1) (Ne.symm hne),hf4.2.1 l hl3 hnl4,hf3.2.1 l hl2 fun h=>h]
    exact hlb
   have hi5:∀b,inB s4 b->inB s b\/w2.heap.size<=b:=fun b hb=>(hi4 b hb).imp id fun h=>Jd hf3.1 h
   have ho5:Ow 1 encB w5 s4 (m++[nn]):=ho4.frF hf5 fun b hb e=>oz
   clear_value w5
   refine fin w5 s4 _ (Jd hf3.1 (Jd hf4.1 hf5.1)) hl5 hr5 ho5 hi5 (((hF2.tF hf3).trans hf4 fun b hb _=>.inr (.inr hb)).trans hf5 fun b hb _=>.inl hb) ?_
   simp only[nm1,addB]
   grind
 ·rw[hn2 hx,q0x]
  grind
end
end Go.Proofs.YtmfkimnmklnppaaGreatDoor
namespace Pw
open Go
def encV(x:Dp.Vl):List Value:=[.string (ofL x.1),.int .i64 x.2]
@[simp] theorem q46(x:Dp.Vl):(encV x).length=2:=rfl
theorem qg1(x:Dp.Vl):∀v∈encV x,okC v=true:=by
 intro v hv
 simp only[encV,J6,J1,or_false]at hv
 rcases hv with rfl|rfl<;>rfl
def opF(o:Fin 6):Value:=.func (.func (match o with
 | 0=>198
 | 1=>199
 | 2=>200
 | 3=>201
 | 4=>202
 | 5=>204)) #[] #[]
def encO(o:Fin 6):List Value:=[.string (ofL (Dp.opB o)),opF o]
@[simp] theorem q8w(o:Fin 6):(encO o).length=2:=rfl
theorem qmj(o:Fin 6):okC (opF o)=true:=rfl
section
variable{w:World}{s:Sl}{i:Int}
theorem ldV{l:List Dp.Vl}{K:ByteArray->Int->Prop}(h:Vw 2 encV w s l)(i':Nat)(hi:i=(i':Int))(h1:i'<l.length)(hK:K (ofL l[i'].1) l[i'].2) :
  nz s.p fun a=>(0<=i/\i<(s.l:Nat))/\∃x:ByteArray,w.cell? (a.add (i.toNat*2))=some (Value.string x)/\∃y:Int,w.cell? ((a.add (i.toNat*2)).add 1)=some (Value.int .i64 y)/\K x y:=
 Vw.go q46 od h i' hi h1 fun _ hc=>⟨_,hc 0 _ rfl,_,hc 1 _ rfl,hK⟩
theorem ldO{l:List (Fin 6)}{K:ByteArray->Value->Prop}(h:Vw 2 encO w s l)(i':Nat)(hi:i=(i':Int))(h1:i'<l.length)(hK:K (ofL (Dp.opB l[i'])) (opF l[i'])) :
  nz s.p fun a=>(0<=i/\i<(s.l:Nat))/\∃x:ByteArray,w.cell? (a.add (i.toNat*2))=some (Value.string x)/\∃y:Value,w.cell? ((a.add (i.toNat*2)).add 1)=some y/\K x y:=
 Vw.go q8w od h i' hi h1 fun _ hc=>⟨_,hc 0 _ rfl,_,hc 1 _ rfl,hK⟩
end
end Pw
namespace Go.Proofs.YtmfkimnmklnppaaGreatDoor
open Go Pw Dp
section
variable{w w' w0:World}{s:Sl}
theorem q08{X Y:Prop}(h:X):cnd true X Y:=h
theorem q0h{X Y:Prop}(h:Y):cnd false X Y:=h
theorem q4q{l:List Vl}{f:Value}{p:Vl->Bool}{K:Int->World->Prop}(hv:Vw 2 encV w s l)(hl:l.length<2^62)(hp:∀x∈l,Dcs F0 f w [.agg #[.string (ofL x.1),.int .i64 x.2]] (p x))(hK:∀r w',Fr F0 w w'->Ix p l r->K r w'):z09_sh s f K w:=by
 have el:=hv.len
 refine⟨fi ?_⟩
 refine⟨⟨fun i u=>∃i':Nat,i=i'/\i'<=l.length/\Fr F0 w u/\∀j (h:j<l.length),j<i'->p l[j]=false,fun i _=>l.length-i.toNat,⟨0,rfl,oo,Fr.refl,fun j _ h=>oo⟩,?_⟩⟩
 rintro i u ⟨i,rfl,hi,hf,hb⟩
 refine fi ?_
 refine q00.2 ⟨fun hlt=>?_,fun hge=>?_⟩
 ·have hil:i<l.length:=oo
  refine ldV (hv.fr hf) i rfl hil (hp _ (J2 hil) u _ hf fun u' hf'=>⟨_,rfl,?_⟩)
  have hF:=hf.t hf'
  refine q09.2 ⟨fun h=>hK _ _ hF (.inr ⟨i,hil,rfl,h,fun j hj=>hb j oo hj⟩),fun h=>⟨q01,⟨⟨rfl,rfl,rfl,trivial⟩,i+1,oo,oo,hF,fun j hjl hj=>?_⟩,uo⟩⟩
  grind
 ·refine hK _ _ hf (.inl ⟨rfl,fun x hx=>?_⟩)
  obtain⟨j,hj,rfl⟩:=J7.1 hx
  grind
theorem q8x{l:List (Fin 6)}{f:Value}{p:(Fin 6)->Bool}{K:Int->World->Prop}(hv:Vw 2 encO w s l)(hl:l.length<2^62)(hp:∀x∈l,Dcs F0 f w [.agg #[.string (ofL (opB x)),opF x]] (p x))(hK:∀r w',Fr F0 w w'->Ix p l r->K r w'):z01_sh s f K w:=by
 have el:=hv.len
 refine⟨fi ?_⟩
 refine⟨⟨fun i u=>∃i':Nat,i=i'/\i'<=l.length/\Fr F0 w u/\∀j (h:j<l.length),j<i'->p l[j]=false,fun i _=>l.length-i.toNat,⟨0,rfl,oo,Fr.refl,fun j _ h=>oo⟩,?_⟩⟩
 rintro i u ⟨i,rfl,hi,hf,hb⟩
 refine fi ?_
 refine q00.2 ⟨fun hlt=>?_,fun hge=>?_⟩
 ·have hil:i<l.length:=oo
  refine ldO (hv.fr hf) i rfl hil (hp _ (J2 hil) u _ hf fun u' hf'=>⟨_,rfl,?_⟩)
  have hF:=hf.t hf'
  refine q09.2 ⟨fun h=>hK _ _ hF (.inr ⟨i,hil,rfl,h,fun j hj=>hb j oo hj⟩),fun h=>⟨q01,⟨⟨rfl,rfl,rfl,trivial⟩,i+1,oo,oo,hF,fun j hjl hj=>?_⟩,uo⟩⟩
  grind
 ·refine hK _ _ hf (.inl ⟨rfl,fun x hx=>?_⟩)
  obtain⟨j,hj,rfl⟩:=J7.1 hx
  grind
theorem q3e{l:List Cr}{f:Value}{p:Cr->Bool}{K:Bool->World->Prop}(hv:Vw 5 encC w s l)(hl:l.length<2^62)(hp:∀x∈l,Dcs F0 f w [.agg #[.string (ofL x.name),.int .i64 x.kind,.int .i64 x.low,.int .i64 x.high,.bool x.less]] (p x))(hK:∀w',Fr F0 w w'->K (l.any p) w'):z00_sh s f K w:=
 ⟨q29 hv hl hp fun r w' hf hr=>by rw[hr.ge];exact hK w' hf⟩
theorem q1l{l:List (Int×Int)}{f:Value}{p:(Int×Int)->Bool}{K:Bool->World->Prop}(hv:Vw 2 encL w s l)(hl:l.length<2^62)(hp:∀x∈l,Dcs F0 f w [.agg #[.int .i64 x.1,.int .i64 x.2]] (p x))(hK:∀w',Fr F0 w w'->K (l.any p) w'):z05_sh s f K w:=
 ⟨q4j hv hl hp fun r w' hf hr=>by rw[hr.ge];exact hK w' hf⟩
theorem qdv{t:Bool}{a b c d:Int}{K:Int->Int->World->Prop}(hK:∀w',Fr F0 w w'->K (if t then a else c) (if t then b else d) w'):z6z_sh t a b c d K w:=by
 refine⟨fi ?_⟩
 intro w1 w2 w3
 have m:Mem w w3 [(w2.heap.size,[.int .i64 0,.int .i64 0]),(w1.heap.size,[.int .i64 c,.int .i64 d]),(w.heap.size,[.int .i64 a,.int .i64 b])]:=((Mem.nil.allocL (cs:=[.int .i64 a,.int .i64 b])).allocL (cs:=[.int .i64 c,.int .i64 d])).allocL (cs:=[.int .i64 0,.int .i64 0])
 clear_value w3 w2 w1
 cases t with
 | true =>
  refine q08 ⟨a,m.ld 2,b,m.ld 2,m.wr 0,?_⟩
  intro w6
  have m:=m.set (i:=0) (v:=.int .i64 a) 0
  refine⟨m.wr 0,?_⟩
  intro w7
  have m:=m.set (i:=1) (v:=.int .i64 b) 0
  exact⟨a,m.ld 0,b,m.ld 0,hK _ m.1⟩
 | false =>
  refine q0h ⟨c,m.ld 1,d,m.ld 1,m.wr 0,?_⟩
  intro w6
  have m:=m.set (i:=0) (v:=.int .i64 c) 0
  refine⟨m.wr 0,?_⟩
  intro w7
  have m:=m.set (i:=1) (v:=.int .i64 d) 0
  exact⟨c,m.ld 0,d,m.ld 0,hK _ m.1⟩
theorem qjn{n d n' d':Int}{K:Int->Int->Bool->World->Prop}(hn:I64 n)(hd:I64 d)(hn':I64 n')(hd':I64 d')(hK:∀w',Fr F0 w w'->K (if decide (cmpQ n d n' d'<=0)=true then n else n') (if decide (cmpQ n d n' d'<=0)=true then d else d') true w'):z5e_sh n d n' d' K w:=by
 refine⟨fi ?_⟩
 intro w1 w2 w3 w4
 have m:Mem w w4 [(w2.heap.size,[.int .i64 0,.int .i64 0]),(w1.heap.size,[.int .i64 n',.int .i64 d']),(w.heap.size,[.int .i64 n,.int .i64 d])]:=(((Mem.nil.allocL (cs:=[.int .i64 n,.int .i64 d])).allocL (cs:=[.int .i64 n',.int .i64 d'])).allocL (cs:=[.int .i64 0,.int .i64 0])).drew
 clear_value w4 w3 w2 w1
 refine⟨fun u=>Mem w u [(w2.heap.size,[.int .i64 0,.int .i64 0]),(w1.heap.size,[.int .i64 n',.int .i64 d']),(w.heap.size,[.int .i64 n,.int .i64 d])],m,_,fun u h=>h.ld 2,_,fun u h=>h.ld 2,_,fun u h=>h.ld 1,_,fun u h=>h.ld 1,_,fun u h=>h.ld 2,_,fun u h=>h.ld 2,_,fun u h=>h.ld 1,_,fun u h=>h.ld 1,?_⟩
 refine q40 hn hd hn' hd' fun w14 f14=>⟨m.fr f14,?_⟩
 refine qdv fun w16 f16=>?_
 have m:=(m.fr f14).fr f16
 refine⟨m,m.wr 0,?_⟩
 intro w18
 have m:=m.set (i:=0) (v:=.int .i64 (if decide (cmpQ n d n' d'<=0)=true then n else n')) 0
 refine⟨m.wr 0,?_⟩
 intro w19
 have m:=m.set (i:=1) (v:=.int .i64 (if decide (cmpQ n d n' d'<=0)=true then d else d')) 0
 exact⟨_,m.ld 0,_,m.ld 0,hK _ m.1⟩
theorem qjo{n d n' d':Int}{K:Int->Int->Bool->World->Prop}(hn:I64 n)(hd:I64 d)(hn':I64 n')(hd':I64 d')(hK:∀w',Fr F0 w w'->K (if decide (cmpQ n d n' d'>=0)=true then n else n') (if decide (cmpQ n d n' d'>=0)=true then d else d') true w'):z5f_sh n d n' d' K w:=by
 refine⟨fi ?_⟩
 intro w1 w2 w3 w4
 have m:Mem w w4 [(w2.heap.size,[.int .i64 0,.int .i64 0]),(w1.heap.size,[.int .i64 n',.int .i64 d']),(w.heap.size,[.int .i64 n,.int .i64 d])]:=(((Mem.nil.allocL (cs:=[.int .i64 n,.int .i64 d])).allocL (cs:=[.int .i64 n',.int .i64 d'])).allocL (cs:=[.int .i64 0,.int .i64 0])).drew
 clear_value w4 w3 w2 w1
 refine⟨fun u=>Mem w u [(w2.heap.size,[.int .i64 0,.int .i64 0]),(w1.heap.size,[.int .i64 n',.int .i64 d']),(w.heap.size,[.int .i64 n,.int .i64 d])],m,_,fun u h=>h.ld 2,_,fun u h=>h.ld 2,_,fun u h=>h.ld 1,_,fun u h=>h.ld 1,_,fun u h=>h.ld 2,_,fun u h=>h.ld 2,_,fun u h=>h.ld 1,_,fun u h=>h.ld 1,?_⟩
 refine q40 hn hd hn' hd' fun w14 f14=>⟨m.fr f14,?_⟩
 refine qdv fun w16 f16=>?_
 have m:=(m.fr f14).fr f16
 refine⟨m,m.wr 0,?_⟩
 intro w18
 have m:=m.set (i:=0) (v:=.int .i64 (if decide (cmpQ n d n' d'>=0)=true then n else n')) 0
 refine⟨m.wr 0,?_⟩
 intro w19
 have m:=m.set (i:=1) (v:=.int .i64 (if decide (cmpQ n d n' d'>=0)=true then d else d')) 0
 exact⟨_,m.ld 0,_,m.ld 0,hK _ m.1⟩
theorem qic{o:Fin 6}{a b:Int×Int}{K:VW}(ha:I64 a.1/\I64 a.2)(hb:I64 b.1/\I64 b.2)(hK:∀w',Fr F0 w w'->K (.tuple #[.agg #[.int .i64 (q4n o a b).n,.int .i64 (q4n o a b).d],.bool (q4n o a b).ok]) w') :
  q0y Tryz.prog (opF o) [.agg #[.int .i64 a.1,.int .i64 a.2],.agg #[.int .i64 b.1,.int .i64 b.2]] w K:=by
 match o with
 | 0=>exact q02 z71_ok (qpg (K:=kk [.u 2,.g 2,tI,tI,tB] K) ha.1 ha.2 hb.1 hb.2 fun w' f=>hK w' f)
 | 1=>exact q02 z75_ok (qpi (K:=kk [.u 2,.g 2,tI,tI,tB] K) ha.1 ha.2 hb.1 hb.2 fun w' f=>hK w' f)
 | 2=>exact q02 z73_ok (qph (K:=kk [.u 2,.g 2,tI,tI,tB] K) ha.1 ha.2 hb.1 hb.2 fun w' f=>hK w' f)
 | 3=>exact q02 z74_ok (qpj (K:=kk [.u 2,.g 2,tI,tI,tB] K) ha.1 ha.2 hb.1 hb.2 fun w' f=>hK w' f)
 | 4 =>
  refine q02 z5e_ok (qjn (K:=kk [.u 2,.g 2,tI,tI,tB] K) ha.1 ha.2 hb.1 hb.2 fun w' f=>?_)
  have:=hK w' f
  simp only[q4n]at this
  by_cases h:cmpQ a.1 a.2 b.1 b.2<=0
  ·rw[if_pos h]at this;rw[decide_eq_true h];exact this
  ·rw[if_neg h]at this;rw[decide_eq_false h];exact this
 | 5 =>
  refine q02 z5f_ok (qjo (K:=kk [.u 2,.g 2,tI,tI,tB] K) ha.1 ha.2 hb.1 hb.2 fun w' f=>?_)
  have:=hK w' f
  simp only[q4n]at this
  by_cases h:cmpQ a.1 a.2 b.1 b.2>=0
  ·rw[if_pos h]at this;rw[decide_eq_true h];exact this
  ·rw[if_neg h]at this;rw[decide_eq_false h];exact this
end
end Go.Proofs.YtmfkimnmklnppaaGreatDoor
namespace Dp
open Go Pw
def Fm.kids:Fm->List Fm
 | .num _ _=>[]
 | .name _=>[]
 | .op _ a b=>[a,b]
theorem qpz(e:Fm)(m:List B):nmA m e=nm1 (e.kids.foldl nmA m) e:=by cases e<;>rfl
theorem qjp:∀(e:Fm) (m:List B) (i:Nat),((e.kids.take i).foldl nmA m).length+1<=m.length+e.parts
 | .num _ _,m,i=>by simp[Fm.kids,Fm.parts]
 | .name _,m,i=>by simp[Fm.kids,Fm.parts]
 | .op _ a b,m,i=>by
  have h1:=q70 a m
  have h2:=q70 b (nmA m a)
  simp only[Fm.kids,Fm.parts]
  match i with
  | 0=>simp;omega
  | 1=>simp;omega
  | i+2=>simp;omega
theorem qtv:∀(e:Fm) (m:List B) (i:Nat) (h:i<e.kids.length),((e.kids.take i).foldl nmA m).length+e.kids[i].parts<=m.length+e.parts
 | .op _ a b,m,0,_=>by simp[Fm.kids,Fm.parts];omega
 | .op _ a b,m,1,_=>by
  have ha:=q70 a m
  simp[Fm.kids,Fm.parts]
  omega
 | .op _ a b,m,i+2,h=>absurd h (by simp[Fm.kids])
theorem qdw:∀(e k:Fm),k∈e.kids->k.parts<e.parts
 | .op _ a b,k,h=>by
  simp only[Fm.kids,J6,J1,or_false]at h
  simp only[Fm.parts]
  grind
end Dp
namespace Go.Proofs.YtmfkimnmklnppaaGreatDoor
open Go Pw Dp
theorem XP.kids{w:World}:∀ {e:Fm} {c:XC},XP w e c->∃cs:List XC,Vw 5 encX w c.a cs/\cs.length=e.kids.length/\∀i (h:i<cs.length) (h':i<e.kids.length),XP w e.kids[i] cs[i]
 | .num n d,c,h=>by
  obtain⟨rfl,_⟩:=h
  exact⟨[],Vw.nil,rfl,fun i h=>by simp at h⟩
 | .name s,c,h=>by
  obtain⟨rfl,_⟩:=h
  exact⟨[],Vw.nil,rfl,fun i h=>by simp at h⟩
 | .op o a b,c,h=>by
  obtain⟨ca,cb,_,hv,ha,hb⟩:=h
  refine⟨[ca,cb],hv,rfl,fun i h h'=>?_⟩
  match i with
  | 0=>exact ha
  | 1=>exact hb
def fnV(vb yb:Nat):Value:=.func (.func 252) #[] #[.pointer (some ⟨vb,0,none⟩),.pointer (some ⟨yb,0,none⟩)]
def fnY(l:Nat):Value:=.func (.yield l) #[] #[]
section
variable{w0 w w':World}{ob l fn d vb yb:Nat}{tmps:Array Value}{s s':Sl}{m:List B}{t9:Value}
def Vis(w0:World)(ob l fn d vb yb:Nat)(tmps:Array Value)(e:Fm):Prop:=
 ∀ {c:XC} {w:World} {s:Sl} {m:List B} {K:Bool->World->Prop},XP w0 e c->NI w0 w ob l fn d tmps s m->Row w vb [fnV vb yb]->Row w yb [fnY l]->¬inB s vb->¬inB s yb->m.length+e.parts<=2^40 ->
  (∀w' s',NI w0 w' ob l fn d tmps s' (nmA m e)->NS ob l w s w' s'->K true w')->z3r_sh c.op c.n c.d c.nm c.a ⟨vb,0,none⟩ ⟨yb,0,none⟩ K w
theorem q71{e:Fm}(hkids:∀k∈e.kids,Vis w0 ob l fn d vb yb tmps k)(hob:w0.heap.size<=ob)(hl:w0.heap.size<=l)(hne:ob≠l)(h1:vb≠ob/\vb≠l)(h2:yb≠ob/\yb≠l)
  (hag:agrT 27 [(2,(Value.slice none 0 0)),(3,(Value.pointer (some ⟨ob,0,none⟩))),(9,t9)] tmps):Vis w0 ob l fn d vb yb tmps e:=by
 intro c w s m K hx hI hv hy hsv hsy hm hK
 obtain⟨cs,hcv,hcl,hck⟩:=hx.kids
 have hea:c.a.l=e.kids.length:=by rw[hcv.len,hcl]
 refine⟨fi ?_⟩
 intro w1
 have m1:Mem w w1 [(w.heap.size,_)]:=Mem.nil.allocL (cs:=encX c)
 clear_value w1
 have hI1:=hI.fr m1.1
 have hbox:=m1.row 0
 have hobl:=hI.row.lt
 have hll:l<w.heap.size:=(Jj.1 hI.lp).1
 have hsb:¬inB s w.heap.size:=fun hb=>by have:=hI.ow.lt' hb;omega
 have hk2:e.kids.length<=2:=by cases e<;>simp[Fm.kids]
 refine⟨c.a,hbox.at,⟨⟨fun t u=>∃(i:Nat) (s':Sl),t=i/\i<=e.kids.length/\NI w0 u ob l fn d tmps s' ((e.kids.take i).foldl nmA m)/\NS ob l w1 s u s',fun t _=>e.kids.length-t.toNat,⟨0,s,rfl,oo,by simpa using hI1,NS.of Fr.refl⟩,?_⟩⟩⟩
 rintro t u ⟨i,s',rfl,hi,hIu,hSu⟩
 have hv1:=m1.1.row hv fun h=>h
 have hy1:=m1.1.row hy fun h=>h
 refine fi ?_
 obtain⟨hvu,hsv'⟩:=hSu.row hv1 h1.1 h1.2 hsv
 obtain⟨hyu,hsy'⟩:=hSu.row hy1 h2.1 h2.2 hsy
 refine q00.2 ⟨fun hlt=>?_,fun hge=>?_⟩
 ·have hil:i<e.kids.length:=oo
  refine ldX (hcv.fr hIu.fr0) i rfl oo ?_
  refine q1u (vs:=encX cs[i]) rfl Mem.nil fun w2 m2=>?_
  have hr2:=m2.row 0
  refine⟨fnV vb yb,(m2.1.row hvu fun h=>h).at rfl,_,hr2.at,_,hr2.at,_,hr2.at,_,hr2.at,cs[i].a,hr2.at,?_⟩
  refine q02 z3r_ok ?_
  have hacc:=qtv e m i hil
  refine hkids _ (J2 hil) (hck i oo hil) (hIu.fr m2.1) (m2.1.row hvu fun h=>h) (m2.1.row hyu fun h=>h) hsv' hsy' oo fun w3 s3 hI3 hS3=>⟨true,rfl,?_⟩
  refine⟨q01,⟨⟨rfl,rfl,rfl,rfl,rfl,trivial⟩,i+1,s3,oo,oo,?_,hSu.t ((NS.of m2.1).t hS3)⟩,uo⟩
  rw[List.take_add_one,J0 hil,List.foldl_append]
  exact hI3
 ·have hie:i=e.kids.length:=oo
  subst hie
  rw[J9]at hIu
  have hkl:=qjp e m e.kids.length
  rw[J9]at hkl
  obtain⟨hbu,_⟩:=hSu.row hbox oo oo hsb
  refine⟨fnY l,hyu.at,_,hbu.at,?_⟩
  simp only[q04,Je]
  refine⟨_,hbu.at,_,hbu.at,_,hbu.at,c.a,hbu.at,?_⟩
  refine q5l (qpy hx hIu hob hl hne oo hag fun w2 s2 hI2 hS2=>⟨true,rfl,?_⟩)
  refine hK w2 s2 ?_ (((NS.of m1.1).t hSu).t hS2)
  rw[qpz]
  exact hI2
theorem qjq(hob:w0.heap.size<=ob)(hl:w0.heap.size<=l)(hne:ob≠l)(h1:vb≠ob/\vb≠l)(h2:yb≠ob/\yb≠l)
  (hag:agrT 27 [(2,(Value.slice none 0 0)),(3,(Value.pointer (some ⟨ob,0,none⟩))),(9,t9)] tmps):∀e:Fm,Vis w0 ob l fn d vb yb tmps e:=by
 intro e
 induction e with
 | num n d=>exact q71 (fun k hk=>by cases hk) hob hl hne h1 h2 hag
 | name s=>exact q71 (fun k hk=>by cases hk) hob hl hne h1 h2 hag
 | op o a b iha ihb =>
  refine q71 (fun k hk=>?_) hob hl hne h1 h2 hag
  simp only[Fm.kids,J6,J1,or_false]at hk
  grind
theorem qg2{e:Fm}{c:XC}{K:Sl->World->Prop}(hx:XP w e c)(he:FR e)(g:GlT w)(hK:∀w' r l,Mk w 1 encB w' r l->(∀x,x∈l ↔ x∈e.namesR)->l.length<=e.parts->K r w'):z63_sh c.op c.n c.d c.nm c.a K w:=by
 refine⟨fi ?_⟩
 intro w1
 have m1:Mem w w1 [(w.heap.size,_)]:=Mem.nil.allocL (cs:=encX c)
 clear_value w1
 have hbox:=m1.row 0
 refine⟨_,hbox.at,_,hbox.at,_,hbox.at,_,hbox.at,c.a,hbox.at,?_⟩
 refine q5k (hx.fr m1.1) he (g.fr m1.1) fun w7 hf7=>?_
 have hp:=he.parts
 have hr:=he.right
 have hF7:=m1.1.t hf7
 refine q0h ?_
 intro w9
 have m9:Mem w7 w9 [(w7.heap.size,_)]:=Mem.nil.allocL (cs:=[.slice none 0 0])
 clear_value w9
 have hF9:=hF7.t m9.1
 have hb9:=(hf7.t m9.1).row hbox fun h=>h
 refine⟨_,hb9.at,_,hb9.at,_,hb9.at,_,hb9.at,c.a,hb9.at,⟨fi ?_⟩⟩
 intro w15
 have m15:Mem w7 w15 [(w9.heap.size,_),(w7.heap.size,_)]:=m9.allocL (cs:=encX c)
 clear_value w15
 refine⟨fi ?_⟩
 refine⟨⟨_,_,_,rfl⟩,fun fn tmps hag=>?_⟩
 have hd:Fr F0 w15 (w15.alloc (.deferred (some []))):=Fr.alloc
 have hdD:(w15.alloc (.deferred (some []))).heap[w15.heap.size]?=some (.deferred (some [])):=by show(w15.heap.push _)[w15.heap.size]?=_;simp
 have hds:(w15.alloc (.deferred (some []))).heap.size=w15.heap.size+1:=ud
 generalize w15.alloc (.deferred (some []))=wd at *
 have hl:Fr F0 wd (wd.alloc (lrec fn tmps z63_ps0 z63_as0 z63_bd0 w15.heap.size .ready none)):=Fr.alloc
 have hlL:(wd.alloc (lrec fn tmps z63_ps0 z63_as0 z63_bd0 w15.heap.size .ready none)).heap[wd.heap.size]?=some (lrec fn tmps z63_ps0 z63_as0 z63_bd0 w15.heap.size .ready none):=by
  show(wd.heap.push _)[wd.heap.size]?=_;simp
 have hls:(wd.alloc (lrec fn tmps z63_ps0 z63_as0 z63_bd0 w15.heap.size .ready none)).heap.size=wd.heap.size+1:=ud
 generalize wd.alloc (lrec fn tmps z63_ps0 z63_as0 z63_bd0 w15.heap.size .ready none)=wl at *
 rw[hds]at hlL hls
 refine q02 z4n_ok ⟨fi ?_⟩
 intro w16
 have m16:Mem wl w16 [(wl.heap.size,[fnY (w15.heap.size+1)])]:=Mem.nil.allocL (cs:=[fnY (w15.heap.size+1)])
 clear_value w16
 intro w17
 have m17:Mem wl w17 [(w16.heap.size,[.nilFunc]),(wl.heap.size,[fnY (w15.heap.size+1)])]:=m16.allocL (cs:=[.nilFunc])
 clear_value w17
 refine⟨m17.wr 0,?_⟩
 intro w18
 have m18:Mem wl w18 [(w16.heap.size,[fnV w16.heap.size wl.heap.size]),(wl.heap.size,[fnY (w15.heap.size+1)])]:=m17.set (v:=fnV w16.heap.size wl.heap.size) 0
 clear_value w18
 have hF15:Fr F0 w w15:=hF7.t m15.1
 have hF18:Fr F0 w15 w18:=(hd.t hl).t m18.1
 have hb15:=hF18.row (m15.row 0) fun h=>h
 have ho15:=hF18.row (m15.row 1) fun h=>h
 have z1:=m15.1.1
 have z2:=hF7.1
 have z3:=(m15.row 1).lt
 have z4:=m16.1.1
 have z5:w16.heap.size≠wl.heap.size:=by
  have h3:=m18.2.2.1
  grind
 refine⟨_,m18.ld 0,_,hb15.at,?_⟩
 simp -zeta only[q04,Je]
 refine⟨_,hb15.at,_,hb15.at,_,hb15.at,c.a,hb15.at,?_⟩
 refine q02 z3r_ok ?_
 have hNI:NI w w18 w7.heap.size (w15.heap.size+1) fn w15.heap.size tmps ⟨none,0,0⟩ []:=by
  refine⟨hF15.t hF18,ho15,⟨rfl,by simpa using OwnV.nil⟩,(fun b ⟨a,ha,_⟩=>by cases ha),?_⟩
  rw[m18.1.2.1 _ oo fun h=>h]
  exact hlL
 refine qjq (w0:=w) oo oo oo ⟨oo,oo⟩ ⟨oo,oo⟩ hag e hx hNI (m18.row 0) (m18.row 1) (fun⟨a,ha,_⟩=>by cases ha) (fun⟨a,ha,_⟩=>by cases ha) oy fun w19 s19 hI19 hS19=>?_
 refine⟨true,rfl,.inl ⟨hI19.lp,?_⟩⟩
 have hp1:Fr (fun b=>b=w15.heap.size+1) w19 (w19.putObj (w15.heap.size+1) (lrec fn tmps z63_ps0 z63_as0 z63_bd0 w15.heap.size .exhausted none)):=Fr.put rfl
 generalize w19.putObj (w15.heap.size+1) (lrec fn tmps z63_ps0 z63_as0 z63_bd0 w15.heap.size .exhausted none)=w20 at *
 refine⟨s19,(hp1.row hI19.row oo).at rfl,?_,?_⟩
 ·have z6:=hF18.1
  have z8:=m18.1.1
  have z7:=hS19.fr.1
  rw[hp1.2.1 w15.heap.size oo oo,hS19.fr.2.1 w15.heap.size oo (by rintro(h|h|⟨a,ha,_⟩);omega;omega;cases ha),m18.1.2.1 w15.heap.size oo fun h=>h,hl.2.1 w15.heap.size oo fun h=>h]
  exact hdD
 ·intro w21
  have hp2:Fr (fun b=>b=w15.heap.size) w20 w21:=Fr.put rfl
  clear_value w21
  have hnd:∀b,inB s19 b->b≠w15.heap.size:=fun b hb e=>by
   rcases hS19.nw b hb with⟨a,ha,_⟩|h'
   ·cases ha
   ·have:=hF18.1
    have:=(m15.row 0).lt
    have:=m18.1.1
    omega
  refine hK w21 s19 (nmA [] e) ⟨(hI19.fr0.nb hp1 fun b hb=>oo).nb hp2 fun b hb=>oo,?_,fun b hb=>(hI19.nw b hb).1⟩ (fun x=>?_) (by simpa using q70 e [])
  ·exact(hI19.ow.frF hp1 fun b hb e=>(hI19.nw b hb).2.2 e).frF hp2 fun b hb e=>hnd b hb e
  ·rw[qmi]
   unfold Fm.namesR
   grind
end
end Go.Proofs.YtmfkimnmklnppaaGreatDoor
namespace Pw
open Go
theorem Vw.lt{α:Type}{n:Nat}{enc:α->List Value}{w:World}{s:Sl}{l:List α}(h:Vw n enc w s l)(hn:∀a,(enc a).length=n)(hn0:0<n)(hl:l≠[]):∀b,inB s b->b<w.heap.size:=by
 intro b ⟨a,ha,hb⟩
 cases l with
 | nil=>grind
 | cons x l =>
  obtain⟨ad,hp,hc⟩:=h.at hn (i:=0) (a:=x) rfl hn0
  rw[ha]at hp
  cases hp
  subst hb
  have hv:=hc 0 _ (J0 oz)
  unfold World.cell? at hv
  rw[q3k,q3k]at hv
  grind
theorem Row.ow{α:Type}{n:Nat}{enc:α->List Value}{w:World}{b:Nat}{l:List α}(hn:∀a,(enc a).length=n)(h:Row w b (l.flatMap enc)):Ow n enc w ⟨some ⟨b,0,none⟩,l.length,l.length⟩ l:=by
 refine⟨rfl,?_,.inr ⟨b,_,rfl,h,?_,Jf _,?_⟩⟩
 ·simp[q1d hn]
 ·rw[q1d hn]
 ·grind
abbrev Pt:=(Nat->Prop)×(World->Prop)
structure Sx(w0 w:World)(L:List Pt):Prop where
 fr0:Fr F0 w0 w
 rs:∀(i:Nat) (p:Pt),L[i]?=some p->q0b p.1 p.2
 hd:∀(i:Nat) (p:Pt),L[i]?=some p->p.2 w
 nw:∀(i:Nat) (p:Pt),L[i]?=some p->∀b,p.1 b->w0.heap.size<=b/\b<w.heap.size
 dj:∀(i j:Nat) (p q:Pt),i≠j->L[i]?=some p->L[j]?=some q->∀b,p.1 b->¬q.1 b
theorem q0b.row(b:Nat)(cs:List Value):q0b (fun c=>c=b) (fun w=>Row w b cs):=fun _ _ he h=>h.congr (he b rfl)
section
variable{w0 w w':World}{L:List Pt}{p q:Pt}
theorem Sx.nil(h:Fr F0 w0 w):Sx w0 w []:=
 ⟨h,fun _ _ h=>(by cases h),fun _ _ h=>(by cases h),fun _ _ h=>(by cases h),fun _ _ _ _ _ h=>(by cases h)⟩
theorem Sx.get(h:Sx w0 w L)(i:Nat)(hi:L[i]?=some p):p.2 w:=h.hd i p hi
theorem Sx.fr(h:Sx w0 w L)(hf:Fr F0 w w'):Sx w0 w' L:=
 ⟨h.fr0.trans hf fun _ h _=>h,h.rs,fun i p hi=>h.rs i p hi w w' (fun b hb=>hf.2.1 b (h.nw i p hi b hb).2 fun h=>h) (h.hd i p hi),
  fun i p hi b hb=>⟨(h.nw i p hi b hb).1,Jc (h.nw i p hi b hb).2 hf.1⟩,h.dj⟩
theorem Sx.upd(h:Sx w0 w L)(j:Nat)(hj:L[j]?=some p)(hf:Fr p.1 w w')(hr:q0b q.1 q.2)(hq:q.2 w')(hn:∀b,q.1 b->p.1 b\/w.heap.size<=b/\b<w'.heap.size):Sx w0 w' (L.set j q):=by
 have hjl:j<L.length:=(J4.1 hj).1
 have cases':∀i r,(L.set j q)[i]?=some r->(i=j/\r=q)\/(i≠j/\L[i]?=some r):=fun i r hi=>oz
 have z0:=h.fr0.1
 have z1:=hf.1
 refine⟨h.fr0.trans hf fun b hb hlt=>absurd (h.nw j p hj b hb).1 oo,fun i r hi=>?_,fun i r hi=>?_,fun i r hi b hb=>?_,fun i k r s hne hi hk b hb hb'=>?_⟩
 ·rcases cases' i r hi with⟨_,rfl⟩|⟨_,hi⟩
  ·exact hr
  ·exact h.rs i r hi
 ·rcases cases' i r hi with⟨_,rfl⟩|⟨e,hi⟩
  ·exact hq
  ·exact h.rs i r hi w w' (fun b hb=>hf.2.1 b (h.nw i r hi b hb).2 fun hp=>h.dj i j r p e hi hj b hb hp) (h.hd i r hi)
 ·rcases cases' i r hi with⟨_,rfl⟩|⟨_,hi⟩
  ·rcases hn b hb with hp|hp
   ·have:=h.nw j p hj b hp
    omega
   ·omega
  ·have:=h.nw i r hi b hb
   omega
 ·rcases cases' i r hi with⟨ei,er⟩|⟨ei,hi'⟩<;>rcases cases' k s hk with⟨ek,es⟩|⟨ek,hk'⟩
  ·omega
  ·rw[er]at hb
   rcases hn b hb with hp|hp
   ·exact h.dj j k p s (fun e=>ek e.symm) hj hk' b hp hb'
   ·have:=h.nw k s hk' b hb'
    omega
  ·rw[es]at hb'
   rcases hn b hb' with hp|hp
   ·exact h.dj i j r p ei hi' hj b hb hp
   ·have:=h.nw i r hi' b hb
    omega
  ·exact h.dj i k r s hne hi' hk' b hb hb'
theorem Sx.add(h:Sx w0 w L)(hf:Fr F0 w w')(hr:q0b q.1 q.2)(hq:q.2 w')(hn:∀b,q.1 b->w.heap.size<=b/\b<w'.heap.size):Sx w0 w' (q::L):=by
 have h':=h.fr hf
 have z0:=h.fr0.1
 refine⟨h'.fr0,fun i r hi=>?_,fun i r hi=>?_,fun i r hi b hb=>?_,fun i k r s hne hi hk b hb hb'=>?_⟩
 ·cases i with
  | zero=>grind
  | succ i=>exact h'.rs i r hi
 ·cases i with
  | zero=>grind
  | succ i=>exact h'.hd i r hi
 ·cases i with
  | zero=>grind
  | succ i=>exact h'.nw i r hi b hb
 ·cases i with
  | zero =>
   cases hi
   cases k with
   | zero=>exact hne rfl
   | succ k=>have:=hn b hb;have:=h.nw k s hk b hb';omega
  | succ i =>
   cases k with
   | zero=>cases hk;have:=hn b hb';have:=h.nw i r hi b hb;omega
   | succ k=>exact h'.dj i k r s (fun e=>hne (by rw[e])) hi hk b hb hb'
theorem Sx.sub(h:Sx w0 w L)(f:Nat->Nat)(hf:∀i j,f i=f j->i=j){M:List Pt}(hM:∀(i:Nat) (p:Pt),M[i]?=some p->L[f i]?=some p):Sx w0 w M:=
 ⟨h.fr0,fun i p hi=>h.rs _ p (hM i p hi),fun i p hi=>h.hd _ p (hM i p hi),fun i p hi=>h.nw _ p (hM i p hi),fun i j p q hne hi hj=>h.dj _ _ p q (fun e=>hne (hf i j e)) (hM i p hi) (hM j q hj)⟩
theorem Sx.tail(h:Sx w0 w (p::L)):Sx w0 w L:=h.sub (·+1) (fun i j e=>oo) fun _ _ h=>h
theorem Sx.row{cs:List Value}{e:TypeId}(h:Sx w0 w L):Sx w0 (w.alloc (Obj.cells cs.toArray e)) ((fun c=>c=w.heap.size,fun u=>Row u w.heap.size cs)::L):=
 h.add Fr.alloc (q0b.row _ _) Row.new fun b hb=>ud
theorem Sx.set{b:Nat}{cs:List Value}{i:Nat}{v:Value}(h:Sx w0 w L)(j:Nat)(hj:L[j]?=some (fun c=>c=b,fun u=>Row u b cs)) :
  Sx w0 (w.setCell ⟨b,i,none⟩ v) (L.set j (fun c=>c=b,fun u=>Row u b (cs.set i v))):=
 h.upd j hj (Fr.set rfl) (q0b.row _ _) ((h.get j hj).set i v) fun _ hb=>.inl hb
theorem Sx.ld{b:Nat}{cs:List Value}{i:Nat}{v:Value}(h:Sx w0 w L)(j:Nat)(hj:L[j]?=some (fun c=>c=b,fun u=>Row u b cs))(hv:cs[i]?=some v):w.cell? ⟨b,i,none⟩=some v:=(h.get j hj:Row w b cs).at hv
theorem Sx.wr{b:Nat}{cs:List Value}{i:Nat}(h:Sx w0 w L)(j:Nat)(hj:L[j]?=some (fun c=>c=b,fun u=>Row u b cs))(hi:Nat.blt i cs.length=true):wrOk w ⟨b,i,none⟩:=(h.get j hj:Row w b cs).wr (Nat.blt_eq▸hi)
theorem Sx.app{α:Type}{n bytes:Nat}{enc:α->List Value}{zero:List Value}{e:Nat}{s x:Sl}{l m:List α}{K:SW}(h:Sx w0 w L)(j:Nat)(hj:L[j]?=some (inB s,fun u=>Ow n enc u s l))(hx:Vw n enc w x m)(hok:∀a,∀v∈enc a,okC v=true)(hz:zero.length=n)
  (hb:(l.length+m.length)*bytes<=2^47) (hm:l.length+m.length<2^63)
  (hK:∀r w',Sx w0 w' (L.set j (inB r,fun u=>Ow n enc u r (l++m)))->Fr (inB s) w w'->K r w'):apS n bytes zero e s x w K:=
 (h.get j hj:Ow n enc w s l).app hx hok hz hb hm fun r w' ho hf hi=>hK r w' (h.upd j hj hf (q0b.ow _ _) ho fun b hb=>(hi b hb).imp id fun h=>⟨h,ho.lt' hb⟩) hf
end
section
variable{w0 w w':World}{L:List Pt}{p q r:Pt}
theorem Sx.join(h:Sx w0 w (L++[q]))(i:Nat)(hi:L[i]?=some p)(hr:q0b r.1 r.2)(hd:p.2 w->q.2 w->r.2 w)(hn:∀b,r.1 b->p.1 b\/q.1 b):Sx w0 w (L.set i r):=by
 have il:i<L.length:=(J4.1 hi).1
 have hq:(L++[q])[L.length]?=some q:=og
 have up:∀(j:Nat) (s:Pt),L[j]?=some s->(L++[q])[j]?=some s:=fun j s hj=>oz
 have cs:∀(j:Nat) (s:Pt),(L.set i r)[j]?=some s->(j=i/\s=r)\/(j≠i/\L[j]?=some s/\j≠L.length):=fun j s hj=>oz
 refine⟨h.fr0,fun j s hj=>?_,fun j s hj=>?_,fun j s hj b hb=>?_,fun j k s t hne hj hk b hb hb'=>?_⟩
 ·rcases cs j s hj with⟨_,e⟩|⟨_,hj,_⟩
  ·rw[e];exact hr
  ·exact h.rs j s (up j s hj)
 ·rcases cs j s hj with⟨_,e⟩|⟨_,hj,_⟩
  ·rw[e];exact hd (h.hd i p (up i p hi)) (h.hd _ q hq)
  ·exact h.hd j s (up j s hj)
 ·rcases cs j s hj with⟨_,e⟩|⟨_,hj,_⟩
  ·rw[e]at hb
   rcases hn b hb with hb|hb
   ·exact h.nw i p (up i p hi) b hb
   ·exact h.nw _ q hq b hb
  ·exact h.nw j s (up j s hj) b hb
 ·rcases cs j s hj with⟨ej,es⟩|⟨ej,hj',zj⟩<;>rcases cs k t hk with⟨ek,et⟩|⟨ek,hk',zk⟩
  ·omega
  ·rw[es]at hb
   rcases hn b hb with hb|hb
   ·exact h.dj i k p t (fun e=>ek e.symm) (up i p hi) (up k t hk') b hb hb'
   ·exact h.dj _ k q t (fun e=>zk e.symm) hq (up k t hk') b hb hb'
  ·rw[et]at hb'
   rcases hn b hb' with hb'|hb'
   ·exact h.dj j i s p ej (up j s hj') (up i p hi) b hb hb'
   ·exact h.dj j _ s q zj (up j s hj') hq b hb hb'
  ·exact h.dj j k s t hne (up j s hj') (up k t hk') b hb hb'
end
section
variable{w0 w w':World}{A B:List Pt}{q:Pt}
theorem Sx.ins(h:Sx w0 w (A++B))(hf:Fr F0 w w')(hr:q0b q.1 q.2)(hq:q.2 w')(hn:∀b,q.1 b->w.heap.size<=b/\b<w'.heap.size):Sx w0 w' (A++q::B):=by
 refine(h.add hf hr hq hn).sub (fun i=>if i<A.length then i+1 else if i=A.length then 0 else i) (fun i j e=>?_) fun i p hi=>?_
 ·grind
 ·rcases Jg i A.length with hl|hl
  ·grind
  ·grind
theorem Sx.del(h:Sx w0 w (A++q::B)):Sx w0 w (A++B):=by
 refine h.sub (fun i=>if i<A.length then i else i+1) (fun i j e=>?_) fun i p hi=>?_
 ·grind
 ·grind
end
theorem qmk{b o:Nat}{K:World->Prop}:∀(vs:List Value) (i:Nat) (w:World) (cs:List Value),Row w b cs->o+i+vs.length<=cs.length ->
  (∀w',Fr (fun c=>c=b) w w'->Row w' b (q2e cs (o+i) vs)->K w')->stN.go ⟨b,o,none⟩ K vs i w
 | [],i,w,cs,hr,_,hK=>hK w Fr.refl (by rw[qa6];exact hr)
 | v::vs,i,w,cs,hr,hl,hK=>by
  rw[Ja]at hl
  unfold stN.go
  rw[q04]
  refine⟨hr.wr oo,?_⟩
  refine qmk vs (i+1) _ (cs.set (o+i) v) (hr.set (o+i) v) oy fun w' f hr'=>hK w' ((Fr.set (F:=fun c=>c=b) rfl).trans f fun _ h _=>h) ?_
  rw[←q8f cs (o+i) v vs oo]
  exact hr'
theorem q13{w:World}{b o:Nat}{cs vs:List Value}{K:World->Prop}(hr:Row w b cs)(ho:o+vs.length<=cs.length)(hK:∀w',Fr (fun c=>c=b) w w'->Row w' b (q2e cs o vs)->K w'):stN w ⟨b,o,none⟩ vs K:=
 qmk vs 0 w cs hr oo hK
section
variable{w0 w:World}{A B:List Pt}{p q r:Pt}
theorem Sx.joinM(h:Sx w0 w (A++q::B))(i:Nat)(hi:(A++B)[i]?=some p)(hr:q0b r.1 r.2)(hd:p.2 w->q.2 w->r.2 w)(hn:∀b,r.1 b->p.1 b\/q.1 b):Sx w0 w ((A++B).set i r):=by
 refine Sx.join (q:=q) (h.sub (fun i=>if i<A.length then i else if i<A.length+B.length then i+1 else if i=A.length+B.length then A.length else i) (fun i j e=>?_) fun j s hj=>?_) i hi hr hd hn
 ·grind
 ·rcases Jg j A.length with hl|hl
  ·grind
  ·rw[if_neg oo]
   rw[List.append_assoc,List.getElem?_append_right hl]at hj
   grind
end
end Pw
namespace Go.Proofs.YtmfkimnmklnppaaGreatDoor
open Go Pw Dp
def q4r(t:B×Int):List Value:=[.string (ofL t.1),.int .i64 t.2]
@[simp] theorem encTk_length(t:B×Int):(q4r t).length=2:=rfl
theorem qid(t:B×Int):∀v∈q4r t,okC v=true:=by
 intro v hv
 simp only[q4r,J6,J1,or_false]at hv
 rcases hv with rfl|rfl<;>rfl
theorem nz_i{a:Addr}{K:Addr->Prop}(h:K a):nz (some a) K:=h
def scC(ts:Sl)(k:Nat)(rest:List Value):List Value:=.slice ts.p ts.l ts.c :: .int .i64 (k:Int)::rest
structure Sc(w:World)(b:Nat)(ts:Sl)(k:Nat)(rest:List Value)(T:List (B×Int)):Prop where
 row:Row w b (scC ts k rest)
 tk:Vw 2 q4r w ts T
 ne:¬inB ts b
section
variable{w w' w0:World}{b k:Nat}{ts:Sl}{rest:List Value}{T:List (B×Int)}
theorem Sc.fr(h:Sc w b ts k rest T)(f:Fr F0 w w'):Sc w' b ts k rest T:=⟨f.row h.row fun h=>h,h.tk.fr f,h.ne⟩
theorem q0v{K:ByteArray->Int->World->Prop}(h:Sc w b ts k rest T)(hk:k<T.length)(hK:∀w',Fr F0 w w'->K (ofL T[k].1) T[k].2 w'):z2o_sh (some ⟨b,0,none⟩) K w:=by
 refine⟨fi ?_⟩
 intro w1
 have m:Mem w w1 [(w.heap.size,[.string (str []),.int .i64 0])]:=Mem.nil.allocL (cs:=[.string (str []),.int .i64 0])
 clear_value w1
 intro w2
 have m:Mem w w2 _:=m.drew
 clear_value w2
 have h:=h.fr m.1
 obtain⟨ad,hp,hc⟩:=h.tk.at encTk_length (J0 hk) od
 have hl:=h.tk.len
 refine⟨fun u=>u=w2,rfl,nz_i ⟨ts,fun u hu=>by rw[hu];exact h.row.at (i:=0) rfl,nz_i ⟨k,fun u hu=>by rw[hu];exact h.row.at (i:=1) rfl,?_⟩⟩⟩
 rw[hp]
 refine nz_i ⟨⟨oo,oo⟩,ofL T[k].1,fun u hu=>by rw[hu];exact hc 0 _ rfl,T[k].2,fun u hu=>by rw[hu];exact hc 1 _ rfl,m.wr 0,?_⟩
 intro w11
 have m:=m.set (i:=0) (v:=.string (ofL T[k].1)) 0
 refine⟨m.wr 0,?_⟩
 intro w12
 have m:=m.set (i:=1) (v:=.int .i64 T[k].2) 0
 exact⟨_,m.ld 0,_,m.ld 0,hK _ m.1⟩
theorem q0q{K:World->Prop}{e:Int}{p:Option Addr}(hK:K w):z2n_sh p true e K w:=⟨hK⟩
theorem q1g{K:ByteArray->Int->World->Prop}(h:Sc w b ts k rest T)(hk:k<T.length)(hl:T.length<2^62)(hK:∀w',Fr (fun c=>c=b) w w'->Sc w' b ts (k+1) rest T->K (ofL T[k].1) T[k].2 w'):z2p_sh (some ⟨b,0,none⟩) K w:=by
 refine⟨fi ?_⟩
 intro w1
 have m:Mem w w1 [(w.heap.size,[.string (str []),.int .i64 0])]:=Mem.nil.allocL (cs:=[.string (str []),.int .i64 0])
 clear_value w1
 refine q0v (h.fr m.1) hk fun w2 f2=>?_
 have m:=m.fr f2
 intro w4
 have m:=m.allocL (cs:=[.string (str []),.int .i64 0]) (e:=171)
 refine⟨m.wr 0,?_⟩
 intro w5
 have m:=m.set (i:=0) (v:=.string (ofL T[k].1)) 0
 refine⟨m.wr 0,?_⟩
 intro w6
 have m:Mem w w6 [(w2.heap.size,[.string (ofL T[k].1),.int .i64 T[k].2]),_]:=m.set (i:=1) (v:=.int .i64 T[k].2) 0
 clear_value w6 w5 w4
 have h6:=h.fr m.1
 have hb:=h.row.lt
 have n0:=m.2.2.2 _ (J8 ..)
 have n1:=m.2.2.2 _ (List.mem_cons_of_mem _ (J8 ..))
 have r6:=h6.row
 refine nz_i ⟨k,r6.at (i:=1) rfl,q01,nz_i ⟨r6.wr (i:=1) (by simp[scC]),?_⟩⟩
 intro w10
 have r10:Row w10 b (scC ts (k+1) rest):=r6.set 1 (.int .i64 ((k:Int)+1))
 have f10:Fr (fun c=>c=b) w6 w10:=Fr.set rfl
 have q0:=f10.row (m.row 0) oo
 have q1:=f10.row (m.row 1) oo
 clear_value w10
 have t10:=h6.tk.frF f10 fun c hc e=>h.ne (e▸hc)
 refine⟨_,q0.at,_,q0.at,q1.wr og,?_⟩
 intro w13
 have q1:=q1.set 0 (.string (ofL T[k].1))
 have g1:Fr (fun c=>c=w.heap.size) w10 w13:=Fr.set rfl
 refine⟨q1.wr og,?_⟩
 intro w14
 have q1:=q1.set 1 (.int .i64 T[k].2)
 have g2:Fr (fun c=>c=w.heap.size) w10 w14:=g1.trans (Fr.set (F:=fun c=>c=w.heap.size) rfl) fun _ h _=>h
 have z:=m.1.1
 have F:Fr (fun c=>c=b) w w14:=(m.1.f0.trans f10 fun _ h _=>h).trans g2 fun c hc hlt=>oo
 refine⟨_,q1.at,_,q1.at,hK _ F ⟨g2.row r10 oo,t10.frF g2 fun c hc e=>?_,h.ne⟩⟩
 have h0:=h.tk.lt encTk_length od oz c hc
 omega
end
end Go.Proofs.YtmfkimnmklnppaaGreatDoor
namespace Dp
open Go Pw
def numB(s:B):Prop:=s≠[]/\s.all q17=true/\(s=[48]\/s[0]?≠some 48)
theorem qml:∀u:Nat,u≠0->(Lib.decDigits u)[0]?≠some 48:=by
 intro u
 induction u using Nat.strongRecOn with
 | ind u ih =>
  intro hu h
  rw[Lib.decDigits]at h
  split at h
  ·rename_i h10
   simp only[J5,Option.some.injEq]at h
   have:=congrArg UInt8.toNat h
   rw[q1n h10]at this
   grind
  ·rename_i h10
   rw[List.getElem?_append_left (by have:=qi2 (u/10);exact J3.2 this)]at h
   grind
theorem qie{n:Int}(h:0<=n):numB (Lib.itoa n):=by
 refine⟨q3z n,List.all_eq_true.2 (q7w h),?_⟩
 unfold Lib.itoa
 rw[if_neg oo]
 by_cases h0:n.toNat=0
 ·rw[h0];exact .inl (by rw[Lib.decDigits];rfl)
 ·exact .inr (qml _ h0)
theorem qmm{p:UInt8->Bool}{l:B}(h:l.all p=true):l.takeWhile p=l:=by
 induction l with
 | nil=>rfl
 | cons a l ih=>simp_all
end Dp
namespace Go.Proofs.YtmfkimnmklnppaaGreatDoor
open Go Pw Dp
section
variable{w w' w0:World}{b k:Nat}{ts s:Sl}{rest:List Value}{T:List (B×Int)}
theorem q3q{l:B}{p:UInt8->Bool}{f:Value}{K:Int->World->Prop}{i:Nat}(hl:l.length<2^62)(hi:i<=l.length)
  (hf:∀(c:UInt8) (u:World) (K:VW),K (.bool (p c)) u->q0y Tryz.prog f [.int .u8 (c.toNat:Int)] u K) (hK:K ((i+((l.drop i).takeWhile p).length:Nat):Int) w):z7g_sh (ofL l) (i:Int) f K w:=by
 refine⟨fi ?_⟩
 refine⟨⟨fun j u=>∃j':Nat,j=j'/\j'<=l.length/\u=w/\i+((l.drop i).takeWhile p).length=j'+((l.drop j').takeWhile p).length,fun j _=>l.length-j.toNat,⟨i,rfl,hi,rfl,rfl⟩,?_⟩⟩
 rintro j u ⟨j,rfl,hj,rfl,he⟩
 refine fi ?_
 rw[q0u]
 refine q00.2 ⟨fun hlt=>⟨⟨oo,oo⟩,?_⟩,fun hge=>?_⟩
 ·have hjl:j<l.length:=oo
  have e:((ofL l).data.toList.getD (j:Int).toNat 0)=l[j]:=by
   show(bl (ofL l)).getD j 0=_
   simp_all
  rw[e]
  have ed:l.drop j=l[j]::l.drop (j+1):=List.drop_eq_getElem_cons hjl
  rw[ed,List.takeWhile_cons]at he
  refine hf _ _ _ ⟨_,rfl,q09.2 ⟨fun h=>?_,fun h=>?_⟩⟩
  ·rw[if_pos h,Ja]at he
   exact⟨q01,⟨⟨rfl,rfl,trivial⟩,j+1,oo,oo,rfl,oo⟩,uo⟩
  ·grind
 ·have:j=l.length:=oo
  simp_all
theorem q6b(c:UInt8)(u:World)(K:VW)(h:K (.bool (q17 c)) u):q0y Tryz.prog (.func (.func 273) #[] #[]) [.int .u8 (c.toNat:Int)] u K:=
 q02 z6n_ok (q26 (K:=fun b u=>K (.bool b) u) h)
theorem qq0(c:UInt8)(u:World)(K:VW)(h:K (.bool (q14 c)) u):q0y Tryz.prog (.func (.func 268) #[] #[]) [.int .u8 (c.toNat:Int)] u K:=
 q02 z5w_ok (q8p (K:=fun b u=>K (.bool b) u) h)
theorem q6c{l:B}{K:Bool->World->Prop}(h:numB l)(hl:l.length<2^62)(hK:K true w):z4d_sh (ofL l) K w:=by
 obtain⟨h1,h2,h3⟩:=h
 refine⟨fi ?_⟩
 rw[show decide (ofL l=str [])=false by rw[show str []=ofL []from rfl,q0c];exact decide_eq_false h1]
 refine q08 (q3q (i:=0) hl (Nat.zero_le _) q6b ?_)
 rw[List.drop_zero,qmm h2,q0u,show((((0+l.length:Nat):Int))==(l.length:Int))=true by simp]
 refine q08 ?_
 rw[show decide (ofL l=str [48])=decide (l=[48])from q0c l [48]]
 refine q00.2 ⟨fun _=>hK,fun h0=>⟨⟨oo,by have:=J3.2 h1;omega⟩,?_⟩⟩
 have h3:=h3.resolve_left h0
 cases l with
 | nil=>grind
 | cons c r =>
  have e:((ofL (c::r)).data.toList.getD (0:Int).toNat 0)=c:=by
   show(bl (ofL (c::r))).getD 0 0=_
   simp_all
  rw[e]
  have:(((c.toNat:Nat):Int) != 48)=true:=by
   rw[bne_iff_ne]
   intro hc
   refine h3 ?_
   rw[J5]
   congr 1
   exact UInt8.toNat_inj.1 oz
  grind
theorem qif{n:Int}{K:Int->Bool->World->Prop}(h0:0<=n)(h1:n<=1000000000)(hK:∀w',Fr F0 w w'->K n true w'):z60_sh (ofL (Lib.itoa n)) K w:=by
 refine⟨fi ?_⟩
 refine qm8 (by have:=q4l (n:=n) ⟨oo,oo⟩;omega) (qlw oo oo) fun w1 f1=>?_
 rw[qt5]
 simp_all
theorem q8y{l:B}{K:Bool->World->Prop}(h:q1e l=true)(hl:l.length<2^62)(hK:∀w',Fr F0 w w'->K true w'):z5y_sh (ofL l) K w:=by
 unfold q1e at h
 simp only[Jh,Ji,decide_eq_false_iff_not]at h
 obtain⟨h1,h2,h3⟩:=h
 have h4:=h1
 unfold q2k at h4
 simp only[Jh,Ji,decide_eq_false_iff_not]at h4
 refine⟨fi ?_⟩
 refine q41 hl ?_
 rw[h4.1]
 refine q08 ?_
 intro w3
 have hv:Vw 1 encB w3 ⟨some ⟨w.heap.size,0,none⟩,4,4⟩ [wPrice,wLow,wMin,wMax]:=(Row.ow (enc:=encB) (n:=1) (l:=[wPrice,wLow,wMin,wMax]) (fun _=>rfl) Row.new).vw
 have f:Fr F0 w w3:=Fr.alloc
 clear_value w3
 refine q1s hv od ?_
 grind
theorem q5m{n least:Int}{new:Value}{K:Int->World->Prop}(h:Sc w b ts k rest T)(hk:k<T.length)(hl:T.length<2^62)(ht:T[k].1=Lib.itoa n)(h0:0<=n)(hle:least<=n)(h1:n<=1000000000)
  (hnew:Dcs F0 new w [.int .i64 n] true) (hK:∀w',Fr (fun c=>c=b) w w'->Sc w' b ts (k+1) rest T->K n w'):z38_sh (some ⟨b,0,none⟩) least new K w:=by
 have il:=q4l (n:=n) ⟨oo,oo⟩
 refine⟨fi ?_⟩
 refine nz_i (q0v h hk fun w2 f2=>?_)
 rw[ht]
 intro w4
 have f4:Fr F0 w w4:=f2.t Fr.drew
 clear_value w4
 refine⟨fun _=>True,trivial,nz_i (q6c (qie h0) oo (q0q (qif h0 h1 fun w10 f10=>nz_i (q08 ?_))))⟩
 rw[decide_eq_true hle]
 refine q0q ⟨fi ?_⟩
 intro w16
 have f16:Fr F0 w w16:=(f4.t f10).t Fr.drew
 clear_value w16
 refine⟨fun _=>True,trivial,nz_i (hnew w16 _ f16 fun w20 f20=>⟨true,rfl,q0q (nz_i (q1g (h.fr (f16.t f20)) hk hl fun w24 f24 h24=>?_))⟩)⟩
 exact hK w24 ((f16.t f20).f0.trans f24 fun _ h _=>h) h24
theorem q1t{n:Int}{K:Int->World->Prop}(h:Sc w b ts k rest T)(hk:k<T.length)(hl:T.length<2^62)(ht:T[k].1=Lib.itoa n)(hn:inN 0 n)
  (hK:∀w',Fr (fun c=>c=b) w w'->Sc w' b ts (k+1) rest T->K n w'):z3n_sh (some ⟨b,0,none⟩) K w:=by
 refine⟨fi ?_⟩
 refine q5m h hk hl ht hn.1 hn.1 hn.2 (fun u K _ hK=>q02 z2j_ok ⟨?_⟩) hK
 exact hK u Fr.refl
theorem qbz{m:List B}{K:ByteArray->World->Prop}(h:Sc w b ts k rest T)(hk:k<T.length)(hl:T.length<2^62)(hv:Vw 1 encB w s m)(hm:m.length<2^62)(hi:T[k].1∈m)
  (hK:∀w',Fr (fun c=>c=b) w w'->Sc w' b ts (k+1) rest T->K (ofL T[k].1) w'):z4f_sh (some ⟨b,0,none⟩) s K w:=by
 refine⟨fi ?_⟩
 intro w1
 have f1:Fr F0 w w1:=Fr.drew
 clear_value w1
 refine⟨fun _=>True,trivial,nz_i (nz_i (q0v (h.fr f1) hk fun w5 f5=>q1s (hv.fr (f1.t f5)) hm ?_))⟩
 rw[decide_eq_true hi]
 refine q0q (nz_i (q1g (h.fr (f1.t f5)) hk hl fun w11 f11 h11=>?_))
 exact hK w11 ((f1.t f5).f0.trans f11 fun _ h _=>h) h11
theorem qdx{K:ByteArray->World->Prop}(h:Sc w b ts k rest T)(hk:k<T.length)(hw:q1e T[k].1=true)(hl:T[k].1.length<2^62)(hK:∀w',Fr F0 w w'->K (ofL T[k].1) w'):z40_sh (some ⟨b,0,none⟩) K w:=by
 refine⟨fi ?_⟩
 intro w1
 have f1:Fr F0 w w1:=Fr.drew
 clear_value w1
 refine⟨fun _=>True,trivial,nz_i (nz_i (q0v (h.fr f1) hk fun w5 f5=>q8y hw hl fun w7 f7=>q0q (nz_i (q0v (h.fr ((f1.t f5).t f7)) hk fun w11 f11=>?_))))⟩
 exact hK w11 (((f1.t f5).t f7).t f11)
end
theorem qc0(a:Int×Int):∀v∈encL a,okC v=true:=by intro v hv;simp[encL]at hv;rcases hv with rfl|rfl<;>rfl
theorem qmn(a:Cr):∀v∈encC a,okC v=true:=by intro v hv;simp[encC]at hv;rcases hv with rfl|rfl|rfl|rfl|rfl<;>rfl
theorem qmo(a:Rq):∀v∈encR a,okC v=true:=by intro v hv;simp[encR]at hv;rcases hv with rfl|rfl|rfl<;>rfl
theorem qtw(a:Sl):∀v∈encZ a,okC v=true:=by intro v hv;simp[encZ]at hv;subst hv;rfl
theorem q47(a:Int):∀v∈encI a,okC v=true:=by intro v hv;simp[encI]at hv;subst hv;rfl
def zB(Z:List Sl)(b:Nat):Prop:=∃z∈Z,inB z b
def IZ(u:World)(Z:List Sl)(L:List (List Int)):Prop:=Z.length=L.length/\∀i (h:i<Z.length) (h':i<L.length),Vw 1 encI u Z[i] L[i]
theorem IZ.rests(Z:List Sl)(L:List (List Int)):q0b (zB Z) (fun u=>IZ u Z L):=fun u u' he h=>⟨h.1,fun i hi hi'=>q0b.vw Z[i] L[i] u u' (fun b hb=>he b ⟨_,J2 hi,hb⟩) (h.2 i hi hi')⟩
def XW(P:Nat->Prop)(w:World):Fm->XC->Prop
 | .num n d,c=>c=⟨ofL wNum,n,d,ofL [],⟨none,0,0⟩⟩/\I64 n/\I64 d
 | .name s,c=>c=⟨ofL q1w,0,0,ofL s,⟨none,0,0⟩⟩/\s.length<=2^20
 | .op o a b,c=>∃ca cb i,(c.op=ofL (opB o)/\c.n=0/\c.d=0/\c.nm=ofL [])/\c.a=⟨some ⟨i,0,none⟩,2,2⟩/\Row w i ([ca,cb].flatMap encX)/\P i/\XW P w a ca/\XW P w b cb
section
variable{w w' w0:World}{P P':Nat->Prop}
theorem XW.xp:∀ {e:Fm} {c:XC},XW P w e c->XP w e c
 | .num _ _,_,h=>h
 | .name _,_,h=>h
 | .op _ _ _,c,⟨ca,cb,i,h1,h2,h3,_,h4,h5⟩=>⟨ca,cb,h1,by rw[h2];exact(Row.ow q1p h3).vw,h4.xp,h5.xp⟩
theorem XW.mono(hp:∀b,P b->P' b):∀ {e:Fm} {c:XC},XW P w e c->XW P' w e c
 | .num _ _,_,h=>h
 | .name _,_,h=>h
 | .op _ _ _,_,⟨ca,cb,i,h1,h2,h3,h4,h5,h6⟩=>⟨ca,cb,i,h1,h2,h3,hp i h4,h5.mono hp,h6.mono hp⟩
theorem XW.go(he:∀b,P b->w'.heap[b]?=w.heap[b]?):∀ {e:Fm} {c:XC},XW P w e c->XW P w' e c
 | .num _ _,_,h=>h
 | .name _,_,h=>h
 | .op _ _ _,_,⟨ca,cb,i,h1,h2,h3,h4,h5,h6⟩=>⟨ca,cb,i,h1,h2,h3.congr (he i h4),h4,h5.go he,h6.go he⟩
theorem XW.rests(e:Fm)(c:XC):q0b P (fun w=>XW P w e c):=fun _ _ he h=>h.go he
end
structure TSc(x:T43)(t:Td):Prop where
 name:x.f0=ofL t.name
 low:x.f4=t.low
 high:x.f5=t.high
 most:x.f12=t.most
 budget:x.f14=t.budget
 t1:x.f15=t.t1
 t2:x.f16=t.t2
 t3:x.f17=t.t3
 t4:x.f18=t.t4
 t5:x.f19=t.t5
def TPs(bt:Nat)(x:T43)(t:Td)(Z:List Sl)(F:Nat->Prop)(fl:Bool)(E:List Pt):List Pt:=
 (fun c=>c=bt,fun u=>Row u bt x.cs)::(inB x.f1,fun u=>Ow 2 encL u x.f1 t.lots)::(inB x.f2,fun u=>Ow 5 encC u x.f2 t.crit)::(inB x.f3,fun u=>Ow 3 encR u x.f3 t.reqs) ::
 (inB x.f11,fun u=>Ow 1 encB u x.f11 t.ties)::(inB x.f13,fun u=>Ow 1 encZ u x.f13 Z)::(zB Z,fun u=>IZ u Z t.combos)::(F,fun u=>fl=true->XW F u t.fm ⟨x.f6,x.f7,x.f8,x.f9,x.f10⟩)::E
def qg3(tx:ByteArray)(fm:Int)(bt:Nat):List Value:=[.string tx,.int .i64 fm,.pointer (some ⟨bt,0,none⟩)]
structure LS(w0 w:World)(b:Nat)(ts:Sl)(k:Nat)(tx:ByteArray)(fm:Int)(T:List (B×Int))(bt:Nat)(x:T43)(t:Td)(Z:List Sl)(F:Nat->Prop)(fl:Bool)(E:List Pt):Prop where
 sx:Sx w0 w ((fun c=>c=b,fun u=>Row u b (scC ts k (qg3 tx fm bt)))::(inB ts,fun u=>Vw 2 q4r u ts T)::TPs bt x t Z F fl E)
 sc:TSc x t
 tl:T.length<2^62
section
variable{w w' w0:World}{b k k' bt:Nat}{ts s:Sl}{tx:ByteArray}{fm:Int}{T:List (B×Int)}{x x':T43}{t t':Td}{Z:List Sl}{F:Nat->Prop}{fl:Bool}{E:List Pt}
theorem LS.sca(h:LS w0 w b ts k tx fm T bt x t Z F fl E):Sc w b ts k (qg3 tx fm bt) T:=
 ⟨h.sx.get 0 rfl,h.sx.get 1 rfl,fun hb=>h.sx.dj 0 1 _ _ od rfl rfl b rfl hb⟩
theorem LS.fr(h:LS w0 w b ts k tx fm T bt x t Z F fl E)(f:Fr F0 w w'):LS w0 w' b ts k tx fm T bt x t Z F fl E:=⟨h.sx.fr f,h.sc,h.tl⟩
theorem LS.step(h:LS w0 w b ts k tx fm T bt x t Z F fl E)(f:Fr (fun c=>c=b) w w')(h':Sc w' b ts k' (qg3 tx fm bt) T):LS w0 w' b ts k' tx fm T bt x t Z F fl E:=
 ⟨h.sx.upd (q:=(fun c=>c=b,fun u=>Row u b (scC ts k' (qg3 tx fm bt)))) 0 rfl f (q0b.row _ _) h'.row fun _ hb=>.inl hb,h.sc,h.tl⟩
theorem LS.ptr(h:LS w0 w b ts k tx fm T bt x t Z F fl E):w.cell? ⟨b,4,none⟩=some (.pointer (some ⟨bt,0,none⟩)):=h.sx.ld (i:=4) 0 rfl rfl
theorem LS.box(h:LS w0 w b ts k tx fm T bt x t Z F fl E):Row w bt x.cs:=h.sx.get 2 rfl
theorem LS.wr(h:LS w0 w b ts k tx fm T bt x t Z F fl E){i:Nat}(hi:Nat.blt i 20=true):wrOk w ⟨bt,i,none⟩:=h.sx.wr 2 rfl hi
theorem LS.put(h:LS w0 w b ts k tx fm T bt x t Z F fl E){i:Nat}{v:Value}(hx:x.cs.set i v=x'.cs)(e1:x'.f1=x.f1)(e2:x'.f2=x.f2)(e3:x'.f3=x.f3)(e4:x'.f11=x.f11)(e5:x'.f13=x.f13)
  (e6:(⟨x'.f6,x'.f7,x'.f8,x'.f9,x'.f10⟩:XC)=⟨x.f6,x.f7,x.f8,x.f9,x.f10⟩) (g1:t'.lots=t.lots) (g2:t'.crit=t.crit) (g3:t'.reqs=t.reqs) (g4:t'.ties=t.ties) (g5:t'.combos=t.combos) (g6:t'.fm=t.fm) (hs:TSc x' t') :
  LS w0 (w.setCell ⟨bt,i,none⟩ v) b ts k tx fm T bt x' t' Z F fl E:=by
 refine⟨?_,hs,h.tl⟩
 have:=h.sx.set (i:=i) (v:=v) 2 rfl
 unfold TPs at this ⊢
 grind
theorem qg4{n:B}{K:World->Prop}(h:LS w0 w b ts k tx fm T bt x t Z F fl E)(hk:k<T.length)(ht:T[k].1=n)(hn:q0w n=true)
  (hK:∀w' x',LS w0 w' b ts (k+1) tx fm T bt x' { t with name:=n } Z F fl E->K w'):z39_sh (some ⟨b,0,none⟩) K w:=by
 have hl:n.length<2^62:=by
  unfold q0w at hn
  grind
 subst ht
 refine⟨fi ?_⟩
 intro w1
 have h:LS w0 w1 b ts k tx fm T bt x t Z F fl E:=h.fr Fr.drew
 clear_value w1
 refine⟨fun _=>True,trivial,nz_i (nz_i (q0v h.sca hk fun w5 f5=>q41 hl ?_))⟩
 rw[hn]
 refine q0q ?_
 have h:=h.fr f5
 intro w10
 have h:LS w0 w10 b ts k tx fm T bt x t Z F fl E:=h.fr Fr.drew
 clear_value w10
 refine⟨fun u=>u.cell? ⟨b,4,none⟩=some (.pointer (some ⟨bt,0,none⟩)),h.ptr,nz_i ⟨_,fun u hu=>hu,nz_i (q1g h.sca hk h.tl fun w15 f15 h15=>?_)⟩⟩
 have h:=h.step f15 h15
 refine⟨h.ptr,nz_i ⟨h.wr rfl,?_⟩⟩
 exact hK _ { x with f0:=ofL T[k].1 } (h.put rfl rfl rfl rfl rfl rfl rfl rfl rfl rfl rfl rfl rfl { h.sc with name:=rfl })
theorem qmp{n:Int}{K:World->Prop}(h:LS w0 w b ts k tx fm T bt x t Z F fl E)(hk:k<T.length)(ht:T[k].1=Lib.itoa n)(hn:inN 0 n)
  (hK:∀w' x',LS w0 w' b ts (k+1) tx fm T bt x' { t with most:=n } Z F fl E->K w'):z3z_sh (some ⟨b,0,none⟩) K w:=by
 refine⟨fi ?_⟩
 intro w1
 have h:LS w0 w1 b ts k tx fm T bt x t Z F fl E:=h.fr Fr.drew
 clear_value w1
 refine⟨fun u=>u.cell? ⟨b,4,none⟩=some (.pointer (some ⟨bt,0,none⟩)),h.ptr,nz_i ⟨_,fun u hu=>hu,q1t h.sca hk h.tl ht hn fun w5 f5 h5=>?_⟩⟩
 have h:=h.step f5 h5
 refine⟨h.ptr,nz_i ⟨h.wr rfl,?_⟩⟩
 exact hK _ { x with f12:=n } (h.put rfl rfl rfl rfl rfl rfl rfl rfl rfl rfl rfl rfl rfl { h.sc with most:=rfl })
theorem qg5{n:Int}{K:World->Prop}(h:LS w0 w b ts k tx fm T bt x t Z F fl E)(hk:k<T.length)(ht:T[k].1=Lib.itoa n)(hn:inN 0 n)
  (hK:∀w' x',LS w0 w' b ts (k+1) tx fm T bt x' { t with budget:=n } Z F fl E->K w'):z37_sh (some ⟨b,0,none⟩) K w:=by
 refine⟨fi ?_⟩
 intro w1
 have h:LS w0 w1 b ts k tx fm T bt x t Z F fl E:=h.fr Fr.drew
 clear_value w1
 refine⟨fun u=>u.cell? ⟨b,4,none⟩=some (.pointer (some ⟨bt,0,none⟩)),h.ptr,nz_i ⟨_,fun u hu=>hu,q1t h.sca hk h.tl ht hn fun w5 f5 h5=>?_⟩⟩
 have h:=h.step f5 h5
 refine⟨h.ptr,nz_i ⟨h.wr rfl,?_⟩⟩
 exact hK _ { x with f14:=n } (h.put rfl rfl rfl rfl rfl rfl rfl rfl rfl rfl rfl rfl rfl { h.sc with budget:=rfl })
theorem qjr{n m:Int}{K:World->Prop}(h:LS w0 w b ts k tx fm T bt x t Z F fl E)(hk:k+1<T.length)(ht:T[k].1=Lib.itoa n)(ht':T[k+1].1=Lib.itoa m)(hn:inN 0 n)(hm:inN 0 m)
  (hK:∀w' x',LS w0 w' b ts (k+1+1) tx fm T bt x' { t with low:=n,high:=m } Z F fl E->K w'):z3o_sh (some ⟨b,0,none⟩) K w:=by
 refine⟨fi ?_⟩
 intro w1
 have h:LS w0 w1 b ts k tx fm T bt x t Z F fl E:=h.fr Fr.drew
 clear_value w1
 refine⟨fun u=>u.cell? ⟨b,4,none⟩=some (.pointer (some ⟨bt,0,none⟩)),h.ptr,nz_i ⟨_,fun u hu=>hu,nz_i ⟨_,fun u hu=>hu,q1t h.sca oo h.tl ht hn fun w7 f7 h7=>?_⟩⟩⟩
 have h:=h.step f7 h7
 refine⟨h.ptr,q1t h.sca hk h.tl ht' hm fun w9 f9 h9=>?_⟩
 have h:=h.step f9 h9
 refine⟨h.ptr,nz_i ⟨h.wr rfl,?_⟩⟩
 intro w12
 have h:LS w0 w12 b ts (k+1+1) tx fm T bt { x with f4:=n } { t with low:=n } Z F fl E:=h.put rfl rfl rfl rfl rfl rfl rfl rfl rfl rfl rfl rfl rfl { h.sc with low:=rfl }
 clear_value w12
 refine nz_i ⟨h.wr rfl,?_⟩
 exact hK _ { x with f4:=n,f5:=m } (h.put rfl rfl rfl rfl rfl rfl rfl rfl rfl rfl rfl rfl rfl { h.sc with high:=rfl })
end
end Go.Proofs.YtmfkimnmklnppaaGreatDoor
namespace Dp
theorem opB_eq:∀(i:Fin 6) (o:Fin 6),decide (opB i=opB o)=true->i=o:=od
theorem qq1:∀o:Fin 6,o∈([0,1,2,3,4,5]:List (Fin 6)):=od
theorem qmq:∀(i:Nat) (h:i<6),([0,1,2,3,4,5]:List (Fin 6))[i]'h=⟨i,h⟩
 | 0,_=>rfl
 | 1,_=>rfl
 | 2,_=>rfl
 | 3,_=>rfl
 | 4,_=>rfl
 | 5,_=>rfl
end Dp
namespace Go.Proofs.YtmfkimnmklnppaaGreatDoor
open Go Pw Dp
section
variable{w w' w0:World}{s:Sl}
theorem qjs{n m:B}{f:Value}{b:Nat}{K:Bool->World->Prop}(h:Row w b [.string (ofL m)])(hK:∀w',Fr F0 w w'->K (decide (n=m)) w'):z5g_sh (ofL n) f ⟨b,0,none⟩ K w:=by
 refine⟨fi ?_⟩
 intro w1
 have m1:Mem w w1 [(w.heap.size,[.string (ofL n),f])]:=Mem.nil.allocL (cs:=[.string (ofL n),f])
 clear_value w1
 refine⟨_,m1.ld 0,_,(m1.1.row h fun h=>h).at rfl,?_⟩
 rw[q0c]
 exact hK _ m1.1
theorem qaj{o:Fin 6}{K:ByteArray->Value->Bool->World->Prop}(hK:∀w',Fr F0 w w'->K (ofL (opB o)) (opF o) true w'):z6y_sh (ofL (opB o)) K w:=by
 refine⟨fi ?_⟩
 intro w1 w2 w3
 have m:Mem w w3 [(w2.heap.size,([0,1,2,3,4,5]:List (Fin 6)).flatMap encO),(w1.heap.size,[.string (str []),.nilFunc]),(w.heap.size,[.string (ofL (opB o))])]:=
  ((Mem.nil.allocL (cs:=[.string (ofL (opB o))])).allocL (cs:=[.string (str []),.nilFunc])).allocL (cs:=([0,1,2,3,4,5]:List (Fin 6)).flatMap encO)
 clear_value w3 w2 w1
 have hv:Vw 2 encO w3 ⟨some ⟨w2.heap.size,0,none⟩,6,6⟩ [0,1,2,3,4,5]:=(Row.ow q8w (l:=([0,1,2,3,4,5]:List (Fin 6))) (m.row 0)).vw
 refine q8x hv od (p:=fun x=>decide (opB x=opB o)) (fun x _=>fun u K hu hK=>q02 z5g_ok (qjs (K:=kk [tB] K) (hu.row (m.row 2) fun h=>h) hK)) fun r w4 f4 hr=>?_
 have m:=m.fr f4
 have hv:=hv.fr f4
 rcases hr with⟨_,h⟩|⟨i,hi,rfl,hp,_⟩
 ·have:=h o (qq1 o)
  simp at this
 ·have hi6:i<6:=hi
  rw[qmq i hi6]at hp
  have ho:=opB_eq _ _ hp
  refine q00.2 ⟨fun h=>oo,fun _=>?_⟩
  refine(ldO (K:=fun x11 x12=>wrOk w4 (Addr.mk w1.heap.size 0 none)/\_) hv i rfl hi ?_:nz (some (Addr.mk w2.heap.size 0 none)) _)
  rw[qmq i hi6,ho]
  refine⟨m.wr 1,?_⟩
  intro w13
  have m:=m.set (i:=0) (v:=.string (ofL (opB o))) 1
  refine qdc (qmj o) ⟨m.wr 1,?_⟩
  intro w14
  have m:=m.set (i:=1) (v:=opF o) 1
  exact⟨_,m.ld 1,_,m.ld 1,hK _ m.1⟩
theorem qig(q:Rat):I64 (fitQ q).n/\I64 (fitQ q).d:=by
 unfold fitQ
 split
 ·rename_i h
  exact⟨⟨h.1,h.2.1⟩,⟨by show(-9223372036854775808:Int)<=(q.den:Int);omega,by show(q.den:Int)<9223372036854775808;omega⟩⟩
 ·exact⟨⟨od,od⟩,⟨od,od⟩⟩
theorem qtx{o:Fin 6}{a b:Int×Int}(ha:I64 a.1/\I64 a.2)(hb:I64 b.1/\I64 b.2):I64 (q4n o a b).n/\I64 (q4n o a b).d:=by
 have hz:I64 zr.n/\I64 zr.d:=⟨⟨od,od⟩,⟨od,od⟩⟩
 unfold q4n
 split
 ·unfold addQ;split;exact qig _;exact hz
 ·unfold subQ;split;exact qig _;exact hz
 ·unfold mulQ;split;exact qig _;exact hz
 ·unfold quoQ;split;split;exact hz;exact qig _;exact hz
 ·grind
 ·grind
theorem appQ_I{o:Fin 6}{a b:Int×Int}(ha:I64 a.1/\I64 a.2)(hb:I64 b.1/\I64 b.2):I64 (appQ o a b).1.n/\I64 (appQ o a b).1.d:=by
 have hz:I64 0:=⟨od,od⟩
 unfold appQ
 split
 ·grind
 ·split
  ·exact qtx ha hb
  ·grind
theorem q6d{o:Fin 6}{a b:Int×Int}{bo ba bb bt:Nat}{K:Int->Int->Int->World->Prop}(ha:I64 a.1/\I64 a.2)(hb:I64 b.1/\I64 b.2)(hno:¬(o=3/\b.1=0))
  (m:Mem w0 w [(bt,[.int .i64 0,.int .i64 0]),(bb,[.int .i64 b.1,.int .i64 b.2]),(ba,[.int .i64 a.1,.int .i64 a.2]),(bo,encO o)])
  (hK:∀w',Fr F0 w0 w'->K (appQ o a b).1.n (appQ o a b).1.d (appQ o a b).2 w'):z0n_k0 ⟨bo,0,none⟩ ⟨ba,0,none⟩ ⟨bb,0,none⟩ ⟨bt,0,none⟩ K w:=by
 refine⟨fi ?_⟩
 simp -zeta only[q04]
 refine⟨_,m.ld 3,_,m.ld 2,_,m.ld 2,_,m.ld 1,_,m.ld 1,?_⟩
 refine qic ha hb fun w17 f17=>⟨_,_,_,rfl,?_⟩
 have m:=m.fr f17
 intro w22
 have m:Mem w0 w22 ((w17.heap.size,[.int .i64 0,.int .i64 0])::_):=m.allocL (cs:=[.int .i64 0,.int .i64 0])
 clear_value w22
 refine⟨m.wr 0,?_⟩
 intro w23
 have m:=m.set (i:=0) (v:=.int .i64 (q4n o a b).n) 0
 refine⟨m.wr 0,?_⟩
 intro w24
 have m:=m.set (i:=1) (v:=.int .i64 (q4n o a b).d) 0
 unfold appQ at hK
 rw[if_neg hno]at hK
 refine q09.2 ⟨fun h=>?_,fun h=>?_⟩
 ·rw[if_pos h]at hK
  refine⟨_,m.ld 0,_,m.ld 0,m.wr 1,?_⟩
  intro w27
  have m:=m.set (i:=0) (v:=.int .i64 (q4n o a b).n) 1
  refine⟨m.wr 1,?_⟩
  intro w28
  have m:=m.set (i:=1) (v:=.int .i64 (q4n o a b).d) 1
  exact⟨_,m.ld 1,_,m.ld 1,hK _ m.1⟩
 ·rw[if_neg (by rw[h];decide)]at hK
  refine⟨m.wr 1,?_⟩
  intro w31
  have m:=m.set (i:=0) (v:=.int .i64 0) 1
  refine⟨m.wr 1,?_⟩
  intro w32
  have m:=m.set (i:=1) (v:=.int .i64 0) 1
  exact⟨_,m.ld 1,_,m.ld 1,hK _ m.1⟩
theorem q72{o:Fin 6}{a b:Int×Int}{K:Int->Int->Int->World->Prop}(ha:I64 a.1/\I64 a.2)(hb:I64 b.1/\I64 b.2)(hK:∀w',Fr F0 w w'->K (appQ o a b).1.n (appQ o a b).1.d (appQ o a b).2 w') :
  z0n_sh (ofL (opB o)) (opF o) a.1 a.2 b.1 b.2 K w:=by
 refine⟨fi ?_⟩
 intro w1 w2 w3 w4
 have m:Mem w w4 [(w3.heap.size,[.int .i64 0,.int .i64 0]),(w2.heap.size,[.int .i64 b.1,.int .i64 b.2]),(w1.heap.size,[.int .i64 a.1,.int .i64 a.2]),(w.heap.size,encO o)]:=
  (((Mem.nil.allocL (cs:=encO o)).allocL (cs:=[.int .i64 a.1,.int .i64 a.2])).allocL (cs:=[.int .i64 b.1,.int .i64 b.2])).allocL (cs:=[.int .i64 0,.int .i64 0])
 clear_value w4 w3 w2 w1
 refine⟨_,m.ld 3,?_⟩
 rw[op47]
 refine q00.2 ⟨fun h3=>⟨_,m.ld 1,q0i.2 ⟨fun h0=>?_,fun h0=>q6d ha hb (fun h=>h0 h.2) m hK⟩⟩,fun h3=>q6d ha hb (fun h=>h3 h.1) m hK⟩
 have e:appQ o a b=(⟨0,0,false⟩,15):=by unfold appQ;rw[if_pos ⟨h3,h0⟩]
 rw[e]at hK
 refine⟨m.wr 0,?_⟩
 intro w7
 have m:=m.set (i:=0) (v:=.int .i64 0) 0
 refine⟨m.wr 0,?_⟩
 intro w8
 have m:=m.set (i:=1) (v:=.int .i64 0) 0
 exact⟨_,m.ld 0,_,m.ld 0,hK _ m.1⟩
end
section
variable{w w' w0:World}{s:Sl}
def smK(e:Fm)(p d:Nat)(K:Int->Bool->World->Prop)(w:World):Prop:=if e.parts<=p/\e.depth<=d then K ((p:Int)-(e.parts:Int)) true w else K 0 false w
theorem qak{e:Fm}{c:XC}{p d:Nat}{K:Int->Bool->World->Prop}(h1:e.parts=1)(h2:e.depth=1)(hc:c.a=⟨none,0,0⟩)(hp:p<=60)(hd:d<=12)(hK:∀w',Fr F0 w w'->smK e p d K w') :
  z6c_sh c.op c.n c.d c.nm c.a (p:Int) (d:Int) K w:=by
 refine z6c_mk (fi ?_)
 intro w1
 have m:Mem w w1 [(w.heap.size,encX c)]:=Mem.nil.allocL (cs:=encX c)
 clear_value w1
 have hk:=hK w1 m.1
 unfold smK at hk
 refine q00.2 ⟨fun h=>?_,fun h=>q00.2 ⟨fun h'=>?_,fun h'=>⟨q01,_,m.lD 0 rfl rfl,?_⟩⟩⟩
 ·grind
 ·grind
 ·rw[if_pos oo,h1]at hk
  refine⟨⟨fun pp i u=>pp=(p:Int)-1/\i=0/\u=w1,fun _ _ _=>0,⟨rfl,rfl,rfl⟩,?_⟩⟩
  rintro pp i u ⟨rfl,rfl,rfl⟩
  refine fi ?_
  simp_all
theorem qg6:∀(e:Fm) {c:XC} {p d:Nat} {w:World} {K:Int->Bool->World->Prop},XP w e c->p<=60->d<=12->(∀w',Fr F0 w w'->smK e p d K w')->z6c_sh c.op c.n c.d c.nm c.a (p:Int) (d:Int) K w:=by
 intro e
 induction e with
 | num n k =>
  intro c p d w K hx hp hd hK
  obtain⟨rfl,_⟩:=hx
  exact qak (e:=.num n k) rfl rfl rfl hp hd hK
 | name s =>
  intro c p d w K hx hp hd hK
  obtain⟨rfl,_⟩:=hx
  exact qak (e:=.name s) rfl rfl rfl hp hd hK
 | op o a b iha ihb =>
  intro c p d w K hx hp hd hK
  obtain⟨ca,cb,_,hv,hxa,hxb⟩:=hx
  refine z6c_mk (fi ?_)
  intro w1
  have m:Mem w w1 [(w.heap.size,encX c)]:=Mem.nil.allocL (cs:=encX c)
  clear_value w1
  have e1:(Fm.op o a b).parts=1+a.parts+b.parts:=rfl
  have e2:(Fm.op o a b).depth=max a.depth b.depth+1:=rfl
  unfold smK at hK
  have ha0:=q2m a
  have hb0:=q2m b
  have hk:=hK w1 m.1
  refine q00.2 ⟨fun h=>?_,fun h=>q00.2 ⟨fun h'=>?_,fun h'=>⟨q01,_,m.lD 0 rfl rfl,?_⟩⟩⟩
  ·grind
  ·grind
  clear hk
  have f1:=m.1
  refine⟨⟨fun pp i u=>Fr F0 w u/\((i=0/\pp=(p:Int)-1)\/(i=1/\pp=(p:Int)-1-a.parts/\a.parts<=p-1/\a.depth<=d-1)\/(i=2/\pp=(p:Int)-1-a.parts-b.parts/\a.parts+b.parts<=p-1/\a.depth<=d-1/\b.depth<=d-1)),fun _ i _=>2-i.toNat,⟨f1,.inl ⟨rfl,rfl⟩⟩,?_⟩⟩
  rintro pp i u ⟨f,hI⟩
  refine fi ?_
  have hv:=hv.fr f
  have el:=hv.len
  have e3:c.a.l=2:=el
  refine q00.2 ⟨fun hlt=>?_,fun hge=>?_⟩
  ·have hi:(i=0/\pp=(p:Int)-1)\/(i=1/\pp=(p:Int)-1-a.parts/\a.parts<=p-1/\a.depth<=d-1):=oo
   rcases hi with⟨rfl,rfl⟩|⟨rfl,rfl,h1,h2⟩
   ·refine ldX hv 0 rfl og ?_
    intro w9
    refine q1u rfl Mem.nil fun w10 m10=>?_
    have m10:Mem u w10 [(u.heap.size,encX ca)]:=m10
    refine⟨_,m10.lD 0 rfl rfl,_,m10.lD 0 rfl rfl,_,m10.lD 0 rfl rfl,_,m10.lD 0 rfl rfl,_,m10.lD 0 rfl rfl,q01,?_⟩
    have f10:=f.t m10.1
    rw[show(p:Int)-1=((p-1:Nat):Int) by omega,show(d:Int)-1=((d-1:Nat):Int) by omega]
    refine iha (hxa.fr f10) oo oo fun w16 f16=>?_
    have f16:=f10.t f16
    have hk:=hK w16 f16
    unfold smK
    by_cases hok:a.parts<=p-1/\a.depth<=d-1
    ·rw[if_pos hok]
     exact⟨q01,⟨⟨rfl,rfl,rfl,trivial⟩,f16,.inr (.inl ⟨oo,oo,hok.1,hok.2⟩)⟩,uo⟩
    ·rw[if_neg hok]
     rw[if_neg oo]at hk
     exact hk
   ·refine ldX hv 1 rfl og ?_
    intro w9
    refine q1u rfl Mem.nil fun w10 m10=>?_
    have m10:Mem u w10 [(u.heap.size,encX cb)]:=m10
    refine⟨_,m10.lD 0 rfl rfl,_,m10.lD 0 rfl rfl,_,m10.lD 0 rfl rfl,_,m10.lD 0 rfl rfl,_,m10.lD 0 rfl rfl,q01,?_⟩
    have f10:=f.t m10.1
    rw[show(p:Int)-1-a.parts=((p-1-a.parts:Nat):Int) by omega,show(d:Int)-1=((d-1:Nat):Int) by omega]
    refine ihb (hxb.fr f10) oo oo fun w16 f16=>?_
    have f16:=f10.t f16
    have hk:=hK w16 f16
    unfold smK
    by_cases hok:b.parts<=p-1-a.parts/\b.depth<=d-1
    ·rw[if_pos hok]
     exact⟨q01,⟨⟨rfl,rfl,rfl,trivial⟩,f16,.inr (.inr ⟨oo,oo,oo,h2,hok.2⟩)⟩,uo⟩
    ·rw[if_neg hok]
     rw[if_neg oo]at hk
     exact hk
  ·grind
theorem qg7:∀(e:Fm) {c:XC} {w:World} {K:Bool->World->Prop},XP w e c->(∀w',Fr F0 w w'->K e.formed w')->z5h_sh c.op c.n c.d c.nm c.a K w:=by
 intro e
 induction e with
 | num n k =>
  intro c w K hx hK
  obtain⟨rfl,hn,hd⟩:=hx
  refine z5h_mk (fi ?_)
  intro w1
  have m:Mem w w1 [(w.heap.size,encX ⟨ofL wNum,n,k,ofL [],⟨none,0,0⟩⟩)]:=Mem.nil.allocL (cs:=encX ⟨ofL wNum,n,k,ofL [],⟨none,0,0⟩⟩)
  clear_value w1
  refine⟨_,m.lD 0 rfl rfl,?_⟩
  rw[show decide (ofL wNum=str [110,117,109])=true by decide]
  refine q08 ⟨_,m.lD 0 rfl rfl,q08 ⟨_,m.lD 0 rfl rfl,?_⟩⟩
  rw[show decide (ofL []=str [])=true by decide]
  exact q08 ⟨_,m.lD 0 rfl rfl,_,m.lD 0 rfl rfl,q52 hn hd fun w7 f7=>hK w7 (m.1.t f7)⟩
 | name s =>
  intro c w K hx hK
  obtain⟨rfl,_⟩:=hx
  refine z5h_mk (fi ?_)
  intro w1
  have m:Mem w w1 [(w.heap.size,encX ⟨ofL q1w,0,0,ofL s,⟨none,0,0⟩⟩)]:=Mem.nil.allocL (cs:=encX ⟨ofL q1w,0,0,ofL s,⟨none,0,0⟩⟩)
  clear_value w1
  refine⟨_,m.lD 0 rfl rfl,?_⟩
  rw[show decide (ofL q1w=str [110,117,109])=false by decide,show decide (ofL q1w=str [110,97,109,101])=true by decide]
  refine q0h (q08 ⟨_,m.lD 0 rfl rfl,q08 ⟨_,m.lD 0 rfl rfl,?_⟩⟩)
  rw[show decide (ofL s=str [])=decide (s=[])from q0c s []]
  have hk:=hK w1 m.1
  simp only[Fm.formed]at hk
  refine q09.2 ⟨fun h=>⟨_,m.lD 0 rfl rfl,_,m.lD 0 rfl rfl,?_⟩,fun h=>?_⟩
  ·grind
  ·grind
 | op o a b iha ihb =>
  intro c w K hx hK
  obtain⟨ca,cb,⟨ho,hn,hd,hm⟩,hv,hxa,hxb⟩:=hx
  have e3:c.a.l=2:=hv.len
  obtain⟨c0,c1,c2,c3,c4⟩:=c
  simp only at ho hn hd hm hv e3
  subst ho hn hd hm
  refine z5h_mk (fi ?_)
  intro w1
  have m:Mem w w1 [(w.heap.size,encX ⟨ofL (opB o),0,0,ofL [],c4⟩)]:=Mem.nil.allocL (cs:=encX ⟨ofL (opB o),0,0,ofL [],c4⟩)
  clear_value w1
  refine⟨_,m.lD 0 rfl rfl,?_⟩
  rw[qji,q8q]
  refine q0h (q0h ⟨_,m.lD 0 rfl rfl,qaj fun w14 f14=>?_⟩)
  have m:=m.fr f14
  intro w17
  have m:Mem w w17 ((w14.heap.size,[.string (str []),.nilFunc])::_):=m.allocL (cs:=[.string (str []),.nilFunc])
  clear_value w17
  refine⟨m.wr 0,?_⟩
  intro w18
  have m:=m.set (i:=0) (v:=.string (ofL (opB o))) 0
  refine qdc (qmj o) ⟨m.wr 0,?_⟩
  intro w19
  have m:=m.set (i:=1) (v:=opF o) 0
  refine q08 ⟨_,m.lD 1 rfl rfl,?_⟩
  rw[show((c4.l:Int)==2)=true by rw[e3];rfl]
  refine q08 ⟨_,m.lD 1 rfl rfl,?_⟩
  rw[show decide (ofL []=str [])=true by decide]
  refine q08 ⟨_,m.lD 1 rfl rfl,_,m.lD 1 rfl rfl,q08 ⟨_,m.lD 1 rfl rfl,?_⟩⟩
  refine ldX (hv.fr m.1) 0 rfl og ?_
  refine iha (hxa.fr m.1) fun w31 f31=>?_
  have m:=m.fr f31
  have hk:=hK w31 m.1
  simp only[Fm.formed]at hk
  refine q09.2 ⟨fun h=>⟨_,m.lD 1 rfl rfl,?_⟩,fun h=>?_⟩
  ·refine ldX (hv.fr m.1) 1 rfl og ?_
   refine ihb (hxb.fr m.1) fun w40 f40=>?_
   have hk:=hK w40 (m.1.t f40)
   simp only[Fm.formed]at hk
   grind
  ·grind
theorem qjt{e:Fm}{c:XC}{K:Int->World->Prop}(hx:XP w e c)(hK:∀w',Fr F0 w w'->K e.wrong w'):z6e_sh c.op c.n c.d c.nm c.a K w:=by
 refine⟨fi ?_⟩
 intro w1
 have m:Mem w w1 [(w.heap.size,encX c)]:=Mem.nil.allocL (cs:=encX c)
 clear_value w1
 refine⟨_,m.lD 0 rfl rfl,_,m.lD 0 rfl rfl,_,m.lD 0 rfl rfl,_,m.lD 0 rfl rfl,_,m.lD 0 rfl rfl,?_⟩
 refine qg6 e (p:=60) (d:=12) (hx.fr m.1) od od fun w7 f7=>?_
 have m:=m.fr f7
 unfold smK
 unfold Fm.wrong at hK
 by_cases h:e.parts<=60/\e.depth<=12
 ·rw[if_pos h]
  rw[if_pos h]at hK
  refine q0h ⟨_,m.lD 0 rfl rfl,_,m.lD 0 rfl rfl,_,m.lD 0 rfl rfl,_,m.lD 0 rfl rfl,_,m.lD 0 rfl rfl,?_⟩
  refine qg7 e (hx.fr m.1) fun w15 f15=>?_
  have hk:=hK w15 (m.1.t f15)
  cases hf:e.formed with
  | true=>simp_all
  | false=>simp_all
 ·rw[if_neg h]
  rw[if_neg h]at hK
  exact q08 (hK w7 m.1)
end
