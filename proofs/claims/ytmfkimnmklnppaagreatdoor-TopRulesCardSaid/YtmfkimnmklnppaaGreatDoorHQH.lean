/- types: units. Conditions: none. -/
import Derived.Test.YtmfkimnmklnppaaGreatDoorHQG
open List renaming getElem?_eq_getElem->J0,getElem_mem->J1,take_add_one->J2,take_length->J3,mem_cons->J4,mem_map->J5,pairwise_singleton->J6,pairwise_cons->J7,mem_filter->J8,flatten_append->J9,nodup_cons->Ja,mem_of_find?_eq_some->Jb,map_append->Jc,foldl_append->Jd,getElem_cons_succ->Je,length_cons->Jf,map_cons->Jg,foldl_cons->Jh,append_nil->Ji,mem_cons_of_mem->Jj,map_eq_nil_iff->Jk,filter_append->Jl,length_append->Jm,filter_filter->Jn,mem_singleton->Jo,not_mem_nil->Jp,filter_map->Jq,Perm->Jr,map_nil->Js
open Nat renaming zero_le->Jt,le_refl->Ju,succ_pos->Jv
open Bool renaming and_eq_true->Jw
open Option renaming isSome_iff_exists->Jx
set_option maxRecDepth 20000
namespace Dp
open Go Pw
theorem q35(o:Fin 6):decide (ofL (opB o)=str [42])=decide (o=2):=by revert o;decide
theorem q7z(o:Fin 6):decide (ofL (opB o)=str [47])=decide (o=3):=by revert o;decide
theorem q57{t:Td}:∀ {e:Fm} {p:Int×Bool},q3h t e=some p->p.1.natAbs<=e.parts
 | .num _ _,p,h=>by cases h;exact Jt _
 | .name s,p,h=>by
  unfold q3h at h
  cases hb:bndQ t s with
  | none=>grind
  | some x =>
   rw[hb]at h
   cases h
   show(if s=wPrice\/s=wLow then(1:Int)else 0).natAbs<=_
   split<;>simp[Fm.parts]
 | .op o a b,p,h=>by
  unfold q3h at h
  cases ha:q3h t a with
  | none=>grind
  | some x =>
   rw[ha]at h
   cases hb:q3h t b with
   | none=>grind
   | some y =>
    rw[hb]at h
    have i1:=q57 ha
    have i2:=q57 hb
    simp only[Fm.parts]
    simp only[qjl]at h
    grind
end Dp
namespace Go.Proofs.YtmfkimnmklnppaaGreatDoor
open Go Pw Dp
section
variable{w w' w0:World}{t:Td}{x:T43}
def lfU(t:Td)(e:Fm)(p:Int×Bool):Prop:=q3h t e=some p
def cbU(o:Fin 6)(p q r:Int×Bool):Prop:=qjl o p q=some r/\p.1.natAbs<=2^20/\q.1.natAbs<=2^20
theorem q2s{b:Nat}{cs:List Value}{v:Int}{n:Bool}{er:Int}{K:Int->Bool->Int->World->Prop}(r:Row w b cs)(hl:cs.length=2)(hb:w0.heap.size<=b)(hf:Fr F0 w0 w)(hK:∀w',Fr F0 w0 w'->K v n er w') :
  wrOk w (Addr.mk b 0 none) /\
 (let w4:World:=w.setCell (Addr.mk b 0 none) (Value.int .i64 v)
 wrOk w4 (Addr.mk b 1 none) /\
 (let w5:World:=w4.setCell (Addr.mk b 1 none) (Value.bool n)
 ∃x6:Int,w5.cell? (Addr.mk b 0 none)=some (Value.int .i64 x6)/\∃x7:Bool,w5.cell? (Addr.mk b 1 none)=some (Value.bool x7)/\K x6 x7 er w5)):=by
 match cs,hl with
 | [y,z],_ =>
 refine⟨r.wr og,?_⟩
 intro w4
 have r4:=r.set 0 (.int .i64 v)
 have f4:Fr (fun c=>c=b) w w4:=Fr.set rfl
 refine⟨r4.wr og,?_⟩
 intro w5
 have r5:Row w5 b [.int .i64 v,.bool n]:=r4.set 1 (.bool n)
 have f5:Fr (fun c=>c=b) w w5:=f4.trans (Fr.set (F:=fun c=>c=b) rfl) fun _ h _=>h
 exact⟨_,r5.at,_,r5.at,hK w5 (hf.trans f5 fun c hc hlt=>absurd hlt oo)⟩
theorem qe8{o:Fin 6}{p q r:Int×Bool}{K:Int->Bool->Int->World->Prop}(hc:cbU o p q r)(hK:∀w',Fr F0 w w'->K r.1 r.2 0 w'):z4l_sh (ofL (opB o)) p.1 p.2 q.1 q.2 K w:=by
 obtain⟨hc,hp,hq⟩:=hc
 refine⟨fi ?_⟩
 intro w1
 have m:Mem w w1 [(w.heap.size,encU p)]:=Mem.nil.allocL
 clear_value w1
 generalize w.heap.size=b0 at m ⊢
 intro w2
 have m:Mem w w2 [(w1.heap.size,encU q),(b0,encU p)]:=m.allocL
 clear_value w2
 generalize w1.heap.size=b1 at m ⊢
 intro w3
 have m:Mem w w3 [(w2.heap.size,[Value.int .i64 0,Value.bool false]),(b1,encU q),(b0,encU p)]:=m.allocL
 clear_value w3
 generalize w2.heap.size=b2 at m ⊢
 have hb2:w.heap.size<=b2:=m.2.2.2 (b2,[Value.int .i64 0,Value.bool false]) og
 have out:∀(v:Int) (n:Bool),some (v,n)=some r->∀w',Fr F0 w w'->K v n 0 w':=fun v n e w' f=>oz
 rw[q35]
 unfold qjl at hc
 refine q00.2 ⟨fun h2=>?_,fun h2=>?_⟩
 ·rw[if_pos h2]at hc
  refine⟨_,m.ld 2,_,m.ld 1,q01,?_⟩
  exact q2s (m.row 0) rfl hb2 m.1 (out _ _ hc)
 rw[if_neg h2]at hc
 rw[q7z]
 have k0:(o=3->¬(q.2=true/\p.1=1))->z4l_k0 (ofL (opB o)) ⟨b0,0,none⟩ ⟨b1,0,none⟩ ⟨b2,0,none⟩ K w3:=fun hk=>by
  refine⟨fi ?_⟩
  simp -zeta only[q04]
  rw[q7z]
  refine q00.2 ⟨fun h3=>?_,fun h3=>?_⟩
  ·rw[if_pos h3,if_neg (hk h3)]at hc
   refine⟨_,m.ld 2,_,m.ld 1,q01,?_⟩
   exact q2s (m.row 0) rfl hb2 m.1 (out _ _ hc)
  rw[if_neg h3]at hc
  have k1:some (p.1,false)=some r->z4l_k1 ⟨b0,0,none⟩ ⟨b2,0,none⟩ K w3:=fun e=>by
   refine⟨fi ?_⟩
   simp -zeta only[q04]
   exact⟨_,m.ld 2,q2s (m.row 0) rfl hb2 m.1 (out _ _ e)⟩
  refine⟨_,m.ld 2,q09.2 ⟨fun h4=>?_,fun h4=>?_⟩⟩
  ·rw[if_pos h4]at hc
   exact⟨_,m.ld 1,q2s (m.row 0) rfl hb2 m.1 (out _ _ hc)⟩
  rw[if_neg (by rw[h4];decide)]at hc
  refine⟨_,m.ld 1,q09.2 ⟨fun h5=>?_,fun h5=>?_⟩⟩
  ·grind
  refine⟨_,m.ld 2,_,m.ld 1,q0i.2 ⟨fun h6=>?_,fun h6=>?_⟩⟩
  ·grind
  ·grind
 refine q00.2 ⟨fun h3=>?_,fun h3=>k0 fun h=>absurd h h3⟩
 refine⟨_,m.ld 1,q09.2 ⟨fun h4=>?_,fun h4=>k0 fun _ h=>by rw[h4]at h;cases h.1⟩⟩
 refine⟨_,m.ld 2,q0i.2 ⟨fun h5=>?_,fun h5=>k0 fun _ h=>h5 h.2⟩⟩
 rw[if_pos h3,if_pos ⟨h4,h5⟩]at hc
 exact q2s (m.row 0) rfl hb2 m.1 (out _ _ hc)
theorem qcl{e:Fm}{c:XC}{p:Int×Bool}{tb:Nat}{K:Int->Bool->Int->World->Prop}(hx:XP w e c)(hk:e.kids=[])(hp:lfU t e p)(r:Row w tb x.cs)(T:TP w x t)(hl:t.crit.length<2^62)(hK:∀w',Fr F0 w w'->K p.1 p.2 0 w'):z43_sh c.op c.n c.d c.nm c.a ⟨tb,0,none⟩ K w:=by
 refine⟨fi ?_⟩
 intro w1
 have m:Mem w w1 [(w.heap.size,encX c)]:=Mem.nil.allocL
 clear_value w1
 generalize w.heap.size=b0 at m ⊢
 intro w2
 have m:Mem w w2 [(w1.heap.size,[Value.int .i64 0,Value.bool false]),(b0,encX c)]:=m.allocL
 clear_value w2
 generalize w1.heap.size=b1 at m ⊢
 have hb1:w.heap.size<=b1:=m.2.2.2 (b1,[Value.int .i64 0,Value.bool false]) og
 refine⟨_,m.ld 1,?_⟩
 unfold lfU at hp
 cases e with
 | op o a b=>cases hk
 | num n d =>
  obtain⟨rfl,_⟩:=hx
  cases hp
  rw[show decide (ofL wNum=str [110,117,109])=true by decide]
  exact q08 (q2s (m.row 0) rfl hb1 m.1 hK)
 | name s =>
  obtain⟨rfl,_⟩:=hx
  rw[show decide (ofL q1w=str [110,117,109])=false by decide]
  refine q0h (T43.ld_row (m.1.row r fun h=>h) ⟨_,m.ld 1,?_⟩)
  refine q5o (T.fr m.1) hl fun w3 f3=>?_
  have m:=m.fr f3
  unfold q3h at hp
  cases hb:bndQ t s with
  | none=>grind
  | some y =>
   rw[hb]at hp
   cases hp
   have k0:s=wPrice\/s=wLow->z43_k0 ⟨b1,0,none⟩ K w3:=fun h=>by
    refine⟨fi ?_⟩
    simp -zeta only[q04]
    refine q2s (m.row 0) rfl hb1 m.1 fun w' f=>?_
    grind
   show cnd (!true) _ _
   refine q0h ⟨_,m.ld 1,?_⟩
   rw[show str [112,114,105,99,101]=ofL wPrice from rfl,q0c]
   refine q00.2 ⟨fun h=>k0 (.inl h),fun h1=>⟨_,m.ld 1,?_⟩⟩
   rw[show str [108,111,119]=ofL wLow from rfl,q0c]
   refine q00.2 ⟨fun h=>k0 (.inr h),fun h2=>?_⟩
   refine q2s (m.row 0) rfl hb1 m.1 fun w' f=>?_
   grind
theorem qgu{e:Fm}{c:XC}{p:Int×Bool}{K:Int->Bool->Int->World->Prop}(hx:XP w e c)(hp:q3h t e=some p)(he:e.parts<=2^20)(T:TP w x t)(hl:t.crit.length<2^62)(hK:∀w',Fr F0 w w'->K p.1 p.2 0 w'):z5b_sh x c.op c.n c.d c.nm c.a K w:=by
 refine⟨fi ?_⟩
 intro w1
 have m:Mem w w1 [(w.heap.size,x.cs)]:=Mem.nil.allocL
 clear_value w1
 generalize w.heap.size=b0 at m ⊢
 intro w2
 have m:Mem w w2 [(w1.heap.size,encX c),(b0,x.cs)]:=m.allocL
 clear_value w2
 generalize w1.heap.size=b1 at m ⊢
 intro w3
 have m:Mem w w3 [(w2.heap.size,[Value.int .i64 0,Value.bool false]),(b1,encX c),(b0,x.cs)]:=m.allocL
 clear_value w3
 generalize w2.heap.size=b2 at m ⊢
 have hb2:w.heap.size<=b2:=m.2.2.2 (b2,[Value.int .i64 0,Value.bool false]) og
 refine⟨_,m.ld 1,_,m.ld 1,_,m.ld 1,_,m.ld 1,c.a,m.ld 1,?_⟩
 have run:=qis (lf:=lfU t) (comb:=cbU) (V:=fun e p=>q3h t e=some p/\e.parts<=2^20) (fun n d p h=>h.1) (fun s p h=>h.1) (fun o a b r h=>by
  obtain⟨h,hl⟩:=h
  simp only[Fm.parts]at hl
  unfold q3h at h
  cases ha:q3h t a with
  | none=>grind
  | some x =>
   rw[ha]at h
   cases hb:q3h t b with
   | none=>grind
   | some y =>
    rw[hb]at h
    have i1:=q57 ha
    have i2:=q57 hb
    exact⟨x,y,⟨rfl,oo⟩,⟨rfl,oo⟩,h,oo,oo⟩) e p [] ⟨hp,he⟩ (by simpa using he)
 refine qk8 (lf:=lfU t) (comb:=cbU) rfl rfl (fun e c p u K hx hk hp f hK=>q02 z43_ok (show z43_sh _ _ _ _ _ _ _ u from qcl (hx.fr f) hk hp (f.row (m.row 2) fun h=>h) ((T.fr m.1).fr f) hl hK)) (fun o p q r u K hc f hK=>q02 z4l_ok (show z4l_sh _ _ _ _ _ _ u from qe8 hc hK)) (hx.fr m.1) run fun w4 f4=>?_
 have m:=m.fr f4
 exact q2s (m.row 0) rfl hb2 m.1 hK
theorem qnq{e:Fm}{c:XC}{b:Bool}{K:ByteArray->Int->World->Prop}(hx:XP w e c)(hp:q3h t e=some (0,b))(he:FR e)(g:GlT w)(T:TP w x t)(hl:t.crit.length<2^62)(hK:∀w',Fr F0 w w'->K (str []) 0 w'):z6s_sh x c.op c.n c.d c.nm c.a K w:=by
 refine⟨fi ?_⟩
 intro w1
 have m:Mem w w1 [(w.heap.size,x.cs)]:=Mem.nil.allocL
 clear_value w1
 generalize w.heap.size=b0 at m ⊢
 intro w2
 have m:Mem w w2 [(w1.heap.size,encX c),(b0,x.cs)]:=m.allocL
 clear_value w2
 generalize w1.heap.size=b1 at m ⊢
 refine⟨_,m.ld 0,_,m.ld 0,_,m.ld 0,_,m.ld 0,c.a,m.ld 0,?_⟩
 refine q5k (hx.fr m.1) he (g.fr m.1) fun w3 f3=>?_
 have m:=m.fr f3
 refine q0h (T43.ld_row (m.row 1) ?_)
 refine⟨_,m.ld 0,_,m.ld 0,_,m.ld 0,_,m.ld 0,c.a,m.ld 0,?_⟩
 have:=he.parts
 refine qgu (hx.fr m.1) hp oo (T.fr m.1) hl fun w4 f4=>?_
 have m:=m.fr f4
 intro w5
 have m:Mem w w5 _:=m.allocL (cs:=[Value.int .i64 0,Value.bool false])
 clear_value w5
 refine⟨m.wr 0,?_⟩
 intro w6
 have m:=m.set (i:=0) (v:=.int .i64 0) 0
 refine⟨m.wr 0,?_⟩
 intro w7
 have m:Mem w w7 _:=m.set (i:=1) (v:=.bool b) 0
 clear_value w7
 refine q0h ⟨_,m.ld 0,?_⟩
 exact q08 (hK w7 m.1)
end
end Go.Proofs.YtmfkimnmklnppaaGreatDoor
namespace Dp
open Go Pw
section
variable{α:Type}{c:α->α->Int}
structure Od(c:α->α->Int)(l:List α):Prop where
 tot:∀x∈l,∀y∈l,x≠y->c x y<0\/c y x<0
 asym:∀x∈l,∀y∈l,c x y<0->¬c y x<0
 trans:∀x∈l,∀y∈l,∀z∈l,c x y<0->c y z<0->c x z<0
theorem Od.sub{l l':List α}(h:Od c l)(hs:∀x∈l',x∈l):Od c l':=
 ⟨fun x hx y hy=>h.tot x (hs x hx) y (hs y hy),fun x hx y hy=>h.asym x (hs x hx) y (hs y hy),fun x hx y hy z hz=>h.trans x (hs x hx) y (hs y hy) z (hs z hz)⟩
def insR(c:α->α->Int):List α->α->List α
 | [],x=>[x]
 | y::A,x=>if c x y<0 then y::insR c A x else x::y::A
theorem qit:∀(A:List α) (x:α) (R:List α),sink c (A.reverse++x::R) A.length=(insR c A x).reverse++R
 | [],x,R=>rfl
 | y::A,x,R=>by
  have e:(y::A).reverse++x::R=A.reverse++y::x::R:=og
  rw[e,Jf]
  unfold sink insR
  have h0:(A.reverse++y::x::R)[A.length]?=some y:=oz
  have h1:(A.reverse++y::x::R)[A.length+1]?=some x:=oz
  rw[h0,h1]
  dsimp only
  split
  ·have e2:((A.reverse++y::x::R).set (A.length+1) y).set A.length x=A.reverse++x::y::R:=oz
   rw[e2,qit A x (y::R)]
   simp
  ·simp
theorem qe9:∀(i:Nat) (l:List α),i<=l.length->q39 c l i=((l.take i).foldl (insR c) []).reverse++l.drop i
 | 0,l,_=>by simp[q39]
 | i+1,l,h=>by
  have hi:i<l.length:=oo
  unfold q39
  rw[qe9 i l oo,List.drop_eq_getElem_cons hi]
  have hlen:((l.take i).foldl (insR c) []).length=i:=by
   have:∀(m A:List α),(m.foldl (insR c) A).length=A.length+m.length:=by
    intro m
    induction m with
    | nil=>intro A;simp
    | cons a m ih =>
     intro A
     rw[Jh,ih]
     have:∀A:List α,(insR c A a).length=A.length+1:=by
      intro A
      induction A with
      | nil=>rfl
      | cons y A ih=>unfold insR;split<;>simp[ih]
     grind
   grind
  have:=qit (c:=c) ((l.take i).foldl (insR c) []) l[i] (l.drop (i+1))
  rw[hlen]at this
  rw[this,J2,J0 hi,Jd]
  rfl
theorem q4u:∀(A:List α) (x:α),(insR c A x).Perm (x::A)
 | [],x=>Jr.refl _
 | y::A,x=>by
  unfold insR
  split
  ·exact((q4u A x).cons y).trans (Jr.swap x y A)
  ·simp_all
theorem qat:∀(l A:List α),(l.foldl (insR c) A).Perm (l++A)
 | [],A=>Jr.refl _
 | x::l,A=>(qat l (insR c A x)).trans (((q4u A x).append_left l).trans List.perm_middle)
theorem q9c{L:List α}(h:Od c L):∀ {A:List α} {x:α},(∀y∈A,y∈L)->x∈L->x∉A->A.Pairwise (fun y z=>c z y<0)->(insR c A x).Pairwise (fun y z=>c z y<0)
 | [],x,_,_,_,_=>J6 _ _
 | y::A,x,hA,hx,hn,hp=>by
  rw[J7]at hp
  unfold insR
  split
  ·rename_i hc
   rw[J7]
   refine⟨fun z hz=>?_,q9c h (fun z hz=>hA z (by simp[hz])) hx (fun h'=>hn (by simp[h'])) hp.2⟩
   have:=(q4u A x).mem_iff.1 hz
   grind
  ·rename_i hc
   have hyx:c y x<0:=by
    rcases h.tot x hx y (hA y og) (fun e=>hn (by simp[e]))with h'|h'
    ·omega
    ·exact h'
   rw[J7,J7]
   refine⟨fun z hz=>?_,hp⟩
   rcases J4.1 hz with rfl|hz
   ·exact hyx
   ·exact h.trans z (hA z (by simp[hz])) y (hA y og) x hx (hp.1 z hz) hyx
theorem q7k{L:List α}(h:Od c L):∀ {l A:List α},(∀y∈A,y∈L)->(∀y∈l,y∈L)->l.Nodup->(∀y∈l,y∉A)->A.Pairwise (fun y z=>c z y<0)->(l.foldl (insR c) A).Pairwise (fun y z=>c z y<0)
 | [],A,_,_,_,_,hp=>hp
 | x::l,A,hA,hl,hn,hd,hp=>by
  rw[Ja]at hn
  rw[Jh]
  refine q7k h (l:=l) (A:=insR c A x) (fun y hy=>?_) (fun y hy=>hl y (by simp[hy])) hn.2 (fun y hy hy'=>?_) (q9c h hA (hl x og) (hd x og) hp)
  ·rcases J4.1 ((q4u A x).mem_iff.1 hy)with rfl|h'
   ·grind
   ·exact hA y h'
  ·rcases J4.1 ((q4u A x).mem_iff.1 hy')with rfl|h'
   ·exact hn.1 hy
   ·grind
theorem qea(l:List α):q39 c l l.length=(l.foldl (insR c) []).reverse:=by
 rw[qe9 l.length l (Ju _),J3,List.drop_length,Ji]
theorem qau(l:List α):(q39 c l l.length).Perm l:=by
 rw[qea]
 exact(List.reverse_perm _).trans (by simpa using qat (c:=c) l [])
theorem q7l{l:List α}(h:Od c l)(hn:l.Nodup):(q39 c l l.length).Pairwise (fun x y=>c x y<0):=by
 rw[qea,List.pairwise_reverse]
 exact q7k h (fun y hy=>by cases hy) (fun y hy=>hy) hn (fun y _ hy=>by cases hy) List.Pairwise.nil
theorem qcm{l:List α}(h:Od c l){A B:List α}(hA:A.Perm l)(hB:B.Perm l)(pA:A.Pairwise (fun x y=>c x y<0))(pB:B.Pairwise (fun x y=>c x y<0)):A=B:=by
 refine Jr.eq_of_pairwise (fun a b ha hb h1 h2=>?_) pA pB (hA.trans hB.symm)
 exact absurd h2 (h.asym a (hA.mem_iff.1 ha) b (hB.mem_iff.1 hb) h1)
theorem qeb{l:List α}(h:Od c l)(hn:l.Nodup)(f:α->Bool):q39 c (l.filter f) (l.filter f).length=(q39 c l l.length).filter f:=by
 have h':Od c (l.filter f):=h.sub fun x hx=>(J8.1 hx).1
 exact qcm h' (qau _) ((qau l).filter f) (q7l h' (hn.filter f)) ((q7l h hn).filter f)
end
section
variable{α:Type}
structure Wk(f:α->α->Int)(S:α->Prop):Prop where
 sym:∀x y,S x->S y->(f y x>0 ↔ f x y<0)
 tr:∀x y z,S x->S y->S z->f x y>=0->f y z>=0->f x z>=0/\(f x y>0\/f y z>0->f x z>0)
theorem Wk.zero{f:α->α->Int}{S:α->Prop}(h:Wk f S){x y:α}(hx:S x)(hy:S y)(e:f x y=0):f y x=0:=by
 have h1:=h.sym x y hx hy
 have h2:=h.sym y x hy hx
 omega
theorem Wk.zeros{f:α->α->Int}{S:α->Prop}(h:Wk f S){x y z:α}(hx:S x)(hy:S y)(hz:S z)(e:f x y=0)(e':f y z=0):f x z=0:=by
 have h1:=h.tr x y z hx hy hz oo oo
 have h2:=h.tr z y x hz hy hx (by have:=h.zero hy hz e';omega) (by have:=h.zero hx hy e;omega)
 have h3:=h.sym x z hx hz
 have h4:=h.sym z x hz hx
 omega
def lexF(f g:α->α->Int)(x y:α):Int:=if f x y≠0 then f x y else g x y
theorem Wk.lex{f g:α->α->Int}{S:α->Prop}(hf:Wk f S)(hg:Wk g S):Wk (lexF f g) S:=by
 constructor
 ·intro x y hx hy
  unfold lexF
  have h1:=hf.sym x y hx hy
  have h2:=hf.sym y x hy hx
  have h3:=hg.sym x y hx hy
  omega
 ·intro x y z hx hy hz hxy hyz
  have hf1:f x y>=0:=by unfold lexF at hxy;split at hxy<;>omega
  have hf2:f y z>=0:=by unfold lexF at hyz;split at hyz<;>omega
  obtain⟨h1,h2⟩:=hf.tr x y z hx hy hz hf1 hf2
  by_cases h0:f x y>0\/f y z>0
  ·have:=h2 h0
   unfold lexF
   omega
  ·have e1:f x y=0:=oo
   have e2:f y z=0:=oo
   have e3:=hf.zeros hx hy hz e1 e2
   unfold lexF at hxy hyz ⊢
   simp only[e1,e2,e3,ne_eq,not_true,if_false]at hxy hyz ⊢
   exact hg.tr x y z hx hy hz hxy hyz
theorem Wk.ofInt{f:α->α->Int}{S:α->Prop}(k:α->Int)(h:∀x y,S x->S y->(f x y>0 ↔ k y<k x)/\(f x y<0 ↔ k x<k y)):Wk f S:=by
 constructor
 ·grind
 ·grind
theorem Wk.ofRat{f:α->α->Int}{S:α->Prop}(k:α->Rat)(h:∀x y,S x->S y->(f x y>0 ↔ k y<k x)/\(f x y<0 ↔ k x<k y)):Wk f S:=by
 constructor
 ·grind
 ·grind
end
theorem q2t{a b:Int}:(cmpI a b>0 ↔ b<a)/\(cmpI a b<0 ↔ a<b):=by
 unfold cmpI
 omega
theorem q80{n d n' d':Int}(h:q0k n d)(h':q0k n' d'):(cmpQ n d n' d'>0 ↔ val n' d'<val n d)/\(cmpQ n d n' d'<0 ↔ val n d<val n' d'):=by
 unfold cmpQ
 rw[if_pos ⟨h,h'⟩,q2t.1,q2t.2,Rat.lt_iff,Rat.lt_iff,q3g h,q3g h',q4i h,q4i h']
 omega
def qcn(t:Rv):List B->En->En->Int
 | []=>fun a b=>cmpI b.r a.r
 | n::ns=>lexF (tieQ t n) (qcn t ns)
theorem qnr(t:Rv)(a b:En):∀l:List B,qbu t a b l=decide (qcn t l a b>0)
 | []=>by
  unfold qbu qcn
  rw[Bool.eq_iff_iff,decide_eq_true_iff,decide_eq_true_iff]
  exact q2t.1.symm
 | n::ns=>by
  unfold qbu qcn lexF
  split
  ·rfl
  ·exact qnr t a b ns
def qns(t:Rv)(a:En):Prop:=∀c∈t.crit,(valF a.vals c.name).isSome
theorem qug(t:Rv)(n:B):Wk (tieQ t n) (qns t):=by
 by_cases hn:n=wPrice
 ·refine Wk.ofInt (fun a=>-a.p) fun x y _ _=>?_
  unfold tieQ
  rw[if_pos hn,q2t.1,q2t.2]
  omega
 ·cases hc:t.crit.find? (fun c=>decide (c.name=n))with
  | none =>
   refine Wk.ofInt (fun _=>0) fun x y _ _=>?_
   unfold tieQ
   grind
  | some c =>
   have hm:=Jb hc
   have he:c.name=n:=oz
   refine Wk.ofInt (fun a=>(if c.less then -1 else 1)*(valF a.vals n).getD 0) fun x y hx hy=>?_
   have h1:=hx c hm
   have h2:=hy c hm
   rw[he]at h1 h2
   obtain⟨u,hu⟩:=Jx.1 h1
   obtain⟨v,hv⟩:=Jx.1 h2
   unfold tieQ
   rw[if_neg hn,hc,hu,hv]
   dsimp only[Option.getD_some]
   have k:=q2t (a:=u) (b:=v)
   split<;>omega
theorem qiu(t:Rv):∀l:List B,Wk (qcn t l) (qns t)
 | []=>Wk.ofInt (fun a=>-a.r) fun x y _ _=>by
  show(cmpI y.r x.r>0 ↔ _)/\_
  rw[q2t.1]
  have:=(q2t (a:=y.r) (b:=x.r)).2
  show _/\(cmpI y.r x.r<0 ↔ _)
  omega
 | n::ns=>(qug t n).lex (qiu t ns)
theorem qnt(t:Rv)(a b:En):∀l:List B,qcn t l a b=0->a.r=b.r
 | [],h=>by
  have k:=q2t (a:=b.r) (b:=a.r)
  unfold qcn at h
  omega
 | n::ns,h=>by
  unfold qcn lexF at h
  split at h
  ·omega
  ·exact qnt t a b ns h
def betF(t:Rv):Dp.Sc->Dp.Sc->Int:=lexF (fun x y=>cmpQ x.2.1 x.2.2 y.2.1 y.2.2) fun x y=>qcn t t.ties x.1 y.1
theorem qsn(t:Rv)(x y:Dp.Sc):betQ t x.1 y.1 x.2 y.2=decide (betF t x y>0):=by
 unfold betQ betF lexF
 split
 ·rfl
 ·exact qnr t _ _ _
structure ScOk(t:Rv)(x:Dp.Sc):Prop where
 all:qns t x.1
 q:q0k x.2.1 x.2.2
theorem quh(t:Rv):Wk (betF t) (ScOk t):=by
 refine Wk.lex (Wk.ofRat (fun x=>val x.2.1 x.2.2) fun x y hx hy=>q80 hx.q hy.q) ?_
 have h:=qiu t t.ties
 exact⟨fun x y hx hy=>h.sym _ _ hx.all hy.all,fun x y z hx hy hz=>h.tr _ _ _ hx.all hy.all hz.all⟩
theorem q48{t:Rv}{x y:Dp.Sc}(hx:ScOk t x)(hy:ScOk t y):cmpS t x y<0 ↔ betF t x y>0:=by
 unfold cmpS
 rw[qsn,qsn]
 grind
theorem qui{t:Rv}{l:List Dp.Sc}(h:∀x∈l,ScOk t x)(hr:∀x∈l,∀y∈l,x.1.r=y.1.r->x=y):Od (cmpS t) l:=by
 have w:=quh t
 refine⟨fun x hx y hy hne=>?_,fun x hx y hy h1 h2=>?_,fun x hx y hy z hz h1 h2=>?_⟩
 ·rw[q48 (h x hx) (h y hy),q48 (h y hy) (h x hx)]
  have:=w.sym x y (h x hx) (h y hy)
  by_cases h0:betF t x y=0
  ·refine absurd (hr x hx y hy ?_) hne
   unfold betF lexF at h0
   split at h0
   ·omega
   ·exact qnt t _ _ _ h0
  ·omega
 ·rw[q48 (h x hx) (h y hy)]at h1
  rw[q48 (h y hy) (h x hx)]at h2
  have:=w.sym x y (h x hx) (h y hy)
  omega
 ·rw[q48 (h x hx) (h y hy)]at h1
  rw[q48 (h y hy) (h z hz)]at h2
  rw[q48 (h x hx) (h z hz)]
  exact(w.tr x y z (h x hx) (h y hy) (h z hz) oo oo).2 (.inl h1)
def qec(t:Rv)(low:Int)(es:List En):List Dp.Sc:=(es.filter fun x=>decide ((ptsA t low x).2=0)).map fun x=>(x,(ptsA t low x).1)
theorem q6l(t:Rv)(low:Int):∀(es:List En) (g:List Dp.Sc) (o:List Rk),(es.foldl (splS t low) (g,o)).1=g++qec t low es/\((∀r∈o,r.out≠0)->∀r∈(es.foldl (splS t low) (g,o)).2,r.out≠0)
 | [],g,o=>by simp[qec]
 | x::es,g,o=>by
  rw[Jh]
  by_cases h:(ptsA t low x).2=0
  ·rw[show splS t low (g,o) x=(g++[(x,(ptsA t low x).1)],o) by unfold splS;rw[if_neg (by simp[h])]]
   obtain⟨h1,h2⟩:=q6l t low es (g++[(x,(ptsA t low x).1)]) o
   refine⟨?_,h2⟩
   rw[h1]
   unfold qec
   grind
  ·rw[show splS t low (g,o) x=(g,o++[⟨x.b,0,0,0,(ptsA t low x).2⟩]) by unfold splS;rw[if_pos h]]
   obtain⟨h1,h2⟩:=q6l t low es g (o++[⟨x.b,0,0,0,(ptsA t low x).2⟩])
   refine⟨?_,fun ho=>h2 fun r hr=>?_⟩
   ·rw[h1]
    unfold qec
    grind
   ·grind
def q18(r:List Rk):List Int:=(r.filter fun x=>decide (x.out=0)&&decide (x.place>0)).map (·.b)
theorem q7m:∀(k:Nat) (l:List Dp.Sc),q18 (q2a k l)=l.map (·.1.b)
 | _,[]=>rfl
 | k,x::l=>by
  unfold q2a q18
  rw[List.filter_cons_of_pos (by simp<;>omega)]
  rw[Jg,Jg]
  congr 1
  first|done|exact q7m (k+1) l
theorem qka(t:Rv)(es:List En):∃low,q18 (q2d t es)=(q39 (cmpS t) (qec t low es) (qec t low es).length).map (·.1.b):=by
 refine⟨(lowQ t es).1,?_⟩
 obtain⟨h1,h2⟩:=q6l t (lowQ t es).1 es [] []
 unfold q2d splQ
 rw[List.nil_append]at h1
 rw[h1]
 have h3:=h2 fun r hr=>by cases hr
 unfold q18
 rw[Jl,Jc]
 have e:(es.foldl (splS t (lowQ t es).1) ([],[])).2.filter (fun x=>decide (x.out=0)&&decide (x.place>0))=[]:=ud
 rw[e,Js,Ji]
 exact q7m 0 _
def encQ(q:Rat):List Value:=[.int .i64 q.num,.int .i64 (q.den:Int)]
theorem quj(a:Rat):∀v∈encQ a,okC v=true:=by
 intro v hv
 simp only[encQ,J4,Jp,or_false]at hv
 rcases hv with rfl|rfl<;>rfl
theorem cmp_lt(p q:Rat):decide (cmpQ p.num p.den q.num q.den<0)=decide (p<q):=by
 have:=(q80 (q07 p) (q07 q)).2
 rw[q0j,q0j]at this
 grind
theorem cmp_gt(p q:Rat):decide (cmpQ p.num p.den q.num q.den>0)=decide (q<p):=by
 have:=(q80 (q07 p) (q07 q)).1
 rw[q0j,q0j]at this
 grind
end Dp
namespace Go.Proofs.YtmfkimnmklnppaaGreatDoor
open Go Pw Dp
section
variable{w w' w0:World}{s:Sl}
def fitR(q:Rat):Prop:=(fitQ q).ok=true
theorem fitR.eq{q:Rat}(h:fitR q):fitQ q=⟨q.num,q.den,true⟩/\I64 q.num/\I64 (q.den:Int):=by
 unfold fitR fitQ at h
 unfold fitQ
 split at h
 ·rename_i h'
  rw[if_pos h']
  exact⟨rfl,⟨h'.1,h'.2.1⟩,⟨oo,oo⟩⟩
 ·cases h
theorem fitR.of{q:Rat}(h1:I64 q.num)(h2:q.den<9223372036854775808):fitR q:=by
 unfold fitR fitQ
 rw[if_pos ⟨h1.1,h1.2,h2⟩]
theorem qr1{l:List Rat}{K:Int->Int->World->Prop}(hv:Vw 2 encQ w s l)(hl:l.length<2^20)(h0:l≠[])(hf:∀q∈l,fitR q)(hK:∀w',Fr F0 w w'->K (minQ l).num ((minQ l).den:Int) w'):z3y_sh s (Value.func (.func 14) #[] #[]) K w:=by
 have hvl:=hv.len
 cases l with
 | nil=>grind
 | cons a r =>
 have fold_fit:∀k,fitR ((r.take k).foldl (fun m x=>if x<m then x else m) a):=by
  intro k
  have:=qfy (r.take k) a
  grind
 rw[Jf]at hvl hl
 refine⟨fi ?_⟩
 intro w1
 have m:Mem w w1 [(w.heap.size,[Value.int .i64 (0:Int),Value.int .i64 (0:Int)])]:=Mem.nil.allocL (cs:=[Value.int .i64 (0:Int),Value.int .i64 (0:Int)])
 clear_value w1
 generalize w.heap.size=tb at m ⊢
 refine q00.2 ⟨fun h=>oo,fun _=>?_⟩
 refine Vw.go (enc:=encQ) (fun _=>rfl) od (hv.fr m.1) 0 rfl (Jv _) fun ad hc=>?_
 refine⟨_,hc 0 _ rfl,_,hc 1 _ rfl,?_⟩
 intro w5
 have m:Mem w w5 [(w1.heap.size,[Value.int .i64 (0:Int),Value.int .i64 (0:Int)]),(tb,[Value.int .i64 (0:Int),Value.int .i64 (0:Int)])]:=m.allocL (cs:=[Value.int .i64 (0:Int),Value.int .i64 (0:Int)])
 clear_value w5
 generalize w1.heap.size=mb at m ⊢
 refine⟨m.wr 0,?_⟩
 intro w6
 have m:=m.set (i:=0) (v:=.int .i64 a.num) 0
 refine⟨m.wr 0,?_⟩
 intro w7
 have m:Mem w w7 [(mb,encQ a),(tb,[Value.int .i64 (0:Int),Value.int .i64 (0:Int)])]:=m.set (i:=1) (v:=.int .i64 (a.den:Int)) 0 rfl
 clear_value w7
 refine⟨⟨fun i u=>∃k:Nat,i=((k+1:Nat):Int)/\k<=r.length/\Mem w u [(mb,encQ ((r.take k).foldl (fun m x=>if x<m then x else m) a)),(tb,[Value.int .i64 (0:Int),Value.int .i64 (0:Int)])],fun i _=>r.length+1-i.toNat,⟨0,rfl,Jt _,m⟩,?_⟩⟩
 rintro _ u ⟨k,rfl,hk,m⟩
 refine fi ?_
 refine q00.2 ⟨fun hlt=>?_,fun hge=>?_⟩
 ·have hkr:k<r.length:=oo
  intro w8
  have m:Mem w w8 _:=m.drew
  clear_value w8
  have hvu:=hv.fr m.1
  refine⟨fun u=>Vw 2 encQ u s (a::r)/\Row u mb (encQ ((r.take k).foldl (fun m x=>if x<m then x else m) a)),⟨hvu,m.row 0⟩,?_⟩
  refine Vw.goS (enc:=encQ) (S:=fun u=>Vw 2 encQ u s (a::r)/\Row u mb (encQ ((r.take k).foldl (fun m x=>if x<m then x else m) a))) (fun _=>rfl) od ⟨hvu,m.row 0⟩ (fun v hv=>hv.1) (k+1) rfl oz fun ad hc=>?_
  refine⟨_,hc 0 _ rfl,_,hc 1 _ rfl,_,fun u hu=>hu.2.at,_,fun u hu=>by rw[q04];exact hu.2.at,?_⟩
  have e1:(a::r)[k+1]'oz=r[k]:=Je ..
  rw[e1]
  have tk:(r.take (k+1)).foldl (fun m x=>if x<m then x else m) a=(fun m x=>if x<m then x else m) ((r.take k).foldl (fun m x=>if x<m then x else m) a) r[k]:=by
   rw[J2,J0 hkr,Jd]
   rfl
  have fm:=(fold_fit k).eq
  have fx:=(hf _ (Jj _ (J1 hkr))).eq
  refine q02 z72_ok (show z72_sh _ _ _ _ _ w8 from q40 fx.2.1 fx.2.2 fm.2.1 fm.2.2 fun w9 f9=>⟨_,rfl,?_⟩)
  have m:=m.fr f9
  rw[cmp_lt]
  refine q00.2 ⟨fun hc=>?_,fun hc=>?_⟩
  ·refine Vw.go (enc:=encQ) (fun _=>rfl) od (hv.fr m.1) (k+1) rfl oz fun ad hd=>?_
   rw[e1]at hd
   refine⟨_,hd 0 _ rfl,_,hd 1 _ rfl,m.wr 0,?_⟩
   intro w10
   have m:=m.set (i:=0) (v:=.int .i64 r[k].num) 0
   rw[q04]
   refine⟨m.wr 0,?_⟩
   intro w11
   have m:Mem w w11 [(mb,encQ r[k]),(tb,[Value.int .i64 (0:Int),Value.int .i64 (0:Int)])]:=m.set (i:=1) (v:=.int .i64 (r[k].den:Int)) 0
   clear_value w11
   refine⟨q01,⟨⟨rfl,rfl,rfl,rfl,trivial⟩,k+1,oo,oo,?_⟩,uo⟩
   grind
  ·refine⟨q01,⟨⟨rfl,rfl,rfl,rfl,trivial⟩,k+1,oo,oo,?_⟩,uo⟩
   grind
 ·have hk':k=r.length:=oo
  subst hk'
  rw[J3]at m
  simp -zeta only[q04]
  refine⟨_,m.ld 0,_,m.ld 0,m.wr 1,?_⟩
  intro w10
  have m:=m.set (i:=0) (v:=.int .i64 (minQ (a::r)).num) 1
  refine⟨m.wr 1,?_⟩
  intro w11
  have m:=m.set (i:=1) (v:=.int .i64 ((minQ (a::r)).den:Int)) 1
  exact⟨_,m.ld 1,_,m.ld 1,hK _ m.1⟩
theorem qr2{l:List Rat}{K:Int->Int->World->Prop}(hv:Vw 2 encQ w s l)(hl:l.length<2^20)(h0:l≠[])(hf:∀q∈l,fitR q)(hK:∀w',Fr F0 w w'->K (maxQ l).num ((maxQ l).den:Int) w'):z3x_sh s (Value.func (.func 14) #[] #[]) K w:=by
 have hvl:=hv.len
 cases l with
 | nil=>grind
 | cons a r =>
 have fold_fit:∀k,fitR ((r.take k).foldl (fun m x=>if m<x then x else m) a):=by
  intro k
  have:=qfz (r.take k) a
  grind
 rw[Jf]at hvl hl
 refine⟨fi ?_⟩
 intro w1
 have m:Mem w w1 [(w.heap.size,[Value.int .i64 (0:Int),Value.int .i64 (0:Int)])]:=Mem.nil.allocL (cs:=[Value.int .i64 (0:Int),Value.int .i64 (0:Int)])
 clear_value w1
 generalize w.heap.size=tb at m ⊢
 refine q00.2 ⟨fun h=>oo,fun _=>?_⟩
 refine Vw.go (enc:=encQ) (fun _=>rfl) od (hv.fr m.1) 0 rfl (Jv _) fun ad hc=>?_
 refine⟨_,hc 0 _ rfl,_,hc 1 _ rfl,?_⟩
 intro w5
 have m:Mem w w5 [(w1.heap.size,[Value.int .i64 (0:Int),Value.int .i64 (0:Int)]),(tb,[Value.int .i64 (0:Int),Value.int .i64 (0:Int)])]:=m.allocL (cs:=[Value.int .i64 (0:Int),Value.int .i64 (0:Int)])
 clear_value w5
 generalize w1.heap.size=mb at m ⊢
 refine⟨m.wr 0,?_⟩
 intro w6
 have m:=m.set (i:=0) (v:=.int .i64 a.num) 0
 refine⟨m.wr 0,?_⟩
 intro w7
 have m:Mem w w7 [(mb,encQ a),(tb,[Value.int .i64 (0:Int),Value.int .i64 (0:Int)])]:=m.set (i:=1) (v:=.int .i64 (a.den:Int)) 0 rfl
 clear_value w7
 refine⟨⟨fun i u=>∃k:Nat,i=((k+1:Nat):Int)/\k<=r.length/\Mem w u [(mb,encQ ((r.take k).foldl (fun m x=>if m<x then x else m) a)),(tb,[Value.int .i64 (0:Int),Value.int .i64 (0:Int)])],fun i _=>r.length+1-i.toNat,⟨0,rfl,Jt _,m⟩,?_⟩⟩
 rintro _ u ⟨k,rfl,hk,m⟩
 refine fi ?_
 refine q00.2 ⟨fun hlt=>?_,fun hge=>?_⟩
 ·have hkr:k<r.length:=oo
  intro w8
  have m:Mem w w8 _:=m.drew
  clear_value w8
  have hvu:=hv.fr m.1
  refine⟨fun u=>Vw 2 encQ u s (a::r)/\Row u mb (encQ ((r.take k).foldl (fun m x=>if m<x then x else m) a)),⟨hvu,m.row 0⟩,?_⟩
  refine Vw.goS (enc:=encQ) (S:=fun u=>Vw 2 encQ u s (a::r)/\Row u mb (encQ ((r.take k).foldl (fun m x=>if m<x then x else m) a))) (fun _=>rfl) od ⟨hvu,m.row 0⟩ (fun v hv=>hv.1) (k+1) rfl oz fun ad hc=>?_
  refine⟨_,hc 0 _ rfl,_,hc 1 _ rfl,_,fun u hu=>hu.2.at,_,fun u hu=>by rw[q04];exact hu.2.at,?_⟩
  have e1:(a::r)[k+1]'oz=r[k]:=Je ..
  rw[e1]
  have tk:(r.take (k+1)).foldl (fun m x=>if m<x then x else m) a=(fun m x=>if m<x then x else m) ((r.take k).foldl (fun m x=>if m<x then x else m) a) r[k]:=by
   rw[J2,J0 hkr,Jd]
   rfl
  have fm:=(fold_fit k).eq
  have fx:=(hf _ (Jj _ (J1 hkr))).eq
  refine q02 z72_ok (show z72_sh _ _ _ _ _ w8 from q40 fx.2.1 fx.2.2 fm.2.1 fm.2.2 fun w9 f9=>⟨_,rfl,?_⟩)
  have m:=m.fr f9
  rw[cmp_gt]
  refine q00.2 ⟨fun hc=>?_,fun hc=>?_⟩
  ·refine Vw.go (enc:=encQ) (fun _=>rfl) od (hv.fr m.1) (k+1) rfl oz fun ad hd=>?_
   rw[e1]at hd
   refine⟨_,hd 0 _ rfl,_,hd 1 _ rfl,m.wr 0,?_⟩
   intro w10
   have m:=m.set (i:=0) (v:=.int .i64 r[k].num) 0
   rw[q04]
   refine⟨m.wr 0,?_⟩
   intro w11
   have m:Mem w w11 [(mb,encQ r[k]),(tb,[Value.int .i64 (0:Int),Value.int .i64 (0:Int)])]:=m.set (i:=1) (v:=.int .i64 (r[k].den:Int)) 0
   clear_value w11
   refine⟨q01,⟨⟨rfl,rfl,rfl,rfl,trivial⟩,k+1,oo,oo,?_⟩,uo⟩
   grind
  ·refine⟨q01,⟨⟨rfl,rfl,rfl,rfl,trivial⟩,k+1,oo,oo,?_⟩,uo⟩
   grind
 ·have hk':k=r.length:=oo
  subst hk'
  rw[J3]at m
  simp -zeta only[q04]
  refine⟨_,m.ld 0,_,m.ld 0,m.wr 1,?_⟩
  intro w10
  have m:=m.set (i:=0) (v:=.int .i64 (maxQ (a::r)).num) 1
  refine⟨m.wr 1,?_⟩
  intro w11
  have m:=m.set (i:=1) (v:=.int .i64 ((maxQ (a::r)).den:Int)) 1
  exact⟨_,m.ld 1,_,m.ld 1,hK _ m.1⟩
theorem qnu{l:List Rat}{K:Int->Int->Int->Int->World->Prop}(hv:Vw 2 encQ w s l)(hl:l.length<2^20)(h0:l≠[])(hf:∀q∈l,fitR q)(hK:∀w',Fr F0 w w'->K (minQ l).num ((minQ l).den:Int) (maxQ l).num ((maxQ l).den:Int) w'):z6v_sh s K w:=by
 refine⟨fi ?_⟩
 intro w1
 have h:Sx w w1 _:=(Sx.nil Fr.refl).row (cs:=[Value.int .i64 (0:Int),Value.int .i64 (0:Int),Value.int .i64 (0:Int),Value.int .i64 (0:Int)])
 clear_value w1
 generalize w.heap.size=tb at h ⊢
 refine qr1 (hv.fr h.fr0) hl h0 hf fun w2 f2=>?_
 have h:=h.fr f2
 refine qr2 (hv.fr h.fr0) hl h0 hf fun w3 f3=>?_
 have h:=h.fr f3
 refine h.st (vs:=encJ (minQ l,maxQ l)) 0 rfl rfl fun w4 f4 h=>?_
 exact⟨_,h.ld 0 rfl rfl,_,h.ld 0 rfl rfl,_,h.ld 0 rfl rfl,_,h.ld 0 rfl rfl,hK _ h.fr0⟩
theorem qnv{f:Value}{F:Rat×Rat->Rat}{l:List (Rat×Rat)}{K:Int->Int->Int->Int->Int->World->Prop}(hv:Vw 4 encJ w s l)(hl:l.length<=4)(h0:l≠[])(hf:∀q∈l,fitR (F q))
  (hrun:∀q∈l,∀(u:World) (K:VW),Fr F0 w u->(∀u',Fr F0 u u'->K (.tuple #[.agg (encQ (F q)).toArray,.bool true]) u')->q0y Tryz.prog f [.agg (encQ q.1).toArray,.agg (encQ q.2).toArray] u K)
  (hK:∀w',Fr F0 w w'->K (minQ (l.map F)).num ((minQ (l.map F)).den:Int) (maxQ (l.map F)).num ((maxQ (l.map F)).den:Int) 0 w'):z6t_sh f s K w:=by
 have hvl:=hv.len
 refine⟨fi ?_⟩
 intro w1
 have h:Sx w w1 _:=(Sx.nil Fr.refl).row (cs:=[Value.int .i64 (0:Int),Value.int .i64 (0:Int),Value.int .i64 (0:Int),Value.int .i64 (0:Int)])
 clear_value w1
 generalize w.heap.size=tb at h ⊢
 have h:=h.add (q:=(inB ⟨none,0,0⟩,fun u=>Ow 2 encQ u ⟨none,0,0⟩ [])) Fr.refl (q0b.ow _ _) ⟨rfl,OwnV.nil⟩ fun b ⟨a,ha,_⟩=>by cases ha
 refine⟨⟨fun s6 i u=>∃k:Nat,i=(k:Int)/\k<=l.length/\Sx w u [(inB s6,fun u=>Ow 2 encQ u s6 ((l.take k).map F)),(fun c=>c=tb,fun u=>Row u tb [Value.int .i64 (0:Int),Value.int .i64 (0:Int),Value.int .i64 (0:Int),Value.int .i64 (0:Int)])],fun _ i _=>l.length-i.toNat,⟨0,rfl,Jt _,h⟩,?_⟩⟩
 rintro s6 _ u ⟨k,rfl,hk,h⟩
 refine fi ?_
 refine q00.2 ⟨fun hlt=>?_,fun hge=>?_⟩
 ·have hkl:k<l.length:=oo
  refine Vw.go (enc:=encJ) (fun _=>rfl) od (hv.fr h.fr0) k rfl hkl fun ad hc=>?_
  refine⟨_,hc 0 _ rfl,_,hc 1 _ rfl,_,hc 2 _ rfl,_,hc 3 _ rfl,?_⟩
  have hm:=J1 hkl
  have tk:(l.take (k+1)).map F=(l.take k).map F++[F l[k]]:=by
   rw[J2,J0 hkl,Jc]
   rfl
  generalize l[k]=q at *
  refine h.box (vs:=encJ q) rfl fun w2 f2 h=>?_
  simp -zeta only[q04]
  refine⟨⟨od,od⟩,_,h.ld 0 rfl rfl,_,h.ld 0 rfl rfl,⟨od,od⟩,_,h.ld 0 rfl rfl,_,h.ld 0 rfl rfl,?_⟩
  refine hrun q hm w2 _ h.fr0 fun w3 f3=>⟨_,_,_,rfl,?_⟩
  have h:=h.fr f3
  intro w4
  have h:Sx w w4 _:=h.row (cs:=[Value.int .i64 (0:Int),Value.int .i64 (0:Int)])
  clear_value w4
  generalize w3.heap.size=xb at h ⊢
  refine⟨h.wr 0 rfl rfl,?_⟩
  intro w5
  have h:=h.set (i:=0) (v:=.int .i64 (F q).num) 0 rfl
  refine⟨h.wr 0 rfl rfl,?_⟩
  intro w6
  have h:=h.set (i:=1) (v:=.int .i64 ((F q).den:Int)) 0 rfl
  have h:Sx w w6 [(fun c=>c=xb,fun u=>Row u xb (encQ (F q))),_,(inB s6,fun u=>Ow 2 encQ u s6 ((l.take k).map F)),(fun c=>c=tb,fun u=>Row u tb [Value.int .i64 (0:Int),Value.int .i64 (0:Int),Value.int .i64 (0:Int),Value.int .i64 (0:Int)])]:=h
  clear_value w6
  refine q0h ⟨_,h.ld 0 rfl rfl,_,h.ld 0 rfl rfl,?_⟩
  have hx:Vw 2 encQ (w6.alloc (Obj.cells (encQ (F q)).toArray 28)) ⟨some ⟨w6.heap.size,0,none⟩,1,1⟩ [F q]:=Vw.new rfl rfl
  have h:Sx w (w6.alloc (Obj.cells (encQ (F q)).toArray 28)) _:=h.fr Fr.alloc
  have hlk:((l.take k).map F).length=k:=oz
  refine h.app 2 rfl hx quj rfl oz oz fun r w7 h f7=>?_
  refine⟨q01,⟨⟨trivial,trivial,trivial,trivial,trivial⟩,k+1,oo,oo,?_⟩,oo⟩
  rw[tk]
  exact h.tail.tail
 ·have hk':k=l.length:=oo
  subst hk'
  rw[J3]at h
  have how:Ow 2 encQ u s6 (l.map F):=h.get 0 rfl
  refine qnu how.vw oz (fun e=>h0 (Jk.1 e)) (fun q hq=>by obtain⟨p,hp,rfl⟩:=J5.1 hq;exact hf p hp) fun w2 f2=>?_
  have h:=h.fr f2
  refine h.st (vs:=encJ (minQ (l.map F),maxQ (l.map F))) 1 rfl rfl fun w4 f4 h=>?_
  simp -zeta only[q04]
  exact⟨_,h.ld 1 rfl rfl,_,h.ld 1 rfl rfl,_,h.ld 1 rfl rfl,_,h.ld 1 rfl rfl,hK _ h.fr0⟩
end
def prs(o:Fin 6)(a b:Rat×Rat):List (Rat×Rat):=match o with
 | 0=>[(a.1,b.1),(a.2,b.2)]
 | 1=>[(a.1,b.2),(a.2,b.1)]
 | 2=>[(a.1,b.1),(a.1,b.2),(a.2,b.1),(a.2,b.2)]
 | 3=>[(a.1,b.1),(a.1,b.2),(a.2,b.1),(a.2,b.2)]
 | _=>[]
def opr(o:Fin 6)(p:Rat×Rat):Rat:=match o with
 | 0=>p.1+p.2
 | 1=>p.1-p.2
 | 2=>p.1*p.2
 | 3=>p.1/p.2
 | _=>0
theorem qr3(o:Fin 6)(a b:Rat×Rat):corn o a b=(prs o a b).map (opr o):=by
 match o with
 | 0=>rfl
 | 1=>rfl
 | 2=>rfl
 | 3=>rfl
 | 4=>rfl
 | 5=>rfl
theorem qso{o:Fin 6}(ho:lev o≠2)(a b:Rat×Rat):prs o a b≠[]/\(prs o a b).length<=4:=by
 match o,ho with
 | 0,_=>simp[prs]
 | 1,_=>simp[prs]
 | 2,_=>simp[prs]
 | 3,_=>simp[prs]
 | 4,h=>exact absurd rfl h
 | 5,h=>exact absurd rfl h
theorem qsp{o:Fin 6}{a b q:Rat×Rat}(h:q∈prs o a b):(q.1=a.1\/q.1=a.2)/\(q.2=b.1\/q.2=b.2):=by
 unfold prs at h
 grind
def cbI(o:Fin 6)(a b r:Rat×Rat):Prop:=ropQ o a b=some r/\(fitR a.1/\fitR a.2)/\(fitR b.1/\fitR b.2)/\b.1<=b.2
theorem cbI.out{o:Fin 6}{a b r:Rat×Rat}(h:cbI o a b r):lev o≠2/\¬(o=3/\b.1.num<=0/\0<=b.2.num)/\(∀q∈prs o a b,fitR (opr o q))/\r=(minQ ((prs o a b).map (opr o)),maxQ ((prs o a b).map (opr o))):=by
 obtain⟨h,_⟩:=h
 unfold ropQ at h
 split at h
 ·cases h
 ·rename_i h1
  split at h
  ·cases h
  ·rename_i h2
   split at h
   ·rename_i h3
    rw[qr3]at h h3
    cases h
    rw[List.all_eq_true]at h3
    exact⟨h1,h2,fun q hq=>h3 _ (List.mem_map_of_mem hq),rfl⟩
   ·cases h
theorem opr_Q{o:Fin 6}{q:Rat×Rat}(ho:lev o≠2)(h3:o=3->q.2.num≠0):q4n o (q.1.num,(q.1.den:Int)) (q.2.num,(q.2.den:Int))=fitQ (opr o q):=by
 match o,ho with
 | 0,_=>show addQ _ _ _ _=_;unfold addQ;rw[if_pos ⟨q07 _,q07 _⟩,q0j,q0j];rfl
 | 1,_=>show subQ _ _ _ _=_;unfold subQ;rw[if_pos ⟨q07 _,q07 _⟩,q0j,q0j];rfl
 | 2,_=>show mulQ _ _ _ _=_;unfold mulQ;rw[if_pos ⟨q07 _,q07 _⟩,q0j,q0j];rfl
 | 3,_=>show quoQ _ _ _ _=_;unfold quoQ;rw[if_pos ⟨q07 _,q07 _⟩,if_neg (h3 rfl),q0j,q0j];rfl
 | 4,h=>exact absurd rfl h
 | 5,h=>exact absurd rfl h
section
variable{w w' w0:World}{t:Td}{x:T43}{s:Sl}
theorem qco{o:Fin 6}{a b r:Rat×Rat}{K:Int->Int->Int->Int->Int->World->Prop}(hc:cbI o a b r)(hv:Vw 4 encJ w s (prs o a b))(hK:∀w',Fr F0 w w'->K r.1.num (r.1.den:Int) r.2.num (r.2.den:Int) 0 w'):z6t_sh (opF o) s K w:=by
 obtain⟨ho,h3,hf,rfl⟩:=hc.out
 obtain⟨_,ha,hb,hbl⟩:=hc
 obtain⟨hn,hl⟩:=qso ho a b
 have h30:∀q∈prs o a b,o=3->q.2.num≠0:=fun q hq e3 h0=>by
  have hz:q.2=0:=Rat.num_eq_zero.1 h0
  have h1:∀y:Rat,y<=0->y.num<=0:=fun y hy=>by
   rw[Rat.le_iff]at hy
   simpa using hy
  rcases(qsp hq).2 with h|h
  ·simp_all
  ·grind
 refine qnv (F:=opr o) hv oo hn hf (fun q hq u K f hK=>?_) hK
 obtain⟨h1,h2⟩:=qsp hq
 have g1:fitR q.1:=h1.elim (fun h=>h▸ha.1) fun h=>h▸ha.2
 have g2:fitR q.2:=h2.elim (fun h=>h▸hb.1) fun h=>h▸hb.2
 have e:=opr_Q ho (h30 q hq)
 rw[(hf q hq).eq.1]at e
 have:=qic (o:=o) (a:=(q.1.num,(q.1.den:Int))) (b:=(q.2.num,(q.2.den:Int))) (w:=u) (K:=K) g1.eq.2 g2.eq.2 fun w' f=>by
  rw[e]
  exact hK w' f
 exact this
end
def z4:List Value:=[.int .i64 (0:Int),.int .i64 (0:Int),.int .i64 (0:Int),.int .i64 (0:Int)]
section
variable{w w' w0:World}{t:Td}{x:T43}{s:Sl}{K:Int->Int->Int->Int->Int->World->Prop}
theorem q9d{b:Nat}{cs:List Value}{v:Rat×Rat}{er:Int}(r:Row w b cs)(hl:cs.length=4)(hb:w0.heap.size<=b)(hf:Fr F0 w0 w)(hK:∀w',Fr F0 w0 w'->K v.1.num (v.1.den:Int) v.2.num (v.2.den:Int) er w') :
  stN w (Addr.mk b 0 none) [(Value.int .i64 v.1.num),(Value.int .i64 (v.1.den:Int)),(Value.int .i64 v.2.num),(Value.int .i64 (v.2.den:Int))] fun(w16:World)=>∃x17:Int,w16.cell? (Addr.mk b 0 none)=some (Value.int .i64 x17)/\∃x18:Int,w16.cell? (Addr.mk b 1 none)=some (Value.int .i64 x18)/\∃x19:Int,w16.cell? (Addr.mk b 2 none)=some (Value.int .i64 x19)/\∃x20:Int,w16.cell? (Addr.mk b 3 none)=some (Value.int .i64 x20)/\K x17 x18 x19 x20 er w16:=by
 match cs,hl with
 | [_,_,_,_],_ =>
 refine q13 r (Ju 4) fun w1 f1 r1=>?_
 have r1:Row w1 b (encJ v):=r1
 exact⟨_,r1.at,_,r1.at,_,r1.at,_,r1.at,hK w1 (hf.trans f1 fun c hc hlt=>absurd hlt oo)⟩
theorem qr4{a b r:Rat×Rat}(hc:cbI 0 a b r)(hK:∀w',Fr F0 w w'->K r.1.num (r.1.den:Int) r.2.num (r.2.den:Int) 0 w'):z2t_sh a.1.num (a.1.den:Int) a.2.num (a.2.den:Int) b.1.num (b.1.den:Int) b.2.num (b.2.den:Int) K w:=by
 refine⟨fi ?_⟩
 intro w1
 have m:Mem w w1 [(w.heap.size,encJ a)]:=Mem.nil.allocL
 clear_value w1
 generalize w.heap.size=b0 at m ⊢
 intro w2
 have m:Mem w w2 [(w1.heap.size,encJ b),(b0,encJ a)]:=m.allocL
 clear_value w2
 generalize w1.heap.size=b1 at m ⊢
 intro w3
 have m:Mem w w3 [(w2.heap.size,z4),(b1,encJ b),(b0,encJ a)]:=m.allocL (cs:=z4)
 clear_value w3
 generalize w2.heap.size=b2 at m ⊢
 have hb2:w.heap.size<=b2:=m.2.2.2 (b2,z4) og
 refine⟨_,m.ld 2,_,m.ld 2,_,m.ld 1,_,m.ld 1,_,m.ld 2,_,m.ld 2,_,m.ld 1,_,m.ld 1,?_⟩
 intro w4
 have hv:Vw 4 encJ w4 ⟨some ⟨w3.heap.size,0,none⟩,2,2⟩ (prs 0 a b):=(Row.ow (l:=prs 0 a b) (enc:=encJ) (n:=4) (fun _=>rfl) Row.new).vw
 have m:Mem w w4 _:=m.fr Fr.alloc
 clear_value w4
 refine qco hc hv fun w5 f5=>?_
 have m:=m.fr f5
 exact q9d (m.row 0) rfl hb2 m.1 hK
theorem qr5{a b r:Rat×Rat}(hc:cbI 1 a b r)(hK:∀w',Fr F0 w w'->K r.1.num (r.1.den:Int) r.2.num (r.2.den:Int) 0 w'):z2u_sh a.1.num (a.1.den:Int) a.2.num (a.2.den:Int) b.1.num (b.1.den:Int) b.2.num (b.2.den:Int) K w:=by
 refine⟨fi ?_⟩
 intro w1
 have m:Mem w w1 [(w.heap.size,encJ a)]:=Mem.nil.allocL
 clear_value w1
 generalize w.heap.size=b0 at m ⊢
 intro w2
 have m:Mem w w2 [(w1.heap.size,encJ b),(b0,encJ a)]:=m.allocL
 clear_value w2
 generalize w1.heap.size=b1 at m ⊢
 intro w3
 have m:Mem w w3 [(w2.heap.size,z4),(b1,encJ b),(b0,encJ a)]:=m.allocL (cs:=z4)
 clear_value w3
 generalize w2.heap.size=b2 at m ⊢
 have hb2:w.heap.size<=b2:=m.2.2.2 (b2,z4) og
 refine⟨_,m.ld 2,_,m.ld 2,_,m.ld 1,_,m.ld 1,_,m.ld 2,_,m.ld 2,_,m.ld 1,_,m.ld 1,?_⟩
 intro w4
 have hv:Vw 4 encJ w4 ⟨some ⟨w3.heap.size,0,none⟩,2,2⟩ (prs 1 a b):=(Row.ow (l:=prs 1 a b) (enc:=encJ) (n:=4) (fun _=>rfl) Row.new).vw
 have m:Mem w w4 _:=m.fr Fr.alloc
 clear_value w4
 refine qco hc hv fun w5 f5=>?_
 have m:=m.fr f5
 exact q9d (m.row 0) rfl hb2 m.1 hK
theorem qiv{a b:Rat×Rat}{K:Sl->World->Prop}(hK:∀w' s,Fr F0 w w'->Vw 4 encJ w' s (prs 2 a b)->K s w'):z2q_sh a.1.num (a.1.den:Int) a.2.num (a.2.den:Int) b.1.num (b.1.den:Int) b.2.num (b.2.den:Int) K w:=by
 refine⟨fi ?_⟩
 intro w1
 have m:Mem w w1 [(w.heap.size,encJ a)]:=Mem.nil.allocL
 clear_value w1
 generalize w.heap.size=b0 at m ⊢
 intro w2
 have m:Mem w w2 [(w1.heap.size,encJ b),(b0,encJ a)]:=m.allocL
 clear_value w2
 generalize w1.heap.size=b1 at m ⊢
 refine⟨_,m.ld 1,_,m.ld 1,_,m.ld 0,_,m.ld 0,_,m.ld 1,_,m.ld 1,_,m.ld 0,_,m.ld 0,_,m.ld 1,_,m.ld 1,_,m.ld 0,_,m.ld 0,_,m.ld 1,_,m.ld 1,_,m.ld 0,_,m.ld 0,?_⟩
 intro w4
 have hv:Vw 4 encJ w4 ⟨some ⟨w2.heap.size,0,none⟩,4,4⟩ (prs 2 a b):=(Row.ow (l:=prs 2 a b) (enc:=encJ) (n:=4) (fun _=>rfl) Row.new).vw
 exact hK w4 _ (m.1.t Fr.alloc) hv
theorem qr6{a b r:Rat×Rat}{cb:Nat}(hc:cbI 2 a b r)(hr:Row w cb [Value.func (.func 232) #[] #[]])(hK:∀w',Fr F0 w w'->K r.1.num (r.1.den:Int) r.2.num (r.2.den:Int) 0 w'):z2v_sh a.1.num (a.1.den:Int) a.2.num (a.2.den:Int) b.1.num (b.1.den:Int) b.2.num (b.2.den:Int) ⟨cb,0,none⟩ K w:=by
 refine⟨fi ?_⟩
 intro w1
 have m:Mem w w1 [(w.heap.size,encJ a)]:=Mem.nil.allocL
 clear_value w1
 generalize w.heap.size=b0 at m ⊢
 intro w2
 have m:Mem w w2 [(w1.heap.size,encJ b),(b0,encJ a)]:=m.allocL
 clear_value w2
 generalize w1.heap.size=b1 at m ⊢
 intro w3
 have m:Mem w w3 [(w2.heap.size,z4),(b1,encJ b),(b0,encJ a)]:=m.allocL (cs:=z4)
 clear_value w3
 generalize w2.heap.size=b2 at m ⊢
 have hb2:w.heap.size<=b2:=m.2.2.2 (b2,z4) og
 refine⟨_,(m.1.row hr fun h=>h).at rfl,_,m.ld 2,_,m.ld 2,_,m.ld 2,_,m.ld 2,_,m.ld 1,_,m.ld 1,_,m.ld 1,_,m.ld 1,?_⟩
 refine q02 z2q_ok (show z2q_sh _ _ _ _ _ _ _ _ _ w3 from qiv (a:=a) (b:=b) fun w4 s f4 hv=>⟨s,rfl,?_⟩)
 have m:=m.fr f4
 refine qco hc hv fun w5 f5=>?_
 have m:=m.fr f5
 exact q9d (m.row 0) rfl hb2 m.1 hK
theorem qr7{a b r:Rat×Rat}{cb:Nat}(hc:cbI 3 a b r)(hr:Row w cb [Value.func (.func 232) #[] #[]])(hK:∀w',Fr F0 w w'->K r.1.num (r.1.den:Int) r.2.num (r.2.den:Int) 0 w'):z2w_sh a.1.num (a.1.den:Int) a.2.num (a.2.den:Int) b.1.num (b.1.den:Int) b.2.num (b.2.den:Int) ⟨cb,0,none⟩ K w:=by
 have h3:=hc.out.2.1
 refine⟨fi ?_⟩
 intro w1
 have m:Mem w w1 [(w.heap.size,encJ a)]:=Mem.nil.allocL
 clear_value w1
 generalize w.heap.size=b0 at m ⊢
 intro w2
 have m:Mem w w2 [(w1.heap.size,encJ b),(b0,encJ a)]:=m.allocL
 clear_value w2
 generalize w1.heap.size=b1 at m ⊢
 intro w3
 have m:Mem w w3 [(w2.heap.size,z4),(b1,encJ b),(b0,encJ a)]:=m.allocL (cs:=z4)
 clear_value w3
 generalize w2.heap.size=b2 at m ⊢
 have hb2:w.heap.size<=b2:=m.2.2.2 (b2,z4) og
 have k0:z2w_k0 ⟨cb,0,none⟩ ⟨b0,0,none⟩ ⟨b1,0,none⟩ ⟨b2,0,none⟩ K w3:=by
  refine⟨fi ?_⟩
  simp -zeta only[q04]
  refine⟨_,(m.1.row hr fun h=>h).at rfl,_,m.ld 2,_,m.ld 2,_,m.ld 2,_,m.ld 2,_,m.ld 1,_,m.ld 1,_,m.ld 1,_,m.ld 1,?_⟩
  refine q02 z2q_ok (show z2q_sh _ _ _ _ _ _ _ _ _ w3 from qiv (a:=a) (b:=b) fun w4 s f4 hv=>⟨s,rfl,?_⟩)
  have m:=m.fr f4
  refine qco hc hv fun w5 f5=>?_
  have m:=m.fr f5
  exact q9d (m.row 0) rfl hb2 m.1 hK
 refine⟨_,m.ld 1,q00.2 ⟨fun h1=>⟨_,m.ld 1,q00.2 ⟨fun h2=>absurd ⟨rfl,h1,h2⟩ h3,fun _=>k0⟩⟩,fun _=>k0⟩⟩
def quk(cb:Nat)(o:Fin 6):Value:=match o with
 | 0=>.func (.func 237) #[] #[]
 | 1=>.func (.func 239) #[] #[]
 | 2=>.func (.func 240) #[] #[.pointer (some ⟨cb,0,none⟩)]
 | 3=>.func (.func 241) #[] #[.pointer (some ⟨cb,0,none⟩)]
 | _=>.nilFunc
theorem qkb{o:Fin 6}{a b r:Rat×Rat}{cb:Nat}{u:World}{K:VW}(hc:cbI o a b r)(hr:Row u cb [Value.func (.func 232) #[] #[]])(hK:∀u',Fr F0 u u'->K (.tuple #[.agg (encJ r).toArray,.int .i64 0]) u') :
  q0y Tryz.prog (quk cb o) [.agg (encJ a).toArray,.agg (encJ b).toArray] u K:=by
 have ho:=hc.out.1
 match o,ho with
 | 0,_=>exact q02 z2t_ok (show z2t_sh _ _ _ _ _ _ _ _ _ u from qr4 hc hK)
 | 1,_=>exact q02 z2u_ok (show z2u_sh _ _ _ _ _ _ _ _ _ u from qr5 hc hK)
 | 2,_=>exact q02 z2v_ok (show z2v_sh _ _ _ _ _ _ _ _ _ _ u from qr6 hc hr hK)
 | 3,_=>exact q02 z2w_ok (show z2w_sh _ _ _ _ _ _ _ _ _ _ u from qr7 hc hr hK)
 | 4,h=>exact absurd rfl h
 | 5,h=>exact absurd rfl h
theorem q9y{K:Option Nat->World->Prop}(hK:∀w' r cb,Fr F0 w w'->(∃l,Ms w' r l/\∀(o:Fin 6) d,lev o≠2->q3t d (ofL (opB o)) l=quk cb o)->Row w' cb [Value.func (.func 232) #[] #[]]->K (some r) w'):z3q_sh K w:=by
 refine⟨fi ?_⟩
 intro w1
 have m:Mem w w1 [(w.heap.size,[Value.nilFunc])]:=Mem.nil.allocL (cs:=[Value.nilFunc])
 clear_value w1
 generalize w.heap.size=cb at m ⊢
 refine⟨m.wr 0,?_⟩
 intro w2
 have m:=m.set (i:=0) (v:=Value.func (.func 232) #[] #[]) 0
 intro w3
 have m:Mem w w3 [(w2.heap.size,[Value.nilFunc]),(cb,[Value.func (.func 232) #[] #[]])]:=m.allocL (cs:=[Value.nilFunc])
 clear_value w3
 generalize w2.heap.size=c2 at m ⊢
 refine⟨m.wr 0,?_⟩
 intro w4
 have m:=m.set (i:=0) (v:=Value.func (.func 233) #[] #[]) 0
 intro w5
 have m:Mem w w5 [(w4.heap.size,[Value.nilFunc]),(c2,[Value.func (.func 233) #[] #[]]),(cb,[Value.func (.func 232) #[] #[]])]:=m.allocL (cs:=[Value.nilFunc])
 clear_value w5
 generalize w4.heap.size=c3 at m ⊢
 refine⟨m.wr 0,?_⟩
 intro w6
 have m:Mem w w6 _:=m.set (i:=0) (v:=Value.func (.func 235) #[] #[]) 0
 have r6:Row w6 cb [Value.func (.func 232) #[] #[]]:=m.row 2
 have f6:=m.1
 clear_value w6
 intro w7
 have m7:Ms w7 w6.heap.size []:=Ms.made w6
 have f7:Fr F0 w6 w7:=Fr.alloc
 clear_value w7
 have hr:w6.heap.size<=w6.heap.size:=Ju _
 generalize hrr:w6.heap.size=r at *
 have go:∀ {u:World} {l:List (ByteArray×Value)} {n:ByteArray} {v:Value},Fr F0 w6 u->Ms u r l->Fr F0 w6 (u.sset r n v)/\Ms (u.sset r n v) r (sput n v l):=fun {u l n v} f m=>⟨f.trans qca fun b hb hlt=>oo,m.set n v⟩
 refine⟨⟨_,m7⟩,?_⟩
 intro w8
 obtain⟨f8,m8⟩:=go (n:=str [43]) (v:=Value.func (.func 237) #[] #[]) f7 m7
 refine⟨⟨_,m8⟩,?_⟩
 intro w9
 obtain⟨f9,m9⟩:=go (n:=str [45]) (v:=Value.func (.func 239) #[] #[]) f8 m8
 refine⟨⟨_,m9⟩,?_⟩
 intro w10
 obtain⟨f10,m10⟩:=go (n:=str [42]) (v:=Value.func (.func 240) #[] #[.pointer (some ⟨cb,0,none⟩)]) f9 m9
 refine⟨⟨_,m10⟩,?_⟩
 intro w11
 obtain⟨f11,m11⟩:=go (n:=str [47]) (v:=Value.func (.func 241) #[] #[.pointer (some ⟨cb,0,none⟩)]) f10 m10
 refine⟨⟨_,m11⟩,?_⟩
 intro w12
 obtain⟨f12,m12⟩:=go (n:=str [109,105,110]) (v:=Value.func (.func 242) #[] #[.pointer (some ⟨c2,0,none⟩)]) f11 m11
 refine⟨⟨_,m12⟩,?_⟩
 intro w13
 obtain⟨f13,m13⟩:=go (n:=str [109,97,120]) (v:=Value.func (.func 243) #[] #[.pointer (some ⟨c3,0,none⟩)]) f12 m12
 refine hK _ r cb (f6.t f13) ⟨_,m13,fun o d ho=>?_⟩ (f13.row r6 fun h=>h)
 simp only[q6k]
 match o,ho with
 | 0,_=>rfl
 | 1,_=>rfl
 | 2,_=>rfl
 | 3,_=>rfl
 | 4,h=>exact absurd rfl h
 | 5,h=>exact absurd rfl h
end
theorem min_le(l:List Rat):∀a:Rat,l.foldl (fun m x=>if x<m then x else m) a<=a:=by
 induction l with
 | nil=>grind
 | cons b l ih=>grind
theorem le_max(l:List Rat):∀a:Rat,a<=l.foldl (fun m x=>if m<x then x else m) a:=by
 induction l with
 | nil=>grind
 | cons b l ih=>grind
theorem qkc{l:List Rat}(h:l≠[]):minQ l<=maxQ l:=by
 cases l with
 | nil=>grind
 | cons a l=>exact Rat.le_trans (min_le l a) (le_max l a)
theorem q58{t:Td}(R:q0m t):∀ {e:Fm} {x:Rat×Rat},e.four=true->q0s t e=some x->(fitR x.1/\fitR x.2)/\x.1<=x.2
 | .num n d,x,h4,h=>by
  cases h
  unfold Fm.four at h4
  simp only[Jw]at h4
  obtain⟨hr,h0,h2,h3⟩:=q1b.1 h4.1
  have hd:=qi9 hr.1 h2
  have hd0:=hr.1
  have f:fitR (val n d):=fitR.of (by rw[q3g hr];exact⟨oo,oo⟩) (by have:=q4i hr;omega)
  grind
 | .name s,x,_,h=>by
  unfold q0s at h
  cases hb:bndQ t s with
  | none=>grind
  | some y =>
   rw[hb]at h
   dsimp only at h
   split at h
   ·cases h
   ·rename_i hle
    cases h
    have hy:(0<=y.1/\y.1<=1000000000)/\0<=y.2/\y.2<=1000000000:=by
     unfold bndQ at hb
     split at hb
     ·cases hb
      exact⟨R.low,R.high⟩
     ·cases hf:t.crit.find? (fun c=>decide (c.name=s))with
      | none=>grind
      | some c =>
       rw[hf]at hb
       cases hb
       have:=R.critN c (Jb hf)
       exact⟨this.2.2.1,this.2.2.2⟩
    have f:∀v:Int,0<=v->v<=1000000000->fitR (mkRat v 1):=fun v h0 h1=>fitR.of (by rw[(q2b v).1];exact⟨oo,oo⟩) (by rw[(q2b v).2];decide)
    refine⟨⟨f _ hy.1.1 hy.1.2,f _ hy.2.1 hy.2.2⟩,?_⟩
    show mkRat y.1 1<=mkRat y.2 1
    rw[Rat.le_iff,(q2b y.1).1,(q2b y.1).2,(q2b y.2).1,(q2b y.2).2]
    omega
 | .op o a b,x,h4,h=>by
  unfold q0s at h
  cases ha:q0s t a with
  | none=>grind
  | some p =>
   rw[ha]at h
   cases hb:q0s t b with
   | none=>grind
   | some q =>
    rw[hb]at h
    unfold Fm.four at h4
    simp only[Jw]at h4
    obtain⟨g1,_⟩:=q58 R h4.2.1 ha
    obtain⟨g2,g3⟩:=q58 R h4.2.2 hb
    have hc:cbI o p q x:=⟨h,g1,g2,g3⟩
    obtain⟨ho,_,hf,rfl⟩:=hc.out
    obtain⟨hn,_⟩:=qso ho p q
    have hne:(prs o p q).map (opr o)≠[]:=fun e=>hn (Jk.1 e)
    have all:∀r∈(prs o p q).map (opr o),fitR r:=fun r hr=>oz
    exact⟨⟨all _ (qbw hne),all _ (qbx hne)⟩,qkc hne⟩
section
variable{w w' w0:World}{t:Td}{x:T43}{s:Sl}{K:Int->Int->Int->Int->Int->World->Prop}
def lfI(t:Td)(e:Fm)(p:Rat×Rat):Prop:=q0s t e=some p/\∀n d,e=.num n d->q0k n d
theorem q9z{e:Fm}{c:XC}{p:Rat×Rat}{tb:Nat}(hx:XP w e c)(hk:e.kids=[])(hp:lfI t e p)(r:Row w tb x.cs)(T:TP w x t)(hl:t.crit.length<2^62)(hK:∀w',Fr F0 w w'->K p.1.num (p.1.den:Int) p.2.num (p.2.den:Int) 0 w'):z4j_sh c.op c.n c.d c.nm c.a ⟨tb,0,none⟩ K w:=by
 refine⟨fi ?_⟩
 intro w1
 have m:Mem w w1 [(w.heap.size,encX c)]:=Mem.nil.allocL
 clear_value w1
 generalize w.heap.size=b0 at m ⊢
 intro w2
 have m:Mem w w2 [(w1.heap.size,z4),(b0,encX c)]:=m.allocL (cs:=z4)
 clear_value w2
 generalize w1.heap.size=b1 at m ⊢
 have hb1:w.heap.size<=b1:=m.2.2.2 (b1,z4) og
 refine⟨_,m.ld 1,?_⟩
 obtain⟨hp,hpr⟩:=hp
 cases e with
 | op o a b=>cases hk
 | num n d =>
  obtain⟨rfl,_⟩:=hx
  cases hp
  have hr:=hpr n d rfl
  rw[show decide (ofL wNum=str [110,117,109])=true by decide]
  refine q08 ⟨_,m.ld 1,_,m.ld 1,_,m.ld 1,_,m.ld 1,?_⟩
  have:=q9d (v:=(val n d,val n d)) (er:=0) (K:=K) (m.row 0) rfl hb1 m.1 hK
  simp only[q3g hr,q4i hr]at this
  exact this
 | name s =>
  obtain⟨rfl,_⟩:=hx
  rw[show decide (ofL q1w=str [110,117,109])=false by decide]
  refine q0h (T43.ld_row (m.1.row r fun h=>h) ⟨_,m.ld 1,?_⟩)
  refine q5o (T.fr m.1) hl fun w3 f3=>?_
  have m:=m.fr f3
  unfold q0s at hp
  cases hb:bndQ t s with
  | none=>grind
  | some y =>
   rw[hb]at hp
   dsimp only at hp
   split at hp
   ·cases hp
   ·rename_i hle
    cases hp
    show cnd (!true) _ _
    refine q0h (q00.2 ⟨fun h=>absurd h hle,fun _=>?_⟩)
    refine qft fun w4 f4=>?_
    have m:=m.fr f4
    refine qft fun w5 f5=>?_
    have m:=m.fr f5
    have:=q9d (v:=(mkRat y.1 1,mkRat y.2 1)) (er:=0) (K:=K) (m.row 0) rfl hb1 m.1 hK
    simp only[(q2b _).1,(q2b _).2]at this
    exact this
theorem qa0{o:Fin 6}{a b r:Rat×Rat}{rb mb cb:Nat}(hc:cbI o a b r)(hr:Row w rb [Value.map (some mb)])(hm:∃l,Ms w mb l/\∀(o:Fin 6) d,lev o≠2->q3t d (ofL (opB o)) l=quk cb o)(hcb:Row w cb [Value.func (.func 232) #[] #[]])
  (hK:∀w',Fr F0 w w'->K r.1.num (r.1.den:Int) r.2.num (r.2.den:Int) 0 w'):z4k_sh (ofL (opB o)) a.1.num (a.1.den:Int) a.2.num (a.2.den:Int) b.1.num (b.1.den:Int) b.2.num (b.2.den:Int) ⟨rb,0,none⟩ K w:=by
 refine⟨fi ?_⟩
 intro w1
 have m:Mem w w1 [(w.heap.size,encJ a)]:=Mem.nil.allocL
 clear_value w1
 generalize w.heap.size=b0 at m ⊢
 intro w2
 have m:Mem w w2 [(w1.heap.size,encJ b),(b0,encJ a)]:=m.allocL
 clear_value w2
 generalize w1.heap.size=b1 at m ⊢
 intro w3
 have m:Mem w w3 [(w2.heap.size,z4),(b1,encJ b),(b0,encJ a)]:=m.allocL (cs:=z4)
 clear_value w3
 generalize w2.heap.size=b2 at m ⊢
 have hb2:w.heap.size<=b2:=m.2.2.2 (b2,z4) og
 obtain⟨l,hl,hg⟩:=hm
 have hl:Ms w3 mb l:=hl.congr (m.1.2.1 mb hl.lt fun h=>h)
 refine⟨some mb,(m.1.row hr fun h=>h).at rfl,_,q8a (kt:=9) (et:=258) (ti:=(Tryz.prog.info? 258).getD default) (z:=.nilFunc) 251 (by kernel_rfl) (by kernel_rfl) (by kernel_rfl) (by kernel_rfl) hl,_,rfl,?_⟩
 rw[hg o _ hc.out.1]
 refine⟨_,m.ld 2,_,m.ld 2,_,m.ld 2,_,m.ld 2,_,m.ld 1,_,m.ld 1,_,m.ld 1,_,m.ld 1,?_⟩
 refine qkb hc (m.1.row hcb fun h=>h) fun w4 f4=>⟨_,_,_,_,_,rfl,?_⟩
 have m:=m.fr f4
 exact q9d (m.row 0) rfl hb2 m.1 hK
theorem q77{e:Fm}{c:XC}{p:Rat×Rat}(hx:XP w e c)(hp:q0s t e=some p)(he:FR e)(g:GlT w)(R:q0m t)(T:TP w x t)(hK:∀w',Fr F0 w w'->K p.1.num (p.1.den:Int) p.2.num (p.2.den:Int) 0 w'):z64_sh x c.op c.n c.d c.nm c.a K w:=by
 have hcl:=R.crit
 refine⟨fi ?_⟩
 intro w1
 have h:Sx w w1 _:=(Sx.nil Fr.refl).row (cs:=x.cs)
 clear_value w1
 generalize w.heap.size=b0 at h ⊢
 intro w2
 have h:Sx w w2 _:=h.row (cs:=encX c)
 clear_value w2
 generalize w1.heap.size=b1 at h ⊢
 intro w3
 have h:Sx w w3 _:=h.row (cs:=[Value.int .i64 (0:Int),Value.int .i64 (0:Int)])
 clear_value w3
 generalize w2.heap.size=b2 at h ⊢
 intro w4
 have h:Sx w w4 _:=h.row (cs:=[Value.int .i64 (0:Int),Value.int .i64 (0:Int)])
 clear_value w4
 generalize w3.heap.size=b3 at h ⊢
 refine⟨_,h.ld 2 rfl rfl,_,h.ld 2 rfl rfl,_,h.ld 2 rfl rfl,_,h.ld 2 rfl rfl,c.a,h.ld 2 rfl rfl,?_⟩
 refine q5k (hx.fr h.fr0) he (g.fr h.fr0) fun w5 f5=>?_
 have h:=h.fr f5
 refine q0h (q9y fun w6 mb cb f6 hm hcb=>?_)
 have h:=h.fr f6
 intro w7
 have f7:Fr F0 w6 w7:=Fr.alloc
 have h:Sx w w7 _:=h.row (cs:=[Value.map none])
 clear_value w7
 have hlt6:∀b cs,Row w6 b cs->b<w6.heap.size:=fun b cs r=>r.lt
 have hcbl:=hcb.lt
 obtain⟨l,hl,hg⟩:=hm
 have hml:=hl.lt
 have hl:Ms w7 mb l:=hl.congr (f7.2.1 mb hl.lt fun h=>h)
 have hcb:=f7.row hcb fun h=>h
 generalize w6.heap.size=rb at h hcbl hml ⊢
 refine⟨h.wr 0 rfl rfl,?_⟩
 intro w8
 have h:Sx w w8 _:=h.set (i:=0) (v:=.map (some mb)) 0 rfl
 have f8:Fr (fun b=>b=rb) w7 w8:=Fr.set rfl
 have hl:Ms w8 mb l:=hl.congr (f8.2.1 mb hl.lt fun h=>oo)
 have hcb:=f8.row hcb fun h=>oo
 clear_value w8
 refine⟨_,h.ld 3 rfl rfl,_,h.ld 3 rfl rfl,_,h.ld 3 rfl rfl,_,h.ld 3 rfl rfl,c.a,h.ld 3 rfl rfl,?_⟩
 have hparts:=he.parts
 have run:=qis (lf:=lfI t) (comb:=cbI) (V:=fun e p=>q0s t e=some p/\e.four=true) (fun n d p h=>⟨h.1,fun n' d' e=>by
   cases e
   have:=h.2
   unfold Fm.four at this
   simp only[Jw]at this
   exact(q1b.1 this.1).1⟩) (fun s p h=>⟨h.1,fun n d e=>by cases e⟩) (fun o a b r h=>by
  obtain⟨h,h4⟩:=h
  unfold Fm.four at h4
  simp only[Jw]at h4
  unfold q0s at h
  cases ha:q0s t a with
  | none=>grind
  | some p =>
   rw[ha]at h
   cases hb:q0s t b with
   | none=>grind
   | some q =>
    rw[hb]at h
    obtain⟨g1,_⟩:=q58 R h4.2.1 ha
    obtain⟨g2,g3⟩:=q58 R h4.2.2 hb
    exact⟨p,q,⟨rfl,h4.2.1⟩,⟨rfl,h4.2.2⟩,h,g1,g2,g3⟩) e p [] ⟨hp,he.four⟩ oy
 refine qk9 (lf:=lfI t) (comb:=cbI) rfl rfl (fun e c p u K hx hk hp f hK=>q02 z4j_ok (show z4j_sh _ _ _ _ _ _ _ u from q9z (hx.fr f) hk hp (f.row (h.get 4 rfl:Row w8 b0 x.cs) fun h=>h) ((T.fr h.fr0).fr f) oo hK)) (fun o p q r u K hc f hK=>q02 z4k_ok (show z4k_sh _ _ _ _ _ _ _ _ _ _ _ u from qa0 hc (f.row (h.get 0 rfl:Row w8 rb [.map (some mb)]) fun h=>h) ⟨l,hl.congr (f.2.1 mb hl.lt fun h=>h),hg⟩ (f.row hcb fun h=>h) hK)) (hx.fr h.fr0) run fun w9 f9=>?_
 have h:=h.fr f9
 refine h.box (vs:=encJ p) rfl fun w10 f10 h=>?_
 intro w11
 have h:Sx w w11 _:=h.fr Fr.drew
 clear_value w11
 refine⟨fun u=>Row u w9.heap.size (encJ p),h.get 0 rfl,_,fun u hu=>hu.at rfl,_,fun u hu=>hu.at rfl,_,fun u hu=>hu.at rfl,_,fun u hu=>hu.at rfl,h.wr 3 rfl rfl,?_⟩
 intro w12
 have h:=h.set (i:=0) (v:=.int .i64 p.1.num) 3 rfl
 refine⟨h.wr 3 rfl rfl,?_⟩
 intro w13
 have h:Sx w w13 _:=h.set (i:=1) (v:=.int .i64 (p.1.den:Int)) 3 rfl
 clear_value w13
 refine⟨h.get 0 rfl,h.wr 2 rfl rfl,?_⟩
 intro w14
 have h:=h.set (i:=0) (v:=.int .i64 p.2.num) 2 rfl
 refine⟨h.wr 2 rfl rfl,?_⟩
 intro w15
 have h:Sx w w15 _:=h.set (i:=1) (v:=.int .i64 (p.2.den:Int)) 2 rfl
 clear_value w15
 exact⟨_,h.ld 3 rfl rfl,_,h.ld 3 rfl rfl,_,h.ld 2 rfl rfl,_,h.ld 2 rfl rfl,hK _ h.fr0⟩
end
section
variable{w w' w0:World}{t:Td}{x:T43}{s:Sl}
theorem qnw{n:Nat}{K:Sl->World->Prop}(hn:n<=2^20)(hK:∀r w',Fr F0 w w'->Ow 1 encI w' r []->(∀b,inB r b->w.heap.size<=b)->K r w'):z5t_sh ⟨none,0,0⟩ (n:Int) K w:=by
 refine⟨fi ?_⟩
 have e0:((0:Nat):Int)-((0:Nat):Int)=0:=oo
 refine q00.2 ⟨fun h=>oo,fun _=>?_⟩
 refine⟨q01 uo uo,q01 uo uo,q00.2 ⟨fun h=>?_,fun h=>hK _ _ Fr.refl ⟨rfl,OwnV.nil⟩ fun b ⟨a,ha,_⟩=>by cases ha⟩⟩
 refine⟨⟨od,od,od⟩,?_⟩
 have e1:((n:Int)-(((⟨none,0,0⟩:Sl).c:Int)-((⟨none,0,0⟩:Sl).l:Int)))=(n:Int):=uo
 rw[e1]
 refine⟨oo,oo,oo,?_⟩
 have hz:(rowZ [Value.int .i64 (0:Int)] ((n:Int).toNat*[Value.int .i64 (0:Int)].length)).length=(n:Int).toNat*1:=by
  rw[q8g];rfl
 refine qln (s:=⟨none,0,0⟩) (vs:=[]) OwnV.nil hz rfl uo uo fun r w1 ho hl f hi=>?_
 refine⟨⟨od,uo,uo⟩,?_⟩
 have f0:Fr F0 w w1:=f.mono fun b ⟨a,ha,_⟩=>by cases ha
 obtain⟨h1,h2⟩:=ho
 refine hK _ w1 f0 ⟨rfl,rfl,?_⟩ fun b hb=>(hi b (q9b hb)).elim (fun⟨a,ha,_⟩=>by cases ha) id
 rcases h2 with⟨e1,e2,e3⟩|⟨b,cs,e1,e2,e3,e4,e5⟩
 ·omega
 ·refine .inr ⟨b,cs,?_,e2,e3,Jt _,rfl⟩
  show subP r.p 0 r.c 1=_
  unfold subP
  simp_all
theorem qgv{L:List (List Int)}{K:Sl->World->Prop}(hv:CP w s L)(hl:L.length<=12)(hll:∀l∈L,l.length<=12)(hK:∀r w',Fr F0 w w'->Vw 1 encI w' r L.flatten->K r w'):z4b_sh s K w:=by
 obtain⟨Z,hv,hz,hi⟩:=hv
 have hvl:=hv.len
 have hfl:∀k,((L.take k).flatten).length<=12*k:=by
  intro k
  induction k with
  | zero=>simp
  | succ k ih =>
   rw[J2,J9,Jm]
   grind
 refine⟨fi ?_⟩
 refine⟨⟨fun n i u=>∃k:Nat,i=(k:Int)/\k<=L.length/\n=(((L.take k).flatten.length:Nat):Int)/\u=w,fun _ i _=>L.length-i.toNat,⟨0,rfl,Jt _,rfl,rfl⟩,?_⟩⟩
 rintro _ _ u ⟨k,rfl,hk,rfl,rfl⟩
 refine fi ?_
 have hfk:=hfl k
 refine q00.2 ⟨fun hlt=>?_,fun hge=>?_⟩
 ·have hkl:k<L.length:=oo
  refine ldZ hv k rfl oo ?_
  have hzl:=(hi k oo hkl).len
  have hlk:=hll _ (J1 hkl)
  refine⟨q01,q00.2 ⟨fun h=>oo,fun _=>?_⟩⟩
  refine⟨q01,⟨⟨rfl,rfl,rfl,trivial⟩,k+1,oo,oo,?_,rfl⟩,uo⟩
  rw[J2,J0 hkl,J9,Jm]
  simp
  omega
 ·refine qnw oo fun r w1 f1 ho hn=>?_
  have h:Sx u w1 [(inB r,fun u=>Ow 1 encI u r [])]:=(Sx.nil Fr.refl).add f1 (q0b.ow _ _) ho fun b hb=>⟨hn b hb,ho.lt' hb⟩
  refine⟨⟨fun r i v=>∃k:Nat,i=(k:Int)/\k<=L.length/\Sx u v [(inB r,fun u=>Ow 1 encI u r (L.take k).flatten)],fun _ i _=>L.length-i.toNat,⟨0,rfl,Jt _,h⟩,?_⟩⟩
  rintro r1 _ v ⟨j,rfl,hj,h⟩
  refine fi ?_
  have hfj:=hfl j
  refine q00.2 ⟨fun hlt=>?_,fun hge=>?_⟩
  ·have hjl:j<L.length:=oo
   refine ldZ (hv.fr h.fr0) j rfl oo ?_
   have hlj:=hll _ (J1 hjl)
   refine h.app 0 rfl ((hi j oo hjl).fr h.fr0) q47 rfl oo oo fun r2 w2 h f2=>?_
   refine⟨q01,⟨⟨rfl,rfl,trivial⟩,j+1,oo,oo,?_⟩,uo⟩
   have e:(L.take (j+1)).flatten=(L.take j).flatten++L[j]:=by
    rw[J2,J0 hjl,J9]
    simp
   grind
  ·have hj':j=L.length:=oo
   subst hj'
   rw[J3]at h
   exact hK _ _ h.fr0 (h.get 0 rfl:Ow 1 encI v r1 L.flatten).vw
theorem qnx{a b:Int}{K:Bool->World->Prop}(hK:K (decide (a<b)) w):z7d_sh a b K w:=by
 have hn:∀(v:Int) (K:Bool->World->Prop),K false w->z6w_sh v K w:=fun v K h=>by
  refine⟨fi ?_⟩
  grind
 refine⟨fi ?_⟩
 simp_all
theorem qgw{a b c d:Int}{K:Bool->World->Prop}(hv:Vw 1 encI w s [a,b,c,d])(h1:a<=b)(h2:b<=c)(h3:c<=d)(hK:∀w',Fr F0 w w'->K true w'):z3j_sh s K w:=by
 have hvl:=hv.len
 have hvl:s.l=4:=hvl
 refine⟨fi ?_⟩
 refine⟨q01,⟨⟨fun i u=>∃k:Nat,i=(k:Int)/\k<=3/\Fr F0 w u,fun i _=>i.toNat,⟨3,oo,Ju _,Fr.refl⟩,?_⟩⟩⟩
 rintro _ u ⟨k,rfl,hk,f⟩
 refine fi ?_
 refine q00.2 ⟨fun hlt=>?_,fun hge=>hK _ f⟩
 intro u1
 have f:Fr F0 w u1:=f.t Fr.drew
 clear_value u1
 have hvu:=hv.fr f
 refine⟨fun u=>Vw 1 encI u s [a,b,c,d],hvu,?_⟩
 have hlen:[a,b,c,d].length=4:=rfl
 refine Vw.goS (enc:=encI) (S:=fun u=>Vw 1 encI u s [a,b,c,d]) (fun _=>rfl) od hvu (fun v hv=>hv) k rfl oo fun ad hc=>?_
 refine⟨_,hc 0 _ rfl,q01,?_⟩
 refine Vw.goS (enc:=encI) (S:=fun u=>Vw 1 encI u s [a,b,c,d]) (fun _=>rfl) od hvu (fun v hv=>hv) (k-1) oo oo fun ad hd=>?_
 refine⟨_,hd 0 _ rfl,qnx ?_⟩
 have hle:∀(k:Nat) (h0:0<k) (h1:k<[a,b,c,d].length) (h2:k-1<[a,b,c,d].length),¬[a,b,c,d][k]<[a,b,c,d][k-1]:=fun k h0 h1 h2=>match k,h0,h1,h2 with
  | 1,_,_,_=>by show ¬b<a;omega
  | 2,_,_,_=>by show ¬c<b;omega
  | 3,_,_,_=>by show ¬d<c;omega
  | k+4,_,h,_=>absurd h (by rw[hlen];omega)
 rw[decide_eq_false (hle k oo oo oo)]
 exact q0h ⟨q01,⟨⟨rfl,trivial⟩,k-1,oo,oo,f⟩,uo⟩
theorem qed{K:Int->World->Prop}(T:TP w x t)(R:q0m t)(C:ChkT t)(g:GlT w)(hK:∀w',Fr F0 w w'->K 0 w'):z4m_sh x K w:=by
 have hcl:=R.crit
 obtain⟨b,hu⟩:=C.unit
 have hF:FR t.fm:=⟨R.fm.1,R.fm.2.1,R.fm.2.2⟩
 refine⟨fi ?_⟩
 intro w1
 have m:Mem w w1 [(w.heap.size,x.cs)]:=Mem.nil.allocL
 clear_value w1
 generalize w.heap.size=tb at m ⊢
 refine T43.ld_row (m.row 0) ⟨_,m.ld 0,_,m.ld 0,_,m.ld 0,_,m.ld 0,_,m.ld 0,?_⟩
 refine qnq (T.fm.fr m.1) hu hF (g.fr m.1) (T.fr m.1) oo fun w2 f2=>?_
 have m:=m.fr f2
 refine q08 (q0h ⟨fi ?_⟩)
 simp -zeta only[q04]
 refine q08 (T43.ld_row (m.row 0) ⟨_,m.ld 0,_,m.ld 0,_,m.ld 0,_,m.ld 0,_,m.ld 0,?_⟩)
 cases hr:q0s t t.fm with
 | none=>have:=C.rg;rw[hr]at this;cases this
 | some p=>exact q77 (T.fm.fr m.1) hr hF (g.fr m.1) R (T.fr m.1) fun w3 f3=>hK w3 (m.1.t f3)
end
section
variable{w w' w0:World}{t:Td}{x:T43}{s:Sl}{tb:Nat}{K:ByteArray->Int->World->Prop}
structure CC(w0:World)(x:T43)(t:Td):Prop where
 T:TP w0 x t
 R:q0m t
 C:ChkT t
 g:GlT w0
theorem qul{a:Int×Int}(r:Row w tb x.cs)(T:TP w x t):Dcs F0 (Value.func (.func 41) #[] #[(Value.pointer (some (Addr.mk tb 0 none)))]) w [.agg #[.int .i64 a.1,.int .i64 a.2]] (decide (a.2<t.low)):=fun u K hu hK=>by
 refine q02 z4h_ok (show z4h_sh _ _ _ _ u from⟨fi ?_⟩)
 intro w1
 have m:Mem u w1 [(u.heap.size,encL a)]:=Mem.nil.allocL
 clear_value w1
 have r1:=m.1.row (hu.row r fun h=>h) fun h=>h
 simp -zeta only[q04]
 refine⟨_,m.ld 0,_,r1.at,?_⟩
 rw[T.low]
 exact hK _ m.1
theorem qum{a:Int×Int}{b:Nat}{n:Int}(r:Row w b [Value.int .i64 n]):Dcs F0 (Value.func (.func 46) #[] #[(Value.pointer (some (Addr.mk b 0 none)))]) w [.agg #[.int .i64 a.1,.int .i64 a.2]] (a.1==n):=fun u K hu hK=>by
 refine q02 z4i_ok (show z4i_sh _ _ _ _ u from⟨fi ?_⟩)
 intro w1
 have m:Mem u w1 [(u.heap.size,encL a)]:=Mem.nil.allocL
 clear_value w1
 have r1:=m.1.row (hu.row r fun h=>h) fun h=>h
 exact⟨_,m.ld 0,_,r1.at,hK _ m.1⟩
theorem qr8{s:Sl}{l:List Int}(c:CC w0 x t)(m:Mem w0 w [(tb,x.cs)])(hv:Vw 1 encI w s l)(hl:l.length<2^20)(hi:∀i∈l,∃m∈t.lots,m.1=i)(hK:∀w',Fr F0 w0 w'->K (str []) 0 w'):z62_l3 ⟨tb,0,none⟩ s (s.l:Int) (0:Int) K w:=by
 have hvl:=hv.len
 have hll:=c.R.lots.2
 refine⟨⟨fun i u=>∃k:Nat,i=(k:Int)/\k<=l.length/\Fr F0 w u,fun i _=>l.length-i.toNat,⟨0,rfl,Jt _,Fr.refl⟩,?_⟩⟩
 rintro _ u ⟨k,rfl,hk,f⟩
 have m:=m.fr f
 refine fi ?_
 refine q00.2 ⟨fun hlt=>?_,fun hge=>?_⟩
 ·have hkl:k<l.length:=oo
  refine ldI (hv.fr f) k rfl hkl ?_
  obtain⟨a,ha,hai⟩:=hi _ (J1 hkl)
  generalize l[k]=n at *
  intro w1
  have n1:Mem u w1 [(u.heap.size,[Value.int .i64 (0:Int)])]:=Mem.nil.allocL (cs:=[Value.int .i64 (0:Int)])
  clear_value w1
  refine⟨n1.wr 0,?_⟩
  intro w2
  have n1:Mem u w2 [(u.heap.size,[Value.int .i64 n])]:=n1.set (i:=0) (v:=.int .i64 n) 0
  clear_value w2
  have m:=m.fr n1.1
  simp -zeta only[q04]
  refine⟨_,m.ld 0,?_⟩
  refine q1l (p:=fun a=>a.1==n) (c.T.lots.fr m.1) oo (fun a _=>qum (n1.row 0)) fun w3 f3=>?_
  have:t.lots.any (fun a=>a.1==n)=true:=List.any_eq_true.2 ⟨a,ha,by simp[hai]⟩
  rw[this]
  exact q0h ⟨q01,⟨⟨trivial,trivial,trivial,trivial⟩,k+1,oo,oo,(f.t n1.1).t f3⟩,oo⟩
 ·simp -zeta only[q04]
  refine⟨_,m.ld 0,_,m.ld 0,_,m.ld 0,_,m.ld 0,?_⟩
  rw[c.T.t1,c.T.t2,c.T.t3,c.T.t4]
  intro w1
  have hv:Vw 1 encI w1 ⟨some ⟨u.heap.size,0,none⟩,4,4⟩ [t.t1,t.t2,t.t3,t.t4]:=(Row.ow (l:=[t.t1,t.t2,t.t3,t.t4]) (enc:=encI) (n:=1) (fun _=>rfl) Row.new).vw
  have f1:Fr F0 u w1:=Fr.alloc
  clear_value w1
  refine qgw hv c.C.t12 c.C.t23 c.C.t34 fun w2 f2=>?_
  exact q0h (hK w2 (m.1.t (f1.t f2)))
theorem qr9(c:CC w0 x t)(m:Mem w0 w [(tb,x.cs)])(hK:∀w',Fr F0 w0 w'->K (str []) 0 w'):z62_l2 ⟨tb,0,none⟩ x.f11 (x.f11.l:Int) (0:Int) K w:=by
 have hv:=c.T.ties.fr m.1
 have hvl:=hv.len
 have hcl:=c.R.crit
 have htl:=c.R.ties
 refine⟨⟨fun i u=>∃k:Nat,i=(k:Int)/\k<=t.ties.length/\Fr F0 w u,fun i _=>t.ties.length-i.toNat,⟨0,rfl,Jt _,Fr.refl⟩,?_⟩⟩
 rintro _ u ⟨k,rfl,hk,f⟩
 have m:=m.fr f
 refine fi ?_
 refine q00.2 ⟨fun hlt=>?_,fun hge=>?_⟩
 ·have hkl:k<t.ties.length:=oo
  refine ldB (hv.fr f) k rfl hkl ?_
  obtain⟨h1,h2⟩:=c.C.tie _ (J1 hkl)
  generalize t.ties[k]=n at *
  refine T43.ld_row (m.row 0) ?_
  refine q5o (c.T.fr m.1) oo fun w1 f1=>?_
  cases hb:bndQ t n with
  | none=>grind
  | some p =>
   show cnd (!true) _ _
   refine q0h ?_
   rw[show str [108,111,119]=ofL wLow from rfl,q0c,decide_eq_false h2]
   exact q0h ⟨q01,⟨⟨rfl,rfl,rfl,trivial⟩,k+1,oo,oo,f.t f1⟩,uo⟩
 ·simp -zeta only[q04]
  refine⟨_,m.ld 0,?_⟩
  have hco:=c.R.combos
  refine qgv (L:=t.combos) (by
   obtain⟨Z,h1,h2,h3⟩:=c.T.combos
   exact⟨Z,h1.fr m.1,h2,fun i hi hi'=>(h3 i hi hi').fr m.1⟩) hco (fun l hl=>(c.R.comboN l hl).2.1) fun r w1 f1 hr=>?_
  have hfl:∀(L:List (List Int)),L.length<=12->(∀l∈L,l.length<=12)->L.flatten.length<=12*L.length:=by
   intro L _ h
   induction L with
   | nil=>simp
   | cons a L ih=>grind
  have hfl:=hfl t.combos hco fun l hl=>(c.R.comboN l hl).2.1
  refine qr8 c (m.fr f1) hr oo (fun i hi=>?_) hK
  obtain⟨l,hl,hil⟩:=List.mem_flatten.1 hi
  exact c.C.combo l hl i hil
theorem qra(c:CC w0 x t)(m:Mem w0 w [(tb,x.cs)])(hK:∀w',Fr F0 w0 w'->K (str []) 0 w'):z62_l1 ⟨tb,0,none⟩ x.f3 (x.f3.l:Int) (0:Int) K w:=by
 have hv:=c.T.reqs.fr m.1
 have hvl:=hv.len
 have hcl:=c.R.crit
 have htl:=c.R.reqs
 refine⟨⟨fun i u=>∃k:Nat,i=(k:Int)/\k<=t.reqs.length/\Fr F0 w u,fun i _=>t.reqs.length-i.toNat,⟨0,rfl,Jt _,Fr.refl⟩,?_⟩⟩
 rintro _ u ⟨k,rfl,hk,f⟩
 have m:=m.fr f
 refine fi ?_
 refine q00.2 ⟨fun hlt=>?_,fun hge=>?_⟩
 ·have hkl:k<t.reqs.length:=oo
  refine ldRq (hv.fr f) k rfl hkl ?_
  have hrq:=c.C.rq _ (J1 hkl)
  generalize t.reqs[k]=r0 at *
  refine q1u (vs:=encR r0) rfl Mem.nil fun w1 n1=>?_
  have m:=m.fr n1.1
  refine T43.ld_row (m.row 0) ⟨_,n1.ld 0,_,n1.ld 0,_,n1.ld 0,?_⟩
  refine qck (c.T.fr m.1) oo hrq fun w2 f2=>?_
  exact q0h ⟨q01,⟨⟨rfl,rfl,rfl,trivial⟩,k+1,oo,oo,(f.t n1.1).t f2⟩,uo⟩
 ·refine T43.ld_row (m.row 0) ?_
  refine qed (c.T.fr m.1) c.R c.C (c.g.fr m.1) fun w1 f1=>?_
  have m:=m.fr f1
  simp -zeta only[q04]
  exact q0h ⟨_,m.ld 0,qr9 c m hK⟩
theorem qrb(c:CC w0 x t)(m:Mem w0 w [(tb,x.cs)])(hK:∀w',Fr F0 w0 w'->K (str []) 0 w'):z62_l0 ⟨tb,0,none⟩ x.f2 (x.f2.l:Int) (0:Int) K w:=by
 have hv:=c.T.crit.fr m.1
 have hvl:=hv.len
 have hcl:=c.R.crit
 have hll:=c.R.lots
 refine⟨⟨fun i u=>∃k:Nat,i=(k:Int)/\k<=t.crit.length/\Fr F0 w u,fun i _=>t.crit.length-i.toNat,⟨0,rfl,Jt _,Fr.refl⟩,?_⟩⟩
 rintro _ u ⟨k,rfl,hk,f⟩
 have m:=m.fr f
 refine fi ?_
 refine q00.2 ⟨fun hlt=>?_,fun hge=>?_⟩
 ·have hkl:k<t.crit.length:=oo
  refine ldCr (hv.fr f) k rfl hkl ?_
  have hc:=c.C.cr _ (J1 hkl)
  generalize t.crit[k]=c0 at *
  refine q1u (vs:=encC c0) rfl Mem.nil fun w1 n1=>?_
  refine⟨_,n1.ld 0,_,n1.ld 0,q00.2 ⟨fun h=>absurd hc oo,fun _=>?_⟩⟩
  exact⟨q01,⟨⟨rfl,rfl,rfl,trivial⟩,k+1,oo,oo,f.t n1.1⟩,uo⟩
 ·simp -zeta only[q04]
  refine⟨_,m.ld 0,_,m.ld 0,?_⟩
  rw[c.T.low,c.T.high]
  refine q00.2 ⟨fun h=>absurd c.C.lh oo,fun _=>⟨_,m.ld 0,?_⟩⟩
  refine q1l (p:=fun a=>decide (a.2<t.low)) (c.T.lots.fr m.1) oo (fun a _=>qul (m.row 0) (c.T.fr m.1)) fun w1 f1=>?_
  have m:=m.fr f1
  have:t.lots.any (fun a=>decide (a.2<t.low))=false:=by
   rw[List.any_eq_false]
   intro a ha
   have:=c.C.lot a ha
   simp;omega
  rw[this]
  exact q0h ⟨_,m.ld 0,qra c m hK⟩
theorem qav(T:TP w x t)(R:q0m t)(C:ChkT t)(hl:(q0f t).length<=4000)(g:GlT w)(gm:Gm w)(hK:∀w',Fr F0 w w'->K (str []) 0 w'):z62_sh x K w:=by
 refine⟨fi ?_⟩
 intro w1
 have m:Mem w w1 [(w.heap.size,x.cs)]:=Mem.nil.allocL
 clear_value w1
 generalize w.heap.size=b0 at m ⊢
 refine T43.ld_row (m.row 0) ?_
 refine qk6 (T.fr m.1) R hl (g.fr m.1) (gm.fr m.1) fun w2 f2=>?_
 have m:=m.fr f2
 have hne:q0f t≠[]:=by
  unfold q0f q0a
  simp_all
 rw[show str []=ofL []from rfl,q0c,decide_eq_false hne]
 exact q0h ⟨_,m.ld 0,qrb ⟨T,R,C,g⟩ m hK⟩
end
end Go.Proofs.YtmfkimnmklnppaaGreatDoor
namespace Dp
open Go Pw
structure EF(p:FP)(e:En):Prop where
 nm:e.vals.map (·.1)=p.crits.map (·.2)
 vb:∀x∈e.vals,x.2.natAbs<=30
 lo:p.low<=e.p
 hi:e.p<=p.high
theorem q5p:∀ {e:Fm},e.four=true->e.formed=true
 | .num n d,h=>by
  unfold Fm.four at h
  simp only[Jw]at h
  exact decide_eq_true (q8v h.1)
 | .name s,h=>by
  have:=q1y h
  unfold Fm.formed
  cases s with
  | nil=>cases this
  | cons c r=>rfl
 | .op o a b,h=>by
  unfold Fm.four at h
  simp only[Jw]at h
  unfold Fm.formed
  rw[q5p h.2.1,q5p h.2.2]
  rfl
def vlsQ(e:En)(low:Int):List Vl:=(wPrice,e.p)::(wLow,low)::e.vals
theorem qgx{l:List Vl}{s:B}(h:s∈l.map (·.1)):∃v,l.find? (fun v=>decide (v.1=s))=some v/\v∈l:=by
 obtain⟨x,hx,e⟩:=J5.1 h
 have:(l.find? (fun v=>decide (v.1=s))).isSome=true:=oz
 obtain⟨v,hv⟩:=Jx.1 this
 grind
theorem qcp{p:FP}{e:En}(E:EF p e)(low:Int){c:FC×B}(hc:c∈p.crits):∃v,(vlsQ e low).find? (fun v=>decide (v.1=c.2))=some v/\v.2.natAbs<=30/\e.vals.find? (fun v=>decide (v.1=c.2))=some v:=by
 have hn:=(q1z _ (q0p hc).2).2
 obtain⟨v,hv,hm⟩:=qgx (l:=e.vals) (s:=c.2) (by rw[E.nm];exact J5.2 ⟨c,hc,rfl⟩)
 refine⟨v,?_,E.vb v hm,hv⟩
 unfold vlsQ
 grind
def addC(vs:List Vl):List (FC×B)->Rat
 | []=>0
 | c::l=>(if c.1.less then-(val c.1.n c.1.d*mkRat ((valF vs c.2).getD 0) 1)else val c.1.n c.1.d*mkRat ((valF vs c.2).getD 0) 1)+addC vs l
theorem qiw(vs:List Vl):∀(l:List (FC×B)) (q:Rat),sumC vs q l=q+addC vs l
 | [],q=>by unfold sumC addC;grind
 | c::l,q=>by
  unfold sumC addC
  rw[qiw vs l]
  split<;>grind
theorem qee{vs vs':List Vl}:∀ {l:List (FC×B)},(∀c∈l,valF vs c.2=valF vs' c.2)->addC vs l=addC vs' l
 | [],_=>rfl
 | c::l,h=>by
  unfold addC
  rw[h c og,qee (l:=l) fun d hd=>h d (by simp[hd])]
theorem qrc{p:FP}{e:En}(E:EF p e)(low:Int){c:FC×B}(hc:c∈p.crits):valF (vlsQ e low) c.2=valF e.vals c.2:=by
 obtain⟨v,h1,_,h2⟩:=qcp E low hc
 unfold valF
 rw[h1,h2]
def ptF(p:FP)(e:En):Rat:=q7g p.k p.high e.p+addC e.vals p.crits
theorem q81{p:FP}(h:p.Ok){e:En}(E:EF p e)(lot low:Int):ptsQ (q0e (q05 p) lot) e low=(((ptF p e).num,((ptF p e).den:Int)),0):=by
 have k0:=h.low
 have k1:=h.high
 have e1:=E.lo
 have e2:=E.hi
 have hf:=qmd h
 have hw:p.fm.wrong=0:=by unfold Fm.wrong;rw[if_pos hf.2,if_pos (q5p hf.1)]
 have g0:=fm0_ev (vs:=vlsQ e low) (k:=p.k) (h:=p.high) (v:=(wPrice,e.p)) h.k oo (by unfold vlsQ;rw[List.find?_cons_of_pos og]) oo e2
 obtain⟨M,g,_⟩:=qfw (c4:=400) rfl (H:=p.high.toNat) oo oo p.crits g0 (by have:=q6a h;omega) fun c hc=>⟨h.c _ (q0p hc).1,by
  obtain⟨v,h1,h2,_⟩:=qcp E low hc
  grind⟩
 have hs:sumC (vlsQ e low) (q7g p.k p.high e.p) p.crits=ptF p e:=by
  rw[qiw,qee fun c hc=>qrc E low hc]
  rfl
 show p.fm.evE (vlsQ e low)=_
 unfold Fm.evE
 rw[if_pos hw]
 have:=g.1
 rw[hs]at this
 show(match(p.crits.foldl fmS (fm0 p.k p.high)).ev (vlsQ e low)with
 | .ok x=>(x,0)
 | .error c=>((0,0),c))=_
 rw[this]
def qa1(p:FP)(lot:Int)(es:List En):List Dp.Sc:=(es.filter fun x=>decide (admQ (q0e (q05 p) lot) x=0)).map fun x=>(x,(ptF p x).num,((ptF p x).den:Int))
theorem qny{p:FP}(h:p.Ok){es:List En}(hE:∀e∈es,EF p e)(lot low:Int):qec (q0e (q05 p) lot) low es=qa1 p lot es:=by
 unfold qec qa1
 induction es with
 | nil=>rfl
 | cons a l ih =>
  have ha:=hE a og
  have ih:=ih fun e he=>hE e (by simp[he])
  by_cases hz:admQ (q0e (q05 p) lot) a=0
  ·have e1:ptsA (q0e (q05 p) lot) low a=(((ptF p a).num,((ptF p a).den:Int)),0):=by unfold ptsA;rw[if_pos hz,q81 h ha]
   grind
  ·have e1:ptsA (q0e (q05 p) lot) low a=((0,0),admQ (q0e (q05 p) lot) a):=by unfold ptsA;rw[if_neg hz]
   grind
theorem qef{α β:Type}(f:α->β):∀ {l:List α},(l.map f).Nodup->∀ {a b:α},a∈l->b∈l->f a=f b->a=b
 | c::l,h,a,b,ha,hb,e=>by
  rw[Jg,Ja]at h
  rcases J4.1 ha with ha|ha<;>rcases J4.1 hb with hb|hb
  ·rw[ha,hb]
  ·grind
  ·grind
  ·exact qef f h.2 ha hb e
theorem qun{p:FP}{es:List En}(hE:∀e∈es,EF p e)(hr:(es.map (·.r)).Nodup)(lot:Int):Od (cmpS (q0e (q05 p) lot)) (qa1 p lot es):=by
 refine qui (fun x hx=>?_) fun x hx y hy e=>?_
 ·obtain⟨a,ha,rfl⟩:=J5.1 hx
  have E:=hE a (J8.1 ha).1
  refine⟨fun c hc=>?_,q07 _⟩
  obtain⟨d,hd,rfl⟩:=J5.1 (show c∈p.crits.map crOf from hc)
  obtain⟨v,_,_,h2⟩:=qcp E 0 hd
  show(valF a.vals d.2).isSome=true
  unfold valF
  rw[h2]
  rfl
 ·obtain⟨a,ha,rfl⟩:=J5.1 hx
  obtain⟨b,hb,rfl⟩:=J5.1 hy
  rw[qef (fun e:En=>e.r) hr (J8.1 ha).1 (J8.1 hb).1 e]
theorem qaw{p:FP}(h:p.Ok){es:List En}(hE:∀e∈es,EF p e)(lot:Int):q18 (q2d (q0e (q05 p) lot) es)=(q39 (cmpS (q0e (q05 p) lot)) (qa1 p lot es) (qa1 p lot es).length).map (·.1.b):=by
 obtain⟨low,e⟩:=qka (q0e (q05 p) lot) es
 rw[qny h hE]at e
 exact e
theorem nodup_of_map{α β:Type}(f:α->β):∀ {l:List α},(l.map f).Nodup->l.Nodup
 | [],_=>List.nodup_nil
 | a::l,h=>by
  rw[Jg,Ja]at h
  rw[Ja]
  exact⟨fun ha=>h.1 (J5.2 ⟨a,ha,rfl⟩),nodup_of_map f h.2⟩
theorem qnz{p:FP}(h:p.Ok){es:List En}(hE:∀e∈es,EF p e)(hr:(es.map (·.r)).Nodup)(lot:Int)(f:Int->Bool) :
  q18 (q2d (q0e (q05 p) lot) (es.filter fun e=>f e.b))=(q18 (q2d (q0e (q05 p) lot) es)).filter f:=by
 rw[qaw h hE,qaw h fun e he=>hE e (J8.1 he).1]
 have hnd:(qa1 p lot es).Nodup:=by
  refine nodup_of_map (fun x:Dp.Sc=>x.1.r) ?_
  unfold qa1
  grind
 have e1:qa1 p lot (es.filter fun e=>f e.b)=(qa1 p lot es).filter fun x=>f x.1.b:=by
  unfold qa1
  rw[Jq,Jn,Jn]
  grind
 rw[e1,qeb (qun hE hr lot) hnd fun x=>f x.1.b,Jq]
 rfl
theorem qeg:∀(k:Nat) (l:List Dp.Sc) (i:Nat) (h:i<(q2a k l).length),(q2a k l)[i].place=((k+i:Nat):Int)+1
 | k,x::l,0,_=>rfl
 | k,x::l,i+1,h=>by
  have:=qeg (k+1) l i (by simpa [q2a]using h)
  show((q2a (k+1) l)[i]'oz).place=_
  omega
theorem qgy(t:Rv)(es:List En):∀(i:Nat) (_:i<(q18 (q2d t es)).length) (h:i<(q2d t es).length),(q2d t es)[i].place=(i:Int)+1:=by
 intro i hi h
 obtain⟨_,h2⟩:=q6l t (lowQ t es).1 es [] []
 have h3:=h2 fun r hr=>by cases hr
 unfold q2d splQ at hi h ⊢
 unfold q18 at hi
 rw[Jl,Jc]at hi
 have e:(es.foldl (splS t (lowQ t es).1) ([],[])).2.filter (fun x=>decide (x.out=0)&&decide (x.place>0))=[]:=ud
 rw[e,Js,Ji,List.length_map]at hi
 have hp:=Nat.lt_of_lt_of_le hi (List.length_filter_le _ _)
 rw[List.getElem_append_left hp,qeg]
 omega
theorem qgz{k h x y:Int}(hk:0<=k)(hh:0<h)(hxy:x<=y):q7g k h y<=q7g k h x:=by
 unfold q7g
 have e:∀n:Int,mkRat n 1=(n:Rat):=fun n=>by rw[Rat.mkRat_eq_div];show(n:Rat)/1=n;grind
 rw[e,e,e,e]
 have h0:(0:Rat)<(h:Rat):=by exact_mod_cast hh
 have h1:((h-y:Int):Rat)<=((h-x:Int):Rat):=by
  rw[Rat.intCast_le_intCast];omega
 have hk':(0:Rat)<=(k:Rat):=by
  rw[←Rat.intCast_zero,Rat.intCast_le_intCast];exact hk
 rw[Rat.div_def,Rat.div_def]
 exact Rat.mul_le_mul_of_nonneg_left (Rat.mul_le_mul_of_nonneg_right h1 (Rat.le_of_lt (Rat.inv_pos.2 h0))) hk'
theorem qeh{p:FP}(h:p.Ok){e:En}{x:Int}(hx:x<=e.p):0<=cmpQ (ptF p { e with p:=x }).num ((ptF p { e with p:=x }).den:Int) (ptF p e).num ((ptF p e).den:Int):=by
 have k0:=h.low
 have k1:=h.high
 have hk:=h.k
 have hm:=qgz (k:=p.k) (h:=p.high) oo oo hx
 have hle:ptF p e<=ptF p { e with p:=x }:=by
  show q7g p.k p.high e.p+addC e.vals p.crits<=q7g p.k p.high x+addC e.vals p.crits
  grind
 have:=(q80 (q07 (ptF p { e with p:=x })) (q07 (ptF p e))).2
 rw[q0j,q0j]at this
 grind
instance (a b:Int):Decidable (inN a b):=inferInstanceAs (Decidable (_/\_))
def sanT(f:Fm):Td:=⟨[116],[(1,30)],[⟨q1h,1,0,10,false⟩],[],1,30,f,[wPrice,q1h],0,[],99,10,20,30,40,5⟩
def san1:Fm:=.op 0 (.op 3 (.op 1 (.num 30 1) (.name wPrice)) (.num 30 1)) (.name q1h)
def san2:Fm:=.op 0 (.op 3 (.name wLow) (.name wPrice)) (.op 3 (.name q1h) (.num 10 1))
theorem qei{f:Fm}(h:f.four=true/\f.parts<=60/\f.depth<=12):q0m (sanT f) where
 name:=by show q0w [116]=true;decide
 lots:=by show 1<=1/\1<=12;decide
 lotN:=by show ∀l∈([(1,30)]:List (Int×Int)),inN 1 l.1/\inN 0 l.2;decide
 lotD:=by show([(1,30)]:List (Int×Int)).Pairwise fun a b=>a.1≠b.1;exact J6 _ _
 crit:=by show 1<=12;decide
 critN:=fun c hc=>by
  rw[Jo.1 (show c∈[_]from hc)]
  decide
 critD:=J6 _ _
 reqs:=by show 0<=24;decide
 reqN:=fun r hr=>by cases(show r∈[]from hr)
 fm:=h
 ties:=by show 2<=12;decide
 tieN:=by show ∀s∈[wPrice,q1h],s=wPrice\/q1e s=true;decide
 tieD:=by show [wPrice,q1h].Nodup;decide
 combos:=by show 0<=12;decide
 comboN:=fun l hl=>by cases(show l∈[]from hl)
 low:=by show inN 0 1;decide
 high:=by show inN 0 30;decide
 most:=by show inN 0 0;decide
 budget:=by show inN 0 99;decide
 t1:=by show inN 0 10;decide
 t2:=by show inN 0 20;decide
 t3:=by show inN 0 30;decide
 t4:=by show inN 0 40;decide
 t5:=by show inN 0 5;decide
theorem qo0:san1.four=true/\san1.parts<=60/\san1.depth<=12:=by decide +kernel
theorem qo1:san2.four=true/\san2.parts<=60/\san2.depth<=12:=by decide +kernel
theorem qo2{f:Fm}(h1:∃b,q3h (sanT f) f=some (0,b))(h2:(q0s (sanT f) f).isSome=true):ChkT (sanT f) where
 cr:=fun c hc=>by
  rw[Jo.1 (show c∈[_]from hc)]
  decide
 lh:=by show(1:Int)<=30;decide
 lot:=by show ∀l∈([(1,30)]:List (Int×Int)),(1:Int)<=l.2;decide
 rq:=fun r hr=>by cases(show r∈[]from hr)
 unit:=h1
 rg:=h2
 tie:=fun s hs=>by
  simp only[sanT,J4,Jp,or_false]at hs
  rcases hs with rfl|rfl
  ·exact⟨rfl,od⟩
  ·exact⟨rfl,od⟩
 combo:=fun l hl=>by cases(show l∈[]from hl)
 t12:=by show(10:Int)<=20;decide
 t23:=by show(20:Int)<=30;decide
 t34:=by show(30:Int)<=40;decide
theorem chk1:ChkT (sanT san1):=qo2 ⟨false,by decide +kernel⟩ (by decide +kernel)
theorem chk2:ChkT (sanT san2):=qo2 ⟨false,by decide +kernel⟩ (by decide +kernel)
theorem qup:q45 (sanT san1)=true:=by decide +kernel
theorem quq:q45 (sanT san2)=true:=by decide +kernel
theorem nolow1:wLow∉san1.namesR:=by decide +kernel
theorem low2:wLow∈san2.namesR:=by decide +kernel
theorem qrd:q3d (sanT san1)=true:=by decide +kernel
def sanE(s1 s2:Sl):List En:=[⟨5,1,1,20,s1,[(q1h,8)]⟩,⟨6,1,2,5,s2,[(q1h,8)]⟩]
theorem qo3(s1 s2:Sl):((q2d (q0e (sanT san1) 1) (sanE s1 s2))[0]?).map (fun r=>(r.b,r.place))=some (6,1):=by
 kernel_rfl
def trI(x:Bool×Bool):Int:=(if x.1 then 1 else 0)+(if x.2 then 2 else 0)
theorem q7n(x y:Bool×Bool):IntKind.wrap .i64 (((BitVec.ofInt (IntKind.bits .i64) (trI x) ||| BitVec.ofInt (IntKind.bits .i64) (trI y))).toNat:Int)=trI (orT x y):=by
 rcases x with⟨_|_,_|_⟩<;>rcases y with⟨_|_,_|_⟩<;>decide +kernel
theorem qur(x:Bool×Bool):IntKind.wrap .i64 (((BitVec.ofInt (IntKind.bits .i64) (IntKind.wrap .i64 ((IntKind.wrap .i64 (((BitVec.ofInt (IntKind.bits .i64) (trI x) &&& BitVec.ofInt (IntKind.bits .i64) (1:Int))).toNat:Int))*2^(min 1 (IntKind.bits .i64)))) ||| BitVec.ofInt (IntKind.bits .i64) (Int.fdiv (IntKind.wrap .i64 (((BitVec.ofInt (IntKind.bits .i64) (trI x) &&& BitVec.ofInt (IntKind.bits .i64) (2:Int))).toNat:Int)) (2^(min 1 (IntKind.bits .i64)))))).toNat:Int)=trI (revT x):=by
 rcases x with⟨_|_,_|_⟩<;>decide +kernel
theorem qsq(x:Bool×Bool):IntKind.wrap .i64 (((BitVec.ofInt (IntKind.bits .i64) (trI x) &&& BitVec.ofInt (IntKind.bits .i64) (1:Int))).toNat:Int)=trI (x.1,false):=by
 rcases x with⟨_|_,_|_⟩<;>decide +kernel
theorem qre(x:Bool×Bool):IntKind.wrap .i64 (((BitVec.ofInt (IntKind.bits .i64) (trI x) &&& BitVec.ofInt (IntKind.bits .i64) (2:Int))).toNat:Int)=trI (false,x.2):=by
 rcases x with⟨_|_,_|_⟩<;>decide +kernel
theorem q82(x:Bool×Bool):(trI x==(0:Int))=decide (x=noT):=by
 rcases x with⟨_|_,_|_⟩<;>decide +kernel
def q0z(t:Td):List (Int×Int):=(t.low,t.high)::t.crit.map fun c=>(c.low,c.high)
end Dp
namespace Go.Proofs.YtmfkimnmklnppaaGreatDoor
open Go Pw Dp
theorem T43.lds_pre{S:World->Prop}{b:Nat}{x:T43}{l:List Value}{K:T43->Prop}(h:∀w,S w->Row w b (x.cs++l))(hK:K x):T43.lds S ⟨b,0,none⟩ K:=by
 have k:∀i v,x.cs[i]?=some v->∀w,S w->w.cell? ⟨b,i,none⟩=some v:=fun i v hv w hw=>(h w hw).at oz
 exact⟨_,fun w hw=>k 0 _ rfl w hw,_,fun w hw=>k 1 _ rfl w hw,_,fun w hw=>k 2 _ rfl w hw,_,fun w hw=>k 3 _ rfl w hw,_,fun w hw=>k 4 _ rfl w hw,_,fun w hw=>k 5 _ rfl w hw,_,fun w hw=>k 6 _ rfl w hw,_,fun w hw=>k 7 _ rfl w hw,_,fun w hw=>k 8 _ rfl w hw,_,fun w hw=>k 9 _ rfl w hw,_,fun w hw=>k 10 _ rfl w hw,_,fun w hw=>k 11 _ rfl w hw,_,fun w hw=>k 12 _ rfl w hw,_,fun w hw=>k 13 _ rfl w hw,_,fun w hw=>k 14 _ rfl w hw,_,fun w hw=>k 15 _ rfl w hw,_,fun w hw=>k 16 _ rfl w hw,_,fun w hw=>k 17 _ rfl w hw,_,fun w hw=>k 18 _ rfl w hw,_,fun w hw=>k 19 _ rfl w hw,hK⟩
section
variable{w w' w0:World}{t:Td}{x:T43}{rb:Nat}{lf:Int}{mp:Option Nat}
def RB(w:World)(rb:Nat)(x:T43)(lf:Int)(mp:Option Nat):Prop:=Row w rb (x.cs++[.int .i64 lf,.map mp])
theorem RB.fr(h:RB w rb x lf mp)(f:Fr F0 w w'):RB w' rb x lf mp:=Row.congr h (f.2.1 rb (Row.lt h) fun h=>h)
theorem RB.at(h:RB w rb x lf mp){i:Nat}{v:Value}(hv:x.cs[i]?=some v):w.cell? ⟨rb,i,none⟩=some v:=Row.at h oz
theorem qkd{K:Option Addr->Bool->World->Prop}(T:TP w x t)(R:q0m t)(C:ChkT t)(hl:(q0f t).length<=4000)(g:GlT w)(gm:Gm w)(hK:∀w' rb,Fr F0 w w'->w.heap.size<=rb->RB w' rb x 0 none->K (some ⟨rb,0,none⟩) true w'):z5j_sh x K w:=by
 refine⟨fi ?_⟩
 intro w1
 have m:Mem w w1 [(w.heap.size,x.cs)]:=Mem.nil.allocL
 clear_value w1
 generalize w.heap.size=b0 at m ⊢
 refine T43.ld_row (m.row 0) ?_
 refine qav (T.fr m.1) R C hl (g.fr m.1) (gm.fr m.1) fun w3 f3=>?_
 have m:=m.fr f3
 refine T43.ld_row (m.row 0) ?_
 have hsz:=m.1.1
 intro w7
 have m:Mem w w7 [(w3.heap.size,x.cs++[.int .i64 0,.map none]),(b0,x.cs)]:=m.allocL (cs:=x.cs++[.int .i64 0,.map none])
 exact hK w7 _ m.1 hsz (m.row 0)
theorem q78{K:Sl->World->Prop}(T:TP w x t)(hb:RB w rb x lf mp)(hl:t.crit.length<=12)(hK:∀w' s,Fr F0 w w'->Ow 2 encL w' s (q0z t)->(∀b,inB s b->w.heap.size<=b)->K s w'):z2a_sh (some ⟨rb,0,none⟩) K w:=by
 refine⟨fi ?_⟩
 intro w1
 have f1:Fr F0 w w1:=Fr.drew
 have hs1:w1.heap.size=w.heap.size:=rfl
 clear_value w1
 have hb1:=hb.fr f1
 simp -zeta only[q1j,q04]
 refine⟨fun u=>RB u rb x lf mp,hb1,_,fun u hu=>hu.at rfl,_,fun u hu=>hu.at rfl,?_⟩
 rw[T.low,T.high]
 intro w7
 have h:Sx w w7 _:=(Sx.nil f1).add (q:=(inB ⟨some ⟨w1.heap.size,0,none⟩,1,1⟩,fun u=>Ow 2 encL u ⟨some ⟨w1.heap.size,0,none⟩,1,1⟩ [(t.low,t.high)])) (w':=w7) Fr.alloc (q0b.ow _ _) (Ow.new rfl rfl) fun b ⟨a,ha,hb⟩=>by
  cases ha
  subst hb
  exact⟨Ju _,by simp[w7]⟩
 clear_value w7
 refine⟨hb.fr h.fr0,_,(hb.fr h.fr0).at rfl,?_⟩
 generalize(⟨some ⟨w1.heap.size,0,none⟩,1,1⟩:Sl)=s0 at h ⊢
 have hvl:=T.crit.len
 refine⟨⟨fun s i u=>∃k:Nat,i=(k:Int)/\k<=t.crit.length/\Sx w u [(inB s,fun u=>Ow 2 encL u s ((t.low,t.high)::(t.crit.take k).map fun c=>(c.low,c.high)))],fun _ i _=>t.crit.length-i.toNat,⟨0,rfl,Jt _,h⟩,?_⟩⟩
 rintro s _ u ⟨k,rfl,hk,h⟩
 refine fi ?_
 refine q00.2 ⟨fun hlt=>?_,fun hge=>?_⟩
 ·have hkl:k<t.crit.length:=oo
  refine ldCr (T.crit.fr h.fr0) k rfl hkl ?_
  have tk:(t.crit.take (k+1)).map (fun c=>(c.low,c.high))=(t.crit.take k).map (fun c=>(c.low,c.high))++[(t.crit[k].low,t.crit[k].high)]:=by
   rw[J2,J0 hkl,Jc]
   rfl
  generalize t.crit[k]=c0 at *
  refine h.box (vs:=encC c0) rfl fun w2 f2 h=>?_
  refine⟨_,h.ld 0 rfl rfl,_,h.ld 0 rfl rfl,?_⟩
  intro w3
  have hx:Vw 2 encL w3 ⟨some ⟨w2.heap.size,0,none⟩,1,1⟩ [(c0.low,c0.high)]:=Vw.new rfl rfl
  have h:Sx w w3 _:=h.fr Fr.alloc
  clear_value w3
  have hlk:((t.low,t.high)::(t.crit.take k).map fun c=>(c.low,c.high)).length=k+1:=oz
  refine h.app 1 rfl hx qc0 rfl oz oz fun r w4 h f4=>?_
  refine⟨q01,⟨⟨rfl,rfl,trivial⟩,k+1,oo,oo,?_⟩,uo⟩
  rw[tk]
  exact h.tail
 ·have hk':k=t.crit.length:=oo
  subst hk'
  rw[J3]at h
  exact hK u s h.fr0 (h.get 0 rfl) fun b hb=>(h.nw 0 _ rfl b hb).1
theorem q4v{K:Bool->World->Prop}(T:TP w x t)(hb:RB w rb x lf mp)(R:q0m t)(g:GlT w)(hK:∀w',Fr F0 w w'->K (decide (wLow∈t.fm.namesR)) w'):z17_sh (some ⟨rb,0,none⟩) K w:=by
 have hF:FR t.fm:=⟨R.fm.1,R.fm.2.1,R.fm.2.2⟩
 refine⟨fi ?_⟩
 simp -zeta only[q1j,q04]
 refine⟨_,hb.at rfl,_,hb.at rfl,_,hb.at rfl,_,hb.at rfl,_,hb.at rfl,?_⟩
 refine qg2 T.fm hF g fun w1 r l m hm hlen=>?_
 have hp:=hF.parts
 have e:decide (wLow∈t.fm.namesR)=decide (wLow∈l):=decide_eq_decide.2 (hm wLow).symm
 rw[e]at hK
 exact q1s m.ow.vw oo (hK w1 m.fr0)
end
