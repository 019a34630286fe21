/- Things that lie apart: rows of variables, a slice that grows, and what has been finished. Conditions: none. -/
import Derived.Test.YtipjnbbfnlfmjaaGreatDoorPWX
open Nat renaming lt_of_lt_of_le->J0
namespace Pw
open Go
theorem Mem.frF {w0 w w':World}{l:List (Nat × List Value)}{F:Nat->Prop}(h:Mem w0 w l)(hf:Fr F w w')(h1:∀ p∈l,¬F p.1)(h2:∀ b,F b->w0.heap.size<=b):Mem w0 w' l:=by
 obtain⟨h0,hr,hp,hb⟩:=h
 exact⟨h0.trans hf fun b hb hlt=>absurd (h2 b hb) (by omega),fun p hp=>hf.row (hr p hp) (h1 p hp),hp,hb⟩
def q2q (B:Nat->Prop)(Q:World->Prop):Prop:=∀ u u':World,(∀ b,B b->u'.heap[b]?=u.heap[b]?)->Q u->Q u'
theorem q2q.and {B C:Nat->Prop}{Q Q':World->Prop}(h:q2q B Q)(h':q2q C Q'):q2q (fun b=>B b\/C b) (fun w=>Q w/\Q' w) :=
 fun u u' he hq=>⟨h u u' (fun b hb=>he b (.inl hb)) hq.1,h' u u' (fun b hb=>he b (.inr hb)) hq.2⟩
theorem q2q.top:q2q (fun _=>False) (fun _=>True):=fun _ _ _ _=>trivial
section
variable {α:Type}{n:Nat}{enc:α->List Value}{w0 w w':World}{s x:Sl}{l m:List α}{L:List (Nat × List Value)}{B:Nat->Prop}{Q:World->Prop}
theorem q2q.ow (s:Sl)(l:List α):q2q (inB s) (fun w=>Ow n enc w s l):=fun _ _ he h=>⟨h.len,h.own.congr he⟩
structure Sp {α:Type}(w0 w:World)(L:List (Nat × List Value))(B:Nat->Prop)(Q:World->Prop)(n:Nat)(enc:α->List Value)(s:Sl)(l:List α):Prop where
 m:Mem w0 w L
 rs:q2q B Q
 q:Q w
 ap:∀ b,B b->b<w.heap.size/\w0.heap.size<=b/\∀ p∈L,p.1≠b
 ow:Ow n enc w s l
 os:∀ b,inB s b->w0.heap.size<=b/\¬B b/\∀ p∈L,p.1≠b
theorem Sp.start (h:Mem w0 w L):Sp w0 w L (fun _=>False) (fun _=>True) n enc ⟨none,0,0⟩ ([]:List α) :=
 ⟨h,q2q.top,trivial,fun _ hb=>hb.elim,⟨rfl,by simpa using OwnV.nil⟩,fun b ⟨a,ha,_⟩=>by cases ha⟩
theorem Sp.fr (h:Sp w0 w L B Q n enc s l)(hf:Fr F0 w w'):Sp w0 w' L B Q n enc s l :=
 ⟨h.m.fr hf,h.rs,h.rs w w' (fun b hb=>hf.2.1 b (h.ap b hb).1 fun h=>h) h.q,fun b hb=>⟨J0 (h.ap b hb).1 hf.1,(h.ap b hb).2⟩,h.ow.fr hf,h.os⟩
theorem Sp.drew (h:Sp w0 w L B Q n enc s l):Sp w0 w.drew L B Q n enc s l:=h.fr Fr.drew
theorem Ow.lt' (h:Ow n enc w s l){b:Nat}(hb:inB s b):b<w.heap.size:=h.own.lt hb
theorem Sp.allocL {vs:List Value}{e:TypeId}(h:Sp w0 w L B Q n enc s l):Sp w0 (w.alloc (Obj.cells vs.toArray e)) ((w.heap.size,vs) :: L) B Q n enc s l:=by
 have h':=h.fr (Fr.alloc (o:=Obj.cells vs.toArray e))
 refine⟨h.m.allocL,h.rs,h'.q,fun b hb=>⟨(h'.ap b hb).1,(h.ap b hb).2.1,fun p hp=>?_⟩,h'.ow,fun b hb=>⟨(h.os b hb).1,(h.os b hb).2.1,fun p hp=>?_⟩⟩
 ·rcases List.mem_cons.1 hp with rfl | hp
  ·have:=(h.ap b hb).1; simp only; omega
  ·exact(h.ap b hb).2.2 p hp
 ·rcases List.mem_cons.1 hp with rfl | hp
  ·have:=h.ow.lt' hb; simp only; omega
  ·exact(h.os b hb).2.2 p hp
theorem Sp.ld {b i:Nat}{vs:List Value}{v:Value}(h:Sp w0 w L B Q n enc s l)(j:Nat)(hj:L[j]?=some (b,vs):=by exact rfl)(hv:vs[i]?=some v:=by exact rfl):w.cell? ⟨b,i,none⟩=some v:=h.m.ld j hj hv
theorem Sp.wr {b i:Nat}{vs:List Value}(h:Sp w0 w L B Q n enc s l)(j:Nat)(hj:L[j]?=some (b,vs):=by exact rfl)(hi:Nat.blt i vs.length=true:=by exact rfl):wrOk w ⟨b,i,none⟩:=h.m.wr j hj hi
theorem Sp.sub {k:List (Nat × List Value)}(h:Sp w0 w L B Q n enc s l)(a:Nat)(hk:L.drop a=k:=by exact rfl):Rs w k:=h.m.sub a hk
theorem Sp.row {b:Nat}{vs:List Value}(h:Sp w0 w L B Q n enc s l)(j:Nat)(hj:L[j]?=some (b,vs):=by exact rfl):Row w b vs:=h.m.row j hj
theorem q7u {L:List (Nat × List Value)}{j b:Nat}{vs us:List Value}(hj:L[j]?=some (b,vs)){p:Nat × List Value}(hp:p∈L.set j (b,us)):∃ q∈L,q.1=p.1:=by
 rcases List.mem_or_eq_of_mem_set hp with hp | rfl
 ·exact⟨p,hp,rfl⟩
 ·exact⟨_,List.mem_of_getElem? hj,rfl⟩
theorem Sp.setF {b j:Nat}{vs us:List Value}(h:Sp w0 w L B Q n enc s l)(hj:L[j]?=some (b,vs))(hf:Fr (fun c=>c=b) w w')(hm:Mem w0 w' (L.set j (b,us))):Sp w0 w' (L.set j (b,us)) B Q n enc s l:=by
 have hmem:=List.mem_of_getElem? hj
 refine⟨hm,h.rs,h.rs w w' (fun c hc=>hf.2.1 c (h.ap c hc).1 fun e=>(h.ap c hc).2.2 _ hmem e.symm) h.q,fun c hc=>⟨J0 (h.ap c hc).1 hf.1,(h.ap c hc).2.1,fun p hp=>?_⟩,h.ow.frF hf fun c hc e=>(h.os c hc).2.2 _ hmem e.symm,fun c hc=>⟨(h.os c hc).1,(h.os c hc).2.1,fun p hp=>?_⟩⟩
 ·obtain⟨q,hq,e⟩:=q7u hj hp
  rw[← e]
  exact(h.ap c hc).2.2 q hq
 ·obtain⟨q,hq,e⟩:=q7u hj hp
  rw[← e]
  exact(h.os c hc).2.2 q hq
theorem Sp.set {b i:Nat}{vs:List Value}{v:Value}(h:Sp w0 w L B Q n enc s l)(j:Nat)(hj:L[j]?=some (b,vs):=by exact rfl):Sp w0 (w.setCell ⟨b,i,none⟩ v) (L.set j (b,vs.set i v)) B Q n enc s l :=
 h.setF hj (Fr.set rfl) (h.m.set j hj)
theorem Sp.dr {k:List (Nat × List Value)}(h:Sp w0 w L B Q n enc s l)(a:Nat)(hk:L.drop a=k:=by exact rfl):Sp w0 w k B Q n enc s l:=by
 subst hk
 exact⟨h.m.dr a rfl,h.rs,h.q,fun b hb=>⟨(h.ap b hb).1,(h.ap b hb).2.1,fun p hp=>(h.ap b hb).2.2 p (List.mem_of_mem_drop hp)⟩,h.ow,fun b hb=>⟨(h.os b hb).1,(h.os b hb).2.1,fun p hp=>(h.os b hb).2.2 p (List.mem_of_mem_drop hp)⟩⟩
theorem Sp.next {β:Type}{n':Nat}{enc':β->List Value}(h:Sp w0 w L B Q n enc s l):Sp w0 w L (fun b=>B b\/inB s b) (fun w=>Q w/\Ow n enc w s l) n' enc' ⟨none,0,0⟩ ([]:List β) :=
 ⟨h.m,h.rs.and (q2q.ow s l),⟨h.q,h.ow⟩,fun b hb=>by
  rcases hb with hb | hb
  ·exact h.ap b hb
  ·exact⟨h.ow.lt' hb,(h.os b hb).1,(h.os b hb).2.2⟩,⟨rfl,by simpa using OwnV.nil⟩,fun b ⟨a,ha,_⟩=>by cases ha⟩
theorem Sp.back {β:Type}{n':Nat}{enc':β->List Value}{s':Sl}{l':List β}(h:Sp w0 w L (fun b=>B b\/inB s b) (fun w=>Q w/\Ow n enc w s l) n' enc' s' l')(hr:q2q B Q)(hs:∀ b,inB s b->¬B b) :
  Sp w0 w L (fun b=>B b\/inB s' b) (fun w=>Q w/\Ow n' enc' w s' l') n enc s l :=
 ⟨h.m,hr.and (q2q.ow s' l'),⟨h.q.1,h.ow⟩,fun b hb=>by
  rcases hb with hb | hb
  ·exact h.ap b (.inl hb)
  ·exact⟨h.ow.lt' hb,(h.os b hb).1,(h.os b hb).2.2⟩,h.q.2,fun b hb=>⟨(h.ap b (.inr hb)).2.1,fun hc=>by
   rcases hc with hc | hc
   ·exact hs b hb hc
   ·exact(h.os b hc).2.1 (.inr hb),(h.ap b (.inr hb)).2.2⟩⟩
theorem Sp.say {C:Nat->Prop}{Q':World->Prop}(h:Sp w0 w L B Q n enc s l)(hr:q2q C Q')(hc:∀ b,C b->B b)(hq:Q w->Q' w):Sp w0 w L C Q' n enc s l :=
 ⟨h.m,hr,hq h.q,fun b hb=>h.ap b (hc b hb),h.ow,fun b hb=>⟨(h.os b hb).1,fun hb'=>(h.os b hb).2.1 (hc b hb'),(h.os b hb).2.2⟩⟩
theorem Sp.app {bytes:Nat}{zero:List Value}{e:Nat}{K:SW}(h:Sp w0 w L B Q n enc s l)(hx:Vw n enc w x m)(hok:∀ a,∀ v∈enc a,okC v=true)(hz:zero.length=n)
  (hb:(l.length+m.length)*bytes<=2^47) (hm:l.length+m.length<2^63) (hK:∀ r w',Sp w0 w' L B Q n enc r (l++m)->K r w'):apS n bytes zero e s x w K:=by
 refine h.ow.app hx hok hz hb hm fun r w' ho hf hi=>hK r w' ?_
 refine⟨h.m.frF hf (fun p hp hc=>(h.os _ hc).2.2 p hp rfl) fun b hb=>(h.os b hb).1,h.rs,h.rs w w' (fun b hb=>hf.2.1 b (h.ap b hb).1 fun hc=>(h.os b hc).2.1 hb) h.q,fun b hb=>⟨J0 (h.ap b hb).1 hf.1,(h.ap b hb).2⟩,ho,fun b hb=>?_⟩
 rcases hi b hb with hb' | hb'
 ·exact h.os b hb'
 ·exact⟨Nat.le_trans h.m.1.1 hb',fun hB=>by have:=(h.ap b hB).1; omega,fun p hp e=>by have:=(h.m.2.1 p hp).lt; omega⟩
theorem Sp.push {a:α}{cs:Array Value}{bytes:Nat}{zero:List Value}{e e':Nat}{K:SW}(h:Sp w0 w L B Q n enc s l)(hc:cs=(enc a).toArray)(hn:(enc a).length=n)(hok:∀ a,∀ v∈enc a,okC v=true)(hz:zero.length=n)
  (hb:(l.length+1)*bytes<=2^47) (hm:l.length+1<2^63)
  (hK:∀ r w',Sp w0 w' L B Q n enc r (l++[a])->K r w'):apS n bytes zero e s ⟨some ⟨w.heap.size,0,none⟩,1,1⟩ (w.alloc (Obj.cells cs e')) K :=
 (h.fr Fr.alloc).app (m:=[a]) (Vw.new hn hc) hok hz hb hm hK
theorem q3w {b:Nat}{cs vs:List Value}{K:World->Prop}(h:Sp w0 w L B Q n enc s l)(j:Nat)(hj:L[j]?=some (b,cs))(hl:cs.length=vs.length)(hK:∀ w',Sp w0 w' (L.set j (b,vs)) B Q n enc s l->K w'):stN w ⟨b,0,none⟩ vs K:=by
 have key:∀ (us:List Value) (i:Nat) (w:World) (L:List (Nat × List Value)) (xs:List Value),Sp w0 w L B Q n enc s l->L[j]?=some (b,xs)->i+us.length<=xs.length ->
   (∀ w',Sp w0 w' (L.set j (b,xs.take i++us++xs.drop (i+us.length))) B Q n enc s l->K w')->stN.go ⟨b,0,none⟩ K us i w:=by
  intro us
  induction us with
  | nil =>
   intro i w L xs h hj _ hK
   refine hK w ?_
   have e:xs.take i++[]++xs.drop (i+([]:List Value).length)=xs:=by simp
   rw[e,qae hj]
   exact h
  | cons v us ih =>
   intro i w L xs h hj hi hK
   simp only[List.length_cons] at hi
   unfold stN.go
   have hl:j<L.length:=(List.getElem?_eq_some_iff.1 hj).1
   simp only[q01,Nat.zero_add]
   refine⟨h.wr j hj (by simp[Nat.blt_eq]; omega),?_⟩
   refine ih (i+1) _ (L.set j (b,xs.set i v)) (xs.set i v) (h.set j hj) (by simp[hl]) (by simp; omega) fun w' h'=>hK w' ?_
   have e:(xs.set i v).take (i+1)++us++(xs.set i v).drop (i+1+us.length)=xs.take i++v :: us++xs.drop (i+(v :: us).length):=by
    apply List.ext_getElem?
    intro k
    have h3:min (i+1) xs.length=i+1:=by omega
    have h4:min i xs.length=i:=by omega
    simp only[List.getElem?_append,List.length_append,List.length_take,List.length_set,List.length_cons,h3,h4,List.getElem?_take,List.getElem?_drop,List.getElem?_set]
    by_cases h1:k<i
    ·rw[if_pos (by omega),if_pos (by omega),if_pos (by omega),if_neg (by omega),if_pos (by omega),if_pos (by omega),if_pos h1]
    ·by_cases h2:k=i
     ·subst h2
      rw[if_pos (by omega),if_pos (by omega),if_pos (by omega),if_pos rfl,if_pos (by omega),if_pos (by omega),if_neg (by omega)]
      simp
     ·by_cases h5:k<i+1+us.length
      ·rw[if_pos (by omega),if_neg (by omega),if_pos (by omega),if_neg (by omega)]
       have:k-i=(k-(i+1))+1:=by omega
       rw[this,List.getElem?_cons_succ]
      ·rw[if_neg (by omega),if_neg (by omega),if_neg (by omega)]
       congr 1
       omega
   rw[List.set_set,e] at h'
   exact h'
 refine key vs 0 w L cs h hj (by omega) fun w' h'=>hK w' ?_
 have e:cs.take 0++vs++cs.drop (0+vs.length)=vs:=by simp[← hl]
 rw[e] at h'
 exact h'
end
