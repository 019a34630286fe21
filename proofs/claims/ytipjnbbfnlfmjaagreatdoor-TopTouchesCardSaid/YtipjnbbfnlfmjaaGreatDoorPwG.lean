/- Maps with int keys, as lists of pairs in the order in which they came: looking up, storing, counting; each sound for the model's run. Conditions: none. -/
import Derived.Test.YtipjnbbfnlfmjaaGreatDoorPwC
import Derived.MapKept
open List renaming getElem?_map->J0,map_cons->J1,map_append->J2,getElem?_eq_some_iff->J3,ext_getElem?->J4,getElem?_set->J5,length_map->J6
open Nat renaming zero_add->J7
open Option renaming map_some->J8
open Array renaming getElem?_modify->J9,getElem?_toList->Ja,getElem?_eq_some_iff->Jb,getElem?_setIfInBounds->Jc,getElem?_eq_getElem->Jd,ext_getElem?->Je,toList_push->Jf
namespace Pw
open Go Go.MapKept
def Mp (w:World)(r:Nat)(k:IntKind)(l:List (Int × Value)):Prop :=
 ∃ es clock,w.heap[r]?=some (.map es clock)/\es.toList.map (fun e=>(e.key,e.val))=l.map fun p=>(.int k p.1,p.2)
def Ml (w:World)(r c:Nat):Prop:=∃ es clock,w.heap[r]?=some (.map es clock)/\es.size=c
def q8t {α:Type}(d:α)(n:Int):List (Int × α)->α
 | []=>d
 | p :: l=>if p.1=n then p.2 else q8t d n l
def mput {α:Type}(n:Int)(v:α):List (Int × α)->List (Int × α)
 | []=>[(n,v)]
 | p :: l=>if p.1=n then (n,v) :: l else p :: mput n v l
def oset (k:IntKind)(n:Int)(v:Value):Obj->Obj
 | .map es clock=>match Instr.findNow (.int k) (.int k n) es.toList 0 with
  | some (some (i,_))=>.map (es.modify i fun e=>{ e with key:=.int k n,val:=v }) clock
  | _=>.map (es.push { key:=.int k n,val:=v,born:=clock }) (clock+1)
 | o=>o
def _root_.Go.World.mset (w:World)(r:Nat)(k:IntKind)(n:Int)(v:Value):World:={ w with heap:=w.heap.modify r (oset k n v) }
section
variable {P:Program}{w:World}{r:Nat}{k:IntKind}{n:Int}{l:List (Int × Value)}
theorem q59 (d:Value)(v:Value):∀ (es:List MapEntry) (l:List (Int × Value)) (i:Nat),es.map (fun e=>(e.key,e.val))=l.map (fun p=>(Value.int k p.1,p.2)) ->
  (Instr.findNow (.int k) (.int k n) es i=some none/\q8t d n l=d/\mput n v l=l++[(n,v)]) \/
  ∃ j x,Instr.findNow (.int k) (.int k n) es i=some (some (i+j,x))/\q8t d n l=x/\(∃ e,es[j]?=some e/\e.key=.int k n)/\mput n v l=l.set j (n,v)
 | [],[],i,_=>.inl ⟨rfl,rfl,rfl⟩
 | [],_ :: _,_,h=>by simp at h
 | _ :: _,[],_,h=>by simp at h
 | e :: es,p :: l,i,h=>by
  simp only[J1,List.cons.injEq,Prod.mk.injEq] at h
  obtain⟨⟨hk,hv⟩,ht⟩:=h
  unfold Instr.findNow q8t mput
  rw[hk]
  by_cases hn:p.1=n
  ·refine .inr ⟨0,e.val,?_,?_,⟨e,rfl,by rw[hk,hn]⟩,?_⟩
   ·simp[Instr.sameNow,hn]
   ·rw[if_pos hn,hv]
   ·rw[if_pos hn]; rfl
  ·have hs:Instr.sameNow (.int k) (.int k n) (.int k p.1)=some false:=by
    simp only[Instr.sameNow,if_true,Option.some.injEq,beq_eq_false_iff_ne,ne_eq]
    exact fun h=>hn h.symm
   rw[hs]
   simp only[if_neg hn]
   rcases q59 d v es l (i+1) ht with⟨h1,h2,h3⟩ | ⟨j,x,h1,h2,h3,h4⟩
   ·exact .inl ⟨h1,h2,by rw[h3]; rfl⟩
   ·exact .inr ⟨j+1,x,by rw[h1]; congr 3; omega,h2,h3,by rw[h4]; rfl⟩
theorem Mp.set (h:Mp w r k l)(n:Int)(v:Value):Mp (w.mset r k n v) r k (mput n v l):=by
 obtain⟨es,clock,hb,he⟩:=h
 have hlt:r<w.heap.size:=(Jb.1 hb).1
 have hnew:(w.mset r k n v).heap[r]?=some (oset k n v (.map es clock)):=by
  unfold World.mset
  simp only[J9,if_true,hb,J8]
 rcases q59 (n:=n) v v es.toList l 0 he with⟨h1,_,h3⟩ | ⟨j,x,h1,_,⟨e',hj',_⟩,h4⟩
 ·refine⟨es.push { key:=.int k n,val:=v,born:=clock },clock+1,?_,?_⟩
  ·rw[hnew]
   simp only[oset,h1]
  ·rw[h3,Jf,J2,J2,he]
   rfl
 ·have hj:j<es.toList.length:=(J3.1 hj').1
  rw[J7] at h1
  refine⟨es.modify j fun e=>{ e with key:=.int k n,val:=v },clock,?_,?_⟩
  ·rw[hnew]
   simp only[oset,h1]
  ·rw[h4]
   apply J4
   intro i
   have hi:=congrArg (·[i]?) he
   simp only[J0] at hi
   rw[J0,J0,Ja,J9,J5]
   rw[Ja] at hi
   by_cases hij:j=i
   ·subst hij
    have hl:j<l.length:=by
     have:=congrArg List.length he
     simp only[J6] at this
     omega
    rw[if_pos rfl,if_pos rfl,if_pos hl]
    have:j<es.size:=by simpa using hj
    rw[Jd this]
    rfl
   ·rw[if_neg hij,if_neg hij]
    exact hi
theorem q99 (t:TypeId){kt et:TypeId}{ti:TypeInfo}{z:Value}(ht:P.underlying t=some (.map kt et))(hk:P.underlying kt=some (.int k))(hi:P.info? et=some ti)(hz:ti.zero=some z)(h:Mp w r k l) :
  (Instr.lookup t (.map (some r)) (.int k n) false).run P w=.ok (q8t z n l) w:=by
 obtain⟨es,clock,hb,he⟩:=h
 have hkey:IsKey (.int k) (.int k n):=by simp[IsKey]
 have hc:=run_checkKey (P:=P) (w:=w) hk hkey es.isEmpty 9999
 unfold Instr.lookup
 rcases q59 (n:=n) z z es.toList l 0 he with⟨h1,h2,_⟩ | ⟨j,x,h1,h2,_,_⟩
 ·have hf:=run_findKey (P:=P) (w:=w) hk h1
  simp[run_underlying ht,run_getObj_map hb,hc,hf,h2,zeroValue,typeInfo,hi,hz]
 ·have hf:=run_findKey (P:=P) (w:=w) hk h1
  simp[run_underlying ht,run_getObj_map hb,hc,hf,h2]
theorem qa9 (t:TypeId){kt et:TypeId}(v:Value)(ht:P.underlying t=some (.map kt et))(hk:P.underlying kt=some (.int k))(h:Mp w r k l) :
  (Instr.mapUpdate t (.map (some r)) (.int k n) v).run P w=.ok () (w.mset r k n v):=by
 obtain⟨es,clock,hb,he⟩:=h
 have hkey:IsKey (.int k) (.int k n):=by simp[IsKey]
 have hc:=run_checkKey (P:=P) (w:=w) hk hkey false 9999
 have hset:∀ o',oset k n v (.map es clock)=o'->w.mset r k n v={ w with heap:=w.heap.setIfInBounds r o' }:=by
  intro o' ho
  unfold World.mset
  congr 1
  apply Je
  intro i
  rw[J9,Jc]
  have hlt:r<w.heap.size:=(Jb.1 hb).1
  by_cases hri:r=i
  ·subst hri
   rw[if_pos rfl,if_pos rfl,if_pos hlt,hb,J8,ho]
  ·rw[if_neg hri,if_neg hri]
 unfold Instr.mapUpdate
 rcases q59 (n:=n) v v es.toList l 0 he with⟨h1,_,_⟩ | ⟨j,x,h1,_,⟨e,he1,he2⟩,_⟩
 ·have hf:=run_findKey (P:=P) (w:=w) hk h1
  rw[hset _ (by simp only[oset,h1]; rfl)]
  simp[run_underlying ht,run_getObj_map hb,hc,hf,run_setObj_map _ hb]
 ·have hf:=run_findKey (P:=P) (w:=w) hk h1
  rw[J7] at h1 hf
  rw[Ja] at he1
  rw[hset _ (by simp only[oset,h1]; rfl)]
  have hs:∀ m,Instr.sameBits (m+1) (.int k n) (.int k n)=true:=fun m=>by simp[Instr.sameBits]
  simp[run_underlying ht,run_getObj_map hb,hc,hf,run_setObj_map _ hb,he1,he2,Instr.keyThatStays,hs 9999]
theorem qdr (t ty:TypeId){kt et:TypeId}{c:Nat}(ht:P.underlying t=some (.map kt et))(h:Ml w r c):(Builtin.len_ #[t] ty #[.map (some r)]).run P w=.ok (.int .i64 c) w:=by
 obtain⟨es,clock,hb,rfl⟩:=h
 simp[Builtin.len_,run_underlying ht,run_getObj_map hb,goInt]
theorem Mp.len (h:Mp w r k l):Ml w r l.length:=by
 obtain⟨es,clock,hb,he⟩:=h
 refine⟨es,clock,hb,?_⟩
 have:=congrArg List.length he
 simpa using this
theorem Mp.made (w:World)(k:IntKind):Mp (w.alloc (.map #[] 0)) w.heap.size k [] :=
 ⟨#[],0,(heap_alloc w _).1,rfl⟩
end
def lkS (k:IntKind)(z:Value)(r:Nat)(n:Int)(w:World)(K:VW):Prop :=
 match z with
 | .bool d=>∃ l:List (Int × Bool),Mp w r k (l.map fun p=>(p.1,.bool p.2))/\K (.bool (q8t d n l)) w
 | .int q d=>∃ l:List (Int × Int),Mp w r k (l.map fun p=>(p.1,.int q p.2))/\K (.int q (q8t d n l)) w
 | _=>False
def muS (k:IntKind)(r:Nat)(n:Int)(v:Value)(w:World)(K:World->Prop):Prop :=
 (∃ l,Mp w r k l)/\K (w.mset r k n v)
theorem qaa {α β:Type}(f:α->β)(d:α)(n:Int):∀ l:List (Int × α),q8t (f d) n (l.map fun p=>(p.1,f p.2))=f (q8t d n l)
 | []=>rfl
 | p :: l=>by
  simp only[J1,q8t]
  split
  ·rfl
  ·exact qaa f d n l
theorem qi6 {P:Program}{w:World}{r:Nat}{k:IntKind}{n:Int}(t:TypeId){kt et:TypeId}{ti:TypeInfo}{z:Value}{K:VW}(ht:P.underlying t=some (.map kt et))(hk:P.underlying kt=some (.int k))(hi:P.info? et=some ti)(hz:ti.zero=some z)(h:lkS k z r n w K) :
  ∃ v,K v w/\(Instr.lookup t (.map (some r)) (.int k n) false).run P w=.ok v w:=by
 unfold lkS at h
 split at h
 ·rename_i d
  obtain⟨l,hm,hK⟩:=h
  refine⟨_,hK,?_⟩
  rw[q99 t ht hk hi hz hm,qaa Value.bool]
 ·rename_i q d
  obtain⟨l,hm,hK⟩:=h
  refine⟨_,hK,?_⟩
  rw[q99 t ht hk hi hz hm,qaa (Value.int q)]
 ·exact h.elim
def Ms (w:World)(r:Nat)(l:List (ByteArray × Value)):Prop :=
 ∃ es clock,w.heap[r]?=some (.map es clock)/\es.toList.map (fun e=>(e.key,e.val))=l.map fun p=>(.string p.1,p.2)
def q2p {α:Type}(d:α)(n:ByteArray):List (ByteArray × α)->α
 | []=>d
 | p :: l=>if p.1=n then p.2 else q2p d n l
def sput {α:Type}(n:ByteArray)(v:α):List (ByteArray × α)->List (ByteArray × α)
 | []=>[(n,v)]
 | p :: l=>if p.1=n then (n,v) :: l else p :: sput n v l
def oseS (n:ByteArray)(v:Value):Obj->Obj
 | .map es clock=>match Instr.findNow .string (.string n) es.toList 0 with
  | some (some (i,_))=>.map (es.modify i fun e=>{ e with key:=.string n,val:=v }) clock
  | _=>.map (es.push { key:=.string n,val:=v,born:=clock }) (clock+1)
 | o=>o
def _root_.Go.World.sset (w:World)(r:Nat)(n:ByteArray)(v:Value):World:={ w with heap:=w.heap.modify r (oseS n v) }
section
variable {P:Program}{w:World}{r:Nat}{n:ByteArray}{l:List (ByteArray × Value)}
theorem q4b (d:Value)(v:Value):∀ (es:List MapEntry) (l:List (ByteArray × Value)) (i:Nat),es.map (fun e=>(e.key,e.val))=l.map (fun p=>(Value.string p.1,p.2)) ->
  (Instr.findNow .string (.string n) es i=some none/\q2p d n l=d/\sput n v l=l++[(n,v)]) \/
  ∃ j x,Instr.findNow .string (.string n) es i=some (some (i+j,x))/\q2p d n l=x/\(∃ e,es[j]?=some e/\e.key=.string n)/\sput n v l=l.set j (n,v)
 | [],[],i,_=>.inl ⟨rfl,rfl,rfl⟩
 | [],_ :: _,_,h=>by simp at h
 | _ :: _,[],_,h=>by simp at h
 | e :: es,p :: l,i,h=>by
  simp only[J1,List.cons.injEq,Prod.mk.injEq] at h
  obtain⟨⟨hk,hv⟩,ht⟩:=h
  unfold Instr.findNow q2p sput
  rw[hk]
  by_cases hn:p.1=n
  ·refine .inr ⟨0,e.val,?_,?_,⟨e,rfl,by rw[hk,hn]⟩,?_⟩
   ·simp[Instr.sameNow,hn,(bytes_beq n n).2 rfl]
   ·rw[if_pos hn,hv]
   ·rw[if_pos hn]; rfl
  ·have hs:Instr.sameNow .string (.string n) (.string p.1)=some false:=by
    simp only[Instr.sameNow,Option.some.injEq]
    exact Bool.eq_false_iff.2 fun h=>hn ((bytes_beq _ _).1 h).symm
   rw[hs]
   simp only[if_neg hn]
   rcases q4b d v es l (i+1) ht with⟨h1,h2,h3⟩ | ⟨j,x,h1,h2,h3,h4⟩
   ·exact .inl ⟨h1,h2,by rw[h3]; rfl⟩
   ·exact .inr ⟨j+1,x,by rw[h1]; congr 3; omega,h2,h3,by rw[h4]; rfl⟩
theorem Ms.set (h:Ms w r l)(n:ByteArray)(v:Value):Ms (w.sset r n v) r (sput n v l):=by
 obtain⟨es,clock,hb,he⟩:=h
 have hlt:r<w.heap.size:=(Jb.1 hb).1
 have hnew:(w.sset r n v).heap[r]?=some (oseS n v (.map es clock)):=by
  unfold World.sset
  simp only[J9,if_true,hb,J8]
 rcases q4b (n:=n) v v es.toList l 0 he with⟨h1,_,h3⟩ | ⟨j,x,h1,_,⟨e',hj',_⟩,h4⟩
 ·refine⟨es.push { key:=.string n,val:=v,born:=clock },clock+1,?_,?_⟩
  ·rw[hnew]
   simp only[oseS,h1]
  ·rw[h3,Jf,J2,J2,he]
   rfl
 ·have hj:j<es.toList.length:=(J3.1 hj').1
  rw[J7] at h1
  refine⟨es.modify j fun e=>{ e with key:=.string n,val:=v },clock,?_,?_⟩
  ·rw[hnew]
   simp only[oseS,h1]
  ·rw[h4]
   apply J4
   intro i
   have hi:=congrArg (·[i]?) he
   simp only[J0] at hi
   rw[J0,J0,Ja,J9,J5]
   rw[Ja] at hi
   by_cases hij:j=i
   ·subst hij
    have hl:j<l.length:=by
     have:=congrArg List.length he
     simp only[J6] at this
     omega
    rw[if_pos rfl,if_pos rfl,if_pos hl]
    have:j<es.size:=by simpa using hj
    rw[Jd this]
    rfl
   ·rw[if_neg hij,if_neg hij]
    exact hi
theorem qds (t:TypeId){kt et:TypeId}{ti:TypeInfo}{z:Value}(ht:P.underlying t=some (.map kt et))(hk:P.underlying kt=some .string)(hi:P.info? et=some ti)(hz:ti.zero=some z)(h:Ms w r l) :
  (Instr.lookup t (.map (some r)) (.string n) false).run P w=.ok (q2p z n l) w:=by
 obtain⟨es,clock,hb,he⟩:=h
 have hkey:IsKey .string (.string n):=by simp[IsKey]
 have hc:=run_checkKey (P:=P) (w:=w) hk hkey es.isEmpty 9999
 unfold Instr.lookup
 rcases q4b (n:=n) z z es.toList l 0 he with⟨h1,h2,_⟩ | ⟨j,x,h1,h2,_,_⟩
 ·have hf:=run_findKey (P:=P) (w:=w) hk h1
  simp[run_underlying ht,run_getObj_map hb,hc,hf,h2,zeroValue,typeInfo,hi,hz]
 ·have hf:=run_findKey (P:=P) (w:=w) hk h1
  simp[run_underlying ht,run_getObj_map hb,hc,hf,h2]
theorem q8u (t:TypeId){kt et:TypeId}(v:Value)(ht:P.underlying t=some (.map kt et))(hk:P.underlying kt=some .string)(h:Ms w r l) :
  (Instr.mapUpdate t (.map (some r)) (.string n) v).run P w=.ok () (w.sset r n v):=by
 obtain⟨es,clock,hb,he⟩:=h
 have hkey:IsKey .string (.string n):=by simp[IsKey]
 have hc:=run_checkKey (P:=P) (w:=w) hk hkey false 9999
 have hset:∀ o',oseS n v (.map es clock)=o'->w.sset r n v={ w with heap:=w.heap.setIfInBounds r o' }:=by
  intro o' ho
  unfold World.sset
  congr 1
  apply Je
  intro i
  rw[J9,Jc]
  have hlt:r<w.heap.size:=(Jb.1 hb).1
  by_cases hri:r=i
  ·subst hri
   rw[if_pos rfl,if_pos rfl,if_pos hlt,hb,J8,ho]
  ·rw[if_neg hri,if_neg hri]
 unfold Instr.mapUpdate
 rcases q4b (n:=n) v v es.toList l 0 he with⟨h1,_,_⟩ | ⟨j,x,h1,_,⟨e,he1,he2⟩,_⟩
 ·have hf:=run_findKey (P:=P) (w:=w) hk h1
  rw[hset _ (by simp only[oseS,h1]; rfl)]
  simp[run_underlying ht,run_getObj_map hb,hc,hf,run_setObj_map _ hb]
 ·have hf:=run_findKey (P:=P) (w:=w) hk h1
  rw[J7] at h1 hf
  rw[Ja] at he1
  rw[hset _ (by simp only[oseS,h1]; rfl)]
  have hs:∀ m,Instr.sameBits (m+1) (.string n) (.string n)=true:=fun m=>by simp[Instr.sameBits,(bytes_beq n n).2 rfl]
  simp[run_underlying ht,run_getObj_map hb,hc,hf,run_setObj_map _ hb,he1,he2,Instr.keyThatStays,hs 9999]
theorem Ms.made (w:World):Ms (w.alloc (.map #[] 0)) w.heap.size [] :=
 ⟨#[],0,(heap_alloc w _).1,rfl⟩
end
def lkT (z:Value)(r:Nat)(n:ByteArray)(w:World)(K:VW):Prop :=
 match z with
 | .bool d=>∃ l:List (ByteArray × Bool),Ms w r (l.map fun p=>(p.1,.bool p.2))/\K (.bool (q2p d n l)) w
 | _=>False
def muT (r:Nat)(n:ByteArray)(v:Value)(w:World)(K:World->Prop):Prop :=
 (∃ l,Ms w r l)/\K (w.sset r n v)
theorem qfj {α β:Type}(f:α->β)(d:α)(n:ByteArray):∀ l:List (ByteArray × α),q2p (f d) n (l.map fun p=>(p.1,f p.2))=f (q2p d n l)
 | []=>rfl
 | p :: l=>by
  simp only[J1,q2p]
  split
  ·rfl
  ·exact qfj f d n l
theorem qfk {α β:Type}(f:α->β)(n:ByteArray)(v:α):∀ l:List (ByteArray × α),sput n (f v) (l.map fun p=>(p.1,f p.2))=(sput n v l).map fun p=>(p.1,f p.2)
 | []=>rfl
 | p :: l=>by
  simp only[J1,sput]
  split
  ·rfl
  ·rw[qfk f n v l]; rfl
theorem qi7 {P:Program}{w:World}{r:Nat}{n:ByteArray}(t:TypeId){kt et:TypeId}{ti:TypeInfo}{z:Value}{K:VW}(ht:P.underlying t=some (.map kt et))(hk:P.underlying kt=some .string)(hi:P.info? et=some ti)(hz:ti.zero=some z)(h:lkT z r n w K) :
  ∃ v,K v w/\(Instr.lookup t (.map (some r)) (.string n) false).run P w=.ok v w:=by
 unfold lkT at h
 split at h
 ·rename_i d
  obtain⟨l,hm,hK⟩:=h
  refine⟨_,hK,?_⟩
  rw[qds t ht hk hi hz hm,qfj Value.bool]
 ·exact h.elim
