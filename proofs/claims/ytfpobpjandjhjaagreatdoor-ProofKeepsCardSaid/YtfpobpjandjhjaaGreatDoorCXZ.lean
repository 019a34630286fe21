/- combine: the memory of a search. Conditions: none. -/
import Derived.Test.YtfpobpjandjhjaaGreatDoorCXY
import Derived.Test.YtfpobpjandjhjaaGreatDoorPwQ
import Derived.Test.YtfpobpjandjhjaaGreatDoorCG4
import Derived.Test.YtfpobpjandjhjaaGreatDoorCXX
import Derived.Test.YtfpobpjandjhjaaGreatDoorRXZ
import Derived.Test.YtfpobpjandjhjaaGreatDoorCG5
namespace Pw
open Go
theorem Ow.lt {α:Type}{n:Nat}{enc:α->List Value}{w:World}{s:Sl}{l:List α}(h:Ow n enc w s l){b:Nat}(hb:inB s b):b<w.heap.size:=h.own.lt hb
theorem Ow.row {w:World}{b:Nat}{l:List Int}(h:Row w b (l.map fun n=>Value.int .i64 n)):Ow 1 (ie .i64 id) w ⟨some ⟨b,0,none⟩,l.length,l.length⟩ l:=by
 refine⟨rfl,?_,.inr ⟨b,_,rfl,h,by simp,Nat.le_refl _,?_⟩⟩
 ·simp[fm_length (fun a=>ie_length IntKind.i64 (id:Int->Int) a)]
 ·rw[show l.flatMap (ie .i64 id)=l.map fun n=>Value.int .i64 n from fm_one (fun n=>Value.int .i64 n) l]
  exact List.take_of_length_le (Nat.le_refl _)
theorem Mk.cp {w0 w:World}{s x d:Sl}{l m:List Int}{off:Nat}{K:Int->World->Prop}(h:Mk w0 1 (ie .i64 id) w s l)(hx:Vw 1 (ie .i64 id) w x m)(ho:off<=l.length)(hd:d.p=subP s.p off s.c 1)(hdl:d.l=l.length-off)
  (hK:∀ w',Mk w0 1 (ie .i64 id) w' s (l.take off++m.take (l.length-off)++l.drop (off+min m.length (l.length-off)))->Fr (inB s) w w'->K ((min m.length (l.length-off):Nat):Int) w'):cpS 1 d x w K:=by
 have hlen:=h.len
 have hxl:=hx.len
 have hmin:min x.l d.l=min m.length (l.length-off):=by rw[hxl,hdl]
 refine⟨(m.take (l.length-off)).map fun n=>Value.int .i64 n,?_,?_,?_⟩
 ·rw[hmin]
  obtain⟨h1,h2⟩:=hx.rd
  refine⟨by simp[Nat.min_comm],?_⟩
  have e:m.flatMap (ie .i64 id)=m.map fun n=>Value.int .i64 n:=fm_one (fun n=>Value.int .i64 n) m
  cases hp:x.p with
  | none =>
   rw[hp] at h2
   simp only at h2 ⊢
   omega
  | some a =>
   rw[hp] at h2
   simp only at h2 ⊢
   intro i hi
   simp only[List.length_map,List.length_take] at hi
   have h3:=h2 i (by rw[e]; simp; omega)
   rw[h3]
   simp[e]
 ·intro v hv
  obtain⟨n,_,rfl⟩:=List.mem_map.1 hv
  rfl
 ·rw[hmin]
  generalize hc:min m.length (l.length-off)=c at *
  have hcl:(m.take (l.length-off)).length=c:=by rw[List.length_take,← hc,Nat.min_comm]
  obtain⟨hl,hown⟩:=h.ow
  obtain⟨hol,hnil | ⟨b,cs,hp,hrow,hcs,hle,ht⟩⟩:=hown
  ·have hl0:l=[]:=List.eq_nil_of_length_eq_zero (by omega)
   subst hl0
   have hoff:off=0:=by simpa using ho
   subst hoff
   rw[hd,hnil.1]
   have:subP none 0 s.c 1=none:=by unfold subP; split<;>rfl
   rw[this]
   simp only[List.length_nil,Nat.zero_sub,Nat.min_zero] at hc
   subst hc
   refine hK w ?_ Fr.refl
   simpa using h
  ·have e:l.flatMap (ie .i64 id)=l.map fun n=>Value.int .i64 n:=fm_one (fun n=>Value.int .i64 n) l
   rw[e] at ht hol
   simp only[List.length_map,Nat.mul_one] at ht hol hcs
   by_cases hz:s.c=off
   ·have hc0:c=0:=by omega
    subst hc0
    have hm0:m.take (l.length-off)=[]:=List.eq_nil_of_length_eq_zero hcl
    rw[hm0] at hK ⊢
    rw[hd,show subP s.p off s.c 1=s.p by unfold subP; rw[if_pos hz],hp]
    refine⟨fun i hi=>by simp at hi,?_⟩
    refine hK w ?_ Fr.refl
    simpa using h
   ·rw[hd,show subP s.p off s.c 1=some ⟨b,off,none⟩ by rw[hp]; unfold subP; simp[hz]]
    simp only
    have hfit:off+((m.take (l.length-off)).map fun n=>Value.int .i64 n).length<=cs.length:=by rw[List.length_map,hcl]; omega
    refine⟨fun i hi=>by rw[add_mk]; exact hrow.wr (by omega),?_⟩
    have hrow':=wrC_row (o:=off) ((m.take (l.length-off)).map fun n=>Value.int .i64 n) 0 w cs hrow (by omega)
    simp only[Nat.add_zero] at hrow'
    have hfr:Fr (inB s) w (wrC w ⟨b,off,none⟩ 0 ((m.take (l.length-off)).map fun n=>Value.int .i64 n)) :=
     ⟨by rw[wrC_size]; exact Nat.le_refl _,fun c _ hn=>wrC_ne (a:=⟨b,off,none⟩) (fun he=>hn ⟨_,hp,he⟩) _ _ _,wrC_os _ _ _,wrC_out _ _ _,wrC_tape _ _ _⟩
    have hnl:(l.take off++m.take (l.length-off)++l.drop (off+c)).length=l.length:=by
     simp only[List.length_append,List.length_drop,hcl,List.length_take]; omega
    refine hK _ ⟨h.fr0.trans hfr fun b' hb' hlt=>absurd (h.nw b' hb') (by omega),⟨by rw[hnl]; exact hl,?_,.inr ⟨b,_,hp,hrow',by rw[splice_length _ _ _ hfit,hcs,Nat.mul_one],hle,?_⟩⟩,h.nw⟩ hfr
    ·rw[fm_length (fun a=>ie_length IntKind.i64 (id:Int->Int) a),hnl]; omega
    ·rw[show(l.take off++m.take (l.length-off)++l.drop (off+c)).flatMap (ie .i64 id)=(l.take off++m.take (l.length-off)++l.drop (off+c)).map fun n=>Value.int .i64 n from fm_one (fun n=>Value.int .i64 n) _]
     rw[List.length_map,hnl]
     unfold splice
     rw[List.length_map,hcl]
     apply List.ext_getElem?
     intro i
     have hti:∀ j,j<l.length->cs[j]?=(l.map fun n=>Value.int .i64 n)[j]?:=by
      intro j hj
      rw[← ht,List.getElem?_take,if_pos hj]
     by_cases hil:i<l.length
     ·rw[List.getElem?_take,if_pos hil,List.map_append,List.map_append,List.getElem?_append,List.getElem?_append]
      simp only[List.length_append,List.length_map,List.length_take,hcl,List.getElem?_append]
      have e1:min off cs.length=off:=by omega
      have e2:min off l.length=off:=by omega
      have e3:min (l.length-off) m.length=c:=by rw[Nat.min_comm]; exact hc
      simp only[e1,e2]
      by_cases h1:i<off
      ·rw[if_pos (by omega),if_pos h1,if_pos (by omega),if_pos h1,List.getElem?_take,if_pos h1,hti i hil]
       simp[h1]
      ·by_cases h2:i<off+c
       ·rw[if_pos h2,if_neg h1,if_pos h2,if_neg h1]
       ·rw[if_neg h2,if_neg h2,List.getElem?_drop,hti _ (by omega)]
        simp only[List.getElem?_map,List.getElem?_drop]
     ·rw[List.getElem?_take,if_neg hil,List.getElem?_eq_none]
      rw[List.length_map,hnl]
      omega
end Pw
namespace Go.Proofs.YtfpobpjandjhjaaGreatDoor
open Go Pw
structure NdC where
 lot:Int
 num:Int
 den:Int
 nx:Sl
def encN (c:NdC):List Value:=[.int .i64 c.lot,.int .i64 c.num,.int .i64 c.den,.slice c.nx.p c.nx.l c.nx.c]
@[simp] theorem encN_length (c:NdC):(encN c).length=4:=rfl
theorem encN_ok (c:NdC):∀ v∈encN c,okC v=true:=by intro v hv; simp[encN] at hv; rcases hv with rfl | rfl | rfl | rfl<;>rfl
abbrev OI (w:World)(s:Sl)(l:List Int):Prop:=Ow 1 (ie .i64 id) w s l
structure NdOk (w:World)(c:NdC)(n:Nd):Prop where
 lot:c.lot=n.lot
 num:c.num=n.num
 den:c.den=n.den
 nx:OI w c.nx n.next
 i1:I64 n.num
 i2:I64 n.den
 ln:n.next.length<2^40
 i0:I64 n.lot
def NdsOk (w:World):List NdC->List Nd->Prop
 | [],[]=>True
 | c :: cs,n :: N=>NdOk w c n/\NdsOk w cs N
 | _,_=>False
theorem NdsOk.len {w:World}:∀ {cs:List NdC} {N:List Nd},NdsOk w cs N->cs.length=N.length
 | [],[],_=>rfl
 | [],_ :: _,h=>h.elim
 | _ :: _,[],h=>h.elim
 | _ :: _,_ :: _,h=>by simp[h.2.len]
theorem NdsOk.imp {w w':World}:∀ {cs:List NdC} {N:List Nd},NdsOk w cs N->(∀ c∈cs,∀ l,OI w c.nx l->OI w' c.nx l)->NdsOk w' cs N
 | [],[],_,_=>trivial
 | [],_ :: _,h,_=>h.elim
 | _ :: _,[],h,_=>h.elim
 | c :: cs,n :: N,h,hi=>⟨⟨h.1.lot,h.1.num,h.1.den,hi c (by simp) _ h.1.nx,h.1.i1,h.1.i2,h.1.ln,h.1.i0⟩,h.2.imp fun d hd=>hi d (by simp[hd])⟩
theorem NdsOk.append {w:World}:∀ {cs:List NdC} {N:List Nd} {ds:List NdC} {M:List Nd},NdsOk w cs N->NdsOk w ds M->NdsOk w (cs++ds) (N++M)
 | [],[],_,_,_,h=>h
 | [],_ :: _,_,_,h,_=>h.elim
 | _ :: _,[],_,_,h,_=>h.elim
 | _ :: _,_ :: _,_,_,h,h'=>⟨h.1,h.2.append h'⟩
theorem NdsOk.at {w:World}:∀ {cs:List NdC} {N:List Nd} {i:Nat} {c:NdC} {n:Nd},NdsOk w cs N->cs[i]?=some c->N[i]?=some n->NdOk w c n
 | [],[],_,_,_,_,h,_=>by simp at h
 | [],_ :: _,_,_,_,h,_,_=>h.elim
 | _ :: _,[],_,_,_,h,_,_=>h.elim
 | c :: cs,n :: N,0,_,_,h,h1,h2=>by simp at h1 h2; subst h1; subst h2; exact h.1
 | c :: cs,n :: N,i+1,_,_,h,h1,h2=>h.2.at (by simpa using h1) (by simpa using h2)
theorem NdsOk.set {w:World}:∀ {cs:List NdC} {N:List Nd} {i:Nat} {c:NdC} {n:Nd},NdsOk w cs N->NdOk w c n->NdsOk w (cs.set i c) (N.set i n)
 | [],[],_,_,_,_,_=>trivial
 | [],_ :: _,_,_,_,h,_=>h.elim
 | _ :: _,[],_,_,_,h,_=>h.elim
 | c :: cs,n :: N,0,_,_,h,h1=>⟨h1,h.2⟩
 | c :: cs,n :: N,i+1,_,_,h,h1=>⟨h.1,h.2.set h1⟩
structure V (wB u:World)(l:List (Nat × List Value))(R:List (Sl × List Int))(O:List (Nat × Obj))(ns t:Sl)(T:List Int)(cs:List NdC)(N:List Nd):Prop where
 m:Mem wB u l
 r:∀ x∈R,VI u x.1 x.2
 ow:Ow 4 encN u ns cs
 tv:OI u t T
 nv:NdsOk u cs N
 a1:∀ p∈l,¬inB ns p.1/\¬inB t p.1/\∀ c∈cs,¬inB c.nx p.1
 a2:∀ x∈R,∀ b,inB x.1 b->b<u.heap.size/\¬inB ns b/\∀ p∈l,p.1≠b
 a3:∀ b,inB ns b->¬inB t b/\∀ c∈cs,¬inB c.nx b
 n0:∀ b,inB ns b->wB.heap.size<=b
 n1:∀ b,inB t b->wB.heap.size<=b
 n2:∀ c∈cs,∀ b,inB c.nx b->wB.heap.size<=b
 a4:∀ c∈cs,∀ b,inB c.nx b->¬inB t b
 ob:∀ o∈O,u.heap[o.1]?=some o.2/\wB.heap.size<=o.1/\¬inB ns o.1/\¬inB t o.1/\(∀ c∈cs,¬inB c.nx o.1)/\(∀ x∈R,¬inB x.1 o.1)/\∀ p∈l,p.1≠o.1
section
variable {wB u u':World}{l:List (Nat × List Value)}{R:List (Sl × List Int)}{O:List (Nat × Obj)}{ns t:Sl}{T:List Int}{cs:List NdC}{N:List Nd}
theorem V.nxlt (h:V wB u l R O ns t T cs N){c:NdC}(hc:c∈cs){b:Nat}(hb:inB c.nx b):b<u.heap.size:=by
 obtain⟨i,hi,rfl⟩:=List.mem_iff_getElem.1 hc
 have hl:=h.nv.len
 exact(h.nv.at (List.getElem?_eq_getElem hi) (List.getElem?_eq_getElem (by omega))).nx.lt hb
theorem V.olt (h:V wB u l R O ns t T cs N){o:Nat × Obj}(ho:o∈O):o.1<u.heap.size:=(Array.getElem?_eq_some_iff.1 (h.ob o ho).1).1
theorem V.fr (h:V wB u l R O ns t T cs N)(hf:Fr F0 u u'):V wB u' l R O ns t T cs N :=
 ⟨h.m.fr hf,fun x hx=>(h.r x hx).fr hf,h.ow.fr hf,h.tv.fr hf,h.nv.imp fun _ _ _ ho=>ho.fr hf,h.a1,fun x hx b hb=>⟨Nat.lt_of_lt_of_le (h.a2 x hx b hb).1 hf.1,(h.a2 x hx b hb).2⟩,h.a3,h.n0,h.n1,h.n2,h.a4,fun o ho=>⟨by rw[hf.2.1 _ (h.olt ho) fun h=>h]; exact(h.ob o ho).1,(h.ob o ho).2⟩⟩
theorem V.drew (h:V wB u l R O ns t T cs N):V wB u.drew l R O ns t T cs N:=h.fr Fr.drew
theorem V.allocL {vs:List Value}{e:TypeId}(h:V wB u l R O ns t T cs N):V wB (u.alloc (Obj.cells vs.toArray e)) ((u.heap.size,vs) :: l) R O ns t T cs N:=by
 have hf:Fr F0 u (u.alloc (Obj.cells vs.toArray e)):=Fr.alloc
 have h':=h.fr hf
 refine⟨h.m.allocL,h'.r,h'.ow,h'.tv,h'.nv,fun p hp=>?_,fun x hx b hb=>⟨(h'.a2 x hx b hb).1,(h.a2 x hx b hb).2.1,fun p hp=>?_⟩,h.a3,h.n0,h.n1,h.n2,h.a4,fun o ho=>⟨(h'.ob o ho).1,(h.ob o ho).2.1,(h.ob o ho).2.2.1,(h.ob o ho).2.2.2.1,(h.ob o ho).2.2.2.2.1,(h.ob o ho).2.2.2.2.2.1,fun p hp=>?_⟩⟩
 ·rcases List.mem_cons.1 hp with rfl | hp
  ·exact⟨fun hb=>by have:=h.ow.lt hb; simp at this,fun hb=>by have:=h.tv.lt hb; simp at this,fun c hc hb=>by have:=h.nxlt hc hb; simp at this⟩
  ·exact h.a1 p hp
 ·rcases List.mem_cons.1 hp with rfl | hp
  ·have:=(h.a2 x hx b hb).1
   simp only
   omega
  ·exact(h.a2 x hx b hb).2.2 p hp
 ·rcases List.mem_cons.1 hp with rfl | hp
  ·have:=h.olt ho
   simp only
   omega
  ·exact(h.ob o ho).2.2.2.2.2.2 p hp
theorem V.ld {b i:Nat}{vs:List Value}{v:Value}(h:V wB u l R O ns t T cs N)(j:Nat)(hj:l[j]?=some (b,vs))(hv:vs[i]?=some v):u.cell? ⟨b,i,none⟩=some v:=h.m.ld j hj hv
theorem V.wr {b i:Nat}{vs:List Value}(h:V wB u l R O ns t T cs N)(j:Nat)(hj:l[j]?=some (b,vs))(hi:Nat.blt i vs.length=true):wrOk u ⟨b,i,none⟩:=h.m.wr j hj hi
theorem V.set {b i:Nat}{vs:List Value}{v:Value}(h:V wB u l R O ns t T cs N)(j:Nat)(hj:l[j]?=some (b,vs)):V wB (u.setCell ⟨b,i,none⟩ v) (l.set j (b,vs.set i v)) R O ns t T cs N:=by
 have hmem:=List.mem_of_getElem? hj
 have hf:Fr (fun c=>c=b) u (u.setCell ⟨b,i,none⟩ v):=Fr.set rfl
 obtain⟨q1,q2,q3⟩:=h.a1 _ hmem
 have hmap:∀ p∈l.set j (b,vs.set i v),∃ q∈l,q.1=p.1:=by
  intro p hp
  rcases List.mem_or_eq_of_mem_set hp with hp | rfl
  ·exact⟨p,hp,rfl⟩
  ·exact⟨_,hmem,rfl⟩
 refine⟨h.m.set j hj,fun x hx=>(h.r x hx).frF hf fun c hc e=>(h.a2 x hx c hc).2.2 _ hmem e.symm,h.ow.frF hf fun c hc e=>q1 (e ▸ hc),h.tv.frF hf fun c hc e=>q2 (e ▸ hc),h.nv.imp fun c hc l ho=>ho.frF hf fun d hd e=>q3 c hc (e ▸ hd),fun p hp=>?_,fun x hx c hc=>?_,h.a3,h.n0,h.n1,h.n2,h.a4,fun o ho=>⟨?_,(h.ob o ho).2.1,(h.ob o ho).2.2.1,(h.ob o ho).2.2.2.1,(h.ob o ho).2.2.2.2.1,(h.ob o ho).2.2.2.2.2.1,fun p hp=>?_⟩⟩
 ·obtain⟨q,hq,e⟩:=hmap p hp
  rw[← e]
  exact h.a1 q hq
 ·refine⟨by simpa using (h.a2 x hx c hc).1,(h.a2 x hx c hc).2.1,fun p hp=>?_⟩
  obtain⟨q,hq,e⟩:=hmap p hp
  rw[← e]
  exact(h.a2 x hx c hc).2.2 q hq
 ·rw[hf.2.1 _ (h.olt ho) fun e=>(h.ob o ho).2.2.2.2.2.2 _ hmem e.symm]
  exact(h.ob o ho).1
 ·obtain⟨q,hq,e⟩:=hmap p hp
  rw[← e]
  exact(h.ob o ho).2.2.2.2.2.2 q hq
theorem V.dr {k:List (Nat × List Value)}(h:V wB u l R O ns t T cs N)(n:Nat)(hk:l.drop n=k):V wB u k R O ns t T cs N:=by
 refine⟨h.m.dr n hk,h.r,h.ow,h.tv,h.nv,fun p hp=>h.a1 p ?_,fun x hx b hb=>⟨(h.a2 x hx b hb).1,(h.a2 x hx b hb).2.1,fun p hp=>(h.a2 x hx b hb).2.2 p ?_⟩,h.a3,h.n0,h.n1,h.n2,h.a4,fun o ho=>⟨(h.ob o ho).1,(h.ob o ho).2.1,(h.ob o ho).2.2.1,(h.ob o ho).2.2.2.1,(h.ob o ho).2.2.2.2.1,(h.ob o ho).2.2.2.2.2.1,fun p hp=>(h.ob o ho).2.2.2.2.2.2 p ?_⟩⟩ <;>
  (subst hk; exact List.mem_of_mem_drop hp)
theorem V.dR {Q:List (Sl × List Int)}(h:V wB u l R O ns t T cs N)(hq:∀ x∈Q,x∈R):V wB u l Q O ns t T cs N :=
 ⟨h.m,fun x hx=>h.r x (hq x hx),h.ow,h.tv,h.nv,h.a1,fun x hx=>h.a2 x (hq x hx),h.a3,h.n0,h.n1,h.n2,h.a4,fun o ho=>⟨(h.ob o ho).1,(h.ob o ho).2.1,(h.ob o ho).2.2.1,(h.ob o ho).2.2.2.1,(h.ob o ho).2.2.2.2.1,fun x hx=>(h.ob o ho).2.2.2.2.2.1 x (hq x hx),(h.ob o ho).2.2.2.2.2.2⟩⟩
theorem V.dO {Q:List (Nat × Obj)}(h:V wB u l R O ns t T cs N)(hq:∀ x∈Q,x∈O):V wB u l R Q ns t T cs N :=
 ⟨h.m,h.r,h.ow,h.tv,h.nv,h.a1,h.a2,h.a3,h.n0,h.n1,h.n2,h.a4,fun o ho=>h.ob o (hq o ho)⟩
theorem V.add {s:Sl}{x:List Int}(h:V wB u l R O ns t T cs N)(hs:Mk u 1 (ie .i64 id) u' s x):V wB u' l ((s,x) :: R) O ns t T cs N:=by
 have h':=h.fr hs.fr0
 refine⟨h'.m,fun y hy=>?_,h'.ow,h'.tv,h'.nv,h.a1,fun y hy b hb=>?_,h.a3,h.n0,h.n1,h.n2,h.a4,fun o ho=>⟨(h'.ob o ho).1,(h.ob o ho).2.1,(h.ob o ho).2.2.1,(h.ob o ho).2.2.2.1,(h.ob o ho).2.2.2.2.1,fun y hy=>?_,(h.ob o ho).2.2.2.2.2.2⟩⟩
 ·rcases List.mem_cons.1 hy with rfl | hy
  ·exact hs.vw
  ·exact h'.r y hy
 ·rcases List.mem_cons.1 hy with rfl | hy
  ·have hn:=hs.nw b hb
   refine⟨hs.ow.lt hb,fun hc=>?_,fun p hp e=>?_⟩
   ·have:=h.ow.lt hc; omega
   ·have:=(h.m.2.1 p hp).lt; omega
  ·exact h'.a2 y hy b hb
 ·rcases List.mem_cons.1 hy with rfl | hy
  ·intro hb
   have:=hs.nw _ hb
   have:=h.olt ho
   omega
  ·exact(h.ob o ho).2.2.2.2.2.1 y hy
theorem V.push {c:NdC}{n:Nd}{bytes:Nat}{zero:List Value}{e e':Nat}{K:SW}(h:V wB u l R O ns t T cs N)(hn:NdOk u c n)(hnil:∀ b,¬inB c.nx b)(hz:zero.length=4)(hb:(cs.length+1)*bytes<=2^47)(hm:cs.length+1<2^63)
  (hK:∀ r u',V wB u' l R O r t T (cs++[c]) (N++[n])->K r u'):apS 4 bytes zero e ns ⟨some ⟨u.heap.size,0,none⟩,1,1⟩ (u.alloc (Obj.cells (encN c).toArray e')) K:=by
 have hf:Fr F0 u (u.alloc (Obj.cells (encN c).toArray e')):=Fr.alloc
 have h':=h.fr hf
 refine h'.ow.app (m:=[c]) (Vw.new rfl rfl) encN_ok hz hb hm fun r u2 ho hf2 hi=>hK r u2 ?_
 have hin:∀ b,inB r b->inB ns b\/u.heap.size<=b:=fun b hb=>(hi b hb).imp_right fun h=>Nat.le_trans hf.1 h
 have hmem:∀ d∈cs++[c],d∈cs\/d=c:=fun d hd=>by
  rcases List.mem_append.1 hd with h | h
  ·exact .inl h
  ·exact .inr (List.mem_singleton.1 h)
 refine⟨h'.m.frF hf2 (fun p hp=>(h.a1 p hp).1) h.n0,fun x hx=>(h'.r x hx).frF hf2 fun b hb=>(h.a2 x hx b hb).2.1,ho,h'.tv.frF hf2 fun b hb hc=>(h.a3 b hc).1 hb,?_,fun p hp=>⟨fun hc=>?_,(h.a1 p hp).2.1,fun d hd=>?_⟩,fun x hx b hb=>⟨Nat.lt_of_lt_of_le (h'.a2 x hx b hb).1 hf2.1,fun hc=>?_,(h.a2 x hx b hb).2.2⟩,fun b hc=>⟨fun hb=>?_,fun d hd hb=>?_⟩,fun b hb=>?_,h.n1,fun d hd b hb=>?_,fun d hd b hb=>?_,fun o ho=>⟨?_,(h.ob o ho).2.1,fun hc=>?_,(h.ob o ho).2.2.2.1,fun d hd=>?_,(h.ob o ho).2.2.2.2.2⟩⟩
 ·exact(h'.nv.imp fun d hd l ho=>ho.frF hf2 fun b hb hc=>(h.a3 b hc).2 d hd hb).append ⟨⟨hn.lot,hn.num,hn.den,(hn.nx.fr hf).frF hf2 fun b hb=>absurd hb (hnil b),hn.i1,hn.i2,hn.ln,hn.i0⟩,trivial⟩
 ·rcases hin _ hc with hc | hc
  ·exact(h.a1 p hp).1 hc
  ·have:=(h.m.2.1 p hp).lt; omega
 ·rcases hmem d hd with hd | rfl
  ·exact(h.a1 p hp).2.2 d hd
  ·exact hnil _
 ·rcases hin _ hc with hc | hc
  ·exact(h.a2 x hx b hb).2.1 hc
  ·have:=(h.a2 x hx b hb).1; omega
 ·rcases hin _ hc with hc | hc
  ·exact(h.a3 b hc).1 hb
  ·have:=h.tv.lt hb; omega
 ·rcases hmem d hd with hd | rfl
  ·rcases hin _ hc with hc | hc
   ·exact(h.a3 b hc).2 d hd hb
   ·have:=h.nxlt hd hb; omega
  ·exact hnil _ hb
 ·rcases hin _ hb with hb | hb
  ·exact h.n0 b hb
  ·exact Nat.le_trans h.m.1.1 hb
 ·rcases hmem d hd with hd | rfl
  ·exact h.n2 d hd b hb
  ·exact absurd hb (hnil b)
 ·rcases hmem d hd with hd | rfl
  ·exact h.a4 d hd b hb
  ·exact absurd hb (hnil b)
 ·rw[hf2.2.1 _ (h'.olt ho) (h.ob o ho).2.2.1]
  exact(h'.ob o ho).1
 ·rcases hin _ hc with hc | hc
  ·exact(h.ob o ho).2.2.1 hc
  ·have:=h.olt ho; omega
 ·rcases hmem d hd with hd | rfl
  ·exact(h.ob o ho).2.2.2.2.1 d hd
  ·exact hnil _
theorem V.newO {o:Obj}(h:V wB u l R O ns t T cs N):V wB (u.alloc o) l R ((u.heap.size,o) :: O) ns t T cs N:=by
 have hf:Fr F0 u (u.alloc o):=Fr.alloc
 have h':=h.fr hf
 refine⟨h'.m,h'.r,h'.ow,h'.tv,h'.nv,h'.a1,h'.a2,h'.a3,h'.n0,h'.n1,h'.n2,h'.a4,fun q hq=>?_⟩
 rcases List.mem_cons.1 hq with rfl | hq
 ·refine⟨World.alloc_heap_new _ _,h.m.1.1,fun hb=>?_,fun hb=>?_,fun c hc hb=>?_,fun x hx hb=>?_,fun p hp e=>?_⟩
  ·have:=h.ow.lt hb; simp at this
  ·have:=h.tv.lt hb; simp at this
  ·have:=h.nxlt hc hb; simp at this
  ·have:=(h.a2 x hx _ hb).1; simp at this
  ·have:=(h.m.2.1 p hp).lt
   simp only at e
   omega
 ·exact h'.ob q hq
theorem V.put {b:Nat}{o o':Obj}(h:V wB u l R ((b,o) :: O) ns t T cs N)(hn:∀ q∈O,q.1≠b):V wB (u.putObj b o') l R ((b,o') :: O) ns t T cs N:=by
 have hf:Fr (fun c=>c=b) u (u.putObj b o'):=⟨by simp,fun c _ hn=>World.putObj_heap_other fun he=>hn he,rfl,rfl,rfl⟩
 obtain⟨q0,q1,q2,q3,q4,q5,q6⟩:=h.ob _ (List.mem_cons_self ..)
 have hlt:=h.olt (List.mem_cons_self ..)
 refine⟨h.m.frF hf (fun p hp e=>q6 p hp e) fun c hc=>hc ▸ q1,fun x hx=>(h.r x hx).frF hf fun c hc e=>q5 x hx (e ▸ hc),h.ow.frF hf fun c hc e=>q2 (e ▸ hc),h.tv.frF hf fun c hc e=>q3 (e ▸ hc),h.nv.imp fun c hc l ho=>ho.frF hf fun d hd e=>q4 c hc (e ▸ hd),h.a1,fun x hx c hc=>⟨by simpa using (h.a2 x hx c hc).1,(h.a2 x hx c hc).2⟩,h.a3,h.n0,h.n1,h.n2,h.a4,fun q hq=>?_⟩
 rcases List.mem_cons.1 hq with rfl | hq
 ·exact⟨World.putObj_heap_same hlt,q1,q2,q3,q4,q5,q6⟩
 ·have hq':=h.ob q (List.mem_cons_of_mem _ hq)
  refine⟨?_,hq'.2⟩
  rw[hf.2.1 _ (h.olt (List.mem_cons_of_mem _ hq)) (hn q hq)]
  exact hq'.1
end
open Go Pw
section
variable {wB u u':World}{l:List (Nat × List Value)}{R:List (Sl × List Int)}{O:List (Nat × Obj)}{ns t:Sl}{T:List Int}{cs:List NdC}{N:List Nd}
theorem flatMap_set_enc (cs:List NdC)(i k:Nat)(c d:NdC)(v:Value)(hi:cs[i]?=some c)(hk:k<4)(hd:encN d=(encN c).set k v):(cs.flatMap encN).set (i*4+k) v=(cs.set i d).flatMap encN:=by
 induction cs generalizing i with
 | nil=>simp at hi
 | cons x cs ih =>
  cases i with
  | zero =>
   simp only[List.getElem?_cons_zero,Option.some.injEq] at hi
   subst hi
   simp only[Nat.zero_mul,Nat.zero_add,List.flatMap_cons,List.set_cons_zero,hd]
   rw[List.set_append,if_pos (by simpa using hk)]
  | succ i =>
   simp only[List.getElem?_cons_succ] at hi
   simp only[List.flatMap_cons,List.set_cons_succ]
   rw[List.set_append,if_neg (by simp; omega)]
   have:=ih i hi
   rw[← this]
   congr 2
   simp only[encN_length]
   omega
theorem V.nodeAt (h:V wB u l R O ns t T cs N){i:Nat}{c:NdC}(hi:cs[i]?=some c):∃ b,ns.p=some ⟨b,0,none⟩/\∀ k,k<4->wrOk u ⟨b,i*4+k,none⟩/\∀ v d,encN d=(encN c).set k v->Ow 4 encN (u.setCell ⟨b,i*4+k,none⟩ v) ns (cs.set i d):=by
 have hlt:i<cs.length:=(List.getElem?_eq_some_iff.1 hi).1
 obtain⟨hl,hown⟩:=h.ow
 obtain⟨hol,hnil | ⟨b,vs,hp,hrow,hcs,hle,ht⟩⟩:=hown
 ·omega
 ·refine⟨b,hp,fun k hk=>?_⟩
  rw[fm_length encN_length] at hol ht
  have hbd:i*4+k<vs.length:=by omega
  refine⟨hrow.wr hbd,fun v d hd=>⟨by simp[hl],?_,.inr ⟨b,_,hp,hrow.set (i*4+k) v,by simpa using hcs,hle,?_⟩⟩⟩
  ·rw[fm_length encN_length]; simp[hl]
  ·rw[fm_length encN_length,List.length_set,List.take_set,ht,flatMap_set_enc cs i k c d v hi hk hd]
theorem V.setNd (h:V wB u l R O ns t T cs N){i k b:Nat}{c d:NdC}{n m:Nd}{v:Value}(hi:cs[i]?=some c)(hn:N[i]?=some n)(hp:ns.p=some ⟨b,0,none⟩)(hk:k<4)(hd:encN d=(encN c).set k v)
  (hm:d.lot=m.lot/\d.num=m.num/\d.den=m.den/\m.next=n.next) (hx:d.nx=c.nx) (hi1:I64 m.num) (hi2:I64 m.den) (h0:n.lot=m.lot) :
  V wB (u.setCell ⟨b,i*4+k,none⟩ v) l R O ns t T (cs.set i d) (N.set i m):=by
 obtain⟨b',hp',hq⟩:=h.nodeAt hi
 rw[hp] at hp'
 cases hp'
 have hf:Fr (fun c=>c=b) u (u.setCell ⟨b,i*4+k,none⟩ v):=Fr.set rfl
 have hb:inB ns b:=⟨_,hp,rfl⟩
 have hcm:=List.mem_of_getElem? hi
 have hmem:∀ e∈cs.set i d,∃ f∈cs,e.nx=f.nx:=fun e he=>by
  rcases List.mem_or_eq_of_mem_set he with he | rfl
  ·exact⟨e,he,rfl⟩
  ·exact⟨c,hcm,hx⟩
 refine⟨h.m.frF hf (fun p hp e=>(h.a1 p hp).1 (e ▸ hb)) fun c hc=>hc ▸ h.n0 b hb,fun x hx=>(h.r x hx).frF hf fun c hc e=>(h.a2 x hx c hc).2.1 (e ▸ hb),(hq k hk).2 v d hd,h.tv.frF hf fun c hc e=>(h.a3 b hb).1 (e ▸ hc),?_,fun p hp=>⟨(h.a1 p hp).1,(h.a1 p hp).2.1,fun e he hc=>?_⟩,fun x hx c hc=>⟨by simpa using (h.a2 x hx c hc).1,(h.a2 x hx c hc).2⟩,fun c hc=>⟨(h.a3 c hc).1,fun e he hc'=>?_⟩,h.n0,h.n1,fun e he b hb=>?_,fun e he b hb=>?_,fun o ho=>⟨?_,(h.ob o ho).2.1,(h.ob o ho).2.2.1,(h.ob o ho).2.2.2.1,fun e he hc=>?_,(h.ob o ho).2.2.2.2.2⟩⟩
 ·have hno:=h.nv.at hi hn
  have h':=h.nv.imp (w':=u.setCell ⟨b,i*4+k,none⟩ v) fun e he l ho=>ho.frF hf fun c hc e'=>(h.a3 b hb).2 e he (e' ▸ hc)
  refine h'.set ⟨hm.1,hm.2.1,hm.2.2.1,?_,hi1,hi2,by rw[hm.2.2.2]; exact hno.ln,h0 ▸ hno.i0⟩
  rw[hx,hm.2.2.2]
  exact(h'.at hi hn).nx
 ·obtain⟨f,hf',e'⟩:=hmem e he
  rw[e'] at hc
  exact(h.a1 p hp).2.2 f hf' hc
 ·obtain⟨f,hf',e'⟩:=hmem e he
  rw[e'] at hc'
  exact(h.a3 c hc).2 f hf' hc'
 ·obtain⟨f,hf',e'⟩:=hmem e he
  rw[e'] at hb
  exact h.n2 f hf' b hb
 ·obtain⟨f,hf',e'⟩:=hmem e he
  rw[e'] at hb
  exact h.a4 f hf' b hb
 ·rw[hf.2.1 _ (h.olt ho) fun e=>(h.ob o ho).2.2.1 (e ▸ hb)]
  exact(h.ob o ho).1
 ·obtain⟨f,hf',e'⟩:=hmem e he
  rw[e'] at hc
  exact(h.ob o ho).2.2.2.2.1 f hf' hc
theorem V.giveNx {x:List Int}{nb:Nat}(h:V wB u ((nb,x.map fun n=>Value.int .i64 n) :: l) R O ns t T cs N){i b:Nat}{c:NdC}{n:Nd}(hi:cs[i]?=some c)(hn:N[i]?=some n)(hp:ns.p=some ⟨b,0,none⟩)(hxl:x.length<2^40) :
  V wB (u.setCell ⟨b,i*4+3,none⟩ (.slice (some ⟨nb,0,none⟩) x.length x.length)) l R O ns t T (cs.set i ⟨c.lot,c.num,c.den,⟨some ⟨nb,0,none⟩,x.length,x.length⟩⟩) (N.set i ⟨n.lot,n.num,n.den,x⟩):=by
 obtain⟨b',hp',hq⟩:=h.nodeAt hi
 rw[hp] at hp'
 cases hp'
 have hrow:Row u nb (x.map fun n=>Value.int .i64 n):=h.m.row 0 rfl
 have hf:Fr (fun c=>c=b) u (u.setCell ⟨b,i*4+3,none⟩ (.slice (some ⟨nb,0,none⟩) x.length x.length)):=Fr.set rfl
 have hb:inB ns b:=⟨_,hp,rfl⟩
 have hnb:nb≠b:=fun e=>(h.a1 _ (List.mem_cons_self ..)).1 (e ▸ hb)
 have hcm:=List.mem_of_getElem? hi
 obtain⟨z1,z2,z3⟩:=h.a1 _ (List.mem_cons_self ..)
 have hpw:=h.m.2.2.1
 simp only[List.map_cons,List.pairwise_cons] at hpw
 have hmem:∀ e∈cs.set i ⟨c.lot,c.num,c.den,⟨some ⟨nb,0,none⟩,x.length,x.length⟩⟩,e∈cs\/e.nx=⟨some ⟨nb,0,none⟩,x.length,x.length⟩:=fun e he=>by
  rcases List.mem_or_eq_of_mem_set he with he | rfl
  ·exact .inl he
  ·exact .inr rfl
 have hin:∀ {d:Nat} {e:NdC},e.nx=⟨some ⟨nb,0,none⟩,x.length,x.length⟩->inB e.nx d->d=nb:=by
  rintro d e he ⟨a,ha,rfl⟩
  rw[he] at ha
  cases ha
  rfl
 have h1:=h.dr (k:=l) 1 rfl
 refine⟨h1.m.frF hf (fun p hp e=>(h1.a1 p hp).1 (e ▸ hb)) fun c hc=>hc ▸ h.n0 b hb,fun x hx=>(h.r x hx).frF hf fun c hc e=>(h.a2 x hx c hc).2.1 (e ▸ hb),(hq 3 (by decide)).2 _ _ rfl,h.tv.frF hf fun c hc e=>(h.a3 b hb).1 (e ▸ hc),?_,fun p hp=>⟨(h1.a1 p hp).1,(h1.a1 p hp).2.1,fun e he hc=>?_⟩,fun x hx c hc=>⟨by simpa using (h.a2 x hx c hc).1,(h1.a2 x hx c hc).2⟩,fun c hc=>⟨(h.a3 c hc).1,fun e he hc'=>?_⟩,h.n0,h.n1,fun e he b hb=>?_,fun e he d hd=>?_,fun o ho=>⟨?_,(h.ob o ho).2.1,(h.ob o ho).2.2.1,(h.ob o ho).2.2.2.1,fun e he hc=>?_,(h.ob o ho).2.2.2.2.2.1,(h1.ob o ho).2.2.2.2.2.2⟩⟩
 ·have hno:=h.nv.at hi hn
  have h':=h.nv.imp (w':=u.setCell ⟨b,i*4+3,none⟩ (.slice (some ⟨nb,0,none⟩) x.length x.length)) fun e he l ho=>ho.frF hf fun c hc e'=>(h.a3 b hb).2 e he (e' ▸ hc)
  exact h'.set ⟨hno.lot,hno.num,hno.den,Ow.row (hf.row hrow hnb),hno.i1,hno.i2,hxl,hno.i0⟩
 ·rcases hmem e he with he | he
  ·exact(h1.a1 p hp).2.2 e he hc
  ·have:=hin he hc
   have:=hpw.1 _ (List.mem_map_of_mem hp)
   omega
 ·rcases hmem e he with he | he
  ·exact(h.a3 c hc).2 e he hc'
  ·exact z1 (hin he hc' ▸ hc)
 ·rcases hmem e he with he | he
  ·exact h.n2 e he b hb
  ·rw[hin he hb]
   exact h.m.2.2.2 _ (List.mem_cons_self ..)
 ·rcases hmem e he with he | he
  ·exact h.a4 e he d hd
  ·rw[hin he hd]
   exact z2
 ·rw[hf.2.1 _ (h.olt ho) fun e=>(h.ob o ho).2.2.1 (e ▸ hb)]
  exact(h.ob o ho).1
 ·rcases hmem e he with he | he
  ·exact(h.ob o ho).2.2.2.2.1 e he hc
  ·exact(h.ob o ho).2.2.2.2.2.2 _ (List.mem_cons_self ..) (hin he hc).symm
theorem V.newT {s:Sl}{x:List Int}(h:V wB u l R O ns t T cs N)(hs:Mk u 1 (ie .i64 id) u' s x):V wB u' l R O ns s x cs N:=by
 have h':=h.fr hs.fr0
 refine⟨h'.m,h'.r,h'.ow,hs.ow,h'.nv,fun p hp=>⟨(h.a1 p hp).1,fun hb=>?_,(h.a1 p hp).2.2⟩,h'.a2,fun b hb=>⟨fun hc=>?_,(h.a3 b hb).2⟩,h.n0,fun b hb=>Nat.le_trans h.m.1.1 (hs.nw b hb),h.n2,fun c hc b hb hb'=>?_,fun o ho=>⟨(h'.ob o ho).1,(h.ob o ho).2.1,(h.ob o ho).2.2.1,fun hb=>?_,(h.ob o ho).2.2.2.2⟩⟩
 ·have:=hs.nw _ hb
  have:=(h.m.2.1 p hp).lt
  omega
 ·have:=hs.nw _ hc
  have:=h.ow.lt hb
  omega
 ·have:=hs.nw _ hb'
  have:=h.nxlt hc hb
  omega
 ·have:=hs.nw _ hb
  have:=h.olt ho
  omega
theorem V.make {k:Nat}{e:Nat}{K:SW}(h:V wB u l R O ns t T cs N)(hk:k<2^40)
  (hK:∀ u',V wB u' ((u.heap.size,(List.replicate k (0:Int)).map fun n=>Value.int .i64 n) :: l) R O ns t T cs N->K ⟨some ⟨u.heap.size,0,none⟩,k,k⟩ u'):mkS 8 [.int .i64 0] e k k u K:=by
 refine⟨by omega,Int.le_refl _,by omega,by omega,?_⟩
 have e1:rowZ [Value.int .i64 0] (k*1)=(List.replicate k (0:Int)).map fun n=>Value.int .i64 n:=by
  apply List.ext_getElem
  ·simp[rowZ]
  ·intro i h1 h2
   simp[rowZ,Nat.mod_one]
 have:=hK (u.alloc (Obj.cells (rowZ [Value.int .i64 0] (k*1)).toArray e)) (by rw[e1]; exact h.allocL)
 simpa [newSl] using this
end
open Go Pw
section
variable {wB u u' w w':World}{l:List (Nat × List Value)}{R:List (Sl × List Int)}{O:List (Nat × Obj)}{ns t s:Sl}{T:List Int}{cs:List NdC}{N:List Nd}
theorem V.sub {k:List (Nat × List Value)}(h:V wB u l R O ns t T cs N)(n:Nat)(hk:l.drop n=k):Rs u k:=h.m.sub n hk
theorem V.row {b:Nat}{vs:List Value}(h:V wB u l R O ns t T cs N)(j:Nat)(hj:l[j]?=some (b,vs)):Row u b vs:=h.m.row j hj
theorem V.setN {b:Nat}:∀ (vs:List Value) (i j:Nat) (u:World) (l:List (Nat × List Value)) (xs:List Value) (K:World->Prop),V wB u l R O ns t T cs N->l[j]?=some (b,xs)->i+vs.length<=xs.length ->
  (∀ u',V wB u' (l.set j (b,xs.take i++vs++xs.drop (i+vs.length))) R O ns t T cs N->K u')->stN.go ⟨b,0,none⟩ K vs i u
 | [],i,j,u,l,xs,K,m,hj,_,hK=>by
  refine hK u ?_
  have e:xs.take i++[]++xs.drop (i+([]:List Value).length)=xs:=by simp
  rw[e,set_self hj]
  exact m
 | v :: vs,i,j,u,l,xs,K,m,hj,hi,hK=>by
  simp only[List.length_cons] at hi
  unfold stN.go
  have hl:j<l.length:=(List.getElem?_eq_some_iff.1 hj).1
  simp only[add_mk,Nat.zero_add]
  refine⟨m.wr j hj (by simp[Nat.blt_eq]; omega),?_⟩
  refine V.setN vs (i+1) j _ (l.set j (b,xs.set i v)) (xs.set i v) K (m.set j hj) (by simp[hl]) (by simp; omega) fun u' m'=>hK u' ?_
  have e:(xs.set i v).take (i+1)++vs++(xs.set i v).drop (i+1+vs.length)=xs.take i++v :: vs++xs.drop (i+(v :: vs).length):=by
   apply List.ext_getElem?
   intro k
   have h3:min (i+1) xs.length=i+1:=by omega
   have h4:min i xs.length=i:=by omega
   simp only[List.getElem?_append,List.length_append,List.length_take,List.length_set,List.length_cons,h3,h4,List.getElem?_take,List.getElem?_drop,List.getElem?_set]
   by_cases h1:k<i
   ·rw[if_pos (by omega),if_pos (by omega),if_pos (by omega),if_neg (by omega),if_pos (by omega),if_pos (by omega),if_pos h1]
   ·by_cases h2:k=i
    ·subst h2
     rw[if_pos (by omega),if_pos (by omega),if_pos (by omega),if_pos rfl,if_pos (by omega),if_pos (by omega),if_neg (by omega)]
     simp
    ·by_cases h5:k<i+1+vs.length
     ·rw[if_pos (by omega),if_neg (by omega),if_pos (by omega),if_neg (by omega)]
      have:k-i=(k-(i+1))+1:=by omega
      rw[this,List.getElem?_cons_succ]
     ·rw[if_neg (by omega),if_neg (by omega),if_neg (by omega)]
      congr 1
      omega
  rw[List.set_set,e] at m'
  exact m'
theorem stN_atV {b:Nat}{xs vs:List Value}{K:World->Prop}(m:V wB u l R O ns t T cs N)(j:Nat)(hj:l[j]?=some (b,xs))(hl:xs.length=vs.length)(hK:∀ u',V wB u' (l.set j (b,vs)) R O ns t T cs N->K u'):stN u ⟨b,0,none⟩ vs K:=by
 refine V.setN vs 0 j u l xs K m hj (by omega) fun u' m'=>hK u' ?_
 have e:xs.take 0++vs++xs.drop (0+vs.length)=vs:=by simp[← hl]
 rw[e] at m'
 exact m'
structure Ix (l:List (Nat × List Value))(jr jp jv sb spb vb fid:Nat)(row:List Value):Prop where
 r:l[jr]?=some (sb,row)
 p:l[jp]?=some (spb,[.pointer (some ⟨sb,0,none⟩)])
 v:l[jv]?=some (vb,[fnv fid [spb,vb]])
 np:jr≠jp
 nv:jr≠jv
theorem Ix.set {jr jp jv sb spb vb fid:Nat}{row:List Value}(h:Ix l jr jp jv sb spb vb fid row)(row':List Value):Ix (l.set jr (sb,row')) jr jp jv sb spb vb fid row':=by
 have hl:jr<l.length:=(List.getElem?_eq_some_iff.1 h.r).1
 exact⟨by simp[hl],by rw[List.getElem?_set_ne h.np]; exact h.p,by rw[List.getElem?_set_ne h.nv]; exact h.v,h.np,h.nv⟩
theorem Ix.front {jr jp jv sb spb vb fid:Nat}{row:List Value}(h:Ix l jr jp jv sb spb vb fid row)(f:List (Nat × List Value)):Ix (f++l) (jr+f.length) (jp+f.length) (jv+f.length) sb spb vb fid row:=by
 have key:∀ j,(f++l)[j+f.length]?=l[j]?:=fun j=>by rw[List.getElem?_append_right (by omega),Nat.add_sub_cancel]
 exact⟨by rw[key]; exact h.r,by rw[key]; exact h.p,by rw[key]; exact h.v,by have:=h.np; omega,by have:=h.nv; omega⟩
theorem Mul_one_spec {x y:Nat}{K:Int->Int->World->Prop}(hx:x<18446744073709551616)(hy:y<18446744073709551616)
  (hK:K ((x*y / 18446744073709551616:Nat):Int) ((x*y % 18446744073709551616:Nat):Int) w):z54_sh x y K w:=⟨Mul64_spec hx hy hK⟩
theorem replicate_drop_take {k n:Nat}{v:Int}{l:List Int}(hl:l.length=k)(hn:n<=k)(ht:l.take n=List.replicate n v){c:Nat}(hc:c=min n (k-n)) :
  (l.take n++(List.replicate n v).take (k-n)++l.drop (n+c)).take (n+c)=List.replicate (n+c) v/\(l.take n++(List.replicate n v).take (k-n)++l.drop (n+c)).length=k:=by
 have e1:(List.replicate n v).take (k-n)=List.replicate c v:=by rw[List.take_replicate,hc,Nat.min_comm]
 rw[e1,ht]
 have e2:(List.replicate n v++List.replicate c v)=List.replicate (n+c) v:=by rw[List.replicate_append_replicate]
 rw[e2]
 refine⟨?_,by simp; omega⟩
 rw[List.take_append_of_le_length (by simp),List.take_of_length_le (by simp)]
theorem Repeat_spec {v:Int}{k:Nat}{K:Sl->World->Prop}(h:VI w s [v])(hk0:1<=k)(hk:k<2^20)(hK:∀ s' w',Mk w 1 (ie .i64 id) w' s' (List.replicate k v)->K s' w'):z3v_sh s k K w:=by
 have hlen:=h.len
 simp only[List.length_singleton] at hlen
 refine⟨?_⟩
 unfold z3v_sd
 rw[cnd_prop]
 refine⟨fun h=>by omega,fun _=>⟨inRu (by omega) (by omega),inRu (by omega) (by omega),?_⟩⟩
 refine Mul_one_spec (by omega) (by omega) ?_
 rw[hlen,Nat.one_mul,Nat.div_eq_of_lt (by omega),Nat.mod_eq_of_lt (by omega)]
 rw[cnd_prop]
 refine⟨fun h=>by simp at h,fun _=>?_⟩
 rw[cnd_prop]
 refine⟨fun h=>by omega,fun _=>⟨inR64 (by omega) (by omega),?_⟩⟩
 refine Mk.make (z:=(0:Int)) (enc:=ie .i64 id) (n:=1) Fr.refl rfl rfl (by omega) (by omega) (by omega) fun r w1 hm hf1=>?_
 simp only[Int.toNat_natCast] at hm
 have hrl:=hm.len
 simp only[List.length_replicate] at hrl
 have hcap:=hm.vw.cap
 refine Mk.cp (off:=0) hm (h.fr hf1) (by omega) ?_ (by simp[hrl]) fun w2 hm2 hf2=>?_
 ·unfold subP
  split
  ·rfl
  ·cases r.p with
   | none=>rfl
   | some a=>simp[Addr.add]
 simp only[List.length_singleton,List.length_replicate,Nat.sub_zero,Nat.zero_add,List.take_zero,List.nil_append] at hm2 ⊢
 rw[Nat.min_eq_left hk0] at hm2 ⊢
 have ht1:([v].take k:List Int)=[v]:=List.take_of_length_le (by simpa using hk0)
 rw[ht1] at hm2
 refine⟨⟨fun n w'=>∃ (n':Nat) (l:List Int),n=n'/\1<=n'/\n'<=k/\Mk w 1 (ie .i64 id) w' r l/\l.length=k/\l.take n'=List.replicate n' v,fun n _=>k-n.toNat,⟨1,_,rfl,Nat.le_refl _,hk0,hm2,by simp; omega,by simp⟩,?_⟩⟩
 rintro n w3 ⟨n,l,rfl,h1,h2,hm3,hll,htk⟩
 unfold z3v_b1
 rw[cnd_prop]
 refine⟨fun hlt=>?_,fun hge=>?_⟩
 ·have hlt:n<k:=by omega
  intro w4
  have hm4:Mk w 1 (ie .i64 id) w4 r l:=hm3.fr Fr.drew
  clear_value w4
  refine⟨fun _=>True,trivial,⟨by omega,by omega⟩,⟨by omega,by omega,by omega⟩,?_⟩
  have hsrc:VI w4 (Sl.mk (subP r.p 0 r.c 1) ((n:Int).toNat-0) (r.c-0)) (l.take n):=Vw.take hm4.vw (fun a=>ie_length _ _ a) (by omega)
  have hob:=replicate_drop_take hll h2 htk (c:=min n (k-n)) rfl
  refine Mk.cp (off:=n) hm4 hsrc (by omega) rfl (by simp only[Int.toNat_natCast]; omega) fun w5 hm5 _=>?_
  have e3:(l.take n).length=n:=by rw[List.length_take]; omega
  rw[e3,hll] at hm5 ⊢
  rw[htk] at hm5
  rw[htk] at hob
  exact⟨inR64 (by omega) (by omega),⟨⟨rfl,trivial⟩,n+min n (k-n),_,by omega,by omega,by omega,hm5,hob.2,hob.1⟩,by dsimp only; omega⟩
 ·have:n=k:=by omega
  subst this
  rw[List.take_of_length_le (by omega)] at htk
  rw[htk] at hm3
  exact hK r w3 hm3
end
open Go Pw
abbrev frL (bb nxb nb ob db fb r2b r1b tkb:Nat)(o:Sl)(nx:List Int)(D F:List Value)(b2:Bool)(a1:Int)(take:Sl):List (Nat × List Value) :=
 [(bb,[.slice o.p o.l o.c]),(nxb,[.slice (some ⟨nb,0,none⟩) nx.length nx.length]),(nb,nx.map fun n=>Value.int .i64 n),(ob,[.slice o.p o.l o.c]),(db,D),(fb,F),(r2b,[.bool b2]),(r1b,[.int .i64 a1]),(tkb,[.slice take.p take.l take.c])]
def VisitOk (wB:World)(s0 s1 s2:Sl)(p:Pr)(ls:List Int):Prop :=
 ∀ {w:World} {l:List (Nat × List Value)} {R:List (Sl × List Int)} {O:List (Nat × Obj)} {ns t take:Sl} {T f ds:List Int} {cs:List NdC} {N:List Nd} {left:Int} {jr jp jv sb spb vb:Nat} {K:Int->Bool->World->Prop},
  p.lots=ds++ls->f.length=ds.length->V wB w l R O ns t T cs N->Ix l jr jp jv sb spb vb (idOf z15_ok) (schC t 0 0 ns s0 s1 s2 p.most p.budget left)->(take,f)∈R->Decs p p.lots f->Perm p T->0<=left->left+N.length<=1048576 ->
  (∀ w' n ok left' ns' t' T' cs' N',V wB w' (l.set jr (sb,schC t' 0 0 ns' s0 s1 s2 p.most p.budget left')) R O ns' t' T' cs' N'->VP (upB p) p f ls left T N left' T' N' n ok->K n ok w') ->
  z15_sh take ⟨spb,0,none⟩ ⟨vb,0,none⟩ K w
theorem callV_yield {l:Nat}{vs:List Value}{w:World}{K:VW}(h:Yl Tryz.prog l vs.toArray w K):CallV Tryz.prog (.func (.yield l) #[] #[]) vs w K:=by
 unfold CallV
 simpa using h
structure Rd (p:Pr)(f ls os:List Int)(left0:Int)(T0:List Int)(N0:List Nd)(i:Nat)(left:Int)(T:List Int)(N:List Nd)(nx:List Int):Prop where
 len:nx.length=os.length
 kd:kids (Tree (upB p) p T N ls) f (os.drop i) (nx.drop i) (N0.length+1) N.length
 perm:Perm p T
 bt:T=T0\/Bt p T T0
 pre:N0++[⟨f.length,0,1,[]⟩] <+: N
 lf:left+N.length=left0+N0.length
 l0:0<=left
 up:N.length<=N0.length+1+(os.length-i)*prefN p ls
section
variable {wB w:World}{l:List (Nat × List Value)}{R:List (Sl × List Int)}{O:List (Nat × Obj)}{ns t take o s0 s1 s2:Sl}{p:Pr}{T f ds ls os nx T0:List Int}{cs:List NdC}{N N0:List Nd}{left left0:Int}{jr jp jv sb spb vb:Nat}
 {bb nxb nb ob db fb r2b r1b tkb lb dq fn i:Nat} {D F:List Value} {tmps:Array Value} {g h2:Value} {nn:Int} {lot:Int}
theorem frL_len {b2:Bool}{a1:Int}:(frL bb nxb nb ob db fb r2b r1b tkb o nx D F b2 a1 take).length=9:=rfl
theorem round_spec {K':VW}(hp:RightPr p)(hIH:VisitOk wB s0 s1 s2 p ls)(hlots:p.lots=ds++lot :: ls)(hfl:f.length=ds.length)(hos:os=opts p lot)(hd:Decs p p.lots f)
  (hv:V wB w (frL bb nxb nb ob db fb r2b r1b tkb o nx D F false 0 take++l.set jr (sb,schC t 0 0 ns s0 s1 s2 p.most p.budget left)) ((o,os) :: R) ((lb,lrec fn tmps z15_ps1 z15_as1 z15_bd1 dq .ready none) :: (dq,.deferred (some [])) :: O) ns t T cs N)
  (hix:∃ row,Ix l jr jp jv sb spb vb (idOf z15_ok) row) (htk:(take,f)∈R) (hO:∀ q∈(dq,Obj.deferred (some [])) :: O,q.1≠lb)
  (hag:agrT 139 [(1,(Value.pointer (some ⟨spb,0,none⟩))),(2,(Value.pointer (some ⟨vb,0,none⟩))),(3,(Value.pointer (some ⟨tkb,0,none⟩))),(4,(Value.pointer (some ⟨r1b,0,none⟩))),(5,(Value.pointer (some ⟨r2b,0,none⟩))),(6,(Value.int .i64 nn)),(10,(Value.pointer (some ⟨ob,0,none⟩))),(11,(Value.pointer (some ⟨nxb,0,none⟩))),(107,g)] tmps)
  (hi:i<os.length) (hol:os.length<2^40) (hr:Rd p f ls os left0 T0 N0 (i+1) left T N nx) (hmax:left0+N0.length<=1048576)
  (hK:∀ w' ns' t' T' cs' N' left' nx',V wB w' (frL bb nxb nb ob db fb r2b r1b tkb o nx' D F false 0 take++l.set jr (sb,schC t' 0 0 ns' s0 s1 s2 p.most p.budget left')) ((o,os) :: R) ((lb,lrec fn tmps z15_ps1 z15_as1 z15_bd1 dq .ready none) :: (dq,.deferred (some [])) :: O) ns' t' T' cs' N' ->
   Rd p f ls os left0 T0 N0 i left' T' N' nx'->K' (.bool true) w')
  (hF:∀ w' ns' t' T' cs' N' left' nx',V wB w' (frL bb nxb nb ob db fb r2b r1b tkb o nx' D F false 0 take++l.set jr (sb,schC t' 0 0 ns' s0 s1 s2 p.most p.budget left')) ((o,os) :: R) ((lb,lrec fn tmps z15_ps1 z15_as1 z15_bd1 dq .done (some .ret)) :: (dq,.deferred (some [])) :: O) ns' t' T' cs' N' ->
   Perm p T'->(T'=T0\/Bt p T' T0)->N0 <+: N'->-1<=left'->left0<prefN p (lot :: ls)->K' (.bool false) w') :
  Yl Tryz.prog lb #[.int .i64 i,h2] w K':=by
 obtain⟨row,ix0⟩:=hix
 refine z15_y1 (fun _ _=>True) ⟨spb,0,none⟩ ⟨vb,0,none⟩ ⟨tkb,0,none⟩ ⟨r1b,0,none⟩ ⟨r2b,0,none⟩ nn ⟨ob,0,none⟩ ⟨nxb,0,none⟩ g i h2 hag (hv.ob _ (List.mem_cons_self ..)).1 ⟨?_⟩
 unfold z15_r1d
 refine⟨(hv.ob _ (List.mem_cons_self ..)).1,?_⟩
 have v:=(hv.put (o':=lrec fn tmps z15_ps1 z15_as1 z15_bd1 dq .busy none) hO).drew
 dsimp -zeta only
 intro w1
 have v:V wB w1 _ _ _ _ _ _ _ _:=v
 clear_value w1
 have ix1:=(ix0.set (schC t 0 0 ns s0 s1 s2 p.most p.budget left)).front (frL bb nxb nb ob db fb r2b r1b tkb o nx D F false 0 take)
 rw[frL_len] at ix1
 -- what the round's loads lean on
 let S:World->Prop:=fun u=>Row u vb [fnv (idOf z15_ok) [spb,vb]]/\Row u tkb [.slice take.p take.l take.c]/\Row u ob [.slice o.p o.l o.c]/\VI u o os
 have hS:∀ {u l' ns' t' T' cs' N' R' O'},V wB u (frL bb nxb nb ob db fb r2b r1b tkb o nx D F false 0 take++l') R' O' ns' t' T' cs' N'->(o,os)∈R'->Ix l' jr jp jv sb spb vb (idOf z15_ok) (schC t' 0 0 ns' s0 s1 s2 p.most p.budget left)\/(∃ row,Ix l' jr jp jv sb spb vb (idOf z15_ok) row)->S u:=by
  intro u l' ns' t' T' cs' N' R' O' vv hm hx
  obtain⟨row,hx⟩:∃ row,Ix l' jr jp jv sb spb vb (idOf z15_ok) row:=by
   rcases hx with hx | hx
   ·exact⟨_,hx⟩
   ·exact hx
  have hx:=hx.front (frL bb nxb nb ob db fb r2b r1b tkb o nx D F false 0 take)
  exact⟨vv.row _ hx.v,vv.row 8 rfl,vv.row 3 rfl,vv.r _ hm⟩
 have hxs:∀ row',∃ row,Ix (l.set jr (sb,row')) jr jp jv sb spb vb (idOf z15_ok) row:=fun row'=>⟨_,ix0.set row'⟩
 have hom:(o,os)∈(o,os) :: R:=List.mem_cons_self ..
 have hfi:f.length<2^40:=by have:=right_len hp hd; omega
 have hfr:VI w1 take f:=v.r _ (List.mem_cons_of_mem _ htk)
 -- the visit itself
 have call:∀ {u:World} {s:Sl},Mk w1 1 (ie .i64 id) u s (f++[os[i]])->CallV Tryz.prog (fnv (idOf z15_ok) [spb,vb]) [(Value.slice s.p s.l s.c)] u fun (u138:Value) (w139:World)=>∃ x140:Int,∃ x141:Bool,u138=(Value.tuple #[(Value.int .i64 x140),(Value.bool x141)])/\S w139/\z15_k2 ⟨r1b,0,none⟩ ⟨r2b,0,none⟩ ⟨nxb,0,none⟩ i x140 x141
   (rN lb fn tmps z15_ps1 z15_as1 z15_bd1 dq K') (rR lb fn tmps z15_ps1 z15_as1 z15_bd1 dq K') (fun _ _ _=>True) w139:=by
  intro u s hs
  have va:=v.add hs
  have hd':Decs p p.lots (f++[os[i]]):=by
   refine(decs_get (by rw[hlots]; simp; omega)).2 fun j lot' n' h1 h2=>?_
   rcases Nat.lt_or_ge j f.length with hj | hj
   ·rw[List.getElem?_append_left hj] at h2
    exact(decs_get (decs_len hd)).1 hd j lot' n' h1 h2
   ·rw[List.getElem?_append_right hj] at h2
    have hj0:j-f.length=0:=by
     have:=(List.getElem?_eq_some_iff.1 h2).1
     simp at this
     omega
    rw[hj0] at h2
    simp at h2
    have hje:j=ds.length:=by omega
    rw[hlots,hje,List.getElem?_append_right (Nat.le_refl _)] at h1
    simp at h1
    rw[← h1,← h2]
    exact opts_mem.1 (hos ▸ List.getElem_mem hi)
  have hlf:=hr.lf
  refine callV_of z15_ok (hIH (ds:=ds++[lot]) (by rw[hlots]; simp) (by simp[hfl]) va ix1 (List.mem_cons_self ..) hd' hr.perm hr.l0 (by omega) fun w2 n ok left' ns' t' T' cs' N' v2 hvp=>⟨n,ok,rfl,?_⟩)
  have v2:=v2.dR (Q:=(o,os) :: R) fun x hx=>List.mem_cons_of_mem _ hx
  have e2:(frL bb nxb nb ob db fb r2b r1b tkb o nx D F false 0 take++l.set jr (sb,schC t 0 0 ns s0 s1 s2 p.most p.budget left)).set (jr+9) (sb,schC t' 0 0 ns' s0 s1 s2 p.most p.budget left')=frL bb nxb nb ob db fb r2b r1b tkb o nx D F false 0 take++l.set jr (sb,schC t' 0 0 ns' s0 s1 s2 p.most p.budget left'):=by
   simp only[List.cons_append,List.nil_append,List.set_cons_succ,List.set_set]
  rw[e2] at v2
  refine⟨hS v2 hom (.inr (hxs _)),⟨?_⟩⟩
  unfold z15_k2d
  rw[cnd_iff]
  refine⟨fun hno=>?_,fun hyes=>?_⟩
  ·have hok:ok=false:=by simpa using hno
   have hlt:=hvp.no hok
   refine⟨v2.wr 7 rfl rfl,?_⟩
   intro w3
   have v3:V wB w3 _ _ _ _ _ _ _ _:=v2.set (i:=0) (v:=.int .i64 0) 7 rfl
   clear_value w3
   refine⟨v3.wr 6 rfl rfl,?_⟩
   intro w4
   have v4:V wB w4 _ _ _ _ _ _ _ _:=v3.set (i:=0) (v:=.bool false) 6 rfl
   clear_value w4
   simp only[List.cons_append,List.nil_append,List.set_cons_succ,List.set_cons_zero] at v4
   refine⟨(v4.ob _ (List.mem_cons_self ..)).1,?_⟩
   have v5:=v4.put (o':=lrec fn tmps z15_ps1 z15_as1 z15_bd1 dq .done (some .ret)) hO
   have hpre:=hr.pre
   have hup:=hr.up
   refine hF _ ns' t' T' cs' N' left' nx v5 hvp.perm (bt_trans hr.bt hvp.bt) (((List.prefix_append _ _).trans hpre).trans hvp.pre) hvp.lo ?_
   unfold prefN
   rw[← hos]
   have hsub:os.length-(i+1)+1<=os.length:=by omega
   have:=Nat.mul_le_mul_right (prefN p ls) hsub
   rw[Nat.add_mul,Nat.one_mul] at this
   omega
  ·have hok:ok=true:=by simpa using hyes
   obtain⟨hn,htree,hcnt,hl0,hup'⟩:=hvp.yes hok
   have hnl:=hr.len
   refine⟨⟨some ⟨nb,0,none⟩,nx.length,nx.length⟩,v2.ld 1 rfl rfl,?_⟩
   refine nz_iff.2 ⟨_,rfl,⟨by omega,by simp only; omega⟩,?_⟩
   simp -zeta only[add_mk,Int.toNat_natCast,Nat.mul_one,Nat.zero_add]
   refine⟨v2.wr 2 rfl (by simp[Nat.blt_eq]; omega),?_⟩
   intro w3
   have v3:V wB w3 _ _ _ _ _ _ _ _:=v2.set (i:=i) (v:=.int .i64 n) 2 rfl
   clear_value w3
   have e3:(nx.map fun n=>Value.int .i64 n).set i (.int .i64 n)=(nx.set i n).map fun n=>Value.int .i64 n:=by rw[List.map_set]
   simp only[List.cons_append,List.nil_append,List.set_cons_succ,List.set_cons_zero,e3] at v3
   have v3:V wB w3 (frL bb nxb nb ob db fb r2b r1b tkb o (nx.set i n) D F false 0 take++l.set jr (sb,schC t' 0 0 ns' s0 s1 s2 p.most p.budget left')) ((o,os) :: R) ((lb,lrec fn tmps z15_ps1 z15_as1 z15_bd1 dq .busy none) :: (dq,.deferred (some [])) :: O) ns' t' T' cs' N':=by
    simpa [frL] using v3
   refine⟨(v3.ob _ (List.mem_cons_self ..)).1,hK _ ns' t' T' cs' N' left' (nx.set i n) (v3.put (o':=lrec fn tmps z15_ps1 z15_as1 z15_bd1 dq .ready none) hO) ?_⟩
   refine⟨by simp[hnl],?_,hvp.perm,bt_trans hr.bt hvp.bt,hr.pre.trans hvp.pre,by omega,hl0,?_⟩
   ·have e4:os.drop i=os[i] :: os.drop (i+1):=List.drop_eq_getElem_cons hi
    have e5:(nx.set i n).drop i=n :: nx.drop (i+1):=by
     rw[List.drop_eq_getElem_cons (by simp; omega)]
     rw[List.getElem_set_self,List.drop_set,if_pos (by omega)]
    rw[e4,e5,hn]
    exact kids_step hvp.bt hvp.pre hr.kd htree
   ·have hup:=hr.up
    have hsub:os.length-i=os.length-(i+1)+1:=by omega
    rw[hsub,Nat.add_mul,Nat.one_mul]
    omega
 have ho:VI w1 o os:=v.r _ hom
 refine⟨S,hS v hom (.inr (hxs _)),_,fun u hu=>hu.1.at rfl,take,fun u hu=>hu.2.1.at rfl,o,fun u hu=>hu.2.2.1.at rfl,?_⟩
 have hlo:=ho.len
 obtain⟨ad,hp0,_⟩:=ho.at (fun a=>ie_length _ _ a) (List.getElem?_eq_getElem hi) (by decide)
 refine nz_iff.2 ⟨ad,hp0,⟨by omega,by omega⟩,os[i],fun u hu=>?_,?_,?_⟩
 ·obtain⟨ad',hp',hc⟩:=hu.2.2.2.at (fun a=>ie_length _ _ a) (List.getElem?_eq_getElem hi) (by decide)
  rw[hp0] at hp'
  cases hp'
  exact hc 0 _ rfl
 ·refine Clone_spec hfr hfi fun s2' w2 hm=>⟨hS (v.fr hm.fr0) hom (.inr (hxs _)),?_⟩
  intro w3
  have hf3:Fr F0 w2 w3:=Fr.alloc
  refine⟨hS ((v.fr hm.fr0).fr hf3) hom (.inr (hxs _)),?_⟩
  refine Mk.push hm (a:=os[i]) rfl rfl (ie_ok _ _) rfl (by omega) (by omega) fun r w4 hm4 _=>⟨hS (v.fr hm4.fr0) hom (.inr (hxs _)),call hm4⟩
 ·intro w2
  have hf2:Fr F0 w1 w2:=Fr.alloc
  have hx:VI w2 ⟨some ⟨w1.heap.size,0,none⟩,1,1⟩ [os[i]]:=Vw.new rfl rfl
  clear_value w2
  refine⟨hS (v.fr hf2) hom (.inr (hxs _)),Clone_spec (hfr.fr hf2) hfi fun s2' w3 hm=>⟨hS ((v.fr hf2).fr hm.fr0) hom (.inr (hxs _)),?_⟩⟩
  have hm':Mk w1 1 (ie .i64 id) w3 s2' f:=⟨hf2.t hm.fr0,hm.ow,fun b hb=>Nat.le_trans hf2.1 (hm.nw b hb)⟩
  exact hm'.app (hx.fr hm.fr0) (ie_ok _ _) rfl (by simp; omega) (by simp; omega) fun r w4 hm4 _=>⟨hS (v.fr hm4.fr0) hom (.inr (hxs _)),call hm4⟩
end
open Go Pw
section
variable {wB w:World}{l:List (Nat × List Value)}{R:List (Sl × List Int)}{O:List (Nat × Obj)}{ns t take o s0 s1 s2:Sl}{p:Pr}{T f ds ls os nx T0:List Int}{cs:List NdC}{N N0:List Nd}{left left0:Int}{jr jp jv sb spb vb:Nat}
 {bb nxb nb ob db fb r2b r1b tkb:Nat} {D F:List Value} {lot:Int} {K:Int->Bool->World->Prop}
theorem set_len_append (N0:List Nd)(x y:Nd)(r:List Nd):(N0++x :: r).set N0.length y=N0++y :: r:=by
 rw[List.set_append,if_neg (by omega),Nat.sub_self,List.set_cons_zero]
theorem visit_f1 (hp:RightPr p)(hIH:VisitOk wB s0 s1 s2 p ls)(hlots:p.lots=ds++lot :: ls)(hfl:f.length=ds.length)(hos:os=opts p lot)(hd:Decs p p.lots f)
  (hv:V wB w (frL bb nxb nb ob db fb r2b r1b tkb o nx D F false 0 take++l.set jr (sb,schC t 0 0 ns s0 s1 s2 p.most p.budget left)) ((o,os) :: R) O ns t T cs N)
  (hix:∃ row,Ix l jr jp jv sb spb vb (idOf z15_ok) row) (htk:(take,f)∈R)
  (hol:os.length<2^40) (hr:Rd p f ls os left0 T0 N0 os.length left T N nx) (hmax:left0+N0.length<=1048576) (hl00:0<=left0)
  (hK:∀ w' n ok left' ns' t' T' cs' N',V wB w' (l.set jr (sb,schC t' 0 0 ns' s0 s1 s2 p.most p.budget left')) R O ns' t' T' cs' N'->VP (upB p) p f (lot :: ls) left0 T0 N0 left' T' N' n ok->K n ok w') :
  z15_f1 ⟨spb,0,none⟩ ⟨vb,0,none⟩ ⟨tkb,0,none⟩ ⟨r1b,0,none⟩ ⟨r2b,0,none⟩ (N0.length:Int) ⟨ob,0,none⟩ ⟨nxb,0,none⟩ (fnv (idOf z2q_ok) [bb]) K w:=by
 refine⟨?_⟩
 unfold z15_f1d
 refine⟨⟨_,_,_,rfl⟩,fun fn tmps hag=>?_⟩
 have v1:=hv.newO (o:=.deferred (some []))
 have hsz:(w.alloc (.deferred (some []))).heap.size=w.heap.size+1:=by simp
 have v2:=v1.newO (o:=lrec fn tmps z15_ps1 z15_as1 z15_bd1 w.heap.size .ready none)
 rw[hsz] at v2
 have hO:∀ q∈(w.heap.size,Obj.deferred (some [])) :: O,q.1≠w.heap.size+1:=by
  intro q hq
  have:=v1.olt hq
  rw[hsz] at this
  omega
 have hO2:∀ q∈O,q.1≠w.heap.size:=fun q hq=>by have:=hv.olt hq; omega
 clear v1 hv
 generalize (w.alloc (.deferred (some []))).alloc (lrec fn tmps z15_ps1 z15_as1 z15_bd1 w.heap.size .ready none)=w2 at v2 ⊢
 generalize w.heap.size=dq at *
 refine callV_of z2q_ok (show z2q_sh (.func (.yield (dq+1)) #[] #[]) ⟨bb,0,none⟩ _ w2 from⟨?_⟩)
 unfold z2q_sd
 have hoi:VI w2 o os:=v2.r _ (List.mem_cons_self ..)
 have hlo:=hoi.len
 refine⟨o,v2.ld 0 rfl rfl,inR64 (by omega) (by omega),⟨⟨fun i w'=>∃ (i':Nat) (ns t:Sl) (T:List Int) (cs:List NdC) (N:List Nd) (left:Int) (nx:List Int),i=(i':Int)-1/\i'<=os.length /\
   V wB w' (frL bb nxb nb ob db fb r2b r1b tkb o nx D F false 0 take++l.set jr (sb,schC t 0 0 ns s0 s1 s2 p.most p.budget left)) ((o,os) :: R) ((dq+1,lrec fn tmps z15_ps1 z15_as1 z15_bd1 dq .ready none) :: (dq,.deferred (some [])) :: O) ns t T cs N /\
   Rd p f ls os left0 T0 N0 i' left T N nx,fun i _=>(i+1).toNat,⟨os.length,ns,t,T,cs,N,left,nx,by omega,Nat.le_refl _,v2,hr⟩,?_⟩⟩⟩
 clear v2 hr
 rintro i w3 ⟨i,ns,t,T,cs,N,left,nx,rfl,hi,v,hr⟩
 have hxs:∀ row',∃ row,Ix (l.set jr (sb,row')) jr jp jv sb spb vb (idOf z15_ok) row:=fun row'=>by
  obtain⟨row,hx⟩:=hix
  exact⟨_,hx.set row'⟩
 unfold z2q_b0
 rw[cnd_prop]
 refine⟨fun hge=>?_,fun hlt=>?_⟩
 ·obtain⟨j,rfl⟩:∃ j,i=j+1:=⟨i-1,by omega⟩
  have hj:j<os.length:=by omega
  have hoj:VI w3 o os:=v.r _ (List.mem_cons_self ..)
  refine⟨o,v.ld 0 rfl rfl,?_⟩
  refine VI.ld hoj j (by omega) hj ?_
  have ej:((j+1:Nat):Int)-1=(j:Int):=by omega
  rw[ej]
  refine callV_yield (round_spec hp hIH hlots hfl hos hd v hix htk hO hag hj hol hr hmax (fun w' ns' t' T' cs' N' left' nx' v' hr'=>⟨true,rfl,?_⟩) fun w' ns' t' T' cs' N' left' nx' v' hpm hbt hpre hlo' hno=>⟨false,rfl,?_⟩)
  ·rw[Bool.not_true,cnd_false]
   exact⟨inR64 (by omega) (by omega),⟨⟨rfl,rfl,trivial⟩,j,ns',t',T',cs',N',left',nx',rfl,by omega,v',hr'⟩,by dsimp only; omega⟩
  ·rw[Bool.not_false,cnd_true]
   refine .inr ⟨(v'.ob _ (List.mem_cons_self ..)).1,?_⟩
   have v4:=v'.put (o':=lrec fn tmps z15_ps1 z15_as1 z15_bd1 dq .exhausted (some .ret)) hO
   have v4:=v4.dO (Q:=(dq,.deferred (some [])) :: O) fun q hq=>List.mem_cons_of_mem _ hq
   dsimp -zeta only
   refine⟨(v4.ob _ (List.mem_cons_self ..)).1,?_⟩
   intro w5
   have v5:V wB w5 _ _ _ _ _ _ _ _:=v4.put (o':=.deferred none) hO2
   clear_value w5
   refine⟨_,v5.ld 7 rfl rfl,_,v5.ld 6 rfl rfl,hK w5 0 false left' ns' t' T' cs' N' (((v5.dO fun q hq=>List.mem_cons_of_mem _ hq).dR fun q hq=>List.mem_cons_of_mem _ hq).dr 9 rfl) ⟨hpm,hbt,hpre,hlo',fun h=>(by cases h),fun _=>hno⟩⟩
 ·have hi0:i=0:=by omega
  subst hi0
  refine .inl ⟨(v.ob _ (List.mem_cons_self ..)).1,?_⟩
  have v4:=v.put (o':=lrec fn tmps z15_ps1 z15_as1 z15_bd1 dq .exhausted none) hO
  have v4:=(v4.dO (Q:=(dq,.deferred (some [])) :: O) fun q hq=>List.mem_cons_of_mem _ hq).drew
  have v4:=v4.dR (Q:=R) fun q hq=>List.mem_cons_of_mem _ hq
  dsimp -zeta only
  intro w5
  have v5:V wB w5 _ _ _ _ _ _ _ _:=v4
  clear_value w5
  obtain⟨row0,hx0⟩:=hix
  have ix:=(hx0.set (schC t 0 0 ns s0 s1 s2 p.most p.budget left)).front (frL bb nxb nb ob db fb r2b r1b tkb o nx D F false 0 take)
  rw[frL_len] at ix
  have hcl:=v5.nv.len
  obtain⟨r,hNr⟩:=hr.pre
  have hNr:N=N0++⟨f.length,0,1,[]⟩ :: r:=by rw[← hNr]; simp
  have hNlen:N0.length<N.length:=by rw[hNr]; simp
  have hcat:cs[N0.length]?=some (cs[N0.length]'(by omega)):=List.getElem?_eq_getElem _
  have hNat:N[N0.length]?=some ⟨f.length,0,1,[]⟩:=by rw[hNr]; simp
  have v6:=v5.dr 2 (k:=(nb,nx.map fun n=>Value.int .i64 n) :: ([(ob,[.slice o.p o.l o.c]),(db,D),(fb,F),(r2b,[.bool false]),(r1b,[.int .i64 0]),(tkb,[.slice take.p take.l take.c])]++l.set jr (sb,schC t 0 0 ns s0 s1 s2 p.most p.budget left))) rfl
  obtain⟨nsb,hnp,hnq⟩:=v5.nodeAt hcat
  have hnl:=v5.ow.len
  refine⟨fun u=>Rs u _,v5.sub 0 rfl,_,fun _ h=>h.ld (jp+9) ix.p rfl,?_⟩
  refine nz_iff.2 ⟨_,rfl,?_⟩
  refine⟨ns,fun _ h=>h.ld (jr+9) ix.r rfl,⟨some ⟨nb,0,none⟩,nx.length,nx.length⟩,fun _ h=>h.ld 1 rfl rfl,?_⟩
  refine nz_iff.2 ⟨_,hnp,⟨by omega,by omega⟩,?_⟩
  have hadr:((⟨nsb,0,none⟩:Addr).add ((N0.length:Int).toNat*4)).add 3=⟨nsb,N0.length*4+3,none⟩:=by simp
  rw[hadr]
  refine⟨(hnq 3 (by decide)).1,?_⟩
  intro w6
  have v7:V wB w6 _ _ _ _ _ _ _ _:=v6.giveNx hcat hNat hnp (by have:=hr.len; omega)
  clear_value w6
  refine⟨v7.wr 4 rfl rfl,?_⟩
  intro w7
  have v8:V wB w7 _ _ _ _ _ _ _ _:=v7.set (i:=0) (v:=.int .i64 N0.length) 4 rfl
  clear_value w7
  refine⟨v8.wr 3 rfl rfl,?_⟩
  intro w8
  have v9:V wB w8 _ _ _ _ _ _ _ _:=v8.set (i:=0) (v:=.bool true) 3 rfl
  clear_value w8
  simp only[List.cons_append,List.nil_append,List.set_cons_succ,List.set_cons_zero] at v9
  refine⟨(v9.ob _ (List.mem_cons_self ..)).1,?_⟩
  intro w9
  have v10:V wB w9 _ _ _ _ _ _ _ _:=v9.put (o':=.deferred none) hO2
  clear_value w9
  have hset:N.set N0.length ⟨f.length,0,1,nx⟩=N0++⟨f.length,0,1,nx⟩ :: r:=by rw[hNr]; exact set_len_append N0 _ _ r
  have hlen':(N.set N0.length ⟨f.length,0,1,nx⟩).length=N.length:=by simp
  refine⟨_,v10.ld 4 rfl rfl,_,v10.ld 3 rfl rfl,hK w9 _ true left ns t T _ _ ((v10.dO fun q hq=>List.mem_cons_of_mem _ hq).dr 6 rfl) ⟨hr.perm,hr.bt,?_,by have:=hr.l0; omega,fun _=>⟨rfl,?_,?_,hr.l0,?_⟩,fun h=>by cases h⟩⟩
  ·rw[hset]; exact List.prefix_append _ _
  ·have hkd:=hr.kd
   rw[List.drop_zero,List.drop_zero] at hkd
   have:(N.set N0.length ⟨f.length,0,1,nx⟩).length=N.length:=hlen'
   refine tree_inner (x:=⟨f.length,0,1,nx⟩) (ks:=nx) ?_ rfl rfl ?_
   ·rw[List.getElem?_set_self hNlen]
   ·rw[hlen',← hos]
    exact kids_congr (.inl rfl) (fun i h1 _=>List.getElem?_set_ne (by omega)) hkd
  ·rw[hlen']; exact hr.lf
  ·rw[hlen']
   have:=hr.up
   rw[Nat.sub_zero] at this
   unfold prefN
   rw[← hos]
   omega
end
open Go Pw
section
variable {wB u w:World}{l:List (Nat × List Value)}{R:List (Sl × List Int)}{O:List (Nat × Obj)}{ns t take s0 s1 s2:Sl}{p:Pr}{T f ds:List Int}{cs:List NdC}{N:List Nd}{left:Int}{jr jp jv sb spb vb fid:Nat}{row row':List Value}
theorem opts_len (p:Pr)(lot:Int):(opts p lot).length<=p.ch.length+1:=by
 have:∀ (l:List Ch) (i:Nat),(optsFrom lot i l).length<=l.length:=by
  intro l
  induction l with
  | nil=>intro i; simp[optsFrom]
  | cons c l ih =>
   intro i
   unfold optsFrom
   have:=ih (i+1)
   split<;>simp<;>omega
 have:=this p.ch 0
 simp only[opts,List.length_cons]
 omega
theorem V.setSb {front:List (Nat × List Value)}{i:Nat}{v:Value}(h:V wB u (front++l) R O ns t T cs N)(ix:Ix l jr jp jv sb spb vb fid row)(hrow:row.set i v=row') :
  V wB (u.setCell ⟨sb,i,none⟩ v) (front++l.set jr (sb,row')) R O ns t T cs N:=by
 have:=h.set (i:=i) (v:=v) _ (ix.front front).r
 rw[hrow,List.set_append_right _ _ (by omega),Nat.add_sub_cancel] at this
 exact this
theorem V.setDual {x y:Int}(h:V wB u l R O ns t T (cs++[⟨x,0,1,⟨none,0,0⟩⟩]) (N++[⟨y,0,1,[]⟩]))(hx:x=y)(hcn:cs.length=N.length) :
  ∃ b,ns.p=some ⟨b,0,none⟩/\wrOk u ⟨b,cs.length*4+1,none⟩/\∀ a,I64 a->wrOk (u.setCell ⟨b,cs.length*4+1,none⟩ (.int .i64 a)) ⟨b,cs.length*4+2,none⟩ /\
   ∀ d,I64 d->V wB ((u.setCell ⟨b,cs.length*4+1,none⟩ (.int .i64 a)).setCell ⟨b,cs.length*4+2,none⟩ (.int .i64 d)) l R O ns t T (cs++[⟨x,a,d,⟨none,0,0⟩⟩]) (N++[⟨y,a,d,[]⟩]):=by
 subst hx
 obtain⟨b,hp,hq⟩:=h.nodeAt (i:=cs.length) (c:=⟨x,0,1,⟨none,0,0⟩⟩) (by simp)
 refine⟨b,hp,(hq 1 (by decide)).1,fun a ha=>?_⟩
 have h1:=h.setNd (i:=cs.length) (k:=1) (c:=⟨x,0,1,⟨none,0,0⟩⟩) (d:=⟨x,a,1,⟨none,0,0⟩⟩) (n:=⟨x,0,1,[]⟩) (m:=⟨x,a,1,[]⟩) (v:=.int .i64 a) (by simp) (by rw[hcn]; simp) hp (by decide) rfl ⟨rfl,rfl,rfl,rfl⟩ rfl ha (show I64 1 from⟨by decide,by decide⟩) rfl
 have e1:(cs++[(⟨x,0,1,⟨none,0,0⟩⟩:NdC)]).set cs.length ⟨x,a,1,⟨none,0,0⟩⟩=cs++[⟨x,a,1,⟨none,0,0⟩⟩]:=by simp
 have e2:(N++[(⟨x,0,1,[]⟩:Nd)]).set cs.length ⟨x,a,1,[]⟩=N++[⟨x,a,1,[]⟩]:=by rw[hcn]; simp
 rw[e1,e2] at h1
 obtain⟨b',hp',hq'⟩:=h1.nodeAt (i:=cs.length) (c:=⟨x,a,1,⟨none,0,0⟩⟩) (by simp)
 rw[hp] at hp'
 cases hp'
 refine⟨(hq' 2 (by decide)).1,fun d hd=>?_⟩
 have h2:=h1.setNd (i:=cs.length) (k:=2) (c:=⟨x,a,1,⟨none,0,0⟩⟩) (d:=⟨x,a,d,⟨none,0,0⟩⟩) (n:=⟨x,a,1,[]⟩) (m:=⟨x,a,d,[]⟩) (v:=.int .i64 d) (by simp) (by rw[hcn]; simp) hp (by decide) rfl ⟨rfl,rfl,rfl,rfl⟩ rfl ha hd rfl
 have e3:(cs++[(⟨x,a,1,⟨none,0,0⟩⟩:NdC)]).set cs.length ⟨x,a,d,⟨none,0,0⟩⟩=cs++[⟨x,a,d,⟨none,0,0⟩⟩]:=by simp
 have e4:(N++[(⟨x,a,1,[]⟩:Nd)]).set cs.length ⟨x,a,d,[]⟩=N++[⟨x,a,d,[]⟩]:=by rw[hcn]; simp
 rw[e3,e4] at h2
 exact h2
theorem visit_k0 {a b e:Nat × List Value}{r1 r2:Nat}{x:Bool}{y n:Int}{K:Int->Bool->World->Prop}(m:V wB w (a :: b :: (r2,[.bool x]) :: (r1,[.int .i64 y]) :: e :: l) R O ns t T cs N)
  (hK:∀ w',V wB w' l R O ns t T cs N->K n true w'):z15_k0 ⟨r1,0,none⟩ ⟨r2,0,none⟩ n K w:=by
 refine⟨?_⟩
 unfold z15_k0d
 refine⟨m.wr 3 rfl rfl,?_⟩
 intro w1
 have m:V wB w1 _ _ _ _ _ _ _ _:=m.set (i:=0) (v:=.int .i64 n) 3 rfl
 clear_value w1
 refine⟨m.wr 2 rfl rfl,?_⟩
 intro w2
 have m:V wB w2 _ _ _ _ _ _ _ _:=m.set (i:=0) (v:=.bool true) 2 rfl
 clear_value w2
 simp only[List.set_cons_succ,List.set_cons_zero] at m
 exact⟨_,m.ld 3 rfl rfl,_,m.ld 2 rfl rfl,hK w2 (m.dr 5 rfl)⟩
theorem visit_step (hp:RightPr p)(hPV:PV wB s0 s1 s2 p)(ls:List Int)(hIH:∀ lot ls',ls=lot :: ls'->VisitOk wB s0 s1 s2 p ls'):VisitOk wB s0 s1 s2 p ls:=by
 intro w l R O ns t take T f ds cs N left jr jp jv sb spb vb K hlots hfl m ix htk hd hperm h0 hmax hK
 refine⟨?_⟩
 unfold z15_sd
 have ix0:=ix
 have hl12:=right_len hp hd
 have hfew:=hp.few
 have hchs:=hp.chs
 have e0:=hPV.lots.len
 have etk:take.l=f.length:=(m.r _ htk).len
 have hnl:=m.ow.len
 have hcn:=m.nv.len
 have hnsN:ns.l=N.length:=by omega
 have hPF:∀ {u l' R' cs' N' ns' t' T'},V wB u l' R' O ns' t' T' cs' N'->(take,f)∈R'->PF u s0 s1 s2 take p f:=fun h hm=>⟨hPV.fr h.m.1,h.r _ hm,by omega⟩
 have hPF:∀ {u l' cs' N' ns' t' T'},V wB u l' R O ns' t' T' cs' N'->PF u s0 s1 s2 take p f:=fun h=>hPF h htk
 have hPT:∀ {u l' R' cs' N' ns' t' T'},V wB u l' R' O ns' t' T' cs' N'->Perm p T'->PF u s0 s1 s2 t' p T':=fun h hm=>⟨hPV.fr h.m.1,h.tv.vw,by have:=hm.1; omega⟩
 intro w1; have m:V wB w1 _ _ _ _ _ _ _ _:=m.allocL; clear_value w1
 intro w2; have m:V wB w2 _ _ _ _ _ _ _ _:=m.allocL; clear_value w2
 intro w3; have m:V wB w3 _ _ _ _ _ _ _ _:=m.allocL; clear_value w3
 refine⟨_,m.ld (jp+3) ix.p rfl,?_⟩
 refine nz_iff.2 ⟨_,rfl,?_⟩
 refine⟨_,m.ld (jr+3) ix.r rfl,?_⟩
 refine⟨inR64 (by omega) (by omega),?_⟩
 refine nz_iff.2 ⟨_,rfl,?_⟩
 refine⟨m.wr (jr+3) ix.r rfl,?_⟩
 intro w8
 have m:V wB w8 _ _ _ _ _ _ _ _:=V.setSb (front:=[_,_,_]) m ix (i:=9) (v:=.int .i64 (left-1)) (row':=schC t 0 0 ns s0 s1 s2 p.most p.budget (left-1)) rfl
 clear_value w8
 have ix:=ix.set (schC t 0 0 ns s0 s1 s2 p.most p.budget (left-1))
 simp only[List.cons_append,List.nil_append] at m
 generalize he1:l.set jr (sb,schC t 0 0 ns s0 s1 s2 p.most p.budget (left-1))=l1 at m ix
 refine⟨_,m.ld (jp+3) ix.p rfl,?_⟩
 refine nz_iff.2 ⟨_,rfl,?_⟩
 refine⟨_,m.ld (jr+3) ix.r rfl,?_⟩
 refine cnd_prop.2 ⟨fun hc1=>?_,fun hc1=>?_⟩
 ·refine⟨m.wr 1 rfl rfl,?_⟩
  intro w12; have m:V wB w12 _ _ _ _ _ _ _ _:=m.set 1 rfl; clear_value w12; simp only[List.set_cons_zero,List.set_cons_succ] at m
  refine⟨m.wr 0 rfl rfl,?_⟩
  intro w13; have m:V wB w13 _ _ _ _ _ _ _ _:=m.set 0 rfl; clear_value w13; simp only[List.set_cons_zero] at m
  refine⟨_,m.ld 1 rfl rfl,?_⟩
  refine⟨_,m.ld 0 rfl rfl,?_⟩
  exact hK _ 0 false (left-1) ns t T cs N (by rw[he1]; exact m.dr 3 rfl) ⟨hperm,.inl rfl,List.prefix_refl _,by omega,fun h=>(by cases h),fun _=>by have:=prefN_pos p ls; omega⟩
 ·refine⟨_,m.ld (jp+3) ix.p rfl,?_⟩
  refine nz_iff.2 ⟨_,rfl,?_⟩
  refine⟨_,m.ld (jr+3) ix.r rfl,?_⟩
  intro w19; have m:V wB w19 _ _ _ _ _ _ _ _:=m.drew; clear_value w19
  refine⟨fun u=>Rs u _,m.sub 0 rfl,?_⟩
  refine⟨_,fun _ h=>h.ld (jp+3) ix.p rfl,?_⟩
  refine⟨_,fun _ h=>h.ld (jp+3) ix.p rfl,?_⟩
  refine nz_iff.2 ⟨_,rfl,?_⟩
  refine⟨_,fun _ h=>h.ld (jr+3) ix.r rfl,?_⟩
  refine⟨_,fun _ h=>h.ld 2 rfl rfl,?_⟩
  refine Of_spec fun w26 hf=>?_; have m:=m.fr hf
  refine⟨m.sub 0 rfl,?_⟩
  intro w28; have mw28:V wB w28 _ _ _ _ _ _ _ _:=m.allocL
  refine⟨mw28.sub 1 rfl,?_⟩
  refine m.push (c:=⟨(take.l:Int),0,1,⟨none,0,0⟩⟩) (n:=⟨f.length,0,1,[]⟩) ⟨by simp[etk],rfl,rfl,⟨rfl,by simpa using OwnV.nil⟩,show I64 0 from⟨by decide,by decide⟩,show I64 1 from⟨by decide,by decide⟩,by simp,show I64 (f.length:Int) from⟨by omega,by have h1:=decs_len hd; have h2:=hp.few; omega⟩⟩ (fun b hb=>by obtain⟨a,ha,_⟩:=hb; cases ha) rfl (by omega) (by omega) fun s29 w30 m=>?_
  refine⟨m.sub 0 rfl,?_⟩
  refine nz_iff.2 ⟨_,rfl,?_⟩
  refine⟨m.wr (jr+3) ix.r rfl,?_⟩
  intro w32
  have m:V wB w32 _ _ _ _ _ _ _ _:=V.setSb (front:=[_,_,_]) m ix (i:=3) (v:=.slice s29.p s29.l s29.c) (row':=schC t 0 0 s29 s0 s1 s2 p.most p.budget (left-1)) rfl
  clear_value w32
  have ix:=ix.set (schC t 0 0 s29 s0 s1 s2 p.most p.budget (left-1))
  simp only[List.cons_append,List.nil_append] at m
  have he:l.set jr (sb,schC t 0 0 s29 s0 s1 s2 p.most p.budget (left-1))=l1.set jr (sb,schC t 0 0 s29 s0 s1 s2 p.most p.budget (left-1)):=by rw[← he1,List.set_set]
  generalize l1.set jr (sb,schC t 0 0 s29 s0 s1 s2 p.most p.budget (left-1))=l2 at m ix he
  intro w33; have m:V wB w33 _ _ _ _ _ _ _ _:=m.drew; clear_value w33
  refine⟨fun u=>Rs u _,m.sub 0 rfl,?_⟩
  refine⟨_,fun _ h=>h.ld (jp+3) ix.p rfl,?_⟩
  refine nz_iff.2 ⟨_,rfl,?_⟩
  refine⟨_,fun _ h=>h.ld (jr+3) ix.r rfl,?_⟩
  refine⟨_,fun _ h=>h.ld (jr+3) ix.r rfl,?_⟩
  refine⟨_,fun _ h=>h.ld (jr+3) ix.r rfl,?_⟩
  refine⟨_,fun _ h=>h.ld (jr+3) ix.r rfl,?_⟩
  refine⟨_,fun _ h=>h.ld (jr+3) ix.r rfl,?_⟩
  refine⟨_,fun _ h=>h.ld 2 rfl rfl,?_⟩
  intro w43; have m:V wB w43 _ _ _ _ _ _ _ _:=m.allocL; clear_value w43
  refine⟨m.sub 1 rfl,?_⟩
  refine stN_atV m 0 rfl rfl fun w44 m=>?_; simp only[List.set_cons_zero] at m
  refine⟨_,m.ld (jp+4) ix.p rfl,?_⟩
  refine⟨_,m.ld 0 rfl rfl,?_⟩
  refine⟨_,m.ld 0 rfl rfl,?_⟩
  refine⟨_,m.ld 0 rfl rfl,?_⟩
  refine⟨_,m.ld 0 rfl rfl,?_⟩
  refine⟨_,m.ld 0 rfl rfl,?_⟩
  refine⟨_,m.ld 0 rfl rfl,?_⟩
  refine hopeless_spec hp (hPF m) hd (m.row (jr+4) ix.r) (hPT m hperm) hperm fun w52 a b ok hf hab hcl hno=>?_; have m:=m.fr hf
  intro w55; have m:V wB w55 _ _ _ _ _ _ _ _:=m.allocL; clear_value w55
  refine⟨m.wr 0 rfl rfl,?_⟩
  intro w56; have m:V wB w56 _ _ _ _ _ _ _ _:=m.set 0 rfl; clear_value w56; simp only[List.set_cons_zero] at m
  refine⟨m.wr 0 rfl rfl,?_⟩
  intro w57; have m:V wB w57 _ _ _ _ _ _ _ _:=m.set 0 rfl; clear_value w57; simp only[List.set_cons_zero,List.set_cons_succ] at m
  refine cnd_iff.2 ⟨fun hc2=>?_,fun hc2=>?_⟩
  ·intro w58; have m:V wB w58 _ _ _ _ _ _ _ _:=m.drew; clear_value w58
   refine⟨fun u=>Rs u _,m.sub 0 rfl,?_⟩
   refine⟨_,fun _ h=>h.ld (jp+5) ix.p rfl,?_⟩
   refine nz_iff.2 ⟨_,rfl,?_⟩
   refine⟨_,fun _ h=>h.ld (jr+5) ix.r rfl,?_⟩
   refine⟨_,fun _ h=>h.ld 0 rfl rfl,?_⟩
   refine⟨_,fun _ h=>h.ld 0 rfl rfl,?_⟩
   obtain⟨nsb,hnp,hw1,hq⟩:=m.setDual (by simp[etk]) hcn
   have hadr:∀ k,((⟨nsb,0,none⟩:Addr).add ((ns.l:Int).toNat*4)).add k=⟨nsb,cs.length*4+k,none⟩:=fun k=>by simp[hnl]
   have hsl:=m.ow.len
   simp only[List.length_append,List.length_singleton] at hsl
   refine nz_iff.2 ⟨_,hnp,⟨by omega,by omega⟩,?_⟩
   simp -zeta only[hadr]
   refine⟨hw1,?_⟩
   intro w66
   refine⟨(hq a hab.1).1,?_⟩
   intro w67
   have m:V wB w67 _ _ _ _ _ _ _ _:=(hq a hab.1).2 b hab.2
   clear_value w67
   refine⟨m.wr 3 rfl rfl,?_⟩
   intro w68; have m:V wB w68 _ _ _ _ _ _ _ _:=m.set 3 rfl; clear_value w68; simp only[List.set_cons_zero,List.set_cons_succ] at m
   refine⟨m.wr 2 rfl rfl,?_⟩
   intro w69; have m:V wB w69 _ _ _ _ _ _ _ _:=m.set 2 rfl; clear_value w69; simp only[List.set_cons_zero,List.set_cons_succ] at m
   refine⟨_,m.ld 3 rfl rfl,?_⟩
   refine⟨_,m.ld 2 rfl rfl,?_⟩
   exact hK _ _ true (left-1) s29 t T _ (N++[⟨f.length,a,b,[]⟩]) (by rw[he]; exact m.dr 5 rfl) ⟨hperm,.inl rfl,List.prefix_append _ _,by omega,fun _=>⟨by omega,by rw[List.length_append,List.length_singleton]; exact tree_leaf (x:=⟨f.length,a,b,[]⟩) (by simp) rfl (hcl hc2),by simp; omega,by omega,by have:=prefN_pos p ls; simp; omega⟩,fun h=>by cases h⟩
  ·intro w72; have m:V wB w72 _ _ _ _ _ _ _ _:=m.drew; clear_value w72
   refine⟨_,m.ld 4 rfl rfl,?_⟩
   refine⟨_,m.ld (jp+5) ix.p rfl,?_⟩
   refine nz_iff.2 ⟨_,rfl,?_⟩
   refine⟨_,m.ld (jr+5) ix.r rfl,?_⟩
   refine cnd_beq.2 ⟨fun hc3=>?_,fun hc3=>?_⟩
   ·intro w77; have m:V wB w77 _ _ _ _ _ _ _ _:=m.drew; clear_value w77
    refine⟨fun u=>Rs u _,m.sub 0 rfl,?_⟩
    refine⟨_,fun _ h=>h.ld 1 rfl rfl,?_⟩
    refine⟨_,fun _ h=>h.ld 1 rfl rfl,?_⟩
    refine⟨_,fun _ h=>h.ld 1 rfl rfl,?_⟩
    refine⟨_,fun _ h=>h.ld 1 rfl rfl,?_⟩
    refine⟨_,fun _ h=>h.ld 1 rfl rfl,?_⟩
    refine⟨_,fun _ h=>h.ld 1 rfl rfl,?_⟩
    refine⟨_,fun _ h=>h.ld (jp+5) ix.p rfl,?_⟩
    refine nz_iff.2 ⟨_,rfl,?_⟩
    refine⟨_,fun _ h=>h.ld (jr+5) ix.r rfl,?_⟩
    refine⟨_,fun _ h=>h.ld (jr+5) ix.r rfl,?_⟩
    refine⟨_,fun _ h=>h.ld (jr+5) ix.r rfl,?_⟩
    refine⟨_,fun _ h=>h.ld (jr+5) ix.r rfl,?_⟩
    refine⟨_,fun _ h=>h.ld (jr+5) ix.r rfl,?_⟩
    refine⟨_,fun _ h=>h.ld (jp+5) ix.p rfl,?_⟩
    refine nz_iff.2 ⟨_,rfl,?_⟩
    refine⟨_,fun _ h=>h.ld (jr+5) ix.r rfl,?_⟩
    have hfull:f.length=p.lots.length:=by omega
    refine better_spec hp (hPF m) (hPT m hperm) hd hperm.2.1 (by rw[hfull,hperm.1]) fun w95 hf=>?_; have m:=m.fr hf
    refine⟨m.sub 0 rfl,?_⟩
    refine cnd_iff.2 ⟨fun hc4=>?_,fun hc4=>?_⟩
    ·intro w97; have m:V wB w97 _ _ _ _ _ _ _ _:=m.drew; clear_value w97
     refine⟨fun u=>Rs u _,m.sub 0 rfl,?_⟩
     refine⟨_,fun _ h=>h.ld (jp+5) ix.p rfl,?_⟩
     refine⟨_,fun _ h=>h.ld 4 rfl rfl,?_⟩
     refine Clone_spec (show VI _ take f from m.r _ htk) (by omega) fun sc w101 hmk=>?_; have m:=m.newT hmk
     refine⟨m.sub 0 rfl,?_⟩
     refine nz_iff.2 ⟨_,rfl,?_⟩
     refine⟨m.wr (jr+5) ix.r rfl,?_⟩
     intro w104
     have m:V wB w104 _ _ _ _ _ _ _ _:=V.setSb (front:=[_,_,_,_,_]) m ix (i:=0) (v:=.slice sc.p sc.l sc.c) (row':=schC sc 0 0 s29 s0 s1 s2 p.most p.budget (left-1)) rfl
     clear_value w104
     simp only[List.cons_append,List.nil_append] at m
     have he3:l.set jr (sb,schC sc 0 0 s29 s0 s1 s2 p.most p.budget (left-1))=l2.set jr (sb,schC sc 0 0 s29 s0 s1 s2 p.most p.budget (left-1)):=by rw[← he,List.set_set]
     exact visit_k0 m fun w' m'=>hK w' _ true (left-1) s29 sc f _ (N++[⟨f.length,0,1,[]⟩]) (by rw[he3]; exact m') ⟨⟨hfull,hd,(hno hc2).2,(hno hc2).1⟩,.inr (btB_iff.1 hc4),List.prefix_append _ _,by omega,fun _=>⟨by omega,by rw[List.length_append,List.length_singleton]; exact tree_leaf (x:=⟨f.length,0,1,[]⟩) (by simp) rfl (.inr (.inr (.inl ⟨hfull,fun h=>Bt.irrefl h.2⟩))),by simp; omega,by omega,by have:=prefN_pos p ls; simp; omega⟩,fun h=>by cases h⟩
    ·exact visit_k0 m fun w' m'=>hK w' _ true (left-1) s29 t T _ (N++[⟨f.length,0,1,[]⟩]) (by rw[he]; exact m') ⟨hperm,.inl rfl,List.prefix_append _ _,by omega,fun _=>⟨by omega,by rw[List.length_append,List.length_singleton]; exact tree_leaf (x:=⟨f.length,0,1,[]⟩) (by simp) rfl (.inr (.inr (.inl ⟨hfull,fun h=>by rw[btB_iff.2 h.2] at hc4; cases hc4⟩))),by simp; omega,by omega,by have:=prefN_pos p ls; simp; omega⟩,fun h=>by cases h⟩
   ·refine⟨_,m.ld (jp+5) ix.p rfl,?_⟩
    refine⟨_,m.ld 4 rfl rfl,?_⟩
    have hlt:f.length<p.lots.length:=by have:=decs_len hd; omega
    rw[etk]
    refine options_spec (k:=f.length) (hPV.fr m.m.1) (m.row (jr+5) ix.r) hlt fun so w111 hmk=>?_
    have hsol:=hmk.len
    have m:=m.add hmk
    have hso40:=opts_len p p.lots[f.length]
    intro w113; have m:V wB w113 _ _ _ _ _ _ _ _:=m.allocL; clear_value w113
    refine⟨m.wr 0 rfl rfl,?_⟩
    intro w114; have m:V wB w114 _ _ _ _ _ _ _ _:=m.set 0 rfl; clear_value w114; simp only[List.set_cons_zero] at m
    refine⟨_,m.ld 0 rfl rfl,?_⟩
    refine V.make (k:=so.l) m (by omega) fun w117 m=>?_
    intro w118; have m:V wB w118 _ _ _ _ _ _ _ _:=m.allocL; clear_value w118
    refine⟨m.wr 0 rfl rfl,?_⟩
    intro w119; have m:V wB w119 _ _ _ _ _ _ _ _:=m.set 0 rfl; clear_value w119; simp only[List.set_cons_zero] at m
    refine⟨_,m.ld 2 rfl rfl,?_⟩
    refine⟨?_⟩
    unfold z3e_sd
    intro w121
    have m:V wB w121 _ _ _ _ _ _ _ _:=m.allocL
    clear_value w121
    obtain⟨lot,ls',rfl⟩:∃ lot ls',ls=lot :: ls':=by
     cases ls with
     | nil=>have:=congrArg List.length hlots; simp at this; omega
     | cons lot ls'=>exact⟨lot,ls',rfl⟩
    have hlot:p.lots[f.length]=lot:=by simp[hlots,hfl]
    rw[hnsN]
    rw[← he] at m
    refine visit_f1 (os:=opts p p.lots[f.length]) (nx:=List.replicate so.l 0) (N0:=N) (T0:=T) (left0:=left) (ns:=s29) (D:=_) (F:=_) hp (hIH lot ls' rfl) hlots hfl (by rw[hlot]) hd (by simpa [frL] using m) ⟨_,ix0⟩ htk (by omega) ⟨by simp[hsol],?_,hperm,.inl rfl,List.prefix_refl _,by simp; omega,by omega,by simp⟩ hmax h0 hK
    rw[List.drop_of_length_le (Nat.le_refl _),List.drop_of_length_le (by simp[hsol])]
    simp[kids]
theorem visit_ok (hp:RightPr p)(hPV:PV wB s0 s1 s2 p):∀ ls,VisitOk wB s0 s1 s2 p ls
 | []=>visit_step hp hPV [] fun _ _ h=>by cases h
 | lot :: ls=>visit_step hp hPV (lot :: ls) fun _ _ h=>by cases h; exact visit_ok hp hPV ls
end
open Go Pw
section
variable {wB u w:World}{l:List (Nat × List Value)}{R:List (Sl × List Int)}{O:List (Nat × Obj)}{ns t take s0 s1 s2:Sl}{p:Pr}{T f ds:List Int}{cs:List NdC}{N:List Nd}{left work:Int}{sb:Nat}
theorem not_inB {b:Nat}:¬inB ⟨none,0,0⟩ b:=fun⟨a,ha,_⟩=>by cases ha
theorem V.start (m:Mem wB u l):V wB u l [] [] ⟨none,0,0⟩ ⟨none,0,0⟩ [] [] [] :=
 ⟨m,fun _ h=>(by cases h),⟨rfl,by simpa using OwnV.nil⟩,⟨rfl,by simpa using OwnV.nil⟩,trivial,fun _ _=>⟨not_inB,not_inB,fun _ h=>(by cases h)⟩,fun _ h=>(by cases h),fun b hb=>(not_inB hb).elim,fun b hb=>(not_inB hb).elim,fun b hb=>(not_inB hb).elim,fun _ h=>(by cases h),fun _ h=>(by cases h),fun _ h=>(by cases h)⟩
theorem V.clr (h:V wB u l R O ns t T cs N):V wB u l R O ⟨none,0,0⟩ t T [] [] :=
 ⟨h.m,h.r,⟨rfl,by simpa using OwnV.nil⟩,h.tv,trivial,fun p hp=>⟨not_inB,(h.a1 p hp).2.1,fun _ h=>(by cases h)⟩,fun x hx b hb=>⟨(h.a2 x hx b hb).1,not_inB,(h.a2 x hx b hb).2.2⟩,fun b hb=>(not_inB hb).elim,fun b hb=>(not_inB hb).elim,h.n1,fun _ h=>(by cases h),fun _ h=>(by cases h),fun o ho=>⟨(h.ob o ho).1,(h.ob o ho).2.1,not_inB,(h.ob o ho).2.2.2.1,fun _ h=>(by cases h),(h.ob o ho).2.2.2.2.2⟩⟩
theorem V.addNil (h:V wB u l R O ns t T cs N):V wB u l ((⟨none,0,0⟩,[]) :: R) O ns t T cs N:=by
 refine⟨h.m,fun x hx=>?_,h.ow,h.tv,h.nv,h.a1,fun x hx b hb=>?_,h.a3,h.n0,h.n1,h.n2,h.a4,fun o ho=>⟨(h.ob o ho).1,(h.ob o ho).2.1,(h.ob o ho).2.2.1,(h.ob o ho).2.2.2.1,(h.ob o ho).2.2.2.2.1,fun x hx=>?_,(h.ob o ho).2.2.2.2.2.2⟩⟩
 ·rcases List.mem_cons.1 hx with rfl | hx
  ·exact Vw.nil
  ·exact h.r x hx
 ·rcases List.mem_cons.1 hx with rfl | hx
  ·exact(not_inB hb).elim
  ·exact h.a2 x hx b hb
 ·rcases List.mem_cons.1 hx with rfl | hx
  ·exact not_inB
  ·exact(h.ob o ho).2.2.2.2.2.1 x hx
theorem run_spec {K:Bool->World->Prop}(hp:RightPr p)(hPV:PV wB s0 s1 s2 p)(m:V wB w l [] [] ⟨none,0,0⟩ t T [] [])(j:Nat)(hj:l[j]?=some (sb,schC t 0 0 ⟨none,0,0⟩ s0 s1 s2 p.most p.budget left))(hT:Perm p T)(h0:0<=left)(h1:left<=1048576)
  (hK:∀ w' ok left' ns' t' T' cs' N',V wB w' (l.set j (sb,schC t' 0 0 ns' s0 s1 s2 p.most p.budget left')) [] [] ns' t' T' cs' N'->VP (upB p) p [] p.lots left T [] left' T' N' 0 ok->K ok w'):z1v_sh (some ⟨sb,0,none⟩) K w:=by
 refine⟨?_⟩
 unfold z1v_sd
 intro w1
 have m:V wB w1 _ _ _ _ _ _ _ _:=m.allocL
 clear_value w1
 intro w2
 have m:V wB w2 _ _ _ _ _ _ _ _:=m.allocL
 clear_value w2
 refine⟨m.wr 0 rfl rfl,?_⟩
 intro w3
 have m:V wB w3 _ _ _ _ _ _ _ _:=m.set (i:=0) (v:=fnv (idOf z15_ok) [w.heap.size,w1.heap.size]) 0 rfl
 clear_value w3
 simp only[List.set_cons_zero] at m
 have m:=m.addNil
 refine⟨_,m.ld 0 rfl rfl,?_⟩
 refine callV_of z15_ok (visit_ok hp hPV p.lots (ds:=[]) (f:=[]) (jr:=j+2) (jp:=1) (jv:=0) rfl rfl m ⟨hj,rfl,rfl,by omega,by omega⟩ (List.mem_cons_self ..) (by cases p.lots<;>exact trivial) hT h0 (by simpa using h1) fun w' n ok left' ns' t' T' cs' N' v hvp=>⟨n,ok,rfl,?_⟩)
 simp only[List.set_cons_succ] at v
 refine hK w' ok left' ns' t' T' cs' N' ((v.dR fun _ h=>(by cases h)).dr 2 rfl) ⟨hvp.perm,hvp.bt,hvp.pre,hvp.lo,fun h=>?_,hvp.no⟩
 obtain⟨q1,q2⟩:=hvp.yes h
 exact⟨rfl,q2⟩
theorem Solve_k0 {rb:Nat}{K:Sl->Int->Int->Sl->Int->World->Prop}{a b c d:Value}(m:Mem wB w l)(j:Nat)(hj:l[j]?=some (rb,[a,b,c,d]))(hK:∀ w',Fr F0 wB w'->K ⟨none,0,0⟩ 0 0 ⟨none,0,0⟩ 1 w'):z3l_k0 ⟨rb,0,none⟩ K w:=by
 refine⟨?_⟩
 unfold z3l_k0d
 have hl:j<l.length:=(List.getElem?_eq_some_iff.1 hj).1
 refine stN_at m j hj rfl fun w1 m=>?_
 have hj':(l.set j (rb,[.slice none 0 0,.int .i64 0,.int .i64 0,.slice none 0 0]))[j]?=some (rb,[.slice none 0 0,.int .i64 0,.int .i64 0,.slice none 0 0]):=by simp[hl]
 exact⟨⟨none,0,0⟩,m.ld j hj' rfl,_,m.ld j hj' rfl,_,m.ld j hj' rfl,⟨none,0,0⟩,m.ld j hj' rfl,hK w1 m.1⟩
abbrev svL (ab sb rb pb:Nat)(A:List Value)(t:Sl)(pts bnd:Int)(s0 s1 s2:Sl)(p:Pr)(left:Int)(B:List Value):List (Nat × List Value) :=
 [(ab,A),(sb,schC t pts bnd ⟨none,0,0⟩ s0 s1 s2 p.most p.budget left),(rb,B),(pb,prC s0 s1 s2 p.most p.budget)]
theorem mostF_app (p:Pr):∀ (a b:List Int) (m:Int),mostF p (a++b) m=mostF p b (mostF p a m)
 | [],_,_=>rfl
 | n :: a,b,m=>by simp only[List.cons_append,mostF]; exact mostF_app p a b _
theorem Solve_l2 {ab rb pb:Nat}{A B:List Value}{pts bnd:Int}{k:Nat}{so:Sl}{lot t72:Int}{N1:Addr->Addr->Addr->Int->Int->World->Prop}{K:Sl->Int->Int->Sl->Int->World->Prop}(hp:RightPr p)(hPV:PV wB s0 s1 s2 p)
  (m:V wB w (svL ab sb rb pb A t pts bnd s0 s1 s2 p left B) ((so,opts p lot) :: []) [] ⟨none,0,0⟩ t T [] []) (hb:0<=bnd/\bnd<=100000000) (hk:k<2^40)
  (hN:∀ w',V wB w' (svL ab sb rb pb A t pts (bnd+mostL p lot) s0 s1 s2 p left B) [] [] ⟨none,0,0⟩ t T [] []->N1 ⟨pb,0,none⟩ ⟨rb,0,none⟩ ⟨sb,0,none⟩ t72 ((k:Int)+1) w') :
  z3l_l2 ⟨pb,0,none⟩ ⟨rb,0,none⟩ ⟨sb,0,none⟩ 0 t72 k so (so.l:Int) 0 N1 K w:=by
 have hso:VI w so (opts p lot):=m.r _ (List.mem_cons_self ..)
 have hsl:=hso.len
 have hol:=opts_len p lot
 have hch:=hp.chs
 have e1:=hPV.ch.len
 refine⟨⟨fun mo i w'=>∃ i':Nat,i=i'/\i'<=(opts p lot).length/\mo=mostF p ((opts p lot).take i') 0/\V wB w' (svL ab sb rb pb A t pts bnd s0 s1 s2 p left B) ((so,opts p lot) :: []) [] ⟨none,0,0⟩ t T [] [],fun _ i _=>(opts p lot).length-i.toNat,⟨0,rfl,by omega,rfl,m⟩,?_⟩⟩
 rintro mo i w1 ⟨i,rfl,hi,rfl,m⟩
 unfold z3l_b2
 rw[cnd_prop]
 refine⟨fun hlt=>?_,fun hge=>?_⟩
 ·have hlt:i<(opts p lot).length:=by omega
  have hs:=take_succ' hlt
  have hso1:VI w1 so (opts p lot):=m.r _ (List.mem_cons_self ..)
  refine VI.ld hso1 i rfl hlt ?_
  have hmem:=opts_mem.1 (List.getElem_mem hlt)
  rw[cnd_prop]
  refine⟨fun hpos=>?_,fun hneg=>⟨inR64 (by omega) (by omega),⟨⟨rfl,rfl,rfl,rfl,rfl,rfl,rfl,trivial⟩,i+1,by omega,by omega,?_,m⟩,by dsimp only; omega⟩⟩
  ·rcases hmem with hm | ⟨c,hc,_⟩
   ·omega
   obtain⟨_,hix,hcx⟩:=chAt_some hc
   refine⟨s1,m.ld 3 rfl rfl,?_⟩
   refine VC.ld (hPV.fr m.m.1).ch (opts p lot)[i].toNat (by omega) hix fun a hca=>?_
   refine⟨_,(hca w1 Fr.refl).2.2.2,inR64 (by omega) (by omega),⟨⟨rfl,rfl,rfl,rfl,rfl,rfl,rfl,trivial⟩,i+1,by omega,by omega,?_,m⟩,by dsimp only; omega⟩
   rw[hs,mostF_app,hcx]
   simp only[mostF,hc]
  ·rw[hs,mostF_app]
   simp only[mostF,chAt_neg (by omega:¬0<=(opts p lot)[i])]
 ·have:i=(opts p lot).length:=by omega
  subst this
  rw[List.take_length]
  have hmb:=mostF_le hp (opts p lot) 0 (Int.le_refl _) (by decide)
  refine⟨bnd,m.ld 1 rfl rfl,inR64 (by omega) (by omega),m.wr 1 rfl rfl,?_⟩
  intro w2
  have m:V wB w2 _ _ _ _ _ _ _ _:=m.set (i:=2) (v:=.int .i64 (bnd+mostF p (opts p lot) 0)) 1 rfl
  clear_value w2
  simp only[List.set_cons_zero,List.set_cons_succ] at m
  exact⟨inR64 (by omega) (by omega),hN w2 (m.dR fun _ h=>(by cases h))⟩
theorem Solve_l1 {ab rb pb:Nat}{A:List Value}{a b c d:Value}{pts:Int}{K:Sl->Int->Int->Sl->Int->World->Prop}(hp:RightPr p)(hPV:PV wB s0 s1 s2 p)
  (hK:∀ w',V wB w' [] [] [] ⟨none,0,0⟩ t T [] []->K t pts (mostOf p) ⟨none,0,0⟩ 42 w')
  (m:V wB w (svL ab sb rb pb A t pts 0 s0 s1 s2 p left [a,b,c,d]) [] [] ⟨none,0,0⟩ t T [] []) :
  z3l_l1 ⟨pb,0,none⟩ ⟨rb,0,none⟩ ⟨sb,0,none⟩ (p.lots.length:Int) 0 K w:=by
 have hfew:=hp.few
 refine⟨⟨fun i w'=>∃ i':Nat,i=i'/\i'<=p.lots.length/\V wB w' (svL ab sb rb pb A t pts ((p.lots.take i').map (mostL p)).sum s0 s1 s2 p left [a,b,c,d]) [] [] ⟨none,0,0⟩ t T [] [],fun i _=>p.lots.length-i.toNat,⟨0,rfl,by omega,m⟩,?_⟩⟩
 rintro i w1 ⟨i,rfl,hi,m⟩
 unfold z3l_b1
 rw[cnd_prop]
 refine⟨fun hlt=>?_,fun hge=>?_⟩
 ·have hlt:i<p.lots.length:=by omega
  refine options_spec (k:=i) (hPV.fr m.m.1) (m.row 1 rfl) hlt fun so w2 hmk=>?_
  have m:=m.add hmk
  have hb:=most_bound hp (List.take_prefix i p.lots)
  refine Solve_l2 hp hPV m ⟨hb.1,by omega⟩ (by omega) fun w3 m3=>⟨⟨⟨rfl,rfl,rfl,rfl,trivial⟩,i+1,by omega,by omega,?_⟩,by dsimp only; omega⟩
  have e:((p.lots.take (i+1)).map (mostL p)).sum=((p.lots.take i).map (mostL p)).sum+mostL p p.lots[i]:=by
   rw[take_succ' hlt,List.map_append,List.sum_append,List.map_cons,List.map_nil,List.sum_cons,List.sum_nil,Int.add_zero]
  rw[e]
  exact m3
 ·have:i=p.lots.length:=by omega
  subst this
  rw[List.take_length] at m
  refine⟨t,m.ld 1 rfl rfl,_,m.ld 1 rfl rfl,_,m.ld 1 rfl rfl,⟨none,0,0⟩,m.ld 1 rfl rfl,?_⟩
  refine stN_atV m 2 rfl rfl fun w2 m=>?_
  simp only[List.set_cons_zero,List.set_cons_succ] at m
  exact⟨t,m.ld 2 rfl rfl,_,m.ld 2 rfl rfl,_,m.ld 2 rfl rfl,⟨none,0,0⟩,m.ld 2 rfl rfl,hK w2 (m.dr 4 rfl)⟩
theorem Solve_spec {K:Sl->Int->Int->Sl->Int->World->Prop}(h:PV w s0 s1 s2 p)
  (hbad:rightB p=false\/wiB work 1048576=false->∀ w',Fr F0 w w'->K ⟨none,0,0⟩ 0 0 ⟨none,0,0⟩ 1 w')
  (hgood:RightPr p->Wi work 1048576->∀ w' t pts bnd ns e T cs N,V w w' [] [] [] ns t T cs N->SolveP (upB p) p work T pts bnd N e->K t pts bnd ns e w'):z3l_sh s0 s1 s2 p.most p.budget work K w:=by
 refine⟨?_⟩
 unfold z3l_sd
 have e0:=h.lots.len
 have m:Mem w w []:=Mem.nil
 intro w1; have m:Mem w w1 _:=m.allocL; clear_value w1
 intro w2; have m:Mem w w2 _:=m.allocL; clear_value w2
 refine⟨_,m.ld 1 rfl rfl,?_⟩
 refine⟨_,m.ld 1 rfl rfl,?_⟩
 refine⟨_,m.ld 1 rfl rfl,?_⟩
 refine⟨_,m.ld 1 rfl rfl,?_⟩
 refine⟨_,m.ld 1 rfl rfl,?_⟩
 refine right_spec (h.fr m.1) fun w8 hf=>?_; have m:=m.fr hf
 refine cnd_iff.2 ⟨fun hc1=>?_,fun hc1=>?_⟩
 ·exact Solve_k0 m 0 rfl fun w' hf=>hbad (.inl (by simpa using hc1)) w' hf
 ·have hp:RightPr p:=rightB_iff.1 (by simpa using hc1)
  refine within_spec ?_
  refine cnd_iff.2 ⟨fun hc2=>?_,fun hc2=>?_⟩
  ·exact Solve_k0 m 0 rfl fun w' hf=>hbad (.inr (by simpa using hc2)) w' hf
  ·refine⟨_,m.ld 1 rfl rfl,?_⟩
   refine⟨_,m.ld 1 rfl rfl,?_⟩
   refine⟨_,m.ld 1 rfl rfl,?_⟩
   refine⟨_,m.ld 1 rfl rfl,?_⟩
   refine⟨_,m.ld 1 rfl rfl,?_⟩
   intro w22; have m:Mem w w22 _:=m.allocL; clear_value w22
   intro w23; have m:Mem w w23 _:=m.allocL; clear_value w23
   refine⟨_,m.ld 3 rfl rfl,?_⟩
   have hwk:Wi work 1048576:=wiB_iff.1 (by simpa using hc2)
   have hk1:=hp.some
   have hk2:=hp.few
   have v:=V.start m
   rw[e0]
   refine Repeat_spec (v:=-1) (k:=p.lots.length) (Ow.row (l:=[-1]) (m.row 0 rfl)).vw hk1 (by omega) fun t w25 hmk=>?_
   have m:=v.newT hmk
   refine⟨m.wr 1 rfl rfl,?_⟩
   intro w27; have m:V w w27 _ _ _ _ _ _ _ _:=m.set 1 rfl; clear_value w27; simp only[List.set_cons_zero,List.set_cons_succ] at m
   refine run_spec hp h m 1 rfl (perm_none hp) hwk.1 hwk.2 fun w28 ok left' ns' t' T' cs' N' m hvp=>?_
   simp only[List.set_cons_zero,List.set_cons_succ] at m
   intro w30; have m:V w w30 _ _ _ _ _ _ _ _:=m.drew; clear_value w30
   refine⟨fun u=>Rs u _,m.sub 0 rfl,?_⟩
   refine⟨_,fun _ h=>h.ld 3 rfl rfl,?_⟩
   refine⟨_,fun _ h=>h.ld 3 rfl rfl,?_⟩
   refine⟨_,fun _ h=>h.ld 3 rfl rfl,?_⟩
   refine⟨_,fun _ h=>h.ld 3 rfl rfl,?_⟩
   refine⟨_,fun _ h=>h.ld 3 rfl rfl,?_⟩
   refine⟨_,fun _ h=>h.ld 1 rfl rfl,?_⟩
   have hpT:=hvp.perm
   refine points_spec hp ⟨h.fr m.m.1,m.tv.vw,by have:=hpT.1; omega⟩ hpT.2.1 fun w38 hf=>?_; have m:=m.fr hf
   refine⟨m.sub 0 rfl,?_⟩
   refine⟨m.wr 1 rfl rfl,?_⟩
   intro w40; have m:V w w40 _ _ _ _ _ _ _ _:=m.set 1 rfl; clear_value w40; simp only[List.set_cons_zero,List.set_cons_succ] at m
   refine⟨_,m.ld 1 rfl rfl,?_⟩
   refine⟨m.wr 1 rfl rfl,?_⟩
   intro w42; have m:V w w42 _ _ _ _ _ _ _ _:=m.set 1 rfl; clear_value w42; simp only[List.set_cons_zero,List.set_cons_succ] at m
   refine cnd_iff.2 ⟨fun hc3=>?_,fun hc3=>?_⟩
   ·refine⟨_,m.ld 1 rfl rfl,?_⟩
    refine⟨_,m.ld 1 rfl rfl,?_⟩
    refine⟨_,m.ld 1 rfl rfl,?_⟩
    refine⟨_,m.ld 1 rfl rfl,?_⟩
    refine stN_atV m 2 rfl rfl fun w47 m=>?_; simp only[List.set_cons_zero,List.set_cons_succ] at m; skip
    refine⟨_,m.ld 2 rfl rfl,?_⟩
    refine⟨_,m.ld 2 rfl rfl,?_⟩
    refine⟨_,m.ld 2 rfl rfl,?_⟩
    refine⟨_,m.ld 2 rfl rfl,?_⟩
    obtain⟨_,htr,hsum,hl0,_⟩:=hvp.yes hc3
    exact hgood hp hwk _ t' (ptsOf p T') (ptsOf p T') ns' 0 T' cs' N' (m.dr 4 rfl) (.inl ⟨rfl,⟨hpT,fun u hu=>tree_sound hp (upB_good hp) hu p.lots [] [] 0 N'.length rfl rfl htr List.nil_prefix⟩,rfl,rfl,htr,by simp at hsum; omega⟩)
   ·refine⟨m.wr 1 rfl rfl,?_⟩
    intro w52; have m:V w w52 _ _ _ _ _ _ _ _:=m.set 1 rfl; clear_value w52; simp only[List.set_cons_zero,List.set_cons_succ] at m
    refine⟨m.wr 1 rfl rfl,?_⟩
    intro w53; have m:V w w53 _ _ _ _ _ _ _ _:=m.set 1 rfl; clear_value w53; simp only[List.set_cons_zero,List.set_cons_succ] at m
    refine⟨_,m.ld 3 rfl rfl,?_⟩
    have m:=m.clr
    rw[e0]
    exact Solve_l1 hp h (fun w' hv'=>hgood hp hwk w' t' (ptsOf p T') (mostOf p) ⟨none,0,0⟩ 42 T' [] [] hv' (.inr ⟨rfl,hpT,rfl,rfl,rfl,by have:=hvp.no hc3; exact this⟩)) m
end
open Go Pw
section
variable {w w' w0:World}{s t:Sl}{L:List (Nat × List Value)}{l:List Int}{mb:Nat}
def nmC (s:Sl)(l:List Int)(i:Nat):List Value:=[.slice s.p s.l s.c,.int .i64 (min i l.length:Nat)]
theorem next_mem {i:Nat}{n:Int}{K:Int->World->Prop}(hv:VI w0 s l)(hl:l.length<2^63)(m:Mem w0 w L)(j:Nat)(hj:L[j]?=some (mb,nmC s l i))(hn0:0<n)(hn:n<4611686018427387904)
  (hK:∀ w',Mem w0 w' (L.set j (mb,nmC s l (i+1)))->Fr (fun b=>b=mb) w w'->K (nv l i n) w'):z08_sh (some ⟨mb,0,none⟩) n K w:=by
 refine⟨?_⟩
 unfold z08_sd
 have hlen:=hv.len
 have hjl:j<L.length:=(List.getElem?_eq_some_iff.1 hj).1
 intro w1
 have m1:Mem w0 w1 _:=m.drew
 have hf1:Fr (fun b=>b=mb) w w1:=Fr.drew
 clear_value w1
 refine nz_iff.2 ⟨_,rfl,_,m1.ld j hj rfl,?_⟩
 refine nz_iff.2 ⟨_,rfl,s,m1.ld j hj rfl,?_⟩
 rw[cnd_prop]
 refine⟨fun hge=>?_,fun hlt=>?_⟩
 ·have hil:l.length<=i:=by omega
  have e:nmC s l (i+1)=nmC s l i:=by unfold nmC; rw[Nat.min_eq_right hil,Nat.min_eq_right (by omega)]
  have:=hK w1 (by rw[e,set_self hj]; exact m1) hf1
  rwa [nv_out hil] at this
 ·have hil:i<l.length:=by omega
  have hmin:min i l.length=i:=by omega
  refine nz_iff.2 ⟨_,rfl,_,m1.ld j hj rfl,inR64 (by omega) (by omega),?_⟩
  refine nz_iff.2 ⟨_,rfl,m1.wr j hj rfl,?_⟩
  intro w2
  have m2:Mem w0 w2 (L.set j (mb,[.slice s.p s.l s.c,.int .i64 ((min i l.length:Nat)+1)])):=m1.set j hj
  have hf2:Fr (fun b=>b=mb) w1 w2:=Fr.set rfl
  clear_value w2
  have e:nmC s l (i+1)=[.slice s.p s.l s.c,.int .i64 ((min i l.length:Nat)+1)]:=by
   unfold nmC
   rw[Nat.min_eq_left (by omega:i+1<=l.length),hmin]
   rfl
  rw[← e] at m2
  intro w3
  have m3:Mem w0 w3 _:=m2.drew
  have hf3:Fr (fun b=>b=mb) w2 w3:=Fr.drew
  clear_value w3
  have hj3:(L.set j (mb,nmC s l (i+1)))[j]?=some (mb,nmC s l (i+1)):=by simp[hjl]
  have hmin2:min (i+1) l.length=i+1:=by omega
  refine⟨fun u=>Row u mb (nmC s l (i+1))/\VI u s l,⟨m3.row j hj3,hv.fr m3.1⟩,?_⟩
  refine nz_iff.2 ⟨_,rfl,s,fun u hu=>hu.1.at rfl,?_⟩
  refine nz_iff.2 ⟨_,rfl,_,fun u hu=>hu.1.at rfl,inR64 (by omega) (by omega),?_⟩
  obtain⟨ad,hp,_⟩:=hv.at (fun a=>ie_length _ _ a) (List.getElem?_eq_getElem hil) (by decide)
  refine nz_iff.2 ⟨ad,hp,⟨by omega,by omega⟩,l[i],fun u hu=>?_,?_⟩
  ·obtain⟨ad',hp',hc⟩:=hu.2.at (fun a=>ie_length _ _ a) (List.getElem?_eq_getElem hil) (by decide)
   rw[hp] at hp'
   cases hp'
   have e2:((((min (i+1) l.length:Nat):Int))-1).toNat=i:=by omega
   rw[e2]
   exact hc 0 _ rfl
  ·refine Mod_spec hn0 hn ⟨⟨m3.row j hj3,hv.fr m3.1⟩,?_⟩
   have:=hK w3 m3 ((hf1.trans hf2 fun _ h _=>h).trans hf3 fun _ h _=>h)
   unfold nv at this
   rw[List.getD_eq_getElem?_getD,List.getElem?_eq_getElem hil] at this
   exact this
theorem next_sp {α:Type}{k:Nat}{enc:α->List Value}{xs:List α}{B:Nat->Prop}{Q:World->Prop}{i:Nat}{n:Int}{K:Int->World->Prop}(hv:VI w0 s l)(hl:l.length<2^63)(h:Sp w0 w L B Q k enc t xs)(j:Nat)(hj:L[j]?=some (mb,nmC s l i))(hn0:0<n)(hn:n<4611686018427387904)
  (hK:∀ w',Sp w0 w' (L.set j (mb,nmC s l (i+1))) B Q k enc t xs->K (nv l i n) w'):z08_sh (some ⟨mb,0,none⟩) n K w :=
 next_mem hv hl h.m j hj hn0 hn fun w' m hf=>hK w' (h.setF hj hf m)
theorem range_succ_map {α:Type}(f:Nat->α)(i:Nat):(List.range (i+1)).map f=(List.range i).map f++[f i]:=by rw[List.range_succ,List.map_append]; rfl
theorem bit_code:∀ m:Fin 16,∀ k:Fin 4,((IntKind.wrap .i64 (((BitVec.ofInt (IntKind.bits .i64) (Int.fdiv (m.val:Int) (2^(min ((k.val:Int)).toNat (IntKind.bits .i64)))) &&& BitVec.ofInt (IntKind.bits .i64) (1:Int))).toNat:Int)) == (1:Int))=bitI (m.val:Int) k.val:=by decide +kernel
theorem pow_code:∀ k:Fin 5,(IntKind.wrap .i64 ((1:Int)*2^(min ((k.val:Int)).toNat (IntKind.bits .i64))))=2^k.val:=by decide +kernel
theorem Ints_spec {a b:List Int}{K:Bool->World->Prop}(ha:VI w s a)(hb:VI w t b)(hl:a.length<2^63)(hK:∀ w',Fr F0 w w'->K (decide (a=b)) w'):z2g_sh s t K w:=by
 refine⟨?_⟩
 unfold z2g_sd
 have ea:=ha.len; have eb:=hb.len
 rw[cnd_bne]
 refine⟨fun hne=>?_,fun heq=>?_⟩
 ·have:=hK w Fr.refl
  rwa [decide_eq_false (by rintro rfl; omega)] at this
 ·have hlen:a.length=b.length:=by omega
  refine⟨⟨fun i w'=>∃ i':Nat,i=i'/\i'<=a.length/\a.take i'=b.take i'/\Fr F0 w w',fun i _=>a.length-i.toNat,⟨0,rfl,by omega,rfl,Fr.refl⟩,?_⟩⟩
  rintro i w1 ⟨i,rfl,hi,ht,hf⟩
  unfold z2g_b0
  rw[cnd_prop]
  refine⟨fun hlt=>?_,fun hge=>?_⟩
  ·have hlt:i<a.length:=by omega
   intro w2
   have hf2:Fr F0 w w2:=hf.t Fr.drew
   clear_value w2
   refine VI.ld (ha.fr hf2) i rfl hlt ?_
   refine VI.ld (hb.fr hf2) i rfl (by omega) ?_
   rw[cnd_bne]
   refine⟨fun hne=>?_,fun he=>⟨inR64 (by omega) (by omega),⟨⟨rfl,rfl,trivial⟩,i+1,by omega,by omega,?_,hf2⟩,by dsimp only; omega⟩⟩
   ·have:=hK w2 hf2
    rwa [decide_eq_false (by rintro rfl; exact hne rfl)] at this
   ·rw[take_succ' hlt,take_succ' (by omega),ht,he]
  ·have:i=a.length:=by omega
   subst this
   rw[List.take_length,List.take_of_length_le (by omega)] at ht
   have:=hK w1 hf
   rwa [decide_eq_true ht] at this
theorem optsFrom_len {lot:Int}:∀ (l:List Ch) (i:Nat),(optsFrom lot i l).length=l.countP (fun c=>c.lot == lot)
 | [],_=>rfl
 | c :: l,i=>by
  unfold optsFrom
  rw[List.countP_cons]
  by_cases h:c.lot=lot
  ·rw[if_pos h,List.length_cons,optsFrom_len l (i+1)]
   simp[h]
  ·rw[if_neg h,optsFrom_len l (i+1)]
   simp[h]
end
open Go Pw
theorem encD_ok (d:De × Sl):∀ v∈encD d,okC v=true:=by intro v hv; simp[encD] at hv; rcases hv with rfl | rfl | rfl<;>rfl
section
variable {w w' w0:World}{s s0 s1 s2:Sl}{L:List (Nat × List Value)}{l:List Int}{mb pb rb db:Nat}{R:List Value}
abbrev mdL (pb mb rb:Nat)(s s0 s1 s2:Sl)(l:List Int)(j:Nat)(R:List Value):List (Nat × List Value) :=
 [(pb,prC s0 s1 s2 (nv l 0 4) (nv l 1 30)),(mb,nmC s l j),(rb,R)]
theorem Made_l3 {i j:Nat}{dc:List (De × Sl)}{B:Nat->Prop}{Q:World->Prop}{so:Sl}{bid off st lots deals:Int}{N2:Addr->Addr->Addr->Int->Int->Int->World->Prop}{K:Sl->Sl->Sl->Int->Int->World->Prop}
  (hlots:lots=(mLots l).toNat) (hst:0<=st/\st<16)
  (h:Sp w0 w ((db,[.int .i64 bid,.slice none 0 0,.int .i64 off]) :: mdL pb mb rb s s0 s1 so l j R) (fun b=>B b\/inB so b) (fun w=>Q w/\Ow 3 encD w so dc) 1 (ie .i64 (id:Int->Int)) ⟨none,0,0⟩ [])
  (hB:Rests B Q) (hBs:∀ b,inB so b->¬B b) (hQ:∀ u,Q u->VI u s0 (mLotsL l)) (hdc:dc.length<=3) (hi:0<=i/\i<10)
  (hN:∀ w' so' sl,Sp w0 w' (mdL pb mb rb s s0 s1 so' l j R) (fun b=>B b\/inB sl b) (fun w=>Q w/\Ow 1 (ie .i64 (id:Int->Int)) w sl ((List.range (mLots l).toNat).filterMap (fun k=>if bitI st k then some (mLot l k) else none))) 3 encD so' (dc++[(⟨bid,(List.range (mLots l).toNat).filterMap (fun k=>if bitI st k then some (mLot l k) else none),off⟩,sl)]) ->
   N2 ⟨rb,0,none⟩ ⟨mb,0,none⟩ ⟨pb,0,none⟩ lots deals ((i:Int)+1) w') :
  z2h_l3 ⟨rb,0,none⟩ ⟨mb,0,none⟩ ⟨pb,0,none⟩ lots deals i ⟨db,0,none⟩ st 0 N2 K w:=by
 subst hlots
 have hL:=mLots_range (l:=l)
 refine⟨⟨fun k w'=>∃ (k':Nat) (sd:Sl),k=k'/\k'<=(mLots l).toNat/\Sp w0 w' ((db,[.int .i64 bid,.slice sd.p sd.l sd.c,.int .i64 off]) :: mdL pb mb rb s s0 s1 so l j R) (fun b=>B b\/inB so b) (fun w=>Q w/\Ow 3 encD w so dc) 1 (ie .i64 (id:Int->Int)) sd ((List.range k').filterMap (fun k=>if bitI st k then some (mLot l k) else none)),fun k _=>(mLots l).toNat-k.toNat,
  ⟨0,⟨none,0,0⟩,rfl,by omega,h⟩,?_⟩⟩
 rintro k w1 ⟨k,sd,rfl,hk,h⟩
 unfold z2h_b3
 rw[cnd_prop]
 refine⟨fun hlt=>?_,fun hge=>?_⟩
 ·have hlt:k<(mLots l).toNat:=by omega
  refine⟨by omega,?_⟩
  have hb:=bit_code ⟨st.toNat,by omega⟩ ⟨k,by omega⟩
  have est:((st.toNat:Nat):Int)=st:=by omega
  simp only[est] at hb
  rw[hb]
  have hrs:∀ g:Nat->Option Int,(List.range (k+1)).filterMap g=(List.range k).filterMap g++(match g k with | some x=>[x] | none=>[]):=by
   intro g
   rw[List.range_succ,List.filterMap_append,List.filterMap_cons]
   cases g k<;>rfl
  have hlen:((List.range k).filterMap (fun k=>if bitI st k then some (mLot l k) else none)).length<=k:=by
   have:=List.length_filterMap_le (fun k=>if bitI st k then some (mLot l k) else none) (List.range k)
   simpa using this
  rw[cnd_iff]
  refine⟨fun ht=>?_,fun hf=>⟨inR64 (by omega) (by omega),⟨⟨rfl,rfl,rfl,rfl,rfl,rfl,rfl,rfl,trivial⟩,k+1,sd,by omega,by omega,?_⟩,by dsimp only; omega⟩⟩
  ·intro w2
   have h2:Sp w0 w2 _ _ _ _ _ _ _:=h.drew
   clear_value w2
   have hS:∀ {u B' Q' sd'} {ls:List Int},Sp w0 u ((db,[.int .i64 bid,.slice sd.p sd.l sd.c,.int .i64 off]) :: mdL pb mb rb s s0 s1 so l j R) B' Q' 1 (ie .i64 (id:Int->Int)) sd' ls->(Q' u->Q u)->Row u db [.int .i64 bid,.slice sd.p sd.l sd.c,.int .i64 off]/\Row u pb (prC s0 s1 so (nv l 0 4) (nv l 1 30))/\VI u s0 (mLotsL l) :=
    fun hu hq=>⟨hu.row 0 rfl,hu.row 1 rfl,hQ _ (hq hu.q)⟩
   refine⟨fun u=>Row u db [.int .i64 bid,.slice sd.p sd.l sd.c,.int .i64 off]/\Row u pb (prC s0 s1 so (nv l 0 4) (nv l 1 30))/\VI u s0 (mLotsL l),hS h2 (fun h=>h.1),sd,fun u hu=>hu.1.at rfl,s0,fun u hu=>hu.2.1.at rfl,?_⟩
   have hv0:=hQ _ h2.q.1
   have hl0:=hv0.len
   rw[mLotsL_len] at hl0
   have hkl:k<(mLotsL l).length:=by rw[mLotsL_len]; exact hlt
   obtain⟨ad,hp,_⟩:=hv0.at (fun a=>ie_length _ _ a) (List.getElem?_eq_getElem hkl) (by decide)
   have hel:(mLotsL l)[k]=mLot l k:=by simp[mLotsL]
   refine nz_iff.2 ⟨ad,hp,⟨by omega,by omega⟩,mLot l k,fun u hu=>?_,?_⟩
   ·obtain⟨ad',hp',hc⟩:=hu.2.2.at (fun a=>ie_length _ _ a) (List.getElem?_eq_getElem hkl) (by decide)
    rw[hp] at hp'
    cases hp'
    have:=hc 0 _ rfl
    rw[hel] at this
    exact this
   ·intro w3
    have h3:=h2.allocL (vs:=[.int .i64 (mLot l k)]) (e:=0)
    refine⟨hS (h2.fr (Fr.alloc:Fr F0 w2 w3)) (fun h=>h.1),?_⟩
    refine h2.push (a:=mLot l k) rfl rfl (ie_ok _ _) rfl (by omega) (by omega) fun r w4 h4=>?_
    refine⟨hS h4 (fun h=>h.1),h4.wr 0 rfl rfl,?_⟩
    intro w5
    have h5:Sp w0 w5 _ _ _ _ _ _ _:=h4.set (i:=1) (v:=.slice r.p r.l r.c) 0 rfl
    clear_value w5
    simp only[List.set_cons_zero,List.set_cons_succ] at h5
    refine⟨inR64 (by omega) (by omega),⟨⟨rfl,rfl,rfl,rfl,rfl,rfl,rfl,rfl,trivial⟩,k+1,r,by omega,by omega,?_⟩,by dsimp only; omega⟩
    rw[hrs,if_pos ht]
    exact h5
  ·rw[hrs,if_neg (by rw[hf]; decide),List.append_nil]
   exact h
 ·have:k=(mLots l).toNat:=by omega
  subst this
  refine⟨so,h.ld 1 rfl rfl,_,h.ld 0 rfl rfl,sd,h.ld 0 rfl rfl,_,h.ld 0 rfl rfl,?_⟩
  have hb:=(h.back hB hBs).dr (k:=mdL pb mb rb s s0 s1 so l j R) 1 rfl
  refine hb.push (a:=(⟨bid,(List.range (mLots l).toNat).filterMap (fun k=>if bitI st k then some (mLot l k) else none),off⟩,sd)) rfl rfl encD_ok rfl (by omega) (by omega) fun r w4 h4=>?_
  refine⟨h4.wr 0 rfl rfl,?_⟩
  intro w5
  have h5:Sp w0 w5 _ _ _ _ _ _ _:=h4.set (i:=2) (v:=.slice r.p r.l r.c) 0 rfl
  clear_value w5
  simp only[List.set_cons_zero] at h5
  exact⟨inR64 (by omega) (by omega),hN w5 r sd h5⟩
theorem Made_l2 {lots deals:Int}{B:Nat->Prop}{Q:World->Prop}{K:Sl->Sl->Sl->Int->Int->World->Prop}(hv:VI w0 s l)(hl:l.length<2^63)
  (hlots:lots=(mLots l).toNat) (hdeals:deals=mDeals l) {a b c d e:Value} (hR:R=[a,b,c,d,e])
  (h:Sp w0 w (mdL pb mb rb s s0 s1 ⟨none,0,0⟩ l (mD0 l) R) B Q 3 encD ⟨none,0,0⟩ []) (hB:Rests B Q) (hQ:∀ u,Q u->VI u s0 (mLotsL l)/\VC u s1 (mChL l))
  (hK:∀ w' s2,Fr F0 w0 w'->PV w' s0 s1 s2 (madeP l)->K s0 s1 s2 (nv l 0 4) (nv l 1 30) w') :
  z2h_l2 ⟨rb,0,none⟩ ⟨mb,0,none⟩ ⟨pb,0,none⟩ lots deals 0 K w:=by
 subst hlots
 subst hdeals
 have hL:=mLots_range (l:=l)
 have hDr:=nv_range (l:=l) (j:=mC0 l+4*(mChoices l).toNat) (n:=4) (by decide)
 have hD:0<=mDeals l/\mDeals l<4:=hDr
 refine⟨⟨fun i w'=>∃ (i':Nat) (s2:Sl) (dc:List (De × Sl)) (B:Nat->Prop) (Q:World->Prop),i=i'/\i'<=(mDeals l).toNat/\Sp w0 w' (mdL pb mb rb s s0 s1 s2 l (mD0 l+3*i') R) B Q 3 encD s2 dc/\Rests B Q/\(∀ u,Q u->VI u s0 (mLotsL l)/\VC u s1 (mChL l)/\∀ x∈dc,VI u x.2 x.1.lots)/\dc.map (·.1)=(List.range i').map (mDe l),
  fun i _=>(mDeals l).toNat-i.toNat,⟨0,⟨none,0,0⟩,[],B,Q,rfl,by omega,h,hB,fun u hu=>⟨(hQ u hu).1,(hQ u hu).2,fun _ h=>by cases h⟩,rfl⟩,?_⟩⟩
 clear h hB hQ
 rintro i w1 ⟨i,s2,dc,B,Q,rfl,hi,h,hB,hQ,hdm⟩
 have hdl:dc.length=i:=by have:=congrArg List.length hdm; simpa using this
 unfold z2h_b2
 rw[cnd_prop]
 refine⟨fun hlt=>?_,fun hge=>?_⟩
 ·have hlt:i<(mDeals l).toNat:=by omega
  have q1:=nv_range (l:=l) (j:=mD0 l+3*i) (n:=4) (by decide)
  have q2:=nv_range (l:=l) (j:=mD0 l+3*i+1) (n:=6) (by decide)
  refine next_sp hv hl h 1 rfl (by decide) (by decide) fun w2 h=>?_
  simp only[List.set_cons_zero,List.set_cons_succ] at h
  refine⟨inR64 (by omega) (by omega),next_sp hv hl h 1 rfl (by decide) (by decide) fun w3 h=>?_⟩
  simp only[List.set_cons_zero,List.set_cons_succ] at h
  intro w4
  have h:Sp w0 w4 _ _ _ _ _ _ _:=h.allocL (vs:=[.int .i64 0,.slice none 0 0,.int .i64 0])
  clear_value w4
  refine stN_sp h 0 rfl rfl fun w5 h=>?_
  simp only[List.set_cons_zero] at h
  have hpw:=pow_code ⟨(mLots l).toNat,by omega⟩
  simp only at hpw
  have hp1:(1:Int)<=2^(mLots l).toNat-1/\(2:Int)^(mLots l).toNat<=16:=by
   have:(mLots l).toNat=1\/(mLots l).toNat=2\/(mLots l).toNat=3\/(mLots l).toNat=4:=by omega
   rcases this with e | e | e | e<;>rw[e]<;>decide
  rw[hpw]
  refine⟨by omega,inR64 (by omega) (by omega),next_sp hv hl h 2 rfl (by omega) (by omega) fun w6 h=>?_⟩
  simp only[List.set_cons_zero,List.set_cons_succ] at h
  have q3:=nv_range (l:=l) (j:=mD0 l+3*i+1+1) (n:=2^(mLots l).toNat-1) (by omega)
  refine⟨inR64 (by omega) (by omega),?_⟩
  have hst:1+nv l (mD0 l+3*i+1+1) (2^(mLots l).toNat-1)=mSet l i:=rfl
  rw[hst]
  have hstr:0<=mSet l i/\mSet l i<16:=by rw[← hst]; omega
  have hs2:=fun b hb=>(h.os b hb).2.1
  refine Made_l3 (B:=B) (Q:=Q) rfl hstr h.next hB hs2 (fun u hu=>(hQ u hu).1) (by omega) (by omega) fun w7 so' sl h7=>⟨⟨⟨rfl,rfl,rfl,rfl,rfl,trivial⟩,i+1,so',_,_,_,by omega,by omega,h7,?_,?_,?_⟩,by dsimp only; omega⟩
  ·exact hB.and (Rests.ow sl _)
  ·intro u hu
   refine⟨(hQ u hu.1).1,(hQ u hu.1).2.1,fun x hx=>?_⟩
   rcases List.mem_append.1 hx with hx | hx
   ·exact(hQ u hu.1).2.2 x hx
   ·rw[List.mem_singleton] at hx
    subst hx
    exact hu.2.vw
  ·rw[List.map_append,hdm,range_succ_map]
   rfl
 ·have:i=(mDeals l).toNat:=by omega
  subst this
  subst hR
  obtain⟨hq0,hq1,hq2⟩:=hQ _ h.q
  refine⟨s0,h.ld 0 rfl rfl,s1,h.ld 0 rfl rfl,s2,h.ld 0 rfl rfl,_,h.ld 0 rfl rfl,_,h.ld 0 rfl rfl,?_⟩
  refine stN_sp h 2 rfl rfl fun w2 h=>?_
  simp only[List.set_cons_zero,List.set_cons_succ] at h
  obtain⟨hq0,hq1,hq2⟩:=hQ _ h.q
  refine⟨s0,h.ld 2 rfl rfl,s1,h.ld 2 rfl rfl,s2,h.ld 2 rfl rfl,_,h.ld 2 rfl rfl,_,h.ld 2 rfl rfl,hK w2 s2 h.m.1 ?_⟩
  have hr:=madeP_right l
  refine⟨hq0,hq1,⟨dc,h.ow.vw,hdm,fun x hx=>⟨hq2 x hx,?_⟩⟩,?_,?_,?_⟩
  ·have hm:x.1∈dc.map (·.1):=List.mem_map_of_mem hx
   rw[hdm] at hm
   obtain⟨k,_,hk⟩:=List.mem_map.1 hm
   rw[← hk]
   have:=List.length_filterMap_le (fun k'=>if bitI (mSet l k) k' then some (mLot l k') else none) (List.range (mLots l).toNat)
   simp only[List.length_range] at this
   show((List.range (mLots l).toNat).filterMap (fun k'=>if bitI (mSet l k) k' then some (mLot l k') else none)).length<_
   omega
  ·have:=hr.few; omega
  ·have:=hr.chs; omega
  ·have:=hr.des; omega
theorem Made_l1 {lots choices:Int}{B:Nat->Prop}{Q:World->Prop}{K:Sl->Sl->Sl->Int->Int->World->Prop}(hv:VI w0 s l)(hl:l.length<2^63)
  (hlots:lots=mLots l) (hch:choices=mChoices l) {a b c d e:Value} (hR:R=[a,b,c,d,e])
  (h:Sp w0 w (mdL pb mb rb s s0 ⟨none,0,0⟩ ⟨none,0,0⟩ l (mC0 l) R) B Q 4 encC ⟨none,0,0⟩ []) (hB:Rests B Q) (hQ:∀ u,Q u->VI u s0 (mLotsL l))
  (hK:∀ w' s1 s2,Fr F0 w0 w'->PV w' s0 s1 s2 (madeP l)->K s0 s1 s2 (nv l 0 4) (nv l 1 30) w') :
  z2h_l1 ⟨rb,0,none⟩ ⟨mb,0,none⟩ ⟨pb,0,none⟩ lots choices 0 K w:=by
 subst hlots
 subst hch
 have hL:=mLots_range (l:=l)
 have hDr:=nv_range (l:=l) (j:=3+(mLots l).toNat) (n:=13) (by decide)
 have hD:0<=mChoices l/\mChoices l<13:=hDr
 refine⟨⟨fun i w'=>∃ (i':Nat) (s1:Sl),i=i'/\i'<=(mChoices l).toNat/\Sp w0 w' (mdL pb mb rb s s0 s1 ⟨none,0,0⟩ l (mC0 l+4*i') R) B Q 4 encC s1 ((List.range i').map (mCh l)),
  fun i _=>(mChoices l).toNat-i.toNat,⟨0,⟨none,0,0⟩,rfl,by omega,h⟩,?_⟩⟩
 clear h
 rintro i w1 ⟨i,s1,rfl,hi,h⟩
 unfold z2h_b1
 rw[cnd_prop]
 refine⟨fun hlt=>?_,fun hge=>?_⟩
 ·have hlt:i<(mChoices l).toNat:=by omega
  intro w2
  replace h:Sp w0 w2 _ _ _ _ _ _ _:=h.drew
  clear_value w2
  have hS:∀ {u j t} {ls:List Ch},Sp w0 u (mdL pb mb rb s s0 s1 ⟨none,0,0⟩ l j R) B Q 4 encC t ls->Row u pb (prC s0 s1 ⟨none,0,0⟩ (nv l 0 4) (nv l 1 30))/\VI u s0 (mLotsL l) :=
   fun hu=>⟨hu.row 0 rfl,hQ _ hu.q⟩
  refine⟨fun u=>Row u pb (prC s0 s1 ⟨none,0,0⟩ (nv l 0 4) (nv l 1 30))/\VI u s0 (mLotsL l),hS h,s1,fun u hu=>hu.1.at rfl,s0,fun u hu=>hu.1.at rfl,next_sp hv hl h 1 rfl (by omega) (by omega) fun w3 h=>?_⟩
  simp only[List.set_cons_zero,List.set_cons_succ] at h
  have q0:=nv_range (l:=l) (j:=mC0 l+4*i) (n:=mLots l) (by omega)
  have q1:=nv_range (l:=l) (j:=mC0 l+4*i+1) (n:=4) (by decide)
  have hv0:=hQ _ h.q
  have hl0:=hv0.len
  rw[mLotsL_len] at hl0
  have hil:(nv l (mC0 l+4*i) (mLots l)).toNat<(mLotsL l).length:=by rw[mLotsL_len]; omega
  have hel:(mLotsL l)[(nv l (mC0 l+4*i) (mLots l)).toNat]=(mCh l i).lot:=by
   show _=(mLotsL l).getD _ 0
   rw[List.getD_eq_getElem?_getD,List.getElem?_eq_getElem hil]
   rfl
  obtain⟨ad,hp,_⟩:=hv0.at (fun a=>ie_length _ _ a) (List.getElem?_eq_getElem hil) (by decide)
  refine⟨hS h,nz_iff.2 ⟨ad,hp,⟨by omega,by omega⟩,(mCh l i).lot,fun u hu=>?_,next_sp hv hl h 1 rfl (by decide) (by decide) fun w4 h=>?_⟩⟩
  ·obtain⟨ad',hp',hc⟩:=hu.2.at (fun a=>ie_length _ _ a) (List.getElem?_eq_getElem hil) (by decide)
   rw[hp] at hp'
   cases hp'
   have:=hc 0 _ rfl
   rw[hel] at this
   exact this
  simp only[List.set_cons_zero,List.set_cons_succ] at h
  refine⟨hS h,inR64 (by omega) (by omega),next_sp hv hl h 1 rfl (by decide) (by decide) fun w5 h=>?_⟩
  simp only[List.set_cons_zero,List.set_cons_succ] at h
  refine⟨hS h,next_sp hv hl h 1 rfl (by decide) (by decide) fun w6 h=>?_⟩
  simp only[List.set_cons_zero,List.set_cons_succ] at h
  refine⟨hS h,?_⟩
  intro w7
  refine⟨hS (h.fr (Fr.alloc:Fr F0 w6 w7)),?_⟩
  refine h.push (a:=mCh l i) rfl rfl encC_ok rfl (by simp; omega) (by simp; omega) fun r w8 h=>?_
  refine⟨hS h,h.wr 0 rfl rfl,?_⟩
  intro w9
  have h:Sp w0 w9 _ _ _ _ _ _ _:=h.set (i:=1) (v:=.slice r.p r.l r.c) 0 rfl
  clear_value w9
  simp only[List.set_cons_zero] at h
  refine⟨inR64 (by omega) (by omega),⟨⟨rfl,rfl,rfl,rfl,rfl,trivial⟩,i+1,r,by omega,by omega,?_⟩,by dsimp only; omega⟩
  rw[range_succ_map]
  exact h
 ·have:i=(mChoices l).toNat:=by omega
  subst this
  refine next_sp hv hl h 1 rfl (by decide) (by decide) fun w2 h=>?_
  simp only[List.set_cons_zero,List.set_cons_succ] at h
  exact Made_l2 hv hl (by omega) rfl hR h.next (hB.and (Rests.ow s1 _)) (fun u hu=>⟨hQ u hu.1,hu.2.vw⟩) fun w' s2=>hK w' s1 s2
theorem Made_l0 {lots:Int}{K:Sl->Sl->Sl->Int->Int->World->Prop}(hv:VI w0 s l)(hl:l.length<2^63)
  (hlots:lots=mLots l) {a b c d e:Value} (hR:R=[a,b,c,d,e])
  (h:Sp w0 w (mdL pb mb rb s ⟨none,0,0⟩ ⟨none,0,0⟩ ⟨none,0,0⟩ l 3 R) (fun _=>False) (fun _=>True) 1 (ie .i64 (id:Int->Int)) ⟨none,0,0⟩ [])
  (hK:∀ w' s0 s1 s2,Fr F0 w0 w'->PV w' s0 s1 s2 (madeP l)->K s0 s1 s2 (nv l 0 4) (nv l 1 30) w') :
  z2h_l0 ⟨rb,0,none⟩ ⟨mb,0,none⟩ ⟨pb,0,none⟩ lots 0 K w:=by
 subst hlots
 have hL:=mLots_range (l:=l)
 refine⟨⟨fun i w'=>∃ (i':Nat) (s0:Sl),i=i'/\i'<=(mLots l).toNat/\Sp w0 w' (mdL pb mb rb s s0 ⟨none,0,0⟩ ⟨none,0,0⟩ l (3+i') R) (fun _=>False) (fun _=>True) 1 (ie .i64 (id:Int->Int)) s0 ((List.range i').map (mLot l)),
  fun i _=>(mLots l).toNat-i.toNat,⟨0,⟨none,0,0⟩,rfl,by omega,h⟩,?_⟩⟩
 clear h
 rintro i w1 ⟨i,s0,rfl,hi,h⟩
 unfold z2h_b0
 rw[cnd_prop]
 refine⟨fun hlt=>?_,fun hge=>?_⟩
 ·have hlt:i<(mLots l).toNat:=by omega
  intro w2
  replace h:Sp w0 w2 _ _ _ _ _ _ _:=h.drew
  clear_value w2
  have q0:=nv_range (l:=l) (j:=3+i) (n:=2) (by decide)
  refine⟨fun u=>Row u pb (prC s0 ⟨none,0,0⟩ ⟨none,0,0⟩ (nv l 0 4) (nv l 1 30)),h.row 0 rfl,s0,fun u hu=>hu.at rfl,inR64 (by omega) (by omega),inR64 (by omega) (by omega),next_sp hv hl h 1 rfl (by omega) (by omega) fun w3 h=>?_⟩
  simp only[List.set_cons_zero,List.set_cons_succ] at h
  refine⟨h.row 0 rfl,inR64 (by omega) (by omega),inR64 (by omega) (by omega),?_⟩
  intro w7
  refine⟨(h.fr (Fr.alloc:Fr F0 w3 w7)).row 0 rfl,?_⟩
  refine h.push (a:=mLot l i) rfl rfl (ie_ok _ _) rfl (by simp; omega) (by simp; omega) fun r w8 h=>?_
  refine⟨h.wr 0 rfl rfl,?_⟩
  intro w9
  have h:Sp w0 w9 _ _ _ _ _ _ _:=h.set (i:=0) (v:=.slice r.p r.l r.c) 0 rfl
  clear_value w9
  simp only[List.set_cons_zero] at h
  refine⟨inR64 (by omega) (by omega),⟨⟨rfl,rfl,rfl,rfl,trivial⟩,i+1,r,by omega,by omega,?_⟩,by dsimp only; omega⟩
  rw[range_succ_map]
  exact h
 ·have:i=(mLots l).toNat:=by omega
  subst this
  refine next_sp hv hl h 1 rfl (by decide) (by decide) fun w2 h=>?_
  simp only[List.set_cons_zero,List.set_cons_succ] at h
  have e:3+(mLots l).toNat+1=mC0 l:=by unfold mC0; omega
  rw[e] at h
  exact Made_l1 hv hl rfl rfl hR h.next (Rests.top.and (Rests.ow s0 _)) (fun u hu=>hu.2.vw) fun w' s1 s2=>hK w' s0 s1 s2
theorem Made_spec {K:Sl->Sl->Sl->Int->Int->World->Prop}(hv:VI w s l)(hl:l.length<2^63)
  (hK:∀ w' s0 s1 s2,Fr F0 w w'->PV w' s0 s1 s2 (madeP l)->K s0 s1 s2 (madeP l).most (madeP l).budget w'):z2h_sh s K w:=by
 refine⟨?_⟩
 unfold z2h_sd
 intro w1
 have m1:Mem w w1 [(w.heap.size,[.slice none 0 0,.slice none 0 0,.slice none 0 0,.int .i64 0,.int .i64 0])]:=Mem.nil.allocL
 clear_value w1
 intro w2
 have m2:Mem w w2 [(w1.heap.size,nmC s l 0),(w.heap.size,[.slice none 0 0,.slice none 0 0,.slice none 0 0,.int .i64 0,.int .i64 0])]:=by
  have:nmC s l 0=[.slice s.p s.l s.c,.int .i64 0]:=by simp[nmC]
  rw[this]
  exact m1.allocL
 clear_value w2
 refine next_mem hv hl m2 0 rfl (by decide) (by decide) fun w3 m3 _=>?_
 simp only[List.set_cons_zero] at m3
 refine next_mem hv hl m3 0 rfl (by decide) (by decide) fun w4 m4 _=>?_
 simp only[List.set_cons_zero] at m4
 intro w5
 have m5:Mem w w5 _:=m4.allocL (cs:=[.slice none 0 0,.slice none 0 0,.slice none 0 0,.int .i64 0,.int .i64 0])
 clear_value w5
 refine stN_sp (Sp.start m5 (n:=1) (enc:=ie .i64 (id:Int->Int))) 0 rfl rfl fun w6 h=>?_
 simp only[List.set_cons_zero] at h
 refine next_sp hv hl h 1 rfl (by decide) (by decide) fun w7 h=>?_
 simp only[List.set_cons_zero,List.set_cons_succ] at h
 have q0:=nv_range (l:=l) (j:=0+1+1) (n:=4) (by decide)
 refine⟨inR64 (by omega) (by omega),?_⟩
 exact Made_l0 hv hl rfl rfl h hK
end
end Go.Proofs.YtfpobpjandjhjaaGreatDoor
namespace Pw
open Go
theorem Row.ow {α:Type}{n:Nat}{enc:α->List Value}{w:World}{b:Nat}{l:List α}(hn:∀ a,(enc a).length=n)(h:Row w b (l.flatMap enc)):Ow n enc w ⟨some ⟨b,0,none⟩,l.length,l.length⟩ l:=by
 refine⟨rfl,?_,.inr ⟨b,_,rfl,h,?_,Nat.le_refl _,?_⟩⟩
 ·simp[fm_length hn]
 ·rw[fm_length hn]
 ·exact List.take_of_length_le (by rw[fm_length hn]; exact Nat.le_refl _)
end Pw
namespace Go.Proofs.YtfpobpjandjhjaaGreatDoor
open Go Pw
section
variable {w w' w0:World}{s t s0 s1 s2:Sl}{p:Pr}{a b:List Int}
theorem Solve_full {work:Int}{K:Sl->Int->Int->Sl->Int->World->Prop}(hp:RightPr p)(h:PV w s0 s1 s2 p)(hw:Wi work 1048576)(hn:(prefN p p.lots:Int)<=work)
  (hK:∀ w' t bnd ns T cs N,V w w' [] [] [] ns t T cs N->IsBest p T->bnd=ptsOf p T->(Tree (upB p) p T N p.lots [] 0 N.length/\(N.length:Int)<=work)->K t (ptsOf p T) bnd ns 0 w'):z3l_sh s0 s1 s2 p.most p.budget work K w:=by
 refine Solve_spec h (fun hbad=>?_) fun _ _ w' t pts bnd ns e T cs N hV hS=>?_
 ·rcases hbad with hb | hb
  ·rw[rightB_iff.2 hp] at hb; cases hb
  ·exfalso
   have:wiB work 1048576=true:=by simpa [wiB,Wi] using hw
   rw[this] at hb; cases hb
 ·rcases hS with⟨rfl,h1,rfl,rfl,h2⟩ | ⟨_,_,_,_,_,h2⟩
  ·exact hK w' t _ ns T cs N hV h1 rfl h2
  ·omega
end
end Go.Proofs.YtfpobpjandjhjaaGreatDoor

namespace Pw
section
variable {p:Pr}{m b:Int}
def prB:Nat->Nat
 | 0=>1
 | k+1=>1+13*prB k
theorem prefN_le (h:p.ch.length<=12):∀ ls:List Int,prefN p ls<=prB ls.length
 | []=>Nat.le_refl _
 | lot :: ls=>by
  have ih:=prefN_le h ls
  have hl:(opts p lot).length<=13:=by
   have:=Go.Proofs.YtfpobpjandjhjaaGreatDoor.optsFrom_len (lot:=lot) p.ch 0
   have:=List.countP_le_length (p:=fun c:Ch=>c.lot == lot) (l:=p.ch)
   simp only[opts,List.length_cons]
   omega
  have:=Nat.mul_le_mul hl ih
  show 1+(opts p lot).length*prefN p ls<=1+13*prB ls.length
  omega
theorem made_prefN (l:List Int):prefN (madeP l) (madeP l).lots<=30941:=by
 have h1:=nv_range (l:=l) (j:=3+(mLots l).toNat) (n:=13) (by decide)
 have h2:=mLots_range (l:=l)
 have h3:=prefN_le (p:=madeP l) (by simp only[madeP,mChL,List.length_map,List.length_range,mChoices]; omega) (madeP l).lots
 have h4:(madeP l).lots.length=(mLots l).toNat:=mLotsL_len
 rw[h4] at h3
 have:(mLots l).toNat=1\/(mLots l).toNat=2\/(mLots l).toNat=3\/(mLots l).toNat=4:=by omega
 refine Nat.le_trans h3 ?_
 rcases this with h | h | h | h<;>rw[h]<;>decide
end
open Go
section
variable {α:Type}{n:Nat}{enc:α->List Value}{w w':World}{s:Sl}{l:List α}
theorem Vw.drop (h:Vw n enc w s l)(hn:∀ a,(enc a).length=n){j:Nat}(hj:j<=l.length):Vw n enc w ⟨subP s.p j s.c n,s.l-j,s.c-j⟩ (l.drop j):=by
 have hl:=h.len
 have hc:=h.cap
 refine⟨by simp; omega,by simp; omega,?_⟩
 have hlen:((l.drop j).flatMap enc).length=(s.l-j)*n:=by rw[fm_length hn,List.length_drop,hl]
 refine⟨hlen,?_⟩
 obtain⟨h1,h2⟩:=h.rd
 have hpre:(l.drop j).flatMap enc=(l.flatMap enc).drop (j*n):=by
  have h3:l.flatMap enc=(l.take j).flatMap enc++(l.drop j).flatMap enc:=by rw[← List.flatMap_append,List.take_append_drop]
  have h4:((l.take j).flatMap enc).length=j*n:=by rw[fm_length hn]; simp; rw[Nat.min_eq_left hj]
  rw[h3,← h4,List.drop_left']
  rfl
 by_cases he:s.c=j
 ·have e0:s.l-j=0:=by omega
  have hsp:subP s.p j s.c n=s.p:=if_pos he
  rw[hsp,e0,Nat.zero_mul]
  rw[e0,Nat.zero_mul] at hlen
  cases s.p with
  | none=>rfl
  | some a=>intro i hi; rw[hlen] at hi; omega
 ·have hsp:subP s.p j s.c n=s.p.map (·.add (j*n)):=if_neg he
  rw[hsp]
  cases hs:s.p with
  | none =>
   rw[hs] at h2
   simp only[Option.map_none] at h2 ⊢
   rw[hl] at h2
   rcases Nat.mul_eq_zero.1 h2 with h | h
   ·rw[hl,h]; simp
   ·rw[h]; simp
  | some a =>
   rw[hs] at h2
   simp only[Option.map_some] at h2 ⊢
   intro i hi
   rw[hlen] at hi
   have hm:j*n+(s.l-j)*n=s.l*n:=by rw[← Nat.add_mul]; congr 1; omega
   have h3:=h2 (j*n+i) (by rw[h1]; omega)
   rw[add_add,h3]
   congr 1
   have h4:((l.drop j).flatMap enc)[i]?=((l.flatMap enc).drop (j*n))[i]?:=by rw[hpre]
   rw[List.getElem?_drop,List.getElem?_eq_getElem (by rw[hlen]; exact hi),List.getElem?_eq_getElem (by rw[h1]; omega)] at h4
   exact(Option.some.inj h4).symm
theorem Sp.empty {w0:World}{L:List (Nat × List Value)}{e:TypeId}(hn:∀ a,(enc a).length=n)(h:Mem w0 w L):Sp w0 (w.alloc (Obj.cells #[] e)) L (fun _=>False) (fun _=>True) n enc ⟨some ⟨w.heap.size,0,none⟩,0,0⟩ ([]:List α):=by
 refine⟨h.fr Fr.alloc,Rests.top,trivial,fun _ hb=>hb.elim,Row.ow hn (l:=([]:List α)) Row.new,fun b ⟨a,ha,hb⟩=>?_⟩
 cases ha
 subst hb
 exact⟨h.1.1,fun h=>h,fun p hp e=>by have:=(h.2.1 p hp).lt; simp only at e; omega⟩
end
end Pw

namespace Go.Proofs.YtfpobpjandjhjaaGreatDoor
open Go Pw
section
variable {w wB:World}{s x s0 s1 s2 s5:Sl}{l dl f:List Int}{p:Pr}{pb db:Nat}
theorem decs_take:∀ (ls f:List Int) (i:Nat),Decs p ls f->Decs p ls (f.take i)
 | _,_,0,_=>by simp[Decs]
 | _,[],_+1,_=>by simp[Decs]
 | [],_ :: _,_+1,h=>h.elim
 | _ :: ls,_ :: f,i+1,h=>by
  rw[List.take_succ_cons]
  exact⟨h.1,decs_take ls f i h.2⟩
theorem fitsB_decs (h:fitsB p f=true):Decs p p.lots f:=by
 unfold fitsB at h
 rw[Bool.and_eq_true] at h
 exact decsB_iff.1 h.2
end
end Go.Proofs.YtfpobpjandjhjaaGreatDoor
