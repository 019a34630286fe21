/- combine: the memory of a search. Conditions: none. -/
import Derived.Test.YtfpobpjandjhjaaGreatDoorCXY
import Derived.Test.YtfpobpjandjhjaaGreatDoorPwQ
import Derived.Test.YtfpobpjandjhjaaGreatDoorCG5
open List renaming set_cons_zero->J0,getElem?_eq_getElem->J1,set_cons_succ->J2,mem_cons_self->J3,mem_cons_of_mem->J4,take_length->J5,getElem?_eq_some_iff->J6,replicate->J7,mem_singleton->J8,length_map->J9,take_of_length_le->Ja,getElem_mem->Jb,length_singleton->Jc,length_append->Jd,mem_cons->Je,cons_append->Jf,map_append->Jg,nil_append->Jh,range->Ji,mem_append->Jj,length_take->Jk,getElem?_take->Jl,prefix_append->Jm,getElem?_append_right->Jn,getElem?_append->Jo,mem_or_eq_of_mem_set->Jp,length_cons->Jq,getElem?_drop->Jr,eq_nil_of_length_eq_zero->Js,mem_of_getElem?->Jt,getElem?_set_ne->Ju,all_eq_true->Jv,mem_map_of_mem->Jw,getD_eq_getElem?_getD->Jx,drop_eq_getElem_cons->Jy,sum_append->Jz,length_filterMap_le->JA,getElem?_cons_succ->JB,drop_of_length_le->JC,prefix_refl->JD,take_prefix->JE,getElem?_eq_none->JF,length_replicate->JG,set_append->JH,set_set->JI,ext_getElem?->JJ,flatMap_cons->JK,length_range->JL,nodup_append->JM,all_eq_false->JN,length_drop->JO,mem_map->JP,length_set->JQ,range_succ->JR,drop_zero->JS,map_cons->JT
open Int renaming toNat_natCast->JU,le_refl->JV
open Nat renaming le_refl->JW,le_trans->JX,min_eq_left->JY,min_comm->JZ,zero_add->Q0,lt_of_lt_of_le->Q1,add_sub_cancel->Q2,zero_mul->Q3,min_eq_right->Q4,mul_one->Q5,one_mul->Q6,add_mul->Q7,sub_zero->Q8
namespace Pw
open Go
theorem Ow.lt {α:Type}{n:Nat}{enc:α->List Value}{w:World}{s:Sl}{l:List α}(h:Ow n enc w s l){b:Nat}(hb:inB s b):b<w.heap.size:=h.own.lt hb
theorem Ow.row {w:World}{b:Nat}{l:List Int}(h:Row w b (l.map fun n=>Value.int .i64 n)):Ow 1 (ie .i64 id) w ⟨some ⟨b,0,none⟩,l.length,l.length⟩ l:=by
 refine⟨rfl,?_,.inr ⟨b,_,rfl,h,by simp,JW _,?_⟩⟩
 ·simp[q0d (fun a=>q05 IntKind.i64 (id:Int->Int) a)]
 ·rw[show l.flatMap (ie .i64 id)=l.map fun n=>Value.int .i64 n from q7j (fun n=>Value.int .i64 n) l]
  exact Ja (JW _)
theorem Mk.cp {w0 w:World}{s x d:Sl}{l m:List Int}{off:Nat}{K:Int->World->Prop}(h:Mk w0 1 (ie .i64 id) w s l)(hx:Vw 1 (ie .i64 id) w x m)(ho:off<=l.length)(hd:d.p=subP s.p off s.c 1)(hdl:d.l=l.length-off)
  (hK:∀ w',Mk w0 1 (ie .i64 id) w' s (l.take off++m.take (l.length-off)++l.drop (off+min m.length (l.length-off)))->Fr (inB s) w w'->K ((min m.length (l.length-off):Nat):Int) w'):cpS 1 d x w K:=by
 have hlen:=h.len
 have hxl:=hx.len
 have hmin:min x.l d.l=min m.length (l.length-off):=by rw[hxl,hdl]
 refine⟨(m.take (l.length-off)).map fun n=>Value.int .i64 n,?_,?_,?_⟩
 ·rw[hmin]
  obtain⟨h1,h2⟩:=hx.rd
  refine⟨by simp[JZ],?_⟩
  have e:m.flatMap (ie .i64 id)=m.map fun n=>Value.int .i64 n:=q7j (fun n=>Value.int .i64 n) m
  cases hp:x.p with
  | none =>
   rw[hp] at h2
   simp only at h2 ⊢
   omega
  | some a =>
   rw[hp] at h2
   simp only at h2 ⊢
   intro i hi
   simp only[J9,Jk] at hi
   have h3:=h2 i (by rw[e]; simp; omega)
   rw[h3]
   simp[e]
 ·intro v hv
  obtain⟨n,_,rfl⟩:=JP.1 hv
  rfl
 ·rw[hmin]
  generalize hc:min m.length (l.length-off)=c at *
  have hcl:(m.take (l.length-off)).length=c:=by rw[Jk,← hc,JZ]
  obtain⟨hl,hown⟩:=h.ow
  obtain⟨hol,hnil | ⟨b,cs,hp,hrow,hcs,hle,ht⟩⟩:=hown
  ·have hl0:l=[]:=Js (by omega)
   subst hl0
   have hoff:off=0:=by simpa using ho
   subst hoff
   rw[hd,hnil.1]
   have:subP none 0 s.c 1=none:=by unfold subP; split<;>rfl
   rw[this]
   subst hc
   refine hK w ?_ Fr.refl
   simpa using h
  ·have e:l.flatMap (ie .i64 id)=l.map fun n=>Value.int .i64 n:=q7j (fun n=>Value.int .i64 n) l
   rw[e] at ht hol
   simp only[J9,Q5] at ht hol hcs
   by_cases hz:s.c=off
   ·have hc0:c=0:=by omega
    subst hc0
    have hm0:m.take (l.length-off)=[]:=Js hcl
    rw[hm0] at hK ⊢
    rw[hd,show subP s.p off s.c 1=s.p by unfold subP; rw[if_pos hz],hp]
    refine⟨fun i hi=>by simp at hi,hK w ?_ Fr.refl⟩
    simpa using h
   ·rw[hd,show subP s.p off s.c 1=some ⟨b,off,none⟩ by rw[hp]; unfold subP; simp[hz]]
    simp only
    have hfit:off+((m.take (l.length-off)).map fun n=>Value.int .i64 n).length<=cs.length:=by rw[J9,hcl]; omega
    refine⟨fun i hi=>by rw[q1q]; exact hrow.wr (by omega),?_⟩
    have hrow':=qdn (o:=off) ((m.take (l.length-off)).map fun n=>Value.int .i64 n) 0 w cs hrow (by omega)
    simp only[Nat.add_zero] at hrow'
    have hfr:Fr (inB s) w (wrC w ⟨b,off,none⟩ 0 ((m.take (l.length-off)).map fun n=>Value.int .i64 n)) :=
     ⟨by rw[qay]; exact JW _,fun c _ hn=>qhe (a:=⟨b,off,none⟩) (fun he=>hn ⟨_,hp,he⟩) _ _ _,qhd _ _ _,qdm _ _ _,qaz _ _ _⟩
    have hnl:(l.take off++m.take (l.length-off)++l.drop (off+c)).length=l.length:=by
     simp only[Jd,JO,hcl,Jk]; omega
    refine hK _ ⟨h.fr0.trans hfr fun b' hb' hlt=>absurd (h.nw b' hb') (by omega),⟨by rw[hnl]; exact hl,?_,.inr ⟨b,_,hp,hrow',by rw[q69 _ _ _ hfit,hcs,Q5],hle,?_⟩⟩,h.nw⟩ hfr
    ·rw[q0d (fun a=>q05 IntKind.i64 (id:Int->Int) a),hnl]; omega
    ·rw[show(l.take off++m.take (l.length-off)++l.drop (off+c)).flatMap (ie .i64 id)=(l.take off++m.take (l.length-off)++l.drop (off+c)).map fun n=>Value.int .i64 n from q7j (fun n=>Value.int .i64 n) _]
     rw[J9,hnl]
     unfold q5f
     rw[J9,hcl]
     apply JJ
     intro i
     have hti:∀ j,j<l.length->cs[j]?=(l.map fun n=>Value.int .i64 n)[j]?:=by
      intro j hj
      rw[← ht,Jl,if_pos hj]
     by_cases hil:i<l.length
     ·rw[Jl,if_pos hil,Jg,Jg,Jo,Jo]
      simp only[Jd,J9,Jk,hcl,Jo]
      have e1:min off cs.length=off:=by omega
      have e2:min off l.length=off:=by omega
      have e3:min (l.length-off) m.length=c:=by rw[JZ]; exact hc
      simp only[e1,e2]
      by_cases h1:i<off
      ·rw[if_pos (by omega),if_pos h1,if_pos (by omega),if_pos h1,Jl,if_pos h1,hti i hil]
       simp[h1]
      ·by_cases h2:i<off+c
       ·rw[if_pos h2,if_neg h1,if_pos h2,if_neg h1]
       ·rw[if_neg h2,if_neg h2,Jr,hti _ (by omega)]
        simp only[List.getElem?_map,Jr]
     ·rw[Jl,if_neg hil,JF]
      rw[J9,hnl]
      omega
end Pw
namespace Go.Proofs.YtfpobpjandjhjaaGreatDoor
open Go Pw
structure NdC where
 lot:Int
 num:Int
 den:Int
 nx:Sl
def encN (c:NdC):List Value:=[.int .i64 c.lot,.int .i64 c.num,.int .i64 c.den,.slice c.nx.p c.nx.l c.nx.c]
@[simp] theorem q0p (c:NdC):(encN c).length=4:=rfl
theorem qbn (c:NdC):∀ v∈encN c,okC v=true:=by intro v hv; simp[encN] at hv; rcases hv with rfl | rfl | rfl | rfl<;>rfl
abbrev OI (w:World)(s:Sl)(l:List Int):Prop:=Ow 1 (ie .i64 id) w s l
structure NdOk (w:World)(c:NdC)(n:Nd):Prop where
 lot:c.lot=n.lot
 num:c.num=n.num
 den:c.den=n.den
 nx:OI w c.nx n.next
 i1:I64 n.num
 i2:I64 n.den
 ln:n.next.length<2^40
 i0:I64 n.lot
def q5c (w:World):List NdC->List Nd->Prop
 | [],[]=>True
 | c :: cs,n :: N=>NdOk w c n/\q5c w cs N
 | _,_=>False
theorem q5c.len {w:World}:∀ {cs:List NdC} {N:List Nd},q5c w cs N->cs.length=N.length
 | [],[],_=>rfl
 | [],_ :: _,h=>h.elim
 | _ :: _,[],h=>h.elim
 | _ :: _,_ :: _,h=>by simp[h.2.len]
theorem q5c.imp {w w':World}:∀ {cs:List NdC} {N:List Nd},q5c w cs N->(∀ c∈cs,∀ l,OI w c.nx l->OI w' c.nx l)->q5c w' cs N
 | [],[],_,_=>trivial
 | [],_ :: _,h,_=>h.elim
 | _ :: _,[],h,_=>h.elim
 | c :: cs,n :: N,h,hi=>⟨⟨h.1.lot,h.1.num,h.1.den,hi c (by simp) _ h.1.nx,h.1.i1,h.1.i2,h.1.ln,h.1.i0⟩,h.2.imp fun d hd=>hi d (by simp[hd])⟩
theorem q5c.append {w:World}:∀ {cs:List NdC} {N:List Nd} {ds:List NdC} {M:List Nd},q5c w cs N->q5c w ds M->q5c w (cs++ds) (N++M)
 | [],[],_,_,_,h=>h
 | [],_ :: _,_,_,h,_=>h.elim
 | _ :: _,[],_,_,h,_=>h.elim
 | _ :: _,_ :: _,_,_,h,h'=>⟨h.1,h.2.append h'⟩
theorem q5c.at {w:World}:∀ {cs:List NdC} {N:List Nd} {i:Nat} {c:NdC} {n:Nd},q5c w cs N->cs[i]?=some c->N[i]?=some n->NdOk w c n
 | [],[],_,_,_,_,h,_=>by simp at h
 | [],_ :: _,_,_,_,h,_,_=>h.elim
 | _ :: _,[],_,_,_,h,_,_=>h.elim
 | c :: cs,n :: N,0,_,_,h,h1,h2=>by simp at h1 h2; subst h1; subst h2; exact h.1
 | c :: cs,n :: N,i+1,_,_,h,h1,h2=>h.2.at (by simpa using h1) (by simpa using h2)
theorem q5c.set {w:World}:∀ {cs:List NdC} {N:List Nd} {i:Nat} {c:NdC} {n:Nd},q5c w cs N->NdOk w c n->q5c w (cs.set i c) (N.set i n)
 | [],[],_,_,_,_,_=>trivial
 | [],_ :: _,_,_,_,h,_=>h.elim
 | _ :: _,[],_,_,_,h,_=>h.elim
 | c :: cs,n :: N,0,_,_,h,h1=>⟨h1,h.2⟩
 | c :: cs,n :: N,i+1,_,_,h,h1=>⟨h.1,h.2.set h1⟩
structure V (wB u:World)(l:List (Nat × List Value))(R:List (Sl × List Int))(O:List (Nat × Obj))(ns t:Sl)(T:List Int)(cs:List NdC)(N:List Nd):Prop where
 m:Mem wB u l
 r:∀ x∈R,VI u x.1 x.2
 ow:Ow 4 encN u ns cs
 tv:OI u t T
 nv:q5c u cs N
 a1:∀ p∈l,¬inB ns p.1/\¬inB t p.1/\∀ c∈cs,¬inB c.nx p.1
 a2:∀ x∈R,∀ b,inB x.1 b->b<u.heap.size/\¬inB ns b/\∀ p∈l,p.1≠b
 a3:∀ b,inB ns b->¬inB t b/\∀ c∈cs,¬inB c.nx b
 n0:∀ b,inB ns b->wB.heap.size<=b
 n1:∀ b,inB t b->wB.heap.size<=b
 n2:∀ c∈cs,∀ b,inB c.nx b->wB.heap.size<=b
 a4:∀ c∈cs,∀ b,inB c.nx b->¬inB t b
 ob:∀ o∈O,u.heap[o.1]?=some o.2/\wB.heap.size<=o.1/\¬inB ns o.1/\¬inB t o.1/\(∀ c∈cs,¬inB c.nx o.1)/\(∀ x∈R,¬inB x.1 o.1)/\∀ p∈l,p.1≠o.1
section
variable {wB u u':World}{l:List (Nat × List Value)}{R:List (Sl × List Int)}{O:List (Nat × Obj)}{ns t:Sl}{T:List Int}{cs:List NdC}{N:List Nd}
theorem V.nxlt (h:V wB u l R O ns t T cs N){c:NdC}(hc:c∈cs){b:Nat}(hb:inB c.nx b):b<u.heap.size:=by
 obtain⟨i,hi,rfl⟩:=List.mem_iff_getElem.1 hc
 have hl:=h.nv.len
 exact(h.nv.at (J1 hi) (J1 (by omega))).nx.lt hb
theorem V.olt (h:V wB u l R O ns t T cs N){o:Nat × Obj}(ho:o∈O):o.1<u.heap.size:=(Array.getElem?_eq_some_iff.1 (h.ob o ho).1).1
theorem V.fr (h:V wB u l R O ns t T cs N)(hf:Fr F0 u u'):V wB u' l R O ns t T cs N :=
 ⟨h.m.fr hf,fun x hx=>(h.r x hx).fr hf,h.ow.fr hf,h.tv.fr hf,h.nv.imp fun _ _ _ ho=>ho.fr hf,h.a1,fun x hx b hb=>⟨Q1 (h.a2 x hx b hb).1 hf.1,(h.a2 x hx b hb).2⟩,h.a3,h.n0,h.n1,h.n2,h.a4,fun o ho=>⟨by rw[hf.2.1 _ (h.olt ho) fun h=>h]; exact(h.ob o ho).1,(h.ob o ho).2⟩⟩
theorem V.drew (h:V wB u l R O ns t T cs N):V wB u.drew l R O ns t T cs N:=h.fr Fr.drew
theorem V.allocL {vs:List Value}{e:TypeId}(h:V wB u l R O ns t T cs N):V wB (u.alloc (Obj.cells vs.toArray e)) ((u.heap.size,vs) :: l) R O ns t T cs N:=by
 have hf:Fr F0 u (u.alloc (Obj.cells vs.toArray e)):=Fr.alloc
 have h':=h.fr hf
 refine⟨h.m.allocL,h'.r,h'.ow,h'.tv,h'.nv,fun p hp=>?_,fun x hx b hb=>⟨(h'.a2 x hx b hb).1,(h.a2 x hx b hb).2.1,fun p hp=>?_⟩,h.a3,h.n0,h.n1,h.n2,h.a4,fun o ho=>⟨(h'.ob o ho).1,(h.ob o ho).2.1,(h.ob o ho).2.2.1,(h.ob o ho).2.2.2.1,(h.ob o ho).2.2.2.2.1,(h.ob o ho).2.2.2.2.2.1,fun p hp=>?_⟩⟩
 ·rcases Je.1 hp with rfl | hp
  ·exact⟨fun hb=>by have:=h.ow.lt hb; simp at this,fun hb=>by have:=h.tv.lt hb; simp at this,fun c hc hb=>by have:=h.nxlt hc hb; simp at this⟩
  ·exact h.a1 p hp
 ·rcases Je.1 hp with rfl | hp
  ·have:=(h.a2 x hx b hb).1
   simp only
   omega
  ·exact(h.a2 x hx b hb).2.2 p hp
 ·rcases Je.1 hp with rfl | hp
  ·have:=h.olt ho
   simp only
   omega
  ·exact(h.ob o ho).2.2.2.2.2.2 p hp
theorem V.ld {b i:Nat}{vs:List Value}{v:Value}(h:V wB u l R O ns t T cs N)(j:Nat)(hj:l[j]?=some (b,vs):=by exact rfl)(hv:vs[i]?=some v:=by exact rfl):u.cell? ⟨b,i,none⟩=some v:=h.m.ld j hj hv
theorem V.wr {b i:Nat}{vs:List Value}(h:V wB u l R O ns t T cs N)(j:Nat)(hj:l[j]?=some (b,vs):=by exact rfl)(hi:Nat.blt i vs.length=true:=by exact rfl):wrOk u ⟨b,i,none⟩:=h.m.wr j hj hi
theorem V.set {b i:Nat}{vs:List Value}{v:Value}(h:V wB u l R O ns t T cs N)(j:Nat)(hj:l[j]?=some (b,vs):=by exact rfl):V wB (u.setCell ⟨b,i,none⟩ v) (l.set j (b,vs.set i v)) R O ns t T cs N:=by
 have hmem:=Jt hj
 have hf:Fr (fun c=>c=b) u (u.setCell ⟨b,i,none⟩ v):=Fr.set rfl
 obtain⟨q1,q2,q3⟩:=h.a1 _ hmem
 have hmap:∀ p∈l.set j (b,vs.set i v),∃ q∈l,q.1=p.1:=by
  intro p hp
  rcases Jp hp with hp | rfl
  ·exact⟨p,hp,rfl⟩
  ·exact⟨_,hmem,rfl⟩
 refine⟨h.m.set j hj,fun x hx=>(h.r x hx).frF hf fun c hc e=>(h.a2 x hx c hc).2.2 _ hmem e.symm,h.ow.frF hf fun c hc e=>q1 (e ▸ hc),h.tv.frF hf fun c hc e=>q2 (e ▸ hc),h.nv.imp fun c hc l ho=>ho.frF hf fun d hd e=>q3 c hc (e ▸ hd),fun p hp=>?_,fun x hx c hc=>?_,h.a3,h.n0,h.n1,h.n2,h.a4,fun o ho=>⟨?_,(h.ob o ho).2.1,(h.ob o ho).2.2.1,(h.ob o ho).2.2.2.1,(h.ob o ho).2.2.2.2.1,(h.ob o ho).2.2.2.2.2.1,fun p hp=>?_⟩⟩
 ·obtain⟨q,hq,e⟩:=hmap p hp
  rw[← e]
  exact h.a1 q hq
 ·refine⟨by simpa using (h.a2 x hx c hc).1,(h.a2 x hx c hc).2.1,fun p hp=>?_⟩
  obtain⟨q,hq,e⟩:=hmap p hp
  rw[← e]
  exact(h.a2 x hx c hc).2.2 q hq
 ·rw[hf.2.1 _ (h.olt ho) fun e=>(h.ob o ho).2.2.2.2.2.2 _ hmem e.symm]
  exact(h.ob o ho).1
 ·obtain⟨q,hq,e⟩:=hmap p hp
  rw[← e]
  exact(h.ob o ho).2.2.2.2.2.2 q hq
theorem V.dr {k:List (Nat × List Value)}(h:V wB u l R O ns t T cs N)(n:Nat)(hk:l.drop n=k:=by exact rfl):V wB u k R O ns t T cs N:=by
 refine⟨h.m.dr n hk,h.r,h.ow,h.tv,h.nv,fun p hp=>h.a1 p ?_,fun x hx b hb=>⟨(h.a2 x hx b hb).1,(h.a2 x hx b hb).2.1,fun p hp=>(h.a2 x hx b hb).2.2 p ?_⟩,h.a3,h.n0,h.n1,h.n2,h.a4,fun o ho=>⟨(h.ob o ho).1,(h.ob o ho).2.1,(h.ob o ho).2.2.1,(h.ob o ho).2.2.2.1,(h.ob o ho).2.2.2.2.1,(h.ob o ho).2.2.2.2.2.1,fun p hp=>(h.ob o ho).2.2.2.2.2.2 p ?_⟩⟩ <;>
  (subst hk; exact List.mem_of_mem_drop hp)
theorem V.dR {Q:List (Sl × List Int)}(h:V wB u l R O ns t T cs N)(hq:∀ x∈Q,x∈R):V wB u l Q O ns t T cs N :=
 ⟨h.m,fun x hx=>h.r x (hq x hx),h.ow,h.tv,h.nv,h.a1,fun x hx=>h.a2 x (hq x hx),h.a3,h.n0,h.n1,h.n2,h.a4,fun o ho=>⟨(h.ob o ho).1,(h.ob o ho).2.1,(h.ob o ho).2.2.1,(h.ob o ho).2.2.2.1,(h.ob o ho).2.2.2.2.1,fun x hx=>(h.ob o ho).2.2.2.2.2.1 x (hq x hx),(h.ob o ho).2.2.2.2.2.2⟩⟩
theorem V.dO {Q:List (Nat × Obj)}(h:V wB u l R O ns t T cs N)(hq:∀ x∈Q,x∈O):V wB u l R Q ns t T cs N :=
 ⟨h.m,h.r,h.ow,h.tv,h.nv,h.a1,h.a2,h.a3,h.n0,h.n1,h.n2,h.a4,fun o ho=>h.ob o (hq o ho)⟩
theorem V.add {s:Sl}{x:List Int}(h:V wB u l R O ns t T cs N)(hs:Mk u 1 (ie .i64 id) u' s x):V wB u' l ((s,x) :: R) O ns t T cs N:=by
 have h':=h.fr hs.fr0
 refine⟨h'.m,fun y hy=>?_,h'.ow,h'.tv,h'.nv,h.a1,fun y hy b hb=>?_,h.a3,h.n0,h.n1,h.n2,h.a4,fun o ho=>⟨(h'.ob o ho).1,(h.ob o ho).2.1,(h.ob o ho).2.2.1,(h.ob o ho).2.2.2.1,(h.ob o ho).2.2.2.2.1,fun y hy=>?_,(h.ob o ho).2.2.2.2.2.2⟩⟩
 ·rcases Je.1 hy with rfl | hy
  ·exact hs.vw
  ·exact h'.r y hy
 ·rcases Je.1 hy with rfl | hy
  ·have hn:=hs.nw b hb
   refine⟨hs.ow.lt hb,fun hc=>?_,fun p hp e=>?_⟩
   ·have:=h.ow.lt hc; omega
   ·have:=(h.m.2.1 p hp).lt; omega
  ·exact h'.a2 y hy b hb
 ·rcases Je.1 hy with rfl | hy
  ·intro hb
   have:=hs.nw _ hb
   have:=h.olt ho
   omega
  ·exact(h.ob o ho).2.2.2.2.2.1 y hy
theorem V.push {c:NdC}{n:Nd}{bytes:Nat}{zero:List Value}{e e':Nat}{K:SW}(h:V wB u l R O ns t T cs N)(hn:NdOk u c n)(hnil:∀ b,¬inB c.nx b)(hz:zero.length=4)(hb:(cs.length+1)*bytes<=2^47)(hm:cs.length+1<2^63)
  (hK:∀ r u',V wB u' l R O r t T (cs++[c]) (N++[n])->K r u'):apS 4 bytes zero e ns ⟨some ⟨u.heap.size,0,none⟩,1,1⟩ (u.alloc (Obj.cells (encN c).toArray e')) K:=by
 have hf:Fr F0 u (u.alloc (Obj.cells (encN c).toArray e')):=Fr.alloc
 have h':=h.fr hf
 refine h'.ow.app (m:=[c]) (Vw.new rfl rfl) qbn hz hb hm fun r u2 ho hf2 hi=>hK r u2 ?_
 have hin:∀ b,inB r b->inB ns b\/u.heap.size<=b:=fun b hb=>(hi b hb).imp_right fun h=>JX hf.1 h
 have hmem:∀ d∈cs++[c],d∈cs\/d=c:=fun d hd=>by
  rcases Jj.1 hd with h | h
  ·exact .inl h
  ·exact .inr (J8.1 h)
 refine⟨h'.m.frF hf2 (fun p hp=>(h.a1 p hp).1) h.n0,fun x hx=>(h'.r x hx).frF hf2 fun b hb=>(h.a2 x hx b hb).2.1,ho,h'.tv.frF hf2 fun b hb hc=>(h.a3 b hc).1 hb,?_,fun p hp=>⟨fun hc=>?_,(h.a1 p hp).2.1,fun d hd=>?_⟩,fun x hx b hb=>⟨Q1 (h'.a2 x hx b hb).1 hf2.1,fun hc=>?_,(h.a2 x hx b hb).2.2⟩,fun b hc=>⟨fun hb=>?_,fun d hd hb=>?_⟩,fun b hb=>?_,h.n1,fun d hd b hb=>?_,fun d hd b hb=>?_,fun o ho=>⟨?_,(h.ob o ho).2.1,fun hc=>?_,(h.ob o ho).2.2.2.1,fun d hd=>?_,(h.ob o ho).2.2.2.2.2⟩⟩
 ·exact(h'.nv.imp fun d hd l ho=>ho.frF hf2 fun b hb hc=>(h.a3 b hc).2 d hd hb).append ⟨⟨hn.lot,hn.num,hn.den,(hn.nx.fr hf).frF hf2 fun b hb=>absurd hb (hnil b),hn.i1,hn.i2,hn.ln,hn.i0⟩,trivial⟩
 ·rcases hin _ hc with hc | hc
  ·exact(h.a1 p hp).1 hc
  ·have:=(h.m.2.1 p hp).lt; omega
 ·rcases hmem d hd with hd | rfl
  ·exact(h.a1 p hp).2.2 d hd
  ·exact hnil _
 ·rcases hin _ hc with hc | hc
  ·exact(h.a2 x hx b hb).2.1 hc
  ·have:=(h.a2 x hx b hb).1; omega
 ·rcases hin _ hc with hc | hc
  ·exact(h.a3 b hc).1 hb
  ·have:=h.tv.lt hb; omega
 ·rcases hmem d hd with hd | rfl
  ·rcases hin _ hc with hc | hc
   ·exact(h.a3 b hc).2 d hd hb
   ·have:=h.nxlt hd hb; omega
  ·exact hnil _ hb
 ·rcases hin _ hb with hb | hb
  ·exact h.n0 b hb
  ·exact JX h.m.1.1 hb
 ·rcases hmem d hd with hd | rfl
  ·exact h.n2 d hd b hb
  ·exact absurd hb (hnil b)
 ·rcases hmem d hd with hd | rfl
  ·exact h.a4 d hd b hb
  ·exact absurd hb (hnil b)
 ·rw[hf2.2.1 _ (h'.olt ho) (h.ob o ho).2.2.1]
  exact(h'.ob o ho).1
 ·rcases hin _ hc with hc | hc
  ·exact(h.ob o ho).2.2.1 hc
  ·have:=h.olt ho; omega
 ·rcases hmem d hd with hd | rfl
  ·exact(h.ob o ho).2.2.2.2.1 d hd
  ·exact hnil _
theorem V.newO {o:Obj}(h:V wB u l R O ns t T cs N):V wB (u.alloc o) l R ((u.heap.size,o) :: O) ns t T cs N:=by
 have hf:Fr F0 u (u.alloc o):=Fr.alloc
 have h':=h.fr hf
 refine⟨h'.m,h'.r,h'.ow,h'.tv,h'.nv,h'.a1,h'.a2,h'.a3,h'.n0,h'.n1,h'.n2,h'.a4,fun q hq=>?_⟩
 rcases Je.1 hq with rfl | hq
 ·refine⟨World.alloc_heap_new _ _,h.m.1.1,fun hb=>?_,fun hb=>?_,fun c hc hb=>?_,fun x hx hb=>?_,fun p hp e=>?_⟩
  ·have:=h.ow.lt hb; simp at this
  ·have:=h.tv.lt hb; simp at this
  ·have:=h.nxlt hc hb; simp at this
  ·have:=(h.a2 x hx _ hb).1; simp at this
  ·have:=(h.m.2.1 p hp).lt
   simp only at e
   omega
 ·exact h'.ob q hq
theorem V.put {b:Nat}{o o':Obj}(h:V wB u l R ((b,o) :: O) ns t T cs N)(hn:∀ q∈O,q.1≠b):V wB (u.putObj b o') l R ((b,o') :: O) ns t T cs N:=by
 have hf:Fr (fun c=>c=b) u (u.putObj b o'):=⟨by simp,fun c _ hn=>World.putObj_heap_other fun he=>hn he,rfl,rfl,rfl⟩
 obtain⟨q0,q1,q2,q3,q4,q5,q6⟩:=h.ob _ (J3 ..)
 have hlt:=h.olt (J3 ..)
 refine⟨h.m.frF hf (fun p hp e=>q6 p hp e) fun c hc=>hc ▸ q1,fun x hx=>(h.r x hx).frF hf fun c hc e=>q5 x hx (e ▸ hc),h.ow.frF hf fun c hc e=>q2 (e ▸ hc),h.tv.frF hf fun c hc e=>q3 (e ▸ hc),h.nv.imp fun c hc l ho=>ho.frF hf fun d hd e=>q4 c hc (e ▸ hd),h.a1,fun x hx c hc=>⟨by simpa using (h.a2 x hx c hc).1,(h.a2 x hx c hc).2⟩,h.a3,h.n0,h.n1,h.n2,h.a4,fun q hq=>?_⟩
 rcases Je.1 hq with rfl | hq
 ·exact⟨World.putObj_heap_same hlt,q1,q2,q3,q4,q5,q6⟩
 ·have hq':=h.ob q (J4 _ hq)
  refine⟨?_,hq'.2⟩
  rw[hf.2.1 _ (h.olt (J4 _ hq)) (hn q hq)]
  exact hq'.1
end
open Go Pw
section
variable {wB u u':World}{l:List (Nat × List Value)}{R:List (Sl × List Int)}{O:List (Nat × Obj)}{ns t:Sl}{T:List Int}{cs:List NdC}{N:List Nd}
theorem q4t (cs:List NdC)(i k:Nat)(c d:NdC)(v:Value)(hi:cs[i]?=some c)(hk:k<4)(hd:encN d=(encN c).set k v):(cs.flatMap encN).set (i*4+k) v=(cs.set i d).flatMap encN:=by
 induction cs generalizing i with
 | nil=>simp at hi
 | cons x cs ih =>
  cases i with
  | zero =>
   simp only[List.getElem?_cons_zero,Option.some.injEq] at hi
   subst hi
   simp only[Q3,Q0,JK,J0,hd]
   rw[JH,if_pos (by simpa using hk)]
  | succ i =>
   simp only[JK,J2]
   rw[JH,if_neg (by simp; omega)]
   have:=ih i hi
   rw[← this]
   congr 2
   simp only[q0p]
   omega
theorem V.nodeAt (h:V wB u l R O ns t T cs N){i:Nat}{c:NdC}(hi:cs[i]?=some c):∃ b,ns.p=some ⟨b,0,none⟩/\∀ k,k<4->wrOk u ⟨b,i*4+k,none⟩/\∀ v d,encN d=(encN c).set k v->Ow 4 encN (u.setCell ⟨b,i*4+k,none⟩ v) ns (cs.set i d):=by
 have hlt:i<cs.length:=(J6.1 hi).1
 obtain⟨hl,hown⟩:=h.ow
 obtain⟨hol,hnil | ⟨b,vs,hp,hrow,hcs,hle,ht⟩⟩:=hown
 ·omega
 ·refine⟨b,hp,fun k hk=>?_⟩
  rw[q0d q0p] at hol ht
  have hbd:i*4+k<vs.length:=by omega
  refine⟨hrow.wr hbd,fun v d hd=>⟨by simp[hl],?_,.inr ⟨b,_,hp,hrow.set (i*4+k) v,by simpa using hcs,hle,?_⟩⟩⟩
  ·rw[q0d q0p]; simp[hl]
  ·rw[q0d q0p,JQ,List.take_set,ht,q4t cs i k c d v hi hk hd]
theorem V.setNd (h:V wB u l R O ns t T cs N){i k b:Nat}{c d:NdC}{n m:Nd}{v:Value}(hi:cs[i]?=some c)(hn:N[i]?=some n)(hp:ns.p=some ⟨b,0,none⟩)(hk:k<4)(hd:encN d=(encN c).set k v)
  (hm:d.lot=m.lot/\d.num=m.num/\d.den=m.den/\m.next=n.next) (hx:d.nx=c.nx) (hi1:I64 m.num) (hi2:I64 m.den) (h0:n.lot=m.lot) :
  V wB (u.setCell ⟨b,i*4+k,none⟩ v) l R O ns t T (cs.set i d) (N.set i m):=by
 obtain⟨b',hp',hq⟩:=h.nodeAt hi
 rw[hp] at hp'
 cases hp'
 have hf:Fr (fun c=>c=b) u (u.setCell ⟨b,i*4+k,none⟩ v):=Fr.set rfl
 have hb:inB ns b:=⟨_,hp,rfl⟩
 have hcm:=Jt hi
 have hmem:∀ e∈cs.set i d,∃ f∈cs,e.nx=f.nx:=fun e he=>by
  rcases Jp he with he | rfl
  ·exact⟨e,he,rfl⟩
  ·exact⟨c,hcm,hx⟩
 refine⟨h.m.frF hf (fun p hp e=>(h.a1 p hp).1 (e ▸ hb)) fun c hc=>hc ▸ h.n0 b hb,fun x hx=>(h.r x hx).frF hf fun c hc e=>(h.a2 x hx c hc).2.1 (e ▸ hb),(hq k hk).2 v d hd,h.tv.frF hf fun c hc e=>(h.a3 b hb).1 (e ▸ hc),?_,fun p hp=>⟨(h.a1 p hp).1,(h.a1 p hp).2.1,fun e he hc=>?_⟩,fun x hx c hc=>⟨by simpa using (h.a2 x hx c hc).1,(h.a2 x hx c hc).2⟩,fun c hc=>⟨(h.a3 c hc).1,fun e he hc'=>?_⟩,h.n0,h.n1,fun e he b hb=>?_,fun e he b hb=>?_,fun o ho=>⟨?_,(h.ob o ho).2.1,(h.ob o ho).2.2.1,(h.ob o ho).2.2.2.1,fun e he hc=>?_,(h.ob o ho).2.2.2.2.2⟩⟩
 ·have hno:=h.nv.at hi hn
  have h':=h.nv.imp (w':=u.setCell ⟨b,i*4+k,none⟩ v) fun e he l ho=>ho.frF hf fun c hc e'=>(h.a3 b hb).2 e he (e' ▸ hc)
  refine h'.set ⟨hm.1,hm.2.1,hm.2.2.1,?_,hi1,hi2,by rw[hm.2.2.2]; exact hno.ln,h0 ▸ hno.i0⟩
  rw[hx,hm.2.2.2]
  exact(h'.at hi hn).nx
 ·obtain⟨f,hf',e'⟩:=hmem e he
  rw[e'] at hc
  exact(h.a1 p hp).2.2 f hf' hc
 ·obtain⟨f,hf',e'⟩:=hmem e he
  rw[e'] at hc'
  exact(h.a3 c hc).2 f hf' hc'
 ·obtain⟨f,hf',e'⟩:=hmem e he
  rw[e'] at hb
  exact h.n2 f hf' b hb
 ·obtain⟨f,hf',e'⟩:=hmem e he
  rw[e'] at hb
  exact h.a4 f hf' b hb
 ·rw[hf.2.1 _ (h.olt ho) fun e=>(h.ob o ho).2.2.1 (e ▸ hb)]
  exact(h.ob o ho).1
 ·obtain⟨f,hf',e'⟩:=hmem e he
  rw[e'] at hc
  exact(h.ob o ho).2.2.2.2.1 f hf' hc
theorem V.giveNx {x:List Int}{nb:Nat}(h:V wB u ((nb,x.map fun n=>Value.int .i64 n) :: l) R O ns t T cs N){i b:Nat}{c:NdC}{n:Nd}(hi:cs[i]?=some c)(hn:N[i]?=some n)(hp:ns.p=some ⟨b,0,none⟩)(hxl:x.length<2^40) :
  V wB (u.setCell ⟨b,i*4+3,none⟩ (.slice (some ⟨nb,0,none⟩) x.length x.length)) l R O ns t T (cs.set i ⟨c.lot,c.num,c.den,⟨some ⟨nb,0,none⟩,x.length,x.length⟩⟩) (N.set i ⟨n.lot,n.num,n.den,x⟩):=by
 obtain⟨b',hp',hq⟩:=h.nodeAt hi
 rw[hp] at hp'
 cases hp'
 have hrow:Row u nb (x.map fun n=>Value.int .i64 n):=h.m.row 0
 have hf:Fr (fun c=>c=b) u (u.setCell ⟨b,i*4+3,none⟩ (.slice (some ⟨nb,0,none⟩) x.length x.length)):=Fr.set rfl
 have hb:inB ns b:=⟨_,hp,rfl⟩
 have hnb:nb≠b:=fun e=>(h.a1 _ (J3 ..)).1 (e ▸ hb)
 have hcm:=Jt hi
 obtain⟨z1,z2,z3⟩:=h.a1 _ (J3 ..)
 have hpw:=h.m.2.2.1
 simp only[JT,List.pairwise_cons] at hpw
 have hmem:∀ e∈cs.set i ⟨c.lot,c.num,c.den,⟨some ⟨nb,0,none⟩,x.length,x.length⟩⟩,e∈cs\/e.nx=⟨some ⟨nb,0,none⟩,x.length,x.length⟩:=fun e he=>by
  rcases Jp he with he | rfl
  ·exact .inl he
  ·exact .inr rfl
 have hin:∀ {d:Nat} {e:NdC},e.nx=⟨some ⟨nb,0,none⟩,x.length,x.length⟩->inB e.nx d->d=nb:=by
  rintro d e he ⟨a,ha,rfl⟩
  rw[he] at ha
  cases ha
  rfl
 have h1:=h.dr (k:=l) 1 rfl
 refine⟨h1.m.frF hf (fun p hp e=>(h1.a1 p hp).1 (e ▸ hb)) fun c hc=>hc ▸ h.n0 b hb,fun x hx=>(h.r x hx).frF hf fun c hc e=>(h.a2 x hx c hc).2.1 (e ▸ hb),(hq 3 (by decide)).2 _ _ rfl,h.tv.frF hf fun c hc e=>(h.a3 b hb).1 (e ▸ hc),?_,fun p hp=>⟨(h1.a1 p hp).1,(h1.a1 p hp).2.1,fun e he hc=>?_⟩,fun x hx c hc=>⟨by simpa using (h.a2 x hx c hc).1,(h1.a2 x hx c hc).2⟩,fun c hc=>⟨(h.a3 c hc).1,fun e he hc'=>?_⟩,h.n0,h.n1,fun e he b hb=>?_,fun e he d hd=>?_,fun o ho=>⟨?_,(h.ob o ho).2.1,(h.ob o ho).2.2.1,(h.ob o ho).2.2.2.1,fun e he hc=>?_,(h.ob o ho).2.2.2.2.2.1,(h1.ob o ho).2.2.2.2.2.2⟩⟩
 ·have hno:=h.nv.at hi hn
  have h':=h.nv.imp (w':=u.setCell ⟨b,i*4+3,none⟩ (.slice (some ⟨nb,0,none⟩) x.length x.length)) fun e he l ho=>ho.frF hf fun c hc e'=>(h.a3 b hb).2 e he (e' ▸ hc)
  exact h'.set ⟨hno.lot,hno.num,hno.den,Ow.row (hf.row hrow hnb),hno.i1,hno.i2,hxl,hno.i0⟩
 ·rcases hmem e he with he | he
  ·exact(h1.a1 p hp).2.2 e he hc
  ·have:=hin he hc
   have:=hpw.1 _ (Jw hp)
   omega
 ·rcases hmem e he with he | he
  ·exact(h.a3 c hc).2 e he hc'
  ·exact z1 (hin he hc' ▸ hc)
 ·rcases hmem e he with he | he
  ·exact h.n2 e he b hb
  ·rw[hin he hb]
   exact h.m.2.2.2 _ (J3 ..)
 ·rcases hmem e he with he | he
  ·exact h.a4 e he d hd
  ·rw[hin he hd]
   exact z2
 ·rw[hf.2.1 _ (h.olt ho) fun e=>(h.ob o ho).2.2.1 (e ▸ hb)]
  exact(h.ob o ho).1
 ·rcases hmem e he with he | he
  ·exact(h.ob o ho).2.2.2.2.1 e he hc
  ·exact(h.ob o ho).2.2.2.2.2.2 _ (J3 ..) (hin he hc).symm
theorem V.newT {s:Sl}{x:List Int}(h:V wB u l R O ns t T cs N)(hs:Mk u 1 (ie .i64 id) u' s x):V wB u' l R O ns s x cs N:=by
 have h':=h.fr hs.fr0
 refine⟨h'.m,h'.r,h'.ow,hs.ow,h'.nv,fun p hp=>⟨(h.a1 p hp).1,fun hb=>?_,(h.a1 p hp).2.2⟩,h'.a2,fun b hb=>⟨fun hc=>?_,(h.a3 b hb).2⟩,h.n0,fun b hb=>JX h.m.1.1 (hs.nw b hb),h.n2,fun c hc b hb hb'=>?_,fun o ho=>⟨(h'.ob o ho).1,(h.ob o ho).2.1,(h.ob o ho).2.2.1,fun hb=>?_,(h.ob o ho).2.2.2.2⟩⟩
 ·have:=hs.nw _ hb
  have:=(h.m.2.1 p hp).lt
  omega
 ·have:=hs.nw _ hc
  have:=h.ow.lt hb
  omega
 ·have:=hs.nw _ hb'
  have:=h.nxlt hc hb
  omega
 ·have:=hs.nw _ hb
  have:=h.olt ho
  omega
theorem V.make {k:Nat}{e:Nat}{K:SW}(h:V wB u l R O ns t T cs N)(hk:k<2^40)
  (hK:∀ u',V wB u' ((u.heap.size,(J7 k (0:Int)).map fun n=>Value.int .i64 n) :: l) R O ns t T cs N->K ⟨some ⟨u.heap.size,0,none⟩,k,k⟩ u'):mkS 8 [.int .i64 0] e k k u K:=by
 refine⟨by omega,JV _,by omega,by omega,?_⟩
 have e1:rowZ [Value.int .i64 0] (k*1)=(J7 k (0:Int)).map fun n=>Value.int .i64 n:=by
  apply List.ext_getElem
  ·simp[rowZ]
  ·intro i h1 h2
   simp[rowZ,Nat.mod_one]
 have:=hK (u.alloc (Obj.cells (rowZ [Value.int .i64 0] (k*1)).toArray e)) (by rw[e1]; exact h.allocL)
 simpa [q8c] using this
end
open Go Pw
section
variable {wB u u' w w':World}{l:List (Nat × List Value)}{R:List (Sl × List Int)}{O:List (Nat × Obj)}{ns t s:Sl}{T:List Int}{cs:List NdC}{N:List Nd}
theorem V.sub {k:List (Nat × List Value)}(h:V wB u l R O ns t T cs N)(n:Nat)(hk:l.drop n=k:=by exact rfl):Rs u k:=h.m.sub n hk
theorem V.row {b:Nat}{vs:List Value}(h:V wB u l R O ns t T cs N)(j:Nat)(hj:l[j]?=some (b,vs):=by exact rfl):Row u b vs:=h.m.row j hj
theorem V.setN {b:Nat}:∀ (vs:List Value) (i j:Nat) (u:World) (l:List (Nat × List Value)) (xs:List Value) (K:World->Prop),V wB u l R O ns t T cs N->l[j]?=some (b,xs)->i+vs.length<=xs.length ->
  (∀ u',V wB u' (l.set j (b,xs.take i++vs++xs.drop (i+vs.length))) R O ns t T cs N->K u')->stN.go ⟨b,0,none⟩ K vs i u
 | [],i,j,u,l,xs,K,m,hj,_,hK=>by
  refine hK u ?_
  have e:xs.take i++[]++xs.drop (i+([]:List Value).length)=xs:=by simp
  rw[e,q7y hj]
  exact m
 | v :: vs,i,j,u,l,xs,K,m,hj,hi,hK=>by
  simp only[Jq] at hi
  unfold stN.go
  have hl:j<l.length:=(J6.1 hj).1
  simp only[q1q,Q0]
  refine⟨m.wr j hj (by simp[Nat.blt_eq]; omega),?_⟩
  refine V.setN vs (i+1) j _ (l.set j (b,xs.set i v)) (xs.set i v) K (m.set j hj) (by simp[hl]) (by simp; omega) fun u' m'=>hK u' ?_
  have e:(xs.set i v).take (i+1)++vs++(xs.set i v).drop (i+1+vs.length)=xs.take i++v :: vs++xs.drop (i+(v :: vs).length):=by
   apply JJ
   intro k
   have h3:min (i+1) xs.length=i+1:=by omega
   have h4:min i xs.length=i:=by omega
   simp only[Jo,Jd,Jk,JQ,Jq,h3,h4,Jl,Jr,List.getElem?_set]
   by_cases h1:k<i
   ·rw[if_pos (by omega),if_pos (by omega),if_pos (by omega),if_neg (by omega),if_pos (by omega),if_pos (by omega),if_pos h1]
   ·by_cases h2:k=i
    ·subst h2
     rw[if_pos (by omega),if_pos (by omega),if_pos (by omega),if_pos rfl,if_pos (by omega),if_pos (by omega),if_neg (by omega)]
     simp
    ·by_cases h5:k<i+1+vs.length
     ·rw[if_pos (by omega),if_neg (by omega),if_pos (by omega),if_neg (by omega)]
      have:k-i=(k-(i+1))+1:=by omega
      rw[this,JB]
     ·rw[if_neg (by omega),if_neg (by omega),if_neg (by omega)]
      congr 1
      omega
  rw[JI,e] at m'
  exact m'
theorem qdy {b:Nat}{xs vs:List Value}{K:World->Prop}(m:V wB u l R O ns t T cs N)(j:Nat)(hj:l[j]?=some (b,xs))(hl:xs.length=vs.length)(hK:∀ u',V wB u' (l.set j (b,vs)) R O ns t T cs N->K u'):stN u ⟨b,0,none⟩ vs K:=by
 refine V.setN vs 0 j u l xs K m hj (by omega) fun u' m'=>hK u' ?_
 have e:xs.take 0++vs++xs.drop (0+vs.length)=vs:=by simp[← hl]
 rw[e] at m'
 exact m'
structure Ix (l:List (Nat × List Value))(jr jp jv sb spb vb fid:Nat)(row:List Value):Prop where
 r:l[jr]?=some (sb,row)
 p:l[jp]?=some (spb,[.pointer (some ⟨sb,0,none⟩)])
 v:l[jv]?=some (vb,[fnv fid [spb,vb]])
 np:jr≠jp
 nv:jr≠jv
theorem Ix.set {jr jp jv sb spb vb fid:Nat}{row:List Value}(h:Ix l jr jp jv sb spb vb fid row)(row':List Value):Ix (l.set jr (sb,row')) jr jp jv sb spb vb fid row':=by
 have hl:jr<l.length:=(J6.1 h.r).1
 exact⟨by simp[hl],by rw[Ju h.np]; exact h.p,by rw[Ju h.nv]; exact h.v,h.np,h.nv⟩
theorem Ix.front {jr jp jv sb spb vb fid:Nat}{row:List Value}(h:Ix l jr jp jv sb spb vb fid row)(f:List (Nat × List Value)):Ix (f++l) (jr+f.length) (jp+f.length) (jv+f.length) sb spb vb fid row:=by
 have key:∀ j,(f++l)[j+f.length]?=l[j]?:=fun j=>by rw[Jn (by omega),Q2]
 exact⟨by rw[key]; exact h.r,by rw[key]; exact h.p,by rw[key]; exact h.v,by have:=h.np; omega,by have:=h.nv; omega⟩
theorem qcu {x y:Nat}{K:Int->Int->World->Prop}(hx:x<18446744073709551616)(hy:y<18446744073709551616)
  (hK:K ((x*y / 18446744073709551616:Nat):Int) ((x*y % 18446744073709551616:Nat):Int) w):z4i_sh x y K w:=⟨qa1 hx hy hK⟩
theorem q5z {k n:Nat}{v:Int}{l:List Int}(hl:l.length=k)(hn:n<=k)(ht:l.take n=J7 n v){c:Nat}(hc:c=min n (k-n)) :
  (l.take n++(J7 n v).take (k-n)++l.drop (n+c)).take (n+c)=J7 (n+c) v/\(l.take n++(J7 n v).take (k-n)++l.drop (n+c)).length=k:=by
 have e1:(J7 n v).take (k-n)=J7 c v:=by rw[List.take_replicate,hc,JZ]
 rw[e1,ht]
 have e2:(J7 n v++J7 c v)=J7 (n+c) v:=by rw[List.replicate_append_replicate]
 rw[e2]
 refine⟨?_,by simp; omega⟩
 rw[List.take_append_of_le_length (by simp),Ja (by simp)]
theorem qdz {v:Int}{k:Nat}{K:Sl->World->Prop}(h:VI w s [v])(hk0:1<=k)(hk:k<2^20)(hK:∀ s' w',Mk w 1 (ie .i64 id) w' s' (J7 k v)->K s' w'):z3e_sh s k K w:=by
 have hlen:=h.len
 simp only[Jc] at hlen
 refine⟨?_⟩
 refine q00.2 ?_
 refine⟨fun h=>by omega,fun _=>⟨inRu (by omega) (by omega),inRu (by omega) (by omega),?_⟩⟩
 refine qcu (by omega) (by omega) ?_
 rw[hlen,Q6,Nat.div_eq_of_lt (by omega),Nat.mod_eq_of_lt (by omega)]
 refine q00.2<|⟨fun h=>by simp at h,fun _=>q00.2 ?_⟩
 refine⟨fun h=>by omega,fun _=>⟨q01,Mk.make (z:=(0:Int)) (enc:=ie .i64 id) (n:=1) Fr.refl rfl rfl (by omega) (by omega) (by omega) fun r w1 hm hf1=>?_⟩⟩
 simp only[JU] at hm
 have hrl:=hm.len
 simp only[JG] at hrl
 have hcap:=hm.vw.cap
 refine Mk.cp (off:=0) hm (h.fr hf1) (by omega) ?_ (by simp[hrl]) fun w2 hm2 hf2=>?_
 ·unfold subP
  split
  ·rfl
  ·cases r.p with
   | none=>rfl
   | some a=>simp[Addr.add]
 simp only[Jc,JG,Q8,Q0,List.take_zero,Jh] at hm2 ⊢
 rw[JY hk0] at hm2 ⊢
 have ht1:([v].take k:List Int)=[v]:=Ja (by simpa using hk0)
 rw[ht1] at hm2
 refine⟨⟨fun n w'=>∃ (n':Nat) (l:List Int),n=n'/\1<=n'/\n'<=k/\Mk w 1 (ie .i64 id) w' r l/\l.length=k/\l.take n'=J7 n' v,fun n _=>k-n.toNat,⟨1,_,rfl,JW _,hk0,hm2,by simp; omega,by simp⟩,?_⟩⟩
 rintro n w3 ⟨n,l,rfl,h1,h2,hm3,hll,htk⟩
 unfold z3e_b1
 refine q00.2<|⟨fun hlt=>?_,fun hge=>?_⟩
 ·have hlt:n<k:=by omega
  intro w4
  have hm4:Mk w 1 (ie .i64 id) w4 r l:=hm3.fr Fr.drew
  refine⟨fun _=>True,trivial,⟨by omega,by omega⟩,⟨by omega,by omega,by omega⟩,?_⟩
  have hsrc:VI w4 (Sl.mk (subP r.p 0 r.c 1) ((n:Int).toNat-0) (r.c-0)) (l.take n):=Vw.take hm4.vw (fun a=>q05 _ _ a) (by omega)
  have hob:=q5z hll h2 htk (c:=min n (k-n)) rfl
  refine Mk.cp (off:=n) hm4 hsrc (by omega) rfl (by simp only[JU]; omega) fun w5 hm5 _=>?_
  have e3:(l.take n).length=n:=by rw[Jk]; omega
  rw[e3,hll] at hm5 ⊢
  rw[htk] at hm5
  rw[htk] at hob
  exact⟨q01,⟨⟨rfl,trivial⟩,n+min n (k-n),_,by omega,by omega,by omega,hm5,hob.2,hob.1⟩,by dsimp only; omega⟩
 ·have:n=k:=by omega
  subst this
  rw[Ja (by omega)] at htk
  rw[htk] at hm3
  exact hK r w3 hm3
end
open Go Pw
abbrev frL (bb nxb nb ob db fb r2b r1b tkb:Nat)(o:Sl)(nx:List Int)(D F:List Value)(b2:Bool)(a1:Int)(take:Sl):List (Nat × List Value) :=
 [(bb,[.slice o.p o.l o.c]),(nxb,[.slice (some ⟨nb,0,none⟩) nx.length nx.length]),(nb,nx.map fun n=>Value.int .i64 n),(ob,[.slice o.p o.l o.c]),(db,D),(fb,F),(r2b,[.bool b2]),(r1b,[.int .i64 a1]),(tkb,[.slice take.p take.l take.c])]
def q98 (wB:World)(s0 s1 s2:Sl)(p:Pr)(ls:List Int):Prop :=
 ∀ {w:World} {l:List (Nat × List Value)} {R:List (Sl × List Int)} {O:List (Nat × Obj)} {ns t take:Sl} {T f ds:List Int} {cs:List NdC} {N:List Nd} {left:Int} {jr jp jv sb spb vb:Nat} {K:Int->Bool->World->Prop},
  p.lots=ds++ls->f.length=ds.length->V wB w l R O ns t T cs N->Ix l jr jp jv sb spb vb (idOf z0u_ok) (schC t 0 0 ns s0 s1 s2 p.most p.budget left)->(take,f)∈R->Decs p p.lots f->Perm p T->0<=left->left+N.length<=1048576 ->
  (∀ w' n ok left' ns' t' T' cs' N',V wB w' (l.set jr (sb,schC t' 0 0 ns' s0 s1 s2 p.most p.budget left')) R O ns' t' T' cs' N'->VP (upB p) p f ls left T N left' T' N' n ok->K n ok w') ->
  z0u_sh take ⟨spb,0,none⟩ ⟨vb,0,none⟩ K w
theorem qe0 {l:Nat}{vs:List Value}{w:World}{K:VW}(h:Yl Tryz.prog l vs.toArray w K):q2b Tryz.prog (.func (.yield l) #[] #[]) vs w K:=by
 unfold q2b
 simpa using h
structure Rd (p:Pr)(f ls os:List Int)(left0:Int)(T0:List Int)(N0:List Nd)(i:Nat)(left:Int)(T:List Int)(N:List Nd)(nx:List Int):Prop where
 len:nx.length=os.length
 kd:kids (Tree (upB p) p T N ls) f (os.drop i) (nx.drop i) (N0.length+1) N.length
 perm:Perm p T
 bt:T=T0\/Bt p T T0
 pre:N0++[⟨f.length,0,1,[]⟩] <+: N
 lf:left+N.length=left0+N0.length
 l0:0<=left
 up:N.length<=N0.length+1+(os.length-i)*q2g p ls
section
variable {wB w:World}{l:List (Nat × List Value)}{R:List (Sl × List Int)}{O:List (Nat × Obj)}{ns t take o s0 s1 s2:Sl}{p:Pr}{T f ds ls os nx T0:List Int}{cs:List NdC}{N N0:List Nd}{left left0:Int}{jr jp jv sb spb vb:Nat}
 {bb nxb nb ob db fb r2b r1b tkb lb dq fn i:Nat} {D F:List Value} {tmps:Array Value} {g h2:Value} {nn:Int} {lot:Int}
theorem qi7 {b2:Bool}{a1:Int}:(frL bb nxb nb ob db fb r2b r1b tkb o nx D F b2 a1 take).length=9:=rfl
theorem qg9 {K':VW}(hp:q03 p)(hIH:q98 wB s0 s1 s2 p ls)(hlots:p.lots=ds++lot :: ls)(hfl:f.length=ds.length)(hos:os=opts p lot)(hd:Decs p p.lots f)
  (hv:V wB w (frL bb nxb nb ob db fb r2b r1b tkb o nx D F false 0 take++l.set jr (sb,schC t 0 0 ns s0 s1 s2 p.most p.budget left)) ((o,os) :: R) ((lb,lrec fn tmps z0u_ps1 z0u_as1 z0u_bd1 dq .ready none) :: (dq,.deferred (some [])) :: O) ns t T cs N)
  (hix:∃ row,Ix l jr jp jv sb spb vb (idOf z0u_ok) row) (htk:(take,f)∈R) (hO:∀ q∈(dq,Obj.deferred (some [])) :: O,q.1≠lb)
  (hag:agrT 139 [(1,(Value.pointer (some ⟨spb,0,none⟩))),(2,(Value.pointer (some ⟨vb,0,none⟩))),(3,(Value.pointer (some ⟨tkb,0,none⟩))),(4,(Value.pointer (some ⟨r1b,0,none⟩))),(5,(Value.pointer (some ⟨r2b,0,none⟩))),(6,(Value.int .i64 nn)),(10,(Value.pointer (some ⟨ob,0,none⟩))),(11,(Value.pointer (some ⟨nxb,0,none⟩))),(107,g)] tmps)
  (hi:i<os.length) (hol:os.length<2^40) (hr:Rd p f ls os left0 T0 N0 (i+1) left T N nx) (hmax:left0+N0.length<=1048576)
  (hK:∀ w' ns' t' T' cs' N' left' nx',V wB w' (frL bb nxb nb ob db fb r2b r1b tkb o nx' D F false 0 take++l.set jr (sb,schC t' 0 0 ns' s0 s1 s2 p.most p.budget left')) ((o,os) :: R) ((lb,lrec fn tmps z0u_ps1 z0u_as1 z0u_bd1 dq .ready none) :: (dq,.deferred (some [])) :: O) ns' t' T' cs' N' ->
   Rd p f ls os left0 T0 N0 i left' T' N' nx'->K' (.bool true) w')
  (hF:∀ w' ns' t' T' cs' N' left' nx',V wB w' (frL bb nxb nb ob db fb r2b r1b tkb o nx' D F false 0 take++l.set jr (sb,schC t' 0 0 ns' s0 s1 s2 p.most p.budget left')) ((o,os) :: R) ((lb,lrec fn tmps z0u_ps1 z0u_as1 z0u_bd1 dq .done (some .ret)) :: (dq,.deferred (some [])) :: O) ns' t' T' cs' N' ->
   Perm p T'->(T'=T0\/Bt p T' T0)->N0 <+: N'->-1<=left'->left0<q2g p (lot :: ls)->K' (.bool false) w') :
  Yl Tryz.prog lb #[.int .i64 i,h2] w K':=by
 obtain⟨row,ix0⟩:=hix
 refine z0u_y1 (fun _ _=>True) ⟨spb,0,none⟩ ⟨vb,0,none⟩ ⟨tkb,0,none⟩ ⟨r1b,0,none⟩ ⟨r2b,0,none⟩ nn ⟨ob,0,none⟩ ⟨nxb,0,none⟩ g i h2 hag (hv.ob _ (J3 ..)).1 ⟨?_⟩
 unfold z0u_r1d
 refine⟨(hv.ob _ (J3 ..)).1,?_⟩
 have v:=(hv.put (o':=lrec fn tmps z0u_ps1 z0u_as1 z0u_bd1 dq .busy none) hO).drew
 dsimp -zeta only
 intro w1
 have v:V wB w1 _ _ _ _ _ _ _ _:=v
 have ix1:=(ix0.set (schC t 0 0 ns s0 s1 s2 p.most p.budget left)).front (frL bb nxb nb ob db fb r2b r1b tkb o nx D F false 0 take)
 rw[qi7] at ix1
 -- what the round's loads lean on
 let S:World->Prop:=fun u=>Row u vb [fnv (idOf z0u_ok) [spb,vb]]/\Row u tkb [.slice take.p take.l take.c]/\Row u ob [.slice o.p o.l o.c]/\VI u o os
 have hS:∀ {u l' ns' t' T' cs' N' R' O'},V wB u (frL bb nxb nb ob db fb r2b r1b tkb o nx D F false 0 take++l') R' O' ns' t' T' cs' N'->(o,os)∈R'->Ix l' jr jp jv sb spb vb (idOf z0u_ok) (schC t' 0 0 ns' s0 s1 s2 p.most p.budget left)\/(∃ row,Ix l' jr jp jv sb spb vb (idOf z0u_ok) row)->S u:=by
  intro u l' ns' t' T' cs' N' R' O' vv hm hx
  obtain⟨row,hx⟩:∃ row,Ix l' jr jp jv sb spb vb (idOf z0u_ok) row:=by
   rcases hx with hx | hx
   ·exact⟨_,hx⟩
   ·exact hx
  have hx:=hx.front (frL bb nxb nb ob db fb r2b r1b tkb o nx D F false 0 take)
  exact⟨vv.row _ hx.v,vv.row 8,vv.row 3,vv.r _ hm⟩
 have hxs:∀ row',∃ row,Ix (l.set jr (sb,row')) jr jp jv sb spb vb (idOf z0u_ok) row:=fun row'=>⟨_,ix0.set row'⟩
 have hom:(o,os)∈(o,os) :: R:=J3 ..
 have hfi:f.length<2^40:=by have:=q1h hp hd; omega
 have hfr:VI w1 take f:=v.r _ (J4 _ htk)
 -- the visit itself
 have call:∀ {u:World} {s:Sl},Mk w1 1 (ie .i64 id) u s (f++[os[i]])->q2b Tryz.prog (fnv (idOf z0u_ok) [spb,vb]) [(Value.slice s.p s.l s.c)] u fun (u138:Value) (w139:World)=>∃ x140:Int,∃ x141:Bool,u138=(Value.tuple #[(Value.int .i64 x140),(Value.bool x141)])/\S w139/\z0u_k2 ⟨r1b,0,none⟩ ⟨r2b,0,none⟩ ⟨nxb,0,none⟩ i x140 x141
   (rN lb fn tmps z0u_ps1 z0u_as1 z0u_bd1 dq K') (rR lb fn tmps z0u_ps1 z0u_as1 z0u_bd1 dq K') (fun _ _ _=>True) w139:=by
  intro u s hs
  have va:=v.add hs
  have hd':Decs p p.lots (f++[os[i]]):=by
   refine(q57 (by rw[hlots]; simp; omega)).2 fun j lot' n' h1 h2=>?_
   rcases Nat.lt_or_ge j f.length with hj | hj
   ·rw[List.getElem?_append_left hj] at h2
    exact(q57 (q1n hd)).1 hd j lot' n' h1 h2
   ·rw[Jn hj] at h2
    have hj0:j-f.length=0:=by
     have:=(J6.1 h2).1
     simp at this
     omega
    rw[hj0] at h2
    simp at h2
    have hje:j=ds.length:=by omega
    rw[hlots,hje,Jn (JW _)] at h1
    simp at h1
    rw[← h1,← h2]
    exact q3k.1 (hos ▸ Jb hi)
  have hlf:=hr.lf
  refine q18 z0u_ok (hIH (ds:=ds++[lot]) (by rw[hlots]; simp) (by simp[hfl]) va ix1 (J3 ..) hd' hr.perm hr.l0 (by omega) fun w2 n ok left' ns' t' T' cs' N' v2 hvp=>⟨n,ok,rfl,?_⟩)
  have v2:=v2.dR (Q:=(o,os) :: R) fun x hx=>J4 _ hx
  have e2:(frL bb nxb nb ob db fb r2b r1b tkb o nx D F false 0 take++l.set jr (sb,schC t 0 0 ns s0 s1 s2 p.most p.budget left)).set (jr+9) (sb,schC t' 0 0 ns' s0 s1 s2 p.most p.budget left')=frL bb nxb nb ob db fb r2b r1b tkb o nx D F false 0 take++l.set jr (sb,schC t' 0 0 ns' s0 s1 s2 p.most p.budget left'):=by
   simp only[Jf,Jh,J2,JI]
  rw[e2] at v2
  refine⟨hS v2 hom (.inr (hxs _)),⟨?_⟩⟩
  unfold z0u_k2d
  refine q02.2<|⟨fun hno=>?_,fun hyes=>?_⟩
  ·have hok:ok=false:=by simpa using hno
   have hlt:=hvp.no hok
   refine⟨v2.wr 7,?_⟩
   intro w3
   have v3:V wB w3 _ _ _ _ _ _ _ _:=v2.set 7
   refine⟨v3.wr 6,?_⟩
   intro w4
   have v4:V wB w4 _ _ _ _ _ _ _ _:=v3.set 6
   refine⟨(v4.ob _ (J3 ..)).1,?_⟩
   have v5:=v4.put (o':=lrec fn tmps z0u_ps1 z0u_as1 z0u_bd1 dq .done (some .ret)) hO
   have hpre:=hr.pre
   have hup:=hr.up
   refine hF _ ns' t' T' cs' N' left' nx v5 hvp.perm (qex hr.bt hvp.bt) (((Jm _ _).trans hpre).trans hvp.pre) hvp.lo ?_
   unfold q2g
   rw[← hos]
   have hsub:os.length-(i+1)+1<=os.length:=by omega
   have:=Nat.mul_le_mul_right (q2g p ls) hsub
   rw[Q7,Q6] at this
   omega
  ·have hok:ok=true:=by simpa using hyes
   obtain⟨hn,htree,hcnt,hl0,hup'⟩:=hvp.yes hok
   have hnl:=hr.len
   refine⟨⟨some ⟨nb,0,none⟩,nx.length,nx.length⟩,v2.ld 1,q0b.2 ⟨_,rfl,⟨by omega,by simp only; omega⟩,?_⟩⟩
   simp -zeta only[q1q,JU,Q5,Q0]
   refine⟨v2.wr 2 rfl (by simp[Nat.blt_eq]; omega),?_⟩
   intro w3
   have v3:V wB w3 _ _ _ _ _ _ _ _:=v2.set (i:=i) (v:=.int .i64 n) 2 rfl
   have e3:(nx.map fun n=>Value.int .i64 n).set i (.int .i64 n)=(nx.set i n).map fun n=>Value.int .i64 n:=by rw[List.map_set]
   have v3:V wB w3 (frL bb nxb nb ob db fb r2b r1b tkb o (nx.set i n) D F false 0 take++l.set jr (sb,schC t' 0 0 ns' s0 s1 s2 p.most p.budget left')) ((o,os) :: R) ((lb,lrec fn tmps z0u_ps1 z0u_as1 z0u_bd1 dq .busy none) :: (dq,.deferred (some [])) :: O) ns' t' T' cs' N':=by
    simpa [frL] using v3
   refine⟨(v3.ob _ (J3 ..)).1,hK _ ns' t' T' cs' N' left' (nx.set i n) (v3.put (o':=lrec fn tmps z0u_ps1 z0u_as1 z0u_bd1 dq .ready none) hO) ?_⟩
   refine⟨by simp[hnl],?_,hvp.perm,qex hr.bt hvp.bt,hr.pre.trans hvp.pre,by omega,hl0,?_⟩
   ·have e4:os.drop i=os[i] :: os.drop (i+1):=Jy hi
    have e5:(nx.set i n).drop i=n :: nx.drop (i+1):=by
     rw[Jy (by simp; omega)]
     rw[List.getElem_set_self,List.drop_set,if_pos (by omega)]
    rw[e4,e5,hn]
    exact qhx hvp.bt hvp.pre hr.kd htree
   ·have hup:=hr.up
    have hsub:os.length-i=os.length-(i+1)+1:=by omega
    rw[hsub,Q7,Q6]
    omega
 have ho:VI w1 o os:=v.r _ hom
 refine⟨S,hS v hom (.inr (hxs _)),_,fun u hu=>hu.1.at,take,fun u hu=>hu.2.1.at,o,fun u hu=>hu.2.2.1.at,?_⟩
 have hlo:=ho.len
 obtain⟨ad,hp0,_⟩:=ho.at (fun a=>q05 _ _ a) (J1 hi) (by decide)
 refine q0b.2 ⟨ad,hp0,⟨by omega,by omega⟩,os[i],fun u hu=>?_,?_,?_⟩
 ·obtain⟨ad',hp',hc⟩:=hu.2.2.2.at (fun a=>q05 _ _ a) (J1 hi) (by decide)
  rw[hp0] at hp'
  cases hp'
  exact hc 0 _ rfl
 ·refine q78 hfr hfi fun s2' w2 hm=>⟨hS (v.fr hm.fr0) hom (.inr (hxs _)),?_⟩
  intro w3
  have hf3:Fr F0 w2 w3:=Fr.alloc
  refine⟨hS ((v.fr hm.fr0).fr hf3) hom (.inr (hxs _)),Mk.push hm (a:=os[i]) rfl rfl (q1y _ _) rfl (by omega) (by omega) fun r w4 hm4 _=>⟨hS (v.fr hm4.fr0) hom (.inr (hxs _)),call hm4⟩⟩
 ·intro w2
  have hf2:Fr F0 w1 w2:=Fr.alloc
  have hx:VI w2 ⟨some ⟨w1.heap.size,0,none⟩,1,1⟩ [os[i]]:=Vw.new rfl rfl
  refine⟨hS (v.fr hf2) hom (.inr (hxs _)),q78 (hfr.fr hf2) hfi fun s2' w3 hm=>⟨hS ((v.fr hf2).fr hm.fr0) hom (.inr (hxs _)),?_⟩⟩
  have hm':Mk w1 1 (ie .i64 id) w3 s2' f:=⟨hf2.t hm.fr0,hm.ow,fun b hb=>JX hf2.1 (hm.nw b hb)⟩
  exact hm'.app (hx.fr hm.fr0) (q1y _ _) rfl (by simp; omega) (by simp; omega) fun r w4 hm4 _=>⟨hS (v.fr hm4.fr0) hom (.inr (hxs _)),call hm4⟩
end
open Go Pw
section
variable {wB w:World}{l:List (Nat × List Value)}{R:List (Sl × List Int)}{O:List (Nat × Obj)}{ns t take o s0 s1 s2:Sl}{p:Pr}{T f ds ls os nx T0:List Int}{cs:List NdC}{N N0:List Nd}{left left0:Int}{jr jp jv sb spb vb:Nat}
 {bb nxb nb ob db fb r2b r1b tkb:Nat} {D F:List Value} {lot:Int} {K:Int->Bool->World->Prop}
theorem q9t (N0:List Nd)(x y:Nd)(r:List Nd):(N0++x :: r).set N0.length y=N0++y :: r:=by
 rw[JH,if_neg (by omega),Nat.sub_self,J0]
theorem qk1 (hp:q03 p)(hIH:q98 wB s0 s1 s2 p ls)(hlots:p.lots=ds++lot :: ls)(hfl:f.length=ds.length)(hos:os=opts p lot)(hd:Decs p p.lots f)
  (hv:V wB w (frL bb nxb nb ob db fb r2b r1b tkb o nx D F false 0 take++l.set jr (sb,schC t 0 0 ns s0 s1 s2 p.most p.budget left)) ((o,os) :: R) O ns t T cs N)
  (hix:∃ row,Ix l jr jp jv sb spb vb (idOf z0u_ok) row) (htk:(take,f)∈R)
  (hol:os.length<2^40) (hr:Rd p f ls os left0 T0 N0 os.length left T N nx) (hmax:left0+N0.length<=1048576) (hl00:0<=left0)
  (hK:∀ w' n ok left' ns' t' T' cs' N',V wB w' (l.set jr (sb,schC t' 0 0 ns' s0 s1 s2 p.most p.budget left')) R O ns' t' T' cs' N'->VP (upB p) p f (lot :: ls) left0 T0 N0 left' T' N' n ok->K n ok w') :
  z0u_f1 ⟨spb,0,none⟩ ⟨vb,0,none⟩ ⟨tkb,0,none⟩ ⟨r1b,0,none⟩ ⟨r2b,0,none⟩ (N0.length:Int) ⟨ob,0,none⟩ ⟨nxb,0,none⟩ (fnv (idOf z2a_ok) [bb]) K w:=by
 refine⟨?_⟩
 unfold z0u_f1d
 refine⟨⟨_,_,_,rfl⟩,fun fn tmps hag=>?_⟩
 have v1:=hv.newO (o:=.deferred (some []))
 have hsz:(w.alloc (.deferred (some []))).heap.size=w.heap.size+1:=by simp
 have v2:=v1.newO (o:=lrec fn tmps z0u_ps1 z0u_as1 z0u_bd1 w.heap.size .ready none)
 rw[hsz] at v2
 have hO:∀ q∈(w.heap.size,Obj.deferred (some [])) :: O,q.1≠w.heap.size+1:=by
  intro q hq
  have:=v1.olt hq
  rw[hsz] at this
  omega
 have hO2:∀ q∈O,q.1≠w.heap.size:=fun q hq=>by have:=hv.olt hq; omega
 clear v1 hv
 generalize (w.alloc (.deferred (some []))).alloc (lrec fn tmps z0u_ps1 z0u_as1 z0u_bd1 w.heap.size .ready none)=w2 at v2 ⊢
 generalize w.heap.size=dq at *
 refine q18 z2a_ok (show z2a_sh (.func (.yield (dq+1)) #[] #[]) ⟨bb,0,none⟩ _ w2 from⟨?_⟩)
 have hoi:VI w2 o os:=v2.r _ (J3 ..)
 have hlo:=hoi.len
 refine⟨o,v2.ld 0,q01,⟨⟨fun i w'=>∃ (i':Nat) (ns t:Sl) (T:List Int) (cs:List NdC) (N:List Nd) (left:Int) (nx:List Int),i=(i':Int)-1/\i'<=os.length /\
   V wB w' (frL bb nxb nb ob db fb r2b r1b tkb o nx D F false 0 take++l.set jr (sb,schC t 0 0 ns s0 s1 s2 p.most p.budget left)) ((o,os) :: R) ((dq+1,lrec fn tmps z0u_ps1 z0u_as1 z0u_bd1 dq .ready none) :: (dq,.deferred (some [])) :: O) ns t T cs N /\
   Rd p f ls os left0 T0 N0 i' left T N nx,fun i _=>(i+1).toNat,⟨os.length,ns,t,T,cs,N,left,nx,by omega,JW _,v2,hr⟩,?_⟩⟩⟩
 clear v2 hr
 rintro i w3 ⟨i,ns,t,T,cs,N,left,nx,rfl,hi,v,hr⟩
 have hxs:∀ row',∃ row,Ix (l.set jr (sb,row')) jr jp jv sb spb vb (idOf z0u_ok) row:=fun row'=>by
  obtain⟨row,hx⟩:=hix
  exact⟨_,hx.set row'⟩
 unfold z2a_b0
 refine q00.2<|⟨fun hge=>?_,fun hlt=>?_⟩
 ·obtain⟨j,rfl⟩:∃ j,i=j+1:=⟨i-1,by omega⟩
  have hj:j<os.length:=by omega
  have hoj:VI w3 o os:=v.r _ (J3 ..)
  refine⟨o,v.ld 0,VI.ld hoj j (by omega) hj ?_⟩
  have ej:((j+1:Nat):Int)-1=(j:Int):=by omega
  rw[ej]
  refine qe0 (qg9 hp hIH hlots hfl hos hd v hix htk hO hag hj hol hr hmax (fun w' ns' t' T' cs' N' left' nx' v' hr'=>⟨true,rfl,?_⟩) fun w' ns' t' T' cs' N' left' nx' v' hpm hbt hpre hlo' hno=>⟨false,rfl,?_⟩)
  ·rw[Bool.not_true,q0h]
   exact⟨q01,⟨⟨rfl,rfl,trivial⟩,j,ns',t',T',cs',N',left',nx',rfl,by omega,v',hr'⟩,by dsimp only; omega⟩
  ·rw[Bool.not_false,q17]
   refine .inr ⟨(v'.ob _ (J3 ..)).1,?_⟩
   have v4:=v'.put (o':=lrec fn tmps z0u_ps1 z0u_as1 z0u_bd1 dq .exhausted (some .ret)) hO
   have v4:=v4.dO (Q:=(dq,.deferred (some [])) :: O) fun q hq=>J4 _ hq
   dsimp -zeta only
   refine⟨(v4.ob _ (J3 ..)).1,?_⟩
   intro w5
   have v5:V wB w5 _ _ _ _ _ _ _ _:=v4.put (o':=.deferred none) hO2
   refine⟨_,v5.ld 7,_,v5.ld 6,hK w5 0 false left' ns' t' T' cs' N' (((v5.dO fun q hq=>J4 _ hq).dR fun q hq=>J4 _ hq).dr 9) ⟨hpm,hbt,hpre,hlo',fun h=>(by cases h),fun _=>hno⟩⟩
 ·have hi0:i=0:=by omega
  subst hi0
  refine .inl ⟨(v.ob _ (J3 ..)).1,?_⟩
  have v4:=v.put (o':=lrec fn tmps z0u_ps1 z0u_as1 z0u_bd1 dq .exhausted none) hO
  have v4:=(v4.dO (Q:=(dq,.deferred (some [])) :: O) fun q hq=>J4 _ hq).drew
  have v4:=v4.dR (Q:=R) fun q hq=>J4 _ hq
  dsimp -zeta only
  intro w5
  have v5:V wB w5 _ _ _ _ _ _ _ _:=v4
  obtain⟨row0,hx0⟩:=hix
  have ix:=(hx0.set (schC t 0 0 ns s0 s1 s2 p.most p.budget left)).front (frL bb nxb nb ob db fb r2b r1b tkb o nx D F false 0 take)
  rw[qi7] at ix
  have hcl:=v5.nv.len
  obtain⟨r,hNr⟩:=hr.pre
  have hNr:N=N0++⟨f.length,0,1,[]⟩ :: r:=by rw[← hNr]; simp
  have hNlen:N0.length<N.length:=by rw[hNr]; simp
  have hcat:cs[N0.length]?=some (cs[N0.length]'(by omega)):=J1 _
  have hNat:N[N0.length]?=some ⟨f.length,0,1,[]⟩:=by rw[hNr]; simp
  have v6:=v5.dr 2 (k:=(nb,nx.map fun n=>Value.int .i64 n) :: ([(ob,[.slice o.p o.l o.c]),(db,D),(fb,F),(r2b,[.bool false]),(r1b,[.int .i64 0]),(tkb,[.slice take.p take.l take.c])]++l.set jr (sb,schC t 0 0 ns s0 s1 s2 p.most p.budget left))) rfl
  obtain⟨nsb,hnp,hnq⟩:=v5.nodeAt hcat
  have hnl:=v5.ow.len
  refine⟨fun u=>Rs u _,v5.sub 0,_,fun _ h=>h.ld (jp+9) ix.p rfl,q0b.2 ⟨_,rfl,⟨ns,fun _ h=>h.ld (jr+9) ix.r rfl,⟨some ⟨nb,0,none⟩,nx.length,nx.length⟩,fun _ h=>h.ld 1,q0b.2 ⟨_,hnp,⟨by omega,by omega⟩,?_⟩⟩⟩⟩
  have hadr:((⟨nsb,0,none⟩:Addr).add ((N0.length:Int).toNat*4)).add 3=⟨nsb,N0.length*4+3,none⟩:=by simp
  rw[hadr]
  refine⟨(hnq 3 (by decide)).1,?_⟩
  intro w6
  have v7:V wB w6 _ _ _ _ _ _ _ _:=v6.giveNx hcat hNat hnp (by have:=hr.len; omega)
  refine⟨v7.wr 4,?_⟩
  intro w7
  have v8:V wB w7 _ _ _ _ _ _ _ _:=v7.set 4
  refine⟨v8.wr 3,?_⟩
  intro w8
  have v9:V wB w8 _ _ _ _ _ _ _ _:=v8.set 3
  refine⟨(v9.ob _ (J3 ..)).1,?_⟩
  intro w9
  have v10:V wB w9 _ _ _ _ _ _ _ _:=v9.put (o':=.deferred none) hO2
  have hset:N.set N0.length ⟨f.length,0,1,nx⟩=N0++⟨f.length,0,1,nx⟩ :: r:=by rw[hNr]; exact q9t N0 _ _ r
  have hlen':(N.set N0.length ⟨f.length,0,1,nx⟩).length=N.length:=by simp
  refine⟨_,v10.ld 4,_,v10.ld 3,hK w9 _ true left ns t T _ _ ((v10.dO fun q hq=>J4 _ hq).dr 6) ⟨hr.perm,hr.bt,?_,by have:=hr.l0; omega,fun _=>⟨rfl,?_,?_,hr.l0,?_⟩,fun h=>by cases h⟩⟩
  ·rw[hset]; exact Jm _ _
  ·have hkd:=hr.kd
   rw[JS,JS] at hkd
   have:(N.set N0.length ⟨f.length,0,1,nx⟩).length=N.length:=hlen'
   refine qg2 (x:=⟨f.length,0,1,nx⟩) (ks:=nx) ?_ rfl rfl ?_
   ·rw[List.getElem?_set_self hNlen]
   ·rw[hlen',← hos]
    exact qac (.inl rfl) (fun i h1 _=>Ju (by omega)) hkd
  ·rw[hlen']; exact hr.lf
  ·rw[hlen']
   have:=hr.up
   rw[Q8] at this
   unfold q2g
   rw[← hos]
   omega
end
open Go Pw
section
variable {wB u w:World}{l:List (Nat × List Value)}{R:List (Sl × List Int)}{O:List (Nat × Obj)}{ns t take s0 s1 s2:Sl}{p:Pr}{T f ds:List Int}{cs:List NdC}{N:List Nd}{left:Int}{jr jp jv sb spb vb fid:Nat}{row row':List Value}
theorem q58 (p:Pr)(lot:Int):(opts p lot).length<=p.ch.length+1:=by
 have:∀ (l:List Ch) (i:Nat),(q0j lot i l).length<=l.length:=by
  intro l
  induction l with
  | nil=>intro i; simp[q0j]
  | cons c l ih =>
   intro i
   unfold q0j
   have:=ih (i+1)
   split<;>simp<;>omega
 have:=this p.ch 0
 simp only[opts,Jq]
 omega
theorem V.setSb {front:List (Nat × List Value)}{i:Nat}{v:Value}(h:V wB u (front++l) R O ns t T cs N)(ix:Ix l jr jp jv sb spb vb fid row)(hrow:row.set i v=row') :
  V wB (u.setCell ⟨sb,i,none⟩ v) (front++l.set jr (sb,row')) R O ns t T cs N:=by
 have:=h.set (i:=i) (v:=v) _ (ix.front front).r
 rw[hrow,List.set_append_right _ _ (by omega),Q2] at this
 exact this
theorem V.setDual {x y:Int}(h:V wB u l R O ns t T (cs++[⟨x,0,1,⟨none,0,0⟩⟩]) (N++[⟨y,0,1,[]⟩]))(hx:x=y)(hcn:cs.length=N.length) :
  ∃ b,ns.p=some ⟨b,0,none⟩/\wrOk u ⟨b,cs.length*4+1,none⟩/\∀ a,I64 a->wrOk (u.setCell ⟨b,cs.length*4+1,none⟩ (.int .i64 a)) ⟨b,cs.length*4+2,none⟩ /\
   ∀ d,I64 d->V wB ((u.setCell ⟨b,cs.length*4+1,none⟩ (.int .i64 a)).setCell ⟨b,cs.length*4+2,none⟩ (.int .i64 d)) l R O ns t T (cs++[⟨x,a,d,⟨none,0,0⟩⟩]) (N++[⟨y,a,d,[]⟩]):=by
 subst hx
 obtain⟨b,hp,hq⟩:=h.nodeAt (i:=cs.length) (c:=⟨x,0,1,⟨none,0,0⟩⟩) (by simp)
 refine⟨b,hp,(hq 1 (by decide)).1,fun a ha=>?_⟩
 have h1:=h.setNd (i:=cs.length) (k:=1) (c:=⟨x,0,1,⟨none,0,0⟩⟩) (d:=⟨x,a,1,⟨none,0,0⟩⟩) (n:=⟨x,0,1,[]⟩) (m:=⟨x,a,1,[]⟩) (v:=.int .i64 a) (by simp) (by rw[hcn]; simp) hp (by decide) rfl ⟨rfl,rfl,rfl,rfl⟩ rfl ha (show I64 1 from⟨by decide,by decide⟩) rfl
 have e1:(cs++[(⟨x,0,1,⟨none,0,0⟩⟩:NdC)]).set cs.length ⟨x,a,1,⟨none,0,0⟩⟩=cs++[⟨x,a,1,⟨none,0,0⟩⟩]:=by simp
 have e2:(N++[(⟨x,0,1,[]⟩:Nd)]).set cs.length ⟨x,a,1,[]⟩=N++[⟨x,a,1,[]⟩]:=by rw[hcn]; simp
 rw[e1,e2] at h1
 obtain⟨b',hp',hq'⟩:=h1.nodeAt (i:=cs.length) (c:=⟨x,a,1,⟨none,0,0⟩⟩) (by simp)
 rw[hp] at hp'
 cases hp'
 refine⟨(hq' 2 (by decide)).1,fun d hd=>?_⟩
 have h2:=h1.setNd (i:=cs.length) (k:=2) (c:=⟨x,a,1,⟨none,0,0⟩⟩) (d:=⟨x,a,d,⟨none,0,0⟩⟩) (n:=⟨x,a,1,[]⟩) (m:=⟨x,a,d,[]⟩) (v:=.int .i64 d) (by simp) (by rw[hcn]; simp) hp (by decide) rfl ⟨rfl,rfl,rfl,rfl⟩ rfl ha hd rfl
 have e3:(cs++[(⟨x,a,1,⟨none,0,0⟩⟩:NdC)]).set cs.length ⟨x,a,d,⟨none,0,0⟩⟩=cs++[⟨x,a,d,⟨none,0,0⟩⟩]:=by simp
 have e4:(N++[(⟨x,a,1,[]⟩:Nd)]).set cs.length ⟨x,a,d,[]⟩=N++[⟨x,a,d,[]⟩]:=by rw[hcn]; simp
 rw[e3,e4] at h2
 exact h2
theorem qf6 {a b e:Nat × List Value}{r1 r2:Nat}{x:Bool}{y n:Int}{K:Int->Bool->World->Prop}(m:V wB w (a :: b :: (r2,[.bool x]) :: (r1,[.int .i64 y]) :: e :: l) R O ns t T cs N)
  (hK:∀ w',V wB w' l R O ns t T cs N->K n true w'):z0u_k0 ⟨r1,0,none⟩ ⟨r2,0,none⟩ n K w:=by
 refine⟨?_⟩
 unfold z0u_k0d
 refine⟨m.wr 3,?_⟩
 intro w1
 have m:V wB w1 _ _ _ _ _ _ _ _:=m.set 3
 refine⟨m.wr 2,?_⟩
 intro w2
 have m:V wB w2 _ _ _ _ _ _ _ _:=m.set 2
 exact⟨_,m.ld 3,_,m.ld 2,hK w2 (m.dr 5)⟩
theorem qag (hp:q03 p)(hPV:PV wB s0 s1 s2 p)(ls:List Int)(hIH:∀ lot ls',ls=lot :: ls'->q98 wB s0 s1 s2 p ls'):q98 wB s0 s1 s2 p ls:=by
 intro w l R O ns t take T f ds cs N left jr jp jv sb spb vb K hlots hfl m ix htk hd hperm h0 hmax hK
 refine⟨?_⟩
 unfold z0u_sd
 have ix0:=ix
 have hl12:=q1h hp hd
 have hfew:=hp.few
 have hchs:=hp.chs
 have e0:=hPV.lots.len
 have etk:take.l=f.length:=(m.r _ htk).len
 have hnl:=m.ow.len
 have hcn:=m.nv.len
 have hnsN:ns.l=N.length:=by omega
 have hPF:∀ {u l' R' cs' N' ns' t' T'},V wB u l' R' O ns' t' T' cs' N'->(take,f)∈R'->PF u s0 s1 s2 take p f:=fun h hm=>⟨hPV.fr h.m.1,h.r _ hm,by omega⟩
 have hPF:∀ {u l' cs' N' ns' t' T'},V wB u l' R O ns' t' T' cs' N'->PF u s0 s1 s2 take p f:=fun h=>hPF h htk
 have hPT:∀ {u l' R' cs' N' ns' t' T'},V wB u l' R' O ns' t' T' cs' N'->Perm p T'->PF u s0 s1 s2 t' p T':=fun h hm=>⟨hPV.fr h.m.1,h.tv.vw,by have:=hm.1; omega⟩
 intro w1; have m:V wB w1 _ _ _ _ _ _ _ _:=m.allocL
 intro w2; have m:V wB w2 _ _ _ _ _ _ _ _:=m.allocL
 intro w3; have m:V wB w3 _ _ _ _ _ _ _ _:=m.allocL
 refine⟨_,m.ld (jp+3) ix.p rfl,q0b.2 ⟨_,rfl,⟨_,m.ld (jr+3) ix.r rfl,⟨q01,q0b.2 ⟨_,rfl,⟨m.wr (jr+3) ix.r rfl,?_⟩⟩⟩⟩⟩⟩
 intro w8
 have m:V wB w8 _ _ _ _ _ _ _ _:=V.setSb (front:=[_,_,_]) m ix (i:=9) (v:=.int .i64 (left-1)) (row':=schC t 0 0 ns s0 s1 s2 p.most p.budget (left-1)) rfl
 have ix:=ix.set (schC t 0 0 ns s0 s1 s2 p.most p.budget (left-1))
 generalize he1:l.set jr (sb,schC t 0 0 ns s0 s1 s2 p.most p.budget (left-1))=l1 at m ix
 refine⟨_,m.ld (jp+3) ix.p rfl,q0b.2 ⟨_,rfl,⟨_,m.ld (jr+3) ix.r rfl,q00.2 ⟨fun hc1=>?_,fun hc1=>?_⟩⟩⟩⟩
 ·refine⟨m.wr 1,?_⟩
  intro w12; have m:V wB w12 _ _ _ _ _ _ _ _:=m.set 1
  refine⟨m.wr 0,?_⟩
  intro w13; have m:V wB w13 _ _ _ _ _ _ _ _:=m.set 0
  exact⟨_,m.ld 1,⟨_,m.ld 0,hK _ 0 false (left-1) ns t T cs N (by rw[he1]; exact m.dr 3) ⟨hperm,.inl rfl,JD _,by omega,fun h=>(by cases h),fun _=>by have:=q3r p ls; omega⟩⟩⟩
 ·refine⟨_,m.ld (jp+3) ix.p rfl,q0b.2 ⟨_,rfl,⟨_,m.ld (jr+3) ix.r rfl,?_⟩⟩⟩
  intro w19; have m:V wB w19 _ _ _ _ _ _ _ _:=m.drew
  refine⟨fun u=>Rs u _,m.sub 0,⟨_,fun _ h=>h.ld (jp+3) ix.p rfl,⟨_,fun _ h=>h.ld (jp+3) ix.p rfl,q0b.2 ⟨_,rfl,⟨_,fun _ h=>h.ld (jr+3) ix.r rfl,⟨_,fun _ h=>h.ld 2,?_⟩⟩⟩⟩⟩⟩
  refine q0l fun w26 hf=>?_; have m:=m.fr hf
  refine⟨m.sub 0,?_⟩
  intro w28; have mw28:V wB w28 _ _ _ _ _ _ _ _:=m.allocL
  refine⟨mw28.sub 1,m.push (c:=⟨(take.l:Int),0,1,⟨none,0,0⟩⟩) (n:=⟨f.length,0,1,[]⟩) ⟨by simp[etk],rfl,rfl,⟨rfl,by simpa using OwnV.nil⟩,show I64 0 from⟨by decide,by decide⟩,show I64 1 from⟨by decide,by decide⟩,by simp,show I64 (f.length:Int) from⟨by omega,by have h1:=q1n hd; have h2:=hp.few; omega⟩⟩ (fun b hb=>by obtain⟨a,ha,_⟩:=hb; cases ha) rfl (by omega) (by omega) fun s29 w30 m=>⟨m.sub 0,q0b.2 ⟨_,rfl,⟨m.wr (jr+3) ix.r rfl,?_⟩⟩⟩⟩
  intro w32
  have m:V wB w32 _ _ _ _ _ _ _ _:=V.setSb (front:=[_,_,_]) m ix (i:=3) (v:=.slice s29.p s29.l s29.c) (row':=schC t 0 0 s29 s0 s1 s2 p.most p.budget (left-1)) rfl
  have ix:=ix.set (schC t 0 0 s29 s0 s1 s2 p.most p.budget (left-1))
  have he:l.set jr (sb,schC t 0 0 s29 s0 s1 s2 p.most p.budget (left-1))=l1.set jr (sb,schC t 0 0 s29 s0 s1 s2 p.most p.budget (left-1)):=by rw[← he1,JI]
  generalize l1.set jr (sb,schC t 0 0 s29 s0 s1 s2 p.most p.budget (left-1))=l2 at m ix he
  intro w33; have m:V wB w33 _ _ _ _ _ _ _ _:=m.drew
  refine⟨fun u=>Rs u _,m.sub 0,⟨_,fun _ h=>h.ld (jp+3) ix.p rfl,q0b.2 ⟨_,rfl,⟨_,fun _ h=>h.ld (jr+3) ix.r rfl,⟨_,fun _ h=>h.ld (jr+3) ix.r rfl,⟨_,fun _ h=>h.ld (jr+3) ix.r rfl,⟨_,fun _ h=>h.ld (jr+3) ix.r rfl,⟨_,fun _ h=>h.ld (jr+3) ix.r rfl,⟨_,fun _ h=>h.ld 2,?_⟩⟩⟩⟩⟩⟩⟩⟩⟩
  intro w43; have m:V wB w43 _ _ _ _ _ _ _ _:=m.allocL
  refine⟨m.sub 1,?_⟩
  refine qdy m 0 rfl rfl fun w44 m=>?_
  refine⟨_,m.ld (jp+4) ix.p rfl,⟨_,m.ld 0,⟨_,m.ld 0,⟨_,m.ld 0,⟨_,m.ld 0,⟨_,m.ld 0,⟨_,m.ld 0,?_⟩⟩⟩⟩⟩⟩⟩
  refine qbm hp (hPF m) hd (m.row (jr+4) ix.r) (hPT m hperm) hperm fun w52 a b ok hf hab hcl hno=>?_; have m:=m.fr hf
  intro w55; have m:V wB w55 _ _ _ _ _ _ _ _:=m.allocL; clear_value w55
  refine⟨m.wr 0,?_⟩
  intro w56; have m:V wB w56 _ _ _ _ _ _ _ _:=m.set 0; clear_value w56
  refine⟨m.wr 0,?_⟩
  intro w57; have m:V wB w57 _ _ _ _ _ _ _ _:=m.set 0; clear_value w57; simp only[J0,J2] at m
  refine q02.2 ⟨fun hc2=>?_,fun hc2=>?_⟩
  ·intro w58; have m:V wB w58 _ _ _ _ _ _ _ _:=m.drew; clear_value w58
   refine⟨fun u=>Rs u _,m.sub 0,⟨_,fun _ h=>h.ld (jp+5) ix.p rfl,q0b.2 ⟨_,rfl,⟨_,fun _ h=>h.ld (jr+5) ix.r rfl,⟨_,fun _ h=>h.ld 0,⟨_,fun _ h=>h.ld 0,?_⟩⟩⟩⟩⟩⟩
   obtain⟨nsb,hnp,hw1,hq⟩:=m.setDual (by simp[etk]) hcn
   have hadr:∀ k,((⟨nsb,0,none⟩:Addr).add ((ns.l:Int).toNat*4)).add k=⟨nsb,cs.length*4+k,none⟩:=fun k=>by simp[hnl]
   have hsl:=m.ow.len
   simp only[Jd,Jc] at hsl
   refine q0b.2 ⟨_,hnp,⟨by omega,by omega⟩,?_⟩
   simp -zeta only[hadr]
   refine⟨hw1,?_⟩
   intro w66
   refine⟨(hq a hab.1).1,?_⟩
   intro w67
   have m:V wB w67 _ _ _ _ _ _ _ _:=(hq a hab.1).2 b hab.2
   refine⟨m.wr 3,?_⟩
   intro w68; have m:V wB w68 _ _ _ _ _ _ _ _:=m.set 3
   refine⟨m.wr 2,?_⟩
   intro w69; have m:V wB w69 _ _ _ _ _ _ _ _:=m.set 2
   exact⟨_,m.ld 3,⟨_,m.ld 2,hK _ _ true (left-1) s29 t T _ (N++[⟨f.length,a,b,[]⟩]) (by rw[he]; exact m.dr 5) ⟨hperm,.inl rfl,Jm _ _,by omega,fun _=>⟨by omega,by rw[Jd,Jc]; exact q8r (x:=⟨f.length,a,b,[]⟩) (by simp) rfl (hcl hc2),by simp; omega,by omega,by have:=q3r p ls; simp; omega⟩,fun h=>by cases h⟩⟩⟩
  ·intro w72; have m:V wB w72 _ _ _ _ _ _ _ _:=m.drew
   refine⟨_,m.ld 4,⟨_,m.ld (jp+5) ix.p rfl,q0b.2 ⟨_,rfl,⟨_,m.ld (jr+5) ix.r rfl,q09.2 ⟨fun hc3=>?_,fun hc3=>?_⟩⟩⟩⟩⟩
   ·intro w77; have m:V wB w77 _ _ _ _ _ _ _ _:=m.drew
    refine⟨fun u=>Rs u _,m.sub 0,⟨_,fun _ h=>h.ld 1,⟨_,fun _ h=>h.ld 1,⟨_,fun _ h=>h.ld 1,⟨_,fun _ h=>h.ld 1,⟨_,fun _ h=>h.ld 1,⟨_,fun _ h=>h.ld 1,⟨_,fun _ h=>h.ld (jp+5) ix.p rfl,q0b.2 ⟨_,rfl,⟨_,fun _ h=>h.ld (jr+5) ix.r rfl,⟨_,fun _ h=>h.ld (jr+5) ix.r rfl,⟨_,fun _ h=>h.ld (jr+5) ix.r rfl,⟨_,fun _ h=>h.ld (jr+5) ix.r rfl,⟨_,fun _ h=>h.ld (jr+5) ix.r rfl,⟨_,fun _ h=>h.ld (jp+5) ix.p rfl,q0b.2 ⟨_,rfl,⟨_,fun _ h=>h.ld (jr+5) ix.r rfl,?_⟩⟩⟩⟩⟩⟩⟩⟩⟩⟩⟩⟩⟩⟩⟩⟩⟩
    have hfull:f.length=p.lots.length:=by omega
    refine qdw hp (hPF m) (hPT m hperm) hd hperm.2.1 (by rw[hfull,hperm.1]) fun w95 hf=>?_; have m:=m.fr hf
    refine⟨m.sub 0,q02.2 ⟨fun hc4=>?_,fun hc4=>?_⟩⟩
    ·intro w97; have m:V wB w97 _ _ _ _ _ _ _ _:=m.drew
     refine⟨fun u=>Rs u _,m.sub 0,⟨_,fun _ h=>h.ld (jp+5) ix.p rfl,⟨_,fun _ h=>h.ld 4,?_⟩⟩⟩
     refine q78 (show VI _ take f from m.r _ htk) (by omega) fun sc w101 hmk=>?_; have m:=m.newT hmk
     refine⟨m.sub 0,q0b.2 ⟨_,rfl,⟨m.wr (jr+5) ix.r rfl,?_⟩⟩⟩
     intro w104
     have m:V wB w104 _ _ _ _ _ _ _ _:=V.setSb (front:=[_,_,_,_,_]) m ix (i:=0) (v:=.slice sc.p sc.l sc.c) (row':=schC sc 0 0 s29 s0 s1 s2 p.most p.budget (left-1)) rfl
     have he3:l.set jr (sb,schC sc 0 0 s29 s0 s1 s2 p.most p.budget (left-1))=l2.set jr (sb,schC sc 0 0 s29 s0 s1 s2 p.most p.budget (left-1)):=by rw[← he,JI]
     exact qf6 m fun w' m'=>hK w' _ true (left-1) s29 sc f _ (N++[⟨f.length,0,1,[]⟩]) (by rw[he3]; exact m') ⟨⟨hfull,hd,(hno hc2).2,(hno hc2).1⟩,.inr (q4q.1 hc4),Jm _ _,by omega,fun _=>⟨by omega,by rw[Jd,Jc]; exact q8r (x:=⟨f.length,0,1,[]⟩) (by simp) rfl (.inr (.inr (.inl ⟨hfull,fun h=>Bt.irrefl h.2⟩))),by simp; omega,by omega,by have:=q3r p ls; simp; omega⟩,fun h=>by cases h⟩
    ·exact qf6 m fun w' m'=>hK w' _ true (left-1) s29 t T _ (N++[⟨f.length,0,1,[]⟩]) (by rw[he]; exact m') ⟨hperm,.inl rfl,Jm _ _,by omega,fun _=>⟨by omega,by rw[Jd,Jc]; exact q8r (x:=⟨f.length,0,1,[]⟩) (by simp) rfl (.inr (.inr (.inl ⟨hfull,fun h=>by rw[q4q.2 h.2] at hc4; cases hc4⟩))),by simp; omega,by omega,by have:=q3r p ls; simp; omega⟩,fun h=>by cases h⟩
   ·refine⟨_,m.ld (jp+5) ix.p rfl,⟨_,m.ld 4,?_⟩⟩
    have hlt:f.length<p.lots.length:=by have:=q1n hd; omega
    show z0d_sh _ _ _ _; rw[etk]
    refine q7p (k:=f.length) (hPV.fr m.m.1) (m.row (jr+5) ix.r) hlt fun so w111 hmk=>?_
    have hsol:=hmk.len
    have m:=m.add hmk
    have hso40:=q58 p p.lots[f.length]
    intro w113; have m:V wB w113 _ _ _ _ _ _ _ _:=m.allocL
    refine⟨m.wr 0,?_⟩
    intro w114; have m:V wB w114 _ _ _ _ _ _ _ _:=m.set 0
    refine⟨_,m.ld 0,V.make (k:=so.l) m (by omega) fun w117 m=>?_⟩
    intro w118; have m:V wB w118 _ _ _ _ _ _ _ _:=m.allocL
    refine⟨m.wr 0,?_⟩
    intro w119; have m:V wB w119 _ _ _ _ _ _ _ _:=m.set 0
    refine⟨_,m.ld 2,⟨?_⟩⟩
    intro w121
    have m:V wB w121 _ _ _ _ _ _ _ _:=m.allocL
    obtain⟨lot,ls',rfl⟩:∃ lot ls',ls=lot :: ls':=by
     cases ls with
     | nil=>have:=congrArg List.length hlots; simp at this; omega
     | cons lot ls'=>exact⟨lot,ls',rfl⟩
    have hlot:p.lots[f.length]=lot:=by simp[hlots,hfl]
    rw[hnsN]
    rw[← he] at m
    refine qk1 (os:=opts p p.lots[f.length]) (nx:=J7 so.l 0) (N0:=N) (T0:=T) (left0:=left) (ns:=s29) (D:=_) (F:=_) hp (hIH lot ls' rfl) hlots hfl (by rw[hlot]) hd (by simpa [frL] using m) ⟨_,ix0⟩ htk (by omega) ⟨by simp[hsol],?_,hperm,.inl rfl,JD _,by simp; omega,by omega,by simp⟩ hmax h0 hK
    rw[JC (JW _),JC (by simp[hsol])]
    simp[kids]
theorem qf7 (hp:q03 p)(hPV:PV wB s0 s1 s2 p):∀ ls,q98 wB s0 s1 s2 p ls
 | []=>qag hp hPV [] fun _ _ h=>by cases h
 | lot :: ls=>qag hp hPV (lot :: ls) fun _ _ h=>by cases h; exact qf7 hp hPV ls
end
open Go Pw
section
variable {wB u w:World}{l:List (Nat × List Value)}{R:List (Sl × List Int)}{O:List (Nat × Obj)}{ns t take s0 s1 s2:Sl}{p:Pr}{T f ds:List Int}{cs:List NdC}{N:List Nd}{left work:Int}{sb:Nat}
theorem q2t {b:Nat}:¬inB ⟨none,0,0⟩ b:=fun⟨a,ha,_⟩=>by cases ha
theorem V.start (m:Mem wB u l):V wB u l [] [] ⟨none,0,0⟩ ⟨none,0,0⟩ [] [] [] :=
 ⟨m,fun _ h=>(by cases h),⟨rfl,by simpa using OwnV.nil⟩,⟨rfl,by simpa using OwnV.nil⟩,trivial,fun _ _=>⟨q2t,q2t,fun _ h=>(by cases h)⟩,fun _ h=>(by cases h),fun b hb=>(q2t hb).elim,fun b hb=>(q2t hb).elim,fun b hb=>(q2t hb).elim,fun _ h=>(by cases h),fun _ h=>(by cases h),fun _ h=>(by cases h)⟩
theorem V.clr (h:V wB u l R O ns t T cs N):V wB u l R O ⟨none,0,0⟩ t T [] [] :=
 ⟨h.m,h.r,⟨rfl,by simpa using OwnV.nil⟩,h.tv,trivial,fun p hp=>⟨q2t,(h.a1 p hp).2.1,fun _ h=>(by cases h)⟩,fun x hx b hb=>⟨(h.a2 x hx b hb).1,q2t,(h.a2 x hx b hb).2.2⟩,fun b hb=>(q2t hb).elim,fun b hb=>(q2t hb).elim,h.n1,fun _ h=>(by cases h),fun _ h=>(by cases h),fun o ho=>⟨(h.ob o ho).1,(h.ob o ho).2.1,q2t,(h.ob o ho).2.2.2.1,fun _ h=>(by cases h),(h.ob o ho).2.2.2.2.2⟩⟩
theorem V.addNil (h:V wB u l R O ns t T cs N):V wB u l ((⟨none,0,0⟩,[]) :: R) O ns t T cs N:=by
 refine⟨h.m,fun x hx=>?_,h.ow,h.tv,h.nv,h.a1,fun x hx b hb=>?_,h.a3,h.n0,h.n1,h.n2,h.a4,fun o ho=>⟨(h.ob o ho).1,(h.ob o ho).2.1,(h.ob o ho).2.2.1,(h.ob o ho).2.2.2.1,(h.ob o ho).2.2.2.2.1,fun x hx=>?_,(h.ob o ho).2.2.2.2.2.2⟩⟩
 ·rcases Je.1 hx with rfl | hx
  ·exact Vw.nil
  ·exact h.r x hx
 ·rcases Je.1 hx with rfl | hx
  ·exact(q2t hb).elim
  ·exact h.a2 x hx b hb
 ·rcases Je.1 hx with rfl | hx
  ·exact q2t
  ·exact(h.ob o ho).2.2.2.2.2.1 x hx
theorem qk2 {K:Bool->World->Prop}(hp:q03 p)(hPV:PV wB s0 s1 s2 p)(m:V wB w l [] [] ⟨none,0,0⟩ t T [] [])(j:Nat)(hj:l[j]?=some (sb,schC t 0 0 ⟨none,0,0⟩ s0 s1 s2 p.most p.budget left))(hT:Perm p T)(h0:0<=left)(h1:left<=1048576)
  (hK:∀ w' ok left' ns' t' T' cs' N',V wB w' (l.set j (sb,schC t' 0 0 ns' s0 s1 s2 p.most p.budget left')) [] [] ns' t' T' cs' N'->VP (upB p) p [] p.lots left T [] left' T' N' 0 ok->K ok w'):z1h_sh (some ⟨sb,0,none⟩) K w:=by
 refine⟨?_⟩
 intro w1
 have m:V wB w1 _ _ _ _ _ _ _ _:=m.allocL
 clear_value w1
 intro w2
 have m:V wB w2 _ _ _ _ _ _ _ _:=m.allocL
 clear_value w2
 refine⟨m.wr 0,?_⟩
 intro w3
 have m:V wB w3 _ _ _ _ _ _ _ _:=m.set 0
 clear_value w3
 simp only[J0] at m
 have m:=m.addNil
 refine⟨_,m.ld 0,?_⟩
 refine q18 z0u_ok (qf7 hp hPV p.lots (ds:=[]) (f:=[]) (jr:=j+2) (jp:=1) (jv:=0) rfl rfl m ⟨hj,rfl,rfl,by omega,by omega⟩ (J3 ..) (by cases p.lots<;>exact trivial) hT h0 (by simpa using h1) fun w' n ok left' ns' t' T' cs' N' v hvp=>⟨n,ok,rfl,?_⟩)
 simp only[J2] at v
 refine hK w' ok left' ns' t' T' cs' N' ((v.dR fun _ h=>(by cases h)).dr 2) ⟨hvp.perm,hvp.bt,hvp.pre,hvp.lo,fun h=>?_,hvp.no⟩
 obtain⟨q1,q2⟩:=hvp.yes h
 exact⟨rfl,q2⟩
theorem qf8 {rb:Nat}{K:Sl->Int->Int->Sl->Int->World->Prop}{a b c d:Value}(m:Mem wB w l)(j:Nat)(hj:l[j]?=some (rb,[a,b,c,d]))(hK:∀ w',Fr F0 wB w'->K ⟨none,0,0⟩ 0 0 ⟨none,0,0⟩ 1 w'):z35_k0 ⟨rb,0,none⟩ K w:=by
 refine⟨?_⟩
 have hl:j<l.length:=(J6.1 hj).1
 refine q22 m j hj rfl fun w1 m=>?_
 have hj':(l.set j (rb,[.slice none 0 0,.int .i64 0,.int .i64 0,.slice none 0 0]))[j]?=some (rb,[.slice none 0 0,.int .i64 0,.int .i64 0,.slice none 0 0]):=by simp[hl]
 exact⟨⟨none,0,0⟩,m.ld j hj' rfl,_,m.ld j hj' rfl,_,m.ld j hj' rfl,⟨none,0,0⟩,m.ld j hj' rfl,hK w1 m.1⟩
abbrev svL (ab sb rb pb:Nat)(A:List Value)(t:Sl)(pts bnd:Int)(s0 s1 s2:Sl)(p:Pr)(left:Int)(B:List Value):List (Nat × List Value) :=
 [(ab,A),(sb,schC t pts bnd ⟨none,0,0⟩ s0 s1 s2 p.most p.budget left),(rb,B),(pb,prC s0 s1 s2 p.most p.budget)]
theorem q99 (p:Pr):∀ (a b:List Int) (m:Int),q73 p (a++b) m=q73 p b (q73 p a m)
 | [],_,_=>rfl
 | n :: a,b,m=>by simp only[Jf,q73]; exact q99 p a b _
theorem qk3 {ab rb pb:Nat}{A B:List Value}{pts bnd:Int}{k:Nat}{so:Sl}{lot t72:Int}{N1:Addr->Addr->Addr->Int->Int->World->Prop}{K:Sl->Int->Int->Sl->Int->World->Prop}(hp:q03 p)(hPV:PV wB s0 s1 s2 p)
  (m:V wB w (svL ab sb rb pb A t pts bnd s0 s1 s2 p left B) ((so,opts p lot) :: []) [] ⟨none,0,0⟩ t T [] []) (hb:0<=bnd/\bnd<=100000000) (hk:k<2^40)
  (hN:∀ w',V wB w' (svL ab sb rb pb A t pts (bnd+qba p lot) s0 s1 s2 p left B) [] [] ⟨none,0,0⟩ t T [] []->N1 ⟨pb,0,none⟩ ⟨rb,0,none⟩ ⟨sb,0,none⟩ t72 ((k:Int)+1) w') :
  z35_l2 ⟨pb,0,none⟩ ⟨rb,0,none⟩ ⟨sb,0,none⟩ 0 t72 k so (so.l:Int) 0 N1 K w:=by
 have hso:VI w so (opts p lot):=m.r _ (J3 ..)
 have hsl:=hso.len
 have hol:=q58 p lot
 have hch:=hp.chs
 have e1:=hPV.ch.len
 refine⟨⟨fun mo i w'=>∃ i':Nat,i=i'/\i'<=(opts p lot).length/\mo=q73 p ((opts p lot).take i') 0/\V wB w' (svL ab sb rb pb A t pts bnd s0 s1 s2 p left B) ((so,opts p lot) :: []) [] ⟨none,0,0⟩ t T [] [],fun _ i _=>(opts p lot).length-i.toNat,⟨0,rfl,by omega,rfl,m⟩,?_⟩⟩
 rintro mo i w1 ⟨i,rfl,hi,rfl,m⟩
 unfold z35_b2
 refine q00.2<|⟨fun hlt=>?_,fun hge=>?_⟩
 ·have hlt:i<(opts p lot).length:=by omega
  have hs:=q08 hlt
  have hso1:VI w1 so (opts p lot):=m.r _ (J3 ..)
  refine VI.ld hso1 i rfl hlt ?_
  have hmem:=q3k.1 (Jb hlt)
  refine q00.2<|⟨fun hpos=>?_,fun hneg=>⟨q01,⟨⟨rfl,rfl,rfl,rfl,rfl,rfl,rfl,trivial⟩,i+1,by omega,by omega,?_,m⟩,by dsimp only; omega⟩⟩
  ·rcases hmem with hm | ⟨c,hc,_⟩
   ·omega
   obtain⟨_,hix,hcx⟩:=q1i hc
   refine⟨s1,m.ld 3,VC.ld (hPV.fr m.m.1).ch (opts p lot)[i].toNat (by omega) hix fun a hca=>⟨_,(hca w1 Fr.refl).2.2.2,q01,⟨⟨rfl,rfl,rfl,rfl,rfl,rfl,rfl,trivial⟩,i+1,by omega,by omega,?_,m⟩,by dsimp only; omega⟩⟩
   rw[hs,q99,hcx]
   simp only[q73,hc]
  ·rw[hs,q99]
   simp only[q73,q24 (by omega:¬0<=(opts p lot)[i])]
 ·have:i=(opts p lot).length:=by omega
  subst this
  rw[J5]
  have hmb:=q80 hp (opts p lot) 0 (JV _) (by decide)
  refine⟨bnd,m.ld 1,q01,m.wr 1,?_⟩
  intro w2
  have m:V wB w2 _ _ _ _ _ _ _ _:=m.set 1
  exact⟨q01,hN w2 (m.dR fun _ h=>(by cases h))⟩
theorem qk4 {ab rb pb:Nat}{A:List Value}{a b c d:Value}{pts:Int}{K:Sl->Int->Int->Sl->Int->World->Prop}(hp:q03 p)(hPV:PV wB s0 s1 s2 p)
  (hK:∀ w',V wB w' [] [] [] ⟨none,0,0⟩ t T [] []->K t pts (qhy p) ⟨none,0,0⟩ 42 w')
  (m:V wB w (svL ab sb rb pb A t pts 0 s0 s1 s2 p left [a,b,c,d]) [] [] ⟨none,0,0⟩ t T [] []) :
  z35_l1 ⟨pb,0,none⟩ ⟨rb,0,none⟩ ⟨sb,0,none⟩ (p.lots.length:Int) 0 K w:=by
 have hfew:=hp.few
 refine⟨⟨fun i w'=>∃ i':Nat,i=i'/\i'<=p.lots.length/\V wB w' (svL ab sb rb pb A t pts ((p.lots.take i').map (qba p)).sum s0 s1 s2 p left [a,b,c,d]) [] [] ⟨none,0,0⟩ t T [] [],fun i _=>p.lots.length-i.toNat,⟨0,rfl,by omega,m⟩,?_⟩⟩
 rintro i w1 ⟨i,rfl,hi,m⟩
 unfold z35_b1
 refine q00.2<|⟨fun hlt=>?_,fun hge=>?_⟩
 ·have hlt:i<p.lots.length:=by omega
  refine q7p (k:=i) (hPV.fr m.m.1) (m.row 1) hlt fun so w2 hmk=>?_
  have m:=m.add hmk
  have hb:=qg3 hp (JE i p.lots)
  refine qk3 hp hPV m ⟨hb.1,by omega⟩ (by omega) fun w3 m3=>⟨⟨⟨rfl,rfl,rfl,rfl,trivial⟩,i+1,by omega,by omega,?_⟩,by dsimp only; omega⟩
  have e:((p.lots.take (i+1)).map (qba p)).sum=((p.lots.take i).map (qba p)).sum+qba p p.lots[i]:=by
   rw[q08 hlt,Jg,Jz,JT,List.map_nil,List.sum_cons,List.sum_nil,Int.add_zero]
  rw[e]
  exact m3
 ·have:i=p.lots.length:=by omega
  subst this
  rw[J5] at m
  refine⟨t,m.ld 1,_,m.ld 1,_,m.ld 1,⟨none,0,0⟩,m.ld 1,qdy m 2 rfl rfl fun w2 m=>?_⟩
  exact⟨t,m.ld 2,_,m.ld 2,_,m.ld 2,⟨none,0,0⟩,m.ld 2,hK w2 (m.dr 4)⟩
theorem qga {K:Sl->Int->Int->Sl->Int->World->Prop}(h:PV w s0 s1 s2 p)
  (hbad:q0g p=false\/wiB work 1048576=false->∀ w',Fr F0 w w'->K ⟨none,0,0⟩ 0 0 ⟨none,0,0⟩ 1 w')
  (hgood:q03 p->Wi work 1048576->∀ w' t pts bnd ns e T cs N,V w w' [] [] [] ns t T cs N->SolveP (upB p) p work T pts bnd N e->K t pts bnd ns e w'):z35_sh s0 s1 s2 p.most p.budget work K w:=by
 refine⟨?_⟩
 have e0:=h.lots.len
 have m:Mem w w []:=Mem.nil
 intro w1; have m:Mem w w1 _:=m.allocL
 intro w2; have m:Mem w w2 _:=m.allocL
 refine⟨_,m.ld 1,⟨_,m.ld 1,⟨_,m.ld 1,⟨_,m.ld 1,⟨_,m.ld 1,?_⟩⟩⟩⟩⟩
 refine qg4 (h.fr m.1) fun w8 hf=>?_; have m:=m.fr hf
 refine q02.2 ⟨fun hc1=>?_,fun hc1=>?_⟩
 ·exact qf8 m 0 rfl fun w' hf=>hbad (.inl (by simpa using hc1)) w' hf
 ·have hp:q03 p:=q0f.1 (by simpa using hc1)
  refine q2l<|q02.2 ⟨fun hc2=>?_,fun hc2=>?_⟩
  ·exact qf8 m 0 rfl fun w' hf=>hbad (.inr (by simpa using hc2)) w' hf
  ·refine⟨_,m.ld 1,⟨_,m.ld 1,⟨_,m.ld 1,⟨_,m.ld 1,⟨_,m.ld 1,?_⟩⟩⟩⟩⟩
   intro w22; have m:Mem w w22 _:=m.allocL
   intro w23; have m:Mem w w23 _:=m.allocL
   refine⟨_,m.ld 3,?_⟩
   have hwk:Wi work 1048576:=q2k.1 (by simpa using hc2)
   have hk1:=hp.some
   have hk2:=hp.few
   have v:=V.start m
   show z3e_sh _ _ _ _; rw[e0]
   refine qdz (v:=-1) (k:=p.lots.length) (Ow.row (l:=[-1]) (m.row 0)).vw hk1 (by omega) fun t w25 hmk=>?_
   have m:=v.newT hmk
   refine⟨m.wr 1,?_⟩
   intro w27; have m:V w w27 _ _ _ _ _ _ _ _:=m.set 1
   refine qk2 hp h m 1 rfl (qcq hp) hwk.1 hwk.2 fun w28 ok left' ns' t' T' cs' N' m hvp=>?_
   intro w30; have m:V w w30 _ _ _ _ _ _ _ _:=m.drew
   refine⟨fun u=>Rs u _,m.sub 0,⟨_,fun _ h=>h.ld 3,⟨_,fun _ h=>h.ld 3,⟨_,fun _ h=>h.ld 3,⟨_,fun _ h=>h.ld 3,⟨_,fun _ h=>h.ld 3,⟨_,fun _ h=>h.ld 1,?_⟩⟩⟩⟩⟩⟩⟩
   have hpT:=hvp.perm
   refine q8w hp ⟨h.fr m.m.1,m.tv.vw,by have:=hpT.1; omega⟩ hpT.2.1 fun w38 hf=>?_; have m:=m.fr hf
   refine⟨m.sub 0,⟨m.wr 1,?_⟩⟩
   intro w40; have m:V w w40 _ _ _ _ _ _ _ _:=m.set 1
   refine⟨_,m.ld 1,⟨m.wr 1,?_⟩⟩
   intro w42; have m:V w w42 _ _ _ _ _ _ _ _:=m.set 1
   refine q02.2 ⟨fun hc3=>?_,fun hc3=>?_⟩
   ·refine⟨_,m.ld 1,⟨_,m.ld 1,⟨_,m.ld 1,⟨_,m.ld 1,?_⟩⟩⟩⟩
    refine qdy m 2 rfl rfl fun w47 m=>?_; skip
    refine⟨_,m.ld 2,⟨_,m.ld 2,⟨_,m.ld 2,⟨_,m.ld 2,?_⟩⟩⟩⟩
    obtain⟨_,htr,hsum,hl0,_⟩:=hvp.yes hc3
    exact hgood hp hwk _ t' (q1r p T') (q1r p T') ns' 0 T' cs' N' (m.dr 4) (.inl ⟨rfl,⟨hpT,fun u hu=>qab hp (qbl hp) hu p.lots [] [] 0 N'.length rfl rfl htr List.nil_prefix⟩,rfl,rfl,htr,by simp at hsum; omega⟩)
   ·refine⟨m.wr 1,?_⟩
    intro w52; have m:V w w52 _ _ _ _ _ _ _ _:=m.set 1
    refine⟨m.wr 1,?_⟩
    intro w53; have m:V w w53 _ _ _ _ _ _ _ _:=m.set 1
    refine⟨_,m.ld 3,?_⟩
    have m:=m.clr
    show z35_l1 _ _ _ _ _ _ _; rw[e0]
    exact qk4 hp h (fun w' hv'=>hgood hp hwk w' t' (q1r p T') (qhy p) ⟨none,0,0⟩ 42 T' [] [] hv' (.inr ⟨rfl,hpT,rfl,rfl,rfl,by have:=hvp.no hc3; exact this⟩)) m
end
open Go Pw
section
variable {w w' w0:World}{s t:Sl}{L:List (Nat × List Value)}{l:List Int}{mb:Nat}
def nmC (s:Sl)(l:List Int)(i:Nat):List Value:=[.slice s.p s.l s.c,.int .i64 (min i l.length:Nat)]
theorem qbo {i:Nat}{n:Int}{K:Int->World->Prop}(hv:VI w0 s l)(hl:l.length<2^63)(m:Mem w0 w L)(j:Nat)(hj:L[j]?=some (mb,nmC s l i))(hn0:0<n)(hn:n<4611686018427387904)
  (hK:∀ w',Mem w0 w' (L.set j (mb,nmC s l (i+1)))->Fr (fun b=>b=mb) w w'->K (nv l i n) w'):z05_sh (some ⟨mb,0,none⟩) n K w:=by
 refine⟨?_⟩
 have hlen:=hv.len
 have hjl:j<L.length:=(J6.1 hj).1
 intro w1
 have m1:Mem w0 w1 _:=m.drew
 have hf1:Fr (fun b=>b=mb) w w1:=Fr.drew
 refine q0b.2 ⟨_,rfl,_,m1.ld j hj rfl,q0b.2 ⟨_,rfl,s,m1.ld j hj rfl,q00.2 ?_⟩⟩
 refine⟨fun hge=>?_,fun hlt=>?_⟩
 ·have hil:l.length<=i:=by omega
  have e:nmC s l (i+1)=nmC s l i:=by unfold nmC; rw[Q4 hil,Q4 (by omega)]
  have:=hK w1 (by rw[e,q7y hj]; exact m1) hf1
  rwa [nv_out hil] at this
 ·have hil:i<l.length:=by omega
  have hmin:min i l.length=i:=by omega
  refine q0b.2 ⟨_,rfl,_,m1.ld j hj rfl,q01,q0b.2 ⟨_,rfl,m1.wr j hj rfl,?_⟩⟩
  intro w2
  have m2:Mem w0 w2 (L.set j (mb,[.slice s.p s.l s.c,.int .i64 ((min i l.length:Nat)+1)])):=m1.set j hj
  have hf2:Fr (fun b=>b=mb) w1 w2:=Fr.set rfl
  have e:nmC s l (i+1)=[.slice s.p s.l s.c,.int .i64 ((min i l.length:Nat)+1)]:=by
   unfold nmC
   rw[JY (by omega:i+1<=l.length),hmin]
   rfl
  rw[← e] at m2
  intro w3
  have m3:Mem w0 w3 _:=m2.drew
  have hf3:Fr (fun b=>b=mb) w2 w3:=Fr.drew
  have hj3:(L.set j (mb,nmC s l (i+1)))[j]?=some (mb,nmC s l (i+1)):=by simp[hjl]
  have hmin2:min (i+1) l.length=i+1:=by omega
  refine⟨fun u=>Row u mb (nmC s l (i+1))/\VI u s l,⟨m3.row j hj3,hv.fr m3.1⟩,q0b.2 ⟨_,rfl,s,fun u hu=>hu.1.at,q0b.2 ⟨_,rfl,_,fun u hu=>hu.1.at,q01,?_⟩⟩⟩
  obtain⟨ad,hp,_⟩:=hv.at (fun a=>q05 _ _ a) (J1 hil) (by decide)
  refine q0b.2 ⟨ad,hp,⟨by omega,by omega⟩,l[i],fun u hu=>?_,?_⟩
  ·obtain⟨ad',hp',hc⟩:=hu.2.at (fun a=>q05 _ _ a) (J1 hil) (by decide)
   rw[hp] at hp'
   cases hp'
   have e2:((((min (i+1) l.length:Nat):Int))-1).toNat=i:=by omega
   rw[e2]
   exact hc 0 _ rfl
  ·refine q6i hn0 hn ⟨⟨m3.row j hj3,hv.fr m3.1⟩,?_⟩
   have:=hK w3 m3 ((hf1.trans hf2 fun _ h _=>h).trans hf3 fun _ h _=>h)
   unfold nv at this
   rw[Jx,J1 hil] at this
   exact this
theorem q3c {α:Type}{k:Nat}{enc:α->List Value}{xs:List α}{B:Nat->Prop}{Q:World->Prop}{i:Nat}{n:Int}{K:Int->World->Prop}(hv:VI w0 s l)(hl:l.length<2^63)(h:Sp w0 w L B Q k enc t xs)(j:Nat)(hj:L[j]?=some (mb,nmC s l i))(hn0:0<n)(hn:n<4611686018427387904)
  (hK:∀ w',Sp w0 w' (L.set j (mb,nmC s l (i+1))) B Q k enc t xs->K (nv l i n) w'):z05_sh (some ⟨mb,0,none⟩) n K w :=
 qbo hv hl h.m j hj hn0 hn fun w' m hf=>hK w' (h.setF hj hf m)
theorem q3n {α:Type}(f:Nat->α)(i:Nat):(Ji (i+1)).map f=(Ji i).map f++[f i]:=by rw[JR,Jg]; rfl
theorem qk5:∀ m:Fin 16,∀ k:Fin 4,((IntKind.wrap .i64 (((BitVec.ofInt (IntKind.bits .i64) (Int.fdiv (m.val:Int) (2^(min ((k.val:Int)).toNat (IntKind.bits .i64)))) &&& BitVec.ofInt (IntKind.bits .i64) (1:Int))).toNat:Int)) == (1:Int))=bitI (m.val:Int) k.val:=by decide +kernel
theorem qk6:∀ k:Fin 5,(IntKind.wrap .i64 ((1:Int)*2^(min ((k.val:Int)).toNat (IntKind.bits .i64))))=2^k.val:=by decide +kernel
theorem qi8 {a b:List Int}{K:Bool->World->Prop}(ha:VI w s a)(hb:VI w t b)(hl:a.length<2^63)(hK:∀ w',Fr F0 w w'->K (decide (a=b)) w'):z21_sh s t K w:=by
 refine⟨?_⟩
 have ea:=ha.len; have eb:=hb.len
 refine q0u.2<|⟨fun hne=>?_,fun heq=>?_⟩
 ·have:=hK w Fr.refl
  rwa [decide_eq_false (by rintro rfl; omega)] at this
 ·have hlen:a.length=b.length:=by omega
  refine⟨⟨fun i w'=>∃ i':Nat,i=i'/\i'<=a.length/\a.take i'=b.take i'/\Fr F0 w w',fun i _=>a.length-i.toNat,⟨0,rfl,by omega,rfl,Fr.refl⟩,?_⟩⟩
  rintro i w1 ⟨i,rfl,hi,ht,hf⟩
  unfold z21_b0
  refine q00.2<|⟨fun hlt=>?_,fun hge=>?_⟩
  ·have hlt:i<a.length:=by omega
   intro w2
   have hf2:Fr F0 w w2:=hf.t Fr.drew
   refine VI.ld (ha.fr hf2) i rfl hlt<|VI.ld (hb.fr hf2) i rfl (by omega)<|q0u.2<|⟨fun hne=>?_,fun he=>⟨q01,⟨⟨rfl,rfl,trivial⟩,i+1,by omega,by omega,?_,hf2⟩,by dsimp only; omega⟩⟩
   ·have:=hK w2 hf2
    rwa [decide_eq_false (by rintro rfl; exact hne rfl)] at this
   ·rw[q08 hlt,q08 (by omega),ht,he]
  ·have:i=a.length:=by omega
   subst this
   rw[J5,Ja (by omega)] at ht
   have:=hK w1 hf
   rwa [decide_eq_true ht] at this
theorem optsFrom_len {lot:Int}:∀ (l:List Ch) (i:Nat),(q0j lot i l).length=l.countP (fun c=>c.lot == lot)
 | [],_=>rfl
 | c :: l,i=>by
  unfold q0j
  rw[List.countP_cons]
  by_cases h:c.lot=lot
  ·rw[if_pos h,Jq,optsFrom_len l (i+1)]
   simp[h]
  ·rw[if_neg h,optsFrom_len l (i+1)]
   simp[h]
end
open Go Pw
theorem q9a (d:De × Sl):∀ v∈encD d,okC v=true:=by intro v hv; simp[encD] at hv; rcases hv with rfl | rfl | rfl<;>rfl
section
variable {w w' w0:World}{s s0 s1 s2:Sl}{L:List (Nat × List Value)}{l:List Int}{mb pb rb db:Nat}{R:List Value}
abbrev mdL (pb mb rb:Nat)(s s0 s1 s2:Sl)(l:List Int)(j:Nat)(R:List Value):List (Nat × List Value) :=
 [(pb,prC s0 s1 s2 (nv l 0 4) (nv l 1 30)),(mb,nmC s l j),(rb,R)]
theorem qli {i j:Nat}{dc:List (De × Sl)}{B:Nat->Prop}{Q:World->Prop}{so:Sl}{bid off st lots deals:Int}{N2:Addr->Addr->Addr->Int->Int->Int->World->Prop}{K:Sl->Sl->Sl->Int->Int->World->Prop}
  (hlots:lots=(q0v l).toNat) (hst:0<=st/\st<16)
  (h:Sp w0 w ((db,[.int .i64 bid,.slice none 0 0,.int .i64 off]) :: mdL pb mb rb s s0 s1 so l j R) (fun b=>B b\/inB so b) (fun w=>Q w/\Ow 3 encD w so dc) 1 (ie .i64 (id:Int->Int)) ⟨none,0,0⟩ [])
  (hB:q1t B Q) (hBs:∀ b,inB so b->¬B b) (hQ:∀ u,Q u->VI u s0 (q1s l)) (hdc:dc.length<=3) (hi:0<=i/\i<10)
  (hN:∀ w' so' sl,Sp w0 w' (mdL pb mb rb s s0 s1 so' l j R) (fun b=>B b\/inB sl b) (fun w=>Q w/\Ow 1 (ie .i64 (id:Int->Int)) w sl ((Ji (q0v l).toNat).filterMap (fun k=>if bitI st k then some (mLot l k) else none))) 3 encD so' (dc++[(⟨bid,(Ji (q0v l).toNat).filterMap (fun k=>if bitI st k then some (mLot l k) else none),off⟩,sl)]) ->
   N2 ⟨rb,0,none⟩ ⟨mb,0,none⟩ ⟨pb,0,none⟩ lots deals ((i:Int)+1) w') :
  z22_l3 ⟨rb,0,none⟩ ⟨mb,0,none⟩ ⟨pb,0,none⟩ lots deals i ⟨db,0,none⟩ st 0 N2 K w:=by
 subst hlots
 have hL:=q26 (l:=l)
 refine⟨⟨fun k w'=>∃ (k':Nat) (sd:Sl),k=k'/\k'<=(q0v l).toNat/\Sp w0 w' ((db,[.int .i64 bid,.slice sd.p sd.l sd.c,.int .i64 off]) :: mdL pb mb rb s s0 s1 so l j R) (fun b=>B b\/inB so b) (fun w=>Q w/\Ow 3 encD w so dc) 1 (ie .i64 (id:Int->Int)) sd ((Ji k').filterMap (fun k=>if bitI st k then some (mLot l k) else none)),fun k _=>(q0v l).toNat-k.toNat,
  ⟨0,⟨none,0,0⟩,rfl,by omega,h⟩,?_⟩⟩
 rintro k w1 ⟨k,sd,rfl,hk,h⟩
 unfold z22_b3
 refine q00.2<|⟨fun hlt=>?_,fun hge=>?_⟩
 ·have hlt:k<(q0v l).toNat:=by omega
  refine⟨by omega,?_⟩
  have hb:=qk5 ⟨st.toNat,by omega⟩ ⟨k,by omega⟩
  have est:((st.toNat:Nat):Int)=st:=by omega
  simp only[est] at hb
  rw[hb]
  have hrs:∀ g:Nat->Option Int,(Ji (k+1)).filterMap g=(Ji k).filterMap g++(match g k with | some x=>[x] | none=>[]):=by
   intro g
   rw[JR,List.filterMap_append,List.filterMap_cons]
   cases g k<;>rfl
  have hlen:((Ji k).filterMap (fun k=>if bitI st k then some (mLot l k) else none)).length<=k:=by
   have:=JA (fun k=>if bitI st k then some (mLot l k) else none) (Ji k)
   simpa using this
  refine q02.2<|⟨fun ht=>?_,fun hf=>⟨q01,⟨⟨rfl,rfl,rfl,rfl,rfl,rfl,rfl,rfl,trivial⟩,k+1,sd,by omega,by omega,?_⟩,by dsimp only; omega⟩⟩
  ·intro w2
   have h2:Sp w0 w2 _ _ _ _ _ _ _:=h.drew
   have hS:∀ {u B' Q' sd'} {ls:List Int},Sp w0 u ((db,[.int .i64 bid,.slice sd.p sd.l sd.c,.int .i64 off]) :: mdL pb mb rb s s0 s1 so l j R) B' Q' 1 (ie .i64 (id:Int->Int)) sd' ls->(Q' u->Q u)->Row u db [.int .i64 bid,.slice sd.p sd.l sd.c,.int .i64 off]/\Row u pb (prC s0 s1 so (nv l 0 4) (nv l 1 30))/\VI u s0 (q1s l) :=
    fun hu hq=>⟨hu.row 0,hu.row 1,hQ _ (hq hu.q)⟩
   refine⟨fun u=>Row u db [.int .i64 bid,.slice sd.p sd.l sd.c,.int .i64 off]/\Row u pb (prC s0 s1 so (nv l 0 4) (nv l 1 30))/\VI u s0 (q1s l),hS h2 (fun h=>h.1),sd,fun u hu=>hu.1.at,s0,fun u hu=>hu.2.1.at,?_⟩
   have hv0:=hQ _ h2.q.1
   have hl0:=hv0.len
   rw[q32] at hl0
   have hkl:k<(q1s l).length:=by rw[q32]; exact hlt
   obtain⟨ad,hp,_⟩:=hv0.at (fun a=>q05 _ _ a) (J1 hkl) (by decide)
   have hel:(q1s l)[k]=mLot l k:=by simp[q1s]
   refine q0b.2 ⟨ad,hp,⟨by omega,by omega⟩,mLot l k,fun u hu=>?_,?_⟩
   ·obtain⟨ad',hp',hc⟩:=hu.2.2.at (fun a=>q05 _ _ a) (J1 hkl) (by decide)
    rw[hp] at hp'
    cases hp'
    have:=hc 0 _ rfl
    rw[hel] at this
    exact this
   ·intro w3
    have h3:=h2.allocL (vs:=[.int .i64 (mLot l k)]) (e:=0)
    refine⟨hS (h2.fr (Fr.alloc:Fr F0 w2 w3)) (fun h=>h.1),h2.push (a:=mLot l k) rfl rfl (q1y _ _) rfl (by omega) (by omega) fun r w4 h4=>⟨hS h4 (fun h=>h.1),h4.wr 0,?_⟩⟩
    intro w5
    have h5:Sp w0 w5 _ _ _ _ _ _ _:=h4.set 0
    refine⟨q01,⟨⟨rfl,rfl,rfl,rfl,rfl,rfl,rfl,rfl,trivial⟩,k+1,r,by omega,by omega,?_⟩,by dsimp only; omega⟩
    rw[hrs,if_pos ht]
    exact h5
  ·rw[hrs,if_neg (by rw[hf]; decide),List.append_nil]
   exact h
 ·have:k=(q0v l).toNat:=by omega
  subst this
  refine⟨so,h.ld 1,_,h.ld 0,sd,h.ld 0,_,h.ld 0,?_⟩
  have hb:=(h.back hB hBs).dr (k:=mdL pb mb rb s s0 s1 so l j R) 1 rfl
  refine hb.push (a:=(⟨bid,(Ji (q0v l).toNat).filterMap (fun k=>if bitI st k then some (mLot l k) else none),off⟩,sd)) rfl rfl q9a rfl (by omega) (by omega) fun r w4 h4=>⟨h4.wr 0,?_⟩
  intro w5
  have h5:Sp w0 w5 _ _ _ _ _ _ _:=h4.set 0
  exact⟨q01,hN w5 r sd h5⟩
theorem qlj {lots deals:Int}{B:Nat->Prop}{Q:World->Prop}{K:Sl->Sl->Sl->Int->Int->World->Prop}(hv:VI w0 s l)(hl:l.length<2^63)
  (hlots:lots=(q0v l).toNat) (hdeals:deals=q6l l) {a b c d e:Value} (hR:R=[a,b,c,d,e])
  (h:Sp w0 w (mdL pb mb rb s s0 s1 ⟨none,0,0⟩ l (mD0 l) R) B Q 3 encD ⟨none,0,0⟩ []) (hB:q1t B Q) (hQ:∀ u,Q u->VI u s0 (q1s l)/\VC u s1 (mChL l))
  (hK:∀ w' s2,Fr F0 w0 w'->PV w' s0 s1 s2 (q3f l)->K s0 s1 s2 (nv l 0 4) (nv l 1 30) w') :
  z22_l2 ⟨rb,0,none⟩ ⟨mb,0,none⟩ ⟨pb,0,none⟩ lots deals 0 K w:=by
 subst hlots
 subst hdeals
 have hL:=q26 (l:=l)
 have hDr:=q0s (l:=l) (j:=mC0 l+4*(q1g l).toNat) (n:=4) (by decide)
 have hD:0<=q6l l/\q6l l<4:=hDr
 refine⟨⟨fun i w'=>∃ (i':Nat) (s2:Sl) (dc:List (De × Sl)) (B:Nat->Prop) (Q:World->Prop),i=i'/\i'<=(q6l l).toNat/\Sp w0 w' (mdL pb mb rb s s0 s1 s2 l (mD0 l+3*i') R) B Q 3 encD s2 dc/\q1t B Q/\(∀ u,Q u->VI u s0 (q1s l)/\VC u s1 (mChL l)/\∀ x∈dc,VI u x.2 x.1.lots)/\dc.map (·.1)=(Ji i').map (mDe l),
  fun i _=>(q6l l).toNat-i.toNat,⟨0,⟨none,0,0⟩,[],B,Q,rfl,by omega,h,hB,fun u hu=>⟨(hQ u hu).1,(hQ u hu).2,fun _ h=>by cases h⟩,rfl⟩,?_⟩⟩
 clear h hB hQ
 rintro i w1 ⟨i,s2,dc,B,Q,rfl,hi,h,hB,hQ,hdm⟩
 have hdl:dc.length=i:=by have:=congrArg List.length hdm; simpa using this
 unfold z22_b2
 refine q00.2<|⟨fun hlt=>?_,fun hge=>?_⟩
 ·have hlt:i<(q6l l).toNat:=by omega
  have q1:=q0s (l:=l) (j:=mD0 l+3*i) (n:=4) (by decide)
  have q2:=q0s (l:=l) (j:=mD0 l+3*i+1) (n:=6) (by decide)
  refine q3c hv hl h 1 rfl (by decide) (by decide) fun w2 h=>?_
  refine⟨q01,q3c hv hl h 1 rfl (by decide) (by decide) fun w3 h=>?_⟩
  intro w4
  have h:Sp w0 w4 _ _ _ _ _ _ _:=h.allocL (vs:=[.int .i64 0,.slice none 0 0,.int .i64 0])
  clear_value w4
  refine q6r h 0 rfl rfl fun w5 h=>?_
  have hpw:=qk6 ⟨(q0v l).toNat,by omega⟩
  simp only at hpw
  have hp1:(1:Int)<=2^(q0v l).toNat-1/\(2:Int)^(q0v l).toNat<=16:=by
   have:(q0v l).toNat=1\/(q0v l).toNat=2\/(q0v l).toNat=3\/(q0v l).toNat=4:=by omega
   rcases this with e | e | e | e<;>rw[e]<;>decide
  rw[hpw]
  refine⟨by omega,q01,q3c hv hl h 2 rfl (by omega) (by omega) fun w6 h=>?_⟩
  have q3:=q0s (l:=l) (j:=mD0 l+3*i+1+1) (n:=2^(q0v l).toNat-1) (by omega)
  refine⟨q01,?_⟩
  have hst:1+nv l (mD0 l+3*i+1+1) (2^(q0v l).toNat-1)=mSet l i:=rfl
  rw[hst]
  have hstr:0<=mSet l i/\mSet l i<16:=by rw[← hst]; omega
  have hs2:=fun b hb=>(h.os b hb).2.1
  refine qli (B:=B) (Q:=Q) rfl hstr h.next hB hs2 (fun u hu=>(hQ u hu).1) (by omega) (by omega) fun w7 so' sl h7=>⟨⟨⟨rfl,rfl,rfl,rfl,rfl,trivial⟩,i+1,so',_,_,_,by omega,by omega,h7,?_,?_,?_⟩,by dsimp only; omega⟩
  ·exact hB.and (q1t.ow sl _)
  ·intro u hu
   refine⟨(hQ u hu.1).1,(hQ u hu.1).2.1,fun x hx=>?_⟩
   rcases Jj.1 hx with hx | hx
   ·exact(hQ u hu.1).2.2 x hx
   ·rw[J8] at hx
    subst hx
    exact hu.2.vw
  ·rw[Jg,hdm,q3n]
   rfl
 ·have:i=(q6l l).toNat:=by omega
  subst this
  subst hR
  obtain⟨hq0,hq1,hq2⟩:=hQ _ h.q
  refine⟨s0,h.ld 0,s1,h.ld 0,s2,h.ld 0,_,h.ld 0,_,h.ld 0,q6r h 2 rfl rfl fun w2 h=>?_⟩
  simp only[J0,J2] at h
  obtain⟨hq0,hq1,hq2⟩:=hQ _ h.q
  refine⟨s0,h.ld 2,s1,h.ld 2,s2,h.ld 2,_,h.ld 2,_,h.ld 2,hK w2 s2 h.m.1 ?_⟩
  have hr:=q8s l
  refine⟨hq0,hq1,⟨dc,h.ow.vw,hdm,fun x hx=>⟨hq2 x hx,?_⟩⟩,?_,?_,?_⟩
  ·have hm:x.1∈dc.map (·.1):=Jw hx
   rw[hdm] at hm
   obtain⟨k,_,hk⟩:=JP.1 hm
   rw[← hk]
   have:=JA (fun k'=>if bitI (mSet l k) k' then some (mLot l k') else none) (Ji (q0v l).toNat)
   simp only[JL] at this
   show((Ji (q0v l).toNat).filterMap (fun k'=>if bitI (mSet l k) k' then some (mLot l k') else none)).length<_
   omega
  ·have:=hr.few; omega
  ·have:=hr.chs; omega
  ·have:=hr.des; omega
theorem qlk {lots choices:Int}{B:Nat->Prop}{Q:World->Prop}{K:Sl->Sl->Sl->Int->Int->World->Prop}(hv:VI w0 s l)(hl:l.length<2^63)
  (hlots:lots=q0v l) (hch:choices=q1g l) {a b c d e:Value} (hR:R=[a,b,c,d,e])
  (h:Sp w0 w (mdL pb mb rb s s0 ⟨none,0,0⟩ ⟨none,0,0⟩ l (mC0 l) R) B Q 4 encC ⟨none,0,0⟩ []) (hB:q1t B Q) (hQ:∀ u,Q u->VI u s0 (q1s l))
  (hK:∀ w' s1 s2,Fr F0 w0 w'->PV w' s0 s1 s2 (q3f l)->K s0 s1 s2 (nv l 0 4) (nv l 1 30) w') :
  z22_l1 ⟨rb,0,none⟩ ⟨mb,0,none⟩ ⟨pb,0,none⟩ lots choices 0 K w:=by
 subst hlots
 subst hch
 have hL:=q26 (l:=l)
 have hDr:=q0s (l:=l) (j:=3+(q0v l).toNat) (n:=13) (by decide)
 have hD:0<=q1g l/\q1g l<13:=hDr
 refine⟨⟨fun i w'=>∃ (i':Nat) (s1:Sl),i=i'/\i'<=(q1g l).toNat/\Sp w0 w' (mdL pb mb rb s s0 s1 ⟨none,0,0⟩ l (mC0 l+4*i') R) B Q 4 encC s1 ((Ji i').map (mCh l)),
  fun i _=>(q1g l).toNat-i.toNat,⟨0,⟨none,0,0⟩,rfl,by omega,h⟩,?_⟩⟩
 clear h
 rintro i w1 ⟨i,s1,rfl,hi,h⟩
 unfold z22_b1
 refine q00.2<|⟨fun hlt=>?_,fun hge=>?_⟩
 ·have hlt:i<(q1g l).toNat:=by omega
  intro w2
  replace h:Sp w0 w2 _ _ _ _ _ _ _:=h.drew
  have hS:∀ {u j t} {ls:List Ch},Sp w0 u (mdL pb mb rb s s0 s1 ⟨none,0,0⟩ l j R) B Q 4 encC t ls->Row u pb (prC s0 s1 ⟨none,0,0⟩ (nv l 0 4) (nv l 1 30))/\VI u s0 (q1s l) :=
   fun hu=>⟨hu.row 0,hQ _ hu.q⟩
  refine⟨fun u=>Row u pb (prC s0 s1 ⟨none,0,0⟩ (nv l 0 4) (nv l 1 30))/\VI u s0 (q1s l),hS h,s1,fun u hu=>hu.1.at,s0,fun u hu=>hu.1.at,q3c hv hl h 1 rfl (by omega) (by omega) fun w3 h=>?_⟩
  have q0:=q0s (l:=l) (j:=mC0 l+4*i) (n:=q0v l) (by omega)
  have q1:=q0s (l:=l) (j:=mC0 l+4*i+1) (n:=4) (by decide)
  have hv0:=hQ _ h.q
  have hl0:=hv0.len
  rw[q32] at hl0
  have hil:(nv l (mC0 l+4*i) (q0v l)).toNat<(q1s l).length:=by rw[q32]; omega
  have hel:(q1s l)[(nv l (mC0 l+4*i) (q0v l)).toNat]=(mCh l i).lot:=by
   show _=(q1s l).getD _ 0
   rw[Jx,J1 hil]
   rfl
  obtain⟨ad,hp,_⟩:=hv0.at (fun a=>q05 _ _ a) (J1 hil) (by decide)
  refine⟨hS h,q0b.2 ⟨ad,hp,⟨by omega,by omega⟩,(mCh l i).lot,fun u hu=>?_,q3c hv hl h 1 rfl (by decide) (by decide) fun w4 h=>?_⟩⟩
  ·obtain⟨ad',hp',hc⟩:=hu.2.at (fun a=>q05 _ _ a) (J1 hil) (by decide)
   rw[hp] at hp'
   cases hp'
   have:=hc 0 _ rfl
   rw[hel] at this
   exact this
  refine⟨hS h,q01,q3c hv hl h 1 rfl (by decide) (by decide) fun w5 h=>?_⟩
  refine⟨hS h,q3c hv hl h 1 rfl (by decide) (by decide) fun w6 h=>?_⟩
  refine⟨hS h,?_⟩
  intro w7
  refine⟨hS (h.fr (Fr.alloc:Fr F0 w6 w7)),h.push (a:=mCh l i) rfl rfl q76 rfl (by simp; omega) (by simp; omega) fun r w8 h=>⟨hS h,h.wr 0,?_⟩⟩
  intro w9
  have h:Sp w0 w9 _ _ _ _ _ _ _:=h.set 0
  refine⟨q01,⟨⟨rfl,rfl,rfl,rfl,rfl,trivial⟩,i+1,r,by omega,by omega,?_⟩,by dsimp only; omega⟩
  rw[q3n]
  exact h
 ·have:i=(q1g l).toNat:=by omega
  subst this
  refine q3c hv hl h 1 rfl (by decide) (by decide) fun w2 h=>?_
  exact qlj hv hl (by omega) rfl hR h.next (hB.and (q1t.ow s1 _)) (fun u hu=>⟨hQ u hu.1,hu.2.vw⟩) fun w' s2=>hK w' s1 s2
theorem qll {lots:Int}{K:Sl->Sl->Sl->Int->Int->World->Prop}(hv:VI w0 s l)(hl:l.length<2^63)
  (hlots:lots=q0v l) {a b c d e:Value} (hR:R=[a,b,c,d,e])
  (h:Sp w0 w (mdL pb mb rb s ⟨none,0,0⟩ ⟨none,0,0⟩ ⟨none,0,0⟩ l 3 R) (fun _=>False) (fun _=>True) 1 (ie .i64 (id:Int->Int)) ⟨none,0,0⟩ [])
  (hK:∀ w' s0 s1 s2,Fr F0 w0 w'->PV w' s0 s1 s2 (q3f l)->K s0 s1 s2 (nv l 0 4) (nv l 1 30) w') :
  z22_l0 ⟨rb,0,none⟩ ⟨mb,0,none⟩ ⟨pb,0,none⟩ lots 0 K w:=by
 subst hlots
 have hL:=q26 (l:=l)
 refine⟨⟨fun i w'=>∃ (i':Nat) (s0:Sl),i=i'/\i'<=(q0v l).toNat/\Sp w0 w' (mdL pb mb rb s s0 ⟨none,0,0⟩ ⟨none,0,0⟩ l (3+i') R) (fun _=>False) (fun _=>True) 1 (ie .i64 (id:Int->Int)) s0 ((Ji i').map (mLot l)),
  fun i _=>(q0v l).toNat-i.toNat,⟨0,⟨none,0,0⟩,rfl,by omega,h⟩,?_⟩⟩
 clear h
 rintro i w1 ⟨i,s0,rfl,hi,h⟩
 unfold z22_b0
 refine q00.2<|⟨fun hlt=>?_,fun hge=>?_⟩
 ·have hlt:i<(q0v l).toNat:=by omega
  intro w2
  replace h:Sp w0 w2 _ _ _ _ _ _ _:=h.drew
  have q0:=q0s (l:=l) (j:=3+i) (n:=2) (by decide)
  refine⟨fun u=>Row u pb (prC s0 ⟨none,0,0⟩ ⟨none,0,0⟩ (nv l 0 4) (nv l 1 30)),h.row 0,s0,fun u hu=>hu.at,q01,q01,q3c hv hl h 1 rfl (by omega) (by omega) fun w3 h=>?_⟩
  refine⟨h.row 0,q01,q01,?_⟩
  intro w7
  refine⟨(h.fr (Fr.alloc:Fr F0 w3 w7)).row 0,h.push (a:=mLot l i) rfl rfl (q1y _ _) rfl (by simp; omega) (by simp; omega) fun r w8 h=>⟨h.wr 0,?_⟩⟩
  intro w9
  have h:Sp w0 w9 _ _ _ _ _ _ _:=h.set 0
  refine⟨q01,⟨⟨rfl,rfl,rfl,rfl,trivial⟩,i+1,r,by omega,by omega,?_⟩,by dsimp only; omega⟩
  rw[q3n]
  exact h
 ·have:i=(q0v l).toNat:=by omega
  subst this
  refine q3c hv hl h 1 rfl (by decide) (by decide) fun w2 h=>?_
  have e:3+(q0v l).toNat+1=mC0 l:=by unfold mC0; omega
  rw[e] at h
  exact qlk hv hl rfl rfl hR h.next (q1t.top.and (q1t.ow s0 _)) (fun u hu=>hu.2.vw) fun w' s1 s2=>hK w' s0 s1 s2
theorem qi9 {K:Sl->Sl->Sl->Int->Int->World->Prop}(hv:VI w s l)(hl:l.length<2^63)
  (hK:∀ w' s0 s1 s2,Fr F0 w w'->PV w' s0 s1 s2 (q3f l)->K s0 s1 s2 (q3f l).most (q3f l).budget w'):z22_sh s K w:=by
 refine⟨?_⟩
 intro w1
 have m1:Mem w w1 [(w.heap.size,[.slice none 0 0,.slice none 0 0,.slice none 0 0,.int .i64 0,.int .i64 0])]:=Mem.nil.allocL
 intro w2
 have m2:Mem w w2 [(w1.heap.size,nmC s l 0),(w.heap.size,[.slice none 0 0,.slice none 0 0,.slice none 0 0,.int .i64 0,.int .i64 0])]:=by
  have:nmC s l 0=[.slice s.p s.l s.c,.int .i64 0]:=by simp[nmC]
  rw[this]
  exact m1.allocL
 refine qbo hv hl m2 0 rfl (by decide) (by decide) fun w3 m3 _=>?_
 refine qbo hv hl m3 0 rfl (by decide) (by decide) fun w4 m4 _=>?_
 intro w5
 have m5:Mem w w5 _:=m4.allocL
 refine q6r (Sp.start m5 (n:=1) (enc:=ie .i64 (id:Int->Int))) 0 rfl rfl fun w6 h=>?_
 refine q3c hv hl h 1 rfl (by decide) (by decide) fun w7 h=>?_
 have q0:=q0s (l:=l) (j:=0+1+1) (n:=4) (by decide)
 exact⟨q01,qll hv hl rfl rfl h hK⟩
end
end Go.Proofs.YtfpobpjandjhjaaGreatDoor
namespace Pw
open Go
theorem Row.ow {α:Type}{n:Nat}{enc:α->List Value}{w:World}{b:Nat}{l:List α}(hn:∀ a,(enc a).length=n)(h:Row w b (l.flatMap enc)):Ow n enc w ⟨some ⟨b,0,none⟩,l.length,l.length⟩ l:=by
 refine⟨rfl,?_,.inr ⟨b,_,rfl,h,?_,JW _,?_⟩⟩
 ·simp[q0d hn]
 ·rw[q0d hn]
 ·exact Ja (by rw[q0d hn]; exact JW _)
end Pw
namespace Go.Proofs.YtfpobpjandjhjaaGreatDoor
open Go Pw
section
variable {w w' w0:World}{s t s0 s1 s2:Sl}{p:Pr}{a b:List Int}
theorem qgb {work:Int}{K:Sl->Int->Int->Sl->Int->World->Prop}(hp:q03 p)(h:PV w s0 s1 s2 p)(hw:Wi work 1048576)(hn:(q2g p p.lots:Int)<=work)
  (hK:∀ w' t bnd ns T cs N,V w w' [] [] [] ns t T cs N->q7n p T->bnd=q1r p T->(Tree (upB p) p T N p.lots [] 0 N.length/\(N.length:Int)<=work)->K t (q1r p T) bnd ns 0 w'):z35_sh s0 s1 s2 p.most p.budget work K w:=by
 refine qga h (fun hbad=>?_) fun _ _ w' t pts bnd ns e T cs N hV hS=>?_
 ·rcases hbad with hb | hb
  ·rw[q0f.2 hp] at hb; cases hb
  ·exfalso
   have:wiB work 1048576=true:=by simpa [wiB,Wi] using hw
   rw[this] at hb; cases hb
 ·rcases hS with⟨rfl,h1,rfl,rfl,h2⟩ | ⟨_,_,_,_,_,h2⟩
  ·exact hK w' t _ ns T cs N hV h1 rfl h2
  ·omega
end
end Go.Proofs.YtfpobpjandjhjaaGreatDoor

namespace Pw
section
variable {p:Pr}{m b:Int}
def prB:Nat->Nat
 | 0=>1
 | k+1=>1+13*prB k
theorem qf9 (h:p.ch.length<=12):∀ ls:List Int,q2g p ls<=prB ls.length
 | []=>JW _
 | lot :: ls=>by
  have ih:=qf9 h ls
  have hl:(opts p lot).length<=13:=by
   have:=Go.Proofs.YtfpobpjandjhjaaGreatDoor.optsFrom_len (lot:=lot) p.ch 0
   have:=List.countP_le_length (p:=fun c:Ch=>c.lot == lot) (l:=p.ch)
   simp only[opts,Jq]
   omega
  have:=Nat.mul_le_mul hl ih
  show 1+(opts p lot).length*q2g p ls<=1+13*prB ls.length
  omega
theorem qgc (l:List Int):q2g (q3f l) (q3f l).lots<=30941:=by
 have h1:=q0s (l:=l) (j:=3+(q0v l).toNat) (n:=13) (by decide)
 have h2:=q26 (l:=l)
 have h3:=qf9 (p:=q3f l) (by simp only[q3f,mChL,J9,JL,q1g]; omega) (q3f l).lots
 have h4:(q3f l).lots.length=(q0v l).toNat:=q32
 rw[h4] at h3
 have:(q0v l).toNat=1\/(q0v l).toNat=2\/(q0v l).toNat=3\/(q0v l).toNat=4:=by omega
 refine JX h3 ?_
 rcases this with h | h | h | h<;>rw[h]<;>decide
end
open Go
section
variable {α:Type}{n:Nat}{enc:α->List Value}{w w':World}{s:Sl}{l:List α}
theorem Vw.drop (h:Vw n enc w s l)(hn:∀ a,(enc a).length=n){j:Nat}(hj:j<=l.length):Vw n enc w ⟨subP s.p j s.c n,s.l-j,s.c-j⟩ (l.drop j):=by
 have hl:=h.len
 have hc:=h.cap
 refine⟨by simp; omega,by simp; omega,?_⟩
 have hlen:((l.drop j).flatMap enc).length=(s.l-j)*n:=by rw[q0d hn,JO,hl]
 refine⟨hlen,?_⟩
 obtain⟨h1,h2⟩:=h.rd
 have hpre:(l.drop j).flatMap enc=(l.flatMap enc).drop (j*n):=by
  have h3:l.flatMap enc=(l.take j).flatMap enc++(l.drop j).flatMap enc:=by rw[← List.flatMap_append,List.take_append_drop]
  have h4:((l.take j).flatMap enc).length=j*n:=by rw[q0d hn]; simp; rw[JY hj]
  rw[h3,← h4,List.drop_left']
  rfl
 by_cases he:s.c=j
 ·have e0:s.l-j=0:=by omega
  have hsp:subP s.p j s.c n=s.p:=if_pos he
  rw[hsp,e0,Q3]
  rw[e0,Q3] at hlen
  cases s.p with
  | none=>rfl
  | some a=>intro i hi; rw[hlen] at hi; omega
 ·have hsp:subP s.p j s.c n=s.p.map (·.add (j*n)):=if_neg he
  rw[hsp]
  cases hs:s.p with
  | none =>
   rw[hs] at h2
   simp only[Option.map_none] at h2 ⊢
   rw[hl] at h2
   rcases Nat.mul_eq_zero.1 h2 with h | h
   ·rw[hl,h]; simp
   ·rw[h]; simp
  | some a =>
   rw[hs] at h2
   simp only[Option.map_some] at h2 ⊢
   intro i hi
   rw[hlen] at hi
   have hm:j*n+(s.l-j)*n=s.l*n:=by rw[← Q7]; congr 1; omega
   have h3:=h2 (j*n+i) (by rw[h1]; omega)
   rw[qgt,h3]
   congr 1
   have h4:((l.drop j).flatMap enc)[i]?=((l.flatMap enc).drop (j*n))[i]?:=by rw[hpre]
   rw[Jr,J1 (by rw[hlen]; exact hi),J1 (by rw[h1]; omega)] at h4
   exact(Option.some.inj h4).symm
theorem Sp.empty {w0:World}{L:List (Nat × List Value)}{e:TypeId}(hn:∀ a,(enc a).length=n)(h:Mem w0 w L):Sp w0 (w.alloc (Obj.cells #[] e)) L (fun _=>False) (fun _=>True) n enc ⟨some ⟨w.heap.size,0,none⟩,0,0⟩ ([]:List α):=by
 refine⟨h.fr Fr.alloc,q1t.top,trivial,fun _ hb=>hb.elim,Row.ow hn (l:=([]:List α)) Row.new,fun b ⟨a,ha,hb⟩=>?_⟩
 cases ha
 subst hb
 exact⟨h.1.1,fun h=>h,fun p hp e=>by have:=(h.2.1 p hp).lt; simp only at e; omega⟩
end
end Pw
namespace Go.Proofs.YtfpobpjandjhjaaGreatDoor
open Go Pw
section
variable {w wB:World}{s x s0 s1 s2:Sl}{l dl:List Int}{p:Pr}{pb db:Nat}
theorem q31 {n:Int}{K:Bool->World->Prop}(hv:VI w s l)(hl:l.length<2^62)(hK:K (decide (n∈l)) w):z0m_sh s n K w:=by
 have hlen:=hv.len
 refine⟨⟨⟨fun i w'=>∃ i':Nat,i=i'/\i'<=l.length/\w'=w/\n ∉ l.take i',fun i _=>l.length-i.toNat,⟨0,rfl,by omega,rfl,by simp⟩,?_⟩⟩⟩
 rintro i w1 ⟨i,rfl,hi,rfl,hno⟩
 unfold z0m_b0
 refine q00.2<|⟨fun hlt=>?_,fun hge=>?_⟩
 ·have hlt:i<l.length:=by omega
  refine VI.ld hv i rfl hlt<|q09.2<|⟨fun he=>?_,fun hne=>⟨q01,⟨⟨rfl,rfl,trivial⟩,i+1,by omega,by omega,rfl,?_⟩,by dsimp only; omega⟩⟩
  ·rwa [decide_eq_true (he ▸ Jb hlt)] at hK
  ·rw[q08 hlt,Jj,J8]
   rintro (h | h)
   ·exact hno h
   ·exact hne h.symm
 ·have:i=l.length:=by omega
  subst this
  rw[J5] at hno
  rwa [decide_eq_false hno] at hK
theorem q5h {K:Bool->World->Prop}(hv:VI w s l)(hl:l.length<2^62)(hK:∀ w',Fr F0 w w'->K (decide l.Nodup) w'):z0f_sh s K w:=by
 have hlen:=hv.len
 have hcap:=hv.cap
 refine⟨⟨⟨fun i w'=>∃ i':Nat,i=i'/\i'<=l.length/\Fr F0 w w'/\(l.take i').Nodup,fun i _=>l.length-i.toNat,⟨0,rfl,by omega,Fr.refl,by simp⟩,?_⟩⟩⟩
 rintro i w1 ⟨i,rfl,hi,hf,hnd⟩
 unfold z0f_b0
 refine q00.2<|⟨fun hlt=>?_,fun hge=>?_⟩
 ·have hlt:i<l.length:=by omega
  intro w2
  have hf2:Fr F0 w w2:=hf.t Fr.drew
  have hts:=q08 hlt
  refine⟨fun u=>VI u s l,hv.fr hf2,⟨by omega,by omega,by omega⟩,?_⟩
  obtain⟨ad,hp,_⟩:=hv.at (fun a=>q05 _ _ a) (J1 hlt) (by decide)
  refine q0b.2 ⟨ad,hp,⟨by omega,by omega⟩,l[i],fun u hu=>?_,?_⟩
  ·obtain⟨ad',hp',hc⟩:=hu.at (fun a=>q05 _ _ a) (J1 hlt) (by decide)
   rw[hp] at hp'
   cases hp'
   exact hc 0 _ rfl
  ·refine q31 (l:=l.take (i:Int).toNat) ((hv.fr hf2).take (fun a=>q05 _ _ a) (j:=(i:Int).toNat) (by omega)) (by simp; omega) ?_
   rw[JU]
   refine q02.2 ⟨fun h=>?_,fun h=>⟨q01,⟨⟨rfl,trivial⟩,i+1,by omega,by omega,hf2,?_⟩,by dsimp only; omega⟩⟩
   ·have hk:=hK w2 hf2
    rwa [decide_eq_false] at hk
    intro hn
    have hn':(l.take (i+1)).Nodup:=hn.sublist (List.take_sublist _ _)
    rw[hts,JM] at hn'
    exact hn'.2.2 _ (of_decide_eq_true h) _ (J8.2 rfl) rfl
   ·rw[hts,JM]
    refine⟨hnd,by simp,fun a ha b hb=>?_⟩
    rw[J8] at hb
    subst hb
    rintro rfl
    exact of_decide_eq_false h ha
 ·have:i=l.length:=by omega
  subst this
  rw[J5] at hnd
  have hk:=hK w1 hf
  rwa [decide_eq_true hnd] at hk
theorem q2q {n m:Int}{K:Bool->World->Prop}(hK:K (wiB n m) w):z1c_sh n m K w:=by
 refine⟨q00.2 ?_⟩
 refine⟨fun h=>?_,fun h=>?_⟩
 ·have e:wiB n m=decide (n<=m):=by simp[wiB,h]
  rwa [e] at hK
 ·have e:wiB n m=false:=by
   cases hb:wiB n m with
   | false=>rfl
   | true=>exact absurd (q2k.1 hb).1 h
  rwa [e] at hK
theorem qk7 {i:Int}{A B:Value}{N1:Addr->Int->World->Prop}{K:Bool->World->Prop}(hP:PV wB s0 s1 s2 p)(hpr:Row w pb (prC s0 s1 s2 p.most p.budget))(hdr:Row w db [A,.slice x.p x.l x.c,B])(hv:VI w x dl)(hl:dl.length<2^40)(hB:Fr F0 wB w)
  (hF:(∃ y∈dl,y ∉ p.lots)->∀ w',Fr F0 w w'->K false w') (hT:(∀ y∈dl,y∈p.lots)->∀ w',Fr F0 w w'->inR .i64 (i+1)/\N1 ⟨pb,0,none⟩ (i+1) w'):z1q_l2 ⟨pb,0,none⟩ i ⟨db,0,none⟩ 0 N1 K w:=by
 have hlen:=hv.len
 have hl0:=hP.l0
 refine⟨⟨fun k w'=>∃ k':Nat,k=k'/\k'<=dl.length/\Fr F0 w w'/\∀ y∈dl.take k',y∈p.lots,fun k _=>dl.length-k.toNat,⟨0,rfl,by omega,Fr.refl,by simp⟩,?_⟩⟩
 rintro k w1 ⟨k,rfl,hk,hf,hin⟩
 unfold z1q_b2
 refine⟨x,(hf.row hdr fun h=>h).at rfl,q00.2 ?_⟩
 refine⟨fun hlt=>?_,fun hge=>?_⟩
 ·have hlt:k<dl.length:=by omega
  intro w2
  have hf2:Fr F0 w w2:=hf.t Fr.drew
  have hS:∀ {u},Fr F0 w u->(Row u pb (prC s0 s1 s2 p.most p.budget)/\Row u db [A,.slice x.p x.l x.c,B])/\VI u x dl:=fun hu=>⟨⟨hu.row hpr fun h=>h,hu.row hdr fun h=>h⟩,hv.fr hu⟩
  refine⟨fun u=>(Row u pb (prC s0 s1 s2 p.most p.budget)/\Row u db [A,.slice x.p x.l x.c,B])/\VI u x dl,hS hf2,s0,fun u hu=>hu.1.1.at,x,fun u hu=>hu.1.2.at,?_⟩
  obtain⟨ad,hp,_⟩:=hv.at (fun a=>q05 _ _ a) (J1 hlt) (by decide)
  refine q0b.2 ⟨ad,hp,⟨by omega,by omega⟩,dl[k],fun u hu=>?_,?_⟩
  ·obtain⟨ad',hp',hc⟩:=hu.2.at (fun a=>q05 _ _ a) (J1 hlt) (by decide)
   rw[hp] at hp'
   cases hp'
   exact hc 0 _ rfl
  ·refine q31 (hP.fr (hB.t hf2)).lots (by omega) ⟨hS hf2,q02.2 ⟨fun h=>?_,fun h=>⟨q01,⟨⟨rfl,rfl,rfl,trivial⟩,k+1,by omega,by omega,hf2,?_⟩,by dsimp only; omega⟩⟩⟩
   ·exact hF ⟨dl[k],Jb hlt,by simpa using h⟩ w2 hf2
   ·rw[q08 hlt]
    intro y hy
    rcases Jj.1 hy with hy | hy
    ·exact hin y hy
    ·rw[J8] at hy
     subst hy
     simpa using h
 ·have:k=dl.length:=by omega
  subst this
  rw[J5] at hin
  exact hT hin w1 hf
theorem qk8 {K:Bool->World->Prop}(hP:PV wB s0 s1 s2 p)(hB:Fr F0 wB w)(hpr:Row w pb (prC s0 s1 s2 p.most p.budget))(hl2:p.de.length<=100)
  (hF:(∃ d∈p.de,deB p d=false)->∀ w',Fr F0 w w'->K false w') (hT:(∀ d∈p.de,deB p d=true)->∀ w',Fr F0 w w'->K true w'):z1q_l1 ⟨pb,0,none⟩ 0 K w:=by
 obtain⟨dc,hd,hm,hx⟩:=hP.de
 have hdl:=hd.len
 have hlm:dc.length=p.de.length:=by rw[← hm,J9]
 refine⟨⟨fun i w'=>∃ i':Nat,i=i'/\i'<=dc.length/\Fr F0 w w'/\∀ x∈dc.take i',deB p x.1=true,fun i _=>dc.length-i.toNat,⟨0,rfl,by omega,Fr.refl,by simp⟩,?_⟩⟩
 rintro i w1 ⟨i,rfl,hi,hf,hin⟩
 unfold z1q_b1
 have hpr1:=hf.row hpr fun h=>h
 refine⟨s2,hpr1.at,q00.2 ?_⟩
 refine⟨fun hlt=>?_,fun hge=>?_⟩
 ·have hlt:i<dc.length:=by omega
  refine⟨s2,hpr1.at,?_⟩
  have hdv:=hd.fr (hB.t hf)
  obtain⟨ad,hp,hc⟩:=hdv.at (fun a=>q2i a) (J1 hlt) (by decide)
  refine q0b.2 ⟨ad,hp,⟨by omega,by omega⟩,_,hc 0 _ rfl,dc[i].2,hc 1 _ rfl,_,hc 2 _ rfl,?_⟩
  have hmem:dc[i]∈dc:=Jb hlt
  have hmemp:dc[i].1∈p.de:=hm ▸ Jw hmem
  obtain⟨hxv,hxl⟩:=hx _ hmem
  have hbad:deB p dc[i].1=false->∀ w',Fr F0 w1 w'->K false w':=fun h w' hw=>hF ⟨_,hmemp,h⟩ w' (hf.t hw)
  refine q19 (w0:=w1) (l:=[]) rfl Mem.nil fun w41 m=>⟨dc[i].2,m.ld 0,?_⟩
  have hvl:=(hxv.fr ((hB.t hf).t m.1)).len
  refine q09.2<|⟨fun h=>hbad ?_ _ m.1,fun h=>⟨dc[i].2,m.ld 0,q5h (hxv.fr ((hB.t hf).t m.1)) (by omega) fun w44 hf44=>?_⟩⟩
  ·have:dc[i].1.lots.length=0:=by omega
   unfold deB
   rw[this]
   rfl
  have m:=m.fr hf44
  have hne:0<dc[i].1.lots.length:=by omega
  refine q02.2 ⟨fun h=>hbad ?_ _ m.1,fun h=>⟨_,m.ld 0,q2q ?_⟩⟩
  ·have h':decide dc[i].1.lots.Nodup=false:=by simpa using h
   unfold deB
   rw[h']
   simp
  have hnd:decide dc[i].1.lots.Nodup=true:=by simpa using h
  refine q02.2 ⟨fun h=>hbad ?_ _ m.1,fun h=>?_⟩
  ·have h':wiB dc[i].1.off 1000000000=false:=by simpa using h
   unfold deB
   rw[h']
   simp
  have hwi:wiB dc[i].1.off 1000000000=true:=by simpa using h
  refine qk7 (hP.fr ((hB.t hf).t m.1)) ((hf.t m.1).row hpr fun h=>h) (m.row 0) (hxv.fr ((hB.t hf).t m.1)) hxl Fr.refl (fun⟨y,hy,hno⟩ w' hw=>hbad ?_ _ (m.1.t hw)) fun hall w' hw=>⟨q01,⟨⟨rfl,trivial⟩,i+1,by omega,by omega,hf.t (m.1.t hw),?_⟩,by dsimp only; omega⟩
  ·have:dc[i].1.lots.all (fun x=>decide (x∈p.lots))=false:=by
    rw[JN]
    exact⟨y,hy,by simpa using hno⟩
   unfold deB
   rw[this]
   simp
  ·rw[q08 hlt]
   intro z hz
   rcases Jj.1 hz with hz | hz
   ·exact hin z hz
   ·rw[J8] at hz
    subst hz
    have:dc[i].1.lots.all (fun x=>decide (x∈p.lots))=true:=by
     rw[Jv]
     exact fun y hy=>decide_eq_true (hall y hy)
    unfold deB
    rw[this,hnd,hwi]
    simp[hne]
 ·have:i=dc.length:=by omega
  subst this
  rw[J5] at hin
  refine hT (fun d hd'=>?_) w1 hf
  rw[← hm] at hd'
  obtain⟨y,hy,rfl⟩:=JP.1 hd'
  exact hin y hy
theorem qk9 {K:Bool->World->Prop}(hP:PV wB s0 s1 s2 p)(hB:Fr F0 wB w)(hpr:Row w pb (prC s0 s1 s2 p.most p.budget))(hl1:p.ch.length<=480)(hl2:p.de.length<=100)
  (hF:(∃ c∈p.ch,chB p c=false)\/(∃ d∈p.de,deB p d=false)->∀ w',Fr F0 w w'->K false w') (hT:(∀ c∈p.ch,chB p c=true)->(∀ d∈p.de,deB p d=true)->∀ w',Fr F0 w w'->K true w'):z1q_l0 ⟨pb,0,none⟩ 0 K w:=by
 have hcl:=hP.ch.len
 have hl0:=hP.l0
 refine⟨⟨fun i w'=>∃ i':Nat,i=i'/\i'<=p.ch.length/\Fr F0 w w'/\∀ x∈p.ch.take i',chB p x=true,fun i _=>p.ch.length-i.toNat,⟨0,rfl,by omega,Fr.refl,by simp⟩,?_⟩⟩
 rintro i w1 ⟨i,rfl,hi,hf,hin⟩
 unfold z1q_b0
 have hpr1:=hf.row hpr fun h=>h
 refine⟨s1,hpr1.at,q00.2 ?_⟩
 refine⟨fun hlt=>?_,fun hge=>?_⟩
 ·have hlt:i<p.ch.length:=by omega
  refine⟨s1,hpr1.at,VC.ld (hP.fr (hB.t hf)).ch i rfl hlt fun a hc=>?_⟩
  obtain⟨c0,c1,c2,c3⟩:=hc w1 Fr.refl
  refine⟨_,c0,_,c1,_,c2,_,c3,?_⟩
  have hmem:p.ch[i]∈p.ch:=Jb hlt
  have hbad:chB p p.ch[i]=false->∀ w',Fr F0 w1 w'->K false w':=fun h w' hw=>hF (.inl ⟨_,hmem,h⟩) w' (hf.t hw)
  refine q19 (w0:=w1) (l:=[]) rfl Mem.nil fun w23 m=>⟨s0,(m.1.row hpr1 fun h=>h).at rfl,_,m.ld 0,q31 (hP.fr ((hB.t hf).t m.1)).lots (by omega) ?_⟩
  refine q02.2 ⟨fun h=>hbad ?_ _ m.1,fun h=>⟨_,m.ld 0,q2q ?_⟩⟩
  ·have h':decide (p.ch[i].lot∈p.lots)=false:=by simpa using h
   unfold chB
   rw[h']
   rfl
  have h1:decide (p.ch[i].lot∈p.lots)=true:=by simpa using h
  refine q02.2 ⟨fun h=>hbad ?_ _ m.1,fun h=>⟨_,m.ld 0,q2q ?_⟩⟩
  ·have h':wiB p.ch[i].price 1000000000=false:=by simpa using h
   unfold chB
   rw[h']
   simp
  have h2:wiB p.ch[i].price 1000000000=true:=by simpa using h
  refine q02.2 ⟨fun h=>hbad ?_ _ m.1,fun h=>⟨q01,⟨⟨rfl,trivial⟩,i+1,by omega,by omega,hf.t m.1,?_⟩,by dsimp only; omega⟩⟩
  ·have h':wiB p.ch[i].pts 1000000=false:=by simpa using h
   unfold chB
   rw[h']
   simp
  ·rw[q08 hlt]
   intro z hz
   rcases Jj.1 hz with hz | hz
   ·exact hin z hz
   ·rw[J8] at hz
    subst hz
    have h3:wiB p.ch[i].pts 1000000=true:=by simpa using h
    unfold chB
    rw[h1,h2,h3]
    rfl
 ·have:i=p.ch.length:=by omega
  subst this
  rw[J5] at hin
  exact qk8 hP (hB.t hf) hpr1 hl2 (fun h w' hw=>hF (.inr h) w' (hf.t hw)) fun h w' hw=>hT hin h w' (hf.t hw)
theorem q47 {K:Bool->World->Prop}(hP:PV w s0 s1 s2 p)(hK:∀ w',Fr F0 w w'->K (q0g p) w'):z1q_sh s0 s1 s2 p.most p.budget K w:=by
 have e0:=hP.lots.len
 have e1:=hP.ch.len
 obtain⟨dc,hd,hm,_⟩:=hP.de
 have e2:=hd.len
 have hlm:dc.length=p.de.length:=by rw[← hm,J9]
 have hl0:=hP.l0
 have hF:¬q03 p->∀ w',Fr F0 w w'->K false w':=fun h w' hw=>by
  have:=hK w' hw
  cases hb:q0g p with
  | false=>rwa [hb] at this
  | true=>exact absurd (q0f.1 hb) h
 refine⟨?_⟩
 intro w1
 have m:Mem w w1 _:=Mem.nil.allocL
 clear_value w1
 refine⟨s0,m.ld 0,q00.2 ?_⟩
 refine⟨fun h=>hF (fun r=>by have:=r.some; omega) _ m.1,fun h1=>⟨s0,m.ld 0,q00.2 ?_⟩⟩
 refine⟨fun h=>hF (fun r=>by have:=r.few; omega) _ m.1,fun h2=>⟨s0,m.ld 0,q5h (hP.fr m.1).lots (by omega) fun w5 hf=>?_⟩⟩
 have m:=m.fr hf
 refine q02.2 ⟨fun h=>hF (fun r=>by have:=r.diff; simp[this] at h) _ m.1,fun h3=>⟨s1,m.ld 0,q00.2 ?_⟩⟩
 refine⟨fun h=>hF (fun r=>by have:=r.chs; omega) _ m.1,fun h4=>⟨s2,m.ld 0,q00.2 ?_⟩⟩
 refine⟨fun h=>hF (fun r=>by have:=r.des; omega) _ m.1,fun h5=>⟨_,m.ld 0,q2q ?_⟩⟩
 refine q02.2 ⟨fun h=>hF (fun r=>by have:=q2k.2 r.most; simp[this] at h) _ m.1,fun h6=>⟨_,m.ld 0,q2q ?_⟩⟩
 refine q02.2 ⟨fun h=>hF (fun r=>by have:=q2k.2 r.budget; simp[this] at h) _ m.1,fun h7=>qk9 (hP.fr m.1) Fr.refl (m.row 0) (by omega) (by omega) (fun h w' hw=>hF (fun r=>?_) _ (m.1.t hw)) fun hc hd w' hw=>?_⟩
 ·have hr:=q0f.2 r
  unfold q0g at hr
  simp only[Bool.and_eq_true,Jv] at hr
  obtain⟨_,_,_,_,_,_,_,hcs,hds⟩:=hr
  rcases h with⟨c,hc,h⟩ | ⟨d,hd,h⟩
  ·rw[hcs c hc] at h; cases h
  ·rw[hds d hd] at h; cases h
 ·have:q0g p=true:=by
   unfold q0g
   simp only[Bool.and_eq_true,Jv,decide_eq_true_eq]
   exact⟨by omega,by omega,by simpa using h3,by omega,by omega,by simpa using h6,by simpa using h7,hc,hd⟩
  have hk:=hK w' (m.1.t hw)
  rwa [this] at hk
end
open Go Pw
section
variable {w wB:World}{s x s0 s1 s2 s5:Sl}{l dl f:List Int}{p:Pr}{pb db:Nat}
theorem q2e:∀ (ls f:List Int) (i:Nat),Decs p ls f->Decs p ls (f.take i)
 | _,_,0,_=>by simp[Decs]
 | _,[],_+1,_=>by simp[Decs]
 | [],_ :: _,_+1,h=>h.elim
 | _ :: ls,_ :: f,i+1,h=>by
  rw[List.take_succ_cons]
  exact⟨h.1,q2e ls f i h.2⟩
theorem q5i {K:Bool->World->Prop}(h:PF w s0 s1 s2 s5 p f)(hK:∀ w',Fr F0 w w'->K (q4f p p.lots f) w'):z1a_sh s0 s1 s2 p.most p.budget s5 K w:=by
 have el:=h.tk.len
 have hlt:=h.lt
 have e0:=h.pv.lots.len
 have e1:=h.pv.ch.len
 have hF:¬Decs p p.lots f->∀ w',Fr F0 w w'->K false w':=fun hn w' hw=>by
  have:=hK w' hw
  cases hb:q4f p p.lots f with
  | false=>rwa [hb] at this
  | true=>exact absurd (q1b.1 hb) hn
 refine⟨?_⟩
 intro w1
 have m:Mem w w1 _:=Mem.nil.allocL
 have hpr:=m.row 0
 refine⟨s0,m.ld 0,q00.2 ?_⟩
 refine⟨fun hg=>hF (fun hd=>by have:=q1n hd; omega) _ m.1,fun hle=>⟨⟨fun i w'=>∃ i':Nat,i=i'/\i'<=f.length/\Fr F0 w1 w'/\∀ j lot n,j<i'->p.lots[j]?=some lot->f[j]?=some n->Dec p lot n,fun i _=>f.length-i.toNat,⟨0,rfl,by omega,Fr.refl,fun j _ _ hj=>by omega⟩,?_⟩⟩⟩
 rintro i w2 ⟨i,rfl,hi,hf,hin⟩
 unfold z1a_b0
 refine q00.2<|⟨fun hlt=>?_,fun hge=>?_⟩
 ·have hif:i<f.length:=by omega
  have hil:i<p.lots.length:=by omega
  intro w3
  have hf3:Fr F0 w1 w3:=hf.t Fr.drew
  have hfw:=m.1.t hf3
  have h3:=h.fr hfw
  have hp3:=hf3.row hpr fun h=>h
  have hbad:¬Dec p p.lots[i] f[i]->K false w3:=fun hn=>hF (fun hd=>hn (by obtain⟨_,q⟩:=q39 hd hif; exact q)) _ hfw
  refine VI.ld h3.tk i rfl hif<|q00.2<|⟨fun hc=>hbad fun q=>?_,fun hc1=>VI.ld h3.tk i rfl hif ⟨s1,hp3.at,?_⟩⟩
  ·rcases q with q | ⟨c,q,_⟩
   ·omega
   ·have:=(q1i q).1; omega
  refine q00.2<|⟨fun hc=>hbad fun q=>?_,fun hc2=>VI.ld h3.tk i rfl hif ?_⟩
  ·rcases q with q | ⟨c,q,_⟩
   ·omega
   ·obtain⟨_,q2,_⟩:=q1i q; omega
  refine q00.2 ?_
  have hnext:Dec p p.lots[i] f[i]->∀ j lot n,j<i+1->p.lots[j]?=some lot->f[j]?=some n->Dec p lot n:=fun q j lot n hj h1 h2=>by
   rcases Nat.lt_succ_iff_lt_or_eq.1 hj with hj | rfl
   ·exact hin j lot n hj h1 h2
   ·rw[J1 hil] at h1
    rw[J1 hif] at h2
    cases h1
    cases h2
    exact q
  refine⟨fun hc3=>⟨s1,hp3.at,VI.ld h3.tk i rfl hif ?_⟩,fun hc3=>⟨q01,⟨⟨rfl,rfl,trivial⟩,i+1,by omega,by omega,hf3,hnext (.inl (by omega))⟩,by dsimp only; omega⟩⟩
  have hci:f[i].toNat<p.ch.length:=by omega
  have hcast:f[i]=(f[i].toNat:Int):=by omega
  refine VC.ld h3.pv.ch f[i].toNat hcast hci fun a hc=>?_
  obtain⟨c0,_,_,_⟩:=hc w3 Fr.refl
  refine⟨_,c0,s0,hp3.at,VI.ld h3.pv.lots i rfl hil ?_⟩
  have hca:=q2n hc3 hci
  refine q0u.2<|⟨fun hne=>hbad fun q=>?_,fun he=>⟨q01,⟨⟨rfl,rfl,trivial⟩,i+1,by omega,by omega,hf3,hnext (.inr ⟨_,hca,he⟩)⟩,by dsimp only; omega⟩⟩
  rcases q with q | ⟨c,q,q2⟩
  ·omega
  ·rw[hca] at q
   cases q
   exact hne q2
 ·have:i=f.length:=by omega
  subst this
  have hd:Decs p p.lots f:=(q57 (by omega)).2 fun j lot n h1 h2=>hin j lot n (J6.1 h2).1 h1 h2
  have hk:=hK w2 (m.1.t hf)
  rwa [q1b.2 hd] at hk
theorem may_at (hp:q03 p){i:Nat}(hi:i<p.lots.length)(b:Int):may p f b p.lots[i]=match f[i]? with
  | some n=>(match chAt p n with | some c=>c.bid == b | none=>false)
  | none=>p.ch.any fun c=>c.lot == p.lots[i] && c.bid == b:=by
 have e:p.lots.idxOf p.lots[i]=i:=by
  have h1:p.lots.idxOf p.lots[i]<p.lots.length:=List.idxOf_lt_length_of_mem (Jb hi)
  have h2:p.lots[p.lots.idxOf p.lots[i]]=p.lots[i]:=List.getElem_idxOf h1
  exact(List.getElem_inj hp.diff).1 h2
 unfold may
 rw[e]
 cases f[i]? with
 | none=>rfl
 | some n=>cases chAt p n<;>rfl
theorem q60 {i:Nat}{b:Bool}{N0:Sl->Addr->Addr->Int->World->Prop}{K:Bool->World->Prop}(hi:i<100)(hF:b=false->K false w)(hT:b=true->N0 s5 ⟨pb,0,none⟩ ⟨db,0,none⟩ ((i:Int)+1) w) :
  z0n_k2 s5 ⟨pb,0,none⟩ ⟨db,0,none⟩ i b N0 K w:=by
 exact⟨q02.2 ⟨fun h=>hF (by simpa using h),fun h=>⟨q01,hT (by simpa using h)⟩⟩⟩
theorem qe1 {i:Nat}{d:De}{N0:Sl->Addr->Addr->Int->World->Prop}{K:Bool->World->Prop}(hp:q03 p)(h:PF wB s0 s1 s2 s5 p f)(hB:Fr F0 wB w)(hi:i<p.lots.length)
  (hpr:Row w pb (prC s0 s1 s2 p.most p.budget)) (hdr:Row w db [.int .i64 d.bid,.slice x.p x.l x.c,.int .i64 d.off])
  (hF:(p.ch.any fun c=>c.lot == p.lots[i] && c.bid == d.bid)=false->∀ w',Fr F0 w w'->K false w') (hT:(p.ch.any fun c=>c.lot == p.lots[i] && c.bid == d.bid)=true->∀ w',Fr F0 w w'->N0 s5 ⟨pb,0,none⟩ ⟨db,0,none⟩ ((i:Int)+1) w') :
  z0n_l1 s5 ⟨pb,0,none⟩ ⟨db,0,none⟩ i false 0 N0 K w:=by
 have e1:=h.pv.ch.len
 have hch:=hp.chs
 have hfew:=hp.few
 refine⟨⟨fun b k w'=>∃ k':Nat,k=k'/\k'<=p.ch.length/\Fr F0 w w'/\b=(p.ch.take k').any fun c=>c.lot == p.lots[i] && c.bid == d.bid,fun _ k _=>p.ch.length-k.toNat,⟨0,rfl,by omega,Fr.refl,by simp⟩,?_⟩⟩
 rintro b k w1 ⟨k,rfl,hk,hf,hb⟩
 unfold z0n_b1
 refine⟨s1,(hf.row hpr fun h=>h).at rfl,q00.2 ?_⟩
 refine⟨fun hlt=>?_,fun hge=>?_⟩
 ·have hlt:k<p.ch.length:=by omega
  have hts:=q08 hlt
  intro w2
  have hf2:Fr F0 w w2:=hf.t Fr.drew
  have hp2:=hf2.row hpr fun h=>h
  have h2:=h.fr (hB.t hf2)
  have hany:(p.ch.take (k+1)).any (fun c=>c.lot == p.lots[i] && c.bid == d.bid)=(b || (p.ch[k].lot == p.lots[i] && p.ch[k].bid == d.bid)):=by
   rw[hts,List.any_append,← hb]
   simp
  refine q02.2 ⟨fun ht=>⟨q01,⟨⟨rfl,rfl,rfl,rfl,trivial⟩,k+1,by omega,by omega,hf2,by rw[hany,ht]; rfl⟩,by dsimp only; omega⟩,fun hfa=>⟨s1,hp2.at,VC.ld h2.pv.ch k rfl hlt fun a hc=>?_⟩⟩
  obtain⟨c0,c1,_,_⟩:=hc w2 Fr.refl
  refine⟨_,c0,s0,hp2.at,VI.ld h2.pv.lots i rfl hi ?_⟩
  refine q09.2<|⟨fun he=>⟨s1,hp2.at,VC.ld h2.pv.ch k rfl hlt fun a hc=>?_⟩,fun hne=>⟨q01,⟨⟨rfl,rfl,rfl,rfl,trivial⟩,k+1,by omega,by omega,hf2,?_⟩,by dsimp only; omega⟩⟩
  ·obtain⟨_,c1,_,_⟩:=hc w2 Fr.refl
   refine⟨_,c1,_,(hf2.row hdr fun h=>h).at rfl,q01,⟨⟨rfl,rfl,rfl,rfl,trivial⟩,k+1,by omega,by omega,hf2,?_⟩,by dsimp only; omega⟩
   rw[hany,hfa,he]
   simp
  ·rw[hany,hfa]
   simp[hne]
 ·have:k=p.ch.length:=by omega
  subst this
  rw[J5] at hb
  exact q60 (by omega) (fun h=>hF (hb ▸ h) w1 hf) fun h=>hT (hb ▸ h) w1 hf
theorem qbp {d:De}{K:Bool->World->Prop}(hp:q03 p)(h:PF w s0 s1 s2 s5 p f)(hd:Decs p p.lots f)(hdm:d∈p.de)(hv:VI w x d.lots)(hl:d.lots.length<2^40)(hK:∀ w',Fr F0 w w'->K (d.lots.all (may p f d.bid)) w') :
  z0n_sh s0 s1 s2 p.most p.budget s5 d.bid x d.off K w:=by
 have el:=h.tk.len
 have hfew:=hp.few
 have hfl:=q1n hd
 have e0:=h.pv.lots.len
 have hF:(∃ y∈d.lots,may p f d.bid y=false)->∀ w',Fr F0 w w'->K false w':=fun⟨y,hy,hn⟩ w' hw=>by
  have:=hK w' hw
  have e:d.lots.all (may p f d.bid)=false:=JN.2 ⟨y,hy,by simp[hn]⟩
  rwa [e] at this
 refine⟨?_⟩
 intro w1
 have m:Mem w w1 _:=Mem.nil.allocL
 intro w2
 have m:Mem w w2 _:=m.allocL
 have hpr:=m.row 1
 have hdr:=m.row 0
 refine⟨⟨fun i w'=>∃ i':Nat,i=i'/\i'<=p.lots.length/\Fr F0 w2 w'/\∀ y∈d.lots,y∈p.lots.take i'->may p f d.bid y=true,fun i _=>p.lots.length-i.toNat,⟨0,rfl,by omega,Fr.refl,fun y _ hy=>by simp at hy⟩,?_⟩⟩
 rintro i w3 ⟨i,rfl,hi,hf,hin⟩
 unfold z0n_b0
 refine⟨s0,(hf.row hpr fun h=>h).at rfl,q00.2 ?_⟩
 refine⟨fun hlt=>?_,fun hge=>?_⟩
 ·have hil:i<p.lots.length:=by omega
  have hts:=q08 hil
  intro w4
  have hf4:Fr F0 w2 w4:=hf.t Fr.drew
  have hS:∀ {u},Fr F0 w2 u->(Row u w.heap.size (prC s0 s1 s2 p.most p.budget)/\Row u w1.heap.size [.int .i64 d.bid,.slice x.p x.l x.c,.int .i64 d.off])/\VI u s0 p.lots:=fun hu=>⟨⟨hu.row hpr fun h=>h,hu.row hdr fun h=>h⟩,h.pv.lots.fr (m.1.t hu)⟩
  have hw4:=m.1.t hf4
  refine⟨fun u=>(Row u w.heap.size (prC s0 s1 s2 p.most p.budget)/\Row u w1.heap.size [.int .i64 d.bid,.slice x.p x.l x.c,.int .i64 d.off])/\VI u s0 p.lots,hS hf4,x,fun u hu=>hu.1.2.at,s0,fun u hu=>hu.1.1.at,?_⟩
  obtain⟨ad,hp',_⟩:=(h.pv.lots.fr hw4).at (fun a=>q05 _ _ a) (J1 hil) (by decide)
  refine q0b.2 ⟨ad,hp',⟨by omega,by omega⟩,p.lots[i],fun u hu=>?_,?_⟩
  ·obtain⟨ad',hp'',hc⟩:=hu.2.at (fun a=>q05 _ _ a) (J1 hil) (by decide)
   rw[hp'] at hp''
   cases hp''
   exact hc 0 _ rfl
  refine q31 (hv.fr hw4) (by omega) ⟨hS hf4,?_⟩
  have hnext:(p.lots[i]∈d.lots->may p f d.bid p.lots[i]=true)->∀ y∈d.lots,y∈p.lots.take (i+1)->may p f d.bid y=true:=fun q y hy hm=>by
   rw[hts,Jj,J8] at hm
   rcases hm with hm | rfl
   ·exact hin y hy hm
   ·exact q hy
  refine q02.2 ⟨fun hno=>⟨q01,⟨⟨rfl,rfl,rfl,trivial⟩,i+1,by omega,by omega,hf4,hnext fun hm=>?_⟩,by dsimp only; omega⟩,fun hyes=>?_⟩
  ·simp[hm] at hno
  have hmem:p.lots[i]∈d.lots:=by simpa using hyes
  have hmay:=may_at (f:=f) hp hil d.bid
  have hbad:may p f d.bid p.lots[i]=false->∀ w',Fr F0 w w'->K false w':=fun q=>hF ⟨_,hmem,q⟩
  refine q00.2<|⟨fun hlf=>?_,fun hgf=>?_⟩
  ·have hif:i<f.length:=by omega
   rw[J1 hif] at hmay
   simp only at hmay
   intro w5
   have hf5:Fr F0 w2 w5:=hf4.t Fr.drew
   have hw5:=m.1.t hf5
   have h5:=h.fr hw5
   have hp5:=hf5.row hpr fun h=>h
   have e1:=h5.pv.ch.len
   obtain⟨_,hdec⟩:=q39 hd hif
   refine VI.ld h5.tk i rfl hif<|q00.2<|⟨fun h0=>⟨s1,hp5.at,VI.ld h5.tk i rfl hif ?_⟩,fun h0=>?_⟩
   ·have hci:f[i].toNat<p.ch.length:=by
     rcases hdec with q | ⟨c,q,_⟩
     ·omega
     ·obtain⟨_,q2,_⟩:=q1i q; exact q2
    rw[q2n h0 hci] at hmay
    simp only at hmay
    refine VC.ld h5.pv.ch f[i].toNat (by omega) hci fun a hc=>?_
    obtain⟨_,c1,_,_⟩:=hc w5 Fr.refl
    refine⟨_,c1,_,(hf5.row hdr fun h=>h).at rfl,q60 (by omega) (fun q=>hbad (hmay.trans q) _ hw5) fun q=>⟨⟨⟨rfl,rfl,rfl,trivial⟩,i+1,by omega,by omega,hf5,hnext fun _=>hmay.trans q⟩,by dsimp only; omega⟩⟩
   ·rw[q24 h0] at hmay
    simp only at hmay
    exact q60 (by omega) (fun _=>hbad hmay _ hw5) fun q=>by cases q
  ·rw[JF (by omega)] at hmay
   simp only at hmay
   exact qe1 hp h hw4 hil (hf4.row hpr fun h=>h) (hf4.row hdr fun h=>h) (fun q w' hw=>hbad (hmay.trans q) _ (hw4.t hw)) fun q w' hw=>⟨⟨⟨rfl,rfl,rfl,trivial⟩,i+1,by omega,by omega,hf4.t hw,hnext fun _=>hmay.trans q⟩,by dsimp only; omega⟩
 ·have:i=p.lots.length:=by omega
  subst this
  rw[J5] at hin
  have hk:=hK w3 (m.1.t hf)
  have e:d.lots.all (may p f d.bid)=true:=Jv.2 fun y hy=>hin y hy ((hp.de d hdm).2.2.1 y hy)
  rwa [e] at hk
theorem q7q {K:Int->World->Prop}(hp:q03 p)(h:PF w s0 s1 s2 s5 p f)(hd:Decs p p.lots f)(hK:∀ w',Fr F0 w w'->K (offs p f) w'):z24_sh s0 s1 s2 p.most p.budget s5 K w:=by
 obtain⟨dc,hdv,hm,hx⟩:=h.pv.de
 have el:=hdv.len
 have hlm:dc.length=p.de.length:=by rw[← hm,J9]
 have hdes:=hp.des
 refine⟨?_⟩
 intro w1
 have m:Mem w w1 _:=Mem.nil.allocL
 have hpr:=m.row 0
 refine⟨⟨fun out i w'=>∃ i':Nat,i=i'/\i'<=dc.length/\out=((p.de.take i').map (q2z p f)).sum/\Fr F0 w1 w',fun _ i _=>dc.length-i.toNat,⟨0,rfl,by omega,by simp,Fr.refl⟩,?_⟩⟩
 rintro out i w2 ⟨i,rfl,hi,rfl,hf⟩
 unfold z24_b0
 have hb1:=q1a (f:=f) hp (JE i p.de)
 have hb2:=q1a (f:=f) hp (JE (i+1) p.de)
 refine⟨s2,(hf.row hpr fun h=>h).at rfl,q00.2 ?_⟩
 refine⟨fun hlt=>?_,fun hge=>?_⟩
 ·have hlt:i<dc.length:=by omega
  have hlp:i<p.de.length:=by omega
  have hts:((p.de.take (i+1)).map (q2z p f)).sum=((p.de.take i).map (q2z p f)).sum+q2z p f p.de[i]:=by
   rw[q08 hlp,Jg,Jz]
   simp
  have hdi:dc[i].1=p.de[i]:=by simp[← hm]
  have hmem:dc[i]∈dc:=Jb hlt
  obtain⟨hxv,hxl⟩:=hx _ hmem
  intro w3
  have hf3:Fr F0 w1 w3:=hf.t Fr.drew
  have hS:∀ {u},Fr F0 w1 u->Row u w.heap.size (prC s0 s1 s2 p.most p.budget)/\VD u s2 dc:=fun hu=>⟨hu.row hpr fun h=>h,hdv.fr (m.1.t hu)⟩
  have hw3:=m.1.t hf3
  refine⟨fun u=>Row u w.heap.size (prC s0 s1 s2 p.most p.budget)/\VD u s2 dc,hS hf3,s0,fun u hu=>hu.1.at,s1,fun u hu=>hu.1.at,s2,fun u hu=>hu.1.at,_,fun u hu=>hu.1.at,_,fun u hu=>hu.1.at,s2,fun u hu=>hu.1.at,?_⟩
  obtain⟨ad,hp',_⟩:=(hdv.fr hw3).at (fun a=>q2i a) (J1 hlt) (by decide)
  have hat:∀ u,VD u s2 dc->∀ k v,(encD dc[i])[k]?=some v->u.cell? ((ad.add ((i:Int).toNat*3)).add k)=some v:=fun u hu k v hv=>by
   obtain⟨ad',hp'',hc⟩:=hu.at (fun a=>q2i a) (J1 hlt) (by decide)
   rw[hp'] at hp''
   cases hp''
   exact hc k v hv
  refine q0b.2 ⟨ad,hp',⟨by omega,by omega⟩,dc[i].1.bid,fun u hu=>hat u hu.2 0 _ rfl,dc[i].2,fun u hu=>hat u hu.2 1 _ rfl,dc[i].1.off,fun u hu=>hat u hu.2 2 _ rfl,qbp hp (h.fr hw3) hd (d:=dc[i].1) (hdi ▸ Jb hlp) (hxv.fr hw3) hxl fun w15 hf15=>?_⟩
  have hf15:=hf3.t hf15
  refine⟨hS hf15,?_⟩
  have hoff:q2z p f p.de[i]=if dc[i].1.lots.all (may p f dc[i].1.bid) then dc[i].1.off else 0:=by rw[← hdi]; rfl
  refine q02.2 ⟨fun ht=>⟨s2,(hS hf15).1.at,q0b.2 ⟨ad,hp',⟨by omega,by omega⟩,dc[i].1.off,hat _ (hS hf15).2 2 _ rfl,?_⟩⟩,fun hfa=>?_⟩
  ·rw[ht,if_pos rfl] at hoff
   rw[hoff] at hts
   exact⟨q01,q01,⟨⟨rfl,rfl,trivial⟩,i+1,by omega,by omega,hts.symm,hf15⟩,by dsimp only; omega⟩
  ·rw[hfa,if_neg (by decide)] at hoff
   rw[hoff] at hts
   exact⟨q01,⟨⟨rfl,rfl,trivial⟩,i+1,by omega,by omega,by omega,hf15⟩,by dsimp only; omega⟩
 ·have:i=p.de.length:=by omega
  subst this
  have hk:=hK w2 (m.1.t hf)
  rw[J5]
  exact hk
theorem q48 {K:Int->World->Prop}(hp:q03 p)(h:PF w s0 s1 s2 s5 p f)(hd:Decs p p.lots f)(hK:∀ w',Fr F0 w w'->K (q0i p f) w'):z1o_sh s0 s1 s2 p.most p.budget s5 K w:=by
 have el:=h.tk.len
 have hl12:=q1h hp hd
 have e1:=h.pv.ch.len
 refine⟨?_⟩
 intro w1
 have m:Mem w w1 _:=Mem.nil.allocL
 have hpr:=m.row 0
 refine⟨⟨fun out i w'=>∃ i':Nat,i=i'/\i'<=f.length/\out=q1x p (f.take i')/\Fr F0 w1 w',fun _ i _=>f.length-i.toNat,⟨0,rfl,by omega,by simp[q1x,took],Fr.refl⟩,?_⟩⟩
 rintro out i w2 ⟨i,rfl,hi,rfl,hf⟩
 unfold z1o_b0
 have hb1:=q3t hp (q2e _ f i hd)
 have hb2:=q3t hp (q2e _ f (i+1) hd)
 have h2:=h.fr (m.1.t hf)
 refine q00.2<|⟨fun hlt=>?_,fun hge=>?_⟩
 ·have hif:i<f.length:=by omega
  obtain⟨_,hdec⟩:=q39 hd hif
  have hts:q1x p (f.take (i+1))=q1x p (f.take i)+(match chAt p f[i] with | some c=>c.price | none=>0):=by
   unfold q1x
   rw[q3a hif,Jg,Jz]
   cases chAt p f[i]<;>simp
  refine VI.ld h2.tk i rfl hif<|q00.2<|⟨fun h0=>?_,fun h0=>?_⟩
  ·have hci:f[i].toNat<p.ch.length:=by
    rcases hdec with q | ⟨c,q,_⟩
    ·omega
    ·obtain⟨_,q2,_⟩:=q1i q; exact q2
   rw[q2n h0 hci] at hts
   simp only at hts
   intro w4
   have hf4:Fr F0 w1 w4:=hf.t Fr.drew
   have h4:=h.fr (m.1.t hf4)
   refine⟨s1,(hf4.row hpr fun h=>h).at rfl,VI.ld h4.tk i rfl hif (VC.ld h4.pv.ch f[i].toNat (by omega) hci fun a hc=>?_)⟩
   obtain⟨_,_,c2,_⟩:=hc w4 Fr.refl
   exact⟨_,c2,q01,q01,⟨⟨rfl,rfl,trivial⟩,i+1,by omega,by omega,hts.symm,hf4⟩,by dsimp only; omega⟩
  ·rw[q24 h0] at hts
   simp only at hts
   exact⟨q01,⟨⟨rfl,rfl,trivial⟩,i+1,by omega,by omega,by omega,hf⟩,by dsimp only; omega⟩
 ·have:i=f.length:=by omega
  subst this
  rw[J5] at hb1 ⊢
  have hp2:=hf.row hpr fun h=>h
  refine⟨s0,hp2.at,s1,hp2.at,s2,hp2.at,_,hp2.at,_,hp2.at,q7q hp h2 hd fun w4 hf4=>?_⟩
  have ho:=q1a (f:=f) hp (JD p.de)
  have ho:0<=offs p f/\offs p f<=100000000000:=ho
  have hk:=hK w4 ((m.1.t hf).t hf4)
  unfold q0i at hk
  exact⟨q01,hk⟩
theorem qcv {K:Bool->World->Prop}(h:PF w s0 s1 s2 s5 p f)(hK:∀ w',Fr F0 w w'->K (q0g p && q3s p f) w'):z25_sh s0 s1 s2 p.most p.budget s5 K w:=by
 have el:=h.tk.len
 have e0:=h.pv.lots.len
 refine⟨?_⟩
 intro w1
 have m:Mem w w1 _:=Mem.nil.allocL
 refine⟨s0,m.ld 0,s1,m.ld 0,s2,m.ld 0,_,m.ld 0,_,m.ld 0,q47 (h.fr m.1).pv fun w7 hf=>?_⟩
 have m:=m.fr hf
 refine q02.2 ⟨fun hr=>?_,fun hr=>?_⟩
 ·refine⟨s0,m.ld 0,s1,m.ld 0,s2,m.ld 0,_,m.ld 0,_,m.ld 0,q5i (h.fr m.1) fun w14 hf=>?_⟩
  have m:=m.fr hf
  refine q02.2 ⟨fun hd=>⟨s0,m.ld 0,?_⟩,fun hd=>?_⟩
  ·have hk:=hK w14 m.1
   unfold q3s at hk
   rw[hr,hd] at hk
   have e:((s5.l:Int) == (s0.l:Int))=(true && (decide (f.length=p.lots.length) && true)):=by
    rw[el,e0,Bool.true_and,Bool.and_true,Bool.eq_iff_iff]
    simp
    omega
   rwa [← e] at hk
  ·have hk:=hK w14 m.1
   unfold q3s at hk
   rw[hd,Bool.and_false,Bool.and_false] at hk
   exact hk
 ·have hk:=hK w7 m.1
  rw[hr,Bool.false_and] at hk
  exact hk
theorem q33 (h:q3s p f=true):Decs p p.lots f:=by
 unfold q3s at h
 rw[Bool.and_eq_true] at h
 exact q1b.1 h.2
theorem q5j {K:Int->World->Prop}(h:PF w s0 s1 s2 s5 p f)(hK:∀ w',Fr F0 w w'->K (q5y p (q0g p) (q3s p f) f) w'):z19_sh s0 s1 s2 p.most p.budget s5 K w:=by
 have el:=h.tk.len
 have e1:=h.pv.ch.len
 refine⟨?_⟩
 intro w1
 have m:Mem w w1 _:=Mem.nil.allocL
 refine⟨s0,m.ld 0,s1,m.ld 0,s2,m.ld 0,_,m.ld 0,_,m.ld 0,qcv (h.fr m.1) fun w7 hf=>?_⟩
 have m:=m.fr hf
 refine q02.2 ⟨fun hn=>?_,fun hy=>?_⟩
 ·have hk:=hK w7 m.1
  have e:(q0g p && q3s p f)=false:=by
   cases hq:(q0g p && q3s p f) with
   | false=>rfl
   | true=>rw[hq] at hn; cases hn
  unfold q5y at hk
  rw[e] at hk
  exact hk
 ·have e:(q0g p && q3s p f)=true:=by simpa using hy
  obtain⟨er,ef⟩:=Bool.and_eq_true_iff.1 e
  have hp:=q0f.1 er
  have hd:=q33 ef
  have hl12:=q1h hp hd
  have hpr:=m.row 0
  refine⟨⟨fun out i w'=>∃ i':Nat,i=i'/\i'<=f.length/\out=q1r p (f.take i')/\Fr F0 w7 w',fun _ i _=>f.length-i.toNat,⟨0,rfl,by omega,by simp[q1r,took],Fr.refl⟩,?_⟩⟩
  rintro out i w2 ⟨i,rfl,hi,rfl,hf⟩
  unfold z19_b0
  have hb1:=pts_bound hp (q2e _ f i hd)
  have hb2:=pts_bound hp (q2e _ f (i+1) hd)
  have h2:=h.fr (m.1.t hf)
  refine q00.2<|⟨fun hlt=>?_,fun hge=>?_⟩
  ·have hif:i<f.length:=by omega
   obtain⟨_,hdec⟩:=q39 hd hif
   have hts:q1r p (f.take (i+1))=q1r p (f.take i)+(match chAt p f[i] with | some c=>c.pts | none=>0):=by
    unfold q1r
    rw[q3a hif,Jg,Jz]
    cases chAt p f[i]<;>simp
   refine VI.ld h2.tk i rfl hif<|q00.2<|⟨fun h0=>?_,fun h0=>?_⟩
   ·have hci:f[i].toNat<p.ch.length:=by
     rcases hdec with q | ⟨c,q,_⟩
     ·omega
     ·obtain⟨_,q2,_⟩:=q1i q; exact q2
    rw[q2n h0 hci] at hts
    simp only at hts
    intro w4
    have hf4:Fr F0 w7 w4:=hf.t Fr.drew
    have h4:=h.fr (m.1.t hf4)
    refine⟨s1,(hf4.row hpr fun h=>h).at rfl,VI.ld h4.tk i rfl hif (VC.ld h4.pv.ch f[i].toNat (by omega) hci fun a hc=>?_)⟩
    obtain⟨_,_,_,c3⟩:=hc w4 Fr.refl
    exact⟨_,c3,q01,q01,⟨⟨rfl,rfl,trivial⟩,i+1,by omega,by omega,hts.symm,hf4⟩,by dsimp only; omega⟩
   ·rw[q24 h0] at hts
    simp only at hts
    exact⟨q01,⟨⟨rfl,rfl,trivial⟩,i+1,by omega,by omega,by omega,hf⟩,by dsimp only; omega⟩
  ·have:i=f.length:=by omega
   subst this
   rw[J5]
   have hk:=hK w2 (m.1.t hf)
   unfold q5y at hk
   rw[e] at hk
   exact hk
end
end Go.Proofs.YtfpobpjandjhjaaGreatDoor
