/- The reference's Edit: plain, and what its end says. Conditions: none. -/
import Derived.Test.YtipjnbbfnlfmjaaGreatDoorDRTX
open List renaming not_mem_nil->J0,mem_of_getElem?->J1,mem_cons->J2,mem_or_eq_of_mem_set->J3,mem_singleton->J4,mem_append->J5,getElem?_eq_some_iff->J6,getElem?_eq_getElem->J7,getElem_mem->J8,set_set->J9,flatMap_cons->Ja,length_drop->Jb
open Nat renaming mul_le_mul_right->Jc,le_refl->Jd,le_trans->Je,blt_eq->Jf,add_mul->Jg,zero_add->Jh
namespace Pw
open Go
theorem qoq {α:Type}{n:Nat}{enc:α->List Value}(hn:∀ a,(enc a).length=n):∀ (l:List α) (i k:Nat) (a a':α) (v:Value),l[i]?=some a->k<n->enc a'=(enc a).set k v->(l.flatMap enc).set (i*n+k) v=(l.set i a').flatMap enc
 | [],i,k,a,a',v,h,_,_=>by simp at h
 | b :: l,0,k,a,a',v,h,hk,he=>by
  simp at h
  subst h
  simp only[Ja,Nat.zero_mul,Jh,List.set_cons_zero,he]
  rw[List.set_append_left _ _ (by rw[hn]; exact hk)]
 | b :: l,i+1,k,a,a',v,h,hk,he=>by
  simp only[List.getElem?_cons_succ] at h
  have:=qoq hn l i k a a' v h hk he
  simp only[Ja,List.set_cons_succ]
  rw[List.set_append_right _ _ (by rw[hn,Jg]; omega),hn,← this]
  congr 2
  rw[Jg]; omega
theorem Ow.put {α:Type}{n:Nat}{enc:α->List Value}{w:World}{s:Sl}{l:List α}(h:Ow n enc w s l)(hn:∀ a,(enc a).length=n){i k:Nat}{a':α}{v:Value}(hi:i<l.length)(hk:k<n)(he:enc a'=(enc l[i]).set k v) :
  ∃ ad,s.p=some ad/\wrOk w ((ad.add (i*n)).add k)/\Ow n enc (w.setCell ((ad.add (i*n)).add k) v) s (l.set i a')/\Fr (inB s) w (w.setCell ((ad.add (i*n)).add k) v):=by
 have hl:=h.len
 rcases h.own.2 with⟨h1,h2,h3⟩ | ⟨b,cs,h1,h2,h3,h4,h5⟩
 ·omega
 ·have hlen:=q0a hn l
  have hlt:i*n+k<l.length*n:=by
   have:=Jc n (show i+1<=l.length by omega)
   rw[Jg] at this
   omega
  have hcs:l.length*n<=cs.length:=by
   rw[h3]
   exact Jc n (by omega)
  refine⟨_,h1,?_⟩
  simp only[q01,Jh]
  refine⟨h2.wr (by omega),⟨by simp[hl],by simp[q0a hn,hl],.inr ⟨b,_,h1,h2.set (i*n+k) v,by simp[h3],h4,?_⟩⟩,Fr.set ⟨_,h1,rfl⟩⟩
  rw[← qoq hn l i k l[i] a' v (J7 hi) hk he,List.length_set,List.take_set,h5]
end Pw
namespace Go.Proofs.YtipjnbbfnlfmjaaGreatDoor
open Go Pw Dp
def wr64 (n:Int):Int:=IntKind.wrap .i64 n
theorem q8r (n:Int):I64 (wr64 n):=by unfold wr64 I64; simp[IntKind.wrap,IntKind.bits,IntKind.signed]; omega
def qqn (t:Td)(n:Nat)(q:Int):Int->Td
 | 0=>{ t with lots:=if h:n<t.lots.length then t.lots.set n (t.lots[n].1,wr64 (t.lots[n].2+q)) else t.lots }
 | 1=>{ t with crit:=if h:n<t.crit.length then t.crit.set n { t.crit[n] with high:=wr64 (t.crit[n].high+q) } else t.crit }
 | 2=>{ t with reqs:=if h:n<t.reqs.length then t.reqs.set n { t.reqs[n] with val:=wr64 (t.reqs[n].val+q) } else t.reqs }
 | 3=>{ t with high:=wr64 (t.high+q) }
 | 4=>{ t with fm:=.op 0 t.fm (.name (namP q)) }
 | 5=>{ t with ties:=t.ties++[namP q] }
 | 6=>{ t with most:=wr64 (t.most+q) }
 | 7=>{ t with combos:=t.combos++[[(n:Int),q]] }
 | 8=>{ t with budget:=wr64 (t.budget+q) }
 | 9=>{ t with t2:=wr64 (t.t2+q) }
 | 10=>{ t with lots:=t.lots++[((n:Int),q)] }
 | 11=>{ t with crit:=if n<t.crit.length then t.crit.take n++t.crit.drop (n+1) else t.crit }
 | _=>t
def qny (t:Td)(q0 q1 q2:Int):Td:=qqn t (modP q1 7).toNat q2 (modP q0 12)
structure FitK (k:Nat)(t:Td):Prop where
 fp:t.fm.parts+2*k<=2^29
 name:t.name.length<=2^20
 lots:t.lots.length+k<=2^19
 crit:t.crit.length<=2^19
 reqs:t.reqs.length<=2^19
 ties:t.ties.length+k<=2^19
 combos:t.combos.length+k<=2^19
 lot:∀ l∈t.lots,I64 l.1/\I64 l.2
 cr:∀ c∈t.crit,c.name.length<=2^20/\I64 c.kind/\I64 c.low/\I64 c.high
 rq:∀ r∈t.reqs,r.name.length<=2^20/\r.rel.length<=2^20/\I64 r.val
 tie:∀ s∈t.ties,s.length<=2^20
 combo:∀ l∈t.combos,l.length<=2^20/\∀ i∈l,I64 i
 low:I64 t.low
 high:I64 t.high
 most:I64 t.most
 budget:I64 t.budget
 t1:I64 t.t1
 t2:I64 t.t2
 t3:I64 t.t3
 t4:I64 t.t4
 t5:I64 t.t5
theorem FitK.fit {k:Nat}{t:Td}(h:FitK k t):Fit t :=
 { h with fp:=by have:=h.fp; omega,lots:=by have:=h.lots; omega,crit:=by have:=h.crit; omega,reqs:=by have:=h.reqs; omega,ties:=by have:=h.ties; omega,combos:=by have:=h.combos; omega }
theorem qh2 {p:Pn}(h:PFit p):FitK 100 (tdP p):=by
 have hF:=qpj h
 have:=q9x p.form
 exact { hF with fp:=by simp only[tdP]; omega,lots:=by simp[tdP]; omega,crit:=by simp[tdP]; omega,reqs:=by simp[tdP]; omega,ties:=by simp[tdP]; omega,combos:=by simp[tdP]; omega }
theorem qnz {k:Nat}{t:Td}(h:FitK (k+1) t){q0 q1 q2:Int}(hq:I64 q2):FitK k (qny t q0 q1 q2):=by
 have hn:=q2e q1 (m:=7) (by decide)
 have hc:=q2e q0 (m:=12) (by decide)
 have h1:=h.fp; have h2:=h.lots; have h3:=h.crit; have h4:=h.reqs; have h5:=h.ties; have h6:=h.combos
 have hnI:I64 ((modP q1 7).toNat:Int):=by unfold I64; omega
 have h0:FitK k t:={ h with fp:=by omega,lots:=by omega,ties:=by omega,combos:=by omega }
 unfold qny
 generalize (modP q1 7).toNat=n at hnI
 rcases (show modP q0 12=0\/modP q0 12=1\/modP q0 12=2\/modP q0 12=3\/modP q0 12=4\/modP q0 12=5\/modP q0 12=6\/modP q0 12=7\/modP q0 12=8\/modP q0 12=9\/modP q0 12=10\/modP q0 12=11 by omega) with e | e | e | e | e | e | e | e | e | e | e | e<;>rw[e]<;>unfold qqn<;>clear e
 ·by_cases hl:n<t.lots.length
  ·refine { h0 with lots:=by simp[hl]; omega,lot:=fun l hm=>?_ }
   simp only[hl,dif_pos] at hm
   rcases J3 hm with hm | rfl
   ·exact h.lot l hm
   ·exact⟨(h.lot _ (J8 hl)).1,q8r _⟩
  ·simp only[hl,dif_neg,not_false_iff]
   exact h0
 ·by_cases hl:n<t.crit.length
  ·refine { h0 with crit:=by simp[hl]; omega,cr:=fun l hm=>?_ }
   simp only[hl,dif_pos] at hm
   rcases J3 hm with hm | rfl
   ·exact h.cr l hm
   ·have:=h.cr _ (J8 hl)
    exact⟨this.1,this.2.1,this.2.2.1,q8r _⟩
  ·simp only[hl,dif_neg,not_false_iff]
   exact h0
 ·by_cases hl:n<t.reqs.length
  ·refine { h0 with reqs:=by simp[hl]; omega,rq:=fun l hm=>?_ }
   simp only[hl,dif_pos] at hm
   rcases J3 hm with hm | rfl
   ·exact h.rq l hm
   ·have:=h.rq _ (J8 hl)
    exact⟨this.1,this.2.1,q8r _⟩
  ·simp only[hl,dif_neg,not_false_iff]
   exact h0
 ·exact { h0 with high:=q8r _ }
 ·exact { h0 with fp:=by simp only[Fm.parts]; omega }
 ·refine { h0 with ties:=by simp; omega,tie:=fun s hs=>?_ }
  rcases J5.1 hs with hs | hs
  ·exact h.tie s hs
  ·rw[J4.1 hs]
   exact Je (q5t _) (by decide)
 ·exact { h0 with most:=q8r _ }
 ·refine { h0 with combos:=by simp; omega,combo:=fun s hs=>?_ }
  rcases J5.1 hs with hs | hs
  ·exact h.combo s hs
  ·rw[J4.1 hs]
   refine⟨by show(2:Nat)<=_; decide,fun i hi=>?_⟩
   simp only[J2,J0,or_false] at hi
   rcases hi with rfl | rfl
   ·exact hnI
   ·exact hq
 ·exact { h0 with budget:=q8r _ }
 ·exact { h0 with t2:=q8r _ }
 ·refine { h0 with lots:=by simp; omega,lot:=fun s hs=>?_ }
  rcases J5.1 hs with hs | hs
  ·exact h.lot s hs
  ·rw[J4.1 hs]
   exact⟨hnI,hq⟩
 ·by_cases hl:n<t.crit.length
  ·refine { h0 with crit:=by simp[hl]; omega,cr:=fun l hm=>?_ }
   simp only[hl,if_pos] at hm
   rcases J5.1 hm with hm | hm
   ·exact h.cr l (List.mem_of_mem_take hm)
   ·exact h.cr l (List.mem_of_mem_drop hm)
  ·simp only[hl,if_false]
   exact h0
structure RS0 (w:World)(x:T43)(t:Td)(Z:List Sl):Prop where
 name:x.f0=ofL t.name
 low:x.f4=t.low
 high:x.f5=t.high
 fm:∃ P,XQ P w t.fm ⟨x.f6,x.f7,x.f8,x.f9,x.f10⟩
 most:x.f12=t.most
 combos:Ow 1 encZ w x.f13 Z
 io:IoZ w Z t.combos
 budget:x.f14=t.budget
 t1:x.f15=t.t1
 t2:x.f16=t.t2
 t3:x.f17=t.t3
 t4:x.f18=t.t4
 t5:x.f19=t.t5
theorem XQ.frE {P:Nat->Prop}{w w':World}(hf:Fr F0 w w'):∀ {e:Fm} {c:XC},XQ P w e c->XQ P w' e c
 | .num _ _,_,h=>h
 | .name _,_,h=>h
 | .op _ _ _,_,⟨ca,cb,i,h1,h2,h5,hi,h3,h4⟩=>⟨ca,cb,i,h1,h2,hf.row h5 fun h=>h,hi,h3.frE hf,h4.frE hf⟩
theorem IoZ.fr {w w':World}{Z:List Sl}{L:List (List Int)}(h:IoZ w Z L)(hf:Fr F0 w w'):IoZ w' Z L:=⟨h.1,fun i a b=>(h.2 i a b).fr hf⟩
theorem RS0.fr {w w':World}{x:T43}{t:Td}{Z:List Sl}(h:RS0 w x t Z)(hf:Fr F0 w w'):RS0 w' x t Z:={ h with fm:=h.fm.imp fun _ hx=>hx.frE hf,combos:=h.combos.fr hf,io:=h.io.fr hf }
structure TE (lo:Nat)(w:World)(x:T43)(t:Td)(Z:List Sl):Prop where
 tw:TW w x t Z
 oz:Ow 1 encZ w x.f13 Z
 nw:∀ b,inB x.f1 b\/inB x.f2 b\/inB x.f3 b\/inB x.f11 b->lo<=b
theorem TE.of {lo:Nat}{w:World}{x:T43}{t:Td}{Z:List Sl}(R:RS0 w x t Z)(o1:Ow 2 encL w x.f1 t.lots)(o2:Ow 5 encC w x.f2 t.crit)(o3:Ow 3 encR w x.f3 t.reqs)(o4:Ow 1 encB w x.f11 t.ties)(ne:∀ s∈t.ties,s≠[])(nw:∀ b,inB x.f1 b\/inB x.f2 b\/inB x.f3 b\/inB x.f11 b->lo<=b):TE lo w x t Z:=by
 obtain⟨P,hx⟩:=R.fm
 exact⟨⟨⟨R.name,o1.vw,o2.vw,o3.vw,R.low,R.high,hx.xp,o4.vw,R.most,R.budget,R.t1,R.t2,R.t3,R.t4,R.t5⟩,o1,o2,o3,o4,⟨P,hx⟩,ne,R.io⟩,R.combos,nw⟩
theorem TE.tp {lo:Nat}{w:World}{x:T43}{t:Td}{Z:List Sl}(h:TE lo w x t Z):TP w x t:=h.tw.tp.tp ⟨Z,h.oz.vw,h.tw.io.inz⟩
structure EO (w0 w:World)(z:T43)(bt bq b4:Nat)(qs:List Value)(t:Td):Prop where
 m:Mem w0 w [(b4,zT),(bq,qs),(bt,z.cs)]
 o1:Ow 2 encL w z.f1 t.lots
 o2:Ow 5 encC w z.f2 t.crit
 o3:Ow 3 encR w z.f3 t.reqs
 o4:Ow 1 encB w z.f11 t.ties
 n:∀ b,inB z.f1 b\/inB z.f2 b\/inB z.f3 b\/inB z.f11 b->w0.heap.size<=b/\b≠b4/\b≠bq/\b≠bt
 d1:∀ b,inB z.f1 b->¬inB z.f2 b/\¬inB z.f3 b/\¬inB z.f11 b
 d2:∀ b,inB z.f2 b->¬inB z.f3 b/\¬inB z.f11 b
 d3:∀ b,inB z.f3 b->¬inB z.f11 b
 ne:∀ s∈t.ties,s≠[]
section
variable {w0 w u:World}{z z':T43}{t t':Td}{bt bq b4:Nat}{qs:List Value}{K:T43->World->Prop}{Z Z':List Sl}
theorem EO.fr (h:EO w0 w z bt bq b4 qs t)(hf:Fr F0 w u):EO w0 u z bt bq b4 qs t :=
 { h with m:=h.m.fr hf,o1:=h.o1.fr hf,o2:=h.o2.fr hf,o3:=h.o3.fr hf,o4:=h.o4.fr hf }
theorem q0r {L:List (Nat × List Value)}(m:Mem w0 u L)(h4:(b4,zT)∈L)(ht:(bt,z'.cs)∈L)(hT:∀ u',Fr (fun b=>b=b4) u u'->Fr F0 w0 u'->TE w0.heap.size u' z' t' Z')(hK:∀ w' z Z,Fr F0 w0 w'->TE w0.heap.size w' z t' Z->K z w'):z0y_k0 ⟨bt,0,none⟩ ⟨b4,0,none⟩ K u:=by
 refine⟨?_⟩
 unfold z0y_k0d
 refine T43.ld_row (m.2.1 _ ht) (qg7 (m.2.1 _ h4) rfl fun w' hf hr'=>?_)
 have f0:Fr F0 w0 w':=m.1.trans hf fun b hb hlt=>by have:=m.2.2.2 _ h4; simp only at this; omega
 exact T43.ld_row hr' (hK w' z' Z' f0 (hT w' hf f0))
theorem EO.tp (h:EO w0 w z bt bq b4 qs t)(hf:Fr (fun b=>b=bt\/b=b4) w u)(R:RS0 u z' t' Z')(e1:z'.f1=z.f1)(e2:z'.f2=z.f2)(e3:z'.f3=z.f3)(e4:z'.f11=z.f11)(g1:t'.lots=t.lots)(g2:t'.crit=t.crit)(g3:t'.reqs=t.reqs)(g4:t'.ties=t.ties):TE w0.heap.size u z' t' Z':=by
 have hn:=h.n
 refine TE.of R ?_ ?_ ?_ ?_ (by rw[g4]; exact h.ne) (by rw[e1,e2,e3,e4]; exact fun b hb=>(hn b hb).1)
 ·rw[e1,g1]; exact h.o1.frF hf fun b hb hF=>by have:=hn b (.inl hb); omega
 ·rw[e2,g2]; exact h.o2.frF hf fun b hb hF=>by have:=hn b (.inr (.inl hb)); omega
 ·rw[e3,g3]; exact h.o3.frF hf fun b hb hF=>by have:=hn b (.inr (.inr (.inl hb))); omega
 ·rw[e4,g4]; exact h.o4.frF hf fun b hb hF=>by have:=hn b (.inr (.inr (.inr hb))); omega
theorem q7g {i:Nat}{v:Value}(h:EO w0 w z bt bq b4 qs t)(hi:i<20)(R:∀ u,Fr F0 w0 u->RS0 u z' t' Z)(hz:z.cs.set i v=z'.cs)(e1:z'.f1=z.f1)(e2:z'.f2=z.f2)(e3:z'.f3=z.f3)(e4:z'.f11=z.f11)(g1:t'.lots=t.lots)(g2:t'.crit=t.crit)(g3:t'.reqs=t.reqs)(g4:t'.ties=t.ties)
  (hK:∀ w' z Z,Fr F0 w0 w'->TE w0.heap.size w' z t' Z->K z w'):wrOk w ⟨bt,i,none⟩/\z0y_k0 ⟨bt,0,none⟩ ⟨b4,0,none⟩ K (w.setCell ⟨bt,i,none⟩ v):=by
 have hm:=h.m.set (i:=i) (v:=v) 2 rfl
 rw[hz] at hm
 refine⟨h.m.wr 2 rfl (by rw[Jf]; exact hi),q0r (Z':=Z) hm (z':=z') (by simp) (by simp) (fun u' hf f0=>?_) hK⟩
 exact h.tp ((Fr.set (F:=fun b=>b=bt\/b=b4) (.inl rfl)).trans hf fun b hb _=>.inr hb) (R u' f0) e1 e2 e3 e4 g1 g2 g3 g4
theorem qbq (h:EO w0 w z bt bq b4 qs t)(R:∀ u,Fr F0 w0 u->RS0 u z t Z)(hK:∀ w' z Z,Fr F0 w0 w'->TE w0.heap.size w' z t Z->K z w'):z0y_k0 ⟨bt,0,none⟩ ⟨b4,0,none⟩ K w:=by
 exact q0r (z':=z) (Z':=Z) h.m (by simp) (by simp) (fun u' hf f0=>h.tp (hf.mono fun b hb=>.inr hb) (R u' f0) rfl rfl rfl rfl rfl rfl rfl rfl) hK
end
end Go.Proofs.YtipjnbbfnlfmjaaGreatDoor
namespace Pw
open Go
theorem Vw.drop {α:Type}{n:Nat}{enc:α->List Value}{w:World}{s:Sl}{l:List α}(h:Vw n enc w s l)(hn:∀ a,(enc a).length=n){j:Nat}(hj:j<=l.length):Vw n enc w ⟨subP s.p j s.c n,s.l-j,s.c-j⟩ (l.drop j):=by
 have hl:=h.len
 have hc:=h.cap
 obtain⟨h1,h2⟩:=h.rd
 refine⟨by simp; omega,by simp; omega,by rw[q0a hn,Jb,hl],?_⟩
 simp only
 have hd:∀ i,i<((l.drop j).flatMap enc).length->((l.drop j).flatMap enc)[i]?=(l.flatMap enc)[j*n+i]?:=by
  intro i hi
  have e:l.flatMap enc=(l.take j).flatMap enc++(l.drop j).flatMap enc:=by rw[← List.flatMap_append,List.take_append_drop]
  have hlen:((l.take j).flatMap enc).length=j*n:=by rw[q0a hn]; simp; rw[Nat.min_eq_left hj]
  rw[e,List.getElem?_append_right (by omega),hlen]
  congr 1; omega
 have hlen:((l.drop j).flatMap enc).length=(l.length-j)*n:=by rw[q0a hn,Jb]
 unfold subP
 cases hp:s.p with
 | none =>
  rw[hp] at h2
  simp only at h2
  have:(if s.c=j then (none:Option Addr) else Option.map (fun x:Addr=>x.add (j*n)) none)=none:=by split<;>rfl
  rw[this]
  simp only
  have:=Jc n (show s.l-j<=s.l by omega)
  omega
 | some a =>
  rw[hp] at h2
  simp only at h2
  by_cases hcj:s.c=j
  ·rw[if_pos hcj]
   simp only
   intro i hi
   have:l.length-j=0:=by omega
   rw[this] at hlen
   omega
  ·rw[if_neg hcj]
   simp only[Option.map_some]
   intro i hi
   have h3:=hd i hi
   rw[J7 hi] at h3
   obtain⟨h4,h5⟩:=J6.1 h3.symm
   rw[qdq,h2 _ h4,h5]
end Pw
namespace Go.Proofs.YtipjnbbfnlfmjaaGreatDoor
open Go Pw Dp
section
variable {w0 w u:World}{z z':T43}{t t':Td}{bt bq b4:Nat}{qs:List Value}{K:T43->World->Prop}{Z Z':List Sl}
theorem EO.tp1 (h:EO w0 w z bt bq b4 qs t)(hf:Fr (fun b=>inB z.f1 b\/b=bt\/b=b4) w u)(R:RS0 u z' t' Z')(hv:Ow 2 encL u z'.f1 t'.lots)(e2:z'.f2=z.f2)(e3:z'.f3=z.f3)(e4:z'.f11=z.f11)(g2:t'.crit=t.crit)(g3:t'.reqs=t.reqs)(g4:t'.ties=t.ties)(nv:∀ b,inB z'.f1 b->w0.heap.size<=b):TE w0.heap.size u z' t' Z':=by
 have hn:=h.n
 refine TE.of R hv ?_ ?_ ?_ (by rw[g4]; exact h.ne) (fun b hb=>by rcases hb with hb | hb | hb | hb; exact nv b hb; exact(hn b (.inr (.inl (e2 ▸ hb)))).1; exact(hn b (.inr (.inr (.inl (e3 ▸ hb))))).1; exact(hn b (.inr (.inr (.inr (e4 ▸ hb))))).1)
 ·rw[e2,g2]; exact h.o2.frF hf fun b hb hF=>hF.elim (fun h1=>(h.d1 b h1).1 hb) fun _=>by have:=hn b (.inr (.inl hb)); omega
 ·rw[e3,g3]; exact h.o3.frF hf fun b hb hF=>hF.elim (fun h1=>(h.d1 b h1).2.1 hb) fun _=>by have:=hn b (.inr (.inr (.inl hb))); omega
 ·rw[e4,g4]; exact h.o4.frF hf fun b hb hF=>hF.elim (fun h1=>(h.d1 b h1).2.2 hb) fun _=>by have:=hn b (.inr (.inr (.inr hb))); omega
theorem EO.tp2 (h:EO w0 w z bt bq b4 qs t)(hf:Fr (fun b=>inB z.f2 b\/b=bt\/b=b4) w u)(R:RS0 u z' t' Z')(hv:Ow 5 encC u z'.f2 t'.crit)(e1:z'.f1=z.f1)(e3:z'.f3=z.f3)(e4:z'.f11=z.f11)(g1:t'.lots=t.lots)(g3:t'.reqs=t.reqs)(g4:t'.ties=t.ties)(nv:∀ b,inB z'.f2 b->w0.heap.size<=b):TE w0.heap.size u z' t' Z':=by
 have hn:=h.n
 refine TE.of R ?_ hv ?_ ?_ (by rw[g4]; exact h.ne) (fun b hb=>by rcases hb with hb | hb | hb | hb; exact(hn b (.inl (e1 ▸ hb))).1; exact nv b hb; exact(hn b (.inr (.inr (.inl (e3 ▸ hb))))).1; exact(hn b (.inr (.inr (.inr (e4 ▸ hb))))).1)
 ·rw[e1,g1]; exact h.o1.frF hf fun b hb hF=>hF.elim (fun h1=>(h.d1 b hb).1 h1) fun _=>by have:=hn b (.inl hb); omega
 ·rw[e3,g3]; exact h.o3.frF hf fun b hb hF=>hF.elim (fun h1=>(h.d2 b h1).1 hb) fun _=>by have:=hn b (.inr (.inr (.inl hb))); omega
 ·rw[e4,g4]; exact h.o4.frF hf fun b hb hF=>hF.elim (fun h1=>(h.d2 b h1).2 hb) fun _=>by have:=hn b (.inr (.inr (.inr hb))); omega
theorem EO.tp3 (h:EO w0 w z bt bq b4 qs t)(hf:Fr (fun b=>inB z.f3 b\/b=bt\/b=b4) w u)(R:RS0 u z' t' Z')(hv:Ow 3 encR u z'.f3 t'.reqs)(e1:z'.f1=z.f1)(e2:z'.f2=z.f2)(e4:z'.f11=z.f11)(g1:t'.lots=t.lots)(g2:t'.crit=t.crit)(g4:t'.ties=t.ties)(nv:∀ b,inB z'.f3 b->w0.heap.size<=b):TE w0.heap.size u z' t' Z':=by
 have hn:=h.n
 refine TE.of R ?_ ?_ hv ?_ (by rw[g4]; exact h.ne) (fun b hb=>by rcases hb with hb | hb | hb | hb; exact(hn b (.inl (e1 ▸ hb))).1; exact(hn b (.inr (.inl (e2 ▸ hb)))).1; exact nv b hb; exact(hn b (.inr (.inr (.inr (e4 ▸ hb))))).1)
 ·rw[e1,g1]; exact h.o1.frF hf fun b hb hF=>hF.elim (fun h1=>(h.d1 b hb).2.1 h1) fun _=>by have:=hn b (.inl hb); omega
 ·rw[e2,g2]; exact h.o2.frF hf fun b hb hF=>hF.elim (fun h1=>(h.d2 b hb).1 h1) fun _=>by have:=hn b (.inr (.inl hb)); omega
 ·rw[e4,g4]; exact h.o4.frF hf fun b hb hF=>hF.elim (fun h1=>h.d3 b h1 hb) fun _=>by have:=hn b (.inr (.inr (.inr hb))); omega
theorem EO.tp4 (h:EO w0 w z bt bq b4 qs t)(hf:Fr (fun b=>inB z.f11 b\/b=bt\/b=b4) w u)(R:RS0 u z' t' Z')(hv:Ow 1 encB u z'.f11 t'.ties)(e1:z'.f1=z.f1)(e2:z'.f2=z.f2)(e3:z'.f3=z.f3)(g1:t'.lots=t.lots)(g2:t'.crit=t.crit)(g3:t'.reqs=t.reqs)(ne:∀ s∈t'.ties,s≠[])(nv:∀ b,inB z'.f11 b->w0.heap.size<=b):TE w0.heap.size u z' t' Z':=by
 have hn:=h.n
 refine TE.of R ?_ ?_ ?_ hv ne (fun b hb=>by rcases hb with hb | hb | hb | hb; exact(hn b (.inl (e1 ▸ hb))).1; exact(hn b (.inr (.inl (e2 ▸ hb)))).1; exact(hn b (.inr (.inr (.inl (e3 ▸ hb))))).1; exact nv b hb)
 ·rw[e1,g1]; exact h.o1.frF hf fun b hb hF=>hF.elim (fun h1=>(h.d1 b hb).2.2 h1) fun _=>by have:=hn b (.inl hb); omega
 ·rw[e2,g2]; exact h.o2.frF hf fun b hb hF=>hF.elim (fun h1=>(h.d2 b hb).2 h1) fun _=>by have:=hn b (.inr (.inl hb)); omega
 ·rw[e3,g3]; exact h.o3.frF hf fun b hb hF=>hF.elim (fun h1=>h.d3 b hb h1) fun _=>by have:=hn b (.inr (.inr (.inl hb))); omega
theorem qls {n k:Nat}{a':Int × Int}{v:Value}(h:EO w0 w z bt bq b4 qs t)(R:∀ u,Fr F0 w0 u->RS0 u z { t with lots:=t.lots.set n a' } Z)(hn:n<t.lots.length)(hk:k<2)(he:encL a'=(encL t.lots[n]).set k v)(hK:∀ w' z Z,Fr F0 w0 w'->TE w0.heap.size w' z { t with lots:=t.lots.set n a' } Z->K z w') :
  nz z.f1.p fun a=>(0<=(n:Int)/\(n:Int)<(z.f1.l:Nat))/\wrOk w ((a.add ((n:Int).toNat*2)).add k)/\z0y_k0 ⟨bt,0,none⟩ ⟨b4,0,none⟩ K (w.setCell ((a.add ((n:Int).toNat*2)).add k) v):=by
 obtain⟨ad,hp,hw,ho,hf⟩:=h.o1.put q0s hn hk he
 have hl:=h.o1.len
 rw[hp]
 refine⟨⟨by omega,by omega⟩,hw,q0r (z':=z) (Z':=Z) (h.m.frF hf (fun p hp' hb=>?_) fun b hb=>(h.n b (.inl hb)).1) (by simp) (by simp) (fun u' hf' f0=>?_) hK⟩
 ·have:=h.n p.1 (.inl hb)
  simp only[J2,J0,or_false] at hp'
  rcases hp' with rfl | rfl | rfl<;>simp at this
 ·exact h.tp1 ((hf.mono fun b hb=>.inl hb).trans hf' fun b hb _=>.inr (.inr hb)) (R u' f0) (ho.frF hf' fun b hb e=>(h.n b (.inl hb)).2.1 e) rfl rfl rfl rfl rfl rfl (fun b hb=>(h.n b (.inl hb)).1)
theorem qlt {n k:Nat}{a':Cr}{v:Value}(h:EO w0 w z bt bq b4 qs t)(R:∀ u,Fr F0 w0 u->RS0 u z { t with crit:=t.crit.set n a' } Z)(hn:n<t.crit.length)(hk:k<5)(he:encC a'=(encC t.crit[n]).set k v)(hK:∀ w' z Z,Fr F0 w0 w'->TE w0.heap.size w' z { t with crit:=t.crit.set n a' } Z->K z w') :
  nz z.f2.p fun a=>(0<=(n:Int)/\(n:Int)<(z.f2.l:Nat))/\wrOk w ((a.add ((n:Int).toNat*5)).add k)/\z0y_k0 ⟨bt,0,none⟩ ⟨b4,0,none⟩ K (w.setCell ((a.add ((n:Int).toNat*5)).add k) v):=by
 obtain⟨ad,hp,hw,ho,hf⟩:=h.o2.put q10 hn hk he
 have hl:=h.o2.len
 rw[hp]
 refine⟨⟨by omega,by omega⟩,hw,q0r (z':=z) (Z':=Z) (h.m.frF hf (fun p hp' hb=>?_) fun b hb=>(h.n b (.inr (.inl hb))).1) (by simp) (by simp) (fun u' hf' f0=>?_) hK⟩
 ·have:=h.n p.1 (.inr (.inl hb))
  simp only[J2,J0,or_false] at hp'
  rcases hp' with rfl | rfl | rfl<;>simp at this
 ·exact h.tp2 ((hf.mono fun b hb=>.inl hb).trans hf' fun b hb _=>.inr (.inr hb)) (R u' f0) (ho.frF hf' fun b hb e=>(h.n b (.inr (.inl hb))).2.1 e) rfl rfl rfl rfl rfl rfl (fun b hb=>(h.n b (.inr (.inl hb))).1)
theorem qlu {n k:Nat}{a':Rq}{v:Value}(h:EO w0 w z bt bq b4 qs t)(R:∀ u,Fr F0 w0 u->RS0 u z { t with reqs:=t.reqs.set n a' } Z)(hn:n<t.reqs.length)(hk:k<3)(he:encR a'=(encR t.reqs[n]).set k v)(hK:∀ w' z Z,Fr F0 w0 w'->TE w0.heap.size w' z { t with reqs:=t.reqs.set n a' } Z->K z w') :
  nz z.f3.p fun a=>(0<=(n:Int)/\(n:Int)<(z.f3.l:Nat))/\wrOk w ((a.add ((n:Int).toNat*3)).add k)/\z0y_k0 ⟨bt,0,none⟩ ⟨b4,0,none⟩ K (w.setCell ((a.add ((n:Int).toNat*3)).add k) v):=by
 obtain⟨ad,hp,hw,ho,hf⟩:=h.o3.put q1j hn hk he
 have hl:=h.o3.len
 rw[hp]
 refine⟨⟨by omega,by omega⟩,hw,q0r (z':=z) (Z':=Z) (h.m.frF hf (fun p hp' hb=>?_) fun b hb=>(h.n b (.inr (.inr (.inl hb)))).1) (by simp) (by simp) (fun u' hf' f0=>?_) hK⟩
 ·have:=h.n p.1 (.inr (.inr (.inl hb)))
  simp only[J2,J0,or_false] at hp'
  rcases hp' with rfl | rfl | rfl<;>simp at this
 ·exact h.tp3 ((hf.mono fun b hb=>.inl hb).trans hf' fun b hb _=>.inr (.inr hb)) (R u' f0) (ho.frF hf' fun b hb e=>(h.n b (.inr (.inr (.inl hb)))).2.1 e) rfl rfl rfl rfl rfl rfl (fun b hb=>(h.n b (.inr (.inr (.inl hb)))).1)
theorem qlv {w1:World}{s:Sl}{l:List (Int × Int)}(h:EO w0 w z bt bq b4 qs t)(R:∀ u,Fr F0 w0 u->RS0 u { z with f1:=s } { t with lots:=l } Z)(hf:Fr (inB z.f1) w w1)(ho:Ow 2 encL w1 s l)(hs:∀ b,inB s b->inB z.f1 b\/w.heap.size<=b)(hK:∀ w' z Z,Fr F0 w0 w'->TE w0.heap.size w' z { t with lots:=l } Z->K z w') :
  wrOk w1 ⟨bt,1,none⟩/\z0y_k0 ⟨bt,0,none⟩ ⟨b4,0,none⟩ K (w1.setCell ⟨bt,1,none⟩ (.slice s.p s.l s.c)):=by
 have hm:Mem w0 w1 [(b4,zT),(bq,qs),(bt,z.cs)]:=h.m.frF hf (fun p hp' hb=>by
  have:=h.n p.1 (.inl hb)
  simp only[J2,J0,or_false] at hp'
  rcases hp' with rfl | rfl | rfl<;>simp at this) fun b hb=>(h.n b (.inl hb)).1
 have hb4:=(h.m.row 0).lt
 have hbt:=(h.m.row 2).lt
 have hne:∀ b,inB s b->b≠b4/\b≠bt:=fun b hb=>by
  rcases hs b hb with hb | hb
  ·exact⟨(h.n b (.inl hb)).2.1,(h.n b (.inl hb)).2.2.2⟩
  ·exact⟨by omega,by omega⟩
 refine⟨hm.wr 2,q0r (Z':=Z) (z':={ z with f1:=s }) (hm.set (i:=1) (v:=.slice s.p s.l s.c) 2) (by simp) (J1 (i:=2) rfl) (fun u' hf' f0=>?_) hK⟩
 have fs:Fr (fun b=>b=bt) w1 (w1.setCell ⟨bt,1,none⟩ (.slice s.p s.l s.c)):=Fr.set rfl
 exact h.tp1 (((hf.mono fun b hb=>.inl hb).trans fs fun b hb _=>.inr (.inl hb)).trans hf' fun b hb _=>.inr (.inr hb)) (R u' f0) ((ho.frF fs fun b hb e=>(hne b hb).2 e).frF hf' fun b hb e=>(hne b hb).1 e) rfl rfl rfl rfl rfl rfl (fun b hb=>(hs b hb).elim (fun hb=>(h.n b (.inl hb)).1) fun hb=>Je h.m.1.1 hb)
theorem qlw {w1:World}{s:Sl}{l:List (Cr)}(h:EO w0 w z bt bq b4 qs t)(R:∀ u,Fr F0 w0 u->RS0 u { z with f2:=s } { t with crit:=l } Z)(hf:Fr (inB z.f2) w w1)(ho:Ow 5 encC w1 s l)(hs:∀ b,inB s b->inB z.f2 b\/w.heap.size<=b)(hK:∀ w' z Z,Fr F0 w0 w'->TE w0.heap.size w' z { t with crit:=l } Z->K z w') :
  wrOk w1 ⟨bt,2,none⟩/\z0y_k0 ⟨bt,0,none⟩ ⟨b4,0,none⟩ K (w1.setCell ⟨bt,2,none⟩ (.slice s.p s.l s.c)):=by
 have hm:Mem w0 w1 [(b4,zT),(bq,qs),(bt,z.cs)]:=h.m.frF hf (fun p hp' hb=>by
  have:=h.n p.1 (.inr (.inl hb))
  simp only[J2,J0,or_false] at hp'
  rcases hp' with rfl | rfl | rfl<;>simp at this) fun b hb=>(h.n b (.inr (.inl hb))).1
 have hb4:=(h.m.row 0).lt
 have hbt:=(h.m.row 2).lt
 have hne:∀ b,inB s b->b≠b4/\b≠bt:=fun b hb=>by
  rcases hs b hb with hb | hb
  ·exact⟨(h.n b (.inr (.inl hb))).2.1,(h.n b (.inr (.inl hb))).2.2.2⟩
  ·exact⟨by omega,by omega⟩
 refine⟨hm.wr 2,q0r (Z':=Z) (z':={ z with f2:=s }) (hm.set (i:=2) (v:=.slice s.p s.l s.c) 2) (by simp) (J1 (i:=2) rfl) (fun u' hf' f0=>?_) hK⟩
 have fs:Fr (fun b=>b=bt) w1 (w1.setCell ⟨bt,2,none⟩ (.slice s.p s.l s.c)):=Fr.set rfl
 exact h.tp2 (((hf.mono fun b hb=>.inl hb).trans fs fun b hb _=>.inr (.inl hb)).trans hf' fun b hb _=>.inr (.inr hb)) (R u' f0) ((ho.frF fs fun b hb e=>(hne b hb).2 e).frF hf' fun b hb e=>(hne b hb).1 e) rfl rfl rfl rfl rfl rfl (fun b hb=>(hs b hb).elim (fun hb=>(h.n b (.inr (.inl hb))).1) fun hb=>Je h.m.1.1 hb)
theorem qlx {w1:World}{s:Sl}{l:List (B)}(h:EO w0 w z bt bq b4 qs t)(R:∀ u,Fr F0 w0 u->RS0 u { z with f11:=s } { t with ties:=l } Z)(hf:Fr (inB z.f11) w w1)(ho:Ow 1 encB w1 s l)(ne:∀ s∈l,s≠[])(hs:∀ b,inB s b->inB z.f11 b\/w.heap.size<=b)(hK:∀ w' z Z,Fr F0 w0 w'->TE w0.heap.size w' z { t with ties:=l } Z->K z w') :
  wrOk w1 ⟨bt,11,none⟩/\z0y_k0 ⟨bt,0,none⟩ ⟨b4,0,none⟩ K (w1.setCell ⟨bt,11,none⟩ (.slice s.p s.l s.c)):=by
 have hm:Mem w0 w1 [(b4,zT),(bq,qs),(bt,z.cs)]:=h.m.frF hf (fun p hp' hb=>by
  have:=h.n p.1 (.inr (.inr (.inr hb)))
  simp only[J2,J0,or_false] at hp'
  rcases hp' with rfl | rfl | rfl<;>simp at this) fun b hb=>(h.n b (.inr (.inr (.inr hb)))).1
 have hb4:=(h.m.row 0).lt
 have hbt:=(h.m.row 2).lt
 have hne:∀ b,inB s b->b≠b4/\b≠bt:=fun b hb=>by
  rcases hs b hb with hb | hb
  ·exact⟨(h.n b (.inr (.inr (.inr hb)))).2.1,(h.n b (.inr (.inr (.inr hb)))).2.2.2⟩
  ·exact⟨by omega,by omega⟩
 refine⟨hm.wr 2,q0r (Z':=Z) (z':={ z with f11:=s }) (hm.set (i:=11) (v:=.slice s.p s.l s.c) 2) (by simp) (J1 (i:=2) rfl) (fun u' hf' f0=>?_) hK⟩
 have fs:Fr (fun b=>b=bt) w1 (w1.setCell ⟨bt,11,none⟩ (.slice s.p s.l s.c)):=Fr.set rfl
 exact h.tp4 (((hf.mono fun b hb=>.inl hb).trans fs fun b hb _=>.inr (.inl hb)).trans hf' fun b hb _=>.inr (.inr hb)) (R u' f0) ((ho.frF fs fun b hb e=>(hne b hb).2 e).frF hf' fun b hb e=>(hne b hb).1 e) rfl rfl rfl rfl rfl rfl ne (fun b hb=>(hs b hb).elim (fun hb=>(h.n b (.inr (.inr (.inr hb)))).1) fun hb=>Je h.m.1.1 hb)
end
end Go.Proofs.YtipjnbbfnlfmjaaGreatDoor
namespace Pw
open Go
theorem q2g {α:Type}{n:Nat}{enc:α->List Value}{v:World}{x:Sl}{l:List α}{bytes e e':Nat}{zero:List Value}{K:SW}(hx:Vw n enc v x l)(hok:∀ a,∀ v∈enc a,okC v=true)(hz:zero.length=n)(hb:l.length*bytes<=2^47)(hm:l.length<2^63)
  (hK:∀ s u,Mk v n enc u s l->K s u):apS n bytes zero e ⟨some ⟨v.heap.size,0,none⟩,0,0⟩ x (v.alloc (Obj.cells #[] e')) K:=by
 have f:Fr F0 v (v.alloc (Obj.cells #[] e')):=Fr.alloc
 have r:Row (v.alloc (Obj.cells #[] e')) v.heap.size []:=Row.new (cs:=[])
 have h0:Mk v n enc (v.alloc (Obj.cells #[] e')) ⟨some ⟨v.heap.size,0,none⟩,0,0⟩ ([]:List α) :=
  ⟨f,⟨rfl,by simp,.inr ⟨_,_,rfl,r,by simp,Jd _,rfl⟩⟩,fun b ⟨a,ha,hb⟩=>by cases ha; subst hb; exact Jd _⟩
 exact h0.app (hx.fr f) hok hz (by simpa using hb) (by simpa using hm) fun s u h _=>hK s u (by simpa using h)
theorem copy0 {α:Type}{n:Nat}{enc:α->List Value}{v:World}{b:Nat}{x:Sl}{l:List α}{bytes e:Nat}{zero:List Value}{K:SW}(hn:∀ a,(enc a).length=n)(hr:Row v b [])(hx:Vw n enc v x l)(hok:∀ a,∀ v∈enc a,okC v=true)(hz:zero.length=n)(hb:l.length*bytes<=2^47)(hm:l.length<2^63)
  (hK:∀ s u,Ow n enc u s l->Fr F0 v u->(∀ c,inB s c->c=b\/v.heap.size<=c)->K s u):apS n bytes zero e ⟨some ⟨b,0,none⟩,0,0⟩ x v K:=by
 have hl:=hx.len
 have hlen:(l.flatMap enc).length=l.length*n:=q0a hn l
 refine⟨l.flatMap enc,hx.rd,fun v hv=>?_,fun hc=>?_,fun hc=>⟨by simpa [hl] using hb,by simpa [hl] using hm,[],⟨by simp,fun i hi=>absurd hi (by simp)⟩,fun cap hcap=>?_⟩⟩
 ·obtain⟨a,_,ha⟩:=List.mem_flatMap.1 hv
  exact hok a v ha
 ·have h0:l=[]:=List.eq_nil_of_length_eq_zero (by simp only at hc; omega)
  subst h0
  have h0:x.l=0:=by simpa using hl
  rw[h0]
  refine⟨fun i hi=>absurd hi (by simp),hK _ _ ⟨rfl,by simp,.inr ⟨b,[],rfl,hr,by simp,Jd _,rfl⟩⟩ Fr.refl fun c ⟨a,ha,hc⟩=>?_⟩
  cases ha
  exact .inl hc.symm
 ·simp only[Jh] at hcap ⊢
  refine hK _ _ ⟨by simp[qbu,hl],by simp[qbu,hl,hlen],.inr ⟨v.heap.size,_,rfl,Row.new (w:=v.drew),?_,hcap,?_⟩⟩ (Fr.drew.trans (Fr.alloc (F:=F0)) fun _ h _=>h) fun c ⟨a,ha,hc⟩=>?_
  ·simp[q4x,hlen,hz,qbu,hl]
   rw[← Jg]
   congr 1
   omega
  ·simp
  ·cases ha
   exact .inr (by rw[← hc]; exact Jd _)
theorem stN5M {w0 w:World}{L:List (Nat × List Value)}{b o j:Nat}{cs:List Value}{v0 v1 v2 v3 v4:Value}{K:World->Prop}(h:Mem w0 w L)(hj:L[j]?=some (b,cs))(ho:o+5<=cs.length)
  (hK:∀ w',Mem w0 w' (L.set j (b,(((((cs.set o v0).set (o+1) v1).set (o+2) v2).set (o+3) v3).set (o+4) v4)))->Fr (fun c=>c=b) w w'->K w'):stN w ⟨b,o,none⟩ [v0,v1,v2,v3,v4] K:=by
 have hl:j<L.length:=(J6.1 hj).1
 have sj:∀ (M:List (Nat × List Value)) (p:Nat × List Value),M.length=L.length->(M.set j p)[j]?=some p:=fun M p h=>List.getElem?_set_self (by omega)
 have e:∀ k:Nat,(⟨b,o,none⟩:Addr).add k=⟨b,o+k,none⟩:=fun k=>q01 b o k
 have h1:=h.set (i:=o) (v:=v0) j hj
 have h2:=h1.set (i:=o+1) (v:=v1) j (sj _ _ rfl)
 have h3:=h2.set (i:=o+2) (v:=v2) j (sj _ _ (by simp))
 have h4:=h3.set (i:=o+3) (v:=v3) j (sj _ _ (by simp))
 have h5:=h4.set (i:=o+4) (v:=v4) j (sj _ _ (by simp))
 have w0':=h.wr j hj (i:=o) (by simp[Jf]; omega)
 have w1':=h1.wr j (sj _ _ rfl) (i:=o+1) (by simp[Jf]; omega)
 have w2':=h2.wr j (sj _ _ (by simp)) (i:=o+2) (by simp[Jf]; omega)
 have w3':=h3.wr j (sj _ _ (by simp)) (i:=o+3) (by simp[Jf]; omega)
 have w4':=h4.wr j (sj _ _ (by simp)) (i:=o+4) (by simp[Jf]; omega)
 rw[J9,J9,J9,J9] at h5
 have fs:∀ {u:World} {k:Nat} {v:Value},Fr (fun c=>c=b) u (u.setCell ⟨b,k,none⟩ v):=Fr.set rfl
 have ft:∀ {u u' u2:World},Fr (fun c=>c=b) u u'->Fr (fun c=>c=b) u' u2->Fr (fun c=>c=b) u u2:=fun a c=>a.trans c fun _ h _=>h
 have hk:=hK _ h5 (ft (ft (ft (ft fs fs) fs) fs) fs)
 unfold stN stN.go stN.go stN.go stN.go stN.go stN.go
 rw[e,e,e,e,e]
 exact⟨w0',w1',w2',w3',w4',hk⟩
end Pw
namespace Go.Proofs.YtipjnbbfnlfmjaaGreatDoor
open Go Pw Dp
section
variable {w0 w u:World}{z z':T43}{t t':Td}{bt bq b4:Nat}{qs:List Value}{K:T43->World->Prop}{Z:List Sl}
theorem EO.lts (h:EO w0 w z bt bq b4 qs t):b4<w.heap.size/\bt<w.heap.size/\bt<b4:=by
 have:=h.m.2.2.1
 simp at this
 exact⟨(h.m.row 0).lt,(h.m.row 2).lt,this.1.2⟩
theorem qly {s:Sl}{ib n:Nat}{q:Int}(h:EO w0 w z bt bq b4 qs t)(R:RS0 w0 z t Z)(hm:Mk w 1 encZ u s (Z++[⟨some ⟨ib,0,none⟩,2,2⟩]))(hi:w.heap.size<=ib)(hr:Row u ib [.int .i64 n,.int .i64 q])
  (hK:∀ w' z Z,Fr F0 w0 w'->TE w0.heap.size w' z { t with combos:=t.combos++[[(n:Int),q]] } Z->K z w'):wrOk u ⟨bt,13,none⟩/\z0y_k0 ⟨bt,0,none⟩ ⟨b4,0,none⟩ K (u.setCell ⟨bt,13,none⟩ (.slice s.p s.l s.c)):=by
 obtain⟨l4,lt,l5⟩:=h.lts
 have m:=h.m.fr hm.fr0
 refine⟨m.wr 2,q0r (Z':=Z++[⟨some ⟨ib,0,none⟩,2,2⟩]) (z':={ z with f13:=s }) (m.set (i:=13) (v:=.slice s.p s.l s.c) 2) (by simp) (J1 (i:=2) rfl) (fun u' hf' f0=>?_) hK⟩
 have fs:Fr (fun b=>b=bt\/b=b4) u u':=(Fr.set (F:=fun b=>b=bt\/b=b4) (.inl rfl)).trans hf' fun b hb _=>.inr hb
 have hr':=fs.row hr (by omega)
 have ho:=hm.ow.frF fs fun b hb e=>by have:=hm.nw b hb; omega
 have Rf:=R.fr f0
 have hz2:=Rf.io.push (s:=⟨some ⟨ib,0,none⟩,2,2⟩) (l:=[(n:Int),q]) (Row.ow encI_length (l:=[(n:Int),q]) hr')
 exact h.tp ((hm.fr0.mono fun _ h=>h.elim).trans fs fun b hb _=>hb) { Rf with combos:=ho,io:=hz2 } rfl rfl rfl rfl rfl rfl rfl rfl
theorem q4k {v:World}{s:Sl}{ib eb n:Nat}{q:Int}{K:SW}(hs:Mk w 1 encZ v s Z)(hr:Row v ib [.int .i64 n,.int .i64 q])(he:Row v eb [.slice (some ⟨ib,0,none⟩) 2 2])(hd:∀ b,inB s b->b≠ib)(hl:Z.length<=2^20)
  (hK:∀ r u,Mk w 1 encZ u r (Z++[⟨some ⟨ib,0,none⟩,2,2⟩])->Row u ib [.int .i64 n,.int .i64 q]->K r u):apS 1 24 [(Value.slice none 0 0)] 25 s ⟨some ⟨eb,0,none⟩,1,1⟩ v K :=
 hs.app (m:=[⟨some ⟨ib,0,none⟩,2,2⟩]) (Row.ow q1i (l:=[(⟨some ⟨ib,0,none⟩,2,2⟩:Sl)]) he).vw q6m rfl (by simp; omega) (by simp; omega) fun r u h hf=>hK r u h (hf.row hr fun hb=>hd _ hb rfl)
end
section
variable {w0 w u:World}{z z' y:T43}{t t':Td}{bt bq b4:Nat}{qs:List Value}{K:T43->World->Prop}{Z:List Sl}
theorem FitK.small {k:Nat}(h:FitK k t):t.lots.length<=2^20/\t.crit.length<=2^20/\t.reqs.length<=2^20/\t.ties.length<=2^20/\t.combos.length<=2^20:=by
 have h1:=h.lots; have h2:=h.crit; have h3:=h.reqs; have h4:=h.ties; have h5:=h.combos
 omega
theorem qqo {q q0 q1:Int}(h:EO w0 w z bt bq b4 [.int .i64 q0,.int .i64 q1,.int .i64 q] t)(R:RS0 w0 z t Z)(hK:∀ w' z Z,Fr F0 w0 w'->TE w0.heap.size w' z { t with fm:=.op 0 t.fm (.name (namP q)) } Z->K z w') :
  z0z_sh q (fun r w71=>Rs w71 [(b4,zT),(bq,[.int .i64 q0,.int .i64 q1,.int .i64 q]),(bt,z.cs)]/\let w73:World:=w71.alloc (Obj.cells #[(Value.string z.f6),(Value.int .i64 z.f7),(Value.int .i64 z.f8),(Value.string z.f9),(Value.slice z.f10.p z.f10.l z.f10.c),(Value.string (str [110,97,109,101])),(Value.int .i64 (0:Int)),(Value.int .i64 (0:Int)),(Value.string r),(Value.slice none 0 0)] 38)
   Rs w73 [(b4,zT),(bq,[.int .i64 q0,.int .i64 q1,.int .i64 q]),(bt,z.cs)]/\stN w73 ⟨bt,6,none⟩ [(Value.string (str [43])),(Value.int .i64 (0:Int)),(Value.int .i64 (0:Int)),(Value.string (str [])),(Value.slice (some (Addr.mk w71.heap.size 0 none)) 2 2)] fun (w74:World)=>z0y_k0 ⟨bt,0,none⟩ ⟨b4,0,none⟩ K w74) w:=by
 refine q2z fun w71 hf=>?_
 have h:=h.fr hf
 obtain⟨l4,lt,l5⟩:=h.lts
 refine⟨h.m.2.1,?_⟩
 intro w73
 have hr:Row w73 w71.heap.size ([(⟨z.f6,z.f7,z.f8,z.f9,z.f10⟩:XC),⟨ofL q0n,0,0,ofL (namP q),⟨none,0,0⟩⟩].flatMap encX):=Row.new
 have f:Fr F0 w71 w73:=Fr.alloc
 clear_value w73
 have h':=h.fr f
 refine⟨h'.m.2.1,stN5M h'.m (j:=2) rfl (by show 6+5<=20; decide) fun w74 m fs=>?_⟩
 refine q0r (Z':=Z) (z':={ z with f6:=ofL (opB 0),f7:=0,f8:=0,f9:=ofL [],f10:=⟨some ⟨w71.heap.size,0,none⟩,2,2⟩ }) m (by simp) (J1 (i:=2) rfl) (fun u' hf' f0=>?_) hK
 have fu:Fr (fun b=>b=bt\/b=b4) w73 u':=(fs.mono fun b hb=>.inl hb).trans hf' fun b hb _=>.inr hb
 have Rf:=R.fr f0
 have hr:=fu.row hr (by omega)
 obtain⟨P,hx⟩:=Rf.fm
 exact h'.tp fu { Rf with fm:=⟨fun b=>P b\/b=w71.heap.size,_,_,w71.heap.size,⟨rfl,rfl,rfl,rfl⟩,rfl,hr,.inr rfl,hx.mono (fun b hb=>.inl hb),rfl,Je (q5t _) (by decide)⟩ } rfl rfl rfl rfl rfl rfl rfl rfl
theorem qlz {k lo:Nat}{q0 q1 q2:Int}(hy':TE lo w y t Z)(hF:FitK k t)(hK:∀ w' z Z,Fr F0 w w'->TE w.heap.size w' z (qny t q0 q1 q2) Z->K z w'):z0y_sh y q0 q1 q2 K w:=by
 have hy:=hy'.tp
 obtain⟨s1,s2,s3,s4,s5⟩:=hF.small
 refine⟨?_⟩
 unfold z0y_sd
 intro w1
 have m:Mem w w1 [(w.heap.size,y.cs)]:=Mem.nil.allocL
 clear_value w1
 intro w2
 have m:Mem w w2 [(w1.heap.size,[.int .i64 q0,.int .i64 q1,.int .i64 q2]),(w.heap.size,y.cs)]:=m.allocL
 clear_value w2
 intro w3
 have m:Mem w w3 [(w2.heap.size,zT),(w1.heap.size,[.int .i64 q0,.int .i64 q1,.int .i64 q2]),(w.heap.size,y.cs)]:=m.allocL
 clear_value w3
 have kk:=m.2.2.1
 simp only[List.map_cons,List.map_nil,List.pairwise_cons,J2,J0,or_false,forall_eq_or_imp,forall_eq,gt_iff_lt] at kk
 have k4:=(m.row 0).lt
 (try dsimp -zeta only[hA]);generalize ebt:w.heap.size=bt at m kk k4
 generalize w1.heap.size=bq at m kk
 generalize w2.heap.size=b4 at m kk k4
 refine⟨⟨by decide,by decide⟩,_,by rw[q01]; exact m.lD (i:=1) 1 rfl rfl,q24 (by decide) (by decide) ?_⟩
 intro w7
 refine⟨y.f1,(m.fr Fr.alloc).ld 2,q2g (hy.lots.fr m.1) qep rfl (by omega) (by omega) fun s9 w10 h1=>?_⟩
 have m:=m.fr h1.fr0
 refine⟨m.wr 2,?_⟩
 intro w11
 have m:Mem w w11 [(b4,zT),(bq,[.int .i64 q0,.int .i64 q1,.int .i64 q2]),(bt,T43.cs { y with f1:=s9 })]:=m.set 2
 have f:Fr (fun b=>b=bt) w10 w11:=Fr.set rfl
 have a1:∀ b,inB s9 b->w3.heap.size<=b/\b<w10.heap.size:=fun b hb=>⟨h1.nw b hb,h1.ow.lt' hb⟩
 have g1:=h1.fr0.1
 have g2:=f.1
 have h1:=h1.ow.frF f fun b hb e=>by have:=a1 b hb; omega
 clear_value w11
 intro w12
 refine⟨y.f2,(m.fr Fr.alloc).ld 2,q2g (hy.crit.fr m.1) qav rfl (by omega) (by omega) fun s14 w15 h2=>?_⟩
 have m:=m.fr h2.fr0
 have h1:=h1.fr h2.fr0
 refine⟨m.wr 2,?_⟩
 intro w16
 have m:Mem w w16 [(b4,zT),(bq,[.int .i64 q0,.int .i64 q1,.int .i64 q2]),(bt,T43.cs { y with f1:=s9,f2:=s14 })]:=m.set 2
 have f:Fr (fun b=>b=bt) w15 w16:=Fr.set rfl
 have a2:∀ b,inB s14 b->w11.heap.size<=b/\b<w15.heap.size:=fun b hb=>⟨h2.nw b hb,h2.ow.lt' hb⟩
 have g3:=h2.fr0.1
 have g4:=f.1
 have h1:=h1.frF f fun b hb e=>by have:=a1 b hb; omega
 have h2:=h2.ow.frF f fun b hb e=>by have:=a2 b hb; omega
 clear_value w16
 intro w17
 refine⟨y.f3,(m.fr Fr.alloc).ld 2,q2g (hy.reqs.fr m.1) qjq rfl (by omega) (by omega) fun s19 w20 h3=>?_⟩
 have m:=m.fr h3.fr0
 have h1:=h1.fr h3.fr0
 have h2:=h2.fr h3.fr0
 refine⟨m.wr 2,?_⟩
 intro w21
 have m:Mem w w21 [(b4,zT),(bq,[.int .i64 q0,.int .i64 q1,.int .i64 q2]),(bt,T43.cs { y with f1:=s9,f2:=s14,f3:=s19 })]:=m.set 2
 have f:Fr (fun b=>b=bt) w20 w21:=Fr.set rfl
 have a3:∀ b,inB s19 b->w16.heap.size<=b/\b<w20.heap.size:=fun b hb=>⟨h3.nw b hb,h3.ow.lt' hb⟩
 have g5:=h3.fr0.1
 have g6:=f.1
 have h1:=h1.frF f fun b hb e=>by have:=a1 b hb; omega
 have h2:=h2.frF f fun b hb e=>by have:=a2 b hb; omega
 have h3:=h3.ow.frF f fun b hb e=>by have:=a3 b hb; omega
 clear_value w21
 intro w22
 refine⟨y.f11,(m.fr Fr.alloc).ld 2,q2g (hy.ties.fr m.1) q4z rfl (by omega) (by omega) fun s24 w25 h4=>?_⟩
 have m:=m.fr h4.fr0
 have h1:=h1.fr h4.fr0
 have h2:=h2.fr h4.fr0
 have h3:=h3.fr h4.fr0
 refine⟨m.wr 2,?_⟩
 intro w26
 have m:Mem w w26 [(b4,zT),(bq,[.int .i64 q0,.int .i64 q1,.int .i64 q2]),(bt,T43.cs { y with f1:=s9,f2:=s14,f3:=s19,f11:=s24 })]:=m.set 2
 have f:Fr (fun b=>b=bt) w25 w26:=Fr.set rfl
 have a4:∀ b,inB s24 b->w21.heap.size<=b/\b<w25.heap.size:=fun b hb=>⟨h4.nw b hb,h4.ow.lt' hb⟩
 have h1:=h1.frF f fun b hb e=>by have:=a1 b hb; omega
 have h2:=h2.frF f fun b hb e=>by have:=a2 b hb; omega
 have h3:=h3.frF f fun b hb e=>by have:=a3 b hb; omega
 have h4:=h4.ow.frF f fun b hb e=>by have:=a4 b hb; omega
 clear_value w26
 have E:EO w w26 { y with f1:=s9,f2:=s14,f3:=s19,f11:=s24 } bt bq b4 [.int .i64 q0,.int .i64 q1,.int .i64 q2] t :=
  ⟨m,h1,h2,h3,h4,fun b hb=>by rcases hb with hb | hb | hb | hb; (have:=a1 b hb; omega); (have:=a2 b hb; omega); (have:=a3 b hb; omega); (have:=a4 b hb; omega),
   fun b hb=>⟨fun hc=>by have:=a1 b hb; have:=a2 b hc; omega,fun hc=>by have:=a1 b hb; have:=a3 b hc; omega,fun hc=>by have:=a1 b hb; have:=a4 b hc; omega⟩,
   fun b hb=>⟨fun hc=>by have:=a2 b hb; have:=a3 b hc; omega,fun hc=>by have:=a2 b hb; have:=a4 b hc; omega⟩,
   fun b hb hc=>by have:=a3 b hb; have:=a4 b hc; omega,hy'.tw.ne⟩
 have R:RS0 w { y with f1:=s9,f2:=s14,f3:=s19,f11:=s24 } t Z:=⟨hy.name,hy.low,hy.high,hy'.tw.fm,hy.most,hy'.oz,hy'.tw.io,hy.budget,hy.t1,hy.t2,hy.t3,hy.t4,hy.t5⟩
 refine⟨⟨by decide,by decide⟩,_,by rw[q01]; exact m.lD (i:=0) 1 rfl rfl,q24 (by decide) (by decide) ?_⟩
 have hc:=q2e q0 (m:=12) (by decide)
 have hn:=q2e q1 (m:=7) (by decide)
 have hKc:∀ {c:Int},modP q0 12=c->∀ w' z Z,Fr F0 w w'->TE w.heap.size w' z (qqn t (modP q1 7).toNat q2 c) Z->K z w':=by rintro _ rfl; exact hK
 clear hK m h1 h2 h3 h4 a1 a2 a3 a4
 generalize modP q0 12=c at hc hKc
 obtain⟨n,en⟩:=Int.eq_ofNat_of_zero_le hn.1
 rw[en] at hn hKc ⊢
 rw[Int.toNat_natCast] at hKc
 have hq2:∀ {v:World},Rs v [(b4,zT),(bq,[.int .i64 q0,.int .i64 q1,.int .i64 q2]),(bt,T43.cs { y with f1:=s9,f2:=s14,f3:=s19,f11:=s24 })]->v.cell? ((⟨bq,0,none⟩:Addr).add ((2:Int).toNat*1))=some (.int .i64 q2):=fun h=>by rw[q01]; exact h.ld (i:=2) 1 rfl rfl
 have l1:s9.l=t.lots.length:=E.o1.len
 have l2:s14.l=t.crit.length:=E.o2.len
 have l3:s19.l=t.reqs.length:=E.o3.len
 refine q09.2 ⟨fun e=>?_,fun n0=>q09.2 ⟨fun e=>?_,fun n1=>q09.2 ⟨fun e=>?_,fun n2=>q09.2 ⟨fun e=>?_,fun n3=>q09.2 ⟨fun e=>?_,fun n4=>q09.2 ⟨fun e=>?_,fun n5=>q09.2 ⟨fun e=>?_,fun n6=>q09.2 ⟨fun e=>?_,fun n7=>q09.2 ⟨fun e=>?_,fun n8=>q09.2 ⟨fun e=>?_,fun n9=>q09.2 ⟨fun e=>?_,fun n10=>q09.2 ⟨fun e=>?_,fun n11=>by omega⟩⟩⟩⟩⟩⟩⟩⟩⟩⟩⟩⟩
 ·have hK:∀ w' z Z,Fr F0 w w'->TE w.heap.size w' z { t with lots:=if h:n<t.lots.length then t.lots.set n (t.lots[n].1,wr64 (t.lots[n].2+q2)) else t.lots } Z->K z w':=hKc e
  refine⟨s9,E.m.ld (i:=1) 2 rfl rfl,q00.2 ⟨fun hl=>?_,fun hl=>?_⟩⟩
  ·have hl:n<t.lots.length:=by omega
   simp only[hl,dif_pos] at hK
   intro w31
   have E:=E.fr (Fr.drew (F:=F0))
   have E:EO w w31 _ bt bq b4 _ t:=E
   clear_value w31
   refine⟨fun v=>v=w31,rfl,s9,fun v hv=>by rw[hv]; exact E.m.ld (i:=1) 2 rfl rfl,s9,fun v hv=>by rw[hv]; exact E.m.ld (i:=1) 2 rfl rfl,?_⟩
   refine Vw.go q0s (by decide) E.o1.vw n rfl hl fun a hc=>⟨_,fun v hv=>by rw[hv]; exact hc 1 _ rfl,⟨by decide,by decide⟩,_,fun v hv=>by rw[hv]; exact hq2 E.m.2.1,?_⟩
   exact qls E (fun u h=>let R:=R.fr h; ⟨R.name,R.low,R.high,R.fm,R.most,R.combos,R.io,R.budget,R.t1,R.t2,R.t3,R.t4,R.t5⟩) hl (by decide) rfl hK
  ·have hl:¬n<t.lots.length:=by omega
   simp only[hl,dif_neg,not_false_iff] at hK
   exact qbq E (fun u h=>R.fr h) hK
 ·have hK:∀ w' z Z,Fr F0 w w'->TE w.heap.size w' z { t with crit:=if h:n<t.crit.length then t.crit.set n { t.crit[n] with high:=wr64 (t.crit[n].high+q2) } else t.crit } Z->K z w':=hKc e
  refine⟨s14,E.m.ld (i:=2) 2 rfl rfl,q00.2 ⟨fun hl=>?_,fun hl=>?_⟩⟩
  ·have hl:n<t.crit.length:=by omega
   simp only[hl,dif_pos] at hK
   intro w31
   have E:=E.fr (Fr.drew (F:=F0))
   have E:EO w w31 _ bt bq b4 _ t:=E
   clear_value w31
   refine⟨fun v=>v=w31,rfl,s14,fun v hv=>by rw[hv]; exact E.m.ld (i:=2) 2 rfl rfl,s14,fun v hv=>by rw[hv]; exact E.m.ld (i:=2) 2 rfl rfl,?_⟩
   refine Vw.go q10 (by decide) E.o2.vw n rfl hl fun a hc=>⟨_,fun v hv=>by rw[hv]; exact hc 3 _ rfl,⟨by decide,by decide⟩,_,fun v hv=>by rw[hv]; exact hq2 E.m.2.1,?_⟩
   exact qlt E (fun u h=>let R:=R.fr h; ⟨R.name,R.low,R.high,R.fm,R.most,R.combos,R.io,R.budget,R.t1,R.t2,R.t3,R.t4,R.t5⟩) hl (by decide) rfl hK
  ·have hl:¬n<t.crit.length:=by omega
   simp only[hl,dif_neg,not_false_iff] at hK
   exact qbq E (fun u h=>R.fr h) hK
 ·have hK:∀ w' z Z,Fr F0 w w'->TE w.heap.size w' z { t with reqs:=if h:n<t.reqs.length then t.reqs.set n { t.reqs[n] with val:=wr64 (t.reqs[n].val+q2) } else t.reqs } Z->K z w':=hKc e
  refine⟨s19,E.m.ld (i:=3) 2 rfl rfl,q00.2 ⟨fun hl=>?_,fun hl=>?_⟩⟩
  ·have hl:n<t.reqs.length:=by omega
   simp only[hl,dif_pos] at hK
   intro w31
   have E:=E.fr (Fr.drew (F:=F0))
   have E:EO w w31 _ bt bq b4 _ t:=E
   clear_value w31
   refine⟨fun v=>v=w31,rfl,s19,fun v hv=>by rw[hv]; exact E.m.ld (i:=3) 2 rfl rfl,s19,fun v hv=>by rw[hv]; exact E.m.ld (i:=3) 2 rfl rfl,?_⟩
   refine Vw.go q1j (by decide) E.o3.vw n rfl hl fun a hc=>⟨_,fun v hv=>by rw[hv]; exact hc 2 _ rfl,⟨by decide,by decide⟩,_,fun v hv=>by rw[hv]; exact hq2 E.m.2.1,?_⟩
   exact qlu E (fun u h=>let R:=R.fr h; ⟨R.name,R.low,R.high,R.fm,R.most,R.combos,R.io,R.budget,R.t1,R.t2,R.t3,R.t4,R.t5⟩) hl (by decide) rfl hK
  ·have hl:¬n<t.reqs.length:=by omega
   simp only[hl,dif_neg,not_false_iff] at hK
   exact qbq E (fun u h=>R.fr h) hK
 ·have hK:∀ w' z Z,Fr F0 w w'->TE w.heap.size w' z { t with high:=wr64 (t.high+q2) } Z->K z w':=hKc e
  refine⟨_,E.m.ld (i:=5) 2 rfl rfl,⟨by decide,by decide⟩,_,hq2 E.m.2.1,?_⟩
  exact q7g (t':={ t with high:=wr64 (t.high+q2) }) (z':={ y with f1:=s9,f2:=s14,f3:=s19,f11:=s24,f5:=wr64 (y.f5+q2) }) E (by decide) (fun u h=>let R:=R.fr h; ⟨R.name,R.low,by show wr64 _=_; rw[hy.high],R.fm,R.most,R.combos,R.io,R.budget,R.t1,R.t2,R.t3,R.t4,R.t5⟩) rfl rfl rfl rfl rfl rfl rfl rfl rfl hK
 ·have hK:∀ w' z Z,Fr F0 w w'->TE w.heap.size w' z { t with fm:=.op 0 t.fm (.name (namP q2)) } Z->K z w':=hKc e
  intro w63
  have E:=E.fr (Fr.drew (F:=F0))
  have E:EO w w63 _ bt bq b4 _ t:=E
  clear_value w63
  refine⟨fun v=>Rs v [(b4,zT),(bq,[.int .i64 q0,.int .i64 q1,.int .i64 q2]),(bt,T43.cs { y with f1:=s9,f2:=s14,f3:=s19,f11:=s24 })],E.m.2.1,?_⟩
  refine⟨_,fun v hv=>hv.ld (i:=6) 2 rfl rfl,_,fun v hv=>hv.ld (i:=7) 2 rfl rfl,_,fun v hv=>hv.ld (i:=8) 2 rfl rfl,_,fun v hv=>hv.ld (i:=9) 2 rfl rfl,y.f10,fun v hv=>hv.ld (i:=10) 2 rfl rfl,⟨by decide,by decide⟩,_,fun v hv=>hq2 hv,qqo E R hK⟩
 ·have hK:∀ w' z Z,Fr F0 w w'->TE w.heap.size w' z { t with ties:=t.ties++[namP q2] } Z->K z w':=hKc e
  intro w75
  have E:=E.fr (Fr.drew (F:=F0))
  have E:EO w w75 _ bt bq b4 _ t:=E
  clear_value w75
  refine⟨fun v=>Rs v [(b4,zT),(bq,[.int .i64 q0,.int .i64 q1,.int .i64 q2]),(bt,T43.cs { y with f1:=s9,f2:=s14,f3:=s19,f11:=s24 })],E.m.2.1,s24,fun v hv=>hv.ld (i:=11) 2 rfl rfl,⟨by decide,by decide⟩,_,fun v hv=>hq2 hv,?_⟩
  refine q2z fun w79 hf=>⟨(E.fr hf).m.2.1,?_⟩
  have E:=E.fr hf
  intro w81
  have E':=E.fr (Fr.alloc (o:=Obj.cells (encB (namP q2)).toArray 9))
  refine⟨E'.m.2.1,E'.o4.app (m:=[namP q2]) (Vw.new rfl rfl) q4z rfl (by simp; omega) (by simp; omega) fun s82 w83 ho hfr hs=>⟨?_,?_⟩⟩
  ·exact(E'.m.frF hfr (fun p hp' hb=>by
    have:=E'.n p.1 (.inr (.inr (.inr hb)))
    simp only[J2,J0,or_false] at hp'
    rcases hp' with rfl | rfl | rfl<;>simp at this) fun b hb=>(E'.n b (.inr (.inr (.inr hb)))).1).2.1
  ·exact qlx (l:=t.ties++[namP q2]) E' (fun u h=>let R:=R.fr h; ⟨R.name,R.low,R.high,R.fm,R.most,R.combos,R.io,R.budget,R.t1,R.t2,R.t3,R.t4,R.t5⟩) hfr ho (fun s hs=>(J5.1 hs).elim (hy'.tw.ne s) fun h=>by rw[J4.1 h]; exact qjz q2) hs hK
 ·have hK:∀ w' z Z,Fr F0 w w'->TE w.heap.size w' z { t with most:=wr64 (t.most+q2) } Z->K z w':=hKc e
  refine⟨_,E.m.ld (i:=12) 2 rfl rfl,⟨by decide,by decide⟩,_,hq2 E.m.2.1,?_⟩
  exact q7g (t':={ t with most:=wr64 (t.most+q2) }) (z':={ y with f1:=s9,f2:=s14,f3:=s19,f11:=s24,f12:=wr64 (y.f12+q2) }) E (by decide) (fun u h=>let R:=R.fr h; ⟨R.name,R.low,R.high,R.fm,by show wr64 _=_; rw[hy.most],R.combos,R.io,R.budget,R.t1,R.t2,R.t3,R.t4,R.t5⟩) rfl rfl rfl rfl rfl rfl rfl rfl rfl hK
 ·have hK:∀ w' z Z,Fr F0 w w'->TE w.heap.size w' z { t with combos:=t.combos++[[(n:Int),q2]] } Z->K z w':=hKc e
  have hZ:=hy'.oz.vw
  have hZl:=hy'.tw.io.1
  have hZ2:Z.length<=2^20:=by omega
  intro w88
  have E:=E.fr (Fr.drew (F:=F0))
  have E:EO w w88 _ bt bq b4 _ t:=E
  clear_value w88
  have hS:∀ {v:World},Fr F0 w88 v->v.cell? (⟨bt,13,none⟩:Addr)=some (.slice y.f13.p y.f13.l y.f13.c):=fun f=>(E.fr f).m.ld (i:=13) 2 rfl rfl
  have zv:∀ {v:World},Fr F0 w88 v->Vw 1 encZ v y.f13 Z:=fun f=>hZ.fr (E.m.1.t f)
  have fin:=fun {s:Sl} {ib:Nat} {u:World} (hm:Mk w88 1 encZ u s (Z++[⟨some ⟨ib,0,none⟩,2,2⟩])) (hi:w88.heap.size<=ib) (hr:Row u ib [.int .i64 n,.int .i64 q2])=>qly E R hm hi hr hK
  refine⟨fun v=>Fr F0 w88 v,Fr.refl,y.f13,fun v hv=>hS hv,⟨by decide,by decide⟩,_,fun v hv=>hq2 (E.fr hv).m.2.1,?_,?_⟩
  ·intro w92
   refine⟨Fr.alloc,q2g (zv Fr.refl) q6m rfl (by omega) (by omega) fun s93 w94 h1=>⟨h1.fr0,?_⟩,?_⟩
   ·intro w95
    have r1:Row w95 w94.heap.size [.int .i64 n,.int .i64 q2]:=Row.new
    have f1:Fr F0 w94 w95:=Fr.alloc
    have k1:=h1.fr0.1
    clear_value w95
    refine⟨h1.fr0.t f1,?_⟩
    intro w96
    have r2:Row w96 w95.heap.size [.slice (some ⟨w94.heap.size,0,none⟩) 2 2]:=Row.new
    have f2:Fr F0 w95 w96:=Fr.alloc
    clear_value w96
    refine⟨h1.fr0.t (f1.t f2),q4k (h1.fr (f1.t f2)) (f2.row r1 fun h=>h) r2 (fun b hb e=>by have:=h1.ow.lt' hb; omega) hZ2 fun s97 w98 h2 hr=>⟨h2.fr0,fin h2 k1 hr⟩⟩
   ·intro w100
    have r0:Row w92 w88.heap.size []:=Row.new (cs:=[])
    have f0:Fr F0 w88 w92:=Fr.alloc
    have r1:Row w100 w92.heap.size [.int .i64 n,.int .i64 q2]:=Row.new
    have f1:Fr F0 w92 w100:=Fr.alloc
    have k0:=r0.lt
    have k1:=f1.1
    clear_value w100 w92
    refine⟨f0.t f1,fun u u' h hs=>hs.t h.f0,⟨fun u=>ExtL.alloc,trivial⟩,fun w101 e101=>?_⟩
    have f2:=f0.t (f1.t e101.f0)
    have g2:=f2.1
    refine copy0 q1i ((f1.t e101.f0).row r0 fun h=>h) (zv f2) q6m rfl (by omega) (by omega) fun s102 w103 h1 f3 hs=>⟨f3.ext,fun w104 e104 w105 e105 _ g105=>?_⟩
    have f4:=f3.t e104.f0
    have g3:=(f1.t e101.f0).1
    have hm:Mk w88 1 encZ w104 s102 Z:=⟨f2.t f4,h1.fr e104.f0,fun b hb=>by rcases hs b hb with h | h<;>omega⟩
    have g4:=e101.f0.1
    have k4:=r1.lt
    refine q4k hm ((e101.f0.t f4).row r1 fun h=>h) (g105.f0.row (Row.new (cs:=[.slice (some ⟨w92.heap.size,0,none⟩) 2 2])) fun h=>h) (fun b hb e=>by rcases hs b hb with h | h<;>omega) hZ2 fun s97 w98 h2 hr=>⟨h2.fr0,fin h2 f0.1 hr⟩
  ·intro w109
   have r1:Row w109 w88.heap.size [.int .i64 n,.int .i64 q2]:=Row.new
   have f1:Fr F0 w88 w109:=Fr.alloc
   have k0:=r1.lt
   clear_value w109
   refine⟨f1,?_,?_⟩
   ·intro w110
    have r0:Row w110 w109.heap.size []:=Row.new (cs:=[])
    have f0:Fr F0 w109 w110:=Fr.alloc
    have k1:=f0.1
    clear_value w110
    refine⟨f1.t f0,fun u u' h hs=>hs.t h.f0,⟨fun u=>ExtL.alloc,trivial⟩,fun w111 e111=>?_⟩
    have f2:=f1.t (f0.t e111.f0)
    have g2:=f2.1
    refine copy0 q1i (e111.f0.row r0 fun h=>h) (zv f2) q6m rfl (by omega) (by omega) fun s112 w113 h1 f3 hs=>⟨f3.ext,fun w114 e114 w115 e115 _ g115=>?_⟩
    have f4:=f3.t e114.f0
    have g4:=(f0.t e111.f0).1
    have hm:Mk w88 1 encZ w114 s112 Z:=⟨f2.t f4,h1.fr e114.f0,fun b hb=>by rcases hs b hb with h | h<;>omega⟩
    refine q4k hm ((f0.t (e111.f0.t f4)).row r1 fun h=>h) (g115.f0.row (Row.new (cs:=[.slice (some ⟨w88.heap.size,0,none⟩) 2 2])) fun h=>h) (fun b hb e=>by rcases hs b hb with h | h<;>omega) hZ2 fun s97 w98 h2 hr=>⟨h2.fr0,fin h2 (Jd _) hr⟩
   ·intro w119
    have r2:Row w119 w109.heap.size [.slice (some ⟨w88.heap.size,0,none⟩) 2 2]:=Row.new
    have f2:Fr F0 w109 w119:=Fr.alloc
    have k2:=f2.1
    clear_value w119
    refine⟨f1.t f2,?_⟩
    intro w120
    have f3:Fr F0 w119 w120:=Fr.alloc
    refine⟨f1.t (f2.t f3),q2g (zv (f1.t f2)) q6m rfl (by omega) (by omega) fun s121 w122 h1=>?_⟩
    have f5:=f2.t h1.fr0
    have hm:Mk w88 1 encZ w122 s121 Z:=⟨f1.t f5,h1.ow,fun b hb=>by have:=h1.nw b hb; omega⟩
    refine⟨f1.t f5,q4k hm (f5.row r1 fun h=>h) (h1.fr0.row r2 fun h=>h) (fun b hb e=>by have:=h1.nw b hb; omega) hZ2 fun s97 w98 h2 hr=>⟨h2.fr0,fin h2 (Jd _) hr⟩⟩
 ·have hK:∀ w' z Z,Fr F0 w w'->TE w.heap.size w' z { t with budget:=wr64 (t.budget+q2) } Z->K z w':=hKc e
  refine⟨_,E.m.ld (i:=14) 2 rfl rfl,⟨by decide,by decide⟩,_,hq2 E.m.2.1,?_⟩
  exact q7g (t':={ t with budget:=wr64 (t.budget+q2) }) (z':={ y with f1:=s9,f2:=s14,f3:=s19,f11:=s24,f14:=wr64 (y.f14+q2) }) E (by decide) (fun u h=>let R:=R.fr h; ⟨R.name,R.low,R.high,R.fm,R.most,R.combos,R.io,by show wr64 _=_; rw[hy.budget],R.t1,R.t2,R.t3,R.t4,R.t5⟩) rfl rfl rfl rfl rfl rfl rfl rfl rfl hK
 ·have hK:∀ w' z Z,Fr F0 w w'->TE w.heap.size w' z { t with t2:=wr64 (t.t2+q2) } Z->K z w':=hKc e
  refine⟨_,E.m.ld (i:=16) 2 rfl rfl,⟨by decide,by decide⟩,_,hq2 E.m.2.1,?_⟩
  exact q7g (t':={ t with t2:=wr64 (t.t2+q2) }) (z':={ y with f1:=s9,f2:=s14,f3:=s19,f11:=s24,f16:=wr64 (y.f16+q2) }) E (by decide) (fun u h=>let R:=R.fr h; ⟨R.name,R.low,R.high,R.fm,R.most,R.combos,R.io,R.budget,R.t1,by show wr64 _=_; rw[hy.t2],R.t3,R.t4,R.t5⟩) rfl rfl rfl rfl rfl rfl rfl rfl rfl hK
 ·have hK:∀ w' z Z,Fr F0 w w'->TE w.heap.size w' z { t with lots:=t.lots++[((n:Int),q2)] } Z->K z w':=hKc e
  refine⟨s9,E.m.ld (i:=1) 2 rfl rfl,⟨by decide,by decide⟩,_,hq2 E.m.2.1,?_⟩
  have E':=E.fr (Fr.alloc (o:=Obj.cells (encL ((n:Int),q2)).toArray 49))
  exact E'.o1.app (m:=[((n:Int),q2)]) (Vw.new rfl rfl) qep rfl (by simp; omega) (by simp; omega) fun s82 w83 ho hfr hs =>
   qlv (l:=t.lots++[((n:Int),q2)]) E' (fun u h=>let R:=R.fr h; ⟨R.name,R.low,R.high,R.fm,R.most,R.combos,R.io,R.budget,R.t1,R.t2,R.t3,R.t4,R.t5⟩) hfr ho hs hK
 ·have hK:∀ w' z Z,Fr F0 w w'->TE w.heap.size w' z { t with crit:=if n<t.crit.length then t.crit.take n++t.crit.drop (n+1) else t.crit } Z->K z w':=hKc e
  refine⟨s14,E.m.ld (i:=2) 2 rfl rfl,q00.2 ⟨fun hl=>?_,fun hl=>?_⟩⟩
  ·have hl:n<t.crit.length:=by omega
   simp only[hl,if_true] at hK
   intro w139
   have E:=E.fr (Fr.drew (F:=F0))
   have E:EO w w139 _ bt bq b4 _ t:=E
   clear_value w139
   have cap:=E.o2.vw.cap
   have ew:IntKind.wrap .i64 ((n:Int)+1)=((n+1:Nat):Int):=by rw[q58 (by omega) (by omega)]; omega
   rw[ew]
   refine⟨fun v=>Rs v [(b4,zT),(bq,[.int .i64 q0,.int .i64 q1,.int .i64 q2]),(bt,T43.cs { y with f1:=s9,f2:=s14,f3:=s19,f11:=s24 })],E.m.2.1,s14,fun v hv=>hv.ld (i:=2) 2 rfl rfl,⟨by decide,by omega,by simp only at cap l2 ⊢; omega⟩,s14,fun v hv=>hv.ld (i:=2) 2 rfl rfl,⟨by omega,by simp only at cap l2 ⊢; omega⟩,?_⟩
   intro w143
   have E':=E.fr (Fr.alloc (o:=Obj.cells #[] 56))
   refine⟨E'.m.2.1,q2g (E.o2.vw.take q10 (j:=n) (by omega)) qav rfl (by simp; omega) (by simp; omega) fun s144 w145 h5=>⟨(E.fr h5.fr0).m.2.1,?_⟩⟩
   refine h5.app ((E.fr h5.fr0).o2.vw.drop q10 (j:=n+1) (by omega)) qav rfl (by simp; omega) (by simp; omega) fun s146 w147 h6 _=>⟨(E.fr h6.fr0).m.2.1,?_⟩
   exact qlw (l:=t.crit.take n++t.crit.drop (n+1)) E (fun u h=>let R:=R.fr h; ⟨R.name,R.low,R.high,R.fm,R.most,R.combos,R.io,R.budget,R.t1,R.t2,R.t3,R.t4,R.t5⟩) (h6.fr0.mono fun _ h=>h.elim) h6.ow (fun b hb=>.inr (h6.nw b hb)) hK
  ·have hl:¬n<t.crit.length:=by omega
   simp only[hl,if_false] at hK
   exact qbq E (fun u h=>R.fr h) hK
end
