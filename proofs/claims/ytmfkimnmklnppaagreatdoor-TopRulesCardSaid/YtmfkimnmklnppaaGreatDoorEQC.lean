/- Rows of cells, slices that own their row, and what changes: plain laws on worlds. Conditions: none. -/
import Derived.Test.YtmfkimnmklnppaaGreatDoorEQB
import Derived.ProofKit
import Derived.OpenShut
import Derived.ChangeSame
import Derived.Laws.Externs
import Derived.Shelf.Spec.BitsCarry
import Derived.Lib.Mul64
import Derived.KernelRfl
open List renaming getElem?_eq_some_iff->J0,mem_of_getElem?->J1,getElem?_eq_getElem->J2,ext_getElem?->J3,eq_nil_of_length_eq_zero->J4,take_append_of_le_length->J5,mem_of_mem_drop->J6,getElem?_set->J7,getElem?_cons_succ->J8,flatMap_cons->J9,take_of_length_le->Ja,length_cons->Jb,take_append_drop->Jc,getElem?_append->Jd,flatMap_append->Je,getElem?_take->Jf,getElem_map->Jg,length_set->Jh,mem_cons->Ji
open Int renaming eq_ofNat_of_zero_le->Jj,fdiv_eq_ediv_of_nonneg->Jk,natCast_mul->Jl,natCast_add->Jm,natCast_pow->Jn
open Nat renaming mul_le_mul_right->Jo,add_mul->Jp,eq_of_beq_eq_true->Jq,le_of_ble_eq_true->Jr,le_refl->Js,zero_add->Jt,beq_refl->Ju,mul_assoc->Jv,div_lt_iff_lt_mul->Jw,mul_le_mul_left->Jx,beq->Jy,mul_right_comm->Jz,le_trans->JA,mul_comm->JB,mod_eq_of_lt->JC,two_pow_pos->JD,add_zero->JE,lt_or_ge->JF,mul_add->JG,ble->JH
namespace Pw
open Go
theorem q01{n:Int}(h0:-9223372036854775808<=n:=by omega)(h1:n<9223372036854775808:=by omega):inR .i64 n:=q89 h0 h1
@[simp] theorem q04(b o n:Nat):(⟨b,o,none⟩:Addr).add n=⟨b,o+n,none⟩:=by
 unfold Addr.add
 grind
def Row(w:World)(b:Nat)(cs:List Value):Prop:=
 ∃e f,w.heap[b]?=some (.cells cs.toArray e f)/\∀i,i<cs.length->¬(f.1<=i/\i<f.2)
section
variable{w w':World}{b:Nat}{cs:List Value}
theorem Row.lt(h:Row w b cs):b<w.heap.size:=by
 obtain⟨e,f,h,_⟩:=h
 grind
theorem Row.cell(h:Row w b cs)(i:Nat):w.cell? ⟨b,i,none⟩=cs[i]?:=by
 obtain⟨e,f,h,_⟩:=h
 simp[World.cell?,h]
theorem Row.at(h:Row w b cs){i:Nat}{v:Value}(hi:cs[i]?=some v:=by exact rfl):w.cell? ⟨b,i,none⟩=some v:=by rw[h.cell,hi]
theorem Row.wr(h:Row w b cs){i:Nat}(hi:i<cs.length):wrOk w ⟨b,i,none⟩:=by
 refine⟨⟨cs[i],by rw[h.cell];simp[hi]⟩,?_⟩
 obtain⟨e,f,h,hf⟩:=h
 obtain⟨lo,hi'⟩:=f
 have:=hf i hi
 simp only[World.frozen?,h]
 grind
theorem Row.congr(h:Row w b cs)(he:w'.heap[b]?=w.heap[b]?):Row w' b cs:=by
 obtain⟨e,f,h,hf⟩:=h
 exact⟨e,f,by rw[he,h],hf⟩
theorem q3w{a:Addr}{v:Value}(h:a.block≠b):(w.setCell a v).heap[b]?=w.heap[b]?:=by
 simp[World.setCell,Array.getElem?_modify,h]
theorem Row.set(h:Row w b cs)(i:Nat)(v:Value):Row (w.setCell ⟨b,i,none⟩ v) b (cs.set i v):=by
 obtain⟨e,f,h,hf⟩:=h
 refine⟨e,f,?_,by simpa using hf⟩
 simp[World.setCell,Array.getElem?_modify,h]
theorem q5y{o:Obj}(h:b<w.heap.size):(w.alloc o).heap[b]?=w.heap[b]?:=by
 have:b≠w.heap.size:=oo
 show(w.heap.push o)[b]?=_
 grind
theorem Row.new{e:TypeId}:Row (w.alloc (.cells cs.toArray e)) w.heap.size cs:=
 ⟨e,(0,0),by show(w.heap.push _)[w.heap.size]?=_;simp,og⟩
theorem Row.newF{e:TypeId}{n:Nat}(h:cs.length<=n):Row (w.alloc (.cells cs.toArray e (n,n+1))) w.heap.size cs:=
 ⟨e,(n,n+1),by show(w.heap.push _)[w.heap.size]?=_;simp,fun i hi=>oy⟩
end
def Fr(F:Nat->Prop)(w w':World):Prop:=w.heap.size<=w'.heap.size/\(∀b,b<w.heap.size->¬F b->w'.heap[b]?=w.heap[b]?)/\w'.os=w.os/\w'.output=w.output/\w'.tape=w.tape
section
variable{F G:Nat->Prop}{w w1 w2:World}
theorem Fr.refl:Fr F w w:=⟨Js _,fun _ _ _=>rfl,rfl,rfl,rfl⟩
theorem Fr.mono(h:Fr F w w1)(hg:∀b,F b->G b):Fr G w w1:=⟨h.1,fun b hb hn=>h.2.1 b hb fun hf=>hn (hg b hf),h.2.2⟩
theorem Fr.trans(h:Fr F w w1)(h':Fr G w1 w2)(hg:∀b,G b->b<w.heap.size->F b):Fr F w w2:=
 ⟨JA h.1 h'.1,fun b hb hn=>by rw[h'.2.1 b (Nat.lt_of_lt_of_le hb h.1) (fun hG=>hn (hg b hG hb)),h.2.1 b hb hn],by rw[h'.2.2.1,h.2.2.1],by rw[h'.2.2.2.1,h.2.2.2.1],by rw[h'.2.2.2.2,h.2.2.2.2]⟩
theorem Fr.drew:Fr F w w.drew:=⟨Js _,fun _ _ _=>rfl,rfl,rfl,rfl⟩
theorem Fr.alloc{o:Obj}:Fr F w (w.alloc o):=⟨og,fun _ hb _=>q5y hb,rfl,rfl,rfl⟩
theorem Fr.set{a:Addr}{v:Value}(h:F a.block):Fr F w (w.setCell a v):=⟨og,fun b _ hn=>q3w fun he=>hn (he▸h),rfl,rfl,rfl⟩
theorem Fr.row{b:Nat}{cs:List Value}(h:Fr F w w1)(hr:Row w b cs)(hb:¬F b):Row w1 b cs:=hr.congr (h.2.1 b hr.lt hb)
end
def q2e(cs:List Value)(o:Nat)(vs:List Value):List Value:=cs.take o++vs++cs.drop (o+vs.length)
theorem q8f(cs:List Value)(o:Nat)(v:Value)(vs:List Value)(h:o<cs.length):q2e (cs.set o v) (o+1) vs=q2e cs o (v::vs):=by
 unfold q2e
 apply J3
 intro i
 by_cases h1:i<o
 ·grind
 ·have h3:min (o+1) cs.length=o+1:=oo
  have h4:min o cs.length=o:=oo
  by_cases h2:i=o
  ·grind
  ·obtain⟨k,rfl⟩:∃k,i=o+1+k:=⟨i-(o+1),oo⟩
   have e1:o+1+k-(o+1)=k:=oo
   have e2:o+1+k-o=k+1:=oo
   have e3:¬(o+1+k<o+1):=oo
   have e4:¬(o+1+k<o):=oo
   simp[Jd,J7,h3,h4,e1,e2,e3,e4]
   grind
theorem qa6(cs:List Value)(o:Nat):q2e cs o []=cs:=by simp[q2e]
theorem q5z(cs:List Value)(o:Nat)(vs:List Value)(h:o+vs.length<=cs.length):(q2e cs o vs).length=cs.length:=by
 simp[q2e];omega
theorem qbe{a:Addr}:∀(vs:List Value) (i:Nat) (w:World),(wrC w a i vs).heap.size=w.heap.size
 | [],_,_=>rfl
 | v::vs,i,w=>by simp only[wrC];rw[qbe vs];simp
theorem qll{a:Addr}:∀(vs:List Value) (i:Nat) (w:World),(wrC w a i vs).os=w.os
 | [],_,_=>rfl
 | v::vs,i,w=>by simp only[wrC];rw[qll vs];rfl
theorem qbf{a:Addr}:∀(vs:List Value) (i:Nat) (w:World),(wrC w a i vs).tape=w.tape
 | [],_,_=>rfl
 | v::vs,i,w=>by simp only[wrC];rw[qbf vs];rfl
theorem qfg{a:Addr}:∀(vs:List Value) (i:Nat) (w:World),(wrC w a i vs).output=w.output
 | [],_,_=>rfl
 | v::vs,i,w=>by simp only[wrC];rw[qfg vs];rfl
theorem q3k(a:Addr)(n:Nat):(a.add n).block=a.block:=by unfold Addr.add;split<;>rfl
theorem qlm{a:Addr}{b:Nat}(h:a.block≠b):∀(vs:List Value) (i:Nat) (w:World),(wrC w a i vs).heap[b]?=w.heap[b]?
 | [],_,_=>rfl
 | v::vs,i,w=>by
  simp only[wrC]
  rw[qlm h vs,q3w (by rw[q3k];exact h)]
theorem qfh{b o:Nat}:∀(vs:List Value) (i:Nat) (w:World) (cs:List Value),Row w b cs->o+i+vs.length<=cs.length->Row (wrC w ⟨b,o,none⟩ i vs) b (q2e cs (o+i) vs)
 | [],i,w,cs,h,_=>by simpa [wrC,qa6]using h
 | v::vs,i,w,cs,h,hl=>by
  simp only[Jb]at hl
  simp only[wrC,q04]
  have:=qfh (o:=o) vs (i+1) _ _ (h.set (o+i) v) oy
  rw[show o+(i+1)=o+i+1 by omega,q8f _ _ _ _ oo]at this
  exact this
def OwnV(size:Nat)(w:World)(s:Sl)(vs:List Value):Prop:=
 vs.length=s.l*size/\((s.p=none/\s.l=0/\s.c=0)\/∃b cs,s.p=some ⟨b,0,none⟩/\Row w b cs/\cs.length=s.c*size/\s.l<=s.c/\cs.take vs.length=vs)
def inB(s:Sl)(b:Nat):Prop:=∃a,s.p=some a/\a.block=b
section
variable{size:Nat}{w w':World}{s x:Sl}{vs us:List Value}
theorem OwnV.congr(h:OwnV size w s vs)(hc:∀b,inB s b->w'.heap[b]?=w.heap[b]?):OwnV size w' s vs:=by
 obtain⟨hl,h|⟨b,cs,hp,hr,h⟩⟩:=h
 ·exact⟨hl,.inl h⟩
 ·exact⟨hl,.inr ⟨b,cs,hp,hr.congr (hc b ⟨_,hp,rfl⟩),h⟩⟩
theorem OwnV.lt(h:OwnV size w s vs){b:Nat}(hb:inB s b):b<w.heap.size:=by
 obtain⟨a,ha,rfl⟩:=hb
 obtain⟨hl,h|⟨b,cs,hp,hr,h⟩⟩:=h
 ·grind
 ·rw[hp]at ha;cases ha;exact hr.lt
theorem OwnV.fr{F:Nat->Prop}(h:OwnV size w s vs)(hf:Fr F w w')(hn:∀b,inB s b->¬F b):OwnV size w' s vs:=
 h.congr fun b hb=>hf.2.1 b (h.lt hb) (hn b hb)
theorem OwnV.rd(h:OwnV size w s vs):rdC w s.p (s.l*size) vs:=by
 obtain⟨hl,h|⟨b,cs,hp,hr,hc,hle,ht⟩⟩:=h
 ·refine⟨hl,?_⟩
  grind
 ·refine⟨hl,?_⟩
  rw[hp]
  intro i hi
  simp only[q04,Jt]
  rw[hr.cell]
  grind
theorem OwnV.nil:OwnV size w ⟨none,0,0⟩ []:=⟨og,.inl ⟨rfl,rfl,rfl⟩⟩
theorem q8g(zero:List Value)(n:Nat):(rowZ zero n).length=n:=by simp[rowZ]
theorem qs7{F:Nat->Prop}{p:Option Addr}{n:Nat}(h:rdC w p n vs)(hf:Fr F w w')(hn:∀a,p=some a->¬F a.block):rdC w' p n vs:=by
 obtain⟨hl,h⟩:=h
 refine⟨hl,?_⟩
 cases p with
 | none=>exact h
 | some a =>
  intro i hi
  have h1:=h i hi
  have hlt:a.block<w.heap.size:=by
   have:=World.block_lt_of_cell? _ _ h1
   rwa [q3k]at this
  have h2:=hf.2.1 a.block hlt (hn a rfl)
  unfold World.cell? at h1 ⊢
  rw[q3k]at h1 ⊢
  grind
theorem qln{bytes:Nat}{zero:List Value}{e n:Nat}{K:SW}(h:OwnV size w s vs)(hu:us.length=n*size)(hz:zero.length=size)
  (hb:(s.l+n)*bytes<=2^47) (hn:s.l+n<2^63)
  (hK:∀r w',OwnV size w' r (vs++us)->r.l=s.l+n->Fr (inB s) w w'->(∀b,inB r b->inB s b\/w.heap.size<=b)->K r w') :
  apG size bytes zero e s n us w K:=by
 have hrd:=h.rd
 obtain⟨hl,h⟩:=h
 constructor
 ·intro hc
  rcases h with⟨hp,hl0,hc0⟩|⟨b,cs,hp,hr,hcs,hle,ht⟩
  ·rw[hp]
   have hn0:n=0:=oo
   subst hn0
   have:us=[]:=J4 (by simpa using hu)
   subst this
   have hvs:vs=[]:=J4 oz
   subst hvs
   refine hK _ _ ⟨by simp[hl0],.inl ⟨rfl,by simp[hl0],hc0⟩⟩ rfl Fr.refl fun b hb=>?_
   obtain⟨a,ha,_⟩:=hb
   cases ha
  ·rw[hp]
   simp only[q04,Jt]
   have hfit:s.l*size+us.length<=cs.length:=by
    rw[hu,hcs,←Jp]
    exact Jo _ hc
   refine⟨fun i hi=>?_,?_⟩
   ·simp only[q04]
    exact hr.wr oo
   ·have hrow:=qfh us 0 w cs hr (o:=s.l*size) oo
    simp only[JE]at hrow
    refine hK _ _ ⟨by simp[hl,hu,Jp],.inr ⟨b,_,rfl,hrow,by rw[q5z _ _ _ hfit,hcs],hc,?_⟩⟩ rfl ⟨by rw[qbe];exact Js _,fun c _ hn=>qlm (a:=⟨b,s.l*size,none⟩) (fun he=>hn ⟨_,hp,he⟩) _ _ _,qll _ _ _,qfg _ _ _,qbf _ _ _⟩ fun c hc=>?_
    ·rw[←hl]
     unfold q2e
     grind
    ·obtain⟨a,ha,rfl⟩:=hc
     cases ha
     exact .inl ⟨_,hp,rfl⟩
 ·intro hc
  refine⟨hb,hn,vs,hrd,fun cap hcap=>?_⟩
  have hlen:(vs++us++rowZ zero ((cap-(s.l+n))*zero.length)).length=cap*size:=by
   simp[q8g,hl,hu,hz]
   rw[←Jp,←Jp]
   grind
  refine hK _ _ ⟨by simp[qfb,hl,hu,Jp],.inr ⟨w.heap.size,_,rfl,Row.new (w:=w.drew),by rw[hlen];rfl,hcap,?_⟩⟩ rfl (Fr.trans Fr.drew (Fr.alloc (F:=inB s)) fun b hb _=>hb) fun b hb=>?_
  ·grind
  ·obtain⟨a,ha,rfl⟩:=hb
   cases ha
   grind
theorem qt3{bytes:Nat}{zero:List Value}{e:Nat}{K:SW}(h:OwnV size w s vs)(hx:rdC w x.p (x.l*size) us)(hok:∀v∈us,okC v=true)(hz:zero.length=size)
  (hb:(s.l+x.l)*bytes<=2^47) (hn:s.l+x.l<2^63)
  (hK:∀r w',OwnV size w' r (vs++us)->r.l=s.l+x.l->Fr (inB s) w w'->(∀b,inB r b->inB s b\/w.heap.size<=b)->K r w') :
  apS size bytes zero e s x w K:=⟨us,hx,hok,qln h hx.1 hz hb hn hK⟩
end
theorem Fr.kept{w w':World}(h:Fr (fun _=>False) w w')(may:MemPlace->Prop):w.keptBut w' may:=by
 refine⟨h.2.2.1,h.2.2.2.1,fun i hi=>?_⟩
 rw[h.2.1 i hi fun h=>h]
 grind
def bl(s:ByteArray):List UInt8:=s.data.toList
@[simp] theorem q28(l:List UInt8):bl (ofL l)=l:=by simp[bl,ofL]
@[simp] theorem qs8(s:ByteArray):ofL (bl s)=s:=by simp[bl,ofL]
theorem qlo(s:ByteArray):(bl s).length=s.size:=by simp[bl]
theorem q7b{s t:ByteArray}(h:bl s=bl t):s=t:=by rw[←qs8 s,←qs8 t,h]
@[simp] theorem qlp(s t:ByteArray):bl (s++t)=bl s++bl t:=by simp[bl]
theorem qa7(s:ByteArray)(a b:Nat):bl (s.extract a b)=((bl s).take b).drop a:=by
 simp only[bl,ByteArray.data_extract,Array.toList_extract,List.extract_eq_take_drop]
 rw[List.take_drop,List.drop_take]
 apply J3
 grind
section
variable{w w':World}{s x:Sl}{l m:List UInt8}
theorem qpa{e:Nat}{t:ByteArray}{K:SW}(F:Nat->Prop)(hK:∀r w',OwnV 1 w' r ((bl t).map bv)->r.l=t.size->Fr F w w'->(∀b,inB r b->w.heap.size<=b)->K r w'):stbS e t w K:=by
 intro cap hcap
 have hlen:(List.map bv t.data.toList++List.replicate (cap-t.size) (Value.int .u8 0)).length=cap:=by
  simp;omega
 refine hK _ _ ⟨by simp[qfb,bl],.inr ⟨w.heap.size,_,rfl,Row.newF (w:=w.drew) oo,by rw[hlen];simp[qfb],hcap,?_⟩⟩ rfl (Fr.trans Fr.drew (Fr.alloc (F:=F)) fun b hb _=>hb) fun b hb=>?_
 ·show List.take ((bl t).map bv).length (List.map bv t.data.toList++_)=_
  rw[J5 (by simp[bl])]
  exact Ja (by simp[bl])
 ·obtain⟨a,ha,rfl⟩:=hb
  cases ha
  grind
theorem qt4{K:ByteArray->Prop}(h:rdC w s.p s.l (l.map bv))(hK:K (ofL l)):btsS s w K:=⟨l,h,hK⟩
end
open Go Go.ChangeShapes Go.WideShapes Go.ChangeAt Go.RowKit
theorem Fr.below{w w':World}(h:Fr (fun _=>False) w w'):Below w.heap.size w w':=
 ⟨h.2.2.1,h.2.2.2.2,h.2.2.2.1,h.1,fun k hk=>h.2.1 k hk fun h=>h⟩
section
variable{H:Type}{enc:TypeId×Value->H}{P:Program}{W W':World}
theorem q60(hl:laidOutB P=true):∀ {ts:List TypeId} {vs:List Value} {ds:List (DataW H)} {ps:List MemPlace},(∀t∈ts,P.readableRec t=true/\t<P.types.size) ->
  DataW.TrodAll enc P W 0 (fun _=>true) true ts vs ds ps->Below W.heap.size W W'->(∀x∈ps,x.block<W.heap.size) ->
  DataW.TrodAll enc P W' 0 (fun b=>decide (b<W.heap.size)) true ts vs ds ps
 | [],vs,ds,ps,_,h,_,_=>by
  obtain⟨rfl,rfl,rfl⟩:=trodAll_nil h
  exact trodAll_mk0
 | t::ts,vs,ds,ps,ht,h,hb,hlt=>by
  obtain⟨v,vs',d,ds',p,q,rfl,rfl,rfl,h0,hr⟩:=trodAll_cons h
  have h1:=ht t og
  exact trodAll_cons_mk (Below.trod hl h1.1 h1.2 h0 hb fun x hx=>hlt x (by simp[hx])) (q60 hl (fun t ht'=>ht t (by simp[ht'])) hr hb fun x hx=>hlt x (by simp[hx]))
theorem post_true{f:Func}{s:ChangeSpec}{args:Array Value}{ds gs:List (DataW H)}{before:List MemPlace}{tb:TypeId}(hl:laidOutB P=true)(hts:∀t∈f.params.toList,P.readableRec t=true/\t<P.types.size)
  (hrt:f.resultTypes=#[tb]) (hb:P.underlying tb=some .bool) (hW:DataW.Whole enc P f.params.toList s.vars false W args.toList ds gs before) (hv:s.vars=[])
  (hres:(s.fn H (ds++gs)).results=[.lit (.bool true)]) (harg:(s.fn H (ds++gs)).args=ds) (hvar:(s.fn H (ds++gs)).vars=[]) (hf:Fr (fun _=>False) W W') :
  s.post enc P f false true false false W args (.bool true) W':=by
 have hW0:=hW
 have hlt:=hW.lt
 obtain⟨p,q,hA,hV,rfl,hfz,hnd⟩:=hW
 rw[hv]at hV
 obtain⟨rfl,rfl⟩:=trodVars_none hV
 refine⟨ds,[],_,[],p,[],hW0,?_,?_,?_,hf.kept _,fun h=>by cases h⟩
 ·rw[hres,hrt]
  exact trodAll_cons_mk (shut_bool hb _) trodAll_mk0
 ·rw[harg]
  exact q60 hl hts hA hf.below fun x hx=>hlt x (by simp[hx])
 ·rw[hvar,hv]
  rfl
end
theorem wf_i64{a:Int}(h:(Lit.int .i64 a).wf=true):-9223372036854775808<=a/\a<9223372036854775808:=by
 simp[Lit.wf,IntKind.min,IntKind.max,IntKind.bits,IntKind.signed]at h
 omega
theorem wf_u8{a:Int}(h:(Lit.int .u8 a).wf=true):0<=a/\a<256:=by
 simp[Lit.wf,IntKind.min,IntKind.max,IntKind.bits,IntKind.signed]at h
 omega
theorem q9q{P:Program}{f:FuncId}{fn:Func}{a b c:Int}{K:VW}{w:World}(hf:P.funcs[f]?=some fn)(h1:(fn.name == "runtime.NumGoroutine")=false)
  (h2:fn.body.isNone=true) (h3:Extern.findNext fn=none) (h4:Extern.find fn=some add64Entry)
  (ha:0<=a) (_:a<18446744073709551616) (hb:0<=b) (_:b<18446744073709551616) (hc:0<=c) (hc':c<=1)
  (hk:K (.tuple #[.int .u64 ((a+b+c)%18446744073709551616),.int .u64 ((a+b+c)/18446744073709551616)]) w) :
  ∃v w',(callFunc f ([Value.int .u64 a,.int .u64 b,.int .u64 c]:List Value).toArray).run P w=.ok (.value v) w'/\K v w':=by
 refine⟨_,w,?_,hk⟩
 rw[run_callFunc_extern hf h1 h2 h3 h4]
 rw[show([Value.int .u64 a,.int .u64 b,.int .u64 c]:List Value).toArray=#[.int .u64 a,.int .u64 b,.int .u64 c]from rfl,run_add64 a b c ha hb hc hc']
 rfl
theorem q9r{P:Program}{f:FuncId}{fn:Func}{a b c:Int}{K:VW}{w:World}(hf:P.funcs[f]?=some fn)(h1:(fn.name == "runtime.NumGoroutine")=false)
  (h2:fn.body.isNone=true) (h3:Extern.findNext fn=none) (h4:Extern.find fn=some Go.Proofs.sub64Entry)
  (ha:0<=a) (ha':a<18446744073709551616) (hb:0<=b) (hb':b<18446744073709551616) (hc:0<=c) (hc':c<=1)
  (hk:K (.tuple #[.int .u64 ((a-b-c)%18446744073709551616),.int .u64 (if a<b+c then 1 else 0)]) w) :
  ∃v w',(callFunc f ([Value.int .u64 a,.int .u64 b,.int .u64 c]:List Value).toArray).run P w=.ok (.value v) w'/\K v w':=by
 refine⟨_,w,?_,hk⟩
 rw[run_callFunc_extern hf h1 h2 h3 h4]
 obtain⟨x,rfl⟩:=Jj ha
 obtain⟨y,rfl⟩:=Jj hb
 obtain⟨z,rfl⟩:=Jj hc
 rw[show([Value.int .u64 (x:Int),.int .u64 (y:Int),.int .u64 (z:Int)]:List Value).toArray=#[.int .u64 x,.int .u64 y,.int .u64 z]from rfl,Go.Proofs.run_sub64 x y z oo]
 show Result.ok _ _=_
 grind
theorem qt5{K:Bool->Prop}:nif .nilIface K=K true:=rfl
def stN.go(a:Addr)(K:World->Prop):List Value->Nat->World->Prop
 | [],_,w=>K w
 | v::vs,i,w=>wrOk w (a.add i)/\stN.go a K vs (i+1) (w.setCell (a.add i) v)
def stN(w:World)(a:Addr)(vs:List Value)(K:World->Prop):Prop:=stN.go a K vs 0 w
theorem wu64(n:Nat):IntKind.wrap .u64 (n:Int)=((n%18446744073709551616:Nat):Int):=by
 unfold IntKind.wrap
 simp[IntKind.bits,IntKind.signed]
theorem q22{n:Int}(h0:0<=n)(h1:n<18446744073709551616):IntKind.wrap .u64 n=n:=by
 obtain⟨m,rfl⟩:=Jj h0
 rw[wu64];omega
theorem qbg(n:Int):IntKind.wrap .u64 n=n%18446744073709551616:=by
 unfold IntKind.wrap
 simp[IntKind.bits,IntKind.signed]
theorem inRu{n:Int}(h0:0<=n)(h1:n<18446744073709551616):inR .u64 n:=q22 h0 h1
theorem shr32(n:Nat):Int.fdiv (n:Int) (2^(min 32 (IntKind.bits .u64)))=((n/4294967296:Nat):Int):=by
 have e:(2:Int)^(min 32 (IntKind.bits .u64))=4294967296:=od
 rw[e,Jk _ oo]
 omega
theorem qt6(n:Nat)(h:n<18446744073709551616):IntKind.wrap .u64 ((((BitVec.ofInt (IntKind.bits .u64) (n:Int) &&& BitVec.ofInt (IntKind.bits .u64) (4294967295:Int))).toNat:Nat):Int)=((n%4294967296:Nat):Int):=by
 have e:(BitVec.ofInt (IntKind.bits .u64) (n:Int) &&& BitVec.ofInt (IntKind.bits .u64) (4294967295:Int)).toNat=n%4294967296:=by
  show(BitVec.ofInt 64 (n:Int) &&& BitVec.ofInt 64 (4294967295:Int)).toNat=_
  rw[BitVec.toNat_and,BitVec.toNat_ofInt,BitVec.toNat_ofInt]
  have h1:((n:Int)%((2^64:Nat):Int)).toNat=n:=by
   have:((2^64:Nat):Int)=18446744073709551616:=od
   rw[this];omega
  have h2:((4294967295:Int)%((2^64:Nat):Int)).toNat=2^32-1:=od
  rw[h1,h2,Nat.and_two_pow_sub_one_eq_mod]
 rw[e,wu64]
 omega
theorem qlq(n:Nat)(h:n<18446744073709551616):(BitVec.ofInt (IntKind.bits .u64) (n:Int) &&& BitVec.ofInt (IntKind.bits .u64) (4294967295:Int)).toNat=n%4294967296:=by
 have:=qt6 n h
 rw[wu64]at this
 have hlt:(BitVec.ofInt (IntKind.bits .u64) (n:Int) &&& BitVec.ofInt (IntKind.bits .u64) (4294967295:Int)).toNat<18446744073709551616:=BitVec.isLt _
 omega
theorem q7c(n:Nat):n%4294967296%18446744073709551616=n%4294967296:=oo
theorem mulN(a b:Nat):(a:Int)*(b:Int)=((a*b:Nat):Int):=(Jl a b).symm
theorem addN(a b:Nat):(a:Int)+(b:Int)=((a+b:Nat):Int):=(Jm a b).symm
theorem q4h(a b:Nat):Int.tdiv (a:Int) (b:Int)=((a/b:Nat):Int):=rfl
theorem qt7(a b:Nat):Int.tmod (a:Int) (b:Int)=((a%b:Nat):Int):=rfl
theorem qfi{Y y1 y0 u d q r:Nat}(hY:Y=y1*4294967296+y0)(hu:q*y1+r=u)(h:q*y0<=4294967296*r+d):q*Y<=u*4294967296+d:=by
 subst hY;subst hu
 rw[JG,←Jv,Jp]
 omega
theorem qhw{Y y1 y0 u d q r:Nat}(hY:Y=y1*4294967296+y0)(hy:y0<4294967296)(hu:q*y1+r=u)(hq:q<=4294967296)(hr:4294967296<=r):q*Y<=u*4294967296+d:=by
 refine qfi hY hu ?_
 have h1:q*y0<=4294967296*4294967295:=Nat.mul_le_mul hq oo
 have h2:4294967296*4294967296<=4294967296*r:=Jx _ hr
 omega
theorem qpb{Y y1 y0 u d q r:Nat}(hY:Y=y1*4294967296+y0)(hu:q*y1+r=u)(huY:u<Y)(hd:d<4294967296)(h:4294967296<=q\/4294967296*r+d<q*y0) :
  u*4294967296+d<q*Y:=by
 have h1:(u+1)*4294967296<=Y*4294967296:=Jo _ huY
 rcases h with h|h
 ·have h2:4294967296*Y<=q*Y:=Jo _ h
  rw[Jp]at h1
  generalize q*Y=A at *
  omega
 ·subst hY;subst hu
  rw[JG,←Jv,Jp]
  omega
theorem qhx{Y y1 y0 u:Nat}(hY:Y=y1*4294967296+y0)(hy:y0<4294967296)(h1:2147483648<=y1)(huY:u<Y):u/y1<=4294967297:=by
 have:u<4294967298*y1:=oo
 have:=(Jw (by omega:0<y1)).2 this
 omega
theorem qlr{β Y u d1 d0 q1 q0 u2 r:Nat}(h1:u*β+d1=q1*Y+u2)(h0:u2*β+d0=q0*Y+r) :
  u*(β*β)+(d1*β+d0)=(q1*β+q0)*Y+r:=by
 have e1:u*(β*β)+d1*β=(u*β+d1)*β:=by rw[Jp,Jv]
 have e2:(q1*β+q0)*Y=q1*Y*β+q0*Y:=by rw[Jp,Jz]
 rw[←Nat.add_assoc,e1,h1,e2,Jp]
 generalize q1*Y*β=A at *
 generalize u2*β=B at *
 generalize q0*Y=C at *
 omega
theorem kn_two{Y u d1 d0 q1 q0 u2 r:Nat}(h1:u*4294967296+d1=q1*Y+u2)(h0:u2*4294967296+d0=q0*Y+r)(hr:r<Y) :
  (u*18446744073709551616+(d1*4294967296+d0))/Y=q1*4294967296+q0/\(u*18446744073709551616+(d1*4294967296+d0))%Y=r:=by
 have e:=qlr h1 h0
 rw[show(4294967296:Nat)*4294967296=18446744073709551616 by decide]at e
 rw[e]
 refine⟨?_,?_⟩
 ·rw[JB,Nat.mul_add_div oo,Nat.div_eq_of_lt hr,JE]
 ·rw[JB,Nat.mul_add_mod,JC hr]
def F0:Nat->Prop:=fun _=>False
theorem shlN(a s:Nat)(hs:s<=64):IntKind.wrap .u64 ((a:Int)*2^(min ((s:Int)).toNat (IntKind.bits .u64)))=((a*2^s%18446744073709551616:Nat):Int):=by
 have e:min ((s:Int)).toNat (IntKind.bits .u64)=s:=by
  have:IntKind.bits .u64=64:=rfl
  omega
 rw[e,←wu64,Jl,Jn]
 rfl
theorem shrN(a s:Nat)(hs:s<=64):Int.fdiv (a:Int) (2^(min ((s:Int)).toNat (IntKind.bits .u64)))=((a/2^s:Nat):Int):=by
 have e:min ((s:Int)).toNat (IntKind.bits .u64)=s:=by
  have:IntKind.bits .u64=64:=rfl
  omega
 have p:(2:Int)^s=((2^s:Nat):Int):=by rw[Jn];rfl
 rw[e,p,Jk _ (Int.natCast_nonneg _)]
 rfl
theorem orN(a b:Nat)(ha:a<18446744073709551616)(hb:b<18446744073709551616):IntKind.wrap .u64 ((((BitVec.ofInt (IntKind.bits .u64) (a:Int) ||| BitVec.ofInt (IntKind.bits .u64) (b:Int))).toNat:Nat):Int)=((a ||| b:Nat):Int):=by
 have hlt:a ||| b<2^64:=Nat.or_lt_two_pow (by simpa using ha) (by simpa using hb)
 have e:(BitVec.ofInt (IntKind.bits .u64) (a:Int) ||| BitVec.ofInt (IntKind.bits .u64) (b:Int)).toNat=a ||| b:=by
  show(BitVec.ofInt 64 (a:Int) ||| BitVec.ofInt 64 (b:Int)).toNat=_
  rw[BitVec.toNat_or,BitVec.toNat_ofInt,BitVec.toNat_ofInt]
  have h2:((2^64:Nat):Int)=18446744073709551616:=od
  have ea:((a:Int)%((2^64:Nat):Int)).toNat=a:=by rw[h2];omega
  have eb:((b:Int)%((2^64:Nat):Int)).toNat=b:=by rw[h2];omega
  rw[ea,eb]
 rw[e,wu64,JC (by simpa using hlt)]
theorem qdb{hi lo y s:Nat}(hs:s<=64)(h:hi<y)(_:y*2^s<18446744073709551616)(hlo:lo<18446744073709551616) :
  (hi*2^s ||| lo/2^(64-s))=hi*2^s+lo/2^(64-s)/\hi*2^s+lo/2^(64-s)<y*2^s /\
  (hi*2^s+lo/2^(64-s))*18446744073709551616+lo*2^s%18446744073709551616=(hi*18446744073709551616+lo)*2^s:=by
 have hp:18446744073709551616=2^(64-s)*2^s:=by
  rw[←Nat.pow_add,Nat.sub_add_cancel hs]
 have hlt:lo/2^(64-s)<2^s:=by
  rw[Jw (JD _),JB,←hp]
  exact hlo
 have h1:(hi+1)*2^s<=y*2^s:=Jo _ h
 refine⟨?_,?_,?_⟩
 ·rw[←Nat.shiftLeft_eq,Nat.shiftLeft_add_eq_or_of_lt hlt]
 ·rw[Jp]at h1
  omega
 ·have e:lo*2^s/18446744073709551616=lo/2^(64-s):=by
   rw[hp,Nat.mul_div_mul_right _ _ (JD _)]
  have:=Nat.div_add_mod (lo*2^s) 18446744073709551616
  rw[e]at this
  have e2:(hi*18446744073709551616+lo)*2^s=hi*2^s*18446744073709551616+lo*2^s:=by
   rw[Jp,Jz]
  rw[e2,Jp]
  clear hp e e2 hlt h1
  generalize lo*2^s%18446744073709551616=C at *
  generalize lo/2^(64-s)=A at *
  generalize hi*2^s=B at *
  generalize lo*2^s=D at *
  omega
theorem qhy{Y y1 y0 u d:Nat}(hY:Y=y1*4294967296+y0)(h1:0<y1)(hd:d<4294967296):u*4294967296+d<(u/y1+1)*Y:=by
 have hle:y1*4294967296<=Y:=oo
 have h:u<(u/y1+1)*y1:=by
  have:=Nat.lt_div_mul_add h1 (a:=u)
  rw[Jp,Nat.one_mul]
  exact this
 have h2:(u+1)*4294967296<=(u/y1+1)*y1*4294967296:=Jo _ h
 have h3:(u/y1+1)*y1*4294967296<=(u/y1+1)*Y:=by
  rw[Jv]
  exact Jx _ hle
 have h4:=JA h2 h3
 rw[Jp]at h4
 generalize(u/y1+1)*Y=A at *
 clear h2 h3 h hle hY
 omega
theorem qls{u d q Y R:Nat}(h:u*4294967296+d=q*Y+R)(hR:R<18446744073709551616) :
  IntKind.wrap .u64 (IntKind.wrap .u64 (IntKind.wrap .u64 ((u:Int)*4294967296)+(d:Int))-IntKind.wrap .u64 ((q:Int)*(Y:Int)))=(R:Int):=by
 simp only[qbg]
 rw[Int.emod_add_emod,←Int.sub_emod]
 have e:(u:Int)*4294967296+(d:Int)-(q:Int)*(Y:Int)=(R:Int):=by
  have:=congrArg (fun n:Nat=>(n:Int)) h
  simp only[Jm,Jl]at this
  have h4:(((4294967296:Nat):Int))=4294967296:=oo
  rw[h4]at this
  generalize(q:Int)*(Y:Int)=A at *
  generalize(u:Int)*4294967296=B at *
  omega
 rw[e]
 exact Int.emod_eq_of_lt oo oo
theorem kn_lt{u d q Y:Nat}(h:q*Y<=u*4294967296+d)(hu:u<Y)(hd:d<4294967296):q<4294967296:=by
 rcases JF q 4294967296 with hq|hq
 ·exact hq
 ·have h1:4294967296*Y<=q*Y:=Jo _ hq
  have h2:(u+1)*4294967296<=Y*4294967296:=Jo _ hu
  generalize q*Y=A at *
  omega
def Rs(w:World)(l:List (Nat×List Value)):Prop:=∀p∈l,Row w p.1 p.2
def Mem(w0 w:World)(l:List (Nat×List Value)):Prop:=
 Fr F0 w0 w/\Rs w l/\(l.map (·.1)).Pairwise (·>·)/\∀p∈l,w0.heap.size<=p.1
section
variable{w0 w w':World}{l:List (Nat×List Value)}
theorem Rs.ld{b i:Nat}{cs:List Value}{v:Value}(h:Rs w l)(j:Nat)(hj:l[j]?=some (b,cs):=by exact rfl)(hv:cs[i]?=some v:=by exact rfl):w.cell? ⟨b,i,none⟩=some v:=
 (h _ (J1 hj)).at hv
theorem Mem.nil:Mem w w []:=⟨Fr.refl,(by intro p hp;cases hp),List.Pairwise.nil,(by intro p hp;cases hp)⟩
theorem Mem.alloc{cs:Array Value}{e:TypeId}(h:Mem w0 w l):Mem w0 (w.alloc (Obj.cells cs e)) ((w.heap.size,cs.toList)::l):=by
 obtain⟨hf,hr,hp,hb⟩:=h
 refine⟨hf.trans (G:=F0) Fr.alloc fun b hb _=>hb.elim,fun p hp=>?_,?_,fun p hp=>?_⟩
 ·rcases Ji.1 hp with rfl|hp
  ·exact Row.new (cs:=cs.toList)
  ·exact(hr p hp).congr (q5y (hr p hp).lt)
 ·simp only[List.map_cons,List.pairwise_cons]
  refine⟨fun b hb=>?_,hp⟩
  obtain⟨p,hp,rfl⟩:=List.mem_map.1 hb
  exact(hr p hp).lt
 ·rcases Ji.1 hp with rfl|hp
  ·exact hf.1
  ·exact hb p hp
theorem Mem.fr(h:Mem w0 w l)(hf:Fr F0 w w'):Mem w0 w' l:=by
 obtain⟨h1,hr,hp,hb⟩:=h
 exact⟨h1.trans hf fun b hb _=>hb.elim,fun p hp=>hf.row (hr p hp) fun h=>h,hp,hb⟩
theorem Mem.drew(h:Mem w0 w l):Mem w0 w.drew l:=h.fr Fr.drew
theorem Mem.lD{b i:Nat}{cs:List Value}{v:Value}(h:Mem w0 w l)(j:Nat)(hj:l[j]?=some (b,cs))(hv:cs[i]?=some v):w.cell? ⟨b,i,none⟩=some v:=
 h.2.1.ld j hj hv
theorem Mem.ld{b i:Nat}{cs:List Value}{v:Value}(h:Mem w0 w l)(j:Nat)(hj:l[j]?=some (b,cs):=by exact rfl)(hv:cs[i]?=some v:=by exact rfl):w.cell? ⟨b,i,none⟩=some v:=
 h.2.1.ld j hj hv
theorem Mem.wr{b i:Nat}{cs:List Value}(h:Mem w0 w l)(j:Nat)(hj:l[j]?=some (b,cs):=by exact rfl)(hi:Nat.blt i cs.length=true:=by exact rfl):wrOk w ⟨b,i,none⟩:=
 (h.2.1 _ (J1 hj)).wr (by simpa [Nat.blt_eq]using hi)
theorem Mem.set{b i:Nat}{cs:List Value}{v:Value}(h:Mem w0 w l)(j:Nat)(hj:l[j]?=some (b,cs):=by exact rfl):Mem w0 (w.setCell ⟨b,i,none⟩ v) (l.set j (b,cs.set i v)):=by
 obtain⟨h1,hr,hp,hb⟩:=h
 obtain⟨hlt,hge⟩:=J0.1 hj
 have hmem:=J1 hj
 have hmap:(l.set j (b,cs.set i v)).map (·.1)=l.map (·.1):=by
  rw[List.map_set]
  apply J3
  intro k
  rw[J7]
  split
  ·rename_i hk
   subst hk
   simp[hlt,hge]
  ·rfl
 refine⟨h1.trans (Fr.set (F:=fun c=>c=b) rfl) fun c hc hlt'=>?_,fun p hp'=>?_,by rw[hmap];exact hp,fun p hp'=>?_⟩
 ·have:=hb _ hmem
  simp only at this hc
  omega
 ·obtain⟨k,hk,rfl⟩:=List.mem_iff_getElem.1 hp'
  rw[List.getElem_set]
  split
  ·exact(hr _ hmem).set i v
  ·rename_i hjk
   simp only[Jh]at hk
   have hm:l[k]∈l:=List.getElem_mem hk
   refine(hr _ hm).congr (q3w ?_)
   rw[List.pairwise_iff_getElem]at hp
   intro he
   rcases JF j k with hlt2|hge2
   ·have:=hp j k (by simpa using hlt) (by simpa using hk) hlt2
    simp only[Jg,hge]at this
    simp only at he
    omega
   ·have:=hp k j (by simpa using hk) (by simpa using hlt) oo
    simp only[Jg,hge]at this
    simp only at he
    omega
 ·rcases List.mem_or_eq_of_mem_set hp' with hp'|rfl
  ·exact hb p hp'
  ·have:=hb _ hmem
   exact this
theorem q3x{b:Nat}{x y:Value}{k1 k2:IntKind}{a c:Int}{ok:Bool}{K:Int->Int->Bool->World->Prop}(m:Mem w0 w l)(j:Nat)(hj:l[j]?=some (b,[x,y]))(hK:∀w',Fr F0 w0 w'->K a c ok w') :
  wrOk w (Addr.mk b 0 none)/\(let w4:World:=w.setCell (Addr.mk b 0 none) (Value.int k1 a)
   wrOk w4 (Addr.mk b 1 none)/\(let w5:World:=w4.setCell (Addr.mk b 1 none) (Value.int k2 c)
    ∃x6:Int,w5.cell? (Addr.mk b 0 none)=some (Value.int k1 x6)/\∃x7:Int,w5.cell? (Addr.mk b 1 none)=some (Value.int k2 x7)/\K x6 x7 ok w5)):=by
 have hl:j<l.length:=(J0.1 hj).1
 refine⟨m.wr j hj rfl,?_⟩
 intro w2
 have m:Mem w0 w2 _:=m.set j hj
 clear_value w2
 refine⟨m.wr j (cs:=[Value.int k1 a,y]) (by simp[hl]) rfl,?_⟩
 intro w3
 have m:Mem w0 w3 _:=m.set j (cs:=[Value.int k1 a,y]) (by simp[hl])
 clear_value w3
 exact⟨_,m.ld j (cs:=[Value.int k1 a,Value.int k2 c]) (by simp[hl]) rfl,_,m.ld j (cs:=[Value.int k1 a,Value.int k2 c]) (by simp[hl]) rfl,hK w3 m.1⟩
theorem put2{b:Nat}{x y:Value}{k1 k2:IntKind}{a c:Int}{K:Int->Int->World->Prop}(m:Mem w0 w l)(j:Nat)(hj:l[j]?=some (b,[x,y]))(hK:∀w',Fr F0 w0 w'->K a c w') :
  wrOk w (Addr.mk b 0 none)/\(let w4:World:=w.setCell (Addr.mk b 0 none) (Value.int k1 a)
   wrOk w4 (Addr.mk b 1 none)/\(let w5:World:=w4.setCell (Addr.mk b 1 none) (Value.int k2 c)
    ∃x6:Int,w5.cell? (Addr.mk b 0 none)=some (Value.int k1 x6)/\∃x7:Int,w5.cell? (Addr.mk b 1 none)=some (Value.int k2 x7)/\K x6 x7 w5)):=
 q3x (K:=fun a c _ w=>K a c w) (ok:=true) m j hj hK
theorem put3{b:Nat}{x y z:Value}{a c:Int}{e:Bool}{K:Bool->Int->Int->World->Prop}(m:Mem w0 w l)(j:Nat)(hj:l[j]?=some (b,[x,y,z]))(hK:∀w',Fr F0 w0 w'->K e a c w') :
  wrOk w (Addr.mk b 0 none)/\(let w4:World:=w.setCell (Addr.mk b 0 none) (Value.bool e)
   wrOk w4 (Addr.mk b 1 none)/\(let w5:World:=w4.setCell (Addr.mk b 1 none) (Value.int .u64 a)
    wrOk w5 (Addr.mk b 2 none)/\(let w6:World:=w5.setCell (Addr.mk b 2 none) (Value.int .u64 c)
     ∃x5:Bool,w6.cell? (Addr.mk b 0 none)=some (Value.bool x5)/\∃x6:Int,w6.cell? (Addr.mk b 1 none)=some (Value.int .u64 x6)/\∃x7:Int,w6.cell? (Addr.mk b 2 none)=some (Value.int .u64 x7)/\K x5 x6 x7 w6))):=by
 have hl:j<l.length:=(J0.1 hj).1
 refine⟨m.wr j hj rfl,?_⟩
 intro w2
 have m:Mem w0 w2 _:=m.set j hj
 clear_value w2
 refine⟨m.wr j (cs:=[Value.bool e,y,z]) (by simp[hl]) rfl,?_⟩
 intro w3
 have m:Mem w0 w3 _:=m.set j (cs:=[Value.bool e,y,z]) (by simp[hl])
 clear_value w3
 refine⟨m.wr j (cs:=[Value.bool e,.int .u64 a,z]) (by simp[hl]) rfl,?_⟩
 intro w4
 have m:Mem w0 w4 _:=m.set j (cs:=[Value.bool e,.int .u64 a,z]) (by simp[hl])
 clear_value w4
 exact⟨_,m.ld j (cs:=[Value.bool e,Value.int .u64 a,Value.int .u64 c]) (by simp[hl]) rfl,_,m.ld j (cs:=[Value.bool e,Value.int .u64 a,Value.int .u64 c]) (by simp[hl]) rfl,_,m.ld j (cs:=[Value.bool e,Value.int .u64 a,Value.int .u64 c]) (by simp[hl]) rfl,hK w4 m.1⟩
theorem Mem.sub{m:List (Nat×List Value)}(h:Mem w0 w l)(k:Nat)(hk:l.drop k=m:=by exact rfl):Rs w m:=fun p hp=>h.2.1 p (J6 (hk▸hp))
end
theorem Mem.allocL{w0 w:World}{l:List (Nat×List Value)}{cs:List Value}{e:TypeId}(h:Mem w0 w l):Mem w0 (w.alloc (Obj.cells cs.toArray e)) ((w.heap.size,cs)::l):=h.alloc
theorem qpc{α:Type}{l:List α}{j:Nat}{a:α}(h:l[j]?=some a):l.set j a=l:=by
 obtain⟨h1,h2⟩:=J0.1 h
 rw[←h2]
 exact List.set_getElem_self h1
theorem qs9{w0:World}{b:Nat}{K:World->Prop}{l:List (Nat×List Value)}(j:Nat):∀(vs:List Value) (i:Nat) (w:World) (l:List (Nat×List Value)) (cs:List Value),Mem w0 w l->l[j]?=some (b,cs)->i+vs.length<=cs.length ->
  (∀w',Mem w0 w' (l.set j (b,cs.take i++vs++cs.drop (i+vs.length)))->K w')->stN.go ⟨b,0,none⟩ K vs i w
 | [],i,w,l,cs,m,hj,hi,hK=>by
  refine hK w ?_
  have e:cs.take i++[]++cs.drop (i+([]:List Value).length)=cs:=og
  rw[e,qpc hj]
  exact m
 | v::vs,i,w,l,cs,m,hj,hi,hK=>by
  simp only[Jb]at hi
  unfold stN.go
  have hl:j<l.length:=(J0.1 hj).1
  simp only[q04,Jt]
  refine⟨m.wr j hj (by simp[Nat.blt_eq];omega),?_⟩
  refine qs9 (l:=l) j vs (i+1) _ (l.set j (b,cs.set i v)) (cs.set i v) (m.set j hj) (by simp[hl]) oy fun w' m'=>hK w' ?_
  have e:(cs.set i v).take (i+1)++vs++(cs.set i v).drop (i+1+vs.length)=cs.take i++v::vs++cs.drop (i+(v::vs).length):=by
   apply J3
   intro k
   have h3:min (i+1) cs.length=i+1:=oo
   have h4:min i cs.length=i:=oo
   simp only[Jd,List.length_append,List.length_take,Jh,Jb,h3,h4,Jf,List.getElem?_drop,J7]
   by_cases h1:k<i
   ·rw[if_pos oo,if_pos oo,if_pos oo,if_neg oo,if_pos oo,if_pos oo,if_pos h1]
   ·by_cases h2:k=i
    ·subst h2
     rw[if_pos oo,if_pos oo,if_pos oo,if_pos rfl,if_pos oo,if_pos oo,if_neg oo]
     simp
    ·by_cases h5:k<i+1+vs.length
     ·rw[if_pos oo,if_neg oo,if_pos oo,if_neg oo]
      have:k-i=(k-(i+1))+1:=oo
      rw[this,J8]
     ·rw[if_neg oo,if_neg oo,if_neg oo]
      congr 1
      omega
  rw[List.set_set,e]at m'
  exact m'
theorem q1u{w0 w:World}{l:List (Nat×List Value)}{zs vs:List Value}{e:TypeId}{K:World->Prop}(hl:zs.length=vs.length)(m:Mem w0 w l)(hK:∀w',Mem w0 w' ((w.heap.size,vs)::l)->K w') :
  (let w1:World:=w.alloc (Obj.cells zs.toArray e)
  stN w1 ⟨w.heap.size,0,none⟩ vs K):=by
 intro w1
 have m1:Mem w0 w1 ((w.heap.size,zs)::l):=m.allocL
 refine qs9 (l:=l) 0 vs 0 w1 _ zs m1 rfl oo fun w' m'=>hK w' ?_
 have e:zs.take 0++vs++zs.drop (0+vs.length)=vs:=by simp[hl]
 rw[e,List.set_cons_zero]at m'
 exact m'
theorem Mem.dr{w0 w:World}{l m:List (Nat×List Value)}(h:Mem w0 w l)(k:Nat)(hk:l.drop k=m:=by exact rfl):Mem w0 w m:=by
 subst hk
 obtain⟨h1,h2,h3,h4⟩:=h
 refine⟨h1,fun p hp=>h2 p (J6 hp),?_,fun p hp=>h4 p (J6 hp)⟩
 rw[List.map_drop]
 exact h3.sublist (List.drop_sublist _ _)
theorem Mem.roW{w0 w:World}{l:List (Nat×List Value)}{b:Nat}{cs:List Value}(h:Mem w0 w l)(j:Nat)(hj:l[j]?=some (b,cs)):Row w b cs:=h.2.1 _ (J1 hj)
theorem Mem.row{w0 w:World}{l:List (Nat×List Value)}{b:Nat}{cs:List Value}(h:Mem w0 w l)(j:Nat)(hj:l[j]?=some (b,cs):=by exact rfl):Row w b cs:=h.2.1 _ (J1 hj)
theorem q1d{α:Type}{n:Nat}{enc:α->List Value}(hn:∀a,(enc a).length=n):∀l:List α,(l.flatMap enc).length=l.length*n
 | []=>og
 | a::l=>by simp[q1d hn l,hn,Jp,Nat.add_comm]
theorem fm_at{α:Type}{n:Nat}{enc:α->List Value}(hn:∀a,(enc a).length=n):∀(l:List α) (i k:Nat) (a:α),l[i]?=some a->k<n->(l.flatMap enc)[i*n+k]?=(enc a)[k]?
 | [],i,k,a,h,_=>by simp at h
 | b::l,0,k,a,h,hk=>by
  simp at h
  subst h
  simp only[J9,Nat.zero_mul,Jt]
  rw[List.getElem?_append_left (by rw[hn];exact hk)]
 | b::l,i+1,k,a,h,hk=>by
  simp only[J8]at h
  have:=fm_at hn l i k a h hk
  simp only[J9]
  rw[List.getElem?_append_right (by rw[hn,Jp];omega),hn,←this]
  congr 1
  rw[Jp];omega
theorem qhz{α:Type}(g:α->Value):∀l:List α,l.flatMap (fun a=>[g a])=l.map g
 | []=>rfl
 | a::l=>by simp[qhz g l]
structure Vw{α:Type}(n:Nat)(enc:α->List Value)(w:World)(s:Sl)(l:List α):Prop where
 len:s.l=l.length
 cap:s.l<=s.c
 rd:rdC w s.p (s.l*n) (l.flatMap enc)
section
variable{α:Type}{n:Nat}{enc:α->List Value}{w w' w0:World}{s x:Sl}{l m:List α}
theorem Vw.fr(h:Vw n enc w s l)(hf:Fr F0 w w'):Vw n enc w' s l:=⟨h.len,h.cap,qs7 h.rd hf fun _ _ hh=>hh⟩
theorem Vw.frF{F:Nat->Prop}(h:Vw n enc w s l)(hf:Fr F w w')(hd:∀b,inB s b->¬F b):Vw n enc w' s l:=⟨h.len,h.cap,qs7 h.rd hf fun a ha=>hd _ ⟨a,ha,rfl⟩⟩
theorem Vw.nil:Vw n enc w ⟨none,0,0⟩ ([]:List α):=⟨rfl,Js _,by simp[rdC]⟩
theorem Vw.at(h:Vw n enc w s l)(hn:∀a,(enc a).length=n){i:Nat}{a:α}(hi:l[i]?=some a):(0<n->∃ad,s.p=some ad/\∀k v,(enc a)[k]?=some v->w.cell? ((ad.add (i*n)).add k)=some v):=by
 intro hn0
 have hlt:i<l.length:=(J0.1 hi).1
 obtain⟨hlen,hrd⟩:=h.rd
 have hl:=h.len
 have hpos:0<s.l*n:=Nat.mul_pos oo hn0
 cases hp:s.p with
 | none =>
  rw[hp]at hrd
  simp only at hrd
  omega
 | some ad =>
  rw[hp]at hrd
  simp only at hrd
  refine⟨ad,rfl,fun k v hv=>?_⟩
  have hk:k<n:=by
   have:=(J0.1 hv).1
   rw[hn]at this
   exact this
  have h1:=fm_at hn l i k a hi hk
  rw[hv]at h1
  obtain⟨h2,h3⟩:=J0.1 h1
  have:=hrd _ h2
  rw[h3]at this
  rw[qkx]
  exact this
theorem Vw.take(h:Vw n enc w s l)(hn:∀a,(enc a).length=n){j:Nat}(hj:j<=l.length):Vw n enc w ⟨subP s.p 0 s.c n,j-0,s.c-0⟩ (l.take j):=by
 have hl:=h.len
 have hc:=h.cap
 refine⟨oy,oy,?_⟩
 simp only[Nat.sub_zero]
 have hlen:((l.take j).flatMap enc).length=j*n:=by rw[q1d hn];simp;rw[Nat.min_eq_left hj]
 refine⟨hlen,?_⟩
 have hp:subP s.p 0 s.c n=s.p:=by
  unfold subP
  split
  ·rfl
  ·cases s.p with
   | none=>rfl
   | some a=>simp[Addr.add]
 rw[hp]
 obtain⟨h1,h2⟩:=h.rd
 have hpre:(l.take j).flatMap enc=(l.flatMap enc).take (j*n):=by
  have h3:l.flatMap enc=(l.take j).flatMap enc++(l.drop j).flatMap enc:=by rw[←Je,Jc]
  rw[h3,J5 oo]
  exact(Ja oo).symm
 cases hs:s.p with
 | none =>
  rw[hs]at h2
  simp only at h2 ⊢
  rw[hl]at h2
  have:=Jo n hj
  omega
 | some a =>
  rw[hs]at h2
  simp only at h2 ⊢
  intro i hi
  have h3:=h2 i (by rw[q1d hn];have:=Jo n hj;omega)
  rw[h3]
  congr 1
  have h4:((l.take j).flatMap enc)[i]?=((l.flatMap enc).take (j*n))[i]?:=by rw[hpre]
  rw[Jf,if_pos oo]at h4
  rw[J2 hi,J2 (by rw[q1d hn];have:=Jo n hj;omega)]at h4
  exact(Option.some.inj h4).symm
structure Ow{α:Type}(n:Nat)(enc:α->List Value)(w:World)(s:Sl)(l:List α):Prop where
 len:s.l=l.length
 own:OwnV n w s (l.flatMap enc)
theorem Ow.vw(h:Ow n enc w s l):Vw n enc w s l:=by
 refine⟨h.len,?_,h.own.rd⟩
 obtain⟨_,h1|⟨_,_,_,_,_,h2,_⟩⟩:=h.own
 ·omega
 ·exact h2
theorem Ow.fr(h:Ow n enc w s l)(hf:Fr F0 w w'):Ow n enc w' s l:=⟨h.len,h.own.fr hf fun _ _ hh=>hh⟩
theorem Ow.frF{F:Nat->Prop}(h:Ow n enc w s l)(hf:Fr F w w')(hd:∀b,inB s b->¬F b):Ow n enc w' s l:=⟨h.len,h.own.fr hf hd⟩
theorem Ow.app{bytes:Nat}{zero:List Value}{e:Nat}{K:SW}(h:Ow n enc w s l)(hx:Vw n enc w x m)(hok:∀a,∀v∈enc a,okC v=true)(hz:zero.length=n)
  (hb:(l.length+m.length)*bytes<=2^47) (hm:l.length+m.length<2^63)
  (hK:∀r w',Ow n enc w' r (l++m)->Fr (inB s) w w'->(∀b,inB r b->inB s b\/w.heap.size<=b)->K r w'):apS n bytes zero e s x w K:=by
 have h1:=h.len
 have h2:=hx.len
 refine qt3 h.own hx.rd (fun v hv=>?_) hz (by rw[h1,h2];exact hb) (by rw[h1,h2];exact hm) fun r w' ho hr hf hi=>hK r w' ⟨by rw[hr,h1,h2];simp,by rw[Je];exact ho⟩ hf hi
 obtain⟨a,_,ha⟩:=List.mem_flatMap.1 hv
 exact hok a v ha
theorem Vw.new{a:α}{cs:Array Value}{e:TypeId}(hn:(enc a).length=n)(hc:cs=(enc a).toArray):Vw n enc (w.alloc (Obj.cells cs e)) ⟨some ⟨w.heap.size,0,none⟩,1,1⟩ [a]:=by
 subst hc
 refine⟨rfl,Js _,by simp[hn],?_⟩
 intro i hi
 simp only[J9,List.flatMap_nil,List.append_nil]at hi ⊢
 rw[q04,Jt,(Row.new (w:=w) (e:=e) (cs:=enc a)).cell]
 exact J2 hi
theorem Ow.new{a:α}{cs:Array Value}{e:TypeId}(hn:(enc a).length=n)(hc:cs=(enc a).toArray):Ow n enc (w.alloc (Obj.cells cs e)) ⟨some ⟨w.heap.size,0,none⟩,1,1⟩ [a]:=by
 subst hc
 refine⟨rfl,by simp[hn],.inr ⟨w.heap.size,enc a,rfl,Row.new,by simp[hn],Js _,og⟩⟩
structure Mk{α:Type}(w0:World)(n:Nat)(enc:α->List Value)(w:World)(s:Sl)(l:List α):Prop where
 fr0:Fr F0 w0 w
 ow:Ow n enc w s l
 nw:∀b,inB s b->w0.heap.size<=b
theorem Mk.vw(h:Mk w0 n enc w s l):Vw n enc w s l:=h.ow.vw
theorem Mk.len(h:Mk w0 n enc w s l):s.l=l.length:=h.ow.len
theorem Mk.fr(h:Mk w0 n enc w s l)(hf:Fr F0 w w'):Mk w0 n enc w' s l:=⟨h.fr0.trans hf fun _ hb _=>hb,h.ow.fr hf,h.nw⟩
theorem Mk.nil(hf:Fr F0 w0 w):Mk w0 n enc w ⟨none,0,0⟩ ([]:List α):=⟨hf,⟨rfl,by simpa using OwnV.nil⟩,fun b ⟨a,ha,_⟩=>by cases ha⟩
theorem Mk.app{bytes:Nat}{zero:List Value}{e:Nat}{K:SW}(h:Mk w0 n enc w s l)(hx:Vw n enc w x m)(hok:∀a,∀v∈enc a,okC v=true)(hz:zero.length=n)
  (hb:(l.length+m.length)*bytes<=2^47) (hm:l.length+m.length<2^63)
  (hK:∀r w',Mk w0 n enc w' r (l++m)->Fr (inB s) w w'->K r w'):apS n bytes zero e s x w K:=
 h.ow.app hx hok hz hb hm fun r w' ho hf hi=>hK r w' ⟨h.fr0.trans hf fun b hb hlt=>absurd (h.nw b hb) oo,ho,fun b hb=>by
  rcases hi b hb with h1|h1
  ·exact h.nw b h1
  ·exact JA h.fr0.1 h1⟩ hf
theorem Mk.push{a:α}{cs:Array Value}{bytes:Nat}{zero:List Value}{e e':Nat}{K:SW}(h:Mk w0 n enc w s l)(hc:cs=(enc a).toArray)(hn:(enc a).length=n)(hok:∀a,∀v∈enc a,okC v=true)(hz:zero.length=n)
  (hb:(l.length+1)*bytes<=2^47) (hm:l.length+1<2^63)
  (hK:∀r w',Mk w0 n enc w' r (l++[a])->Fr (inB s) w w'->K r w'):apS n bytes zero e s ⟨some ⟨w.heap.size,0,none⟩,1,1⟩ (w.alloc (Obj.cells cs e')) K:=by
 have h':=h.fr (Fr.alloc (o:=Obj.cells cs e'))
 refine h'.app (m:=[a]) (Vw.new hn hc) hok hz hb hm fun r w' ho hf=>hK r w' ho ?_
 exact(Fr.alloc (F:=inB s)).trans hf fun b hb _=>hb
end
def ie{α:Type}(k:IntKind)(f:α->Int):α->List Value:=fun a=>[.int k (f a)]
@[simp] theorem ie_length{α:Type}(k:IntKind)(f:α->Int)(a:α):(ie k f a).length=1:=rfl
theorem Fr0.t{w0 w w':World}(h:Fr F0 w0 w)(h':Fr F0 w w'):Fr F0 w0 w':=h.trans h' fun _ hb _=>hb
structure T43 where
 f0:ByteArray
 f1:Sl
 f2:Sl
 f3:Sl
 f4:Int
 f5:Int
 f6:ByteArray
 f7:Int
 f8:Int
 f9:ByteArray
 f10:Sl
 f11:Sl
 f12:Int
 f13:Sl
 f14:Int
 f15:Int
 f16:Int
 f17:Int
 f18:Int
 f19:Int
def T43.cs(x:T43):List Value:=[(Value.string x.f0),(Value.slice x.f1.p x.f1.l x.f1.c),(Value.slice x.f2.p x.f2.l x.f2.c),(Value.slice x.f3.p x.f3.l x.f3.c),(Value.int .i64 x.f4),(Value.int .i64 x.f5),(Value.string x.f6),(Value.int .i64 x.f7),(Value.int .i64 x.f8),(Value.string x.f9),(Value.slice x.f10.p x.f10.l x.f10.c),(Value.slice x.f11.p x.f11.l x.f11.c),(Value.int .i64 x.f12),(Value.slice x.f13.p x.f13.l x.f13.c),(Value.int .i64 x.f14),(Value.int .i64 x.f15),(Value.int .i64 x.f16),(Value.int .i64 x.f17),(Value.int .i64 x.f18),(Value.int .i64 x.f19)]
inductive Lf where
 | i (k:IntKind)
 | b
 | s
 | p
 | q
 | m
 | n
 | v
 | l
 | r
inductive Tk where
 | f (a:Lf)
 | g (n:Nat)
 | u (n:Nat)
 | c (f a b:Nat)
abbrev tI:Tk:=.f (.i .i64)
abbrev tU:Tk:=.f (.i .u64)
abbrev tB:Tk:=.f .b
abbrev tS:Tk:=.f .s
abbrev tP:Tk:=.f .p
abbrev tQ:Tk:=.f .q
abbrev tM:Tk:=.f .m
abbrev tN:Tk:=.f .n
abbrev tV:Tk:=.f .v
abbrev tL:Tk:=.f .l
abbrev tR:Tk:=.f .r
abbrev Lf.ty:Lf->Type
 | .i _=>Int
 | .b=>Bool
 | .s=>ByteArray
 | .p=>Option Addr
 | .q=>Addr
 | .m=>Option Nat
 | .n=>Nat
 | .v=>Value
 | .l=>Sl
 | .r=>T43
def Lf.enc:(a:Lf)->a.ty->Value
 | .i k,x=>.int k x
 | .b,x=>.bool x
 | .s,x=>.string x
 | .p,x=>.pointer x
 | .q,x=>.pointer (some x)
 | .m,x=>.map x
 | .n,x=>.map (some x)
 | .v,x=>x
 | .l,x=>.slice x.p x.l x.c
 | .r,x=>.agg x.cs.toArray
def dS{α:Type}(l:List Value)(k:ByteArray->List Value->Option α):Option α:=match l with
 | .string x::l=>k x l
 | _=>none
def dI{α:Type}(l:List Value)(k:Int->List Value->Option α):Option α:=match l with
 | .int .i64 x::l=>k x l
 | _=>none
def dL{α:Type}(l:List Value)(k:Sl->List Value->Option α):Option α:=match l with
 | .slice p n c::l=>k ⟨p,n,c⟩ l
 | _=>none
theorem dS_e{α:Type}{l:List Value}{k:ByteArray->List Value->Option α}{y:α}(h:dS l k=some y):∃x m,l=.string x::m/\k x m=some y:=by
 unfold dS at h
 split at h
 ·exact⟨_,_,rfl,h⟩
 ·cases h
theorem dI_e{α:Type}{l:List Value}{k:Int->List Value->Option α}{y:α}(h:dI l k=some y):∃x m,l=.int .i64 x::m/\k x m=some y:=by
 unfold dI at h
 split at h
 ·exact⟨_,_,rfl,h⟩
 ·cases h
theorem dL_e{α:Type}{l:List Value}{k:Sl->List Value->Option α}{y:α}(h:dL l k=some y):∃x m,l=.slice x.p x.l x.c::m/\k x m=some y:=by
 unfold dL at h
 split at h
 ·exact⟨⟨_,_,_⟩,_,rfl,h⟩
 ·cases h
def d43(l:List Value):Option T43:=
 dS l fun a0 l =>   dL l fun a1 l =>   dL l fun a2 l =>   dL l fun a3 l =>   dI l fun a4 l => 
 dI l fun a5 l =>   dS l fun a6 l =>   dI l fun a7 l =>   dI l fun a8 l =>   dS l fun a9 l => 
 dL l fun a10 l =>   dL l fun a11 l =>   dI l fun a12 l =>   dL l fun a13 l =>   dI l fun a14 l => 
 dI l fun a15 l =>   dI l fun a16 l =>   dI l fun a17 l =>   dI l fun a18 l =>   dI l fun a19 l => 
 match l with
 | []=>some ⟨a0,a1,a2,a3,a4,a5,a6,a7,a8,a9,a10,a11,a12,a13,a14,a15,a16,a17,a18,a19⟩
 | _=>none
theorem d43_e{l:List Value}{x:T43}(h:d43 l=some x):l=x.cs:=by
 unfold d43 at h
 obtain⟨a0,l0,e0,h⟩:=dS_e h
 obtain⟨a1,l1,e1,h⟩:=dL_e h
 obtain⟨a2,l2,e2,h⟩:=dL_e h
 obtain⟨a3,l3,e3,h⟩:=dL_e h
 obtain⟨a4,l4,e4,h⟩:=dI_e h
 obtain⟨a5,l5,e5,h⟩:=dI_e h
 obtain⟨a6,l6,e6,h⟩:=dS_e h
 obtain⟨a7,l7,e7,h⟩:=dI_e h
 obtain⟨a8,l8,e8,h⟩:=dI_e h
 obtain⟨a9,l9,e9,h⟩:=dS_e h
 obtain⟨a10,l10,e10,h⟩:=dL_e h
 obtain⟨a11,l11,e11,h⟩:=dL_e h
 obtain⟨a12,l12,e12,h⟩:=dI_e h
 obtain⟨a13,l13,e13,h⟩:=dL_e h
 obtain⟨a14,l14,e14,h⟩:=dI_e h
 obtain⟨a15,l15,e15,h⟩:=dI_e h
 obtain⟨a16,l16,e16,h⟩:=dI_e h
 obtain⟨a17,l17,e17,h⟩:=dI_e h
 obtain⟨a18,l18,e18,h⟩:=dI_e h
 obtain⟨a19,l19,e19,h⟩:=dI_e h
 split at h
 ·cases h
  subst_vars
  rfl
 ·cases h
def Lf.dec:(a:Lf)->Value->Option a.ty
 | .i k,x=>match x with
  | .int j x=>match decEq j k with
   | .isTrue _=>some x
   | .isFalse _=>none
  | _=>none
 | .b,x=>match x with
  | .bool x=>some x
  | _=>none
 | .s,x=>match x with
  | .string x=>some x
  | _=>none
 | .p,x=>match x with
  | .pointer x=>some x
  | _=>none
 | .q,x=>match x with
  | .pointer (some x)=>some x
  | _=>none
 | .m,x=>match x with
  | .map x=>some x
  | _=>none
 | .n,x=>match x with
  | .map (some x)=>some x
  | _=>none
 | .v,x=>some x
 | .l,x=>match x with
  | .slice a1 a2 a3=>some ⟨a1,a2,a3⟩
  | _=>none
 | .r,x=>match x with
  | .agg xs=>d43 xs.toList
  | _=>none
theorem Lf.dec_enc(a:Lf)(x:a.ty):a.dec (a.enc x)=some x:=by
 cases a with
 | i k =>
  simp only[enc,dec]
  split
  ·rfl
  ·rename_i h _;exact absurd rfl h
 | _=>rfl
theorem Lf.enc_dec(a:Lf)(v:Value)(x:a.ty)(h:a.dec v=some x):a.enc x=v:=by
 cases a with
 | i k =>
  simp only[dec]at h
  split at h
  ·split at h
   ·rename_i e _
    cases h;subst e;rfl
   ·cases h
  ·cases h
 | v=>simp only[dec]at h;cases h;rfl
 | r =>
  simp only[dec]at h
  split at h
  ·have e:=d43_e h
   simp only[enc,←e]
  ·cases h
 | _ =>
  simp only[dec]at h
  split at h
  ·cases h;rfl
  ·cases h
abbrev Cur:List Tk->Type->Type
 | [],R=>R
 | .f a::ts,R=>a.ty->Cur ts R
 | .g _::ts,R=>Cur ts R
 | .u _::ts,R=>Cur ts R
 | .c _ _ _::ts,R=>Cur ts R
abbrev Ar:List Tk->Type
 | []=>Unit
 | .f a::ts=>a.ty×Ar ts
 | .g _::ts=>Ar ts
 | .u _::ts=>Ar ts
 | .c _ _ _::ts=>Ar ts
def ap{R:Type}:(ts:List Tk)->Cur ts R->Ar ts->R
 | [],f,_=>f
 | .f _::ts,f,(x,r)=>ap ts (f x) r
 | .g _::ts,f,r=>ap ts f r
 | .u _::ts,f,r=>ap ts f r
 | .c _ _ _::ts,f,r=>ap ts f r
def un{R:Type}:(ts:List Tk)->Cur ts R->R->List Value->R
 | [],f,d,vs=>match vs with
  | []=>f
  | _::_=>d
 | .f a::ts,f,d,vs=>match vs with
  | v::vs=>match a.dec v with
   | some x=>un ts (f x) d vs
   | none=>d
  | []=>d
 | .g n::ts,f,d,vs=>match vs with
  | .agg xs::vs=>match Jy xs.toList.length n with
   | true=>un ts f d (xs.toList++vs)
   | false=>d
  | _=>d
 | .u n::ts,f,d,vs=>match vs with
  | .tuple xs::vs=>match Jy xs.toList.length n with
   | true=>un ts f d (xs.toList++vs)
   | false=>d
  | _=>d
 | .c g n m::ts,f,d,vs=>match vs with
  | .func (.func h) xs ys::vs=>match Jy h g&&Jy xs.toList.length n&&Jy ys.toList.length m with
   | true=>un ts f d (xs.toList++(ys.toList++vs))
   | false=>d
  | _=>d
def cu{R:Type}:(ts:List Tk)->(List Value->R)->Cur ts R
 | [],k=>k []
 | .f a::ts,k=>fun x=>cu ts fun vs=>k (a.enc x::vs)
 | .g n::ts,k=>cu ts fun vs=>k (.agg (vs.take n).toArray::vs.drop n)
 | .u n::ts,k=>cu ts fun vs=>k (.tuple (vs.take n).toArray::vs.drop n)
 | .c g n m::ts,k=>cu ts fun vs=>k (.func (.func g) (vs.take n).toArray ((vs.drop n).take m).toArray::(vs.drop n).drop m)
def enl:(ts:List Tk)->Ar ts->List Value
 | [],_=>[]
 | .f a::ts,(x,r)=>a.enc x::enl ts r
 | .g n::ts,r=>.agg ((enl ts r).take n).toArray::(enl ts r).drop n
 | .u n::ts,r=>.tuple ((enl ts r).take n).toArray::(enl ts r).drop n
 | .c g n m::ts,r=>.func (.func g) ((enl ts r).take n).toArray (((enl ts r).drop n).take m).toArray::((enl ts r).drop n).drop m
def cnt:List Tk->Option Nat
 | []=>some 0
 | .f _::ts=>match cnt ts with
  | some c=>some (c+1)
  | none=>none
 | .g n::ts=>match cnt ts with
  | some c=>match JH n c with
   | true=>some (c-n+1)
   | false=>none
  | none=>none
 | .u n::ts=>match cnt ts with
  | some c=>match JH n c with
   | true=>some (c-n+1)
   | false=>none
  | none=>none
 | .c _ n m::ts=>match cnt ts with
  | some c=>match JH (n+m) c with
   | true=>some (c-(n+m)+1)
   | false=>none
  | none=>none
theorem qbh{R:Type}:∀(ts:List Tk) (k:List Value->R) (a:Ar ts),ap ts (cu ts k) a=k (enl ts a)
 | [],_,_=>rfl
 | .f _::ts,k,(x,r)=>qbh ts _ r
 | .g _::ts,k,r=>qbh ts _ r
 | .u _::ts,k,r=>qbh ts _ r
 | .c _ _ _::ts,k,r=>qbh ts _ r
theorem qa8{R:Type}:∀(ts:List Tk) (f g:Cur ts R),(∀a,ap ts f a=ap ts g a)->f=g
 | [],_,_,h=>h ()
 | .f _::ts,_,_,h=>funext fun x=>qa8 ts _ _ fun r=>h (x,r)
 | .g _::ts,_,_,h=>qa8 ts _ _ h
 | .u _::ts,_,_,h=>qa8 ts _ _ h
 | .c _ _ _::ts,_,_,h=>qa8 ts _ _ h
theorem qlt{R:Type}{T:R->Prop}{d:R}(hd:¬T d):∀(ts:List Tk) (f:Cur ts R) (vs:List Value),T (un ts f d vs)->∃a,enl ts a=vs/\T (ap ts f a)
 | [],f,vs,h=>by
  cases vs with
  | nil=>exact⟨(),rfl,h⟩
  | cons v vs=>exact absurd h hd
 | .f a::ts,f,vs,h=>by
  unfold un at h
  split at h
  ·split at h
   ·rename_i x hx
    obtain⟨r,hr,ht⟩:=qlt hd ts (f x) _ h
    exact⟨(x,r),by simp only[enl,hr,a.enc_dec _ x hx],ht⟩
   ·exact absurd h hd
  ·exact absurd h hd
 | .g n::ts,f,vs,h=>by
  unfold un at h
  split at h
  ·split at h
   ·rename_i xs vs hn
    have hn:=Jq hn
    obtain⟨r,hr,ht⟩:=qlt hd ts f _ h
    exact⟨r,by simp[enl,hr,←hn],ht⟩
   ·exact absurd h hd
  ·exact absurd h hd
 | .u n::ts,f,vs,h=>by
  unfold un at h
  split at h
  ·split at h
   ·rename_i xs vs hn
    have hn:=Jq hn
    obtain⟨r,hr,ht⟩:=qlt hd ts f _ h
    exact⟨r,by simp[enl,hr,←hn],ht⟩
   ·exact absurd h hd
  ·exact absurd h hd
 | .c g n m::ts,f,vs,h=>by
  unfold un at h
  split at h
  ·split at h
   ·rename_i hh xs ys vs hn
    simp only[Bool.and_eq_true]at hn
    obtain⟨⟨hg,hn⟩,hm⟩:=hn
    have hg:=Jq hg
    have hn:=Jq hn
    have hm:=Jq hm
    obtain⟨r,hr,ht⟩:=qlt hd ts f _ h
    subst hg
    exact⟨r,by simp[enl,hr,←hn,←hm],ht⟩
   ·exact absurd h hd
  ·exact absurd h hd
theorem q3y:∀(ts:List Tk) (c:Nat) (a:Ar ts),cnt ts=some c->(enl ts a).length=c
 | [],c,_,h=>by simp[cnt]at h;subst h;rfl
 | .f _::ts,c,(x,r),h=>by
  simp only[cnt]at h
  split at h
  ·rename_i c' hc
   cases h
   simp[enl,q3y ts c' r hc]
  ·cases h
 | .g n::ts,c,r,h=>by
  simp only[cnt]at h
  split at h
  ·rename_i c' hc
   split at h
   ·cases h
    simp[enl,q3y ts c' r hc]
   ·cases h
  ·cases h
 | .u n::ts,c,r,h=>by
  simp only[cnt]at h
  split at h
  ·rename_i c' hc
   split at h
   ·cases h
    simp[enl,q3y ts c' r hc]
   ·cases h
  ·cases h
 | .c _ n m::ts,c,r,h=>by
  simp only[cnt]at h
  split at h
  ·rename_i c' hc
   split at h
   ·cases h
    simp[enl,q3y ts c' r hc]
   ·cases h
  ·cases h
theorem q7d{R:Type}{d:R}:∀(ts:List Tk) (c:Nat) (f:Cur ts R) (a:Ar ts),cnt ts=some c->un ts f d (enl ts a)=ap ts f a
 | [],_,_,_,_=>rfl
 | .f lf::ts,c,f,(x,r),h=>by
  simp only[cnt]at h
  split at h
  ·rename_i c' hc
   simp only[un,enl,lf.dec_enc,ap]
   exact q7d ts c' (f x) r hc
  ·cases h
 | .g n::ts,c,f,r,h=>by
  simp only[cnt]at h
  split at h
  ·rename_i c' hc
   split at h
   ·rename_i hb
    have hb:=Jr hb
    have hl:=q3y ts c' r hc
    have e:Jy ((enl ts r).take n).toArray.toList.length n=true:=by
     have:((enl ts r).take n).toArray.toList.length=n:=by simp[hl];omega
     rw[this];exact Ju n
    simp only[un,enl,e,ap]
    rw[←q7d (d:=d) ts c' f r hc]
    simp
   ·cases h
  ·cases h
 | .u n::ts,c,f,r,h=>by
  simp only[cnt]at h
  split at h
  ·rename_i c' hc
   split at h
   ·rename_i hb
    have hb:=Jr hb
    have hl:=q3y ts c' r hc
    have e:Jy ((enl ts r).take n).toArray.toList.length n=true:=by
     have:((enl ts r).take n).toArray.toList.length=n:=by simp[hl];omega
     rw[this];exact Ju n
    simp only[un,enl,e,ap]
    rw[←q7d (d:=d) ts c' f r hc]
    simp
   ·cases h
  ·cases h
 | .c g n m::ts,c,f,r,h=>by
  simp only[cnt]at h
  split at h
  ·rename_i c' hc
   split at h
   ·rename_i hb
    have hb:=Jr hb
    have hl:=q3y ts c' r hc
    have e1:Jy ((enl ts r).take n).toArray.toList.length n=true:=by
     have:((enl ts r).take n).toArray.toList.length=n:=by simp[hl];omega
     rw[this];exact Ju n
    have e2:Jy (((enl ts r).drop n).take m).toArray.toList.length m=true:=by
     have:(((enl ts r).drop n).take m).toArray.toList.length=m:=by simp[hl];omega
     rw[this];exact Ju m
    have e3:Jy g g=true:=Ju g
    simp only[un,enl,e1,e2,e3,ap,Bool.and_true]
    rw[←q7d (d:=d) ts c' f r hc]
    simp only[List.append_assoc,Jc]
   ·cases h
  ·cases h
abbrev WP:=World->Prop
abbrev nF:WP:=fun _=>False
theorem qbi{ts:List Tk}{f:Cur ts WP}{vs:List Value}{w:World}(h:un ts f nF vs w):∃a,enl ts a=vs/\ap ts f a w:=
 qlt (T:=fun p=>p w) (fun h=>h) ts f vs h
def nT:(ts:List Tk)->Cur ts WP->Cur ts (World->Nat)->Nat->Cur ts WP
 | [],J,μ,m=>fun w=>J w/\μ w<m
 | .f _::ts,J,μ,m=>fun x=>nT ts (J x) (μ x) m
 | .g _::ts,J,μ,m=>nT ts J μ m
 | .u _::ts,J,μ,m=>nT ts J μ m
 | .c _ _ _::ts,J,μ,m=>nT ts J μ m
theorem qjc:∀(ts:List Tk) (J:Cur ts WP) (μ:Cur ts (World->Nat)) (m:Nat) (a:Ar ts) (w:World),ap ts (nT ts J μ m) a w=(ap ts J a w/\ap ts μ a w<m)
 | [],_,_,_,_,_=>rfl
 | .f _::ts,J,μ,m,(x,r),w=>qjc ts (J x) (μ x) m r w
 | .g _::ts,J,μ,m,r,w=>qjc ts J μ m r w
 | .u _::ts,J,μ,m,r,w=>qjc ts J μ m r w
 | .c _ _ _::ts,J,μ,m,r,w=>qjc ts J μ m r w
def uR0(ts:List Tk)(F:Cur ts WP):Rho->List Value->World->Prop:=fun _=>un ts F nF
def uR1(t1 ts:List Tk)(F:Cur t1 WP->Cur ts WP):Rho->List Value->World->Prop
 | N::_=>un ts (F (cu t1 N)) nF
 | []=>fun _=>nF
def uR2(t1 t2 ts:List Tk)(F:Cur t1 WP->Cur t2 WP->Cur ts WP):Rho->List Value->World->Prop
 | N::M::_=>un ts (F (cu t1 N) (cu t2 M)) nF
 | _=>fun _=>nF
section
variable{P:Program}{Γ:Env}{n:Nat}{O:List Ob}{k:Nat}{t1 t2 t3 t4 ts:List Tk}
def LI(ts:List Tk)(L:Cur ts WP)(B:Cur ts WP->Cur ts WP):Prop:=
 ∀a w,ap ts L a w->∃(J:Cur ts WP) (μ:Cur ts (World->Nat)),ap ts J a w/\∀a' w',ap ts J a' w'->ap ts (B (nT ts J μ (ap ts μ a' w'))) a' w'
theorem qfj{ts:List Tk}{L:Cur ts WP}{B:Cur ts WP->Cur ts WP}{g:Rho->List Value->World->Prop}{ρ:Rho}{vs:List Value}{w:World}(hw:(cnt ts).isSome=true)(hl:LI ts L B)(he:∀N,B (cu ts N)=cu ts (g (N::ρ)))(h:un ts L nF vs w) :
  ∃(I:List Value->World->Prop) (μ:List Value->World->Nat),I vs w/\∀vs w,I vs w->g (mkN I μ vs w::ρ) vs w:=by
 obtain⟨c,hc⟩:=Option.isSome_iff_exists.1 hw
 obtain⟨a,rfl,h'⟩:=qbi h
 obtain⟨J,μ,h0,hr⟩:=hl a w h'
 refine⟨un ts J nF,un ts μ (fun _=>0),by rw[q7d ts c J a hc];exact h0,fun vs' w' hI=>?_⟩
 obtain⟨a',rfl,hJ⟩:=qbi hI
 have h1:=hr a' w' hJ
 have e:cu ts (mkN (un ts J nF) (un ts μ fun _=>0) (enl ts a') w')=nT ts J μ (ap ts μ a' w'):=by
  apply qa8
  intro b
  funext u
  rw[qjc,qbh]
  unfold mkN
  rw[q7d ts c J b hc,q7d ts c μ b hc,q7d ts c μ a' hc]
 rw[←e,he,qbh]at h1
 exact h1
theorem hLoop0{L:Cur ts WP}(B:Cur ts WP->Cur ts WP)(hl:LI ts L B)(hw:(cnt ts).isSome=true:=by kernel_rfl)(hk:q2y O k=some .loop:=by kernel_rfl)(hq:∀ρ,q5g O k ρ=uR0 ts L ρ:=by intros;kernel_rfl)(he:∀N ρ,B (cu ts N)=cu ts (q2x P Γ n O k (N::ρ)):=by intros;kernel_rfl):q12 P Γ n O k:=
 q4g hk fun ρ vs w h=>by
  rw[hq]at h
  exact qfj hw hl (fun N=>he N ρ) h
theorem hLoop1{L:Cur t1 WP->Cur ts WP}(B:Cur t1 WP->Cur ts WP->Cur ts WP)(hl:∀M,LI ts (L M) (B M))(hw:(cnt ts).isSome=true:=by kernel_rfl)(hk:q2y O k=some .loop:=by kernel_rfl)(hq:∀ρ,q5g O k ρ=uR1 t1 ts L ρ:=by intros;kernel_rfl)(he:∀M N ρ,B (cu t1 M) (cu ts N)=cu ts (q2x P Γ n O k (N::M::ρ)):=by intros;kernel_rfl):q12 P Γ n O k:=
 q4g hk fun ρ vs w h=>by
  rw[hq]at h
  match ρ with
  | []=>exact h.elim
  | M::ρ=>exact qfj hw (hl _) (fun N=>he M N (ρ)) h
theorem hLoop2{L:Cur t1 WP->Cur t2 WP->Cur ts WP}(B:Cur t1 WP->Cur t2 WP->Cur ts WP->Cur ts WP)(hl:∀M X,LI ts (L M X) (B M X))(hw:(cnt ts).isSome=true:=by kernel_rfl)(hk:q2y O k=some .loop:=by kernel_rfl)(hq:∀ρ,q5g O k ρ=uR2 t1 t2 ts L ρ:=by intros;kernel_rfl)(he:∀M X N ρ,B (cu t1 M) (cu t2 X) (cu ts N)=cu ts (q2x P Γ n O k (N::M::X::ρ)):=by intros;kernel_rfl):q12 P Γ n O k:=
 q4g hk fun ρ vs w h=>by
  rw[hq]at h
  match ρ with
  | []=>exact h.elim
  | [_]=>exact h.elim
  | M::X::ρ=>exact qfj hw (hl _ _) (fun N=>he M X N ρ) h
theorem hEnd{m:Nat}(h:obAt O m=none:=by kernel_rfl):∀k,m<=k->q12 P Γ n O k:=fun _ hk=>qa5 h hk
theorem q03{m:Nat}(h:q12 P Γ n O m)(r:∀k,m+1<=k->q12 P Γ n O k):∀k,m<=k->q12 P Γ n O k:=fun k hk=>by
 rcases Nat.eq_or_lt_of_le hk with e|hlt
 ·subst e;exact h
 ·exact r k hlt
end
def obF(P:Program)(Γ:Env)(fn:Func)(x:A)(K:VW):List Ob:=obs P Γ fn.ntmps x (fn.body.getD .skip) (fun _=>retQ P fn.results K)
def qpd(ts:List Tk)(n:Nat):Bool:=match cnt ts with
 | some c=>JH c n
 | none=>false
def kk(ts:List Tk)(Kv:VW):Cur ts WP:=cu ts fun vs=>Kv (vs.headD .nilIface)
def qn:Nat->RA->RA
 | 0,x=>x
 | n+1,x=>RA.run (qn n x)
def qk:Nat->RA->RA
 | 0,x=>x
 | n+1,x=>RA.skp (qk n x)
def ql:A:=A.leaf
def qe(n:Nat):A:=A.reg (qn n RA.done)
def qr(n:Nat)(x:A):A:=A.seq (A.reg (qn n RA.done)) x
def qs(x y:A):A:=A.seq x y
def qc(x y:A):A:=A.cond x y
def qb(x:A):A:=A.blk x
def dp:List Nat->DA->DA
 | [],x=>x
 | i::l,x=>DA.pur i (dp l x)
theorem Mem.frF{w0 w w':World}{l:List (Nat×List Value)}{F:Nat->Prop}(h:Mem w0 w l)(hf:Fr F w w')(h1:∀p∈l,¬F p.1)(h2:∀b,F b->w0.heap.size<=b):Mem w0 w' l:=by
 obtain⟨h0,hr,hp,hb⟩:=h
 exact⟨h0.trans hf fun b hb hlt=>absurd (h2 b hb) oo,fun p hp=>hf.row (hr p hp) (h1 p hp),hp,hb⟩
def q0b(B:Nat->Prop)(Q:World->Prop):Prop:=∀u u':World,(∀b,B b->u'.heap[b]?=u.heap[b]?)->Q u->Q u'
theorem q0b.and{B C:Nat->Prop}{Q Q':World->Prop}(h:q0b B Q)(h':q0b C Q'):q0b (fun b=>B b\/C b) (fun w=>Q w/\Q' w):=
 fun u u' he hq=>⟨h u u' (fun b hb=>he b (.inl hb)) hq.1,h' u u' (fun b hb=>he b (.inr hb)) hq.2⟩
theorem q0b.wide{B C:Nat->Prop}{Q:World->Prop}(h:q0b B Q)(hc:∀b,B b->C b):q0b C Q:=fun u u' he hq=>h u u' (fun b hb=>he b (hc b hb)) hq
section
variable{α:Type}{n:Nat}{enc:α->List Value}{w0 w w':World}{s x:Sl}{l m:List α}{L:List (Nat×List Value)}{B:Nat->Prop}{Q:World->Prop}
theorem q0b.ow(s:Sl)(l:List α):q0b (inB s) (fun w=>Ow n enc w s l):=fun _ _ he h=>⟨h.len,h.own.congr he⟩
theorem q0b.vw(s:Sl)(l:List α):q0b (inB s) (fun w=>Vw n enc w s l):=by
 intro u u' he h
 refine⟨h.len,h.cap,?_⟩
 obtain⟨h1,h2⟩:=h.rd
 refine⟨h1,?_⟩
 cases hp:s.p with
 | none=>rw[hp]at h2;exact h2
 | some a =>
  rw[hp]at h2
  intro i hi
  have:=h2 i hi
  unfold World.cell? at this ⊢
  rw[q3k]at this ⊢
  rw[he _ ⟨a,hp,rfl⟩]
  exact this
theorem Ow.lt'(h:Ow n enc w s l){b:Nat}(hb:inB s b):b<w.heap.size:=h.own.lt hb
end
def T43.ld(w:World)(a:Addr)(K:T43->Prop):Prop:=
 ∃x0:ByteArray,w.cell? a=some (Value.string x0)/\∃x1:Sl,w.cell? (a.add 1)=some (Value.slice x1.p x1.l x1.c)/\∃x2:Sl,w.cell? (a.add 2)=some (Value.slice x2.p x2.l x2.c)/\∃x3:Sl,w.cell? (a.add 3)=some (Value.slice x3.p x3.l x3.c)/\∃x4:Int,w.cell? (a.add 4)=some (Value.int .i64 x4)/\∃x5:Int,w.cell? (a.add 5)=some (Value.int .i64 x5)/\∃x6:ByteArray,w.cell? (a.add 6)=some (Value.string x6)/\∃x7:Int,w.cell? (a.add 7)=some (Value.int .i64 x7)/\∃x8:Int,w.cell? (a.add 8)=some (Value.int .i64 x8)/\∃x9:ByteArray,w.cell? (a.add 9)=some (Value.string x9)/\∃x10:Sl,w.cell? (a.add 10)=some (Value.slice x10.p x10.l x10.c)/\∃x11:Sl,w.cell? (a.add 11)=some (Value.slice x11.p x11.l x11.c)/\∃x12:Int,w.cell? (a.add 12)=some (Value.int .i64 x12)/\∃x13:Sl,w.cell? (a.add 13)=some (Value.slice x13.p x13.l x13.c)/\∃x14:Int,w.cell? (a.add 14)=some (Value.int .i64 x14)/\∃x15:Int,w.cell? (a.add 15)=some (Value.int .i64 x15)/\∃x16:Int,w.cell? (a.add 16)=some (Value.int .i64 x16)/\∃x17:Int,w.cell? (a.add 17)=some (Value.int .i64 x17)/\∃x18:Int,w.cell? (a.add 18)=some (Value.int .i64 x18)/\∃x19:Int,w.cell? (a.add 19)=some (Value.int .i64 x19)/\K ⟨x0,x1,x2,x3,x4,x5,x6,x7,x8,x9,x10,x11,x12,x13,x14,x15,x16,x17,x18,x19⟩
def T43.lds(S:World->Prop)(a:Addr)(K:T43->Prop):Prop:=
 ∃x0:ByteArray,(∀w':World,S w'->w'.cell? a=some (Value.string x0))/\∃x1:Sl,(∀w':World,S w'->w'.cell? (a.add 1)=some (Value.slice x1.p x1.l x1.c))/\∃x2:Sl,(∀w':World,S w'->w'.cell? (a.add 2)=some (Value.slice x2.p x2.l x2.c))/\∃x3:Sl,(∀w':World,S w'->w'.cell? (a.add 3)=some (Value.slice x3.p x3.l x3.c))/\∃x4:Int,(∀w':World,S w'->w'.cell? (a.add 4)=some (Value.int .i64 x4))/\∃x5:Int,(∀w':World,S w'->w'.cell? (a.add 5)=some (Value.int .i64 x5))/\∃x6:ByteArray,(∀w':World,S w'->w'.cell? (a.add 6)=some (Value.string x6))/\∃x7:Int,(∀w':World,S w'->w'.cell? (a.add 7)=some (Value.int .i64 x7))/\∃x8:Int,(∀w':World,S w'->w'.cell? (a.add 8)=some (Value.int .i64 x8))/\∃x9:ByteArray,(∀w':World,S w'->w'.cell? (a.add 9)=some (Value.string x9))/\∃x10:Sl,(∀w':World,S w'->w'.cell? (a.add 10)=some (Value.slice x10.p x10.l x10.c))/\∃x11:Sl,(∀w':World,S w'->w'.cell? (a.add 11)=some (Value.slice x11.p x11.l x11.c))/\∃x12:Int,(∀w':World,S w'->w'.cell? (a.add 12)=some (Value.int .i64 x12))/\∃x13:Sl,(∀w':World,S w'->w'.cell? (a.add 13)=some (Value.slice x13.p x13.l x13.c))/\∃x14:Int,(∀w':World,S w'->w'.cell? (a.add 14)=some (Value.int .i64 x14))/\∃x15:Int,(∀w':World,S w'->w'.cell? (a.add 15)=some (Value.int .i64 x15))/\∃x16:Int,(∀w':World,S w'->w'.cell? (a.add 16)=some (Value.int .i64 x16))/\∃x17:Int,(∀w':World,S w'->w'.cell? (a.add 17)=some (Value.int .i64 x17))/\∃x18:Int,(∀w':World,S w'->w'.cell? (a.add 18)=some (Value.int .i64 x18))/\∃x19:Int,(∀w':World,S w'->w'.cell? (a.add 19)=some (Value.int .i64 x19))/\K ⟨x0,x1,x2,x3,x4,x5,x6,x7,x8,x9,x10,x11,x12,x13,x14,x15,x16,x17,x18,x19⟩
theorem T43.ld_row{w:World}{b:Nat}{x:T43}{K:T43->Prop}(h:Row w b x.cs)(hK:K x):T43.ld w ⟨b,0,none⟩ K:=
 ⟨_,h.at (i:=0) rfl,_,h.at (i:=1) rfl,_,h.at (i:=2) rfl,_,h.at (i:=3) rfl,_,h.at (i:=4) rfl,_,h.at (i:=5) rfl,_,h.at (i:=6) rfl,_,h.at (i:=7) rfl,_,h.at (i:=8) rfl,_,h.at (i:=9) rfl,_,h.at (i:=10) rfl,_,h.at (i:=11) rfl,_,h.at (i:=12) rfl,_,h.at (i:=13) rfl,_,h.at (i:=14) rfl,_,h.at (i:=15) rfl,_,h.at (i:=16) rfl,_,h.at (i:=17) rfl,_,h.at (i:=18) rfl,_,h.at (i:=19) rfl,hK⟩
theorem T43.lds_row{S:World->Prop}{b:Nat}{x:T43}{K:T43->Prop}(h:∀w,S w->Row w b x.cs)(hK:K x):T43.lds S ⟨b,0,none⟩ K:=
 ⟨_,fun _ hw=>(h _ hw).at (i:=0) rfl,_,fun _ hw=>(h _ hw).at (i:=1) rfl,_,fun _ hw=>(h _ hw).at (i:=2) rfl,_,fun _ hw=>(h _ hw).at (i:=3) rfl,_,fun _ hw=>(h _ hw).at (i:=4) rfl,_,fun _ hw=>(h _ hw).at (i:=5) rfl,_,fun _ hw=>(h _ hw).at (i:=6) rfl,_,fun _ hw=>(h _ hw).at (i:=7) rfl,_,fun _ hw=>(h _ hw).at (i:=8) rfl,_,fun _ hw=>(h _ hw).at (i:=9) rfl,_,fun _ hw=>(h _ hw).at (i:=10) rfl,_,fun _ hw=>(h _ hw).at (i:=11) rfl,_,fun _ hw=>(h _ hw).at (i:=12) rfl,_,fun _ hw=>(h _ hw).at (i:=13) rfl,_,fun _ hw=>(h _ hw).at (i:=14) rfl,_,fun _ hw=>(h _ hw).at (i:=15) rfl,_,fun _ hw=>(h _ hw).at (i:=16) rfl,_,fun _ hw=>(h _ hw).at (i:=17) rfl,_,fun _ hw=>(h _ hw).at (i:=18) rfl,_,fun _ hw=>(h _ hw).at (i:=19) rfl,hK⟩
def okk(v:Value)(X:Prop):Prop:=match okC v with
 | true=>X
 | false=>False
theorem qdc{v:Value}{X:Prop}(h:okC v=true)(hX:X):okk v X:=by unfold okk;rw[h];exact hX
