/- Tenders, their clauses, and what a change affects: plain. Conditions: none. -/
import Derived.Test.YtmfkimnmklnppaaGreatDoorEQD
import Derived.Test.YtmfkimnmklnppaaGreatDoorGQA
import Derived.Shelf.LaysM
import Derived.Shelf.LaysC
import Derived.Shelf.Lays
open List renaming mem_iff_getElem->J0,getElem?_eq_some_iff->J1,getElem_mem->J2
open Int renaming natCast_nonneg->J3,mul_neg_of_neg_of_pos->J4,lt_or_le->J5,natCast_mul->J6,tmod->J7,tdiv->J8,mul_nonneg->J9,neg_mul->Ja
open Nat renaming div_le_self->Jb,mod_eq_of_lt->Jc,lt_of_le_of_lt->Jd,gcd->Je,gcd_pos_of_pos_right->Jf,mod_lt->Jg,zero_add->Jh,Coprime->Ji,two_pow_pos->Jj,div_add_mod->Jk,pow_add->Jl,mul_le_mul->Jm,div_div_eq_div_mul->Jn,div_add_mod'->Jo,div_mul_le_self->Jp,gcd_le_left->Jq,mul_comm->Jr,gcd_comm->Js,le_trans->Jt,add_mul->Ju,one_mul->Jv
namespace Dp
open Go Pw
abbrev B:=List UInt8
inductive Fm where
 | num (n d:Int)
 | name (s:B)
 | op (o:Fin 6) (a b:Fm)
deriving DecidableEq
structure Cr where
 name:B
 kind:Int
 low:Int
 high:Int
 less:Bool
deriving DecidableEq
structure Rq where
 name:B
 rel:B
 val:Int
deriving DecidableEq
structure Td where
 name:B
 lots:List (Int×Int)
 crit:List Cr
 reqs:List Rq
 low:Int
 high:Int
 fm:Fm
 ties:List B
 most:Int
 combos:List (List Int)
 budget:Int
 t1:Int
 t2:Int
 t3:Int
 t4:Int
 t5:Int
def q1w:B:=[110,97,109,101]
def q38:B:=[102,111,114,109,117,108,97]
def q3l:B:=[109,111,115,116]
def q1k:B:=[98,117,100,103,101,116]
def q2f:B:=[116,105,109,101,115]
def wPrice:B:=[112,114,105,99,101]
def wLow:B:=[108,111,119]
def addB(l:List B)(s:B):List B:=if s∈l then l else l++[s]
def q2h(n d:Int):Bool:=decide (q0k n d)&&(decide (0<=n)&&(decide (J7 1000000 d=0)&&decide (n<=1000000000*d)))
def q23(c:UInt8):Bool:=(decide (97<=c.toNat)&&decide (c.toNat<=122))||(decide (65<=c.toNat)&&decide (c.toNat<=90))
def q17(c:UInt8):Bool:=decide (48<=c.toNat)&&decide (c.toNat<=57)
def q14(c:UInt8):Bool:=q23 c||q17 c||decide (c.toNat=95)
def q0w(s:B):Bool:=match s with
 | []=>false
 | c::r=>decide ((c::r).length<=30)&&(q23 c&&(c::r).all q14)
def wMin:B:=[109,105,110]
def wMax:B:=[109,97,120]
def q2k(s:B):Bool:=q0w s&&(!decide (s=wMin) && !decide (s=wMax))
namespace Fm
def parts:Fm->Nat
 | .num _ _=>1
 | .name _=>1
 | .op _ a b=>1+a.parts+b.parts
def depth:Fm->Nat
 | .num _ _=>1
 | .name _=>1
 | .op _ a b=>max a.depth b.depth+1
def sound:Fm->Bool
 | .num n d=>q2h n d
 | .name s=>q2k s
 | .op _ a b=>a.sound&&b.sound
def names:Fm->List B
 | .num _ _=>[]
 | .name s=>[s]
 | .op _ a b=>a.names++b.names
def right(e:Fm):Bool:=e.sound&&(decide (e.parts<=60)&&decide (e.depth<=12))
def namesR(e:Fm):List B:=if e.right then e.names else []
end Fm
theorem qpf{l:List B}{s c:B}:c∈addB l s ↔ c∈l\/c=s:=by
 unfold addB
 grind
end Dp
namespace Pw
open Go
def encB(s:List UInt8):List Value:=[.string (ofL s)]
@[simp] theorem qfn(s:List UInt8):(encB s).length=1:=rfl
theorem qbj(s:List UInt8):∀v∈encB s,okC v=true:=by intro v hv;simp[encB]at hv;subst hv;rfl
theorem qlx{a b:List UInt8}:ofL a=ofL b ↔ a=b:=⟨fun h=>by have:=congrArg bl h;simpa using this,fun h=>by rw[h]⟩
theorem q0c(a b:List UInt8):decide (ofL a=ofL b)=decide (a=b):=by rw[decide_eq_decide];exact qlx
theorem ofL_app(a b:List UInt8):ofL a++ofL b=ofL (a++b):=q7b ud
theorem q0u(l:List UInt8):(ofL l).size=l.length:=by rw[←qlo,q28]
def encI(n:Int):List Value:=[.int .i64 n]
@[simp] theorem qfo(n:Int):(encI n).length=1:=rfl
def encZ(s:Sl):List Value:=[.slice s.p s.l s.c]
@[simp] theorem qfp(s:Sl):(encZ s).length=1:=rfl
def encL(x:Int×Int):List Value:=[.int .i64 x.1,.int .i64 x.2]
@[simp] theorem q8j(x:Int×Int):(encL x).length=2:=rfl
def encC(x:Dp.Cr):List Value:=[.string (ofL x.name),.int .i64 x.kind,.int .i64 x.low,.int .i64 x.high,.bool x.less]
@[simp] theorem q8k(x:Dp.Cr):(encC x).length=5:=rfl
section
variable{w:World}{s:Sl}{i:Int}
theorem Vw.go{α:Type}{n:Nat}{enc:α->List Value}{l:List α}{K:Addr->Prop}(hn:∀a,(enc a).length=n)(hn0:0<n)(h:Vw n enc w s l)(i':Nat)(hi:i=(i':Int))(h1:i'<l.length)
  (hK:∀a:Addr,(∀k v,(enc l[i'])[k]?=some v->w.cell? ((a.add (i.toNat*n)).add k)=some v)->K a):nz s.p fun a=>(0<=i/\i<(s.l:Nat))/\K a:=by
 subst hi
 obtain⟨ad,hp,hc⟩:=h.at hn (List.getElem?_eq_getElem h1) hn0
 have hl:=h.len
 simp_all
theorem ldB{l:List (List UInt8)}{K:ByteArray->Prop}(h:Vw 1 encB w s l)(i':Nat)(hi:i=(i':Int))(h1:i'<l.length)(hK:K (ofL l[i'])) :
  nz s.p fun a=>(0<=i/\i<(s.l:Nat))/\∃x:ByteArray,w.cell? (a.add (i.toNat*1))=some (Value.string x)/\K x:=
 Vw.go qfn od h i' hi h1 fun _ hc=>⟨_,hc 0 _ rfl,hK⟩
theorem ldI{l:List Int}{K:Int->Prop}(h:Vw 1 encI w s l)(i':Nat)(hi:i=(i':Int))(h1:i'<l.length)(hK:K l[i']) :
  nz s.p fun a=>(0<=i/\i<(s.l:Nat))/\∃x:Int,w.cell? (a.add (i.toNat*1))=some (Value.int .i64 x)/\K x:=
 Vw.go qfo od h i' hi h1 fun _ hc=>⟨_,hc 0 _ rfl,hK⟩
theorem ldZ{l:List Sl}{K:Sl->Prop}(h:Vw 1 encZ w s l)(i':Nat)(hi:i=(i':Int))(h1:i'<l.length)(hK:K l[i']) :
  nz s.p fun a=>(0<=i/\i<(s.l:Nat))/\∃x:Sl,w.cell? (a.add (i.toNat*1))=some (Value.slice x.p x.l x.c)/\K x:=
 Vw.go qfp od h i' hi h1 fun _ hc=>⟨_,hc 0 _ rfl,hK⟩
theorem ldL{l:List (Int×Int)}{K:Int->Int->Prop}(h:Vw 2 encL w s l)(i':Nat)(hi:i=(i':Int))(h1:i'<l.length)(hK:K l[i'].1 l[i'].2) :
  nz s.p fun a=>(0<=i/\i<(s.l:Nat))/\∃x:Int,w.cell? (a.add (i.toNat*2))=some (Value.int .i64 x)/\∃y:Int,w.cell? ((a.add (i.toNat*2)).add 1)=some (Value.int .i64 y)/\K x y:=
 Vw.go q8j od h i' hi h1 fun _ hc=>⟨_,hc 0 _ rfl,_,hc 1 _ rfl,hK⟩
theorem ldCr{l:List Dp.Cr}{K:ByteArray->Int->Int->Int->Bool->Prop}(h:Vw 5 encC w s l)(i':Nat)(hi:i=(i':Int))(h1:i'<l.length)(hK:K (ofL l[i'].name) l[i'].kind l[i'].low l[i'].high l[i'].less) :
  nz s.p fun a=>(0<=i/\i<(s.l:Nat))/\∃x:ByteArray,w.cell? (a.add (i.toNat*5))=some (Value.string x)/\∃y:Int,w.cell? ((a.add (i.toNat*5)).add 1)=some (Value.int .i64 y)/\∃z:Int,w.cell? ((a.add (i.toNat*5)).add 2)=some (Value.int .i64 z) /\
   ∃u:Int,w.cell? ((a.add (i.toNat*5)).add 3)=some (Value.int .i64 u)/\∃v:Bool,w.cell? ((a.add (i.toNat*5)).add 4)=some (Value.bool v)/\K x y z u v:=
 Vw.go q8k od h i' hi h1 fun _ hc=>⟨_,hc 0 _ rfl,_,hc 1 _ rfl,_,hc 2 _ rfl,_,hc 3 _ rfl,_,hc 4 _ rfl,hK⟩
end
def Ix{α:Type}(p:α->Bool)(l:List α)(r:Int):Prop:=
 (r=-1/\∀x∈l,p x=false)\/∃i,∃h:i<l.length,r=(i:Int)/\p l[i]=true/\∀j (hj:j<i),p (l[j]'oo)=false
theorem Ix.ge{α:Type}{p:α->Bool}{l:List α}{r:Int}(h:Ix p l r):decide (r>=0)=l.any p:=by
 rcases h with⟨rfl,h⟩|⟨i,hi,rfl,h,_⟩
 ·grind
 ·grind
theorem Ix.find{α:Type}{p:α->Bool}{l:List α}{r:Int}(h:Ix p l r)(hr:¬r<0):∃i,∃hi:i<l.length,r=(i:Int)/\l.find? p=some l[i]:=by
 rcases h with⟨rfl,_⟩|⟨i,hi,rfl,h,h'⟩
 ·omega
 ·refine⟨i,hi,rfl,List.find?_eq_some_iff_getElem.2 ⟨h,i,hi,rfl,fun j hj=>by simp[h' j hj]⟩⟩
theorem Ix.none{α:Type}{p:α->Bool}{l:List α}{r:Int}(h:Ix p l r)(hr:r<0):l.find? p=none:=by
 rcases h with⟨rfl,h⟩|⟨i,hi,rfl,_,_⟩
 ·grind
 ·omega
theorem Fr.f0{F:Nat->Prop}{w w':World}(h:Fr F0 w w'):Fr F w w':=h.mono fun _ h=>h.elim
theorem Fr.t{w w' w2:World}(h:Fr F0 w w')(h':Fr F0 w' w2):Fr F0 w w2:=Fr0.t h h'
theorem Fr.tF{F:Nat->Prop}{w w' w2:World}(h:Fr F w w')(h':Fr F0 w' w2):Fr F w w2:=h.trans h' fun _ h _=>h.elim
end Pw
namespace Go.Proofs.YtmfkimnmklnppaaGreatDoor
open Go Pw Dp
def Dcs(F:Nat->Prop)(f:Value)(w0:World)(vs:List Value)(r:Bool):Prop:=
 ∀(u:World) (K:VW),Fr F w0 u->(∀u',Fr F0 u u'->K (.bool r) u')->q0y Tryz.prog f vs u K
section
variable{w w' w0:World}{s s':Sl}
theorem qje{l:List B}{v:B}{K:Int->World->Prop}(hv:Vw 1 encB w s l)(hl:l.length<2^62)(hK:∀r,Ix (fun x=>decide (v=x)) l r->K r w):z4y_sh s (ofL v) K w:=by
 have el:=hv.len
 refine⟨fi ?_⟩
 refine⟨⟨fun i u=>∃i':Nat,i=i'/\i'<=l.length/\u=w/\∀j (h:j<l.length),j<i'->decide (v=l[j])=false,fun i _=>l.length-i.toNat,⟨0,rfl,oo,rfl,fun j _ h=>oo⟩,?_⟩⟩
 rintro i u ⟨i,rfl,hi,rfl,hb⟩
 refine fi ?_
 refine q00.2 ⟨fun hlt=>?_,fun hge=>?_⟩
 ·have hil:i<l.length:=oo
  refine ldB hv i rfl hil ?_
  rw[q0c]
  refine q00.2 ⟨fun h=>hK _ (.inr ⟨i,hil,rfl,decide_eq_true h,fun j hj=>hb j oo hj⟩),fun h=>⟨q01,⟨⟨rfl,rfl,rfl,trivial⟩,i+1,oo,oo,rfl,fun j hjl hj=>?_⟩,uo⟩⟩
  grind
 ·refine hK _ (.inl ⟨rfl,fun x hx=>?_⟩)
  obtain⟨j,hj,rfl⟩:=J0.1 hx
  grind
theorem any_eq(v:B)(l:List B):l.any (fun x=>decide (v=x))=decide (v∈l):=oz
theorem q1s{l:List B}{v:B}{K:Bool->World->Prop}(hv:Vw 1 encB w s l)(hl:l.length<2^62)(hK:K (decide (v∈l)) w):z3i_sh s (ofL v) K w:=by
 refine⟨qje hv hl fun r hr=>?_⟩
 rw[hr.ge,any_eq]
 exact hK
theorem q4j{l:List (Int×Int)}{f:Value}{p:(Int×Int)->Bool}{K:Int->World->Prop}(hv:Vw 2 encL w s l)(hl:l.length<2^62)(hp:∀x∈l,Dcs F0 f w [.agg #[.int .i64 x.1,.int .i64 x.2]] (p x))(hK:∀r w',Fr F0 w w'->Ix p l r->K r w'):z0d_sh s f K w:=by
 have el:=hv.len
 refine⟨fi ?_⟩
 refine⟨⟨fun i u=>∃i':Nat,i=i'/\i'<=l.length/\Fr F0 w u/\∀j (h:j<l.length),j<i'->p l[j]=false,fun i _=>l.length-i.toNat,⟨0,rfl,oo,Fr.refl,fun j _ h=>oo⟩,?_⟩⟩
 rintro i u ⟨i,rfl,hi,hf,hb⟩
 refine fi ?_
 refine q00.2 ⟨fun hlt=>?_,fun hge=>?_⟩
 ·have hil:i<l.length:=oo
  refine ldL (hv.fr hf) i rfl hil (hp _ (J2 hil) u _ hf fun u' hf'=>⟨_,rfl,?_⟩)
  have hF:=hf.t hf'
  refine q09.2 ⟨fun h=>hK _ _ hF (.inr ⟨i,hil,rfl,h,fun j hj=>hb j oo hj⟩),fun h=>⟨q01,⟨⟨rfl,rfl,rfl,trivial⟩,i+1,oo,oo,hF,fun j hjl hj=>?_⟩,uo⟩⟩
  grind
 ·refine hK _ _ hf (.inl ⟨rfl,fun x hx=>?_⟩)
  obtain⟨j,hj,rfl⟩:=J0.1 hx
  grind
theorem q29{l:List Cr}{f:Value}{p:Cr->Bool}{K:Int->World->Prop}(hv:Vw 5 encC w s l)(hl:l.length<2^62)(hp:∀x∈l,Dcs F0 f w [.agg #[.string (ofL x.name),.int .i64 x.kind,.int .i64 x.low,.int .i64 x.high,.bool x.less]] (p x))(hK:∀r w',Fr F0 w w'->Ix p l r->K r w'):z02_sh s f K w:=by
 have el:=hv.len
 refine⟨fi ?_⟩
 refine⟨⟨fun i u=>∃i':Nat,i=i'/\i'<=l.length/\Fr F0 w u/\∀j (h:j<l.length),j<i'->p l[j]=false,fun i _=>l.length-i.toNat,⟨0,rfl,oo,Fr.refl,fun j _ h=>oo⟩,?_⟩⟩
 rintro i u ⟨i,rfl,hi,hf,hb⟩
 refine fi ?_
 refine q00.2 ⟨fun hlt=>?_,fun hge=>?_⟩
 ·have hil:i<l.length:=oo
  refine ldCr (hv.fr hf) i rfl hil (hp _ (J2 hil) u _ hf fun u' hf'=>⟨_,rfl,?_⟩)
  have hF:=hf.t hf'
  refine q09.2 ⟨fun h=>hK _ _ hF (.inr ⟨i,hil,rfl,h,fun j hj=>hb j oo hj⟩),fun h=>⟨q01,⟨⟨rfl,rfl,rfl,trivial⟩,i+1,oo,oo,hF,fun j hjl hj=>?_⟩,uo⟩⟩
  grind
 ·refine hK _ _ hf (.inl ⟨rfl,fun x hx=>?_⟩)
  obtain⟨j,hj,rfl⟩:=J0.1 hx
  grind
theorem qi3(l:B)(n m:Nat)(h:l.length<=m):(ofL l).extract n m=ofL (l.drop n):=q7b (by rw[qa7,q28,q28,List.take_of_length_le h])
theorem qi4{α:Type}{l m:List α}(h:l.length=m.length)(h':∀j (h1:j<l.length) (h2:j<m.length),l[j]=m[j]):l=m:=List.ext_getElem h fun j h1 h2=>h' j h1 h2
theorem qfq{l m:List B}{K:Bool->World->Prop}(hv:Vw 1 encB w s l)(hv':Vw 1 encB w s' m)(hl:l.length<2^62)(hK:∀w',Fr F0 w w'->K (decide (l=m)) w'):z4x_sh s s' K w:=by
 have el:=hv.len
 have el':=hv'.len
 refine⟨fi ?_⟩
 refine q0r.2 ⟨fun hne=>?_,fun he=>?_⟩
 ·have:decide (l=m)=false:=decide_eq_false fun e=>hne (by rw[el,el',e])
  rw[this]at hK
  exact hK w Fr.refl
 have he:l.length=m.length:=oo
 refine⟨⟨fun i u=>∃i':Nat,i=i'/\i'<=l.length/\Fr F0 w u/\∀j (h:j<l.length) (h':j<m.length),j<i'->l[j]=m[j],fun i _=>l.length-i.toNat,⟨0,rfl,oo,Fr.refl,fun j _ _ h=>oo⟩,?_⟩⟩
 rintro i u ⟨i,rfl,hi,hf,hb⟩
 refine fi ?_
 refine q00.2 ⟨fun hlt=>?_,fun hge=>?_⟩
 ·have hil:i<l.length:=oo
  intro u1
  have hf:Fr F0 w u1:=hf.t Fr.drew
  clear_value u1
  refine ldB (hv.fr hf) i rfl hil (ldB (hv'.fr hf) i rfl oo ?_)
  rw[q0c]
  refine q09.2 ⟨fun h=>?_,fun h=>?_⟩
  ·have:decide (l=m)=false:=decide_eq_false fun e=>oz
   grind
  ·refine⟨q01,⟨⟨rfl,rfl,rfl,trivial⟩,i+1,oo,oo,hf,fun j h1 h2 hj=>?_⟩,uo⟩
   grind
 ·have:decide (l=m)=true:=decide_eq_true (qi4 he fun j h1 h2=>hb j h1 h2 oo)
  grind
theorem qfr{l m:List Int}{K:Bool->World->Prop}(hv:Vw 1 encI w s l)(hv':Vw 1 encI w s' m)(hl:l.length<2^62)(hK:∀w',Fr F0 w w'->K (decide (l=m)) w'):z34_sh s s' K w:=by
 have el:=hv.len
 have el':=hv'.len
 refine⟨fi ?_⟩
 refine q0r.2 ⟨fun hne=>?_,fun he=>?_⟩
 ·have:decide (l=m)=false:=decide_eq_false fun e=>hne (by rw[el,el',e])
  rw[this]at hK
  exact hK w Fr.refl
 have he:l.length=m.length:=oo
 refine⟨⟨fun i u=>∃i':Nat,i=i'/\i'<=l.length/\Fr F0 w u/\∀j (h:j<l.length) (h':j<m.length),j<i'->l[j]=m[j],fun i _=>l.length-i.toNat,⟨0,rfl,oo,Fr.refl,fun j _ _ h=>oo⟩,?_⟩⟩
 rintro i u ⟨i,rfl,hi,hf,hb⟩
 refine fi ?_
 refine q00.2 ⟨fun hlt=>?_,fun hge=>?_⟩
 ·have hil:i<l.length:=oo
  intro u1
  have hf:Fr F0 w u1:=hf.t Fr.drew
  clear_value u1
  refine ldI (hv.fr hf) i rfl hil (ldI (hv'.fr hf) i rfl oo ?_)
  skip
  refine q0r.2 ⟨fun h=>?_,fun h=>?_⟩
  ·have:decide (l=m)=false:=decide_eq_false fun e=>oz
   grind
  ·refine⟨q01,⟨⟨rfl,rfl,rfl,trivial⟩,i+1,oo,oo,hf,fun j h1 h2 hj=>?_⟩,uo⟩
   grind
 ·have:decide (l=m)=true:=decide_eq_true (qi4 he fun j h1 h2=>hb j h1 h2 oo)
  grind
end
open Go Pw
def tabL:List Nat:=[0,1,2,2,3,3,3,3,4,4,4,4,4,4,4,4,5,5,5,5,5,5,5,5,5,5,5,5,5,5,5,5,6,6,6,6,6,6,6,6,6,6,6,6,6,6,6,6,6,6,6,6,6,6,6,6,6,6,6,6,6,6,6,6,7,7,7,7,7,7,7,7,7,7,7,7,7,7,7,7,7,7,7,7,7,7,7,7,7,7,7,7,7,7,7,7,7,7,7,7,7,7,7,7,7,7,7,7,7,7,7,7,7,7,7,7,7,7,7,7,7,7,7,7,7,7,7,7,8,8,8,8,8,8,8,8,8,8,8,8,8,8,8,8,8,8,8,8,8,8,8,8,8,8,8,8,8,8,8,8,8,8,8,8,8,8,8,8,8,8,8,8,8,8,8,8,8,8,8,8,8,8,8,8,8,8,8,8,8,8,8,8,8,8,8,8,8,8,8,8,8,8,8,8,8,8,8,8,8,8,8,8,8,8,8,8,8,8,8,8,8,8,8,8,8,8,8,8,8,8,8,8,8,8,8,8,8,8,8,8,8,8,8,8,8,8,8,8,8,8,8,8,8,8,8,8]
theorem qly:∀x:Fin 256,0<x.val->1<=tabL.getD x.val 0/\tabL.getD x.val 0<=8/\2^(tabL.getD x.val 0-1)<=x.val/\x.val<2^tabL.getD x.val 0:=by decide +kernel
theorem qi5:(str tabL).size=256:=by decide +kernel
theorem qsd(x:Nat)(h:x<256):((str tabL).data.toList.getD x 0).toNat=tabL.getD x 0:=by
 have:∀x:Fin 256,((str tabL).data.toList.getD x.val 0).toNat=tabL.getD x.val 0:=by decide +kernel
 exact this ⟨x,h⟩
section
variable{w:World}
theorem q63{X n x:Nat}{K:Int->World->Prop}(hx:x=X/2^n)(h0:0<x)(h:x<256)(hn:n<=56)(hK:∀r:Nat,1<=r->r<=n+8->2^(r-1)<=X->X<2^r->K r w):z69_k2 x n K w:=by
 obtain⟨t1,t2,t3,t4⟩:=qly ⟨x,h⟩ h0
 have ht:=qsd x h
 have hs:=qi5
 simp only at t1 t2 t3 t4
 refine⟨fi ?_⟩
 have e:((x:Int)).toNat=x:=oo
 rw[e]
 refine @cast (inR .u8 (x:Int)/\(0<=(x:Int)/\(x:Int)<(((str tabL).size:Nat):Int))/\inR .i64 ((((str tabL).data.toList.getD x 0).toNat:Nat):Int)/\inR .i64 ((n:Int)+((((str tabL).data.toList.getD x 0).toNat:Nat):Int))/\K ((n:Int)+((((str tabL).data.toList.getD x 0).toNat:Nat):Int)) w) _ (by kernel_rfl) ?_
 rw[ht,hs]
 generalize tabL.getD x 0=t at *
 refine⟨?_,⟨oo,oo⟩,q01,q01,?_⟩
 ·unfold inR IntKind.wrap
  simp[IntKind.bits,IntKind.signed]
  omega
 ·have:=hK (n+t) oo oo ?_ ?_
  ·grind
  ·rw[hx,Nat.le_div_iff_mul_le (Jj _),←Jl]at t3
   rw[show n+t-1=t-1+n by omega]
   exact t3
  ·rw[hx,Nat.div_lt_iff_lt_mul (Jj _),←Jl]at t4
   grind
theorem qjf{x:Nat}{K:Int->World->Prop}(h0:0<x)(h:x<18446744073709551616)(hK:∀r:Nat,1<=r->r<=64->2^(r-1)<=x->x<2^r->K r w):z69_sh x K w:=by
 have fd:∀(a k:Nat),k<=64->Int.fdiv (a:Int) (2^(min k (IntKind.bits .u64)))=((a/2^k:Nat):Int):=fun a k hk=>by
  have:=shrN a k hk
  simpa using this
 have s1:∀ {n y:Nat},n<=48->y=x/2^n->0<y->y<65536->z69_k1 (y:Int) (n:Int) K w:=by
  intro n y hn hy hy0 hyl
  refine⟨fi ?_⟩
  rw[q00]
  constructor
  ·intro hc
   refine⟨oo,q01,?_⟩
   rw[fd y 8 oo]
   have e:(n:Int)+8=((n+8:Nat):Int):=oo
   rw[e]
   refine q63 (X:=x) (by rw[hy,Jn,←Jl]) oo oo oo fun r h1 h2 h3 h4=>hK r h1 oo h3 h4
  ·intro hc
   exact q63 (X:=x) hy hy0 oo oo fun r h1 h2 h3 h4=>hK r h1 oo h3 h4
 have s0:∀ {n y:Nat},n<=32->y=x/2^n->0<y->y<4294967296->z69_k0 (y:Int) (n:Int) K w:=by
  intro n y hn hy hy0 hyl
  refine⟨fi ?_⟩
  rw[q00]
  constructor
  ·intro hc
   refine⟨oo,q01,?_⟩
   rw[fd y 16 oo]
   have e:(n:Int)+16=((n+16:Nat):Int):=oo
   rw[e]
   exact s1 oo (by rw[hy,Jn,←Jl]) oo oo
  ·intro hc
   exact s1 oo hy hy0 oo
 refine⟨fi ?_⟩
 rw[q00]
 constructor
 ·intro hc
  refine⟨oo,?_⟩
  rw[fd x 32 oo]
  exact s0 (n:=32) oo rfl oo oo
 ·intro hc
  exact s0 (n:=0) oo og oo oo
theorem q5h{x:Nat}{K:Int->World->Prop}(h0:0<x)(h:x<18446744073709551616)(hK:∀s:Nat,s<=63->9223372036854775808<=x*2^s->x*2^s<18446744073709551616->K s w):z0w_sh x K w:=by
 refine⟨qjf h0 h fun r h1 h2 h3 h4=>⟨q01,?_⟩⟩
 have e:(64:Int)-(r:Int)=((64-r:Nat):Int):=oo
 rw[e]
 refine hK (64-r) oo ?_ ?_
 ·have:2^(r-1)*2^(64-r)<=x*2^(64-r):=Nat.mul_le_mul_right _ h3
  rw[←Jl,show r-1+(64-r)=63 by omega]at this
  exact this
 ·have:x*2^(64-r)<2^r*2^(64-r):=Nat.mul_lt_mul_of_pos_right h4 (Jj _)
  rw[←Jl,show r+(64-r)=64 by omega]at this
  exact this
theorem qjg{x y:Nat}{K:Int->Int->World->Prop}(hx:x<18446744073709551616)(hy:y<18446744073709551616)
  (hK:K ((x*y/18446744073709551616:Nat):Int) ((x*y%18446744073709551616:Nat):Int) w):z6a_sh x y K w:=by
 obtain⟨bd,bt,bw,hhi⟩:=Lib.mul64_hi x y hx hy
 have ba:=Lib.half_mul_le (a:=x/4294967296) (b:=y/4294967296) oo oo
 have bb:=Lib.half_mul_le (a:=x/4294967296) (b:=y%4294967296) oo oo
 have bc:=Lib.half_mul_le (a:=x%4294967296) (b:=y/4294967296) oo oo
 refine⟨fi ?_⟩
 refine⟨oo,oo,oo,oo,oo,?_⟩
 simp only[shr32,qlq x hx,qlq y hy,mulN,addN,wu64,q7c]
 generalize hA:x/4294967296*(y/4294967296)=A at *
 generalize hB:x/4294967296*(y%4294967296)=B at *
 generalize hC:x%4294967296*(y/4294967296)=C at *
 generalize hD:x%4294967296*(y%4294967296)=D at *
 have e1:D%18446744073709551616=D:=Jc bd
 have e2:B%18446744073709551616=B:=Jc oo
 have e3:C%18446744073709551616=C:=Jc oo
 have e4:A%18446744073709551616=A:=Jc oo
 have e5:(B+D/4294967296)%18446744073709551616=B+D/4294967296:=Jc bt
 simp only[e1,e2,e3,e4,e5,qlq _ bt,q7c]
 generalize x*y=P at *
 have h1:((A+(B+D/4294967296)/4294967296)%18446744073709551616+((B+D/4294967296)%4294967296+C)%18446744073709551616/4294967296)%18446744073709551616=P/18446744073709551616:=oo
 grind
end
section
variable{w:World}
theorem q64{Y s d0 q1 u2 q0:Nat}{K:Int->Int->World->Prop}(hs:s<=64)(hY:Y<18446744073709551616)(h1:q0*Y<=u2*4294967296+d0)(h2:u2*4294967296+d0<(q0+1)*Y)(hu:u2<Y)(hd:d0<4294967296)(hq1:q1<4294967296)
  (hK:∀R:Nat,u2*4294967296+d0=q0*Y+R->R<Y->K ((q1*4294967296+q0:Nat):Int) ((R/2^s:Nat):Int) w):z67_k5 Y s d0 q1 u2 q0 K w:=by
 have hlt:=kn_lt h1 hu hd
 rw[Ju,Jv]at h2
 obtain⟨R,hR⟩:∃R,u2*4294967296+d0=q0*Y+R:=⟨u2*4294967296+d0-q0*Y,oo⟩
 have hRY:R<Y:=oo
 refine⟨oo,?_⟩
 rw[qls hR oo,shrN _ _ hs]
 have e:IntKind.wrap .u64 (IntKind.wrap .u64 ((q1:Int)*4294967296)+(q0:Int))=((q1*4294967296+q0:Nat):Int):=by
  rw[q22 (n:=(q1:Int)*4294967296) oo oo,q22 oo oo]
  omega
 grind
theorem qbk{Y s y1 y0 d0 q1 u2:Nat}{K:Int->Int->World->Prop}(hs:s<=64)(hYe:Y=y1*4294967296+y0)(hy0:y0<4294967296)(hy1:2147483648<=y1)(hy1':y1<4294967296)(hu:u2<Y)(hd:d0<4294967296)(hq1:q1<4294967296)
  (hK:∀q0 R:Nat,u2*4294967296+d0=q0*Y+R->R<Y->K ((q1*4294967296+q0:Nat):Int) ((R/2^s:Nat):Int) w):z67_l3 Y s y1 y0 d0 q1 ((u2%y1:Nat):Int) u2 ((u2/y1:Nat):Int) K w:=by
 have hY:Y<18446744073709551616:=oo
 refine⟨⟨fun rh q w'=>∃q' r':Nat,rh=r'/\q=q'/\q'*y1+r'=u2/\r'<4294967296/\q'<=4294967297/\u2*4294967296+d0<(q'+1)*Y/\w'=w,fun _ q _=>q.toNat,⟨u2/y1,u2%y1,rfl,rfl,?_,?_,qhx hYe hy0 hy1 hu,qhy hYe oo hd,rfl⟩,?_⟩⟩
 ·have:=Jk u2 y1
  grind
 ·have:=Jg u2 (show 0<y1 by omega)
  omega
 ·rintro rh q w1 ⟨q,r,rfl,rfl,hqr,hr,hq,hN,rfl⟩
  have hgo:u2*4294967296+d0<q*Y->z67_k4 Y s y1 y0 d0 q1 r u2 q (fun(y_2':Int) (s_8':Int) (yn1_9':Int) (yn0_10':Int) (un0_14':Int) (q1_15':Int) (rhat_16':Int) (un21_17':Int) (q0_18':Int) (w':World)=>((y_2'=(Y:Int)/\s_8'=(s:Int)/\yn1_9'=(y1:Int)/\yn0_10'=(y0:Int)/\un0_14'=(d0:Int)/\q1_15'=(q1:Int)/\un21_17'=(u2:Int)/\True)/\(∃q' r':Nat,rhat_16'=r'/\q0_18'=q'/\q'*y1+r'=u2/\r'<4294967296/\q'<=4294967297/\u2*4294967296+d0<(q'+1)*Y/\w'=w1))/\q0_18'.toNat<(q:Int).toNat) K w1:=by
   intro hlt
   have hq0:0<q:=oz
   obtain⟨p,rfl⟩:∃p,q=p+1:=⟨q-1,oo⟩
   have e1:IntKind.wrap .u64 (((p+1:Nat):Int)-1)=(p:Int):=by rw[q22 oo oo];omega
   have e2:IntKind.wrap .u64 ((r:Int)+(y1:Int))=((r+y1:Nat):Int):=by rw[q22 oo oo];omega
   have hpr:p*y1+(r+y1)=u2:=oz
   refine⟨fi ?_⟩
   rw[e1,e2,q00]
   constructor
   ·intro hb
    exact q64 hs hY (qhw hYe hy0 hpr oo oo) hlt hu hd hq1 (hK p)
   ·intro hb
    exact⟨⟨⟨rfl,rfl,rfl,rfl,rfl,rfl,rfl,trivial⟩,p,r+y1,rfl,rfl,hpr,oo,oo,hlt,rfl⟩,oo⟩
  refine fi ?_
  rw[q00]
  constructor
  ·intro hc
   exact hgo (qpb hYe hqr hu hd (.inl oo))
  ·intro hc
   have hqlt:q<4294967296:=oo
   have hprod:q*y0<=4294967295*4294967295:=Jm oo oo
   have e3:IntKind.wrap .u64 ((q:Int)*(y0:Int))=((q*y0:Nat):Int):=by
    rw[mulN,wu64,Jc oo]
   have e4:IntKind.wrap .u64 (IntKind.wrap .u64 ((4294967296:Int)*(r:Int))+(d0:Int))=((4294967296*r+d0:Nat):Int):=by
    rw[q22 (n:=(4294967296:Int)*(r:Int)) oo oo,q22 oo oo]
    omega
   rw[e3,e4,q00]
   constructor
   ·intro hc2
    exact hgo (qpb hYe hqr hu hd (.inr oo))
   ·intro hc2
    exact q64 hs hY (qfi hYe hqr oo) hN hu hd hq1 (hK q)
theorem q65{Y s y1 y0 u d1 d0 q1:Nat}{K:Int->Int->World->Prop}(hs:s<=64)(hYe:Y=y1*4294967296+y0)(hy0:y0<4294967296)(hy1:2147483648<=y1)(hy1':y1<4294967296)(hu:u<Y)(hd1:d1<4294967296)(hd:d0<4294967296)
  (h1:q1*Y<=u*4294967296+d1) (h2:u*4294967296+d1<(q1+1)*Y)
  (hK:∀R:Nat,(u*18446744073709551616+(d1*4294967296+d0))%Y=R->K (((u*18446744073709551616+(d1*4294967296+d0))/Y:Nat):Int) ((R/2^s:Nat):Int) w):z67_k2 Y s y1 y0 u d1 d0 q1 K w:=by
 have hlt:=kn_lt h1 hu hd1
 rw[Ju,Jv]at h2
 obtain⟨u2,hu2⟩:∃R,u*4294967296+d1=q1*Y+R:=⟨u*4294967296+d1-q1*Y,oo⟩
 have hu2Y:u2<Y:=oo
 refine⟨fi ?_⟩
 rw[qls hu2 oo,q4h]
 have hdm:=Jk u2 y1
 have hle:u2/y1*y1<=u2:=Jp _ _
 have e:IntKind.wrap .u64 ((u2:Int)-IntKind.wrap .u64 (((u2/y1:Nat):Int)*(y1:Int)))=((u2%y1:Nat):Int):=by
  rw[mulN,wu64,Jc oo]
  rw[Jr y1]at hdm
  rw[q22 (n:=(u2:Int)-((u2/y1*y1:Nat):Int)) oo oo]
  omega
 rw[e]
 refine⟨oo,inRu (J3 _) (by have:=Jb u2 y1;omega),?_⟩
 refine qbk hs hYe hy0 hy1 hy1' hu2Y hd hlt fun q0 R hR hRY=>?_
 obtain⟨k1,k2⟩:=kn_two hu2 hR hRY
 grind
theorem qbl{Y s y1 y0 u d1 d0:Nat}{K:Int->Int->World->Prop}(hs:s<=64)(hYe:Y=y1*4294967296+y0)(hy0:y0<4294967296)(hy1:2147483648<=y1)(hy1':y1<4294967296)(hu:u<Y)(hd1:d1<4294967296)(hd:d0<4294967296)
  (hK:∀R:Nat,(u*18446744073709551616+(d1*4294967296+d0))%Y=R->K (((u*18446744073709551616+(d1*4294967296+d0))/Y:Nat):Int) ((R/2^s:Nat):Int) w):z67_l0 Y s y1 y0 u d1 d0 ((u/y1:Nat):Int) ((u%y1:Nat):Int) K w:=by
 have hY:Y<18446744073709551616:=oo
 refine⟨⟨fun q rh w'=>∃q' r':Nat,rh=r'/\q=q'/\q'*y1+r'=u/\r'<4294967296/\q'<=4294967297/\u*4294967296+d1<(q'+1)*Y/\w'=w,fun q _ _=>q.toNat,⟨u/y1,u%y1,rfl,rfl,?_,?_,qhx hYe hy0 hy1 hu,qhy hYe oo hd1,rfl⟩,?_⟩⟩
 ·have:=Jk u y1
  grind
 ·have:=Jg u (show 0<y1 by omega)
  omega
 ·rintro q rh w1 ⟨q,r,rfl,rfl,hqr,hr,hq,hN,rfl⟩
  have hgo:u*4294967296+d1<q*Y->z67_k1 Y s y1 y0 u d1 d0 q r (fun(y_2':Int) (s_8':Int) (yn1_9':Int) (yn0_10':Int) (un32_11':Int) (un1_13':Int) (un0_14':Int) (q1_15':Int) (rhat_16':Int) (w':World)=>((y_2'=(Y:Int)/\s_8'=(s:Int)/\yn1_9'=(y1:Int)/\yn0_10'=(y0:Int)/\un32_11'=(u:Int)/\un1_13'=(d1:Int)/\un0_14'=(d0:Int)/\True)/\(∃q' r':Nat,rhat_16'=r'/\q1_15'=q'/\q'*y1+r'=u/\r'<4294967296/\q'<=4294967297/\u*4294967296+d1<(q'+1)*Y/\w'=w1))/\q1_15'.toNat<(q:Int).toNat) K w1:=by
   intro hlt
   have hq0:0<q:=oz
   obtain⟨p,rfl⟩:∃p,q=p+1:=⟨q-1,oo⟩
   have e1:IntKind.wrap .u64 (((p+1:Nat):Int)-1)=(p:Int):=by rw[q22 oo oo];omega
   have e2:IntKind.wrap .u64 ((r:Int)+(y1:Int))=((r+y1:Nat):Int):=by rw[q22 oo oo];omega
   have hpr:p*y1+(r+y1)=u:=oz
   refine⟨fi ?_⟩
   rw[e1,e2,q00]
   constructor
   ·intro hb
    exact q65 hs hYe hy0 hy1 hy1' hu hd1 hd (qhw hYe hy0 hpr oo oo) hlt hK
   ·intro hb
    exact⟨⟨⟨rfl,rfl,rfl,rfl,rfl,rfl,rfl,trivial⟩,p,r+y1,rfl,rfl,hpr,oo,oo,hlt,rfl⟩,oo⟩
  refine fi ?_
  rw[q00]
  constructor
  ·intro hc
   exact hgo (qpb hYe hqr hu hd1 (.inl oo))
  ·intro hc
   have hqlt:q<4294967296:=oo
   have hprod:q*y0<=4294967295*4294967295:=Jm oo oo
   have e3:IntKind.wrap .u64 ((q:Int)*(y0:Int))=((q*y0:Nat):Int):=by
    rw[mulN,wu64,Jc oo]
   have e4:IntKind.wrap .u64 (IntKind.wrap .u64 ((4294967296:Int)*(r:Int))+(d1:Int))=((4294967296*r+d1:Nat):Int):=by
    rw[q22 (n:=(4294967296:Int)*(r:Int)) oo oo,q22 oo oo]
    omega
   rw[e3,e4,q00]
   constructor
   ·intro hc2
    exact hgo (qpb hYe hqr hu hd1 (.inr oo))
   ·intro hc2
    exact q65 hs hYe hy0 hy1 hy1' hu hd1 hd (qfi hYe hqr oo) hN hK
end
section
variable{w:World}
theorem qjh{hi lo y:Nat}{K:Int->Int->World->Prop}(hy:hi<y)(hy64:y<18446744073709551616)(hlo:lo<18446744073709551616)
  (hK:∀w',Fr F0 w w'->K (((hi*18446744073709551616+lo)/y:Nat):Int) (((hi*18446744073709551616+lo)%y:Nat):Int) w'):z67_sh hi lo y K w:=by
 refine⟨fi ?_⟩
 rw[q0i]
 refine⟨fun h=>oo,fun _=>?_⟩
 rw[q00]
 refine⟨fun h=>oo,fun _=>?_⟩
 rw[q0i]
 refine⟨fun h=>?_,fun h=>?_⟩
 ·have h0:hi=0:=oo
  subst h0
  have e:0*18446744073709551616+lo=lo:=oo
  rw[e]at hK
  refine⟨oo,?_,oo,?_⟩
  ·rw[q4h]
   exact inRu (J3 _) (by have:=Jb lo y;omega)
  ·exact hK _ Fr.drew
 ·refine q5h oo hy64 fun s hs h1 h2=>?_
  obtain⟨o1,o2,_⟩:=qdb (s:=s) oo hy h2 hlo
  have ew:IntKind.wrap .u64 (s:Int)=(s:Int):=q22 oo oo
  have ew2:IntKind.wrap .u64 ((64:Int)-(s:Int))=((64-s:Nat):Int):=by rw[q22 oo oo];omega
  have hhi:hi*2^s<18446744073709551616:=oz
  have hl2:lo/2^(64-s)<18446744073709551616:=oo
  simp only[ew,ew2,shlN _ s (show s<=64 by omega),shrN _ (64-s) (show 64-s<=64 by omega),Jc h2,Jc hhi,orN _ _ hhi hl2,o1,shr32]
  have hml:lo*2^s%18446744073709551616<18446744073709551616:=Jg _ oo
  generalize hY:y*2^s=Y at *
  generalize hu:hi*2^s+lo/2^(64-s)=u at *
  generalize hd:lo*2^s%18446744073709551616=d at *
  simp only[qt6 Y oo,qt6 d hml,q4h]
  have hdm:=Jk u (Y/4294967296)
  have hle:u/(Y/4294967296)*(Y/4294967296)<=u:=Jp _ _
  have e:IntKind.wrap .u64 ((u:Int)-IntKind.wrap .u64 (((u/(Y/4294967296):Nat):Int)*((Y/4294967296:Nat):Int)))=((u%(Y/4294967296):Nat):Int):=by
   rw[mulN,wu64,Jc oo]
   rw[Jr (Y/4294967296)]at hdm
   rw[q22 (n:=(u:Int)-((u/(Y/4294967296)*(Y/4294967296):Nat):Int)) oo oo]
   omega
  rw[e]
  refine⟨oo,oo,oo,oo,oo,oo,oo,inRu (J3 _) (by have:=Jb u (Y/4294967296);omega),?_⟩
  refine qbl oo oo oo oo oo o2 oo oo fun R hR=>?_
  have ed:d/4294967296*4294967296+d%4294967296=d:=Jo d 4294967296
  have o3:=(qdb (s:=s) oo hy (by rw[hY];exact h2) hlo).2.2
  rw[hu,hd]at o3
  rw[ed]at hR ⊢
  rw[o3]at hR ⊢
  have hp:0<2^s:=Jj s
  rw[←hY]at hR ⊢
  rw[Nat.mul_div_mul_right _ _ hp]
  rw[Nat.mul_mod_mul_right]at hR
  rw[←hR,Nat.mul_div_cancel _ hp]
  exact hK w Fr.refl
end
def I64(n:Int):Prop:=-9223372036854775808<=n/\n<9223372036854775808
section
variable{w:World}
theorem q4k{n:Int}{K:Int->World->Prop}(h:I64 n)(hK:K (n.natAbs:Int) w):z6h_sh n K w:=by
 obtain⟨h1,h2⟩:=h
 refine⟨fi ?_⟩
 rw[q00]
 constructor
 ·intro hn
  have e:IntKind.wrap .u64 ((0:Int)-IntKind.wrap .u64 n)=(n.natAbs:Int):=by
   simp only[qbg]
   omega
  grind
 ·intro hn
  have e:IntKind.wrap .u64 n=(n.natAbs:Int):=by
   simp only[qbg]
   omega
  grind
theorem q51{a b:Nat}{K:Int->World->Prop}(hK:∀w',Fr F0 w w'->K ((Je a b:Nat):Int) w'):z76_sh a b K w:=by
 refine⟨⟨fun x y w'=>∃m n:Nat,x=m/\y=n/\Je m n=Je a b/\Fr F0 w w',fun _ y _=>y.toNat,⟨a,b,rfl,rfl,rfl,Fr.refl⟩,?_⟩⟩
 rintro x y w1 ⟨m,n,rfl,rfl,hg,hf⟩
 refine fi ?_
 rw[q00]
 constructor
 ·intro h
  refine⟨oo,⟨trivial,n,m%n,rfl,rfl,?_,hf.trans (G:=F0) Fr.drew fun b hb _=>hb⟩,?_⟩
  ·rw[←hg,Js n,←Nat.gcd_rec,Js]
  ·rw[qt7]
   have:=Jg m (show 0<n by omega)
   grind
 ·intro h
  simp_all
theorem zero_spec{K:Int->Int->World->Prop}(hK:∀w',Fr F0 w w'->K 0 1 w'):z6i_sh K w:=by
 refine⟨fi ?_⟩
 intro w1
 have m:Mem w w1 _:=Mem.nil.alloc
 clear_value w1
 refine⟨m.wr 0,?_⟩
 intro w2
 have m:Mem w w2 _:=m.set 0
 clear_value w2
 refine⟨m.wr 0,?_⟩
 intro w3
 have m:Mem w w3 _:=m.set 0
 clear_value w3
 exact⟨_,m.ld 0,_,m.ld 0,hK w3 m.1⟩
def Kr(K:Int->Int->Bool->World->Prop)(r:RR)(w:World):Prop:=K r.n r.d r.ok w
theorem qbm{n:Int}(h:I64 n):IntKind.wrap .i64 n=n:=q89 h.1 h.2
theorem q31{w0:World}{l:List (Nat×List Value)}{b:Nat}{x y:Value}{K:Int->Int->Bool->World->Prop}(m:Mem w0 w l)(j:Nat)(hj:l[j]?=some (b,[x,y]))(hK:∀w',Fr F0 w0 w'->K 0 1 false w'):z77_k0 ⟨b,0,none⟩ K w:=by
 refine⟨zero_spec fun w1 hf=>?_⟩
 have m:Mem w0 w1 _:=m.fr hf
 have hlt:j<l.length:=(J1.1 hj).1
 simp -zeta only[q04,Jh]
 refine⟨m.wr j hj rfl,?_⟩
 intro w2
 have m:Mem w0 w2 _:=m.set j hj
 clear_value w2
 refine⟨m.wr j (cs:=[Value.int .i64 0,y]) (by simp[hlt]) rfl,?_⟩
 intro w3
 have m:Mem w0 w3 _:=m.set j (cs:=[Value.int .i64 0,y]) (by simp[hlt])
 clear_value w3
 exact⟨_,m.ld j (cs:=[Value.int .i64 0,Value.int .i64 1]) (by simp[hlt]) rfl,_,m.ld j (cs:=[Value.int .i64 0,Value.int .i64 1]) (by simp[hlt]) rfl,hK w3 m.1⟩
theorem q8l{w0:World}{d:Nat}{num x0 x1:Value}{n:Int}{bd bt:Nat}{l:List (Nat×List Value)}{K:Int->Int->Bool->World->Prop}(m:Mem w0 w l)(jd jt:Nat)(hd:l[jd]?=some (bd,[num,.int .u64 d]))(ht:l[jt]?=some (bt,[x0,x1]))(hlt:d<9223372036854775808)
  (hK:∀w',Fr F0 w0 w'->K n d true w'):z77_k2 ⟨bd,0,none⟩ ⟨bt,0,none⟩ n K w:=by
 refine⟨fi ?_⟩
 have hl:jt<l.length:=(J1.1 ht).1
 simp -zeta only[q04,Jh]
 refine⟨_,m.ld jd hd rfl,m.wr jt ht rfl,?_⟩
 intro w2
 have m:Mem w0 w2 _:=m.set jt ht
 clear_value w2
 refine⟨m.wr jt (cs:=[Value.int .i64 n,x1]) (by simp[hl]) rfl,?_⟩
 intro w3
 have m:Mem w0 w3 _:=m.set jt (cs:=[Value.int .i64 n,x1]) (by simp[hl])
 clear_value w3
 refine⟨_,m.ld jt (cs:=[Value.int .i64 n,Value.int .i64 (IntKind.wrap .i64 d)]) (by simp[hl]) rfl,_,m.ld jt (cs:=[Value.int .i64 n,Value.int .i64 (IntKind.wrap .i64 d)]) (by simp[hl]) rfl,?_⟩
 rw[qbm ⟨oo,oo⟩]
 exact hK w3 m.1
theorem qbn{neg:Bool}{n d:Nat}{K:Int->Int->Bool->World->Prop}(hK:∀w',Fr F0 w w'->Kr K (ratI neg n d) w') :
  z77_sh neg ((n/18446744073709551616:Nat):Int) ((n%18446744073709551616:Nat):Int) ((d/18446744073709551616:Nat):Int) ((d%18446744073709551616:Nat):Int) K w:=by
 have bad:¬(d<9223372036854775808/\(n<9223372036854775808\/n=9223372036854775808/\neg=true))->∀w',Fr F0 w w'->K 0 1 false w':=by
  intro h w' hf
  have:=hK w' hf
  unfold ratI at this
  rw[if_neg h]at this
  exact this
 have good:(d<9223372036854775808/\(n<9223372036854775808\/n=9223372036854775808/\neg=true))->∀w',Fr F0 w w'->K (if neg then -(n:Int)else n) d true w':=by
  intro h w' hf
  have:=hK w' hf
  unfold ratI at this
  rw[if_pos h]at this
  exact this
 have hn1:n/18446744073709551616*18446744073709551616+n%18446744073709551616=n:=Jo _ _
 have hd1:d/18446744073709551616*18446744073709551616+d%18446744073709551616=d:=Jo _ _
 have hn2:n%18446744073709551616<18446744073709551616:=Jg _ oo
 have hd2:d%18446744073709551616<18446744073709551616:=Jg _ oo
 generalize hna:n/18446744073709551616=na at *
 generalize hnb:n%18446744073709551616=nb at *
 generalize hda:d/18446744073709551616=da at *
 generalize hdb:d%18446744073709551616=db at *
 clear hna hnb hda hdb
 refine⟨fi ?_⟩
 intro w1
 have m:Mem w w1 _:=Mem.nil.alloc
 clear_value w1
 intro w2
 have m:Mem w w2 _:=m.alloc
 clear_value w2
 intro w3
 have m:Mem w w3 _:=m.alloc
 clear_value w3
 refine⟨_,m.ld 2,?_⟩
 rw[q00]
 refine⟨fun h=>q31 m 0 rfl (bad oo),fun h1=>?_⟩
 refine⟨_,m.ld 1,?_⟩
 rw[q00]
 refine⟨fun h=>q31 m 0 rfl (bad oo),fun h2=>?_⟩
 have h1':na=0:=oo
 have h2':da=0:=oo
 subst h1'
 subst h2'
 simp only[Nat.zero_mul,Jh]at hn1 hd1
 subst hn1
 subst hd1
 refine⟨_,m.ld 1,?_⟩
 rw[q00]
 refine⟨fun h=>q31 m 0 rfl (bad oo),fun h3=>?_⟩
 refine⟨_,m.ld 2,?_⟩
 rw[q00]
 refine⟨fun h=>q31 m 0 rfl (bad oo),fun h4=>?_⟩
 have k1:(nb<9223372036854775808\/nb=9223372036854775808/\neg=true)->z77_k1 neg ⟨w.heap.size,0,none⟩ ⟨w1.heap.size,0,none⟩ ⟨w2.heap.size,0,none⟩ K w3:=by
  intro hfit
  refine⟨fi ?_⟩
  simp -zeta only[q04,Jh]
  refine⟨_,m.ld 2,?_⟩
  have hg:=good ⟨oo,hfit⟩
  cases neg
  ·rw[q0x]
   refine q8l m 1 0 rfl rfl oo ?_
   rw[qbm ⟨oo,by simp at hfit;omega⟩]
   exact hg
  ·rw[q1c]
   refine q8l m 1 0 rfl rfl oo ?_
   have e:IntKind.wrap .i64 ((0:Int)-IntKind.wrap .i64 (nb:Int))=-(nb:Int):=by
    rcases hfit with hfit|⟨rfl,_⟩
    ·rw[qbm (n:=(nb:Int)) ⟨oo,oo⟩,qbm ⟨oo,oo⟩]
     omega
    ·decide
   grind
 refine⟨_,m.ld 2,?_⟩
 rw[q0i]
 refine⟨fun h=>?_,fun h5=>k1 (.inl oo)⟩
 cases neg
 ·rw[Bool.not_false,q1c]
  exact q31 m 0 rfl (bad oy)
 ·rw[Bool.not_true,q0x]
  grind
end
section
variable{w:World}
theorem q52{n d:Int}{K:Bool->World->Prop}(hn:I64 n)(hd:I64 d)(hK:∀w',Fr F0 w w'->K (decide (q0k n d)) w'):z5l_sh n d K w:=by
 refine⟨fi ?_⟩
 intro w1
 have m:Mem w w1 _:=Mem.nil.alloc
 clear_value w1
 intro w2
 have m:Mem w w2 _:=m.drew
 clear_value w2
 refine⟨fun u=>Rs u _,m.sub 0,?_⟩
 refine⟨_,fun _ h=>h.ld 0,?_⟩
 rw[q00]
 constructor
 ·intro h0
  obtain⟨D,rfl⟩:∃D:Nat,d=D:=⟨d.natAbs,oo⟩
  refine⟨_,fun _ h=>h.ld 0,_,fun _ h=>h.ld 0,?_⟩
  refine⟨inRu oo (by have:=hd.2;omega),q4k hn ⟨m.sub 0,?_⟩⟩
  refine q51 fun w3 hf=>⟨(m.fr hf).sub 0,?_⟩
  have:=hK w3 (m.fr hf).1
  have e2:((((n.natAbs).gcd D:Nat):Int)==1)=decide (q0k n D):=by
   rw[Bool.eq_iff_iff]
   simp only[beq_iff_eq,decide_eq_true_eq]
   unfold q0k
   grind
  grind
 ·intro h0
  have:=hK w2 m.1
  rw[decide_eq_false (fun h=>h0 (by have:=h.1;omega))]at this
  exact this
theorem qdf{n d n' d':Int}{K:Bool->World->Prop}(hn:I64 n)(hd:I64 d)(hn':I64 n')(hd':I64 d')(hK:∀w',Fr F0 w w'->K (decide (q0k n d)&&decide (q0k n' d')) w'):z6g_sh n d n' d' K w:=by
 refine⟨fi ?_⟩
 intro w1
 have m:Mem w w1 _:=Mem.nil.alloc
 clear_value w1
 intro w2
 have m:Mem w w2 _:=m.alloc
 clear_value w2
 refine⟨_,m.ld 1,_,m.ld 1,q52 hn hd fun w3 hf=>?_⟩
 have m:Mem w w3 _:=m.fr hf
 cases hr:decide (q0k n d)
 ·rw[q0x]
  have:=hK w3 m.1
  grind
 ·rw[q1c]
  refine⟨_,m.ld 0,_,m.ld 0,q52 hn' hd' fun w4 hf=>?_⟩
  have:=hK w4 (m.fr hf).1
  grind
theorem qdg{neg:Bool}{n d:Nat}{K:Int->Int->Bool->World->Prop}(hn:n<18446744073709551616)(hd:d<18446744073709551616)(hK:∀w',Fr F0 w w'->Kr K (ratI neg n d) w') :
  z77_sh neg 0 (n:Int) 0 (d:Int) K w:=by
 have:=qbn (neg:=neg) (n:=n) (d:=d) hK
 grind
theorem qfs{neg:Bool}{n d:Nat}{K:Int->Int->Bool->World->Prop}(hn:n<18446744073709551616)(hd:0<d)(hd':d<18446744073709551616)
  (hK:∀w',Fr F0 w w'->Kr K (fitQ (mkRat (sgn neg n) d)) w'):z4t_sh neg n d K w:=by
 have hg:0<Je n d:=Jf n hd
 have b1:=Jb n (Je n d)
 have b2:=Jb d (Je n d)
 have key:∀ng:Bool,ng=(neg&&decide (0<n))->ratI ng (n/Je n d) (d/Je n d)=fitQ (mkRat (sgn neg n) d):=by
  intro ng hng
  rw[q6w ng n d oo]
  have:sgn ng n=sgn neg n:=by
   subst hng
   cases neg
   ·rfl
   ·by_cases h:0<n
    ·simp[h]
    ·have:n=0:=oo
     subst this
     rfl
  rw[this]
 refine⟨fi ?_⟩
 intro w1
 have m:Mem w w1 _:=Mem.nil.alloc
 clear_value w1
 intro w2
 have m:Mem w w2 _:=m.alloc
 clear_value w2
 refine⟨_,m.ld 1,_,m.ld 1,q51 fun w3 hf=>?_⟩
 have m:Mem w w3 _:=m.fr hf
 intro w4
 have m:Mem w w4 _:=m.drew
 clear_value w4
 refine⟨fun u=>Rs u _,m.sub 0,?_⟩
 refine⟨_,fun _ h=>h.ld 1,_,fun _ h=>h.ld 1,?_⟩
 have q1:inR .u64 (J8 (n:Int) ((Je n d:Nat):Int)):=by
  rw[q4h];exact inRu (J3 _) oo
 have q2:inR .u64 (J8 (d:Int) ((Je n d:Nat):Int)):=by
  rw[q4h];exact inRu (J3 _) oo
 refine⟨oo,q1,_,fun _ h=>h.ld 1,oo,q2,?_⟩
 simp -zeta only[q4h]
 cases neg
 ·rw[q0x]
  refine qdg oo oo fun w5 hf=>?_
  have m:Mem w w5 _:=m.fr hf
  refine⟨m.sub 0,q3x m 0 rfl fun w6 hf6=>?_⟩
  have:=hK w6 hf6
  rw[←key false og]at this
  exact this
 ·rw[q1c]
  refine⟨_,fun _ h=>h.ld 1,?_⟩
  refine qdg oo oo fun w5 hf=>?_
  have m:Mem w w5 _:=m.fr hf
  refine⟨m.sub 0,q3x m 0 rfl fun w6 hf6=>?_⟩
  have:=hK w6 hf6
  rw[←key (decide ((n:Int)>0)) og]at this
  exact this
theorem qlz{n d:Int}{K:Int->Int->Bool->World->Prop}(hn:I64 n)(hd:I64 d)
  (hK:∀w',Fr F0 w w'->Kr K (if d=0 then zr else fitQ (Rat.divInt n d)) w'):z6f_sh n d K w:=by
 refine⟨fi ?_⟩
 intro w1
 have m:Mem w w1 _:=Mem.nil.alloc
 clear_value w1
 rw[q0i]
 constructor
 ·intro h0
  rw[if_pos h0]at hK
  exact zero_spec fun w2 hf=>q3x (m.fr hf) 0 rfl fun w3 hf3=>hK w3 hf3
 ·intro h0
  rw[if_neg h0]at hK
  refine q4k hn (q4k hd (qfs (by have:=hn.1;have:=hn.2;omega) oo (by have:=hd.1;have:=hd.2;omega) fun w2 hf=>q3x (m.fr hf) 0 rfl fun w3 hf3=>?_))
  have:=hK w3 hf3
  have e:mkRat (sgn (!((decide (n<0))==(decide (d<0)))) n.natAbs) d.natAbs=Rat.divInt n d:=by
   rcases J5 d 0 with hneg|hpos
   ·have e1:Rat.divInt n d=Rat.divInt (-n) (-d):=(Rat.neg_divInt_neg n d).symm
    have e2:-d=((d.natAbs:Nat):Int):=oo
    rw[e1,e2,Rat.divInt_ofNat]
    congr 1
    rcases J5 n 0 with h|h
    ·simp[sgn,h,hneg];omega
    ·have h':¬n<0:=oo
     simp[sgn,h',hneg];omega
   ·have e2:d=((d.natAbs:Nat):Int):=oo
    have hd':¬d<0:=oo
    conv=>rhs;rw[e2]
    rw[Rat.divInt_ofNat]
    congr 1
    rcases J5 n 0 with h|h
    ·simp[sgn,h,hd'];omega
    ·have h':¬n<0:=oo
     simp[sgn,h',hd'];omega
  rw[←e]at this
  exact this
end
section
variable{w:World}
theorem qbo{n d:Int}{K:Bool->Int->Int->World->Prop}(hn:I64 n)(hd:I64 d)(hK:∀w',Fr F0 w w'->K (decide (n<0)) n.natAbs d.natAbs w'):z7f_sh n d K w:=by
 refine⟨fi ?_⟩
 intro w1
 have m:Mem w w1 _:=Mem.nil.alloc
 clear_value w1
 intro w2
 have m:Mem w w2 _:=m.alloc
 clear_value w2
 intro w3
 have m:Mem w w3 _:=m.drew
 clear_value w3
 refine⟨fun u=>Rs u _,m.sub 0,_,fun _ h=>h.ld 1,_,fun _ h=>h.ld 1,_,fun _ h=>h.ld 1,q4k hn ⟨m.sub 0,q4k hd ⟨m.sub 0,?_⟩⟩⟩
 exact put3 m 0 rfl hK
theorem qft{n:Int}{K:Int->Int->World->Prop}(hK:∀w',Fr F0 w w'->K n 1 w'):z7e_sh n K w:=by
 refine⟨fi ?_⟩
 intro w1
 have m:Mem w w1 _:=Mem.nil.alloc
 clear_value w1
 exact put2 m 0 rfl hK
theorem q1o{x y:Nat}{K:Int->Int->World->Prop}(hx:x<18446744073709551616)(hy:y<18446744073709551616)
  (hK:∀w',Fr F0 w w'->K ((x*y/18446744073709551616:Nat):Int) ((x*y%18446744073709551616:Nat):Int) w'):z48_sh x y K w:=by
 refine⟨fi ?_⟩
 intro w1
 have m:Mem w w1 _:=Mem.nil.alloc
 clear_value w1
 exact qjg hx hy (put2 m 0 rfl hK)
theorem qm0{A B:Nat}{K:Int->Int->World->Prop}(hA:A<170141183460469231731687303715884105728)(hB:B<170141183460469231731687303715884105728)
  (hK:∀w',Fr F0 w w'->K (((A+B)/18446744073709551616:Nat):Int) (((A+B)%18446744073709551616:Nat):Int) w') :
  z3u_sh ((A/18446744073709551616:Nat):Int) ((A%18446744073709551616:Nat):Int) ((B/18446744073709551616:Nat):Int) ((B%18446744073709551616:Nat):Int) K w:=by
 obtain⟨e1,e2⟩:=qsc (M:=18446744073709551616) (A:=A) (B:=B) od
 have a1:A/18446744073709551616<9223372036854775808:=oo
 have b1:B/18446744073709551616<9223372036854775808:=oo
 have a2:A%18446744073709551616<18446744073709551616:=Jg _ od
 have b2:B%18446744073709551616<18446744073709551616:=Jg _ od
 rw[←e1,←e2]at hK
 clear e1 e2 hA hB
 generalize A/18446744073709551616=p at *
 generalize A%18446744073709551616=q at *
 generalize B/18446744073709551616=r at *
 generalize B%18446744073709551616=s at *
 refine⟨fi ?_⟩
 intro w1
 have m:Mem w w1 _:=Mem.nil.alloc
 clear_value w1
 intro w2
 have m:Mem w w2 _:=m.alloc
 clear_value w2
 intro w3
 have m:Mem w w3 _:=m.alloc
 clear_value w3
 refine⟨_,m.ld 2,_,m.ld 1,⟨⟨oo,oo,oo,oo,oo,oo⟩,?_⟩⟩
 refine⟨_,m.ld 2,_,m.ld 1,⟨⟨oo,oo,oo,oo,oo,oo⟩,?_⟩⟩
 have f1:((p:Int)+(r:Int)+((q:Int)+(s:Int)+0)/18446744073709551616)%18446744073709551616=((p+r+(q+s)/18446744073709551616:Nat):Int):=oo
 have f2:((q:Int)+(s:Int)+0)%18446744073709551616=(((q+s)%18446744073709551616:Nat):Int):=oo
 rw[f1,f2]
 exact put2 m 0 rfl hK
theorem qdh{A B:Nat}{K:Int->Int->World->Prop}(hA:A<340282366920938463463374607431768211456)(hB:B<=A)
  (hK:∀w',Fr F0 w w'->K (((A-B)/18446744073709551616:Nat):Int) (((A-B)%18446744073709551616:Nat):Int) w') :
  z3v_sh ((A/18446744073709551616:Nat):Int) ((A%18446744073709551616:Nat):Int) ((B/18446744073709551616:Nat):Int) ((B%18446744073709551616:Nat):Int) K w:=by
 obtain⟨C,rfl⟩:∃C,A=B+C:=⟨A-B,oo⟩
 rw[Nat.add_sub_cancel_left]at hK
 obtain⟨e1,e2⟩:=qsc (M:=18446744073709551616) (A:=B) (B:=C) od
 have a1:(B+C)/18446744073709551616<18446744073709551616:=oo
 rw[←e2]at a1
 have a2:C%18446744073709551616<18446744073709551616:=Jg _ od
 have b2:B%18446744073709551616<18446744073709551616:=Jg _ od
 rw[←e1,←e2]
 clear e1 e2 hA hB
 generalize C/18446744073709551616=p at *
 generalize C%18446744073709551616=q at *
 generalize B/18446744073709551616=r at *
 generalize B%18446744073709551616=s at *
 refine⟨fi ?_⟩
 intro w1
 have m:Mem w w1 _:=Mem.nil.alloc
 clear_value w1
 intro w2
 have m:Mem w w2 _:=m.alloc
 clear_value w2
 intro w3
 have m:Mem w w3 _:=m.alloc
 clear_value w3
 refine⟨_,m.ld 2,_,m.ld 1,⟨⟨oo,oo,oo,oo,oo,oo⟩,?_⟩⟩
 refine⟨_,m.ld 2,_,m.ld 1,⟨⟨oo,oo,oo,oo,?_,?_⟩,?_⟩⟩
 ·split<;>omega
 ·split<;>omega
 have f2:((((s+q)%18446744073709551616:Nat):Int)-(s:Int)-0)%18446744073709551616=(q:Int):=oo
 have f1:(((r+p+(s+q)/18446744073709551616:Nat):Int)-(r:Int)-(if(((s+q)%18446744073709551616:Nat):Int)<(s:Int)+0 then 1 else 0))%18446744073709551616=(p:Int):=by
  split<;>omega
 rw[f1,f2]
 exact put2 m 0 rfl hK
theorem qac{A b:Nat}{K:Int->Int->Int->World->Prop}(hA:A<340282366920938463463374607431768211456)(hb:0<b)(hb':b<18446744073709551616)
  (hK:∀w',Fr F0 w w'->K ((A/b/18446744073709551616:Nat):Int) ((A/b%18446744073709551616:Nat):Int) ((A%b:Nat):Int) w') :
  z3g_sh ((A/18446744073709551616:Nat):Int) ((A%18446744073709551616:Nat):Int) b K w:=by
 obtain⟨e1,e2,e3⟩:=qt9 (M:=18446744073709551616) (A:=A) hb oo
 have a1:A/18446744073709551616<18446744073709551616:=oo
 have a2:A%18446744073709551616<18446744073709551616:=Jg _ od
 rw[e1,e2,e3]at hK
 clear e1 e2 e3 hA
 generalize A/18446744073709551616=p at *
 generalize A%18446744073709551616=q at *
 refine⟨fi ?_⟩
 intro w1
 have m:Mem w w1 _:=Mem.nil.alloc
 clear_value w1
 intro w2
 have m:Mem w w2 _:=m.alloc
 clear_value w2
 intro w3
 have m:Mem w w3 _:=m.drew
 clear_value w3
 have hm:=Jg p hb
 refine⟨_,m.ld 1,oo,?_,_,m.ld 1,oo,_,m.ld 1,?_⟩
 ·rw[q4h]
  exact inRu (J3 _) (by have:=Jb p b;omega)
 ·rw[qt7,q4h]
  refine qjh hm oo a2 fun w4 hf=>?_
  exact put2 (K:=fun a c w=>K a c _ w) (m.fr hf) 0 rfl hK
theorem qm1{x:Int}{K:Bool->World->Prop}(hK:K false w):z2z_sh x K w:=by
 refine⟨fi ?_⟩
 simpa using hK
theorem qm2{x:Int}{K:Bool->World->Prop}(hK:K false w):z6w_sh x K w:=by
 refine⟨fi ?_⟩
 simpa using hK
theorem qdi{x y:Int}{K:Int->World->Prop}(hK:K (cmpI x y) w):z1d_sh x y K w:=by
 refine⟨qm1 (qm1 ?_)⟩
 rw[q0x,q0x,q00]
 unfold cmpI at hK
 refine⟨fun h=>by rw[if_pos h]at hK;exact hK,fun h=>?_⟩
 rw[if_neg h]at hK
 rw[q00]
 grind
theorem q8m{x y:Int}{K:Int->World->Prop}(hK:K (cmpI x y) w):z5c_sh x y K w:=by
 refine⟨qm2 (qm2 ?_)⟩
 rw[q0x,q0x,q00]
 unfold cmpI at hK
 refine⟨fun h=>by rw[if_pos h]at hK;exact hK,fun h=>?_⟩
 rw[if_neg h]at hK
 rw[q00]
 grind
theorem Or_two{b:Nat}{x y:Int}{K:Int->World->Prop}(hx:w.cell? ⟨b,0,none⟩=some (.int .i64 x))(hy:w.cell? ⟨b,1,none⟩=some (.int .i64 y))(hK:K (if x≠0 then x else y) w) :
  z7h_sh (Sl.mk (some (Addr.mk b 0 none)) 2 2) K w:=by
 refine⟨⟨fun i w'=>w'=w/\(i=0\/x=0/\i=1\/x=0/\y=0/\i=2),fun i _=>(2-i).toNat,⟨rfl,.inl rfl⟩,?_⟩⟩
 rintro i w1 ⟨rfl,hi⟩
 refine fi ?_
 rw[q00]
 constructor
 ·intro hlt
  rw[q1j]
  simp only at hlt
  rcases hi with rfl|⟨h0,rfl⟩|⟨_,_,rfl⟩
  ·refine⟨⟨oo,og⟩,x,by simp only[q04];exact hx,?_⟩
   rw[q0r]
   constructor
   ·grind
   ·intro h
    exact⟨q01,⟨⟨rfl,rfl,rfl,trivial⟩,rfl,.inr (.inl ⟨h,oo⟩)⟩,by simp only;omega⟩
  ·refine⟨⟨oo,og⟩,y,by simp only[q04];exact hy,?_⟩
   rw[q0r]
   constructor
   ·grind
   ·intro h
    exact⟨q01,⟨⟨rfl,rfl,rfl,trivial⟩,rfl,.inr (.inr ⟨h0,h,oo⟩)⟩,by simp only;omega⟩
  ·simp at hlt
 ·grind
theorem q7e{A B:Nat}{K:Int->World->Prop}(hK:∀w',Fr F0 w w'->K (cmpI A B) w') :
  z47_sh ((A/18446744073709551616:Nat):Int) ((A%18446744073709551616:Nat):Int) ((B/18446744073709551616:Nat):Int) ((B%18446744073709551616:Nat):Int) K w:=by
 rw[←wd_cmp (M:=18446744073709551616) od]at hK
 generalize((A/18446744073709551616:Nat):Int)=p at *
 generalize((A%18446744073709551616:Nat):Int)=q at *
 generalize((B/18446744073709551616:Nat):Int)=r at *
 generalize((B%18446744073709551616:Nat):Int)=s at *
 refine⟨fi ?_⟩
 intro w1
 have m:Mem w w1 _:=Mem.nil.alloc
 clear_value w1
 intro w2
 have m:Mem w w2 _:=m.alloc
 clear_value w2
 intro w3
 have m:Mem w w3 _:=m.drew
 clear_value w3
 refine⟨fun u=>Rs u _,m.sub 0,_,fun _ h=>h.ld 1,_,fun _ h=>h.ld 0,_,fun _ h=>h.ld 1,_,fun _ h=>h.ld 0,?_⟩
 refine qdi ⟨m.sub 0,qdi ⟨m.sub 0,?_⟩⟩
 intro w4
 have m:Mem w w4 _:=m.alloc
 clear_value w4
 refine⟨m.sub 1,Or_two (m.ld 0) (m.ld 0) ⟨m.sub 1,?_⟩⟩
 exact hK w4 m.1
end
section
variable{w w0:World}
theorem q66{l:List (Nat×List Value)}{b:Nat}{x y:Value}{K:Int->Int->Bool->World->Prop}(m:Mem w0 w l)(j:Nat)(hj:l[j]?=some (b,[x,y]))(hK:∀w',Fr F0 w0 w'->K 0 1 true w'):z5n_k0 ⟨b,0,none⟩ K w:=by
 refine⟨fi ?_⟩
 simp -zeta only[q04,Jh]
 exact zero_spec fun w1 hf=>q3x (m.fr hf) j hj hK
theorem qdj:fitQ 0=⟨0,1,true⟩:=rfl
theorem qad{xs ys:Bool}{xn xd yn yd:Nat}{K:Int->Int->Bool->World->Prop}(hx:Ji xn xd)(hy:Ji yn yd)(hxd:0<xd)(hyd:0<yd)
  (bxn:xn<18446744073709551616) (bxd:xd<18446744073709551616) (byn:yn<18446744073709551616) (byd:yd<18446744073709551616)
  (hK:∀w',Fr F0 w w'->Kr K (fitQ (mkRat (sgn xs xn) xd*mkRat (sgn ys yn) yd)) w'):z5n_sh xs xn xd ys yn yd K w:=by
 have sz:∀s:Bool,sgn s 0=0:=fun s=>by cases s<;>rfl
 refine⟨fi ?_⟩
 intro w1
 have m:Mem w w1 _:=Mem.nil.alloc
 clear_value w1
 intro w2
 have m:Mem w w2 _:=m.alloc
 clear_value w2
 intro w3
 have m:Mem w w3 _:=m.alloc
 clear_value w3
 refine⟨_,m.ld 2,?_⟩
 rw[q0i]
 refine⟨fun h=>?_,fun h1=>?_⟩
 ·have h0:xn=0:=oo
  subst h0
  simp only[sz,Rat.zero_mkRat,Rat.zero_mul,qdj]at hK
  exact q66 m 0 rfl hK
 refine⟨_,m.ld 1,?_⟩
 rw[q0i]
 refine⟨fun h=>?_,fun h2=>?_⟩
 ·have h0:yn=0:=oo
  subst h0
  simp only[sz,Rat.zero_mkRat,Rat.mul_zero,qdj]at hK
  exact q66 m 0 rfl hK
 intro w4
 have m:Mem w w4 _:=m.drew
 clear_value w4
 refine⟨fun u=>Rs u _,m.sub 0,_,fun _ h=>h.ld 2,_,fun _ h=>h.ld 1,_,fun _ h=>h.ld 1,_,fun _ h=>h.ld 2,?_⟩
 refine q51 fun w5 hf=>?_
 have m:Mem w w5 _:=m.fr hf
 refine⟨m.sub 0,q51 fun w6 hf=>?_⟩
 have m:Mem w w6 _:=m.fr hf
 refine⟨m.sub 0,?_⟩
 intro w7
 have m:Mem w w7 _:=m.drew
 clear_value w7
 have hg:0<Je xn yd:=Jf _ hyd
 have hh:0<Je yn xd:=Jf _ hxd
 have i1:xn/Je xn yd<18446744073709551616:=Jd (Jb _ _) bxn
 have i2:yn/Je yn xd<18446744073709551616:=Jd (Jb _ _) byn
 have i3:xd/Je yn xd<18446744073709551616:=Jd (Jb _ _) bxd
 have i4:yd/Je xn yd<18446744073709551616:=Jd (Jb _ _) byd
 have r:∀a b:Nat,a/b<18446744073709551616->inR .u64 (J8 (a:Int) (b:Int)):=fun a b h=>by
  rw[q4h]
  exact inRu (J3 _) oo
 refine⟨fun u=>Rs u _,m.sub 0,_,fun _ h=>h.ld 2,_,fun _ h=>h.ld 1,_,fun _ h=>h.ld 2,oo,r _ _ i1,_,fun _ h=>h.ld 1,oo,r _ _ i2,_,fun _ h=>h.ld 2,oo,r _ _ i3,_,fun _ h=>h.ld 1,oo,r _ _ i4,?_⟩
 simp -zeta only[q4h]
 refine q1o i1 i2 fun w8 hf=>?_
 have m:Mem w w8 _:=m.fr hf
 refine⟨m.sub 0,q1o i3 i4 fun w9 hf=>?_⟩
 have m:Mem w w9 _:=m.fr hf
 refine⟨m.sub 0,qbn fun w10 hf=>?_⟩
 have m:Mem w w10 _:=m.fr hf
 refine⟨m.sub 0,q3x m 0 rfl fun w11 hf=>?_⟩
 have:=hK w11 hf
 rw[←qtb hx hy oo oo]at this
 have e:(!(xs==ys))=(xs != ys):=rfl
 rw[e]
 exact this
theorem q5i{bn b1 b2 bt bx by':Nat}{c1 c2:List Value}{t0 t1:Value}{xs ys s:Bool}{xn xd yn yd g n:Nat}{K:Int->Int->Bool->World->Prop}
  (m:Mem w0 w [(bn,[.int .u64 ((n/18446744073709551616:Nat):Int),.int .u64 ((n%18446744073709551616:Nat):Int)]),(b1,c1),(b2,c2),(bt,[t0,t1]),(by',[.bool ys,.int .u64 yn,.int .u64 yd]),(bx,[.bool xs,.int .u64 xn,.int .u64 xd])])
  (hn:n<340282366920938463463374607431768211456) (hg:0<g) (bg:g<18446744073709551616) (bxd:xd<18446744073709551616) (byd:yd<18446744073709551616)
  (hz:n=0->∀w',Fr F0 w0 w'->K 0 1 true w')
  (hK:∀w',Fr F0 w0 w'->Kr K (ratI s (n/Je g (n%g)) (xd/g*(yd/Je g (n%g)))) w') :
  z78_k1 ⟨bx,0,none⟩ ⟨by',0,none⟩ ⟨bt,0,none⟩ g ⟨bn,0,none⟩ s K w:=by
 refine⟨fi ?_⟩
 simp -zeta only[q04,Jh]
 refine⟨_,m.ld 0,_,m.ld 0,?_⟩
 rw[q09]
 constructor
 ·intro h
  simp only[Bool.and_eq_true,beq_iff_eq,and_true]at h
  have h0:n=0:=oo
  exact zero_spec fun w1 hf=>q3x (m.fr hf) 3 rfl (hz h0)
 ·intro _
  refine⟨_,m.ld 0,_,m.ld 0,qac hn hg bg fun w1 hf=>?_⟩
  have m:Mem w0 w1 _:=m.fr hf
  intro w2
  have m:Mem w0 w2 _:=m.alloc
  clear_value w2
  refine⟨m.wr 0,?_⟩
  intro w3
  have m:Mem w0 w3 _:=m.set 0
  clear_value w3
  refine⟨m.wr 0,?_⟩
  intro w4
  have m:Mem w0 w4 _:=m.set 0
  clear_value w4
  refine q51 fun w5 hf=>?_
  have m:Mem w0 w5 _:=m.fr hf
  have hh:0<Je g (n%g):=Nat.gcd_pos_of_pos_left _ hg
  have bh:Je g (n%g)<18446744073709551616:=Jd (Jq _ hg) bg
  refine⟨_,m.ld 1,_,m.ld 1,qac hn hh bh fun w6 hf=>?_⟩
  have m:Mem w0 w6 _:=m.fr hf
  refine⟨m.wr 1,?_⟩
  intro w7
  have m:Mem w0 w7 _:=m.set 1
  clear_value w7
  refine⟨m.wr 1,?_⟩
  intro w8
  have m:Mem w0 w8 _:=m.set 1
  clear_value w8
  intro w9
  have m:Mem w0 w9 _:=m.drew
  clear_value w9
  have i1:xd/g<18446744073709551616:=Jd (Jb _ _) bxd
  have i2:yd/Je g (n%g)<18446744073709551616:=Jd (Jb _ _) byd
  have r:∀a b:Nat,a/b<18446744073709551616->inR .u64 (J8 (a:Int) (b:Int)):=fun a b h=>by
   rw[q4h]
   exact inRu (J3 _) oo
  refine⟨fun u=>Rs u _,m.sub 0,_,fun _ h=>h.ld 1,_,fun _ h=>h.ld 1,_,fun _ h=>h.ld 6,oo,r _ _ i1,_,fun _ h=>h.ld 5,oo,r _ _ i2,?_⟩
  simp -zeta only[q4h]
  refine q1o i1 i2 fun w10 hf=>?_
  have m:Mem w0 w10 _:=m.fr hf
  refine⟨m.sub 0,qbn fun w11 hf=>?_⟩
  have m:Mem w0 w11 _:=m.fr hf
  exact⟨m.sub 0,q3x m 4 rfl hK⟩
end
section
variable{w w0:World}
theorem q8n{ba bb b1 b2 bt bx by':Nat}{c1 c2:List Value}{t0 t1:Value}{xs ys:Bool}{xn xd yn yd g A B:Nat}{K:Int->Int->Bool->World->Prop}
  (m:Mem w0 w [(b1,c1),(b2,c2),(bt,[t0,t1]),(by',[.bool ys,.int .u64 yn,.int .u64 yd]),(bx,[.bool xs,.int .u64 xn,.int .u64 xd])]) (ja jb:Nat)
  (ha:[(b1,c1),(b2,c2),(bt,[t0,t1]),(by',[.bool ys,.int .u64 yn,.int .u64 yd]),(bx,[.bool xs,.int .u64 xn,.int .u64 xd])][ja]?=some (ba,[.int .u64 ((A/18446744073709551616:Nat):Int),.int .u64 ((A%18446744073709551616:Nat):Int)]))
  (hb:[(b1,c1),(b2,c2),(bt,[t0,t1]),(by',[.bool ys,.int .u64 yn,.int .u64 yd]),(bx,[.bool xs,.int .u64 xn,.int .u64 xd])][jb]?=some (bb,[.int .u64 ((B/18446744073709551616:Nat):Int),.int .u64 ((B%18446744073709551616:Nat):Int)]))
  (hA:A<170141183460469231731687303715884105728) (hB:B<170141183460469231731687303715884105728) (hg:0<g) (bg:g<18446744073709551616) (bxd:xd<18446744073709551616) (byd:yd<18446744073709551616)
  (hK:∀s n,sumS xs ys A B=(s,n)->(n=0->∀w',Fr F0 w0 w'->K 0 1 true w')/\∀w',Fr F0 w0 w'->Kr K (ratI s (n/Je g (n%g)) (xd/g*(yd/Je g (n%g)))) w') :
  z78_k0 ⟨bx,0,none⟩ ⟨by',0,none⟩ ⟨bt,0,none⟩ g ⟨ba,0,none⟩ ⟨bb,0,none⟩ K w:=by
 refine⟨fi ?_⟩
 simp -zeta only[q04,Jh]
 intro w1
 have m:Mem w0 w1 _:=m.alloc
 clear_value w1
 refine⟨_,m.ld 5,_,m.ld 5,_,m.ld 4,?_⟩
 rw[q09]
 constructor
 ·intro h
  have hxy:xs=ys:=by simpa using h
  have hs:sumS xs ys A B=(xs,A+B):=by unfold sumS;rw[if_pos hxy]
  obtain⟨hz,hk⟩:=hK _ _ hs
  refine⟨_,m.ld (ja+1) ha rfl,_,m.ld (ja+1) ha rfl,_,m.ld (jb+1) hb rfl,_,m.ld (jb+1) hb rfl,qm0 hA hB fun w2 hf=>?_⟩
  have m:Mem w0 w2 _:=m.fr hf
  refine⟨m.wr 0,?_⟩
  intro w3
  have m:Mem w0 w3 _:=m.set 0
  clear_value w3
  refine⟨m.wr 0,?_⟩
  intro w4
  have m:Mem w0 w4 _:=m.set 0
  clear_value w4
  exact q5i m oo hg bg bxd byd hz hk
 ·intro h
  have hxy:¬xs=ys:=oz
  refine⟨_,m.ld (ja+1) ha rfl,_,m.ld (ja+1) ha rfl,_,m.ld (jb+1) hb rfl,_,m.ld (jb+1) hb rfl,q7e fun w2 hf=>?_⟩
  have m:Mem w0 w2 _:=m.fr hf
  rw[q00]
  constructor
  ·intro hc
   have hle:B<=A:=by
    unfold cmpI at hc
    omega
   have hs:sumS xs ys A B=(xs,A-B):=by unfold sumS;rw[if_neg hxy,if_pos hle]
   obtain⟨hz,hk⟩:=hK _ _ hs
   refine⟨_,m.ld (ja+1) ha rfl,_,m.ld (ja+1) ha rfl,_,m.ld (jb+1) hb rfl,_,m.ld (jb+1) hb rfl,qdh oo hle fun w3 hf=>?_⟩
   have m:Mem w0 w3 _:=m.fr hf
   refine⟨m.wr 0,?_⟩
   intro w4
   have m:Mem w0 w4 _:=m.set 0
   clear_value w4
   refine⟨m.wr 0,?_⟩
   intro w5
   have m:Mem w0 w5 _:=m.set 0
   clear_value w5
   exact q5i m oo hg bg bxd byd hz hk
  ·intro hc
   have hle:¬B<=A:=by
    intro hle
    apply hc
    unfold cmpI
    omega
   have hs:sumS xs ys A B=(ys,B-A):=by unfold sumS;rw[if_neg hxy,if_neg hle]
   obtain⟨hz,hk⟩:=hK _ _ hs
   intro w3
   have m:Mem w0 w3 _:=m.drew
   clear_value w3
   refine⟨fun u=>u.cell? ⟨bb,0,none⟩=some (.int .u64 ((B/18446744073709551616:Nat):Int))/\u.cell? ⟨bb,1,none⟩=some (.int .u64 ((B%18446744073709551616:Nat):Int))/\u.cell? ⟨ba,0,none⟩=some (.int .u64 ((A/18446744073709551616:Nat):Int))/\u.cell? ⟨ba,1,none⟩=some (.int .u64 ((A%18446744073709551616:Nat):Int))/\u.cell? ⟨by',0,none⟩=some (.bool ys),?_,?_⟩
   ·exact⟨m.ld (jb+1) hb rfl,m.ld (jb+1) hb rfl,m.ld (ja+1) ha rfl,m.ld (ja+1) ha rfl,m.ld 4⟩
   refine⟨_,fun _ h=>h.1,_,fun _ h=>h.2.1,_,fun _ h=>h.2.2.1,_,fun _ h=>h.2.2.2.1,_,fun _ h=>h.2.2.2.2,?_⟩
   refine qdh oo oo fun w4 hf=>?_
   have m:Mem w0 w4 _:=m.fr hf
   refine⟨?_,?_⟩
   ·exact⟨m.ld (jb+1) hb rfl,m.ld (jb+1) hb rfl,m.ld (ja+1) ha rfl,m.ld (ja+1) ha rfl,m.ld 4⟩
   refine⟨m.wr 0,?_⟩
   intro w5
   have m:Mem w0 w5 _:=m.set 0
   clear_value w5
   refine⟨m.wr 0,?_⟩
   intro w6
   have m:Mem w0 w6 _:=m.set 0
   clear_value w6
   refine⟨?_,?_⟩
   ·exact⟨m.ld (jb+1) hb rfl,m.ld (jb+1) hb rfl,m.ld (ja+1) ha rfl,m.ld (ja+1) ha rfl,m.ld 4⟩
   exact q5i m oo hg bg bxd byd hz hk
end
section
variable{w:World}
set_option maxHeartbeats 1000000 in
theorem qi6{xs ys:Bool}{xn xd yn yd:Nat}{K:Int->Int->Bool->World->Prop}(hx:Ji xn xd)(hy:Ji yn yd)(hxd:0<xd)(hyd:0<yd)
  (bxn:xn<=9223372036854775808) (bxd:xd<=9223372036854775808) (byn:yn<=9223372036854775808) (byd:yd<=9223372036854775808)
  (hK:∀w',Fr F0 w w'->Kr K (fitQ (mkRat (sgn xs xn) xd+mkRat (sgn ys yn) yd)) w'):z78_sh xs xn xd ys yn yd K w:=by
 have hg:0<Je xd yd:=Jf _ hyd
 have bg:Je xd yd<18446744073709551616:=by have:=Jq yd hxd;omega
 have l1:yd/Je xd yd<=9223372036854775808:=Jt (Jb _ _) byd
 have l2:xd/Je xd yd<=9223372036854775808:=Jt (Jb _ _) bxd
 have hA:xn*(yd/Je xd yd)<170141183460469231731687303715884105728:=Jd (Jm bxn l1) od
 have hB:yn*(xd/Je xd yd)<170141183460469231731687303715884105728:=Jd (Jm byn l2) od
 have i1:xn<18446744073709551616:=oo
 have i2:yd/Je xd yd<18446744073709551616:=oo
 have i3:yn<18446744073709551616:=oo
 have i4:xd/Je xd yd<18446744073709551616:=oo
 have bxd':xd<18446744073709551616:=oo
 have byd':yd<18446744073709551616:=oo
 have hfin:∀s n,sumS xs ys (xn*(yd/Je xd yd)) (yn*(xd/Je xd yd))=(s,n)->(n=0->∀w',Fr F0 w w'->K 0 1 true w')/\∀w',Fr F0 w w'->Kr K (ratI s (n/Je (Je xd yd) (n%Je xd yd)) (xd/Je xd yd*(yd/Je (Je xd yd) (n%Je xd yd)))) w':=by
  intro s n hs
  obtain⟨h1,h2⟩:=sum_q hx hy oo oo rfl hs
  refine⟨fun h0 w' hf=>?_,fun w' hf=>?_⟩
  ·have:=hK w' hf
   rw[h1 h0]at this
   exact this
  ·grind
 have r:∀a b:Nat,a/b<18446744073709551616->inR .u64 (J8 (a:Int) (b:Int)):=fun a b h=>by
  rw[q4h]
  exact inRu (J3 _) oo
 refine⟨fi ?_⟩
 intro w1
 have m:Mem w w1 _:=Mem.nil.alloc
 clear_value w1
 intro w2
 have m:Mem w w2 _:=m.alloc
 clear_value w2
 intro w3
 have m:Mem w w3 _:=m.alloc
 clear_value w3
 refine⟨_,m.ld 2,_,m.ld 1,q51 fun w4 hf=>?_⟩
 have m:Mem w w4 _:=m.fr hf
 intro w5
 have m:Mem w w5 _:=m.drew
 clear_value w5
 refine⟨fun u=>Rs u _,m.sub 0,_,fun _ h=>h.ld 2,_,fun _ h=>h.ld 1,oo,r _ _ i2,_,fun _ h=>h.ld 1,_,fun _ h=>h.ld 2,oo,r _ _ i4,?_⟩
 simp -zeta only[q4h]
 generalize Je xd yd=g at *
 generalize yd/g=q at *
 repeat' first
  | exact q8n m 0 1 rfl rfl hA hB hg bg bxd' byd' hfin
  | exact q8n m 1 0 rfl rfl hA hB hg bg bxd' byd' hfin
  | refine⟨m.sub 0,?_⟩
  | refine⟨m.sub 1,?_⟩
  | refine⟨m.sub 2,?_⟩
  | refine⟨m.wr 0,?_⟩
  | refine⟨m.wr 1,?_⟩
  | (refine q1o i1 i2 fun w1 hf=>?_;have m:=m.fr hf)
  | (refine q1o i3 i4 fun w1 hf=>?_;have m:=m.fr hf)
  | (intro w1;have m:Mem w w1 _:=m.alloc;clear_value w1)
  | (intro w1;have m:Mem w w1 _:=m.set 0;clear_value w1)
  | (intro w1;have m:Mem w w1 _:=m.set 1;clear_value w1)
  | refine⟨?_,?_⟩
end
section
variable{w:World}
theorem q2l{n d:Int}(h:q0k n d):Ji n.natAbs d.natAbs:=h.2
def fv(s:Bool)(n d:Nat):Value:=.agg #[.bool s,.int .u64 n,.int .u64 d]
def rv(r:RR):Value:=.tuple #[.agg #[.int .i64 r.n,.int .i64 r.d],.bool r.ok]
theorem q3c{n d n' d':Int}{f:Value}{r:RR}{K:Int->Int->Bool->World->Prop}(hn:I64 n)(hd:I64 d)(hn':I64 n')(hd':I64 d')
  (hf:q0k n d->q0k n' d'->∀w1,Fr F0 w w1->q0y Tryz.prog f [fv (decide (n<0)) n.natAbs d.natAbs,fv (decide (n'<0)) n'.natAbs d'.natAbs] w1 fun u w2=>u=rv r/\Fr F0 w1 w2)
  (hK:∀w',Fr F0 w w'->Kr K (if q0k n d/\q0k n' d' then r else zr) w'):z46_sh n d n' d' f K w:=by
 refine⟨fi ?_⟩
 intro w1
 have m:Mem w w1 _:=Mem.nil.alloc
 clear_value w1
 intro w2
 have m:Mem w w2 _:=m.alloc
 clear_value w2
 intro w3
 have m:Mem w w3 _:=m.alloc
 clear_value w3
 refine⟨_,m.ld 2,_,m.ld 2,_,m.ld 1,_,m.ld 1,qdf hn hd hn' hd' fun w4 hf4=>?_⟩
 have m:Mem w w4 _:=m.fr hf4
 by_cases h:q0k n d/\q0k n' d'
 ·rw[if_pos h]at hK
  have e:(!(decide (q0k n d)&&decide (q0k n' d')))=false:=by simp[h.1,h.2]
  rw[e,q0x]
  intro w5
  have m:Mem w w5 _:=m.drew
  clear_value w5
  refine⟨fun u=>Rs u _,m.sub 0,_,fun _ h=>h.ld 2,_,fun _ h=>h.ld 2,_,fun _ h=>h.ld 1,_,fun _ h=>h.ld 1,?_⟩
  refine qbo hn hd fun w6 hf6=>?_
  have m:Mem w w6 _:=m.fr hf6
  refine⟨m.sub 0,qbo hn' hd' fun w7 hf7=>?_⟩
  have m:Mem w w7 _:=m.fr hf7
  refine⟨m.sub 0,?_⟩
  refine(hf h.1 h.2 w7 m.1).mono fun u w8 hu=>?_
  obtain⟨rfl,hf8⟩:=hu
  have m:Mem w w8 _:=m.fr hf8
  exact⟨_,_,_,rfl,m.sub 0,q3x m 0 rfl hK⟩
 ·rw[if_neg h]at hK
  have e:(!(decide (q0k n d)&&decide (q0k n' d')))=true:=oz
  rw[e,q1c]
  exact zero_spec fun w5 hf5=>q3x (m.fr hf5) 0 rfl hK
theorem I64.abs{n:Int}(h:I64 n):n.natAbs<=9223372036854775808:=by have:=h.1;have:=h.2;omega
theorem I64.abs'{n:Int}(h:I64 n):n.natAbs<18446744073709551616:=by have:=h.1;have:=h.2;omega
theorem qpg{n d n' d':Int}{K:Int->Int->Bool->World->Prop}(hn:I64 n)(hd:I64 d)(hn':I64 n')(hd':I64 d')
  (hK:∀w',Fr F0 w w'->Kr K (addQ n d n' d') w'):z71_sh n d n' d' K w:=by
 refine⟨fi ?_⟩
 intro w1
 have m:Mem w w1 _:=Mem.nil.alloc
 clear_value w1
 intro w2
 have m:Mem w w2 _:=m.alloc
 clear_value w2
 intro w3
 have m:Mem w w3 _:=m.alloc
 clear_value w3
 refine⟨_,m.ld 2,_,m.ld 2,_,m.ld 1,_,m.ld 1,?_⟩
 refine q3c (r:=fitQ (val n d+val n' d')) hn hd hn' hd' (fun h h' w4 hf4=>q02 z78_ok ?_) fun w4 hf4=>q3x (m.fr hf4) 0 rfl hK
 refine qi6 (q2l h) (q2l h') (by have:=h.1;omega) (by have:=h'.1;omega) hn.abs hd.abs hn'.abs hd'.abs fun w5 hf5=>?_
 rw[qab h.1,qab h'.1]
 exact⟨rfl,hf5⟩
theorem qph{n d n' d':Int}{K:Int->Int->Bool->World->Prop}(hn:I64 n)(hd:I64 d)(hn':I64 n')(hd':I64 d')
  (hK:∀w',Fr F0 w w'->Kr K (mulQ n d n' d') w'):z73_sh n d n' d' K w:=by
 refine⟨fi ?_⟩
 intro w1
 have m:Mem w w1 _:=Mem.nil.alloc
 clear_value w1
 intro w2
 have m:Mem w w2 _:=m.alloc
 clear_value w2
 intro w3
 have m:Mem w w3 _:=m.alloc
 clear_value w3
 refine⟨_,m.ld 2,_,m.ld 2,_,m.ld 1,_,m.ld 1,?_⟩
 refine q3c (r:=fitQ (val n d*val n' d')) hn hd hn' hd' (fun h h' w4 hf4=>q02 z5n_ok ?_) fun w4 hf4=>q3x (m.fr hf4) 0 rfl hK
 refine qad (q2l h) (q2l h') (by have:=h.1;omega) (by have:=h'.1;omega) hn.abs' hd.abs' hn'.abs' hd'.abs' fun w5 hf5=>?_
 rw[qab h.1,qab h'.1]
 exact⟨rfl,hf5⟩
theorem qm3{xs ys:Bool}{xn xd yn yd:Nat}{K:Int->Int->Bool->World->Prop}(hx:Ji xn xd)(hy:Ji yn yd)(hxd:0<xd)(hyd:0<yd)
  (bxn:xn<=9223372036854775808) (bxd:xd<=9223372036854775808) (byn:yn<=9223372036854775808) (byd:yd<=9223372036854775808)
  (hK:∀w',Fr F0 w w'->Kr K (fitQ (mkRat (sgn xs xn) xd+mkRat (sgn (!ys) yn) yd)) w'):z5m_sh xs xn xd ys yn yd K w:=by
 refine⟨fi ?_⟩
 intro w1
 have m:Mem w w1 _:=Mem.nil.alloc
 clear_value w1
 intro w2
 have m:Mem w w2 _:=m.alloc
 clear_value w2
 intro w3
 have m:Mem w w3 _:=m.alloc
 clear_value w3
 refine⟨_,m.ld 1,m.wr 1,?_⟩
 intro w4
 have m:Mem w w4 _:=m.set 1
 clear_value w4
 refine⟨_,m.ld 2,_,m.ld 2,_,m.ld 2,_,m.ld 1,_,m.ld 1,_,m.ld 1,?_⟩
 exact qi6 hx hy hxd hyd bxn bxd byn byd fun w5 hf5=>q3x (m.fr hf5) 0 rfl hK
theorem qpi{n d n' d':Int}{K:Int->Int->Bool->World->Prop}(hn:I64 n)(hd:I64 d)(hn':I64 n')(hd':I64 d')
  (hK:∀w',Fr F0 w w'->Kr K (subQ n d n' d') w'):z75_sh n d n' d' K w:=by
 refine⟨fi ?_⟩
 intro w1
 have m:Mem w w1 _:=Mem.nil.alloc
 clear_value w1
 intro w2
 have m:Mem w w2 _:=m.alloc
 clear_value w2
 intro w3
 have m:Mem w w3 _:=m.alloc
 clear_value w3
 refine⟨_,m.ld 2,_,m.ld 2,_,m.ld 1,_,m.ld 1,?_⟩
 refine q3c (r:=fitQ (val n d-val n' d')) hn hd hn' hd' (fun h h' w4 hf4=>q02 z5m_ok ?_) fun w4 hf4=>q3x (m.fr hf4) 0 rfl hK
 refine qm3 (q2l h) (q2l h') (by have:=h.1;omega) (by have:=h'.1;omega) hn.abs hd.abs hn'.abs hd'.abs fun w5 hf5=>?_
 rw[qab h.1,qte h'.1,←Rat.sub_eq_add_neg]
 exact⟨rfl,hf5⟩
theorem qm4{xs ys:Bool}{xn xd yn yd:Nat}{b:Nat}{n' y:Int}{K:Int->Int->Bool->World->Prop}(hb:Row w b [.int .i64 n',.int .i64 y])(hyn:n'=0 ↔ yn=0)(hx:Ji xn xd)(hy:Ji yn yd)(hxd:0<xd)
  (bxn:xn<18446744073709551616) (bxd:xd<18446744073709551616) (byn:yn<18446744073709551616) (byd:yd<18446744073709551616)
  (hK:∀w',Fr F0 w w'->Kr K (if n'=0 then zr else fitQ (mkRat (sgn xs xn) xd*mkRat (sgn ys yd) yn)) w'):z5k_sh xs xn xd ys yn yd ⟨b,0,none⟩ K w:=by
 refine⟨fi ?_⟩
 intro w1
 have m:Mem w w1 _:=Mem.nil.alloc
 clear_value w1
 intro w2
 have m:Mem w w2 _:=m.alloc
 clear_value w2
 intro w3
 have m:Mem w w3 _:=m.alloc
 clear_value w3
 have hb3:Row w3 b _:=m.1.row hb fun h=>h
 refine⟨_,hb3.at,?_⟩
 rw[q0i]
 constructor
 ·intro h0
  rw[if_pos h0]at hK
  exact zero_spec fun w4 hf4=>q3x (m.fr hf4) 0 rfl hK
 ·intro h0
  rw[if_neg h0]at hK
  refine⟨_,m.ld 2,_,m.ld 2,_,m.ld 2,_,m.ld 1,_,m.ld 1,_,m.ld 1,?_⟩
  refine qad hx hy.symm hxd oo bxn bxd byd byn fun w5 hf5=>q3x (m.fr hf5) 0 rfl hK
theorem qpj{n d n' d':Int}{K:Int->Int->Bool->World->Prop}(hn:I64 n)(hd:I64 d)(hn':I64 n')(hd':I64 d')
  (hK:∀w',Fr F0 w w'->Kr K (quoQ n d n' d') w'):z74_sh n d n' d' K w:=by
 refine⟨fi ?_⟩
 intro w1
 have m:Mem w w1 _:=Mem.nil.alloc
 clear_value w1
 intro w2
 have m:Mem w w2 _:=m.alloc
 clear_value w2
 intro w3
 have m:Mem w w3 _:=m.alloc
 clear_value w3
 have hrow:Row w3 w1.heap.size [.int .i64 n',.int .i64 d']:=m.2.1 (w1.heap.size,[.int .i64 n',.int .i64 d']) og
 refine⟨_,m.ld 2,_,m.ld 2,_,m.ld 1,_,m.ld 1,?_⟩
 refine q3c (r:=if n'=0 then zr else fitQ (val n d/val n' d')) hn hd hn' hd' (fun h h' w4 hf4=>q02 z5k_ok ?_) fun w4 hf4=>q3x (m.fr hf4) 0 rfl hK
 refine qm4 (hf4.row hrow fun h=>h) oo (q2l h) (q2l h') (by have:=h.1;omega) hn.abs' hd.abs' hn'.abs' hd'.abs' fun w5 hf5=>?_
 rw[qab h.1,qtf h'.1,←Rat.div_def]
 exact⟨rfl,hf5⟩
end
theorem qbp{x y:Int}(h:x<y):cmpI x y=-1:=by unfold cmpI;rw[if_pos h]
theorem qbq{x y:Int}(h:y<x):cmpI x y=1:=by unfold cmpI;rw[if_neg oo,if_pos h]
theorem qm5{x y:Int}(h:x=y):cmpI x y=0:=by unfold cmpI;rw[if_neg oo,if_neg oo]
theorem qpk{x y:Int}:cmpI (-x) (-y)=-cmpI x y:=by
 rcases Int.lt_trichotomy x y with h|h|h
 ·rw[qbp h,qbq oo];rfl
 ·rw[qm5 h,qm5 oo];rfl
 ·rw[qbq h,qbp oo]
theorem qm6{n d n' d':Int}(hd:0<d)(hd':0<d')(h:¬(decide (n<0)=decide (n'<0))):cmpI n n'=cmpI (n*d') (n'*d):=by
 rcases J5 n 0 with h1|h1
 ·have h2:0<=n':=oz
  rw[qbp oo]
  have e1:n*d'<0:=J4 h1 hd'
  have e2:0<=n'*d:=J9 h2 oo
  rw[qbp oo]
 ·have h2:n'<0:=oz
  rw[qbq oo]
  have e1:n'*d<0:=J4 h2 hd
  have e2:0<=n*d':=J9 h1 oo
  rw[qbq oo]
theorem qm7{n d n' d':Int}(hd:0<d)(hd':0<d')(h:decide (n<0)=decide (n'<0)) :
  (if n<0 then -cmpI ((n.natAbs*d'.natAbs:Nat):Int) ((n'.natAbs*d.natAbs:Nat):Int)else cmpI ((n.natAbs*d'.natAbs:Nat):Int) ((n'.natAbs*d.natAbs:Nat):Int))=cmpI (n*d') (n'*d):=by
 have ed:(d.natAbs:Int)=d:=oo
 have ed':(d'.natAbs:Int)=d':=oo
 rw[J6,J6,ed,ed']
 by_cases h1:n<0
 ·have h2:n'<0:=oz
  rw[if_pos h1]
  have e1:(n.natAbs:Int)=-n:=oo
  have e2:(n'.natAbs:Int)=-n':=oo
  rw[e1,e2,Ja,Ja,qpk,Int.neg_neg]
 ·grind
theorem qae(x y:Int):-1<=cmpI x y/\cmpI x y<=1:=by
 unfold cmpI
 omega
section
variable{w w0:World}
theorem q8o{ba bb b1 b2 bx by':Nat}{c1 c2:List Value}{n d n' d':Int}{K:Int->World->Prop}(hn:I64 n)(hd:I64 d)(hn':I64 n')(hd':I64 d')(pd:0<d)(pd':0<d')
  (m:Mem w0 w [(b1,c1),(b2,c2),(bb,[.int .i64 n',.int .i64 d']),(ba,[.int .i64 n,.int .i64 d])]) (jx jy:Nat)
  (hx:[(b1,c1),(b2,c2),(bb,[.int .i64 n',.int .i64 d']),(ba,[.int .i64 n,.int .i64 d])][jx]?=some (bx,[.bool (decide (n<0)),.int .u64 (n.natAbs:Int),.int .u64 (d.natAbs:Int)]))
  (hy:[(b1,c1),(b2,c2),(bb,[.int .i64 n',.int .i64 d']),(ba,[.int .i64 n,.int .i64 d])][jy]?=some (by',[.bool (decide (n'<0)),.int .u64 (n'.natAbs:Int),.int .u64 (d'.natAbs:Int)]))
  (hK:∀w',Fr F0 w0 w'->K (cmpI (n*d') (n'*d)) w'):z72_k0 ⟨ba,0,none⟩ ⟨bb,0,none⟩ ⟨bx,0,none⟩ ⟨by',0,none⟩ K w:=by
 refine⟨fi ?_⟩
 simp -zeta only[q04,Jh]
 refine⟨_,m.ld jx hx rfl,_,m.ld jy hy rfl,?_⟩
 rw[q09]
 constructor
 ·intro h
  refine⟨_,m.ld 3,_,m.ld 2,q8m ?_⟩
  rw[qm6 pd pd' (by simpa using h)]
  exact hK w m.1
 ·intro h
  have hs:decide (n<0)=decide (n'<0):=by simpa using h
  intro w1
  have m:Mem w0 w1 _:=m.drew
  clear_value w1
  refine⟨fun u=>Rs u _,m.sub 0,_,fun _ h=>h.ld jx hx rfl,_,fun _ h=>h.ld jy hy rfl,_,fun _ h=>h.ld jy hy rfl,_,fun _ h=>h.ld jx hx rfl,?_⟩
  refine q1o hn.abs' hd'.abs' fun w2 hf=>?_
  have m:Mem w0 w2 _:=m.fr hf
  refine⟨m.sub 0,q1o hn'.abs' hd.abs' fun w3 hf=>?_⟩
  have m:Mem w0 w3 _:=m.fr hf
  refine⟨m.sub 0,q7e fun w4 hf=>?_⟩
  have m:Mem w0 w4 _:=m.fr hf
  have hr:=qae ((n.natAbs*d'.natAbs:Nat):Int) ((n'.natAbs*d.natAbs:Nat):Int)
  have hc:=qm7 pd pd' hs
  refine⟨m.sub 0,_,m.ld jx hx rfl,?_⟩
  rw[q00]
  constructor
  ·intro h1
   rw[if_pos h1]at hc
   rw[hc]
   have hr2:=qae (n*d') (n'*d)
   exact⟨q01,hK w4 m.1⟩
  ·intro h1
   rw[if_neg h1]at hc
   rw[hc]
   exact hK w4 m.1
set_option maxHeartbeats 1000000 in
theorem q40{n d n' d':Int}{K:Int->World->Prop}(hn:I64 n)(hd:I64 d)(hn':I64 n')(hd':I64 d')
  (hK:∀w',Fr F0 w w'->K (cmpQ n d n' d') w'):z72_sh n d n' d' K w:=by
 unfold cmpQ at hK
 refine⟨fi ?_⟩
 intro w1
 have m:Mem w w1 _:=Mem.nil.alloc
 clear_value w1
 intro w2
 have m:Mem w w2 _:=m.alloc
 clear_value w2
 refine⟨_,m.ld 1,_,m.ld 1,_,m.ld 0,_,m.ld 0,qdf hn hd hn' hd' fun w4 hf4=>?_⟩
 have m:Mem w w4 _:=m.fr hf4
 by_cases h:q0k n d/\q0k n' d'
 ·rw[if_pos h]at hK
  have e:(!(decide (q0k n d)&&decide (q0k n' d')))=false:=by simp[h.1,h.2]
  rw[e,q0x]
  have pd:=h.1.1
  have pd':=h.2.1
  intro w5
  have m:Mem w w5 _:=m.drew
  clear_value w5
  refine⟨fun u=>Rs u _,m.sub 0,_,fun _ h=>h.ld 1,_,fun _ h=>h.ld 1,_,fun _ h=>h.ld 0,_,fun _ h=>h.ld 0,?_⟩
  repeat' first
   | exact q8o hn hd hn' hd' pd pd' m 0 1 rfl rfl hK
   | exact q8o hn hd hn' hd' pd pd' m 1 0 rfl rfl hK
   | refine⟨m.sub 0,?_⟩
   | refine⟨m.sub 1,?_⟩
   | refine⟨m.sub 2,?_⟩
   | refine⟨m.wr 0,?_⟩
   | refine⟨m.wr 1,?_⟩
   | (refine qbo hn hd fun w1 hf=>?_;have m:=m.fr hf)
   | (refine qbo hn' hd' fun w1 hf=>?_;have m:=m.fr hf)
   | (intro w1;have m:Mem w w1 _:=m.alloc;clear_value w1)
   | (intro w1;have m:Mem w w1 _:=m.set 0;clear_value w1)
   | (intro w1;have m:Mem w w1 _:=m.set 1;clear_value w1)
   | refine⟨?_,?_⟩
 ·rw[if_neg h]at hK
  have e:(!(decide (q0k n d)&&decide (q0k n' d')))=true:=oz
  rw[e,q1c]
  exact hK w4 m.1
end
section
variable{w w0:World}
theorem qaf(n:Int){m:Int}(hm:0<m):-m<J7 n m/\J7 n m<m:=by
 have:=Int.natAbs_tmod n m
 have h7:n.natAbs%m.natAbs<m.natAbs:=Jg _ oo
 omega
theorem qpl(n:Int){m:Int}(hm:0<m):J7 (J7 n m+m) m=n%m:=by
 obtain⟨h1,h2⟩:=qaf n hm
 have h3:=Int.tmod_add_mul_tdiv n m
 rw[Int.tmod_eq_emod_of_nonneg oo,Int.add_emod_right]
 conv=>rhs;rw[←h3]
 rw[Int.add_mul_emod_self_left]
theorem q7v{n m:Int}{K:Int->World->Prop}(hm:0<m)(hm2:m<4611686018427387904)(hK:K (n%m) w):z30_sh n m K w:=by
 refine⟨fi ?_⟩
 obtain⟨h1,h2⟩:=qaf n hm
 refine⟨oo,q01,oo,?_⟩
 rw[qpl n hm]
 exact hK
end
end Go.Proofs.YtmfkimnmklnppaaGreatDoor
namespace Dp
open Go Pw
def wNum:B:=[110,117,109]
def opB(o:Fin 6):B:=match o with
 | 0=>[43]
 | 1=>[45]
 | 2=>[42]
 | 3=>[47]
 | 4=>wMin
 | 5=>wMax
end Dp
namespace Go.Proofs.YtmfkimnmklnppaaGreatDoor
open Go Pw Dp
structure XC where
 op:ByteArray
 n:Int
 d:Int
 nm:ByteArray
 a:Sl
def encX(c:XC):List Value:=[.string c.op,.int .i64 c.n,.int .i64 c.d,.string c.nm,.slice c.a.p c.a.l c.a.c]
@[simp] theorem q1p(c:XC):(encX c).length=5:=rfl
def encR(x:Rq):List Value:=[.string (ofL x.name),.string (ofL x.rel),.int .i64 x.val]
@[simp] theorem qfu(x:Rq):(encR x).length=3:=rfl
def XP(w:World):Fm->XC->Prop
 | .num n d,c=>c=⟨ofL wNum,n,d,ofL [],⟨none,0,0⟩⟩/\I64 n/\I64 d
 | .name s,c=>c=⟨ofL q1w,0,0,ofL s,⟨none,0,0⟩⟩/\s.length<=2^20
 | .op o a b,c=>∃ca cb,(c.op=ofL (opB o)/\c.n=0/\c.d=0/\c.nm=ofL [])/\Vw 5 encX w c.a [ca,cb]/\XP w a ca/\XP w b cb
theorem XP.fr{w w':World}(hf:Fr F0 w w'):∀ {e:Fm} {c:XC},XP w e c->XP w' e c
 | .num _ _,_,h=>h
 | .name _,_,h=>h
 | .op _ _ _,_,⟨ca,cb,h1,h2,h3,h4⟩=>⟨ca,cb,h1,h2.fr hf,h3.fr hf,h4.fr hf⟩
def CP(w:World)(s:Sl)(L:List (List Int)):Prop:=
 ∃Z:List Sl,Vw 1 encZ w s Z/\Z.length=L.length/\∀i (h:i<Z.length) (h':i<L.length),Vw 1 encI w Z[i] L[i]
theorem CP.fr{w w':World}{s:Sl}{L:List (List Int)}(h:CP w s L)(hf:Fr F0 w w'):CP w' s L:=
 let⟨Z,h1,h2,h3⟩:=h
 ⟨Z,h1.fr hf,h2,fun i a b=>(h3 i a b).fr hf⟩
structure TP(w:World)(x:T43)(t:Td):Prop where
 name:x.f0=ofL t.name
 lots:Vw 2 encL w x.f1 t.lots
 crit:Vw 5 encC w x.f2 t.crit
 reqs:Vw 3 encR w x.f3 t.reqs
 low:x.f4=t.low
 high:x.f5=t.high
 fm:XP w t.fm ⟨x.f6,x.f7,x.f8,x.f9,x.f10⟩
 ties:Vw 1 encB w x.f11 t.ties
 most:x.f12=t.most
 combos:CP w x.f13 t.combos
 budget:x.f14=t.budget
 t1:x.f15=t.t1
 t2:x.f16=t.t2
 t3:x.f17=t.t3
 t4:x.f18=t.t4
 t5:x.f19=t.t5
theorem TP.fr{w w':World}{x:T43}{t:Td}(h:TP w x t)(hf:Fr F0 w w'):TP w' x t:=
 { h with lots:=h.lots.fr hf,crit:=h.crit.fr hf,reqs:=h.reqs.fr hf,fm:=h.fm.fr hf,ties:=h.ties.fr hf,combos:=h.combos.fr hf }
structure Fit(t:Td):Prop where
 fp:t.fm.parts<=2^30
 name:t.name.length<=2^20
 lots:t.lots.length<=2^20
 crit:t.crit.length<=2^20
 reqs:t.reqs.length<=2^20
 ties:t.ties.length<=2^20
 combos:t.combos.length<=2^20
 lot:∀l∈t.lots,I64 l.1/\I64 l.2
 cr:∀c∈t.crit,c.name.length<=2^20/\I64 c.kind/\I64 c.low/\I64 c.high
 rq:∀r∈t.reqs,r.name.length<=2^20/\r.rel.length<=2^20/\I64 r.val
 tie:∀s∈t.ties,s.length<=2^20
 combo:∀l∈t.combos,l.length<=2^20/\∀i∈l,I64 i
 low:I64 t.low
 high:I64 t.high
 most:I64 t.most
 budget:I64 t.budget
 t1:I64 t.t1
 t2:I64 t.t2
 t3:I64 t.t3
 t4:I64 t.t4
 t5:I64 t.t5
end Go.Proofs.YtmfkimnmklnppaaGreatDoor
namespace Go.Proofs
open Go.Shelf
def Tryz.laysM171_ren:Go.Shelf.Ren:=⟨fun|171=>155|243=>225|246=>281|283=>302|284=>303|285=>304|286=>305|129=>123|317=>320|318=>321|319=>322|320=>323|337=>340|338=>341|n=>n,fun|3=>3|9=>9|2=>2|4=>4|171=>349|0=>0|53=>98|37=>230|5=>5|173=>351|212=>368|51=>210|20=>20|213=>369|46=>144|232=>400|233=>401|n=>n,fun|17=>3|18=>8|19=>9|n=>n⟩
theorem Tryz.laysM171:Go.Proofs.LaysM.n171 Tryz.prog Tryz.laysM171_ren:={
 mixed:=by kernel_rfl
 f129:=Tryz.func123.trans (congrArg some (by kernel_rfl))
 f171:=Tryz.func155.trans (congrArg some (by kernel_rfl))
 f243:=Tryz.func225.trans (congrArg some (by kernel_rfl))
 f246:=Tryz.func281.trans (congrArg some (by kernel_rfl))
 f283:=Tryz.func302.trans (congrArg some (by kernel_rfl))
 f284:=Tryz.func303.trans (congrArg some (by kernel_rfl))
 f285:=Tryz.func304.trans (congrArg some (by kernel_rfl))
 f286:=Tryz.func305.trans (congrArg some (by kernel_rfl))
 f317:=Tryz.func320.trans (congrArg some (by kernel_rfl))
 f318:=Tryz.func321.trans (congrArg some (by kernel_rfl))
 f319:=Tryz.func322.trans (congrArg some (by kernel_rfl))
 f320:=Tryz.func323.trans (congrArg some (by kernel_rfl))
 f337:=Tryz.func340.trans (congrArg some (by kernel_rfl))
 f338:=Tryz.func341.trans (congrArg some (by kernel_rfl))
 t0:=Tryz.underlying0
 a0:=Tryz.isAgg0
 z0:=Tryz.sizeOf0
 v0:=Tryz.zeroValue0
 t2:=Tryz.underlying2
 a2:=Tryz.isAgg2
 z2:=Tryz.sizeOf2
 v2:=Tryz.zeroValue2
 t3:=Tryz.underlying3
 a3:=Tryz.isAgg3
 z3:=Tryz.sizeOf3
 v3:=Tryz.zeroValue3
 t4:=Tryz.underlying4
 a4:=Tryz.isAgg4
 z4:=Tryz.sizeOf4
 v4:=Tryz.zeroValue4
 t5:=Tryz.underlying5
 a5:=Tryz.isAgg5
 z5:=Tryz.sizeOf5
 v5:=Tryz.zeroValue5
 t9:=Tryz.underlying9
 a9:=Tryz.isAgg9
 z9:=Tryz.sizeOf9
 v9:=Tryz.zeroValue9
 t20:=Tryz.underlying20
 a20:=Tryz.isAgg20
 z20:=Tryz.sizeOf20
 v20:=Tryz.zeroValue20
 t37:=Tryz.underlying230
 a37:=Tryz.isAgg230
 z37:=Tryz.sizeOf230
 v37:=Tryz.zeroValue230
 t46:=Tryz.underlying144
 a46:=Tryz.isAgg144
 z46:=Tryz.sizeOf144
 v46:=Tryz.zeroValue144
 t51:=Tryz.underlying210
 a51:=Tryz.isAgg210
 z51:=Tryz.sizeOf210
 v51:=Tryz.zeroValue210
 t53:=Tryz.underlying98
 a53:=Tryz.isAgg98
 z53:=Tryz.sizeOf98
 v53:=Tryz.zeroValue98
 t171:=Tryz.underlying349
 a171:=Tryz.isAgg349
 z171:=Tryz.sizeOf349
 v171:=Tryz.zeroValue349
 t173:=Tryz.underlying351
 a173:=Tryz.isAgg351
 z173:=Tryz.sizeOf351
 v173:=Tryz.zeroValue351
 t212:=Tryz.underlying368
 a212:=Tryz.isAgg368
 z212:=Tryz.sizeOf368
 v212:=Tryz.zeroValue368
 t213:=Tryz.underlying369
 a213:=Tryz.isAgg369
 z213:=Tryz.sizeOf369
 t232:=Tryz.underlying400
 a232:=Tryz.isAgg400
 z232:=Tryz.sizeOf400
 v232:=Tryz.zeroValue400
 t233:=Tryz.underlying401
 a233:=Tryz.isAgg401
 z233:=Tryz.sizeOf401
 v233:=Tryz.zeroValue401
 g17:=by kernel_rfl
 g18:=by kernel_rfl
 g19:=by kernel_rfl
 i0:=by kernel_rfl
 i2:=by kernel_rfl
 i3:=by kernel_rfl
 i4:=by kernel_rfl
 i5:=by kernel_rfl
 i9:=by kernel_rfl
 i20:=by kernel_rfl
 i37:=by kernel_rfl
 i46:=by kernel_rfl
 i51:=by kernel_rfl
 i53:=by kernel_rfl
 i171:=by kernel_rfl
 i173:=by kernel_rfl
 i212:=by kernel_rfl
 i232:=by kernel_rfl
 i233:=by kernel_rfl
 m17:=by kernel_rfl
 m18:=by kernel_rfl
 m19:=by kernel_rfl }
def Tryz.laysC172_ren:Go.Shelf.Ren:=⟨fun|172=>293|244=>313|245=>314|247=>332|279=>333|280=>334|281=>335|282=>336|287=>345|316=>346|171=>155|205=>347|321=>353|322=>354|243=>225|246=>281|283=>302|284=>303|285=>304|286=>305|129=>123|317=>320|318=>321|319=>322|320=>323|337=>340|338=>341|n=>n,fun|9=>9|3=>3|75=>234|76=>235|4=>4|5=>5|167=>380|37=>230|0=>0|85=>381|2=>2|168=>383|53=>98|175=>392|46=>144|210=>396|127=>300|145=>406|143=>404|21=>21|171=>349|173=>351|212=>368|51=>210|20=>20|213=>369|232=>400|233=>401|80=>240|n=>n,fun|15=>6|16=>7|17=>3|18=>8|19=>9|n=>n⟩
theorem Tryz.laysC172:Go.Proofs.LaysC.n172 Tryz.prog Tryz.laysC172_ren:={
 mixed:=by kernel_rfl
 f129:=Tryz.func123.trans (congrArg some (by kernel_rfl))
 f171:=Tryz.func155.trans (congrArg some (by kernel_rfl))
 f172:=Tryz.func293.trans (congrArg some (by kernel_rfl))
 f205:=Tryz.func347.trans (congrArg some (by kernel_rfl))
 f243:=Tryz.func225.trans (congrArg some (by kernel_rfl))
 f244:=Tryz.func313.trans (congrArg some (by kernel_rfl))
 f245:=Tryz.func314.trans (congrArg some (by kernel_rfl))
 f246:=Tryz.func281.trans (congrArg some (by kernel_rfl))
 f247:=Tryz.func332.trans (congrArg some (by kernel_rfl))
 f279:=Tryz.func333.trans (congrArg some (by kernel_rfl))
 f280:=Tryz.func334.trans (congrArg some (by kernel_rfl))
 f281:=Tryz.func335.trans (congrArg some (by kernel_rfl))
 f282:=Tryz.func336.trans (congrArg some (by kernel_rfl))
 f283:=Tryz.func302.trans (congrArg some (by kernel_rfl))
 f284:=Tryz.func303.trans (congrArg some (by kernel_rfl))
 f285:=Tryz.func304.trans (congrArg some (by kernel_rfl))
 f286:=Tryz.func305.trans (congrArg some (by kernel_rfl))
 f287:=Tryz.func345.trans (congrArg some (by kernel_rfl))
 f316:=Tryz.func346.trans (congrArg some (by kernel_rfl))
 f317:=Tryz.func320.trans (congrArg some (by kernel_rfl))
 f318:=Tryz.func321.trans (congrArg some (by kernel_rfl))
 f319:=Tryz.func322.trans (congrArg some (by kernel_rfl))
 f320:=Tryz.func323.trans (congrArg some (by kernel_rfl))
 f321:=Tryz.func353.trans (congrArg some (by kernel_rfl))
 f322:=Tryz.func354.trans (congrArg some (by kernel_rfl))
 f337:=Tryz.func340.trans (congrArg some (by kernel_rfl))
 f338:=Tryz.func341.trans (congrArg some (by kernel_rfl))
 t0:=Tryz.underlying0
 a0:=Tryz.isAgg0
 z0:=Tryz.sizeOf0
 v0:=Tryz.zeroValue0
 t2:=Tryz.underlying2
 a2:=Tryz.isAgg2
 z2:=Tryz.sizeOf2
 v2:=Tryz.zeroValue2
 t3:=Tryz.underlying3
 a3:=Tryz.isAgg3
 z3:=Tryz.sizeOf3
 v3:=Tryz.zeroValue3
 t4:=Tryz.underlying4
 a4:=Tryz.isAgg4
 z4:=Tryz.sizeOf4
 v4:=Tryz.zeroValue4
 t5:=Tryz.underlying5
 a5:=Tryz.isAgg5
 z5:=Tryz.sizeOf5
 v5:=Tryz.zeroValue5
 t9:=Tryz.underlying9
 a9:=Tryz.isAgg9
 z9:=Tryz.sizeOf9
 v9:=Tryz.zeroValue9
 t20:=Tryz.underlying20
 a20:=Tryz.isAgg20
 z20:=Tryz.sizeOf20
 v20:=Tryz.zeroValue20
 t21:=Tryz.underlying21
 a21:=Tryz.isAgg21
 z21:=Tryz.sizeOf21
 v21:=Tryz.zeroValue21
 t37:=Tryz.underlying230
 a37:=Tryz.isAgg230
 z37:=Tryz.sizeOf230
 v37:=Tryz.zeroValue230
 t46:=Tryz.underlying144
 a46:=Tryz.isAgg144
 z46:=Tryz.sizeOf144
 v46:=Tryz.zeroValue144
 t51:=Tryz.underlying210
 a51:=Tryz.isAgg210
 z51:=Tryz.sizeOf210
 v51:=Tryz.zeroValue210
 t53:=Tryz.underlying98
 a53:=Tryz.isAgg98
 z53:=Tryz.sizeOf98
 v53:=Tryz.zeroValue98
 t75:=Tryz.underlying234
 a75:=Tryz.isAgg234
 z75:=Tryz.sizeOf234
 v75:=Tryz.zeroValue234
 t76:=Tryz.underlying235
 a76:=Tryz.isAgg235
 z76:=Tryz.sizeOf235
 v76:=Tryz.zeroValue235
 t85:=Tryz.underlying381
 a85:=Tryz.isAgg381
 z85:=Tryz.sizeOf381
 v85:=Tryz.zeroValue381
 t127:=Tryz.underlying300
 a127:=Tryz.isAgg300
 z127:=Tryz.sizeOf300
 v127:=Tryz.zeroValue300
 t143:=Tryz.underlying404
 a143:=Tryz.isAgg404
 z143:=Tryz.sizeOf404
 v143:=Tryz.zeroValue404
 t145:=Tryz.underlying406
 a145:=Tryz.isAgg406
 z145:=Tryz.sizeOf406
 v145:=Tryz.zeroValue406
 t167:=Tryz.underlying380
 a167:=Tryz.isAgg380
 z167:=Tryz.sizeOf380
 v167:=Tryz.zeroValue380
 t168:=Tryz.underlying383
 a168:=Tryz.isAgg383
 z168:=Tryz.sizeOf383
 v168:=Tryz.zeroValue383
 t171:=Tryz.underlying349
 a171:=Tryz.isAgg349
 z171:=Tryz.sizeOf349
 v171:=Tryz.zeroValue349
 t173:=Tryz.underlying351
 a173:=Tryz.isAgg351
 z173:=Tryz.sizeOf351
 v173:=Tryz.zeroValue351
 t175:=Tryz.underlying392
 a175:=Tryz.isAgg392
 z175:=Tryz.sizeOf392
 v175:=Tryz.zeroValue392
 t210:=Tryz.underlying396
 a210:=Tryz.isAgg396
 z210:=Tryz.sizeOf396
 v210:=Tryz.zeroValue396
 t212:=Tryz.underlying368
 a212:=Tryz.isAgg368
 z212:=Tryz.sizeOf368
 v212:=Tryz.zeroValue368
 t213:=Tryz.underlying369
 a213:=Tryz.isAgg369
 z213:=Tryz.sizeOf369
 t232:=Tryz.underlying400
 a232:=Tryz.isAgg400
 z232:=Tryz.sizeOf400
 v232:=Tryz.zeroValue400
 t233:=Tryz.underlying401
 a233:=Tryz.isAgg401
 z233:=Tryz.sizeOf401
 v233:=Tryz.zeroValue401
 g15:=by kernel_rfl
 g16:=by kernel_rfl
 g17:=by kernel_rfl
 g18:=by kernel_rfl
 g19:=by kernel_rfl
 t80:=Tryz.underlying240
 a80:=Tryz.isAgg240
 z80:=Tryz.sizeOf240
 v80:=Tryz.zeroValue240
 i0:=by kernel_rfl
 i2:=by kernel_rfl
 i3:=by kernel_rfl
 i4:=by kernel_rfl
 i5:=by kernel_rfl
 i9:=by kernel_rfl
 i20:=by kernel_rfl
 i21:=by kernel_rfl
 i37:=by kernel_rfl
 i46:=by kernel_rfl
 i51:=by kernel_rfl
 i53:=by kernel_rfl
 i75:=by kernel_rfl
 i76:=by kernel_rfl
 i80:=by kernel_rfl
 i85:=by kernel_rfl
 i127:=by kernel_rfl
 i143:=by kernel_rfl
 i145:=by kernel_rfl
 i167:=by kernel_rfl
 i168:=by kernel_rfl
 i171:=by kernel_rfl
 i173:=by kernel_rfl
 i175:=by kernel_rfl
 i210:=by kernel_rfl
 i212:=by kernel_rfl
 i232:=by kernel_rfl
 i233:=by kernel_rfl
 m15:=by kernel_rfl
 m16:=by kernel_rfl
 m17:=by kernel_rfl
 m18:=by kernel_rfl
 m19:=by kernel_rfl
 c0:=by kernel_rfl
 c2:=by kernel_rfl
 c3:=by kernel_rfl
 c4:=by kernel_rfl
 c5:=by kernel_rfl
 c9:=by kernel_rfl
 c20:=by kernel_rfl
 c21:=by kernel_rfl
 c37:=by kernel_rfl
 c46:=by kernel_rfl
 c51:=by kernel_rfl
 c53:=by kernel_rfl
 c75:=by kernel_rfl
 c76:=by kernel_rfl
 c80:=by kernel_rfl
 c85:=by kernel_rfl
 c127:=by kernel_rfl
 c143:=by kernel_rfl
 c145:=by kernel_rfl
 c167:=by kernel_rfl
 c168:=by kernel_rfl
 c171:=by kernel_rfl
 c173:=by kernel_rfl
 c175:=by kernel_rfl
 c210:=by kernel_rfl
 c212:=by kernel_rfl
 c213:=by kernel_rfl
 c232:=by kernel_rfl
 c233:=by kernel_rfl }
def Tryz.lays162_ren:Go.Shelf.Ren:=⟨fun|162=>306|232=>324|227=>325|234=>326|236=>327|228=>342|271=>343|151=>344|120=>351|197=>276|152=>352|260=>296|137=>358|119=>359|224=>299|225=>298|217=>297|266=>318|n=>n,fun|9=>9|4=>4|3=>3|5=>5|117=>373|116=>372|0=>0|124=>376|21=>21|105=>335|46=>144|119=>361|139=>364|138=>363|n=>n,fun|3=>1|4=>2|n=>n⟩
theorem Tryz.lays162:Go.Proofs.Lays.n162 Tryz.prog Tryz.lays162_ren:={
 mixed:=by kernel_rfl
 f119:=Tryz.func359.trans (congrArg some (by kernel_rfl))
 f120:=Tryz.func351.trans (congrArg some (by kernel_rfl))
 f137:=Tryz.func358.trans (congrArg some (by kernel_rfl))
 f151:=Tryz.func344.trans (congrArg some (by kernel_rfl))
 f152:=Tryz.func352.trans (congrArg some (by kernel_rfl))
 f162:=Tryz.func306.trans (congrArg some (by kernel_rfl))
 f197:=Tryz.func276.trans (congrArg some (by kernel_rfl))
 f217:=Tryz.func297.trans (congrArg some (by kernel_rfl))
 f224:=Tryz.func299.trans (congrArg some (by kernel_rfl))
 f225:=Tryz.func298.trans (congrArg some (by kernel_rfl))
 f227:=Tryz.func325.trans (congrArg some (by kernel_rfl))
 f228:=Tryz.func342.trans (congrArg some (by kernel_rfl))
 f232:=Tryz.func324.trans (congrArg some (by kernel_rfl))
 f234:=Tryz.func326.trans (congrArg some (by kernel_rfl))
 f236:=Tryz.func327.trans (congrArg some (by kernel_rfl))
 f260:=Tryz.func296.trans (congrArg some (by kernel_rfl))
 f266:=Tryz.func318.trans (congrArg some (by kernel_rfl))
 f271:=Tryz.func343.trans (congrArg some (by kernel_rfl))
 t0:=Tryz.underlying0
 a0:=Tryz.isAgg0
 z0:=Tryz.sizeOf0
 v0:=Tryz.zeroValue0
 t3:=Tryz.underlying3
 a3:=Tryz.isAgg3
 z3:=Tryz.sizeOf3
 v3:=Tryz.zeroValue3
 t4:=Tryz.underlying4
 a4:=Tryz.isAgg4
 z4:=Tryz.sizeOf4
 v4:=Tryz.zeroValue4
 t5:=Tryz.underlying5
 a5:=Tryz.isAgg5
 z5:=Tryz.sizeOf5
 v5:=Tryz.zeroValue5
 t9:=Tryz.underlying9
 a9:=Tryz.isAgg9
 z9:=Tryz.sizeOf9
 v9:=Tryz.zeroValue9
 t21:=Tryz.underlying21
 a21:=Tryz.isAgg21
 z21:=Tryz.sizeOf21
 v21:=Tryz.zeroValue21
 t46:=Tryz.underlying144
 a46:=Tryz.isAgg144
 z46:=Tryz.sizeOf144
 v46:=Tryz.zeroValue144
 t105:=Tryz.underlying335
 a105:=Tryz.isAgg335
 z105:=Tryz.sizeOf335
 v105:=Tryz.zeroValue335
 t116:=Tryz.underlying372
 a116:=Tryz.isAgg372
 z116:=Tryz.sizeOf372
 t117:=Tryz.underlying373
 a117:=Tryz.isAgg373
 z117:=Tryz.sizeOf373
 v117:=Tryz.zeroValue373
 t119:=Tryz.underlying361
 a119:=Tryz.isAgg361
 z119:=Tryz.sizeOf361
 t124:=Tryz.underlying376
 a124:=Tryz.isAgg376
 z124:=Tryz.sizeOf376
 v124:=Tryz.zeroValue376
 t138:=Tryz.underlying363
 a138:=Tryz.isAgg363
 z138:=Tryz.sizeOf363
 v138:=Tryz.zeroValue363
 t139:=Tryz.underlying364
 a139:=Tryz.isAgg364
 z139:=Tryz.sizeOf364
 v139:=Tryz.zeroValue364
 g3:=by kernel_rfl
 g4:=by kernel_rfl }
