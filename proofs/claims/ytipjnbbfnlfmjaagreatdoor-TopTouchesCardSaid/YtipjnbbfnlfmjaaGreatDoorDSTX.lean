/- slices and strings, as depend calls them. Printed by mkds1.py. Conditions: none. -/
import Derived.Test.YtipjnbbfnlfmjaaGreatDoorDP2
import Derived.Test.YtipjnbbfnlfmjaaGreatDoorDG0
open List renaming mem_iff_getElem->J0,getElem?_eq_getElem->J1,isPrefixOf_iff_prefix->J2,getElem_mem->J3,length_set->J4,filter_append->J5,take_add_one->J6,filter_eq_self->J7,getElem?_drop->J8,any_eq_true->J9,length_map->Ja,take_take->Jb
open Int renaming toNat_natCast->Jc
open Nat renaming lt_or_ge->Jd,min_eq_left->Je,le_refl->Jf,add_zero->Jg,mul_one->Jh
namespace Pw
open Go
def encB (s:List UInt8):List Value:=[.string (ofL s)]
@[simp] theorem q0w (s:List UInt8):(encB s).length=1:=rfl
theorem q4z (s:List UInt8):∀ v∈encB s,okC v=true:=by intro v hv; simp[encB] at hv; subst hv; rfl
theorem q0x {a b:List UInt8}:ofL a=ofL b ↔ a=b:=⟨fun h=>by have:=congrArg bl h; simpa using this,fun h=>by rw[h]⟩
theorem q0h (a b:List UInt8):decide (ofL a=ofL b)=decide (a=b):=by rw[decide_eq_decide]; exact q0x
theorem q17 (a b:List UInt8):ofL a++ofL b=ofL (a++b):=qil (by rw[qim,q3s,q3s,q3s])
theorem q0i (l:List UInt8):(ofL l).size=l.length:=by rw[← qik,q3s]
def encI (n:Int):List Value:=[.int .i64 n]
@[simp] theorem encI_length (n:Int):(encI n).length=1:=rfl
def encZ (s:Sl):List Value:=[.slice s.p s.l s.c]
@[simp] theorem q1i (s:Sl):(encZ s).length=1:=rfl
def encL (x:Int × Int):List Value:=[.int .i64 x.1,.int .i64 x.2]
@[simp] theorem q0s (x:Int × Int):(encL x).length=2:=rfl
def encC (x:Dp.Cr):List Value:=[.string (ofL x.name),.int .i64 x.kind,.int .i64 x.low,.int .i64 x.high,.bool x.less]
@[simp] theorem q10 (x:Dp.Cr):(encC x).length=5:=rfl
section
variable {w:World}{s:Sl}{i:Int}
theorem Vw.go {α:Type}{n:Nat}{enc:α->List Value}{l:List α}{K:Addr->Prop}(hn:∀ a,(enc a).length=n)(hn0:0<n)(h:Vw n enc w s l)(i':Nat)(hi:i=(i':Int))(h1:i'<l.length)
  (hK:∀ a:Addr,(∀ k v,(enc l[i'])[k]?=some v->w.cell? ((a.add (i.toNat*n)).add k)=some v)->K a):nz s.p fun a=>(0<=i/\i<(s.l:Nat))/\K a:=by
 subst hi
 obtain⟨ad,hp,hc⟩:=h.at hn (J1 h1) hn0
 have hl:=h.len
 rw[hp]
 exact⟨⟨by omega,by omega⟩,hK ad hc⟩
theorem ldB {l:List (List UInt8)}{K:ByteArray->Prop}(h:Vw 1 encB w s l)(i':Nat)(hi:i=(i':Int))(h1:i'<l.length)(hK:K (ofL l[i'])) :
  nz s.p fun a=>(0<=i/\i<(s.l:Nat))/\∃ x:ByteArray,w.cell? (a.add (i.toNat*1))=some (Value.string x)/\K x :=
 Vw.go q0w (by decide) h i' hi h1 fun _ hc=>⟨_,hc 0 _ rfl,hK⟩
theorem ldI {l:List Int}{K:Int->Prop}(h:Vw 1 encI w s l)(i':Nat)(hi:i=(i':Int))(h1:i'<l.length)(hK:K l[i']) :
  nz s.p fun a=>(0<=i/\i<(s.l:Nat))/\∃ x:Int,w.cell? (a.add (i.toNat*1))=some (Value.int .i64 x)/\K x :=
 Vw.go encI_length (by decide) h i' hi h1 fun _ hc=>⟨_,hc 0 _ rfl,hK⟩
theorem ldZ {l:List Sl}{K:Sl->Prop}(h:Vw 1 encZ w s l)(i':Nat)(hi:i=(i':Int))(h1:i'<l.length)(hK:K l[i']) :
  nz s.p fun a=>(0<=i/\i<(s.l:Nat))/\∃ x:Sl,w.cell? (a.add (i.toNat*1))=some (Value.slice x.p x.l x.c)/\K x :=
 Vw.go q1i (by decide) h i' hi h1 fun _ hc=>⟨_,hc 0 _ rfl,hK⟩
theorem ldL {l:List (Int × Int)}{K:Int->Int->Prop}(h:Vw 2 encL w s l)(i':Nat)(hi:i=(i':Int))(h1:i'<l.length)(hK:K l[i'].1 l[i'].2) :
  nz s.p fun a=>(0<=i/\i<(s.l:Nat))/\∃ x:Int,w.cell? (a.add (i.toNat*2))=some (Value.int .i64 x)/\∃ y:Int,w.cell? ((a.add (i.toNat*2)).add 1)=some (Value.int .i64 y)/\K x y :=
 Vw.go q0s (by decide) h i' hi h1 fun _ hc=>⟨_,hc 0 _ rfl,_,hc 1 _ rfl,hK⟩
theorem ldCr {l:List Dp.Cr}{K:ByteArray->Int->Int->Int->Bool->Prop}(h:Vw 5 encC w s l)(i':Nat)(hi:i=(i':Int))(h1:i'<l.length)(hK:K (ofL l[i'].name) l[i'].kind l[i'].low l[i'].high l[i'].less) :
  nz s.p fun a=>(0<=i/\i<(s.l:Nat))/\∃ x:ByteArray,w.cell? (a.add (i.toNat*5))=some (Value.string x)/\∃ y:Int,w.cell? ((a.add (i.toNat*5)).add 1)=some (Value.int .i64 y)/\∃ z:Int,w.cell? ((a.add (i.toNat*5)).add 2)=some (Value.int .i64 z) /\
   ∃ u:Int,w.cell? ((a.add (i.toNat*5)).add 3)=some (Value.int .i64 u)/\∃ v:Bool,w.cell? ((a.add (i.toNat*5)).add 4)=some (Value.bool v)/\K x y z u v :=
 Vw.go q10 (by decide) h i' hi h1 fun _ hc=>⟨_,hc 0 _ rfl,_,hc 1 _ rfl,_,hc 2 _ rfl,_,hc 3 _ rfl,_,hc 4 _ rfl,hK⟩
end
def Ix {α:Type}(p:α->Bool)(l:List α)(r:Int):Prop :=
 (r=-1/\∀ x∈l,p x=false)\/∃ i,∃ h:i<l.length,r=(i:Int)/\p l[i]=true/\∀ j (hj:j<i),p (l[j]'(by omega))=false
theorem Ix.ge {α:Type}{p:α->Bool}{l:List α}{r:Int}(h:Ix p l r):decide (r>=0)=l.any p:=by
 rcases h with⟨rfl,h⟩ | ⟨i,hi,rfl,h,_⟩
 ·have:l.any p=false:=by rw[List.any_eq_false]; intro x hx; simp[h x hx]
  rw[this]; rfl
 ·have:l.any p=true:=J9.2 ⟨_,J3 hi,h⟩
  rw[this]
  exact decide_eq_true (by omega)
theorem Ix.lt {α:Type}{p:α->Bool}{l:List α}{r:Int}(h:Ix p l r):decide (r<0)=!l.any p:=by
 rw[← h.ge,← decide_not,decide_eq_decide]
 omega
theorem Ix.find {α:Type}{p:α->Bool}{l:List α}{r:Int}(h:Ix p l r)(hr:¬r<0):∃ i,∃ hi:i<l.length,r=(i:Int)/\l.find? p=some l[i]:=by
 rcases h with⟨rfl,_⟩ | ⟨i,hi,rfl,h,h'⟩
 ·omega
 ·refine⟨i,hi,rfl,List.find?_eq_some_iff_getElem.2 ⟨h,i,hi,rfl,fun j hj=>by simp[h' j hj]⟩⟩
theorem Ix.none {α:Type}{p:α->Bool}{l:List α}{r:Int}(h:Ix p l r)(hr:r<0):l.find? p=none:=by
 rcases h with⟨rfl,h⟩ | ⟨i,hi,rfl,_,_⟩
 ·exact List.find?_eq_none.2 fun x hx=>by simp[h x hx]
 ·omega
theorem Fr.f0 {F:Nat->Prop}{w w':World}(h:Fr F0 w w'):Fr F w w':=h.mono fun _ h=>h.elim
theorem Fr.t {w w' w2:World}(h:Fr F0 w w')(h':Fr F0 w' w2):Fr F0 w w2:=Fr0.t h h'
theorem Fr.tF {F:Nat->Prop}{w w' w2:World}(h:Fr F w w')(h':Fr F0 w' w2):Fr F w w2:=h.trans h' fun _ h _=>h.elim
end Pw
namespace Go.Proofs.YtipjnbbfnlfmjaaGreatDoor
open Go Pw Dp
def Dcs (F:Nat->Prop)(f:Value)(w0:World)(vs:List Value)(r:Bool):Prop :=
 ∀ (u:World) (K:VW),Fr F w0 u->(∀ u',Fr F0 u u'->K (.bool r) u')->q14 Tryz.prog f vs u K
theorem Dcs.fr {F:Nat->Prop}{f:Value}{w0 w:World}{vs:List Value}{r:Bool}(h:Dcs F f w0 vs r)(hf:Fr F0 w0 w):Dcs F f w vs r :=
 fun u K hu hK=>h u K ((hf.f0 (F:=F)).trans hu fun _ h _=>h) hK
section
variable {w w' w0:World}{s s':Sl}
theorem qh9 {l:List B}{v:B}{K:Int->World->Prop}(hv:Vw 1 encB w s l)(hl:l.length<2^62)(hK:∀ r,Ix (fun x=>decide (v=x)) l r->K r w):z2c_sh s (ofL v) K w:=by
 have el:=hv.len
 refine⟨?_⟩
 refine⟨⟨fun i u=>∃ i':Nat,i=i'/\i'<=l.length/\u=w/\∀ j (h:j<l.length),j<i'->decide (v=l[j])=false,fun i _=>l.length-i.toNat,⟨0,rfl,by omega,rfl,fun j _ h=>by omega⟩,?_⟩⟩
 rintro i u ⟨i,rfl,hi,rfl,hb⟩
 unfold z2c_b0
 refine q00.2 ⟨fun hlt=>?_,fun hge=>?_⟩
 ·have hil:i<l.length:=by omega
  refine ldB hv i rfl hil ?_
  rw[q0h]
  refine q00.2 ⟨fun h=>hK _ (.inr ⟨i,hil,rfl,decide_eq_true h,fun j hj=>hb j (by omega) hj⟩),fun h=>⟨q03,⟨⟨rfl,rfl,rfl,trivial⟩,i+1,by omega,by omega,rfl,fun j hjl hj=>?_⟩,by dsimp only; omega⟩⟩
  rcases Jd j i with h' | h'
  ·exact hb j hjl h'
  ·have:j=i:=by omega
   subst this
   exact decide_eq_false h
 ·refine hK _ (.inl ⟨rfl,fun x hx=>?_⟩)
  obtain⟨j,hj,rfl⟩:=J0.1 hx
  exact hb j hj (by omega)
theorem any_eq (v:B)(l:List B):l.any (fun x=>decide (v=x))=decide (v∈l):=by
 rw[Bool.eq_iff_iff,J9,decide_eq_true_eq]
 exact⟨fun⟨x,hx,h⟩=>by rw[of_decide_eq_true h]; exact hx,fun h=>⟨v,h,decide_eq_true rfl⟩⟩
theorem q0k {l:List B}{v:B}{K:Bool->World->Prop}(hv:Vw 1 encB w s l)(hl:l.length<2^62)(hK:K (decide (v∈l)) w):z1l_sh s (ofL v) K w:=by
 refine⟨qh9 hv hl fun r hr=>?_⟩
 rw[hr.ge,any_eq]
 exact hK
theorem q3x {l:List B}{f:Value}{p:B->Bool}{K:Int->World->Prop}(hv:Vw 1 encB w s l)(hl:l.length<2^62)(hp:∀ x∈l,Dcs F0 f w [.string (ofL x)] (p x))(hK:∀ r w',Fr F0 w w'->Ix p l r->K r w'):z1f_sh s f K w:=by
 have el:=hv.len
 refine⟨?_⟩
 refine⟨⟨fun i u=>∃ i':Nat,i=i'/\i'<=l.length/\Fr F0 w u/\∀ j (h:j<l.length),j<i'->p l[j]=false,fun i _=>l.length-i.toNat,⟨0,rfl,by omega,Fr.refl,fun j _ h=>by omega⟩,?_⟩⟩
 rintro i u ⟨i,rfl,hi,hf,hb⟩
 unfold z1f_b0
 refine q00.2 ⟨fun hlt=>?_,fun hge=>?_⟩
 ·have hil:i<l.length:=by omega
  refine ldB (hv.fr hf) i rfl hil (hp _ (J3 hil) u _ hf fun u' hf'=>⟨_,rfl,?_⟩)
  have hF:=hf.t hf'
  refine q04.2 ⟨fun h=>hK _ _ hF (.inr ⟨i,hil,rfl,h,fun j hj=>hb j (by omega) hj⟩),fun h=>⟨q03,⟨⟨rfl,rfl,rfl,trivial⟩,i+1,by omega,by omega,hF,fun j hjl hj=>?_⟩,by dsimp only; omega⟩⟩
  rcases Jd j i with h' | h'
  ·exact hb j hjl h'
  ·have:j=i:=by omega
   subst this
   exact h
 ·refine hK _ _ hf (.inl ⟨rfl,fun x hx=>?_⟩)
  obtain⟨j,hj,rfl⟩:=J0.1 hx
  exact hb j hj (by omega)
theorem q7v {l:List Int}{f:Value}{p:Int->Bool}{K:Int->World->Prop}(hv:Vw 1 encI w s l)(hl:l.length<2^62)(hp:∀ x∈l,Dcs F0 f w [.int .i64 x] (p x))(hK:∀ r w',Fr F0 w w'->Ix p l r->K r w'):z0k_sh s f K w:=by
 have el:=hv.len
 refine⟨?_⟩
 refine⟨⟨fun i u=>∃ i':Nat,i=i'/\i'<=l.length/\Fr F0 w u/\∀ j (h:j<l.length),j<i'->p l[j]=false,fun i _=>l.length-i.toNat,⟨0,rfl,by omega,Fr.refl,fun j _ h=>by omega⟩,?_⟩⟩
 rintro i u ⟨i,rfl,hi,hf,hb⟩
 unfold z0k_b0
 refine q00.2 ⟨fun hlt=>?_,fun hge=>?_⟩
 ·have hil:i<l.length:=by omega
  refine ldI (hv.fr hf) i rfl hil (hp _ (J3 hil) u _ hf fun u' hf'=>⟨_,rfl,?_⟩)
  have hF:=hf.t hf'
  refine q04.2 ⟨fun h=>hK _ _ hF (.inr ⟨i,hil,rfl,h,fun j hj=>hb j (by omega) hj⟩),fun h=>⟨q03,⟨⟨rfl,rfl,rfl,trivial⟩,i+1,by omega,by omega,hF,fun j hjl hj=>?_⟩,by dsimp only; omega⟩⟩
  rcases Jd j i with h' | h'
  ·exact hb j hjl h'
  ·have:j=i:=by omega
   subst this
   exact h
 ·refine hK _ _ hf (.inl ⟨rfl,fun x hx=>?_⟩)
  obtain⟨j,hj,rfl⟩:=J0.1 hx
  exact hb j hj (by omega)
theorem q7w {l:List Sl}{f:Value}{p:Sl->Bool}{K:Int->World->Prop}(hv:Vw 1 encZ w s l)(hl:l.length<2^62)(hp:∀ x∈l,Dcs F0 f w [.slice x.p x.l x.c] (p x))(hK:∀ r w',Fr F0 w w'->Ix p l r->K r w'):z0b_sh s f K w:=by
 have el:=hv.len
 refine⟨?_⟩
 refine⟨⟨fun i u=>∃ i':Nat,i=i'/\i'<=l.length/\Fr F0 w u/\∀ j (h:j<l.length),j<i'->p l[j]=false,fun i _=>l.length-i.toNat,⟨0,rfl,by omega,Fr.refl,fun j _ h=>by omega⟩,?_⟩⟩
 rintro i u ⟨i,rfl,hi,hf,hb⟩
 unfold z0b_b0
 refine q00.2 ⟨fun hlt=>?_,fun hge=>?_⟩
 ·have hil:i<l.length:=by omega
  refine ldZ (hv.fr hf) i rfl hil (hp _ (J3 hil) u _ hf fun u' hf'=>⟨_,rfl,?_⟩)
  have hF:=hf.t hf'
  refine q04.2 ⟨fun h=>hK _ _ hF (.inr ⟨i,hil,rfl,h,fun j hj=>hb j (by omega) hj⟩),fun h=>⟨q03,⟨⟨rfl,rfl,rfl,trivial⟩,i+1,by omega,by omega,hF,fun j hjl hj=>?_⟩,by dsimp only; omega⟩⟩
  rcases Jd j i with h' | h'
  ·exact hb j hjl h'
  ·have:j=i:=by omega
   subst this
   exact h
 ·refine hK _ _ hf (.inl ⟨rfl,fun x hx=>?_⟩)
  obtain⟨j,hj,rfl⟩:=J0.1 hx
  exact hb j hj (by omega)
theorem q29 {l:List (Int × Int)}{f:Value}{p:(Int × Int)->Bool}{K:Int->World->Prop}(hv:Vw 2 encL w s l)(hl:l.length<2^62)(hp:∀ x∈l,Dcs F0 f w [.agg #[.int .i64 x.1,.int .i64 x.2]] (p x))(hK:∀ r w',Fr F0 w w'->Ix p l r->K r w'):z0a_sh s f K w:=by
 have el:=hv.len
 refine⟨?_⟩
 refine⟨⟨fun i u=>∃ i':Nat,i=i'/\i'<=l.length/\Fr F0 w u/\∀ j (h:j<l.length),j<i'->p l[j]=false,fun i _=>l.length-i.toNat,⟨0,rfl,by omega,Fr.refl,fun j _ h=>by omega⟩,?_⟩⟩
 rintro i u ⟨i,rfl,hi,hf,hb⟩
 unfold z0a_b0
 refine q00.2 ⟨fun hlt=>?_,fun hge=>?_⟩
 ·have hil:i<l.length:=by omega
  refine ldL (hv.fr hf) i rfl hil (hp _ (J3 hil) u _ hf fun u' hf'=>⟨_,rfl,?_⟩)
  have hF:=hf.t hf'
  refine q04.2 ⟨fun h=>hK _ _ hF (.inr ⟨i,hil,rfl,h,fun j hj=>hb j (by omega) hj⟩),fun h=>⟨q03,⟨⟨rfl,rfl,rfl,trivial⟩,i+1,by omega,by omega,hF,fun j hjl hj=>?_⟩,by dsimp only; omega⟩⟩
  rcases Jd j i with h' | h'
  ·exact hb j hjl h'
  ·have:j=i:=by omega
   subst this
   exact h
 ·refine hK _ _ hf (.inl ⟨rfl,fun x hx=>?_⟩)
  obtain⟨j,hj,rfl⟩:=J0.1 hx
  exact hb j hj (by omega)
theorem q2a {l:List Cr}{f:Value}{p:Cr->Bool}{K:Int->World->Prop}(hv:Vw 5 encC w s l)(hl:l.length<2^62)(hp:∀ x∈l,Dcs F0 f w [.agg #[.string (ofL x.name),.int .i64 x.kind,.int .i64 x.low,.int .i64 x.high,.bool x.less]] (p x))(hK:∀ r w',Fr F0 w w'->Ix p l r->K r w'):z02_sh s f K w:=by
 have el:=hv.len
 refine⟨?_⟩
 refine⟨⟨fun i u=>∃ i':Nat,i=i'/\i'<=l.length/\Fr F0 w u/\∀ j (h:j<l.length),j<i'->p l[j]=false,fun i _=>l.length-i.toNat,⟨0,rfl,by omega,Fr.refl,fun j _ h=>by omega⟩,?_⟩⟩
 rintro i u ⟨i,rfl,hi,hf,hb⟩
 unfold z02_b0
 refine q00.2 ⟨fun hlt=>?_,fun hge=>?_⟩
 ·have hil:i<l.length:=by omega
  refine ldCr (hv.fr hf) i rfl hil (hp _ (J3 hil) u _ hf fun u' hf'=>⟨_,rfl,?_⟩)
  have hF:=hf.t hf'
  refine q04.2 ⟨fun h=>hK _ _ hF (.inr ⟨i,hil,rfl,h,fun j hj=>hb j (by omega) hj⟩),fun h=>⟨q03,⟨⟨rfl,rfl,rfl,trivial⟩,i+1,by omega,by omega,hF,fun j hjl hj=>?_⟩,by dsimp only; omega⟩⟩
  rcases Jd j i with h' | h'
  ·exact hb j hjl h'
  ·have:j=i:=by omega
   subst this
   exact h
 ·refine hK _ _ hf (.inl ⟨rfl,fun x hx=>?_⟩)
  obtain⟨j,hj,rfl⟩:=J0.1 hx
  exact hb j hj (by omega)
theorem q2l {l:List B}{f:Value}{p:B->Bool}{K:Bool->World->Prop}(hv:Vw 1 encB w s l)(hl:l.length<2^62)(hp:∀ x∈l,Dcs F0 f w [.string (ofL x)] (p x))(hK:∀ w',Fr F0 w w'->K (l.any p) w'):z0m_sh s f K w :=
 ⟨q3x hv hl hp fun r w' hf hr=>by rw[hr.ge]; exact hK w' hf⟩
theorem q2m {l:List Int}{f:Value}{p:Int->Bool}{K:Bool->World->Prop}(hv:Vw 1 encI w s l)(hl:l.length<2^62)(hp:∀ x∈l,Dcs F0 f w [.int .i64 x] (p x))(hK:∀ w',Fr F0 w w'->K (l.any p) w'):z09_sh s f K w :=
 ⟨q7v hv hl hp fun r w' hf hr=>by rw[hr.ge]; exact hK w' hf⟩
theorem qmm (l:B)(n:Nat):(ofL l).extract 0 n=ofL (l.take n):=qil (by rw[q9h,q3s,q3s]; simp)
theorem qaf (l:B)(n m:Nat)(h:l.length<=m):(ofL l).extract n m=ofL (l.drop n):=qil (by rw[q9h,q3s,q3s,List.take_of_length_le h])
theorem qmn (p l:B)(_:p.length<=l.length):decide (l.take p.length=p)=p.isPrefixOf l:=by
 rw[Bool.eq_iff_iff,decide_eq_true_eq,J2,List.prefix_iff_eq_take]
 exact eq_comm
theorem q2b {l p:B}{K:Bool->World->Prop}(hK:K (p.isPrefixOf l) w):z0h_sh (ofL l) (ofL p) K w:=by
 refine⟨?_⟩
 rw[q0i,q0i]
 refine q00.2 ⟨fun h=>⟨⟨by omega,by omega,by omega⟩,?_⟩,fun h=>?_⟩
 ·rw[Jc,qmm,q0h,qmn p l (by omega)]
  exact hK
 ·have:p.isPrefixOf l=false:=Bool.eq_false_iff.2 fun hp=>h (by have:=(J2.1 hp).length_le; omega)
  rw[this] at hK
  exact hK
theorem q1e {l p:B}{K:Bool->World->Prop}(hK:K (p.isPrefixOf l) w):z13_sh (ofL l) (ofL p) K w:=⟨q2b hK⟩
theorem q8z {l p:B}{K:ByteArray->Bool->World->Prop}(h1:p.isPrefixOf l=true->K (ofL (l.drop p.length)) true w)(h2:p.isPrefixOf l=false->K (ofL l) false w):z12_sh (ofL l) (ofL p) K w:=by
 refine⟨⟨q2b ?_⟩⟩
 rw[q0i,q0i]
 refine q04.2 ⟨fun h=>h2 (by simpa using h),fun h=>?_⟩
 have h:p.isPrefixOf l=true:=by simpa using h
 have:=(J2.1 h).length_le
 refine⟨⟨by omega,by omega⟩,?_⟩
 rw[Jc,qaf _ _ _ (Jf _)]
 exact h1 h
theorem q7x {l p:B}{K:ByteArray->World->Prop}(hp:p.isPrefixOf l=true)(hK:K (ofL (l.drop p.length)) w):z0t_sh (ofL l) (ofL p) K w:=by
 refine⟨⟨q2b ?_⟩⟩
 rw[q0i,q0i,hp]
 have:=(J2.1 hp).length_le
 refine⟨⟨by omega,by omega⟩,?_⟩
 rw[Jc,qaf _ _ _ (Jf _)]
 exact hK
theorem qfv {α:Type}{l m:List α}(h:l.length=m.length)(h':∀ j (h1:j<l.length) (h2:j<m.length),l[j]=m[j]):l=m:=List.ext_getElem h fun j h1 h2=>h' j h1 h2
theorem qe7 {l m:List B}{K:Bool->World->Prop}(hv:Vw 1 encB w s l)(hv':Vw 1 encB w s' m)(hl:l.length<2^62)(hK:∀ w',Fr F0 w w'->K (decide (l=m)) w'):z2b_sh s s' K w:=by
 have el:=hv.len
 have el':=hv'.len
 refine⟨?_⟩
 refine q1s.2 ⟨fun hne=>?_,fun he=>?_⟩
 ·have:decide (l=m)=false:=decide_eq_false fun e=>hne (by rw[el,el',e])
  rw[this] at hK
  exact hK w Fr.refl
 have he:l.length=m.length:=by omega
 refine⟨⟨fun i u=>∃ i':Nat,i=i'/\i'<=l.length/\Fr F0 w u/\∀ j (h:j<l.length) (h':j<m.length),j<i'->l[j]=m[j],fun i _=>l.length-i.toNat,⟨0,rfl,by omega,Fr.refl,fun j _ _ h=>by omega⟩,?_⟩⟩
 rintro i u ⟨i,rfl,hi,hf,hb⟩
 unfold z2b_b0
 refine q00.2 ⟨fun hlt=>?_,fun hge=>?_⟩
 ·have hil:i<l.length:=by omega
  intro u1
  have hf:Fr F0 w u1:=hf.t Fr.drew
  clear_value u1
  refine ldB (hv.fr hf) i rfl hil (ldB (hv'.fr hf) i rfl (by omega) ?_)
  rw[q0h]
  refine q04.2 ⟨fun h=>?_,fun h=>?_⟩
  ·have:decide (l=m)=false:=decide_eq_false fun e=>by subst e; simp at h
   rw[this] at hK
   exact hK _ hf
  ·refine⟨q03,⟨⟨rfl,rfl,rfl,trivial⟩,i+1,by omega,by omega,hf,fun j h1 h2 hj=>?_⟩,by dsimp only; omega⟩
   rcases Jd j i with h' | h'
   ·exact hb j h1 h2 h'
   ·have:j=i:=by omega
    subst this
    simpa using h
 ·have:decide (l=m)=true:=decide_eq_true (qfv he fun j h1 h2=>hb j h1 h2 (by omega))
  rw[this] at hK
  exact hK _ hf
theorem qe8 {l m:List Int}{K:Bool->World->Prop}(hv:Vw 1 encI w s l)(hv':Vw 1 encI w s' m)(hl:l.length<2^62)(hK:∀ w',Fr F0 w w'->K (decide (l=m)) w'):z1e_sh s s' K w:=by
 have el:=hv.len
 have el':=hv'.len
 refine⟨?_⟩
 refine q1s.2 ⟨fun hne=>?_,fun he=>?_⟩
 ·have:decide (l=m)=false:=decide_eq_false fun e=>hne (by rw[el,el',e])
  rw[this] at hK
  exact hK w Fr.refl
 have he:l.length=m.length:=by omega
 refine⟨⟨fun i u=>∃ i':Nat,i=i'/\i'<=l.length/\Fr F0 w u/\∀ j (h:j<l.length) (h':j<m.length),j<i'->l[j]=m[j],fun i _=>l.length-i.toNat,⟨0,rfl,by omega,Fr.refl,fun j _ _ h=>by omega⟩,?_⟩⟩
 rintro i u ⟨i,rfl,hi,hf,hb⟩
 unfold z1e_b0
 refine q00.2 ⟨fun hlt=>?_,fun hge=>?_⟩
 ·have hil:i<l.length:=by omega
  intro u1
  have hf:Fr F0 w u1:=hf.t Fr.drew
  clear_value u1
  refine ldI (hv.fr hf) i rfl hil (ldI (hv'.fr hf) i rfl (by omega) ?_)
  skip
  refine q1s.2 ⟨fun h=>?_,fun h=>?_⟩
  ·have:decide (l=m)=false:=decide_eq_false fun e=>by subst e; simp at h
   rw[this] at hK
   exact hK _ hf
  ·refine⟨q03,⟨⟨rfl,rfl,rfl,trivial⟩,i+1,by omega,by omega,hf,fun j h1 h2 hj=>?_⟩,by dsimp only; omega⟩
   rcases Jd j i with h' | h'
   ·exact hb j h1 h2 h'
   ·have:j=i:=by omega
    subst this
    exact h
 ·have:decide (l=m)=true:=decide_eq_true (qfv he fun j h1 h2=>hb j h1 h2 (by omega))
  rw[this] at hK
  exact hK _ hf
end
end Go.Proofs.YtipjnbbfnlfmjaaGreatDoor
namespace Pw
open Go
section
variable {w w' w0:World}{s:Sl}{l:List (List UInt8)}
theorem Mk.stB {i:Int}(h:Mk w0 1 encB w s l)(i':Nat)(hi:i=(i':Int))(h1:i'<l.length) :
  ∃ ad,s.p=some ad/\(0<=i/\i<(s.l:Nat))/\wrOk w (ad.add (i.toNat*1))/\∀ a,Mk w0 1 encB (w.setCell (ad.add (i.toNat*1)) (Value.string (ofL a))) s (l.set i' a)/\Fr (inB s) w (w.setCell (ad.add (i.toNat*1)) (Value.string (ofL a))):=by
 subst hi
 obtain⟨hl,hown⟩:=h.ow
 obtain⟨hlen,hnil | ⟨b,cs,hp,hrow,hcs,hle,ht⟩⟩:=hown
 ·omega
 have hb:w0.heap.size<=b:=h.nw b ⟨_,hp,rfl⟩
 refine⟨_,hp,⟨by omega,by omega⟩,?_,fun a=>?_⟩
 ·rw[q01]
  exact hrow.wr (by simp; omega)
 ·have hF:Fr (inB s) w (w.setCell (Addr.add ⟨b,0,none⟩ (((i':Int)).toNat*1)) (Value.string (ofL a))):=Fr.set ⟨_,hp,by rw[q5f]⟩
  refine⟨⟨h.fr0.trans hF fun c hc hlt=>absurd (h.nw c hc) (by omega),⟨by rw[J4]; exact hl,?_⟩,h.nw⟩,hF⟩
  have e:∀ m:List (List UInt8),m.flatMap encB=m.map fun a=>Value.string (ofL a):=fun m=>qis _ m
  refine⟨by rw[q0a q0w,J4,hl],.inr ⟨b,cs.set i' (.string (ofL a)),hp,?_,by rw[J4]; exact hcs,hle,?_⟩⟩
  ·rw[q01]
   have:=hrow.set i' (.string (ofL a))
   simpa using this
  ·rw[e] at ht ⊢
   rw[Ja,J4,List.map_set,← ht,List.take_set]
   simp
theorem Mk.cut {K:Sl->World->Prop}{i:Int}{P Q:Prop}(h:Mk w0 1 encB w s l)(i':Nat)(hi:i=(i':Int))(h1:i'<=l.length)(h0:0<l.length)
  (hP:P) (hQ:Q) (hK:∀ r w',Mk w0 1 encB w' r (l.take i')->Fr (inB s) w w'->(∀ b,inB r b->inB s b)->K r w') :
  P/\clS [(Value.string (str []))] (Sl.mk (subP s.p i.toNat s.c 1) (s.l-i.toNat) (s.c-i.toNat)) w fun (w10:World)=>Q/\K (Sl.mk (subP s.p 0 s.c 1) (i.toNat-0) (s.c-0)) w10:=by
 subst hi
 refine⟨hP,?_⟩
 obtain⟨hl,hown⟩:=h.ow
 obtain⟨hlen,hnil | ⟨b,cs,hp,hrow,hcs,hle,ht⟩⟩:=hown
 ·omega
 have hb:w0.heap.size<=b:=h.nw b ⟨_,hp,rfl⟩
 have e:∀ m:List (List UInt8),m.flatMap encB=m.map fun a=>Value.string (ofL a):=fun m=>qis _ m
 have e0:subP s.p 0 s.c 1=s.p:=by
  unfold subP
  split
  ·rfl
  ·rw[hp]; rfl
 rw[e0]
 simp only[Jc,Nat.sub_zero]
 have fin:∀ w',Fr (inB s) w w'->(∀ cs',Row w' b cs'->cs'.length=cs.length->cs'.take i'=cs.take i'->K ⟨s.p,i',s.c⟩ w'):=fun w' hf cs' hr' hc' ht'=>by
  refine hK _ _ ⟨h.fr0.trans hf fun c hc hlt=>absurd (h.nw c hc) (by omega),⟨by simp; omega,by rw[q0a q0w]; simp; omega,.inr ⟨b,cs',hp,hr',by rw[hc']; exact hcs,by simp; omega,?_⟩⟩,fun c hc=>h.nw c hc⟩ hf fun c hc=>hc
  rw[q0a q0w,List.length_take,Je h1,Jh,ht',e]
  rw[e,Ja] at ht
  rw[List.map_take,← ht,Jb,Je h1]
 unfold clS
 rw[hp]
 unfold subP
 by_cases hci:s.c=i'
 ·rw[if_pos hci]
  have hz:s.l-i'=0:=by omega
  simp only[hz,Nat.zero_mul]
  refine⟨fun j hj=>by omega,hQ,?_⟩
  have:=fin w Fr.refl cs hrow rfl rfl
  rw[hp] at this
  exact this
 ·rw[if_neg hci]
  simp only[Option.map_some,q01,Jh,Nat.zero_add]
  have hn:(rowZ [Value.string (str [])] ((s.l-i')*[Value.string (str [])].length)).length=s.l-i':=by rw[q4x]; simp
  have hfit:i'+0+(rowZ [Value.string (str [])] ((s.l-i')*[Value.string (str [])].length)).length<=cs.length:=by rw[hn]; omega
  have hrow':=q6e (o:=i') (rowZ [Value.string (str [])] ((s.l-i')*[Value.string (str [])].length)) 0 w cs hrow hfit
  refine⟨fun j hj=>?_,hQ,?_⟩
  ·rw[q01]
   refine hrow.wr ?_
   simp at hj
   omega
  ·have hF:Fr (inB s) w (wrC w ⟨b,i',none⟩ 0 (rowZ [Value.string (str [])] ((s.l-i')*[Value.string (str [])].length))) :=
    ⟨by rw[q4c]; exact Jf _,fun c _ hn=>q9g (a:=⟨b,i',none⟩) (fun he=>hn ⟨_,hp,he⟩) _ _ _,q9f _ _ _,q6d _ _ _,q4d _ _ _⟩
   have:=fin _ hF _ hrow' (q1o _ _ _ (by simpa using hfit)) (by
    unfold q1r
    rw[Jg,List.append_assoc,List.take_append_of_le_length (by simp; omega),Jb,Nat.min_self])
   rw[hp] at this
   exact this
end
end Pw
namespace Go.Proofs.YtipjnbbfnlfmjaaGreatDoor
open Go Pw Dp
theorem Dcs.f0 {F:Nat->Prop}{f:Value}{w0:World}{vs:List Value}{r:Bool}(h:Dcs F f w0 vs r):Dcs F0 f w0 vs r:=fun u K hu hK=>h u K hu.f0 hK
section
variable {w w' w0:World}{s s':Sl}
theorem q2c {l:List B}{f:Value}{p:B->Bool}{K:Sl->World->Prop}(hm:Mk w0 1 encB w s l)(hl:l.length<2^62)(hp:∀ x∈l,Dcs (inB s) f w [.string (ofL x)] (p x))
  (hK:∀ r w',Mk w0 1 encB w' r (l.filter fun x=>!p x)->Fr (inB s) w w'->(∀ b,inB r b->inB s b)->K r w'):z11_sh s f K w:=by
 have el:=hm.len
 refine⟨?_⟩
 refine q3x hm.vw hl (fun x hx=>(hp x hx).f0) fun r w1 hf1 hr=>q09.2 ⟨fun he=>?_,fun hne=>?_⟩
 ·rcases hr with⟨_,h⟩ | ⟨i,hi,rfl,_⟩
  ·have:l.filter (fun x=>!p x)=l:=J7.2 fun x hx=>by simp[h x hx]
   rw[this] at hK
   exact hK s w1 (hm.fr hf1) hf1.f0 fun _ h=>h
  ·omega
 rcases hr with⟨rfl,_⟩ | ⟨i0,hi0,rfl,hpi,hbi⟩
 ·exact absurd rfl hne
 refine⟨q03,⟨fun i j u=>∃ i' j':Nat,i=i'/\j=j'/\i'<j'/\j'<=l.length/\∃ m:List B,m.length=l.length/\Mk w0 1 encB u s m/\Fr (inB s) w u/\m.take i'=(l.take j').filter (fun x=>!p x)/\m.drop j'=l.drop j',fun _ j _=>l.length-j.toNat,⟨i0,i0+1,rfl,by omega,by omega,by omega,l,rfl,hm.fr hf1,hf1.f0,?_,rfl⟩,?_⟩⟩
 ·have e1:(l.take i0).filter (fun x=>!p x)=l.take i0:=J7.2 fun x hx=>by
   obtain⟨j,hj,rfl⟩:=J0.1 hx
   rw[List.getElem_take]
   have:=hbi j (by simp at hj; omega)
   simp[this]
  rw[J6,J1 hi0,J5,e1]
  simp[hpi]
 rintro _ _ u ⟨i,j,rfl,rfl,hij,hj,m,hml,hmk,hF,ht,hd⟩
 unfold z11_b0
 have es:s.l=l.length:=by rw[el]
 refine q00.2 ⟨fun hlt=>?_,fun hge=>?_⟩
 ·have hjl:j<l.length:=by omega
  have hmj:m[j]'(by omega)=l[j]:=by
   have h1:(m.drop j)[0]?=(l.drop j)[0]?:=by rw[hd]
   rw[J8,J8,Jg,J1 (by omega),J1 hjl] at h1
   exact Option.some.inj h1
  refine ldB hmk.vw j rfl (by omega) ?_
  rw[hmj]
  refine hp _ (J3 hjl) u _ hF fun u' hf'=>⟨_,rfl,?_⟩
  have hmk':=hmk.fr hf'
  have hF':=hF.tF hf'
  have htk:l.take (j+1)=l.take j++[l[j]]:=by rw[J6,J1 hjl]; rfl
  have hd':m.drop (j+1)=l.drop (j+1):=by
   have:=congrArg (List.drop 1) hd
   simpa [List.drop_drop] using this
  cases hpj:p l[j] with
  | false =>
   obtain⟨ad,hsp,hrng,hwr,hset⟩:=hmk'.stB i rfl (by omega)
   rw[hsp]
   refine⟨hrng,hwr,?_⟩
   obtain⟨hset1,hset2⟩:=hset l[j]
   refine⟨q03,q03,⟨⟨rfl,rfl,trivial⟩,i+1,j+1,by omega,by omega,by omega,by omega,m.set i l[j],by rw[J4]; exact hml,hset1,hF'.trans hset2 fun _ h _=>h,?_,?_⟩,by dsimp only; omega⟩
   ·rw[htk,J5,← ht,J6,List.getElem?_set_self (by omega),List.take_set_of_le (by omega)]
    simp[hpj]
   ·rw[List.drop_set_of_lt (by omega)]
    exact hd'
  | true =>
   refine⟨q03,⟨⟨rfl,rfl,trivial⟩,i,j+1,rfl,by omega,by omega,by omega,m,hml,hmk',hF',?_,hd'⟩,by dsimp only; omega⟩
   rw[htk,J5,ht]
   simp[hpj]
 ·have hjl:j=l.length:=by omega
  subst hjl
  rw[List.take_length] at ht
  refine hmk.cut i rfl (by omega) (by omega) ⟨by omega,by omega⟩ ?_ fun r w' h1 h2 h3=>hK r w' (by rw[← ht]; exact h1) (hF.trans h2 fun _ h _=>h) h3
  have:=hmk.vw.cap
  exact⟨by omega,by omega,by omega⟩
end
