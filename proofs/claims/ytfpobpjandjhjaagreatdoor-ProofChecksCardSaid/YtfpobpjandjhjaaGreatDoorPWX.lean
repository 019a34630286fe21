/- From a body's formula to the contract of its call. Conditions: none. -/
import Derived.Test.YtfpobpjandjhjaaGreatDoorPwE
import Derived.ProofKit
import Derived.OpenShut
import Derived.ChangeSame
import Derived.Laws.Externs
import Derived.Shelf.Spec.BitsCarry
import Derived.Lib.Mul64
open List renaming getElem?_eq_some_iff->J0,getElem?_eq_getElem->J1,take_append_of_le_length->J2,take_of_length_le->J3,getElem?_append->J4,mem_of_getElem?->J5,mem_of_mem_drop->J6,flatMap_cons->J7,getElem?_take->J8,getElem?_set->J9,eq_nil_of_length_eq_zero->Ja,replicate->Jb,length_cons->Jc,getElem?_append_right->Jd,getElem?_append_left->Je,ext_getElem?->Jf,getElem?_cons_succ->Jg,length_set->Jh,flatMap_append->Ji,replicate_succ->Jj,length_append->Jk,mem_cons->Jl,getElem_map->Jm,mapM_cons->Jn,mem_map->Jo,map_set->Jp,range'->Jq
open Int renaming eq_ofNat_of_zero_le->Jr,fdiv_eq_ediv_of_nonneg->Js,natCast_mul->Jt,natCast_add->Ju,natCast_pow->Jv
open Nat renaming mul_le_mul_right->Jw,add_mul->Jx,le_refl->Jy,zero_add->Jz,mul_assoc->JA,mod_eq_of_lt->JB,div_lt_iff_lt_mul->JC,mul_le_mul_left->JD,mul_right_comm->JE,le_trans->JF,mul_comm->JG,lt_or_ge->JH,two_pow_pos->JI,mul_one->JJ,sub_zero->JK,add_zero->JL,mul_add->JM
namespace Pw
open Go
def resW (P:Program)(σ:St)(w:World):List ResultVar->(List Value->Prop)->Prop
 | [],K=>K []
 | .tmp t :: r,K=>match get σ t with
  | some v=>resW P σ w r fun vs=>K (v :: vs)
  | none=>False
 | .cell a t :: r,K=>match get σ a with
  | some (.pointer (some b))=>ldW P (fun b v=>w.cell? b=some v) t b fun v=>resW P σ w r fun vs=>K (v :: vs)
  | _=>False
def oneV (vs:List Value):Value:=match vs with
 | [v]=>v
 | vs=>.tuple vs.toArray
def retD:List Nat->World->(World->Prop)->Prop
 | [],w,k=>k w
 | d :: D,w,k=>w.heap[d]?=some (.deferred (some []))/\retD D (w.putObj d (.deferred none)) k
def retQ (P:Program)(res:Array ResultVar)(K:VW):Qt
 | .normal,D,σ,w=>retD D w fun w=>resW P σ w res.toList fun vs=>K (oneV vs) w
 | .ret,D,σ,w=>retD D w fun w=>resW P σ w res.toList fun vs=>K (oneV vs) w
 | _,_,_,_=>False
def resF (tmps:Array Value):ResultVar->Sem Value
 | .tmp t=>pure (tmps.getD t undef)
 | .cell a t=>do loadVar t (← asAddr (tmps.getD a undef))
theorem qft (fn:Func)(tmps:Array Value):results fn tmps=(do
  let vs ← fn.results.mapM (resF tmps)
  pure (if h:vs.size=1 then vs[0] else .tuple vs)):=by
 unfold results
 congr 1
section
variable {P:Program}{n:Nat}{B:List Deferred}
theorem q6z {σ:St}{a:Act}(ha:Agr n B σ a){w:World}:∀ {l:List ResultVar} {K:List Value->Prop},resW P σ w l K ->
  ∃ vs,K vs/\(l.mapM (resF a.tmps)).run P w=.ok vs w
 | [],K,h=>⟨[],h,by simp⟩
 | .tmp t :: r,K,h=>by
  simp only[resW] at h
  split at h
  ·rename_i v hv
   obtain⟨vs,hK,hr⟩:=q6z ha h
   refine⟨_,hK,?_⟩
   have:=ha.2.2 t v hv
   simp only[Jn,Sem.run_bind,resF,Sem.run_pure,Result.andThen_ok,hr]
   simp[this]
  ·exact h.elim
 | .cell c t :: r,K,h=>by
  simp only[resW] at h
  split at h
  ·rename_i b hb
   obtain⟨v,h,hl⟩:=q8b (P:=P) (S:=fun w'=>w'=w) (fun b v hb w' hw'=>by subst hw'; exact hb) h
   obtain⟨vs,hK,hr⟩:=q6z ha h
   refine⟨_,hK,?_⟩
   have:=ha.2.2 c _ hb
   have hg:a.tmps.getD c undef=.pointer (some b):=by simp[this]
   have hadd:(asAddr (.pointer (some b)):Sem Addr).run P w=.ok b w:=rfl
   simp only[Jn,Sem.run_bind,resF,hg,hadd,Result.andThen_ok,hl w rfl,hr,Sem.run_pure]
  ·exact h.elim
theorem qfu {fn:Func}{σ:St}{a:Act}(ha:Agr n B σ a){w:World}{K:VW}(h:resW P σ w fn.results.toList fun vs=>K (oneV vs) w) :
  ∃ v,(results fn a.tmps).run P w=.ok v w/\K v w:=by
 obtain⟨vs,hK,hr⟩:=q6z ha h
 refine⟨_,?_,hK⟩
 rw[qft,Array.mapM_eq_mapM_toList]
 simp only[Sem.run_bind,Sem.run_map]
 rw[hr]
 simp only[Result.andThen_ok,Sem.run_pure,oneV]
 congr 1
 match vs with
 | []=>simp
 | [v]=>simp
 | v :: u :: r=>simp
theorem q66:∀ (vs:List Value) (k t:Nat) (v:Value),get (zipS (Jq k vs.length) vs) t=some v->k<=t/\vs[t-k]?=some v
 | [],k,t,v,h=>by simp[zipS,get] at h
 | u :: vs,k,t,v,h=>by
  simp only[Jc,List.range'_succ,zipS] at h
  rw[q7w] at h
  by_cases hk:k=t
  ·subst hk; simp at h; subst h; simp
  ·simp only[hk,if_false] at h
   obtain⟨h1,h2⟩:=q66 vs (k+1) t v h
   refine⟨by omega,?_⟩
   rw[show t-k=(t-(k+1))+1 by omega]
   simpa using h2
def q7h (vs:List Value):St:=zipS (Jq 0 vs.length) vs
theorem qhc {vs:List Value}{m:Nat}(h:vs.length<=m):Agr m [] (q7h vs) { tmps:=vs.toArray++Array.replicate (m-vs.toArray.size) undef,defers:=[] }:=by
 refine⟨by simp; omega,rfl,fun t v ht=>?_⟩
 obtain⟨_,h2⟩:=q66 vs 0 t v ht
 have hlt:t<vs.length:=(J0.1 h2).1
 rw[Array.getElem?_append_left (by simpa using hlt)]
 simpa using h2
theorem q8f {fn:Func}{tmps:Array Value}{R:Ending->World->Prop}{B:List Deferred}:∀ (D:List Nat) (w:World) (k:World->Prop),retD D w k->(∀ w',k w'->LeavesInM Fence.wide 0 P fn tmps R B .returning w') ->
  LeavesInM Fence.wide 0 P fn tmps R (D.map mk++B) .returning w
 | [],w,k,h,hk=>hk w h
 | d :: D,w,k,h,hk=>⟨by simp,.inl ⟨d,_,rfl,run_takeDeferred h.1,q8f D _ k h.2 hk⟩⟩
theorem q35 {Γ:Env}(hm:P.follows .mixedOrders=true)(hΓ:q7u P Γ){f:FuncId}{fn:Func}{code:Code}(hf:P.funcs[f]?=some fn)(hb:fn.body=some code)
  (x:A) (K:VW) (hob:∀ o∈obs P Γ fn.ntmps x code (fun _=>retQ P fn.results K),o.holds P Γ fn.ntmps) {vs:List Value} (hlen:vs.length<=fn.ntmps) {w:World}
  (h:W P Γ fn.ntmps x code [] (retQ P fn.results K) [] (q7h vs) w):Calls P f vs.toArray w fun e w'=>∃ v,e=.returned v/\K v w':=by
 refine(callsIn_wide (n:=0)).1 (callsIn_of_wp_marks hf hb trivial (wpIn_mono (ql4 (r:=none) (m:=0) (B:=[]) (Z:=fun _=>True) hm hΓ x code (fun _=>retQ P fn.results K) (.inl ⟨rfl,fun _=>trivial⟩) hob [] [] (q7h vs) _ w trivial (qhc hlen) h) fun e a w hq=>?_))
 have fin:∀ D σ',Agr fn.ntmps (D.map mk++[]) σ' a->(retD D w fun w=>resW P σ' w fn.results.toList fun vs=>K (oneV vs) w) ->
   LeavesInM Fence.wide 0 P fn a.tmps (fun e w'=>∃ v,e=.returned v/\K v w') a.defers .returning w:=by
  intro D σ' ha' h'
  rw[ha'.2.1]
  refine q8f D w _ h' fun w' hw'=>?_
  obtain⟨v,hr,hK⟩:=qfu ha' hw'
  exact⟨v,hr,v,rfl,hK⟩
 cases e with
 | normal=>obtain⟨D,σ',_,ha',h'⟩:=hq; exact fin D σ' ha' h'
 | ret=>obtain⟨D,σ',_,ha',h'⟩:=hq; exact fin D σ' ha' h'
 | panic c=>exact hq.elim
 | outgrown=>exact hq.elim
 | exit id=>obtain⟨_,σ',_,_,h'⟩:=hq; exact h'.elim
 | goto l=>obtain⟨_,σ',_,_,h'⟩:=hq; exact h'.elim
end
def obAt (l:List Ob):Nat->Option Ob
 | 0=>match l with
  | []=>none
  | o :: _=>some o
 | k+1=>match l with
  | []=>none
  | _ :: r=>obAt r k
def q0x (P:Program)(Γ:Env)(n:Nat)(l:List Ob)(k:Nat):Prop:=∀ o,obAt l k=some o->o.holds P Γ n
theorem q36 {P:Program}{Γ:Env}{n:Nat}:∀ {l:List Ob},(∀ k,q0x P Γ n l k)->∀ o∈l,o.holds P Γ n
 | [],_,o,ho=>by cases ho
 | x :: r,h,o,ho=>by
  rcases Jl.1 ho with rfl | ho
  ·exact h 0 _ rfl
  ·exact q36 (l:=r) (fun k o' ho'=>h (k+1) o' ho') o ho
theorem q3o {P:Program}{Γ:Env}{n:Nat}:∀ {l:List Ob} {m k:Nat},obAt l m=none->m<=k->q0x P Γ n l k
 | l,m,k,h,hk,o,ho=>by
  exfalso
  have key:∀ (l:List Ob) (m k:Nat),obAt l m=none->m<=k->obAt l k=none:=by
   intro l
   induction l with
   | nil=>intro m k _ _; cases k<;>rfl
   | cons x r ih =>
    intro m k h hk
    cases m with
    | zero=>simp[obAt] at h
    | succ m =>
     obtain⟨k',rfl⟩:∃ k',k=k'+1:=⟨k-1,by omega⟩
     exact ih m k' h (by omega)
  rw[key l m k h hk] at ho
  cases ho
def q2p (P:Program)(Γ:Env)(n:Nat)(l:List Ob)(k:Nat)(ρ:Rho)(vs:List Value)(w:World):Prop :=
 match obAt l k with
 | some o=>o.goal P Γ n ρ vs w
 | none=>False
def q4j (l:List Ob)(k:Nat)(ρ:Rho)(vs:List Value)(w:World):Prop :=
 match obAt l k with
 | some o=>o.L ρ vs w
 | none=>True
def q3p (l:List Ob)(k:Nat):Option Kd :=
 match obAt l k with
 | some o=>some o.kind
 | none=>none
theorem q1m {P:Program}{Γ:Env}{n:Nat}{l:List Ob}{k:Nat}(hl:q3p l k=some .cut\/q3p l k=some .rf)(h:∀ ρ vs w,q4j l k ρ vs w->q2p P Γ n l k ρ vs w):q0x P Γ n l k:=by
 intro o ho
 unfold q3p at hl
 rw[ho] at hl
 have key:∀ ρ vs w,o.L ρ vs w->o.goal P Γ n ρ vs w:=by
  intro ρ vs w hL
  have:=h ρ vs w (by unfold q4j; rw[ho]; exact hL)
  unfold q2p at this
  rw[ho] at this
  exact this
 unfold Ob.holds
 rcases hl with hl | hl
 ·simp only[Option.some.injEq] at hl
  rw[hl]
  exact key
 ·simp only[Option.some.injEq] at hl
  rw[hl]
  exact key
theorem q3i {P:Program}{Γ:Env}{n:Nat}{l:List Ob}{k:Nat}(hl:q3p l k=some .loop)
  (h:∀ ρ vs w,q4j l k ρ vs w->∃ (I:List Value->World->Prop) (μ:List Value->World->Nat),I vs w/\∀ vs w,I vs w->q2p P Γ n l k (mkN I μ vs w :: ρ) vs w):q0x P Γ n l k:=by
 intro o ho
 unfold q3p at hl
 rw[ho] at hl
 simp only[Option.some.injEq] at hl
 unfold Ob.holds
 rw[hl]
 intro ρ vs w hL
 obtain⟨I,μ,h0,hr⟩:=h ρ vs w (by unfold q4j; rw[ho]; exact hL)
 refine⟨I,μ,h0,fun vs w hI=>?_⟩
 have:=hr vs w hI
 unfold q2p at this
 rw[ho] at this
 exact this
theorem q18 {P:Program}{g:Nat}{S:Spec}{first cap:Array Value}{vs:List Value}{w:World}{K:VW}(hs:q3e P g S)(h:S (first.toList++vs++cap.toList) w K):q2b P (.func (.func g) first cap) vs w K:=by
 refine⟨hs.1,?_⟩
 have:=hs.2 _ _ _ h
 have e:first++vs.toArray++cap=(first.toList++vs++cap.toList).toArray:=by
  apply Array.toList_inj.1; simp
 rw[e]
 exact this
def q67:Code->List Code
 | .seq a b=>q67 a++q67 b
 | .cond _ a b=>q67 a++q67 b
 | .block _ a=>q67 a
 | .loop a=>q67 a
 | .scope a=>q67 a
 | .rangeFunc g ps a b=>.rangeFunc g ps a b :: q67 b
 | _=>[]
def nthC:List Code->Nat->Code
 | [],_=>.skip
 | c :: _,0=>c
 | _ :: r,k+1=>nthC r k
def rfAt (c:Code)(k:Nat):Code:=nthC (q67 c) k
def rfAs:Code->Code
 | .rangeFunc _ _ a _=>a
 | _=>.skip
def rfBd:Code->Code
 | .rangeFunc _ _ _ b=>b
 | _=>.skip
open Go
theorem q01 {n:Int}(h0:-9223372036854775808<=n:=by omega)(h1:n<9223372036854775808:=by omega):inR .i64 n:=q8d h0 h1
@[simp] theorem q1q (b o n:Nat):(⟨b,o,none⟩:Addr).add n=⟨b,o+n,none⟩:=by
 unfold Addr.add
 by_cases h:n=0<;>simp[h]
def Row (w:World)(b:Nat)(cs:List Value):Prop :=
 ∃ e f,w.heap[b]?=some (.cells cs.toArray e f)/\∀ i,i<cs.length->¬(f.1<=i/\i<f.2)
section
variable {w w':World}{b:Nat}{cs:List Value}
theorem Row.lt (h:Row w b cs):b<w.heap.size:=by
 obtain⟨e,f,h,_⟩:=h
 exact(Array.getElem?_eq_some_iff.1 h).1
theorem Row.cell (h:Row w b cs)(i:Nat):w.cell? ⟨b,i,none⟩=cs[i]?:=by
 obtain⟨e,f,h,_⟩:=h
 simp[World.cell?,h]
theorem Row.at (h:Row w b cs){i:Nat}{v:Value}(hi:cs[i]?=some v:=by exact rfl):w.cell? ⟨b,i,none⟩=some v:=by rw[h.cell,hi]
theorem Row.wr (h:Row w b cs){i:Nat}(hi:i<cs.length):wrOk w ⟨b,i,none⟩:=by
 refine⟨⟨cs[i],by rw[h.cell]; simp[hi]⟩,?_⟩
 obtain⟨e,f,h,hf⟩:=h
 obtain⟨lo,hi'⟩:=f
 have:=hf i hi
 simp only[World.frozen?,h]
 simp only[not_and,Nat.not_lt] at this
 simp
 exact this
theorem Row.congr (h:Row w b cs)(he:w'.heap[b]?=w.heap[b]?):Row w' b cs:=by
 obtain⟨e,f,h,hf⟩:=h
 exact⟨e,f,by rw[he,h],hf⟩
theorem q0r {a:Addr}{v:Value}(h:a.block≠b):(w.setCell a v).heap[b]?=w.heap[b]?:=by
 simp[World.setCell,Array.getElem?_modify,h]
theorem Row.set (h:Row w b cs)(i:Nat)(v:Value):Row (w.setCell ⟨b,i,none⟩ v) b (cs.set i v):=by
 obtain⟨e,f,h,hf⟩:=h
 refine⟨e,f,?_,by simpa using hf⟩
 simp[World.setCell,Array.getElem?_modify,h]
theorem q68 {o:Obj}(h:b<w.heap.size):(w.alloc o).heap[b]?=w.heap[b]?:=by
 have:b≠w.heap.size:=by omega
 show(w.heap.push o)[b]?=_
 simp[Array.getElem?_push,this]
theorem Row.new {e:TypeId}:Row (w.alloc (.cells cs.toArray e)) w.heap.size cs :=
 ⟨e,(0,0),by show(w.heap.push _)[w.heap.size]?=_; simp,by simp⟩
end
def Fr (F:Nat->Prop)(w w':World):Prop:=w.heap.size<=w'.heap.size/\(∀ b,b<w.heap.size->¬F b->w'.heap[b]?=w.heap[b]?)/\w'.os=w.os/\w'.output=w.output/\w'.tape=w.tape
section
variable {F G:Nat->Prop}{w w1 w2:World}
theorem Fr.refl:Fr F w w:=⟨Jy _,fun _ _ _=>rfl,rfl,rfl,rfl⟩
theorem Fr.trans (h:Fr F w w1)(h':Fr G w1 w2)(hg:∀ b,G b->b<w.heap.size->F b):Fr F w w2 :=
 ⟨JF h.1 h'.1,fun b hb hn=>by rw[h'.2.1 b (Nat.lt_of_lt_of_le hb h.1) (fun hG=>hn (hg b hG hb)),h.2.1 b hb hn],by rw[h'.2.2.1,h.2.2.1],by rw[h'.2.2.2.1,h.2.2.2.1],by rw[h'.2.2.2.2,h.2.2.2.2]⟩
theorem Fr.drew:Fr F w w.drew:=⟨Jy _,fun _ _ _=>rfl,rfl,rfl,rfl⟩
theorem Fr.alloc {o:Obj}:Fr F w (w.alloc o):=⟨by simp,fun _ hb _=>q68 hb,rfl,rfl,rfl⟩
theorem Fr.set {a:Addr}{v:Value}(h:F a.block):Fr F w (w.setCell a v):=⟨by simp,fun b _ hn=>q0r fun he=>hn (he ▸ h),rfl,rfl,rfl⟩
theorem Fr.row {b:Nat}{cs:List Value}(h:Fr F w w1)(hr:Row w b cs)(hb:¬F b):Row w1 b cs:=hr.congr (h.2.1 b hr.lt hb)
end
def q5f (cs:List Value)(o:Nat)(vs:List Value):List Value:=cs.take o++vs++cs.drop (o+vs.length)
theorem qdl (cs:List Value)(o:Nat)(v:Value)(vs:List Value)(h:o<cs.length):q5f (cs.set o v) (o+1) vs=q5f cs o (v :: vs):=by
 unfold q5f
 apply Jf
 intro i
 by_cases h1:i<o
 ·simp[J4,J8,J9,h,h1]
  have:i<o+1:=by omega
  have h2:¬o=i:=by omega
  have h3:min (o+1) cs.length=o+1:=by omega
  have h4:min o cs.length=o:=by omega
  simp[h3,h4,this,h1,h2]
 ·have h3:min (o+1) cs.length=o+1:=by omega
  have h4:min o cs.length=o:=by omega
  by_cases h2:i=o
  ·subst h2
   simp[J4,h3,h4]
  ·obtain⟨k,rfl⟩:∃ k,i=o+1+k:=⟨i-(o+1),by omega⟩
   have e1:o+1+k-(o+1)=k:=by omega
   have e2:o+1+k-o=k+1:=by omega
   have e3:¬(o+1+k<o+1):=by omega
   have e4:¬(o+1+k<o):=by omega
   simp[J4,J9,h3,h4,e1,e2,e3,e4]
   by_cases h5:k<vs.length
   ·simp[h5]
   ·simp[h5]
    have:¬o=o+1+vs.length+(k-vs.length):=by omega
    simp[this]
    congr 1
    omega
theorem qfv (cs:List Value)(o:Nat):q5f cs o []=cs:=by simp[q5f]
theorem q69 (cs:List Value)(o:Nat)(vs:List Value)(h:o+vs.length<=cs.length):(q5f cs o vs).length=cs.length:=by
 simp[q5f]; omega
theorem qay {a:Addr}:∀ (vs:List Value) (i:Nat) (w:World),(wrC w a i vs).heap.size=w.heap.size
 | [],_,_=>rfl
 | v :: vs,i,w=>by simp only[wrC]; rw[qay vs]; simp
theorem qhd {a:Addr}:∀ (vs:List Value) (i:Nat) (w:World),(wrC w a i vs).os=w.os
 | [],_,_=>rfl
 | v :: vs,i,w=>by simp only[wrC]; rw[qhd vs]; rfl
theorem qaz {a:Addr}:∀ (vs:List Value) (i:Nat) (w:World),(wrC w a i vs).tape=w.tape
 | [],_,_=>rfl
 | v :: vs,i,w=>by simp only[wrC]; rw[qaz vs]; rfl
theorem qdm {a:Addr}:∀ (vs:List Value) (i:Nat) (w:World),(wrC w a i vs).output=w.output
 | [],_,_=>rfl
 | v :: vs,i,w=>by simp only[wrC]; rw[qdm vs]; rfl
theorem q4k (a:Addr)(n:Nat):(a.add n).block=a.block:=by unfold Addr.add; split<;>rfl
theorem qhe {a:Addr}{b:Nat}(h:a.block≠b):∀ (vs:List Value) (i:Nat) (w:World),(wrC w a i vs).heap[b]?=w.heap[b]?
 | [],_,_=>rfl
 | v :: vs,i,w=>by
  simp only[wrC]
  rw[qhe h vs,q0r (by rw[q4k]; exact h)]
theorem qdn {b o:Nat}:∀ (vs:List Value) (i:Nat) (w:World) (cs:List Value),Row w b cs->o+i+vs.length<=cs.length->Row (wrC w ⟨b,o,none⟩ i vs) b (q5f cs (o+i) vs)
 | [],i,w,cs,h,_=>by simpa [wrC,qfv] using h
 | v :: vs,i,w,cs,h,hl=>by
  simp only[Jc] at hl
  simp only[wrC,q1q]
  have:=qdn (o:=o) vs (i+1) _ _ (h.set (o+i) v) (by simp; omega)
  rw[show o+(i+1)=o+i+1 by omega,qdl _ _ _ _ (by omega)] at this
  exact this
def OwnV (size:Nat)(w:World)(s:Sl)(vs:List Value):Prop :=
 vs.length=s.l*size/\((s.p=none/\s.l=0/\s.c=0)\/∃ b cs,s.p=some ⟨b,0,none⟩/\Row w b cs/\cs.length=s.c*size/\s.l<=s.c/\cs.take vs.length=vs)
def inB (s:Sl)(b:Nat):Prop:=∃ a,s.p=some a/\a.block=b
section
variable {size:Nat}{w w':World}{s x:Sl}{vs us:List Value}
theorem OwnV.congr (h:OwnV size w s vs)(hc:∀ b,inB s b->w'.heap[b]?=w.heap[b]?):OwnV size w' s vs:=by
 obtain⟨hl,h | ⟨b,cs,hp,hr,h⟩⟩:=h
 ·exact⟨hl,.inl h⟩
 ·exact⟨hl,.inr ⟨b,cs,hp,hr.congr (hc b ⟨_,hp,rfl⟩),h⟩⟩
theorem OwnV.lt (h:OwnV size w s vs){b:Nat}(hb:inB s b):b<w.heap.size:=by
 obtain⟨a,ha,rfl⟩:=hb
 obtain⟨hl,h | ⟨b,cs,hp,hr,h⟩⟩:=h
 ·rw[h.1] at ha; cases ha
 ·rw[hp] at ha; cases ha; exact hr.lt
theorem OwnV.fr {F:Nat->Prop}(h:OwnV size w s vs)(hf:Fr F w w')(hn:∀ b,inB s b->¬F b):OwnV size w' s vs :=
 h.congr fun b hb=>hf.2.1 b (h.lt hb) (hn b hb)
theorem OwnV.rd (h:OwnV size w s vs):rdC w s.p (s.l*size) vs:=by
 obtain⟨hl,h | ⟨b,cs,hp,hr,hc,hle,ht⟩⟩:=h
 ·refine⟨hl,?_⟩
  rw[h.1]
  simp[h.2.1]
 ·refine⟨hl,?_⟩
  rw[hp]
  intro i hi
  simp only[q1q,Jz]
  rw[hr.cell]
  have h1:(cs.take vs.length)[i]?=vs[i]?:=by rw[ht]
  rw[J8] at h1
  simp[hi] at h1
  simp[h1]
theorem OwnV.nil:OwnV size w ⟨none,0,0⟩ []:=⟨by simp,.inl ⟨rfl,rfl,rfl⟩⟩
theorem q37 (zero:List Value)(n:Nat):(rowZ zero n).length=n:=by simp[rowZ]
theorem qkt {F:Nat->Prop}{p:Option Addr}{n:Nat}(h:rdC w p n vs)(hf:Fr F w w')(hn:∀ a,p=some a->¬F a.block):rdC w' p n vs:=by
 obtain⟨hl,h⟩:=h
 refine⟨hl,?_⟩
 cases p with
 | none=>exact h
 | some a =>
  intro i hi
  have h1:=h i hi
  have hlt:a.block<w.heap.size:=by
   have:=World.block_lt_of_cell? _ _ h1
   rwa [q4k] at this
  have h2:=hf.2.1 a.block hlt (hn a rfl)
  unfold World.cell? at h1 ⊢
  rw[q4k] at h1 ⊢
  rw[h2]
  exact h1
theorem ql5 {bytes:Nat}{zero:List Value}{e n:Nat}{K:SW}(h:OwnV size w s vs)(hu:us.length=n*size)(hz:zero.length=size)
  (hb:(s.l+n)*bytes<=2^47) (hn:s.l+n<2^63)
  (hK:∀ r w',OwnV size w' r (vs++us)->r.l=s.l+n->Fr (inB s) w w'->(∀ b,inB r b->inB s b\/w.heap.size<=b)->K r w') :
  apG size bytes zero e s n us w K:=by
 have hrd:=h.rd
 obtain⟨hl,h⟩:=h
 constructor
 ·intro hc
  rcases h with⟨hp,hl0,hc0⟩ | ⟨b,cs,hp,hr,hcs,hle,ht⟩
  ·rw[hp]
   have hn0:n=0:=by omega
   subst hn0
   have:us=[]:=Ja (by simpa using hu)
   subst this
   have hvs:vs=[]:=Ja (by rw[hl,hl0]; simp)
   subst hvs
   refine hK _ _ ⟨by simp[hl0],.inl ⟨rfl,by simp[hl0],hc0⟩⟩ rfl Fr.refl fun b hb=>?_
   obtain⟨a,ha,_⟩:=hb
   cases ha
  ·rw[hp]
   simp only[q1q,Jz]
   have hfit:s.l*size+us.length<=cs.length:=by
    rw[hu,hcs,← Jx]
    exact Jw _ hc
   refine⟨fun i hi=>?_,?_⟩
   ·simp only[q1q]
    exact hr.wr (by omega)
   ·have hrow:=qdn us 0 w cs hr (o:=s.l*size) (by omega)
    simp only[JL] at hrow
    refine hK _ _ ⟨by simp[hl,hu,Jx],.inr ⟨b,_,rfl,hrow,by rw[q69 _ _ _ hfit,hcs],hc,?_⟩⟩ rfl ⟨by rw[qay]; exact Jy _,fun c _ hn=>qhe (a:=⟨b,s.l*size,none⟩) (fun he=>hn ⟨_,hp,he⟩) _ _ _,qhd _ _ _,qdm _ _ _,qaz _ _ _⟩ fun c hc=>?_
    ·rw[← hl]
     unfold q5f
     have:cs.take vs.length=vs:=ht
     rw[this,J2 (by simp)]
     exact J3 (by simp)
    ·obtain⟨a,ha,rfl⟩:=hc
     cases ha
     exact .inl ⟨_,hp,rfl⟩
 ·intro hc
  refine⟨hb,hn,vs,hrd,fun cap hcap=>?_⟩
  have hlen:(vs++us++rowZ zero ((cap-(s.l+n))*zero.length)).length=cap*size:=by
   simp[q37,hl,hu,hz]
   rw[← Jx,← Jx]
   congr 1
   omega
  refine hK _ _ ⟨by simp[q8c,hl,hu,Jx],.inr ⟨w.heap.size,_,rfl,Row.new (w:=w.drew),by rw[hlen]; rfl,hcap,?_⟩⟩ rfl (Fr.trans Fr.drew (Fr.alloc (F:=inB s)) fun b hb _=>hb) fun b hb=>?_
  ·rw[J2 (by simp)]
   exact J3 (by simp)
  ·obtain⟨a,ha,rfl⟩:=hb
   cases ha
   exact .inr (Jy _)
theorem ql6 {bytes:Nat}{zero:List Value}{e:Nat}{K:SW}(h:OwnV size w s vs)(hx:rdC w x.p (x.l*size) us)(hok:∀ v∈us,okC v=true)(hz:zero.length=size)
  (hb:(s.l+x.l)*bytes<=2^47) (hn:s.l+x.l<2^63)
  (hK:∀ r w',OwnV size w' r (vs++us)->r.l=s.l+x.l->Fr (inB s) w w'->(∀ b,inB r b->inB s b\/w.heap.size<=b)->K r w') :
  apS size bytes zero e s x w K:=⟨us,hx,hok,ql5 h hx.1 hz hb hn hK⟩
end
theorem Fr.kept {w w':World}(h:Fr (fun _=>False) w w')(may:MemPlace->Prop):w.keptBut w' may:=by
 refine⟨h.2.2.1,h.2.2.2.1,fun i hi=>?_⟩
 rw[h.2.1 i hi fun h=>h]
 cases w.heap[i]? with
 | none=>rfl
 | some o=>cases o<;>simp
open Go
def bl (s:ByteArray):List UInt8:=s.data.toList
@[simp] theorem qc9 (l:List UInt8):bl (ofL l)=l:=by simp[bl,ofL]
@[simp] theorem ofL_bl (s:ByteArray):ofL (bl s)=s:=by simp[bl,ofL]
theorem q4l (s:ByteArray):(bl s).length=s.size:=by simp[bl]
@[simp] theorem q8g (s t:ByteArray):bl (s++t)=bl s++bl t:=by simp[bl]
theorem q9z (l:List Nat):bl (str l)=l.map UInt8.ofNat:=by simp[bl,str]
end Pw
namespace Pw
open Go Go.ChangeShapes Go.WideShapes Go.ChangeAt Go.RowKit
theorem Fr.below {w w':World}(h:Fr (fun _=>False) w w'):Below w.heap.size w w' :=
 ⟨h.2.2.1,h.2.2.2.2,h.2.2.2.1,h.1,fun k hk=>h.2.1 k hk fun h=>h⟩
section
variable {H:Type}{enc:TypeId × Value->H}{P:Program}{W W':World}
theorem q6a (hl:laidOutB P=true):∀ {ts:List TypeId} {vs:List Value} {ds:List (DataW H)} {ps:List MemPlace},(∀ t∈ts,P.readableRec t=true/\t<P.types.size) ->
  DataW.TrodAll enc P W 0 (fun _=>true) true ts vs ds ps->Below W.heap.size W W'->(∀ x∈ps,x.block<W.heap.size) ->
  DataW.TrodAll enc P W' 0 (fun b=>decide (b<W.heap.size)) true ts vs ds ps
 | [],vs,ds,ps,_,h,_,_=>by
  obtain⟨rfl,rfl,rfl⟩:=trodAll_nil h
  exact trodAll_mk0
 | t :: ts,vs,ds,ps,ht,h,hb,hlt=>by
  obtain⟨v,vs',d,ds',p,q,rfl,rfl,rfl,h0,hr⟩:=trodAll_cons h
  have h1:=ht t (by simp)
  exact trodAll_cons_mk (Below.trod hl h1.1 h1.2 h0 hb fun x hx=>hlt x (by simp[hx])) (q6a hl (fun t ht'=>ht t (by simp[ht'])) hr hb fun x hx=>hlt x (by simp[hx]))
theorem post_true {f:Func}{s:ChangeSpec}{args:Array Value}{ds gs:List (DataW H)}{before:List MemPlace}{tb:TypeId}(hl:laidOutB P=true)(hts:∀ t∈f.params.toList,P.readableRec t=true/\t<P.types.size)
  (hrt:f.resultTypes=#[tb]) (hb:P.underlying tb=some .bool) (hW:DataW.Whole enc P f.params.toList s.vars false W args.toList ds gs before) (hv:s.vars=[])
  (hres:(s.fn H (ds++gs)).results=[.lit (.bool true)]) (harg:(s.fn H (ds++gs)).args=ds) (hvar:(s.fn H (ds++gs)).vars=[]) (hf:Fr (fun _=>False) W W') :
  s.post enc P f false true false false W args (.bool true) W':=by
 have hW0:=hW
 have hlt:=hW.lt
 obtain⟨p,q,hA,hV,rfl,hfz,hnd⟩:=hW
 rw[hv] at hV
 obtain⟨rfl,rfl⟩:=trodVars_none hV
 refine⟨ds,[],_,[],p,[],hW0,?_,?_,?_,hf.kept _,fun h=>by cases h⟩
 ·rw[hres,hrt]
  exact trodAll_cons_mk (shut_bool hb _) trodAll_mk0
 ·rw[harg]
  exact q6a hl hts hA hf.below fun x hx=>hlt x (by simp[hx])
 ·rw[hvar,hv]
  rfl
end
end Pw
namespace Pw
open Go Go.ChangeShapes Go.WideShapes Go.ChangeAt Go.RowKit
section
variable {H:Type}{enc:TypeId × Value->H}{P:Program}{W W':World}
theorem ql7 {r:Reach}{b0 n:Nat}{k:IntKind}{t e:TypeId}{v:Value}{d:DataW H}{ps:List MemPlace}(ht:P.underlying t=some (.array n e))(he:P.underlying e=some (.int k))(hc:P.cellsOf e=1)(hct:P.cellsOf t=n)
  (hval:Value.okWide P W r b0 t v) (h:DataW.Trod enc P W 0 (fun _=>true) true t v d ps) :
  ∃ l:List Int,l.length=n/\v=.agg (l.map (Value.int k)).toArray/\∀ x∈l,(Lit.int k x).wf=true:=by
 unfold Value.okWide at hval
 rw[ht] at hval
 obtain⟨cs,rfl,hsz,_⟩:=hval
 obtain⟨fuel,hf⟩:=h
 obtain⟨xs,m,_,_,_,hx,hat⟩:=DataW.trod_array ht hf
 rw[hct] at hsz
 have key:∀ i (hi:i<cs.size),∃ x:Int,cs[i]=Value.int k x/\(Lit.int k x).wf=true:=by
  intro i hi
  have h0:=hat i (by omega)
  rw[hc,JJ] at h0
  have hxi:i<xs.length:=by omega
  rw[J1 hxi] at h0
  obtain⟨x,hx',_,hw⟩:=DataW.trod_int he h0
  refine⟨x,?_,hw⟩
  simp only[Value.cells] at hx'
  rw[List.drop_eq_getElem_cons (by simpa using hi)] at hx'
  simp at hx'
  exact hx'
 refine⟨cs.toList.map fun v=>match v with | .int _ x=>x | _=>0,by simp[hsz],?_,?_⟩
 ·congr 1
  apply Array.ext
  ·simp
  ·intro i h1 h2
   obtain⟨x,hx',_⟩:=key i h1
   simp[hx']
 ·intro x hx
  simp only[Jo] at hx
  obtain⟨v,hv,rfl⟩:=hx
  obtain⟨i,hi,rfl⟩:=List.getElem_of_mem hv
  obtain⟨y,hy,hw⟩:=key i (by simpa using hi)
  simp only[Array.getElem_toList]
  rw[hy]
  exact hw
end
open Go
theorem list3 {α:Type}{l:List α}(h:l.length=3):∃ a b c,l=[a,b,c]:=by
 match l,h with
 | [a,b,c],_=>exact⟨a,b,c,rfl⟩
theorem q4m {a:Int}(h:(Lit.int .i64 a).wf=true):-9223372036854775808<=a/\a<9223372036854775808:=by
 simp[Lit.wf,IntKind.min,IntKind.max,IntKind.bits,IntKind.signed] at h
 omega
open Go
theorem q9p {P:Program}{f:FuncId}{fn:Func}{a b c:Int}{K:VW}{w:World}(hf:P.funcs[f]?=some fn)(h1:(fn.name == "runtime.NumGoroutine")=false)
  (h2:fn.body.isNone=true) (h3:Extern.findNext fn=none) (h4:Extern.find fn=some add64Entry)
  (ha:0<=a) (_:a<18446744073709551616) (hb:0<=b) (_:b<18446744073709551616) (hc:0<=c) (hc':c<=1)
  (hk:K (.tuple #[.int .u64 ((a+b+c) % 18446744073709551616),.int .u64 ((a+b+c) / 18446744073709551616)]) w) :
  ∃ v w',(callFunc f ([Value.int .u64 a,.int .u64 b,.int .u64 c]:List Value).toArray).run P w=.ok (.value v) w'/\K v w':=by
 refine⟨_,w,?_,hk⟩
 rw[run_callFunc_extern hf h1 h2 h3 h4]
 rw[show([Value.int .u64 a,.int .u64 b,.int .u64 c]:List Value).toArray=#[.int .u64 a,.int .u64 b,.int .u64 c] from rfl,run_add64 a b c ha hb hc hc']
 rfl
theorem q9q {P:Program}{f:FuncId}{fn:Func}{a b c:Int}{K:VW}{w:World}(hf:P.funcs[f]?=some fn)(h1:(fn.name == "runtime.NumGoroutine")=false)
  (h2:fn.body.isNone=true) (h3:Extern.findNext fn=none) (h4:Extern.find fn=some Go.Proofs.sub64Entry)
  (ha:0<=a) (ha':a<18446744073709551616) (hb:0<=b) (hb':b<18446744073709551616) (hc:0<=c) (hc':c<=1)
  (hk:K (.tuple #[.int .u64 ((a-b-c) % 18446744073709551616),.int .u64 (if a<b+c then 1 else 0)]) w) :
  ∃ v w',(callFunc f ([Value.int .u64 a,.int .u64 b,.int .u64 c]:List Value).toArray).run P w=.ok (.value v) w'/\K v w':=by
 refine⟨_,w,?_,hk⟩
 rw[run_callFunc_extern hf h1 h2 h3 h4]
 obtain⟨x,rfl⟩:=Jr ha
 obtain⟨y,rfl⟩:=Jr hb
 obtain⟨z,rfl⟩:=Jr hc
 rw[show([Value.int .u64 (x:Int),.int .u64 (y:Int),.int .u64 (z:Int)]:List Value).toArray=#[.int .u64 x,.int .u64 y,.int .u64 z] from rfl,Go.Proofs.run_sub64 x y z (by omega)]
 show Result.ok _ _=_
 have e1:(((x+18446744073709551616-y-z) % 18446744073709551616:Nat):Int)=((x:Int)-y-z) % 18446744073709551616:=by omega
 have e2:((if x<y+z then 1 else 0:Nat):Int)=if (x:Int)<y+z then 1 else 0:=by
  by_cases h:x<y+z
  ·have h':(x:Int)<y+z:=by omega
   simp[h,h']
  ·have h':¬(x:Int)<y+z:=by omega
   simp[h,h']
 rw[e1,e2]
open Go
def stN.go (a:Addr)(K:World->Prop):List Value->Nat->World->Prop
 | [],_,w=>K w
 | v :: vs,i,w=>wrOk w (a.add i)/\stN.go a K vs (i+1) (w.setCell (a.add i) v)
def stN (w:World)(a:Addr)(vs:List Value)(K:World->Prop):Prop:=stN.go a K vs 0 w
open Go
theorem wu64 (n:Nat):IntKind.wrap .u64 (n:Int)=((n % 18446744073709551616:Nat):Int):=by
 unfold IntKind.wrap
 simp[IntKind.bits,IntKind.signed]
theorem q25 {n:Int}(h0:0<=n)(h1:n<18446744073709551616):IntKind.wrap .u64 n=n:=by
 obtain⟨m,rfl⟩:=Jr h0
 rw[wu64]; omega
theorem q2x (n:Int):IntKind.wrap .u64 n=n % 18446744073709551616:=by
 unfold IntKind.wrap
 simp[IntKind.bits,IntKind.signed]
theorem inRu {n:Int}(h0:0<=n)(h1:n<18446744073709551616):inR .u64 n:=q25 h0 h1
theorem shr32 (n:Nat):Int.fdiv (n:Int) (2^(min 32 (IntKind.bits .u64)))=((n / 4294967296:Nat):Int):=by
 have e:(2:Int)^(min 32 (IntKind.bits .u64))=4294967296:=by decide
 rw[e,Js _ (by omega)]
 omega
theorem ql8 (n:Nat)(h:n<18446744073709551616):IntKind.wrap .u64 ((((BitVec.ofInt (IntKind.bits .u64) (n:Int) &&& BitVec.ofInt (IntKind.bits .u64) (4294967295:Int))).toNat:Nat):Int)=((n % 4294967296:Nat):Int):=by
 have e:(BitVec.ofInt (IntKind.bits .u64) (n:Int) &&& BitVec.ofInt (IntKind.bits .u64) (4294967295:Int)).toNat=n % 4294967296:=by
  show(BitVec.ofInt 64 (n:Int) &&& BitVec.ofInt 64 (4294967295:Int)).toNat=_
  rw[BitVec.toNat_and,BitVec.toNat_ofInt,BitVec.toNat_ofInt]
  have h1:((n:Int) % ((2^64:Nat):Int)).toNat=n:=by
   have:((2^64:Nat):Int)=18446744073709551616:=by decide
   rw[this]; omega
  have h2:((4294967295:Int) % ((2^64:Nat):Int)).toNat=2^32-1:=by decide
  rw[h1,h2,Nat.and_two_pow_sub_one_eq_mod]
 rw[e,wu64]
 omega
theorem qhf (n:Nat)(h:n<18446744073709551616):(BitVec.ofInt (IntKind.bits .u64) (n:Int) &&& BitVec.ofInt (IntKind.bits .u64) (4294967295:Int)).toNat=n % 4294967296:=by
 have:=ql8 n h
 rw[wu64] at this
 have hlt:(BitVec.ofInt (IntKind.bits .u64) (n:Int) &&& BitVec.ofInt (IntKind.bits .u64) (4294967295:Int)).toNat<18446744073709551616:=BitVec.isLt _
 omega
theorem q7i (n:Nat):n % 4294967296 % 18446744073709551616=n % 4294967296:=by omega
theorem mulN (a b:Nat):(a:Int)*(b:Int)=((a*b:Nat):Int):=(Jt a b).symm
theorem addN (a b:Nat):(a:Int)+(b:Int)=((a+b:Nat):Int):=(Ju a b).symm
theorem q2y (a b:Nat):Int.tdiv (a:Int) (b:Int)=((a / b:Nat):Int):=rfl
theorem qhg (a b:Nat):Int.tmod (a:Int) (b:Int)=((a % b:Nat):Int):=rfl
theorem qdo {Y y1 y0 u d q r:Nat}(hY:Y=y1*4294967296+y0)(hu:q*y1+r=u)(h:q*y0<=4294967296*r+d):q*Y<=u*4294967296+d:=by
 subst hY; subst hu
 rw[JM,← JA,Jx]
 omega
theorem qel {Y y1 y0 u d q r:Nat}(hY:Y=y1*4294967296+y0)(hy:y0<4294967296)(hu:q*y1+r=u)(hq:q<=4294967296)(hr:4294967296<=r):q*Y<=u*4294967296+d:=by
 refine qdo hY hu ?_
 have h1:q*y0<=4294967296*4294967295:=Nat.mul_le_mul hq (by omega)
 have h2:4294967296*4294967296<=4294967296*r:=JD _ hr
 omega
theorem qjg {Y y1 y0 u d q r:Nat}(hY:Y=y1*4294967296+y0)(hu:q*y1+r=u)(huY:u<Y)(hd:d<4294967296)(h:4294967296<=q\/4294967296*r+d<q*y0) :
  u*4294967296+d<q*Y:=by
 have h1:(u+1)*4294967296<=Y*4294967296:=Jw _ huY
 rcases h with h | h
 ·have h2:4294967296*Y<=q*Y:=Jw _ h
  rw[Jx] at h1
  generalize q*Y=A at *
  omega
 ·subst hY; subst hu
  rw[JM,← JA,Jx]
  omega
theorem qem {Y y1 y0 u:Nat}(hY:Y=y1*4294967296+y0)(hy:y0<4294967296)(h1:2147483648<=y1)(huY:u<Y):u / y1<=4294967297:=by
 have:u<4294967298*y1:=by omega
 have:=(JC (by omega:0<y1)).2 this
 omega
theorem qhh {β Y u d1 d0 q1 q0 u2 r:Nat}(h1:u*β+d1=q1*Y+u2)(h0:u2*β+d0=q0*Y+r) :
  u*(β*β)+(d1*β+d0)=(q1*β+q0)*Y+r:=by
 have e1:u*(β*β)+d1*β=(u*β+d1)*β:=by rw[Jx,JA]
 have e2:(q1*β+q0)*Y=q1*Y*β+q0*Y:=by rw[Jx,JE]
 rw[← Nat.add_assoc,e1,h1,e2,Jx]
 generalize q1*Y*β=A at *
 generalize u2*β=B at *
 generalize q0*Y=C at *
 omega
theorem kn_two {Y u d1 d0 q1 q0 u2 r:Nat}(h1:u*4294967296+d1=q1*Y+u2)(h0:u2*4294967296+d0=q0*Y+r)(hr:r<Y) :
  (u*18446744073709551616+(d1*4294967296+d0)) / Y=q1*4294967296+q0/\(u*18446744073709551616+(d1*4294967296+d0)) % Y=r:=by
 have e:=qhh h1 h0
 rw[show(4294967296:Nat)*4294967296=18446744073709551616 by decide] at e
 rw[e]
 refine⟨?_,?_⟩
 ·rw[JG,Nat.mul_add_div (by omega),Nat.div_eq_of_lt hr,JL]
 ·rw[JG,Nat.mul_add_mod,JB hr]
open Go
def F0:Nat->Prop:=fun _=>False
theorem shlN (a s:Nat)(hs:s<=64):IntKind.wrap .u64 ((a:Int)*2^(min ((s:Int)).toNat (IntKind.bits .u64)))=((a*2^s % 18446744073709551616:Nat):Int):=by
 have e:min ((s:Int)).toNat (IntKind.bits .u64)=s:=by
  have:IntKind.bits .u64=64:=rfl
  omega
 rw[e,← wu64,Jt,Jv]
 rfl
theorem shrN (a s:Nat)(hs:s<=64):Int.fdiv (a:Int) (2^(min ((s:Int)).toNat (IntKind.bits .u64)))=((a / 2^s:Nat):Int):=by
 have e:min ((s:Int)).toNat (IntKind.bits .u64)=s:=by
  have:IntKind.bits .u64=64:=rfl
  omega
 have p:(2:Int)^s=((2^s:Nat):Int):=by rw[Jv]; rfl
 rw[e,p,Js _ (Int.natCast_nonneg _)]
 rfl
theorem orN (a b:Nat)(ha:a<18446744073709551616)(hb:b<18446744073709551616):IntKind.wrap .u64 ((((BitVec.ofInt (IntKind.bits .u64) (a:Int) ||| BitVec.ofInt (IntKind.bits .u64) (b:Int))).toNat:Nat):Int)=((a ||| b:Nat):Int):=by
 have hlt:a ||| b<2^64:=Nat.or_lt_two_pow (by simpa using ha) (by simpa using hb)
 have e:(BitVec.ofInt (IntKind.bits .u64) (a:Int) ||| BitVec.ofInt (IntKind.bits .u64) (b:Int)).toNat=a ||| b:=by
  show(BitVec.ofInt 64 (a:Int) ||| BitVec.ofInt 64 (b:Int)).toNat=_
  rw[BitVec.toNat_or,BitVec.toNat_ofInt,BitVec.toNat_ofInt]
  have h2:((2^64:Nat):Int)=18446744073709551616:=by decide
  have ea:((a:Int) % ((2^64:Nat):Int)).toNat=a:=by rw[h2]; omega
  have eb:((b:Int) % ((2^64:Nat):Int)).toNat=b:=by rw[h2]; omega
  rw[ea,eb]
 rw[e,wu64,JB (by simpa using hlt)]
theorem qca {hi lo y s:Nat}(hs:s<=64)(h:hi<y)(_:y*2^s<18446744073709551616)(hlo:lo<18446744073709551616) :
  (hi*2^s ||| lo / 2^(64-s))=hi*2^s+lo / 2^(64-s)/\hi*2^s+lo / 2^(64-s)<y*2^s /\
  (hi*2^s+lo / 2^(64-s))*18446744073709551616+lo*2^s % 18446744073709551616=(hi*18446744073709551616+lo)*2^s:=by
 have hp:18446744073709551616=2^(64-s)*2^s:=by
  rw[← Nat.pow_add,Nat.sub_add_cancel hs]
 have hlt:lo / 2^(64-s)<2^s:=by
  rw[JC (JI _),JG,← hp]
  exact hlo
 have h1:(hi+1)*2^s<=y*2^s:=Jw _ h
 refine⟨?_,?_,?_⟩
 ·rw[← Nat.shiftLeft_eq,Nat.shiftLeft_add_eq_or_of_lt hlt]
 ·rw[Jx] at h1
  omega
 ·have e:lo*2^s / 18446744073709551616=lo / 2^(64-s):=by
   rw[hp,Nat.mul_div_mul_right _ _ (JI _)]
  have:=Nat.div_add_mod (lo*2^s) 18446744073709551616
  rw[e] at this
  have e2:(hi*18446744073709551616+lo)*2^s=hi*2^s*18446744073709551616+lo*2^s:=by
   rw[Jx,JE]
  rw[e2,Jx]
  clear hp e e2 hlt h1
  generalize lo*2^s % 18446744073709551616=C at *
  generalize lo / 2^(64-s)=A at *
  generalize hi*2^s=B at *
  generalize lo*2^s=D at *
  omega
open Go
theorem qen {Y y1 y0 u d:Nat}(hY:Y=y1*4294967296+y0)(h1:0<y1)(hd:d<4294967296):u*4294967296+d<(u / y1+1)*Y:=by
 have hle:y1*4294967296<=Y:=by omega
 have h:u<(u / y1+1)*y1:=by
  have:=Nat.lt_div_mul_add h1 (a:=u)
  rw[Jx,Nat.one_mul]
  exact this
 have h2:(u+1)*4294967296<=(u / y1+1)*y1*4294967296:=Jw _ h
 have h3:(u / y1+1)*y1*4294967296<=(u / y1+1)*Y:=by
  rw[JA]
  exact JD _ hle
 have h4:=JF h2 h3
 rw[Jx] at h4
 generalize (u / y1+1)*Y=A at *
 clear h2 h3 h hle hY
 omega
theorem qhi {u d q Y R:Nat}(h:u*4294967296+d=q*Y+R)(hR:R<18446744073709551616) :
  IntKind.wrap .u64 (IntKind.wrap .u64 (IntKind.wrap .u64 ((u:Int)*4294967296)+(d:Int))-IntKind.wrap .u64 ((q:Int)*(Y:Int)))=(R:Int):=by
 simp only[q2x]
 rw[Int.emod_add_emod,← Int.sub_emod]
 have e:(u:Int)*4294967296+(d:Int)-(q:Int)*(Y:Int)=(R:Int):=by
  have:=congrArg (fun n:Nat=>(n:Int)) h
  simp only[Ju,Jt] at this
  have h4:(((4294967296:Nat):Int))=4294967296:=by omega
  rw[h4] at this
  generalize (q:Int)*(Y:Int)=A at *
  generalize (u:Int)*4294967296=B at *
  omega
 rw[e]
 exact Int.emod_eq_of_lt (by omega) (by omega)
theorem kn_lt {u d q Y:Nat}(h:q*Y<=u*4294967296+d)(hu:u<Y)(hd:d<4294967296):q<4294967296:=by
 rcases JH q 4294967296 with hq | hq
 ·exact hq
 ·have h1:4294967296*Y<=q*Y:=Jw _ hq
  generalize q*Y=A at *
  omega
open Go
def Rs (w:World)(l:List (Nat × List Value)):Prop:=∀ p∈l,Row w p.1 p.2
def Mem (w0 w:World)(l:List (Nat × List Value)):Prop :=
 Fr F0 w0 w/\Rs w l/\(l.map (·.1)).Pairwise (·>·)/\∀ p∈l,w0.heap.size<=p.1
section
variable {w0 w w':World}{l:List (Nat × List Value)}
theorem Rs.ld {b i:Nat}{cs:List Value}{v:Value}(h:Rs w l)(j:Nat)(hj:l[j]?=some (b,cs):=by exact rfl)(hv:cs[i]?=some v:=by exact rfl):w.cell? ⟨b,i,none⟩=some v :=
 (h _ (J5 hj)).at hv
theorem Mem.nil:Mem w w []:=⟨Fr.refl,(by intro p hp; cases hp),List.Pairwise.nil,(by intro p hp; cases hp)⟩
theorem Mem.alloc {cs:Array Value}{e:TypeId}(h:Mem w0 w l):Mem w0 (w.alloc (Obj.cells cs e)) ((w.heap.size,cs.toList) :: l):=by
 obtain⟨hf,hr,hp,hb⟩:=h
 refine⟨hf.trans (G:=F0) Fr.alloc fun b hb _=>hb.elim,fun p hp=>?_,?_,fun p hp=>?_⟩
 ·rcases Jl.1 hp with rfl | hp
  ·exact Row.new (cs:=cs.toList)
  ·exact(hr p hp).congr (q68 (hr p hp).lt)
 ·simp only[List.map_cons,List.pairwise_cons]
  refine⟨fun b hb=>?_,hp⟩
  obtain⟨p,hp,rfl⟩:=Jo.1 hb
  exact(hr p hp).lt
 ·rcases Jl.1 hp with rfl | hp
  ·exact hf.1
  ·exact hb p hp
theorem Mem.fr (h:Mem w0 w l)(hf:Fr F0 w w'):Mem w0 w' l:=by
 obtain⟨h1,hr,hp,hb⟩:=h
 exact⟨h1.trans hf fun b hb _=>hb.elim,fun p hp=>hf.row (hr p hp) fun h=>h,hp,hb⟩
theorem Mem.drew (h:Mem w0 w l):Mem w0 w.drew l:=h.fr Fr.drew
theorem Mem.ld {b i:Nat}{cs:List Value}{v:Value}(h:Mem w0 w l)(j:Nat)(hj:l[j]?=some (b,cs):=by exact rfl)(hv:cs[i]?=some v:=by exact rfl):w.cell? ⟨b,i,none⟩=some v :=
 h.2.1.ld j hj hv
theorem Mem.wr {b i:Nat}{cs:List Value}(h:Mem w0 w l)(j:Nat)(hj:l[j]?=some (b,cs):=by exact rfl)(hi:Nat.blt i cs.length=true:=by exact rfl):wrOk w ⟨b,i,none⟩ :=
 (h.2.1 _ (J5 hj)).wr (by simpa [Nat.blt_eq] using hi)
theorem Mem.set {b i:Nat}{cs:List Value}{v:Value}(h:Mem w0 w l)(j:Nat)(hj:l[j]?=some (b,cs):=by exact rfl):Mem w0 (w.setCell ⟨b,i,none⟩ v) (l.set j (b,cs.set i v)):=by
 obtain⟨h1,hr,hp,hb⟩:=h
 obtain⟨hlt,hge⟩:=J0.1 hj
 have hmem:=J5 hj
 have hmap:(l.set j (b,cs.set i v)).map (·.1)=l.map (·.1):=by
  rw[Jp]
  apply Jf
  intro k
  rw[J9]
  split
  ·rename_i hk
   subst hk
   simp[hlt,hge]
  ·rfl
 refine⟨h1.trans (Fr.set (F:=fun c=>c=b) rfl) fun c hc hlt'=>?_,fun p hp'=>?_,by rw[hmap]; exact hp,fun p hp'=>?_⟩
 ·have:=hb _ hmem
  simp only at this hc
  omega
 ·obtain⟨k,hk,rfl⟩:=List.mem_iff_getElem.1 hp'
  rw[List.getElem_set]
  split
  ·exact(hr _ hmem).set i v
  ·rename_i hjk
   simp only[Jh] at hk
   have hm:l[k]∈l:=List.getElem_mem hk
   refine(hr _ hm).congr (q0r ?_)
   rw[List.pairwise_iff_getElem] at hp
   intro he
   rcases JH j k with hlt2 | hge2
   ·have:=hp j k (by simpa using hlt) (by simpa using hk) hlt2
    simp only[Jm,hge] at this
    simp only at he
    omega
   ·have:=hp k j (by simpa using hk) (by simpa using hlt) (by omega)
    simp only[Jm,hge] at this
    simp only at he
    omega
 ·rcases List.mem_or_eq_of_mem_set hp' with hp' | rfl
  ·exact hb p hp'
  ·have:=hb _ hmem
   exact this
theorem q5p {b:Nat}{x y:Value}{k1 k2:IntKind}{a c:Int}{ok:Bool}{K:Int->Int->Bool->World->Prop}(m:Mem w0 w l)(j:Nat)(hj:l[j]?=some (b,[x,y]))(hK:∀ w',Fr F0 w0 w'->K a c ok w') :
  wrOk w (Addr.mk b 0 none)/\(let w4:World:=w.setCell (Addr.mk b 0 none) (Value.int k1 a)
   wrOk w4 (Addr.mk b 1 none)/\(let w5:World:=w4.setCell (Addr.mk b 1 none) (Value.int k2 c)
    ∃ x6:Int,w5.cell? (Addr.mk b 0 none)=some (Value.int k1 x6)/\∃ x7:Int,w5.cell? (Addr.mk b 1 none)=some (Value.int k2 x7)/\K x6 x7 ok w5)):=by
 have hl:j<l.length:=(J0.1 hj).1
 refine⟨m.wr j hj rfl,?_⟩
 intro w2
 have m:Mem w0 w2 _:=m.set j hj
 refine⟨m.wr j (cs:=[Value.int k1 a,y]) (by simp[hl]) rfl,?_⟩
 intro w3
 have m:Mem w0 w3 _:=m.set j (cs:=[Value.int k1 a,y]) (by simp[hl])
 exact⟨_,m.ld j (cs:=[Value.int k1 a,Value.int k2 c]) (by simp[hl]) rfl,_,m.ld j (cs:=[Value.int k1 a,Value.int k2 c]) (by simp[hl]) rfl,hK w3 m.1⟩
theorem put2 {b:Nat}{x y:Value}{k1 k2:IntKind}{a c:Int}{K:Int->Int->World->Prop}(m:Mem w0 w l)(j:Nat)(hj:l[j]?=some (b,[x,y]))(hK:∀ w',Fr F0 w0 w'->K a c w') :
  wrOk w (Addr.mk b 0 none)/\(let w4:World:=w.setCell (Addr.mk b 0 none) (Value.int k1 a)
   wrOk w4 (Addr.mk b 1 none)/\(let w5:World:=w4.setCell (Addr.mk b 1 none) (Value.int k2 c)
    ∃ x6:Int,w5.cell? (Addr.mk b 0 none)=some (Value.int k1 x6)/\∃ x7:Int,w5.cell? (Addr.mk b 1 none)=some (Value.int k2 x7)/\K x6 x7 w5)) :=
 q5p (K:=fun a c _ w=>K a c w) (ok:=true) m j hj hK
theorem put3 {b:Nat}{x y z:Value}{a c:Int}{e:Bool}{K:Bool->Int->Int->World->Prop}(m:Mem w0 w l)(j:Nat)(hj:l[j]?=some (b,[x,y,z]))(hK:∀ w',Fr F0 w0 w'->K e a c w') :
  wrOk w (Addr.mk b 0 none)/\(let w4:World:=w.setCell (Addr.mk b 0 none) (Value.bool e)
   wrOk w4 (Addr.mk b 1 none)/\(let w5:World:=w4.setCell (Addr.mk b 1 none) (Value.int .u64 a)
    wrOk w5 (Addr.mk b 2 none)/\(let w6:World:=w5.setCell (Addr.mk b 2 none) (Value.int .u64 c)
     ∃ x5:Bool,w6.cell? (Addr.mk b 0 none)=some (Value.bool x5)/\∃ x6:Int,w6.cell? (Addr.mk b 1 none)=some (Value.int .u64 x6)/\∃ x7:Int,w6.cell? (Addr.mk b 2 none)=some (Value.int .u64 x7)/\K x5 x6 x7 w6))):=by
 have hl:j<l.length:=(J0.1 hj).1
 refine⟨m.wr j hj rfl,?_⟩
 intro w2
 have m:Mem w0 w2 _:=m.set j hj
 refine⟨m.wr j (cs:=[Value.bool e,y,z]) (by simp[hl]) rfl,?_⟩
 intro w3
 have m:Mem w0 w3 _:=m.set j (cs:=[Value.bool e,y,z]) (by simp[hl])
 refine⟨m.wr j (cs:=[Value.bool e,.int .u64 a,z]) (by simp[hl]) rfl,?_⟩
 intro w4
 have m:Mem w0 w4 _:=m.set j (cs:=[Value.bool e,.int .u64 a,z]) (by simp[hl])
 exact⟨_,m.ld j (cs:=[Value.bool e,Value.int .u64 a,Value.int .u64 c]) (by simp[hl]) rfl,_,m.ld j (cs:=[Value.bool e,Value.int .u64 a,Value.int .u64 c]) (by simp[hl]) rfl,_,m.ld j (cs:=[Value.bool e,Value.int .u64 a,Value.int .u64 c]) (by simp[hl]) rfl,hK w4 m.1⟩
theorem Mem.sub {m:List (Nat × List Value)}(h:Mem w0 w l)(k:Nat)(hk:l.drop k=m:=by exact rfl):Rs w m:=fun p hp=>h.2.1 p (J6 (hk ▸ hp))
end
open Go
theorem Mem.allocL {w0 w:World}{l:List (Nat × List Value)}{cs:List Value}{e:TypeId}(h:Mem w0 w l):Mem w0 (w.alloc (Obj.cells cs.toArray e)) ((w.heap.size,cs) :: l):=h.alloc
open Go
theorem q7y {α:Type}{l:List α}{j:Nat}{a:α}(h:l[j]?=some a):l.set j a=l:=by
 obtain⟨h1,h2⟩:=J0.1 h
 rw[← h2]
 exact List.set_getElem_self h1
theorem qhj {w0:World}{b:Nat}{K:World->Prop}{l:List (Nat × List Value)}(j:Nat):∀ (vs:List Value) (i:Nat) (w:World) (l:List (Nat × List Value)) (cs:List Value),Mem w0 w l->l[j]?=some (b,cs)->i+vs.length<=cs.length ->
  (∀ w',Mem w0 w' (l.set j (b,cs.take i++vs++cs.drop (i+vs.length)))->K w')->stN.go ⟨b,0,none⟩ K vs i w
 | [],i,w,l,cs,m,hj,hi,hK=>by
  refine hK w ?_
  have e:cs.take i++[]++cs.drop (i+([]:List Value).length)=cs:=by simp
  rw[e,q7y hj]
  exact m
 | v :: vs,i,w,l,cs,m,hj,hi,hK=>by
  simp only[Jc] at hi
  unfold stN.go
  have hl:j<l.length:=(J0.1 hj).1
  simp only[q1q,Jz]
  refine⟨m.wr j hj (by simp[Nat.blt_eq]; omega),?_⟩
  refine qhj (l:=l) j vs (i+1) _ (l.set j (b,cs.set i v)) (cs.set i v) (m.set j hj) (by simp[hl]) (by simp; omega) fun w' m'=>hK w' ?_
  have e:(cs.set i v).take (i+1)++vs++(cs.set i v).drop (i+1+vs.length)=cs.take i++v :: vs++cs.drop (i+(v :: vs).length):=by
   apply Jf
   intro k
   have h3:min (i+1) cs.length=i+1:=by omega
   have h4:min i cs.length=i:=by omega
   simp only[J4,Jk,List.length_take,Jh,Jc,h3,h4,J8,List.getElem?_drop,J9]
   by_cases h1:k<i
   ·rw[if_pos (by omega),if_pos (by omega),if_pos (by omega),if_neg (by omega),if_pos (by omega),if_pos (by omega),if_pos h1]
   ·by_cases h2:k=i
    ·subst h2
     rw[if_pos (by omega),if_pos (by omega),if_pos (by omega),if_pos rfl,if_pos (by omega),if_pos (by omega),if_neg (by omega)]
     simp
    ·by_cases h5:k<i+1+vs.length
     ·rw[if_pos (by omega),if_neg (by omega),if_pos (by omega),if_neg (by omega)]
      have:k-i=(k-(i+1))+1:=by omega
      rw[this,Jg]
     ·rw[if_neg (by omega),if_neg (by omega),if_neg (by omega)]
      congr 1
      omega
  rw[List.set_set,e] at m'
  exact m'
theorem q19 {w0 w:World}{l:List (Nat × List Value)}{zs vs:List Value}{e:TypeId}{K:World->Prop}(hl:zs.length=vs.length)(m:Mem w0 w l)(hK:∀ w',Mem w0 w' ((w.heap.size,vs) :: l)->K w') :
  (let w1:World:=w.alloc (Obj.cells zs.toArray e)
  stN w1 ⟨w.heap.size,0,none⟩ vs K):=by
 intro w1
 have m1:Mem w0 w1 ((w.heap.size,zs) :: l):=m.allocL
 refine qhj (l:=l) 0 vs 0 w1 _ zs m1 rfl (by omega) fun w' m'=>hK w' ?_
 have e:zs.take 0++vs++zs.drop (0+vs.length)=vs:=by simp[hl]
 rw[e,List.set_cons_zero] at m'
 exact m'
open Go
theorem Mem.dr {w0 w:World}{l m:List (Nat × List Value)}(h:Mem w0 w l)(k:Nat)(hk:l.drop k=m:=by exact rfl):Mem w0 w m:=by
 subst hk
 obtain⟨h1,h2,h3,h4⟩:=h
 refine⟨h1,fun p hp=>h2 p (J6 hp),?_,fun p hp=>h4 p (J6 hp)⟩
 rw[List.map_drop]
 exact h3.sublist (List.drop_sublist _ _)
theorem Mem.skip {w0 w:World}{l m:List (Nat × List Value)}(h:Mem w0 w l)(k a:Nat)(hk:(l.eraseIdx k).drop a=m):Rs w m:=by
 subst hk
 exact fun p hp=>h.2.1 p (List.mem_of_mem_eraseIdx (J6 hp))
theorem Mem.row {w0 w:World}{l:List (Nat × List Value)}{b:Nat}{cs:List Value}(h:Mem w0 w l)(j:Nat)(hj:l[j]?=some (b,cs):=by exact rfl):Row w b cs:=h.2.1 _ (J5 hj)
theorem q22 {w0 w:World}{l:List (Nat × List Value)}{b:Nat}{cs vs:List Value}{K:World->Prop}(m:Mem w0 w l)(j:Nat)(hj:l[j]?=some (b,cs))(hl:cs.length=vs.length)(hK:∀ w',Mem w0 w' (l.set j (b,vs))->K w'):stN w ⟨b,0,none⟩ vs K:=by
 refine qhj (l:=l) j vs 0 w l cs m hj (by omega) fun w' m'=>hK w' ?_
 have e:cs.take 0++vs++cs.drop (0+vs.length)=vs:=by simp[← hl]
 rw[e] at m'
 exact m'
open Go
theorem q0d {α:Type}{n:Nat}{enc:α->List Value}(hn:∀ a,(enc a).length=n):∀ l:List α,(l.flatMap enc).length=l.length*n
 | []=>by simp
 | a :: l=>by simp[q0d hn l,hn,Jx,Nat.add_comm]
theorem fm_at {α:Type}{n:Nat}{enc:α->List Value}(hn:∀ a,(enc a).length=n):∀ (l:List α) (i k:Nat) (a:α),l[i]?=some a->k<n->(l.flatMap enc)[i*n+k]?=(enc a)[k]?
 | [],i,k,a,h,_=>by simp at h
 | b :: l,0,k,a,h,hk=>by
  simp at h
  subst h
  simp only[J7,Nat.zero_mul,Jz]
  rw[Je (by rw[hn]; exact hk)]
 | b :: l,i+1,k,a,h,hk=>by
  have:=fm_at hn l i k a h hk
  simp only[J7]
  rw[Jd (by rw[hn,Jx]; omega),hn,← this]
  congr 1
  rw[Jx]; omega
theorem q7j {α:Type}(g:α->Value):∀ l:List α,l.flatMap (fun a=>[g a])=l.map g
 | []=>rfl
 | a :: l=>by simp[q7j g l]
structure Vw {α:Type}(n:Nat)(enc:α->List Value)(w:World)(s:Sl)(l:List α):Prop where
 len:s.l=l.length
 cap:s.l<=s.c
 rd:rdC w s.p (s.l*n) (l.flatMap enc)
section
variable {α:Type}{n:Nat}{enc:α->List Value}{w w' w0:World}{s x:Sl}{l m:List α}
theorem Vw.fr (h:Vw n enc w s l)(hf:Fr F0 w w'):Vw n enc w' s l:=⟨h.len,h.cap,qkt h.rd hf fun _ _ hh=>hh⟩
theorem Vw.frF {F:Nat->Prop}(h:Vw n enc w s l)(hf:Fr F w w')(hd:∀ b,inB s b->¬F b):Vw n enc w' s l:=⟨h.len,h.cap,qkt h.rd hf fun a ha=>hd _ ⟨a,ha,rfl⟩⟩
theorem Vw.nil:Vw n enc w ⟨none,0,0⟩ ([]:List α):=⟨rfl,Jy _,by simp[rdC]⟩
theorem Vw.at (h:Vw n enc w s l)(hn:∀ a,(enc a).length=n){i:Nat}{a:α}(hi:l[i]?=some a):(0<n->∃ ad,s.p=some ad/\∀ k v,(enc a)[k]?=some v->w.cell? ((ad.add (i*n)).add k)=some v):=by
 intro hn0
 have hlt:i<l.length:=(J0.1 hi).1
 obtain⟨hlen,hrd⟩:=h.rd
 have hl:=h.len
 have hpos:0<s.l*n:=Nat.mul_pos (by omega) hn0
 cases hp:s.p with
 | none =>
  rw[hp] at hrd
  simp only at hrd
  omega
 | some ad =>
  rw[hp] at hrd
  simp only at hrd
  refine⟨ad,rfl,fun k v hv=>?_⟩
  have hk:k<n:=by
   have:=(J0.1 hv).1
   rw[hn] at this
   exact this
  have h1:=fm_at hn l i k a hi hk
  rw[hv] at h1
  obtain⟨h2,h3⟩:=J0.1 h1
  have:=hrd _ h2
  rw[h3] at this
  rw[qgt]
  exact this
theorem Vw.ne (h:Vw n enc w s l)(hn:∀ a,(enc a).length=n)(hn0:0<n)(hl:0<l.length):∃ ad,s.p=some ad:=by
 obtain⟨ad,h1,_⟩:=h.at hn (J1 hl) hn0
 exact⟨ad,h1⟩
theorem Vw.take (h:Vw n enc w s l)(hn:∀ a,(enc a).length=n){j:Nat}(hj:j<=l.length):Vw n enc w ⟨subP s.p 0 s.c n,j-0,s.c-0⟩ (l.take j):=by
 have hl:=h.len
 have hc:=h.cap
 refine⟨by simp; omega,by simp; omega,?_⟩
 simp only[JK]
 have hlen:((l.take j).flatMap enc).length=j*n:=by rw[q0d hn]; simp; rw[Nat.min_eq_left hj]
 refine⟨hlen,?_⟩
 have hp:subP s.p 0 s.c n=s.p:=by
  unfold subP
  split
  ·rfl
  ·cases s.p with
   | none=>rfl
   | some a=>simp[Addr.add]
 rw[hp]
 obtain⟨h1,h2⟩:=h.rd
 have hpre:(l.take j).flatMap enc=(l.flatMap enc).take (j*n):=by
  have h3:l.flatMap enc=(l.take j).flatMap enc++(l.drop j).flatMap enc:=by rw[← Ji,List.take_append_drop]
  rw[h3,J2 (by omega)]
  exact(J3 (by omega)).symm
 cases hs:s.p with
 | none =>
  rw[hs] at h2
  simp only at h2 ⊢
  rw[hl] at h2
  have:=Jw n hj
  omega
 | some a =>
  rw[hs] at h2
  simp only at h2 ⊢
  intro i hi
  have h3:=h2 i (by rw[q0d hn]; have:=Jw n hj; omega)
  rw[h3]
  congr 1
  have h4:((l.take j).flatMap enc)[i]?=((l.flatMap enc).take (j*n))[i]?:=by rw[hpre]
  rw[J8,if_pos (by omega)] at h4
  rw[J1 hi,J1 (by rw[q0d hn]; have:=Jw n hj; omega)] at h4
  exact(Option.some.inj h4).symm
structure Ow {α:Type}(n:Nat)(enc:α->List Value)(w:World)(s:Sl)(l:List α):Prop where
 len:s.l=l.length
 own:OwnV n w s (l.flatMap enc)
theorem Ow.vw (h:Ow n enc w s l):Vw n enc w s l:=by
 refine⟨h.len,?_,h.own.rd⟩
 obtain⟨_,h1 | ⟨_,_,_,_,_,h2,_⟩⟩:=h.own
 ·omega
 ·exact h2
theorem Ow.fr (h:Ow n enc w s l)(hf:Fr F0 w w'):Ow n enc w' s l:=⟨h.len,h.own.fr hf fun _ _ hh=>hh⟩
theorem Ow.frF {F:Nat->Prop}(h:Ow n enc w s l)(hf:Fr F w w')(hd:∀ b,inB s b->¬F b):Ow n enc w' s l:=⟨h.len,h.own.fr hf hd⟩
theorem Ow.app {bytes:Nat}{zero:List Value}{e:Nat}{K:SW}(h:Ow n enc w s l)(hx:Vw n enc w x m)(hok:∀ a,∀ v∈enc a,okC v=true)(hz:zero.length=n)
  (hb:(l.length+m.length)*bytes<=2^47) (hm:l.length+m.length<2^63)
  (hK:∀ r w',Ow n enc w' r (l++m)->Fr (inB s) w w'->(∀ b,inB r b->inB s b\/w.heap.size<=b)->K r w'):apS n bytes zero e s x w K:=by
 have h1:=h.len
 have h2:=hx.len
 refine ql6 h.own hx.rd (fun v hv=>?_) hz (by rw[h1,h2]; exact hb) (by rw[h1,h2]; exact hm) fun r w' ho hr hf hi=>hK r w' ⟨by rw[hr,h1,h2]; simp,by rw[Ji]; exact ho⟩ hf hi
 obtain⟨a,_,ha⟩:=List.mem_flatMap.1 hv
 exact hok a v ha
theorem Vw.new {a:α}{cs:Array Value}{e:TypeId}(hn:(enc a).length=n)(hc:cs=(enc a).toArray):Vw n enc (w.alloc (Obj.cells cs e)) ⟨some ⟨w.heap.size,0,none⟩,1,1⟩ [a]:=by
 subst hc
 refine⟨rfl,Jy _,by simp[hn],?_⟩
 intro i hi
 simp only[J7,List.flatMap_nil,List.append_nil] at hi ⊢
 rw[q1q,Jz,(Row.new (w:=w) (e:=e) (cs:=enc a)).cell]
 exact J1 hi
theorem Ow.new {a:α}{cs:Array Value}{e:TypeId}(hn:(enc a).length=n)(hc:cs=(enc a).toArray):Ow n enc (w.alloc (Obj.cells cs e)) ⟨some ⟨w.heap.size,0,none⟩,1,1⟩ [a]:=by
 subst hc
 refine⟨rfl,by simp[hn],.inr ⟨w.heap.size,enc a,rfl,Row.new,by simp[hn],Jy _,by simp⟩⟩
structure Mk {α:Type}(w0:World)(n:Nat)(enc:α->List Value)(w:World)(s:Sl)(l:List α):Prop where
 fr0:Fr F0 w0 w
 ow:Ow n enc w s l
 nw:∀ b,inB s b->w0.heap.size<=b
theorem Mk.vw (h:Mk w0 n enc w s l):Vw n enc w s l:=h.ow.vw
theorem Mk.len (h:Mk w0 n enc w s l):s.l=l.length:=h.ow.len
theorem Mk.fr (h:Mk w0 n enc w s l)(hf:Fr F0 w w'):Mk w0 n enc w' s l:=⟨h.fr0.trans hf fun _ hb _=>hb,h.ow.fr hf,h.nw⟩
theorem Mk.nil (hf:Fr F0 w0 w):Mk w0 n enc w ⟨none,0,0⟩ ([]:List α):=⟨hf,⟨rfl,by simpa using OwnV.nil⟩,fun b ⟨a,ha,_⟩=>by cases ha⟩
theorem Mk.new {a:α}{cs:Array Value}{e:TypeId}(hf:Fr F0 w0 w)(hn:(enc a).length=n)(hc:cs=(enc a).toArray):Mk w0 n enc (w.alloc (Obj.cells cs e)) ⟨some ⟨w.heap.size,0,none⟩,1,1⟩ [a] :=
 ⟨hf.trans (G:=F0) Fr.alloc fun _ hb _=>hb,Ow.new hn hc,fun b ⟨a,ha,hb⟩=>by cases ha; subst hb; exact hf.1⟩
theorem Mk.app {bytes:Nat}{zero:List Value}{e:Nat}{K:SW}(h:Mk w0 n enc w s l)(hx:Vw n enc w x m)(hok:∀ a,∀ v∈enc a,okC v=true)(hz:zero.length=n)
  (hb:(l.length+m.length)*bytes<=2^47) (hm:l.length+m.length<2^63)
  (hK:∀ r w',Mk w0 n enc w' r (l++m)->Fr (inB s) w w'->K r w'):apS n bytes zero e s x w K :=
 h.ow.app hx hok hz hb hm fun r w' ho hf hi=>hK r w' ⟨h.fr0.trans hf fun b hb hlt=>absurd (h.nw b hb) (by omega),ho,fun b hb=>by
  rcases hi b hb with h1 | h1
  ·exact h.nw b h1
  ·exact JF h.fr0.1 h1⟩ hf
theorem Mk.push {a:α}{cs:Array Value}{bytes:Nat}{zero:List Value}{e e':Nat}{K:SW}(h:Mk w0 n enc w s l)(hc:cs=(enc a).toArray)(hn:(enc a).length=n)(hok:∀ a,∀ v∈enc a,okC v=true)(hz:zero.length=n)
  (hb:(l.length+1)*bytes<=2^47) (hm:l.length+1<2^63)
  (hK:∀ r w',Mk w0 n enc w' r (l++[a])->Fr (inB s) w w'->K r w'):apS n bytes zero e s ⟨some ⟨w.heap.size,0,none⟩,1,1⟩ (w.alloc (Obj.cells cs e')) K:=by
 have h':=h.fr (Fr.alloc (o:=Obj.cells cs e'))
 exact h'.app (m:=[a]) (Vw.new hn hc) hok hz hb hm fun r w' ho hf=>hK r w' ho<|(Fr.alloc (F:=inB s)).trans hf fun b hb _=>hb
theorem Mk.make {z:α}{bytes:Nat}{zero:List Value}{e:Nat}{k:Int}{K:SW}(hf:Fr F0 w0 w)(hz:zero=enc z)(hn:(enc z).length=n)(h0:0<=k)(h1:k<2^63)(h2:k*bytes<=2^48)
  (hK:∀ r w',Mk w0 n enc w' r (Jb k.toNat z)->Fr F0 w w'->K r w'):mkS bytes zero e k k w K:=by
 subst hz
 have key:rowZ (enc z) (k.toNat*(enc z).length)=(Jb k.toNat z).flatMap enc:=by
  generalize k.toNat=j
  clear h0 h1 h2 hK
  have hlen:((Jb j z).flatMap enc).length=j*n:=by
   clear hf
   induction j with
   | zero=>simp
   | succ j ih=>simp only[Jj,J7,Jk,ih,hn,Jx]; omega
  apply List.ext_getElem
  ·rw[q37,hlen,hn]
  ·intro i h1 h2
   have hn0:0<n:=by
    rcases Nat.eq_zero_or_pos n with h | h
    ·rw[q37,hn,h] at h1; omega
    ·exact h
   rw[hlen] at h2
   have h3:∀ (j i:Nat),i<j*n->((Jb j z).flatMap enc)[i]?=(enc z)[i % n]?:=by
    intro j
    induction j with
    | zero=>intro i hi; simp at hi
    | succ j ih =>
     intro i hi
     simp only[Jj,J7]
     rcases JH i n with hin | hin
     ·rw[Je (by omega),JB hin]
     ·rw[Jd (by omega),hn,ih _ (by rw[Jx] at hi; omega),Nat.mod_eq_sub_mod hin]
   have h4:=h3 j i h2
   have h5:i % n<(enc z).length:=by rw[hn]; exact Nat.mod_lt _ hn0
   rw[J1 h5,J1 (by rw[hlen]; exact h2)] at h4
   rw[Option.some.inj h4]
   simp[rowZ,hn,Nat.mod_lt _ hn0]
 refine⟨h0,Int.le_refl _,h1,h2,hK _ _ ⟨hf.trans (G:=F0) Fr.alloc fun _ hb _=>hb,⟨by simp[q8c],?_⟩,fun b ⟨a,ha,hb⟩=>by cases ha; subst hb; exact hf.1⟩ Fr.alloc⟩
 rw[key]
 have hl:((Jb k.toNat z).flatMap enc).length=k.toNat*n:=by rw[← key,q37,hn]
 exact⟨by simp[q8c,hl],.inr ⟨w.heap.size,_,rfl,Row.new,by simp[q8c,hl],Jy _,J3 (Jy _)⟩⟩
end
def ie {α:Type}(k:IntKind)(f:α->Int):α->List Value:=fun a=>[.int k (f a)]
@[simp] theorem q05 {α:Type}(k:IntKind)(f:α->Int)(a:α):(ie k f a).length=1:=rfl
theorem q1y {α:Type}(k:IntKind)(f:α->Int)(a:α):∀ v∈ie k f a,okC v=true:=by intro v hv; simp[ie] at hv; subst hv; rfl
section
variable {α:Type}{k:IntKind}{f:α->Int}{w w' w0:World}{s x:Sl}{l m:List α}
theorem Vw.ld {i:Int}{K:Int->Prop}(d:α)(h:Vw 1 (ie k f) w s l)(i':Nat)(hi:i=(i':Int))(h1:i'<l.length)(hK:K (f (l.getD i' d))) :
  nz s.p fun a=>(0<=i/\i<(s.l:Nat))/\∃ x:Int,w.cell? (a.add (i.toNat*1))=some (Value.int k x)/\K x:=by
 subst hi
 obtain⟨ad,hp,hc⟩:=h.at (fun a=>q05 k f a) (J1 h1) (by decide)
 have hl:=h.len
 rw[hp]
 refine⟨⟨by omega,by omega⟩,_,hc 0 _ rfl,?_⟩
 rw[List.getD_eq_getElem?_getD,J1 h1] at hK
 exact hK
theorem qa0 (g:α->Value)(l:List α)(i:Nat)(a:α):(l.flatMap fun a=>[g a]).set i (g a)=(l.set i a).flatMap fun a=>[g a]:=by
 rw[q7j,q7j,Jp]
theorem Mk.st {i:Int}(h:Mk w0 1 (ie k f) w s l)(i':Nat)(hi:i=(i':Int))(h1:i'<l.length) :
  ∃ ad,s.p=some ad/\(0<=i/\i<(s.l:Nat))/\wrOk w (ad.add (i.toNat*1))/\∀ a,Mk w0 1 (ie k f) (w.setCell (ad.add (i.toNat*1)) (Value.int k (f a))) s (l.set i' a)/\Fr (inB s) w (w.setCell (ad.add (i.toNat*1)) (Value.int k (f a))):=by
 subst hi
 obtain⟨hl,hown⟩:=h.ow
 obtain⟨hlen,hnil | ⟨b,cs,hp,hrow,hcs,hle,ht⟩⟩:=hown
 ·omega
 ·refine⟨_,hp,⟨by omega,by omega⟩,?_⟩
  simp only[q1q,JJ,Jz,Int.toNat_natCast]
  rw[q0d (fun a=>q05 k f a)] at ht hlen
  have hi:i'<cs.length:=by omega
  refine⟨hrow.wr hi,fun a=>?_⟩
  have hfr:Fr (inB s) w (w.setCell ⟨b,i',none⟩ (Value.int k (f a))):=Fr.set ⟨_,hp,rfl⟩
  refine⟨⟨h.fr0.trans hfr fun c hc hlt=>absurd (h.nw c hc) (by omega),⟨by simp[hl],?_,.inr ⟨b,_,hp,hrow.set i' (Value.int k (f a)),by simp[hcs],hle,?_⟩⟩,h.nw⟩,hfr⟩
  ·rw[q0d (fun a=>q05 k f a)]; simp[hl]
  ·rw[q0d (fun a=>q05 k f a)]
   simp only[Jh,JJ] at ht ⊢
   rw[List.take_set,ht]
   exact qa0 (fun a=>Value.int k (f a)) l i' a
end
theorem Fr0.t {w0 w w':World}(h:Fr F0 w0 w)(h':Fr F0 w w'):Fr F0 w0 w':=h.trans h' fun _ hb _=>hb
end Pw
