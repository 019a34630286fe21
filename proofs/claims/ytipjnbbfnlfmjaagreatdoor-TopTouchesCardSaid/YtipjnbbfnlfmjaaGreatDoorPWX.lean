/- From a body's formula to the contract of its call. Conditions: none. -/
import Derived.Test.YtipjnbbfnlfmjaaGreatDoorPwE
import Derived.ProofKit
import Derived.OpenShut
import Derived.ChangeSame
import Derived.Laws.Externs
import Derived.Shelf.Spec.BitsCarry
import Derived.Lib.Mul64
import Derived.SliceStrings
import Derived.Lib.ItoaMem
import Derived.Lib.AtoiAllCases
import Derived.Lib.IndexBytes
import Derived.Lib.IndexMore
open List renaming getElem?_eq_some_iff->J0,mem_of_getElem?->J1,take_append_of_le_length->J2,getElem?_take->J3,getElem?_append->J4,getElem?_eq_getElem->J5,take_of_length_le->J6,ext_getElem?->J7,getElem?_set->J8,eq_nil_of_length_eq_zero->J9,mem_of_mem_drop->Ja,length_cons->Jb,getElem?_cons_succ->Jc,flatMap_cons->Jd,flatMap_append->Je,getElem?_drop->Jf,mem_singleton->Jg,mem_cons->Jh,getElem_map->Ji,length_set->Jj,mapM_cons->Jk,range'->Jl
open Int renaming eq_ofNat_of_zero_le->Jm,fdiv_eq_ediv_of_nonneg->Jn,natCast_mul->Jo,natCast_add->Jp,natCast_pow->Jq,neg_mul->Jr
open Nat renaming Coprime->Js,mul_le_mul_right->Jt,add_mul->Ju,div_mul_cancel->Jv,gcd->Jw,coprime_div_gcd_div_gcd->Jx,mul_comm->Jy,gcd_pos_of_pos_right->Jz,div_add_mod->JA,mul_assoc->JB,gcd_dvd_left->JC,gcd_dvd_right->JD,mul_le_mul_left->JE,div_lt_iff_lt_mul->JF,le_refl->JG,mul_add->JH,mul_right_comm->JI,zero_add->JJ,dvd_mul_left_of_dvd->JK,mod_eq_of_lt->JL,div_div_eq_div_mul->JM,eq_of_beq_eq_true->JN,mul_add_div->JO,mul_add_mod->JP,gcd_comm->JQ,mul_mul_mul_comm->JR,le_trans->JS,mod_lt->JT,two_pow_pos->JU,mul_ne_zero->JV,strongRecOn->JW,sub_zero->JX,add_zero->JY,lt_or_ge->JZ
namespace Pw
open Go
def resW (P:Program)(σ:St)(w:World):List ResultVar->(List Value->Prop)->Prop
 | [],K=>K []
 | .tmp t :: r,K=>match get σ t with
  | some v=>resW P σ w r fun vs=>K (v :: vs)
  | none=>False
 | .cell a t :: r,K=>match get σ a with
  | some (.pointer (some b))=>ldW P (fun b v=>w.cell? b=some v) t b fun v=>resW P σ w r fun vs=>K (v :: vs)
  | _=>False
def oneV (vs:List Value):Value:=match vs with
 | [v]=>v
 | vs=>.tuple vs.toArray
def retD:List Nat->World->(World->Prop)->Prop
 | [],w,k=>k w
 | d :: D,w,k=>w.heap[d]?=some (.deferred (some []))/\retD D (w.putObj d (.deferred none)) k
def retQ (P:Program)(res:Array ResultVar)(K:VW):Qt
 | .normal,D,σ,w=>retD D w fun w=>resW P σ w res.toList fun vs=>K (oneV vs) w
 | .ret,D,σ,w=>retD D w fun w=>resW P σ w res.toList fun vs=>K (oneV vs) w
 | _,_,_,_=>False
def resF (tmps:Array Value):ResultVar->Sem Value
 | .tmp t=>pure (tmps.getD t undef)
 | .cell a t=>do loadVar t (← asAddr (tmps.getD a undef))
theorem q6a (fn:Func)(tmps:Array Value):results fn tmps=(do
  let vs ← fn.results.mapM (resF tmps)
  pure (if h:vs.size=1 then vs[0] else .tuple vs)):=by
 unfold results
 congr 1
section
variable {P:Program}{n:Nat}{B:List Deferred}
theorem q6b {σ:St}{a:Act}(ha:Agr n B σ a){w:World}:∀ {l:List ResultVar} {K:List Value->Prop},resW P σ w l K ->
  ∃ vs,K vs/\(l.mapM (resF a.tmps)).run P w=.ok vs w
 | [],K,h=>⟨[],h,by simp⟩
 | .tmp t :: r,K,h=>by
  simp only[resW] at h
  split at h
  ·rename_i v hv
   obtain⟨vs,hK,hr⟩:=q6b ha h
   refine⟨_,hK,?_⟩
   have:=ha.2.2 t v hv
   simp only[Jk,Sem.run_bind,resF,Sem.run_pure,Result.andThen_ok,hr]
   simp[this]
  ·exact h.elim
 | .cell c t :: r,K,h=>by
  simp only[resW] at h
  split at h
  ·rename_i b hb
   obtain⟨v,h,hl⟩:=q7k (P:=P) (S:=fun w'=>w'=w) (fun b v hb w' hw'=>by subst hw'; exact hb) h
   obtain⟨vs,hK,hr⟩:=q6b ha h
   refine⟨_,hK,?_⟩
   have:=ha.2.2 c _ hb
   have hg:a.tmps.getD c undef=.pointer (some b):=by simp[this]
   have hadd:(asAddr (.pointer (some b)):Sem Addr).run P w=.ok b w:=rfl
   simp only[Jk,Sem.run_bind,resF,hg,hadd,Result.andThen_ok,hl w rfl,hr,Sem.run_pure]
  ·exact h.elim
theorem q6c {fn:Func}{σ:St}{a:Act}(ha:Agr n B σ a){w:World}{K:VW}(h:resW P σ w fn.results.toList fun vs=>K (oneV vs) w) :
  ∃ v,(results fn a.tmps).run P w=.ok v w/\K v w:=by
 obtain⟨vs,hK,hr⟩:=q6b ha h
 refine⟨_,?_,hK⟩
 rw[q6a,Array.mapM_eq_mapM_toList]
 simp only[Sem.run_bind,Sem.run_map]
 rw[hr]
 simp only[Result.andThen_ok,Sem.run_pure,oneV]
 congr 1
 match vs with
 | []=>simp
 | [v]=>simp
 | v :: u :: r=>simp
theorem q5d:∀ (vs:List Value) (k t:Nat) (v:Value),get (zipS (Jl k vs.length) vs) t=some v->k<=t/\vs[t-k]?=some v
 | [],k,t,v,h=>by simp[zipS,get] at h
 | u :: vs,k,t,v,h=>by
  simp only[Jb,List.range'_succ,zipS] at h
  rw[q4a] at h
  by_cases hk:k=t
  ·subst hk; simp at h; subst h; simp
  ·simp only[hk,if_false] at h
   obtain⟨h1,h2⟩:=q5d vs (k+1) t v h
   refine⟨by omega,?_⟩
   rw[show t-k=(t-(k+1))+1 by omega]
   simpa using h2
def q1d (vs:List Value):St:=zipS (Jl 0 vs.length) vs
theorem q3r {vs:List Value}{m:Nat}(h:vs.length<=m):Agr m [] (q1d vs) { tmps:=vs.toArray++Array.replicate (m-vs.toArray.size) undef,defers:=[] }:=by
 refine⟨by simp; omega,rfl,fun t v ht=>?_⟩
 obtain⟨_,h2⟩:=q5d vs 0 t v ht
 simp only[JX] at h2
 have hlt:t<vs.length:=(J0.1 h2).1
 rw[Array.getElem?_append_left (by simpa using hlt)]
 simpa using h2
theorem q4v {fn:Func}{tmps:Array Value}{R:Ending->World->Prop}{B:List Deferred}:∀ (D:List Nat) (w:World) (k:World->Prop),retD D w k->(∀ w',k w'->LeavesInM Fence.wide 0 P fn tmps R B .returning w') ->
  LeavesInM Fence.wide 0 P fn tmps R (D.map mk++B) .returning w
 | [],w,k,h,hk=>hk w h
 | d :: D,w,k,h,hk=>⟨by simp,.inl ⟨d,_,rfl,run_takeDeferred h.1,q4v D _ k h.2 hk⟩⟩
theorem q0z {Γ:Env}(hm:P.follows .mixedOrders=true)(hΓ:q4t P Γ){f:FuncId}{fn:Func}{code:Code}(hf:P.funcs[f]?=some fn)(hb:fn.body=some code)
  (x:A) (K:VW) (hob:∀ o∈obs P Γ fn.ntmps x code (fun _=>retQ P fn.results K),o.holds P Γ fn.ntmps) {vs:List Value} (hlen:vs.length<=fn.ntmps) {w:World}
  (h:W P Γ fn.ntmps x code [] (retQ P fn.results K) [] (q1d vs) w) (hp:q3n Γ pk=none:=by rfl):Calls P f vs.toArray w fun e w'=>∃ v,e=.returned v/\K v w':=by
 have hΓ:=hΓ.up hp
 refine(callsIn_wide (n:=0)).1 (callsIn_of_wp_marks hf hb trivial (wpIn_mono (sound (r:=none) (m:=0) (B:=[]) (Z:=fun _=>True) hm hΓ x code (fun _=>retQ P fn.results K) (.inl ⟨rfl,fun _=>trivial⟩) hob [] [] (q1d vs) _ w trivial (q3r hlen) h) fun e a w hq=>?_))
 have fin:∀ D σ',Agr fn.ntmps (D.map mk++[]) σ' a->(retD D w fun w=>resW P σ' w fn.results.toList fun vs=>K (oneV vs) w) ->
   LeavesInM Fence.wide 0 P fn a.tmps (fun e w'=>∃ v,e=.returned v/\K v w') a.defers .returning w:=by
  intro D σ' ha' h'
  rw[ha'.2.1]
  refine q4v D w _ h' fun w' hw'=>?_
  obtain⟨v,hr,hK⟩:=q6c ha' hw'
  exact⟨v,hr,v,rfl,hK⟩
 cases e with
 | normal=>obtain⟨D,σ',_,ha',h'⟩:=hq; exact fin D σ' ha' h'
 | ret=>obtain⟨D,σ',_,ha',h'⟩:=hq; exact fin D σ' ha' h'
 | panic c=>exact hq.1.elim
 | outgrown=>exact hq.elim
 | exit id=>obtain⟨_,σ',_,_,h'⟩:=hq; exact h'.elim
 | goto l=>obtain⟨_,σ',_,_,h'⟩:=hq; exact h'.elim
theorem qc9 {Γ:Env}{Pn:List PanicEntry->World->Prop}(hm:P.follows .mixedOrders=true)(hΓ:EnvP P Pn Γ){f:FuncId}{fn:Func}{code:Code}(hf:P.funcs[f]?=some fn)(hb:fn.body=some code)
  (x:A) (hx:noRf x=true) (K:VW) (hob:∀ o∈obs P Γ fn.ntmps x code (fun _=>retQ P fn.results K),o.holds P Γ fn.ntmps) {vs:List Value} (hlen:vs.length<=fn.ntmps) {w:World}
  (h:W P Γ fn.ntmps x code [] (retQ P fn.results K) [] (q1d vs) w):Calls P f vs.toArray w fun e w'=>(∃ v,e=.returned v/\K v w')\/∃ c,e=.panicked c/\Pn c w':=by
 refine(callsIn_wide (n:=0)).1 (callsIn_of_wp_marks hf hb trivial (wpIn_mono (sound (r:=none) (m:=0) (B:=[]) (Z:=fun D=>D=[]) hm hΓ x code (fun _=>retQ P fn.results K) (.inr hx) hob [] [] (q1d vs) _ w rfl (q3r hlen) h) fun e a w hq=>?_))
 have fin:∀ D σ',D=[]->Agr fn.ntmps (D.map mk++[]) σ' a->(retD D w fun w=>resW P σ' w fn.results.toList fun vs=>K (oneV vs) w) ->
   LeavesInM Fence.wide 0 P fn a.tmps (fun e w'=>(∃ v,e=.returned v/\K v w')\/∃ c,e=.panicked c/\Pn c w') a.defers .returning w:=by
  intro D σ' hD ha' h'
  subst hD
  rw[ha'.2.1]
  obtain⟨v,hr,hK⟩:=q6c ha' h'
  exact⟨v,hr,.inl ⟨v,rfl,hK⟩⟩
 cases e with
 | normal=>obtain⟨D,σ',hD,ha',h'⟩:=hq; exact fin D σ' hD ha' h'
 | ret=>obtain⟨D,σ',hD,ha',h'⟩:=hq; exact fin D σ' hD ha' h'
 | panic c =>
  obtain⟨hp,D,hD,hd⟩:=hq
  subst hD
  show LeavesInM _ _ _ _ _ _ a.defers _ _
  rw[hd]
  exact .inr ⟨c,rfl,hp⟩
 | outgrown=>exact hq.elim
 | exit id=>obtain⟨_,σ',_,_,h'⟩:=hq; exact h'.elim
 | goto l=>obtain⟨_,σ',_,_,h'⟩:=hq; exact h'.elim
def panS (Pn:List PanicEntry->World->Prop):Spec:=fun vs w _=>match vs with
 | [v]=>Pn [{ v,recovered:=false }] w
 | _=>False
theorem EnvP.mk2 {Γ:Env}{Pn:List PanicEntry->World->Prop}{f:Nat}{S:Spec}(hf:Nat.beq f pk=false)(h:q4t P Γ)(hp:q3n Γ pk=none)(hs:qc3 P Pn f S):EnvP P Pn ((f,S) :: (pk,panS Pn) :: Γ):=by
 have hup:=h.up hp
 refine⟨fun g T hg hT=>?_,fun T hT v w K hk=>?_⟩
 ·unfold q3n at hT
  split at hT
  ·rename_i hb
   have:=JN hb
   subst this
   cases hT
   exact .inl hs
  ·unfold q3n at hT
   split at hT
   ·rename_i hb
    have:=JN hb
    subst this
    cases hg
   ·exact(qdt h hT).imp_left fun h=>⟨h.1,fun vs w K hk=>(h.2 vs w K hk).mono fun _ _ he=>.inl he⟩
 ·unfold q3n at hT
  rw[hf] at hT
  simp only at hT
  unfold q3n at hT
  have:Nat.beq pk pk=true:=rfl
  rw[this] at hT
  cases hT
  exact hk
end
def obAt (l:List Ob):Nat->Option Ob
 | 0=>match l with
  | []=>none
  | o :: _=>some o
 | k+1=>match l with
  | []=>none
  | _ :: r=>obAt r k
def q0e (P:Program)(Γ:Env)(n:Nat)(l:List Ob)(k:Nat):Prop:=∀ o,obAt l k=some o->o.holds P Γ n
theorem q15 {P:Program}{Γ:Env}{n:Nat}:∀ {l:List Ob},(∀ k,q0e P Γ n l k)->∀ o∈l,o.holds P Γ n
 | [],_,o,ho=>by cases ho
 | x :: r,h,o,ho=>by
  rcases Jh.1 ho with rfl | ho
  ·exact h 0 _ rfl
  ·exact q15 (l:=r) (fun k o' ho'=>h (k+1) o' ho') o ho
theorem q1a {P:Program}{Γ:Env}{n:Nat}:∀ {l:List Ob} {m k:Nat},obAt l m=none->m<=k->q0e P Γ n l k
 | l,m,k,h,hk,o,ho=>by
  exfalso
  have key:∀ (l:List Ob) (m k:Nat),obAt l m=none->m<=k->obAt l k=none:=by
   intro l
   induction l with
   | nil=>intro m k _ _; cases k<;>rfl
   | cons x r ih =>
    intro m k h hk
    cases m with
    | zero=>simp[obAt] at h
    | succ m =>
     obtain⟨k',rfl⟩:∃ k',k=k'+1:=⟨k-1,by omega⟩
     exact ih m k' h (by omega)
  rw[key l m k h hk] at ho
  cases ho
def q1l (P:Program)(Γ:Env)(n:Nat)(l:List Ob)(k:Nat)(ρ:Rho)(vs:List Value)(w:World):Prop :=
 match obAt l k with
 | some o=>o.goal P Γ n ρ vs w
 | none=>False
def q2s (l:List Ob)(k:Nat)(ρ:Rho)(vs:List Value)(w:World):Prop :=
 match obAt l k with
 | some o=>o.L ρ vs w
 | none=>True
def q3l (l:List Ob)(k:Nat):Option Kd :=
 match obAt l k with
 | some o=>some o.kind
 | none=>none
theorem q0q {P:Program}{Γ:Env}{n:Nat}{l:List Ob}{k:Nat}(hl:q3l l k=some .cut\/q3l l k=some .rf)(h:∀ ρ vs w,q2s l k ρ vs w->q1l P Γ n l k ρ vs w):q0e P Γ n l k:=by
 intro o ho
 unfold q3l at hl
 rw[ho] at hl
 have key:∀ ρ vs w,o.L ρ vs w->o.goal P Γ n ρ vs w:=by
  intro ρ vs w hL
  have:=h ρ vs w (by unfold q2s; rw[ho]; exact hL)
  unfold q1l at this
  rw[ho] at this
  exact this
 unfold Ob.holds
 rcases hl with hl | hl
 ·simp only[Option.some.injEq] at hl
  rw[hl]
  exact key
 ·simp only[Option.some.injEq] at hl
  rw[hl]
  exact key
theorem q2k {P:Program}{Γ:Env}{n:Nat}{l:List Ob}{k:Nat}(hl:q3l l k=some .loop)
  (h:∀ ρ vs w,q2s l k ρ vs w->∃ (I:List Value->World->Prop) (μ:List Value->World->Nat),I vs w/\∀ vs w,I vs w->q1l P Γ n l k (mkN I μ vs w :: ρ) vs w):q0e P Γ n l k:=by
 intro o ho
 unfold q3l at hl
 rw[ho] at hl
 simp only[Option.some.injEq] at hl
 unfold Ob.holds
 rw[hl]
 intro ρ vs w hL
 obtain⟨I,μ,h0,hr⟩:=h ρ vs w (by unfold q2s; rw[ho]; exact hL)
 refine⟨I,μ,h0,fun vs w hI=>?_⟩
 have:=hr vs w hI
 unfold q1l at this
 rw[ho] at this
 exact this
theorem q05 {P:Program}{g:Nat}{S:Spec}{first cap:Array Value}{vs:List Value}{w:World}{K:VW}(hs:q22 P g S)(h:S (first.toList++vs++cap.toList) w K):q14 P (.func (.func g) first cap) vs w K:=by
 refine⟨hs.1,?_⟩
 have:=hs.2 _ _ _ h
 have e:first++vs.toArray++cap=(first.toList++vs++cap.toList).toArray:=by
  apply Array.toList_inj.1; simp
 rw[e]
 exact this
def q5e:Code->List Code
 | .seq a b=>q5e a++q5e b
 | .cond _ a b=>q5e a++q5e b
 | .block _ a=>q5e a
 | .loop a=>q5e a
 | .scope a=>q5e a
 | .rangeFunc g ps a b=>.rangeFunc g ps a b :: q5e b
 | _=>[]
def nthC:List Code->Nat->Code
 | [],_=>.skip
 | c :: _,0=>c
 | _ :: r,k+1=>nthC r k
def rfAt (c:Code)(k:Nat):Code:=nthC (q5e c) k
def rfAs:Code->Code
 | .rangeFunc _ _ a _=>a
 | _=>.skip
def rfBd:Code->Code
 | .rangeFunc _ _ _ b=>b
 | _=>.skip
theorem q03 {n:Int}(h0:-9223372036854775808<=n:=by omega)(h1:n<9223372036854775808:=by omega):inR .i64 n:=q58 h0 h1
@[simp] theorem q01 (b o n:Nat):(⟨b,o,none⟩:Addr).add n=⟨b,o+n,none⟩:=by
 unfold Addr.add
 by_cases h:n=0<;>simp[h]
def Row (w:World)(b:Nat)(cs:List Value):Prop :=
 ∃ e f,w.heap[b]?=some (.cells cs.toArray e f)/\∀ i,i<cs.length->¬(f.1<=i/\i<f.2)
section
variable {w w':World}{b:Nat}{cs:List Value}
theorem Row.lt (h:Row w b cs):b<w.heap.size:=by
 obtain⟨e,f,h,_⟩:=h
 exact(Array.getElem?_eq_some_iff.1 h).1
theorem Row.cell (h:Row w b cs)(i:Nat):w.cell? ⟨b,i,none⟩=cs[i]?:=by
 obtain⟨e,f,h,_⟩:=h
 simp[World.cell?,h]
theorem Row.at (h:Row w b cs){i:Nat}{v:Value}(hi:cs[i]?=some v:=by exact rfl):w.cell? ⟨b,i,none⟩=some v:=by rw[h.cell,hi]
theorem Row.wr (h:Row w b cs){i:Nat}(hi:i<cs.length):wrOk w ⟨b,i,none⟩:=by
 refine⟨⟨cs[i],by rw[h.cell]; simp[hi]⟩,?_⟩
 obtain⟨e,f,h,hf⟩:=h
 obtain⟨lo,hi'⟩:=f
 have:=hf i hi
 simp only[World.frozen?,h]
 simp only[not_and,Nat.not_lt] at this
 simp
 exact this
theorem Row.congr (h:Row w b cs)(he:w'.heap[b]?=w.heap[b]?):Row w' b cs:=by
 obtain⟨e,f,h,hf⟩:=h
 exact⟨e,f,by rw[he,h],hf⟩
theorem q4w {a:Addr}{v:Value}(h:a.block≠b):(w.setCell a v).heap[b]?=w.heap[b]?:=by
 simp[World.setCell,Array.getElem?_modify,h]
theorem Row.set (h:Row w b cs)(i:Nat)(v:Value):Row (w.setCell ⟨b,i,none⟩ v) b (cs.set i v):=by
 obtain⟨e,f,h,hf⟩:=h
 refine⟨e,f,?_,by simpa using hf⟩
 simp[World.setCell,Array.getElem?_modify,h]
theorem q33 {o:Obj}(h:b<w.heap.size):(w.alloc o).heap[b]?=w.heap[b]?:=by
 have:b≠w.heap.size:=by omega
 show(w.heap.push o)[b]?=_
 simp[Array.getElem?_push,this]
theorem Row.new {e:TypeId}:Row (w.alloc (.cells cs.toArray e)) w.heap.size cs :=
 ⟨e,(0,0),by show(w.heap.push _)[w.heap.size]?=_; simp,by simp⟩
theorem Row.newF {e:TypeId}{n:Nat}(h:cs.length<=n):Row (w.alloc (.cells cs.toArray e (n,n+1))) w.heap.size cs :=
 ⟨e,(n,n+1),by show(w.heap.push _)[w.heap.size]?=_; simp,fun i hi=>by simp; omega⟩
end
def Fr (F:Nat->Prop)(w w':World):Prop:=w.heap.size<=w'.heap.size/\(∀ b,b<w.heap.size->¬F b->w'.heap[b]?=w.heap[b]?)/\w'.os=w.os/\w'.output=w.output/\w'.tape=w.tape
section
variable {F G:Nat->Prop}{w w1 w2:World}
theorem Fr.refl:Fr F w w:=⟨JG _,fun _ _ _=>rfl,rfl,rfl,rfl⟩
theorem Fr.mono (h:Fr F w w1)(hg:∀ b,F b->G b):Fr G w w1:=⟨h.1,fun b hb hn=>h.2.1 b hb fun hf=>hn (hg b hf),h.2.2⟩
theorem Fr.trans (h:Fr F w w1)(h':Fr G w1 w2)(hg:∀ b,G b->b<w.heap.size->F b):Fr F w w2 :=
 ⟨JS h.1 h'.1,fun b hb hn=>by rw[h'.2.1 b (Nat.lt_of_lt_of_le hb h.1) (fun hG=>hn (hg b hG hb)),h.2.1 b hb hn],by rw[h'.2.2.1,h.2.2.1],by rw[h'.2.2.2.1,h.2.2.2.1],by rw[h'.2.2.2.2,h.2.2.2.2]⟩
theorem Fr.drew:Fr F w w.drew:=⟨JG _,fun _ _ _=>rfl,rfl,rfl,rfl⟩
theorem Fr.alloc {o:Obj}:Fr F w (w.alloc o):=⟨by simp,fun _ hb _=>q33 hb,rfl,rfl,rfl⟩
theorem Fr.set {a:Addr}{v:Value}(h:F a.block):Fr F w (w.setCell a v):=⟨by simp,fun b _ hn=>q4w fun he=>hn (he ▸ h),rfl,rfl,rfl⟩
theorem Fr.row {b:Nat}{cs:List Value}(h:Fr F w w1)(hr:Row w b cs)(hb:¬F b):Row w1 b cs:=hr.congr (h.2.1 b hr.lt hb)
end
def q1r (cs:List Value)(o:Nat)(vs:List Value):List Value:=cs.take o++vs++cs.drop (o+vs.length)
theorem q7p (cs:List Value)(o:Nat)(v:Value)(vs:List Value)(h:o<cs.length):q1r (cs.set o v) (o+1) vs=q1r cs o (v :: vs):=by
 unfold q1r
 apply J7
 intro i
 by_cases h1:i<o
 ·simp[J4,J3,J8,h,h1]
  have:i<o+1:=by omega
  have h2:¬o=i:=by omega
  have h3:min (o+1) cs.length=o+1:=by omega
  have h4:min o cs.length=o:=by omega
  simp[h3,h4,this,h1,h2]
 ·have h3:min (o+1) cs.length=o+1:=by omega
  have h4:min o cs.length=o:=by omega
  by_cases h2:i=o
  ·subst h2
   simp[J4,h3,h4]
  ·obtain⟨k,rfl⟩:∃ k,i=o+1+k:=⟨i-(o+1),by omega⟩
   have e1:o+1+k-(o+1)=k:=by omega
   have e2:o+1+k-o=k+1:=by omega
   have e3:¬(o+1+k<o+1):=by omega
   have e4:¬(o+1+k<o):=by omega
   simp[J4,J8,h3,h4,e1,e2,e3,e4]
   by_cases h5:k<vs.length
   ·simp[h5]
   ·simp[h5]
    have:¬o=o+1+vs.length+(k-vs.length):=by omega
    simp[this]
    congr 1
    omega
theorem q9e (cs:List Value)(o:Nat):q1r cs o []=cs:=by simp[q1r]
theorem q1o (cs:List Value)(o:Nat)(vs:List Value)(h:o+vs.length<=cs.length):(q1r cs o vs).length=cs.length:=by
 simp[q1r]; omega
theorem q4c {a:Addr}:∀ (vs:List Value) (i:Nat) (w:World),(wrC w a i vs).heap.size=w.heap.size
 | [],_,_=>rfl
 | v :: vs,i,w=>by simp only[wrC]; rw[q4c vs]; simp
theorem q9f {a:Addr}:∀ (vs:List Value) (i:Nat) (w:World),(wrC w a i vs).os=w.os
 | [],_,_=>rfl
 | v :: vs,i,w=>by simp only[wrC]; rw[q9f vs]; rfl
theorem q4d {a:Addr}:∀ (vs:List Value) (i:Nat) (w:World),(wrC w a i vs).tape=w.tape
 | [],_,_=>rfl
 | v :: vs,i,w=>by simp only[wrC]; rw[q4d vs]; rfl
theorem q6d {a:Addr}:∀ (vs:List Value) (i:Nat) (w:World),(wrC w a i vs).output=w.output
 | [],_,_=>rfl
 | v :: vs,i,w=>by simp only[wrC]; rw[q6d vs]; rfl
theorem q5f (a:Addr)(n:Nat):(a.add n).block=a.block:=by unfold Addr.add; split<;>rfl
theorem q9g {a:Addr}{b:Nat}(h:a.block≠b):∀ (vs:List Value) (i:Nat) (w:World),(wrC w a i vs).heap[b]?=w.heap[b]?
 | [],_,_=>rfl
 | v :: vs,i,w=>by
  simp only[wrC]
  rw[q9g h vs,q4w (by rw[q5f]; exact h)]
theorem q6e {b o:Nat}:∀ (vs:List Value) (i:Nat) (w:World) (cs:List Value),Row w b cs->o+i+vs.length<=cs.length->Row (wrC w ⟨b,o,none⟩ i vs) b (q1r cs (o+i) vs)
 | [],i,w,cs,h,_=>by simpa [wrC,q9e] using h
 | v :: vs,i,w,cs,h,hl=>by
  simp only[Jb] at hl
  simp only[wrC,q01]
  have:=q6e (o:=o) vs (i+1) _ _ (h.set (o+i) v) (by simp; omega)
  rw[show o+(i+1)=o+i+1 by omega,q7p _ _ _ _ (by omega)] at this
  exact this
def OwnV (size:Nat)(w:World)(s:Sl)(vs:List Value):Prop :=
 vs.length=s.l*size/\((s.p=none/\s.l=0/\s.c=0)\/∃ b cs,s.p=some ⟨b,0,none⟩/\Row w b cs/\cs.length=s.c*size/\s.l<=s.c/\cs.take vs.length=vs)
def inB (s:Sl)(b:Nat):Prop:=∃ a,s.p=some a/\a.block=b
section
variable {size:Nat}{w w':World}{s x:Sl}{vs us:List Value}
theorem OwnV.congr (h:OwnV size w s vs)(hc:∀ b,inB s b->w'.heap[b]?=w.heap[b]?):OwnV size w' s vs:=by
 obtain⟨hl,h | ⟨b,cs,hp,hr,h⟩⟩:=h
 ·exact⟨hl,.inl h⟩
 ·exact⟨hl,.inr ⟨b,cs,hp,hr.congr (hc b ⟨_,hp,rfl⟩),h⟩⟩
theorem OwnV.lt (h:OwnV size w s vs){b:Nat}(hb:inB s b):b<w.heap.size:=by
 obtain⟨a,ha,rfl⟩:=hb
 obtain⟨hl,h | ⟨b,cs,hp,hr,h⟩⟩:=h
 ·rw[h.1] at ha; cases ha
 ·rw[hp] at ha; cases ha; exact hr.lt
theorem OwnV.fr {F:Nat->Prop}(h:OwnV size w s vs)(hf:Fr F w w')(hn:∀ b,inB s b->¬F b):OwnV size w' s vs :=
 h.congr fun b hb=>hf.2.1 b (h.lt hb) (hn b hb)
theorem OwnV.rd (h:OwnV size w s vs):rdC w s.p (s.l*size) vs:=by
 obtain⟨hl,h | ⟨b,cs,hp,hr,hc,hle,ht⟩⟩:=h
 ·refine⟨hl,?_⟩
  rw[h.1]
  simp[h.2.1]
 ·refine⟨hl,?_⟩
  rw[hp]
  intro i hi
  simp only[q01,JJ]
  rw[hr.cell]
  have h1:(cs.take vs.length)[i]?=vs[i]?:=by rw[ht]
  rw[J3] at h1
  simp[hi] at h1
  simp[h1]
theorem OwnV.nil:OwnV size w ⟨none,0,0⟩ []:=⟨by simp,.inl ⟨rfl,rfl,rfl⟩⟩
theorem q4x (zero:List Value)(n:Nat):(rowZ zero n).length=n:=by simp[rowZ]
theorem qo3 {F:Nat->Prop}{p:Option Addr}{n:Nat}(h:rdC w p n vs)(hf:Fr F w w')(hn:∀ a,p=some a->¬F a.block):rdC w' p n vs:=by
 obtain⟨hl,h⟩:=h
 refine⟨hl,?_⟩
 cases p with
 | none=>exact h
 | some a =>
  intro i hi
  have h1:=h i hi
  have hlt:a.block<w.heap.size:=by
   have:=World.block_lt_of_cell? _ _ h1
   rwa [q5f] at this
  have h2:=hf.2.1 a.block hlt (hn a rfl)
  unfold World.cell? at h1 ⊢
  rw[q5f] at h1 ⊢
  rw[h2]
  exact h1
theorem qow {bytes:Nat}{zero:List Value}{e n:Nat}{K:SW}(h:OwnV size w s vs)(hu:us.length=n*size)(hz:zero.length=size)
  (hb:(s.l+n)*bytes<=2^47) (hn:s.l+n<2^63)
  (hK:∀ r w',OwnV size w' r (vs++us)->r.l=s.l+n->Fr (inB s) w w'->(∀ b,inB r b->inB s b\/w.heap.size<=b)->K r w') :
  apG size bytes zero e s n us w K:=by
 have hrd:=h.rd
 obtain⟨hl,h⟩:=h
 constructor
 ·intro hc
  rcases h with⟨hp,hl0,hc0⟩ | ⟨b,cs,hp,hr,hcs,hle,ht⟩
  ·rw[hp]
   have hn0:n=0:=by omega
   subst hn0
   have:us=[]:=J9 (by simpa using hu)
   subst this
   have hvs:vs=[]:=J9 (by rw[hl,hl0]; simp)
   subst hvs
   refine hK _ _ ⟨by simp[hl0],.inl ⟨rfl,by simp[hl0],hc0⟩⟩ rfl Fr.refl fun b hb=>?_
   obtain⟨a,ha,_⟩:=hb
   cases ha
  ·rw[hp]
   simp only[q01,JJ]
   have hfit:s.l*size+us.length<=cs.length:=by
    rw[hu,hcs,← Ju]
    exact Jt _ hc
   refine⟨fun i hi=>?_,?_⟩
   ·simp only[q01]
    exact hr.wr (by omega)
   ·have hrow:=q6e us 0 w cs hr (o:=s.l*size) (by omega)
    simp only[JY] at hrow
    refine hK _ _ ⟨by simp[hl,hu,Ju],.inr ⟨b,_,rfl,hrow,by rw[q1o _ _ _ hfit,hcs],hc,?_⟩⟩ rfl ⟨by rw[q4c]; exact JG _,fun c _ hn=>q9g (a:=⟨b,s.l*size,none⟩) (fun he=>hn ⟨_,hp,he⟩) _ _ _,q9f _ _ _,q6d _ _ _,q4d _ _ _⟩ fun c hc=>?_
    ·rw[← hl]
     unfold q1r
     have:cs.take vs.length=vs:=ht
     rw[this,J2 (by simp)]
     exact J6 (by simp)
    ·obtain⟨a,ha,rfl⟩:=hc
     cases ha
     exact .inl ⟨_,hp,rfl⟩
 ·intro hc
  refine⟨hb,hn,vs,hrd,fun cap hcap=>?_⟩
  have hlen:(vs++us++rowZ zero ((cap-(s.l+n))*zero.length)).length=cap*size:=by
   simp[q4x,hl,hu,hz]
   rw[← Ju,← Ju]
   congr 1
   omega
  refine hK _ _ ⟨by simp[qbu,hl,hu,Ju],.inr ⟨w.heap.size,_,rfl,Row.new (w:=w.drew),by rw[hlen]; rfl,hcap,?_⟩⟩ rfl (Fr.trans Fr.drew (Fr.alloc (F:=inB s)) fun b hb _=>hb) fun b hb=>?_
  ·rw[J2 (by simp)]
   exact J6 (by simp)
  ·obtain⟨a,ha,rfl⟩:=hb
   cases ha
   exact .inr (JG _)
theorem qox {bytes:Nat}{zero:List Value}{e:Nat}{K:SW}(h:OwnV size w s vs)(hx:rdC w x.p (x.l*size) us)(hok:∀ v∈us,okC v=true)(hz:zero.length=size)
  (hb:(s.l+x.l)*bytes<=2^47) (hn:s.l+x.l<2^63)
  (hK:∀ r w',OwnV size w' r (vs++us)->r.l=s.l+x.l->Fr (inB s) w w'->(∀ b,inB r b->inB s b\/w.heap.size<=b)->K r w') :
  apS size bytes zero e s x w K:=⟨us,hx,hok,qow h hx.1 hz hb hn hK⟩
end
theorem Fr.kept {w w':World}(h:Fr (fun _=>False) w w')(may:MemPlace->Prop):w.keptBut w' may:=by
 refine⟨h.2.2.1,h.2.2.2.1,fun i hi=>?_⟩
 rw[h.2.1 i hi fun h=>h]
 cases w.heap[i]? with
 | none=>rfl
 | some o=>cases o<;>simp
def bl (s:ByteArray):List UInt8:=s.data.toList
@[simp] theorem q3s (l:List UInt8):bl (ofL l)=l:=by simp[bl,ofL]
@[simp] theorem qo4 (s:ByteArray):ofL (bl s)=s:=by simp[bl,ofL]
theorem qik (s:ByteArray):(bl s).length=s.size:=by simp[bl]
theorem qil {s t:ByteArray}(h:bl s=bl t):s=t:=by rw[← qo4 s,← qo4 t,h]
@[simp] theorem qim (s t:ByteArray):bl (s++t)=bl s++bl t:=by simp[bl]
theorem q9h (s:ByteArray)(a b:Nat):bl (s.extract a b)=((bl s).take b).drop a:=by
 simp only[bl,ByteArray.data_extract,Array.toList_extract,List.extract_eq_take_drop]
 rw[List.take_drop,List.drop_take]
 apply J7
 intro i
 simp[Jf,J3]
 by_cases h:a+i<b
 ·have:i<b-a:=by omega
  simp[h,this]
 ·have:¬i<b-a:=by omega
  simp[h,this]
section
variable {w w':World}{s x:Sl}{l m:List UInt8}
theorem qoy {K:ByteArray->Prop}(h:rdC w s.p s.l (l.map bv))(hK:K (ofL l)):btsS s w K:=⟨l,h,hK⟩
end
open Go Go.ChangeShapes Go.WideShapes Go.ChangeAt Go.RowKit
theorem Fr.below {w w':World}(h:Fr (fun _=>False) w w'):Below w.heap.size w w' :=
 ⟨h.2.2.1,h.2.2.2.2,h.2.2.2.1,h.1,fun k hk=>h.2.1 k hk fun h=>h⟩
section
variable {H:Type}{enc:TypeId × Value->H}{P:Program}{W W':World}
theorem q5g (hl:laidOutB P=true):∀ {ts:List TypeId} {vs:List Value} {ds:List (DataW H)} {ps:List MemPlace},(∀ t∈ts,P.readableRec t=true/\t<P.types.size) ->
  DataW.TrodAll enc P W 0 (fun _=>true) true ts vs ds ps->Below W.heap.size W W'->(∀ x∈ps,x.block<W.heap.size) ->
  DataW.TrodAll enc P W' 0 (fun b=>decide (b<W.heap.size)) true ts vs ds ps
 | [],vs,ds,ps,_,h,_,_=>by
  obtain⟨rfl,rfl,rfl⟩:=trodAll_nil h
  exact trodAll_mk0
 | t :: ts,vs,ds,ps,ht,h,hb,hlt=>by
  obtain⟨v,vs',d,ds',p,q,rfl,rfl,rfl,h0,hr⟩:=trodAll_cons h
  have h1:=ht t (by simp)
  exact trodAll_cons_mk (Below.trod hl h1.1 h1.2 h0 hb fun x hx=>hlt x (by simp[hx])) (q5g hl (fun t ht'=>ht t (by simp[ht'])) hr hb fun x hx=>hlt x (by simp[hx]))
theorem post_true {f:Func}{s:ChangeSpec}{args:Array Value}{ds gs:List (DataW H)}{before:List MemPlace}{tb:TypeId}(hl:laidOutB P=true)(hts:∀ t∈f.params.toList,P.readableRec t=true/\t<P.types.size)
  (hrt:f.resultTypes=#[tb]) (hb:P.underlying tb=some .bool) (hW:DataW.Whole enc P f.params.toList s.vars false W args.toList ds gs before) (hv:s.vars=[])
  (hres:(s.fn H (ds++gs)).results=[.lit (.bool true)]) (harg:(s.fn H (ds++gs)).args=ds) (hvar:(s.fn H (ds++gs)).vars=[]) (hf:Fr (fun _=>False) W W') :
  s.post enc P f false true false false W args (.bool true) W':=by
 have hW0:=hW
 have hlt:=hW.lt
 obtain⟨p,q,hA,hV,rfl,hfz,hnd⟩:=hW
 rw[hv] at hV
 obtain⟨rfl,rfl⟩:=trodVars_none hV
 refine⟨ds,[],_,[],p,[],hW0,?_,?_,?_,hf.kept _,fun h=>by cases h⟩
 ·rw[hres,hrt]
  exact trodAll_cons_mk (shut_bool hb _) trodAll_mk0
 ·rw[harg]
  exact q5g hl hts hA hf.below fun x hx=>hlt x (by simp[hx])
 ·rw[hvar,hv]
  rfl
end
theorem qo5 {a:Int}(h:(Lit.int .i64 a).wf=true):-9223372036854775808<=a/\a<9223372036854775808:=by
 simp[Lit.wf,IntKind.min,IntKind.max,IntKind.bits,IntKind.signed] at h
 omega
theorem q8v {P:Program}{f:FuncId}{fn:Func}{a b c:Int}{K:VW}{w:World}(hf:P.funcs[f]?=some fn)(h1:(fn.name == "runtime.NumGoroutine")=false)
  (h2:fn.body.isNone=true) (h3:Extern.findNext fn=none) (h4:Extern.find fn=some add64Entry)
  (ha:0<=a) (_:a<18446744073709551616) (hb:0<=b) (_:b<18446744073709551616) (hc:0<=c) (hc':c<=1)
  (hk:K (.tuple #[.int .u64 ((a+b+c) % 18446744073709551616),.int .u64 ((a+b+c) / 18446744073709551616)]) w) :
  ∃ v w',(callFunc f ([Value.int .u64 a,.int .u64 b,.int .u64 c]:List Value).toArray).run P w=.ok (.value v) w'/\K v w':=by
 refine⟨_,w,?_,hk⟩
 rw[run_callFunc_extern hf h1 h2 h3 h4]
 rw[show([Value.int .u64 a,.int .u64 b,.int .u64 c]:List Value).toArray=#[.int .u64 a,.int .u64 b,.int .u64 c] from rfl,run_add64 a b c ha hb hc hc']
 rfl
theorem q8w {P:Program}{f:FuncId}{fn:Func}{a b c:Int}{K:VW}{w:World}(hf:P.funcs[f]?=some fn)(h1:(fn.name == "runtime.NumGoroutine")=false)
  (h2:fn.body.isNone=true) (h3:Extern.findNext fn=none) (h4:Extern.find fn=some Go.Proofs.sub64Entry)
  (ha:0<=a) (ha':a<18446744073709551616) (hb:0<=b) (hb':b<18446744073709551616) (hc:0<=c) (hc':c<=1)
  (hk:K (.tuple #[.int .u64 ((a-b-c) % 18446744073709551616),.int .u64 (if a<b+c then 1 else 0)]) w) :
  ∃ v w',(callFunc f ([Value.int .u64 a,.int .u64 b,.int .u64 c]:List Value).toArray).run P w=.ok (.value v) w'/\K v w':=by
 refine⟨_,w,?_,hk⟩
 rw[run_callFunc_extern hf h1 h2 h3 h4]
 obtain⟨x,rfl⟩:=Jm ha
 obtain⟨y,rfl⟩:=Jm hb
 obtain⟨z,rfl⟩:=Jm hc
 rw[show([Value.int .u64 (x:Int),.int .u64 (y:Int),.int .u64 (z:Int)]:List Value).toArray=#[.int .u64 x,.int .u64 y,.int .u64 z] from rfl,Go.Proofs.run_sub64 x y z (by omega)]
 show Result.ok _ _=_
 have e1:(((x+18446744073709551616-y-z) % 18446744073709551616:Nat):Int)=((x:Int)-y-z) % 18446744073709551616:=by omega
 have e2:((if x<y+z then 1 else 0:Nat):Int)=if (x:Int)<y+z then 1 else 0:=by
  by_cases h:x<y+z
  ·have h':(x:Int)<y+z:=by omega
   simp[h,h']
  ·have h':¬(x:Int)<y+z:=by omega
   simp[h,h']
 rw[e1,e2]
def stN.go (a:Addr)(K:World->Prop):List Value->Nat->World->Prop
 | [],_,w=>K w
 | v :: vs,i,w=>wrOk w (a.add i)/\stN.go a K vs (i+1) (w.setCell (a.add i) v)
def stN (w:World)(a:Addr)(vs:List Value)(K:World->Prop):Prop:=stN.go a K vs 0 w
theorem wu64 (n:Nat):IntKind.wrap .u64 (n:Int)=((n % 18446744073709551616:Nat):Int):=by
 unfold IntKind.wrap
 simp[IntKind.bits,IntKind.signed]
theorem q1h {n:Int}(h0:0<=n)(h1:n<18446744073709551616):IntKind.wrap .u64 n=n:=by
 obtain⟨m,rfl⟩:=Jm h0
 rw[wu64]; omega
theorem qad (n:Int):IntKind.wrap .u64 n=n % 18446744073709551616:=by
 unfold IntKind.wrap
 simp[IntKind.bits,IntKind.signed]
theorem inRu {n:Int}(h0:0<=n)(h1:n<18446744073709551616):inR .u64 n:=q1h h0 h1
theorem shr32 (n:Nat):Int.fdiv (n:Int) (2^(min 32 (IntKind.bits .u64)))=((n / 4294967296:Nat):Int):=by
 have e:(2:Int)^(min 32 (IntKind.bits .u64))=4294967296:=by decide
 rw[e,Jn _ (by omega)]
 omega
theorem qoz (n:Nat)(h:n<18446744073709551616):IntKind.wrap .u64 ((((BitVec.ofInt (IntKind.bits .u64) (n:Int) &&& BitVec.ofInt (IntKind.bits .u64) (4294967295:Int))).toNat:Nat):Int)=((n % 4294967296:Nat):Int):=by
 have e:(BitVec.ofInt (IntKind.bits .u64) (n:Int) &&& BitVec.ofInt (IntKind.bits .u64) (4294967295:Int)).toNat=n % 4294967296:=by
  show(BitVec.ofInt 64 (n:Int) &&& BitVec.ofInt 64 (4294967295:Int)).toNat=_
  rw[BitVec.toNat_and,BitVec.toNat_ofInt,BitVec.toNat_ofInt]
  have h1:((n:Int) % ((2^64:Nat):Int)).toNat=n:=by
   have:((2^64:Nat):Int)=18446744073709551616:=by decide
   rw[this]; omega
  have h2:((4294967295:Int) % ((2^64:Nat):Int)).toNat=2^32-1:=by decide
  rw[h1,h2,Nat.and_two_pow_sub_one_eq_mod]
 rw[e,wu64]
 omega
theorem qin (n:Nat)(h:n<18446744073709551616):(BitVec.ofInt (IntKind.bits .u64) (n:Int) &&& BitVec.ofInt (IntKind.bits .u64) (4294967295:Int)).toNat=n % 4294967296:=by
 have:=qoz n h
 rw[wu64] at this
 have hlt:(BitVec.ofInt (IntKind.bits .u64) (n:Int) &&& BitVec.ofInt (IntKind.bits .u64) (4294967295:Int)).toNat<18446744073709551616:=BitVec.isLt _
 omega
theorem q6r (n:Nat):n % 4294967296 % 18446744073709551616=n % 4294967296:=by omega
theorem mulN (a b:Nat):(a:Int)*(b:Int)=((a*b:Nat):Int):=(Jo a b).symm
theorem addN (a b:Nat):(a:Int)+(b:Int)=((a+b:Nat):Int):=(Jp a b).symm
theorem q3t (a b:Nat):Int.tdiv (a:Int) (b:Int)=((a / b:Nat):Int):=rfl
theorem qp0 (a b:Nat):Int.tmod (a:Int) (b:Int)=((a % b:Nat):Int):=rfl
theorem qdw {Y y1 y0 u d q r:Nat}(hY:Y=y1*4294967296+y0)(hu:q*y1+r=u)(h:q*y0<=4294967296*r+d):q*Y<=u*4294967296+d:=by
 subst hY; subst hu
 rw[JH,← JB,Ju]
 omega
theorem qfp {Y y1 y0 u d q r:Nat}(hY:Y=y1*4294967296+y0)(hy:y0<4294967296)(hu:q*y1+r=u)(hq:q<=4294967296)(hr:4294967296<=r):q*Y<=u*4294967296+d:=by
 refine qdw hY hu ?_
 have h1:q*y0<=4294967296*4294967295:=Nat.mul_le_mul hq (by omega)
 have h2:4294967296*4294967296<=4294967296*r:=JE _ hr
 omega
theorem qmc {Y y1 y0 u d q r:Nat}(hY:Y=y1*4294967296+y0)(hu:q*y1+r=u)(huY:u<Y)(hd:d<4294967296)(h:4294967296<=q\/4294967296*r+d<q*y0) :
  u*4294967296+d<q*Y:=by
 have h1:(u+1)*4294967296<=Y*4294967296:=Jt _ huY
 rcases h with h | h
 ·have h2:4294967296*Y<=q*Y:=Jt _ h
  rw[Ju] at h1
  generalize q*Y=A at *
  omega
 ·subst hY; subst hu
  rw[JH,← JB,Ju]
  omega
theorem qfq {Y y1 y0 u:Nat}(hY:Y=y1*4294967296+y0)(hy:y0<4294967296)(h1:2147483648<=y1)(huY:u<Y):u / y1<=4294967297:=by
 have:u<4294967298*y1:=by omega
 have:=(JF (by omega:0<y1)).2 this
 omega
theorem qio {β Y u d1 d0 q1 q0 u2 r:Nat}(h1:u*β+d1=q1*Y+u2)(h0:u2*β+d0=q0*Y+r) :
  u*(β*β)+(d1*β+d0)=(q1*β+q0)*Y+r:=by
 have e1:u*(β*β)+d1*β=(u*β+d1)*β:=by rw[Ju,JB]
 have e2:(q1*β+q0)*Y=q1*Y*β+q0*Y:=by rw[Ju,JI]
 rw[← Nat.add_assoc,e1,h1,e2,Ju]
 generalize q1*Y*β=A at *
 generalize u2*β=B at *
 generalize q0*Y=C at *
 omega
theorem kn_two {Y u d1 d0 q1 q0 u2 r:Nat}(h1:u*4294967296+d1=q1*Y+u2)(h0:u2*4294967296+d0=q0*Y+r)(hr:r<Y) :
  (u*18446744073709551616+(d1*4294967296+d0)) / Y=q1*4294967296+q0/\(u*18446744073709551616+(d1*4294967296+d0)) % Y=r:=by
 have e:=qio h1 h0
 rw[show(4294967296:Nat)*4294967296=18446744073709551616 by decide] at e
 rw[e]
 refine⟨?_,?_⟩
 ·rw[Jy,JO (by omega),Nat.div_eq_of_lt hr,JY]
 ·rw[Jy,JP,JL hr]
def F0:Nat->Prop:=fun _=>False
theorem shlN (a s:Nat)(hs:s<=64):IntKind.wrap .u64 ((a:Int)*2^(min ((s:Int)).toNat (IntKind.bits .u64)))=((a*2^s % 18446744073709551616:Nat):Int):=by
 have e:min ((s:Int)).toNat (IntKind.bits .u64)=s:=by
  have:IntKind.bits .u64=64:=rfl
  omega
 rw[e,← wu64,Jo,Jq]
 rfl
theorem shrN (a s:Nat)(hs:s<=64):Int.fdiv (a:Int) (2^(min ((s:Int)).toNat (IntKind.bits .u64)))=((a / 2^s:Nat):Int):=by
 have e:min ((s:Int)).toNat (IntKind.bits .u64)=s:=by
  have:IntKind.bits .u64=64:=rfl
  omega
 have p:(2:Int)^s=((2^s:Nat):Int):=by rw[Jq]; rfl
 rw[e,p,Jn _ (Int.natCast_nonneg _)]
 rfl
theorem orN (a b:Nat)(ha:a<18446744073709551616)(hb:b<18446744073709551616):IntKind.wrap .u64 ((((BitVec.ofInt (IntKind.bits .u64) (a:Int) ||| BitVec.ofInt (IntKind.bits .u64) (b:Int))).toNat:Nat):Int)=((a ||| b:Nat):Int):=by
 have hlt:a ||| b<2^64:=Nat.or_lt_two_pow (by simpa using ha) (by simpa using hb)
 have e:(BitVec.ofInt (IntKind.bits .u64) (a:Int) ||| BitVec.ofInt (IntKind.bits .u64) (b:Int)).toNat=a ||| b:=by
  show(BitVec.ofInt 64 (a:Int) ||| BitVec.ofInt 64 (b:Int)).toNat=_
  rw[BitVec.toNat_or,BitVec.toNat_ofInt,BitVec.toNat_ofInt]
  have h2:((2^64:Nat):Int)=18446744073709551616:=by decide
  have ea:((a:Int) % ((2^64:Nat):Int)).toNat=a:=by rw[h2]; omega
  have eb:((b:Int) % ((2^64:Nat):Int)).toNat=b:=by rw[h2]; omega
  rw[ea,eb]
 rw[e,wu64,JL (by simpa using hlt)]
theorem qca {hi lo y s:Nat}(hs:s<=64)(h:hi<y)(_:y*2^s<18446744073709551616)(hlo:lo<18446744073709551616) :
  (hi*2^s ||| lo / 2^(64-s))=hi*2^s+lo / 2^(64-s)/\hi*2^s+lo / 2^(64-s)<y*2^s /\
  (hi*2^s+lo / 2^(64-s))*18446744073709551616+lo*2^s % 18446744073709551616=(hi*18446744073709551616+lo)*2^s:=by
 have hp:18446744073709551616=2^(64-s)*2^s:=by
  rw[← Nat.pow_add,Nat.sub_add_cancel hs]
 have hlt:lo / 2^(64-s)<2^s:=by
  rw[JF (JU _),Jy,← hp]
  exact hlo
 have h1:(hi+1)*2^s<=y*2^s:=Jt _ h
 refine⟨?_,?_,?_⟩
 ·rw[← Nat.shiftLeft_eq,Nat.shiftLeft_add_eq_or_of_lt hlt]
 ·rw[Ju] at h1
  omega
 ·have e:lo*2^s / 18446744073709551616=lo / 2^(64-s):=by
   rw[hp,Nat.mul_div_mul_right _ _ (JU _)]
  have:=JA (lo*2^s) 18446744073709551616
  rw[e] at this
  have e2:(hi*18446744073709551616+lo)*2^s=hi*2^s*18446744073709551616+lo*2^s:=by
   rw[Ju,JI]
  rw[e2,Ju]
  clear hp e e2 hlt h1
  generalize lo*2^s % 18446744073709551616=C at *
  generalize lo / 2^(64-s)=A at *
  generalize hi*2^s=B at *
  generalize lo*2^s=D at *
  omega
theorem qfr {Y y1 y0 u d:Nat}(hY:Y=y1*4294967296+y0)(h1:0<y1)(hd:d<4294967296):u*4294967296+d<(u / y1+1)*Y:=by
 have hle:y1*4294967296<=Y:=by omega
 have h:u<(u / y1+1)*y1:=by
  have:=Nat.lt_div_mul_add h1 (a:=u)
  rw[Ju,Nat.one_mul]
  exact this
 have h2:(u+1)*4294967296<=(u / y1+1)*y1*4294967296:=Jt _ h
 have h3:(u / y1+1)*y1*4294967296<=(u / y1+1)*Y:=by
  rw[JB]
  exact JE _ hle
 have h4:=JS h2 h3
 rw[Ju] at h4
 generalize (u / y1+1)*Y=A at *
 clear h2 h3 h hle hY
 omega
theorem qip {u d q Y R:Nat}(h:u*4294967296+d=q*Y+R)(hR:R<18446744073709551616) :
  IntKind.wrap .u64 (IntKind.wrap .u64 (IntKind.wrap .u64 ((u:Int)*4294967296)+(d:Int))-IntKind.wrap .u64 ((q:Int)*(Y:Int)))=(R:Int):=by
 simp only[qad]
 rw[Int.emod_add_emod,← Int.sub_emod]
 have e:(u:Int)*4294967296+(d:Int)-(q:Int)*(Y:Int)=(R:Int):=by
  have:=congrArg (fun n:Nat=>(n:Int)) h
  simp only[Jp,Jo] at this
  have h4:(((4294967296:Nat):Int))=4294967296:=by omega
  rw[h4] at this
  generalize (q:Int)*(Y:Int)=A at *
  generalize (u:Int)*4294967296=B at *
  omega
 rw[e]
 exact Int.emod_eq_of_lt (by omega) (by omega)
theorem kn_lt {u d q Y:Nat}(h:q*Y<=u*4294967296+d)(hu:u<Y)(hd:d<4294967296):q<4294967296:=by
 rcases JZ q 4294967296 with hq | hq
 ·exact hq
 ·have h1:4294967296*Y<=q*Y:=Jt _ hq
  have h2:(u+1)*4294967296<=Y*4294967296:=Jt _ hu
  generalize q*Y=A at *
  omega
def Rs (w:World)(l:List (Nat × List Value)):Prop:=∀ p∈l,Row w p.1 p.2
def Mem (w0 w:World)(l:List (Nat × List Value)):Prop :=
 Fr F0 w0 w/\Rs w l/\(l.map (·.1)).Pairwise (·>·)/\∀ p∈l,w0.heap.size<=p.1
section
variable {w0 w w':World}{l:List (Nat × List Value)}
theorem Rs.ld {b i:Nat}{cs:List Value}{v:Value}(h:Rs w l)(j:Nat)(hj:l[j]?=some (b,cs):=by exact rfl)(hv:cs[i]?=some v:=by exact rfl):w.cell? ⟨b,i,none⟩=some v :=
 (h _ (J1 hj)).at hv
theorem Mem.nil:Mem w w []:=⟨Fr.refl,(by intro p hp; cases hp),List.Pairwise.nil,(by intro p hp; cases hp)⟩
theorem Mem.alloc {cs:Array Value}{e:TypeId}(h:Mem w0 w l):Mem w0 (w.alloc (Obj.cells cs e)) ((w.heap.size,cs.toList) :: l):=by
 obtain⟨hf,hr,hp,hb⟩:=h
 refine⟨hf.trans (G:=F0) Fr.alloc fun b hb _=>hb.elim,fun p hp=>?_,?_,fun p hp=>?_⟩
 ·rcases Jh.1 hp with rfl | hp
  ·exact Row.new (cs:=cs.toList)
  ·exact(hr p hp).congr (q33 (hr p hp).lt)
 ·simp only[List.map_cons,List.pairwise_cons]
  refine⟨fun b hb=>?_,hp⟩
  obtain⟨p,hp,rfl⟩:=List.mem_map.1 hb
  exact(hr p hp).lt
 ·rcases Jh.1 hp with rfl | hp
  ·exact hf.1
  ·exact hb p hp
theorem Mem.fr (h:Mem w0 w l)(hf:Fr F0 w w'):Mem w0 w' l:=by
 obtain⟨h1,hr,hp,hb⟩:=h
 exact⟨h1.trans hf fun b hb _=>hb.elim,fun p hp=>hf.row (hr p hp) fun h=>h,hp,hb⟩
theorem Mem.drew (h:Mem w0 w l):Mem w0 w.drew l:=h.fr Fr.drew
theorem Mem.lD {b i:Nat}{cs:List Value}{v:Value}(h:Mem w0 w l)(j:Nat)(hj:l[j]?=some (b,cs))(hv:cs[i]?=some v):w.cell? ⟨b,i,none⟩=some v :=
 h.2.1.ld j hj hv
theorem Mem.ld {b i:Nat}{cs:List Value}{v:Value}(h:Mem w0 w l)(j:Nat)(hj:l[j]?=some (b,cs):=by exact rfl)(hv:cs[i]?=some v:=by exact rfl):w.cell? ⟨b,i,none⟩=some v :=
 h.2.1.ld j hj hv
theorem Mem.wr {b i:Nat}{cs:List Value}(h:Mem w0 w l)(j:Nat)(hj:l[j]?=some (b,cs):=by exact rfl)(hi:Nat.blt i cs.length=true:=by exact rfl):wrOk w ⟨b,i,none⟩ :=
 (h.2.1 _ (J1 hj)).wr (by simpa [Nat.blt_eq] using hi)
theorem Mem.set {b i:Nat}{cs:List Value}{v:Value}(h:Mem w0 w l)(j:Nat)(hj:l[j]?=some (b,cs):=by exact rfl):Mem w0 (w.setCell ⟨b,i,none⟩ v) (l.set j (b,cs.set i v)):=by
 obtain⟨h1,hr,hp,hb⟩:=h
 obtain⟨hlt,hge⟩:=J0.1 hj
 have hmem:=J1 hj
 have hmap:(l.set j (b,cs.set i v)).map (·.1)=l.map (·.1):=by
  rw[List.map_set]
  apply J7
  intro k
  rw[J8]
  split
  ·rename_i hk
   subst hk
   simp[hlt,hge]
  ·rfl
 refine⟨h1.trans (Fr.set (F:=fun c=>c=b) rfl) fun c hc hlt'=>?_,fun p hp'=>?_,by rw[hmap]; exact hp,fun p hp'=>?_⟩
 ·have:=hb _ hmem
  simp only at this hc
  omega
 ·obtain⟨k,hk,rfl⟩:=List.mem_iff_getElem.1 hp'
  rw[List.getElem_set]
  split
  ·exact(hr _ hmem).set i v
  ·rename_i hjk
   simp only[Jj] at hk
   have hm:l[k]∈l:=List.getElem_mem hk
   refine(hr _ hm).congr (q4w ?_)
   rw[List.pairwise_iff_getElem] at hp
   intro he
   rcases JZ j k with hlt2 | hge2
   ·have:=hp j k (by simpa using hlt) (by simpa using hk) hlt2
    simp only[Ji,hge] at this
    simp only at he
    omega
   ·have:=hp k j (by simpa using hk) (by simpa using hlt) (by omega)
    simp only[Ji,hge] at this
    simp only at he
    omega
 ·rcases List.mem_or_eq_of_mem_set hp' with hp' | rfl
  ·exact hb p hp'
  ·have:=hb _ hmem
   exact this
theorem q34 {b:Nat}{x y:Value}{k1 k2:IntKind}{a c:Int}{ok:Bool}{K:Int->Int->Bool->World->Prop}(m:Mem w0 w l)(j:Nat)(hj:l[j]?=some (b,[x,y]))(hK:∀ w',Fr F0 w0 w'->K a c ok w') :
  wrOk w (Addr.mk b 0 none)/\(let w4:World:=w.setCell (Addr.mk b 0 none) (Value.int k1 a)
   wrOk w4 (Addr.mk b 1 none)/\(let w5:World:=w4.setCell (Addr.mk b 1 none) (Value.int k2 c)
    ∃ x6:Int,w5.cell? (Addr.mk b 0 none)=some (Value.int k1 x6)/\∃ x7:Int,w5.cell? (Addr.mk b 1 none)=some (Value.int k2 x7)/\K x6 x7 ok w5)):=by
 have hl:j<l.length:=(J0.1 hj).1
 refine⟨m.wr j hj rfl,?_⟩
 intro w2
 have m:Mem w0 w2 _:=m.set j hj
 clear_value w2
 refine⟨m.wr j (cs:=[Value.int k1 a,y]) (by simp[hl]) rfl,?_⟩
 intro w3
 have m:Mem w0 w3 _:=m.set j (cs:=[Value.int k1 a,y]) (by simp[hl])
 clear_value w3
 exact⟨_,m.ld j (cs:=[Value.int k1 a,Value.int k2 c]) (by simp[hl]) rfl,_,m.ld j (cs:=[Value.int k1 a,Value.int k2 c]) (by simp[hl]) rfl,hK w3 m.1⟩
theorem put2 {b:Nat}{x y:Value}{k1 k2:IntKind}{a c:Int}{K:Int->Int->World->Prop}(m:Mem w0 w l)(j:Nat)(hj:l[j]?=some (b,[x,y]))(hK:∀ w',Fr F0 w0 w'->K a c w') :
  wrOk w (Addr.mk b 0 none)/\(let w4:World:=w.setCell (Addr.mk b 0 none) (Value.int k1 a)
   wrOk w4 (Addr.mk b 1 none)/\(let w5:World:=w4.setCell (Addr.mk b 1 none) (Value.int k2 c)
    ∃ x6:Int,w5.cell? (Addr.mk b 0 none)=some (Value.int k1 x6)/\∃ x7:Int,w5.cell? (Addr.mk b 1 none)=some (Value.int k2 x7)/\K x6 x7 w5)) :=
 q34 (K:=fun a c _ w=>K a c w) (ok:=true) m j hj hK
theorem put3 {b:Nat}{x y z:Value}{a c:Int}{e:Bool}{K:Bool->Int->Int->World->Prop}(m:Mem w0 w l)(j:Nat)(hj:l[j]?=some (b,[x,y,z]))(hK:∀ w',Fr F0 w0 w'->K e a c w') :
  wrOk w (Addr.mk b 0 none)/\(let w4:World:=w.setCell (Addr.mk b 0 none) (Value.bool e)
   wrOk w4 (Addr.mk b 1 none)/\(let w5:World:=w4.setCell (Addr.mk b 1 none) (Value.int .u64 a)
    wrOk w5 (Addr.mk b 2 none)/\(let w6:World:=w5.setCell (Addr.mk b 2 none) (Value.int .u64 c)
     ∃ x5:Bool,w6.cell? (Addr.mk b 0 none)=some (Value.bool x5)/\∃ x6:Int,w6.cell? (Addr.mk b 1 none)=some (Value.int .u64 x6)/\∃ x7:Int,w6.cell? (Addr.mk b 2 none)=some (Value.int .u64 x7)/\K x5 x6 x7 w6))):=by
 have hl:j<l.length:=(J0.1 hj).1
 refine⟨m.wr j hj rfl,?_⟩
 intro w2
 have m:Mem w0 w2 _:=m.set j hj
 clear_value w2
 refine⟨m.wr j (cs:=[Value.bool e,y,z]) (by simp[hl]) rfl,?_⟩
 intro w3
 have m:Mem w0 w3 _:=m.set j (cs:=[Value.bool e,y,z]) (by simp[hl])
 clear_value w3
 refine⟨m.wr j (cs:=[Value.bool e,.int .u64 a,z]) (by simp[hl]) rfl,?_⟩
 intro w4
 have m:Mem w0 w4 _:=m.set j (cs:=[Value.bool e,.int .u64 a,z]) (by simp[hl])
 clear_value w4
 exact⟨_,m.ld j (cs:=[Value.bool e,Value.int .u64 a,Value.int .u64 c]) (by simp[hl]) rfl,_,m.ld j (cs:=[Value.bool e,Value.int .u64 a,Value.int .u64 c]) (by simp[hl]) rfl,_,m.ld j (cs:=[Value.bool e,Value.int .u64 a,Value.int .u64 c]) (by simp[hl]) rfl,hK w4 m.1⟩
theorem Mem.sub {m:List (Nat × List Value)}(h:Mem w0 w l)(k:Nat)(hk:l.drop k=m:=by exact rfl):Rs w m:=fun p hp=>h.2.1 p (Ja (hk ▸ hp))
end
theorem Mem.allocL {w0 w:World}{l:List (Nat × List Value)}{cs:List Value}{e:TypeId}(h:Mem w0 w l):Mem w0 (w.alloc (Obj.cells cs.toArray e)) ((w.heap.size,cs) :: l):=h.alloc
theorem qae {α:Type}{l:List α}{j:Nat}{a:α}(h:l[j]?=some a):l.set j a=l:=by
 obtain⟨h1,h2⟩:=J0.1 h
 rw[← h2]
 exact List.set_getElem_self h1
theorem qiq {w0:World}{b:Nat}{K:World->Prop}{l:List (Nat × List Value)}(j:Nat):∀ (vs:List Value) (i:Nat) (w:World) (l:List (Nat × List Value)) (cs:List Value),Mem w0 w l->l[j]?=some (b,cs)->i+vs.length<=cs.length ->
  (∀ w',Mem w0 w' (l.set j (b,cs.take i++vs++cs.drop (i+vs.length)))->K w')->stN.go ⟨b,0,none⟩ K vs i w
 | [],i,w,l,cs,m,hj,hi,hK=>by
  refine hK w ?_
  have e:cs.take i++[]++cs.drop (i+([]:List Value).length)=cs:=by simp
  rw[e,qae hj]
  exact m
 | v :: vs,i,w,l,cs,m,hj,hi,hK=>by
  simp only[Jb] at hi
  unfold stN.go
  have hl:j<l.length:=(J0.1 hj).1
  simp only[q01,JJ]
  refine⟨m.wr j hj (by simp[Nat.blt_eq]; omega),?_⟩
  refine qiq (l:=l) j vs (i+1) _ (l.set j (b,cs.set i v)) (cs.set i v) (m.set j hj) (by simp[hl]) (by simp; omega) fun w' m'=>hK w' ?_
  have e:(cs.set i v).take (i+1)++vs++(cs.set i v).drop (i+1+vs.length)=cs.take i++v :: vs++cs.drop (i+(v :: vs).length):=by
   apply J7
   intro k
   have h3:min (i+1) cs.length=i+1:=by omega
   have h4:min i cs.length=i:=by omega
   simp only[J4,List.length_append,List.length_take,Jj,Jb,h3,h4,J3,Jf,J8]
   by_cases h1:k<i
   ·rw[if_pos (by omega),if_pos (by omega),if_pos (by omega),if_neg (by omega),if_pos (by omega),if_pos (by omega),if_pos h1]
   ·by_cases h2:k=i
    ·subst h2
     rw[if_pos (by omega),if_pos (by omega),if_pos (by omega),if_pos rfl,if_pos (by omega),if_pos (by omega),if_neg (by omega)]
     simp
    ·by_cases h5:k<i+1+vs.length
     ·rw[if_pos (by omega),if_neg (by omega),if_pos (by omega),if_neg (by omega)]
      have:k-i=(k-(i+1))+1:=by omega
      rw[this,Jc]
     ·rw[if_neg (by omega),if_neg (by omega),if_neg (by omega)]
      congr 1
      omega
  rw[List.set_set,e] at m'
  exact m'
theorem q11 {w0 w:World}{l:List (Nat × List Value)}{zs vs:List Value}{e:TypeId}{K:World->Prop}(hl:zs.length=vs.length)(m:Mem w0 w l)(hK:∀ w',Mem w0 w' ((w.heap.size,vs) :: l)->K w') :
  (let w1:World:=w.alloc (Obj.cells zs.toArray e)
  stN w1 ⟨w.heap.size,0,none⟩ vs K):=by
 intro w1
 have m1:Mem w0 w1 ((w.heap.size,zs) :: l):=m.allocL
 refine qiq (l:=l) 0 vs 0 w1 _ zs m1 rfl (by omega) fun w' m'=>hK w' ?_
 have e:zs.take 0++vs++zs.drop (0+vs.length)=vs:=by simp[hl]
 rw[e,List.set_cons_zero] at m'
 exact m'
theorem Mem.dr {w0 w:World}{l m:List (Nat × List Value)}(h:Mem w0 w l)(k:Nat)(hk:l.drop k=m:=by exact rfl):Mem w0 w m:=by
 subst hk
 obtain⟨h1,h2,h3,h4⟩:=h
 refine⟨h1,fun p hp=>h2 p (Ja hp),?_,fun p hp=>h4 p (Ja hp)⟩
 rw[List.map_drop]
 exact h3.sublist (List.drop_sublist _ _)
theorem Mem.roW {w0 w:World}{l:List (Nat × List Value)}{b:Nat}{cs:List Value}(h:Mem w0 w l)(j:Nat)(hj:l[j]?=some (b,cs)):Row w b cs:=h.2.1 _ (J1 hj)
theorem Mem.row {w0 w:World}{l:List (Nat × List Value)}{b:Nat}{cs:List Value}(h:Mem w0 w l)(j:Nat)(hj:l[j]?=some (b,cs):=by exact rfl):Row w b cs:=h.2.1 _ (J1 hj)
theorem qir {w0 w:World}{l:List (Nat × List Value)}{b:Nat}{cs vs:List Value}{K:World->Prop}(m:Mem w0 w l)(j:Nat)(hj:l[j]?=some (b,cs))(hl:cs.length=vs.length)(hK:∀ w',Mem w0 w' (l.set j (b,vs))->K w'):stN w ⟨b,0,none⟩ vs K:=by
 refine qiq (l:=l) j vs 0 w l cs m hj (by omega) fun w' m'=>hK w' ?_
 have e:cs.take 0++vs++cs.drop (0+vs.length)=vs:=by simp[← hl]
 rw[e] at m'
 exact m'
theorem q0a {α:Type}{n:Nat}{enc:α->List Value}(hn:∀ a,(enc a).length=n):∀ l:List α,(l.flatMap enc).length=l.length*n
 | []=>by simp
 | a :: l=>by simp[q0a hn l,hn,Ju,Nat.add_comm]
theorem qmd {α:Type}{n:Nat}{enc:α->List Value}(hn:∀ a,(enc a).length=n):∀ (l:List α) (i k:Nat) (a:α),l[i]?=some a->k<n->(l.flatMap enc)[i*n+k]?=(enc a)[k]?
 | [],i,k,a,h,_=>by simp at h
 | b :: l,0,k,a,h,hk=>by
  simp at h
  subst h
  simp only[Jd,Nat.zero_mul,JJ]
  rw[List.getElem?_append_left (by rw[hn]; exact hk)]
 | b :: l,i+1,k,a,h,hk=>by
  simp only[Jc] at h
  have:=qmd hn l i k a h hk
  simp only[Jd]
  rw[List.getElem?_append_right (by rw[hn,Ju]; omega),hn,← this]
  congr 1
  rw[Ju]; omega
theorem qis {α:Type}(g:α->Value):∀ l:List α,l.flatMap (fun a=>[g a])=l.map g
 | []=>rfl
 | a :: l=>by simp[qis g l]
structure Vw {α:Type}(n:Nat)(enc:α->List Value)(w:World)(s:Sl)(l:List α):Prop where
 len:s.l=l.length
 cap:s.l<=s.c
 rd:rdC w s.p (s.l*n) (l.flatMap enc)
section
variable {α:Type}{n:Nat}{enc:α->List Value}{w w' w0:World}{s x:Sl}{l m:List α}
theorem Vw.fr (h:Vw n enc w s l)(hf:Fr F0 w w'):Vw n enc w' s l:=⟨h.len,h.cap,qo3 h.rd hf fun _ _ hh=>hh⟩
theorem Vw.frF {F:Nat->Prop}(h:Vw n enc w s l)(hf:Fr F w w')(hd:∀ b,inB s b->¬F b):Vw n enc w' s l:=⟨h.len,h.cap,qo3 h.rd hf fun a ha=>hd _ ⟨a,ha,rfl⟩⟩
theorem Vw.nil:Vw n enc w ⟨none,0,0⟩ ([]:List α):=⟨rfl,JG _,by simp[rdC]⟩
theorem Vw.at (h:Vw n enc w s l)(hn:∀ a,(enc a).length=n){i:Nat}{a:α}(hi:l[i]?=some a):(0<n->∃ ad,s.p=some ad/\∀ k v,(enc a)[k]?=some v->w.cell? ((ad.add (i*n)).add k)=some v):=by
 intro hn0
 have hlt:i<l.length:=(J0.1 hi).1
 obtain⟨hlen,hrd⟩:=h.rd
 have hl:=h.len
 have hpos:0<s.l*n:=Nat.mul_pos (by omega) hn0
 cases hp:s.p with
 | none =>
  rw[hp] at hrd
  simp only at hrd
  omega
 | some ad =>
  rw[hp] at hrd
  simp only at hrd
  refine⟨ad,rfl,fun k v hv=>?_⟩
  have hk:k<n:=by
   have:=(J0.1 hv).1
   rw[hn] at this
   exact this
  have h1:=qmd hn l i k a hi hk
  rw[hv] at h1
  obtain⟨h2,h3⟩:=J0.1 h1
  have:=hrd _ h2
  rw[h3] at this
  rw[qdq]
  exact this
theorem Vw.take (h:Vw n enc w s l)(hn:∀ a,(enc a).length=n){j:Nat}(hj:j<=l.length):Vw n enc w ⟨subP s.p 0 s.c n,j-0,s.c-0⟩ (l.take j):=by
 have hl:=h.len
 have hc:=h.cap
 refine⟨by simp; omega,by simp; omega,?_⟩
 simp only[JX]
 have hlen:((l.take j).flatMap enc).length=j*n:=by rw[q0a hn]; simp; rw[Nat.min_eq_left hj]
 refine⟨hlen,?_⟩
 have hp:subP s.p 0 s.c n=s.p:=by
  unfold subP
  split
  ·rfl
  ·cases s.p with
   | none=>rfl
   | some a=>simp[Addr.add]
 rw[hp]
 obtain⟨h1,h2⟩:=h.rd
 have hpre:(l.take j).flatMap enc=(l.flatMap enc).take (j*n):=by
  have h3:l.flatMap enc=(l.take j).flatMap enc++(l.drop j).flatMap enc:=by rw[← Je,List.take_append_drop]
  rw[h3,J2 (by omega)]
  exact(J6 (by omega)).symm
 cases hs:s.p with
 | none =>
  rw[hs] at h2
  simp only at h2 ⊢
  rw[hl] at h2
  have:=Jt n hj
  omega
 | some a =>
  rw[hs] at h2
  simp only at h2 ⊢
  intro i hi
  have h3:=h2 i (by rw[q0a hn]; have:=Jt n hj; omega)
  rw[h3]
  congr 1
  have h4:((l.take j).flatMap enc)[i]?=((l.flatMap enc).take (j*n))[i]?:=by rw[hpre]
  rw[J3,if_pos (by omega)] at h4
  rw[J5 hi,J5 (by rw[q0a hn]; have:=Jt n hj; omega)] at h4
  exact(Option.some.inj h4).symm
structure Ow {α:Type}(n:Nat)(enc:α->List Value)(w:World)(s:Sl)(l:List α):Prop where
 len:s.l=l.length
 own:OwnV n w s (l.flatMap enc)
theorem Ow.vw (h:Ow n enc w s l):Vw n enc w s l:=by
 refine⟨h.len,?_,h.own.rd⟩
 obtain⟨_,h1 | ⟨_,_,_,_,_,h2,_⟩⟩:=h.own
 ·omega
 ·exact h2
theorem Ow.fr (h:Ow n enc w s l)(hf:Fr F0 w w'):Ow n enc w' s l:=⟨h.len,h.own.fr hf fun _ _ hh=>hh⟩
theorem Ow.frF {F:Nat->Prop}(h:Ow n enc w s l)(hf:Fr F w w')(hd:∀ b,inB s b->¬F b):Ow n enc w' s l:=⟨h.len,h.own.fr hf hd⟩
theorem Ow.app {bytes:Nat}{zero:List Value}{e:Nat}{K:SW}(h:Ow n enc w s l)(hx:Vw n enc w x m)(hok:∀ a,∀ v∈enc a,okC v=true)(hz:zero.length=n)
  (hb:(l.length+m.length)*bytes<=2^47) (hm:l.length+m.length<2^63)
  (hK:∀ r w',Ow n enc w' r (l++m)->Fr (inB s) w w'->(∀ b,inB r b->inB s b\/w.heap.size<=b)->K r w'):apS n bytes zero e s x w K:=by
 have h1:=h.len
 have h2:=hx.len
 refine qox h.own hx.rd (fun v hv=>?_) hz (by rw[h1,h2]; exact hb) (by rw[h1,h2]; exact hm) fun r w' ho hr hf hi=>hK r w' ⟨by rw[hr,h1,h2]; simp,by rw[Je]; exact ho⟩ hf hi
 obtain⟨a,_,ha⟩:=List.mem_flatMap.1 hv
 exact hok a v ha
theorem Vw.new {a:α}{cs:Array Value}{e:TypeId}(hn:(enc a).length=n)(hc:cs=(enc a).toArray):Vw n enc (w.alloc (Obj.cells cs e)) ⟨some ⟨w.heap.size,0,none⟩,1,1⟩ [a]:=by
 subst hc
 refine⟨rfl,JG _,by simp[hn],?_⟩
 intro i hi
 simp only[Jd,List.flatMap_nil,List.append_nil] at hi ⊢
 rw[q01,JJ,(Row.new (w:=w) (e:=e) (cs:=enc a)).cell]
 exact J5 hi
structure Mk {α:Type}(w0:World)(n:Nat)(enc:α->List Value)(w:World)(s:Sl)(l:List α):Prop where
 fr0:Fr F0 w0 w
 ow:Ow n enc w s l
 nw:∀ b,inB s b->w0.heap.size<=b
theorem Mk.vw (h:Mk w0 n enc w s l):Vw n enc w s l:=h.ow.vw
theorem Mk.len (h:Mk w0 n enc w s l):s.l=l.length:=h.ow.len
theorem Mk.fr (h:Mk w0 n enc w s l)(hf:Fr F0 w w'):Mk w0 n enc w' s l:=⟨h.fr0.trans hf fun _ hb _=>hb,h.ow.fr hf,h.nw⟩
theorem Mk.nil (hf:Fr F0 w0 w):Mk w0 n enc w ⟨none,0,0⟩ ([]:List α):=⟨hf,⟨rfl,by simpa using OwnV.nil⟩,fun b ⟨a,ha,_⟩=>by cases ha⟩
theorem Mk.app {bytes:Nat}{zero:List Value}{e:Nat}{K:SW}(h:Mk w0 n enc w s l)(hx:Vw n enc w x m)(hok:∀ a,∀ v∈enc a,okC v=true)(hz:zero.length=n)
  (hb:(l.length+m.length)*bytes<=2^47) (hm:l.length+m.length<2^63)
  (hK:∀ r w',Mk w0 n enc w' r (l++m)->Fr (inB s) w w'->K r w'):apS n bytes zero e s x w K :=
 h.ow.app hx hok hz hb hm fun r w' ho hf hi=>hK r w' ⟨h.fr0.trans hf fun b hb hlt=>absurd (h.nw b hb) (by omega),ho,fun b hb=>by
  rcases hi b hb with h1 | h1
  ·exact h.nw b h1
  ·exact JS h.fr0.1 h1⟩ hf
theorem Mk.push {a:α}{cs:Array Value}{bytes:Nat}{zero:List Value}{e e':Nat}{K:SW}(h:Mk w0 n enc w s l)(hc:cs=(enc a).toArray)(hn:(enc a).length=n)(hok:∀ a,∀ v∈enc a,okC v=true)(hz:zero.length=n)
  (hb:(l.length+1)*bytes<=2^47) (hm:l.length+1<2^63)
  (hK:∀ r w',Mk w0 n enc w' r (l++[a])->Fr (inB s) w w'->K r w'):apS n bytes zero e s ⟨some ⟨w.heap.size,0,none⟩,1,1⟩ (w.alloc (Obj.cells cs e')) K:=by
 have h':=h.fr (Fr.alloc (o:=Obj.cells cs e'))
 refine h'.app (m:=[a]) (Vw.new hn hc) hok hz hb hm fun r w' ho hf=>hK r w' ho ?_
 exact(Fr.alloc (F:=inB s)).trans hf fun b hb _=>hb
end
def ie {α:Type}(k:IntKind)(f:α->Int):α->List Value:=fun a=>[.int k (f a)]
@[simp] theorem ie_length {α:Type}(k:IntKind)(f:α->Int)(a:α):(ie k f a).length=1:=rfl
theorem Fr.new {α:Type}{n:Nat}{enc:α->List Value}{w0 w w':World}{s:Sl}{l:List α}(h:Mk w0 n enc w s l)(hf:Fr (inB s) w w'):Fr F0 w0 w' :=
 h.fr0.trans hf fun b hb hlt=>absurd (h.nw b hb) (by omega)
theorem Fr0.t {w0 w w':World}(h:Fr F0 w0 w)(h':Fr F0 w w'):Fr F0 w0 w':=h.trans h' fun _ hb _=>hb
structure RR where
 n:Int
 d:Int
 ok:Bool
deriving DecidableEq
def zr:RR:=⟨0,1,false⟩
def fitQ (q:Rat):RR:=if -9223372036854775808<=q.num/\q.num<9223372036854775808/\q.den<9223372036854775808 then ⟨q.num,q.den,true⟩ else zr
def ratI (neg:Bool)(n d:Nat):RR:=if d<9223372036854775808/\(n<9223372036854775808\/n=9223372036854775808/\neg=true) then ⟨if neg then -(n:Int) else n,d,true⟩ else zr
def sgn (neg:Bool)(n:Nat):Int:=if neg then -(n:Int) else n
theorem q9i (neg:Bool)(n:Nat):(sgn neg n).natAbs=n:=by
 cases neg<;>simp[sgn]
theorem qfs (neg:Bool)(n d:Nat)(hd:d≠0)(hc:Js n d):ratI neg n d=fitQ (mkRat (sgn neg n) d):=by
 have h1:(mkRat (sgn neg n) d).num=sgn neg n:=by
  rw[Rat.num_mkRat,if_neg hd,q9i,JQ,hc]
  simp
 have h2:(mkRat (sgn neg n) d).den=d:=by
  rw[Rat.den_mkRat,if_neg hd,q9i,JQ,hc]
  simp
 have hz:n=0->d=1:=by
  rintro rfl
  simpa using hc
 cases neg
 ·have h1:(mkRat (sgn false n) d).num=(n:Int):=h1
  unfold fitQ ratI
  rw[h1,h2]
  simp only[Bool.false_eq_true,and_false,or_false,if_false]
  by_cases h:d<9223372036854775808/\n<9223372036854775808
  ·rw[if_pos h,if_pos ⟨by omega,by omega,h.1⟩]
  ·rw[if_neg h,if_neg]
   rintro⟨_,h2,h3⟩
   exact h ⟨h3,by omega⟩
 ·have h1:(mkRat (sgn true n) d).num=-(n:Int):=h1
  unfold fitQ ratI
  rw[h1,h2]
  simp only[and_true,if_true]
  by_cases h:d<9223372036854775808/\n<=9223372036854775808
  ·rw[if_pos ⟨h.1,by omega⟩,if_pos ⟨by omega,by omega,h.1⟩]
  ·rw[if_neg,if_neg]
   ·rintro⟨h1,h2,h3⟩
    exact h ⟨h3,by omega⟩
   ·rintro⟨h1,h2⟩
    exact h ⟨h1,by omega⟩
theorem q6f (neg:Bool)(n d:Nat)(hd:d≠0):ratI neg (n / Jw n d) (d / Jw n d)=fitQ (mkRat (sgn neg n) d):=by
 have hg:0<Jw n d:=Jz n (by omega)
 have hd':d / Jw n d≠0:=by
  have:=Nat.div_pos (Nat.gcd_le_right n (by omega:0<d)) hg
  omega
 rw[qfs neg _ _ hd' (Jx hg)]
 congr 1
 have e:sgn neg n=sgn neg (n / Jw n d)*(Jw n d:Nat):=by
  have:=Jv (JC n d)
  cases neg
  ·simp only[sgn]
   simp
   exact_mod_cast this.symm
  ·simp only[sgn,if_true,Jr]
   congr 1
   exact_mod_cast this.symm
 have e2:d=d / Jw n d*Jw n d:=(Jv (JD n d)).symm
 generalize hG:Jw n d=g at *
 have hq:mkRat (sgn neg (n / g)*(g:Nat)) (d / g*g)=mkRat (sgn neg (n / g)) (d / g):=Rat.mkRat_mul_right (by omega)
 rw[← hq,← e,← e2]
def q0j (n d:Int):Prop:=0<d/\Jw n.natAbs d.natAbs=1
instance (n d:Int):Decidable (q0j n d):=inferInstanceAs (Decidable (_/\_))
def val (n d:Int):Rat:=mkRat n d.toNat
def cmpI (x y:Int):Int:=if x<y then -1 else if x>y then 1 else 0
theorem qo6 {M A B:Nat}(hM:0<M):(A % M+B % M) % M=(A+B) % M/\A / M+B / M+(A % M+B % M) / M=(A+B) / M:=by
 refine⟨(Nat.add_mod A B M).symm,?_⟩
 have e:A+B=M*(A / M+B / M)+(A % M+B % M):=by
  have h1:=JA A M
  have h2:=JA B M
  rw[JH]
  omega
 conv=>rhs; rw[e]
 rw[JO hM]
theorem qp1 {M A b:Nat}(hb:0<b)(hbM:b<=M):A / b / M=A / M / b/\A / b % M=((A / M % b)*M+A % M) / b/\A % b=((A / M % b)*M+A % M) % b:=by
 have hM:0<M:=by omega
 have e:A=b*(A / M / b*M)+((A / M % b)*M+A % M):=by
  have h1:=JA A M
  have h2:=JA (A / M) b
  have h3:M*(A / M)=M*(b*(A / M / b))+M*(A / M % b):=by rw[← JH,h2]
  have h4:b*(A / M / b*M)=M*(b*(A / M / b)):=by rw[Nat.mul_left_comm,Jy,Jy b,← JB,Jy]
  rw[Jy (A / M % b) M,h4]
  omega
 have hlt:((A / M % b)*M+A % M) / b<M:=by
  rw[JF hb]
  have h1:A / M % b<b:=JT _ hb
  have h2:A % M<M:=JT _ hM
  have h3:(A / M % b+1)*M<=b*M:=Jt _ h1
  rw[Ju] at h3
  rw[Jy M b]
  omega
 have hq:A / b=A / M / b*M+((A / M % b)*M+A % M) / b:=by
  conv=>lhs; rw[e]
  rw[JO hb]
 refine⟨?_,?_,?_⟩
 ·rw[JM,JM,Jy]
 ·rw[hq,Jy (A / M / b) M,JP,JL hlt]
 ·conv=>lhs; rw[e]
  rw[JP]
theorem wd_cmp {M A B:Nat}(hM:0<M):(if cmpI ((A / M:Nat):Int) ((B / M:Nat):Int)≠0 then cmpI ((A / M:Nat):Int) ((B / M:Nat):Int) else cmpI ((A % M:Nat):Int) ((B % M:Nat):Int))=cmpI A B:=by
 have h1:=JA A M
 have h2:=JA B M
 have h3:=JT A hM
 have h4:=JT B hM
 rcases Nat.lt_trichotomy (A / M) (B / M) with h | h | h
 ·have:M*(A / M+1)<=M*(B / M):=JE _ h
  rw[JH] at this
  have hlt:A<B:=by omega
  unfold cmpI
  rw[if_pos (by omega:((A / M:Nat):Int)<((B / M:Nat):Int)),if_pos (by omega:(A:Int)<B),if_pos (by decide)]
 ·unfold cmpI
  rw[h] at h1
  rw[h]
  have e1:((A:Int)<B) ↔ (((A % M:Nat):Int)<((B % M:Nat):Int)):=by omega
  have e2:((A:Int)>B) ↔ (((A % M:Nat):Int)>((B % M:Nat):Int)):=by omega
  simp only[e1,e2]
  simp
 ·have:M*(B / M+1)<=M*(A / M):=JE _ h
  rw[JH] at this
  have hlt:B<A:=by omega
  unfold cmpI
  rw[if_neg (by omega:¬((A / M:Nat):Int)<((B / M:Nat):Int)),if_pos (by omega:((A / M:Nat):Int)>((B / M:Nat):Int)),if_neg (by omega:¬(A:Int)<B),if_pos (by omega:(A:Int)>B),if_pos (by decide)]
theorem qp2 (s t:Bool)(a b:Nat):sgn s a*sgn t b=sgn (s != t) (a*b):=by
 cases s<;>cases t<;>simp[sgn,Jr,Int.mul_neg]
theorem q5h (s:Bool)(a b:Nat):sgn s a*(b:Int)=sgn s (a*b):=by
 cases s<;>simp[sgn,Jr]
theorem qp3 {xs ys:Bool}{xn xd yn yd:Nat}(hx:Js xn xd)(hy:Js yn yd)(hxd:xd≠0)(hyd:yd≠0) :
  ratI (xs != ys) (xn / Jw xn yd*(yn / Jw yn xd)) (xd / Jw yn xd*(yd / Jw xn yd))=fitQ (mkRat (sgn xs xn) xd*mkRat (sgn ys yn) yd):=by
 have hg:0<Jw xn yd:=Jz _ (by omega)
 have hh:0<Jw yn xd:=Jz _ (by omega)
 have c1:=Jx hg
 have c2:=Jx hh
 have e1:=Jv (JC xn yd)
 have e2:=Jv (JD xn yd)
 have e3:=Jv (JC yn xd)
 have e4:=Jv (JD yn xd)
 generalize Jw xn yd=g at *
 generalize Jw yn xd=h at *
 generalize xn / g=a at *
 generalize yd / g=d at *
 generalize yn / h=c at *
 generalize xd / h=b at *
 subst e1 e2 e3 e4
 have c3:Js a b:=Js.coprime_mul_right (Js.coprime_mul_right_right hx)
 have c4:Js c d:=Js.coprime_mul_right (Js.coprime_mul_right_right hy)
 have hbd:b*d≠0:=by
  intro h0
  rcases Nat.mul_eq_zero.1 h0 with h0 | h0
  ·subst h0; simp at hxd
  ·subst h0; simp at hyd
 have cc:Js (a*c) (b*d):=Js.mul_right (Js.mul_left c3 c2) (Js.mul_left c1 c4)
 rw[qfs _ _ _ hbd cc,Rat.mkRat_mul_mkRat,qp2]
 congr 1
 have e:(a*g*(c*h))=a*c*(g*h):=by rw[JR]
 have e':b*h*(d*g)=b*d*(g*h):=by rw[JR,Jy h g]
 rw[e,e',← q5h _ (a*c) (g*h),Rat.mkRat_mul_right]
 exact JV (by omega) (by omega)
def sumS (xs ys:Bool)(a b:Nat):Bool × Nat:=if xs=ys then (xs,a+b) else if b<=a then (xs,a-b) else (ys,b-a)
theorem qp4 (xs ys:Bool)(a b:Nat):sgn xs a+sgn ys b=sgn (sumS xs ys a b).1 (sumS xs ys a b).2:=by
 unfold sumS
 split
 ·rename_i h
  subst h
  cases xs<;>simp[sgn]<;>omega
 ·rename_i h
  split
  ·cases xs<;>cases ys<;>simp_all [sgn]<;>omega
  ·cases xs<;>cases ys<;>simp_all [sgn]<;>omega
theorem qh6 (xs ys:Bool)(a b:Nat):(sumS xs ys a b).2=a+b\/(sumS xs ys a b).2+b=a\/(sumS xs ys a b).2+a=b:=by
 unfold sumS
 split
 ·exact .inl rfl
 ·split
  ·exact .inr (.inl (by simp only; omega))
  ·exact .inr (.inr (by simp only; omega))
theorem q7q {n a b p:Nat}(hc:Js a p)(h:n=a+b*p\/n+b*p=a\/n+a=b*p):Js n p:=by
 have h1:=JC n p
 have h2:=JD n p
 have h3:Jw n p ∣ b*p:=JK h2 b
 have h4:Jw n p ∣ a:=by
  rcases h with h | h | h
  ·have h1':Jw n p ∣ a+b*p:=by
    have:=h1
    exact h ▸ this
   exact(Nat.dvd_add_left h3).1 h1'
  ·rw[← h]
   exact Nat.dvd_add h1 h3
  ·rw[← h] at h3
   exact(Nat.dvd_add_right h1).1 h3
 have:=Nat.dvd_gcd h4 h2
 rw[hc] at this
 exact Nat.dvd_one.1 this
theorem sum_q {xs ys:Bool}{xn xd yn yd g n:Nat}{s:Bool}(hx:Js xn xd)(hy:Js yn yd)(hxd:xd≠0)(hyd:yd≠0)(hg:g=Jw xd yd)
  (hs:sumS xs ys (xn*(yd / g)) (yn*(xd / g))=(s,n)) :
  (n=0->fitQ (mkRat (sgn xs xn) xd+mkRat (sgn ys yn) yd)=⟨0,1,true⟩) /\
  ratI s (n / Jw g (n % g)) (xd / g*(yd / Jw g (n % g)))=fitQ (mkRat (sgn xs xn) xd+mkRat (sgn ys yn) yd):=by
 have hg0:0<g:=by rw[hg]; exact Jz _ (by omega)
 have e1:xd / g*g=xd:=by rw[hg]; exact Jv (JC xd yd)
 have e2:yd / g*g=yd:=by rw[hg]; exact Jv (JD xd yd)
 have c1:Js (xd / g) (yd / g):=by rw[hg]; exact Jx (by rw[← hg]; exact hg0)
 clear hg
 generalize xd / g=p at *
 generalize hq:yd / g=q at *
 subst e1
 have hp0:p≠0:=by rintro rfl; simp at hxd
 have hsum:mkRat (sgn xs xn) (p*g)+mkRat (sgn ys yn) yd=mkRat (sgn s n) (p*yd):=by
  rw[Rat.mkRat_add_mkRat _ _ hxd hyd]
  have h1:=qp4 xs ys (xn*q) (yn*p)
  rw[hs] at h1
  simp only at h1
  have h2:sgn xs xn*(yd:Int)+sgn ys yn*((p*g:Nat):Int)=sgn s n*(g:Int):=by
   rw[← h1,← e2,Int.add_mul,q5h,q5h,q5h,q5h,JB,JB]
  have h3:p*g*yd=p*yd*g:=JI _ _ _
  rw[h2,h3,Rat.mkRat_mul_right (by omega)]
 have cxp:Js xn p:=Js.coprime_mul_right_right hx
 have cyq:Js yn q:=by rw[← e2] at hy; exact Js.coprime_mul_right_right hy
 have hcases:=qh6 xs ys (xn*q) (yn*p)
 rw[hs] at hcases
 simp only at hcases
 have cnp:Js n p:=q7q (a:=xn*q) (b:=yn) (Js.mul_left cxp c1.symm) hcases
 have cnq:Js n q:=q7q (a:=yn*p) (b:=xn) (Js.mul_left cyq c1) (by omega)
 have hgcd:Jw n (p*yd)=Jw n g:=by
  rw[← e2,← JB,Js.gcd_mul_left_cancel_right _ (Js.mul_left cnp.symm cnq.symm)]
 have hh:Jw g (n % g)=Jw n (p*yd):=by
  rw[hgcd,JQ n g,JQ g (n % g),← Nat.gcd_rec]
 have hdvd:Jw g (n % g) ∣ yd:=by
  rw[← e2]
  exact JK (JC g (n % g)) q
 have hpy:p*(yd / Jw g (n % g))=p*yd / Jw g (n % g):=by
  rw[Nat.mul_div_assoc _ hdvd]
 rw[hsum]
 refine⟨?_,?_⟩
 ·rintro rfl
  have:sgn s 0=0:=by cases s<;>rfl
  rw[this]
  simp[fitQ]
 ·rw[hpy,hh,q6f s n (p*yd) (JV hp0 hyd)]
theorem qp5 (n:Int):sgn (decide (n<0)) n.natAbs=n:=by
 by_cases h:n<0
 ·simp[sgn,h]; omega
 ·simp[sgn,h]; omega
theorem qdx (n:Int):sgn (!decide (n<0)) n.natAbs=-n:=by
 by_cases h:n<0
 ·simp[sgn,h]; omega
 ·simp[sgn,h]; omega
theorem q9j {n d:Int}(hd:0<d):mkRat (sgn (decide (n<0)) n.natAbs) d.natAbs=val n d:=by
 rw[qp5]
 unfold val
 congr 1
 omega
theorem qp6 {n d:Int}(hd:0<d):mkRat (sgn (!decide (n<0)) n.natAbs) d.natAbs=-val n d:=by
 rw[qdx]
 unfold val
 rw[Rat.neg_mkRat]
 congr 1
 omega
theorem qp7 {n d:Int}(hd:0<d):mkRat (sgn (decide (n<0)) d.natAbs) n.natAbs=(val n d)⁻¹:=by
 have e:val n d=Rat.divInt n d:=by
  have:d=((d.toNat:Nat):Int):=by omega
  conv=>rhs; rw[this]
  rw[Rat.divInt_ofNat]
  rfl
 rw[e,Rat.inv_divInt]
 rcases Int.lt_or_le n 0 with h | h
 ·have e1:Rat.divInt d n=Rat.divInt (-d) (-n):=(Rat.neg_divInt_neg d n).symm
  have e2:-n=((n.natAbs:Nat):Int):=by omega
  rw[e1,e2,Rat.divInt_ofNat]
  congr 1
  simp[sgn,h]; omega
 ·have e2:n=((n.natAbs:Nat):Int):=by omega
  have h':¬n<0:=by omega
  conv=>rhs; rw[e2]
  rw[Rat.divInt_ofNat]
  congr 1
  simp[sgn,h']; omega
def addQ (n d n' d':Int):RR:=if q0j n d/\q0j n' d' then fitQ (val n d+val n' d') else zr
def subQ (n d n' d':Int):RR:=if q0j n d/\q0j n' d' then fitQ (val n d-val n' d') else zr
def mulQ (n d n' d':Int):RR:=if q0j n d/\q0j n' d' then fitQ (val n d*val n' d') else zr
def quoQ (n d n' d':Int):RR:=if q0j n d/\q0j n' d' then (if n'=0 then zr else fitQ (val n d / val n' d')) else zr
def cmpQ (n d n' d':Int):Int:=if q0j n d/\q0j n' d' then cmpI (n*d') (n'*d) else 0
theorem q3u {d:Nat}(h:d<10):(UInt8.ofNat (48+d)).toNat=48+d:=by
 rw[UInt8.toNat_ofNat']
 omega
theorem qit:∀ (u:Nat) (c:UInt8),c∈Lib.decDigits u->48<=c.toNat/\c.toNat<=57:=by
 intro u
 induction u using JW with
 | ind u ih =>
  intro c hc
  rw[Lib.decDigits] at hc
  split at hc
  ·rename_i h
   simp only[Jg] at hc
   subst hc
   rw[q3u h]
   omega
  ·rename_i h
   rcases List.mem_append.1 hc with hc | hc
   ·exact ih (u / 10) (by omega) c hc
   ·simp only[Jg] at hc
    subst hc
    rw[q3u (by omega)]
    omega
theorem qiu (u:Nat):Lib.decDigits u≠[]:=by
 rw[Lib.decDigits]
 split<;>simp
theorem qcb:∀ (l:List UInt8) (acc v:Nat) (m:List UInt8),Lib.parseUint10 acc l=.ok v->Lib.parseUint10 acc (l++m)=Lib.parseUint10 v m
 | [],acc,v,m,h=>by
  simp only[Lib.parseUint10] at h
  injection h with h
  subst h
  rfl
 | c :: l,acc,v,m,h=>by
  simp only[List.cons_append,Lib.parseUint10] at h ⊢
  split at h
  ·rename_i h1
   rw[if_pos h1]
   split at h
   ·cases h
   ·rename_i h2
    rw[if_neg h2]
    split at h
    ·cases h
    ·rename_i h3
     rw[if_neg h3]
     exact qcb l _ v m h
  ·cases h
theorem qiv:∀ (u:Nat),u<18446744073709551616->Lib.parseUint10 0 (Lib.decDigits u)=.ok u:=by
 intro u
 induction u using JW with
 | ind u ih =>
  intro hu
  rw[Lib.decDigits]
  split
  ·rename_i h
   simp only[Lib.parseUint10,q3u h]
   rw[if_pos (by omega),if_neg (by omega),if_neg (by omega)]
   congr 1
   omega
  ·rename_i h
   rw[qcb _ _ _ _ (ih (u / 10) (by omega) (by omega))]
   simp only[Lib.parseUint10,q3u (show u % 10<10 by omega)]
   rw[if_pos (by omega),if_neg (by omega),if_neg (by omega)]
   congr 1
   omega
theorem qiw (u:Nat)(h:u<18446744073709551616):Lib.parseMag (Lib.decDigits u)=.ok u:=by
 unfold Lib.parseMag
 rw[if_neg (qiu u),qiv u h]
theorem q3v {n:Int}(h0:-9223372036854775808<=n)(h1:n<9223372036854775808):Lib.atoiAll (Lib.itoa n)=.ok n:=by
 unfold Lib.itoa
 split
 ·rename_i h
  rw[Lib.atoiAll_minus,qiw _ (by omega)]
  unfold Lib.signed
  simp only
  rw[if_neg (by omega)]
  congr 1
  omega
 ·rename_i h
  have hd:=qit n.toNat
  have hm:=qiw n.toNat (by omega)
  cases hl:Lib.decDigits n.toNat with
  | nil=>exact absurd hl (qiu _)
  | cons c r =>
   have hc:=hd c (by rw[hl]; simp)
   rw[Lib.atoiAll_plain c r (by omega) (by omega),← hl,hm]
   unfold Lib.signless
   simp only
   rw[if_neg (by omega)]
   congr 1
   omega
theorem qdy (n:Int):Lib.itoa n≠[]:=by
 unfold Lib.itoa
 split
 ·simp
 ·exact qiu _
