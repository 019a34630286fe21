/- The formula of a body: one step an operation, a region, a piece of code; sound for the model's own walk. Conditions: none. -/
import Derived.Test.YtfpobpjandjhjaaGreatDoorPwG
open Nat renaming eq_of_beq_eq_true->J0,beq->J1
open Array renaming toList_inj->J2
namespace Pw
open Go
abbrev Spec:=List Value->World->VW->Prop
abbrev Env:=List (Nat × Spec)
def qh2:Env->Nat->Option Spec
 | [],_=>none
 | (n,s) :: r,f=>match J1 n f with
  | true=>some s
  | false=>qh2 r f
def q3e (P:Program)(f:Nat)(S:Spec):Prop :=
 (∀ args w,(callFunc f args).run P w=.ok (.enter f args) w) /\
 ∀ vs w K,S vs w K->Calls P f vs.toArray w fun e w'=>∃ v,e=.returned v/\K v w'
def qej (P:Program)(f:Nat)(S:Spec):Prop :=
 ∀ vs w K,S vs w K->∃ v w',(callFunc f vs.toArray).run P w=.ok (.value v) w'/\K v w'
def q7u (P:Program):Env->Prop
 | []=>True
 | (f,S) :: r=>(q3e P f S\/qej P f S)/\q7u P r
theorem qh3 {P:Program}:∀ {Γ:Env} {f:Nat} {S:Spec},q7u P Γ->qh2 Γ f=some S->q3e P f S\/qej P f S
 | [],_,_,_,h=>by simp[qh2] at h
 | (n,s) :: r,f,S,hok,h=>by
  unfold qh2 at h
  split at h
  ·rename_i hb
   have:=J0 hb
   subst this
   cases h
   exact hok.1
  ·exact qh3 hok.2 h
def nzm:Option Nat->(Nat->Prop)->Prop
 | some r,K=>K r
 | none,_=>False
theorem qau {q:Option Nat}{K:Nat->Prop}(h:nzm q K):∃ r,q=some r/\K r:=by
 cases q with
 | some r=>exact⟨r,rfl,h⟩
 | none=>exact h.elim
def slV (K:VW):SW:=fun s w=>K (.slice s.p s.l s.c) w
def opE (P:Program)(Γ:Env)(σ:St)(o:Oper)(w:World)(K:VW):Option Prop :=
 match o.op with
 | .load t x=>match ev σ x with
  | some (.pointer (some a))=>some (ldW P (fun b v=>w.cell? b=some v) t a fun v=>K v w)
  | _=>none
 | .store t x y=>match ev σ x,ev σ y with
  | some (.pointer (some a)),some v=>some (stW P t a v w fun w'=>K undef w')
  | _,_=>none
 | .makeSlice t l c=>match ev σ l,ev σ c,P.underlying t with
  | some (.int _ l),some (.int _ c),some (.slice e)=>match P.info? e with
   | some ti=>match ti.zero with
    | some z=>match J1 z.cells.size ti.size with
     | true=>some (mkS ti.bytes z.cells.toList e l c w (slV K))
     | false=>none
    | none=>none
   | none=>none
  | _,_,_=>none
 | .convert s d x=>match ev σ x,P.underlying s,P.underlying d with
  | some (.string b),some .string,some (.slice e)=>match P.underlying e with
   | some (.int .u8)=>some (stbS e b w (slV K))
   | _=>none
  | some (.slice p l c),some (.slice e),some .string=>match P.underlying e with
   | some (.int .u8)=>some (btsS ⟨p,l,c⟩ w fun r=>K (.string r) w)
   | _=>none
  | _,_,_=>none
 | .call c=>match c.callee with
  | .value f=>match ev σ f with
   | some (.func (.func f) first captured)=>match qh2 Γ f,evs σ c.args.toList with
    | some S,some vs=>some (S (first.toList++vs++captured.toList) w K)
    | _,_=>none
   | _=>none
  | .builtin .append=>match c.argTypes.toList,evs σ c.args.toList with
   | [st,xt],some [.slice p l c,x]=>match P.underlying st with
    | some (.slice e)=>match P.info? e with
     | some ti=>match ti.zero with
      | some z=>match x,P.underlying xt with
       | .slice q m d,some (.slice _)=>some (apS ti.size ti.bytes z.cells.toList e ⟨p,l,c⟩ ⟨q,m,d⟩ w (slV K))
       | .int _ m,some (.int _)=>match J1 z.cells.size ti.size && z.cells.toList.all okC with
        | true=>some (apZ ti.size ti.bytes z.cells.toList e ⟨p,l,c⟩ m w (slV K))
        | false=>none
       | .string s,some .string=>match z,J1 ti.size 1 && J1 ti.bytes 1 with
        | .int .u8 0,true=>some (apT e ⟨p,l,c⟩ s w (slV K))
        | _,_=>none
       | _,_=>none
      | none=>none
     | none=>none
    | _=>none
   | _,_=>none
  | .builtin .unsafeString=>match c.argTypes.toList,evs σ c.args.toList with
   | [pt,_],some [.pointer (some a),.int .i64 n]=>match P.underlying pt with
    | some (.pointer e)=>match J1 (P.cellsOf e) 1 with
     | true=>some (usS e a n w fun r w'=>K (.string r) w')
     | false=>none
    | _=>none
   | _,_=>none
  | .builtin .copy=>match c.argTypes.toList,evs σ c.args.toList with
   | dt :: _ :: _,some [.slice p l c,x]=>match P.underlying dt with
    | some (.slice e)=>match P.info? e with
     | some ti=>match x with
      | .slice q m d=>some (cpS ti.size ⟨p,l,c⟩ ⟨q,m,d⟩ w fun n w'=>K (.int .i64 n) w')
      | .string s=>some (cpT ⟨p,l,c⟩ s w fun n w'=>K (.int .i64 n) w')
      | _=>none
     | none=>none
    | _=>none
   | _,_=>none
  | .builtin .len=>match c.argTypes.toList,evs σ c.args.toList with
   | [t],some [.map x]=>match P.underlying t with
    | some (.map _ _)=>some (nzm x fun r=>∃ n:Nat,Ml w r n/\K (.int .i64 (n:Int)) w)
    | _=>none
   | _,_=>none
  | _=>none
 | .lookup t m x false=>match ev σ m,ev σ x,P.underlying t with
  | some (.map q),some (.int k n),some (.map kt et)=>match P.underlying kt,P.info? et with
   | some (.int k'),some ti=>match ti.zero,decide (k=k') with
    | some z,true=>some (nzm q fun r=>lkS k z r n w K)
    | _,_=>none
   | _,_=>none
  | _,_,_=>none
 | .mapUpdate t m x y=>match ev σ m,ev σ x,ev σ y,P.underlying t with
  | some (.map q),some (.int k n),some v,some (.map kt _)=>match P.underlying kt with
   | some (.int k')=>match decide (k=k') with
    | true=>some (nzm q fun r=>muS k r n v w fun w'=>K undef w')
    | false=>none
   | _=>none
  | _,_,_,_=>none
 | .panic _=>some False
 | _=>none
def opR (P:Program)(σ:St)(o:Oper)(w:World)(K:VW):Prop :=
 match qgo σ o.op.operands.toList with
 | false=>False
 | true=>match (execOp (rho σ) o).run P w with
  | .ok (.value v) w'=>K v w'
  | .ok .skip w'=>K undef w'
  | _=>False
def opW (P:Program)(Γ:Env)(σ:St)(o:Oper)(w:World)(K:VW):Prop :=
 match spW P σ o.op with
 | some T=>T fun v=>K v w
 | none=>match opE P Γ σ o w K with
  | some Q=>Q
  | none=>opR P σ o w K
def q65:Op->Bool
 | .select ..=>true
 | .defer _=>true
 | _=>false
section
variable {P:Program}{Γ:Env}
theorem qav (f:Nat)(a b args:Array Value)(w:World) :
  (Deferred.ofValue (.func (.func f) a b) args:Sem Deferred).run P w=.ok { target:=.fn (.func f) b,args:=a++args } w:=by
 simp[Deferred.ofValue]
theorem qh4 (hΓ:q7u P Γ){n:Nat}{B:List Deferred}{σ:St}{a:Act}(ha:Agr n B σ a){o:Oper}{w:World}{K:VW}{Q':Prop}(hQ:opE P Γ σ o w K=some Q')(h:Q')
  {next:Act->World->Prop} {Q:Exit->Act->World->Prop} (hnext:∀ v w',K v w'->next (a.put o.dst v) w'):o.wp P a w next Q:=by
 obtain⟨dst,op,type,pos,after,guard⟩:=o
 unfold Oper.wp
 cases op<;>simp only[opE] at hQ<;>try cases hQ
 case panic x=>exact h.elim
 case load t x =>
  split at hQ
  ·rename_i b hx
   cases hQ
   obtain⟨v,hv,hr⟩:=q8b (P:=P) (S:=fun w'=>w'=w) (fun b v hb w' hw'=>by subst hw'; exact hb) h
   have:=hr w rfl
   simp only[execOp,Instr.loadAt,ha.ev hx,Instr.sureAddr,Sem.run_bind,Sem.run_pure,Result.andThen_ok,this]
   exact hnext _ _ hv
  ·cases hQ
 case store t x y =>
  split at hQ
  ·rename_i b v hx hy
   cases hQ
   obtain⟨w',hw',hr⟩:=qgs (P:=P) h
   simp only[execOp,Instr.storeAt,ha.ev hx,ha.ev hy,Instr.sureAddr,Sem.run_bind,Sem.run_pure,Result.andThen_ok,hr]
   exact hnext _ _ hw'
  ·cases hQ
 case makeSlice t l c =>
  split at hQ
  ·rename_i k1 l k2 c e hl hc ht
   split at hQ
   ·rename_i ti hti
    split at hQ
    ·rename_i z hz
     split at hQ
     ·rename_i hsz
      cases hQ
      obtain⟨r,w',hK,hr⟩:=qgz (P:=P) (k:=k1) (k':=k2) ht hti hz (J0 hsz) h
      simp only[execOp,ha.ev hl,ha.ev hc,Sem.run_bind,Sem.run_pure,Result.andThen_ok,hr]
      exact hnext _ _ hK
     ·cases hQ
    ·cases hQ
   ·cases hQ
  ·cases hQ
 case convert s d x =>
  split at hQ
  ·rename_i b e hx hs' hd
   split at hQ
   ·rename_i he
    cases hQ
    obtain⟨r,w',hK,hr⟩:=qfo (P:=P) hs' hd he h
    simp only[execOp,ha.ev hx,Sem.run_bind,Sem.run_pure,Result.andThen_ok,hr]
    exact hnext _ _ hK
   ·cases hQ
  ·rename_i p l c e hx hs' hd
   split at hQ
   ·rename_i he
    cases hQ
    obtain⟨r,hK,hr⟩:=qfp (P:=P) hs' hd he h
    simp only[execOp,ha.ev hx,Sem.run_bind,Sem.run_pure,Result.andThen_ok,hr]
    exact hnext _ _ hK
   ·cases hQ
  ·cases hQ
 case lookup t m x ok =>
  cases ok with
  | true=>cases hQ
  | false =>
   simp only at hQ
   split at hQ
   ·rename_i q k n kt et hm hx ht
    split at hQ
    ·rename_i k' ti hk hi
     split at hQ
     ·rename_i z hz hkk
      cases hQ
      have hkk:=of_decide_eq_true hkk
      subst hkk
      obtain⟨r,rfl,h⟩:=qau h
      obtain⟨v,hK,hr⟩:=qh1 (P:=P) t ht hk hi hz h
      simp only[execOp,ha.ev hm,ha.ev hx,Sem.run_bind,Sem.run_pure,Result.andThen_ok,hr]
      exact hnext _ _ hK
     ·cases hQ
    ·cases hQ
   ·cases hQ
 case mapUpdate t m x y =>
  split at hQ
  ·rename_i q k n v kt et hm hx hy ht
   split at hQ
   ·rename_i k' hk
    split at hQ
    ·rename_i hkk
     cases hQ
     have hkk:=of_decide_eq_true hkk
     subst hkk
     obtain⟨r,rfl,h⟩:=qau h
     obtain⟨⟨l,hl⟩,hK⟩:=h
     have hr:=qas (P:=P) (n:=n) t v ht hk hl
     simp only[execOp,ha.ev hm,ha.ev hx,ha.ev hy,Sem.run_bind,Sem.run_pure,Result.andThen_ok,hr]
     exact hnext _ _ hK
    ·cases hQ
   ·cases hQ
  ·cases hQ
 case call c =>
  obtain⟨callee,args,ats⟩:=c
  simp only at hQ
  split at hQ
  ·rename_i f
   split at hQ
   ·rename_i f' first captured hf
    split at hQ
    ·rename_i S vs hS hvs
     cases hQ
     have hm:args.map a.eval=vs.toArray:=by
      apply J2.1
      simp[ha.evs hvs]
     have harr:first++vs.toArray++captured=(first.toList++vs++captured.toList).toArray:=by
      apply J2.1; simp
     rcases qh3 hΓ hS with⟨hcall,hsnd⟩ | hx
     ·have hc:=hsnd _ _ _ h
      simp only[execOp,resolve,hm,ha.ev hf,qav,Sem.run_bind,Result.andThen_ok,invoke,hcall,Oper.upon]
      rw[harr]
      refine hc.mono fun e w' he=>?_
      obtain⟨v,rfl,hv⟩:=he
      exact hnext _ _ hv
     ·obtain⟨v,w',hr,hv⟩:=hx _ _ _ h
      simp only[execOp,resolve,hm,ha.ev hf,qav,Sem.run_bind,Result.andThen_ok,invoke,harr,hr]
      exact hnext _ _ hv
    ·cases hQ
   ·cases hQ
  ·split at hQ
   ·rename_i st xt p l c' x hts hvs
    have hm:args.map a.eval=#[.slice p l c',x]:=by
     apply J2.1
     simp[ha.evs hvs]
    have hat:ats=#[st,xt]:=by
     apply J2.1
     simpa using hts
    split at hQ
    ·rename_i e hst
     split at hQ
     ·rename_i ti hti
      split at hQ
      ·rename_i z hz
       split at hQ
       ·rename_i q m d e' hxt
        cases hQ
        obtain⟨r,w',hK,hr⟩:=qgu (P:=P) (ty:=type) (s:=⟨p,l,c'⟩) (x:=⟨q,m,d⟩) hst hxt hti hz h
        simp only[execOp,resolve,hm,hat,Sem.run_bind,Sem.run_pure,Result.andThen_ok,invoke,builtin]
        rw[hr]
        exact hnext _ _ hK
       ·rename_i k' m k hxt
        split at hQ
        ·rename_i hb
         cases hQ
         simp only[Bool.and_eq_true] at hb
         obtain⟨r,w',hK,hr⟩:=qgw (P:=P) (ty:=type) (s:=⟨p,l,c'⟩) (k':=k') hst hxt hti hz (J0 hb.1) (fun v hv=>List.all_eq_true.1 hb.2 v hv) h
         simp only[execOp,resolve,hm,hat,Sem.run_bind,Sem.run_pure,Result.andThen_ok,invoke,builtin]
         rw[hr]
         exact hnext _ _ hK
        ·cases hQ
       ·rename_i s hxt
        split at hQ
        ·rename_i hb
         cases hQ
         simp only[Bool.and_eq_true] at hb
         obtain⟨r,w',hK,hr⟩:=qgv (P:=P) (ty:=type) (s:=⟨p,l,c'⟩) hst hxt hti hz (J0 hb.1) (J0 hb.2) h
         simp only[execOp,resolve,hm,hat,Sem.run_bind,Sem.run_pure,Result.andThen_ok,invoke,builtin]
         rw[hr]
         exact hnext _ _ hK
        ·cases hQ
       ·cases hQ
      ·cases hQ
     ·cases hQ
    ·cases hQ
   ·cases hQ
  ·split at hQ
   ·rename_i pt it b m hts hvs
    have hm:args.map a.eval=#[.pointer (some b),.int .i64 m]:=by
     apply J2.1
     simp[ha.evs hvs]
    have hat:ats=#[pt,it]:=by
     apply J2.1
     simpa using hts
    split at hQ
    ·rename_i e hpt
     split at hQ
     ·rename_i hc
      cases hQ
      obtain⟨r,w',hK,hr⟩:=qh0 (P:=P) (it:=it) (ty:=type) hpt (J0 hc) h
      simp only[execOp,resolve,hm,hat,Sem.run_bind,Sem.run_pure,Result.andThen_ok,invoke,builtin]
      rw[hr]
      exact hnext _ _ hK
     ·cases hQ
    ·cases hQ
   ·cases hQ
  ·split at hQ
   ·rename_i dt xt rest p l c' x hts hvs
    have hm:args.map a.eval=#[.slice p l c',x]:=by
     apply J2.1
     simp[ha.evs hvs]
    have hat:ats=(dt :: xt :: rest).toArray:=by
     apply J2.1
     simpa using hts
    split at hQ
    ·rename_i e hdt
     split at hQ
     ·rename_i ti hti
      split at hQ
      ·rename_i q m d
       cases hQ
       obtain⟨r,w',hK,hr⟩:=qgx (P:=P) (ty:=type) (rest:=rest) (xt:=xt) (d:=⟨p,l,c'⟩) (x:=⟨q,m,d⟩) hdt hti h
       simp only[execOp,resolve,hm,hat,Sem.run_bind,Sem.run_pure,Result.andThen_ok,invoke,builtin]
       rw[hr]
       exact hnext _ _ hK
      ·rename_i s
       cases hQ
       obtain⟨r,w',hK,hr⟩:=qgy (P:=P) (ty:=type) (rest:=rest) (xt:=xt) (d:=⟨p,l,c'⟩) hdt hti h
       simp only[execOp,resolve,hm,hat,Sem.run_bind,Sem.run_pure,Result.andThen_ok,invoke,builtin]
       rw[hr]
       exact hnext _ _ hK
      ·cases hQ
     ·cases hQ
    ·cases hQ
   ·cases hQ
  ·split at hQ
   ·rename_i t q hts hvs
    have hm:args.map a.eval=#[.map q]:=by
     apply J2.1
     simp[ha.evs hvs]
    have hat:ats=#[t]:=by
     apply J2.1
     simpa using hts
    split at hQ
    ·rename_i kt et ht
     cases hQ
     obtain⟨r,rfl,h⟩:=qau h
     obtain⟨c,hc,hK⟩:=h
     have hr:=qdh (P:=P) t type ht hc
     simp only[execOp,resolve,hm,hat,Sem.run_bind,Sem.run_pure,Result.andThen_ok,invoke,builtin]
     rw[hr]
     exact hnext _ _ hK
    ·cases hQ
   ·cases hQ
  ·cases hQ
theorem q2o (hΓ:q7u P Γ){n:Nat}{B:List Deferred}{σ:St}{a:Act}(ha:Agr n B σ a){o:Oper}(hs:q65 o.op=false){w:World}{K:VW}(h:opW P Γ σ o w K)
  {next:Act->World->Prop} {Q:Exit->Act->World->Prop} (hnext:∀ v w',K v w'->next (a.put o.dst v) w'):o.wp P a w next Q:=by
 unfold opW at h
 split at h
 ·rename_i T hT
  obtain⟨v,hv,hr⟩:=q89 (P:=P) ha hT h
  unfold Oper.wp
  rw[hr w]
  exact hnext _ _ hv
 split at h
 ·rename_i Q' hQ
  exact qh4 hΓ ha hQ h hnext
 ·unfold opR at h
  split at h
  ·exact h.elim
  ·rename_i hk
   have hcongr:execOp (rho σ) o=execOp a.eval o:=execOp_congr o (by intro cs b hb; rw[hb] at hs; cases hs) fun x hx=>ha.rho hk x (by simpa using hx)
   rw[hcongr] at h
   unfold Oper.wp
   split at h
   ·rename_i hr; rw[hr]; exact hnext _ _ h
   ·rename_i hr; rw[hr]; exact hnext _ _ h
   ·exact h.elim
def fen (r:Option Nat):Fence:={ Fence.wide with round:=r }
theorem qh5 {r:Option Nat}{m:Nat}{f:FuncId}{args:Array Value}{w:World}{R:Ending->World->Prop}(h:Calls P f args w R):CallsIn (fen r) m P f args w R :=
 ⟨trivial,fun cs _=>let ⟨e,w',fr,r,s,x⟩:=h cs; ⟨e,w',fr,r,(comesIn_wide (P:=P)).2 s,x⟩⟩
theorem rowsF {r:Option Nat}{m:Nat}{row:String}{args:Array Value}{w:World}{R:Value->World->Prop}(h:Rows P row args w R):RowsIn (fen r) m P row args w R :=
 fun c cs _=>let ⟨v,w',r,s⟩:=h c cs; ⟨v,w',r,(stepsIn_wide (P:=P)).2 s⟩
theorem q4g {r:Option Nat}{X:Prop}:(fen r).depth.isSome=true->X:=fun h=>by simp[fen,Fence.wide] at h
theorem qaw {o:Oper}{a:Act}{w:World}{next:Act->World->Prop}{Q:Exit->Act->World->Prop}{r:Option Nat}{m:Nat}(hd:q65 o.op=false)(h:o.wp P a w next Q):o.wpIn (fen r) m P a w next Q:=by
 refine⟨fun _ _=>trivial,?_⟩
 rw[Oper.semAt_eq _ a.eval o (by intro c hc; rw[hc] at hd; cases hd)]
 unfold Oper.wp at h
 generalize (execOp a.eval o).run P w=res at h ⊢
 cases res with
 | ok x w' =>
  cases x<;>simp only[Oper.upon,Oper.uponIn] at h ⊢<;>first
   | exact h
   | exact⟨q4g,qh5 h⟩
   | exact⟨q4g,rowsF h⟩
 | halt x w'=>cases x<;>simp only[Oper.upon,Oper.uponIn] at h ⊢<;>exact h
def Yl (P:Program)(l:Nat)(args:Array Value)(w:World)(K:VW):Prop :=
 ∃ fn tmps assign body,(Instr.yield l args).run P w=.ok (.round l fn tmps assign body) w/\RoundIn Fence.wide 0 P l fn tmps assign body w fun e w'=>∃ u,e=.returned u/\K u w'
def q2b (P:Program)(v:Value)(vs:List Value)(w:World)(K:VW):Prop :=
 match v with
 | .func (.func g) first cap=>(∀ args w,(callFunc g args).run P w=.ok (.enter g args) w)/\Calls P g (first++vs.toArray++cap) w fun e w'=>∃ u,e=.returned u/\K u w'
 | .func (.yield l) first _=>Yl P l (first++vs.toArray) w K
 | _=>False
theorem q2b.mono {v:Value}{vs:List Value}{w:World}{K K':VW}(hK:∀ u w',K u w'->K' u w')(h:q2b P v vs w K):q2b P v vs w K':=by
 cases v with
 | func f first cap =>
  cases f with
  | func g=>exact⟨h.1,h.2.mono fun e w' he=>let ⟨u,hu,hk⟩:=he; ⟨u,hu,hK _ _ hk⟩⟩
  | yield l =>
   obtain⟨fn,tmps,as,bd,h1,h2⟩:=h
   exact⟨fn,tmps,as,bd,h1,h2.mono fun e w' he=>let ⟨u,hu,hk⟩:=he; ⟨u,hu,hK _ _ hk⟩⟩
  | _=>exact h
 | _=>exact h
def tyC:List Value->(List Value->Prop)->Prop
 | [],K=>K []
 | z :: zs,K=>match z with
  | .int k _=>∃ n:Int,tyC zs fun vs=>K (.int k n :: vs)
  | .bool _=>∃ b:Bool,tyC zs fun vs=>K (.bool b :: vs)
  | .string _=>∃ s:ByteArray,tyC zs fun vs=>K (.string s :: vs)
  | .pointer _=>∃ p:Option Addr,tyC zs fun vs=>K (.pointer p :: vs)
  | .slice _ _ _=>∃ s:Sl,tyC zs fun vs=>K (.slice s.p s.l s.c :: vs)
  | .map _=>∃ m:Option Nat,tyC zs fun vs=>K (.map m :: vs)
  | .agg cs=>tyC' cs.toList fun us=>tyC zs fun vs=>K (.agg us.toArray :: vs)
  | _=>∃ v:Value,tyC zs fun vs=>K (v :: vs)
where tyC':List Value->(List Value->Prop)->Prop
 | [],K=>K []
 | z :: zs,K=>match z with
  | .int k _=>∃ n:Int,tyC' zs fun vs=>K (.int k n :: vs)
  | .bool _=>∃ b:Bool,tyC' zs fun vs=>K (.bool b :: vs)
  | .string _=>∃ s:ByteArray,tyC' zs fun vs=>K (.string s :: vs)
  | .pointer _=>∃ p:Option Addr,tyC' zs fun vs=>K (.pointer p :: vs)
  | .slice _ _ _=>∃ s:Sl,tyC' zs fun vs=>K (.slice s.p s.l s.c :: vs)
  | .map _=>∃ m:Option Nat,tyC' zs fun vs=>K (.map m :: vs)
  | _=>∃ v:Value,tyC' zs fun vs=>K (v :: vs)
theorem qh6:∀ {zs:List Value} {K:List Value->Prop},tyC.tyC' zs K->∃ vs,K vs
 | [],K,h=>⟨[],h⟩
 | z :: zs,K,h=>by
  unfold tyC.tyC' at h
  split at h
  all_goals (obtain⟨n,h⟩:=h; obtain⟨vs,h⟩:=qh6 h; exact⟨_,h⟩)
theorem q5e:∀ {zs:List Value} {K:List Value->Prop},tyC zs K->∃ vs,K vs
 | [],K,h=>⟨[],h⟩
 | z :: zs,K,h=>by
  unfold tyC at h
  split at h
  case _=>obtain⟨n,h⟩:=h; obtain⟨vs,h⟩:=q5e h; exact⟨_,h⟩
  case _=>obtain⟨n,h⟩:=h; obtain⟨vs,h⟩:=q5e h; exact⟨_,h⟩
  case _=>obtain⟨n,h⟩:=h; obtain⟨vs,h⟩:=q5e h; exact⟨_,h⟩
  case _=>obtain⟨n,h⟩:=h; obtain⟨vs,h⟩:=q5e h; exact⟨_,h⟩
  case _=>obtain⟨n,h⟩:=h; obtain⟨vs,h⟩:=q5e h; exact⟨_,h⟩
  case _=>obtain⟨n,h⟩:=h; obtain⟨vs,h⟩:=q5e h; exact⟨_,h⟩
  case _=>obtain⟨us,h⟩:=qh6 h; obtain⟨vs,h⟩:=q5e h; exact⟨_,h⟩
  case _=>obtain⟨n,h⟩:=h; obtain⟨vs,h⟩:=q5e h; exact⟨_,h⟩
def typ (z u:Value)(K:Value->Prop):Prop:=match z with
 | .tuple zs=>tyC zs.toList fun vs=>u=.tuple vs.toArray/\K (.tuple vs.toArray)
 | z=>tyC [z] fun vs=>match vs with
  | [v]=>u=v/\K v
  | _=>False
theorem qc3 {z u:Value}{K:Value->Prop}(h:typ z u K):K u:=by
 unfold typ at h
 split at h
 ·obtain⟨vs,hu,h⟩:=q5e h
  rw[hu]; exact h
 ·obtain⟨vs,h⟩:=q5e h
  split at h
  ·obtain⟨rfl,h⟩:=h; exact h
  ·exact h.elim
def opV (P:Program)(σ:St)(o:Oper)(z:Value)(w:World)(K:VW):Prop :=
 match o.op with
 | .call c=>match c.callee with
  | .value f=>match ev σ f,evs σ c.args.toList with
   | some v,some vs=>q2b P v vs w fun u w'=>typ z u fun u=>K u w'
   | _,_=>False
  | _=>False
 | _=>False
theorem qc4 {r:Option Nat}{m n:Nat}{B:List Deferred}{σ:St}{a:Act}(ha:Agr n B σ a){o:Oper}{z:Value}{w:World}{K:VW}(h:opV P σ o z w K)
  {next:Act->World->Prop} {Q:Exit->Act->World->Prop} (hnext:∀ v w',K v w'->next (a.put o.dst v) w'):o.wpIn (fen r) m P a w next Q:=by
 obtain⟨dst,op,type,pos,after,guard⟩:=o
 unfold opV at h
 split at h
 ·rename_i c hop
  simp only at hop
  subst hop
  obtain⟨callee,args,ats⟩:=c
  split at h
  ·rename_i f hc
   simp only at hc
   subst hc
   split at h
   ·rename_i v vs hf hvs
    have hm:args.map a.eval=vs.toArray:=by
     apply J2.1
     simp[ha.evs hvs]
    refine⟨fun _ _=>trivial,?_⟩
    rw[Oper.semAt_eq _ a.eval _ (by intro c hc; cases hc)]
    unfold q2b at h
    split at h
    ·rename_i g first cap
     obtain⟨hcall,h⟩:=h
     simp only[execOp,resolve,hm,ha.ev hf,qav,Sem.run_bind,Result.andThen_ok,invoke,hcall,Oper.uponIn]
     refine⟨q4g,qh5 (h.mono fun e w' he=>?_)⟩
     obtain⟨u,rfl,hk⟩:=he
     exact hnext _ _ (qc3 hk)
    ·rename_i l first cap
     obtain⟨fn,tmps,as,bd,h1,h2⟩:=h
     have hof:(Deferred.ofValue (.func (.yield l) first cap) vs.toArray:Sem Deferred).run P w=.ok { target:=.fn (.yield l) cap,args:=first++vs.toArray } w:=by
      simp[Deferred.ofValue]
     simp only[execOp,resolve,hm,ha.ev hf,hof,Sem.run_bind,Result.andThen_ok,invoke,h1,Oper.uponIn]
     refine⟨q4g,trivial,fun c cs _=>?_⟩
     obtain⟨e,w',he,hs⟩:=h2.2 c cs (room_wide _)
     obtain⟨u,rfl,hk⟩:=he
     exact⟨.returned u,w',hnext _ _ (qc3 hk),hs⟩
    ·exact h.elim
   ·exact h.elim
  ·exact h.elim
 ·exact h.elim
end
end Pw
