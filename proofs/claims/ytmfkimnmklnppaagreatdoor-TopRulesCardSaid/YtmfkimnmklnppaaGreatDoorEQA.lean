/- A small machine of weakest preconditions over the model's code: a walk of a function's body as one plain formula, checked by the kernel. Conditions: none. -/
import Derived.OrdersHeld
import Derived.RangeFuncCalls
import Derived.WalkKit
import Derived.ChangeKeysEq
import Derived.Laws.StructEq
import Derived.Lib.UnsafeStr
import Derived.MapKept
open List renaming getElem?_cons_zero->J0,getElem?_toArray->J1,getElem?_cons_succ->J2,map_cons->J3,getElem?_eq_some_iff->J4,getElem_cons_zero->J5,ext_getElem?->J6,mem_map->J7,drop_drop->J8,mem_range->J9,replicate->Ja,tail->Jb
open Nat renaming zero_add->Jc,eq_of_beq_eq_true->Jd,add_zero->Je,mod_lt->Jf,beq->Jg
open Array renaming toList_inj->Jh,getElem?_toList->Ji,length_toList->Jj,ext->Jk
theorem oo{p:Prop}(h:p:=by omega):p:=h
theorem od{p:Prop}(h:p:=by decide):p:=h
theorem og{p:Prop}(h:p:=by simp):p:=h
theorem oz{p:Prop}(h:p:=by grind):p:=h
theorem oy{p:Prop}(h:p:=by simp;omega):p:=h
theorem ox{p:Prop}(h:p:=by assumption):p:=h
theorem uo{p:Prop}(h:p:=by dsimp only;omega):p:=h
theorem ud{p:Prop}(h:p:=by simp_all):p:=h
namespace Pw
open Go
abbrev St:=List (Nat×Value)
def get:St->Nat->Option Value
  | [],_=>none
  | (n,v)::r,t=>match Jg n t with
    | true=>some v
    | false=>get r t
def str(l:List Nat):ByteArray:=⟨(l.map UInt8.ofNat).toArray⟩
structure Sl where
  p:Option Addr
  l:Nat
  c:Nat
def ev(σ:St):Operand->Option Value
  | .tmp t=>get σ t
  | .const v=>some v
  | .global g=>some (.pointer (some ⟨g,0,none⟩))
  | .func f=>some (.func (.func f) #[] #[])
def evs(σ:St):List Operand->Option (List Value)
  | []=>some []
  | x::r=>match ev σ x with
    | none=>none
    | some v=>match evs σ r with
      | none=>none
      | some vs=>some (v::vs)
def rho(σ:St)(x:Operand):Value:=match ev σ x with
  | some v=>v
  | none=>undef
def qkt(σ:St):List Operand->Bool
  | []=>true
  | x::r=>match ev σ x with
    | some _=>qkt σ r
    | none=>false
def getAll(σ:St):List Nat->Option (List Value)
  | []=>some []
  | t::r=>match get σ t with
    | none=>none
    | some v=>match getAll σ r with
      | none=>none
      | some vs=>some (v::vs)
def zipS:List Nat->List Value->St
  | t::r,v::vs=>(t,v)::zipS r vs
  | _,_=>[]
def Agr(n:Nat)(B:List Deferred)(σ:St)(a:Act):Prop:=
  a.tmps.size=n/\a.defers=B/\∀t v,get σ t=some v->a.tmps[t]?=some v
theorem q3r(n:Nat)(v:Value)(r:St)(t:Nat):get ((n,v)::r) t=if n=t then some v else get r t:=by
  by_cases h:n=t
  . subst h;simp[get]
  . have:Jg n t=false:=by
      cases hb:Jg n t with
      | false=>rfl
      | true=>simp_all
    simp[get,this,h]
theorem Agr.ev{n:Nat}{B:List Deferred}{σ:St}{a:Act}(h:Agr n B σ a){x:Operand}{v:Value}(hx:ev σ x=some v):a.eval x=v:=by
  cases x with
  | tmp t=>have:=h.2.2 t v hx;simp[Act.eval,this]
  | const c=>simp[Pw.ev]at hx;simp[Act.eval,hx]
  | global g=>simp[Pw.ev]at hx;simp[Act.eval,hx]
  | func f=>simp[Pw.ev]at hx;simp[Act.eval,hx]
theorem Agr.rho{n:Nat}{B:List Deferred}{σ:St}{a:Act}(h:Agr n B σ a):∀ {l:List Operand},qkt σ l=true->∀x∈l,Pw.rho σ x=a.eval x
  | [],_,_,hx=>by cases hx
  | y::r,hk,x,hx=>by
    unfold qkt at hk
    split at hk
    . rename_i v hv
      rcases List.mem_cons.1 hx with rfl|hx
      . simp[Pw.rho,hv,h.ev hv]
      . exact Agr.rho h hk x hx
    . cases hk
theorem Agr.put{n:Nat}{B:List Deferred}{σ:St}{a:Act}(h:Agr n B σ a){d:Nat}(hd:d<n)(v:Value):Agr n B ((d,v)::σ) (a.put (some d) v):=by
  refine⟨by simp[Act.put,h.1],by simp[Act.put,h.2.1],fun t u ht=>?_⟩
  rw[q3r]at ht
  by_cases hdt:d=t
  . subst hdt
    simp at ht
    have:d<a.tmps.size:=by rw[h.1];exact hd
    simp[Act.put,ht,this]
  . simp[hdt]at ht
    simp[Act.put,Array.getElem?_setIfInBounds_ne hdt,h.2.2 t u ht]
theorem Agr.getAll{n:Nat}{B:List Deferred}{σ:St}{a:Act}(h:Agr n B σ a):∀ {l:List Nat} {vs:List Value},Pw.getAll σ l=some vs->Agr n B (zipS l vs) a
  | [],vs,_=>⟨h.1,h.2.1,fun t v ht=>by simp[zipS,get]at ht⟩
  | t::r,vs,hg=>by
    unfold Pw.getAll at hg
    split at hg
    . cases hg
    . rename_i v hv
      split at hg
      . cases hg
      . rename_i us hus
        cases hg
        have ih:=Agr.getAll h hus
        refine⟨h.1,h.2.1,fun u w hu=>?_⟩
        simp only[zipS]at hu
        rw[q3r]at hu
        by_cases htu:t=u
        . subst htu;simp at hu;subst hu;exact h.2.2 _ _ hv
        . simp[htu]at hu;exact ih.2.2 u w hu
theorem Agr.evs{n:Nat}{B:List Deferred}{σ:St}{a:Act}(h:Agr n B σ a):∀ {l:List Operand} {vs:List Value},Pw.evs σ l=some vs->l.map a.eval=vs
  | [],vs,hg=>by simpa [Pw.evs]using hg
  | x::r,vs,hg=>by
    unfold Pw.evs at hg
    split at hg
    . cases hg
    . rename_i v hv
      split at hg
      . cases hg
      . rename_i us hus
        cases hg
        simp[h.ev hv,Agr.evs h hus]
def putK(n:Nat)(dst:Option Tmp)(v:Value)(σ:St)(K:St->Prop):Prop:=
  match dst with
  | none=>K σ
  | some d=>match Nat.blt d n with
    | true=>K ((d,v)::σ)
    | false=>False
theorem q0l{n:Nat}{B:List Deferred}{dst:Option Tmp}{v:Value}{σ:St}{K:St->Prop}{a:Act}(h:putK n dst v σ K)(ha:Agr n B σ a) :
    ∃σ',K σ'/\Agr n B σ' (a.put dst v):=by
  unfold putK at h
  split at h
  . exact⟨σ,h,ha⟩
  . rename_i d
    split at h
    . rename_i hb
      exact⟨_,h,ha.put (by simp_all) v⟩
    . exact h.elim
def qj3(P:Program):Sem Next->Option Value
  | .pure (.value v)=>some v
  | .program k=>qj3 P (k P)
  | .mark _ k=>qj3 P k
  | _=>none
theorem q83{P:Program}:∀(s:Sem Next) {v:Value},qj3 P s=some v->∀w,s.run P w=.ok (.value v) w:=by
  intro s
  induction s with
  | pure a=>intro v h w;cases a<;>simp[qj3]at h;subst h;rfl
  | program k ih=>intro v h w;exact ih P h w
  | mark m k ih=>intro v h w;exact ih h w
  | _=>intro v h w;simp[qj3]at h
def inR(k:IntKind)(n:Int):Prop:=k.wrap n=n
def cnd(t:Bool)(X Y:Prop):Prop:=match t with
  | true=>X
  | false=>Y
def nz(p:Option Addr)(K:Addr->Prop):Prop:=match p with
  | some a=>K a
  | none=>False
theorem q09{t:Bool}{X Y:Prop}:cnd t X Y ↔ (t=true->X)/\(t=false->Y):=by cases t<;>simp[cnd]
theorem qs6{p:Option Addr}{K:Addr->Prop}:nz p K ↔ ∃a,p=some a/\K a:=by cases p<;>simp[nz]
theorem q00{c:Prop}[Decidable c]{X Y:Prop}:cnd (decide c) X Y ↔ (c->X)/\(¬c->Y):=by simp[q09]
theorem q0i{a b:Int}{X Y:Prop}:cnd (a==b) X Y ↔ (a=b->X)/\(¬a=b->Y):=by simp[q09]
theorem q0r{a b:Int}{X Y:Prop}:cnd (a != b) X Y ↔ (¬a=b->X)/\(a=b->Y):=by simp[q09]
@[simp] theorem q1c{X Y:Prop}:cnd true X Y=X:=rfl
@[simp] theorem q0x{X Y:Prop}:cnd false X Y=Y:=rfl
@[simp] theorem q1j{a:Addr}{K:Addr->Prop}:nz (some a) K=K a:=rfl
abbrev PT:=(Value->Prop)->Prop
def subP(p:Option Addr)(l m size:Nat):Option Addr:=if m=l then p else p.map (·.add (l*size))
def maxI:Int:=9223372036854775807
def qp0(op:BinOp)(x y:Value):Option PT:=
  match x,y with
  | .int k a,.int k' b =>
    match op with
    | .add=>match decide (k=k')with
      | true=>some fun K=>inR k (a+b)/\K (.int k (a+b))
      | false=>none
    | .sub=>match decide (k=k')with
      | true=>some fun K=>inR k (a-b)/\K (.int k (a-b))
      | false=>none
    | .mul=>match decide (k=k')with
      | true=>some fun K=>inR k (a*b)/\K (.int k (a*b))
      | false=>none
    | .quo=>match decide (k=k')with
      | true=>some fun K=>b≠0/\inR k (a.tdiv b)/\K (.int k (a.tdiv b))
      | false=>none
    | .rem=>match decide (k=k')with
      | true=>some fun K=>b≠0/\K (.int k (a.tmod b))
      | false=>none
    | .shl=>some fun K=>0<=b/\K (.int k (k.wrap (a*2^(min b.toNat k.bits))))
    | .shr=>some fun K=>0<=b/\K (.int k (a.fdiv (2^(min b.toNat k.bits))))
    | _=>none
  | .pointer p,.pointer none =>
    match op with
    | .eql=>some fun K=>K (.bool p.isNone)
    | .neq=>some fun K=>K (.bool (!p.isNone))
    | _=>none
  | .string a,.string b =>
    match op with
    | .add=>some fun K=>((a.size+b.size:Nat):Int)<=maxI/\K (.string (a++b))
    | .eql=>some fun K=>K (.bool (decide (a=b)))
    | .neq=>some fun K=>K (.bool (!decide (a=b)))
    | _=>none
  | _,_=>none
def qcz(σ:St):Option Operand->Option Int
  | none=>some 0
  | some x=>match ev σ x with
    | some (.int _ i)=>some i
    | _=>none
def eqFs(P:Program):List Field->Nat->List Value->List Value->Option Bool
  | [],_,[],[]=>some true
  | f::fs,i,x::xs,y::ys=>match(f.name != "_")&&Jg f.offset i with
    | true=>match P.underlying f.type,x,y with
      | some (.int _),.int k a,.int k' b=>match decide (k=k')with
        | true=>match eqFs P fs (i+1) xs ys with
          | some r=>some (a==b&&r)
          | none=>none
        | false=>none
      | some .bool,.bool a,.bool b=>match eqFs P fs (i+1) xs ys with
        | some r=>some (a==b&&r)
        | none=>none
      | some .string,.string a,.string b=>match eqFs P fs (i+1) xs ys with
        | some r=>some (decide (a=b)&&r)
        | none=>none
      | _,_,_=>none
    | false=>none
  | _,_,_,_=>none
def eq1(P:Program)(f:Field)(x y:Value):Option Bool:=match P.underlying f.type,x,y with
  | some (.int _),.int k a,.int k' b=>match decide (k=k')with
    | true=>some (a==b)
    | false=>none
  | some .bool,.bool a,.bool b=>some (a==b)
  | some .string,.string a,.string b=>some (decide (a=b))
  | _,_,_=>none
def eqFd(P:Program):List Field->Nat->List Value->List Value->Option Bool
  | [],_,[],[]=>some true
  | f::fs,i,x::xs,y::ys=>match(f.name != "_")&&Jg f.offset i with
    | true=>match P.underlying f.type with
      | some (.struct gs)=>match P.stoodInHeld f.type,P.info? f.type with
        | false,some ti=>match eqFs P gs.toList 0 ((x::xs).take ti.size) ((y::ys).take ti.size)with
          | some q=>match eqFd P fs (i+ti.size) ((x::xs).drop ti.size) ((y::ys).drop ti.size)with
            | some r=>some (q&&r)
            | none=>none
          | none=>none
        | _,_=>none
      | _=>match eq1 P f x y with
        | some q=>match eqFd P fs (i+1) xs ys with
          | some r=>some (q&&r)
          | none=>none
        | none=>none
    | false=>none
  | _,_,_,_=>none
def eqAg(P:Program)(t:TypeId)(xs ys:List Value):Option Bool:=match P.underlying t with
  | some (.struct fs)=>match P.stoodInHeld t||P.eqGuardType P.depth t with
    | false=>match eqFs P fs.toList 0 xs ys with
      | some r=>some r
      | none=>eqFd P fs.toList 0 xs ys
    | true=>none
  | _=>none
def nif(v:Value)(K:Bool->Prop):Prop:=match v with
  | .nilIface=>K true
  | .iface _ _=>K false
  | _=>False
def spW(P:Program)(σ:St)(op:Op):Option PT:=
  match op with
  | .move x=>match ev σ x with
    | some v=>some fun K=>K v
    | none=>none
  | .assign x=>match ev σ x with
    | some v=>some fun K=>K v
    | none=>none
  | .pick c x y=>match ev σ c with
    | some (.bool b)=>match b with
      | true=>match ev σ x with
        | some v=>some fun K=>K v
        | none=>none
      | false=>match ev σ y with
        | some v=>some fun K=>K v
        | none=>none
    | _=>none
  | .nilCheck x=>match ev σ x with
    | some (.pointer p)=>some fun K=>nz p fun a=>K (.pointer (some a))
    | _=>none
  | .binOp op t x y _=>match ev σ y with
   | some .nilIface=>match ev σ x with
    | some v=>match y,P.underlying t with
      | .const _,some (.interface _)=>match op with
        | .eql=>some fun K=>nif v fun b=>K (.bool b)
        | .neq=>some fun K=>nif v fun b=>K (.bool (!b))
        | _=>none
      | _,_=>none
    | none=>none
   | vy=>match ev σ x,vy with
    | some (.slice p _ _),some (.slice none 0 0)=>match P.underlying t with
      | some (.slice _)=>match op with
        | .eql=>some fun K=>K (.bool p.isNone)
        | .neq=>some fun K=>K (.bool (!p.isNone))
        | _=>none
      | _=>none
    | some (.map p),some (.map none)=>match P.underlying t with
      | some (.map _ _)=>match op with
        | .eql=>some fun K=>K (.bool p.isNone)
        | .neq=>some fun K=>K (.bool (!p.isNone))
        | _=>none
      | _=>none
    | some (.pointer p),some (.pointer none)=>match P.underlying t with
      | some (.pointer _)=>qp0 op (.pointer p) (.pointer none)
      | _=>none
    | some (.pointer _),some _=>none
    | some (.agg xs),some (.agg ys)=>match eqAg P t xs.toList ys.toList with
      | some r=>match op with
        | .eql=>some fun K=>K (.bool r)
        | .neq=>some fun K=>K (.bool (!r))
        | _=>none
      | none=>none
    | some v,some u=>qp0 op v u
    | _,_=>none
  | .unOp .neg _ x=>match ev σ x with
    | some (.int k n)=>some fun K=>inR k (-n)/\K (.int k (-n))
    | _=>none
  | .convert s d x=>match ev σ x with
    | some (.int _ n)=>match P.underlying s,P.underlying d with
      | some _,some (.int k)=>some fun K=>inR k n/\K (.int k n)
      | _,_=>none
    | _=>none
  | .indexAddr t x i=>match ev σ x,ev σ i,P.underlying t with
    | some (.slice p l _),some (.int _ j),some (.slice e)=>match P.info? e with
      | some ti=>some fun K=>nz p fun a=>(0<=j/\j<l)/\K (.pointer (some (a.add (j.toNat*ti.size))))
      | none=>none
    | some (.pointer (some a)),some (.int _ j),some (.array l e)=>match P.info? e with
      | some ti=>some fun K=>(0<=j/\j<l)/\K (.pointer (some (a.add (j.toNat*ti.size))))
      | none=>none
    | _,_,_=>none
  | .index t x i=>match ev σ x,ev σ i,P.underlying t with
    | some (.string s),some (.int _ j),some .string=>some fun K=>(0<=j/\j<s.size)/\K (.int .u8 (s.data.toList.getD j.toNat 0).toNat)
    | _,_,_=>none
  | .slice t x lo hi mx=>match mx with
    | some mx=>match ev σ x,P.underlying t with
      | some (.slice p _ c),some (.slice e)=>match P.info? e,qcz σ lo,hi,ev σ mx with
        | some ti,some l,some h,some (.int _ m)=>match ev σ h with
          | some (.int _ h)=>some fun K=>(0<=l/\l<=h/\h<=m/\m<=c)/\K (.slice (subP p l.toNat m.toNat ti.size) (h.toNat-l.toNat) (m.toNat-l.toNat))
          | _=>none
        | _,_,_,_=>none
      | _,_=>none
    | none=>match ev σ x,P.underlying t with
      | some (.string s),some .string=>match qcz σ lo,hi with
        | some l,none=>some fun K=>(0<=l/\l<=s.size)/\K (.string (s.extract l.toNat s.size))
        | some l,some h=>match ev σ h with
          | some (.int _ h)=>some fun K=>(0<=l/\l<=h/\h<=s.size)/\K (.string (s.extract l.toNat h.toNat))
          | _=>none
        | none,_=>none
      | some (.slice p n c),some (.slice e)=>match P.info? e with
        | none=>none
        | some ti=>match qcz σ lo,hi with
          | some l,none=>some fun K=>(0<=l/\l<=n)/\K (.slice (subP p l.toNat c ti.size) (n-l.toNat) (c-l.toNat))
          | some l,some h=>match ev σ h with
            | some (.int _ h)=>some fun K=>(0<=l/\l<=h/\h<=c)/\K (.slice (subP p l.toNat c ti.size) (h.toNat-l.toNat) (c-l.toNat))
            | _=>none
          | none,_=>none
      | _,_=>none
  | .call { callee:=.builtin .min,args,.. }=>match evs σ args.toList with
    | some [.int k a,.int k' b]=>match decide (k=k')with
      | true=>some fun K=>K (.int k (min a b))
      | false=>none
    | _=>none
  | .call { callee:=.builtin .max,args,.. }=>match evs σ args.toList with
    | some [.int k a,.int k' b]=>match decide (k=k')with
      | true=>some fun K=>K (.int k (max a b))
      | false=>none
    | _=>none
  | _=>none
section
variable{P:Program}{w:World}
theorem q1r(op:BinOp)(t:TypeId)(x y:Operand)(a b:Value)(ha:a≠.nilIface)(ha':∀cs,a≠.agg cs) :
    (eqGuard op t x y a b).run P w=.ok () w:=by
  unfold eqGuard
  simp_all
theorem qhp(a b:ByteArray):(a.toList==b.toList)=decide (a=b):=by
  rw[ByteArray.toList_eq,ByteArray.toList_eq,Bool.eq_iff_iff]
  simp only[beq_iff_eq,decide_eq_true_eq]
  constructor
  . intro h
    cases a;cases b
    simp_all
  . intro h;rw[h]
theorem q84{op:BinOp}{t:TypeId}{x y:Value}{X Y:Operand}{T:PT}{K:Value->Prop}
    (h:qp0 op x y=some T) (hK:T K) (hp:∀p,x=.pointer p->∃e,P.underlying t=some (.pointer e)) :
    ∃v,K v/\∀w,(do eqGuard op t X Y x y;binOp op t x y:Sem Value).run P w=.ok v w:=by
  unfold qp0 at h
  split at h
  . rename_i k a k' b
    have hg:∀w,(eqGuard op t X Y (.int k a) (.int k' b)).run P w=.ok () w:=fun w=>q1r op t X Y _ _ (by simp) (by simp)
    split at h
    all_goals first
      | (split at h
         . rename_i hk
           have hk:=of_decide_eq_true hk
           subst hk
           simp only[Option.some.injEq]at h
           subst h
           first
             | (obtain⟨hr,hK⟩:=hK
                refine⟨_,hK,fun w=>?_⟩
                simp[hg,binOp,Op.intArith,inR]at hr ⊢
                exact hr)
             | (obtain⟨hb,hr,hK⟩:=hK
                refine⟨_,hK,fun w=>?_⟩
                simp[hg,binOp,Op.intDiv,inR,hb]at hr ⊢
                exact hr)
             | (obtain⟨hb,hK⟩:=hK
                refine⟨_,hK,fun w=>?_⟩
                simp[hg,binOp,Op.intDiv,hb])
         . cases h)
      | (simp only[Option.some.injEq]at h
         subst h
         obtain⟨hb,hK⟩:=hK
         refine⟨_,hK,fun w=>?_⟩
         have hb':¬b<0:=by omega
         simp[hg,binOp,Op.shift,hb'])
      | cases h
  . rename_i p
    obtain⟨e,he⟩:=hp p rfl
    have hg:∀w,(eqGuard op t X Y (.pointer p) (.pointer none)).run P w=.ok () w:=fun w=>q1r op t X Y _ _ (by simp) (by simp)
    have hq:∀w,(Op.equal t (.pointer p) (.pointer none)).run P w=.ok p.isNone w:=by
      intro w
      have hd:∀d,(Op.equalIn (d+1) t (.pointer p) (.pointer none)).run P w=.ok p.isNone w:=by
        intro d
        cases p<;>simp[Op.equalIn,run_underlying he]
      exact hd 9999
    split at h
    . simp only[Option.some.injEq]at h
      subst h
      refine⟨_,hK,fun w=>?_⟩
      simp[hg,binOp,hq]
    . simp only[Option.some.injEq]at h
      subst h
      refine⟨_,hK,fun w=>?_⟩
      simp[hg,binOp,hq]
    . cases h
  . rename_i a b
    have hg:∀w,(eqGuard op t X Y (.string a) (.string b)).run P w=.ok () w:=fun w=>q1r op t X Y _ _ (by simp) (by simp)
    split at h
    . simp only[Option.some.injEq]at h
      subst h
      obtain⟨hr,hK⟩:=hK
      refine⟨_,hK,fun w=>?_⟩
      have hr':¬((a.size+b.size:Nat):Int)>IntKind.i64.max:=by
        have:IntKind.i64.max=maxI:=by decide
        rw[this];omega
      simp only[Sem.run_bind,hg,Result.andThen_ok,binOp,Op.stringOp,if_neg hr']
      rfl
    . simp only[Option.some.injEq]at h
      subst h
      refine⟨_,hK,fun w=>?_⟩
      simp only[Sem.run_bind,hg,Result.andThen_ok,binOp,Op.stringOp,qhp]
      rfl
    . simp only[Option.some.injEq]at h
      subst h
      refine⟨_,hK,fun w=>?_⟩
      simp only[Sem.run_bind,hg,Result.andThen_ok,binOp,Op.stringOp,qhp]
      rfl
    . cases h
  . cases h
theorem q5d{n:Nat}{B:List Deferred}{σ:St}{a:Act}(ha:Agr n B σ a){lo:Option Operand}{l:Int}(h:qcz σ lo=some l) :
    (lo=none/\l=0)\/∃x k,lo=some x/\a.eval x=.int k l:=by
  unfold qcz at h
  split at h
  . grind
  . split at h
    . rename_i x _ i hx
      right
      simp at h
      subst h
      exact⟨_,_,rfl,ha.ev hx⟩
    . cases h
theorem qb6(k:IntKind)(i:Int)(y:Nat)(code:BoundsCode)(h0:0<=i)(h1:i<=y)(w:World) :
    (Instr.sliceBound (.int k i) y code).run P w=.ok i.toNat w:=by
  simp[Instr.sliceBound,asIntOf,h0,h1]
theorem q3b{n:Nat}{B:List Deferred}{σ:St}{a:Act}(ha:Agr n B σ a){lo hi:Option Operand}{l:Int}{len cap:Nat}{iss:Bool}(hl:qcz σ lo=some l)
    {h:Int} (hh:(hi=none/\h=len)\/∃x k,hi=some x/\a.eval x=.int k h/\h<=cap) (h0:0<=l) (h1:l<=h) (w:World) :
    (Instr.sliceBounds iss len cap (lo.map a.eval) (hi.map a.eval) none).run P w=.ok (l.toNat,h.toNat,cap) w:=by
  unfold Instr.sliceBounds
  rcases hh with⟨rfl,rfl⟩|⟨x,k,rfl,hx,hc⟩
  . rcases q5d ha hl with⟨rfl,rfl⟩|⟨y,ky,rfl,hy⟩
    . simp
    . simp[hy,qb6 _ _ _ _ h0 h1]
  . have hh0:0<=h:=by omega
    rcases q5d ha hl with⟨rfl,rfl⟩|⟨y,ky,rfl,hy⟩
    . simp[hx,qb6 _ _ _ _ hh0 hc]
    . have:l<=(h.toNat:Int):=by omega
      simp[hx,hy,qb6 _ _ _ _ hh0 hc,qb6 _ _ _ _ h0 this]
theorem qb7{n:Nat}{B:List Deferred}{σ:St}{a:Act}(ha:Agr n B σ a){lo:Option Operand}{x y:Operand}{l h m:Int}{kh km:IntKind}{len cap:Nat}(hl:qcz σ lo=some l)
    (hx:a.eval x=.int kh h) (hy:a.eval y=.int km m) (h0:0<=l) (h1:l<=h) (h2:h<=m) (h3:m<=cap) (w:World) :
    (Instr.sliceBounds true len cap (lo.map a.eval) (some (a.eval x)) (some (a.eval y))).run P w=.ok (l.toNat,h.toNat,m.toNat) w:=by
  unfold Instr.sliceBounds
  have hm0:0<=m:=by omega
  have hh0:0<=h:=by omega
  have g1:h<=(m.toNat:Int):=by omega
  have g2:l<=(h.toNat:Int):=by omega
  rcases q5d ha hl with⟨rfl,rfl⟩|⟨z,kz,rfl,hz⟩
  . simp[hx,hy,qb6 _ _ _ _ hm0 h3,qb6 _ _ _ _ hh0 g1]
  . simp[hx,hy,hz,qb6 _ _ _ _ hm0 h3,qb6 _ _ _ _ hh0 g1,qb6 _ _ _ _ h0 g2]
theorem q10{e:TypeId}{ti:TypeInfo}(h:P.info? e=some ti)(w:World):(Go.sizeOf e).run P w=.ok ti.size w:=by
  simp[Go.sizeOf,typeInfo,h]
theorem q20{t:TypeId}{d:TypeDesc}{xs:Array Value}{i:Nat}{v:Value}{w:World}(ht:P.underlying t=some d)(hd:d=.bool\/d=.string\/∃k,d=.int k)(hx:xs[i]?=some v):(part t xs i).run P w=.ok v w:=by
  have hp:P.plainKey t=true:=by
    unfold Program.plainKey
    grind
  exact run_part_plain w hp hx
theorem q3i{X Y:Array Value}{w:World}{d:Nat}:∀ {fs:List Field} {i:Nat} {xs ys:List Value} {r:Bool},eqFs P fs i xs ys=some r->X.toList.drop i=xs->Y.toList.drop i=ys ->
    (Op.eqFields (d+1) X Y fs).run P w=.ok r w
  | [],i,xs,ys,r,h,hx,hy=>by
    cases xs with
    | nil=>cases ys with
      | nil=>simp[eqFs]at h;subst h;rfl
      | cons=>simp[eqFs]at h
    | cons=>simp[eqFs]at h
  | f::fs,i,xs,ys,r,h,hx,hy=>by
    match xs,ys with
    | [],_=>simp[eqFs]at h
    | _::_,[]=>simp[eqFs]at h
    | x::xs,y::ys =>
      have hX:X[i]?=some x:=by
        have:=congrArg (·[0]?) hx
        simpa using this
      have hY:Y[i]?=some y:=by
        have:=congrArg (·[0]?) hy
        simpa using this
      have hX':X.toList.drop (i+1)=xs:=by
        have:=congrArg Jb hx
        simpa using this
      have hY':Y.toList.drop (i+1)=ys:=by
        have:=congrArg Jb hy
        simpa using this
      simp only[eqFs]at h
      split at h
      . rename_i hc
        simp only[Bool.and_eq_true,bne_iff_ne,ne_eq]at hc
        obtain⟨hn,ho⟩:=hc
        have ho:=Jd ho
        split at h
        . rename_i q k a k' b hu
          split at h
          . rename_i hk
            have hk:=of_decide_eq_true hk
            subst hk
            split at h
            . rename_i r' hr
              cases h
              have ih:=q3i (w:=w) (d:=d) hr hX' hY'
              simp only[Op.eqFields,hn,ne_eq,not_false_eq_true,if_true,Sem.run_bind,ho,q20 hu (.inr (.inr ⟨_,rfl⟩)) hX,q20 hu (.inr (.inr ⟨_,rfl⟩)) hY,Result.andThen_ok,run_equalIn_int w d f.type _ _ a b hu]
              cases hab:a==b<;>simp[ih]
            . cases h
          . cases h
        . rename_i a b hu
          split at h
          . rename_i r' hr
            cases h
            have ih:=q3i (w:=w) (d:=d) hr hX' hY'
            simp only[Op.eqFields,hn,ne_eq,not_false_eq_true,if_true,Sem.run_bind,ho,q20 hu (.inl rfl) hX,q20 hu (.inl rfl) hY,Result.andThen_ok,run_equalIn_bool w d f.type a b hu]
            cases hab:a==b<;>simp[ih]
          . cases h
        . rename_i a b hu
          split at h
          . rename_i r' hr
            cases h
            have ih:=q3i (w:=w) (d:=d) hr hX' hY'
            simp only[Op.eqFields,hn,ne_eq,not_false_eq_true,if_true,Sem.run_bind,ho,q20 hu (.inr (.inl rfl)) hX,q20 hu (.inr (.inl rfl)) hY,Result.andThen_ok,run_equalIn_string w d f.type a b hu,qhp]
            cases hab:decide (a=b)<;>simp[ih]
          . cases h
        . cases h
      . cases h
theorem qku{X Y:Array Value}{w:World}{d i:Nat}{f:Field}{x y:Value}{r:Bool}(h:eq1 P f x y=some r)(hX:X[i]?=some x)(hY:Y[i]?=some y) :
    ∃a b,(part f.type X i).run P w=.ok a w/\(part f.type Y i).run P w=.ok b w/\(Op.equalIn (d+1) f.type a b).run P w=.ok r w:=by
  unfold eq1 at h
  split at h
  . rename_i q k a k' b hu
    split at h
    . rename_i hk
      have hk:=of_decide_eq_true hk
      subst hk
      cases h
      exact⟨_,_,q20 hu (.inr (.inr ⟨_,rfl⟩)) hX,q20 hu (.inr (.inr ⟨_,rfl⟩)) hY,run_equalIn_int w d f.type _ _ a b hu⟩
    . cases h
  . rename_i a b hu
    cases h
    exact⟨_,_,q20 hu (.inl rfl) hX,q20 hu (.inl rfl) hY,run_equalIn_bool w d f.type a b hu⟩
  . rename_i a b hu
    cases h
    refine⟨_,_,q20 hu (.inr (.inl rfl)) hX,q20 hu (.inr (.inl rfl)) hY,?_⟩
    rw[run_equalIn_string w d f.type a b hu,qhp]
  . cases h
theorem qp1{t:TypeId}{fs:Array Field}{ti:TypeInfo}{X:Array Value}{i:Nat}{w:World}(hu:P.underlying t=some (.struct fs))(hi:P.info? t=some ti) :
    (part t X i).run P w=.ok (.agg (X.extract i (i+ti.size))) w:=by
  simp[part,isAgg,run_underlying hu,q10 hi]
theorem q6r{X Y:Array Value}{w:World}{d:Nat}:∀ {fs:List Field} {i:Nat} {xs ys:List Value} {r:Bool},eqFd P fs i xs ys=some r->X.toList.drop i=xs->Y.toList.drop i=ys ->
    (Op.eqFields (d+2) X Y fs).run P w=.ok r w
  | [],i,xs,ys,r,h,hx,hy=>by
    cases xs with
    | nil=>cases ys with
      | nil=>simp[eqFd]at h;subst h;rfl
      | cons=>simp[eqFd]at h
    | cons=>simp[eqFd]at h
  | f::fs,i,xs,ys,r,h,hx,hy=>by
    match xs,ys with
    | [],_=>simp[eqFd]at h
    | _::_,[]=>simp[eqFd]at h
    | x::xs,y::ys =>
      have hX:X[i]?=some x:=by
        have:=congrArg (·[0]?) hx
        simpa using this
      have hY:Y[i]?=some y:=by
        have:=congrArg (·[0]?) hy
        simpa using this
      have hX':X.toList.drop (i+1)=xs:=by
        have:=congrArg Jb hx
        simpa using this
      have hY':Y.toList.drop (i+1)=ys:=by
        have:=congrArg Jb hy
        simpa using this
      simp only[eqFd]at h
      split at h
      . rename_i hc
        simp only[Bool.and_eq_true,bne_iff_ne,ne_eq]at hc
        obtain⟨hn,ho⟩:=hc
        have ho:=Jd ho
        split at h
        . rename_i gs hu
          split at h
          . rename_i ti hs hi
            split at h
            . rename_i q hq
              split at h
              . rename_i r' hr
                cases h
                have ih:=q6r (w:=w) (d:=d) hr (X:=X) (Y:=Y) (by rw[←hx];exact(J8 ..).symm) (by rw[←hy];exact(J8 ..).symm)
                have hf:P.fieldsOf f.type=gs:=by
                  unfold Program.fieldsOf
                  rw[hu]
                have h1:=run_equalIn_struct w (d+1) f.type (X.extract i (i+ti.size)) (Y.extract i (i+ti.size)) (by rw[hf];exact hu) hs
                rw[hf,q3i (d:=d) (X:=X.extract i (i+ti.size)) (Y:=Y.extract i (i+ti.size)) hq (by simp_all) (by simp_all)]at h1
                simp only[Op.eqFields,hn,ne_eq,not_false_eq_true,if_true,Sem.run_bind,ho,qp1 hu hi,Result.andThen_ok,h1]
                cases q<;>simp[ih]
              . cases h
            . cases h
          . cases h
        . split at h
          . rename_i q hq
            split at h
            . rename_i r' hr
              cases h
              have ih:=q6r (w:=w) (d:=d) hr hX' hY'
              obtain⟨a,b,ha,hb,he⟩:=qku (w:=w) (d:=d+1) hq hX hY
              simp only[Op.eqFields,hn,ne_eq,not_false_eq_true,if_true,Sem.run_bind,ho,ha,hb,Result.andThen_ok,he]
              cases q<;>simp[ih]
            . cases h
          . cases h
      . cases h
theorem qj4{t:TypeId}{xs ys:Array Value}{r:Bool}(h:eqAg P t xs.toList ys.toList=some r)(bop:BinOp)(x y:Operand)(w:World) :
    (eqGuard bop t x y (.agg xs) (.agg ys)).run P w=.ok () w/\(Op.equal t (.agg xs) (.agg ys)).run P w=.ok r w:=by
  unfold eqAg at h
  split at h
  . rename_i fs hu
    split at h
    . rename_i hc
      simp only[Bool.or_eq_false_iff]at hc
      constructor
      . unfold eqGuard
        simp_all
      . have hf:P.fieldsOf t=fs:=by
          unfold Program.fieldsOf
          rw[hu]
        have:=run_equalIn_struct w 9999 t xs ys (by rw[hf];exact hu) hc.1
        show(Op.equalIn 10000 t (.agg xs) (.agg ys)).run P w=_
        rw[this,hf]
        split at h
        . rename_i r' hr
          cases h
          exact q3i hr rfl rfl
        . exact q6r h rfl rfl
    . cases h
  . cases h
theorem qkv{v:Value}{K:Bool->Prop}(h:nif v K):(v=.nilIface/\K true)\/(∃t u,v=.iface t u)/\K false:=by
  unfold nif at h
  grind
theorem q85{n:Nat}{B:List Deferred}{σ:St}{a:Act}(ha:Agr n B σ a){o:Oper}{T:PT}{K:Value->Prop}(h:spW P σ o.op=some T)(hK:T K) :
    ∃v,K v/\∀w,(execOp a.eval o).run P w=.ok (.value v) w:=by
  obtain⟨dst,op,type,pos,after,guard⟩:=o
  simp only at h
  cases op with
  | move x =>
    simp only[spW]at h
    split at h
    . rename_i v hx
      simp only[Option.some.injEq]at h
      subst h
      exact⟨v,hK,fun w=>by simp[execOp,ha.ev hx]⟩
    . cases h
  | assign x =>
    simp only[spW]at h
    split at h
    . rename_i v hx
      simp only[Option.some.injEq]at h
      subst h
      exact⟨v,hK,fun w=>by simp[execOp,ha.ev hx]⟩
    . cases h
  | pick c x y =>
    simp only[spW]at h
    split at h
    . rename_i b hc
      split at h
      . split at h
        . rename_i v hx
          simp only[Option.some.injEq]at h
          subst h
          exact⟨v,hK,fun w=>by simp[execOp,ha.ev hc,ha.ev hx,asBool]⟩
        . cases h
      . split at h
        . rename_i v hx
          simp only[Option.some.injEq]at h
          subst h
          exact⟨v,hK,fun w=>by simp[execOp,ha.ev hc,ha.ev hx,asBool]⟩
        . cases h
    . cases h
  | nilCheck x =>
    simp only[spW]at h
    split at h
    . rename_i p hx
      simp only[Option.some.injEq]at h
      subst h
      obtain⟨b,rfl,hK⟩:=qs6.1 hK
      refine⟨_,hK,fun w=>?_⟩
      simp[execOp,ha.ev hx]
    . cases h
  | binOp bop t x y yt =>
    simp only[spW]at h
    split at h
    . rename_i hy
      split at h
      . rename_i v hx
        split at h
        . rename_i c ms hu
          have key:∀b:Bool,((v=.nilIface/\b=true)\/(∃t u,v=.iface t u)/\b=false)->∀w,(eqGuard bop t x (.const c) v .nilIface).run P w=.ok () w/\(Op.equal t v .nilIface).run P w=.ok b w:=by
            intro b hb w
            constructor
            . unfold eqGuard
              rcases hb with⟨rfl,rfl⟩|⟨⟨t',u,rfl⟩,rfl⟩<;>cases bop<;>simp
            . have hd:∀d,(Op.equalIn (d+1) t v .nilIface).run P w=.ok b w:=by
                intro d
                rcases hb with⟨rfl,rfl⟩|⟨⟨t',u,rfl⟩,rfl⟩<;>simp[Op.equalIn,run_underlying hu]
              exact hd 9999
          split at h
          . simp only[Option.some.injEq]at h
            subst h
            rcases qkv hK with⟨hv,hK⟩|⟨hv,hK⟩
            . refine⟨_,hK,fun w=>?_⟩
              have hq:=key true (.inl ⟨hv,rfl⟩) w
              subst hv
              simp only[execOp,ha.ev hx,ha.ev hy,Sem.run_bind,hq.1,Result.andThen_ok,binOp,hq.2]
              simp
            . refine⟨_,hK,fun w=>?_⟩
              have hq:=key false (.inr ⟨hv,rfl⟩) w
              obtain⟨t',u,rfl⟩:=hv
              simp only[execOp,ha.ev hx,ha.ev hy,Sem.run_bind,hq.1,Result.andThen_ok,binOp,hq.2]
              simp
          . simp only[Option.some.injEq]at h
            subst h
            rcases qkv hK with⟨hv,hK⟩|⟨hv,hK⟩
            . refine⟨_,hK,fun w=>?_⟩
              have hq:=key true (.inl ⟨hv,rfl⟩) w
              subst hv
              simp only[execOp,ha.ev hx,ha.ev hy,Sem.run_bind,hq.1,Result.andThen_ok,binOp,hq.2]
              simp
            . refine⟨_,hK,fun w=>?_⟩
              have hq:=key false (.inr ⟨hv,rfl⟩) w
              obtain⟨t',u,rfl⟩:=hv
              simp only[execOp,ha.ev hx,ha.ev hy,Sem.run_bind,hq.1,Result.andThen_ok,binOp,hq.2]
              simp
          . cases h
        . cases h
      . cases h
    . split at h
      . rename_i p l c hx hy
        split at h
        . rename_i e he
          have hq:∀w,(Op.equal t (.slice p l c) (.slice none 0 0)).run P w=.ok p.isNone w:=by
            intro w
            have hd:∀d,(Op.equalIn (d+1) t (.slice p l c) (.slice none 0 0)).run P w=.ok p.isNone w:=by
              intro d
              cases p<;>simp[Op.equalIn,run_underlying he]
            exact hd 9999
          have hg:∀w,(eqGuard bop t x y (.slice p l c) (.slice none 0 0)).run P w=.ok () w:=fun w=>q1r bop t x y _ _ (by simp) (by simp)
          split at h
          . simp only[Option.some.injEq]at h
            subst h
            refine⟨_,hK,fun w=>?_⟩
            simp[execOp,ha.ev hx,ha.ev hy,hg,binOp,hq]
          . simp only[Option.some.injEq]at h
            subst h
            refine⟨_,hK,fun w=>?_⟩
            simp[execOp,ha.ev hx,ha.ev hy,hg,binOp,hq]
          . cases h
        . cases h
      . rename_i p hx hy
        split at h
        . rename_i kt et he
          have hq:∀w,(Op.equal t (.map p) (.map none)).run P w=.ok p.isNone w:=by
            intro w
            have hd:∀d,(Op.equalIn (d+1) t (.map p) (.map none)).run P w=.ok p.isNone w:=by
              intro d
              cases p<;>simp[Op.equalIn,run_underlying he]
            exact hd 9999
          have hg:∀w,(eqGuard bop t x y (.map p) (.map none)).run P w=.ok () w:=fun w=>q1r bop t x y _ _ (by simp) (by simp)
          split at h
          . simp only[Option.some.injEq]at h
            subst h
            refine⟨_,hK,fun w=>?_⟩
            simp[execOp,ha.ev hx,ha.ev hy,hg,binOp,hq]
          . simp only[Option.some.injEq]at h
            subst h
            refine⟨_,hK,fun w=>?_⟩
            simp[execOp,ha.ev hx,ha.ev hy,hg,binOp,hq]
          . cases h
        . cases h
      . rename_i p hx hy
        split at h
        . rename_i e he
          obtain⟨v,hv,hr⟩:=q84 (P:=P) (t:=t) (X:=x) (Y:=y) h hK (fun _ _=>⟨e,he⟩)
          refine⟨v,hv,fun w=>?_⟩
          have:=hr w
          simp only[execOp,ha.ev hx,ha.ev hy]
          simp only[Sem.run_bind]at this ⊢
          rw[this];rfl
        . cases h
      . cases h
      . rename_i xs ys hx hy
        split at h
        . rename_i r hr
          have hq:=qj4 hr bop x y
          split at h
          . simp only[Option.some.injEq]at h
            subst h
            refine⟨_,hK,fun w=>?_⟩
            simp[execOp,ha.ev hx,ha.ev hy,(hq w).1,binOp,(hq w).2]
          . simp only[Option.some.injEq]at h
            subst h
            refine⟨_,hK,fun w=>?_⟩
            simp[execOp,ha.ev hx,ha.ev hy,(hq w).1,binOp,(hq w).2]
          . cases h
        . cases h
      . rename_i v u _ _ _ _ hnp _ _ hv hu
        obtain⟨v',hv',hr⟩:=q84 (P:=P) (t:=t) (X:=x) (Y:=y) h hK (fun p hp=>by subst hp;simp_all)
        refine⟨v',hv',fun w=>?_⟩
        have:=hr w
        simp only[execOp,ha.ev hv,ha.ev hu]
        simp only[Sem.run_bind]at this ⊢
        rw[this];rfl
      . cases h
  | unOp uop t x =>
    cases uop<;>simp only[spW]at h<;>try cases h
    split at h
    . rename_i k m hx
      simp only[Option.some.injEq]at h
      subst h
      obtain⟨hr,hK⟩:=hK
      refine⟨_,hK,fun w=>?_⟩
      simp[execOp,ha.ev hx,Op.unary,Op.intArith,inR]at hr ⊢
      exact hr
    . cases h
  | convert s d x =>
    simp only[spW]at h
    split at h
    . rename_i k m hx
      split at h
      . rename_i ds k' hs hd
        simp only[Option.some.injEq]at h
        subst h
        obtain⟨hr,hK⟩:=hK
        refine⟨_,hK,fun w=>?_⟩
        simp[execOp,ha.ev hx,convert,run_underlying hs,run_underlying hd,Conv.intToInt,inR]at hr ⊢
        exact hr
      . cases h
    . cases h
  | indexAddr t x i =>
    simp only[spW]at h
    split at h
    . rename_i p l c k j e hx hi he
      split at h
      . rename_i ti hti
        simp only[Option.some.injEq]at h
        subst h
        obtain⟨b,rfl,⟨h0,h1⟩,hK⟩:=qs6.1 hK
        refine⟨_,hK,fun w=>?_⟩
        simp[execOp,ha.ev hx,ha.ev hi,Instr.indexAt,asIntOf,run_underlying he,h0,h1,q10 hti]
      . cases h
    . rename_i p k j l e hx hi he
      split at h
      . rename_i ti hti
        simp only[Option.some.injEq]at h
        subst h
        obtain⟨⟨h0,h1⟩,hK⟩:=hK
        refine⟨_,hK,fun w=>?_⟩
        simp[execOp,ha.ev hx,ha.ev hi,Instr.indexAt,Instr.sureAddr,asIntOf,run_underlying he,h0,h1,q10 hti]
      . cases h
    . cases h
  | index t x i =>
    simp only[spW]at h
    split at h
    . rename_i s k j hx hi he
      simp only[Option.some.injEq]at h
      subst h
      obtain⟨⟨h0,h1⟩,hK⟩:=hK
      refine⟨_,hK,fun w=>?_⟩
      have h2:j.toNat<s.size:=by omega
      have h3:s[j.toNat]?=some (s.data.toList.getD j.toNat 0):=by
        have:j.toNat<s.data.toList.length:=by simpa using h2
        simp[h2]
        rfl
      simp[execOp,ha.ev hx,ha.ev hi,Instr.index,asIntOf,run_underlying he,h0,h3]
    . cases h
  | slice t x lo hi mx =>
    simp only[spW]at h
    split at h
    . split at h
      . rename_i p m c e hx he
        split at h
        . rename_i ti l h' kz mm hti hl hmx
          split at h
          . rename_i kh hv hhv
            simp only[Option.some.injEq]at h
            subst h
            obtain⟨⟨h0,h1,h2,h3⟩,hK⟩:=hK
            refine⟨_,hK,fun w=>?_⟩
            have:=qb7 (P:=P) ha (len:=m) hl (ha.ev hhv) (ha.ev hmx) h0 h1 h2 h3 w
            simp[execOp,ha.ev hx,Instr.sliceAt,Instr.slice,run_underlying he,this,q10 hti,subP]
          . cases h
        . cases h
      . cases h
    . split at h
      . rename_i s hx he
        split at h
        . rename_i l hl
          simp only[Option.some.injEq]at h
          subst h
          obtain⟨⟨h0,h1⟩,hK⟩:=hK
          refine⟨_,hK,fun w=>?_⟩
          have:=q3b (P:=P) ha (hi:=none) (iss:=false) (cap:=s.size) hl (.inl ⟨rfl,rfl⟩) h0 h1 w
          simp at this
          simp[execOp,ha.ev hx,Instr.sliceAt,Instr.slice,run_underlying he,this]
        . rename_i l h' hl
          split at h
          . rename_i kh hv hhv
            simp only[Option.some.injEq]at h
            subst h
            obtain⟨⟨h0,h1,h2⟩,hK⟩:=hK
            refine⟨_,hK,fun w=>?_⟩
            have:=q3b (P:=P) ha (hi:=some h') (iss:=false) (len:=s.size) (cap:=s.size) hl (.inr ⟨_,_,rfl,ha.ev hhv,h2⟩) h0 h1 w
            simp at this
            simp[execOp,ha.ev hx,Instr.sliceAt,Instr.slice,run_underlying he,this]
          . cases h
        . cases h
      . rename_i p m c e hx he
        split at h
        . cases h
        . rename_i ti hti
          split at h
          . rename_i l hl
            simp only[Option.some.injEq]at h
            subst h
            obtain⟨⟨h0,h1⟩,hK⟩:=hK
            refine⟨_,hK,fun w=>?_⟩
            have:=q3b (P:=P) ha (hi:=none) (iss:=true) (cap:=c) hl (.inl ⟨rfl,rfl⟩) h0 h1 w
            simp at this
            simp[execOp,ha.ev hx,Instr.sliceAt,Instr.slice,run_underlying he,this,q10 hti,subP]
          . rename_i l h' hl
            split at h
            . rename_i kh hv hhv
              simp only[Option.some.injEq]at h
              subst h
              obtain⟨⟨h0,h1,h2⟩,hK⟩:=hK
              refine⟨_,hK,fun w=>?_⟩
              have:=q3b (P:=P) ha (hi:=some h') (iss:=true) (len:=m) (cap:=c) hl (.inr ⟨_,_,rfl,ha.ev hhv,h2⟩) h0 h1 w
              simp at this
              simp[execOp,ha.ev hx,Instr.sliceAt,Instr.slice,run_underlying he,this,q10 hti,subP]
            . cases h
          . cases h
      . cases h
  | call c =>
    obtain⟨callee,args,ats⟩:=c
    cases callee with
    | builtin b =>
      cases b<;>simp only[spW]at h<;>try cases h
      all_goals
        split at h
        . rename_i k x k' y he
          split at h
          . rename_i hk
            have hk:=of_decide_eq_true hk
            subst hk
            simp only[Option.some.injEq]at h
            subst h
            refine⟨_,hK,fun w=>?_⟩
            have hm:=ha.evs he
            have hm':args.map a.eval=#[.int k x,.int k y]:=by grind
            simp[execOp,resolve,hm',invoke,builtin,Builtin.min_,Builtin.max_,Builtin.min2,Builtin.max2]
            omega
          . cases h
        . cases h
    | _=>simp[spW]at h
  | _=>simp[spW]at h
end
abbrev VW:=Value->World->Prop
def okC:Value->Bool
 | .agg _ | .tuple _=>false
 | _=>true
def ldC(ld:Addr->Value->Prop)(a:Addr):Nat->List Value->(List Value->Prop)->Prop
 | _,[],K=>K []
 | i,z::zs,K=>match z with
  | .int k _=>∃n:Int,ld (a.add i) (.int k n)/\ldC ld a (i+1) zs fun vs=>K (.int k n::vs)
  | .bool _=>∃b:Bool,ld (a.add i) (.bool b)/\ldC ld a (i+1) zs fun vs=>K (.bool b::vs)
  | .string _=>∃s:ByteArray,ld (a.add i) (.string s)/\ldC ld a (i+1) zs fun vs=>K (.string s::vs)
  | .pointer _=>∃p:Option Addr,ld (a.add i) (.pointer p)/\ldC ld a (i+1) zs fun vs=>K (.pointer p::vs)
  | .slice _ _ _=>∃s:Sl,ld (a.add i) (.slice s.p s.l s.c)/\ldC ld a (i+1) zs fun vs=>K (.slice s.p s.l s.c::vs)
  | .map _=>∃m:Option Nat,ld (a.add i) (.map m)/\ldC ld a (i+1) zs fun vs=>K (.map m::vs)
  | _=>∃v:Value,ld (a.add i) v/\ldC ld a (i+1) zs fun vs=>K (v::vs)
theorem q86{ld:Addr->Value->Prop}{a:Addr}:∀ {zs:List Value} {i:Nat} {K:List Value->Prop},ldC ld a i zs K ->
  ∃vs,K vs/\vs.length=zs.length/\∀j (h:j<vs.length),ld (a.add (i+j)) vs[j]
 | [],i,K,h=>⟨[],h,rfl,fun j h=>by simp at h⟩
 | z::zs,i,K,h=>by
  have key:∃v,ld (a.add i) v/\ldC ld a (i+1) zs (fun vs=>K (v::vs)):=by
   unfold ldC at h
   grind
  obtain⟨v,h1,h2⟩:=key
  obtain⟨vs,hK,hlen,hat⟩:=q86 h2
  grind
def aggT(P:Program)(t:TypeId):Bool:=match P.underlying t with
 | some (.struct _)|some (.array _ _)=>true
 | _=>false
def ldW(P:Program)(ld:Addr->Value->Prop)(t:TypeId)(a:Addr)(K:Value->Prop):Prop:=
 match P.info? t with
 | none=>False
 | some ti=>match ti.zero with
  | none=>False
  | some z=>match P.underlying t with
   | none=>False
   | some _=>match aggT P t with
    | true=>match Jg z.cells.size ti.size with
     | true=>ldC ld a 0 z.cells.toList fun vs=>K (.agg vs.toArray)
     | false=>False
    | false=>ldC ld a 0 [z] fun vs=>match vs with
     | [v]=>K v
     | _=>False
section
variable{P:Program}
theorem qd0{t:TypeId}{d:TypeDesc}(h:P.underlying t=some d)(w:World):(isAgg t).run P w=.ok (aggT P t) w:=by
 unfold isAgg aggT
 rw[h]
 simp only[Sem.run_bind,run_underlying h,Result.andThen_ok]
 cases d<;>rfl
theorem qp2{a:Addr}{v:Value}{w:World}(h:w.cell? a=some v):(load a).run P w=.ok v w:=ud
theorem q3s{a:Addr}{w:World}:∀(vs:List Value) (i:Nat) (acc:Array Value),(∀j (h:j<vs.length),w.cell? (a.add (i+j))=some vs[j]) ->
  (loadCellsFrom a i vs.length acc).run P w=.ok (acc++vs.toArray) w
 | [],i,acc,_=>by simp[loadCellsFrom]
 | v::vs,i,acc,h=>by
  have h0:=h 0 og
  simp only[Je,J5]at h0
  have ih:=q3s vs (i+1) (acc.push v) (fun j hj=>by
   have:=h (j+1) (by simpa using hj)
   rw[show i+1+j=i+(j+1) by omega]
   simpa using this)
  simp only[List.length_cons,loadCellsFrom,Sem.run_bind,qp2 h0,Result.andThen_ok,ih]
  simp
theorem Addr.add_zero'(a:Addr):a.add 0=a:=rfl
theorem q87{t:TypeId}{a:Addr}{ld:Addr->Value->Prop}{K:Value->Prop}{S:World->Prop}(hld:∀b v,ld b v->∀w,S w->w.cell? b=some v)(h:ldW P ld t a K) :
  ∃v,K v/\∀w,S w->(loadVar t a).run P w=.ok v w:=by
 unfold ldW at h
 split at h
 ·exact h.elim
 rename_i ti hti
 split at h
 ·exact h.elim
 rename_i z hz
 split at h
 ·exact h.elim
 rename_i d hd
 split at h
 ·rename_i hagg
  split at h
  ·rename_i hsz
   have hsz:z.cells.size=ti.size:=Jd hsz
   obtain⟨vs,hK,hlen,hat⟩:=q86 h
   refine⟨_,hK,fun w hS=>?_⟩
   have:=q3s (P:=P) (a:=a) (w:=w) vs 0 #[] (fun j hj=>hld _ _ (hat j hj) w hS)
   unfold loadVar
   simp only[Sem.run_bind,qd0 hd,Result.andThen_ok,hagg,if_true,q10 hti,loadCells]
   simp_all
  ·exact h.elim
 ·rename_i hagg
  obtain⟨vs,hK,hlen,hat⟩:=q86 h
  match vs,hlen,hK,hat with
  | [v],_,hK,hat =>
   refine⟨v,hK,fun w hS=>?_⟩
   have:=hld _ _ (hat 0 og) w hS
   simp only[Je,Addr.add_zero',J5]at this
   unfold loadVar
   simp[qd0 hd,hagg,this]
end
def wrOk(w:World)(a:Addr):Prop:=(∃v,w.cell? a=some v)/\w.frozen? a=false
def stC(a:Addr):Nat->List Value->World->(World->Prop)->Prop
 | _,[],w,K=>K w
 | i,v::vs,w,K=>match okC v with
  | true=>wrOk w (a.add i)/\stC a (i+1) vs (w.setCell (a.add i) v) K
  | false=>False
def stW(P:Program)(t:TypeId)(a:Addr)(v:Value)(w:World)(K:World->Prop):Prop:=
 match P.info? t with
 | none=>False
 | some ti=>match Jg v.cells.size ti.size with
  | true=>stC a 0 v.cells.toList w K
  | false=>False
section
variable{P:Program}
theorem qd1{a:Addr}{v:Value}{w:World}(hv:okC v=true)(h:wrOk w a):(store a v).run P w=.ok () (w.setCell a v):=by
 obtain⟨⟨u,hu⟩,hf⟩:=h
 cases v<;>simp_all [okC,store,Sem.run]
theorem qd2{a:Addr}:∀ {vs:List Value} {i:Nat} {w:World} {K:World->Prop},stC a i vs w K->∃w',K w'/\(storeCells a vs i).run P w=.ok () w'
 | [],i,w,K,h=>⟨w,h,rfl⟩
 | v::vs,i,w,K,h=>by
  unfold stC at h
  split at h
  ·rename_i hv
   obtain⟨hw,h⟩:=h
   obtain⟨w',hK,hr⟩:=qd2 h
   refine⟨w',hK,?_⟩
   simp only[storeCells,Sem.run_bind,qd1 hv hw,Result.andThen_ok,hr]
  ·exact h.elim
theorem qkw{t:TypeId}{a:Addr}{v:Value}{w:World}{K:World->Prop}(h:stW P t a v w K) :
  ∃w',K w'/\(storeVar t a v).run P w=.ok () w':=by
 unfold stW at h
 split at h
 ·exact h.elim
 rename_i ti hti
 split at h
 ·rename_i hsz
  have hsz:v.cells.size=ti.size:=Jd hsz
  obtain⟨w',hK,hr⟩:=qd2 (P:=P) h
  refine⟨w',hK,?_⟩
  simp[storeVar,q10 hti,hsz,hr]
 ·exact h.elim
end
def rdC(w:World)(p:Option Addr)(n:Nat)(vs:List Value):Prop:=
 vs.length=n/\match p with
  | none=>n=0
  | some a=>∀i (h:i<vs.length),w.cell? (a.add i)=some vs[i]
def wrC(w:World)(a:Addr):Nat->List Value->World
 | _,[]=>w
 | i,v::vs=>wrC (w.setCell (a.add i) v) a (i+1) vs
def qp3(w:World)(a:Addr)(n:Nat):Prop:=∀i,i<n->wrOk w (a.add i)
def rowZ(zero:List Value)(n:Nat):List Value:=(List.range n).map fun i=>zero.getD (i%zero.length) undef
theorem q9o{w:World}{a b:Addr}{v u:Value}(h:w.cell? b=some u):∃u',(w.setCell a v).cell? b=some u':=by
 by_cases hab:a=b
 ·subst hab;exact⟨_,World.cell?_setCell_same _ _ _ h⟩
 ·exact⟨u,by rw[World.cell?_setCell_other _ _ _ _ hab];exact h⟩
theorem qp4{w:World}{a b:Addr}{v:Value}(h:wrOk w b):wrOk (w.setCell a v) b:=by
 obtain⟨⟨u,hu⟩,hf⟩:=h
 exact⟨q9o hu,by simpa using hf⟩
theorem q88{P:Program}{a:Addr}:∀(vs:List Value) (i:Nat) (w:World),(∀v∈vs,okC v=true)->(∀j,j<vs.length->wrOk w (a.add (i+j))) ->
  (storeCells a vs i).run P w=.ok () (wrC w a i vs)
 | [],_,_,_,_=>rfl
 | v::vs,i,w,hv,hw=>by
  have h0:=hw 0 og
  simp only[Je]at h0
  simp only[storeCells,Sem.run_bind,qd1 (hv v og) h0,Result.andThen_ok,wrC]
  refine q88 vs (i+1) _ (fun u hu=>hv u (by simp[hu])) fun j hj=>qp4 ?_
  rw[show i+1+j=i+(j+1) by omega]
  simp_all
def bv(b:UInt8):Value:=.int .u8 b.toNat
def ofL(l:List UInt8):ByteArray:=⟨l.toArray⟩
abbrev SW:=Sl->World->Prop
def qfb(w:World)(l c:Nat):Sl:=⟨some ⟨w.heap.size,0,none⟩,l,c⟩
def apG(size bytes:Nat)(zero:List Value)(e:TypeId)(s:Sl)(n:Nat)(new:List Value)(w:World)(K:SW):Prop:=
 (s.l+n<=s.c->match s.p with
  | none=>K ⟨none,s.l+n,s.c⟩ w
  | some a=>qp3 w (a.add (s.l*size)) new.length/\K ⟨some a,s.l+n,s.c⟩ (wrC w (a.add (s.l*size)) 0 new)) /\
 (s.c<s.l+n->(s.l+n)*bytes<=2^47/\s.l+n<2^63/\(∃old,rdC w s.p (s.l*size) old/\∀cap,s.l+n<=cap ->
  K (qfb w (s.l+n) cap) (w.drew.alloc (.cells (old++new++rowZ zero ((cap-(s.l+n))*zero.length)).toArray e))))
def apS(size bytes:Nat)(zero:List Value)(e:TypeId)(s x:Sl)(w:World)(K:SW):Prop:=
 ∃new,rdC w x.p (x.l*size) new/\(∀v∈new,okC v=true)/\apG size bytes zero e s x.l new w K
def apZ(size bytes:Nat)(zero:List Value)(e:TypeId)(s:Sl)(n:Int)(w:World)(K:SW):Prop:=
 0<=n/\n<2^63/\n*bytes<=2^48/\apG size bytes zero e s n.toNat (rowZ zero (n.toNat*zero.length)) w K
def apT(e:TypeId)(s:Sl)(x:ByteArray)(w:World)(K:SW):Prop:=
 apG 1 1 [.int .u8 0] e s x.size (x.data.toList.map bv) w K
theorem qkx(a:Addr)(n m:Nat):(a.add n).add m=a.add (n+m):=by
 unfold Addr.add
 grind
theorem qd3(need:Nat):∀(r c:Nat),256<=c->c<=2*need->Builtin.growBy need r c<=2*need
 | 0,c,_,h=>h
 | r+1,c,h0,h=>by
  unfold Builtin.growBy
  split
  ·exact h
  ·exact qd3 need r _ oo oo
theorem qj5(need c:Nat)(h:c<need):Builtin.nextslicecap need c<=2*need:=by
 unfold Builtin.nextslicecap
 split
 ·omega
 ·split
  ·omega
  ·exact qd3 need 4 c oo oo
section
variable{P:Program}
theorem q3f{w:World}{p:Option Addr}{size n c:Nat}{l:Nat}{vs:List Value}(h:rdC w p (n*size) vs) :
  (Builtin.firstCells size n (.slice p l c)).run P w=.ok vs.toArray w:=by
 obtain⟨hlen,h⟩:=h
 cases p with
 | none =>
  simp only at h
  have:vs=[]:=oz
  subst this
  rfl
 | some a =>
  simp only at h
  have:=q3s (P:=P) (a:=a) (w:=w) vs 0 #[] (fun j hj=>by rw[Jc];exact h j hj)
  simp only[Builtin.firstCells,loadCells]
  grind
theorem zeroCells_eq(zero:Array Value)(n:Nat):Builtin.zeroCells zero n=(rowZ zero.toList (n*zero.size)).toArray:=by
 unfold Builtin.zeroCells rowZ
 apply Jk
 ·simp
 ·intro i h1 h2
  have hz:0<zero.size:=oz
  have:i%zero.size<zero.size:=Jf _ hz
  simp[this]
theorem qp5{w:World}{p:Option Addr}{n:Nat}{vs:List Value}(h:rdC w p n vs):rdC w.drew p n vs:=h
theorem qb8{e:TypeId}{ti:TypeInfo}{z:Value}(hi:P.info? e=some ti)(hz:ti.zero=some z)
  {s:Sl} {n:Nat} {new:List Value} {w:World} {K:SW} {x:Value} {zeros:Bool} {appended:Sem (Array Value)}
  (hnew:∀w',(w'=w\/w'=w.drew)->appended.run P w'=.ok new.toArray w')
  (hok:∀v∈new,okC v=true)
  (h:apG ti.size ti.bytes z.cells.toList e s n new w K) :
  ∃r w',K r w' /\
  (do
   let need:=s.l+n
   if need<=s.c then
    let new ←appended
    if let some a:=s.p then storeCells (a.add (s.l*ti.size)) new.toList
    pure (.slice s.p need s.c)
   else
    if(need:Int)>IntKind.i64.max/\(zeros\/(←typeInfo e).bytes=0)then runtimePanic (.error "growslice: len out of range")
    if Builtin.nextslicecap need s.c*(←typeInfo e).bytes>2^48 then(if zeros then runtimePanic (.error "growslice: len out of range")else do
     if !(←Builtin.mayShare ti.size s.l n s.p x)then mark .noRoom
     unsupported (.resourceLimit "append: a slice or a string whose bytes no memory bears"))
    let newCap ←choose (.appendCap need s.c e)
    askRoom (newCap*(←typeInfo e).bytes)
    let old ←Builtin.firstCells ti.size s.l (.slice s.p s.l s.c)
    let new ←appended
    let rest:=Builtin.zeroCells (←zeroValue e).cells (newCap-need)
    pure (.slice (some (←newRow e (old++new++rest))) need newCap):Sem Value).run P w=.ok (.slice r.p r.l r.c) w':=by
 obtain⟨h1,h2⟩:=h
 by_cases hc:s.l+n<=s.c
 ·have h1:=h1 hc
  cases hp:s.p with
  | none =>
   rw[hp]at h1
   refine⟨_,_,h1,?_⟩
   simp_all
  | some a =>
   rw[hp]at h1
   obtain⟨hw,hK⟩:=h1
   refine⟨_,_,hK,?_⟩
   have:=q88 (P:=P) (a:=a.add (s.l*ti.size)) new 0 w hok (fun j hj=>by rw[Jc];exact hw j hj)
   simp_all
 ·obtain⟨hb,hm,old,hold,hK⟩:=h2 oo
  have hcap:=qj5 (s.l+n) s.c oo
  have hti:∀w,(typeInfo e).run P w=.ok ti w:=fun w=>by simp[typeInfo,hi]
  have hzv:∀w,(zeroValue e).run P w=.ok z w:=fun w=>by simp[zeroValue,typeInfo,hi,hz]
  have e1:¬(((s.l+n:Nat):Int)>IntKind.i64.max/\(zeros=true\/ti.bytes=0)):=by
   have:IntKind.i64.max=9223372036854775807:=od
   rw[this];omega
  have e2:¬(Builtin.nextslicecap (s.l+n) s.c*ti.bytes>2^48):=by
   have:Builtin.nextslicecap (s.l+n) s.c*ti.bytes<=2*(s.l+n)*ti.bytes:=Nat.mul_le_mul_right _ hcap
   grind
  obtain⟨cap,hcap',hch⟩:∃cap,s.l+n<=cap/\(choose (.appendCap (s.l+n) s.c e)).run P w=.ok cap w.drew:=by
   refine⟨Question.cut (.appendCap (s.l+n) s.c e) (w.tape w.drawn (.appendCap (s.l+n) s.c e)),?_,?_⟩
   ·simp[Question.cut]
   ·simp[Question.forced]
  refine⟨_,_,hK cap hcap',?_⟩
  simp only[Sem.run_bind,Sem.run_ite,if_neg hc,hti,Result.andThen_ok,if_neg e1,Sem.run_pure,if_neg e2,hch,run_askRoom,q3f (qp5 hold),hnew w.drew (.inr rfl),hzv,
   newRow,run_newObj,zeroCells_eq]
  simp[qfb]
  rfl
theorem qky{st xt ty:TypeId}{e e':TypeId}{ti:TypeInfo}{z:Value}(hst:P.underlying st=some (.slice e))(hxt:P.underlying xt=some (.slice e'))(hi:P.info? e=some ti)(hz:ti.zero=some z)
  {s x:Sl} {w:World} {K:SW} (h:apS ti.size ti.bytes z.cells.toList e s x w K) :
  ∃r w',K r w'/\(Builtin.append_ #[st,xt] ty #[.slice s.p s.l s.c,.slice x.p x.l x.c]).run P w=.ok (.slice r.p r.l r.c) w':=by
 obtain⟨new,hr,hok,h⟩:=h
 obtain⟨r,w',hK,hrun⟩:=qb8 (P:=P) (zeros:=false) (x:=.slice x.p x.l x.c) hi hz (appended:=Builtin.firstCells ti.size x.l (.slice x.p x.l x.c))
  (fun w' hw'=>q3f (by rcases hw' with rfl|rfl<;>exact hr)) hok h
 refine⟨r,w',hK,?_⟩
 rw[←hrun]
 simp only[Builtin.append_,J1,J0,J2,Sem.run_bind,run_underlying hst,run_underlying hxt,Result.andThen_ok,q10 hi,Builtin.lenOf,Sem.run_pure]
 rfl
theorem qkz{st xt ty:TypeId}{e:TypeId}{ti:TypeInfo}(hst:P.underlying st=some (.slice e))(hxt:P.underlying xt=some .string)(hi:P.info? e=some ti)
  (hz:ti.zero=some (.int .u8 0)) (hs1:ti.size=1) (hb1:ti.bytes=1)
  {s:Sl} {x:ByteArray} {w:World} {K:SW} (h:apT e s x w K) :
  ∃r w',K r w'/\(Builtin.append_ #[st,xt] ty #[.slice s.p s.l s.c,.string x]).run P w=.ok (.slice r.p r.l r.c) w':=by
 have h':apG ti.size ti.bytes (Value.int IntKind.u8 0).cells.toList e s x.size (x.data.toList.map bv) w K:=by rw[hs1,hb1];exact h
 obtain⟨r,w',hK,hrun⟩:=qb8 (P:=P) (zeros:=false) (x:=.string x) hi hz (appended:=Builtin.firstCells ti.size x.size (.string x))
  (fun w' _=>by
   have h1:x.extract 0 x.size=x:=ByteArray.extract_zero_size
   simp[Builtin.firstCells,h1]
   apply Jh.1
   simp[bv]) (by intro v hv;simp at hv;obtain⟨b,_,rfl⟩:=hv;rfl) h'
 refine⟨r,w',hK,?_⟩
 rw[←hrun]
 simp only[Builtin.append_,J1,J0,J2,Sem.run_bind,run_underlying hst,run_underlying hxt,Result.andThen_ok,q10 hi,Builtin.lenOf,Sem.run_pure]
 rfl
theorem q89{n:Int}(h0:-9223372036854775808<=n)(h1:n<9223372036854775808):IntKind.i64.wrap n=n:=by
 have:n%18446744073709551616=n\/n%18446744073709551616=n+18446744073709551616:=oo
 unfold IntKind.wrap
 simp[IntKind.bits,IntKind.signed]
 omega
theorem ql0{st xt ty:TypeId}{e:TypeId}{k:IntKind}{ti:TypeInfo}{z:Value}(hst:P.underlying st=some (.slice e))(hxt:P.underlying xt=some (.int k))(hi:P.info? e=some ti)(hz:ti.zero=some z)
  (hsz:z.cells.size=ti.size) (hz1:∀v∈z.cells.toList,okC v=true) {s:Sl} {k':IntKind} {m:Int} {w:World} {K:SW} (h:apZ ti.size ti.bytes z.cells.toList e s m w K) :
  ∃r w',K r w'/\(Builtin.append_ #[st,xt] ty #[.slice s.p s.l s.c,.int k' m]).run P w=.ok (.slice r.p r.l r.c) w':=by
 obtain⟨h0,h63,hb,h⟩:=h
 have hw:IntKind.i64.wrap m=m:=q89 oo oo
 have hzv:∀w,(zeroValue e).run P w=.ok z w:=fun w=>by simp[zeroValue,typeInfo,hi,hz]
 have hti:∀w,(typeInfo e).run P w=.ok ti w:=fun w=>by simp[typeInfo,hi]
 obtain⟨r,w',hK,hrun⟩:=qb8 (P:=P) (zeros:=true) (x:=.int k' m) hi hz
  (appended:=if !true then Builtin.firstCells ti.size m.toNat (.int k' m)else if m.toNat*ti.size=0 then pure #[]else do pure (Builtin.zeroCells (←zeroValue e).cells m.toNat))
  (new:=rowZ z.cells.toList (m.toNat*z.cells.toList.length))
  (fun w' _=>by
   by_cases hm:m.toNat*ti.size=0
   ·have hm':m.toNat*z.cells.toList.length=0:=oz
    simp only[hm,hm']
    rfl
   ·simp[hm,hzv,zeroCells_eq]) (by
   intro v hv
   unfold rowZ at hv
   simp only[J7,J9]at hv
   obtain⟨i,hi',rfl⟩:=hv
   have hpos:0<z.cells.toList.length:=oz
   have hlt:=Jf i hpos
   rw[List.getD_eq_getElem?_getD,List.getElem?_eq_getElem hlt]
   exact hz1 _ (List.getElem_mem hlt)) h
 refine⟨r,w',hK,?_⟩
 rw[←hrun]
 have c1:¬(m<0):=oo
 have c2:¬(m*(ti.bytes:Int)>2^48):=oo
 simp only[Builtin.append_,J1,J0,J2,Sem.run_bind,run_underlying hst,run_underlying hxt,Result.andThen_ok,q10 hi,Builtin.lenOf,Sem.run_pure,
  asInt,asIntOf,hw,if_neg c1,hti,if_neg c2,if_true,Sem.run_ite]
 rfl
def cpS(size:Nat)(d x:Sl)(w:World)(K:Int->World->Prop):Prop:=
 ∃new,rdC w x.p (min x.l d.l*size) new/\(∀v∈new,okC v=true)/\match d.p with
  | none=>K (min x.l d.l:Nat) w
  | some a=>qp3 w a new.length/\K (min x.l d.l:Nat) (wrC w a 0 new)
def cpT(d:Sl)(x:ByteArray)(w:World)(K:Int->World->Prop):Prop:=
 match d.p with
  | none=>K (min x.size d.l:Nat) w
  | some a=>qp3 w a (min x.size d.l)/\K (min x.size d.l:Nat) (wrC w a 0 ((x.data.toList.take (min x.size d.l)).map bv))
theorem ql1{dt xt ty e:TypeId}{rest:List TypeId}{ti:TypeInfo}(hd:P.underlying dt=some (.slice e))(hi:P.info? e=some ti){d x:Sl}{w:World}{K:Int->World->Prop}
  (h:cpS ti.size d x w K):∃r w',K r w'/\(Builtin.copy_ (dt::xt::rest).toArray ty #[.slice d.p d.l d.c,.slice x.p x.l x.c]).run P w=.ok (.int .i64 r) w':=by
 obtain⟨new,hr,hok,h⟩:=h
 have hf:=q3f (P:=P) (n:=min x.l d.l) (c:=x.c) (l:=x.l) hr
 cases hp:d.p with
 | none =>
  rw[hp]at h
  refine⟨_,_,h,?_⟩
  simp only[Builtin.copy_,J1,J0,J2,Sem.run_bind,run_underlying hd,Result.andThen_ok,q10 hi,Builtin.lenOf,Sem.run_pure]
  change ((Builtin.firstCells ti.size (min x.l d.l) (.slice x.p x.l x.c)).run P w).andThen _=_
  rw[hf];rfl
 | some a =>
  rw[hp]at h
  obtain⟨hw,hK⟩:=h
  refine⟨_,_,hK,?_⟩
  have:=q88 (P:=P) (a:=a) new 0 w hok (fun j hj=>by rw[Jc];exact hw j hj)
  simp only[Builtin.copy_,J1,J0,J2,Sem.run_bind,run_underlying hd,Result.andThen_ok,q10 hi,Builtin.lenOf,Sem.run_pure]
  change ((Builtin.firstCells ti.size (min x.l d.l) (.slice x.p x.l x.c)).run P w).andThen _=_
  rw[hf]
  simp only[Result.andThen_ok,this]
  rfl
theorem ql2{dt xt ty e:TypeId}{rest:List TypeId}{ti:TypeInfo}(hd:P.underlying dt=some (.slice e))(hi:P.info? e=some ti){d:Sl}{x:ByteArray}{w:World}{K:Int->World->Prop}
  (h:cpT d x w K):∃r w',K r w'/\(Builtin.copy_ (dt::xt::rest).toArray ty #[.slice d.p d.l d.c,.string x]).run P w=.ok (.int .i64 r) w':=by
 have hf:(Builtin.firstCells ti.size (min x.size d.l) (.string x)).run P w=.ok ((x.data.toList.take (min x.size d.l)).map bv).toArray w:=by
  simp only[Builtin.firstCells,Sem.run_pure]
  congr 1
  apply Jh.1
  simp only[Array.toList_map,ByteArray.data_extract,Array.toList_extract,List.extract_eq_take_drop,Nat.sub_zero,List.drop_zero]
  rfl
 unfold cpT at h
 cases hp:d.p with
 | none =>
  rw[hp]at h
  refine⟨_,_,h,?_⟩
  simp only[Builtin.copy_,J1,J0,J2,Sem.run_bind,run_underlying hd,Result.andThen_ok,q10 hi,Builtin.lenOf,Sem.run_pure]
  change ((Builtin.firstCells ti.size (min x.size d.l) (.string x)).run P w).andThen _=_
  rw[hf];rfl
 | some a =>
  rw[hp]at h
  obtain⟨hw,hK⟩:=h
  refine⟨_,_,hK,?_⟩
  have:=q88 (P:=P) (a:=a) ((x.data.toList.take (min x.size d.l)).map bv) 0 w (by intro v hv;obtain⟨b,_,rfl⟩:=J7.1 hv;rfl) (fun j hj=>by
   rw[Jc]
   refine hw j ?_
   simp at hj;omega)
  simp only[Builtin.copy_,J1,J0,J2,Sem.run_bind,run_underlying hd,Result.andThen_ok,q10 hi,Builtin.lenOf,Sem.run_pure]
  change ((Builtin.firstCells ti.size (min x.size d.l) (.string x)).run P w).andThen _=_
  rw[hf]
  simp only[Result.andThen_ok,this]
  rfl
def clS(zero:List Value)(s:Sl)(w:World)(K:World->Prop):Prop:=
 match s.p with
 | none=>K w
 | some a=>qp3 w a (s.l*zero.length)/\K (wrC w a 0 (rowZ zero (s.l*zero.length)))
theorem qsy{zero:List Value}{n:Nat}(hz:∀v∈zero,okC v=true)(hn:n=0\/0<zero.length):∀v∈rowZ zero n,okC v=true:=by
 intro v hv
 unfold rowZ at hv
 simp only[J7,J9]at hv
 obtain⟨i,hi',rfl⟩:=hv
 have hpos:0<zero.length:=oo
 have hlt:=Jf i hpos
 grind
theorem ql3{st ty e:TypeId}{ti:TypeInfo}{z:Value}(hst:P.underlying st=some (.slice e))(hi:P.info? e=some ti)(hz:ti.zero=some z)(hz1:∀v∈z.cells.toList,okC v=true)
  {s:Sl} {w:World} {K:World->Prop} (h:clS z.cells.toList s w K) :
  ∃w',K w'/\(Builtin.clear_ #[st] ty #[.slice s.p s.l s.c]).run P w=.ok undef w':=by
 have hzv:∀w,(zeroValue e).run P w=.ok z w:=fun w=>by simp[zeroValue,typeInfo,hi,hz]
 unfold clS at h
 obtain⟨p,l,c⟩:=s
 cases p with
 | none =>
  refine⟨_,h,?_⟩
  simp only[Builtin.clear_,J1,J0,Sem.run_bind,run_underlying hst,Result.andThen_ok]
  rfl
 | some a =>
  obtain⟨hw,hK⟩:=h
  cases l with
  | zero =>
   refine⟨_,hK,?_⟩
   simp only[Builtin.clear_,J1,J0,Sem.run_bind,run_underlying hst,Result.andThen_ok,Nat.zero_mul]
   rfl
  | succ l =>
   refine⟨_,hK,?_⟩
   have:=q88 (P:=P) (a:=a) (rowZ z.cells.toList ((l+1)*z.cells.toList.length)) 0 w (qsy hz1 oz) (fun j hj=>by rw[Jc];exact hw j (by simpa [rowZ]using hj))
   simp only[Builtin.clear_,J1,J0,Sem.run_bind,run_underlying hst,Result.andThen_ok,hzv,zeroCells_eq]
   rw[Jj]at this ⊢
   rw[this]
   rfl
def mkS(bytes:Nat)(zero:List Value)(e:TypeId)(len cap:Int)(w:World)(K:SW):Prop:=
 0<=len/\len<=cap/\cap<2^63/\cap*bytes<=2^48/\K (qfb w len.toNat cap.toNat) (w.alloc (.cells (rowZ zero (cap.toNat*zero.length)).toArray e))
theorem qd4(zero:Array Value)(n:Nat)(h:n=0\/0<zero.size):madeCells zero n=(rowZ zero.toList n).toArray:=by
 apply Jk
 ·simp[rowZ,madeCells]
 ·intro i i1 i2
  have hpos:0<zero.size:=by
   rcases h with rfl|h
   ·simp[madeCells]at i1
   ·exact h
  have:=Jf i hpos
  simp[rowZ,madeCells,this]
theorem ql4{t e:TypeId}{ti:TypeInfo}{z:Value}(ht:P.underlying t=some (.slice e))(hi:P.info? e=some ti)(hz:ti.zero=some z)(hsz:z.cells.size=ti.size)
  {k k':IntKind} {len cap:Int} {w:World} {K:SW} (h:mkS ti.bytes z.cells.toList e len cap w K) :
  ∃r w',K r w'/\(Instr.makeSlice t (.int k len) (.int k' cap)).run P w=.ok (.slice r.p r.l r.c) w':=by
 obtain⟨h0,h1,h2,hb,hK⟩:=h
 refine⟨_,_,hK,?_⟩
 rw[run_make w t e ti z ht hi hz k k' len cap h0 h1 oz oo,qd4,Jj,hsz]
 ·rfl
 ·grind
def stbS(e:TypeId)(s:ByteArray)(w:World)(K:SW):Prop:=
 ∀cap,s.size<=cap->K (qfb w s.size cap) (w.drew.alloc (.cells ((s.data.toList.map bv)++Ja (cap-s.size) (Value.int .u8 0)).toArray e (cap,cap+1)))
theorem qj6{sT dT e:TypeId}{s:ByteArray}(hs:P.underlying sT=some .string)(hd:P.underlying dT=some (.slice e))(he:P.underlying e=some (.int .u8)){w:World}{K:SW}(h:stbS e s w K) :
  ∃r w',K r w'/\(convert sT dT (.string s)).run P w=.ok (.slice r.p r.l r.c) w':=by
 have hcut:s.size<=grownCap w s.size 0 e:=by simp[grownCap,Question.cut]
 refine⟨_,_,h _ hcut,?_⟩
 rw[run_bytes_of_string w sT dT e s hs hd he]
 have hrow:bytesRow s (grownCap w s.size 0 e)=((s.data.toList.map bv)++Ja (grownCap w s.size 0 e-s.size) (Value.int .u8 0)).toArray:=by
  apply Jh.1
  unfold bytesRow bv
  simp
 have hsz:(bytesRow s (grownCap w s.size 0 e)).size=grownCap w s.size 0 e:=ud
 rw[hsz,hrow]
 rfl
def btsS(s:Sl)(w:World)(K:ByteArray->Prop):Prop:=
 ∃bs:List UInt8,rdC w s.p s.l (bs.map bv)/\K (ofL bs)
theorem qj7{sT dT e:TypeId}(hs:P.underlying sT=some (.slice e))(hd:P.underlying dT=some .string)(he:P.underlying e=some (.int .u8)){s:Sl}{w:World}{K:ByteArray->Prop}(h:btsS s w K) :
  ∃r,K r/\(convert sT dT (.slice s.p s.l s.c)).run P w=.ok (.string r) w:=by
 obtain⟨bs,⟨hlen,hr⟩,hK⟩:=h
 refine⟨_,hK,?_⟩
 simp only[List.length_map]at hlen
 cases hp:s.p with
 | none =>
  rw[hp]at hr
  simp only at hr
  have:bs=[]:=List.eq_nil_of_length_eq_zero oo
  subst this
  rw[run_convert_bytes_string w sT dT e none s.l s.c hs he hd]
  rfl
 | some a =>
  rw[hp]at hr
  simp only at hr
  rw[←hlen]
  exact run_convert_bytes_back w sT dT e a s.c bs hs he hd (fun j hj=>by
   have:=hr j (by simpa using hj)
   simpa [bv]using this)
def usS(e:TypeId)(a:Addr)(n:Int)(w:World)(K:ByteArray->World->Prop):Prop:=
 ∃(g:Nat) (l:List UInt8) (cells:Nat),a=⟨g,0,none⟩/\n=l.length/\l≠[]/\w.shape? g=some (e,cells)/\l.length<=cells/\(l.length:Int)<=maxI /\
  (∀j x,l[j]?=some x->w.cell? ⟨g,j,none⟩=some (.int .u8 x.toNat))/\K (ofL l) (w.freeze ⟨g,0,none⟩ l.length)
theorem ql5{pt it ty e:TypeId}(hp:P.underlying pt=some (.pointer e))(hc:P.cellsOf e=1){a:Addr}{n:Int}{w:World}{K:ByteArray->World->Prop}(h:usS e a n w K) :
  ∃r w',K r w'/\(Builtin.unsafeString_ #[pt,it] ty #[.pointer (some a),.int .i64 n]).run P w=.ok (.string r) w':=by
 obtain⟨g,l,cells,rfl,rfl,h0,hsh,hle,hmax,hcell,hK⟩:=h
 refine⟨_,_,hK,?_⟩
 refine Lib.run_unsafeString_row (P:=P) w pt it ty e hp hc g cells hsh l h0 hle (by unfold maxI at hmax;omega) fun j x hx=>?_
 have:(⟨g,0,none⟩:Addr).add j=⟨g,j,none⟩:=by
  unfold Addr.add
  grind
 grind
end
open Go Go.MapKept
def Mp(w:World)(r:Nat)(k:IntKind)(l:List (Int×Value)):Prop:=
 ∃es clock,w.heap[r]?=some (.map es clock)/\es.toList.map (fun e=>(e.key,e.val))=l.map fun p=>(.int k p.1,p.2)
def Ml(w:World)(r c:Nat):Prop:=∃es clock,w.heap[r]?=some (.map es clock)/\es.size=c
def q2v{α:Type}(d:α)(n:Int):List (Int×α)->α
 | []=>d
 | p::l=>if p.1=n then p.2 else q2v d n l
def mput{α:Type}(n:Int)(v:α):List (Int×α)->List (Int×α)
 | []=>[(n,v)]
 | p::l=>if p.1=n then(n,v)::l else p::mput n v l
def oset(k:IntKind)(n:Int)(v:Value):Obj->Obj
 | .map es clock=>match Instr.findNow (.int k) (.int k n) es.toList 0 with
  | some (some (i,_))=>.map (es.modify i fun e=>{ e with key:=.int k n,val:=v }) clock
  | _=>.map (es.push { key:=.int k n,val:=v,born:=clock }) (clock+1)
 | o=>o
def _root_.Go.World.mset(w:World)(r:Nat)(k:IntKind)(n:Int)(v:Value):World:={ w with heap:=w.heap.modify r (oset k n v) }
section
variable{P:Program}{w:World}{r:Nat}{k:IntKind}{n:Int}{l:List (Int×Value)}
theorem q5t(d:Value)(v:Value):∀(es:List MapEntry) (l:List (Int×Value)) (i:Nat),es.map (fun e=>(e.key,e.val))=l.map (fun p=>(Value.int k p.1,p.2)) ->
  (Instr.findNow (.int k) (.int k n) es i=some none/\q2v d n l=d/\mput n v l=l++[(n,v)]) \/
  ∃j x,Instr.findNow (.int k) (.int k n) es i=some (some (i+j,x))/\q2v d n l=x/\(∃e,es[j]?=some e/\e.key=.int k n)/\mput n v l=l.set j (n,v)
 | [],[],i,_=>.inl ⟨rfl,rfl,rfl⟩
 | [],_::_,_,h=>by simp at h
 | _::_,[],_,h=>by simp at h
 | e::es,p::l,i,h=>by
  simp only[J3,List.cons.injEq,Prod.mk.injEq]at h
  obtain⟨⟨hk,hv⟩,ht⟩:=h
  unfold Instr.findNow q2v mput
  rw[hk]
  by_cases hn:p.1=n
  ·refine .inr ⟨0,e.val,?_,?_,⟨e,rfl,by rw[hk,hn]⟩,?_⟩
   ·simp[Instr.sameNow,hn]
   ·grind
   ·grind
  ·have hs:Instr.sameNow (.int k) (.int k n) (.int k p.1)=some false:=by
    simp only[Instr.sameNow,if_true,Option.some.injEq,beq_eq_false_iff_ne,ne_eq]
    omega
   rw[hs]
   simp only[if_neg hn]
   rcases q5t d v es l (i+1) ht with⟨h1,h2,h3⟩|⟨j,x,h1,h2,h3,h4⟩
   ·grind
   ·exact .inr ⟨j+1,x,by rw[h1];congr 3;omega,h2,h3,by rw[h4];rfl⟩
theorem Mp.set(h:Mp w r k l)(n:Int)(v:Value):Mp (w.mset r k n v) r k (mput n v l):=by
 obtain⟨es,clock,hb,he⟩:=h
 have hlt:r<w.heap.size:=(Array.getElem?_eq_some_iff.1 hb).1
 have hnew:(w.mset r k n v).heap[r]?=some (oset k n v (.map es clock)):=by
  unfold World.mset
  grind
 rcases q5t (n:=n) v v es.toList l 0 he with⟨h1,_,h3⟩|⟨j,x,h1,_,⟨e',hj',_⟩,h4⟩
 ·refine⟨es.push { key:=.int k n,val:=v,born:=clock },clock+1,?_,?_⟩
  ·rw[hnew]
   simp only[oset,h1]
  ·grind
 ·have hj:j<es.toList.length:=(J4.1 hj').1
  rw[Jc]at h1
  refine⟨es.modify j fun e=>{ e with key:=.int k n,val:=v },clock,?_,?_⟩
  ·rw[hnew]
   simp only[oset,h1]
  ·rw[h4]
   apply J6
   intro i
   have hi:=congrArg (·[i]?) he
   grind
theorem q6s(t:TypeId){kt et:TypeId}{ti:TypeInfo}{z:Value}(ht:P.underlying t=some (.map kt et))(hk:P.underlying kt=some (.int k))(hi:P.info? et=some ti)(hz:ti.zero=some z)(h:Mp w r k l) :
  (Instr.lookup t (.map (some r)) (.int k n) false).run P w=.ok (q2v z n l) w:=by
 obtain⟨es,clock,hb,he⟩:=h
 have hkey:IsKey (.int k) (.int k n):=by simp[IsKey]
 have hc:=run_checkKey (P:=P) (w:=w) hk hkey es.isEmpty 9999
 unfold Instr.lookup
 rcases q5t (n:=n) z z es.toList l 0 he with⟨h1,h2,_⟩|⟨j,x,h1,h2,_,_⟩
 ·have hf:=run_findKey (P:=P) (w:=w) hk h1
  simp[run_underlying ht,run_getObj_map hb,hc,hf,h2,zeroValue,typeInfo,hi,hz]
 ·have hf:=run_findKey (P:=P) (w:=w) hk h1
  simp[run_underlying ht,run_getObj_map hb,hc,hf,h2]
theorem q5u(t:TypeId){kt et:TypeId}(v:Value)(ht:P.underlying t=some (.map kt et))(hk:P.underlying kt=some (.int k))(h:Mp w r k l) :
  (Instr.mapUpdate t (.map (some r)) (.int k n) v).run P w=.ok () (w.mset r k n v):=by
 obtain⟨es,clock,hb,he⟩:=h
 have hkey:IsKey (.int k) (.int k n):=by simp[IsKey]
 have hc:=run_checkKey (P:=P) (w:=w) hk hkey false 9999
 have hset:∀o',oset k n v (.map es clock)=o'->w.mset r k n v={ w with heap:=w.heap.setIfInBounds r o' }:=by
  intro o' ho
  unfold World.mset
  congr 1
  grind
 unfold Instr.mapUpdate
 rcases q5t (n:=n) v v es.toList l 0 he with⟨h1,_,_⟩|⟨j,x,h1,_,⟨e,he1,he2⟩,_⟩
 ·have hf:=run_findKey (P:=P) (w:=w) hk h1
  rw[hset _ (by simp only[oset,h1];rfl)]
  simp[run_underlying ht,run_getObj_map hb,hc,hf,run_setObj_map _ hb]
 ·have hf:=run_findKey (P:=P) (w:=w) hk h1
  rw[Jc]at h1 hf
  rw[Ji]at he1
  rw[hset _ (by simp only[oset,h1];rfl)]
  have hs:∀m,Instr.sameBits (m+1) (.int k n) (.int k n)=true:=fun m=>by simp[Instr.sameBits]
  simp[run_underlying ht,run_getObj_map hb,hc,hf,run_setObj_map _ hb,he1,he2,Instr.keyThatStays,hs 9999]
theorem qfc(t ty:TypeId){kt et:TypeId}{c:Nat}(ht:P.underlying t=some (.map kt et))(h:Ml w r c):(Builtin.len_ #[t] ty #[.map (some r)]).run P w=.ok (.int .i64 c) w:=by
 obtain⟨es,clock,hb,rfl⟩:=h
 simp[Builtin.len_,run_underlying ht,run_getObj_map hb,goInt]
theorem Mp.len(h:Mp w r k l):Ml w r l.length:=by
 obtain⟨es,clock,hb,he⟩:=h
 refine⟨es,clock,hb,?_⟩
 have:=congrArg List.length he
 simpa using this
theorem Mp.made(w:World)(k:IntKind):Mp (w.alloc (.map #[] 0)) w.heap.size k []:=
 ⟨#[],0,(heap_alloc w _).1,rfl⟩
end
def lkS(k:IntKind)(z:Value)(r:Nat)(n:Int)(w:World)(K:VW):Prop:=
 match z with
 | .bool d=>∃l:List (Int×Bool),Mp w r k (l.map fun p=>(p.1,.bool p.2))/\K (.bool (q2v d n l)) w
 | .int q d=>∃l:List (Int×Int),Mp w r k (l.map fun p=>(p.1,.int q p.2))/\K (.int q (q2v d n l)) w
 | .string d=>∃l:List (Int×ByteArray),Mp w r k (l.map fun p=>(p.1,.string p.2))/\K (.string (q2v d n l)) w
 | _=>False
def muS(k:IntKind)(r:Nat)(n:Int)(v:Value)(w:World)(K:World->Prop):Prop:=
 (∃l,Mp w r k l)/\K (w.mset r k n v)
theorem q7s{α β:Type}(f:α->β)(d:α)(n:Int):∀l:List (Int×α),q2v (f d) n (l.map fun p=>(p.1,f p.2))=f (q2v d n l)
 | []=>rfl
 | p::l=>by
  simp only[J3,q2v]
  split
  ·rfl
  ·exact q7s f d n l
theorem qb9{α β:Type}(f:α->β)(n:Int)(v:α):∀l:List (Int×α),mput n (f v) (l.map fun p=>(p.1,f p.2))=(mput n v l).map fun p=>(p.1,f p.2)
 | []=>rfl
 | p::l=>by
  simp only[J3,mput]
  split
  ·rfl
  ·rw[qb9 f n v l];rfl
theorem ql6{P:Program}{w:World}{r:Nat}{k:IntKind}{n:Int}(t:TypeId){kt et:TypeId}{ti:TypeInfo}{z:Value}{K:VW}(ht:P.underlying t=some (.map kt et))(hk:P.underlying kt=some (.int k))(hi:P.info? et=some ti)(hz:ti.zero=some z)(h:lkS k z r n w K) :
  ∃v,K v w/\(Instr.lookup t (.map (some r)) (.int k n) false).run P w=.ok v w:=by
 unfold lkS at h
 split at h
 ·rename_i d
  obtain⟨l,hm,hK⟩:=h
  refine⟨_,hK,?_⟩
  rw[q6s t ht hk hi hz hm,q7s Value.bool]
 ·rename_i q d
  obtain⟨l,hm,hK⟩:=h
  refine⟨_,hK,?_⟩
  rw[q6s t ht hk hi hz hm,q7s (Value.int q)]
 ·rename_i d
  obtain⟨l,hm,hK⟩:=h
  refine⟨_,hK,?_⟩
  rw[q6s t ht hk hi hz hm,q7s Value.string]
 ·exact h.elim
def Ms(w:World)(r:Nat)(l:List (ByteArray×Value)):Prop:=
 ∃es clock,w.heap[r]?=some (.map es clock)/\es.toList.map (fun e=>(e.key,e.val))=l.map fun p=>(.string p.1,p.2)
def q3t{α:Type}(d:α)(n:ByteArray):List (ByteArray×α)->α
 | []=>d
 | p::l=>if p.1=n then p.2 else q3t d n l
def sput{α:Type}(n:ByteArray)(v:α):List (ByteArray×α)->List (ByteArray×α)
 | []=>[(n,v)]
 | p::l=>if p.1=n then(n,v)::l else p::sput n v l
def oseS(n:ByteArray)(v:Value):Obj->Obj
 | .map es clock=>match Instr.findNow .string (.string n) es.toList 0 with
  | some (some (i,_))=>.map (es.modify i fun e=>{ e with key:=.string n,val:=v }) clock
  | _=>.map (es.push { key:=.string n,val:=v,born:=clock }) (clock+1)
 | o=>o
def _root_.Go.World.sset(w:World)(r:Nat)(n:ByteArray)(v:Value):World:={ w with heap:=w.heap.modify r (oseS n v) }
section
variable{P:Program}{w:World}{r:Nat}{n:ByteArray}{l:List (ByteArray×Value)}
theorem q2u(d:Value)(v:Value):∀(es:List MapEntry) (l:List (ByteArray×Value)) (i:Nat),es.map (fun e=>(e.key,e.val))=l.map (fun p=>(Value.string p.1,p.2)) ->
  (Instr.findNow .string (.string n) es i=some none/\q3t d n l=d/\sput n v l=l++[(n,v)]) \/
  ∃j x,Instr.findNow .string (.string n) es i=some (some (i+j,x))/\q3t d n l=x/\(∃e,es[j]?=some e/\e.key=.string n)/\sput n v l=l.set j (n,v)
 | [],[],i,_=>.inl ⟨rfl,rfl,rfl⟩
 | [],_::_,_,h=>by simp at h
 | _::_,[],_,h=>by simp at h
 | e::es,p::l,i,h=>by
  simp only[J3,List.cons.injEq,Prod.mk.injEq]at h
  obtain⟨⟨hk,hv⟩,ht⟩:=h
  unfold Instr.findNow q3t sput
  rw[hk]
  by_cases hn:p.1=n
  ·refine .inr ⟨0,e.val,?_,?_,⟨e,rfl,by rw[hk,hn]⟩,?_⟩
   ·simp[Instr.sameNow,hn,(bytes_beq n n).2 rfl]
   ·grind
   ·grind
  ·have hs:Instr.sameNow .string (.string n) (.string p.1)=some false:=by
    simp only[Instr.sameNow,Option.some.injEq]
    exact Bool.eq_false_iff.2 fun h=>hn ((bytes_beq _ _).1 h).symm
   rw[hs]
   simp only[if_neg hn]
   rcases q2u d v es l (i+1) ht with⟨h1,h2,h3⟩|⟨j,x,h1,h2,h3,h4⟩
   ·grind
   ·exact .inr ⟨j+1,x,by rw[h1];congr 3;omega,h2,h3,by rw[h4];rfl⟩
theorem Ms.set(h:Ms w r l)(n:ByteArray)(v:Value):Ms (w.sset r n v) r (sput n v l):=by
 obtain⟨es,clock,hb,he⟩:=h
 have hlt:r<w.heap.size:=(Array.getElem?_eq_some_iff.1 hb).1
 have hnew:(w.sset r n v).heap[r]?=some (oseS n v (.map es clock)):=by
  unfold World.sset
  grind
 rcases q2u (n:=n) v v es.toList l 0 he with⟨h1,_,h3⟩|⟨j,x,h1,_,⟨e',hj',_⟩,h4⟩
 ·refine⟨es.push { key:=.string n,val:=v,born:=clock },clock+1,?_,?_⟩
  ·rw[hnew]
   simp only[oseS,h1]
  ·grind
 ·have hj:j<es.toList.length:=(J4.1 hj').1
  rw[Jc]at h1
  refine⟨es.modify j fun e=>{ e with key:=.string n,val:=v },clock,?_,?_⟩
  ·rw[hnew]
   simp only[oseS,h1]
  ·rw[h4]
   apply J6
   intro i
   have hi:=congrArg (·[i]?) he
   grind
theorem q8a(t:TypeId){kt et:TypeId}{ti:TypeInfo}{z:Value}(ht:P.underlying t=some (.map kt et))(hk:P.underlying kt=some .string)(hi:P.info? et=some ti)(hz:ti.zero=some z)(h:Ms w r l) :
  (Instr.lookup t (.map (some r)) (.string n) false).run P w=.ok (q3t z n l) w:=by
 obtain⟨es,clock,hb,he⟩:=h
 have hkey:IsKey .string (.string n):=by simp[IsKey]
 have hc:=run_checkKey (P:=P) (w:=w) hk hkey es.isEmpty 9999
 unfold Instr.lookup
 rcases q2u (n:=n) z z es.toList l 0 he with⟨h1,h2,_⟩|⟨j,x,h1,h2,_,_⟩
 ·have hf:=run_findKey (P:=P) (w:=w) hk h1
  simp[run_underlying ht,run_getObj_map hb,hc,hf,h2,zeroValue,typeInfo,hi,hz]
 ·have hf:=run_findKey (P:=P) (w:=w) hk h1
  simp[run_underlying ht,run_getObj_map hb,hc,hf,h2]
theorem q5a(t:TypeId){kt et:TypeId}(v:Value)(ht:P.underlying t=some (.map kt et))(hk:P.underlying kt=some .string)(h:Ms w r l) :
  (Instr.mapUpdate t (.map (some r)) (.string n) v).run P w=.ok () (w.sset r n v):=by
 obtain⟨es,clock,hb,he⟩:=h
 have hkey:IsKey .string (.string n):=by simp[IsKey]
 have hc:=run_checkKey (P:=P) (w:=w) hk hkey false 9999
 have hset:∀o',oseS n v (.map es clock)=o'->w.sset r n v={ w with heap:=w.heap.setIfInBounds r o' }:=by
  intro o' ho
  unfold World.sset
  congr 1
  grind
 unfold Instr.mapUpdate
 rcases q2u (n:=n) v v es.toList l 0 he with⟨h1,_,_⟩|⟨j,x,h1,_,⟨e,he1,he2⟩,_⟩
 ·have hf:=run_findKey (P:=P) (w:=w) hk h1
  rw[hset _ (by simp only[oseS,h1];rfl)]
  simp[run_underlying ht,run_getObj_map hb,hc,hf,run_setObj_map _ hb]
 ·have hf:=run_findKey (P:=P) (w:=w) hk h1
  rw[Jc]at h1 hf
  rw[Ji]at he1
  rw[hset _ (by simp only[oseS,h1];rfl)]
  have hs:∀m,Instr.sameBits (m+1) (.string n) (.string n)=true:=fun m=>by simp[Instr.sameBits,(bytes_beq n n).2 rfl]
  simp[run_underlying ht,run_getObj_map hb,hc,hf,run_setObj_map _ hb,he1,he2,Instr.keyThatStays,hs 9999]
theorem Ms.made(w:World):Ms (w.alloc (.map #[] 0)) w.heap.size []:=
 ⟨#[],0,(heap_alloc w _).1,rfl⟩
end
def lkT(z:Value)(r:Nat)(n:ByteArray)(w:World)(K:VW):Prop:=
 match z with
 | .bool d=>∃l:List (ByteArray×Bool),Ms w r (l.map fun p=>(p.1,.bool p.2))/\K (.bool (q3t d n l)) w
 | _=>False
def muT(r:Nat)(n:ByteArray)(v:Value)(w:World)(K:World->Prop):Prop:=
 (∃l,Ms w r l)/\K (w.sset r n v)
theorem qhq{α β:Type}(f:α->β)(d:α)(n:ByteArray):∀l:List (ByteArray×α),q3t (f d) n (l.map fun p=>(p.1,f p.2))=f (q3t d n l)
 | []=>rfl
 | p::l=>by
  simp only[J3,q3t]
  split
  ·rfl
  ·exact qhq f d n l
theorem qhr{α β:Type}(f:α->β)(n:ByteArray)(v:α):∀l:List (ByteArray×α),sput n (f v) (l.map fun p=>(p.1,f p.2))=(sput n v l).map fun p=>(p.1,f p.2)
 | []=>rfl
 | p::l=>by
  simp only[J3,sput]
  split
  ·rfl
  ·rw[qhr f n v l];rfl
theorem ql7{P:Program}{w:World}{r:Nat}{n:ByteArray}(t:TypeId){kt et:TypeId}{ti:TypeInfo}{z:Value}{K:VW}(ht:P.underlying t=some (.map kt et))(hk:P.underlying kt=some .string)(hi:P.info? et=some ti)(hz:ti.zero=some z)(h:lkT z r n w K) :
  ∃v,K v w/\(Instr.lookup t (.map (some r)) (.string n) false).run P w=.ok v w:=by
 unfold lkT at h
 split at h
 ·rename_i d
  obtain⟨l,hm,hK⟩:=h
  refine⟨_,hK,?_⟩
  rw[q8a t ht hk hi hz hm,qhq Value.bool]
 ·exact h.elim
