/- The formula of a region and of a whole body, with cuts and loops; sound for the model's walk. Conditions: none. -/
import Derived.OrdersIn
import Derived.Test.YtmfkimnmklnppaaGreatDoorPwD
open List renaming mem_cons->J0,length_cons->J1,range'_succ->J2,mem_singleton->J3,mem_append->J4,cons_append->J5,all_eq_true->J6,not_mem_nil->J7,length_eq_zero_iff->J8,map_append->J9,filter_eq_self->Ja,range'->Jb,nodup_append->Jc,filter_congr->Jd,append_nil->Je,mem_filter->Jf,mem_range->Jg,mapM_cons->Jh,range->Ji
open Nat renaming beq->Jj
open Bool renaming and_eq_true->Jk,or_eq_true->Jl,false_eq_true->Jm
open Array renaming mem_of_getElem?->Jn,replicate->Jo
namespace Pw
open Go
inductive RA where
 | done
 | run (r:RA)
 | raw (r:RA)
 | dyn (z:Value) (r:RA)
 | skp (r:RA)
 | spl (t:Nat) (r1 r2:RA)
inductive DA where
 | done
 | pur (i:Nat) (r:DA)
 | prw (i:Nat) (r:DA)
 | skp (i:Nat) (r:DA)
 | eff (i:Nat) (r:DA)
 | dyn (i:Nat) (z:Value) (r:DA)
 | str (i:Nat) (r:DA)
 | two (i:Nat) (r:DA) (j:Nat) (r':DA)
 | thr (i:Nat) (r:DA) (j:Nat) (r':DA) (k:Nat) (r'':DA)
 | tws (i:Nat) (r:DA) (j:Nat) (r':DA)
 | ths (i:Nat) (r:DA) (j:Nat) (r':DA) (k:Nat) (r'':DA)
 | flo (fs js:List Nat) (r:DA)
 | spl (t:Nat) (r1 r2:DA)
def q37(ops:Array Oper)(σ:St)(o:Oper):Option Bool:=
 match o.guard with
 | none=>some true
 | some (j,want)=>match(ops[j]?).bind (·.dst)with
  | none=>none
  | some t=>match get σ t with
   | some (.bool b)=>match b,want with
    | true,true=>some true
    | false,false=>some true
    | true,false=>some false
    | false,true=>some false
   | some (.tuple _)=>some false
   | _=>none
theorem q0n{n:Nat}{B:List Deferred}{ops:Array Oper}{σ:St}{a:Act}(ha:Agr n B σ a){o:Oper}{b:Bool}(h:q37 ops σ o=some b) :
  Region.wanted o (yielded ops a.tmps)=b:=by
 unfold q37 at h
 unfold Region.wanted
 split at h
 ·grind
 ·rename_i j want hg
  rw[hg]
  split at h
  ·cases h
  ·rename_i t ht
   split at h
   ·rename_i c hc
    have hy:yielded ops a.tmps j=some c:=by
     unfold yielded
     rw[ht]
     simp[ha.2.2 t _ hc]
    grind
   ·rename_i cs hc
    have hy:yielded ops a.tmps j=none:=by
     unfold yielded
     rw[ht]
     simp[ha.2.2 t _ hc]
    grind
   ·cases h
def Ext(w w':World):Prop:=w.heap.size<=w'.heap.size/\(∀b,b<w.heap.size->w'.heap[b]?=w.heap[b]?)/\w'.os=w.os/\w'.output=w.output/\w'.tape=w.tape
theorem Ext.refl{w:World}:Ext w w:=⟨Nat.le_refl _,fun _ _=>rfl,rfl,rfl,rfl⟩
theorem Ext.trans{w w' w2:World}(h:Ext w w')(h':Ext w' w2):Ext w w2:=
 ⟨Nat.le_trans h.1 h'.1,fun b hb=>(h'.2.1 b (Nat.lt_of_lt_of_le hb h.1)).trans (h.2.1 b hb),h'.2.2.1.trans h.2.2.1,h'.2.2.2.1.trans h.2.2.2.1,h'.2.2.2.2.trans h.2.2.2.2⟩
def ExtL(w w':World):Prop:=Ext w w'/\w.heap.size<w'.heap.size
def ninL(b:Nat)(l:List Nat):Prop:=∀x∈l,x≠b
def floX(P:Program)(ops:Array Oper)(σ:St):List Nat->Prop
 | []=>True
 | i::fs=>(match ops[i]? with
  | some o=>match o.guard with
   | none=>∀u,opR P σ o u fun _ u'=>ExtL u u'
   | some _=>False
  | none=>False)/\floX P ops σ fs
def floE(P:Program)(n:Nat)(ops:Array Oper)(σ0:St)(w0 u:World):List Nat->List Nat->(St->Prop)->St->Prop
 | [],_,K,σ=>K σ
 | i::fs,bs,K,σ=>match ops[i]? with
  | some o=>∀u0,Ext w0 u0->ninL u0.heap.size bs->opR P σ0 o u0 fun v u1=>Ext u1 u->putK n o.dst v σ fun σ'=>floE P n ops σ0 w0 u fs (u0.heap.size::bs) K σ'
  | none=>False
def floW(P:Program)(Γ:Env)(n:Nat)(ops:Array Oper)(σ0:St)(w0:World)(fs:List Nat)(K:St->World->Prop):List Nat->St->World->Prop
 | [],σ,w=>∀u,Ext w u->floE P n ops σ0 w0 u fs [] (fun σ'=>K σ' u) σ
 | j::js,σ,w=>match ops[j]? with
  | some o=>match o.guard with
   | none=>∀u,Ext w u->opW P Γ σ o u fun v u'=>Ext u u'/\putK n o.dst v σ fun σ'=>floW P Γ n ops σ0 w0 fs K js σ' u'
   | some _=>False
  | none=>False
def setA(A:Array Bool)(l:List Nat):Array Bool:=l.foldl (fun A i=>A.setIfInBounds i true) A
def subs:List Nat->List (List Nat)
 | []=>[[]]
 | a::l=>subs l++(subs l).map (a :: ·)
def floA(ops:Array Oper)(A:Array Bool)(js G:List Nat):Bool:=
 (js.isEmpty&&G.isEmpty)||((Region.ready .any ops A).all (fun i=>js.head? == some i||G.contains i)&&(match js with
  | j::_=>(Region.ready .any ops A).contains j
  | []=>G.all fun i=>(Region.ready .any ops A).contains i))
def floC(ops:Array Oper)(A:Array Bool)(fs js:List Nat):Bool:=
 (Ji (js.length+1)).all fun k=>(subs fs).all fun D=>floA ops (setA A (js.take k++D)) (js.drop k) (fs.filter fun i=>!D.contains i)
def dstO(ops:Array Oper)(i:Nat):Option Nat:=(ops[i]?).bind (·.dst)
def floD(n:Nat)(ops:Array Oper)(σ:St)(l:List Nat):Bool:=
 decide (l.map (dstO ops)).Nodup&&l.all fun i=>match dstO ops i with
  | some t=>Nat.blt t n&&(get σ t).isNone
  | none=>false
section
variable(P:Program)(Γ:Env)(n:Nat)
def rgW(ops:Array Oper):RA->List Oper->(St->World->Prop)->St->World->Prop
 | .done,[],K,σ,w=>K σ w
 | .run r,o::os,K,σ,w=>match q37 ops σ o with
  | some true=>opW P Γ σ o w fun v w'=>putK n o.dst v σ fun σ'=>rgW ops r os K σ' w'
  | _=>False
 | .raw r,o::os,K,σ,w=>match q37 ops σ o with
  | some true=>opR P σ o w fun v w'=>putK n o.dst v σ fun σ'=>rgW ops r os K σ' w'
  | _=>False
 | .dyn z r,o::os,K,σ,w=>match q37 ops σ o with
  | some true=>opV P σ o z w fun v w'=>putK n o.dst v σ fun σ'=>rgW ops r os K σ' w'
  | _=>False
 | .skp r,o::os,K,σ,w=>match q37 ops σ o with
  | some false=>putK n o.dst undef σ fun σ'=>rgW ops r os K σ' w
  | _=>False
 | .spl t r1 r2,os,K,σ,w=>match get σ t with
  | some (.bool b)=>cnd b (rgW ops r1 os K ((t,.bool true)::σ) w) (rgW ops r2 os K ((t,.bool false)::σ) w)
  | _=>False
 | _,_,_,_,_=>False
def opP(ld:Addr->Value->Prop)(σ:St)(o:Oper)(K:Value->Prop):Prop:=
 match spW P σ o.op with
 | some T=>T K
 | none=>match o.op with
  | .load t x=>match ev σ x with
   | some (.pointer (some a))=>ldW P ld t a K
   | _=>False
  | _=>match qkt σ o.op.operands.toList with
   | false=>False
   | true=>match qj3 P (execOp (rho σ) o)with
    | some v=>K v
    | none=>False
def opQ(σ:St)(o:Oper)(K:Value->Prop):Prop:=
 match o.op with
 | .convert s d x=>match ev σ x with
  | some (.int _ n)=>match P.underlying s,P.underlying d with
   | some _,some (.int k)=>K (.int k (k.wrap n))
   | _,_=>False
  | _=>False
 | .binOp .add _ x y _=>match ev σ x,ev σ y with
  | some (.int k a),some (.int k' b)=>match decide (k=k')with
   | true=>K (.int k (k.wrap (a+b)))
   | false=>False
  | _,_=>False
 | _=>False
def qa2:Op->Bool
 | .load ..=>true
 | _=>false
def qd7(ops:Array Oper)(j:Nat):Bool:=
 match ops[j]? with
 | none=>true
 | some oj=>(Ji ops.size).any fun u=>!(Jj u j)&&match ops[u]? with
  | some ou=>qa2 ou.op && !(oj.after.toList.any fun e=>Region.binds .any e&&Jj e.on u)
  | none=>false
def q2q(ops:Array Oper)(listed:Array Bool)(l:List Nat):Bool:=Region.ready .any ops listed==l
def drW(ops:Array Oper):DA->(Addr->Value->Prop)->(World->Prop)->Bool->Array Bool->(St->World->Prop)->St->World->Prop
 | .done,_,_,_,listed,K,σ,w=>match q2q ops listed []with
  | true=>K σ w
  | false=>False
 | .pur i r,ld,S,ok,listed,K,σ,w=>match ops[i]? with
  | some o=>match(Region.ready .any ops listed).contains i&&Region.free .any ops listed i&&(ok || !qa2 o.op)with
   | true=>match q37 ops σ o with
    | some true=>opP P ld σ o fun v=>putK n o.dst v σ fun σ'=>drW ops r ld S ok (listed.setIfInBounds i true) K σ' w
    | _=>False
   | false=>False
  | none=>False
 | .prw i r,ld,S,ok,listed,K,σ,w=>match ops[i]? with
  | some o=>match(Region.ready .any ops listed).contains i&&Region.free .any ops listed i with
   | true=>match q37 ops σ o with
    | some true=>opQ P σ o fun v=>putK n o.dst v σ fun σ'=>drW ops r ld S ok (listed.setIfInBounds i true) K σ' w
    | _=>False
   | false=>False
  | none=>False
 | .skp i r,ld,S,ok,listed,K,σ,w=>match ops[i]? with
  | some o=>match(Region.ready .any ops listed).contains i&&Region.free .any ops listed i with
   | true=>match q37 ops σ o with
    | some false=>putK n o.dst undef σ fun σ'=>drW ops r ld S ok (listed.setIfInBounds i true) K σ' w
    | _=>False
   | false=>False
  | none=>False
 | .eff i r,ld,S,ok,listed,K,σ,w=>match ops[i]? with
  | some o=>match q2q ops listed [i]with
   | true=>match q37 ops σ o with
    | some true=>opW P Γ σ o w fun v w'=>match qd7 ops i with
     | true=>S w'/\putK n o.dst v σ fun σ'=>drW ops r ld S ok (listed.setIfInBounds i true) K σ' w'
     | false=>putK n o.dst v σ fun σ'=>drW ops r ld S false (listed.setIfInBounds i true) K σ' w'
    | _=>False
   | false=>False
  | none=>False
 | .dyn i z r,ld,S,ok,listed,K,σ,w=>match ops[i]? with
  | some o=>match q2q ops listed [i]with
   | true=>match q37 ops σ o with
    | some true=>opV P σ o z w fun v w'=>match qd7 ops i with
     | true=>S w'/\putK n o.dst v σ fun σ'=>drW ops r ld S ok (listed.setIfInBounds i true) K σ' w'
     | false=>putK n o.dst v σ fun σ'=>drW ops r ld S false (listed.setIfInBounds i true) K σ' w'
    | _=>False
   | false=>False
  | none=>False
 | .str i r,_,S,ok,listed,K,σ,w=>match ops[i]? with
  | some o=>match q2q ops listed [i]with
   | true=>match q37 ops σ o with
    | some true=>opW P Γ σ o w fun v w'=>∃S':World->Prop,S' w'/\(∀u,S' u->S u)/\putK n o.dst v σ fun σ'=>drW ops r (fun b v=>∀u,S' u->u.cell? b=some v) S' ok (listed.setIfInBounds i true) K σ' w'
    | _=>False
   | false=>False
  | none=>False
 | .two i r j r',ld,S,ok,listed,K,σ,w=>match q2q ops listed [i,j]with
  | true =>
   (match ops[i]? with
    | some o=>match q37 ops σ o with
     | some true=>opW P Γ σ o w fun v w'=>S w'/\putK n o.dst v σ fun σ'=>drW ops r ld S ok (listed.setIfInBounds i true) K σ' w'
     | _=>False
    | none=>False) /\
   (match ops[j]? with
    | some o=>match q37 ops σ o with
     | some true=>opW P Γ σ o w fun v w'=>S w'/\putK n o.dst v σ fun σ'=>drW ops r' ld S ok (listed.setIfInBounds j true) K σ' w'
     | _=>False
    | none=>False)
  | false=>False
 | .thr i r j r' k r'',ld,S,ok,listed,K,σ,w=>match q2q ops listed [i,j,k]with
  | true =>
   (match ops[i]? with
    | some o=>match q37 ops σ o with
     | some true=>opW P Γ σ o w fun v w'=>S w'/\putK n o.dst v σ fun σ'=>drW ops r ld S ok (listed.setIfInBounds i true) K σ' w'
     | _=>False
    | none=>False) /\
   (match ops[j]? with
    | some o=>match q37 ops σ o with
     | some true=>opW P Γ σ o w fun v w'=>S w'/\putK n o.dst v σ fun σ'=>drW ops r' ld S ok (listed.setIfInBounds j true) K σ' w'
     | _=>False
    | none=>False) /\
   (match ops[k]? with
    | some o=>match q37 ops σ o with
     | some true=>opW P Γ σ o w fun v w'=>S w'/\putK n o.dst v σ fun σ'=>drW ops r'' ld S ok (listed.setIfInBounds k true) K σ' w'
     | _=>False
    | none=>False)
  | false=>False
 | .tws i r j r',_,S,ok,listed,K,σ,w=>match q2q ops listed [i,j]with
  | true =>
   (match ops[i]? with
    | some o=>match q37 ops σ o with
     | some true=>opW P Γ σ o w fun v w'=>∃S':World->Prop,S' w'/\(∀u,S' u->S u)/\putK n o.dst v σ fun σ'=>drW ops r (fun b v=>∀u,S' u->u.cell? b=some v) S' ok (listed.setIfInBounds i true) K σ' w'
     | _=>False
    | none=>False) /\
   (match ops[j]? with
    | some o=>match q37 ops σ o with
     | some true=>opW P Γ σ o w fun v w'=>∃S':World->Prop,S' w'/\(∀u,S' u->S u)/\putK n o.dst v σ fun σ'=>drW ops r' (fun b v=>∀u,S' u->u.cell? b=some v) S' ok (listed.setIfInBounds j true) K σ' w'
     | _=>False
    | none=>False)
  | false=>False
 | .ths i r j r' k r'',_,S,ok,listed,K,σ,w=>match q2q ops listed [i,j,k]with
  | true =>
   (match ops[i]? with
    | some o=>match q37 ops σ o with
     | some true=>opW P Γ σ o w fun v w'=>∃S':World->Prop,S' w'/\(∀u,S' u->S u)/\putK n o.dst v σ fun σ'=>drW ops r (fun b v=>∀u,S' u->u.cell? b=some v) S' ok (listed.setIfInBounds i true) K σ' w'
     | _=>False
    | none=>False) /\
   (match ops[j]? with
    | some o=>match q37 ops σ o with
     | some true=>opW P Γ σ o w fun v w'=>∃S':World->Prop,S' w'/\(∀u,S' u->S u)/\putK n o.dst v σ fun σ'=>drW ops r' (fun b v=>∀u,S' u->u.cell? b=some v) S' ok (listed.setIfInBounds j true) K σ' w'
     | _=>False
    | none=>False) /\
   (match ops[k]? with
    | some o=>match q37 ops σ o with
     | some true=>opW P Γ σ o w fun v w'=>∃S':World->Prop,S' w'/\(∀u,S' u->S u)/\putK n o.dst v σ fun σ'=>drW ops r'' (fun b v=>∀u,S' u->u.cell? b=some v) S' ok (listed.setIfInBounds k true) K σ' w'
     | _=>False
    | none=>False)
  | false=>False
 | .flo fs js r,ld,S,ok,listed,K,σ,w=>match floC ops listed fs js&&floD n ops σ (fs++js)with
  | true=>(∀u u',Ext u u'->S u->S u')/\floX P ops σ fs/\floW P Γ n ops σ w fs (fun σ' u=>drW ops r ld S ok (setA listed (js++fs)) K σ' u) js σ w
  | false=>False
 | .spl t r1 r2,ld,S,ok,listed,K,σ,w=>match get σ t with
  | some (.bool b)=>cnd b (drW ops r1 ld S ok listed K ((t,.bool true)::σ) w) (drW ops r2 ld S ok listed K ((t,.bool false)::σ) w)
  | _=>False
end
def dep:DA->Nat
 | .done=>0
 | .pur _ r | .prw _ r | .skp _ r | .eff _ r | .dyn _ _ r | .str _ r=>dep r+1
 | .spl _ r1 r2=>max (dep r1) (dep r2)
 | .two _ r1 _ r2 | .tws _ r1 _ r2=>max (dep r1) (dep r2)+1
 | .thr _ r1 _ r2 _ r3 | .ths _ r1 _ r2 _ r3=>max (max (dep r1) (dep r2)) (dep r3)+1
 | .flo fs js r=>js.length+fs.length+dep r
theorem Agr.spl{n:Nat}{B:List Deferred}{σ:St}{a:Act}(ha:Agr n B σ a){t:Nat}{v:Value}(h:get σ t=some v):Agr n B ((t,v)::σ) a:=by
 refine⟨ha.1,ha.2.1,fun u x hu=>?_⟩
 rw[q3r]at hu
 by_cases htu:t=u
 ·subst htu;simp at hu;subst hu;exact ha.2.2 _ _ h
 ·simp[htu]at hu;exact ha.2.2 _ _ hu
section
variable{P:Program}{Γ:Env}{Pn:List PanicEntry->World->Prop}{n:Nat}{B:List Deferred}{r₀:Option Nat}{m:Nat}
def qbb(ops:Array Oper):Bool:=ops.toList.all fun o=>!q5e o.op
theorem q06{ops:Array Oper}(h:qbb ops=true){o:Oper}(ho:o∈ops):q5e o.op=false:=by
 unfold qbb at h
 grind
theorem qd8{σ:St}{a:Act}(ha:Agr n B σ a){o:Oper}(hs:q5e o.op=false){w:World}{K:VW}(h:opR P σ o w K)
  {next:Act->World->Prop} {Q:Exit->Act->World->Prop} (hnext:∀v w',K v w'->next (a.put o.dst v) w'):o.wp P a w next Q:=by
 unfold opR at h
 split at h
 ·exact h.elim
 ·rename_i hk
  have hcongr:execOp (rho σ) o=execOp a.eval o:=execOp_congr o (by intro cs b hb;rw[hb]at hs;cases hs) fun x hx=>ha.rho hk x (by simpa using hx)
  rw[hcongr]at h
  unfold Oper.wp
  split at h
  ·rename_i hr;rw[hr];exact hnext _ _ h
  ·rename_i hr;rw[hr];exact hnext _ _ h
  ·exact h.elim
theorem qbc(hΓ:EnvP P Pn Γ){ops:Array Oper}{tl:List Nat}{K:St->World->Prop}{Q:Exit->Act->World->Prop}(hQp:∀c a w,a.defers=B->Pn c w->Q (.panic c) a w) 
  (hK:∀σ a w,Agr n B σ a->K σ w->wpOpsIn (fen r₀) m P ops Q tl a w) :
  ∀(r:RA) (os:List Oper) (i:Nat) (σ:St) (a:Act) (w:World),(∀o∈os,q5e o.op=false)->(∀j,j<os.length->os[j]?=ops[i+j]?)->Agr n B σ a->rgW P Γ n ops r os K σ w ->
   wpOpsIn (fen r₀) m P ops Q (Jb i os.length++tl) a w:=by
 intro r
 have step:∀(o:Oper) (os:List Oper) (i:Nat),(∀j,j<(o::os).length->(o::os)[j]?=ops[i+j]?)->ops[i]?=some o/\∀j,j<os.length->os[j]?=ops[i+1+j]?:=by
  intro o os i h
  have h0:=h 0 og
  simp only[List.getElem?_cons_zero,Nat.add_zero]at h0
  refine⟨h0.symm,fun j hj=>?_⟩
  have:=h (j+1) (by simpa using hj)
  simp only[List.getElem?_cons_succ]at this
  rw[this,show i+1+j=i+(j+1) by omega]
 induction r with
 | done =>
  intro os i σ a w hso hos ha h
  cases os with
  | nil=>exact hK σ a w ha h
  | cons o os=>exact h.elim
 | run r ih =>
  intro os i σ a w hso hos ha h
  cases os with
  | nil=>exact h.elim
  | cons o os =>
   obtain⟨hi,hos'⟩:=step o os i hos
   have hmem:=hso o og
   have hso':∀o∈os,q5e o.op=false:=fun o ho=>hso o (by simp[ho])
   simp only[rgW]at h
   split at h
   ·rename_i hw
    have hwant:=q0n ha hw
    simp only[J1,J2,J5,wpOpsIn,hi,hwant,if_true]
    refine q4b hmem (q1a hΓ ha hmem h hQp fun v w' hv=>?_)
    obtain⟨σ',hσ',ha'⟩:=q0l hv ha
    exact ih os (i+1) σ' _ w' hso' hos' ha' hσ'
   ·exact h.elim
 | raw r ih =>
  intro os i σ a w hso hos ha h
  cases os with
  | nil=>exact h.elim
  | cons o os =>
   obtain⟨hi,hos'⟩:=step o os i hos
   have hmem:=hso o og
   have hso':∀o∈os,q5e o.op=false:=fun o ho=>hso o (by simp[ho])
   simp only[rgW]at h
   split at h
   ·rename_i hw
    have hwant:=q0n ha hw
    simp only[J1,J2,J5,wpOpsIn,hi,hwant,if_true]
    refine q4b hmem (qd8 ha hmem h fun v w' hv=>?_)
    obtain⟨σ',hσ',ha'⟩:=q0l hv ha
    exact ih os (i+1) σ' _ w' hso' hos' ha' hσ'
   ·exact h.elim
 | dyn z r ih =>
  intro os i σ a w hso hos ha h
  cases os with
  | nil=>exact h.elim
  | cons o os =>
   obtain⟨hi,hos'⟩:=step o os i hos
   have hmem:=hso o og
   have hso':∀o∈os,q5e o.op=false:=fun o ho=>hso o (by simp[ho])
   simp only[rgW]at h
   split at h
   ·rename_i hw
    have hwant:=q0n ha hw
    simp only[J1,J2,J5,wpOpsIn,hi,hwant,if_true]
    refine qd6 ha h fun v w' hv=>?_
    obtain⟨σ',hσ',ha'⟩:=q0l hv ha
    exact ih os (i+1) σ' _ w' hso' hos' ha' hσ'
   ·exact h.elim
 | skp r ih =>
  intro os i σ a w hso hos ha h
  cases os with
  | nil=>exact h.elim
  | cons o os =>
   obtain⟨hi,hos'⟩:=step o os i hos
   have hmem:=hso o og
   have hso':∀o∈os,q5e o.op=false:=fun o ho=>hso o (by simp[ho])
   simp only[rgW]at h
   split at h
   ·rename_i hw
    have hwant:=q0n ha hw
    simp only[J1,J2,J5,wpOpsIn,hi,hwant,Jm,if_false]
    obtain⟨σ',hσ',ha'⟩:=q0l h ha
    exact⟨fun _ _=>trivial,ih os (i+1) σ' _ w hso' hos' ha' hσ'⟩
   ·exact h.elim
 | spl t r1 r2 ih1 ih2 =>
  intro os i σ a w hso hos ha h
  simp only[rgW]at h
  split at h
  ·rename_i b hb
   cases b
   ·exact ih2 os i _ a w hso hos (ha.spl hb) h
   ·exact ih1 os i _ a w hso hos (ha.spl hb) h
  ·exact h.elim
theorem qlb(hΓ:EnvP P Pn Γ){ops:Array Oper}(hs:qbb ops=true){K:St->World->Prop}{Q:Exit->Act->World->Prop}(hQp:∀c a w,a.defers=B->Pn c w->Q (.panic c) a w) 
  (hK:∀σ a w,Agr n B σ a->K σ w->Q .normal a w) (r:RA) (os:List Oper) (i:Nat) (σ:St) (a:Act) (w:World) (hos:∀j,os[j]?=ops[i+j]?) (ha:Agr n B σ a) (h:rgW P Γ n ops r os K σ w) :
  wpOpsIn (fen r₀) m P ops Q (Jb i os.length) a w:=by
 have:=qbc (r₀:=r₀) (m:=m) (tl:=[]) (Q:=Q) hΓ hQp (fun σ a w ha hk=>hK σ a w ha hk) r os i σ a w (fun o ho=>by
  obtain⟨j,hj⟩:=List.getElem?_of_mem ho
  rw[hos]at hj
  exact q06 hs (Jn hj)) (fun j _=>hos j) ha h
 simpa using this
theorem qlc{ops:Array Oper}{ld:Addr->Value->Prop}{S:World->Prop}(hld:∀b v,ld b v->∀w,S w->w.cell? b=some v)
  {σ:St} {a:Act} (ha:Agr n B σ a) {o:Oper} (hs:q5e o.op=false) (hw:Region.wanted o (yielded ops a.tmps)=true) {K:Value->Prop} (h:opP P ld σ o K) :
  ∃v,K v/\YieldsIf P ops S o v a:=by
 unfold opP at h
 split at h
 ·rename_i T hT
  obtain⟨v,hv,hr⟩:=q85 (P:=P) ha hT h
  exact⟨v,hv,.inl ⟨hw,fun w _=>hr w⟩⟩
 ·split at h
  ·rename_i t x ho
   split at h
   ·rename_i b hx
    obtain⟨v,hv,hr⟩:=q87 (P:=P) (S:=S) hld h
    refine⟨v,hv,.inl ⟨hw,fun w hS=>?_⟩⟩
    simp only[execOp,ho,Instr.loadAt,ha.ev hx,Instr.sureAddr,Sem.run_bind,Sem.run_pure,Result.andThen_ok,hr w hS]
   ·exact h.elim
  ·split at h
   ·exact h.elim
   ·rename_i hk
    split at h
    ·rename_i v hv
     have hcongr:execOp (rho σ) o=execOp a.eval o:=execOp_congr o (by intro cs b hb;rw[hb]at hs;cases hs) fun x hx=>ha.rho hk x (by simpa using hx)
     rw[hcongr]at hv
     exact⟨v,h,.inl ⟨hw,fun w _=>q83 _ hv w⟩⟩
    ·exact h.elim
theorem qht{ops:Array Oper}{Q:Exit->Act->World->Prop}{S:World->Prop}{i:Nat}{o:Oper}{v:Value}{a:Act}(hi:ops[i]?=some o)(hs:q5e o.op=false)(hy:YieldsIf P ops S o v a)
  {K:Act->World->Prop} {w:World} (hS:S w) (h:K (a.put o.dst v) w):wpOpIn (fen r₀) m P ops Q i K a w:=by
 unfold wpOpIn
 simp only[hi]
 rcases hy with⟨hw,hv⟩|⟨hw,rfl⟩
 ·simp only[hw,if_true]
  refine⟨fun _ _=>trivial,?_⟩
  rw[Oper.semAt_eq _ a.eval o (by intro c hc;rw[hc]at hs;cases hs),hv w hS]
  exact h
 ·simp only[hw,Jm,if_false]
  exact⟨fun _ _=>trivial,h⟩
theorem qld{ops:Array Oper}{Q:Exit->Act->World->Prop}{S:World->Prop}{j:Nat}{oi oj:Oper}{v:Value}(hj:ops[j]?=some oj)(hap:oi.apart ops oj=true)
  (hsi:∀cs b,oi.op≠.select cs b) (hsj:q5e oj.op=false)
  (hQ:∀c d v a w,Q (.panic c) (Act.put a d v) w->Q (.panic c) a w) {K:Act->World->Prop} {a:Act} {w:World}
  (hy:YieldsIf P ops S oi v a) (h:wpOpIn (fen r₀) m P ops Q j K (a.put oi.dst v) w) :
  wpOpIn (fen r₀) m P ops Q j (fun a' w'=>YieldsIf P ops S oi v a'/\K (a'.put oi.dst v) w') a w:=by
 obtain⟨h1,h2,h3⟩:=Oper.apart_spec hap
 have hd:∀c,oj.op≠.defer c:=fun c hc=>by rw[hc]at hsj;cases hsj
 have hsj':∀cs b,oj.op≠.select cs b:=fun cs b hc=>by rw[hc]at hsj;cases hsj
 have keep:∀(a:Act),YieldsIf P ops S oi v a->∀u,YieldsIf P ops S oi v (a.put oj.dst u):=fun a hy u =>
  hy.of_same (execOp_put oi hsi a oj.dst u h3) (wanted_put oi a oj.dst u h3)
 unfold wpOpIn at *
 simp only[hj]at *
 rw[wanted_put oj a oi.dst v h1]at h
 split
 ·rename_i hw
  simp only[hw,if_true]at h
  unfold Oper.wpIn at *
  refine⟨fun _ _=>trivial,?_⟩
  have h:=h.2
  rw[Oper.semAt_eq _ _ oj hd,execOp_put oj hsj' a oi.dst v h1]at h
  rw[Oper.semAt_eq _ _ oj hd]
  generalize(execOp a.eval oj).run P w=r at *
  cases r with
  | ok x w' =>
   cases x<;>simp only[Oper.uponIn]at h ⊢
   case value u=>exact⟨keep a hy u,by rw[←Act.put_comm a v u h2];exact h⟩
   case skip=>exact⟨keep a hy _,by rw[←Act.put_comm a v undef h2];exact h⟩
   case defer d =>
    refine⟨(show YieldsIf P ops S oi v { a with defers:=d::a.defers } from hy.of_same rfl rfl).of_same (execOp_put oi hsi _ oj.dst undef h3) (wanted_put oi _ oj.dst undef h3),?_⟩
    rw[←Act.put_comm _ v undef h2,←Act.put_defers]
    exact h
   case enter f args =>
    refine⟨h.1,CallsIn.mono h.2 fun e w'' he=>?_⟩
    cases e with
    | returned u=>exact⟨keep a hy u,by rw[←Act.put_comm a v u h2];exact he⟩
    | panicked c=>grind
    | outgrown=>exact he
   case row row args=>exact⟨h.1,RowsIn.mono h.2 fun u w'' he=>⟨keep a hy u,by rw[←Act.put_comm a v u h2];exact he⟩⟩
   case round l f tmps assign body =>
    refine⟨h.1,RoundIn.mono h.2 fun e w'' he=>?_⟩
    cases e with
    | returned u=>exact⟨keep a hy u,by rw[←Act.put_comm a v u h2];exact he⟩
    | panicked c=>grind
    | outgrown=>exact he
  | halt x w' =>
   cases x<;>simp only[Oper.uponIn]at h ⊢
   grind
 ·rename_i hw
  simp only[hw]at h
  exact⟨fun _ _=>trivial,keep a hy _,by rw[←Act.put_comm a v undef h2];exact h.2⟩
def wpF(r₀:Option Nat)(m:Nat)(P:Program)(ops:Array Oper)(Q:Exit->Act->World->Prop):(World->Prop)->Nat->Array Bool->Act->World->Prop
 | _,0,listed,a,w=>Region.ready .any ops listed=[]/\Q .normal a w
 | S,f+1,listed,a,w =>
  (Region.ready .any ops listed=[]->Q .normal a w) /\
  ∀i∈Region.ready .any ops listed,wpOpIn (fen r₀) m P ops Q i (fun a' w'=>∃S':World->Prop,(qd7 ops i=true->S w->S' w')/\(∀u,S' u->S u)/\wpF r₀ m P ops Q S' f (listed.setIfInBounds i true) a' w') a w
theorem q4e{ops:Array Oper}{Q:Exit->Act->World->Prop}:∀(f:Nat) (S:World->Prop) (listed:Array Bool) (a:Act) (w:World),wpF r₀ m P ops Q S f listed a w->wpAnyIn (fen r₀) m P .any ops Q f listed a w
 | 0,_,_,_,_,h=>h
 | f+1,_,_,_,_,h=>⟨h.1,fun i hi=>wpOpIn_mono (fun a' w' h'=>let⟨S',_,_,h''⟩:=h';q4e f S' _ a' w' h'') (h.2 i hi)⟩
theorem qp6{ops:Array Oper}{S S':World->Prop}{o:Oper}{v:Value}{a:Act}(hy:YieldsIf P ops S o v a)(h:∀u,S' u->S u):YieldsIf P ops S' o v a:=by
 rcases hy with⟨hw,hv⟩|⟨hw,rfl⟩
 ·exact .inl ⟨hw,fun w hS=>hv w (h w hS)⟩
 ·exact .inr ⟨hw,rfl⟩
theorem qle{ops:Array Oper}{Q:Exit->Act->World->Prop}{T:(World->Prop)->World->Prop}{i:Nat}{oi:Oper}{v:Value}(hi:ops[i]?=some oi)(hs:qbb ops=true)(hQ:∀c d v a w,Q (.panic c) (Act.put a d v) w->Q (.panic c) a w)
  (hTm:∀(S S':World->Prop),(∀u,S' u->S u)->∀u,T S' u->T S u)
  (hT:∀(S S':World->Prop) j oj w w',ops[j]?=some oj->j≠i->(∀e∈oj.after,Region.binds .any e=true->e.on≠i)->T S w->(qd7 ops j=true->S w->S' w')->T S' w') :
  ∀(f:Nat) (S:World->Prop) (listed:Array Bool) (a:Act) (w:World),
   (∀j oj,ops[j]?=some oj->j≠i->listed.getD j true=false->(∀e∈oj.after,Region.binds .any e=true->e.on≠i)->oi.apart ops oj=true) ->
   i∈Region.ready .any ops listed->YieldsIf P ops (T S) oi v a->T S w ->
   wpF r₀ m P ops Q S f (listed.setIfInBounds i true) (a.put oi.dst v) w->wpF r₀ m P ops Q S (f+1) listed a w:=by
 have hsel:∀ {o:Oper},o∈ops->∀cs b,o.op≠.select cs b:=fun ho cs b hb=>by
  have:=q06 hs ho
  rw[hb]at this;cases this
 intro f
 induction f with
 | zero =>
  intro S listed a w _ hr hy hTw H
  refine⟨fun h=>oz,fun j hj=>?_⟩
  by_cases hji:j=i
  ·subst hji;exact qht hi (q06 hs (Jn hi)) hy hTw ⟨S,fun _ h=>h,fun _ h=>h,H⟩
  ·have:=ready_mono hj hji
   rw[H.1]at this
   cases this
 | succ f ih =>
  intro S listed a w hfree hr hy hTw H
  refine⟨fun h=>oz,fun j hj=>?_⟩
  by_cases hji:j=i
  ·subst hji;exact qht hi (q06 hs (Jn hi)) hy hTw ⟨S,fun _ h=>h,fun _ h=>h,H⟩
  ·have h1:=H.2 j (ready_mono hj hji)
   obtain⟨hjun,oj,hoj,hall⟩:=mem_ready.1 hj
   have hnot:∀e∈oj.after,Region.binds .any e=true->e.on≠i:=fun e he hb heq=>by
    have h1:=hall e he hb
    have h0:=(mem_ready.1 hr).1
    grind
   have h2:=qld hoj (hfree j oj hoj hji hjun hnot) (hsel (Jn hi)) (q06 hs (Jn hoj)) hQ hy h1
   refine wpOpIn_mono (fun a' w' h3=>?_) h2
   obtain⟨h4,S',h5,h6,h7⟩:=h3
   refine⟨S',h5,h6,ih S' (listed.setIfInBounds j true) a' w' ?_ (ready_mono hr (Ne.symm hji)) (qp6 h4 (hTm S S' h6)) (hT S S' j oj w w' hoj hji hnot hTw h5) ?_⟩
   ·intro k ok hk hki hun hno
    refine hfree k ok hk hki ?_ hno
    by_cases hjk:j=k
    ·grind
    ·simp_all
   ·rw[Array.setIfInBounds_comm _ _ hji]
    exact h7
theorem qj8{ops:Array Oper}{i j:Nat}{oi oj:Oper}(hi:ops[i]?=some oi)(hl:qa2 oi.op=true)(hj:ops[j]?=some oj)(hne:j≠i)
  (hno:∀e∈oj.after,Region.binds .any e=true->e.on≠i):qd7 ops j=true:=by
 unfold qd7
 rw[hj]
 simp only[List.any_eq_true,Jg]
 refine⟨i,(Array.getElem?_eq_some_iff.1 hi).1,?_⟩
 rw[hi]
 have h1:Jj i j=false:=by
  cases hb:Jj i j with
  | false=>rfl
  | true=>simp_all
 simp_all
theorem q7t{ops:Array Oper}{Q:Exit->Act->World->Prop}{S:World->Prop}{T:(World->Prop)->World->Prop}{i:Nat}{oi:Oper}{v:Value}{f:Nat}{listed:Array Bool}{a:Act}{w:World}(hi:ops[i]?=some oi)(hs:qbb ops=true)(hQ:∀c d v a w,Q (.panic c) (Act.put a d v) w->Q (.panic c) a w)
  (hTm:∀(S S':World->Prop),(∀u,S' u->S u)->∀u,T S' u->T S u)
  (hT:∀(S S':World->Prop) j oj w w',ops[j]?=some oj->j≠i->(∀e∈oj.after,Region.binds .any e=true->e.on≠i)->T S w->(qd7 ops j=true->S w->S' w')->T S' w')
  (hf:Region.free .any ops listed i=true) (hr:(Region.ready .any ops listed).contains i=true) (hy:YieldsIf P ops (T S) oi v a) (hTw:T S w)
  (h:wpF r₀ m P ops Q S f (listed.setIfInBounds i true) (a.put oi.dst v) w):wpF r₀ m P ops Q S (f+1) listed a w:=
 qle hi hs hQ hTm hT f S listed a w (Region.free_spec hi hf) (by simpa using hr) hy hTw h
theorem qp7{ops:Array Oper}{Q:Exit->Act->World->Prop}{S:World->Prop}{listed:Array Bool}{a:Act}{w:World}(hr:Region.ready .any ops listed=[])(h:Q .normal a w):∀f,wpF r₀ m P ops Q S f listed a w
 | 0=>⟨hr,h⟩
 | _+1=>⟨fun _=>h,by rw[hr];simp⟩
theorem q5f{ops:Array Oper}{Q:Exit->Act->World->Prop}{S:World->Prop}{rs:List Nat}{f:Nat}{listed:Array Bool}{a:Act}{w:World}(hr:Region.ready .any ops listed=rs)(hne:rs≠[])
  (h:∀i∈rs,wpOpIn (fen r₀) m P ops Q i (fun a' w'=>∃S':World->Prop,(qd7 ops i=true->S w->S' w')/\(∀u,S' u->S u)/\wpF r₀ m P ops Q S' f (listed.setIfInBounds i true) a' w') a w):wpF r₀ m P ops Q S (f+1) listed a w:=
 ⟨fun h0=>absurd (hr▸h0) hne,hr▸h⟩
theorem qsz{ops:Array Oper}{ld:Addr->Value->Prop}{σ:St}{a:Act}(ha:Agr n B σ a){o:Oper}(hs:q5e o.op=false)(hl:qa2 o.op=false)(hw:Region.wanted o (yielded ops a.tmps)=true){K:Value->Prop}(h:opP P ld σ o K) :
  ∃v,K v/\YieldsIf P ops (fun _=>True) o v a:=by
 unfold opP at h
 split at h
 ·rename_i T hT
  obtain⟨v,hv,hr⟩:=q85 (P:=P) ha hT h
  exact⟨v,hv,.inl ⟨hw,fun w _=>hr w⟩⟩
 ·split at h
  ·rename_i t x ho
   rw[ho]at hl
   cases hl
  ·split at h
   ·exact h.elim
   ·rename_i hk
    split at h
    ·rename_i v hv
     have hcongr:execOp (rho σ) o=execOp a.eval o:=execOp_congr o (by intro cs b hb;rw[hb]at hs;cases hs) fun x hx=>ha.rho hk x (by simpa using hx)
     rw[hcongr]at hv
     exact⟨v,h,.inl ⟨hw,fun w _=>q83 _ hv w⟩⟩
    ·exact h.elim
theorem qt0{ops:Array Oper}{σ:St}{a:Act}(ha:Agr n B σ a){o:Oper}(hw:Region.wanted o (yielded ops a.tmps)=true){K:Value->Prop}(h:opQ P σ o K) :
  ∃v,K v/\YieldsIf P ops (fun _=>True) o v a:=by
 unfold opQ at h
 split at h
 ·rename_i s d x ho
  split at h
  ·rename_i k m hx
   split at h
   ·rename_i ds k' hs hd
    refine⟨_,h,.inl ⟨hw,fun w _=>?_⟩⟩
    simp[execOp,ho,ha.ev hx,convert,run_underlying hs,run_underlying hd,Conv.intToInt]
   ·exact h.elim
  ·exact h.elim
 ·rename_i t x y yt ho
  split at h
  ·rename_i k a' k' b' hx hy
   split at h
   ·rename_i hk
    have hk:=of_decide_eq_true hk
    subst hk
    refine⟨_,h,.inl ⟨hw,fun w _=>?_⟩⟩
    have hg:(eqGuard .add t x y (.int k a') (.int k b')).run P w=.ok () w:=q1r .add t x y _ _ og og
    simp[execOp,ho,ha.ev hx,ha.ev hy,hg,binOp,Op.intArith]
   ·exact h.elim
  ·exact h.elim
 ·exact h.elim
theorem q7u:∀(l:List Nat) (A:Array Bool) (i:Nat),(setA A l).getD i true=(A.getD i true||decide (i∈l))
 | [],A,i=>by simp[setA]
 | a::l,A,i=>by
  have ih:=q7u l (A.setIfInBounds a true) i
  unfold setA at ih ⊢
  rw[List.foldl_cons,ih]
  by_cases h:a=i
  ·simp_all
  ·rw[getD_set_ne true h]
   grind
theorem q8b:∀(l:List Nat) (A:Array Bool),(setA A l).size=A.size
 | [],A=>rfl
 | a::l,A=>by
  have ih:=q8b l (A.setIfInBounds a true)
  unfold setA at ih ⊢
  grind
theorem qlf{A B:Array Bool}(hs:A.size=B.size)(h:∀i,A.getD i true=B.getD i true):A=B:=by
 apply Array.ext hs
 intro i h1 h2
 have:=h i
 simp_all
theorem qhu{A:Array Bool}{l m:List Nat}{j:Nat}(h:∀i,i∈m ↔ i∈l\/i=j):(setA A l).setIfInBounds j true=setA A m:=
 qlf (by rw[q8b,Array.size_setIfInBounds,q8b]) fun i=>by
  have e:((setA A l).setIfInBounds j true).getD i true=((setA A l).getD i true||decide (i∈[j])):=q7u [j] (setA A l) i
  rw[e,q7u,q7u]
  grind
theorem q8c(d:Nat->Bool):∀l:List Nat,l.filter d∈subs l
 | []=>by simp[subs]
 | a::l=>by
  have ih:=q8c d l
  unfold subs
  grind
theorem qt1{σ:St}{o:Oper}{w:World}{K:VW}(h:opR P σ o w K):∃v w',K v w'/\(∀K':VW,opR P σ o w K'->K' v w')/\opR P σ o w fun x y=>x=v/\y=w':=by
 unfold opR at h ⊢
 grind
theorem qlg{n t:Nat}{v:Value}{σ:St}{K:St->Prop}(h:putK n (some t) v σ K)(ht:t<n):K ((t,v)::σ):=by
 unfold putK at h
 grind
def Ld(P:Program)(ops:Array Oper)(σ0:St)(w0:World)(i:Nat)(u0:World)(a:Act)(u:World):Prop:=
 ∃o t v u1,ops[i]?=some o/\o.dst=some t/\Ext w0 u0/\(∀K:VW,opR P σ0 o u0 K->K v u1)/\ExtL u0 u1/\Ext u1 u/\a.tmps[t]?=some v
theorem qlh{a:Act}{t t':Nat}{v v':Value}(h:a.tmps[t]?=some v)(hne:t'≠t):(a.put (some t') v').tmps[t]?=some v:=by
 simp only[Act.put,Array.getElem?_setIfInBounds,if_neg hne]
 exact h
theorem qp8{a:Act}{t:Nat}{v:Value}(h:a.tmps[t]?=some v):a.put (some t) v=a:=by
 have:a.tmps.setIfInBounds t v=a.tmps:=oz
 unfold Act.put
 simp only[this]
theorem q6t{ops:Array Oper}{σ0:St}{w0 u:World}{a:Act}{KK:St->Prop}{ρ:Nat->World}:∀(l:List Nat) (bs:List Nat) (σ:St),l.Nodup->(∀i∈l,Ld P ops σ0 w0 i (ρ i) a u)->(∀i∈l,∀k∈l,i≠k->(ρ i).heap.size≠(ρ k).heap.size)->(∀i∈l,ninL (ρ i).heap.size bs)->floE P n ops σ0 w0 u l bs KK σ->Agr n B σ a->∃σ',KK σ'/\Agr n B σ' a
 | [],_,σ,_,_,_,_,h,ha=>⟨σ,h,ha⟩
 | i::l,bs,σ,hn,hl,hne,hb,h,ha=>by
  obtain⟨o,t,v,u1,ho,hd,h0,hr,_,h1,hv⟩:=hl i og
  unfold floE at h
  rw[ho]at h
  have h2:=hr _ (h (ρ i) h0 (hb i og)) h1
  obtain⟨σ',h3,ha'⟩:=q0l h2 ha
  rw[hd,qp8 hv]at ha'
  rw[List.nodup_cons]at hn
  refine q6t l _ σ' hn.2 (fun i hi=>hl i (by simp[hi])) (fun i hi k hk=>hne i (by simp[hi]) k (by simp[hk])) (fun k hk x hx=>?_) h3 ha'
  rcases J0.1 hx with rfl|hx
  ·grind
  ·exact hb k (by simp[hk]) x hx
theorem qhv{ops:Array Oper}{σ:St}:∀ {l:List Nat},floX P ops σ l->∀i∈l,∃o,ops[i]?=some o/\o.guard=none/\∀u,opR P σ o u fun _ u'=>ExtL u u'
 | a::l,h,i,hi=>by
  obtain⟨h1,h2⟩:=h
  rcases J0.1 hi with rfl|hi
  ·grind
  ·exact qhv h2 i hi
theorem q1i{o:Oper}(h:o.guard=none)(y:Nat->Option Bool):Region.wanted o y=true:=by
 unfold Region.wanted
 rw[h]
theorem nodup_of_map{l:List Nat}{g:Nat->Option Nat}(h:(l.map g).Nodup){i j:Nat}(hi:i∈l)(hj:j∈l)(e:g i=g j):i=j:=by
 induction l with
 | nil=>cases hi
 | cons a l ih=>grind
theorem qp9{ops:Array Oper}{σ:St}{l m:List Nat}(h:floD n ops σ (l++m)=true){i t:Nat}(hi:i∈l)(ht:dstO ops i=some t):get σ t=none:=by
 unfold floD at h
 simp only[Jk,J6]at h
 have:=h.2 i (by simp[hi])
 simp_all
theorem qli(hΓ:EnvP P Pn Γ){ops:Array Oper}(hs:qbb ops=true){Q:Exit->Act->World->Prop}(hQp:∀c a w,a.defers=B->Pn c w->Q (.panic c) a w){S:World->Prop}{fs js0:List Nat}{A:Array Bool}{σ0:St}{w0:World}{ok:Bool}{dr:Nat}{KK:St->World->Prop}
  (hC:floC ops A fs js0=true) (hD:floD n ops σ0 (fs++js0)=true) (hX:floX P ops σ0 fs) (hS:∀u u',Ext u u'->S u->S u')
  (hL:∀σ a u f,Agr n B σ a->(ok=true->S u)->KK σ u->dr<=f->wpF r₀ m P ops Q S f (setA A (js0++fs)) a u) :
  ∀(f:Nat) (js pre:List Nat) (d:Nat->Bool) (ρ:Nat->World) (σ:St) (a:Act) (w u:World),pre++js=js0->js.length+(fs.filter (fun i=>!d i)).length+dr<=f->Agr n B σ a->Agr n B σ0 a->Ext w0 w->Ext w u->(ok=true->S u) ->
   (∀i∈fs,∀t,dstO ops i=some t->get σ t=none)->(∀i∈fs,d i=true->Ld P ops σ0 w0 i (ρ i) a u)->(∀i∈fs,∀k∈fs,d i=true->d k=true->i≠k->(ρ i).heap.size≠(ρ k).heap.size)->floW P Γ n ops σ0 w0 fs KK js σ w->wpF r₀ m P ops Q S f (setA A (pre++fs.filter d)) a u:=by
 unfold floD at hD
 simp only[Jk,decide_eq_true_eq,J6]at hD
 obtain⟨hD1,hD2⟩:=hD
 have dst:∀i∈fs++js0,∀o,ops[i]?=some o->∃t,o.dst=some t/\t<n/\get σ0 t=none/\dstO ops i=some t:=fun i hi o ho=>by
  have h:=hD2 i hi
  have e:dstO ops i=o.dst:=by unfold dstO;rw[ho];rfl
  rw[e]at h
  split at h
  ·simp_all
  ·cases h
 have keepσ:∀ {σ:St} {a:Act} {t:Nat} {v:Value},Agr n B σ a->t<n->get σ t=none->Agr n B σ (a.put (some t) v):=fun {σ a t v} ha ht hg=>by
  refine⟨by simp[Act.put,ha.1],by simp[Act.put,ha.2.1],fun x y hx=>?_⟩
  refine qlh (ha.2.2 x y hx) fun e=>?_
  subst e
  grind
 have hfn:fs.Nodup:=by
  rw[J9,Jc]at hD1
  exact(List.pairwise_map.1 hD1.1).imp fun h e=>h (by rw[e])
 have chk:∀(pre js:List Nat) (d:Nat->Bool),pre++js=js0->floA ops (setA A (pre++fs.filter d)) js (fs.filter fun i=>!d i)=true:=fun pre js d e=>by
  unfold floC at hC
  simp only[J6,Jg]at hC
  have h:=hC pre.length (by rw[←e,List.length_append];omega) _ (q8c d fs)
  rw[←e,List.take_left,List.drop_left]at h
  have e2:(fs.filter fun i=>!(fs.filter d).contains i)=fs.filter fun i=>!d i:=by
   apply Jd
   grind
  grind
 intro f
 induction f with
 | zero =>
  intro js pre d ρ σ a w u e hf ha ha0 h0 h1 hSu hσ hl hne h
  have hj:js=[]:=J8.1 oo
  subst hj
  have hg:∀i∈fs,d i=true:=fun i hi=>by
   have:fs.filter (fun i=>!d i)=[]:=J8.1 oo
   grind
  have hfd:fs.filter d=fs:=Ja.2 hg
  rw[hfd]
  rw[Je]at e
  subst e
  unfold floW at h
  obtain⟨σ',hk,ha'⟩:=q6t fs [] σ hfn (fun i hi=>hl i hi (hg i hi)) (fun i hi k hk=>hne i hi k hk (hg i hi) (hg k hk)) (fun _ _ _ hx=>by cases hx) (h u h1) ha
  grind
 | succ f ih =>
  intro js pre d ρ σ a w u e hf ha ha0 h0 h1 hSu hσ hl hne h
  by_cases hend:js=[]/\fs.filter (fun i=>!d i)=[]
  ·obtain⟨rfl,hg0⟩:=hend
   have hg:∀i∈fs,d i=true:=fun i hi=>by
    have:=List.filter_eq_nil_iff.1 hg0 i hi
    simpa using this
   have hfd:fs.filter d=fs:=Ja.2 hg
   rw[hfd]
   rw[Je]at e
   subst e
   unfold floW at h
   obtain⟨σ',hk,ha'⟩:=q6t fs [] σ hfn (fun i hi=>hl i hi (hg i hi)) (fun i hi k hk=>hne i hi k hk (hg i hi) (hg k hk)) (fun _ _ _ hx=>by cases hx) (h u h1) ha
   grind
  have hc:=chk pre js d e
  unfold floA at hc
  have hnE:(js.isEmpty&&(fs.filter fun i=>!d i).isEmpty)=false:=by
   cases hh:(js.isEmpty&&(fs.filter fun i=>!d i).isEmpty)with
   | false=>rfl
   | true =>
    simp only[Jk,List.isEmpty_iff]at hh
    exact absurd hh hend
  rw[hnE,Bool.false_or]at hc
  simp only[Jk,J6,Jl,beq_iff_eq,List.contains_iff_mem]at hc
  obtain⟨hc1,hc2⟩:=hc
  refine⟨fun hr=>?_,fun i hi=>?_⟩
  ·exfalso
   rw[hr]at hc2
   cases js with
   | cons j js=>simp at hc2
   | nil =>
    cases hg:fs.filter (fun i=>!d i)with
    | nil=>exact hend ⟨rfl,hg⟩
    | cons i G=>rw[hg]at hc2;simp at hc2
  ·by_cases hig:i∈fs.filter fun i=>!d i
   ·obtain⟨hif,hdi⟩:=Jf.1 hig
    have hdi:d i=false:=by simpa using hdi
    obtain⟨o,ho,hg,hx⟩:=qhv hX i hif
    obtain⟨t,ht,htn,htg,hti⟩:=dst i (by simp[hif]) o ho
    obtain⟨v,u1,hE,hK,hR⟩:=qt1 (hx u)
    simp only[wpOpIn,ho,q1i hg,if_true]
    refine q4b (q06 hs (Jn ho)) (qd8 ha0 (q06 hs (Jn ho)) hR fun v' w' hv=>?_)
    obtain⟨rfl,rfl⟩:=hv
    refine⟨S,fun _ hSu=>hS u _ hE.1 hSu,fun _ h=>h,?_⟩
    have hset:(setA A (pre++fs.filter d)).setIfInBounds i true=setA A (pre++fs.filter fun x=>d x||x==i):=qhu fun x=>by
     simp only[J4,Jf,Jl,beq_iff_eq]
     constructor
     ·grind
     ·grind
    rw[hset]
    have hcount:(fs.filter fun x=>!(d x||x==i)).length<(fs.filter fun x=>!d x).length:=by
     have e1:(fs.filter fun x=>!(d x||x==i))=(fs.filter fun x=>!d x).filter fun x=>!(x==i):=by
      rw[List.filter_filter]
      apply Jd
      intro x _
      grind
     rw[e1]
     refine List.length_filter_lt_length_iff_exists.2 ⟨i,hig,og⟩
    have hkeep:∀ {x:Nat},x∈fs->x≠i->∀o',ops[x]?=some o'->o'.dst≠some t:=fun {x} hx hxi o' ho' e'=>by
     obtain⟨t',h1',_,_,h2'⟩:=dst x (by simp[hx]) o' ho'
     rw[e']at h1'
     cases h1'
     exact hxi (nodup_of_map hD1 (by simp[hx]) (by simp[hif]) (h2'.trans hti.symm))
    rw[ht]
    refine ih js pre _ (fun x=>if x=i then u else ρ x) σ _ w _ e oo ?_ (keepσ ha0 htn htg) h0 (h1.trans hE.1) (fun h=>hS u _ hE.1 (hSu h)) hσ ?_ ?_ h
    ·exact keepσ ha htn (hσ i hif t hti)
    ·intro x hx hdx
     by_cases hxi:x=i
     ·subst hxi
      rw[if_pos rfl]
      exact⟨o,t,_,_,ho,ht,h0.trans h1,hK,hE,Ext.refl,by simp[Act.put,ha0.1,htn]⟩
     ·have hdx:d x=true:=oz
      rw[if_neg hxi]
      obtain⟨o',t',v',u1',ho',ht',e0,hk',e2,e1,hv'⟩:=hl x hx hdx
      exact⟨o',t',v',u1',ho',ht',e0,hk',e2,e1.trans hE.1,qlh hv' fun e'=>hkeep hx hxi o' ho' (by rw[ht',e'])⟩
    ·have hold:∀x∈fs,d x=true->(ρ x).heap.size<u.heap.size:=fun x hx hdx=>by
      obtain⟨_,_,_,u1',_,_,_,_,e2,e1,_⟩:=hl x hx hdx
      exact Nat.lt_of_lt_of_le e2.2 e1.1
     intro x hx k hk hdx hdk hxk
     by_cases hxi:x=i<;>by_cases hki:k=i
     ·omega
     ·grind
     ·grind
     ·grind
   ·have hh:js.head?=some i:=(hc1 i hi).resolve_right hig
    cases js with
    | nil=>cases hh
    | cons j js =>
     cases hh
     unfold floW at h
     split at h
     ·rename_i o ho
      split at h
      ·rename_i hg
       have hjm:i∈fs++js0:=by rw[←e];simp
       obtain⟨t,ht,htn,htg,hti⟩:=dst i hjm o ho
       simp only[wpOpIn,ho,q1i hg,if_true]
       refine q4b (q06 hs (Jn ho)) (q1a hΓ ha (q06 hs (Jn ho)) (h u h1) hQp fun v u' hv=>?_)
       obtain⟨hE,hv⟩:=hv
       rw[ht]at hv ⊢
       have hσ':=qlg hv htn
       have ha':=ha.put htn v
       refine⟨S,fun _ hSu=>hS u _ hE hSu,fun _ h=>h,?_⟩
       have hset:(setA A (pre++fs.filter d)).setIfInBounds i true=setA A ((pre++[i])++fs.filter d):=qhu fun x=>by
        simp only[J4,J3]
        constructor
        ·grind
        ·grind
       rw[hset]
       have hif:i∉fs:=fun hif=>by
        have hnd:=hD1
        rw[←e,J9,Jc]at hnd
        grind
       refine ih js (pre++[i]) d ρ _ _ u' u' (by simpa using e) (by simp only[J1]at hf;omega) ha' (keepσ ha0 htn htg) ((h0.trans h1).trans hE) Ext.refl (fun h=>hS u _ hE (hSu h)) ?_ ?_ hne hσ'
       ·intro x hx t' ht'
        rw[q3r,if_neg,hσ x hx t' ht']
        grind
       intro x hx hdx
       obtain⟨o',t',v',u1',ho',ht',e0,hk',e2,e1,hv'⟩:=hl x hx hdx
       refine⟨o',t',v',u1',ho',ht',e0,hk',e2,e1.trans hE,qlh hv' fun e'=>?_⟩
       obtain⟨t2,h2,_,_,h3⟩:=dst x (by simp[hx]) o' ho'
       rw[ht']at h2
       cases h2
       have hxi:x=i:=nodup_of_map hD1 (by simp[hx]) hjm (by rw[h3,hti,e'])
       exact hif (hxi▸hx)
      ·exact h.elim
     ·exact h.elim
theorem qd9(hΓ:EnvP P Pn Γ){ops:Array Oper}(hs:qbb ops=true) 
  {K:St->World->Prop} {Q:Exit->Act->World->Prop} (hQ:∀c d v a w,Q (.panic c) (Act.put a d v) w->Q (.panic c) a w) (hQp:∀c a w,a.defers=B->Pn c w->Q (.panic c) a w) (hK:∀σ a w,Agr n B σ a->K σ w->Q .normal a w) :
  ∀(r:DA) (ld:Addr->Value->Prop) (S:World->Prop),(∀b v,ld b v->∀w,S w->w.cell? b=some v)->∀(ok:Bool) (listed:Array Bool) (σ:St) (a:Act) (w:World),(ok=true->S w)->Agr n B σ a->drW P Γ n ops r ld S ok listed K σ w->∀f,dep r<=f->wpF r₀ m P ops Q S f listed a w:=by
 intro r
 induction r with
 | done =>
  intro ld S hld ok listed σ a w hS ha h f _
  simp only[drW]at h
  split at h
  ·rename_i hr
   exact qp7 (by simpa [q2q]using hr) (hK σ a w ha h) _
  ·exact h.elim
 | pur i r ih =>
  intro ld S hld ok listed σ a w hS ha h f hf
  simp only[drW]at h
  split at h
  ·rename_i o ho
   split at h
   ·rename_i hrf
    simp only[Jk,Jl,Bool.not_eq_true']at hrf
    obtain⟨⟨hr1,hr2⟩,hok⟩:=hrf
    split at h
    ·rename_i hw
     have hwant:=q0n ha hw
     simp only[dep]at hf
     obtain⟨f',rfl⟩:∃f',f=f'+1:=⟨f-1,oo⟩
     cases hl:qa2 o.op with
     | true =>
      have hokt:ok=true:=by
       rcases hok with h|h
       ·exact h
       ·rw[hl]at h;cases h
      obtain⟨v,hv,hy⟩:=qlc (ops:=ops) hld ha (q06 hs (Jn ho)) hwant h
      obtain⟨σ',hσ',ha'⟩:=q0l hv ha
      exact q7t (T:=fun S=>S) ho hs hQ (fun _ _ h u hu=>h u hu) (fun _ _ j oj w w' hj hne hno hT hn=>hn (qj8 ho hl hj hne hno) hT) hr2 hr1 hy (hS hokt) (ih ld S hld ok _ σ' _ w hS ha' hσ' f' oo)
     | false =>
      obtain⟨v,hv,hy⟩:=qsz (ops:=ops) ha (q06 hs (Jn ho)) hl hwant h
      obtain⟨σ',hσ',ha'⟩:=q0l hv ha
      exact q7t (T:=fun _ _=>True) ho hs hQ (fun _ _ _ _ _=>trivial) (fun _ _ _ _ _ _ _ _ _ _ _=>trivial) hr2 hr1 hy trivial (ih ld S hld ok _ σ' _ w hS ha' hσ' f' oo)
    ·exact h.elim
   ·exact h.elim
  ·exact h.elim
 | prw i r ih =>
  intro ld S hld ok listed σ a w hS ha h f hf
  simp only[drW]at h
  split at h
  ·rename_i o ho
   split at h
   ·rename_i hrf
    simp only[Jk]at hrf
    split at h
    ·rename_i hw
     have hwant:=q0n ha hw
     simp only[dep]at hf
     obtain⟨f',rfl⟩:∃f',f=f'+1:=⟨f-1,oo⟩
     obtain⟨v,hv,hy⟩:=qt0 (ops:=ops) ha hwant h
     obtain⟨σ',hσ',ha'⟩:=q0l hv ha
     exact q7t (T:=fun _ _=>True) ho hs hQ (fun _ _ _ _ _=>trivial) (fun _ _ _ _ _ _ _ _ _ _ _=>trivial) hrf.2 hrf.1 hy trivial (ih ld S hld ok _ σ' _ w hS ha' hσ' f' oo)
    ·exact h.elim
   ·exact h.elim
  ·exact h.elim
 | skp i r ih =>
  intro ld S hld ok listed σ a w hS ha h f hf
  simp only[drW]at h
  split at h
  ·rename_i o ho
   split at h
   ·rename_i hrf
    simp only[Jk]at hrf
    split at h
    ·rename_i hw
     have hwant:=q0n ha hw
     obtain⟨σ',hσ',ha'⟩:=q0l h ha
     simp only[dep]at hf
     obtain⟨f',rfl⟩:∃f',f=f'+1:=⟨f-1,oo⟩
     exact q7t (T:=fun _ _=>True) (v:=undef) ho hs hQ (fun _ _ _ _ _=>trivial) (fun _ _ _ _ _ _ _ _ _ _ _=>trivial) hrf.2 hrf.1 (.inr ⟨hwant,rfl⟩) trivial (ih ld S hld ok _ σ' _ w hS ha' hσ' f' oo)
    ·exact h.elim
   ·exact h.elim
  ·exact h.elim
 | eff i r ih =>
  intro ld S hld ok listed σ a w hS ha h f hf
  simp only[drW]at h
  split at h
  ·rename_i o ho
   split at h
   ·rename_i hr
    split at h
    ·rename_i hw
     have hwant:=q0n ha hw
     simp only[dep]at hf
     obtain⟨f',rfl⟩:∃f',f=f'+1:=⟨f-1,oo⟩
     refine q5f (rs:=[i]) (by simpa [q2q]using hr) og fun j hj=>?_
     simp only[J3]at hj
     subst hj
     simp only[wpOpIn,ho,hwant,if_true]
     refine q4b (q06 hs (Jn ho)) (q1a hΓ ha (q06 hs (Jn ho)) h hQp fun v w' hv=>?_)
     split at hv
     ·obtain⟨hS',hv⟩:=hv
      obtain⟨σ',hσ',ha'⟩:=q0l hv ha
      exact⟨S,fun _ _=>hS',fun _ h=>h,ih ld S hld ok _ σ' _ w' (fun _=>hS') ha' hσ' f' oo⟩
     ·rename_i hn
      obtain⟨σ',hσ',ha'⟩:=q0l hv ha
      exact⟨S,fun h=>(by rw[hn]at h;cases h),fun _ h=>h,ih ld S hld false _ σ' _ w' (fun h=>by cases h) ha' hσ' f' oo⟩
    ·exact h.elim
   ·exact h.elim
  ·exact h.elim
 | str i r ih =>
  intro ld S hld ok listed σ a w hS ha h f hf
  simp only[drW]at h
  split at h
  ·rename_i o ho
   split at h
   ·rename_i hr
    split at h
    ·rename_i hw
     have hwant:=q0n ha hw
     simp only[dep]at hf
     obtain⟨f',rfl⟩:∃f',f=f'+1:=⟨f-1,oo⟩
     refine q5f (rs:=[i]) (by simpa [q2q]using hr) og fun j hj=>?_
     simp only[J3]at hj
     subst hj
     simp only[wpOpIn,ho,hwant,if_true]
     refine q4b (q06 hs (Jn ho)) (q1a hΓ ha (q06 hs (Jn ho)) h hQp fun v w' hv=>?_)
     obtain⟨S',hS',hSS,hv⟩:=hv
     obtain⟨σ',hσ',ha'⟩:=q0l hv ha
     exact⟨S',fun _ _=>hS',hSS,ih _ S' (fun b v hb u hu=>hb u hu) ok _ σ' _ w' (fun _=>hS') ha' hσ' f' oo⟩
    ·exact h.elim
   ·exact h.elim
  ·exact h.elim
 | dyn i z r ih =>
  intro ld S hld ok listed σ a w hS ha h f hf
  simp only[drW]at h
  split at h
  ·rename_i o ho
   split at h
   ·rename_i hr
    split at h
    ·rename_i hw
     have hwant:=q0n ha hw
     simp only[dep]at hf
     obtain⟨f',rfl⟩:∃f',f=f'+1:=⟨f-1,oo⟩
     refine q5f (rs:=[i]) (by simpa [q2q]using hr) og fun j hj=>?_
     simp only[J3]at hj
     subst hj
     simp only[wpOpIn,ho,hwant,if_true]
     refine qd6 ha h fun v w' hv=>?_
     split at hv
     ·obtain⟨hS',hv⟩:=hv
      obtain⟨σ',hσ',ha'⟩:=q0l hv ha
      exact⟨S,fun _ _=>hS',fun _ h=>h,ih ld S hld ok _ σ' _ w' (fun _=>hS') ha' hσ' f' oo⟩
     ·rename_i hn
      obtain⟨σ',hσ',ha'⟩:=q0l hv ha
      exact⟨S,fun h=>(by rw[hn]at h;cases h),fun _ h=>h,ih ld S hld false _ σ' _ w' (fun h=>by cases h) ha' hσ' f' oo⟩
    ·exact h.elim
   ·exact h.elim
  ·exact h.elim
 | two i r j r' ih1 ih2 =>
  intro ld S hld ok listed σ a w hS ha h f hf
  simp only[drW]at h
  simp only[dep]at hf
  obtain⟨f',rfl⟩:∃f',f=f'+1:=⟨f-1,oo⟩
  split at h
  ·rename_i hr
   refine q5f (rs:=[i,j]) (by simpa [q2q]using hr) og fun k hk=>?_
   simp only[J0,J7,or_false]at hk
   rcases hk with rfl|rfl
   ·have h:=h.1
    split at h
    ·rename_i o ho
     split at h
     ·rename_i hw
      have hwant:=q0n ha hw
      simp only[wpOpIn,ho,hwant,if_true]
      refine q4b (q06 hs (Jn ho)) (q1a hΓ ha (q06 hs (Jn ho)) h hQp fun v w' hv=>?_)
      obtain⟨hS',hv⟩:=hv
      obtain⟨σ',hσ',ha'⟩:=q0l hv ha
      exact⟨S,fun _ _=>hS',fun _ h=>h,ih1 ld S hld ok _ σ' _ w' (fun _=>hS') ha' hσ' f' oo⟩
     ·exact h.elim
    ·exact h.elim
   ·have h:=h.2
    split at h
    ·rename_i o ho
     split at h
     ·rename_i hw
      have hwant:=q0n ha hw
      simp only[wpOpIn,ho,hwant,if_true]
      refine q4b (q06 hs (Jn ho)) (q1a hΓ ha (q06 hs (Jn ho)) h hQp fun v w' hv=>?_)
      obtain⟨hS',hv⟩:=hv
      obtain⟨σ',hσ',ha'⟩:=q0l hv ha
      exact⟨S,fun _ _=>hS',fun _ h=>h,ih2 ld S hld ok _ σ' _ w' (fun _=>hS') ha' hσ' f' oo⟩
     ·exact h.elim
    ·exact h.elim
  ·exact h.elim
 | thr i r j r' k r'' ih1 ih2 ih3 =>
  intro ld S hld ok listed σ a w hS ha h f hf
  simp only[drW]at h
  simp only[dep]at hf
  obtain⟨f',rfl⟩:∃f',f=f'+1:=⟨f-1,oo⟩
  split at h
  ·rename_i hr
   refine q5f (rs:=[i,j,k]) (by simpa [q2q]using hr) og fun q hq=>?_
   simp only[J0,J7,or_false]at hq
   rcases hq with rfl|rfl|rfl
   ·have h:=h.1
    split at h
    ·rename_i o ho
     split at h
     ·rename_i hw
      have hwant:=q0n ha hw
      simp only[wpOpIn,ho,hwant,if_true]
      refine q4b (q06 hs (Jn ho)) (q1a hΓ ha (q06 hs (Jn ho)) h hQp fun v w' hv=>?_)
      obtain⟨hS',hv⟩:=hv
      obtain⟨σ',hσ',ha'⟩:=q0l hv ha
      exact⟨S,fun _ _=>hS',fun _ h=>h,ih1 ld S hld ok _ σ' _ w' (fun _=>hS') ha' hσ' f' oo⟩
     ·exact h.elim
    ·exact h.elim
   ·have h:=h.2.1
    split at h
    ·rename_i o ho
     split at h
     ·rename_i hw
      have hwant:=q0n ha hw
      simp only[wpOpIn,ho,hwant,if_true]
      refine q4b (q06 hs (Jn ho)) (q1a hΓ ha (q06 hs (Jn ho)) h hQp fun v w' hv=>?_)
      obtain⟨hS',hv⟩:=hv
      obtain⟨σ',hσ',ha'⟩:=q0l hv ha
      exact⟨S,fun _ _=>hS',fun _ h=>h,ih2 ld S hld ok _ σ' _ w' (fun _=>hS') ha' hσ' f' oo⟩
     ·exact h.elim
    ·exact h.elim
   ·have h:=h.2.2
    split at h
    ·rename_i o ho
     split at h
     ·rename_i hw
      have hwant:=q0n ha hw
      simp only[wpOpIn,ho,hwant,if_true]
      refine q4b (q06 hs (Jn ho)) (q1a hΓ ha (q06 hs (Jn ho)) h hQp fun v w' hv=>?_)
      obtain⟨hS',hv⟩:=hv
      obtain⟨σ',hσ',ha'⟩:=q0l hv ha
      exact⟨S,fun _ _=>hS',fun _ h=>h,ih3 ld S hld ok _ σ' _ w' (fun _=>hS') ha' hσ' f' oo⟩
     ·exact h.elim
    ·exact h.elim
  ·exact h.elim
 | tws i r j r' ih1 ih2 =>
  intro ld S hld ok listed σ a w hS ha h f hf
  simp only[drW]at h
  simp only[dep]at hf
  obtain⟨f',rfl⟩:∃f',f=f'+1:=⟨f-1,oo⟩
  split at h
  ·rename_i hr
   refine q5f (rs:=[i,j]) (by simpa [q2q]using hr) og fun k hk=>?_
   simp only[J0,J7,or_false]at hk
   rcases hk with rfl|rfl
   ·have h:=h.1
    split at h
    ·rename_i o ho
     split at h
     ·rename_i hw
      have hwant:=q0n ha hw
      simp only[wpOpIn,ho,hwant,if_true]
      refine q4b (q06 hs (Jn ho)) (q1a hΓ ha (q06 hs (Jn ho)) h hQp fun v w' hv=>?_)
      obtain⟨S',hS',hSS,hv⟩:=hv
      obtain⟨σ',hσ',ha'⟩:=q0l hv ha
      exact⟨S',fun _ _=>hS',hSS,ih1 _ S' (fun b v hb u hu=>hb u hu) ok _ σ' _ w' (fun _=>hS') ha' hσ' f' oo⟩
     ·exact h.elim
    ·exact h.elim
   ·have h:=h.2
    split at h
    ·rename_i o ho
     split at h
     ·rename_i hw
      have hwant:=q0n ha hw
      simp only[wpOpIn,ho,hwant,if_true]
      refine q4b (q06 hs (Jn ho)) (q1a hΓ ha (q06 hs (Jn ho)) h hQp fun v w' hv=>?_)
      obtain⟨S',hS',hSS,hv⟩:=hv
      obtain⟨σ',hσ',ha'⟩:=q0l hv ha
      exact⟨S',fun _ _=>hS',hSS,ih2 _ S' (fun b v hb u hu=>hb u hu) ok _ σ' _ w' (fun _=>hS') ha' hσ' f' oo⟩
     ·exact h.elim
    ·exact h.elim
  ·exact h.elim
 | ths i r j r' k r'' ih1 ih2 ih3 =>
  intro ld S hld ok listed σ a w hS ha h f hf
  simp only[drW]at h
  simp only[dep]at hf
  obtain⟨f',rfl⟩:∃f',f=f'+1:=⟨f-1,oo⟩
  split at h
  ·rename_i hr
   refine q5f (rs:=[i,j,k]) (by simpa [q2q]using hr) og fun q hq=>?_
   simp only[J0,J7,or_false]at hq
   rcases hq with rfl|rfl|rfl
   ·have h:=h.1
    split at h
    ·rename_i o ho
     split at h
     ·rename_i hw
      have hwant:=q0n ha hw
      simp only[wpOpIn,ho,hwant,if_true]
      refine q4b (q06 hs (Jn ho)) (q1a hΓ ha (q06 hs (Jn ho)) h hQp fun v w' hv=>?_)
      obtain⟨S',hS',hSS,hv⟩:=hv
      obtain⟨σ',hσ',ha'⟩:=q0l hv ha
      exact⟨S',fun _ _=>hS',hSS,ih1 _ S' (fun b v hb u hu=>hb u hu) ok _ σ' _ w' (fun _=>hS') ha' hσ' f' oo⟩
     ·exact h.elim
    ·exact h.elim
   ·have h:=h.2.1
    split at h
    ·rename_i o ho
     split at h
     ·rename_i hw
      have hwant:=q0n ha hw
      simp only[wpOpIn,ho,hwant,if_true]
      refine q4b (q06 hs (Jn ho)) (q1a hΓ ha (q06 hs (Jn ho)) h hQp fun v w' hv=>?_)
      obtain⟨S',hS',hSS,hv⟩:=hv
      obtain⟨σ',hσ',ha'⟩:=q0l hv ha
      exact⟨S',fun _ _=>hS',hSS,ih2 _ S' (fun b v hb u hu=>hb u hu) ok _ σ' _ w' (fun _=>hS') ha' hσ' f' oo⟩
     ·exact h.elim
    ·exact h.elim
   ·have h:=h.2.2
    split at h
    ·rename_i o ho
     split at h
     ·rename_i hw
      have hwant:=q0n ha hw
      simp only[wpOpIn,ho,hwant,if_true]
      refine q4b (q06 hs (Jn ho)) (q1a hΓ ha (q06 hs (Jn ho)) h hQp fun v w' hv=>?_)
      obtain⟨S',hS',hSS,hv⟩:=hv
      obtain⟨σ',hσ',ha'⟩:=q0l hv ha
      exact⟨S',fun _ _=>hS',hSS,ih3 _ S' (fun b v hb u hu=>hb u hu) ok _ σ' _ w' (fun _=>hS') ha' hσ' f' oo⟩
     ·exact h.elim
    ·exact h.elim
  ·exact h.elim
 | flo fs js r ih =>
  intro ld S hld ok listed σ a w hS ha h f hf
  simp only[drW]at h
  simp only[dep]at hf
  split at h
  ·rename_i hc
   simp only[Jk]at hc
   obtain⟨h1,h2,h3⟩:=h
   have e0:fs.filter (fun _:Nat=>false)=[]:=og
   have:=qli (r₀:=r₀) (m:=m) (Q:=Q) (ok:=ok) hΓ hs hQp hc.1 hc.2 h2 h1 (fun σ' a' u f' ha' hS' hk hf'=>ih ld S hld ok _ σ' a' u hS' ha' hk f' hf') f js [] (fun _=>false) (fun _=>w) σ a w w rfl
    (by have:(fs.filter fun _:Nat=>!false).length=fs.length:=og;omega) ha ha Ext.refl Ext.refl hS (fun i hi t ht=>qp9 hc.2 hi ht) (fun i _ h=>by cases h) (fun i _ k _ h=>by cases h) h3
   rw[e0]at this
   exact this
  ·exact h.elim
 | spl t r1 r2 ih1 ih2 =>
  intro ld S hld ok listed σ a w hS ha h f hf
  simp only[drW]at h
  simp only[dep]at hf
  split at h
  ·rename_i b hb
   cases b
   ·exact ih2 ld S hld ok _ _ a w hS (ha.spl hb) h f oo
   ·exact ih1 ld S hld ok _ _ a w hS (ha.spl hb) h f oo
  ·exact h.elim
end
inductive A where
 | leaf
 | reg (r:RA)
 | drw (d:DA)
 | drp (d:DA)
 | seq (a b:A)
 | cond (a b:A)
 | cndL (a b:A)
 | blk (a:A)
 | loop (slots:List Nat) (L:List (List Value->World->Prop)->List Value->World->Prop) (a:A)
 | cut (slots:List Nat) (L:List (List Value->World->Prop)->List Value->World->Prop) (a:A)
 | fnc (slots rs:List Nat) (L:List (List Value->World->Prop)->List Value->World->Prop) (a:A)
 | rf (slots:List Nat) (L:List (List Value->World->Prop)->List Value->World->Prop) (a:A)
abbrev Rho:=List (List Value->World->Prop)
abbrev Qt:=Exit->List Nat->St->World->Prop
def seqQ(k:List Nat->St->World->Prop)(Q:Qt):Qt
 | .normal,D,σ,w=>k D σ w
 | e,D,σ,w=>Q e D σ w
def scQ(Q:Qt):Qt
 | .goto _,_,_,_=>False
 | e,D,σ,w=>Q e D σ w
theorem q2g{P:Program}{b:Frame}{a:Act}{k:List Item}{cs:List Frame}{w:World}{c:Code} :
  step P (lone (b.atR a (.code (.scope c)::k)) cs w)=.next (lone (b.atR a (.code c :: .inScope c::k)) cs w):=
 step_lone_go (by simp[stepG,stepG.exec,Frame.atR])
theorem qbd{P:Program}{b:Frame}{a:Act}{k:List Item}{cs:List Frame}{w:World}{c:Code} :
  step P (lone (b.atR a (.inScope c::k)) cs w)=.next (lone (b.atR a k) cs w):=
 step_lone_go (by simp[stepG,stepG.exec,Frame.atR])
theorem qj9{F:Fence}{n:Nat}{P:Program}{Q:Exit->Act->World->Prop}{a:Act}{w:World}{c:Code}(h:c.wpIn F n P (Exit.noGoto Q) a w) :
  (Code.scope c).wpIn F n P Q a w:=by
 intro b k cs hro hb hr
 have h0:(lone (b.atR a (.code (.scope c)::k)) cs w).fenced P F:=fenced_calm hb hr rfl
 obtain⟨e,a₁,w₁,hq,harr⟩:=h b (.inScope c::k) cs hro hb hr
 cases e with
 | normal=>exact⟨.normal,a₁,w₁,hq,.head h0 q2g (StepsIn.trans harr (.one (fenced_calm hb hr rfl) qbd))⟩
 | exit id' =>
  have hx:exitTo id' (.inScope c::k)=exitTo id' k:=by simp[exitTo]
  exact⟨.exit id',a₁,w₁,hq,fun k' hk=>.head h0 q2g (harr.1 k' (by rw[hx];exact hk)),
   fun hr' hk=>let⟨k₁,h1,h2⟩:=harr.2 hr' (by rw[hx];exact hk);⟨k₁,h1,.head h0 q2g h2⟩⟩
 | goto l=>exact hq.elim
 | ret=>exact⟨_,a₁,w₁,hq,.of_steps (.one h0 q2g) harr⟩
 | panic ch=>exact⟨_,a₁,w₁,hq,.of_steps (.one h0 q2g) harr⟩
 | outgrown=>exact⟨_,a₁,w₁,hq,.of_steps (.one h0 q2g) harr⟩
def blkQ(id:Nat)(Q:Qt):Qt
 | .exit i,D,σ,w=>match Jj i id with
  | true=>Q .normal D σ w
  | false=>Q (.exit i) D σ w
 | e,D,σ,w=>Q e D σ w
def qja(slots:List Nat)(N:List Value->World->Prop)(Q:Qt):Qt
 | .normal,D,σ,w=>match D with
  | []=>match getAll σ slots with
   | some vs=>N vs w
   | none=>False
  | _::_=>False
 | e,D,σ,w=>Q e D σ w
def qt2(ops:Array Oper):Bool:=qbb ops
def q9p:Rho->List Value->World->Prop
 | N::_=>N
 | []=>fun _ _=>False
def fncQ(rs:List Nat)(ρ:Rho):Qt
 | .ret,D,σ,w=>match D with
  | []=>match getAll σ rs with
   | some vs=>q9p ρ vs w
   | none=>False
  | _::_=>False
 | _,_,_,_=>False
def rq(ρ:Rho):Qt
 | .normal,_,_,w=>q9p ρ [] w
 | .ret,_,_,w=>q9p ρ.tail [] w
 | _,_,_,_=>False
def lrec(fn:Nat)(tmps:Array Value)(ps:Array Tmp)(as bd:Code)(d:Nat)(st:LoopState)(pe:Option Code):Obj:=
 .loop { state:=st,pending:=pe,fn,tmps,params:=ps,assign:=as,body:=bd,defers:=d }
def agrT(n:Nat)(σ:St)(tmps:Array Value):Prop:=tmps.size=n/\∀t v,get σ t=some v->tmps[t]?=some v
def rfF(P:Program)(n:Nat)(σ:St)(v:Value)(ps:Array Tmp)(as bd:Code)(w:World)(KN KR:World->Prop):Prop:=
 (∃gf first cap,v=.func (.func gf) first cap)/\∀fn tmps,agrT n σ tmps->q0y P v [.func (.yield (w.heap.size+1)) #[] #[]] ((w.alloc (.deferred (some []))).alloc (lrec fn tmps ps as bd w.heap.size .ready none)) fun _ w' =>
  (w'.heap[w.heap.size+1]?=some (lrec fn tmps ps as bd w.heap.size .ready none)/\KN (w'.putObj (w.heap.size+1) (lrec fn tmps ps as bd w.heap.size .exhausted none))) \/
  (w'.heap[w.heap.size+1]?=some (lrec fn tmps ps as bd w.heap.size .done (some .ret))/\KR (w'.putObj (w.heap.size+1) (lrec fn tmps ps as bd w.heap.size .exhausted (some .ret))))
def rfG(P:Program)(n:Nat)(c:Code)(Q:Qt)(σ:St)(w:World):Prop:=
 match c with
 | .rangeFunc g ps as bd=>match ev σ g with
  | some v=>rfF P n σ v ps as bd w (fun w'=>Q .normal [w.heap.size] σ w') (fun w'=>Q .ret [w.heap.size] σ w')
  | none=>False
 | _=>False
section
variable(P:Program)(Γ:Env)(n:Nat)
def W:A->Code->Rho->Qt->List Nat->St->World->Prop
 | .leaf,c,_,Q,D,σ,w=>match c with
  | .skip=>Q .normal D σ w
  | .label _=>Q .normal D σ w
  | .exit id=>Q (.exit id) D σ w
  | .ret=>Q .ret D σ w
  | _=>False
 | .reg r,c,_,Q,D,σ,w=>match c with
  | .region _ ops false=>match qt2 ops with
   | true=>rgW P Γ n ops r ops.toList (fun σ w=>Q .normal D σ w) σ w
   | false=>False
  | _=>False
 | .drw d,c,_,Q,D,σ,w=>match c with
  | .region _ ops true=>match qt2 ops&&Nat.ble (dep d) ops.size with
   | true=>∃S:World->Prop,S w.drew/\drW P Γ n ops d (fun b v=>∀w',S w'->w'.cell? b=some v) S true (Jo ops.size false) (fun σ w=>Q .normal D σ w) σ w.drew
   | false=>False
  | _=>False
 | .drp d,c,_,Q,D,σ,w=>match c with
  | .region _ ops true=>match qt2 ops&&Nat.ble (dep d) ops.size with
   | true=>drW P Γ n ops d (fun b v=>w.drew.cell? b=some v) (fun w'=>w'=w.drew) true (Jo ops.size false) (fun σ w=>Q .normal D σ w) σ w.drew
   | false=>False
  | _=>False
 | .seq a b,c,ρ,Q,D,σ,w=>match c with
  | .seq x y=>W a x ρ (seqQ (fun D σ w=>W b y ρ Q D σ w) Q) D σ w
  | _=>False
 | .cond a b,c,ρ,Q,D,σ,w=>match c with
  | .cond x p q=>match ev σ x with
   | some (.bool t)=>cnd t (W a p ρ Q D σ w) (W b q ρ Q D σ w)
   | _=>False
  | _=>False
 | .cndL a b,c,ρ,Q,D,σ,w=>match c with
  | .cond x p q=>match ev σ x with
   | some (.bool true)=>W a p ρ Q D σ w
   | some (.bool false)=>W b q ρ Q D σ w
   | _=>False
  | _=>False
 | .blk a,c,ρ,Q,D,σ,w=>match c with
  | .block id x=>W a x ρ (blkQ id Q) D σ w
  | .scope x=>W a x ρ (scQ Q) D σ w
  | _=>False
 | .loop slots L _,c,ρ,_,D,σ,w=>match c with
  | .loop _=>match D with
   | []=>match getAll σ slots with
    | some vs=>L ρ vs w
    | none=>False
   | _::_=>False
  | _=>False
 | .cut slots L _,_,ρ,_,D,σ,w=>match D with
  | []=>match getAll σ slots with
   | some vs=>L ρ vs w
   | none=>False
  | _::_=>False
 | .fnc slots rs L _,_,ρ,Q,D,σ,w=>match getAll σ slots with
  | some vs=>L ((fun us w=>Q .ret D (zipS rs us) w)::ρ) vs w
  | none=>False
 | .rf slots L _,c,ρ,_,D,σ,w=>match c with
  | .rangeFunc _ _ _ _=>match D with
   | []=>match getAll σ slots with
    | some vs=>L ρ vs w
    | none=>False
   | _::_=>False
  | _=>False
inductive Kd where
 | cut
 | loop
 | rf
structure Ob where
 slots:List Nat
 L:Rho->List Value->World->Prop
 kind:Kd
 a:A
 c:Code
 Q:Rho->Qt
def Ob.goal(o:Ob)(ρ:Rho)(vs:List Value)(w:World):Prop:=
 match o.kind with
 | .rf=>rfG P n o.c (o.Q ρ) (zipS o.slots vs) w
 | _=>W P Γ n o.a o.c ρ (o.Q ρ) [] (zipS o.slots vs) w
def mkN(I:List Value->World->Prop)(μ:List Value->World->Nat)(vs:List Value)(w:World):List Value->World->Prop:=
 fun vs' w'=>I vs' w'/\μ vs' w'<μ vs w
def Ob.holds(o:Ob):Prop:=
 match o.kind with
 | .loop=>∀ρ vs w,o.L ρ vs w->∃(I:List Value->World->Prop) (μ:List Value->World->Nat),I vs w /\
   ∀vs w,I vs w->o.goal P Γ n (mkN I μ vs w::ρ) vs w
 | _=>∀ρ vs w,o.L ρ vs w->o.goal P Γ n ρ vs w
def obs:A->Code->(Rho->Qt)->List Ob
 | .seq a b,c,Q=>match c with
  | .seq x y=>obs a x (fun ρ=>seqQ (fun D σ w=>W P Γ n b y ρ (Q ρ) D σ w) (Q ρ))++obs b y Q
  | _=>[]
 | .cond a b,c,Q=>match c with
  | .cond _ p q=>obs a p Q++obs b q Q
  | _=>[]
 | .cndL a b,c,Q=>match c with
  | .cond _ p q=>obs a p Q++obs b q Q
  | _=>[]
 | .blk a,c,Q=>match c with
  | .block id x=>obs a x (fun ρ=>blkQ id (Q ρ))
  | .scope x=>obs a x (fun ρ=>scQ (Q ρ))
  | _=>[]
 | .loop slots L a,c,Q=>match c with
  | .loop x=>⟨slots,L,.loop,a,x,fun ρ=>qja slots (q9p ρ) (Q ρ.tail)⟩::obs a x (fun ρ=>qja slots (q9p ρ) (Q ρ.tail))
  | _=>[]
 | .cut slots L a,c,Q=>⟨slots,L,.cut,a,c,Q⟩::obs a c Q
 | .fnc slots rs L a,c,_=>⟨slots,L,.cut,a,c,fncQ rs⟩::obs a c (fncQ rs)
 | .rf slots L a,c,Q=>match c with
  | .rangeFunc _ _ _ bd=>⟨slots,L,.rf,a,c,Q⟩::obs a bd rq
  | _=>[]
 | _,_,_=>[]
def noRf:A->Bool
 | .seq a b | .cond a b | .cndL a b=>noRf a&&noRf b
 | .blk a | .loop _ _ a | .cut _ _ a | .fnc _ _ _ a=>noRf a
 | .rf _ _ _=>false
 | _=>true
def mk(d:Nat):Deferred:={ target:=.collected d,args:=#[] }
def hat(B:List Deferred)(Z:List Nat->Prop)(Pn:List PanicEntry->World->Prop)(Q:Qt):Exit->Act->World->Prop
 | .panic c,a,w=>Pn c w/\∃D,Z D/\a.defers=D.map mk++B
 | .outgrown,_,_=>False
 | e,a,w=>∃D σ,Z D/\Agr n (D.map mk++B) σ a/\Q e D σ w
end
section
variable{P:Program}{Γ:Env}{n:Nat}
def vsOf(slots:List Nat)(a:Act):List Value:=slots.map fun t=>a.tmps.getD t undef
theorem qfe{B:List Deferred}{σ:St}{a:Act}(ha:Agr n B σ a):∀ {slots:List Nat} {vs:List Value},getAll σ slots=some vs->vsOf slots a=vs
 | [],vs,h=>by simpa [getAll,vsOf]using h
 | t::r,vs,h=>by
  unfold getAll at h
  split at h
  ·cases h
  ·rename_i v hv
   split at h
   ·cases h
   ·rename_i us hus
    cases h
    have ih:=qfe ha hus
    have:=ha.2.2 t v hv
    simp only[vsOf,List.map_cons]at ih ⊢
    simp_all
theorem q6u{B:List Deferred}{Z:List Nat->Prop}{Pn:List PanicEntry->World->Prop}{Q:Qt}{D:List Nat}{σ:St}{a:Act}{w:World}(hz:Z D)(ha:Agr n (D.map mk++B) σ a)(h:Q .normal D σ w):hat n B Z Pn Q .normal a w:=⟨D,σ,hz,ha,h⟩
theorem qlj{B:List Deferred}{Z:List Nat->Prop}{Pn:List PanicEntry->World->Prop}{Q:Qt}(c:List PanicEntry)(d:Option Tmp)(v:Value)(a:Act)(w:World)(h:hat n B Z Pn Q (.panic c) (Act.put a d v) w):hat n B Z Pn Q (.panic c) a w:=
 ⟨h.1,h.2.imp fun _ h=>⟨h.1,by cases d<;>exact h.2⟩⟩
theorem sound{Pn:List PanicEntry->World->Prop}(hm:P.follows .mixedOrders=true)(hΓ:EnvP P Pn Γ){B:List Deferred}{Z:List Nat->Prop}{r:Option Nat}{m:Nat}:∀(x:A) (c:Code) (Q:Rho->Qt),((r=none/\∀D,Z D)\/noRf x=true)->(∀o∈obs P Γ n x c Q,o.holds P Γ n) ->
  ∀(ρ:Rho) (D:List Nat) (σ:St) (a:Act) (w:World),Z D->Agr n (D.map mk++B) σ a->W P Γ n x c ρ (Q ρ) D σ w->c.wpIn (fen r) m P (hat n B Z Pn (Q ρ)) a w:=by
 intro x
 induction x generalizing B Z with
 | leaf =>
  intro c Q _ _ ρ D σ a w hz ha h
  cases c<;>simp only[W]at h<;>try exact h.elim
  ·exact wpIn_skip ⟨D,σ,hz,ha,h⟩
  ·exact wpIn_exit ⟨D,σ,hz,ha,h⟩
  ·exact wpIn_label ⟨D,σ,hz,ha,h⟩
  ·exact wpIn_ret ⟨D,σ,hz,ha,h⟩
 | reg r =>
  intro c Q hnr hob ρ D σ a w hz ha h
  cases c<;>simp only[W]at h<;>try exact h.elim
  rename_i id ops d
  cases d<;>simp only at h
  ·split at h
   ·rename_i hs
    refine wpIn_region ?_
    rw[List.range_eq_range',←Array.length_toList]
    exact qlb hΓ hs (fun c a w hd hp=>⟨hp,D,hz,hd⟩) (fun σ a w ha hk=>q6u hz ha hk) r ops.toList 0 σ a w (fun j=>og) ha h
   ·exact h.elim
 | drw d =>
  intro c Q hnr hob ρ D σ a w hz ha h
  cases c<;>simp only[W]at h<;>try exact h.elim
  rename_i id ops dr
  cases dr<;>simp only at h
  split at h
  ·rename_i hs
   simp only[Jk]at hs
   obtain⟨S,hS,h⟩:=h
   exact wpIn_region_any hm (q4e _ S _ _ _ (qd9 hΓ hs.1 qlj (fun c a w hd hp=>⟨hp,D,hz,hd⟩) (fun σ a w ha hk=>q6u hz ha hk) d _ S (fun b v hb w' hw'=>hb w' hw') true _ σ a _ (fun _=>hS) ha h _ (Nat.le_of_ble_eq_true hs.2)))
  ·exact h.elim
 | drp d =>
  intro c Q hnr hob ρ D σ a w hz ha h
  cases c<;>simp only[W]at h<;>try exact h.elim
  rename_i id ops dr
  cases dr<;>simp only at h
  split at h
  ·rename_i hs
   simp only[Jk]at hs
   exact wpIn_region_any hm (q4e _ (fun w'=>w'=w.drew) _ _ _ (qd9 hΓ hs.1 qlj (fun c a w hd hp=>⟨hp,D,hz,hd⟩) (fun σ a w ha hk=>q6u hz ha hk) d _ (fun w'=>w'=w.drew) (fun b v hb w' hw'=>by rw[hw'];exact hb) true _ σ a _ (fun _=>rfl) ha h _ (Nat.le_of_ble_eq_true hs.2)))
  ·exact h.elim
 | seq x y ihx ihy =>
  intro c Q hnr hob ρ D σ a w hz ha h
  cases c<;>simp only[W]at h<;>try exact h.elim
  rename_i cx cy
  simp only[obs,J4]at hob
  have hnr':((r=none/\∀D,Z D)\/noRf x=true)/\((r=none/\∀D,Z D)\/noRf y=true):=by
   rcases hnr with h|h
   ·grind
   ·simp only[noRf,Jk]at h;exact⟨.inr h.1,.inr h.2⟩
  refine wpIn_seq (wpIn_mono (ihx cx (fun ρ=>seqQ (fun D σ w=>W P Γ n y cy ρ (Q ρ) D σ w) (Q ρ)) hnr'.1 (fun o ho=>hob o (.inl ho)) ρ D σ a w hz ha h) fun e a w hq=>?_)
  cases e with
  | normal =>
   obtain⟨D',σ',hz',ha',h'⟩:=hq
   exact ihy cy Q hnr'.2 (fun o ho=>hob o (.inr ho)) ρ D' σ' a w hz' ha' h'
  | _=>exact hq
 | cond x y ihx ihy =>
  intro c Q hnr hob ρ D σ a w hz ha h
  cases c<;>simp only[W]at h<;>try exact h.elim
  rename_i cc cx cy
  simp only[obs,J4]at hob
  have hnr':((r=none/\∀D,Z D)\/noRf x=true)/\((r=none/\∀D,Z D)\/noRf y=true):=by
   rcases hnr with h|h
   ·grind
   ·simp only[noRf,Jk]at h;exact⟨.inr h.1,.inr h.2⟩
  split at h
  ·rename_i t ht
   rw[q09]at h
   refine wpIn_cond_split (ha.ev ht) (fun h1=>ihx cx Q hnr'.1 (fun o ho=>hob o (.inl ho)) ρ D σ a w hz ha (h.1 h1)) fun h1=>ihy cy Q hnr'.2 (fun o ho=>hob o (.inr ho)) ρ D σ a w hz ha (h.2 h1)
  ·exact h.elim
 | cndL x y ihx ihy =>
  intro c Q hnr hob ρ D σ a w hz ha h
  cases c<;>simp only[W]at h<;>try exact h.elim
  rename_i cc cx cy
  simp only[obs,J4]at hob
  have hnr':((r=none/\∀D,Z D)\/noRf x=true)/\((r=none/\∀D,Z D)\/noRf y=true):=by
   rcases hnr with h|h
   ·grind
   ·simp only[noRf,Jk]at h;exact⟨.inr h.1,.inr h.2⟩
  split at h
  ·rename_i ht
   exact wpIn_cond_true (ha.ev ht) (ihx cx Q hnr'.1 (fun o ho=>hob o (.inl ho)) ρ D σ a w hz ha h)
  ·rename_i ht
   exact wpIn_cond_false (ha.ev ht) (ihy cy Q hnr'.2 (fun o ho=>hob o (.inr ho)) ρ D σ a w hz ha h)
  ·exact h.elim
 | blk x ih =>
  intro c Q hnr hob ρ D σ a w hz ha h
  cases c<;>simp only[W]at h<;>try exact h.elim
  ·rename_i id cx
   simp only[obs]at hob
   refine wpIn_block (wpIn_mono (ih cx (fun ρ=>blkQ id (Q ρ)) (by simpa only[noRf]using hnr) hob ρ D σ a w hz ha h) fun e a w hq=>?_)
   cases e with
   | exit i =>
    obtain⟨D',σ',hz',ha',h'⟩:=hq
    simp only[blkQ]at h'
    simp only[Exit.inBlock]
    split at h'
    ·rename_i hb
     rw[if_pos (Nat.eq_of_beq_eq_true hb)]
     exact⟨D',σ',hz',ha',h'⟩
    ·rename_i hb
     rw[if_neg (Nat.ne_of_beq_eq_false hb)]
     exact⟨D',σ',hz',ha',h'⟩
   | _=>exact hq
  ·rename_i cx
   simp only[obs]at hob
   refine qj9 (wpIn_mono (ih cx (fun ρ=>scQ (Q ρ)) (by simpa only[noRf]using hnr) hob ρ D σ a w hz ha h) fun e a w hq=>?_)
   cases e with
   | goto l =>
    obtain⟨D',σ',hz',ha',h'⟩:=hq
    exact h'
   | _=>exact hq
 | loop slots L x ih =>
  intro c Q hnr hob ρ D σ a w hz ha h
  cases c<;>simp only[W]at h<;>try exact h.elim
  rename_i cx
  simp only[obs,J0,forall_eq_or_imp]at hob
  split at h
  ·split at h
   ·rename_i vs hvs
    obtain⟨I,μ,h0,hround⟩:=hob.1 ρ vs w h
    have hv:=qfe ha hvs
    refine wpIn_loop (fun a w=>Agr n B (zipS slots (vsOf slots a)) a/\I (vsOf slots a) w) (fun a w=>μ (vsOf slots a) w) ⟨by rw[hv];exact ha.getAll hvs,by rw[hv];exact h0⟩ ?_
    intro a w ⟨ha,hI⟩
    refine wpIn_mono (ih cx (fun ρ=>qja slots (q9p ρ) (Q ρ.tail)) (by simpa only[noRf]using hnr) hob.2 (mkN I μ (vsOf slots a) w::ρ) [] _ a w hz ha (hround _ w hI)) fun e a' w' hq=>?_
    cases e with
    | normal =>
     obtain⟨D',σ',hz',ha',h'⟩:=hq
     simp only[qja,q9p]at h'
     split at h'
     ·split at h'
      ·rename_i vs' hvs'
       have hv':=qfe ha' hvs'
       obtain⟨hI',hμ⟩:=h'
       exact⟨⟨by rw[hv'];exact ha'.getAll hvs',by rw[hv'];exact hI'⟩,by rw[hv'];exact hμ⟩
      ·exact h'.elim
     ·exact h'.elim
    | _=>exact hq
   ·exact h.elim
  ·exact h.elim
 | cut slots L x ih =>
  intro c Q hnr hob ρ D σ a w hz ha h
  simp only[W]at h
  simp only[obs,J0,forall_eq_or_imp]at hob
  split at h
  ·split at h
   ·rename_i vs hvs
    exact ih c Q (by simpa only[noRf]using hnr) hob.2 ρ [] _ a w hz (ha.getAll hvs) (hob.1 ρ vs w h)
   ·exact h.elim
  ·exact h.elim
 | fnc slots rs L x ih =>
  intro c Q hnr hob ρ D σ a w hz ha h
  simp only[W]at h
  simp only[obs,J0,forall_eq_or_imp]at hob
  split at h
  ·rename_i vs hvs
   have hnr':(r=none/\∀D',Z (D'++D))\/noRf x=true:=by
    rcases hnr with h|h
    ·grind
    ·exact .inr (by simpa only[noRf]using h)
   refine wpIn_mono (ih (B:=D.map mk++B) (Z:=fun D'=>Z (D'++D)) c (fncQ rs) hnr' hob.2 _ [] _ a w hz (ha.getAll hvs) (hob.1 _ vs w h)) fun e a w hq=>?_
   cases e with
   | ret =>
    obtain⟨D',σ',hz',ha',h'⟩:=hq
    simp only[fncQ]at h'
    split at h'
    ·split at h'
     ·rename_i us hus
      exact⟨D,zipS rs us,hz,ha'.getAll hus,h'⟩
     ·exact h'.elim
    ·exact h'.elim
   | panic c =>
    obtain⟨hp,D',hz',hd⟩:=hq
    exact⟨hp,D'++D,hz',by rw[hd,J9,List.append_assoc]⟩
   | outgrown=>exact hq.elim
   | normal=>obtain⟨D',σ',_,_,h'⟩:=hq;exact h'.elim
   | exit id=>obtain⟨D',σ',_,_,h'⟩:=hq;exact h'.elim
   | goto l=>obtain⟨D',σ',_,_,h'⟩:=hq;exact h'.elim
  ·exact h.elim
 | rf slots L x ih =>
  intro c Q hnr hob ρ D σ a w hz ha h
  cases c<;>simp only[W]at h<;>try exact h.elim
  rename_i g ps as bd
  simp only[obs,J0,forall_eq_or_imp]at hob
  have hr:r=none/\∀D,Z D:=by
   rcases hnr with h|h
   ·exact h
   ·cases h
  obtain⟨rfl,hZ⟩:=hr
  split at h
  ·split at h
   ·rename_i vs hvs
    have ha:=ha.getAll hvs
    have hg:=hob.1 ρ vs w h
    simp only[Ob.goal,rfG]at hg
    split at hg
    ·rename_i v hv
     refine wpIn_rangeFunc fun fn _=>?_
     obtain⟨⟨gf,first,cap,rfl⟩,hg⟩:=hg
     have hF:=hg fn a.tmps ⟨ha.1,ha.2.2⟩
     simp only[q0y]at hF
     obtain⟨hcall,hF⟩:=hF
     refine⟨w.heap.size+1,[mk w.heap.size],(w.alloc (.deferred (some []))).alloc (lrec fn a.tmps ps as bd w.heap.size .ready none),{ target:=.fn (.func gf) cap,args:=first++#[.func (.yield (w.heap.size+1)) #[] #[]] },(w.alloc (.deferred (some []))).alloc (lrec fn a.tmps ps as bd w.heap.size .ready none),gf,_,_,run_enterLoop_outer _ _ _ _ _,?_,fun _ _=>trivial,?_,q4d,qhs (hF.mono fun e w' he=>?_)⟩
     ·simp only[resolve,ha.ev hv]
      simp[Act.eval,Deferred.ofValue]
     ·simp only[invoke,hcall]
     ·obtain⟨u,rfl,hk⟩:=he
      rcases hk with⟨hl,hk⟩|⟨hl,hk⟩
      ·exact⟨none,_,run_endLoop hl og,⟨[w.heap.size],_,hZ _,⟨ha.1,by simp[mk,ha.2.1],ha.2.2⟩,hk⟩⟩
      ·exact⟨some .ret,_,run_endLoop hl og,wpIn_ret ⟨[w.heap.size],_,hZ _,⟨ha.1,by simp[mk,ha.2.1],ha.2.2⟩,hk⟩⟩
    ·exact hg.elim
   ·exact h.elim
  ·exact h.elim
def qa3:List Nat->List Value->St->St
 | t::ts,v::vs,σ=>qa3 ts vs ((t,v)::σ)
 | _,_,σ=>σ
def qlk(n:Nat):List Nat->Bool
 | []=>true
 | t::ts=>Nat.blt t n&&qlk n ts
theorem qa4:∀ {ts:List Nat} {vs:List Value} {σ:St} {tmps:Array Value},qlk n ts=true->Agr n [] σ { tmps,defers:=[] } ->
  Agr n [] (qa3 ts vs σ) { tmps:=(ts.zip vs).foldl (fun tmps (t,a)=>tmps.setIfInBounds t a) tmps,defers:=[] }
 | [],_,σ,tmps,_,h=>by simpa [qa3]using h
 | t::ts,[],σ,tmps,_,h=>by simpa [qa3]using h
 | t::ts,v::vs,σ,tmps,hl,h=>by
  simp only[qlk,Jk]at hl
  have h1:=h.put (by simpa [Nat.blt_eq]using hl.1) v
  exact qa4 (ts:=ts) (vs:=vs) (σ:=(t,v)::σ) (tmps:=tmps.setIfInBounds t v) hl.2 h1
def asgQ(Mid:World->(World->Prop)->Prop)(k:List Nat->St->World->Prop):Qt
 | .normal,D,σ,w=>Mid w (fun w'=>k D σ w')
 | _,_,_,_=>False
def rMid(l fn:Nat)(tmps:Array Value)(ps:Array Tmp)(as bd:Code)(d:Nat)(w:World)(k:World->Prop):Prop:=
 w.heap[l]?=some (lrec fn tmps ps as bd d .ready none)/\k (w.putObj l (lrec fn tmps ps as bd d .busy none))
def rN(l fn:Nat)(tmps:Array Value)(ps:Array Tmp)(as bd:Code)(d:Nat)(K:VW)(w:World):Prop:=
 w.heap[l]?=some (lrec fn tmps ps as bd d .busy none)/\K (.bool true) (w.putObj l (lrec fn tmps ps as bd d .ready none))
def rR(l fn:Nat)(tmps:Array Value)(ps:Array Tmp)(as bd:Code)(d:Nat)(K:VW)(w:World):Prop:=
 w.heap[l]?=some (lrec fn tmps ps as bd d .busy none)/\K (.bool false) (w.putObj l (lrec fn tmps ps as bd d .done (some .ret)))
def rdW(P:Program)(Γ:Env)(n:Nat)(xa xb:A)(ps:Array Tmp)(as bd:Code)(σ:St)(args:List Value)(M:World->(World->Prop)->Prop)(N R:World->Prop)(w:World):Prop:=
 W P Γ n xa as [] (asgQ M (fun D σ w=>W P Γ n xb bd [fun _=>N,fun _=>R] (rq [fun _=>N,fun _=>R]) D σ w)) [] (qa3 ps.toList args σ) w
theorem qff(hm:P.follows .mixedOrders=true)(hΓ:q3u P Γ){xa xb:A}{ps:Array Tmp}{as bd:Code}(hoa:∀Q,obs P Γ n xa as Q=[])(hob:∀o∈obs P Γ n xb bd rq,o.holds P Γ n)
  (hra:noRf xa=true) (hrb:noRf xb=true) (hps:qlk n ps.toList=true) {fn:Nat} {tmps:Array Value} {d l:Nat} {σ:St} {w:World} {args:List Value} {K:VW} (hag:agrT n σ tmps)
  (hl:w.heap[l]?=some (lrec fn tmps ps as bd d .ready none)) (hlen:args.length=ps.size)
  (h:rdW P Γ n xa xb ps as bd σ args (rMid l fn tmps ps as bd d) (rN l fn tmps ps as bd d K) (rR l fn tmps ps as bd d K) w) (hp:q3j Γ pk=none:=by rfl) :
  Yl P l args.toArray w K:=by
 have hΓ:=hΓ.up hp
 refine⟨fn,_,as,bd,run_yield hl (by simpa using hlen),roundIn_of_wpIn trivial ?_⟩
 have hz:(ps.zip args.toArray).foldl (fun tmps (x:Tmp×Value)=>tmps.setIfInBounds x.1 x.2) tmps=(ps.toList.zip args).foldl (fun tmps (x:Nat×Value)=>tmps.setIfInBounds x.1 x.2) tmps:=by
  rw[←Array.foldl_toList]
  simp
 have ha:=qa4 (vs:=args) (σ:=σ) (tmps:=tmps) hps ⟨hag.1,rfl,hag.2⟩
 have hw:=sound (m:=0) (B:=[]) (Z:=fun _=>True) (r:=some l) hm hΓ xa as (fun _=>asgQ (rMid l fn tmps ps as bd d) _) (.inr hra) (by rw[hoa];simp) [] [] _ _ w trivial ha h
 refine wpIn_mono (Q:=hat n [] (fun _=>True) (fun _ _=>False) (asgQ _ _)) (by rw[←hz]at hw;exact hw) ?_
 intro e a w' hq
 cases e with
 | normal =>
  obtain⟨D,σ',_,ha',hmid,hk⟩:=hq
  refine⟨_,run_beginRound hmid rfl,wpIn_mono (sound (m:=0) (B:=[]) (Z:=fun _=>True) (r:=some l) hm hΓ xb bd (fun ρ=>rq ρ) (.inr hrb) hob _ D σ' a _ trivial ha' hk) ?_⟩
  intro e a w' hq
  cases e with
  | normal =>
   obtain⟨_,_,_,_,hl',hK⟩:=hq
   exact⟨_,_,run_endRound none hl',_,rfl,hK⟩
  | ret =>
   obtain⟨_,_,_,_,hl',hK⟩:=hq
   exact⟨_,_,run_endRound (some .ret) hl',_,rfl,hK⟩
  | panic c=>exact hq.1.elim
  | outgrown=>exact hq.elim
  | exit id=>obtain⟨_,_,_,_,h⟩:=hq;exact h.elim
  | goto t=>obtain⟨_,_,_,_,h⟩:=hq;exact h.elim
 | panic c=>exact hq.1.elim
 | outgrown=>exact hq.elim
 | _=>obtain⟨_,_,_,_,h⟩:=hq;exact h.elim
end
def resW(P:Program)(σ:St)(w:World):List ResultVar->(List Value->Prop)->Prop
 | [],K=>K []
 | .tmp t::r,K=>match get σ t with
  | some v=>resW P σ w r fun vs=>K (v::vs)
  | none=>False
 | .cell a t::r,K=>match get σ a with
  | some (.pointer (some b))=>ldW P (fun b v=>w.cell? b=some v) t b fun v=>resW P σ w r fun vs=>K (v::vs)
  | _=>False
def oneV(vs:List Value):Value:=match vs with
 | [v]=>v
 | vs=>.tuple vs.toArray
def retD:List Nat->World->(World->Prop)->Prop
 | [],w,k=>k w
 | d::D,w,k=>w.heap[d]?=some (.deferred (some []))/\retD D (w.putObj d (.deferred none)) k
def retQ(P:Program)(res:Array ResultVar)(K:VW):Qt
 | .normal,D,σ,w=>retD D w fun w=>resW P σ w res.toList fun vs=>K (oneV vs) w
 | .ret,D,σ,w=>retD D w fun w=>resW P σ w res.toList fun vs=>K (oneV vs) w
 | _,_,_,_=>False
def resF(tmps:Array Value):ResultVar->Sem Value
 | .tmp t=>pure (tmps.getD t undef)
 | .cell a t=>do loadVar t (←asAddr (tmps.getD a undef))
theorem qjb(fn:Func)(tmps:Array Value):results fn tmps=(do
  let vs ←fn.results.mapM (resF tmps)
  pure (if h:vs.size=1 then vs[0]else .tuple vs)):=by
 unfold results
 congr 1
section
variable{P:Program}{n:Nat}{B:List Deferred}
theorem q6v{σ:St}{a:Act}(ha:Agr n B σ a){w:World}:∀ {l:List ResultVar} {K:List Value->Prop},resW P σ w l K ->
  ∃vs,K vs/\(l.mapM (resF a.tmps)).run P w=.ok vs w
 | [],K,h=>⟨[],h,og⟩
 | .tmp t::r,K,h=>by
  simp only[resW]at h
  split at h
  ·rename_i v hv
   obtain⟨vs,hK,hr⟩:=q6v ha h
   refine⟨_,hK,?_⟩
   have:=ha.2.2 t v hv
   simp only[Jh,Sem.run_bind,resF,Sem.run_pure,Result.andThen_ok,hr]
   simp[this]
  ·exact h.elim
 | .cell c t::r,K,h=>by
  simp only[resW]at h
  split at h
  ·rename_i b hb
   obtain⟨v,h,hl⟩:=q87 (P:=P) (S:=fun w'=>w'=w) (fun b v hb w' hw'=>by subst hw';exact hb) h
   obtain⟨vs,hK,hr⟩:=q6v ha h
   refine⟨_,hK,?_⟩
   have:=ha.2.2 c _ hb
   have hg:a.tmps.getD c undef=.pointer (some b):=by simp[this]
   have hadd:(asAddr (.pointer (some b)):Sem Addr).run P w=.ok b w:=rfl
   simp only[Jh,Sem.run_bind,resF,hg,hadd,Result.andThen_ok,hl w rfl,hr,Sem.run_pure]
  ·exact h.elim
theorem q50{fn:Func}{σ:St}{a:Act}(ha:Agr n B σ a){w:World}{K:VW}(h:resW P σ w fn.results.toList fun vs=>K (oneV vs) w) :
  ∃v,(results fn a.tmps).run P w=.ok v w/\K v w:=by
 obtain⟨vs,hK,hr⟩:=q6v ha h
 refine⟨_,?_,hK⟩
 rw[qjb,Array.mapM_eq_mapM_toList]
 simp only[Sem.run_bind,Sem.run_map]
 rw[hr]
 simp only[Result.andThen_ok,Sem.run_pure,oneV]
 congr 1
 match vs with
 | []=>simp
 | [v]=>simp
 | v::u::r=>simp
theorem q5w:∀(vs:List Value) (k t:Nat) (v:Value),get (zipS (Jb k vs.length) vs) t=some v->k<=t/\vs[t-k]?=some v
 | [],k,t,v,h=>by simp[zipS,get]at h
 | u::vs,k,t,v,h=>by
  simp only[J1,J2,zipS]at h
  rw[q3r]at h
  by_cases hk:k=t
  ·grind
  ·simp only[hk,if_false]at h
   obtain⟨h1,h2⟩:=q5w vs (k+1) t v h
   grind
def q25(vs:List Value):St:=zipS (Jb 0 vs.length) vs
theorem q2w{vs:List Value}{m:Nat}(h:vs.length<=m):Agr m [] (q25 vs) { tmps:=vs.toArray++Jo (m-vs.toArray.size) undef,defers:=[] }:=by
 refine⟨oy,rfl,fun t v ht=>?_⟩
 obtain⟨_,h2⟩:=q5w vs 0 t v ht
 grind
theorem q8d{fn:Func}{tmps:Array Value}{R:Ending->World->Prop}{B:List Deferred}:∀(D:List Nat) (w:World) (k:World->Prop),retD D w k->(∀w',k w'->LeavesInM Fence.wide 0 P fn tmps R B .returning w') ->
  LeavesInM Fence.wide 0 P fn tmps R (D.map mk++B) .returning w
 | [],w,k,h,hk=>hk w h
 | d::D,w,k,h,hk=>⟨og,.inl ⟨d,_,rfl,run_takeDeferred h.1,q8d D _ k h.2 hk⟩⟩
theorem q8e{Γ:Env}(hm:P.follows .mixedOrders=true)(hΓ:q3u P Γ){f:FuncId}{fn:Func}{code:Code}(hf:P.funcs[f]?=some fn)(hb:fn.body=some code)
  (x:A) (K:VW) (hob:∀o∈obs P Γ fn.ntmps x code (fun _=>retQ P fn.results K),o.holds P Γ fn.ntmps) {vs:List Value} (hlen:vs.length<=fn.ntmps) {w:World}
  (h:W P Γ fn.ntmps x code [] (retQ P fn.results K) [] (q25 vs) w) (hp:q3j Γ pk=none:=by rfl):Calls P f vs.toArray w fun e w'=>∃v,e=.returned v/\K v w':=by
 have hΓ:=hΓ.up hp
 refine(callsIn_wide (n:=0)).1 (callsIn_of_wp_marks hf hb trivial (wpIn_mono (sound (r:=none) (m:=0) (B:=[]) (Z:=fun _=>True) hm hΓ x code (fun _=>retQ P fn.results K) (.inl ⟨rfl,fun _=>trivial⟩) hob [] [] (q25 vs) _ w trivial (q2w hlen) h) fun e a w hq=>?_))
 have fin:∀D σ',Agr fn.ntmps (D.map mk++[]) σ' a->(retD D w fun w=>resW P σ' w fn.results.toList fun vs=>K (oneV vs) w) ->
   LeavesInM Fence.wide 0 P fn a.tmps (fun e w'=>∃v,e=.returned v/\K v w') a.defers .returning w:=by
  intro D σ' ha' h'
  rw[ha'.2.1]
  refine q8d D w _ h' fun w' hw'=>?_
  obtain⟨v,hr,hK⟩:=q50 ha' hw'
  exact⟨v,hr,v,rfl,hK⟩
 cases e with
 | normal=>obtain⟨D,σ',_,ha',h'⟩:=hq;exact fin D σ' ha' h'
 | ret=>obtain⟨D,σ',_,ha',h'⟩:=hq;exact fin D σ' ha' h'
 | panic c=>exact hq.1.elim
 | outgrown=>exact hq.elim
 | exit id=>obtain⟨_,σ',_,_,h'⟩:=hq;exact h'.elim
 | goto l=>obtain⟨_,σ',_,_,h'⟩:=hq;exact h'.elim
theorem qda{Γ:Env}{Pn:List PanicEntry->World->Prop}(hm:P.follows .mixedOrders=true)(hΓ:EnvP P Pn Γ){f:FuncId}{fn:Func}{code:Code}(hf:P.funcs[f]?=some fn)(hb:fn.body=some code)
  (x:A) (hx:noRf x=true) (K:VW) (hob:∀o∈obs P Γ fn.ntmps x code (fun _=>retQ P fn.results K),o.holds P Γ fn.ntmps) {vs:List Value} (hlen:vs.length<=fn.ntmps) {w:World}
  (h:W P Γ fn.ntmps x code [] (retQ P fn.results K) [] (q25 vs) w):Calls P f vs.toArray w fun e w'=>(∃v,e=.returned v/\K v w')\/∃c,e=.panicked c/\Pn c w':=by
 refine(callsIn_wide (n:=0)).1 (callsIn_of_wp_marks hf hb trivial (wpIn_mono (sound (r:=none) (m:=0) (B:=[]) (Z:=fun D=>D=[]) hm hΓ x code (fun _=>retQ P fn.results K) (.inr hx) hob [] [] (q25 vs) _ w rfl (q2w hlen) h) fun e a w hq=>?_))
 have fin:∀D σ',D=[]->Agr fn.ntmps (D.map mk++[]) σ' a->(retD D w fun w=>resW P σ' w fn.results.toList fun vs=>K (oneV vs) w) ->
   LeavesInM Fence.wide 0 P fn a.tmps (fun e w'=>(∃v,e=.returned v/\K v w')\/∃c,e=.panicked c/\Pn c w') a.defers .returning w:=by
  intro D σ' hD ha' h'
  subst hD
  rw[ha'.2.1]
  obtain⟨v,hr,hK⟩:=q50 ha' h'
  exact⟨v,hr,.inl ⟨v,rfl,hK⟩⟩
 cases e with
 | normal=>obtain⟨D,σ',hD,ha',h'⟩:=hq;exact fin D σ' hD ha' h'
 | ret=>obtain⟨D,σ',hD,ha',h'⟩:=hq;exact fin D σ' hD ha' h'
 | panic c =>
  obtain⟨hp,D,hD,hd⟩:=hq
  subst hD
  show LeavesInM _ _ _ _ _ _ a.defers _ _
  rw[hd]
  exact .inr ⟨c,rfl,hp⟩
 | outgrown=>exact hq.elim
 | exit id=>obtain⟨_,σ',_,_,h'⟩:=hq;exact h'.elim
 | goto l=>obtain⟨_,σ',_,_,h'⟩:=hq;exact h'.elim
def panS(Pn:List PanicEntry->World->Prop):Spec:=fun vs w _=>match vs with
 | [v]=>Pn [{ v,recovered:=false }] w
 | _=>False
theorem EnvP.mk2{Γ:Env}{Pn:List PanicEntry->World->Prop}{f:Nat}{S:Spec}(hf:Jj f pk=false)(h:q3u P Γ)(hp:q3j Γ pk=none)(hs:qd5 P Pn f S):EnvP P Pn ((f,S)::(pk,panS Pn)::Γ):=by
 have hup:=h.up hp
 refine⟨fun g T hg hT=>?_,fun T hT v w K hk=>?_⟩
 ·unfold q3j at hT
  split at hT
  ·simp_all
  ·unfold q3j at hT
   split at hT
   ·simp_all
   ·exact(qfd h hT).imp_left fun h=>⟨h.1,fun vs w K hk=>(h.2 vs w K hk).mono fun _ _ he=>.inl he⟩
 ·unfold q3j at hT
  rw[hf]at hT
  simp only at hT
  unfold q3j at hT
  have:Jj pk pk=true:=rfl
  rw[this]at hT
  cases hT
  exact hk
end
def obAt(l:List Ob):Nat->Option Ob
 | 0=>match l with
  | []=>none
  | o::_=>some o
 | k+1=>match l with
  | []=>none
  | _::r=>obAt r k
def q12(P:Program)(Γ:Env)(n:Nat)(l:List Ob)(k:Nat):Prop:=∀o,obAt l k=some o->o.holds P Γ n
theorem q4f{P:Program}{Γ:Env}{n:Nat}:∀ {l:List Ob},(∀k,q12 P Γ n l k)->∀o∈l,o.holds P Γ n
 | [],_,o,ho=>by cases ho
 | x::r,h,o,ho=>by
  rcases J0.1 ho with rfl|ho
  ·exact h 0 _ rfl
  ·exact q4f (l:=r) (fun k o' ho'=>h (k+1) o' ho') o ho
theorem qa5{P:Program}{Γ:Env}{n:Nat}:∀ {l:List Ob} {m k:Nat},obAt l m=none->m<=k->q12 P Γ n l k
 | l,m,k,h,hk,o,ho=>by
  exfalso
  have key:∀(l:List Ob) (m k:Nat),obAt l m=none->m<=k->obAt l k=none:=by
   intro l
   induction l with
   | nil=>intro m k _ _;cases k<;>rfl
   | cons x r ih =>
    intro m k h hk
    cases m with
    | zero=>simp[obAt]at h
    | succ m =>
     obtain⟨k',rfl⟩:∃k',k=k'+1:=⟨k-1,oo⟩
     exact ih m k' h oo
  grind
def q2x(P:Program)(Γ:Env)(n:Nat)(l:List Ob)(k:Nat)(ρ:Rho)(vs:List Value)(w:World):Prop:=
 match obAt l k with
 | some o=>o.goal P Γ n ρ vs w
 | none=>False
def q5g(l:List Ob)(k:Nat)(ρ:Rho)(vs:List Value)(w:World):Prop:=
 match obAt l k with
 | some o=>o.L ρ vs w
 | none=>True
def q2y(l:List Ob)(k:Nat):Option Kd:=
 match obAt l k with
 | some o=>some o.kind
 | none=>none
theorem q2z{P:Program}{Γ:Env}{n:Nat}{l:List Ob}{k:Nat}(hl:q2y l k=some .cut\/q2y l k=some .rf)(h:∀ρ vs w,q5g l k ρ vs w->q2x P Γ n l k ρ vs w):q12 P Γ n l k:=by
 intro o ho
 unfold q2y at hl
 rw[ho]at hl
 have key:∀ρ vs w,o.L ρ vs w->o.goal P Γ n ρ vs w:=by
  intro ρ vs w hL
  have:=h ρ vs w (by unfold q5g;rw[ho];exact hL)
  unfold q2x at this
  grind
 unfold Ob.holds
 grind
theorem q4g{P:Program}{Γ:Env}{n:Nat}{l:List Ob}{k:Nat}(hl:q2y l k=some .loop)
  (h:∀ρ vs w,q5g l k ρ vs w->∃(I:List Value->World->Prop) (μ:List Value->World->Nat),I vs w/\∀vs w,I vs w->q2x P Γ n l k (mkN I μ vs w::ρ) vs w):q12 P Γ n l k:=by
 intro o ho
 unfold q2y at hl
 rw[ho]at hl
 simp only[Option.some.injEq]at hl
 unfold Ob.holds
 rw[hl]
 intro ρ vs w hL
 obtain⟨I,μ,h0,hr⟩:=h ρ vs w (by unfold q5g;rw[ho];exact hL)
 refine⟨I,μ,h0,fun vs w hI=>?_⟩
 have:=hr vs w hI
 unfold q2x at this
 grind
theorem q02{P:Program}{g:Nat}{S:Spec}{first cap:Array Value}{vs:List Value}{w:World}{K:VW}(hs:q1v P g S)(h:S (first.toList++vs++cap.toList) w K):q0y P (.func (.func g) first cap) vs w K:=by
 refine⟨hs.1,?_⟩
 have:=hs.2 _ _ _ h
 have e:first++vs.toArray++cap=(first.toList++vs++cap.toList).toArray:=oz
 grind
def q5x:Code->List Code
 | .seq a b=>q5x a++q5x b
 | .cond _ a b=>q5x a++q5x b
 | .block _ a=>q5x a
 | .loop a=>q5x a
 | .scope a=>q5x a
 | .rangeFunc g ps a b=>.rangeFunc g ps a b::q5x b
 | _=>[]
def nthC:List Code->Nat->Code
 | [],_=>.skip
 | c::_,0=>c
 | _::r,k+1=>nthC r k
def rfAt(c:Code)(k:Nat):Code:=nthC (q5x c) k
def rfAs:Code->Code
 | .rangeFunc _ _ a _=>a
 | _=>.skip
def rfBd:Code->Code
 | .rangeFunc _ _ _ b=>b
 | _=>.skip
