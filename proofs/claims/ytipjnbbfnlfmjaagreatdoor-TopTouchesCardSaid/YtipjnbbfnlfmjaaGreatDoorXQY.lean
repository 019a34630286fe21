/- The evaluator's regions that draw their order. Conditions: none. -/
import Derived.Test.YtipjnbbfnlfmjaaGreatDoorXQX
import Derived.Sort.LoopGhostIn
import Derived.RecoverIn
import Derived.Lib.Bytealg
import Derived.Lib.MakeNoZero
open List renaming getElem?_append_right->J0,getElem?_append_left->J1,getElem?_eq_getElem->J2,getElem?_eq_some_iff->J3,mem_of_getElem?->J4,prefix_append->J5,nodup_nil->J6,all_eq_true->J7,range'->J8,getElem?_eq_none->J9,mem_cons_of_mem->Ja,getElem?_range'->Jb,range_eq_range'->Jc,mem_cons_self->Jd,cons_append->Je,prefix_refl->Jf,mem_cons->Jg,length_append->Jh,any_eq_true->Ji,range'_succ->Jj,mem_append->Jk,nodup_cons->Jl,mapM_cons->Jm,map_cons->Jn
open Nat renaming eq_of_beq_eq_true->Jo,lt_of_lt_of_le->Jp,le_refl->Jq,ne_of_beq_eq_false->Jr,lt_succ_self->Js,le_of_ble_eq_true->Jt,beq->Ju,le_of_not_lt->Jv,strongRecOn->Jw,blt->Jx,le_trans->Jy
open Bool renaming and_eq_true->Jz,not_eq_true'->JA,false_eq_true->JB
open Array renaming getElem?_eq_some_iff->JC,mem_of_getElem?->JD,length_toList->JE,getElem?_toList->JF,toList_inj->JG,mapM_eq_mapM_toList->JH,toArray_toList->JI,replicate->JJ,size_pop->JK
namespace Xe
open Go Pw
section
variable {X:Cx}{cf:q3h}{w0 w w':World}{ρ ρ':Rn}{h h':H}{σ σ':Sg}{a:Act}{o:Oper}{y:AV}{r:Option Nat}{m:Nat}
def SL (ρ:Rn)(w:World)(L:Log)(u:World):Prop :=
 ∀ b k l,(b,k,l)∈L->∃ (q:Nm) (vs:List Value),ρ[b]?=some q/\VRs ρ l vs/\Cel w q.b (q.o+k) vs/\Cel u q.b (q.o+k) vs
theorem qfd [Zc] (hr:Rep w0 ρ h w):∀ {L:Log},hold h L=true->∀ b k l,(b,k,l)∈L->∃ (q:Nm) (vs:List Value),ρ[b]?=some q/\VRs ρ l vs/\Cel w q.b (q.o+k) vs
 | [],_,b,k,l,hm=>by cases hm
 | (b',k',l') :: L,hh,b,k,l,hm=>by
  unfold hold at hh
  split at hh
  case h_2=>cases hh
  rename_i cs hc
  split at hh
  case h_2=>cases hh
  rename_i l2 hl
  split at hh
  case h_2=>cases hh
  rename_i he
  rcases Jg.1 hm with e | hm
  ·cases e
   obtain⟨q,vs,h1,h2,-,h4⟩:=hr.part hc hl
   rw[← q48 he] at h2
   exact⟨q,vs,h1,h2,h4⟩
  ·exact qfd hr hh b k l hm
theorem qnu [Zc] (hr:Rep w0 ρ h w){L:Log}(hh:hold h L=true):SL ρ w L w:=fun b k l hm =>
 let ⟨q,vs,h1,h2,h3⟩:=qfd hr hh b k l hm
 ⟨q,vs,h1,h2,h3,h3⟩
theorem qqe [Zc] (hp:ρ <+: ρ'){u:World}(hr':Rep w0 ρ' h' u){L:Log}(hs:SL ρ w L w)(hh:hold h' L=true):SL ρ w L u:=fun b k l hm=>by
 obtain⟨q,vs,h1,h2,h3,-⟩:=hs b k l hm
 obtain⟨q',vs',h1',h2',h3'⟩:=qfd hr' hh b k l hm
 rw[q0b hp h1] at h1'
 cases h1'
 rw[VRs.one h2' (h2.mono hp)] at h3'
 exact⟨q,vs,h1,h2,h3,h3'⟩
def mOk (A:Option (Fg × List Nat))(o:Oper):Bool:=match A with
 | none=>true
 | some (F,_)=>match o.dst with
  | none=>true
  | some t=>decide (t ∉ F.ts) && decide (t ∉ F.ds)
def qnv (ops:Array Oper)(F:Fg)(dn:List Nat)(j:Nat):Bool:=F.al.any (fun a=>(dn++[j]).isPrefixOf a.1) && match ops[j]? with
 | some o=>match o.dst with
  | none=>true
  | some t=>decide (t∈F.ds)
 | none=>false
def doneB (F:Fg)(dn:List Nat):Bool:=F.al.any (fun a=>a.1 == dn)
def drOk (ops:Array Oper):Nat->Nat->List Pl->Option (Fg × List Nat)->Bool->Array Bool->Bool
 | 0,_,_,_,_,_=>false
 | N+1,k,pl,A,ok,listed=>match pl with
  | []=>match A with
   | none=>q2i ops listed []
   | some _=>false
  | .p i :: r=>match k with
   | 0=>false
   | k+1=>match ops[i]? with
    | some o=>(Region.ready .any ops listed).contains i && Region.free .any ops listed i && (ok || !q5c o.op) && (mOk A o && drOk ops N k r A ok (listed.setIfInBounds i true))
    | none=>false
  | .e i :: r=>match k with
   | 0=>false
   | k+1=>!(Region.ready .any ops listed).isEmpty && (Region.ready .any ops listed).all fun j=>match Ju j i with
    | true=>match ops[i]? with
     | some o=>mOk A o && drOk ops N k r A (match q67 ops i with | true=>ok | false=>false) (listed.setIfInBounds i true)
     | none=>false
    | false=>match A with
     | none=>false
     | some (F,dn)=>qnv ops F dn j && drOk ops N k (.e i :: r) (some (F,dn++[j])) ok (listed.setIfInBounds j true)
  | .b F :: r=>match A with
   | none=>drOk ops N k r (some (F,[])) ok listed
   | some _=>false
  | .g :: r=>match A with
   | none=>false
   | some (F,dn)=>match doneB F dn with
    | true=>drOk ops N k r none ok listed
    | false=>match k with
     | 0=>false
     | k+1=>!(Region.ready .any ops listed).isEmpty && (Region.ready .any ops listed).all fun j=>qnv ops F dn j && drOk ops N k (.g :: r) (some (F,dn++[j])) ok (listed.setIfInBounds j true)
def RD [Zc] (X:Cx)(cf:q3h)(ops:Array Oper)(Lf:Log)(hf:List H)(σ':Sg)(h':H):List Pl->Option Pnd->Sg->H->Prop
 | [],_,σ,h=>σ=σ'/\h=h'
 | .p i :: r,A,σ,h=>∃ o,ops[i]?=some o/\((want ops σ o=some false/\RD X cf ops Lf hf σ' h' r A (put o.dst un0 σ) h)\/(want ops σ o=some true/\q5c o.op=true/\∃ t b k v,lod σ o.op=some (t,b,k)/\ldA X.P h t b k=some v/\(b,k,flat v)∈Lf/\RD X cf ops Lf hf σ' h' r A (put o.dst v σ) h) \/
   (want ops σ o=some true/\q5c o.op=false/\∃ v,pux o.op X.P σ=some v/\RD X cf ops Lf hf σ' h' r A (put o.dst v σ) h))
 | .e i :: r,A,σ,h=>∃ o,ops[i]?=some o/\((want ops σ o=some false/\RD X cf ops Lf hf σ' h' r A (put o.dst un0 σ) h)\/(want ops σ o=some true/\∃ v h1,opx o.op X cf σ h=some (v,h1)/\(q67 ops i=true->h1∈hf)/\RD X cf ops Lf hf σ' h' r A (put o.dst v σ) h1))
 | .b F :: r,_,σ,h=>∃ pd,fgR X ops F σ=some pd/\RD X cf ops Lf hf σ' h' r (some pd) (strk F.ds σ) h
 | .g :: r,A,σ,h=>∃ outs B,A=some (outs,B)/\RD X cf ops Lf hf σ' h' r none (putO (emb (rng h.n (len B)) (h.n+len B)) outs σ) (adds h (obsR (emb (rng h.n (len B)) (h.n+len B)) B))
theorem q6p {L:Log}:∀ {hs:List H},holds L hs=true->∀ h∈hs,hold h L=true
 | [],_,h,hm=>by cases hm
 | g :: hs,hh,h,hm=>by
  unfold holds at hh
  split at hh
  ·rename_i h1
   rcases Jg.1 hm with rfl | hm
   ·exact h1
   ·exact q6p hh h hm
  ·cases hh
theorem q3k [Zc] {ops:Array Oper}:∀ (pl:List Pl) (A:Option Pnd) (σ:Sg) (h:H) (L:Log) (hs:List H),runD X cf ops pl A σ h L hs=some (σ',h')->∃ Lf hf,holds Lf hf=true/\(∀ x∈L,x∈Lf)/\(∀ x∈hs,x∈hf)/\RD X cf ops Lf hf σ' h' pl A σ h
 | [],A,σ,h,L,hs,h1=>by
  unfold runD at h1
  split at h1
  ·rename_i hh; cases h1; exact⟨L,hs,hh,fun _ h=>h,fun _ h=>h,rfl,rfl⟩
  ·cases h1
 | .p i :: r,A,σ,h,L,hs,h1=>by
  unfold runD at h1
  split at h1
  case h_2=>cases h1
  rename_i o ho
  split at h1
  ·rename_i hw
   obtain⟨Lf,hf,g1,g2,g3,g4⟩:=q3k r _ _ _ _ _ h1
   exact⟨Lf,hf,g1,g2,g3,o,ho,.inl ⟨hw,g4⟩⟩
  ·rename_i hw
   split at h1
   ·rename_i hl
    split at h1
    case h_2=>cases h1
    rename_i t b k hlo
    split at h1
    case h_2=>cases h1
    rename_i v hv
    obtain⟨Lf,hf,g1,g2,g3,g4⟩:=q3k r _ _ _ _ _ h1
    exact⟨Lf,hf,g1,fun x hx=>g2 x (Ja _ hx),g3,o,ho,.inr (.inl ⟨hw,hl,t,b,k,v,hlo,hv,g2 _ Jd,g4⟩)⟩
   ·rename_i hl
    split at h1
    case h_2=>cases h1
    rename_i v hv
    obtain⟨Lf,hf,g1,g2,g3,g4⟩:=q3k r _ _ _ _ _ h1
    exact⟨Lf,hf,g1,g2,g3,o,ho,.inr (.inr ⟨hw,hl,v,hv,g4⟩)⟩
  ·cases h1
 | .e i :: r,A,σ,h,L,hs,h1=>by
  unfold runD at h1
  split at h1
  case h_2=>cases h1
  rename_i o ho
  split at h1
  ·rename_i hw
   obtain⟨Lf,hf,g1,g2,g3,g4⟩:=q3k r _ _ _ _ _ h1
   exact⟨Lf,hf,g1,g2,g3,o,ho,.inl ⟨hw,g4⟩⟩
  ·rename_i hw
   split at h1
   case h_2=>cases h1
   rename_i v h2 hop
   split at h1
   ·obtain⟨Lf,hf,g1,g2,g3,g4⟩:=q3k r _ _ _ _ _ h1
    exact⟨Lf,hf,g1,g2,fun x hx=>g3 x (Ja _ hx),o,ho,.inr ⟨hw,v,h2,hop,fun _=>g3 _ Jd,g4⟩⟩
   ·rename_i hn
    obtain⟨Lf,hf,g1,g2,g3,g4⟩:=q3k r _ _ _ _ _ h1
    exact⟨Lf,hf,g1,g2,g3,o,ho,.inr ⟨hw,v,h2,hop,fun h=>(by rw[hn] at h; cases h),g4⟩⟩
  ·cases h1
 | .b F :: r,A,σ,h,L,hs,h1=>by
  unfold runD at h1
  split at h1
  case h_2=>cases h1
  rename_i pd hpd
  obtain⟨Lf,hf,g1,g2,g3,g4⟩:=q3k r _ _ _ _ _ h1
  exact⟨Lf,hf,g1,g2,g3,pd,hpd,g4⟩
 | .g :: r,A,σ,h,L,hs,h1=>by
  unfold runD at h1
  split at h1
  case h_2=>cases h1
  rename_i outs B
  obtain⟨Lf,hf,g1,g2,g3,g4⟩:=q3k r _ _ _ _ _ h1
  exact⟨Lf,hf,g1,g2,g3,outs,B,rfl,g4⟩
theorem lod_ok {t:TypeId}{b k:Nat}(hl:lod σ o.op=some (t,b,k)):∃ x,o.op=.load t x/\ev σ x=some (.p (some (b,k))):=by
 unfold lod at hl
 split at hl
 ·rename_i t' x ho
  split at hl
  ·rename_i b' k' hx
   cases hl
   exact⟨x,ho,hx⟩
  ·cases hl
 ·cases hl
theorem Tr.get_cut {α:Type}:∀ (d:Nat) (h:Tr α) (i m n:Nat) (x:α),Tr.get (Tr.cut d h i) m n=some x->n≠i/\Tr.get h m n=some x
 | 0,h,i,m,n,x,hx=>by
  have hx:Tr.get (.lf:Tr α) m n=some x:=hx
  rw[Tr.get_lf] at hx; cases hx
 | d+1,h,i,m,n,x,hx=>by
  have e:Tr.cut (d+1) h i=match Ju (i % 2) 0 with
   | true=>.nd (Tr.cut d h.fst (i / 2)) h.snd
   | false=>.nd h.fst (Tr.cut d h.snd (i / 2)):=rfl
  rw[e] at hx
  split at hx<;>rename_i hi<;>rw[Tr.get_nd] at hx<;>split at hx<;>rename_i hn
  ·obtain⟨h1,h2⟩:=get_cut d _ _ _ _ _ hx
   exact⟨fun e=>h1 (by rw[e]),Tr.get_fst h2 hn⟩
  ·exact⟨fun e=>(by rw[e,hi] at hn; cases hn),Tr.get_snd hx hn⟩
  ·exact⟨fun e=>(by rw[e,hi] at hn; cases hn),Tr.get_fst hx hn⟩
  ·obtain⟨h1,h2⟩:=get_cut d _ _ _ _ _ hx
   exact⟨fun e=>h1 (by rw[e]),Tr.get_snd h2 hn⟩
theorem qbm [Zc]:∀ {l:List Nat} {σ:Sg} {t:Nat} {x:AV},sget (strk l σ) t=some x->t ∉ l/\sget σ t=some x
 | [],_,_,_,h=>⟨by simp,h⟩
 | a :: l,σ,t,x,h=>by
  obtain⟨h1,h2⟩:=qbm (l:=l) h
  obtain⟨h3,h4⟩:=Tr.get_cut 8 σ a t t x h2
  exact⟨by simp[h3,h1],h4⟩
theorem q7f {σ:Sg}{d t:Nat}{v x:AV}(h:sget (sput σ d v) t=some x):(t=d/\x=v)\/(t≠d/\sget σ t=some x) :=
 Tr.get_set (d:=8) (show Tr.get (Tr.set d v 8 σ d) t t=some x from h)
theorem qgt [Zc] {σ:Sg}{d:Option Nat}{t:Nat}{v x:AV}(h:sget (put d v σ) t=some x):(d=some t/\x=v)\/(d≠some t/\sget σ t=some x):=by
 cases d with
 | none=>exact .inr ⟨by simp,h⟩
 | some d =>
  rcases q7f h with⟨rfl,rfl⟩ | ⟨h1,h2⟩
  ·exact .inl ⟨rfl,rfl⟩
  ·exact .inr ⟨fun e=>h1 (Option.some.inj e).symm,h2⟩
theorem AgA.other {d:Option Nat}{v:Value}(h:AgA ρ σ a)(hd:∀ t x,sget σ t=some x->d≠some t):AgA ρ σ (a.put d v):=by
 intro t x hx
 obtain⟨u,h1,h2⟩:=h t x hx
 refine⟨u,?_,h2⟩
 cases d with
 | none=>exact h1
 | some d =>
  have:d≠t:=fun e=>hd t x hx (by rw[e])
  simp only[Act.put]
  rw[Array.getElem?_setIfInBounds_ne this]; exact h1
theorem clo_ok {x:AV}{v:Value}(h:clo x=true)(hv:VR ρ x v):VR ρ' x v:=by
 cases x<;>first | exact hv | cases h
theorem pk_ok [Zc] (ha:AgA ρ σ a):∀ {ts:List Nat} {σ0 σ1:Sg},pk σ ts σ0=some σ1->AgA ρ' σ0 a->AgA ρ' σ1 a/\∀ t x,sget σ1 t=some x->t∈ts\/sget σ0 t=some x
 | [],σ0,σ1,h,h0=>by cases h; exact⟨h0,fun t x hx=>.inr hx⟩
 | t :: ts,σ0,σ1,h,h0=>by
  unfold pk at h
  split at h
  case h_2=>cases h
  rename_i x hx
  split at h
  case h_2=>cases h
  rename_i hc
  obtain⟨v,h1,h2⟩:=ha t x hx
  have h3:AgA ρ' (sput σ0 t x) a:=by
   intro t' y hy
   rcases q7f hy with⟨rfl,rfl⟩ | ⟨_,h4⟩
   ·exact⟨v,h1,clo_ok hc h2⟩
   ·exact h0 t' y h4
  obtain⟨h4,h5⟩:=pk_ok ha h h3
  refine⟨h4,fun t' y hy=>?_⟩
  rcases h5 t' y hy with h6 | h6
  ·exact .inl (Ja _ h6)
  ·rcases q7f h6 with⟨rfl,_⟩ | ⟨_,h7⟩
   ·exact .inl Jd
   ·exact .inr h7
theorem qgu {ops:Array Oper}:∀ {l m:List Nat} {σ σ2:Sg} {h h2:H},runI X ops (l++m) σ h=some (σ2,h2)->∃ σ1 h1,runI X ops l σ h=some (σ1,h1)/\runI X ops m σ1 h1=some (σ2,h2)
 | [],m,σ,σ2,h,h2,hx=>⟨σ,h,rfl,hx⟩
 | i :: l,m,σ,σ2,h,h2,hx=>by
  simp only[Je,runI] at hx ⊢
  split at hx
  case h_2=>cases hx
  split at hx
  case h_1=>cases hx
  split at hx
  case h_2=>cases hx
  exact qgu hx
theorem qdh {ops:Array Oper}:∀ {l:List Nat} {j:Nat} {σ σ1 σ2:Sg} {h h1 h2:H},runI X ops l σ h=some (σ1,h1)->runI X ops [j] σ1 h1=some (σ2,h2)->runI X ops (l++[j]) σ h=some (σ2,h2)
 | [],j,σ,σ1,σ2,h,h1,h2,ha,hb=>by cases ha; exact hb
 | i :: l,j,σ,σ1,σ2,h,h1,h2,ha,hb=>by
  simp only[Je,runI] at ha ⊢
  split at ha
  case h_2=>cases ha
  split at ha
  case h_1=>cases ha
  split at ha
  case h_2=>cases ha
  exact qdh ha hb
theorem qfe {ops:Array Oper}{σ0:Sg}{outs:List (Nat × AV)}{B:List Ob}:∀ {al:List (List Nat × List Nat)},chkA X ops σ0 outs B al=true->∀ o l,(o,l)∈al->∃ σ1 h1,runI X ops o σ0 ⟨.lf,0⟩=some (σ1,h1)/\chkB h1 (emb l h1.n) l B=true/\qa1 l=true/\chkO σ1 (emb l h1.n) outs=true
 | [],_,o,l,hm=>by cases hm
 | (o',l') :: al,h,o,l,hm=>by
  unfold chkA at h
  split at h
  case h_2=>cases h
  rename_i σ1 h1 hr
  split at h
  case h_2=>cases h
  rename_i hb
  simp only[Jz] at hb
  rcases Jg.1 hm with e | hm
  ·cases e; exact⟨σ1,h1,hr,hb.1,hb.2.1,hb.2.2⟩
  ·exact qfe h o l hm
theorem Rep.keep [Zc] (hr:Rep w0 ρ h w){ρF:Rn}{hF:H}(hf:Fr (Im ρF hF) w w')(h0:Fr F0 w0 w')(hd:∀ b,Im ρF hF b->¬Im ρ h b):Rep w0 ρ h w' :=
 ⟨hr.len,h0,fun q hq=>⟨(hr.lo q hq).1,Jp (hr.lo q hq).2 hf.1⟩,fun b o hb hl=>let ⟨q,hq,ho⟩:=hr.ob b o hb hl; ⟨q,hq,ho.mono (Jf _) (hf.2.1 _ (hr.lo q (J4 hq)).2 fun hi=>hd _ hi ⟨b,o,q,hb,hl,hq,rfl⟩)⟩,hr.inj⟩
theorem qlc [Zc] (hr:Rep w0 ρ h w){ρe:Rn}{B:List Ob}(hre:RepL w0 ρe B w)(hd:∀ b,ImL ρe B b->¬Im ρ h b) :
  (∀ b q,ρe[b]?=some q->(ρ++ρe)[emb (rng h.n (len B)) (h.n+len B) b]?=some q)/\Rep w0 (ρ++ρe) (adds h (obsR (emb (rng h.n (len B)) (h.n+len B)) B)) w /\
  ∀ b,Im (ρ++ρe) (adds h (obsR (emb (rng h.n (len B)) (h.n+len B)) B)) b->Im ρ h b\/ImL ρe B b:=by
 have he:∀ b q,ρe[b]?=some q->(ρ++ρe)[emb (rng h.n (len B)) (h.n+len B) b]?=some q:=fun b q hq=>by
  have hlt:=(J3.1 hq).1
  rw[hre.len] at hlt
  rw[qdg,q13,q4p (x:=h.n+b) (by rw[Jb hlt]; simp),J0 (by rw[hr.len]; omega),hr.len]
  simpa using hq
 have hp:ρ <+: ρ++ρe:=J5 _ _
 have hget:∀ {b:Nat} {o:Ob},(adds h (obsR (emb (rng h.n (len B)) (h.n+len B)) B)).get b=some o->liv o->(∃ j o',b=h.n+j/\B[j]?=some o'/\liv o'/\o=renO (emb (rng h.n (len B)) (h.n+len B)) o')\/h.get b=some o:=fun {b o} hb hlo=>by
  rcases q7e hb with⟨j,rfl,hj⟩ | ⟨_,h2⟩
  ·rw[qbl] at hj
   obtain⟨o',ho',rfl⟩:=Option.map_eq_some_iff.1 hj
   exact .inl ⟨j,o',rfl,ho',by cases o'<;>first | trivial | exact hlo,rfl⟩
  ·exact .inr h2
 have hνat:∀ {j:Nat} {q:Nm},ρe[j]?=some q->(ρ++ρe)[h.n+j]?=some q:=fun {j q} hj=>by
  rw[J0 (by rw[hr.len]; omega),hr.len]
  simpa using hj
 refine⟨he,⟨by rw[qgr,q56,Jh,hr.len,hre.len],hr.fr,fun q hq=>?_,fun b o hb hlo=>?_,fun b b' o o' q q' hb hlo hb' hlo' hq hq' hqe=>?_⟩,fun b hb=>?_⟩
 ·rcases Jk.1 hq with hq | hq
  ·exact hr.lo q hq
  ·exact hre.lo q hq
 ·rcases hget hb hlo with⟨j,o',rfl,hj,hlo',rfl⟩ | h2
  ·obtain⟨q,hq,ho⟩:=hre.ob j o' hj hlo'
   exact⟨q,hνat hq,ho.ren he⟩
  ·obtain⟨q,hq,ho⟩:=hr.ob b o h2 hlo
   exact⟨q,q0b hp hq,ho.mono hp rfl⟩
 ·rcases hget hb hlo with⟨j,p,rfl,hj,hlp,rfl⟩ | h2<;>rcases hget hb' hlo' with⟨j',p',rfl,hj',hlp',rfl⟩ | h2'
  ·obtain⟨r,hr1,_⟩:=hre.ob _ _ hj hlp
   obtain⟨r',hr1',_⟩:=hre.ob _ _ hj' hlp'
   rw[hνat hr1] at hq
   rw[hνat hr1'] at hq'
   cases hq
   cases hq'
   rw[hre.inj _ _ _ _ _ _ hj hlp hj' hlp' hr1 hr1' hqe]
  ·obtain⟨r,hr1,_⟩:=hre.ob _ _ hj hlp
   rw[hνat hr1] at hq
   cases hq
   obtain⟨q2,hq2,-⟩:=hr.ob _ _ h2' hlo'
   rw[q0b hp hq2] at hq'
   cases hq'
   exact(hd _ ⟨j,p,_,hj,hlp,hr1,rfl⟩ ⟨b',o',_,h2',hlo',hq2,hqe.symm⟩).elim
  ·obtain⟨r,hr1,_⟩:=hre.ob _ _ hj' hlp'
   rw[hνat hr1] at hq'
   cases hq'
   obtain⟨q2,hq2,-⟩:=hr.ob _ _ h2 hlo
   rw[q0b hp hq2] at hq
   cases hq
   exact(hd _ ⟨j',p',_,hj',hlp',hr1,rfl⟩ ⟨b,o,_,h2,hlo,hq2,hqe⟩).elim
  ·obtain⟨q2,hq2,-⟩:=hr.ob _ _ h2 hlo
   obtain⟨q2',hq2',-⟩:=hr.ob _ _ h2' hlo'
   rw[q0b hp hq2] at hq
   rw[q0b hp hq2'] at hq'
   cases hq
   cases hq'
   exact hr.inj _ _ _ _ _ _ h2 hlo h2' hlo' hq2 hq2' hqe
 ·obtain⟨n,o,q,hn,hlo,hq,rfl⟩:=hb
  rcases hget hn hlo with⟨j,p,rfl,hj,hlp,rfl⟩ | h2
  ·obtain⟨r,hr1,_⟩:=hre.ob _ _ hj hlp
   rw[hνat hr1] at hq
   cases hq
   exact .inr ⟨j,p,_,hj,hlp,hr1,rfl⟩
  ·obtain⟨q2,hq2,-⟩:=hr.ob _ _ h2 hlo
   rw[q0b hp hq2] at hq
   cases hq
   exact .inl ⟨n,o,_,h2,hlo,hq2,rfl⟩
theorem qld [Zc] {ρe:Rn}{e e':Nat->Nat}{σF:Sg}(hF:AgA ρe σF a)(h1:∀ x v,VR ρe (ren e' x) v->VR ρ (ren e x) v):∀ {outs:List (Nat × AV)} {σ:Sg},AgA ρ σ a->chkO σF e' outs=true->AgA ρ (putO e outs σ) a
 | [],_,ha,_=>ha
 | (t,x) :: r,σ,ha,hc=>by
  unfold chkO at hc
  split at hc
  case h_2=>cases hc
  rename_i y hy
  split at hc
  case h_2=>cases hc
  rename_i he
  obtain⟨v,h2,h3⟩:=hF t y hy
  rw[← qdf he] at h3
  refine qld hF h1 (outs:=r) (fun t' z hz=>?_) hc
  rcases q7f hz with⟨rfl,rfl⟩ | ⟨_,h4⟩
  ·exact⟨v,h2,h1 _ _ h3⟩
  ·exact ha t' z h4
def FGI [Zc](X:Cx)(ops:Array Oper)(w0 ws:World)(ρ:Rn)(h:H)(σ:Sg)(a:Act)(w:World)(pd:Option Pnd):Option (Fg × List Nat)->Prop
 | none=>True
 | some (F,dn)=>∃ outs B σ0,pd=some (outs,B)/\chkA X ops σ0 outs B F.al=true/\∃ ρF σF hF,runI X ops dn σ0 ⟨.lf,0⟩=some (σF,hF)/\AgA ρF σF a/\Rep w0 ρF hF w/\(∀ b,Im ρF hF b->ws.heap.size<=b)/\(∀ b,Im ρF hF b->¬Im ρ h b)/\(∀ t x,sget σF t=some x->t∈F.ts\/t∈F.ds)/\∀ t x,sget σ t=some x->t ∉ F.ds
theorem FGI.main [Zc] {ops:Array Oper}{ws:World}{pd:Option Pnd}{A:Option (Fg × List Nat)}{x:AV}{v:Value}(hI:FGI X ops w0 ws ρ h σ a w pd A)(hm:mOk A o=true)(hst:Stp w0 ρ h w ρ' h' w'):FGI X ops w0 ws ρ' h' (put o.dst x σ) (a.put o.dst v) w' pd A:=by
 cases A with
 | none=>trivial
 | some A =>
  obtain⟨F,dn⟩:=A
  obtain⟨outs,B,σ0,h1,h2,ρF,σF,hF,h3,h4,h5,h6,h7,h8,h9⟩:=hI
  have hdst:∀ t,o.dst=some t->t ∉ F.ts/\t ∉ F.ds:=fun t ht=>by
   unfold mOk at hm
   simp only[ht,Jz,decide_eq_true_eq] at hm
   exact hm
  refine⟨outs,B,σ0,h1,h2,ρF,σF,hF,h3,h4.other fun t y hy e=>?_,h5.keep hst.fr hst.rep.fr fun b hb hb'=>h7 b hb' hb,h6,fun b hb hb'=>h7 b hb (hst.im b hb' ?_),h8,fun t y hy=>?_⟩
  ·rcases h8 t y hy with h | h
   ·exact(hdst t e).1 h
   ·exact(hdst t e).2 h
  ·obtain⟨n,y,q,_,_,hq,rfl⟩:=hb
   exact(h5.lo q (J4 hq)).2
  ·rcases qgt hy with⟨e,_⟩ | ⟨_,hy⟩
   ·exact(hdst t e).2
   ·exact h9 t y hy
theorem SL.keep {ρs:Rn}{ws:World}{Lf:Log}{ρF:Rn}{hF:H}(hs:SL ρs ws Lf w)(hlo:∀ q∈ρs,q.b<ws.heap.size)(hle:ws.heap.size<=w.heap.size)(hf:Fr (Im ρF hF) w w')(hn:∀ b,Im ρF hF b->ws.heap.size<=b):SL ρs ws Lf w':=fun b k l hm=>by
 obtain⟨q,vs,h1,h2,h3,h4⟩:=hs b k l hm
 refine⟨q,vs,h1,h2,h3,fun i v hv=>?_⟩
 have hq:=hlo q (J4 h1)
 have:=hf.2.1 q.b (by omega) fun hi=>by have:=hn _ hi; omega
 have h5:=h4 i v hv
 unfold World.cell? at h5 ⊢
 simp only at h5 ⊢
 rw[this]; exact h5
theorem RD_ok [Zc] (hc:Cok X w0 cf){n:Nat}{ops:Array Oper}(hns:q7m ops=true)(hdo:∀ o∈ops,dOk n o=true){Q:Exit->Act->World->Prop}(hQ:∀ c a w,¬Q (.panic c) a w)
  {ρs:Rn} {hs:H} {ws:World} (hrs:Rep w0 ρs hs ws) {Lf:Log} {hf:List H} (hh:holds Lf hf=true) (hs0:SL ρs ws Lf ws) {D0:List Deferred}
  (hk:∀ ρ' a' w',a'.tmps.size=n->a'.defers=D0->AgA ρ' σ' a'->Stp w0 ρs hs ws ρ' h' w'->Q .normal a' w') :
  ∀ (N k:Nat) (pl:List Pl) (A:Option (Fg × List Nat)) (ok:Bool) (listed:Array Bool) (pd:Option Pnd) (ρ:Rn) (h:H) (w:World) (σ:Sg) (a:Act),drOk ops N k pl A ok listed=true->Stp w0 ρs hs ws ρ h w->(ok=true->SL ρs ws Lf w) ->
  a.tmps.size=n->a.defers=D0->AgA ρ σ a->FGI X ops w0 ws ρ h σ a w pd A->RD X cf ops Lf hf σ' h' pl pd σ h->wpF r m X.P ops Q (SL ρs ws Lf) k listed a w:=by
 intro N
 induction N with
 | zero=>intro k pl A ok listed pd ρ h w σ a h0; cases h0
 | succ N ih =>
 intro k pl A ok listed pd ρ h w σ a h0 hst hS hn hd0 ha hI h1
 have hr:=hst.rep
 have hws:=hst.fr.1
 have step:∀ (k j:Nat) (pl:List Pl) (F:Fg) (dn:List Nat),qnv ops F dn j=true->A=some (F,dn)->drOk ops N k pl (some (F,dn++[j])) ok (listed.setIfInBounds j true)=true->RD X cf ops Lf hf σ' h' pl pd σ h ->
   wpOpIn (fen r) m X.P ops Q j (fun a' w'=>∃ S',(q67 ops j=true->SL ρs ws Lf w->S' w')/\(∀ u,S' u->SL ρs ws Lf u)/\wpF r m X.P ops Q S' k (listed.setIfInBounds j true) a' w') a w:=by
  rintro k j pl F dn hsB rfl hdr hrd
  obtain⟨outs,B,σ0,e1,e2,ρF,σF,hF,e3,e4,e5,e6,e7,e8,e9⟩:=hI
  unfold qnv at hsB
  simp only[Jz,Ji] at hsB
  obtain⟨⟨⟨o1,l1⟩,hal,hpre⟩,hdd⟩:=hsB
  obtain⟨rest,hrest⟩:=List.isPrefixOf_iff_prefix.1 hpre
  simp only at hrest
  obtain⟨σk,hk',hrun,-⟩:=qfe e2 o1 l1 hal
  rw[← hrest,List.append_assoc] at hrun
  obtain⟨σ1,h1',hra,hrb⟩:=qgu hrun
  rw[e3] at hra
  cases hra
  split at hdd
  case h_2=>cases hdd
  rename_i o ho
  have hrj:∃ v h2,o.guard=none/\opx o.op X (fun _ _ _=>none) σF hF=some (v,h2)/\runI X ops [j] σF hF=some (put o.dst v σF,h2):=by
   simp only[Je,runI,ho] at hrb ⊢
   split at hrb
   ·cases hrb
   rename_i hg
   split at hrb
   case h_2=>cases hrb
   rename_i v h2 hop
   exact⟨v,h2,hg,hop,rfl⟩
  obtain⟨v,h2,hg,hop,hrj⟩:=hrj
  have hd:=hdo o (JD ho)
  have hds:∀ t,o.dst=some t->t∈F.ds:=fun t ht=>by rw[ht] at hdd; simpa using hdd
  have hw:Region.wanted o (yielded ops a.tmps)=true:=by simp[Region.wanted,hg]
  simp only[wpOpIn,ho,hw,if_true]
  refine qlb (X:=X) (cf:=fun _ _ _=>none) (fun f xs h y h' he=>by cases he) hop e4 e5 fun ρ2 u w2 hv hst2=>?_
  obtain⟨g1,g2,g3⟩:=(e4.mono hst2.pre).putd hn hd hv
  have him2:∀ b,Im ρ2 h2 b->ws.heap.size<=b:=fun b hb=>Jv fun hlt=>by
   have:=e6 b (hst2.im b hb (Jp hlt hws))
   omega
  have hrm:Rep w0 ρ h w2:=hr.keep hst2.fr hst2.rep.fr e7
  refine⟨SL ρs ws Lf,fun _ hSw=>hSw.keep (fun q hq=>(hrs.lo q hq).2) hws hst2.fr e6,fun _ h=>h,?_⟩
  refine ih k pl _ ok _ pd ρ h w2 σ _ hdr ⟨hst.pre,hrm,hst.fr.trans hst2.fr fun b hb hlt=>by have:=e6 b hb; omega,hst.im⟩ (fun hok=>(hS hok).keep (fun q hq=>(hrs.lo q hq).2) hws hst2.fr e6) g2 (g3.trans hd0) (ha.other fun t x hx e=>e9 t x hx (hds t e)) ?_ hrd
  refine⟨outs,B,σ0,e1,e2,ρ2,put o.dst v σF,h2,qdh e3 hrj,g1,hst2.rep,him2,fun b hb hb'=>?_,fun t x hx=>?_,e9⟩
  ·obtain⟨n',y,q,hy1,hy2,hq,rfl⟩:=hb'
   exact e7 _ (hst2.im _ hb (hr.lo q (J4 hq)).2) ⟨n',y,q,hy1,hy2,hq,rfl⟩
  ·rcases qgt hx with⟨e,_⟩ | ⟨_,hx⟩
   ·exact .inr (hds t e)
   ·exact e8 t x hx
 cases pl with
 | nil =>
  cases A with
  | some A=>cases h0
  | none =>
   obtain⟨rfl,rfl⟩:=h1
   exact qfm (by simpa [drOk,q2i] using h0) (hk ρ a w hn hd0 ha hst) _
 | cons p pl =>
 cases p with
 | p i =>
  obtain⟨o,ho,h1⟩:=h1
  cases k with
  | zero=>cases h0
  | succ k =>
  simp only[drOk,ho,Jz,Bool.or_eq_true,JA] at h0
  obtain⟨⟨⟨hr1,hr2⟩,hok⟩,hmo,h0⟩:=h0
  have hd:=hdo o (JD ho)
  rcases h1 with⟨hw,h1⟩ | ⟨hw,hl,t,b,kk,v,hlo,hv,hm,h1⟩ | ⟨hw,hl,v,hv,h1⟩
  ·obtain⟨g1,g2,g3⟩:=ha.putd hn hd q7d
   exact q32 (T:=fun _ _=>True) (v:=undef) ho hns (fun _ _ _ _ _ h=>(hQ _ _ _ h).elim) (fun _ _ _ _ _=>trivial) (fun _ _ _ _ _ _ _ _ _ _ _=>trivial) hr2 hr1 (.inr ⟨q54 ha hw,rfl⟩) trivial
    (ih k pl A ok _ pd ρ h w _ _ h0 hst hS g2 (g3.trans hd0) g1 (hI.main hmo (.refl hr)) h1)
  ·obtain⟨x,hx1,hx2⟩:=lod_ok hlo
   have hokt:ok=true:=by
    rcases hok with h | h
    ·exact h
    ·rw[hl] at h; cases h
   obtain⟨q,vs,u,q1,q2,q3,q4,q5⟩:=ql0 hr hv
   obtain⟨p,hpp,hxv⟩:=ha.ev hx2
   rw[q1] at hpp
   cases hpp
   obtain⟨g1,g2,g3⟩:=ha.putd hn hd q2
   have hy:YieldsIf X.P ops (SL ρs ws Lf) o u a:=.inl ⟨q54 ha hw,fun w2 hS2=>by
    obtain⟨q',vs',e1,e2,e3,e4⟩:=hS2 b kk _ hm
    have e1':=q0b hst.pre e1
    rw[q1] at e1'
    cases e1'
    rw[VRs.one (e2.mono hst.pre) q3] at e4
    simp[execOp,hx1,Instr.loadAt,hxv,Instr.sureAddr,q5 w2 e4]⟩
   exact q32 (T:=fun S=>S) ho hns (fun _ _ _ _ _ h=>(hQ _ _ _ h).elim) (fun _ _ h u hu=>h u hu) (fun _ _ j oj w w' hj hne hno hT hn=>hn (q9b ho hl hj hne hno) hT) hr2 hr1 hy (hS hokt)
    (ih k pl A ok _ pd ρ h w _ _ h0 hst hS g2 (g3.trans hd0) g1 (hI.main hmo (.refl hr)) h1)
  ·obtain⟨u,hu,hpu⟩:=qkz hv ha
   obtain⟨g1,g2,g3⟩:=ha.putd hn hd hu
   exact q32 (T:=fun _ _=>True) ho hns (fun _ _ _ _ _ h=>(hQ _ _ _ h).elim) (fun _ _ _ _ _=>trivial) (fun _ _ _ _ _ _ _ _ _ _ _=>trivial) hr2 hr1 (.inl ⟨q54 ha hw,fun w2 _=>hpu w2⟩) trivial
    (ih k pl A ok _ pd ρ h w _ _ h0 hst hS g2 (g3.trans hd0) g1 (hI.main hmo (.refl hr)) h1)
 | e i =>
  have h1':=h1
  obtain⟨o,ho,h1⟩:=h1
  cases k with
  | zero=>cases h0
  | succ k =>
  simp only[drOk,Jz,JA,J7] at h0
  obtain⟨hne,h0⟩:=h0
  have hd:=hdo o (JD ho)
  refine q4u rfl (fun e=>by rw[e] at hne; cases hne) fun j hj=>?_
  have h0:=h0 j hj
  split at h0
  ·rename_i hji
   have:=Jo hji
   subst this
   rw[ho] at h0
   simp only[Jz] at h0
   obtain⟨hmo,h0⟩:=h0
   rcases h1 with⟨hw,h1⟩ | ⟨hw,v,h2,hop,hneed,h1⟩
   ·simp only[wpOpIn,ho,q54 ha hw,JB,if_false]
    obtain⟨g1,g2,g3⟩:=ha.putd hn hd q7d
    refine⟨fun _ _=>trivial,SL ρs ws Lf,fun _ h=>h,fun _ h=>h,?_⟩
    exact ih k pl A _ _ pd ρ h w _ _ h0 hst (fun e=>hS (by split at e<;>first | exact e | cases e)) g2 (g3.trans hd0) g1 (hI.main hmo (.refl hr)) h1
   ·simp only[wpOpIn,ho,q54 ha hw,if_true]
    refine qlb hc hop ha hr fun ρ' u w' hv hst'=>?_
    obtain⟨g1,g2,g3⟩:=(ha.mono hst'.pre).putd hn hd hv
    have hS':q67 ops j=true->SL ρs ws Lf w':=fun hnb=>qqe (hst.pre.trans hst'.pre) hst'.rep hs0 (q6p hh _ (hneed hnb))
    refine⟨SL ρs ws Lf,fun hnb _=>hS' hnb,fun _ h=>h,?_⟩
    exact ih k pl A _ _ pd ρ' h2 w' _ _ h0 (hst.trans hst') (fun e=>by
     split at e
     ·rename_i hnb; exact hS' hnb
     ·cases e) g2 (g3.trans hd0) g1 (hI.main hmo hst') h1
  ·split at h0
   ·cases h0
   ·simp only[Jz] at h0
    exact step k j (.e i :: pl) _ _ h0.1 rfl h0.2 h1'
 | b F =>
  obtain⟨⟨outs,B⟩,hpd,h1⟩:=h1
  cases A with
  | some A=>cases h0
  | none =>
  unfold fgR at hpd
  split at hpd
  ·cases hpd
  split at hpd
  ·cases hpd
  rename_i σ0 hpk
  split at hpd
  ·cases hpd
  split at hpd
  ·cases hpd
  split at hpd
  ·cases hpd
  split at hpd
  case h_2=>cases hpd
  rename_i hchk
  cases hpd
  obtain⟨k1,k2⟩:=pk_ok (ρ':=[]) ha hpk (fun t x hx=>absurd hx (by unfold sget; rw[Tr.get_lf]; simp))
  have hno:∀ {b:Nat},¬Im [] (⟨.lf,0⟩:H) b:=fun {b} ⟨n,o,q,hx,_⟩=>absurd hx (by show Tr.get .lf _ _≠_; rw[Tr.get_lf]; simp)
  refine ih k pl (some (F,[])) ok listed _ ρ h w (strk F.ds σ) a h0 hst hS hn hd0 (fun t x hx=>ha t x (qbm hx).2) ⟨_,_,σ0,rfl,hchk,[],σ0,⟨.lf,0⟩,rfl,k1,?_,fun b hb=>(hno hb).elim,fun b hb=>(hno hb).elim,fun t x hx=>?_,fun t x hx=>(qbm hx).1⟩ h1
  ·exact⟨rfl,hr.fr,fun q hq=>by simp at hq,fun b o hb _=>absurd hb (by show Tr.get .lf _ _≠_; rw[Tr.get_lf]; simp),fun b _ o _ _ _ hb=>absurd hb (by show Tr.get .lf _ _≠_; rw[Tr.get_lf]; simp)⟩
  ·rcases k2 t x hx with h | h
   ·exact .inl h
   ·exact absurd h (by unfold sget; rw[Tr.get_lf]; simp)
 | g =>
  have h1':=h1
  obtain⟨outs,B,rfl,h1⟩:=h1
  cases A with
  | none=>cases h0
  | some A =>
  obtain⟨F,dn⟩:=A
  simp only[drOk] at h0
  split at h0
  ·rename_i hdone
   unfold doneB at hdone
   simp only[Ji,beq_iff_eq] at hdone
   obtain⟨⟨o1,l1⟩,hal,hdn⟩:=hdone
   simp only at hdn
   subst hdn
   obtain⟨outs',B',σ0,e1,e2,ρF,σF,hF,e3,e4,e5,e6,e7,e8,e9⟩:=hI
   cases e1
   obtain⟨σ1,h1',hrun,hcB,hnd,hcO⟩:=qfe e2 o1 l1 hal
   rw[e3] at hrun
   cases hrun
   obtain⟨ρe,hρe,hre,himE⟩:=qfc e5 hcB (q8p hnd)
   obtain⟨m1,m2,m3⟩:=qlc hr hre fun b hb=>e7 b (himE b hb)
   refine ih k pl none ok listed none (ρ++ρe) _ w _ a h0 ⟨hst.pre.trans (J5 _ _),m2,hst.fr,fun b hb hlt=>?_⟩ hS hn hd0 (qld (σF:=σF) (ρe:=ρF) e4 (fun x v hv=>?_) (ha.mono (J5 _ _)) hcO) trivial h1
   ·rcases m3 b hb with h | h
    ·exact hst.im b h hlt
    ·have:=e6 b (himE b h); omega
   ·exact(hv.unr (ρ:=ρe) fun b q hq=>by rw[hρe]; exact hq).ren m1
  ·cases k with
   | zero=>cases h0
   | succ k =>
   simp only[Jz,JA,J7] at h0
   obtain⟨hne,h0⟩:=h0
   refine q4u rfl (fun e=>by rw[e] at hne; cases hne) fun j hj=>?_
   obtain⟨h2,h3⟩:=h0 j hj
   exact step k j (.g :: pl) _ _ h2 rfl h3 h1'
end
def ExR:Ex->Exit->Prop
 | .nor,.normal=>True
 | .ret,.ret=>True
 | .exit i,.exit j=>i=j
 | _,_=>False
def Fm (rf:Bool)(n s:Nat)(B:List Deferred)(ρ:Rn)(h:H)(w:World)(a:Act):Prop :=
 a.tmps.size=n/\s<=w.heap.size/\∃ D:List Nat,(rf=false->D=[])/\D.Nodup/\a.defers=D.map mk++B/\∀ d∈D,s<=d/\w.heap[d]?=some (.deferred (some []))/\¬Im ρ h d
def CQ [Zc](w0:World)(rf:Bool)(n s:Nat)(B:List Deferred)(ρ:Rn)(h:H)(w:World)(e:Ex)(σ':Sg)(h':H):Exit->Act->World->Prop:=fun e' a' w' =>
 ExR e e'/\∃ ρ',AgA ρ' σ' a'/\Stp w0 ρ h w ρ' h' w'/\Fm rf n s B ρ' h' w' a'
def cOk (pl:Nat->Nat->Option (List Pl))(g n:Nat)(rf:Bool):Code->Bool
 | .region id ops d=>ops.toList.all (dOk n) && (match d with
  | false=>true
  | true=>q7m ops && match pl g id with
   | some pl=>drOk ops (2*ops.size+4) ops.size pl none true (JJ ops.size false)
   | none=>true)
 | .seq a b=>cOk pl g n rf a && cOk pl g n rf b
 | .cond _ a b=>cOk pl g n rf a && cOk pl g n rf b
 | .block _ c=>cOk pl g n rf c
 | .loop c=>cOk pl g n rf c
 | .scope c=>cOk pl g n rf c
 | .rangeFunc _ ps asg bd=>rf && ps.toList.all (fun t=>Jx t n) && cOk pl g n false asg && cOk pl g n false bd
 | _=>true
section
variable {X:Cx}{w0 w w':World}{ρ ρ':Rn}{h h':H}{σ σ':Sg}{a a':Act}{r:Option Nat}{rf:Bool}{g n s:Nat}{B:List Deferred}{e:Ex}
theorem Fm.stp [Zc] (hf:Fm rf n s B ρ h w a)(hs:Stp w0 ρ h w ρ' h' w')(h1:a'.tmps.size=n)(h2:a'.defers=a.defers):Fm rf n s B ρ' h' w' a':=by
 obtain⟨_,h0,D,hrd,hnd,h3,h4⟩:=hf
 refine⟨h1,Jy h0 hs.fr.1,D,hrd,hnd,h2.trans h3,fun d hd=>?_⟩
 obtain⟨h7,h5,h6⟩:=h4 d hd
 have hlt:=(JC.1 h5).1
 exact⟨h7,(hs.fr.2.1 d hlt h6).trans h5,fun hi=>h6 (hs.im d hi hlt)⟩
theorem Rep.drop [Zc] (hr:Rep w0 ρ h w)(k:Nat):Stp w0 ρ h w ρ (h.del k) w :=
 ⟨Jf _,⟨hr.len,hr.fr,hr.lo,fun b y hy hly=>hr.ob b y (q2f hy hly).2 hly,fun b b' y y' p p' hy hly hy' hly' hp hp' he=>hr.inj b b' y y' p p' (q2f hy hly).2 hly (q2f hy' hly').2 hly' hp hp' he⟩,Fr.refl,fun b hb _=>by
  obtain⟨n,y,p,hy,hly,hp,rfl⟩:=hb
  exact⟨n,y,p,(q2f hy hly).2,hly,hp,rfl⟩⟩
def Rok [Zc](X:Cx)(w0:World)(g n:Nat)(rf:Bool)(r:Option Nat)(j:Nat):Prop :=
 ∀ c,cOk X.pl g n rf c=true->∀ σ h e σ' h',(ex X j).rc g c σ h=some (e,σ',h')->∀ ρ w a B s,AgA ρ σ a->Rep w0 ρ h w->Fm rf n s B ρ h w a->c.wpIn (fen r) 0 X.P (CQ w0 rf n s B ρ h w e σ' h') a w
theorem CQ.trans [Zc] {h1:H}{ρ1:Rn}{w1:World}(hs:Stp w0 ρ h w ρ1 h1 w1){e':Exit}(hq:CQ w0 rf n s B ρ1 h1 w1 e σ' h' e' a' w'):CQ w0 rf n s B ρ h w e σ' h' e' a' w' :=
 let ⟨h1,ρ',h2,h3,h4⟩:=hq
 ⟨h1,ρ',h2,hs.trans h3,h4⟩
theorem qqf [Zc] (hrf:rf=true->r=none)(hZ:∀ g n ps asg bd,ps.all (fun t=>Jx t n)=true->cOk X.pl g n false asg=true->cOk X.pl g n false bd=true->Zc.z g n ps asg bd)(hm:X.P.follows .mixedOrders=true){N:Nat}(hC:∀ j,j<N->Cok X w0 (ex X j).cf):∀ j,j<=N->Rok X w0 g n rf r j:=by
 intro j
 induction j using Jw with
 | ind j ih =>
 intro hj c hc σ h e σ' h' hx ρ w a B s ha hr hf
 cases j with
 | zero=>cases hx
 | succ j =>
 have hCj:=hC j hj
 have IH:=ih j (Js j) (Nat.le_of_succ_le hj)
 cases c with
 | skip=>cases hx; exact wpIn_skip ⟨trivial,ρ,ha,.refl hr,hf⟩
 | label l=>cases hx; exact wpIn_label ⟨trivial,ρ,ha,.refl hr,hf⟩
 | ret=>cases hx; exact wpIn_ret ⟨trivial,ρ,ha,.refl hr,hf⟩
 | exit i=>cases hx; exact wpIn_exit ⟨rfl,ρ,ha,.refl hr,hf⟩
 | region id ops d =>
  replace hx:qf4 id ops d X g (ex X j).cf ((ex X j).rc g) σ h=some (e,σ',h'):=hx
  simp only[cOk,Jz] at hc
  obtain⟨hdo,hpl⟩:=hc
  have hdo':∀ o∈ops.toList,dOk n o=true:=fun o ho=>J7.1 hdo o ho
  unfold qf4 at hx
  cases d with
  | false =>
   simp only at hx
   split at hx
   case h_2=>cases hx
   rename_i σ1 h1 hrun
   cases hx
   refine wpIn_region ?_
   rw[Jc,← JE]
   have:=qbi (r:=r) (m:=0) (n:=n) (tl:=[]) (Q:=CQ w0 rf n s B ρ h w .nor σ' h') hCj ops.toList 0 ρ h w σ a (fun j _=>by simp) hdo' hf.1 ha hr hrun fun ρ' a' w' g1 g2 g3 g4=>⟨trivial,ρ',g3,g4,hf.stp g4 g1 g2⟩
   simpa using this
  | true =>
   simp only at hx hpl
   split at hx
   case h_2=>cases hx
   rename_i pl hplan
   split at hx
   case h_2=>cases hx
   rename_i σ1 h1 hrun
   cases hx
   simp only[Jz] at hpl
   obtain⟨hns,hpl⟩:=hpl
   rw[hplan] at hpl
   have hst:=hr.frm (w':=w.drew) Fr.drew
   obtain⟨Lf,hfs,g1,g2,g3,g4⟩:=q3k pl _ _ _ _ _ hrun
   have hs0:=qnu hst.rep (q6p g1 _ (g3 h (by simp)))
   exact wpIn_region_any hm (q2j _ _ _ _ _ (RD_ok (r:=r) (m:=0) (D0:=a.defers) hCj hns (fun o ho=>hdo' o (by simpa using ho)) (fun c a w hq=>hq.1.elim) hst.rep g1 hs0 (fun ρ' a' w' e1 e2 e3 e4=>⟨trivial,ρ',e3,hst.trans e4,hf.stp (hst.trans e4) e1 e2⟩)
    _ _ pl none true _ none ρ h _ σ a hpl (.refl hst.rep) (fun _=>hs0) hf.1 rfl ha trivial g4))
 | seq x y =>
  replace hx:eSeq x y X g (ex X j).cf ((ex X j).rc g) σ h=some (e,σ',h'):=hx
  simp only[cOk,Jz] at hc
  unfold eSeq at hx
  split at hx
  ·rename_i σ1 h1 h2
   refine wpIn_seq (wpIn_mono (IH x hc.1 _ _ _ _ _ h2 ρ w a B s ha hr hf) fun e' a' w' hq=>?_)
   obtain⟨q1,ρ',q2,q3,q4⟩:=hq
   cases e' with
   | normal=>exact wpIn_mono (IH y hc.2 _ _ _ _ _ hx ρ' w' a' B s q2 q3.rep q4) fun e' a' w' hq=>hq.trans q3
   | _=>exact q1.elim
  ·rename_i h1
   refine wpIn_seq (wpIn_mono (IH x hc.1 _ _ _ _ _ hx ρ w a B s ha hr hf) fun e' a' w' hq=>?_)
   cases e' with
   | normal =>
    cases e with
    | nor=>exact absurd hx (h1 σ' h')
    | _=>exact hq.1.elim
   | _=>exact hq
 | cond cc x y =>
  replace hx:qq2 cc x y X g (ex X j).cf ((ex X j).rc g) σ h=some (e,σ',h'):=hx
  simp only[cOk,Jz] at hc
  unfold qq2 at hx
  split at hx
  ·rename_i hv
   exact wpIn_cond_true (ha.ev hv) (IH x hc.1 _ _ _ _ _ hx ρ w a B s ha hr hf)
  ·rename_i hv
   exact wpIn_cond_false (ha.ev hv) (IH y hc.2 _ _ _ _ _ hx ρ w a B s ha hr hf)
  ·cases hx
 | block i x =>
  replace hx:qkn i x X g (ex X j).cf ((ex X j).rc g) σ h=some (e,σ',h'):=hx
  simp only[cOk] at hc
  unfold qkn at hx
  split at hx
  ·rename_i k σ1 h1 h2
   refine wpIn_block (wpIn_mono (IH x hc _ _ _ _ _ h2 ρ w a B s ha hr hf) fun e' a' w' hq=>?_)
   obtain⟨q1,hq⟩:=hq
   cases e' with
   | exit k' =>
    have q1:k=k':=q1
    subst q1
    simp only[Exit.inBlock]
    split at hx
    ·rename_i hb
     cases hx
     rw[if_pos (Jo hb).symm]
     exact⟨trivial,hq⟩
    ·rename_i hb
     cases hx
     rw[if_neg (fun e=>Jr hb e.symm)]
     exact⟨rfl,hq⟩
   | _=>exact q1.elim
  ·rename_i h1
   refine wpIn_block (wpIn_mono (IH x hc _ _ _ _ _ hx ρ w a B s ha hr hf) fun e' a' w' hq=>?_)
   cases e' with
   | exit k' =>
    cases e with
    | exit k=>exact absurd hx (h1 k σ' h')
    | _=>exact hq.1.elim
   | _=>exact hq
 | scope x =>
  replace hx:(ex X j).rc g x σ h=some (e,σ',h'):=hx
  simp only[cOk] at hc
  refine q9c (wpIn_mono (IH x hc _ _ _ _ _ hx ρ w a B s ha hr hf) fun e' a' w' hq=>?_)
  cases e' with
  | goto l=>cases e<;>exact hq.1.elim
  | _=>exact hq
 | loop x =>
  simp only[cOk] at hc
  refine wpIn_loop_ghost (fun k a1 w1=>k<=j+1/\∃ σ1 h1 ρ1,(ex X k).rc g (.loop x) σ1 h1=some (e,σ',h')/\AgA ρ1 σ1 a1/\Stp w0 ρ h w ρ1 h1 w1/\Fm rf n s B ρ1 h1 w1 a1) (j+1) ⟨Jq _,σ,h,ρ,hx,ha,.refl hr,hf⟩ fun k a1 w1 hI=>?_
  obtain⟨hk,σ1,h1,ρ1,hx1,ha1,hs1,hf1⟩:=hI
  cases k with
  | zero=>cases hx1
  | succ k =>
  replace hx1:qq3 x X g (ex X k).cf ((ex X k).rc g) σ1 h1=some (e,σ',h'):=hx1
  have IHk:=ih k (by omega) (by omega)
  unfold qq3 at hx1
  split at hx1
  ·rename_i σ2 h2 h3
   refine wpIn_mono (IHk x hc _ _ _ _ _ h3 ρ1 w1 a1 B s ha1 hs1.rep hf1) fun e' a' w' hq=>?_
   obtain⟨q1,ρ',q2,q3,q4⟩:=hq
   cases e' with
   | normal=>exact⟨k,Js k,by omega,σ2,h2,ρ',hx1,q2,hs1.trans q3,q4⟩
   | _=>exact q1.elim
  ·rename_i hno
   refine wpIn_mono (IHk x hc _ _ _ _ _ hx1 ρ1 w1 a1 B s ha1 hs1.rep hf1) fun e' a' w' hq=>?_
   cases e' with
   | normal =>
    cases e with
    | nor=>exact absurd hx1 (hno σ' h')
    | _=>exact hq.1.elim
   | _=>exact hq.trans hs1
 | rangeFunc f ps asg bd =>
  replace hx:eRf f ps asg bd X g (ex X j).cf ((ex X j).rc g) σ h=some (e,σ',h'):=hx
  simp only[cOk,Jz] at hc
  obtain⟨⟨⟨hrt,hps⟩,hasg⟩,hbd⟩:=hc
  have hr0:=hrf hrt
  subst hr0
  unfold eRf at hx
  split at hx
  case h_2=>cases hx
  rename_i id fs cs hv
  split at hx
  case h_2=>cases hx
  rename_i hbod
  split at hx
  case h_2=>cases hx
  rename_i y h2 hcf
  split at hx
  case h_2=>cases hx
  rename_i hgd
  refine wpIn_rangeFunc fun fn _=>?_
  have hz:=hZ g n ps.toList asg bd hps hasg hbd
  have hs1:=hr.new (o:=.d) (ob:=.deferred (some [])) (z:=0) (by show(w.heap.push _)[w.heap.size]?=_; simp)
  have hd0:(ρ++[(⟨w.heap.size,0,0⟩:Nm)])[h.n]?=some ⟨w.heap.size,0,0⟩:=hr.last _
  have hs2:=hs1.rep.new (o:=.l g σ ps.toList asg bd 0 h.n) (ob:=lrec fn a.tmps ps asg bd w.heap.size .ready none) (z:=0) (by
   refine⟨fn,a.tmps,⟨w.heap.size,0,0⟩,?_,q0b (J5 _ _) hd0,fun t x hx=>?_,?_⟩
   ·show((w.alloc _).heap.push _)[(w.alloc _).heap.size]?=_
    rw[Array.getElem?_push,if_pos rfl,JI]
    rfl
   ·obtain⟨v,h3,h4⟩:=ha t x hx
    exact⟨v,h3,h4.mono ((J5 _ _).trans (J5 _ _))⟩
   ·rw[hf.1]; exact hz)
  have hst:=hs1.trans hs2
  have hn1:(ρ++[(⟨w.heap.size,0,0⟩:Nm)]++[⟨(w.alloc (.deferred (some []))).heap.size,0,0⟩])[h.n+1]?=some ⟨(w.alloc (.deferred (some []))).heap.size,0,0⟩:=hs1.rep.last _
  have hsz:(w.alloc (.deferred (some []))).heap.size=w.heap.size+1:=by show(w.heap.push _).size=_; simp
  have hcb:=(hCj _ _ _ _ _ hcf _ _ (a.eval f) [.func (.yield (w.heap.size+1)) #[] #[]] hst.rep ((ha.ev hv).mono hst.pre) ⟨_,_,rfl,⟨_,hn1,by rw[hsz]⟩,rfl⟩).2 _ _ _ rfl hbod
  obtain⟨gf,first,cap,hfv,hcall,hF⟩:=hcb
  refine⟨w.heap.size+1,[mk w.heap.size],(w.alloc (.deferred (some []))).alloc (lrec fn a.tmps ps asg bd w.heap.size .ready none),{ target:=.fn (.func gf) cap,args:=first++#[.func (.yield (w.heap.size+1)) #[] #[]] },(w.alloc (.deferred (some []))).alloc (lrec fn a.tmps ps asg bd w.heap.size .ready none),gf,_,_,run_enterLoop_outer _ _ _ _ _,?_,fun _ _=>trivial,?_,q1n,q9a (hF.mono fun e w' he=>?_)⟩
  ·simp only[resolve,hfv]
   simp[Act.eval,Deferred.ofValue]
  ·simp only[invoke,hcall]
  ·obtain⟨u,rfl,ρ',-,hs3⟩:=he
   have hall:=hst.trans hs3
   have hd1:=q0b hs3.pre (q0b (J5 _ _) hd0)
   have hl1:=q0b hs3.pre hn1
   obtain⟨qd,hqd,hod⟩:=hs3.rep.ob _ _ hgd trivial
   rw[hd1] at hqd
   cases hqd
   have fin:∀ {x:Ob} {ob:Obj},h2.get (h.n+1)=some x->liv x->∀ e,e=Ex.nor\/e=Ex.ret->∃ ρ'',AgA ρ'' σ a/\Stp w0 ρ h w ρ'' ((h2.del (h.n+1)).del h.n) (w'.putObj (w.heap.size+1) ob)/\Fm rf n s B ρ'' ((h2.del (h.n+1)).del h.n) (w'.putObj (w.heap.size+1) ob) { a with defers:=[mk w.heap.size]++a.defers }:=fun {x ob} hx hlx e _=>by
    have hsd:=hs3.rep.del (w':=w'.putObj (w.heap.size+1) ob) hx hlx hl1 (by rw[hsz]; exact⟨by simp[World.putObj],fun b _ hne=>by simp[World.putObj,Ne.symm hne],rfl,rfl,rfl⟩)
    have hdr:=hsd.rep.drop h.n
    have hfin:=hall.trans (hsd.trans hdr)
    refine⟨ρ',ha.mono hfin.pre,hfin,?_⟩
    obtain⟨_,h2',D,_,hnd,h3,h4⟩:=hf.stp (a':=a) hfin hf.1 rfl
    have hlo:∀ d∈D,d<w.heap.size:=by
     obtain⟨_,_,D',_,_,h3',h4'⟩:=hf
     have hDD:D=D':=by
      have:=List.append_cancel_right (h3.symm.trans h3')
      exact List.map_inj_right (fun x y he=>by simpa [mk] using he) |>.1 this
     subst hDD
     exact fun d hd=>(JC.1 (h4' d hd).2.1).1
    refine⟨hf.1,h2',w.heap.size :: D,(fun h=>by rw[hrt] at h; cases h),Jl.2 ⟨fun hm=>Nat.lt_irrefl _ (hlo _ hm),hnd⟩,by simp[h3,mk],fun d hd=>?_⟩
    rcases Jg.1 hd with rfl | hd
    ·refine⟨hf.2.1,?_,fun⟨n1,y1,p1,hy,hly,hp,hb⟩=>?_⟩
     ·have:(w'.putObj (w.heap.size+1) ob).heap[w.heap.size]?=w'.heap[w.heap.size]?:=by simp[World.putObj]
      rw[this]; exact hod
     ·obtain⟨g1,g2⟩:=q2f hy hly
      exact g1 (hs3.rep.inj _ _ _ _ _ _ (q2f g2 hly).2 hly hgd trivial hp hd1 hb)
    ·exact h4 d hd
   split at hx
   ·rename_i hgl
    cases hx
    obtain⟨q1,hq1,fn1,tm1,q2,hl,-⟩:=hs3.rep.ob _ _ hgl trivial
    rw[hl1] at hq1
    cases hq1
    simp only[hsz] at hl
    obtain⟨ρ'',e1,e2,e3⟩:=fin hgl trivial .nor (.inl rfl)
    exact⟨none,_,run_endLoop hl (by simp[lst]),trivial,ρ'',e1,e2,e3⟩
   ·rename_i hgl
    cases hx
    obtain⟨q1,hq1,fn1,tm1,q2,hl,-⟩:=hs3.rep.ob _ _ hgl trivial
    rw[hl1] at hq1
    cases hq1
    simp only[hsz] at hl
    obtain⟨ρ'',e1,e2,e3⟩:=fin hgl trivial .ret (.inr rfl)
    exact⟨some .ret,_,run_endLoop hl (by simp[lst]),wpIn_ret ⟨trivial,ρ'',e1,e2,e3⟩⟩
   ·cases hx
 | _=>cases hx
end
def CN (P:Program)(g:Nat)(args:Array Value)(w:World)(K:VW):Prop :=
 ((∀ args w,(callFunc g args).run P w=.ok (.enter g args) w)/\Calls P g args w fun e w'=>∃ u,e=.returned u/\K u w')\/∃ u w',(callFunc g args).run P w=.ok (.value u) w'/\K u w'
theorem CN.cw {P:Program}{g:Nat}{first cap:Array Value}{us:List Value}{w:World}{K:VW}(h:CN P g (first.toList++(us++cap.toList)).toArray w K):CW P (.func (.func g) first cap) us w K:=by
 have e:(first.toList++(us++cap.toList)).toArray=first++us.toArray++cap:=by apply JG.1; simp
 rw[e] at h
 rcases h with h | ⟨u,w',h1,h2⟩
 ·exact .inl h
 ·exact .inr ⟨g,first,cap,u,w',rfl,h1,h2⟩
def KnOk [Zc](X:Cx)(w0:World):Prop :=
 ∀ g xs h y h',X.kn g xs h=some (y,h')->∀ ρ w us,Rep w0 ρ h w->VRs ρ xs us->CN X.P g us.toArray w fun v w'=>∃ ρ',VR ρ' y v/\Stp w0 ρ h w ρ' h' w'
def rfB:Code->Bool
 | .seq (.region _ ops _) _=>match ops.toList with
  | ⟨_,.call ⟨.builtin .recover,_,_⟩,_,_,_,_⟩ :: _=>false
  | _=>true
 | _=>true
def fnOk (X:Cx)(id:Nat)(fn:Func):Prop :=
 X.P.funcs[id]?=some fn/\(fn.name == "runtime.NumGoroutine")=false/\∀ c,fn.body=some c->cOk X.pl id fn.ntmps (rfB c) c=true
theorem qbn {pl:Nat->Nat->Option (List Pl)}{g n:Nat}{rf:Bool}:∀ {c:Code},cOk pl g n rf c=true->cOk pl g n true c=true:=by
 intro c
 induction c with
 | seq a b iha ihb=>intro h; simp only[cOk,Jz] at h ⊢; exact⟨iha h.1,ihb h.2⟩
 | cond c a b iha ihb=>intro h; simp only[cOk,Jz] at h ⊢; exact⟨iha h.1,ihb h.2⟩
 | block i a ih=>intro h; simp only[cOk] at h ⊢; exact ih h
 | loop a ih=>intro h; simp only[cOk] at h ⊢; exact ih h
 | scope a ih=>intro h; simp only[cOk] at h ⊢; exact ih h
 | rangeFunc f ps asg bd _ _=>intro h; simp only[cOk,Jz] at h ⊢; exact⟨⟨⟨trivial,h.1.1.2⟩,h.1.2⟩,h.2⟩
 | _=>intro h; exact h
abbrev zcOf (pl:Nat->Nat->Option (List Pl)):Zc where
 z g n ps asg bd:=ps.all (fun t=>Jx t n)=true/\cOk pl g n false asg=true/\cOk pl g n false bd=true
section
variable {X:Cx}{P:Program}{w0 w w':World}{ρ ρ':Rn}{h h':H}{σ σ':Sg}{a a':Act}{n:Nat}
theorem zipS_get:∀ (xs:List AV) (n:Nat) (σ:Sg) (t:Nat) (x:AV),sget (zipS n xs σ) t=some x->(n<=t/\xs[t-n]?=some x)\/sget σ t=some x
 | [],_,_,_,_,h=>.inr h
 | v :: r,n,σ,t,x,h=>by
  rcases zipS_get r (n+1) _ t x h with⟨h1,h2⟩ | h1
  ·exact .inl ⟨by omega,by rw[show t-n=(t-(n+1))+1 by omega]; simpa using h2⟩
  ·rcases Tr.get_set (d:=8) (show Tr.get (Tr.set n v 8 σ n) t t=some x from h1) with⟨rfl,rfl⟩ | ⟨_,h2⟩
   ·exact .inl ⟨Jq _,by simp⟩
   ·exact .inr h2
theorem qdi [Zc] {xs:List AV}{us:List Value}{m:Nat}(hv:VRs ρ xs us):AgA ρ (zipS 0 xs .lf) { tmps:=us.toArray++JJ (m-us.toArray.size) undef,defers:=[] }:=by
 intro t x hx
 rcases zipS_get xs 0 .lf t x hx with⟨_,h2⟩ | h1
 ·obtain⟨u,h3,h4⟩:=hv.at (by simpa using h2)
  have hlt:t<us.length:=(J3.1 h3).1
  exact⟨u,by rw[Array.getElem?_append_left (by simpa using hlt)]; simpa using h3,h4⟩
 ·exact absurd h1 (by unfold sget; rw[Tr.get_lf]; simp)
theorem qgv:∀ {ps:List Nat} {xs:List AV} {us:List Value} {σ:Sg} {tmps:Array Value},ps.all (fun t=>Jx t tmps.size)=true->VRs ρ xs us->AgA ρ σ { tmps,defers:=[] } ->
  AgA ρ (zipP ps xs σ) { tmps:=(ps.zip us).foldl (fun tmps (t,a)=>tmps.setIfInBounds t a) tmps,defers:=[] }/\((ps.zip us).foldl (fun tmps (t,a)=>tmps.setIfInBounds t a) tmps).size=tmps.size
 | [],_,_,_,_,_,_,ha=>⟨ha,rfl⟩
 | t :: ps,[],us,σ,tmps,_,hv,ha=>by cases hv; exact⟨ha,rfl⟩
 | t :: ps,x :: xs,us,σ,tmps,hp,hv,ha=>by
  obtain⟨u,s,rfl,h1,h2⟩:=hv
  simp only[List.all_cons,Jz] at hp
  have hp2:Jx t tmps.size=true/\ps.all (fun t=>Jx t (tmps.setIfInBounds t u).size)=true:=⟨hp.1,by simpa using hp.2⟩
  have h3:=ha.put (d:=some t) (x:=x) (v:=u) (fun t' ht=>by cases ht; exact blt_eq hp.1) h1
  have:=qgv (ps:=ps) (tmps:=tmps.setIfInBounds t u) (by simpa using hp.2) h2 h3
  refine⟨this.1,this.2.trans (by simp)⟩
theorem qff [Zc] (ha:AgA ρ σ a)(hr:Rep w0 ρ h w):∀ {l:List ResultVar} {vs:List AV},resX P σ h l=some vs->∃ us,VRs ρ vs us/\(l.mapM (resF a.tmps)).run P w=.ok us w
 | [],vs,hx=>by cases hx; exact⟨[],rfl,by simp⟩
 | .tmp t :: r,vs,hx=>by
  unfold resX at hx
  split at hx
  case h_2=>cases hx
  rename_i v hv
  split at hx
  case h_2=>cases hx
  rename_i vs' hvs
  cases hx
  obtain⟨us,h1,h2⟩:=qff ha hr hvs
  obtain⟨u,h3,h4⟩:=ha t v hv
  refine⟨u :: us,⟨u,us,rfl,h4,h1⟩,?_⟩
  simp only[Jm,Sem.run_bind,resF,Sem.run_pure,Result.andThen_ok,h2]
  simp[h3]
 | .cell c t :: r,vs,hx=>by
  unfold resX at hx
  split at hx
  case h_2=>cases hx
  rename_i b o hv
  split at hx
  case h_2=>cases hx
  rename_i v hld
  split at hx
  case h_2=>cases hx
  rename_i vs' hvs
  cases hx
  obtain⟨us,h1,h2⟩:=qff ha hr hvs
  obtain⟨u,h3,q',hq',rfl⟩:=ha c _ hv
  obtain⟨q,ws,y,hq,h5,_,h6,h7⟩:=ql0 hr hld
  rw[hq] at hq'
  cases hq'
  refine⟨y :: us,⟨y,us,rfl,h5,h1⟩,?_⟩
  have hg:a.tmps.getD c undef=.pointer (some ⟨q'.b,q'.o+o,none⟩):=by simp[h3]
  have hadd:(asAddr (.pointer (some ⟨q'.b,q'.o+o,none⟩)):Sem Addr).run P w=.ok ⟨q'.b,q'.o+o,none⟩ w:=rfl
  simp only[Jm,Sem.run_bind,resF,hg,hadd,Result.andThen_ok,h7 w h6,h2,Sem.run_pure]
noncomputable def oneA:List AV->AV
 | [v]=>v
 | vs=>.tu vs
theorem q6q [Zc] {fn:Func}(ha:AgA ρ σ a)(hr:Rep w0 ρ h w){vs:List AV}(hx:resX P σ h fn.results.toList=some vs):∃ v,(results fn a.tmps).run P w=.ok v w/\VR ρ (oneA vs) v:=by
 obtain⟨us,h1,h2⟩:=qff ha hr hx
 refine⟨_,by
  rw[q6a,JH]
  simp only[Sem.run_bind,Sem.run_map]
  rw[h2]
  simp only[Result.andThen_ok,Sem.run_pure]; rfl,?_⟩
 cases vs with
 | nil=>cases h1; exact⟨#[],rfl,rfl⟩
 | cons v r =>
  obtain⟨u,s,rfl,h3,h4⟩:=h1
  cases r with
  | nil=>cases h4; exact h3
  | cons v2 r =>
   obtain⟨u2,s2,rfl,h5,h6⟩:=h4
   exact⟨_,rfl,u,_,rfl,h3,u2,_,rfl,h5,h6⟩
theorem qdj [Zc] {s:Nat}(hs0:w0.heap.size<=s):∀ (D:List Nat) (w:World),D.Nodup->Rep w0 ρ h w->(∀ d∈D,s<=d/\w.heap[d]?=some (.deferred (some []))/\¬Im ρ h d)->∀ {k:World->Prop},(∀ w',Rep w0 ρ h w'->Fr (fun b=>s<=b) w w'->k w')->retD D w k
 | [],w,_,hr,_,_,hk=>hk w hr Fr.refl
 | d :: D,w,hn,hr,hd,k,hk=>by
  obtain⟨h1,h2,h3⟩:=hd d (by simp)
  rw[Jl] at hn
  have hf:Fr (fun b=>b=d) w (w.putObj d (.deferred none)):=⟨by simp[World.putObj],fun b _ hne=>by simp[World.putObj,Ne.symm hne],rfl,rfl,rfl⟩
  have hr':Rep w0 ρ h (w.putObj d (.deferred none)):=by
   refine⟨hr.len,hr.fr.trans hf fun b hb hlt=>?_,fun q hq=>⟨(hr.lo q hq).1,Jp (hr.lo q hq).2 hf.1⟩,fun b y hy hly=>?_,hr.inj⟩
   ·subst hb; omega
   ·obtain⟨q,hq,ho⟩:=hr.ob b y hy hly
    exact⟨q,hq,ho.mono (Jf _) (hf.2.1 _ (hr.lo q (J4 hq)).2 fun e=>h3 ⟨b,y,q,hy,hly,hq,e⟩)⟩
  refine⟨h2,qdj hs0 D _ hn.2 hr' (fun x hx=>?_) fun w' hw hfw=>hk w' hw ((hf.mono fun b hb=>by subst hb; exact h1).trans hfw fun b hb _=>hb)⟩
  obtain⟨g1,g2,g3⟩:=hd x (by simp[hx])
  exact⟨g1,(hf.2.1 _ (JC.1 g2).1 fun e=>hn.1 (e ▸ hx)).trans g2,g3⟩
theorem qle [Zc] {g n:Nat}{ops:Array Oper}{Q:Exit->Act->List Frame->World->Prop}{cs:List Frame}:∀ (os:List Oper) (i:Nat) (σ:Sg) (a:Act),(∀ j,j<os.length->os[j]?=ops[i+j]?)->(∀ o∈os,dOk g o=true)->a.tmps.size=g->AgA ρ σ a->runP P os σ=some σ' ->
  (∀ a',a'.tmps.size=g->a'.defers=a.defers->AgA ρ σ' a'->Q .normal a' cs w)->wpOpsSIn Fence.wide n P ops Q (J8 i os.length) a cs w
 | [],i,σ,a,_,_,hn,ha,h1,hk=>by cases h1; exact hk a hn rfl ha
 | o :: os,i,σ,a,hos,hd,hn,ha,h1,hk=>by
  have hi:ops[i]?=some o:=by have:=hos 0 (by simp); simpa using this.symm
  have hos':∀ j,j<os.length->os[j]?=ops[i+1+j]?:=fun j hj=>by
   have:=hos (j+1) (by simpa using hj)
   simp only[List.getElem?_cons_succ] at this
   rw[this,show i+1+j=i+(j+1) by omega]
  unfold runP at h1
  split at h1
  ·cases h1
  rename_i hg
  split at h1
  case h_2=>cases h1
  rename_i v hv
  obtain⟨u,hu,hpu⟩:=qkz hv ha
  obtain⟨h2,h3,h4⟩:=ha.putd hn (hd o (by simp)) hu
  have hw:Region.wanted o (yielded ops a.tmps)=true:=by simp[Region.wanted,hg]
  simp only[List.length_cons,Jj,wpOpsSIn,hi,hw,if_true,hpu w]
  exact⟨fun _ _=>trivial,qle os (i+1) _ _ hos' (fun o ho=>hd o (by simp[ho])) h3 h2 h1 fun a' g1 g2 g3=>hk a' g1 (g2.trans h4) g3⟩
theorem dfr_ok [Zc] {j:Nat}(hX:∀ id fn,X.fs id=some fn->fnOk X id fn)(hR:∀ id n rf,Rok X w0 id n rf none j){f:AV}(hx:dfr X (ex X j).rc f h=some h')(hr:Rep w0 ρ h w){u:Value}(hf:VR ρ f u) :
  ∃ (id:Nat) (vs bs:Array Value),u=.func (.func id) vs bs/\(∀ args w,(callFunc id args).run X.P w=.ok (.enter id args) w)/\CallsDIn Fence.wide 0 X.P id (vs++bs) .returning w fun e u' w'=>u'=.returning/\(∃ v,e=.returned v)/\∃ ρ',Stp w0 ρ h w ρ' h' w':=by
 unfold dfr at hx
 split at hx
 case h_2=>cases hx
 rename_i id fs cs
 split at hx
 case h_2=>cases hx
 rename_i fn hfn
 split at hx
 case h_2=>cases hx
 rename_i rid ops r hb
 split at hx
 case h_2=>cases hx
 rename_i d ats ty pos aft os hops
 split at hx
 case h_2=>cases hx
 rename_i hle
 split at hx
 case h_2=>cases hx
 rename_i σ1 hrun
 obtain⟨hf1,hf2,hf3⟩:=hX _ _ hfn
 obtain⟨vs,bs,rfl,hvs,hbs⟩:=hf
 have hcode:=hf3 _ hb
 simp only[rfB,hops,cOk,Jz] at hcode
 obtain⟨⟨hdo,_⟩,hcr⟩:=hcode
 rw[← hops] at hdo
 have hdo':∀ o∈ops.toList,dOk fn.ntmps o=true:=fun o ho=>J7.1 hdo o ho
 have hall:VRs ρ (app fs cs) (vs.toList++bs.toList):=by rw[q4o]; exact hvs.append hbs
 have hsz:(vs.toList++bs.toList).length<=fn.ntmps:=by
  have:=Jt hle
  rw[q13] at this
  rw[hall.length]; exact this
 have eqa:(vs.toList++bs.toList).toArray=vs++bs:=by apply JG.1; simp
 refine⟨id,vs,bs,rfl,fun args w=>?_,callsDIn_of_wpSIn hf1 hb trivial fun c₀ cs₀ hu=>?_⟩
 ·have h1:fn.name ≠ "runtime.NumGoroutine":=by simpa using hf2
  simp[callFunc,hf1,h1,hb]
 refine wpSIn_seq (wpSIn_region ?_)
 have hag:=qdi (m:=fn.ntmps) hall
 rw[eqa] at hag
 have hon:ops[0]?=some ⟨d,.call ⟨.builtin .recover,⟨[]⟩,ats⟩,ty,pos,aft,none⟩:=by rw[← JF,hops]; rfl
 have hlen:ops.size=os.length+1:=by rw[← JE,hops]; rfl
 rw[hlen,Jc,Jj]
 obtain⟨g1,g2,g3⟩:=hag.putd (o:=⟨d,.call ⟨.builtin .recover,⟨[]⟩,ats⟩,ty,pos,aft,none⟩) (x:=.ni) (v:=.nilIface) (n:=fn.ntmps) (by simp; simp at hsz; omega) (hdo' _ (by rw[hops]; simp)) rfl
 have hrec:recoverD (c₀ :: cs₀)=none:=by simp[recoverD,hu]
 have hexec:∀ (a:Act) (w:World),(execOp a.eval ⟨d,.call ⟨.builtin .recover,⟨[]⟩,ats⟩,ty,pos,aft,none⟩).run X.P w=.ok .recover w:=fun a w=>by
  rfl
 simp only[wpOpsSIn,hon]
 rw[if_pos (by simp[Region.wanted])]
 simp only[hexec,hrec]
 refine⟨fun _ _=>trivial,?_⟩
 refine qle (ρ:=ρ) (g:=fn.ntmps) os 1 _ _ (fun j hj=>?_) (fun o ho=>hdo' o (by rw[hops]; simp[ho])) g2 g1 hrun fun a' h1 h2 h3=>?_
 ·rw[← JF,hops,Nat.add_comm 1 j]; rfl
 have key:∀ e σ2 h2',(ex X j).rc id r σ1 h=some (e,σ2,h2')->(∀ i,e≠.exit i)->h2'=h'->fn.results.toList=[] ->
   r.wpSIn Fence.wide 0 X.P (bodyPostS X.P fn c₀ cs₀ fun e u' w'=>u'=.returning/\(∃ v,e=.returned v)/\∃ ρ',Stp w0 ρ h w ρ' h' w') a' (c₀ :: cs₀) w:=by
  rintro e σ2 h2' hrc hne rfl hres
  refine wpSIn_of_wpIn rfl (wpIn_mono (hR id fn.ntmps false r hcr _ _ _ _ _ hrc ρ w a' [] w.heap.size h3 hr ⟨h1,Jq _,[],fun _=>rfl,J6,(by rw[h2]; cases d<;>rfl),by simp⟩) fun e' a2 w' hq=>?_)
  obtain⟨q1,ρ',q2,q3,q4,_,D,hD,_,hdef,_⟩:=hq
  have hd0:a2.defers=[]:=by rw[hdef,hD rfl]; rfl
  have hc0:c₀ :: cs₀={ c₀ with mode:=FrameMode.returning } :: cs₀:=by rw[← hu]
  have hresr:(results fn a2.tmps).run X.P w'=.ok (.tuple #[]) w':=by
   rw[q6a,JH,hres]
   simp
  cases e' with
  | normal=>exact⟨hd0,.returning,hc0,_,hresr,rfl,⟨_,rfl⟩,ρ',q3⟩
  | ret=>exact⟨hd0,.returning,hc0,_,hresr,rfl,⟨_,rfl⟩,ρ',q3⟩
  | exit i=>cases e<;>first | exact q1.elim | exact absurd rfl (hne _)
  | _=>cases e<;>exact q1.elim
 split at hx
 ·cases hx
 ·rename_i e σ2 h2' hno hrc
  split at hx
  ·rename_i hres
   cases hx
   exact key e σ2 _ hrc (fun i he=>hno i he) rfl hres
  ·cases hx
 ·cases hx
theorem qgw {pl:Nat->Nat->Option (List Pl)}{g n:Nat}:∀ {c:Code},cOk pl g n true c=true->q8l c=true->cOk pl g n false c=true:=by
 intro c
 induction c with
 | seq a b iha ihb =>
  intro h hn
  simp only[cOk,Jz] at h ⊢
  unfold q8l at hn
  split at hn
  ·rename_i h1; exact⟨iha h.1 h1,ihb h.2 hn⟩
  ·cases hn
 | cond c a b iha ihb =>
  intro h hn
  simp only[cOk,Jz] at h ⊢
  unfold q8l at hn
  split at hn
  ·rename_i h1; exact⟨iha h.1 h1,ihb h.2 hn⟩
  ·cases hn
 | block i a ih=>intro h hn; simp only[cOk] at h ⊢; exact ih h hn
 | loop a ih=>intro h hn; simp only[cOk] at h ⊢; exact ih h hn
 | scope a ih=>intro h hn; simp only[cOk] at h ⊢; exact ih h hn
 | rangeFunc f ps asg bd _ _=>intro _ hn; cases hn
 | _=>intro h _; exact h
theorem qlf [Zc] {j g n s:Nat}(hC:Cok X w0 (ex X j).cf)(hR:Rok X w0 g n false none j){Q:Exit->Act->World->Prop}{z:Option (AV × Code)}{σ1:Sg}{h1:H}:∀ (c:Code) (σ:Sg) (h:H) (ρ:Rn) (w:World) (a:Act),dpre X (ex X j).cf ((ex X j).rc g) c σ h=some (z,σ1,h1)->cOk X.pl g n true c=true->AgA ρ σ a->Rep w0 ρ h w ->
  a.tmps.size=n->a.defers=[]->s<=w.heap.size->(∀ ρ' a' w' f r u,z=some (f,r)->AgA ρ' σ1 a'->Stp w0 ρ h w ρ' h1 w'->a'.tmps.size=n->cOk X.pl g n true r=true->VR ρ' f u->(∀ id (vs bs:Array Value),u=.func (.func id) vs bs->a'.defers=[{ target:=.fn (.func id) bs,args:=vs }])->r.wpIn (fen none) 0 X.P Q a' w') ->
  (∀ ρ' a' w',z=none->AgA ρ' σ1 a'->Stp w0 ρ h w ρ' h1 w'->a'.tmps.size=n->a'.defers=[]->Q .ret a' w')->c.wpIn (fen none) 0 X.P Q a w:=by
 intro c
 induction c with
 | seq x r' _ ihr =>
  intro σ h ρ w a hx hc ha hr hn hd hs hk hq
  unfold dpre at hx
  simp only[cOk,Jz] at hc
  obtain⟨hcx,hcr⟩:=hc
  split at hx
  ·split at hx
   case h_2=>cases hx
   rename_i rid ops _ _
   split at hx
   case h_2=>cases hx
   rename_i d f' ats ty pos aft hback
   split at hx
   case h_2=>cases hx
   rename_i σ2 h2 hrun
   split at hx
   case h_2=>cases hx
   rename_i id fs cs hfv
   cases hx
   simp only[cOk,Jz] at hcx
   obtain⟨hdo,_⟩:=hcx
   have hdo':∀ o∈ops.toList,dOk n o=true:=fun o ho=>J7.1 hdo o ho
   have hb:ops[ops.size-1]?=some ⟨d,.defer ⟨.value f',⟨[]⟩,ats⟩,ty,pos,aft,none⟩:=by rw[← hback]; simp[Array.back?]
   have hpos:0<ops.size:=by have:=(JC.1 hb).1; omega
   have hat:∀ j,j<ops.pop.toList.length->ops.pop.toList[j]?=ops[0+j]?:=by
    intro j hj
    simp only[JE,JK] at hj
    rw[JF,Nat.zero_add,Array.getElem?_pop,if_pos hj]
   have hlast:List.range ops.size=J8 0 ops.pop.toList.length++[ops.size-1]:=by
    rw[Jc,JE,JK]
    obtain⟨k,hk⟩:∃ k,ops.size=k+1:=⟨ops.size-1,by omega⟩
    rw[hk,List.range'_concat]
    simp
   refine wpIn_seq (wpIn_region ?_)
   rw[hlast]
   refine qbi (r:=none) (m:=0) (n:=n) hC ops.pop.toList 0 ρ h w σ a hat (fun o ho=>hdo' o (by
    rw[Array.toList_pop] at ho
    exact List.dropLast_subset _ ho)) hn ha hr hrun fun ρ' a' w' g1 g2 g3 g4=>?_
   simp only[wpOpsIn,hb]
   rw[if_pos (by simp[Region.wanted])]
   have hfu:=g3.ev hfv
   refine⟨fun _ _=>trivial,?_⟩
   obtain⟨vs,bs,hu,hvs,hbs⟩:=hfu
   have hrun2:∀ o:Oper,o.op=.defer ⟨.value f',⟨[]⟩,ats⟩->(Oper.semAt (fen none).round a'.eval o).run X.P w'=.ok (.defer { target:=.fn (.func id) bs,args:=vs }) w':=fun o ho=>by
    show(execOp a'.eval o).run X.P w'=_
    simp[execOp,ho,resolve,hu,Deferred.ofValue]
   rw[hrun2 _ rfl,Oper.uponIn_defer]
   obtain⟨k1,k2,k3⟩:=AgA.putd (o:=⟨d,.defer ⟨.value f',⟨[]⟩,ats⟩,ty,pos,aft,none⟩) (a:={ a' with defers:={ target:=.fn (.func id) bs,args:=vs } :: a'.defers }) (n:=n) (x:=un0) (v:=undef) (show AgA ρ' σ2 _ from g3) g1 (hdo' _ (Array.mem_toList_iff.2 (JD hb))) q7d
   exact hk ρ' _ w' _ _ _ rfl k1 g4 k2 hcr ⟨vs,bs,rfl,hvs,hbs⟩ fun id' vs' bs' he=>by
    cases he
    rw[k3,g2,hd]
  ·split at hx
   case h_2=>cases hx
   rename_i hnr
   split at hx
   ·rename_i σ2 h2 hrc
    refine wpIn_seq (wpIn_mono (hR x (qgw hcx hnr) _ _ _ _ _ hrc ρ w a [] s ha hr ⟨hn,hs,[],fun _=>rfl,J6,hd,by simp⟩) fun e' a' w' hq'=>?_)
    obtain⟨q1,ρ',q2,q3,q4,q5,D,hD,_,hdef,_⟩:=hq'
    have hd':a'.defers=[]:=by rw[hdef,hD rfl]; rfl
    cases e' with
    | normal=>exact ihr σ2 h2 ρ' w' a' hx hcr q2 q3.rep q4 hd' q5 (fun ρ2 a2 w2 f r u k0 k1 k2 k3 k4 k5 k6=>hk ρ2 a2 w2 f r u k0 k1 (q3.trans k2) k3 k4 k5 k6) fun ρ2 a2 w2 k0 k1 k2 k3 k4=>hq ρ2 a2 w2 k0 k1 (q3.trans k2) k3 k4
    | _=>exact q1.elim
   ·rename_i σ2 h2 hrc
    cases hx
    refine wpIn_seq (wpIn_mono (hR x (qgw hcx hnr) _ _ _ _ _ hrc ρ w a [] s ha hr ⟨hn,hs,[],fun _=>rfl,J6,hd,by simp⟩) fun e' a' w' hq'=>?_)
    obtain⟨q1,ρ',q2,q3,q4,q5,D,hD,_,hdef,_⟩:=hq'
    have hd':a'.defers=[]:=by rw[hdef,hD rfl]; rfl
    cases e' with
    | ret=>exact hq ρ' a' w' rfl q2 q3 q4 hd'
    | _=>exact q1.elim
   ·cases hx
 | _=>intro σ h ρ w a hx; cases hx
theorem qnw [Zc] {fn:Func}{id j:Nat}(hX:∀ id fn,X.fs id=some fn->fnOk X id fn)(hC:Cok X w0 (ex X j).cf)(hf:fnOk X id fn)(hR:∀ id n rf,Rok X w0 id n rf none j){xs:List AV}{y:AV}(hx:enter X (ex X j).cf (ex X j).rc id fn xs h=some (y,h'))(hr:Rep w0 ρ h w){us:List Value}(hv:VRs ρ xs us) :
  (∀ args w,(callFunc id args).run X.P w=.ok (.enter id args) w)/\Calls X.P id us.toArray w fun e w'=>∃ u,e=.returned u/\∃ ρ',VR ρ' y u/\Stp w0 ρ h w ρ' h' w':=by
 obtain⟨hf1,hf2,hf3⟩:=hf
 unfold enter at hx
 split at hx
 case h_1=>cases hx
 rename_i code hb
 split at hx
 case h_1=>cases hx
 rename_i hle
 have hle':us.length<=fn.ntmps:=by
  rw[hv.length]
  have:=Jt hle
  rwa [q13] at this
 have hrun:∀ args w,(callFunc id args).run X.P w=.ok (.enter id args) w:=fun args w=>by
  have h1:fn.name ≠ "runtime.NumGoroutine":=by simpa using hf2
  simp[callFunc,hf1,h1,hb]
 refine⟨hrun,(callsIn_wide (n:=0)).1 (callsIn_of_wp_marks hf1 hb trivial ?_)⟩
 have fin:∀ (ρ':Rn) (a':Act) (w':World) (h2:H) (E:List Deferred),(∀ w2,Rep w0 ρ' h2 w2->Fr (fun b=>w.heap.size<=b) w' w2->LeavesInM Fence.wide 0 X.P fn a'.tmps (fun e w'=>∃ u,e=.returned u/\∃ ρ',VR ρ' y u/\Stp w0 ρ h w ρ' h' w') E .returning w2)->Rep w0 ρ' h2 w'->Fm true fn.ntmps w.heap.size E ρ' h2 w' a' ->
   LeavesInM Fence.wide 0 X.P fn a'.tmps (fun e w'=>∃ u,e=.returned u/\∃ ρ',VR ρ' y u/\Stp w0 ρ h w ρ' h' w') a'.defers .returning w':=by
  rintro ρ' a' w' h2 E hE q3 ⟨q4,_,D,_,hnd,hdef,hD⟩
  rw[hdef]
  exact q4v D w' _ (qdj hr.fr.1 D w' hnd q3 hD (k:=fun w2=>Rep w0 ρ' h2 w2/\Fr (fun b=>w.heap.size<=b) w' w2) fun w2 g1 g2=>⟨g1,g2⟩) fun w2 ⟨g1,g2⟩=>hE w2 g1 g2
 have hag:=qdi (m:=fn.ntmps) hv
 have hsz:({ tmps:=us.toArray++JJ (fn.ntmps-us.toArray.size) undef,defers:=[] }:Act).tmps.size=fn.ntmps:=by simp; omega
 split at hx
 case h_2=>cases hx
 rename_i σ1 h1 hmid
 have hval:∃ vs,resX X.P σ1 h1 fn.results.toList=some vs/\y=oneA vs/\h'=h1:=by
  split at hx
  ·rename_i v hres; cases hx; exact⟨_,hres,rfl,rfl⟩
  ·rename_i vs hne hres
   cases hx
   refine⟨vs,hres,?_,rfl⟩
   match vs,hne with
   | [],_=>rfl
   | [v],hne=>exact absurd rfl (hne v)
   | _ :: _ :: _,_=>rfl
  ·cases hx
 clear hx
 obtain⟨vs,hres,rfl,rfl⟩:=hval
 split at hmid
 ·split at hmid
  ·cases hmid
  ·rename_i e σ2 h2 hno hrc
   cases hmid
   refine wpIn_mono (hR id fn.ntmps true code (qbn (hf3 code hb)) _ _ _ _ _ hrc ρ w _ [] w.heap.size hag hr ⟨hsz,Jq _,[],fun _=>rfl,J6,rfl,by simp⟩) fun e' a' w' hq=>?_
   obtain⟨q1,ρ',q2,q3,q4⟩:=hq
   have:=fin ρ' a' w' _ [] (fun w2 g1 g2=>by
    obtain⟨v,h3,h4⟩:=q6q (P:=X.P) q2 g1 hres
    exact⟨v,h3,v,rfl,ρ',h4,q3.pre,g1,q3.fr.trans g2 fun b hb hlt=>by omega,q3.im⟩) q3.rep q4
   cases e' with
   | normal=>exact this
   | ret=>exact this
   | exit i=>cases e<;>first | exact q1.elim | exact absurd rfl (hno _)
   | _=>cases e<;>exact q1.elim
  ·cases hmid
 ·split at hmid
  ·rename_i σ2 h2 hpre
   cases hmid
   refine qlf hC (hR id fn.ntmps false) (s:=w.heap.size) code _ _ ρ w _ hpre (qbn (hf3 code hb)) hag hr hsz rfl (Jq _) (fun _ _ _ _ _ _ he=>by cases he) fun ρ1 a1 w1 _ k1 k2 k3 k4=>?_
   exact fin ρ1 a1 w1 _ [] (fun w2 g1 g2=>by
    obtain⟨v,h3,h4⟩:=q6q (P:=X.P) k1 g1 hres
    exact⟨v,h3,v,rfl,ρ1,h4,k2.pre,g1,k2.fr.trans g2 fun b hb hlt=>by omega,k2.im⟩) k2.rep ⟨k3,k2.fr.1,[],fun _=>rfl,J6,k4,by simp⟩
  case h_3=>cases hmid
  rename_i f r σ2 h2 hpre
  split at hmid
  ·cases hmid
  ·rename_i e σ3 h3 hno hrc
   split at hmid
   case h_2=>cases hmid
   rename_i h4 hdf
   cases hmid
   refine qlf hC (hR id fn.ntmps false) (s:=w.heap.size) code _ _ ρ w _ hpre (qbn (hf3 code hb)) hag hr hsz rfl (Jq _) (fun ρ1 a1 w1 f' r' u he k1 k2 k3 k4 k5 k6=>?_) fun _ _ _ he=>by cases he
   cases he
   have hfu:∃ (i:Nat) (us bs:Array Value),u=.func (.func i) us bs:=by
    unfold dfr at hdf
    split at hdf
    ·obtain⟨us,bs,rfl,_⟩:=k5; exact⟨_,us,bs,rfl⟩
    ·cases hdf
   obtain⟨i,us',bs,rfl⟩:=hfu
   refine wpIn_mono (hR id fn.ntmps true r k4 _ _ _ _ _ hrc ρ1 w1 a1 [{ target:=.fn (.func i) bs,args:=us' }] w.heap.size k1 k2.rep ⟨k3,k2.fr.1,[],fun _=>rfl,J6,by rw[k6 i us' bs rfl]; rfl,by simp⟩) fun e' a' w' hq=>?_
   obtain⟨q1,ρ',q2,q3,q4⟩:=hq
   have hst:=k2.trans q3
   have:=fin ρ' a' w' h3 [{ target:=.fn (.func i) bs,args:=us' }] (fun w2 g1 g2=>by
    obtain⟨id',us2,bs',he,hcall,hD⟩:=dfr_ok hX hR hdf g1 (k5.mono q3.pre)
    cases he
    refine⟨by simp,.inr ⟨q1n (r:=none),.func i,bs,i,us'++bs,rfl,?_,fun _ _=>trivial,hD.mono fun e u' w3 he=>?_⟩⟩
    ·simp only[invoke,hcall]
    ·obtain⟨rfl,⟨v0,rfl⟩,ρ3,hst3⟩:=he
     obtain⟨v,h5,h6⟩:=q6q (P:=X.P) (q2.mono hst3.pre) hst3.rep hres
     refine⟨v,h5,v,rfl,ρ3,h6,hst.pre.trans hst3.pre,hst3.rep,(hst.fr.trans g2 fun b hb hlt=>by omega).trans hst3.fr fun b hb hlt=>hst.im b hb hlt,fun b hb hlt=>hst.im b (hst3.im b hb (Jp hlt (Jy hst.fr.1 g2.1))) hlt⟩) q3.rep q4
   cases e' with
   | normal=>exact this
   | ret=>exact this
   | exit i=>cases e<;>first | exact q1.elim | exact absurd rfl (hno _)
   | _=>cases e<;>exact q1.elim
  ·cases hmid
theorem qop [Zc] {l s t:Nat}{w1:World}{h1 h2:H}(hx:stt h1 l s t=some h2)(hr:Rep w0 ρ h1 w1){q:Nm}(hq:ρ[l]?=some q) :
  ∃ fn tmps ps asg bd d,w1.heap[q.b]?=some (lrec fn tmps ps asg bd d (lst s).1 (lst s).2)/\Stp w0 ρ h1 w1 ρ h2 (w1.putObj q.b (lrec fn tmps ps asg bd d (lst t).1 (lst t).2)):=by
 unfold stt at hx
 split at hx
 case h_2=>cases hx
 rename_i g σ ps asg bd st d hg
 split at hx
 case h_2=>cases hx
 rename_i hs
 cases hx
 have:=Jo hs
 subst this
 obtain⟨q',hq',fn,tmps,qd,h3,h4,h5,h6⟩:=hr.ob _ _ hg trivial
 rw[hq] at hq'
 cases hq'
 refine⟨fn,tmps,_,asg,bd,qd.b,h3,hr.put (k:=l) (x:=.l g σ ps asg bd st d) hg trivial hq ?_ ⟨by simp[World.putObj],fun b _ hne=>by simp[World.putObj,Ne.symm hne],rfl,rfl,rfl⟩⟩
 have hlt:=(JC.1 h3).1
 exact⟨fn,tmps,qd,by simp[World.putObj,hlt],h4,h5,h6⟩
theorem cok (X:Cx)(hX:∀ id fn,X.fs id=some fn->fnOk X id fn)(hm:X.P.follows .mixedOrders=true)(w0:World)(hK:@KnOk (zcOf X.pl) X w0):∀ n,@Cok (zcOf X.pl) X w0 (ex X n).cf:=by
 letI:=zcOf X.pl
 intro n
 induction n using Jw with
 | ind n ih =>
 cases n with
 | zero=>intro f xs h y h' hx; cases hx
 | succ j =>
 intro f xs h y h' hx ρ w u us hr hf hv
 have hR:∀ (g n:Nat) (rf:Bool) (r:Option Nat),(rf=true->r=none)->Rok X w0 g n rf r j:=fun g n rf r hrf =>
  qqf hrf (fun g n ps asg bd h1 h2 h3=>(show _/\_/\_ from⟨h1,h2,h3⟩)) hm (N:=j) (fun i hi=>ih i (by omega)) j (Jq _)
 replace hx:qq4 X (ex X j).cf (ex X j).rc f xs h=some (y,h'):=hx
 unfold qq4 at hx
 split at hx
 ·rename_i l
  split at hx
  case h_2=>cases hx
  rename_i g σ ps asg bd st d hg
  split at hx
  case h_1=>cases hx
  rename_i hlen
  have hlen:=Jo hlen
  rw[q13,q13] at hlen
  split at hx
  case h_2=>cases hx
  rename_i σ1 h1 hrc
  split at hx
  case h_1=>cases hx
  rename_i h1' hst1
  obtain⟨q,hq,rfl⟩:=hf
  obtain⟨q',hq',fn,tmps,qd,g1,g2,g3,g4,g5,g6⟩:=hr.ob _ _ hg trivial
  rw[hq] at hq'
  cases hq'
  have hul:us.length=ps.length:=hv.length.trans hlen
  have hag:=qgv (tmps:=tmps) (σ:=σ) g4 hv fun t x hx=>g3 t x hx
  refine⟨.inl ?_,fun id fs cs he=>by cases he⟩
  show Yl X.P q.b (#[]++us.toArray) w _
  rw[show(#[]:Array Value)++us.toArray=us.toArray by simp]
  refine⟨fn,_,asg,bd,run_yield g1 (by simp[hul]),roundIn_of_wpIn trivial ?_⟩
  have hz:(ps.toArray.zip us.toArray).foldl (fun tmps (x:Tmp × Value)=>tmps.setIfInBounds x.1 x.2) tmps=(ps.zip us).foldl (fun tmps (x:Nat × Value)=>tmps.setIfInBounds x.1 x.2) tmps:=by
   rw[← Array.foldl_toList]
   simp
  have fin:∀ (e:Ex) (σ2:Sg) (h2 h3:H) (t:Nat) (jump:Option Code),(e=.nor/\t=0/\jump=none\/e=.ret/\t=2/\jump=some .ret)->(ex X j).rc g bd σ1 h1'=some (e,σ2,h2)->stt h2 l 1 t=some h3->y=.b jump.isNone->h'=h3 ->
    asg.wpIn (Fence.wide.inRound q.b) 0 X.P (Exit.then (fun a₁ w₁=>∃ w₂,(Instr.beginRound q.b).run X.P w₁=.ok () w₂/\bd.wpIn (Fence.wide.inRound q.b) 0 X.P (roundPost X.P q.b fun e w'=>∃ u,e=.returned u/\∃ ρ',VR ρ' y u/\Stp w0 ρ h w ρ' h' w') a₁ w₂) (fun _ _ _=>False))
     { tmps:=(ps.toArray.zip us.toArray).foldl (fun tmps (x:Tmp × Value)=>tmps.setIfInBounds x.1 x.2) tmps,defers:=[] } w:=by
   rintro e σ2 h2 h3 t jump het hrcb hst2 rfl rfl
   have hw:=hR g tmps.size false (some q.b) (by simp) asg g5 _ _ _ _ _ hrc ρ w _ [] w.heap.size hag.1 hr ⟨hag.2,Jq _,[],fun _=>rfl,J6,rfl,by simp⟩
   refine wpIn_mono (by rw[hz]; exact hw) fun e' a' w' hq=>?_
   obtain⟨q1,ρ1,q2,q3,q4⟩:=hq
   cases e' with
   | normal =>
    obtain⟨fn2,tmps2,ps2,as2,bd2,d2,k1,k2⟩:=qop hst1 q3.rep (q0b q3.pre hq)
    refine⟨_,run_beginRound k1 rfl,?_⟩
    have hb:=hR g tmps.size false (some q.b) (by simp) bd g6 _ _ _ _ _ hrcb ρ1 _ a' [] w.heap.size q2 k2.rep (q4.stp k2 q4.1 rfl)
    refine wpIn_mono hb fun e' a2 w2 hq2=>?_
    obtain⟨r1,ρ2,r2,r3,r4⟩:=hq2
    obtain⟨fn3,tmps3,ps3,as3,bd3,d3,k3,k4⟩:=qop hst2 r3.rep (q0b (q3.pre.trans (k2.pre.trans r3.pre)) hq)
    have hall:=q3.trans (k2.trans (r3.trans k4))
    rcases het with⟨rfl,rfl,rfl⟩ | ⟨rfl,rfl,rfl⟩
    ·cases e' with
     | normal=>exact⟨_,_,run_endRound none k3,_,rfl,ρ2,rfl,hall⟩
     | _=>exact r1.elim
    ·cases e' with
     | ret=>exact⟨_,_,run_endRound (some .ret) k3,_,rfl,ρ2,rfl,hall⟩
     | _=>exact r1.elim
   | _=>exact q1.elim
  split at hx
  ·rename_i σ2 h2 hrcb
   split at hx
   ·rename_i h3 hst2
    cases hx
    exact fin _ _ _ _ 0 none (.inl ⟨rfl,rfl,rfl⟩) hrcb hst2 rfl rfl
   ·cases hx
  ·rename_i σ2 h2 hrcb
   split at hx
   ·rename_i h3 hst2
    cases hx
    exact fin _ _ _ _ 2 (some .ret) (.inr ⟨rfl,rfl,rfl⟩) hrcb hst2 rfl rfl
   ·cases hx
  ·cases hx
 ·rename_i id first cap
  obtain⟨vs,bs,rfl,hvs,hbs⟩:=hf
  have hall:VRs ρ (app first (app xs cap)) (vs.toList++(us++bs.toList)):=by
   rw[q4o,q4o]
   exact hvs.append (hv.append hbs)
  have e:(vs.toList++(us++bs.toList)).toArray=vs++us.toArray++bs:=by apply JG.1; simp
  split at hx
  ·rename_i r hkn
   cases hx
   have hcn:=hK _ _ _ _ _ hkn ρ w _ hr hall
   refine⟨hcn.cw,fun id' fs cs he hb=>?_⟩
   cases he
   rcases hcn with⟨h1,h2⟩ | ⟨u,w2,h1,_⟩
   ·exact⟨id,vs,bs,rfl,h1,by rw[← e]; exact h2⟩
   ·exfalso
    unfold bod at hb
    split at hb
    case h_2=>cases hb
    rename_i fn hid
    split at hb
    case h_2=>cases hb
    rename_i c hbody
    obtain⟨hf1,hf2,_⟩:=hX _ _ hid
    have h3:fn.name ≠ "runtime.NumGoroutine":=by simpa using hf2
    simp[callFunc,hf1,h3,hbody] at h1
  ·split at hx
   ·cases hx
   ·rename_i fn hid
    have:=qnw hX (ih j (Js j)) (hX _ _ hid) (fun id n rf=>hR id n rf none fun _=>rfl) hx hr hall
    refine⟨CN.cw (.inl this),fun id' fs cs he _=>⟨id,vs,bs,rfl,this.1,?_⟩⟩
    rw[← e]; exact this.2
 ·cases hx
end
structure Fact where
 g:Nat
 xs:List AV
 B:List Ob
 y:AV
 B':List Ob
mutual
noncomputable def fstA:AV->Option Nat
 | .p (some (b,_))=>some b
 | .sl (some (b,_)) _ _ _=>some b
 | .m (some r)=>some r
 | .ag cs=>qlg cs
 | .tu cs=>qlg cs
 | _=>none
noncomputable def qlg:List AV->Option Nat
 | []=>none
 | x :: r=>match fstA x with
  | some b=>some b
  | none=>qlg r
end
noncomputable def useF (F:Fact)(g:Nat)(xs:List AV)(h:H):Option (AV × H):=match Ju g F.g with
 | false=>none
 | true=>match (match F.B with
   | []=>some []
   | _ :: _=>match qlg xs with
    | some b=>match qlg F.xs with
     | some c=>some (rng (b-c) (len F.B))
     | none=>none
    | none=>none) with
  | none=>none
  | some l=>match eqAs (rens (emb l h.n) F.xs) xs && chkB h (emb l h.n) l F.B with
   | false=>none
   | true=>some (ren (emb (app l (rng h.n (len F.B'))) (h.n+len F.B')) F.y,adds h (obsR (emb (app l (rng h.n (len F.B'))) (h.n+len F.B')) F.B'))
noncomputable def chkF (F:Fact)(L:List Nat)(r:Option (AV × H)):Bool:=match r with
 | none=>false
 | some (y,h)=>eqA (ren (emb (app (rng 0 (len F.B)) L) h.n) F.y) y && (chkB h (emb (app (rng 0 (len F.B)) L) h.n) (app (rng 0 (len F.B)) L) (app F.B F.B') && qa1 (app (rng 0 (len F.B)) L))
section
variable {w0 w w':World}{ρ ρ':Rn}{h h':H}{e e':Nat->Nat}
def q4q [Zc] (P:Program)(F:Fact):Prop :=
 ∀ w0 ρ w us,RepL w0 ρ F.B w->VRs ρ F.xs us->CN P F.g us.toArray w fun v w'=>∃ ρ',VR ρ' F.y v/\ρ <+: ρ'/\RepL w0 ρ' (F.B++F.B') w'/\Fr (ImL ρ F.B) w w'/\∀ b,ImL ρ' (F.B++F.B') b->b<w.heap.size->ImL ρ F.B b
theorem qqg [Zc] {P:Program}{F:Fact}(hF:q4q P F){g:Nat}{xs:List AV}{y:AV}(hx:useF F g xs h=some (y,h'))(hr:Rep w0 ρ h w){us:List Value}(hv:VRs ρ xs us) :
  CN P g us.toArray w fun v w'=>∃ ρ',VR ρ' y v/\Stp w0 ρ h w ρ' h' w':=by
 unfold useF at hx
 split at hx
 case h_1=>cases hx
 rename_i hg
 have hg:=Jo hg
 subst hg
 split at hx
 case h_1=>cases hx
 rename_i l hl
 split at hx
 case h_1=>cases hx
 rename_i hc
 simp only[Jz] at hc
 obtain⟨hxs,hc⟩:=hc
 cases hx
 have hnd:l.Nodup:=by
  split at hl
  ·cases hl; exact J6
  ·split at hl
   ·split at hl
    ·cases hl; rw[qdg]; exact List.nodup_range'
    ·cases hl
   ·cases hl
 obtain⟨ρe,hρe,hre,him⟩:=qfc hr hc hnd
 obtain⟨hlen,hcB⟩:=qfb hc
 rw[← q48 hxs] at hv
 have hv':VRs ρe F.xs us:=hv.unr fun b q hq=>by rw[hρe]; exact hq
 have hpost:∀ v w',(∃ ρ',VR ρ' F.y v/\ρe <+: ρ'/\RepL w0 ρ' (F.B++F.B') w'/\Fr (ImL ρe F.B) w w'/\∀ b,ImL ρ' (F.B++F.B') b->b<w.heap.size->ImL ρe F.B b)->∃ ρ',VR ρ' (ren (emb (app l (rng h.n (len F.B'))) (h.n+len F.B')) F.y) v /\
   Stp w0 ρ h w ρ' (adds h (obsR (emb (app l (rng h.n (len F.B'))) (h.n+len F.B')) F.B')) w':=by
  rintro v w' ⟨ρ2,hy,⟨ν,rfl⟩,hr2,hfr,him2⟩
  rw[q4o,qdg,q13]
  have hk:ρe.length=F.B.length:=hre.len
  have hm:ν.length=F.B'.length:=by have:=hr2.len; simp at this; omega
  have he:∀ b,(ρ++ν)[emb (l++J8 h.n F.B'.length) (h.n+F.B'.length) b]?=(ρe++ν)[b]?:=by
   intro b
   by_cases h1:b<l.length
   ·have h2:(l++J8 h.n F.B'.length)[b]?=some l[b]:=by rw[J1 h1]; exact J2 h1
    have:l[b]<ρ.length:=by
     obtain⟨h3,h4⟩:=hcB b _ F.B[b] (J2 h1) (J2 (hlen ▸ h1))
     obtain⟨q,hq,-⟩:=hr.ob _ _ h3 h4
     exact(J3.1 hq).1
    rw[q4p h2,J1 this,J1 (l₁:=ρe) (by omega),hρe,q4p (J2 h1)]
   ·by_cases h2:b<l.length+F.B'.length
    ·have h3:(l++J8 h.n F.B'.length)[b]?=some (h.n+(b-l.length)):=by
      rw[J0 (by omega),Jb (by omega)]
      simp
     rw[q4p h3,J0 (by rw[hr.len]; omega),J0 (by omega),hr.len,hk]
     congr 1
     omega
    ·rw[qon (by simp; omega),J9 (by simp[hr.len]; omega),J9 (by simp; omega)]
  have he1:∀ b q,(ρe++ν)[b]?=some q->(ρ++ν)[emb (l++J8 h.n F.B'.length) (h.n+F.B'.length) b]?=some q:=fun b q hq=>by rw[he]; exact hq
  have hce:∀ b q,ρe[b]?=some q->emb l h.n b=emb (l++J8 h.n F.B'.length) (h.n+F.B'.length) b:=fun b q hq=>by
   have h1:b<l.length:=by have:=(J3.1 hq).1; omega
   rw[q4p (J2 h1),q4p (n:=h.n+F.B'.length) (by rw[J1 h1]; exact J2 h1)]
  have hp:ρ <+: ρ++ν:=J5 _ _
  have hnew:∀ {j:Nat} {o:Ob},F.B'[j]?=some o->liv o->∃ q,ν[j]?=some q/\w.heap.size<=q.b/\ObR (ρe++ν) w' q o:=fun {j o} hj hlo=>by
   have h1:(F.B++F.B')[F.B.length+j]?=some o:=by rw[J0 (by omega)]; simpa using hj
   obtain⟨q,hq,ho⟩:=hr2.ob _ _ h1 hlo
   have hq':ν[j]?=some q:=by rw[J0 (by omega)] at hq; rw[← hq]; congr 1; omega
   refine⟨q,hq',Jv fun hlt=>?_,ho⟩
   obtain⟨n,o',q',hn,hl',hq1,hqb⟩:=him2 _ ⟨_,o,q,h1,hlo,hq,rfl⟩ hlt
   have hnB:=(J3.1 hn).1
   have h2:(F.B++F.B')[n]?=some o':=by rw[J1 hnB]; exact hn
   have h3:(ρe++ν)[n]?=some q':=by rw[J1 (by omega)]; exact hq1
   have:=hr2.inj _ _ _ _ _ _ h2 hl' h1 hlo h3 hq hqb
   omega
  have hget:∀ {b:Nat} {o:Ob},(adds h (obsR (emb (l++J8 h.n F.B'.length) (h.n+F.B'.length)) F.B')).get b=some o->liv o->(∃ j o',b=h.n+j/\F.B'[j]?=some o'/\liv o'/\o=renO (emb (l++J8 h.n F.B'.length) (h.n+F.B'.length)) o')\/h.get b=some o:=fun {b o} hb hlo=>by
   rcases q7e hb with⟨j,rfl,hj⟩ | ⟨_,h2⟩
   ·rw[qbl] at hj
    obtain⟨o',ho',rfl⟩:=Option.map_eq_some_iff.1 hj
    exact .inl ⟨j,o',rfl,ho',by cases o'<;>first | trivial | exact hlo,rfl⟩
   ·exact .inr h2
  have hνat:∀ {j:Nat} {q:Nm},ν[j]?=some q->(ρ++ν)[h.n+j]?=some q:=fun {j q} hj=>by
   rw[J0 (by rw[hr.len]; omega),hr.len]
   simpa using hj
  refine⟨ρ++ν,hy.ren he1,hp,⟨?_,hr2.fr,fun q hq=>?_,fun b o hb hlo=>?_,fun b b' o o' q q' hb hlo hb' hlo' hq hq' hqe=>?_⟩,hfr.mono him,fun b hb hlt=>?_⟩
  ·rw[qgr,q56,Jh,hr.len,hm]
  ·rcases Jk.1 hq with hq | hq
   ·have:=hr.lo q hq; exact⟨this.1,Jp this.2 hfr.1⟩
   ·exact hr2.lo q (List.mem_append_right _ hq)
  ·rcases hget hb hlo with⟨j,o',rfl,hj,hlo',rfl⟩ | h2
   ·obtain⟨q,hq,_,ho⟩:=hnew hj hlo'
    exact⟨q,hνat hq,ho.ren he1⟩
   ·obtain⟨q,hq,ho⟩:=hr.ob b o h2 hlo
    refine⟨q,q0b hp hq,?_⟩
    by_cases hi:ImL ρe F.B q.b
    ·obtain⟨n,p,q',hn,hlp,hq1,hqb⟩:=hi
     have hln:n<l.length:=hlen ▸ (J3.1 hn).1
     obtain⟨h3,h4⟩:=hcB n _ p (J2 hln) hn
     have h5:ρ[l[n]]?=some q':=by rw[← hq1,hρe,q4p (J2 hln)]
     have hbn:=hr.inj _ _ _ _ _ _ h2 hlo h3 h4 hq h5 hqb.symm
     rw[hbn] at h2 hq
     rw[h3] at h2
     cases h2
     rw[h5] at hq
     cases hq
     have hnB:=(J3.1 hn).1
     obtain⟨q2,hq2,ho2⟩:=hr2.ob n p (by rw[J1 hnB]; exact hn) hlp
     rw[J1 (by omega),hq1] at hq2
     cases hq2
     have hoe:=hre.ob n p hn hlp
     obtain⟨q3,hq3,ho3⟩:=hoe
     rw[hq1] at hq3
     cases hq3
     rw[ho3.cong hce]
     exact ho2.ren he1
    ·exact ho.mono hp (hfr.2.1 _ (hr.lo q (J4 hq)).2 hi)
  ·rcases hget hb hlo with⟨j,p,rfl,hj,hlp,rfl⟩ | h2<;>rcases hget hb' hlo' with⟨j',p',rfl,hj',hlp',rfl⟩ | h2'
   ·obtain⟨r,hr1,_,_⟩:=hnew hj hlp
    obtain⟨r',hr1',_,_⟩:=hnew hj' hlp'
    rw[hνat hr1] at hq
    rw[hνat hr1'] at hq'
    cases hq
    cases hq'
    have:=hr2.inj (F.B.length+j) (F.B.length+j') p p' _ _ (by rw[J0 (by omega)]; simpa using hj) hlp (by rw[J0 (by omega)]; simpa using hj') hlp'
     (by rw[J0 (by omega)]; simpa [hk] using hr1) (by rw[J0 (by omega)]; simpa [hk] using hr1') hqe
    omega
   ·obtain⟨r,hr1,hge,_⟩:=hnew hj hlp
    rw[hνat hr1] at hq
    cases hq
    obtain⟨q2,hq2,-⟩:=hr.ob _ _ h2' hlo'
    rw[q0b hp hq2] at hq'
    cases hq'
    have:=(hr.lo _ (J4 hq2)).2
    omega
   ·obtain⟨r,hr1,hge,_⟩:=hnew hj' hlp'
    rw[hνat hr1] at hq'
    cases hq'
    obtain⟨q2,hq2,-⟩:=hr.ob _ _ h2 hlo
    rw[q0b hp hq2] at hq
    cases hq
    have:=(hr.lo _ (J4 hq2)).2
    omega
   ·obtain⟨q2,hq2,-⟩:=hr.ob _ _ h2 hlo
    obtain⟨q2',hq2',-⟩:=hr.ob _ _ h2' hlo'
    rw[q0b hp hq2] at hq
    rw[q0b hp hq2'] at hq'
    cases hq
    cases hq'
    exact hr.inj _ _ _ _ _ _ h2 hlo h2' hlo' hq2 hq2' hqe
  ·obtain⟨n,o,q,hn,hlo,hq,rfl⟩:=hb
   rcases hget hn hlo with⟨j,p,rfl,hj,hlp,rfl⟩ | h2
   ·obtain⟨r,hr1,hge,_⟩:=hnew hj hlp
    rw[hνat hr1] at hq
    cases hq
    omega
   ·obtain⟨q2,hq2,-⟩:=hr.ob _ _ h2 hlo
    rw[q0b hp hq2] at hq
    cases hq
    exact⟨n,o,_,h2,hlo,hq2,rfl⟩
 rcases hF w0 ρe w us hre hv' with⟨h1,h2⟩ | ⟨u,w2,h1,h2⟩
 ·exact .inl ⟨h1,h2.mono fun e w' he=>let ⟨u,hu,hk⟩:=he; ⟨u,hu,hpost u w' hk⟩⟩
 ·exact .inr ⟨u,w2,h1,hpost u w2 h2⟩
theorem q57 [Zc] {P:Program}{F:Fact}{cf:q3h}{X:Cx}(hP:X.P=P)(hC:∀ w0,Cok X w0 cf){L:List Nat}(hid:bod X F.g=true)(hx:chkF F L (cf (.f F.g [] []) F.xs (mkH F.B))=true):q4q P F:=by
 intro w0 ρ w us hr hv
 subst hP
 unfold chkF at hx
 split at hx
 case h_1=>cases hx
 rename_i y h hrun
 simp only[Jz] at hx
 obtain⟨hy,hb,hn⟩:=hx
 have hy:=qdf hy
 rw[q4o,qdg,q13] at hy hb hn
 rw[q4o] at hb
 obtain⟨g,first,cap,he,hcall,hC⟩:=(hC w0 _ _ _ _ _ hrun ρ w (.func (.func F.g) #[] #[]) us hr.rep ⟨#[],#[],rfl,rfl,rfl⟩ hv).2 F.g [] [] rfl hid
 cases he
 have e:(#[]:Array Value)++us.toArray++#[]=us.toArray:=by simp
 rw[e] at hC
 refine .inl ⟨hcall,hC.mono fun e w' he=>?_⟩
 obtain⟨u,rfl,ρ1,hyv,hst⟩:=he
 refine⟨u,rfl,?_⟩
 obtain⟨ρe,hρe,hre,him⟩:=qfc hst.rep hb (q8p hn)
 have hpre:∀ b q,ρ[b]?=some q->ρe[b]?=some q:=fun b q hq=>by
  have hlt:b<F.B.length:=hr.len ▸ (J3.1 hq).1
  rw[hρe,q4p (x:=b) (by rw[J1 (by simpa using hlt),Jb hlt]; simp)]
  exact q0b hst.pre hq
 refine⟨ρe,?_,?_,hre,hst.fr.mono fun b hb=>hb.toL,fun b hb hlt=>(hst.im b (him b hb) hlt).toL⟩
 ·rw[← hy] at hyv
  exact hyv.unr fun b q hq=>by rw[hρe]; exact hq
 ·refine List.prefix_iff_eq_take.2 (List.ext_getElem? fun i=>?_)
  rw[List.getElem?_take]
  split
  ·rename_i hi
   have:=J2 hi
   rw[this,hpre i _ this]
  ·rename_i hi
   rw[J9 (by omega)]
def q49 (P:Program)(g:Nat)(f:List AV->Option AV):Prop :=
 ∀ xs y,f xs=some y->∀ ρ us w,VRs ρ xs us->CN P g us.toArray w fun v w'=>VR ρ y v/\Fr F0 w w'
noncomputable def useN (g0:Nat)(f:List AV->Option AV)(g:Nat)(xs:List AV)(h:H):Option (AV × H):=match Ju g g0 with
 | false=>none
 | true=>match f xs with
  | some y=>some (y,h)
  | none=>none
theorem CN.mono {P:Program}{g:Nat}{args:Array Value}{K K':VW}(h:CN P g args w K)(hk:∀ v w',K v w'->K' v w'):CN P g args w K':=by
 rcases h with⟨h1,h2⟩ | ⟨u,w2,h1,h2⟩
 ·exact .inl ⟨h1,h2.mono fun e w' he=>let ⟨u,hu,hkk⟩:=he; ⟨u,hu,hk u w' hkk⟩⟩
 ·exact .inr ⟨u,w2,h1,hk u w2 h2⟩
def KN [Zc] (P:Program)(kn:Nat->List AV->H->Option (AV × H)):Prop :=
 ∀ g xs h y h',kn g xs h=some (y,h')->∀ w0 ρ w us,Rep w0 ρ h w->VRs ρ xs us->CN P g us.toArray w fun v w'=>∃ ρ',VR ρ' y v/\Stp w0 ρ h w ρ' h' w'
abbrev KnT:=Nat->List AV->H->Option (AV × H)
noncomputable def orN (g0:Nat)(f:List AV->Option AV)(kn:KnT):KnT:=fun g xs h=>match useN g0 f g xs h with
 | some r=>some r
 | none=>kn g xs h
noncomputable def orF (F:Fact)(kn:KnT):KnT:=fun g xs h=>match useF F g xs h with
 | some r=>some r
 | none=>kn g xs h
theorem KN.nil [Zc] {P:Program}:KN P fun _ _ _=>none:=fun _ _ _ _ _ h=>by cases h
theorem KN.nat [Zc] {P:Program}{g0:Nat}{f:List AV->Option AV}(hf:q49 P g0 f){kn:KnT}(hk:KN P kn):KN P (orN g0 f kn):=by
 intro g xs h y h' hx w0 ρ w us hr hv
 unfold orN at hx
 split at hx
 ·rename_i r hu
  cases hx
  unfold useN at hu
  split at hu
  ·cases hu
  ·rename_i hg
   have:=Jo hg
   subst this
   split at hu
   ·rename_i y2 hy
    cases hu
    exact(hf xs _ hy ρ us w hv).mono fun v w' ⟨h1,h2⟩=>⟨ρ,h1,hr.frm h2⟩
   ·cases hu
 ·exact hk g xs h y h' hx w0 ρ w us hr hv
theorem KN.fact [Zc] {P:Program}{F:Fact}(hF:q4q P F){kn:KnT}(hk:KN P kn):KN P (orF F kn):=by
 intro g xs h y h' hx w0 ρ w us hr hv
 unfold orF at hx
 split at hx
 ·rename_i r hu
  cases hx
  exact qqg hF hu hr hv
 ·exact hk g xs h y h' hx w0 ρ w us hr hv
end
noncomputable def Tr.chk {α:Type}(p:Nat->Bool):Tr α->Bool
 | .lf=>true
 | .v k _=>p k
 | .nd l r=>match Tr.chk p l with
  | true=>Tr.chk p r
  | false=>false
theorem Tr.chk_get {α:Type}{p:Nat->Bool}:∀ {h:Tr α} {m n:Nat} {a:α},Tr.chk p h=true->Tr.get h m n=some a->p m=true
 | .lf,m,n,a,_,hx=>by rw[Tr.get_lf] at hx; cases hx
 | .v k b,m,n,a,h,hx=>by
  rw[Tr.get_v] at hx
  split at hx
  ·rename_i e; rw[← e]; exact h
  ·cases hx
 | .nd l r,m,n,a,h,hx=>by
  unfold Tr.chk at h
  split at h
  case h_2=>cases h
  rename_i hl
  rw[Tr.get_nd] at hx
  split at hx
  ·exact Tr.chk_get hl hx
  ·exact Tr.chk_get h hx
noncomputable def okFn (P:Program)(pl:Nat->Nat->Option (List Pl))(id:Nat):Bool:=match P.funcs[id]? with
 | some fn=>match fn.name == "runtime.NumGoroutine" with
  | true=>false
  | false=>match fn.body with
   | some c=>cOk pl id fn.ntmps (rfB c) c
   | none=>true
 | none=>true
noncomputable def fsOf (P:Program)(IT:Tr Unit)(g:Nat):Option Func:=match Tr.get IT g g with
 | some _=>P.funcs[g]?
 | none=>none
theorem fns_ok {P:Program}{pl:Nat->Nat->Option (List Pl)}{IT:Tr Unit}{kn:Nat->List AV->H->Option (AV × H)}(h:Tr.chk (okFn P pl) IT=true):∀ id fn,(fsOf P IT) id=some fn->fnOk ⟨P,fsOf P IT,pl,kn⟩ id fn:=by
 intro id fn hx
 unfold fsOf at hx
 split at hx
 case h_2=>cases hx
 rename_i u hu
 have:=Tr.chk_get h hu
 unfold okFn at this
 rw[hx] at this
 simp only at this
 split at this
 ·cases this
 ·rename_i hn
  refine⟨hx,hn,fun c hc=>?_⟩
  rw[hc] at this
  exact this
noncomputable def i64B (n:Int):Bool:=decide (-9223372036854775808<=n) && decide (n<9223372036854775808)
noncomputable def nBin (f:Int->Int->Int->Int->RR):List AV->Option AV
 | [.ag [.i .i64 n,.i .i64 d],.ag [.i .i64 n',.i .i64 d']]=>match i64B n && (i64B d && (i64B n' && i64B d')) with
  | true=>match f n d n' d' with
   | ⟨a,b,ok⟩=>some (.tu [.ag [.i .i64 a,.i .i64 b],.b ok])
  | false=>none
 | _=>none
noncomputable def nCmp:List AV->Option AV
 | [.ag [.i .i64 n,.i .i64 d],.ag [.i .i64 n',.i .i64 d']]=>match i64B n && (i64B d && (i64B n' && i64B d')) with
  | true=>some (.i .i64 (cmpQ n d n' d'))
  | false=>none
 | _=>none
noncomputable def nOf:List AV->Option AV
 | [.i .i64 n]=>match i64B n with
  | true=>some (.ag [.i .i64 n,.i .i64 1])
  | false=>none
 | _=>none
noncomputable def qlh:List AV->Option AV
 | [.ag [.i .i64 n,.i .i64 d]]=>match i64B n && i64B d with
  | true=>some (.b (decide (q0j n d)))
  | false=>none
 | _=>none
def makeQ (n d:Int):RR:=if d=0 then zr else fitQ (Rat.divInt n d)
noncomputable def qqh:List AV->Option AV
 | [.i .i64 n,.i .i64 d]=>match i64B n && i64B d with
  | true=>match makeQ n d with
   | ⟨a,b,ok⟩=>some (.tu [.ag [.i .i64 a,.i .i64 b],.b ok])
  | false=>none
 | _=>none
noncomputable def cntA (c:Nat):List Nat->Nat
 | []=>0
 | x :: r=>match Ju x c with
  | true=>cntA c r+1
  | false=>cntA c r
noncomputable def idxA (c:Nat):List Nat->Nat->Int
 | [],_=>-1
 | x :: r,i=>match Ju x c with
  | true=>(i:Int)
  | false=>idxA c r (i+1)
noncomputable def qgx:List AV->Option AV
 | [.s l,.i .u8 c]=>match decide (0<=c) && decide (c<256) with
  | true=>some (.i .i64 (cntA c.toNat l))
  | false=>none
 | _=>none
noncomputable def qgy:List AV->Option AV
 | [.s l,.i .u8 c]=>match decide (0<=c) && decide (c<256) with
  | true=>some (.i .i64 (idxA c.toNat l 0))
  | false=>none
 | _=>none
noncomputable def qbo:List AV->Option AV
 | [.p a]=>some (.p a)
 | _=>none
noncomputable def orZ (g0 e:Nat)(kn:KnT):KnT:=fun g xs h=>match Ju g g0 with
 | true=>match xs with
  | [.i .i64 n]=>match decide (0<n) && decide (n<281474976710656) with
   | true=>some (.sl (some (h.n,0)) n.toNat none 1,h.new (.c [] (some e)))
   | false=>none
  | _=>none
 | false=>kn g xs h
section
variable {P:Program}
theorem q3m {n:Int}(h:i64B n=true):-9223372036854775808<=n/\n<9223372036854775808:=by
 unfold i64B at h
 simpa using h
theorem qdk {g:Nat}{S:Pw.Spec}{f:List AV->Option AV}(hS:q22 P g S)(h:∀ xs y,f xs=some y->∀ ρ us w,VRs ρ xs us->∀ K:VW,(∀ v w',VR ρ y v->Fr F0 w w'->K v w')->S us w K):q49 P g f :=
 fun xs y hy ρ us w hv=>.inl ⟨hS.1,hS.2 us w _ (h xs y hy ρ us w hv _ fun v w' h1 h2=>⟨h1,h2⟩)⟩
theorem ag2 {ρ:Rn}{n d:Int}{v:Value}(h:VR ρ (.ag [.i .i64 n,.i .i64 d]) v):v=.agg ⟨[.int .i64 n,.int .i64 d]⟩:=by
 obtain⟨vs,rfl,u1,s1,e1,h1,u2,s2,e2,h2,h3⟩:=h
 cases h1
 cases h2
 cases h3
 subst e2
 congr 1
 exact JG.1 e1
theorem qdl {ρ:Rn}{x:AV}{us:List Value}(h:VRs ρ [x] us):∃ u,us=[u]/\VR ρ x u:=by
 obtain⟨u,s,rfl,h1,h2⟩:=h
 cases h2
 exact⟨u,rfl,h1⟩
theorem qdm [Zc] {ρ:Rn}{x y:AV}{us:List Value}(h:VRs ρ [x,y] us):∃ u v,us=[u,v]/\VR ρ x u/\VR ρ y v:=by
 obtain⟨u,s,rfl,h1,h2⟩:=h
 obtain⟨v,rfl,h3⟩:=qdl h2
 exact⟨u,v,rfl,h1,h3⟩
theorem qgz {g:Nat}{fn:Func}{e:Array Value->Sem Value}(hf:P.funcs[g]?=some fn)(hname:(fn.name == "runtime.NumGoroutine")=false)(hb:fn.body.isNone=true)(hn:Extern.findNext fn=none)(he:Extern.find fn=some e){args:Array Value}{w w':World}{v:Value}{K:VW}
  (hr:(e args).run P w=.ok v w') (hK:K v w'):CN P g args w K :=
 .inr ⟨v,w',by rw[run_callFunc_extern hf hname hb hn he,hr]; rfl,hK⟩
theorem qli (c:UInt8):∀ l:List UInt8,cntA c.toNat (l.map UInt8.toNat)=l.count c
 | []=>rfl
 | x :: l=>by
  simp only[Jn,cntA,List.count_cons,qli c l]
  cases hb:Ju x.toNat c.toNat with
  | true =>
   have:x=c:=UInt8.toNat_inj.1 (Jo hb)
   simp[this]
  | false =>
   have:¬x=c:=fun e=>Jr hb (by rw[e])
   simp[this]
theorem qlj (c:UInt8):∀ (l:List UInt8) (i:Nat),idxA c.toNat (l.map UInt8.toNat) i=if Lib.indexByte l c == -1 then -1 else (i:Int)+Lib.indexByte l c
 | [],i=>rfl
 | x :: l,i=>by
  simp only[Jn,idxA,Lib.indexByte]
  have hge:=Lib.indexByte_ge l c
  cases hb:Ju x.toNat c.toNat with
  | true =>
   have:x=c:=UInt8.toNat_inj.1 (Jo hb)
   subst this
   simp
  | false =>
   have:¬x=c:=fun e=>Jr hb (by rw[e])
   have h1:(x == c)=false:=by simpa using this
   simp only[h1,JB,if_false]
   rw[qlj c l (i+1)]
   by_cases h2:Lib.indexByte l c=-1
   ·simp[h2]
   ·have h3:¬(Lib.indexByte l c+1=-1):=by omega
    simp[h2,h3]
    omega
theorem qlk {c:Int}(h0:0<=c)(h1:c<256):c.toNat=(c.toNat.toUInt8).toNat:=by
 rw[UInt8.toNat_ofNat']
 omega
theorem qll [Zc] {g:Nat}{fn:Func}(hf:P.funcs[g]?=some fn)(hname:(fn.name == "runtime.NumGoroutine")=false)(hb:fn.body.isNone=true)(hn:Extern.findNext fn=none)(he:Extern.find fn=some Extern.BytealgIndexByte.indexByte):q49 P g qgy:=by
 intro xs y hy ρ us w hv
 unfold qgy at hy
 split at hy
 ·rename_i l c
  split at hy
  case h_2=>cases hy
  rename_i hc
  cases hy
  simp only[Jz,decide_eq_true_eq] at hc
  obtain⟨u,v,rfl,⟨s,rfl,hs⟩,hv2⟩:=qdm hv
  cases hv2
  refine qgz hf hname hb hn he (Lib.run_indexByteString (P:=P) s c w) ⟨?_,Fr.refl⟩
  show Value.int .i64 _=_
  have hci:idxA c.toNat l 0=idxA c.toNat.toUInt8.toNat l 0:=by rw[← qlk hc.1 hc.2]
  rw[hci,← hs,qlj]
  split
  ·rename_i h; rw[eq_of_beq h]
  ·simp
 ·cases hy
theorem qlm [Zc] {g:Nat}{fn:Func}(hf:P.funcs[g]?=some fn)(hname:(fn.name == "runtime.NumGoroutine")=false)(hb:fn.body.isNone=true)(hn:Extern.findNext fn=none)(he:Extern.find fn=some Extern.BytealgCount.count):q49 P g qgx:=by
 intro xs y hy ρ us w hv
 unfold qgx at hy
 split at hy
 ·rename_i l c
  split at hy
  case h_2=>cases hy
  rename_i hc
  cases hy
  simp only[Jz,decide_eq_true_eq] at hc
  obtain⟨u,v,rfl,⟨s,rfl,hs⟩,hv2⟩:=qdm hv
  cases hv2
  refine qgz hf hname hb hn he (Lib.run_countString (P:=P) s c w) ⟨?_,Fr.refl⟩
  show Value.int .i64 _=_
  have hci:cntA c.toNat l=cntA c.toNat.toUInt8.toNat l:=by rw[← qlk hc.1 hc.2]
  rw[hci,← hs,qli]
  rfl
 ·cases hy
theorem qhw [Zc] {g:Nat}{fn:Func}(hf:P.funcs[g]?=some fn)(hname:(fn.name == "runtime.NumGoroutine")=false)(hb:fn.body.isNone=true)(hn:Extern.findNext fn=none)(he:Extern.find fn=some Extern.AbiNoEscape.same):q49 P g qbo:=by
 intro xs y hy ρ us w hv
 unfold qbo at hy
 split at hy
 ·cases hy
  obtain⟨u,rfl,hu⟩:=qdl hv
  exact qgz hf hname hb hn he (Lib.run_noEscape (P:=P) w u) ⟨hu,Fr.refl⟩
 ·cases hy
theorem orZ_ok [Zc] {g e t:Nat}{fn:Func}(hf:P.funcs[g]?=some fn)(hname:(fn.name == "runtime.NumGoroutine")=false)(hb:fn.body.isNone=true)(hn:Extern.findNext fn=none){ps:Array TypeId}(he:Extern.find fn=some (Extern.BytealgMakeNoZero.makeNoZero ps #[t]))(ht:P.underlying t=some (.slice e)){kn:KnT}(hk:KN P kn):KN P (orZ g e kn):=by
 intro g' xs h y h' hx w0 ρ w us hr hv
 unfold orZ at hx
 split at hx
 ·rename_i hg
  have:=Jo hg
  subst this
  split at hx
  case h_2=>cases hx
  rename_i n
  split at hx
  case h_2=>cases hx
  rename_i hb2
  cases hx
  simp only[Jz,decide_eq_true_eq] at hb2
  obtain⟨u,rfl,hu⟩:=qdl hv
  cases hu
  obtain⟨m,rfl⟩:∃ m:Nat,n=m:=⟨n.toNat,by omega⟩
  obtain⟨cs,hrun,h1,_⟩:=Lib.run_makeNoZero (P:=P) w ps t e ht m (by omega)
  refine qgz hf hname hb hn he hrun ?_
  have hrd:=hr.frm (w':=w.drew.drew) (Fr.drew.trans Fr.drew fun _ h _=>h)
  have hob:ObR (ρ++[⟨w.drew.drew.heap.size,0,cs.toList.length⟩]) (w.drew.drew.alloc (.cells cs.toList.toArray e)) ⟨w.drew.drew.heap.size,0,cs.toList.length⟩ (.c [] (some e)) :=
   ⟨fun d hd=>⟨rfl,by cases hd; exact q8n⟩,cs.toList,Row.new,rfl,by simp,fun i x hx=>by simp at hx⟩
  have hst:=hrd.trans (hrd.rep.new hob)
  refine⟨_,⟨_,cs.size,hrd.rep.last _,?_,by simpa using h1,fun k hk=>by(first | cases hk),?_,fun _=>⟨by omega,?_⟩⟩,by rw[JI] at hst; exact hst⟩
  ·simp
  ·simp
  ·simp
 ·exact hk g' xs h y h' hx w0 ρ w us hr hv
end
