/- Awards of several lots in plain terms: problems, takes, what they cost and are worth, and why a bound holds. Conditions: none. -/
import Derived.Test.YtfpobpjandjhjaaGreatDoorCG2
import Derived.Test.YtfpobpjandjhjaaGreatDoorRXZ
open List renaming getElem?_eq_getElem->J0,mem_singleton->J1,take_length->J2,getElem_mem->J3,length_map->J4,getElem?_eq_some_iff->J5,drop_eq_getElem_cons->J6,mem_map->J7,findIdx?_eq_some_iff_getElem->J8,drop_of_length_le->J9,mem_append->Ja,getElem?_eq_none->Jb,any_eq_true->Jc,take_prefix->Jd,filterMap_cons->Je,getD_eq_getElem?_getD->Jf,nodup_iff_pairwise_ne->Jg,sum_cons->Jh,getElem?_append_left->Ji,findIdx?_eq_none_iff->Jj,replicate->Jk,pairwise_lt_range->Jl,all_eq_true->Jm,prefix_refl->Jn,mem_cons->Jo,cons_prefix_cons->Jp,filterMap_append->Jq,mem_filterMap->Jr,map_cons->Js,length_range->Jt,take_sublist->Ju,nodup_append->Jv,length_cons->Jw,length_take->Jx,map_append->Jy,sum_append->Jz,range->JA
open Int renaming add_zero->JB,lt_of_lt_of_le->JC,le_refl->JD,mul_le_mul->JE,mul_nonneg->JF
open Nat renaming le_refl->JG,le_trans->JH
open Bool renaming true_and->JI,and_eq_true->JJ,eq_iff_iff->JK
namespace Pw
structure Ch where
 lot:Int
 bid:Int
 price:Int
 pts:Int
structure De where
 bid:Int
 lots:List Int
 off:Int
structure Pr where
 lots:List Int
 ch:List Ch
 de:List De
 most:Int
 budget:Int
def Wi (n m:Int):Prop:=0<=n/\n<=m
structure q03 (p:Pr):Prop where
 some:0<p.lots.length
 few:p.lots.length<=12
 diff:p.lots.Nodup
 chs:p.ch.length<=480
 des:p.de.length<=100
 most:Wi p.most 1000000000
 budget:Wi p.budget 1000000000
 ch:∀ c∈p.ch,c.lot∈p.lots/\Wi c.price 1000000000/\Wi c.pts 1000000
 de:∀ d∈p.de,d.lots≠[]/\d.lots.Nodup/\(∀ x∈d.lots,x∈p.lots)/\Wi d.off 1000000000
def chAt (p:Pr)(n:Int):Option Ch:=if 0<=n then p.ch[n.toNat]? else none
def Dec (p:Pr)(lot n:Int):Prop:=n=-1\/∃ c,chAt p n=some c/\c.lot=lot
def Decs (p:Pr):List Int->List Int->Prop
 | _,[]=>True
 | [],_ :: _=>False
 | lot :: ls,n :: f=>Dec p lot n/\Decs p ls f
def took (p:Pr)(f:List Int):List Ch:=f.filterMap (chAt p)
def q1r (p:Pr)(f:List Int):Int:=((took p f).map (·.pts)).sum
def q1x (p:Pr)(f:List Int):Int:=((took p f).map (·.price)).sum
def may (p:Pr)(f:List Int)(b lot:Int):Bool :=
 match f[p.lots.idxOf lot]? with
 | some n=>match chAt p n with
  | some c=>c.bid == b
  | none=>false
 | none=>p.ch.any fun c=>c.lot == lot && c.bid == b
def q2z (p:Pr)(f:List Int)(d:De):Int:=if d.lots.all (may p f d.bid) then d.off else 0
def offs (p:Pr)(f:List Int):Int:=(p.de.map (q2z p f)).sum
def q0i (p:Pr)(f:List Int):Int:=max 0 (q1x p f-offs p f)
def qb5 (p:Pr)(f:List Int):Prop:=0<p.most/\∃ b,p.most<((took p f).countP (·.bid == b):Int)
def q14 (p:Pr)(f:List Int):Int:=q1r p f*(p.budget+1)-q0i p f
def Perm (p:Pr)(t:List Int):Prop:=t.length=p.lots.length/\Decs p p.lots t/\q0i p t<=p.budget/\¬qb5 p t
def gain (p:Pr)(lam:Rat)(c:Ch):Rat:=((c.pts*(p.budget+1)-c.price:Int):Rat)+lam*((-c.price:Int):Rat)
def free (p:Pr)(lam:Rat)(lot:Int):Rat:=p.ch.foldl (fun m c=>if c.lot=lot/\m<gain p lam c then gain p lam c else m) 0
def q7v (p:Pr)(lam:Rat):List Int->List Int->Rat
 | [],_=>0
 | lot :: ls,[]=>free p lam lot+q7v p lam ls []
 | _ :: ls,n :: f=>(match chAt p n with
  | some c=>gain p lam c
  | none=>0)+q7v p lam ls f
def qcj (p:Pr)(lam:Rat)(l:List Ch):Rat:=(l.map (gain p lam)).sum
theorem qle {p:Pr}{lam:Rat}{lot:Int}:0<=free p lam lot/\∀ c∈p.ch,c.lot=lot->gain p lam c<=free p lam lot:=by
 unfold free
 have key:∀ (l:List Ch) (m:Rat),m<=l.foldl (fun m c=>if c.lot=lot/\m<gain p lam c then gain p lam c else m) m/\∀ c∈l,c.lot=lot->gain p lam c<=l.foldl (fun m c=>if c.lot=lot/\m<gain p lam c then gain p lam c else m) m:=by
  intro l
  induction l with
  | nil=>exact fun m=>⟨Rat.le_refl,fun c hc=>by cases hc⟩
  | cons x l ih =>
   intro m
   simp only[List.foldl_cons]
   obtain⟨h1,h2⟩:=ih (if x.lot=lot/\m<gain p lam x then gain p lam x else m)
   have hm:m<=if x.lot=lot/\m<gain p lam x then gain p lam x else m:=by
    split
    ·rename_i h; exact Rat.le_of_lt h.2
    ·exact Rat.le_refl
   have hx:x.lot=lot->gain p lam x<=if x.lot=lot/\m<gain p lam x then gain p lam x else m:=by
    intro hl
    split
    ·exact Rat.le_refl
    ·rename_i h; exact Rat.not_lt.1 fun hh=>h ⟨hl,hh⟩
   refine⟨Rat.le_trans hm h1,fun c hc hl=>?_⟩
   rcases Jo.1 hc with rfl | hc
   ·exact Rat.le_trans (hx hl) h1
   ·exact h2 c hc hl
 obtain⟨h1,h2⟩:=key p.ch 0
 exact⟨h1,h2⟩
theorem q7z {p:Pr}{n:Int}{c:Ch}(h:chAt p n=some c):c∈p.ch:=by
 unfold chAt at h
 split at h
 ·exact List.mem_of_getElem? h
 ·cases h
theorem qb6 {p:Pr}{lam:Rat}:∀ (ls t f:List Int),t.length=ls.length->Decs p ls t->f <+: t->qcj p lam (took p t)<=q7v p lam ls f
 | [],[],_,_,_,_=>by simp[qcj,took,q7v]
 | [],_ :: _,_,h,_,_=>by simp at h
 | _ :: _,[],_,h,_,_=>by simp at h
 | lot :: ls,n :: t,f,hl,hd,hf=>by
  obtain⟨hn,hd⟩:=hd
  have hl':t.length=ls.length:=by simpa using hl
  have e:qcj p lam (took p (n :: t))=(match chAt p n with | some c=>gain p lam c | none=>0)+qcj p lam (took p t):=by
   unfold qcj took
   rw[Je]
   cases chAt p n with
   | none=>exact(Rat.zero_add _).symm
   | some c=>simp
  rw[e]
  match f,hf with
  | [],_ =>
   have ih:=qb6 (lam:=lam) ls t [] hl' hd (List.nil_prefix)
   have hfree:=qle (p:=p) (lam:=lam) (lot:=lot)
   have h1:(match chAt p n with | some c=>gain p lam c | none=>0)<=free p lam lot:=by
    rcases hn with rfl | ⟨c,hc,hlot⟩
    ·have:chAt p (-1)=none:=by simp[chAt]
     rw[this]
     exact hfree.1
    ·rw[hc]
     exact hfree.2 c (q7z hc) hlot
   show _<=free p lam lot+q7v p lam ls []
   grind
  | m :: f,hf =>
   obtain⟨rfl,hf2⟩:=Jp.1 hf
   have ih:=qb6 (lam:=lam) ls t f hl' hd hf2
   show _<=_+q7v p lam ls f
   grind
end Pw
namespace Pw
theorem q8l {p:Pr}{f t:List Int}(h:f <+: t):took p f <+: took p t:=by
 obtain⟨r,rfl⟩:=h
 exact⟨took p r,by unfold took; rw[Jq]⟩
theorem qeu {p:Pr}{f:List Int}{c:Ch}(h:c∈took p f):c∈p.ch:=by
 obtain⟨n,_,hn⟩:=Jr.1 h
 exact q7z hn
theorem q72:∀ l:List Int,(∀ x∈l,0<=x)->0<=l.sum
 | [],_=>by simp
 | x :: l,h=>by
  have h1:=h x (by simp)
  have h2:=q72 l fun y hy=>h y (by simp[hy])
  rw[Jh]
  omega
theorem qhv {p:Pr}(hp:q03 p){f t:List Int}(h:f <+: t):q1x p f<=q1x p t:=by
 obtain⟨r,hr⟩:=q8l (p:=p) h
 unfold q1x
 rw[← hr,Jy,Jz]
 have:0<=(r.map (·.price)).sum:=q72 _ fun x hx=>by
  obtain⟨c,hc,rfl⟩:=J7.1 hx
  exact(hp.ch c (qeu (f:=t) (by rw[← hr]; simp[hc]))).2.1.1
 omega
theorem qhw {p:Pr}:∀ (ls f:List Int) (i:Nat) (n:Int),Decs p ls f->f[i]?=some n->∃ lot,ls[i]?=some lot/\Dec p lot n
 | _,[],i,n,_,h=>by simp at h
 | [],_ :: _,_,_,hd,_=>hd.elim
 | lot :: ls,m :: f,0,n,hd,h=>by
  simp only[List.getElem?_cons_zero,Option.some.injEq] at h
  subst h
  exact⟨lot,rfl,hd.1⟩
 | lot :: ls,m :: f,i+1,n,hd,h=>by
  obtain⟨l',h1,h2⟩:=qhw ls f i n hd.2 (by simpa using h)
  exact⟨l',by simpa using h1,h2⟩
theorem qjn {p:Pr}{f t:List Int}(h:f <+: t)(hd:Decs p p.lots t){b lot:Int}(hm:may p t b lot=true):may p f b lot=true:=by
 unfold may at hm ⊢
 obtain⟨r,rfl⟩:=h
 by_cases hi:p.lots.idxOf lot<f.length
 ·rw[Ji hi] at hm
  exact hm
 ·rw[Jb (by omega)]
  simp only
  cases hn:(f++r)[p.lots.idxOf lot]? with
  | none=>rw[hn] at hm; exact hm
  | some n =>
   rw[hn] at hm
   simp only at hm
   obtain⟨l',h1,h2⟩:=qhw _ _ _ _ hd hn
   cases hc:chAt p n with
   | none=>rw[hc] at hm; cases hm
   | some c =>
    rw[hc] at hm
    rw[Jc]
    refine⟨c,q7z hc,?_⟩
    have hlot:l'=lot:=by
     have:=(J5.1 h1).2
     rw[← this,List.getElem_idxOf]
    rcases h2 with rfl | ⟨c',hc',hl⟩
    ·rw[show chAt p (-1)=none by simp[chAt]] at hc
     cases hc
    ·rw[hc] at hc'
     injection hc' with hc'
     subst hc'
     simp only[JJ,beq_iff_eq]
     exact⟨by rw[hl,hlot],by simpa using hm⟩
theorem qjo {p:Pr}{f t:List Int}(h:f <+: t)(hd:Decs p p.lots t){d:De}(h0:0<=d.off):q2z p t d<=q2z p f d:=by
 unfold q2z
 by_cases ha:d.lots.all (may p t d.bid)=true
 ·rw[if_pos ha]
  have:d.lots.all (may p f d.bid)=true:=Jm.2 fun x hx=>qjn h hd (Jm.1 ha x hx)
  rw[if_pos this]
  exact JD _
 ·rw[if_neg ha]
  split<;>omega
theorem qkw {α:Type}(g h:α->Int):∀ l:List α,(∀ x∈l,g x<=h x)->(l.map g).sum<=(l.map h).sum
 | [],_=>by simp
 | x :: l,hl=>by
  have h1:=hl x (by simp)
  have h2:=qkw g h l fun y hy=>hl y (by simp[hy])
  simp only[Js,Jh]
  omega
theorem qck {p:Pr}(hp:q03 p){f t:List Int}(h:f <+: t)(hd:Decs p p.lots t):offs p t<=offs p f :=
 qkw _ _ _ fun d hd'=>qjo h hd (hp.de d hd').2.2.2.1
theorem q8m {p:Pr}(hp:q03 p)(f:List Int):0<=offs p f :=
 q72 _ fun x hx=>by
  obtain⟨d,hd,rfl⟩:=J7.1 hx
  have:=(hp.de d hd).2.2.2.1
  unfold q2z
  split<;>omega
theorem qfz {p:Pr}(hp:q03 p){f t:List Int}(h:f <+: t)(hd:Decs p p.lots t):q0i p f<=q0i p t:=by
 have h1:=qhv hp h
 have h2:=qck hp h hd
 unfold q0i
 omega
theorem qg0 {p:Pr}{f t:List Int}(h:f <+: t)(hc:qb5 p f):qb5 p t:=by
 obtain⟨h0,b,hb⟩:=hc
 refine⟨h0,b,JC hb ?_⟩
 have:=(q8l (p:=p) h).sublist.countP_le (p:=fun c=>c.bid == b)
 omega
theorem qev (p:Pr)(lam:Rat):∀ l:List Ch,qcj p lam l=(((l.map (·.pts)).sum*(p.budget+1)-(l.map (·.price)).sum:Int):Rat)-lam*(((l.map (·.price)).sum:Int):Rat)
 | []=>by simp[qcj]; grind
 | c :: l=>by
  have ih:=qev p lam l
  unfold qcj at ih ⊢
  simp only[Js,Jh]
  rw[ih]
  unfold gain
  simp only[Rat.intCast_add,Rat.intCast_sub,Rat.intCast_mul,Rat.intCast_neg]
  grind
theorem qlf {p:Pr}(hp:q03 p){lam:Rat}(hl:0<=lam){f t:List Int}(h:f <+: t)(ht:Perm p t) :
  ((q14 p t:Int):Rat)<=lam*((p.budget:Int):Rat)+q7v p lam p.lots f+(1+lam)*((offs p f:Int):Rat):=by
 obtain⟨hlen,hd,hb,_⟩:=ht
 have h1:=qb6 (lam:=lam) p.lots t f hlen hd h
 rw[qev] at h1
 have h2:=qck hp h hd
 have h3:q1x p t-offs p t<=q0i p t:=by unfold q0i; omega
 have h4:((offs p t:Int):Rat)<=((offs p f:Int):Rat):=Rat.intCast_le_intCast.2 h2
 have h5:((q1x p t-offs p t:Int):Rat)<=((q0i p t:Int):Rat):=Rat.intCast_le_intCast.2 h3
 have h6:((q0i p t:Int):Rat)<=((p.budget:Int):Rat):=Rat.intCast_le_intCast.2 hb
 have h7:lam*((q1x p t-offs p t:Int):Rat)<=lam*((p.budget:Int):Rat):=Rat.mul_le_mul_of_nonneg_left (Rat.le_trans h5 h6) hl
 have h8:(1+lam)*((offs p t:Int):Rat)<=(1+lam)*((offs p f:Int):Rat):=Rat.mul_le_mul_of_nonneg_left h4 (by grind)
 change (((q1r p t*(p.budget+1)-q1x p t:Int):Rat))-lam*((q1x p t:Int):Rat)<=_ at h1
 unfold q14
 simp only[Rat.intCast_add,Rat.intCast_sub,Rat.intCast_mul] at *
 grind
end Pw
namespace Pw
def gtL:List Int->List Int->Bool
 | x :: f,y :: t=>if x=y then gtL f t else decide (y<x)
 | _,_=>false
theorem qew:∀ l:List Int,gtL l l=false
 | []=>rfl
 | x :: l=>by rw[gtL,if_pos rfl]; exact qew l
theorem q8n:∀ a b:List Int,gtL a b=true->gtL b a=false
 | [],b,h=>by simp[gtL] at h
 | _ :: _,[],h=>by simp[gtL] at h
 | x :: a,y :: b,h=>by
  rw[gtL] at h ⊢
  by_cases hxy:x=y
  ·rw[if_pos hxy] at h
   rw[if_pos hxy.symm]
   exact q8n a b h
  ·rw[if_neg hxy] at h
   rw[if_neg (Ne.symm hxy)]
   have:=of_decide_eq_true h
   exact decide_eq_false (by omega)
theorem qcl:∀ a b:List Int,a.length=b.length->a≠b->gtL a b=true\/gtL b a=true
 | [],[],_,h=>absurd rfl h
 | [],_ :: _,h,_=>by simp at h
 | _ :: _,[],h,_=>by simp at h
 | x :: a,y :: b,hl,h=>by
  rw[gtL,gtL]
  by_cases hxy:x=y
  ·subst hxy
   rw[if_pos rfl,if_pos rfl]
   exact qcl a b (by simpa using hl) fun e=>h (by rw[e])
  ·rw[if_neg hxy,if_neg (Ne.symm hxy)]
   rcases Int.lt_or_le y x with hlt | hle
   ·exact .inl (decide_eq_true hlt)
   ·exact .inr (decide_eq_true (by omega))
theorem q8o:∀ a b c:List Int,gtL a b=true->gtL b c=true->gtL a c=true
 | [],b,c,h,_=>by simp[gtL] at h
 | _ :: _,[],_,h,_=>by simp[gtL] at h
 | _ :: _,_ :: _,[],_,h=>by simp[gtL] at h
 | x :: a,y :: b,z :: c,h1,h2=>by
  rw[gtL] at h1 h2 ⊢
  by_cases hxy:x=y
  ·subst hxy
   rw[if_pos rfl] at h1
   by_cases hyz:x=z
   ·rw[if_pos hyz] at h2 ⊢
    exact q8o a b c h1 h2
   ·rw[if_neg hyz] at h2 ⊢
    exact h2
  ·rw[if_neg hxy] at h1
   by_cases hyz:y=z
   ·subst hyz
    rw[if_neg hxy]
    exact h1
   ·rw[if_neg hyz] at h2
    have h1:=of_decide_eq_true h1
    have h2:=of_decide_eq_true h2
    rw[if_neg (by omega)]
    exact decide_eq_true (by omega)
theorem qa9:∀ f t u:List Int,f <+: t->gtL f u=true->gtL t u=true
 | [],t,u,_,h=>by simp[gtL] at h
 | x :: f,t,[],_,h=>by simp[gtL] at h
 | x :: f,[],y :: u,hp,_=>by simp at hp
 | x :: f,z :: t,y :: u,hp,h=>by
  obtain⟨rfl,hp2⟩:=Jp.1 hp
  rw[gtL] at h ⊢
  by_cases hxy:x=y
  ·rw[if_pos hxy] at h ⊢
   exact qa9 f t u hp2 h
  ·rw[if_neg hxy] at h ⊢
   exact h
theorem qb7:∀ f t:List Int,gtL f (t.take f.length)=gtL f t
 | [],t=>by simp[gtL]
 | x :: f,[]=>rfl
 | x :: f,y :: t=>by
  simp only[Jw,List.take_succ_cons,gtL]
  rw[qb7 f t]
def Bt (p:Pr)(a b:List Int):Prop:=q14 p b<q14 p a\/q14 p a=q14 p b/\gtL b a=true
theorem Bt.irrefl {p:Pr}{a:List Int}:¬Bt p a a:=by
 rintro (h | ⟨_,h⟩)
 ·omega
 ·rw[qew] at h; cases h
theorem Bt.asymm {p:Pr}{a b:List Int}(h:Bt p a b):¬Bt p b a:=by
 rintro (h' | ⟨h',g'⟩)
 ·rcases h with h | ⟨h,_⟩<;>omega
 ·rcases h with h | ⟨_,g⟩
  ·omega
  ·rw[q8n _ _ g'] at g; cases g
theorem Bt.trans {p:Pr}{a b c:List Int}(h:Bt p a b)(h':Bt p b c):Bt p a c:=by
 rcases h with h | ⟨h,g⟩<;>rcases h' with h' | ⟨h',g'⟩
 ·exact .inl (by omega)
 ·exact .inl (by omega)
 ·exact .inl (by omega)
 ·exact .inr ⟨by omega,q8o _ _ _ g' g⟩
theorem Bt.total {p:Pr}{a b:List Int}(hl:a.length=b.length)(h:a≠b):Bt p a b\/Bt p b a:=by
 rcases Int.lt_trichotomy (q14 p a) (q14 p b) with hw | hw | hw
 ·exact .inr (.inl hw)
 ·rcases qcl a b hl h with g | g
  ·exact .inr (.inr ⟨hw.symm,g⟩)
  ·exact .inl (.inr ⟨hw,g⟩)
 ·exact .inl (.inl hw)
def q7n (p:Pr)(t:List Int):Prop:=Perm p t/\∀ u,Perm p u->¬Bt p u t
theorem q7n.uniq {p:Pr}{a b:List Int}(ha:q7n p a)(hb:q7n p b):a=b:=by
 apply Classical.byContradiction
 intro h
 rcases Bt.total (p:=p) (by rw[ha.1.1,hb.1.1]) h with g | g
 ·exact hb.2 _ ha.1 g
 ·exact ha.2 _ hb.1 g
def UpTo (p:Pr)(f:List Int)(n:Int):Prop:=∀ t,f <+: t->Perm p t->q14 p t<=n
def q5g (up:List Int->Int->Int->Option Int)(p:Pr)(f:List Int)(a b:Int)(T:List Int):Prop :=
 qb5 p f\/p.budget<q0i p f\/(f.length=p.lots.length/\¬(Perm p f/\Bt p f T))\/∃ n,up f a b=some n/\(n<q14 p T\/n=q14 p T/\gtL f T=true)
def UpOk (up:List Int->Int->Int->Option Int)(p:Pr):Prop:=∀ f a b n,up f a b=some n->UpTo p f n
section
variable {up:List Int->Int->Int->Option Int}{p:Pr}{f T:List Int}{a b:Int}
theorem q3j (hp:q03 p)(hu:UpOk up p)(h:q5g up p f a b T){t:List Int}(hf:f <+: t)(ht:Perm p t):¬Bt p t T:=by
 rcases h with h | h | ⟨hl,h⟩ | ⟨n,hn,h⟩
 ·exact absurd (qg0 hf h) ht.2.2.2
 ·have:=qfz hp hf ht.2.1
  have:=ht.2.2.1
  omega
 ·have:f=t:=hf.eq_of_length (by rw[hl,ht.1])
  subst this
  exact fun hb=>h ⟨ht,hb⟩
 ·have hle:=hu f a b n hn t hf ht
  rcases h with h | ⟨h,g⟩
  ·rintro (hb | ⟨hb,_⟩)<;>omega
  ·rintro (hb | ⟨_,hb⟩)
   ·omega
   ·have:=qa9 _ _ _ hf g
    rw[q8n _ _ this] at hb
    cases hb
theorem q8p {T':List Int}(h:q5g up p f a b T)(hT:T'=T\/Bt p T' T):q5g up p f a b T':=by
 rcases hT with rfl | hT
 ·exact h
 rcases h with h | h | ⟨hl,h⟩ | ⟨n,hn,h⟩
 ·exact .inl h
 ·exact .inr (.inl h)
 ·exact .inr (.inr (.inl ⟨hl,fun⟨h1,h2⟩=>h ⟨h1,h2.trans hT⟩⟩))
 ·refine .inr (.inr (.inr ⟨n,hn,?_⟩))
  rcases h with h | ⟨h,g⟩<;>rcases hT with hT | ⟨hT,g'⟩
  ·exact .inl (by omega)
  ·exact .inl (by omega)
  ·exact .inl (by omega)
  ·exact .inr ⟨by omega,q8o _ _ _ g g'⟩
end
structure Nd where
 lot:Int
 num:Int
 den:Int
 next:List Int
def q0j (lot:Int):Nat->List Ch->List Int
 | _,[]=>[]
 | i,c :: l=>if c.lot=lot then (i:Int) :: q0j lot (i+1) l else q0j lot (i+1) l
def opts (p:Pr)(lot:Int):List Int:=-1 :: q0j lot 0 p.ch
theorem q7o {lot:Int}:∀ (l:List Ch) (i:Nat) (n:Int),n∈q0j lot i l ↔ ∃ j c,l[j]?=some c/\c.lot=lot/\n=((i+j:Nat):Int)
 | [],i,n=>by simp[q0j]
 | c :: l,i,n=>by
  have ih:=q7o (lot:=lot) l (i+1) n
  have key:(∃ j d,(c :: l)[j]?=some d/\d.lot=lot/\n=((i+j:Nat):Int)) ↔ (c.lot=lot/\n=(i:Int))\/∃ j d,l[j]?=some d/\d.lot=lot/\n=((i+1+j:Nat):Int):=by
   constructor
   ·rintro⟨j,d,h1,h2,h3⟩
    cases j with
    | zero=>simp at h1; subst h1; exact .inl ⟨h2,h3⟩
    | succ j=>exact .inr ⟨j,d,by simpa using h1,h2,by rw[h3]; congr 1; omega⟩
   ·rintro (⟨h1,h2⟩ | ⟨j,d,h1,h2,h3⟩)
    ·exact⟨0,c,rfl,h1,h2⟩
    ·exact⟨j+1,d,by simpa using h1,h2,by rw[h3]; congr 1; omega⟩
  rw[key,q0j]
  by_cases h:c.lot=lot
  ·rw[if_pos h,Jo,ih]
   simp[h]
  ·rw[if_neg h,ih]
   simp[h]
theorem q3k {p:Pr}{lot n:Int}:n∈opts p lot ↔ Dec p lot n:=by
 unfold opts Dec chAt
 rw[Jo,q7o]
 constructor
 ·rintro (h | ⟨j,c,h1,h2,h3⟩)
  ·exact .inl h
  ·subst h3
   refine .inr ⟨c,?_,h2⟩
   rw[if_pos (by omega)]
   simpa using h1
 ·rintro (h | ⟨c,h1,h2⟩)
  ·exact .inl h
  ·split at h1
   ·rename_i h0
    exact .inr ⟨n.toNat,c,h1,h2,by omega⟩
   ·cases h1
def kids (Tr:List Int->Nat->Nat->Prop)(f:List Int):List Int->List Int->Nat->Nat->Prop
 | [],[],a,b=>a=b
 | o :: os,k :: ks,a,b=>∃ m:Nat,kids Tr f os ks a m/\k=(m:Int)/\Tr (f++[o]) m b
 | _,_,_,_=>False
def Tree (up:List Int->Int->Int->Option Int)(p:Pr)(T:List Int)(N:List Nd):List Int->List Int->Nat->Nat->Prop
 | [],f,n,m=>∃ x,N[n]?=some x/\x.next=[]/\m=n+1/\q5g up p f x.num x.den T
 | lot :: ls,f,n,m=>∃ x,N[n]?=some x/\((x.next=[]/\m=n+1/\q5g up p f x.num x.den T) \/
   (x.lot=f.length/\kids (Tree up p T N ls) f (opts p lot) x.next (n+1) m))
section
variable {up:List Int->Int->Int->Option Int}{p:Pr}{T:List Int}{N:List Nd}
theorem qdt {Tr:List Int->Nat->Nat->Prop}{f:List Int}(hT:∀ g n m,Tr g n m->n<m):∀ (os ks:List Int) (a b:Nat),kids Tr f os ks a b->a<=b
 | [],[],a,b,h=>by simp[kids] at h; omega
 | [],_ :: _,_,_,h=>h.elim
 | _ :: _,[],_,_,h=>h.elim
 | o :: os,k :: ks,a,b,h=>by
  obtain⟨m,h1,_,h2⟩:=h
  have:=qdt hT os ks a m h1
  have:=hT _ _ _ h2
  omega
theorem qb8:∀ (ls f:List Int) (n m:Nat),Tree up p T N ls f n m->n<m
 | [],f,n,m,h=>by obtain⟨x,_,_,h,_⟩:=h; omega
 | lot :: ls,f,n,m,h=>by
  obtain⟨x,_,⟨_,h,_⟩ | ⟨_,h⟩⟩:=h
  ·omega
  ·have:=qdt (fun g n m=>qb8 ls g n m) _ _ _ _ h
   omega
theorem qb9 {Tr Tr':List Int->Nat->Nat->Prop}{f:List Int}(hT:∀ g n m,Tr g n m->n<m):∀ (os ks:List Int) (a b:Nat),kids Tr f os ks a b->(∀ g n m,a<=n->m<=b->Tr g n m->Tr' g n m)->kids Tr' f os ks a b
 | [],[],a,b,h,_=>h
 | [],_ :: _,_,_,h,_=>h.elim
 | _ :: _,[],_,_,h,_=>h.elim
 | o :: os,k :: ks,a,b,h,hi=>by
  obtain⟨m,h1,h2,h3⟩:=h
  have hm:=qdt hT os ks a m h1
  have hb:=hT _ _ _ h3
  exact⟨m,qb9 hT os ks a m h1 (fun g n m' h4 h5 h6=>hi g n m' h4 (by omega) h6),h2,hi _ _ _ hm (JG _) h3⟩
theorem qaa {T':List Int}{N':List Nd}(hT:T'=T\/Bt p T' T):∀ (ls f:List Int) (n m:Nat),(∀ i,n<=i->i<m->N'[i]?=N[i]?)->Tree up p T N ls f n m->Tree up p T' N' ls f n m
 | [],f,n,m,hN,h=>by
  obtain⟨x,h1,h2,h3,h4⟩:=h
  exact⟨x,by rw[hN n (JG _) (by omega)]; exact h1,h2,h3,q8p h4 hT⟩
 | lot :: ls,f,n,m,hN,h=>by
  have hlt:=qb8 _ _ _ _ h
  obtain⟨x,h1,h2⟩:=h
  refine⟨x,by rw[hN n (JG _) hlt]; exact h1,?_⟩
  rcases h2 with⟨h2,h3,h4⟩ | ⟨h2,h3⟩
  ·exact .inl ⟨h2,h3,q8p h4 hT⟩
  ·exact .inr ⟨h2,qb9 (fun g n m=>qb8 ls g n m) _ _ _ _ h3 fun g a b ha hb h=>qaa hT ls g a b (fun i h4 h5=>hN i (by omega) (by omega)) h⟩
theorem qcm {Tr:List Int->Nat->Nat->Prop}{f:List Int}:∀ (os ks:List Int) (a b:Nat),kids Tr f os ks a b->∀ o∈os,∃ n m,Tr (f++[o]) n m
 | [],[],_,_,_,o,ho=>by cases ho
 | [],_ :: _,_,_,h,_,_=>h.elim
 | _ :: _,[],_,_,h,_,_=>h.elim
 | o' :: os,k :: ks,a,b,h,o,ho=>by
  obtain⟨m,h1,_,h2⟩:=h
  rcases Jo.1 ho with rfl | ho
  ·exact⟨_,_,h2⟩
  ·exact qcm os ks a m h1 o ho
theorem qcn:∀ (ds ls f r:List Int),f.length=ds.length->Decs p (ds++ls) (f++r)->Decs p ls r
 | [],ls,[],r,_,h=>h
 | [],_,_ :: _,_,h,_=>by simp at h
 | _ :: _,_,[],_,h,_=>by simp at h
 | d :: ds,ls,x :: f,r,hl,h=>qcn ds ls f r (by simpa using hl) h.2
theorem qab (hp:q03 p)(hu:UpOk up p){t:List Int}(ht:Perm p t):∀ (ls ds f:List Int) (n m:Nat),p.lots=ds++ls->f.length=ds.length->Tree up p T N ls f n m->f <+: t->¬Bt p t T
 | [],ds,f,n,m,_,_,h,hf=>by
  obtain⟨x,_,_,_,h4⟩:=h
  exact q3j hp hu h4 hf ht
 | lot :: ls,ds,f,n,m,hl,hfl,h,hf=>by
  obtain⟨x,_,⟨_,_,h4⟩ | ⟨_,h4⟩⟩:=h
  ·exact q3j hp hu h4 hf ht
  ·obtain⟨r,rfl⟩:=hf
   have hlen:=ht.1
   rw[hl] at hlen
   have hd:=ht.2.1
   rw[hl] at hd
   have hd:=qcn ds (lot :: ls) f r hfl hd
   cases r with
   | nil=>simp at hlen; omega
   | cons o r =>
    obtain⟨n',m',h5⟩:=qcm _ _ _ _ h4 o (q3k.2 hd.1)
    exact qab hp hu ht ls (ds++[lot]) (f++[o]) n' m' (by rw[hl]; simp) (by simp[hfl]) h5 ⟨r,by simp⟩
end
def q2g (p:Pr):List Int->Nat
 | []=>1
 | lot :: ls=>1+(opts p lot).length*q2g p ls
theorem q3r (p:Pr)(ls:List Int):1<=q2g p ls:=by cases ls<;>simp[q2g]
end Pw
namespace Pw
def decB (p:Pr)(lot n:Int):Bool:=decide (n=-1) || match chAt p n with
 | some c=>decide (c.lot=lot)
 | none=>false
theorem qjp {p:Pr}{lot n:Int}:decB p lot n=true ↔ Dec p lot n:=by
 unfold decB Dec
 simp only[Bool.or_eq_true,decide_eq_true_eq]
 constructor
 ·rintro (h | h)
  ·exact .inl h
  ·split at h
   ·rename_i c hc
    exact .inr ⟨c,hc,of_decide_eq_true h⟩
   ·cases h
 ·rintro (h | ⟨c,hc,h⟩)
  ·exact .inl h
  ·right
   rw[hc]
   exact decide_eq_true h
def q4f (p:Pr):List Int->List Int->Bool
 | _,[]=>true
 | [],_ :: _=>false
 | lot :: ls,n :: f=>decB p lot n && q4f p ls f
theorem q1b {p:Pr}:∀ {ls f:List Int},q4f p ls f=true ↔ Decs p ls f
 | [],[]=>by simp[q4f,Decs]
 | _ :: _,[]=>by simp[q4f,Decs]
 | [],_ :: _=>by simp[q4f,Decs]
 | lot :: ls,n :: f=>by
  simp only[q4f,Decs,JJ,qjp,q1b]
theorem q1n {p:Pr}:∀ {ls f:List Int},Decs p ls f->f.length<=ls.length
 | _,[],_=>by simp
 | [],_ :: _,h=>h.elim
 | _ :: _,_ :: _,h=>by have:=q1n h.2; simp; omega
theorem q57 {p:Pr}:∀ {ls f:List Int},f.length<=ls.length->(Decs p ls f ↔ ∀ (i:Nat) lot n,ls[i]?=some lot->f[i]?=some n->Dec p lot n)
 | ls,[],_=>by
  constructor
  ·intro _ i lot n _ h; simp at h
  ·intro _; cases ls<;>exact trivial
 | [],_ :: _,h=>by simp at h
 | lot :: ls,n :: f,h=>by
  have ih:=q57 (p:=p) (ls:=ls) (f:=f) (by simpa using h)
  constructor
  ·rintro⟨h1,h2⟩ i lot' n' hl hn
   cases i with
   | zero=>simp at hl hn; subst hl; subst hn; exact h1
   | succ i=>exact ih.1 h2 i lot' n' (by simpa using hl) (by simpa using hn)
  ·intro h
   exact⟨h 0 lot n rfl rfl,ih.2 fun i lot' n' hl hn=>h (i+1) lot' n' (by simpa using hl) (by simpa using hn)⟩
def q3s (p:Pr)(f:List Int):Bool:=decide (f.length=p.lots.length) && q4f p p.lots f
def q2c (p:Pr)(f:List Int):Bool:=decide (0<p.most) && (took p f).any fun c=>decide (p.most<((took p f).countP (fun d=>d.bid == c.bid):Int))
def q21 (p:Pr)(f:List Int):Bool:=q3s p f && (decide (q0i p f<=p.budget) && !q2c p f)
theorem q12 {p:Pr}{f:List Int}:q2c p f=true ↔ qb5 p f:=by
 unfold q2c qb5
 simp only[JJ,decide_eq_true_eq,Jc]
 constructor
 ·rintro⟨h0,c,_,h⟩
  exact⟨h0,c.bid,h⟩
 ·rintro⟨h0,b,h⟩
  refine⟨h0,?_⟩
  have hpos:0<(took p f).countP (fun d=>d.bid == b):=by omega
  obtain⟨c,hc,hb⟩:=List.countP_pos_iff.1 hpos
  refine⟨c,hc,?_⟩
  have:c.bid=b:=by simpa using hb
  rw[this]
  exact h
theorem q23 {p:Pr}{f:List Int}:q21 p f=true ↔ Perm p f:=by
 unfold q21 Perm q3s
 simp only[JJ,decide_eq_true_eq,q1b,Bool.not_eq_true',and_assoc]
 constructor
 ·rintro⟨h1,h2,h3,h4⟩
  exact⟨h1,h2,h3,fun h=>by rw[q12.2 h] at h4; cases h4⟩
 ·rintro⟨h1,h2,h3,h4⟩
  refine⟨h1,h2,h3,?_⟩
  cases h:q2c p f with
  | false=>rfl
  | true=>exact absurd (q12.1 h) h4
theorem q6j (M:Int):∀ l:List Int,(∀ x∈l,0<=x/\x<=M)->0<=l.sum/\l.sum<=l.length*M
 | [],_=>by simp
 | x :: l,h=>by
  have h1:=h x (by simp)
  have h2:=q6j M l fun y hy=>h y (by simp[hy])
  rw[Jh,Jw]
  have e:((l.length+1:Nat):Int)*M=l.length*M+M:=by
   rw[Int.natCast_add,Int.add_mul]; simp
  rw[e]
  omega
theorem q44 {p:Pr}(f:List Int):(took p f).length<=f.length:=List.length_filterMap_le ..
theorem qdu {p:Pr}(f g:List Int):took p (f++g)=took p f++took p g:=Jq
section
variable {p:Pr}{f:List Int}
theorem q1h (hp:q03 p)(hd:Decs p p.lots f):f.length<=12:=JH (q1n hd) hp.few
theorem q6k (hp:q03 p)(g:Ch->Int)(M:Int)(hg:∀ c∈p.ch,0<=g c/\g c<=M)(hd:Decs p p.lots f)(hM:0<=M){l:List Ch}(hl:l <+: took p f):0<=(l.map g).sum/\(l.map g).sum<=12*M:=by
 have h1:=q6j M (l.map g) fun x hx=>by
  obtain⟨c,hc,rfl⟩:=J7.1 hx
  exact hg c (qeu (hl.subset hc))
 have h2:=hl.length_le
 have h3:=q44 (p:=p) f
 have h4:=q1h hp hd
 rw[J4] at h1
 refine⟨h1.1,Int.le_trans h1.2 (Int.mul_le_mul_of_nonneg_right (by omega) hM)⟩
theorem pts_bound (hp:q03 p)(hd:Decs p p.lots f):0<=q1r p f/\q1r p f<=12000000 :=
 q6k hp (·.pts) 1000000 (fun c hc=>(hp.ch c hc).2.2) hd (by decide) (Jn _)
theorem q3t (hp:q03 p)(hd:Decs p p.lots f):0<=q1x p f/\q1x p f<=12000000000 :=
 q6k hp (·.price) 1000000000 (fun c hc=>(hp.ch c hc).2.1) hd (by decide) (Jn _)
theorem q1a (hp:q03 p){l:List De}(hl:l <+: p.de):0<=(l.map (q2z p f)).sum/\(l.map (q2z p f)).sum<=100000000000:=by
 have h1:=q6j 1000000000 (l.map (q2z p f)) fun x hx=>by
  obtain⟨d,hd,rfl⟩:=J7.1 hx
  have:=(hp.de d (hl.subset hd)).2.2.2
  unfold q2z
  split
  ·exact⟨this.1,this.2⟩
  ·exact⟨JD _,by decide⟩
 have h2:=hl.length_le
 have h3:=hp.des
 rw[J4] at h1
 omega
theorem q8q (hp:q03 p)(hd:Decs p p.lots f):0<=q0i p f/\q0i p f<=12000000000:=by
 have h1:=q3t hp hd
 have h2:=q8m hp f
 unfold q0i
 omega
theorem q5t (hp:q03 p)(hd:Decs p p.lots f):0<=q1r p f*(p.budget+1)/\q1r p f*(p.budget+1)<=12000012000000000/\-12000000000<=q14 p f/\q14 p f<=12000012000000000:=by
 have h1:=pts_bound hp hd
 have h2:=q8q hp hd
 have h3:=hp.budget
 have h4:q1r p f*(p.budget+1)<=12000000*1000000001:=JE h1.2 (by have:=h3.2; omega) (by have:=h3.1; omega) (by decide)
 have h5:0<=q1r p f*(p.budget+1):=JF h1.1 (by have:=h3.1; omega)
 unfold q14
 omega
theorem q4p (hp:q03 p){c:Ch}(hc:c∈p.ch):0<=c.pts*(p.budget+1)/\c.pts*(p.budget+1)<=1000001000000000:=by
 have h1:=(hp.ch c hc).2.2
 have h3:=hp.budget
 have h4:c.pts*(p.budget+1)<=1000000*1000000001:=JE h1.2 (by have:=h3.2; omega) (by have:=h3.1; omega) (by decide)
 exact⟨JF h1.1 (by have:=h3.1; omega),by omega⟩
end
end Pw
namespace Pw
section
variable {up:List Int->Int->Int->Option Int}{p:Pr}{T T':List Int}{N N':List Nd}{f:List Int}
theorem q8r {ls:List Int}{n:Nat}{x:Nd}(h:N[n]?=some x)(hx:x.next=[])(hc:q5g up p f x.num x.den T):Tree up p T N ls f n (n+1):=by
 cases ls with
 | nil=>exact⟨x,h,hx,rfl,hc⟩
 | cons lot ls=>exact⟨x,h,.inl ⟨hx,rfl,hc⟩⟩
theorem qac {ls os ks:List Int}{a b:Nat}(hT:T'=T\/Bt p T' T)(hN:∀ i,a<=i->i<b->N'[i]?=N[i]?)(h:kids (Tree up p T N ls) f os ks a b):kids (Tree up p T' N' ls) f os ks a b :=
 qb9 (fun g n m=>qb8 ls g n m) _ _ _ _ h fun g n m h1 h2 h=>qaa hT ls g n m (fun i h3 h4=>hN i (by omega) (by omega)) h
theorem qg1 (h:N <+: N'){i:Nat}(hi:i<N.length):N'[i]?=N[i]?:=by
 obtain⟨r,rfl⟩:=h
 rw[Ji hi]
theorem qhx {ls os ks:List Int}{a:Nat}{o:Int}(hT:T'=T\/Bt p T' T)(hN:N <+: N')(h:kids (Tree up p T N ls) f os ks a N.length)(ht:Tree up p T' N' ls (f++[o]) N.length N'.length) :
  kids (Tree up p T' N' ls) f (o :: os) ((N.length:Int) :: ks) a N'.length :=
 ⟨N.length,qac hT (fun _ _ hi=>qg1 hN hi) h,rfl,ht⟩
theorem qg2 {lot:Int}{ls ks:List Int}{n:Nat}{x:Nd}(h:N[n]?=some x)(hl:x.lot=f.length)(hn:x.next=ks)(hk:kids (Tree up p T N ls) f (opts p lot) ks (n+1) N.length):Tree up p T N (lot :: ls) f n N.length :=
 ⟨x,h,.inr ⟨hl,by rw[hn]; exact hk⟩⟩
theorem qex (h1:T'=T\/Bt p T' T){T'':List Int}(h2:T''=T'\/Bt p T'' T'):T''=T\/Bt p T'' T:=by
 rcases h2 with rfl | h2
 ·exact h1
 ·rcases h1 with rfl | h1
  ·exact .inr h2
  ·exact .inr (h2.trans h1)
structure VP (up:List Int->Int->Int->Option Int)(p:Pr)(f ls:List Int)(left:Int)(T:List Int)(N:List Nd)(left':Int)(T':List Int)(N':List Nd)(n:Int)(ok:Bool):Prop where
 perm:Perm p T'
 bt:T'=T\/Bt p T' T
 pre:N <+: N'
 lo:-1<=left'
 yes:ok=true->n=N.length/\Tree up p T' N' ls f N.length N'.length/\left'+N'.length=left+N.length/\0<=left'/\N'.length<=N.length+q2g p ls
 no:ok=false->left<q2g p ls
end
end Pw
namespace Pw
def q73 (p:Pr):List Int->Int->Int
 | [],m=>m
 | n :: l,m=>q73 p l (match chAt p n with | some c=>max m c.pts | none=>m)
def qba (p:Pr)(lot:Int):Int:=q73 p (opts p lot) 0
def qhy (p:Pr):Int:=(p.lots.map (qba p)).sum
theorem q80 {p:Pr}(hp:q03 p):∀ (l:List Int) (m:Int),0<=m->m<=1000000->0<=q73 p l m/\q73 p l m<=1000000
 | [],m,h0,h1=>⟨h0,h1⟩
 | n :: l,m,h0,h1=>by
  unfold q73
  cases hc:chAt p n with
  | none=>exact q80 hp l m h0 h1
  | some c =>
   have:=(hp.ch c (q7z hc)).2.2
   exact q80 hp l _ (by have:=Int.le_max_left m c.pts; simp only; omega) (by simp only; have:=this.2; omega)
theorem qg3 {p:Pr}(hp:q03 p){l:List Int}(hl:l <+: p.lots):0<=(l.map (qba p)).sum/\(l.map (qba p)).sum<=12000000:=by
 have h1:=q6j 1000000 (l.map (qba p)) fun x hx=>by
  obtain⟨y,_,rfl⟩:=J7.1 hx
  exact q80 hp _ 0 (JD _) (by decide)
 have h2:=hl.length_le
 have h3:=hp.few
 rw[J4] at h1
 omega
def SolveP (up:List Int->Int->Int->Option Int)(p:Pr)(work:Int)(T:List Int)(pts bnd:Int)(N:List Nd)(e:Int):Prop :=
 (e=0/\q7n p T/\pts=q1r p T/\bnd=pts/\Tree up p T N p.lots [] 0 N.length/\(N.length:Int)<=work)\/(e=42/\Perm p T/\pts=q1r p T/\bnd=qhy p/\N=[]/\work<q2g p p.lots)
theorem qco {p:Pr}:∀ ls:List Int,Decs p ls (Jk ls.length (-1))
 | []=>trivial
 | _ :: ls=>⟨.inl rfl,qco ls⟩
theorem qcp (p:Pr)(k:Nat):took p (Jk k (-1))=[]:=by
 unfold took
 induction k with
 | zero=>rfl
 | succ k ih =>
  rw[List.replicate_succ,Je,show chAt p (-1)=none by simp[chAt]]
  exact ih
theorem qcq {p:Pr}(hp:q03 p):Perm p (Jk p.lots.length (-1)):=by
 refine⟨by simp,qco _,?_,?_⟩
 ·have:=q8m hp (Jk p.lots.length (-1))
  have:=hp.budget.1
  unfold q0i q1x
  rw[qcp]
  simp
  omega
 ·rintro⟨h0,b,hb⟩
  rw[qcp] at hb
  simp at hb
  omega
end Pw
namespace Pw
def nv (l:List Int)(j:Nat)(n:Int):Int:=l.getD j 0 % n
theorem q0s {l:List Int}{j:Nat}{n:Int}(h:0<n):0<=nv l j n/\nv l j n<n:=⟨Int.emod_nonneg _ (by omega),Int.emod_lt_of_pos _ h⟩
theorem nv_out {l:List Int}{j:Nat}{n:Int}(h:l.length<=j):nv l j n=0:=by
 unfold nv
 rw[Jf,Jb h]
 exact Int.zero_emod n
def q0v (l:List Int):Int:=1+nv l 2 4
def mLot (l:List Int)(i:Nat):Int:=10+3*i-2*nv l (3+i) 2
def q1s (l:List Int):List Int:=(JA (q0v l).toNat).map (mLot l)
def q1g (l:List Int):Int:=nv l (3+(q0v l).toNat) 13
def mC0 (l:List Int):Nat:=4+(q0v l).toNat
def mCh (l:List Int)(i:Nat):Ch:=⟨(q1s l).getD (nv l (mC0 l+4*i) (q0v l)).toNat 0,1+nv l (mC0 l+4*i+1) 4,nv l (mC0 l+4*i+2) 12,nv l (mC0 l+4*i+3) 6⟩
def mChL (l:List Int):List Ch:=(JA (q1g l).toNat).map (mCh l)
def q6l (l:List Int):Int:=nv l (mC0 l+4*(q1g l).toNat) 4
def mD0 (l:List Int):Nat:=mC0 l+4*(q1g l).toNat+1
def mSet (l:List Int)(i:Nat):Int:=1+nv l (mD0 l+3*i+2) (2^(q0v l).toNat-1)
def bitI (n:Int)(k:Nat):Bool:=decide ((n / 2^k) % 2=1)
def mDe (l:List Int)(i:Nat):De:=⟨1+nv l (mD0 l+3*i) 4,(JA (q0v l).toNat).filterMap (fun k=>if bitI (mSet l i) k then some (mLot l k) else none),nv l (mD0 l+3*i+1) 6⟩
def mDeL (l:List Int):List De:=(JA (q6l l).toNat).map (mDe l)
def q3f (l:List Int):Pr:=⟨q1s l,mChL l,mDeL l,nv l 0 4,nv l 1 30⟩
section
variable {l:List Int}
theorem q26:1<=q0v l/\q0v l<=4:=by
 have:=q0s (l:=l) (j:=2) (n:=4) (by decide)
 unfold q0v; omega
theorem qhz {i j:Nat}(h:i<j):mLot l i<mLot l j:=by
 have h1:=q0s (l:=l) (j:=3+i) (n:=2) (by decide)
 have h2:=q0s (l:=l) (j:=3+j) (n:=2) (by decide)
 unfold mLot; omega
theorem qcr:(q1s l).Nodup:=by
 unfold q1s
 rw[Jg,List.pairwise_map]
 exact Jl.imp fun h=>by have:=qhz (l:=l) h; omega
theorem q32:(q1s l).length=(q0v l).toNat:=by simp[q1s]
theorem qdv {i:Nat}:(mDe l i).lots≠[]:=by
 have hL:=q26 (l:=l)
 obtain⟨k,hk⟩:∃ k,(q0v l).toNat=k:=⟨_,rfl⟩
 have hp:(0:Int)<2^(q0v l).toNat-1:=by
  rw[hk]
  have:k=1\/k=2\/k=3\/k=4:=by omega
  rcases this with rfl | rfl | rfl | rfl<;>decide
 have hs:=q0s (l:=l) (j:=mD0 l+3*i+2) hp
 intro h
 simp only[mDe,List.filterMap_eq_nil_iff,List.mem_range] at h
 have key:∀ k,k<(q0v l).toNat->bitI (mSet l i) k=false:=by
  intro k hk
  have:=h k hk
  split at this
  ·cases this
  ·rename_i hb; simpa using hb
 have hset:1<=mSet l i/\mSet l i<2^(q0v l).toNat:=by unfold mSet; omega
 generalize mSet l i=m at *
 rw[hk] at hset key
 have:k=1\/k=2\/k=3\/k=4:=by omega
 simp only[bitI,decide_eq_false_iff_not] at key
 have h0:=key 0
 have h1:=key 1
 have h2:=key 2
 have h3:=key 3
 simp only[Int.pow_zero,Int.ediv_one,Int.pow_one,show(2:Int)^2=4 from rfl,show(2:Int)^3=8 from rfl] at h0 h1 h2 h3
 rcases this with rfl | rfl | rfl | rfl
 ·have:=h0 (by omega); simp at hset; omega
 ·have a:=h0 (by omega); have b:=h1 (by omega); simp at hset; omega
 ·have a:=h0 (by omega); have b:=h1 (by omega); have c:=h2 (by omega); simp at hset; omega
 ·have a:=h0 (by omega); have b:=h1 (by omega); have c:=h2 (by omega); have d:=h3 (by omega); simp at hset; omega
theorem qbb {ks:List Nat}(hs:ks.Pairwise (·<·))(q:Nat->Bool):((ks.filterMap fun k=>if q k then some (mLot l k) else none)).Pairwise (·<·)/\∀ x∈ks.filterMap (fun k=>if q k then some (mLot l k) else none),∃ k∈ks,x=mLot l k:=by
 constructor
 ·rw[List.pairwise_filterMap]
  refine hs.imp fun {a b} hab x hx y hy=>?_
  have e1:x=mLot l a:=by
   split at hx
   ·exact(Option.some.inj hx).symm
   ·cases hx
  have e2:y=mLot l b:=by
   split at hy
   ·exact(Option.some.inj hy).symm
   ·cases hy
  rw[e1,e2]
  exact qhz hab
 ·intro x hx
  obtain⟨k,hk,hx⟩:=Jr.1 hx
  split at hx
  ·exact⟨k,hk,(Option.some.inj hx).symm⟩
  ·cases hx
theorem q8s (l:List Int):q03 (q3f l):=by
 have hL:=q26 (l:=l)
 have hlen:=q32 (l:=l)
 refine⟨?_,?_,qcr,?_,?_,?_,?_,fun c hc=>?_,fun d hd=>?_⟩
 ·show 0<(q1s l).length; omega
 ·show(q1s l).length<=12; omega
 ·have:=q0s (l:=l) (j:=3+(q0v l).toNat) (n:=13) (by decide)
  show(mChL l).length<=480
  simp only[mChL,J4,Jt,q1g]; omega
 ·have:=q0s (l:=l) (j:=mC0 l+4*(q1g l).toNat) (n:=4) (by decide)
  show(mDeL l).length<=100
  simp only[mDeL,J4,Jt,q6l]; omega
 ·have:=q0s (l:=l) (j:=0) (n:=4) (by decide)
  show Wi (nv l 0 4) _
  exact⟨this.1,by omega⟩
 ·have:=q0s (l:=l) (j:=1) (n:=30) (by decide)
  show Wi (nv l 1 30) _
  exact⟨this.1,by omega⟩
 ·obtain⟨i,_,rfl⟩:=J7.1 hc
  have h1:=q0s (l:=l) (j:=mC0 l+4*i) (n:=q0v l) (by omega)
  have h2:=q0s (l:=l) (j:=mC0 l+4*i+2) (n:=12) (by decide)
  have h3:=q0s (l:=l) (j:=mC0 l+4*i+3) (n:=6) (by decide)
  refine⟨?_,⟨h2.1,by show nv l (mC0 l+4*i+2) 12<=_; omega⟩,⟨h3.1,by show nv l (mC0 l+4*i+3) 6<=_; omega⟩⟩
  show(q1s l).getD _ 0∈q1s l
  have hlt:(nv l (mC0 l+4*i) (q0v l)).toNat<(q1s l).length:=by omega
  rw[Jf,J0 hlt]
  exact J3 hlt
 ·obtain⟨i,_,rfl⟩:=J7.1 hd
  have h2:=q0s (l:=l) (j:=mD0 l+3*i+1) (n:=6) (by decide)
  obtain⟨q1,q2⟩:=qbb (l:=l) (Jl (n:=(q0v l).toNat)) (bitI (mSet l i))
  refine⟨qdv,?_,fun x hx=>?_,⟨h2.1,by show nv l (mD0 l+3*i+1) 6<=_; omega⟩⟩
  ·rw[Jg]
   exact q1.imp fun h=>by omega
  ·obtain⟨k,hk,rfl⟩:=q2 x hx
   exact J7.2 ⟨k,hk,rfl⟩
end
open Go
theorem Fr.t {w0 w w':World}(h:Fr F0 w0 w)(h':Fr F0 w w'):Fr F0 w0 w':=Fr0.t h h'
end Pw
namespace Go.Proofs.YtfpobpjandjhjaaGreatDoor
open Go Pw
abbrev idOf {f:Nat}{S:Pw.Spec}(_:q3e Tryz.prog f S):Nat:=f
abbrev fnv (f:Nat)(l:List Nat):Value:=.func (.func f) #[] (l.map fun b=>Value.pointer (some ⟨b,0,none⟩)).toArray
def FnB {α:Type}(f:Value)(w0:World)(arg:α->List Value)(l:List α)(t:α->Bool):Prop :=
 ∀ a∈l,∀ w,Fr F0 w0 w->∀ K:VW,(∀ w',Fr F0 w w'->K (.bool (t a)) w')->q2b Tryz.prog f (arg a) w K
def argI:Int->List Value:=fun n=>[.int .i64 n]
def encC (c:Ch):List Value:=[.int .i64 c.lot,.int .i64 c.bid,.int .i64 c.price,.int .i64 c.pts]
def argC (c:Ch):List Value:=[.agg #[.int .i64 c.lot,.int .i64 c.bid,.int .i64 c.price,.int .i64 c.pts]]
def encD (d:De × Sl):List Value:=[.int .i64 d.1.bid,.slice d.2.p d.2.l d.2.c,.int .i64 d.1.off]
def argD (d:De × Sl):List Value:=[.agg #[.int .i64 d.1.bid,.slice d.2.p d.2.l d.2.c,.int .i64 d.1.off]]
@[simp] theorem q2h (c:Ch):(encC c).length=4:=rfl
@[simp] theorem q2i (d:De × Sl):(encD d).length=3:=rfl
abbrev VI (w:World)(s:Sl)(l:List Int):Prop:=Vw 1 (ie .i64 id) w s l
abbrev VC (w:World)(s:Sl)(l:List Ch):Prop:=Vw 4 encC w s l
abbrev VD (w:World)(s:Sl)(l:List (De × Sl)):Prop:=Vw 3 encD w s l
section
variable {w w' w0:World}{s:Sl}
theorem VI.ld {l:List Int}{i:Int}{K:Int->Prop}(h:VI w s l)(i':Nat)(hi:i=(i':Int))(h1:i'<l.length)(hK:K l[i']) :
  nz s.p fun a=>(0<=i/\i<(s.l:Nat))/\∃ x:Int,w.cell? (a.add (i.toNat*1))=some (Value.int .i64 x)/\K x :=
 Vw.ld 0 h i' hi h1 (by simpa [h1] using hK)
theorem VC.ld {l:List Ch}{i:Int}{K:Addr->Prop}(h:VC w s l)(i':Nat)(hi:i=(i':Int))(h1:i'<l.length)
  (hK:∀ a:Addr,(∀ w',Fr F0 w w'->w'.cell? (a.add (i.toNat*4))=some (.int .i64 l[i'].lot)/\w'.cell? ((a.add (i.toNat*4)).add 1)=some (.int .i64 l[i'].bid)/\w'.cell? ((a.add (i.toNat*4)).add 2)=some (.int .i64 l[i'].price)/\w'.cell? ((a.add (i.toNat*4)).add 3)=some (.int .i64 l[i'].pts))->K a) :
  nz s.p fun a=>(0<=i/\i<(s.l:Nat))/\K a:=by
 subst hi
 have hl:=h.len
 obtain⟨ad,hp,_⟩:=h.at (fun a=>q2h a) (J0 h1) (by decide)
 rw[hp]
 refine⟨⟨by omega,by omega⟩,hK _ fun w' hf=>?_⟩
 obtain⟨ad',hp',hc⟩:=(h.fr hf).at (fun a=>q2h a) (J0 h1) (by decide)
 rw[hp] at hp'
 cases hp'
 exact⟨hc 0 _ rfl,hc 1 _ rfl,hc 2 _ rfl,hc 3 _ rfl⟩
theorem VD.ld {l:List (De × Sl)}{i:Int}{K:Addr->Prop}(h:VD w s l)(i':Nat)(hi:i=(i':Int))(h1:i'<l.length)
  (hK:∀ a:Addr,(∀ w',Fr F0 w w'->w'.cell? (a.add (i.toNat*3))=some (.int .i64 l[i'].1.bid)/\w'.cell? ((a.add (i.toNat*3)).add 1)=some (.slice l[i'].2.p l[i'].2.l l[i'].2.c)/\w'.cell? ((a.add (i.toNat*3)).add 2)=some (.int .i64 l[i'].1.off))->K a) :
  nz s.p fun a=>(0<=i/\i<(s.l:Nat))/\K a:=by
 subst hi
 have hl:=h.len
 obtain⟨ad,hp,_⟩:=h.at (fun a=>q2i a) (J0 h1) (by decide)
 rw[hp]
 refine⟨⟨by omega,by omega⟩,hK _ fun w' hf=>?_⟩
 obtain⟨ad',hp',hc⟩:=(h.fr hf).at (fun a=>q2i a) (J0 h1) (by decide)
 rw[hp] at hp'
 cases hp'
 exact⟨hc 0 _ rfl,hc 1 _ rfl,hc 2 _ rfl⟩
def idxI (v:Int)(l:List Int):Int:=if v∈l then (l.idxOf v:Int) else -1
theorem qjq {v:Int}{l:List Int}(h:v ∉ l):idxI v l=-1:=if_neg h
theorem qlg {v:Int}{l:List Int}{i:Nat}(h:i<l.length)(h1:l[i]=v)(h2:v ∉ l.take i):idxI v l=(i:Int):=by
 have hm:v∈l:=h1 ▸ J3 h
 rw[idxI,if_pos hm]
 have e:l=l.take i++v :: l.drop (i+1):=by
  rw[← h1,List.getElem_cons_drop,List.take_append_drop]
 rw[e,List.idxOf_append,if_neg h2,List.idxOf_cons_self]
 simp; omega
theorem q08 {α:Type}{l:List α}{i:Nat}(h:i<l.length):l.take (i+1)=l.take i++[l[i]]:=by
 rw[List.take_add_one,J0 h]; rfl
theorem q74 {v:Int}{l:List Int}{K:Int->World->Prop}(h:VI w s l)(hl:l.length<2^62)(hK:K (idxI v l) w):z3n_sh s v K w:=by
 have hlen:=h.len
 refine⟨⟨⟨fun i w'=>∃ i':Nat,i=i'/\i'<=l.length/\v ∉ l.take i'/\w'=w,fun i _=>l.length-i.toNat,⟨0,rfl,by omega,by simp,rfl⟩,?_⟩⟩⟩
 rintro i _ ⟨i,rfl,hi,hn,rfl⟩
 unfold z3n_b0
 refine q00.2<|⟨fun hlt=>?_,fun hge=>?_⟩
 ·have hlt:i<l.length:=by omega
  refine VI.ld h i rfl hlt<|q09.2<|⟨fun he=>?_,fun hne=>⟨q01,⟨⟨rfl,rfl,rfl,trivial⟩,i+1,by omega,by omega,?_,rfl⟩,by dsimp only; omega⟩⟩
  ·rwa [qlg hlt he.symm hn] at hK
  ·rw[q08 hlt,Ja,J1]
   rintro (h | h)
   ·exact hn h
   ·exact hne h
 ·have:i=l.length:=by omega
  subst this
  rw[J2] at hn
  rwa [qjq hn] at hK
theorem qbc {v:Int}{l:List Int}{K:Bool->World->Prop}(h:VI w s l)(hl:l.length<2^62)(hK:K (decide (v∈l)) w):z2z_sh s v K w:=by
 refine⟨q74 h hl ?_⟩
 by_cases hm:v∈l
 ·rw[decide_eq_true hm] at hK
  rw[idxI,if_pos hm,decide_eq_true (by omega)]
  exact hK
 ·rw[decide_eq_false hm] at hK
  rw[idxI,if_neg hm,decide_eq_false (by omega)]
  exact hK
def qbd {α:Type}(t:α->Bool)(l:List α):Int:=match l.findIdx? t with
 | some i=>i
 | none=>-1
theorem q8t {α:Type}(t:α->Bool)(l:List α):decide (qbd t l>=0)=l.any t:=by
 unfold qbd
 cases h:l.findIdx? t with
 | none =>
  rw[Jj] at h
  rw[JK]
  simp only[decide_eq_true_eq,Jc]
  constructor
  ·intro h; omega
  ·rintro⟨x,hx,ht⟩
   rw[h x hx] at ht
   cases ht
 | some i =>
  obtain⟨h1,h2,_⟩:=J8.1 h
  rw[JK]
  simp only[decide_eq_true_eq,Jc]
  exact⟨fun _=>⟨_,J3 h1,h2⟩,fun _=>by omega⟩
theorem qbe {α:Type}{t:α->Bool}{l:List α}{i:Nat}(h:i<l.length)(h1:t l[i]=true)(h2:∀ a∈l.take i,t a=false):qbd t l=(i:Int):=by
 have:l.findIdx? t=some i:=by
  rw[J8]
  refine⟨h,h1,fun j hj=>?_⟩
  have:=h2 l[j] (List.mem_iff_getElem.2 ⟨j,by simp; omega,by simp⟩)
  simp[this]
 unfold qbd
 rw[this]
theorem q75 {α:Type}{t:α->Bool}{l:List α}(h:∀ a∈l,t a=false):qbd t l=-1:=by
 have:l.findIdx? t=none:=Jj.2 h
 unfold qbd
 rw[this]
theorem q9r {f:Value}{t:Int->Bool}{l:List Int}{K:Int->World->Prop}(h:VI w s l)(hl:l.length<2^62)(hf:FnB f w argI l t)(hK:∀ w',Fr F0 w w'->K (qbd t l) w'):z2n_sh s f K w:=by
 have hlen:=h.len
 refine⟨⟨⟨fun i w'=>∃ i':Nat,i=i'/\i'<=l.length/\(∀ a∈l.take i',t a=false)/\Fr F0 w w',fun i _=>l.length-i.toNat,⟨0,rfl,by omega,by simp,Fr.refl⟩,?_⟩⟩⟩
 rintro i w1 ⟨i,rfl,hi,hn,hw⟩
 unfold z2n_b0
 refine q00.2<|⟨fun hlt=>?_,fun hge=>?_⟩
 ·have hlt:i<l.length:=by omega
  refine VI.ld (h.fr hw) i rfl hlt<|hf _ (J3 hlt) w1 hw _ fun w2 hw2=>⟨_,rfl,q02.2 ?_⟩
  refine⟨fun he=>?_,fun hne=>⟨q01,⟨⟨rfl,rfl,rfl,trivial⟩,i+1,by omega,by omega,?_,hw.t hw2⟩,by dsimp only; omega⟩⟩
  ·have:=hK w2 (hw.t hw2)
   rwa [qbe hlt he hn] at this
  ·rw[q08 hlt]
   intro a ha
   rcases Ja.1 ha with ha | ha
   ·exact hn a ha
   ·rw[J1] at ha
    subst ha
    exact hne
 ·have:i=l.length:=by omega
  subst this
  rw[J2] at hn
  have:=hK w1 hw
  rwa [q75 hn] at this
theorem q8u {f:Value}{t:Ch->Bool}{l:List Ch}{K:Int->World->Prop}(h:VC w s l)(hl:l.length<2^62)(hf:FnB f w argC l t)(hK:∀ w',Fr F0 w w'->K (qbd t l) w'):z03_sh s f K w:=by
 have hlen:=h.len
 refine⟨⟨⟨fun i w'=>∃ i':Nat,i=i'/\i'<=l.length/\(∀ a∈l.take i',t a=false)/\Fr F0 w w',fun i _=>l.length-i.toNat,⟨0,rfl,by omega,by simp,Fr.refl⟩,?_⟩⟩⟩
 rintro i w1 ⟨i,rfl,hi,hn,hw⟩
 unfold z03_b0
 refine q00.2<|⟨fun hlt=>?_,fun hge=>?_⟩
 ·have hlt:i<l.length:=by omega
  refine VC.ld (h.fr hw) i rfl hlt fun a hc=>?_
  obtain⟨c0,c1,c2,c3⟩:=hc w1 Fr.refl
  refine⟨_,c0,_,c1,_,c2,_,c3,hf _ (J3 hlt) w1 hw _ fun w2 hw2=>⟨_,rfl,q02.2 ?_⟩⟩
  refine⟨fun he=>?_,fun hne=>⟨q01,⟨⟨rfl,rfl,rfl,trivial⟩,i+1,by omega,by omega,?_,hw.t hw2⟩,by dsimp only; omega⟩⟩
  ·have:=hK w2 (hw.t hw2)
   rwa [qbe hlt he hn] at this
  ·rw[q08 hlt]
   intro a ha
   rcases Ja.1 ha with ha | ha
   ·exact hn a ha
   ·rw[J1] at ha
    subst ha
    exact hne
 ·have:i=l.length:=by omega
  subst this
  rw[J2] at hn
  have:=hK w1 hw
  rwa [q75 hn] at this
theorem q8v {f:Value}{t:De × Sl->Bool}{l:List (De × Sl)}{K:Int->World->Prop}(h:VD w s l)(hl:l.length<2^62)(hf:FnB f w argD l t)(hK:∀ w',Fr F0 w w'->K (qbd t l) w'):z08_sh s f K w:=by
 have hlen:=h.len
 refine⟨⟨⟨fun i w'=>∃ i':Nat,i=i'/\i'<=l.length/\(∀ a∈l.take i',t a=false)/\Fr F0 w w',fun i _=>l.length-i.toNat,⟨0,rfl,by omega,by simp,Fr.refl⟩,?_⟩⟩⟩
 rintro i w1 ⟨i,rfl,hi,hn,hw⟩
 unfold z08_b0
 refine q00.2<|⟨fun hlt=>?_,fun hge=>?_⟩
 ·have hlt:i<l.length:=by omega
  refine VD.ld (h.fr hw) i rfl hlt fun a hc=>?_
  obtain⟨c0,c1,c2⟩:=hc w1 Fr.refl
  refine⟨_,c0,_,c1,_,c2,hf _ (J3 hlt) w1 hw _ fun w2 hw2=>⟨_,rfl,q02.2 ?_⟩⟩
  refine⟨fun he=>?_,fun hne=>⟨q01,⟨⟨rfl,rfl,rfl,trivial⟩,i+1,by omega,by omega,?_,hw.t hw2⟩,by dsimp only; omega⟩⟩
  ·have:=hK w2 (hw.t hw2)
   rwa [qbe hlt he hn] at this
  ·rw[q08 hlt]
   intro a ha
   rcases Ja.1 ha with ha | ha
   ·exact hn a ha
   ·rw[J1] at ha
    subst ha
    exact hne
 ·have:i=l.length:=by omega
  subst this
  rw[J2] at hn
  have:=hK w1 hw
  rwa [q75 hn] at this
theorem q3u {f:Value}{t:Int->Bool}{l:List Int}{K:Bool->World->Prop}(h:VI w s l)(hl:l.length<2^62)(hf:FnB f w argI l t)(hK:∀ w',Fr F0 w w'->K (l.any t) w'):z1d_sh s f K w :=
 ⟨q9r h hl hf fun w' hw=>by rw[q8t]; exact hK w' hw⟩
theorem q2d {f:Value}{t:Ch->Bool}{l:List Ch}{K:Bool->World->Prop}(h:VC w s l)(hl:l.length<2^62)(hf:FnB f w argC l t)(hK:∀ w',Fr F0 w w'->K (l.any t) w'):z00_sh s f K w :=
 ⟨q8u h hl hf fun w' hw=>by rw[q8t]; exact hK w' hw⟩
theorem q6m {f:Value}{t:De × Sl->Bool}{l:List (De × Sl)}{K:Bool->World->Prop}(h:VD w s l)(hl:l.length<2^62)(hf:FnB f w argD l t)(hK:∀ w',Fr F0 w w'->K (l.any t) w'):z01_sh s f K w :=
 ⟨q8v h hl hf fun w' hw=>by rw[q8t]; exact hK w' hw⟩
theorem q2j {α:Type}(t:α->Bool):∀ l:List α,(!l.any fun a=>!t a)=l.all t
 | []=>rfl
 | a :: l=>by simp[q2j]
def FnV (f:Value):Prop:=Value.cells f=#[f]
theorem qey {f:Value}{t:Int->Bool}{l:List Int}{K:Bool->World->Prop}(h:VI w s l)(hl:l.length<2^62)(hv:FnV f)(hf:FnB f w argI l t)(hK:∀ w',Fr F0 w w'->K (l.all t) w'):z3q_sh s f K w:=by
 refine⟨?_⟩
 intro w1
 have hw1:Fr F0 w w1:=Fr.alloc
 have hr:Row w1 w.heap.size [f]:=by
  have:Value.cells f=([f]:List Value).toArray:=hv
  show Row (w.alloc (Obj.cells (Value.cells f) _)) _ _
  rw[this]
  exact Row.new
 refine q3u (h.fr hw1) hl (t:=fun a=>!t a) (fun a ha w2 hw2 K' hK'=>q18 z36_ok ⟨⟨f,(hw2.row hr fun h=>h).at rfl,hf a ha w2 (hw1.t hw2) _ fun w3 hw3=>⟨_,rfl,hK' w3 hw3⟩⟩⟩) fun w' hw'=>?_
 rw[q2j]
 exact hK w' (hw1.t hw')
theorem qi0 {f:Value}{t:Ch->Bool}{l:List Ch}{K:Bool->World->Prop}(h:VC w s l)(hl:l.length<2^62)(hv:FnV f)(hf:FnB f w argC l t)(hK:∀ w',Fr F0 w w'->K (l.all t) w'):z0i_sh s f K w:=by
 refine⟨?_⟩
 intro w1
 have hw1:Fr F0 w w1:=Fr.alloc
 have hr:Row w1 w.heap.size [f]:=by
  have:Value.cells f=([f]:List Value).toArray:=hv
  show Row (w.alloc (Obj.cells (Value.cells f) _)) _ _
  rw[this]
  exact Row.new
 refine q2d (h.fr hw1) hl (t:=fun a=>!t a) (fun a ha w2 hw2 K' hK'=>by
  refine q18 z09_ok ⟨?_⟩
  intro w3
  have hf3:Fr F0 w2 w3:=Fr.alloc
  have hm:Row w3 w2.heap.size (encC a):=Row.new
  exact⟨f,(hf3.row (hw2.row hr fun h=>h) fun h=>h).at rfl,⟨_,hm.at,⟨_,hm.at,⟨_,hm.at,⟨_,hm.at,hf a ha w3 (hw1.t (hw2.t hf3)) _ fun w4 hw4=>⟨_,rfl,hK' w4 (hf3.t hw4)⟩⟩⟩⟩⟩⟩) fun w' hw'=>?_
 rw[q2j]
 exact hK w' (hw1.t hw')
theorem qi1 {f:Value}{t:De × Sl->Bool}{l:List (De × Sl)}{K:Bool->World->Prop}(h:VD w s l)(hl:l.length<2^62)(hv:FnV f)(hf:FnB f w argD l t)(hK:∀ w',Fr F0 w w'->K (l.all t) w'):z12_sh s f K w:=by
 refine⟨?_⟩
 intro w1
 have hw1:Fr F0 w w1:=Fr.alloc
 have hr:Row w1 w.heap.size [f]:=by
  have:Value.cells f=([f]:List Value).toArray:=hv
  show Row (w.alloc (Obj.cells (Value.cells f) _)) _ _
  rw[this]
  exact Row.new
 refine q6m (h.fr hw1) hl (t:=fun a=>!t a) (fun a ha w2 hw2 K' hK'=>by
  refine q18 z0h_ok ⟨?_⟩
  intro w3
  have hf3:Fr F0 w2 w3:=Fr.alloc
  have hm:Row w3 w2.heap.size (encD a):=Row.new
  exact⟨f,(hf3.row (hw2.row hr fun h=>h) fun h=>h).at rfl,⟨_,hm.at,⟨_,hm.at,⟨_,hm.at,hf a ha w3 (hw1.t (hw2.t hf3)) _ fun w4 hw4=>⟨_,rfl,hK' w4 (hf3.t hw4)⟩⟩⟩⟩⟩) fun w' hw'=>?_
 rw[q2j]
 exact hK w' (hw1.t hw')
end
open Go Pw
theorem qi2 {w0 w:World}{r:Nat}{k:IntKind}{n:Int}{v:Value}(hf:Fr F0 w0 w)(hr:w0.heap.size<=r):Fr F0 w0 (w.mset r k n v):=by
 obtain⟨h1,h2,h3,h4,h5⟩:=hf
 refine⟨by simpa [World.mset] using h1,fun b hb hn=>?_,h3,h4,h5⟩
 rw[← h2 b hb hn]
 unfold World.mset
 simp only[Array.getElem?_modify]
 rw[if_neg (by omega)]
theorem q45 {α:Type}(d:α)(n x:Int)(v:α):∀ l:List (Int × α),q10 d x (mput n v l)=if x=n then v else q10 d x l
 | []=>by
  simp only[mput,q10]
  by_cases h:n=x
  ·rw[if_pos h,if_pos h.symm]
  ·rw[if_neg h,if_neg (Ne.symm h)]
 | p :: l=>by
  simp only[mput]
  by_cases hp:p.1=n
  ·rw[if_pos hp]
   simp only[q10,hp]
   by_cases h:n=x
   ·rw[if_pos h,if_pos h.symm]
   ·rw[if_neg h,if_neg (Ne.symm h),if_neg h]
  ·rw[if_neg hp]
   simp only[q10]
   by_cases h:p.1=x
   ·rw[if_pos h,if_pos h,if_neg (by rw[← h]; exact hp)]
   ·rw[if_neg h,if_neg h]
    exact q45 d n x v l
def wiB (n m:Int):Bool:=decide (0<=n) && decide (n<=m)
theorem q2k {n m:Int}:wiB n m=true ↔ Wi n m:=by simp[wiB,Wi]
def chB (p:Pr)(c:Ch):Bool:=decide (c.lot∈p.lots) && (wiB c.price 1000000000 && wiB c.pts 1000000)
def deB (p:Pr)(d:De):Bool:=decide (0<d.lots.length) && (decide d.lots.Nodup && (d.lots.all (fun x=>decide (x∈p.lots)) && wiB d.off 1000000000))
def q0g (p:Pr):Bool :=
 decide (0<p.lots.length) && (decide (p.lots.length<=12) && (decide p.lots.Nodup && (decide (p.ch.length<=480) && (decide (p.de.length<=100) && (wiB p.most 1000000000 && (wiB p.budget 1000000000 && (p.ch.all (chB p) && p.de.all (deB p))))))))
theorem q0f {p:Pr}:q0g p=true ↔ q03 p:=by
 unfold q0g
 simp only[JJ,decide_eq_true_eq,q2k,Jm,chB,deB]
 constructor
 ·rintro⟨h1,h2,h3,h4,h5,h6,h7,h8,h9⟩
  exact⟨h1,h2,h3,h4,h5,h6,h7,h8,fun d hd=>⟨fun h=>by have:=(h9 d hd).1; rw[h] at this; simp at this,(h9 d hd).2.1,(h9 d hd).2.2.1,(h9 d hd).2.2.2⟩⟩
 ·intro h
  exact⟨h.some,h.few,h.diff,h.chs,h.des,h.most,h.budget,h.ch,fun d hd=>⟨List.length_pos_iff.2 (h.de d hd).1,(h.de d hd).2.1,(h.de d hd).2.2.1,(h.de d hd).2.2.2⟩⟩
structure PV (w:World)(s0 s1 s2:Sl)(p:Pr):Prop where
 lots:VI w s0 p.lots
 ch:VC w s1 p.ch
 de:∃ dc:List (De × Sl),VD w s2 dc/\dc.map (·.1)=p.de/\∀ x∈dc,VI w x.2 x.1.lots/\x.1.lots.length<2^40
 l0:p.lots.length<2^40
 l1:p.ch.length<2^40
 l2:p.de.length<2^40
theorem PV.fr {w w':World}{s0 s1 s2:Sl}{p:Pr}(h:PV w s0 s1 s2 p)(hf:Fr F0 w w'):PV w' s0 s1 s2 p:=by
 obtain⟨dc,h1,h2,h3⟩:=h.de
 exact⟨h.lots.fr hf,h.ch.fr hf,⟨dc,h1.fr hf,h2,fun x hx=>⟨(h3 x hx).1.fr hf,(h3 x hx).2⟩⟩,h.l0,h.l1,h.l2⟩
def prC (s0 s1 s2:Sl)(m b:Int):List Value:=[.slice s0.p s0.l s0.c,.slice s1.p s1.l s1.c,.slice s2.p s2.l s2.c,.int .i64 m,.int .i64 b]
section
variable {w w' w0:World}{s s0 s1 s2:Sl}{p:Pr}
theorem q6n {l:List Int}{K:Bool->World->Prop}(hv:VI w s l)(hl:l.length<2^62)(hK:∀ w',Fr F0 w w'->K (decide l.Nodup) w'):z2c_sh s K w:=by
 refine⟨?_⟩
 intro w1
 have hf1:Fr F0 w w1:=Fr.alloc
 have hm1:Mp w1 w.heap.size .i64 []:=Mp.made w .i64
 clear_value w1
 have hlen:=hv.len
 refine⟨⟨fun i w'=>∃ (i':Nat) (m:List (Int × Bool)),i=i'/\i'<=l.length/\(l.take i').Nodup/\(∀ x,q10 false x m=decide (x∈l.take i'))/\Mp w' w.heap.size .i64 (m.map fun p=>(p.1,.bool p.2))/\Fr F0 w w',fun i _=>l.length-i.toNat,⟨0,[],rfl,by omega,by simp,fun x=>by simp[q10],hm1,hf1⟩,?_⟩⟩
 rintro i w2 ⟨i,m,rfl,hi,hnd,hget,hm,hf⟩
 unfold z2c_b0
 refine q00.2 ?_
 constructor
 ·intro hlt
  have hlt:i<l.length:=by omega
  refine VI.ld (hv.fr hf) i rfl hlt ?_
  have ht:l.take (i+1)=l.take i++[l[i]]:=q08 hlt
  refine⟨m,hm,?_⟩
  show cnd (q10 false l[i] m) _ _
  rw[hget,q00]
  constructor
  ·intro hin
   have:¬l.Nodup:=fun hnd'=>by
    have:=(Ju (i+1) l).nodup hnd'
    rw[ht,Jv] at this
    exact this.2.2 _ hin _ (by simp) rfl
   have:=hK w2 hf
   rwa [decide_eq_false ‹¬l.Nodup›] at this
  ·intro hnin
   refine⟨⟨_,hm⟩,?_⟩
   intro w3
   have hf3:Fr F0 w w3:=qi2 hf (JG _)
   have hm3:=hm.set l[i] (.bool true)
   rw[q41 Value.bool] at hm3
   refine⟨q01,⟨⟨rfl,rfl,rfl,trivial⟩,i+1,mput l[i] true m,by omega,by omega,?_,fun x=>?_,hm3,hf3⟩,by dsimp only; omega⟩
   ·rw[ht,Jv]
    refine⟨hnd,by simp,fun a ha b hb=>?_⟩
    simp only[J1] at hb
    subst hb
    exact fun e=>hnin (e ▸ ha)
   ·rw[q45,hget]
    have hiff:x∈l.take (i+1) ↔ x∈l.take i\/x=l[i]:=by
     rw[ht,Ja,J1]
    by_cases h:x=l[i]
    ·rw[if_pos h,decide_eq_true (hiff.2 (.inr h))]
    ·rw[if_neg h]
     exact decide_eq_decide.2 ⟨fun hh=>hiff.2 (.inl hh),fun hh=>(hiff.1 hh).resolve_right h⟩
 ·intro hge
  have:i=l.length:=by omega
  subst this
  rw[J2] at hnd
  have:=hK w2 hf
  rwa [decide_eq_true hnd] at this
theorem q2l {n m:Int}{K:Bool->World->Prop}(hK:K (wiB n m) w):z31_sh n m K w:=by
 refine⟨?_⟩
 unfold wiB at hK
 refine q00.2 ?_
 constructor
 ·intro h
  rwa [decide_eq_true (by omega:0<=n),JI] at hK
 ·intro h
  rwa [decide_eq_false (by omega:¬0<=n),Bool.false_and] at hK
theorem q27 {a b:Bool}{K:Bool->Prop}{X:Prop}(h:K (a && b))(hX:a=true->K b->X):cnd a X (K false):=by
 cases a
 ·simpa using h
 ·exact hX rfl (by simpa using h)
theorem qjr {pb:Nat}{m b:Int}{l:List Int}(h:PV w s0 s1 s2 p)(hr:Row w pb (prC s0 s1 s2 m b)){f:Value}
  (hf:∀ id w1 (K:VW),z2p_sh id ⟨pb,0,none⟩ (fun r w'=>K (.bool r) w') w1->q2b Tryz.prog f [.int .i64 id] w1 K):FnB f w argI l (fun n=>decide (n∈p.lots)):=by
 intro id _ w1 hw1 K hK
 exact hf id w1 K ⟨⟨s0,(hw1.row hr fun h=>h).at rfl,qbc ((h.fr hw1).lots) (by have:=h.l0; omega) (hK w1 Fr.refl)⟩⟩
theorem qg4 {K:Bool->World->Prop}(h:PV w s0 s1 s2 p)(hK:∀ w',Fr F0 w w'->K (q0g p) w'):z37_sh s0 s1 s2 p.most p.budget K w:=by
 refine⟨?_⟩
 have l0:=h.l0; have l1:=h.l1; have l2:=h.l2
 have e0:=h.lots.len; have e1:=h.ch.len
 obtain⟨dc,hdv,hdm,hds⟩:=h.de
 have e2:=hdv.len
 have e3:dc.length=p.de.length:=by rw[← hdm,J4]
 intro w1
 have m:Mem w w1 _:=Mem.nil.alloc
 intro w2
 have m:Mem w w2 _:=m.alloc
 refine⟨m.wr 0,?_⟩
 intro w3
 have m:Mem w w3 _:=m.set 0
 have hkn:∀ {w4 l},Fr F0 w3 w4->FnB (fnv (idOf z2p_ok) [w.heap.size]) w4 argI l (fun n=>decide (n∈p.lots)):=fun {w4 l} hw4 =>
  qjr (m:=p.most) (b:=p.budget) (h.fr (m.1.t hw4)) ((m.fr hw4).2.1 _ (List.mem_cons_of_mem _ (List.mem_cons_self ..))) fun id w1 K hh=>q18 z2p_ok hh
 have hkr:∀ {w4},Fr F0 w3 w4->w4.cell? ⟨w1.heap.size,0,none⟩=some (fnv (idOf z2p_ok) [w.heap.size]):=fun {w4} hw4=>(m.fr hw4).ld 0
 have hch:∀ {w4},Fr F0 w3 w4->FnB (fnv (idOf z2q_ok) [w1.heap.size]) w4 argC p.ch (chB p):=fun {w4} hw4 c hc w5 hw5 K5 hK5=>by
  refine q18 z2q_ok ⟨?_⟩
  intro w6
  have hf6:Fr F0 w5 w6:=Fr.alloc
  have hm:Row w6 w5.heap.size (encC c):=Row.new
  refine⟨_,hkr (hw4.t (hw5.t hf6)),_,hm.at,hkn (l:=[c.lot]) (hw4.t (hw5.t hf6)) c.lot (by simp) w6 Fr.refl _ fun w7 hf7=>⟨_,rfl,?_⟩⟩
  have hK6:K5 (.bool (chB p c)) w7:=hK5 w7 (hf6.t hf7)
  refine q27 (K:=fun b=>K5 (.bool b) w7) hK6 fun _ hK7=>?_
  have hm7:=hf7.row hm fun h=>h
  refine⟨_,hm7.at,q2l ?_⟩
  exact q27 (K:=fun b=>K5 (.bool b) w7) hK7 fun _ hK8=>⟨_,hm7.at,q2l hK8⟩
 have hde:∀ {w4},Fr F0 w3 w4->FnB (fnv (idOf z2r_ok) [w1.heap.size]) w4 argD dc (fun x=>deB p x.1):=fun {w4} hw4 d hd w5 hw5 K5 hK5=>by
  refine q18 z2r_ok ⟨?_⟩
  obtain⟨hdl,hd40⟩:=hds d hd
  have hf5:=m.1.t (hw4.t hw5)
  intro w6
  have hf6:Fr F0 w5 w6:=Fr.alloc
  have hm:Row w6 w5.heap.size (encD d):=Row.new
  have hdl6:=hdl.fr (hf5.t hf6)
  have e4:=hdl.len
  have hK6:K5 (.bool (deB p d.1)) w6:=hK5 w6 hf6
  have e5:decide ((d.2.l:Int)>0)=decide (0<d.1.lots.length):=decide_eq_decide.2 (by omega)
  refine⟨d.2,hm.at,?_⟩
  show cnd _ _ _
  rw[e5]
  refine q27 (K:=fun b=>K5 (.bool b) w6) hK6 fun h1 _=>⟨d.2,hm.at,q6n hdl6 (by omega) fun w7 hf7=>?_⟩
  have hm7:=hf7.row hm fun h=>h
  have hK7:K5 (.bool (deB p d.1)) w7:=hK5 w7 (hf6.t hf7)
  unfold deB at hK7
  rw[h1,JI] at hK7
  refine q27 (K:=fun b=>K5 (.bool b) w7) hK7 fun h2 _=>⟨d.2,hm7.at,_,hkr (hw4.t (hw5.t (hf6.t hf7))),qey (hdl6.fr hf7) (by omega) rfl (hkn (hw4.t (hw5.t (hf6.t hf7)))) fun w8 hf8=>?_⟩
  have hK8:K5 (.bool (deB p d.1)) w8:=hK5 w8 (hf6.t (hf7.t hf8))
  unfold deB at hK8
  rw[h1,h2,JI,JI] at hK8
  exact q27 (K:=fun b=>K5 (.bool b) w8) hK8 fun _ hK9=>⟨_,(hf8.row hm7 fun h=>h).at rfl,q2l hK9⟩
 have hK3:K (q0g p) w3:=hK w3 m.1
 refine⟨s0,m.ld 1,?_⟩
 show cnd _ _ _
 rw[show decide ((s0.l:Int)>0)=decide (0<p.lots.length) from decide_eq_decide.2 (by omega)]
 unfold q0g at hK3
 refine q27 (K:=fun b=>K b w3) hK3 fun h1 hK3=>⟨s0,m.ld 1,?_⟩
 show cnd _ _ _
 rw[show decide ((s0.l:Int)<=12)=decide (p.lots.length<=12) from decide_eq_decide.2 (by omega)]
 refine q27 (K:=fun b=>K b w3) hK3 fun h2 _=>⟨s0,m.ld 1,q6n ((h.fr m.1).lots) (by omega) fun w4 hf4=>?_⟩
 have m4:=m.fr hf4
 have hK4:K (q0g p) w4:=hK w4 m4.1
 unfold q0g at hK4
 rw[h1,h2,JI,JI] at hK4
 refine q27 (K:=fun b=>K b w4) hK4 fun h3 hK4=>⟨s1,m4.ld 1,?_⟩
 show cnd _ _ _
 rw[show decide ((s1.l:Int)<=480)=decide (p.ch.length<=480) from decide_eq_decide.2 (by omega)]
 refine q27 (K:=fun b=>K b w4) hK4 fun h4 hK4=>⟨s2,m4.ld 1,?_⟩
 show cnd _ _ _
 rw[show decide ((s2.l:Int)<=100)=decide (p.de.length<=100) from decide_eq_decide.2 (by omega)]
 refine q27 (K:=fun b=>K b w4) hK4 fun h5 hK4=>⟨_,m4.ld 1,q2l ?_⟩
 refine q27 (K:=fun b=>K b w4) hK4 fun h6 hK4=>⟨_,m4.ld 1,q2l ?_⟩
 refine q27 (K:=fun b=>K b w4) hK4 fun h7 hK4=>⟨s1,m4.ld 1,qi0 ((h.fr m4.1).ch) (by omega) rfl (hch hf4) fun w5 hf5=>?_⟩
 have m5:=m4.fr hf5
 have hK5:K (q0g p) w5:=hK w5 m5.1
 unfold q0g at hK5
 rw[h1,h2,h3,h4,h5,h6,h7] at hK5
 refine q27 (K:=fun b=>K b w5) hK5 fun h8 _=>⟨s2,m5.ld 1,qi1 (hdv.fr m5.1) (by omega) rfl (hde (hf4.t hf5)) fun w6 hf6=>?_⟩
 have hK6:K (q0g p) w6:=hK w6 (m5.fr hf6).1
 unfold q0g at hK6
 rw[h1,h2,h3,h4,h5,h6,h7,h8] at hK6
 have e9:p.de.all (deB p)=dc.all fun x=>deB p x.1:=by rw[← hdm,List.all_map]; rfl
 rw[e9] at hK6
 exact hK6
end
open Go Pw
structure PF (w:World)(s0 s1 s2 s5:Sl)(p:Pr)(f:List Int):Prop where
 pv:PV w s0 s1 s2 p
 tk:VI w s5 f
 lt:f.length<2^63
theorem PF.fr {w w':World}{s0 s1 s2 s5:Sl}{p:Pr}{f:List Int}(h:PF w s0 s1 s2 s5 p f)(hf:Fr F0 w w'):PF w' s0 s1 s2 s5 p f:=⟨h.pv.fr hf,h.tk.fr hf,h.lt⟩
def pfC (s0 s1 s2:Sl)(m b:Int)(s5:Sl):List Value:=[.slice s0.p s0.l s0.c,.slice s1.p s1.l s1.c,.slice s2.p s2.l s2.c,.int .i64 m,.int .i64 b,.slice s5.p s5.l s5.c]
section
variable {w w' w0:World}{s s0 s1 s2 s5:Sl}{p:Pr}{f:List Int}
theorem q1i {n:Int}{c:Ch}(h:chAt p n=some c):0<=n/\∃ h:n.toNat<p.ch.length,p.ch[n.toNat]=c:=by
 unfold chAt at h
 split at h
 ·rename_i h0
  obtain⟨h1,h2⟩:=J5.1 h
  exact⟨h0,h1,h2⟩
 ·cases h
theorem q2n {n:Int}(h0:0<=n)(h:n.toNat<p.ch.length):chAt p n=some p.ch[n.toNat]:=by
 unfold chAt
 rw[if_pos h0,J0 h]
theorem q24 {n:Int}(h0:¬0<=n):chAt p n=none:=by unfold chAt; rw[if_neg h0]
theorem q39 {i:Nat}(hd:Decs p p.lots f)(hi:i<f.length):∃ h:i<p.lots.length,Dec p p.lots[i] f[i]:=by
 have hl:=q1n hd
 refine⟨by omega,(q57 hl).1 hd i _ _ (J0 (by omega)) (J0 hi)⟩
theorem q9s {i:Nat}(hl:f.length<=p.lots.length)(hi:i<f.length)(h:∀ j lot n,j<i->p.lots[j]?=some lot->f[j]?=some n->Dec p lot n)(hn:Dec p (p.lots[i]'(by omega)) f[i]) :
  ∀ j lot n,j<i+1->p.lots[j]?=some lot->f[j]?=some n->Dec p lot n:=by
 intro j lot n hj h1 h2
 rcases Nat.lt_or_ge j i with hlt | hge
 ·exact h j lot n hlt h1 h2
 ·have:j=i:=by omega
  subst this
  rw[J0 (by omega)] at h1
  rw[J0 hi] at h2
  injection h1 with h1
  injection h2 with h2
  rw[← h1,← h2]
  exact hn
theorem q76 (c:Ch):∀ v∈encC c,okC v=true:=by intro v hv; simp[encC] at hv; rcases hv with rfl | rfl | rfl | rfl<;>rfl
theorem q3a {i:Nat}(hi:i<f.length):took p (f.take (i+1))=took p (f.take i)++(match chAt p f[i] with | some c=>[c] | none=>[]):=by
 rw[q08 hi,qdu]
 congr 1
 unfold took
 rw[Je]
 cases chAt p f[i]<;>rfl
theorem q77 {K:Sl->World->Prop}(h:PF w s0 s1 s2 s5 p f)(hd:Decs p p.lots f)(hK:∀ s' w',Mk w 4 encC w' s' (took p f)->K s' w'):z0s_sh s0 s1 s2 p.most p.budget s5 K w:=by
 refine⟨?_⟩
 have l1:=h.pv.l1; have l5:=h.lt; have l0:=h.pv.l0; have l6:=q1n hd
 have e1:=h.pv.ch.len; have e5:=h.tk.len
 intro w1
 have hf1:Fr F0 w w1:=Fr.alloc
 have hr:Row w1 w.heap.size (pfC s0 s1 s2 p.most p.budget s5):=Row.new
 refine⟨s5,hr.at,⟨⟨fun out i w'=>∃ i':Nat,i=i'/\i'<=f.length/\Mk w1 4 encC w' out (took p (f.take i')),fun _ i _=>f.length-i.toNat,⟨0,rfl,by omega,Mk.nil Fr.refl⟩,?_⟩⟩⟩
 rintro out i w2 ⟨i,rfl,hi,hm⟩
 unfold z0s_b0
 have hf2:=hm.fr0
 refine q00.2<|⟨fun hlt=>?_,fun hge=>?_⟩
 ·have hlt:i<f.length:=by omega
  have hts:=q3a (p:=p) hlt
  refine VI.ld (h.tk.fr (hf1.t hf2)) i rfl hlt<|q00.2<|⟨fun hpos=>?_,fun hneg=>⟨q01,⟨⟨rfl,rfl,rfl,trivial⟩,i+1,by omega,by omega,?_⟩,by dsimp only; omega⟩⟩
  ·obtain⟨_,hdi⟩:=q39 hd hlt
   rcases hdi with hdi | ⟨c,hdi,_⟩
   ·omega
   obtain⟨_,hix,hcx⟩:=q1i hdi
   rw[hdi] at hts
   refine⟨s1,(hf2.row hr fun h=>h).at rfl,VC.ld (h.pv.fr (hf1.t hf2)).ch f[i].toNat (by omega) hix fun a hc=>?_⟩
   obtain⟨c0,c1,c2,c3⟩:=hc w2 Fr.refl
   refine⟨_,c0,_,c1,_,c2,_,c3,?_⟩
   rw[hcx]
   have hlen:=q44 (p:=p) (f.take i)
   rw[Jx] at hlen
   refine Mk.push hm (a:=c) rfl rfl q76 rfl (by omega) (by omega) fun r w3 hm3 _=>⟨q01,⟨⟨rfl,rfl,rfl,trivial⟩,i+1,by omega,by omega,?_⟩,by dsimp only; omega⟩
   rw[hts]
   exact hm3
  ·rw[hts,q24 (by omega),List.append_nil]
   exact hm
 ·have:i=f.length:=by omega
  subst this
  rw[J2] at hm
  exact hK out w2 ⟨hf1.t hf2,hm.ow,fun b hb=>JH hf1.1 (hm.nw b hb)⟩
end
open Go Pw
theorem Mp.fr {w w':World}{r:Nat}{k:IntKind}{l:List (Int × Value)}(h:Mp w r k l)(hf:Fr F0 w w'):Mp w' r k l:=by
 obtain⟨es,clock,h1,h2⟩:=h
 refine⟨es,clock,?_,h2⟩
 rw[hf.2.1 r (Array.getElem?_eq_some_iff.1 h1).1 fun h=>h]
 exact h1
theorem q6o {w:World}{r:Nat}{k:IntKind}{n:Int}{v:Value}:Fr (fun b=>b=r) w (w.mset r k n v):=by
 refine⟨by simp[World.mset],fun b _ hn=>?_,rfl,rfl,rfl⟩
 unfold World.mset
 simp only[Array.getElem?_modify]
 rw[if_neg (fun h=>hn h.symm)]
section
variable {w w' w0:World}{s s0 s1 s2 s5:Sl}{p:Pr}{f:List Int}
theorem qjs {v:Int}{l:List Int}(h:v∈l):idxI v l=(l.idxOf v:Int):=if_pos h
theorem qjt {lot b:Int}{K:Bool->World->Prop}(h:PF w s0 s1 s2 s5 p f)(hd:Decs p p.lots f)(hl:lot∈p.lots)(hK:∀ w',Fr F0 w w'->K (may p f b lot) w'):z1f_sh s0 s1 s2 p.most p.budget s5 lot b K w:=by
 refine⟨?_⟩
 have l0:=h.pv.l0; have l1:=h.pv.l1; have l5:=h.lt
 have e1:=h.pv.ch.len; have e5:=h.tk.len
 intro w1
 have m:Mem w w1 [(w.heap.size,pfC s0 s1 s2 p.most p.budget s5)]:=Mem.nil.alloc
 intro w2
 have m:Mem w w2 [(w1.heap.size,[.int .i64 lot]),(w.heap.size,pfC s0 s1 s2 p.most p.budget s5)]:=m.alloc
 intro w3
 have m:Mem w w3 [(w2.heap.size,[.int .i64 b]),(w1.heap.size,[.int .i64 lot]),(w.heap.size,pfC s0 s1 s2 p.most p.budget s5)]:=m.alloc
 refine⟨s0,m.ld 2,_,m.ld 1,q74 (h.fr m.1).pv.lots (by omega) ?_⟩
 rw[qjs hl]
 have hix:p.lots.idxOf lot<p.lots.length:=List.idxOf_lt_length_of_mem hl
 refine⟨s5,m.ld 2,q00.2 ?_⟩
 refine⟨fun hlt=>?_,fun hge=>?_⟩
 ·have hlt:p.lots.idxOf lot<f.length:=by omega
  have hmay:may p f b lot=(match chAt p f[p.lots.idxOf lot] with | some c=>c.bid == b | none=>false):=by
   unfold may
   rw[J0 hlt]
   try rfl
  intro w4
  have m:Mem w w4 _:=m.drew
  refine⟨s5,m.ld 2,VI.ld (h.fr m.1).tk (p.lots.idxOf lot) rfl hlt ?_⟩
  have hKm:=hK w4 m.1
  rw[hmay] at hKm
  refine q00.2<|⟨fun hpos=>?_,fun hneg=>?_⟩
  ·obtain⟨_,hdi⟩:=q39 hd hlt
   rcases hdi with hdi | ⟨c,hdi,_⟩
   ·omega
   obtain⟨_,hcx,hce⟩:=q1i hdi
   rw[hdi] at hKm
   refine⟨s1,m.ld 2,s5,m.ld 2,VI.ld (h.fr m.1).tk (p.lots.idxOf lot) rfl hlt ?_⟩
   refine VC.ld (h.fr m.1).pv.ch f[p.lots.idxOf lot].toNat (by omega) hcx fun a hc=>⟨_,(hc w4 Fr.refl).2.1,_,m.ld 0,?_⟩
   rw[hce]
   exact hKm
  ·rw[q24 (by omega)] at hKm
   exact hKm
 ·have hmay:may p f b lot=p.ch.any (fun c=>c.lot == lot && c.bid == b):=by
   unfold may
   rw[Jb (by omega)]
  refine⟨s1,m.ld 2,?_⟩
  refine q2d (f:=fnv (idOf z0r_ok) [w1.heap.size,w2.heap.size]) (t:=fun c=>c.lot == lot && c.bid == b) (h.fr m.1).pv.ch (by omega) (fun c _ w5 hw5 K5 hK5=>?_) fun w5 hf5=>by rw[← hmay]; exact hK w5 (m.1.t hf5)
  refine q18 z0r_ok ⟨?_⟩
  intro w6
  have hf6:Fr F0 w5 w6:=Fr.alloc
  have hm:Row w6 w5.heap.size (encC c):=Row.new
  have m6:=m.fr (hw5.t hf6)
  refine⟨_,hm.at,_,m6.ld 1,?_⟩
  have hK6:K5 (.bool (c.lot == lot && c.bid == b)) w6:=hK5 w6 hf6
  exact q27 (K:=fun b=>K5 (.bool b) w6) hK6 fun _ hK7=>⟨_,hm.at,_,m6.ld 0,hK7⟩
theorem qcs {K:Int->World->Prop}(hp:q03 p)(h:PF w s0 s1 s2 s5 p f)(hd:Decs p p.lots f)(hK:∀ w',Fr F0 w w'->K (offs p f) w'):z13_sh s0 s1 s2 p.most p.budget s5 K w:=by
 refine⟨?_⟩
 have l2:=h.pv.l2
 obtain⟨dc,hdv,hdm,hds⟩:=h.pv.de
 have e2:=hdv.len
 have e3:dc.length=p.de.length:=by rw[← hdm,J4]
 intro w1
 have hf1:Fr F0 w w1:=Fr.alloc
 have hr:Row w1 w.heap.size (pfC s0 s1 s2 p.most p.budget s5):=Row.new
 refine⟨s2,hr.at,⟨⟨fun sum i w'=>∃ i':Nat,i=i'/\i'<=dc.length/\sum=((p.de.take i').map (q2z p f)).sum/\Fr F0 w1 w',fun _ i _=>dc.length-i.toNat,⟨0,rfl,by omega,by simp,Fr.refl⟩,?_⟩⟩⟩
 rintro sum i w2 ⟨i,rfl,hi,rfl,hf2⟩
 unfold z13_b0
 refine q00.2<|⟨fun hlt=>?_,fun hge=>?_⟩
 ·have hlt:i<dc.length:=by omega
  have hx:=J3 hlt
  obtain⟨hdl,hd40⟩:=hds _ hx
  have hdi:p.de[i]'(by omega)=dc[i].1:=by simp[← hdm]
  have hde:=hp.de dc[i].1 (by rw[← hdm]; exact List.mem_map_of_mem hx)
  have hts:p.de.take (i+1)=p.de.take i++[dc[i].1]:=by rw[q08 (by omega),hdi]
  have hsum:((p.de.take (i+1)).map (q2z p f)).sum=((p.de.take i).map (q2z p f)).sum+q2z p f dc[i].1:=by rw[hts]; simp
  have hb1:=q1a (f:=f) hp (Jd i p.de)
  have hb2:=q1a (f:=f) hp (Jd (i+1) p.de)
  refine VD.ld (hdv.fr (hf1.t hf2)) i rfl hlt fun a hc=>?_
  obtain⟨c0,c1,c2⟩:=hc w2 Fr.refl
  refine⟨_,c0,_,c1,_,c2,q19 rfl Mem.nil fun w3 m3=>?_⟩
  have hf3:=m3.1
  have hr3:Row w3 w2.heap.size (encD dc[i]):=m3.2.1 _ (J1.2 rfl)
  have hf13:=hf2.t hf3
  have el:=hdl.len
  refine⟨dc[i].2,hr3.at,qey (f:=fnv (idOf z0j_ok) [w.heap.size,w2.heap.size]) (t:=may p f dc[i].1.bid) (hdl.fr (hf1.t hf13)) (by omega) rfl (fun id hid w4 hw4 K4 hK4=>?_) fun w4 hf4=>?_⟩
  ·refine q18 z0j_ok ⟨?_⟩
   have hr4:=(hf13.t hw4).row hr fun h=>h
   exact⟨s0,hr4.at,s1,hr4.at,s2,hr4.at,_,hr4.at,_,hr4.at,s5,hr4.at,_,(hw4.row hr3 fun h=>h).at rfl,qjt (h.fr (hf1.t (hf13.t hw4))) hd (hde.2.2.1 id hid) fun w5 hf5=>hK4 w5 hf5⟩
  ·have hoff:q2z p f dc[i].1=if dc[i].1.lots.all (may p f dc[i].1.bid) then dc[i].1.off else 0:=rfl
   refine q02.2<|⟨fun ht=>?_,fun hfa=>?_⟩
   ·rw[if_pos ht] at hoff
    refine⟨_,(hf4.row hr3 fun h=>h).at rfl,q01,q01,⟨⟨rfl,rfl,rfl,trivial⟩,i+1,by omega,by omega,by rw[hsum,hoff],hf13.t hf4⟩,by dsimp only; omega⟩
   ·rw[if_neg (by rw[hfa]; decide)] at hoff
    refine⟨q01,⟨⟨rfl,rfl,rfl,trivial⟩,i+1,by omega,by omega,by rw[hsum,hoff,JB],hf13.t hf4⟩,by dsimp only; omega⟩
 ·have:i=p.de.length:=by omega
  subst this
  have:=hK w2 (hf1.t hf2)
  unfold offs at this
  rwa [J2]
theorem q6p (g:Ch->Int){l:List Ch}{i:Nat}(hi:i<l.length):((l.take (i+1)).map g).sum=((l.take i).map g).sum+g l[i]:=by
 rw[q08 hi,Jy,Jz,Js,List.map_nil,Jh,List.sum_nil,JB]
theorem qad {K:Int->World->Prop}(hp:q03 p)(h:PF w s0 s1 s2 s5 p f)(hd:Decs p p.lots f)(hK:∀ w',Fr F0 w w'->K (q0i p f) w'):z0q_sh s0 s1 s2 p.most p.budget s5 K w:=by
 refine⟨?_⟩
 intro w1
 have hf1:Fr F0 w w1:=Fr.alloc
 have hr:Row w1 w.heap.size (pfC s0 s1 s2 p.most p.budget s5):=Row.new
 refine⟨s0,hr.at,s1,hr.at,s2,hr.at,_,hr.at,_,hr.at,s5,hr.at,q77 (h.fr hf1) hd fun t w2 hm=>?_⟩
 have hv:=hm.vw
 have el:=hm.len
 have hl12:=q1h hp hd
 have hlt0:=q44 (p:=p) f
 refine⟨⟨fun sum i w'=>∃ i':Nat,i=i'/\i'<=(took p f).length/\sum=(((took p f).take i').map (·.price)).sum/\Fr F0 w2 w',fun _ i _=>(took p f).length-i.toNat,⟨0,rfl,by omega,by simp,Fr.refl⟩,?_⟩⟩
 rintro sum i w3 ⟨i,rfl,hi,rfl,hf3⟩
 unfold z0q_b0
 have hb:=fun j=>q6k hp (·.price) 1000000000 (fun c hc=>(hp.ch c hc).2.1) hd (by decide) (Jd j (took p f))
 have hb1:=hb i
 have hb2:=hb (i+1)
 refine q00.2<|⟨fun hlt=>?_,fun hge=>?_⟩
 ·have hlt:i<(took p f).length:=by omega
  have hs:=q6p (·.price) hlt
  refine VC.ld (hv.fr hf3) i rfl hlt fun a hc=>?_
  obtain⟨c0,c1,c2,c3⟩:=hc w3 Fr.refl
  refine⟨_,c0,_,c1,_,c2,_,c3,q19 rfl Mem.nil fun w4 m4=>?_⟩
  have hf4:=m4.1
  have hr4:Row w4 w3.heap.size (encC (took p f)[i]):=m4.2.1 _ (J1.2 rfl)
  refine⟨_,hr4.at,q01,q01,⟨⟨rfl,rfl,rfl,trivial⟩,i+1,by omega,by omega,hs.symm,hf3.t hf4⟩,by dsimp only; omega⟩
 ·have:i=(took p f).length:=by omega
  subst this
  rw[J2] at hb1 ⊢
  have hf13:=hm.fr0.t hf3
  have hr3:=hf13.row hr fun h=>h
  refine⟨s0,hr3.at,s1,hr3.at,s2,hr3.at,_,hr3.at,_,hr3.at,s5,hr3.at,qcs hp (h.fr (hf1.t hf13)) hd fun w4 hf4=>?_⟩
  have ho:=q1a (f:=f) hp (Jn p.de)
  have ho:0<=offs p f/\offs p f<=100000000000:=ho
  have:=hK w4 (hf1.t (hf13.t hf4))
  unfold q0i q1x at this
  exact⟨q01,this⟩
theorem q8w {K:Int->World->Prop}(hp:q03 p)(h:PF w s0 s1 s2 s5 p f)(hd:Decs p p.lots f)(hK:∀ w',Fr F0 w w'->K (q1r p f) w'):z0k_sh s0 s1 s2 p.most p.budget s5 K w:=by
 refine⟨?_⟩
 intro w1
 have hf1:Fr F0 w w1:=Fr.alloc
 have hr:Row w1 w.heap.size (pfC s0 s1 s2 p.most p.budget s5):=Row.new
 refine⟨s0,hr.at,s1,hr.at,s2,hr.at,_,hr.at,_,hr.at,s5,hr.at,q77 (h.fr hf1) hd fun t w2 hm=>?_⟩
 have hv:=hm.vw
 have el:=hm.len
 have hl12:=q1h hp hd
 have hlt0:=q44 (p:=p) f
 refine⟨⟨fun sum i w'=>∃ i':Nat,i=i'/\i'<=(took p f).length/\sum=(((took p f).take i').map (·.pts)).sum/\Fr F0 w2 w',fun _ i _=>(took p f).length-i.toNat,⟨0,rfl,by omega,by simp,Fr.refl⟩,?_⟩⟩
 rintro sum i w3 ⟨i,rfl,hi,rfl,hf3⟩
 unfold z0k_b0
 have hb:=fun j=>q6k hp (·.pts) 1000000 (fun c hc=>(hp.ch c hc).2.2) hd (by decide) (Jd j (took p f))
 have hb1:=hb i
 have hb2:=hb (i+1)
 refine q00.2<|⟨fun hlt=>?_,fun hge=>?_⟩
 ·have hlt:i<(took p f).length:=by omega
  have hs:=q6p (·.pts) hlt
  refine VC.ld (hv.fr hf3) i rfl hlt fun a hc=>?_
  obtain⟨c0,c1,c2,c3⟩:=hc w3 Fr.refl
  refine⟨_,c0,_,c1,_,c2,_,c3,q19 rfl Mem.nil fun w4 m4=>?_⟩
  have hf4:=m4.1
  have hr4:Row w4 w3.heap.size (encC (took p f)[i]):=m4.2.1 _ (J1.2 rfl)
  refine⟨_,hr4.at,q01,q01,⟨⟨rfl,rfl,trivial⟩,i+1,by omega,by omega,hs.symm,hf3.t hf4⟩,by dsimp only; omega⟩
 ·have:i=(took p f).length:=by omega
  subst this
  rw[J2]
  exact hK w3 (hf1.t (hm.fr0.t hf3))
def cntL (l:List Ch)(b:Int):Int:=(l.countP (fun c=>c.bid == b):Int)
theorem qct {K:Bool->World->Prop}(hp:q03 p)(h:PF w s0 s1 s2 s5 p f)(hd:Decs p p.lots f)(hK:∀ w',Fr F0 w w'->K (q2c p f) w'):z0c_sh s0 s1 s2 p.most p.budget s5 K w:=by
 refine⟨?_⟩
 intro w1
 have m:Mem w w1 [(w.heap.size,pfC s0 s1 s2 p.most p.budget s5)]:=Mem.nil.alloc
 intro w2
 have hf2:Fr F0 w1 w2:=Fr.alloc
 have hm2:Mp w2 w1.heap.size .i64 []:=Mp.made w1 .i64
 have hsz:w2.heap.size=w1.heap.size+1:=by simp[w2]
 have m2:=m.fr hf2
 refine⟨s0,m2.ld 0,s1,m2.ld 0,s2,m2.ld 0,_,m2.ld 0,_,m2.ld 0,s5,m2.ld 0,q77 (h.fr m2.1) hd fun t w3 hm=>?_⟩
 have hv:=hm.vw
 have el:=hm.len
 have hl12:=q1h hp hd
 have hlt0:=q44 (p:=p) f
 have hr3:Row w3 w.heap.size (pfC s0 s1 s2 p.most p.budget s5):=hm.fr0.row (m2.2.1 _ (J1.2 rfl)) fun h=>h
 have hwlt:w.heap.size<w1.heap.size:=(m.2.1 _ (J1.2 rfl)).lt
 refine⟨⟨fun i w'=>∃ (i':Nat) (l:List (Int × Int)),i=i'/\i'<=(took p f).length/\Mp w' w1.heap.size .i64 (l.map fun q=>(q.1,.int .i64 q.2))/\(∀ b,q10 0 b l=cntL ((took p f).take i') b)/\(0<p.most->∀ b,cntL ((took p f).take i') b<=p.most)/\Fr (fun b=>b=w1.heap.size) w3 w',fun i _=>(took p f).length-i.toNat,
  ⟨0,[],rfl,by omega,Mp.fr hm2 hm.fr0,fun b=>by simp[q10,cntL],fun h0 b=>by simp[cntL]; omega,Fr.refl⟩,?_⟩⟩
 rintro i w4 ⟨i,l,rfl,hi,hmp,hget,hcnt,hf4⟩
 unfold z0c_b0
 have hwf:∀ {w'},Fr (fun b=>b=w1.heap.size) w3 w'->Fr F0 w w':=fun {w'} hf=>((m.1.t hf2).t hm.fr0).trans hf fun b hb hlt=>by omega
 refine q00.2<|⟨fun hlt=>?_,fun hge=>?_⟩
 ·have hlt:i<(took p f).length:=by omega
  have hv4:VC w4 t (took p f):=hv.frF hf4 fun b hb he=>by have:=hm.nw b hb; omega
  refine VC.ld hv4 i rfl hlt fun a hc=>?_
  obtain⟨c0,c1,c2,c3⟩:=hc w4 Fr.refl
  refine⟨_,c0,_,c1,_,c2,_,c3,q19 rfl Mem.nil fun w5 m5=>?_⟩
  have hf5:=m5.1
  have hr5:Row w5 w4.heap.size (encC (took p f)[i]):=m5.2.1 _ (J1.2 rfl)
  have hmp5:=Mp.fr hmp hf5
  refine⟨_,hr5.at,l,hmp5,?_⟩
  have hts:=q08 hlt
  have hc1:∀ b,cntL ((took p f).take (i+1)) b=cntL ((took p f).take i) b+if (took p f)[i].bid=b then 1 else 0:=by
   intro b
   unfold cntL
   rw[hts,List.countP_append,List.countP_cons,List.countP_nil]
   by_cases hb:(took p f)[i].bid=b
   ·simp[hb]
   ·simp[hb]
  have hle:∀ b,cntL ((took p f).take i) b<=12:=by
   intro b
   unfold cntL
   have:=List.countP_le_length (p:=fun c:Ch=>c.bid == b) (l:=(took p f).take i)
   rw[Jx] at this
   omega
  have hle0:∀ b,0<=cntL ((took p f).take i) b:=fun b=>by unfold cntL; omega
  rw[hget]
  have hxb:=hle (took p f)[i].bid
  have hxb0:=hle0 (took p f)[i].bid
  refine⟨q01,⟨_,hmp5⟩,?_⟩
  intro w6
  have hf6:Fr (fun b=>b=w1.heap.size) w5 w6:=q6o
  have hmp6:=hmp5.set (took p f)[i].bid (.int .i64 (cntL ((took p f).take i) (took p f)[i].bid+1))
  rw[q41 (Value.int .i64)] at hmp6
  have hmp6:Mp w6 w1.heap.size .i64 _:=hmp6
  have hf36:Fr (fun b=>b=w1.heap.size) w3 w6:=(hf4.trans hf5 fun _ h _=>h.elim).trans hf6 fun _ h _=>h
  have hget6:∀ b,q10 0 b (mput (took p f)[i].bid (cntL ((took p f).take i) (took p f)[i].bid+1) l)=cntL ((took p f).take (i+1)) b:=by
   intro b
   rw[q45,hget,hc1]
   by_cases hb:b=(took p f)[i].bid
   ·subst hb; rw[if_pos rfl,if_pos rfl]
   ·rw[if_neg hb,if_neg (Ne.symm hb),JB]
  have hnext:(0<p.most->∀ b,cntL ((took p f).take (i+1)) b<=p.most)->inR .i64 ((i:Int)+1)/\((((⟨w.heap.size,0,none⟩:Addr)=⟨w.heap.size,0,none⟩/\w1.heap.size=w1.heap.size/\t=t/\(t.l:Int)=t.l/\True) /\
    ∃ (i':Nat) (l:List (Int × Int)),(i:Int)+1=i'/\i'<=(took p f).length/\Mp w6 w1.heap.size .i64 (l.map fun q=>(q.1,.int .i64 q.2))/\(∀ b,q10 0 b l=cntL ((took p f).take i') b)/\(0<p.most->∀ b,cntL ((took p f).take i') b<=p.most)/\Fr (fun b=>b=w1.heap.size) w3 w6) /\
    (took p f).length-((i:Int)+1).toNat<(took p f).length-(i:Int).toNat):=fun hq =>
   ⟨q01,⟨⟨rfl,rfl,rfl,rfl,trivial⟩,i+1,_,by omega,by omega,hmp6,hget6,hq,hf36⟩,by omega⟩
  have hr6:Row w6 w.heap.size (pfC s0 s1 s2 p.most p.budget s5):=hf36.row hr3 (by omega)
  refine⟨_,hr6.at,q00.2 ?_⟩
  refine⟨fun hpos=>?_,fun hneg=>hnext fun h0=>absurd h0 (by omega)⟩
  have hr5':Row w6 w4.heap.size (encC (took p f)[i]):=hf6.row hr5 (by have:=hf4.1; have:=hm.fr0.1; omega)
  refine⟨_,hr5'.at rfl,_,hmp6,_,hr6.at,?_⟩
  rw[hget6]
  refine q00.2<|⟨fun hgt=>?_,fun hle'=>hnext fun h0 b=>?_⟩
  ·have:=hK w6 (hwf hf36)
   rwa [show q2c p f=true from q12.2 ⟨by omega,_,JC (by exact hgt) (Int.ofNat_le.2 ((Ju (i+1) (took p f)).countP_le ..))⟩] at this
  ·by_cases hb:(took p f)[i].bid=b
   ·subst hb; omega
   ·rw[hc1,if_neg hb,JB]; exact hcnt h0 b
 ·have:i=(took p f).length:=by omega
  subst this
  rw[J2] at hcnt
  have:=hK w4 (hwf hf4)
  rwa [show q2c p f=false from Bool.eq_false_iff.2 fun hb=>by
   obtain⟨h0,b,hb⟩:=q12.1 hb
   have:=hcnt h0 b
   unfold cntL at this
   omega] at this
end
end Go.Proofs.YtfpobpjandjhjaaGreatDoor
namespace Pw
def q2v:List Int->List Int->Int
 | [],[]=>0
 | [],_ :: _=>-1
 | _ :: _,[]=>1
 | x :: a,y :: b=>if x<y then -1 else if y<x then 1 else q2v a b
theorem q6q:∀ a b:List Int,a.length=b.length->(0<q2v a b ↔ gtL a b=true)
 | [],[],_=>by simp[q2v,gtL]
 | [],_ :: _,h=>by simp at h
 | _ :: _,[],h=>by simp at h
 | x :: a,y :: b,h=>by
  have ih:=q6q a b (by simpa using h)
  rw[q2v,gtL]
  by_cases h1:x<y
  ·rw[if_pos h1,if_neg (by omega),decide_eq_true_iff]
   omega
  ·rw[if_neg h1]
   by_cases h2:y<x
   ·rw[if_pos h2,if_neg (by omega),decide_eq_true_iff]
    omega
   ·rw[if_neg h2,if_pos (by omega)]
    exact ih
def btB (p:Pr)(a b:List Int):Bool:=decide (q14 p b<q14 p a) || (decide (q14 p a=q14 p b) && gtL b a)
theorem q4q {p:Pr}{a b:List Int}:btB p a b=true ↔ Bt p a b:=by simp[btB,Bt]
end Pw
namespace Go.Proofs.YtfpobpjandjhjaaGreatDoor
open Go Pw
section
variable {w w' w0:World}{s s0 s1 s2 s5 t0 t1 t2 t5:Sl}{p:Pr}{f g:List Int}
theorem q78 {l:List Int}{K:Sl->World->Prop}(h:VI w s l)(hl:l.length<2^40)(hK:∀ s' w',Mk w 1 (ie .i64 id) w' s' l->K s' w'):z3m_sh s K w:=by
 refine⟨q02.2 ?_⟩
 refine⟨fun hn=>?_,fun _=>?_⟩
 ·have hnil:l=[]:=by
   rcases Nat.eq_zero_or_pos l.length with h0 | h0
   ·exact List.eq_nil_of_length_eq_zero h0
   ·obtain⟨ad,ha⟩:=h.ne (fun a=>q05 _ _ a) (by decide) h0
    rw[ha] at hn
    cases hn
  subst hnil
  exact hK _ _ (Mk.nil Fr.refl)
 ·intro w1
  have hf1:Fr F0 w w1:=Fr.alloc
  have hr:Row w1 w.heap.size []:=Row.new
  have hm:Mk w 1 (ie .i64 (id:Int->Int)) w1 ⟨some ⟨w.heap.size,0,none⟩,0,0⟩ [] :=
   ⟨hf1,⟨rfl,rfl,.inr ⟨_,[],rfl,hr,rfl,JG _,rfl⟩⟩,fun b ⟨a,ha,hb⟩=>by cases ha; subst hb; exact JG _⟩
  exact hm.app (h.fr hf1) (q1y _ _) rfl (by simp; omega) (by simp; omega) fun r w2 hm2 _=>hK r w2 (by simpa using hm2)
theorem q30 {a b:List Int}{K:Int->World->Prop}(ha:VI w s a)(hb:VI w t0 b)(hla:a.length<2^63)(_:b.length<2^63)(hK:K (q2v a b) w):z34_sh s t0 K w:=by
 have ea:=ha.len; have eb:=hb.len
 refine⟨⟨⟨fun i w'=>∃ i':Nat,i=i'/\i'<=a.length/\i'<=b.length/\q2v a b=q2v (a.drop i') (b.drop i')/\w'=w,fun i _=>a.length-i.toNat,⟨0,rfl,by omega,by omega,rfl,rfl⟩,?_⟩⟩⟩
 rintro i _ ⟨i,rfl,hi,hi2,he,rfl⟩
 unfold z34_b0
 rw[he] at hK
 refine q00.2<|⟨fun hlt=>?_,fun hge=>?_⟩
 ·have hlt:i<a.length:=by omega
  rw[J6 hlt] at hK he
  refine VI.ld ha i rfl hlt<|q00.2<|⟨fun hc=>?_,fun hc=>?_⟩
  ·have e:b.drop i=[]:=J9 (by omega)
   rw[e] at hK
   exact hK
  ·have hlt2:i<b.length:=by omega
   rw[J6 hlt2] at hK he
   refine VI.ld hb i rfl hlt2<|q6e ?_
   rw[q2v] at hK he
   unfold cmpI
   refine q0u.2 ?_
   by_cases h1:a[i]<b[i]
   ·rw[if_pos h1] at hK ⊢
    exact⟨fun _=>hK,fun h=>by omega⟩
   ·rw[if_neg h1] at hK he ⊢
    by_cases h2:b[i]<a[i]
    ·rw[if_pos h2] at hK ⊢
     exact⟨fun _=>hK,fun h=>by omega⟩
    ·rw[if_neg h2] at hK he ⊢
     exact⟨fun h=>absurd rfl h,fun _=>⟨q01,⟨⟨rfl,rfl,rfl,rfl,trivial⟩,i+1,by omega,by omega,by omega,he,rfl⟩,by dsimp only; omega⟩⟩
 ·have:i=a.length:=by omega
  subst this
  rw[J9 (JG _)] at hK
  refine q00.2<|⟨fun hc=>?_,fun hc=>?_⟩
  ·rw[J6 (by omega:a.length<b.length)] at hK
   exact hK
  ·have e:b.drop a.length=[]:=J9 (by omega)
   rw[e] at hK
   exact hK
theorem q79 {K:Int->World->Prop}(hp:q03 p)(h:PF w s0 s1 s2 s5 p f)(hd:Decs p p.lots f)(hK:∀ w',Fr F0 w w'->K (q14 p f) w'):z0t_sh s0 s1 s2 p.most p.budget s5 K w:=by
 refine⟨?_⟩
 intro w1
 have m:Mem w w1 [(w.heap.size,pfC s0 s1 s2 p.most p.budget s5)]:=Mem.nil.alloc
 intro w2
 have m:Mem w w2 [(w.heap.size,pfC s0 s1 s2 p.most p.budget s5)]:=m.drew
 have hb:=q5t hp hd
 have hbu:=hp.budget
 have hl:=q8q hp hd
 refine⟨fun u=>Rs u _,m.sub 0,_,fun _ h=>h.ld 0,_,fun _ h=>h.ld 0,_,fun _ h=>h.ld 0,_,fun _ h=>h.ld 0,_,fun _ h=>h.ld 0,_,fun _ h=>h.ld 0,_,fun _ h=>h.ld 0,q01 (by have:=hbu.1; omega) (by have:=hbu.2; omega),_,fun _ h=>h.ld 0,_,fun _ h=>h.ld 0,_,fun _ h=>h.ld 0,_,fun _ h=>h.ld 0,_,fun _ h=>h.ld 0,_,fun _ h=>h.ld 0,q8w hp (h.fr m.1) hd fun w3 hf3=>?_⟩
 have m3:=m.fr hf3
 refine⟨m3.sub 0,q01,qad hp (h.fr m3.1) hd fun w4 hf4=>?_⟩
 have m4:=m3.fr hf4
 exact⟨m4.sub 0,q01,hK w4 m4.1⟩
theorem qdw {K:Bool->World->Prop}(hp:q03 p)(h:PF w s0 s1 s2 s5 p f)(h':PF w t0 t1 t2 t5 p g)(hd:Decs p p.lots f)(hd':Decs p p.lots g)(hl:f.length=g.length)(hK:∀ w',Fr F0 w w'->K (btB p f g) w') :
  z30_sh s0 s1 s2 p.most p.budget s5 t0 t1 t2 p.most p.budget t5 K w:=by
 refine⟨?_⟩
 intro w1
 have m:Mem w w1 [(w.heap.size,pfC s0 s1 s2 p.most p.budget s5)]:=Mem.nil.alloc
 intro w2
 have m:Mem w w2 [(w1.heap.size,pfC t0 t1 t2 p.most p.budget t5),(w.heap.size,pfC s0 s1 s2 p.most p.budget s5)]:=m.alloc
 intro w3
 have m:Mem w w3 [(w1.heap.size,pfC t0 t1 t2 p.most p.budget t5),(w.heap.size,pfC s0 s1 s2 p.most p.budget s5)]:=m.drew
 refine⟨fun u=>Rs u _,m.sub 0,_,fun _ h=>h.ld 1,_,fun _ h=>h.ld 1,_,fun _ h=>h.ld 1,_,fun _ h=>h.ld 1,_,fun _ h=>h.ld 1,_,fun _ h=>h.ld 1,_,fun _ h=>h.ld 0,_,fun _ h=>h.ld 0,_,fun _ h=>h.ld 0,_,fun _ h=>h.ld 0,_,fun _ h=>h.ld 0,_,fun _ h=>h.ld 0,_,fun _ h=>h.ld 0,_,fun _ h=>h.ld 1,q79 hp (h.fr m.1) hd fun w4 hf4=>?_⟩
 have m4:=m.fr hf4
 refine⟨m4.sub 0,q79 hp (h'.fr m4.1) hd' fun w5 hf5=>?_⟩
 have m5:=m4.fr hf5
 refine⟨m5.sub 0,q6e ⟨m5.sub 0,q30 (h'.fr m5.1).tk (h.fr m5.1).tk h'.lt h.lt ⟨m5.sub 0,?_⟩⟩⟩
 intro w6
 have m6:Mem w w6 [(w5.heap.size,[.int .i64 (cmpI (q14 p f) (q14 p g)),.int .i64 (q2v g f)]),(w1.heap.size,pfC t0 t1 t2 p.most p.budget t5),(w.heap.size,pfC s0 s1 s2 p.most p.budget s5)]:=m5.alloc
 refine⟨m6.sub 1,qkv (m6.ld 0) (m6.ld 0) ⟨m6.sub 1,?_⟩⟩
 have:=hK w6 m6.1
 rwa [show btB p f g=decide ((if cmpI (q14 p f) (q14 p g)≠0 then cmpI (q14 p f) (q14 p g) else q2v g f)>0) from ?_] at this
 rw[JK,q4q,decide_eq_true_iff]
 have hc:=q6q g f hl.symm
 unfold Bt cmpI
 by_cases h1:q14 p f<q14 p g
 ·rw[if_pos h1,if_pos (by decide)]
  omega
 ·rw[if_neg h1]
  by_cases h2:q14 p g<q14 p f
  ·rw[if_pos h2,if_pos (by decide)]
   exact⟨fun _=>by decide,fun _=>.inl h2⟩
  ·rw[if_neg h2,if_neg (by simp)]
   constructor
   ·rintro (h3 | ⟨_,h3⟩)
    ·exact absurd h3 h2
    ·exact hc.2 h3
   ·intro h3
    exact .inr ⟨by omega,hc.1 h3⟩
theorem q81 {c:Ch}{K:Int->World->Prop}(hp:q03 p)(hc:c∈p.ch)(hK:∀ w',Fr F0 w w'->K (c.pts*(p.budget+1)-c.price) w'):z1g_sh s0 s1 s2 p.most p.budget s5 c.lot c.bid c.price c.pts K w:=by
 refine⟨?_⟩
 intro w1
 have m:Mem w w1 [(w.heap.size,pfC s0 s1 s2 p.most p.budget s5)]:=Mem.nil.alloc
 intro w2
 have m:Mem w w2 [(w1.heap.size,encC c),(w.heap.size,pfC s0 s1 s2 p.most p.budget s5)]:=m.alloc
 have hb:=q4p hp hc
 have hbu:=hp.budget
 have hpr:=(hp.ch c hc).2.1
 exact⟨_,m.ld 0,_,m.ld 1,q01 (by have:=hbu.1; omega) (by have:=hbu.2; omega),q01,_,m.ld 0,q01 (by have:=hpr.2; omega) (by have:=hpr.1; omega),hK w2 m.1⟩
end
end Go.Proofs.YtfpobpjandjhjaaGreatDoor
