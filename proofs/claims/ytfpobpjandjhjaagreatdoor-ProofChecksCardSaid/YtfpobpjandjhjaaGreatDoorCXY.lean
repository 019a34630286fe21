/- The bound as the code reckons it, and why it holds. Conditions: none. -/
import Derived.Test.YtfpobpjandjhjaaGreatDoorRQ0
import Derived.Test.YtfpobpjandjhjaaGreatDoorCXX
import Derived.Test.YtfpobpjandjhjaaGreatDoorCG3
open List renaming set_cons_zero->J0,set_cons_succ->J1,drop_of_length_le->J2,drop_eq_getElem_cons->J3,getElem?_eq_some_iff->J4,getElem?_eq_getElem->J5,getElem_mem->J6,length_take->J7,drop_left->J8
namespace Go.Proofs.YtfpobpjandjhjaaGreatDoor
open Go Pw
instance (n:Int):Decidable (I64 n):=inferInstanceAs (Decidable (_/\_))
def q06 (s:RR)(a b:Int × Int):RR :=
 ⟨(addQ s.n s.d (mulQ a.1 a.2 b.1 b.2).n (mulQ a.1 a.2 b.1 b.2).d).n,(addQ s.n s.d (mulQ a.1 a.2 b.1 b.2).n (mulQ a.1 a.2 b.1 b.2).d).d,s.ok && ((mulQ a.1 a.2 b.1 b.2).ok && (addQ s.n s.d (mulQ a.1 a.2 b.1 b.2).n (mulQ a.1 a.2 b.1 b.2).d).ok)⟩
def q3g (p:Pr)(c:Ch):Int:=c.pts*(p.budget+1)-c.price
def q28 (p:Pr)(f:List Int)(dual:Int × Int)(i:Nat)(lot:Int)(st:RR)(n:Nat)(c:Ch):RR :=
 if c.lot≠lot\/(i<f.length/\f.getD i 0≠(n:Int)) then st else
  if i<f.length\/0<cmpQ (q06 ⟨q3g p c,1,st.ok⟩ dual (-c.price,1)).n (q06 ⟨q3g p c,1,st.ok⟩ dual (-c.price,1)).d st.n st.d
  then q06 ⟨q3g p c,1,st.ok⟩ dual (-c.price,1) else ⟨st.n,st.d,(q06 ⟨q3g p c,1,st.ok⟩ dual (-c.price,1)).ok⟩
def q1c (p:Pr)(f:List Int)(dual:Int × Int)(i:Nat)(lot:Int):Nat->List Ch->RR->RR
 | _,[],st=>st
 | n,c :: l,st=>q1c p f dual i lot (n+1) l (q28 p f dual i lot st n c)
def q4r (p:Pr)(f:List Int)(dual:Int × Int)(i:Nat)(lot:Int)(s:RR):RR :=
 q06 ⟨s.n,s.d,(q1c p f dual i lot 0 p.ch ⟨0,1,s.ok⟩).ok⟩ (1,1) ((q1c p f dual i lot 0 p.ch ⟨0,1,s.ok⟩).n,(q1c p f dual i lot 0 p.ch ⟨0,1,s.ok⟩).d)
def q1o (p:Pr)(f:List Int)(dual:Int × Int):Nat->List Int->RR->RR
 | _,[],s=>s
 | i,lot :: ls,s=>q1o p f dual (i+1) ls (q4r p f dual i lot s)
def q1j (p:Pr)(dual:Int × Int):RR:=q06 ⟨0,1,true⟩ dual (p.budget,1)
def q3b (dual:Int × Int)(ok:Bool):RR:=q06 ⟨1,1,ok⟩ (1,1) dual
def q5u (p:Pr)(f:List Int)(s m:RR):RR:=q06 ⟨s.n,s.d,m.ok⟩ (m.n,m.d) (offs p f,1)
def q0c (p:Pr)(f:List Int)(dual:Int × Int):RR :=
 q5u p f (q1o p f dual 0 p.lots (q1j p dual)) (q3b dual (q1o p f dual 0 p.lots (q1j p dual)).ok)
def upB (p:Pr)(f:List Int)(a b:Int):Option Int :=
 if q04 a b/\I64 a/\I64 b/\0<=a then (if (q0c p f (a,b)).ok then some (q1w (q0c p f (a,b)).n (q0c p f (a,b)).d) else none) else none
theorem q0k (n:Int):q04 n 1:=rI n
theorem q5v (n:Int):val n 1=(n:Rat):=by
 apply Rat.ext
 ·rw[q70 (q0k n)]; rfl
 ·have:=q71 (q0k n)
  show(val n 1).den=1
  omega
section
variable {p:Pr}{f:List Int}{dual:Int × Int}
theorem q1d (s:RR)(a b:Int × Int):q04 (q06 s a b).n (q06 s a b).d:=qg5 _ _ _ _
theorem q13 (s:RR)(a b:Int × Int):I64 (q06 s a b).n/\I64 (q06 s a b).d:=qbi _ _ _ _
theorem q3v {s:RR}{a b:Int × Int}(h:(q06 s a b).ok=true)(hs:q04 s.n s.d)(ha:q04 a.1 a.2)(hb:q04 b.1 b.2) :
  s.ok=true/\val (q06 s a b).n (q06 s a b).d=val s.n s.d+val a.1 a.2*val b.1 b.2:=by
 simp only[q06,Bool.and_eq_true] at h ⊢
 obtain⟨h1,h2,h3⟩:=h
 exact⟨h1,by rw[qjv hs (qg6 _ _ _ _) h3,qjw ha hb h2]⟩
theorem qf2 (c:Ch)(lam:Rat):val (q3g p c) 1+lam*val (-c.price) 1=gain p lam c:=by
 rw[q5v,q5v]; rfl
theorem q8y {i:Nat}{lot:Int}{st:RR}{n:Nat}{c:Ch}(hs:q04 st.n st.d):q04 (q28 p f dual i lot st n c).n (q28 p f dual i lot st n c).d:=by
 unfold q28
 split
 ·exact hs
 ·split
  ·exact q1d _ _ _
  ·exact hs
theorem q8z {i:Nat}{lot:Int}{st:RR}{n:Nat}{c:Ch}(hs:I64 st.n/\I64 st.d):I64 (q28 p f dual i lot st n c).n/\I64 (q28 p f dual i lot st n c).d:=by
 unfold q28
 split
 ·exact hs
 ·split
  ·exact q13 _ _ _
  ·exact hs
theorem q46 {i:Nat}{lot:Int}:∀ (l:List Ch) (n:Nat) (st:RR),q04 st.n st.d->q04 (q1c p f dual i lot n l st).n (q1c p f dual i lot n l st).d
 | [],_,_,h=>h
 | c :: l,n,st,h=>q46 l (n+1) _ (q8y h)
theorem qjx {i:Nat}{lot:Int}{st:RR}{n:Nat}{c:Ch}(h:(q28 p f dual i lot st n c).ok=true):st.ok=true:=by
 unfold q28 at h
 split at h
 ·exact h
 ·have key:(q06 ⟨q3g p c,1,st.ok⟩ dual (-c.price,1)).ok=true:=by split at h<;>exact h
  simp only[q06,Bool.and_eq_true] at key
  exact key.1
theorem q82 {i:Nat}{lot:Int}:∀ (l:List Ch) (n:Nat) (st:RR),(q1c p f dual i lot n l st).ok=true->st.ok=true
 | [],_,_,h=>h
 | c :: l,n,st,h=>qjx (q82 l (n+1) _ h)
theorem qae {i:Nat}{lot:Int}(hi:¬i<f.length)(hd:q04 dual.1 dual.2):∀ (l:List Ch) (n:Nat) (st:RR),q04 st.n st.d->(q1c p f dual i lot n l st).ok=true ->
  val (q1c p f dual i lot n l st).n (q1c p f dual i lot n l st).d=l.foldl (fun m c=>if c.lot=lot/\m<gain p (val dual.1 dual.2) c then gain p (val dual.1 dual.2) c else m) (val st.n st.d)
 | [],_,_,_,_=>rfl
 | c :: l,n,st,hs,hok=>by
  have hok1:=q82 l (n+1) _ hok
  rw[q1c,qae hi hd l (n+1) _ (q8y hs) hok,List.foldl_cons]
  congr 1
  unfold q28 at hok1 ⊢
  by_cases hl:c.lot=lot
  ·have hcond:¬(c.lot≠lot\/(i<f.length/\f.getD i 0≠(n:Int))):=by
    rintro (h | ⟨h,_⟩)
    ·exact h hl
    ·exact hi h
   rw[if_neg hcond] at hok1 ⊢
   have key:(q06 ⟨q3g p c,1,st.ok⟩ dual (-c.price,1)).ok=true:=by split at hok1<;>exact hok1
   have hv:=(q3v key (q0k _) hd (q0k _)).2
   simp only at hv
   rw[qf2] at hv
   have hc:=qju (q1d ⟨q3g p c,1,st.ok⟩ dual (-c.price,1)) hs
   rw[hv] at hc
   by_cases hlt:val st.n st.d<gain p (val dual.1 dual.2) c
   ·have hpos:0<cmpQ (q06 ⟨q3g p c,1,st.ok⟩ dual (-c.price,1)).n (q06 ⟨q3g p c,1,st.ok⟩ dual (-c.price,1)).d st.n st.d:=by
     rw[hc]; unfold cmpR
     rw[if_neg (by grind),if_pos hlt]; decide
    rw[if_pos (.inr hpos),if_pos ⟨hl,hlt⟩,hv]
   ·have hneg:¬(i<f.length\/0<cmpQ (q06 ⟨q3g p c,1,st.ok⟩ dual (-c.price,1)).n (q06 ⟨q3g p c,1,st.ok⟩ dual (-c.price,1)).d st.n st.d):=by
     rintro (h | h)
     ·exact hi h
     ·rw[hc] at h
      unfold cmpR at h
      split at h<;>omega
    rw[if_neg hneg,if_neg fun h=>hlt h.2]
  ·rw[if_pos (.inl hl),if_neg fun h=>hl h.1]
theorem q7b {i:Nat}{lot:Int}(hi:i<f.length):∀ (l:List Ch) (n:Nat) (st:RR),(∀ j c,l[j]?=some c->c.lot=lot->f.getD i 0≠((n+j:Nat):Int))->q1c p f dual i lot n l st=st
 | [],_,_,_=>rfl
 | c :: l,n,st,h=>by
  have h0:c.lot≠lot\/(i<f.length/\f.getD i 0≠(n:Int)):=by
   by_cases hl:c.lot=lot
   ·exact .inr ⟨hi,h 0 c rfl hl⟩
   ·exact .inl hl
  rw[q1c,show q28 p f dual i lot st n c=st by unfold q28; rw[if_pos h0]]
  exact q7b hi l (n+1) st fun j c' hj hl=>by
   have:=h (j+1) c' (by simpa using hj) hl
   rwa [show n+1+j=n+(j+1) by omega]
theorem q90 {i:Nat}{lot:Int}(hi:i<f.length)(hd:q04 dual.1 dual.2){k:Nat}:∀ (l:List Ch) (n:Nat) (st:RR),q04 st.n st.d->(hn:n<=k)->f.getD i 0=(k:Int)->(∃ c,l[k-n]?=some c/\c.lot=lot) ->
  (q1c p f dual i lot n l st).ok=true->∃ c,l[k-n]?=some c/\val (q1c p f dual i lot n l st).n (q1c p f dual i lot n l st).d=gain p (val dual.1 dual.2) c
 | [],_,_,_,_,_,h,_=>by obtain⟨c,h,_⟩:=h; simp at h
 | c :: l,n,st,hs,hn,hk,h,hok=>by
  rcases Nat.eq_or_lt_of_le hn with he | hlt
  ·subst he
   obtain⟨c',h1,h2⟩:=h
   simp only[Nat.sub_self,List.getElem?_cons_zero,Option.some.injEq] at h1
   subst h1
   refine⟨c,by simp,?_⟩
   have hok1:=q82 l (n+1) _ hok
   have hcond:¬(c.lot≠lot\/(i<f.length/\f.getD i 0≠(n:Int))):=by
    rintro (h | ⟨_,h⟩)
    ·exact h h2
    ·exact h hk
   have hb:q28 p f dual i lot st n c=q06 ⟨q3g p c,1,st.ok⟩ dual (-c.price,1):=by
    unfold q28
    rw[if_neg hcond,if_pos (.inl hi)]
   rw[q1c,hb] at hok ⊢
   rw[hb] at hok1
   rw[q7b hi l (n+1) _ fun j c' _ _=>by rw[hk]; omega] at hok ⊢
   have hv:=(q3v hok1 (q0k _) hd (q0k _)).2
   simp only at hv
   rw[hv,qf2]
  ·have hb:q28 p f dual i lot st n c=st:=by
    unfold q28
    rw[if_pos (.inr ⟨hi,by rw[hk]; omega⟩)]
   rw[q1c,hb] at hok ⊢
   have e:k-n=(k-(n+1))+1:=by omega
   rw[e] at h ⊢
   simp only[List.getElem?_cons_succ] at h ⊢
   exact q90 hi hd l (n+1) st hs hlt hk h hok
theorem qf3 {i:Nat}{lot:Int}{s:RR}(h:(q4r p f dual i lot s).ok=true):(q1c p f dual i lot 0 p.ch ⟨0,1,s.ok⟩).ok=true/\s.ok=true:=by
 unfold q4r at h
 simp only[q06,Bool.and_eq_true] at h
 have:=q82 p.ch 0 ⟨0,1,s.ok⟩ h.1
 exact⟨h.1,this⟩
theorem q83:∀ (ls:List Int) (i:Nat) (s:RR),(q1o p f dual i ls s).ok=true->s.ok=true
 | [],_,_,h=>h
 | _ :: ls,i,_,h=>(qf3 (q83 ls (i+1) _ h)).2
theorem q91:∀ (ls:List Int) (i:Nat) (s:RR),q04 s.n s.d->q04 (q1o p f dual i ls s).n (q1o p f dual i ls s).d
 | [],_,_,h=>h
 | _ :: ls,i,_,_=>q91 ls (i+1) _ (q1d _ _ _)
theorem qbk (ls:List Int):Decs p ls []:=by cases ls<;>exact trivial
theorem q92 (hd:q04 dual.1 dual.2):∀ (ls:List Int) (i:Nat) (s:RR),q04 s.n s.d->Decs p ls (f.drop i)->(q1o p f dual i ls s).ok=true ->
  val (q1o p f dual i ls s).n (q1o p f dual i ls s).d=val s.n s.d+q7v p (val dual.1 dual.2) ls (f.drop i)
 | [],i,s,_,hd',_=>by
  unfold q1o q7v
  grind
 | lot :: ls,i,s,hs,hf,hok=>by
  have h0:q04 0 1:=q0k 0
  have hok1:=q83 ls (i+1) _ hok
  obtain⟨hok2,_⟩:=qf3 hok1
  have hr:=q46 (p:=p) (f:=f) (dual:=dual) (i:=i) (lot:=lot) p.ch 0 ⟨0,1,s.ok⟩ h0
  have hl:val (q4r p f dual i lot s).n (q4r p f dual i lot s).d=val s.n s.d+val (q1c p f dual i lot 0 p.ch ⟨0,1,s.ok⟩).n (q1c p f dual i lot 0 p.ch ⟨0,1,s.ok⟩).d:=by
   have:=(q3v (s:=⟨s.n,s.d,(q1c p f dual i lot 0 p.ch ⟨0,1,s.ok⟩).ok⟩) (a:=(1,1)) (b:=((q1c p f dual i lot 0 p.ch ⟨0,1,s.ok⟩).n,(q1c p f dual i lot 0 p.ch ⟨0,1,s.ok⟩).d)) hok1 hs (q0k 1) hr).2
   simp only at this
   unfold q4r
   rw[this,q5v]
   grind
  by_cases hi:i<f.length
  ·have hdrop:f.drop i=f[i] :: f.drop (i+1):=J3 hi
   have hg:f.getD i 0=f[i]:=by simp[hi]
   rw[hdrop] at hf ⊢
   obtain⟨hn,hf⟩:=hf
   have ih:=q92 hd ls (i+1) (q4r p f dual i lot s) (q1d _ _ _) hf hok
   rw[q1o,ih]
   rw[hl,q7v]
   have hb:val (q1c p f dual i lot 0 p.ch ⟨0,1,s.ok⟩).n (q1c p f dual i lot 0 p.ch ⟨0,1,s.ok⟩).d=(match chAt p f[i] with | some c=>gain p (val dual.1 dual.2) c | none=>0):=by
    rcases hn with hn | ⟨c,hc,hlot⟩
    ·rw[hn,show chAt p (-1)=none by simp[chAt]]
     rw[q7b hi p.ch 0 _ fun j c' _ _=>by rw[hg,hn]; omega]
     exact qbh
    ·rw[hc]
     unfold chAt at hc
     split at hc
     ·rename_i hpos
      obtain⟨c',h1,h2⟩:=q90 (p:=p) (dual:=dual) (lot:=lot) hi hd (k:=f[i].toNat) p.ch 0 ⟨0,1,s.ok⟩ h0 (Nat.zero_le _) (by rw[hg]; omega) ⟨c,by simpa using hc,hlot⟩ hok2
      rw[h2]
      rw[Nat.sub_zero,hc] at h1
      injection h1 with h1
      rw[h1]
     ·cases hc
   rw[hb]
   grind
  ·have hdrop:f.drop i=[]:=J2 (by omega)
   have hdrop':f.drop (i+1)=[]:=J2 (by omega)
   have ih:=q92 hd ls (i+1) (q4r p f dual i lot s) (q1d _ _ _) (by rw[hdrop']; exact qbk ls) hok
   rw[q1o,ih,hdrop,hdrop']
   rw[hl,q7v,qae hi hd p.ch 0 ⟨0,1,s.ok⟩ h0 hok2]
   simp only[qbh]
   change _=_+(free p (val dual.1 dual.2) lot+_)
   unfold free
   grind
theorem qg7 (hd:q04 dual.1 dual.2)(hf:Decs p p.lots f)(hok:(q0c p f dual).ok=true) :
  q04 (q0c p f dual).n (q0c p f dual).d /\
  val (q0c p f dual).n (q0c p f dual).d=val dual.1 dual.2*((p.budget:Int):Rat)+q7v p (val dual.1 dual.2) p.lots f+(1+val dual.1 dual.2)*((offs p f:Int):Rat):=by
 refine⟨q1d _ _ _,?_⟩
 have h1:q04 (q1o p f dual 0 p.lots (q1j p dual)).n (q1o p f dual 0 p.lots (q1j p dual)).d:=q91 _ _ _ (q1d _ _ _)
 obtain⟨o1,v1⟩:=q3v (s:=⟨(q1o p f dual 0 p.lots (q1j p dual)).n,(q1o p f dual 0 p.lots (q1j p dual)).d,(q3b dual (q1o p f dual 0 p.lots (q1j p dual)).ok).ok⟩)
  (a:=((q3b dual (q1o p f dual 0 p.lots (q1j p dual)).ok).n,(q3b dual (q1o p f dual 0 p.lots (q1j p dual)).ok).d)) (b:=(offs p f,1)) hok h1 (q1d _ _ _) (q0k _)
 obtain⟨o2,v2⟩:=q3v (s:=⟨1,1,(q1o p f dual 0 p.lots (q1j p dual)).ok⟩) (a:=(1,1)) (b:=dual) o1 (q0k 1) (q0k 1) hd
 have o3:=q83 _ _ _ o2
 obtain⟨_,v3⟩:=q3v (s:=⟨0,1,true⟩) (a:=dual) (b:=(p.budget,1)) o3 (q0k 0) hd (q0k _)
 have v4:=q92 hd p.lots 0 (q1j p dual) (q1d _ _ _) (by simpa using hf) o2
 rw[List.drop_zero] at v4
 simp only[q5v] at v1 v2 v3
 change val (q0c p f dual).n (q0c p f dual).d=_ at v1
 change val (q3b dual (q1o p f dual 0 p.lots (q1j p dual)).ok).n (q3b dual (q1o p f dual 0 p.lots (q1j p dual)).ok).d=_ at v2
 change val (q1j p dual).n (q1j p dual).d=_ at v3
 change val (q1o p f dual 0 p.lots (q1j p dual)).n (q1o p f dual 0 p.lots (q1j p dual)).d=_ at v4
 rw[v1,v2,v4,v3]
 grind
theorem qjy {n d m:Int}(h:q04 n d)(hm:(m:Rat)<=val n d):m<=n / d:=by
 rw[← q5v,← Rat.not_lt,qez h (q0k m)] at hm
 rw[Int.le_ediv_iff_mul_le h.1]
 omega
theorem upB_ok (hp:q03 p)(hf:∀ g t,g <+: t->Perm p t->Decs p p.lots g):UpOk (upB p) p:=by
 intro g a b n hn t hg ht
 unfold upB at hn
 split at hn
 ·rename_i hc
  split at hn
  ·rename_i hok
   injection hn with hn
   have hdg:=hf g t hg ht
   obtain⟨hr,hv⟩:=qg7 (dual:=(a,b)) hc.1 hdg hok
   have hlam:0<=val a b:=by
    rw[← Rat.not_lt,← qbh (d:=1),qez hc.1 (q0k 0)]
    have:=hc.2.2.2
    omega
   have:=qlf hp hlam hg ht
   rw[← hv] at this
   have:=qjy hr this
   rw[← hn]
   unfold q1w
   rw[if_pos hr]
   exact this
  ·cases hn
 ·cases hn
theorem q93:∀ (ls g t:List Int),g <+: t->Decs p ls t->Decs p ls g
 | ls,[],t,_,_=>qbk ls
 | ls,_ :: _,[],h,_=>by simp at h
 | [],_ :: _,_ :: _,_,h=>h.elim
 | lot :: ls,x :: g,y :: t,h,hd=>by
  obtain⟨rfl,h2⟩:=List.cons_prefix_cons.1 h
  exact⟨hd.1,q93 ls g t h2 hd.2⟩
theorem qbl (hp:q03 p):UpOk (upB p) p:=upB_ok hp fun g t hg ht=>q93 _ _ _ hg ht.2.1
end
open Go Pw
section
variable {w w' w0:World}{l:List (Nat × List Value)}
theorem Add_s {n d n' d':Int}{K:Int->Int->Bool->World->Prop}(hn:I64 n)(hd:I64 d)(hn':I64 n')(hd':I64 d')(hK:∀ w',Fr F0 w w'->K (addQ n d n' d').n (addQ n d n' d').d (addQ n d n' d').ok w'):z4c_sh n d n' d' K w:=qer hn hd hn' hd' hK
theorem Mul_s {n d n' d':Int}{K:Int->Int->Bool->World->Prop}(hn:I64 n)(hd:I64 d)(hn':I64 n')(hd':I64 d')(hK:∀ w',Fr F0 w w'->K (mulQ n d n' d').n (mulQ n d n' d').d (mulQ n d n' d').ok w'):z4e_sh n d n' d' K w:=qes hn hd hn' hd' hK
theorem qi4 {n d:Int}{K:Int->Int->Bool->World->Prop}(hn:I64 n)(hd:I64 d)(hK:∀ w',Fr F0 w w'->K (q7a n d).n (q7a n d).d (q7a n d).ok w'):z47_sh n d K w:=qho hn hd hK
theorem qi5 {n d:Int}{b:Nat}{m0:List (Nat × List Value)}{t:Nat}{v0 v1:Value}{K:Int->Int->World->Prop}(m:Mem w0 w ((b,[.int .i64 n,.int .i64 d]) :: m0))(j:Nat)(hj:m0[j]?=some (t,[v0,v1]))(k:Nat)(hk:m0.drop k=l)(hjk:j<k)
  (hK:∀ w',Mem w0 w' l->K n d w'):z0b_k0 ⟨t,0,none⟩ ⟨b,0,none⟩ K w:=by
 refine⟨?_⟩
 have hl:j<m0.length:=(J4.1 hj).1
 refine⟨_,m.ld 0,_,m.ld 0,m.wr (j+1) hj rfl,?_⟩
 intro w1
 have m:Mem w0 w1 _:=m.set (j+1) hj
 clear_value w1
 simp only[J1] at m
 refine⟨m.wr (j+1) (cs:=[.int .i64 n,v1]) (by simp[hl]) rfl,?_⟩
 intro w2
 have m:Mem w0 w2 _:=m.set (j+1) (cs:=[.int .i64 n,v1]) (by simp[hl])
 clear_value w2
 simp only[J1,List.set_set,J0] at m
 refine⟨_,m.ld (j+1) (cs:=[.int .i64 n,.int .i64 d]) (by simp[hl]) rfl,_,m.ld (j+1) (cs:=[.int .i64 n,.int .i64 d]) (by simp[hl]) rfl,hK w2 (m.dr (k+1) ?_)⟩
 rw[List.drop_succ_cons,List.drop_set,if_pos hjk,hk]
theorem q15 {fb:Nat}{sn sd an ad bn bd:Int}{ok:Bool}{K:Int->Int->World->Prop}(m:Mem w0 w l)(j:Nat)(hj:l[j]?=some (fb,[.bool ok]))
  (h1:I64 sn) (h2:I64 sd) (h3:I64 an) (h4:I64 ad) (h5:I64 bn) (h6:I64 bd)
  (hK:∀ w',Mem w0 w' (l.set j (fb,[.bool (q06 ⟨sn,sd,ok⟩ (an,ad) (bn,bd)).ok]))->K (q06 ⟨sn,sd,ok⟩ (an,ad) (bn,bd)).n (q06 ⟨sn,sd,ok⟩ (an,ad) (bn,bd)).d w'):z0b_sh sn sd an ad bn bd ⟨fb,0,none⟩ K w:=by
 refine⟨?_⟩
 have hlt:j<l.length:=(J4.1 hj).1
 intro w1
 have m:Mem w0 w1 ((w.heap.size,[.int .i64 sn,.int .i64 sd]) :: l):=m.alloc
 intro w2
 have m:Mem w0 w2 ((w1.heap.size,[.int .i64 an,.int .i64 ad]) :: (w.heap.size,[.int .i64 sn,.int .i64 sd]) :: l):=m.alloc
 intro w3
 have m:Mem w0 w3 ((w2.heap.size,[.int .i64 bn,.int .i64 bd]) :: (w1.heap.size,[.int .i64 an,.int .i64 ad]) :: (w.heap.size,[.int .i64 sn,.int .i64 sd]) :: l):=m.alloc
 intro w4
 have m:Mem w0 w4 ((w3.heap.size,[.int .i64 0,.int .i64 0]) :: (w2.heap.size,[.int .i64 bn,.int .i64 bd]) :: (w1.heap.size,[.int .i64 an,.int .i64 ad]) :: (w.heap.size,[.int .i64 sn,.int .i64 sd]) :: l):=m.alloc
 refine⟨_,m.ld 2,_,m.ld 2,_,m.ld 1,_,m.ld 1,Mul_s h3 h4 h5 h6 fun w5 hf5=>?_⟩
 have m:=m.fr hf5
 have i1:=qbj an ad bn bd
 generalize hx:mulQ an ad bn bd=x at *
 intro w6
 have m:Mem w0 w6 ((w5.heap.size,[.int .i64 0,.int .i64 0]) :: (w3.heap.size,[.int .i64 0,.int .i64 0]) :: (w2.heap.size,[.int .i64 bn,.int .i64 bd]) :: (w1.heap.size,[.int .i64 an,.int .i64 ad]) :: (w.heap.size,[.int .i64 sn,.int .i64 sd]) :: l):=m.alloc
 refine⟨m.wr 0,?_⟩
 intro w7
 have m:Mem w0 w7 _:=m.set 0
 refine⟨m.wr 0,?_⟩
 intro w8
 have m:Mem w0 w8 _:=m.set 0
 refine⟨_,m.ld 4,_,m.ld 4,_,m.ld 0,_,m.ld 0,Add_s h1 h2 i1.1 i1.2 fun w9 hf9=>?_⟩
 have m:=m.fr hf9
 have hsum:q06 ⟨sn,sd,ok⟩ (an,ad) (bn,bd)=⟨(addQ sn sd x.n x.d).n,(addQ sn sd x.n x.d).d,ok && (x.ok && (addQ sn sd x.n x.d).ok)⟩:=by unfold q06; rw[hx]
 rw[hsum] at hK
 simp only at hK
 generalize addQ sn sd x.n x.d=y at *
 intro w10
 have m:Mem w0 w10 ((w9.heap.size,[.int .i64 0,.int .i64 0]) :: (w5.heap.size,[.int .i64 x.n,.int .i64 x.d]) :: (w3.heap.size,[.int .i64 0,.int .i64 0]) :: (w2.heap.size,[.int .i64 bn,.int .i64 bd]) :: (w1.heap.size,[.int .i64 an,.int .i64 ad]) :: (w.heap.size,[.int .i64 sn,.int .i64 sd]) :: l):=m.alloc
 refine⟨m.wr 0,?_⟩
 intro w11
 have m:Mem w0 w11 _:=m.set 0
 refine⟨m.wr 0,?_⟩
 intro w12
 have m:Mem w0 w12 _:=m.set 0
 refine⟨ok,m.ld (j+6) hj rfl,?_⟩
 have fin:∀ {v:Bool} {w13:World},v=(ok && (x.ok && y.ok))->w13=w12.setCell ⟨fb,0,none⟩ (.bool v)->z0b_k0 ⟨w3.heap.size,0,none⟩ ⟨w9.heap.size,0,none⟩ K w13:=by
  intro v w13 hv hw
  have m:Mem w0 w13 _:=hw ▸ m.set (j+6) hj
  refine qi5 (l:=l.set j (fb,[.bool v])) m 1 rfl 5 rfl (by decide) fun w' m'=>?_
  rw[← hv] at hK
  exact hK w' m'
 cases ok
 ·exact⟨m.wr (j+6) hj rfl,fin rfl rfl⟩
 ·rw[q17]
  cases hxo:x.ok
  ·rw[hxo] at fin
   exact⟨m.wr (j+6) hj rfl,fin rfl rfl⟩
  ·rw[hxo] at fin
   exact⟨m.wr (j+6) hj rfl,fin rfl rfl⟩
end
open Go Pw
def rrC (n d:Int):List Value:=[.int .i64 n,.int .i64 d]
abbrev BL (sb ob nb db fb:Nat)(s:RR)(dn dd:Int)(F:List Value):List (Nat × List Value) :=
 [(sb,[.int .i64 s.n,.int .i64 s.d]),(ob,[.int .i64 1,.int .i64 1]),(nb,[.bool s.ok]),(db,[.int .i64 dn,.int .i64 dd]),(fb,F)]
abbrev BC (bb sb ob nb db fb:Nat)(st s:RR)(dn dd:Int)(F:List Value):List (Nat × List Value) :=
 (bb,[.int .i64 st.n,.int .i64 st.d]) :: [(sb,[.int .i64 s.n,.int .i64 s.d]),(ob,[.int .i64 1,.int .i64 1]),(nb,[.bool st.ok]),(db,[.int .i64 dn,.int .i64 dd]),(fb,F)]
section
variable {w w' w0:World}{s0 s1 s2 s5:Sl}{p:Pr}{f:List Int}{bb sb ob nb db fb cb xb:Nat}{s st:RR}{dn dd:Int}{c:Ch}{n:Nat}
theorem qf4 {F:List Value}{x:RR}{i lot:Int}{t1 t2:Sl}{a1 a2 a3 a4:Int}{N2:Addr->Addr->Addr->Addr->Addr->Addr->Int->Int->Addr->Sl->Int->Int->Sl->Int->Int->World->Prop}{N1:Addr->Addr->Addr->Addr->Addr->Addr->Sl->Int->Int->World->Prop}{K:Int->Bool->World->Prop}
  (m:Mem w0 w ((xb,[.int .i64 x.n,.int .i64 x.d]) :: (cb,encC c) :: BC bb sb ob nb db fb ⟨st.n,st.d,x.ok⟩ s dn dd F)) (hi:0<=a4/\a4<2^60)
  (hN:∀ w',Mem w0 w' (BC bb sb ob nb db fb x s dn dd F)->N2 ⟨fb,0,none⟩ ⟨db,0,none⟩ ⟨nb,0,none⟩ ⟨nb,0,none⟩ ⟨ob,0,none⟩ ⟨sb,0,none⟩ i lot ⟨bb,0,none⟩ t1 a1 a2 t2 a3 (a4+1) w') :
  z0o_k5 ⟨fb,0,none⟩ ⟨db,0,none⟩ ⟨nb,0,none⟩ ⟨nb,0,none⟩ ⟨ob,0,none⟩ ⟨sb,0,none⟩ i lot ⟨bb,0,none⟩ ⟨xb,0,none⟩ t1 a1 a2 t2 a3 a4 N2 N1 K w:=by
 refine⟨⟨_,m.ld 0,_,m.ld 0,m.wr 2,?_⟩⟩
 intro w1
 have m:Mem w0 w1 _:=m.set 2
 refine⟨m.wr 2,?_⟩
 intro w2
 have m:Mem w0 w2 _:=m.set 2
 exact⟨q01,hN w2 (m.dr 2)⟩
theorem qjz {F:List Value}{x:RR}{i lot:Int}{t1 t2:Sl}{a1 a2 a3 a4:Int}{dec:Bool}{N2:Addr->Addr->Addr->Addr->Addr->Addr->Int->Int->Addr->Sl->Int->Int->Sl->Int->Int->World->Prop}{N1:Addr->Addr->Addr->Addr->Addr->Addr->Sl->Int->Int->World->Prop}{K:Int->Bool->World->Prop}
  (m:Mem w0 w ((xb,[.int .i64 x.n,.int .i64 x.d]) :: (cb,encC c) :: BC bb sb ob nb db fb ⟨st.n,st.d,x.ok⟩ s dn dd F)) (hi:0<=a4/\a4<2^60) (hx:I64 x.n/\I64 x.d) (hst:I64 st.n/\I64 st.d)
  (hN:∀ w',Mem w0 w' (BC bb sb ob nb db fb (if dec=true\/0<cmpQ x.n x.d st.n st.d then x else ⟨st.n,st.d,x.ok⟩) s dn dd F)->N2 ⟨fb,0,none⟩ ⟨db,0,none⟩ ⟨nb,0,none⟩ ⟨nb,0,none⟩ ⟨ob,0,none⟩ ⟨sb,0,none⟩ i lot ⟨bb,0,none⟩ t1 a1 a2 t2 a3 (a4+1) w') :
  z0o_k4 ⟨fb,0,none⟩ ⟨db,0,none⟩ ⟨nb,0,none⟩ ⟨nb,0,none⟩ ⟨ob,0,none⟩ ⟨sb,0,none⟩ i lot ⟨bb,0,none⟩ dec ⟨xb,0,none⟩ t1 a1 a2 t2 a3 a4 N2 N1 K w:=by
 refine⟨q02.2 ?_⟩
 refine⟨fun hd=>qf4 m hi fun w' m'=>hN w' (by rw[if_pos (.inl hd)]; exact m'),fun hd=>⟨_,m.ld 0,_,m.ld 0,_,m.ld 2,_,m.ld 2,qet hx.1 hx.2 hst.1 hst.2 fun w1 hf=>?_⟩⟩
 have m:=m.fr hf
 refine q00.2<|⟨fun hc=>qf4 m hi fun w' m'=>hN w' (by rw[if_pos (.inr hc)]; exact m'),fun hc=>⟨q01,hN w1 ?_⟩⟩
 rw[if_neg (by rw[hd]; rintro (h | h); cases h; exact hc h)]
 exact m.dr 2
theorem qf5 {x:RR}{i lot:Int}{t1 t2:Sl}{a1 a2 a3 a4:Int}{dec:Bool}{N2:Addr->Addr->Addr->Addr->Addr->Addr->Int->Int->Addr->Sl->Int->Int->Sl->Int->Int->World->Prop}{N1:Addr->Addr->Addr->Addr->Addr->Addr->Sl->Int->Int->World->Prop}{K:Int->Bool->World->Prop}
  (hp:q03 p) (hc:c∈p.ch) (hdn:I64 dn) (hdd:I64 dd) (hst:I64 st.n/\I64 st.d)
  (m:Mem w0 w ((cb,encC c) :: BC bb sb ob nb db fb st s dn dd (pfC s0 s1 s2 p.most p.budget s5))) (hi:0<=a4/\a4<2^60)
  (hx:x=q06 ⟨q3g p c,1,st.ok⟩ (dn,dd) (-c.price,1))
  (hN:∀ w',Mem w0 w' (BC bb sb ob nb db fb (if dec=true\/0<cmpQ x.n x.d st.n st.d then x else ⟨st.n,st.d,x.ok⟩) s dn dd (pfC s0 s1 s2 p.most p.budget s5))->N2 ⟨fb,0,none⟩ ⟨db,0,none⟩ ⟨nb,0,none⟩ ⟨nb,0,none⟩ ⟨ob,0,none⟩ ⟨sb,0,none⟩ i lot ⟨bb,0,none⟩ t1 a1 a2 t2 a3 (a4+1) w') :
  z0o_k3 ⟨fb,0,none⟩ ⟨db,0,none⟩ ⟨nb,0,none⟩ ⟨nb,0,none⟩ ⟨ob,0,none⟩ ⟨sb,0,none⟩ i lot ⟨bb,0,none⟩ ⟨cb,0,none⟩ dec t1 a1 a2 t2 a3 a4 N2 N1 K w:=by
 refine⟨?_⟩
 unfold z0o_k3d
 have hb:=q4p hp hc
 have hprW:=(hp.ch c hc).2.1
 have hbu:=hp.budget
 have hnet:I64 (c.pts*(p.budget+1)-c.price):=by have:=hprW.1; have:=hprW.2; exact⟨by omega,by omega⟩
 have hpr:I64 (-c.price):=by have:=hprW.1; have:=hprW.2; exact⟨by omega,by omega⟩
 have hone:I64 1:=⟨by decide,by decide⟩
 have hxi:I64 x.n/\I64 x.d:=hx ▸ q13 _ _ _
 have fin:∀ {w' xb},Mem w0 w' ((xb,[.int .i64 (q06 ⟨c.pts*(p.budget+1)-c.price,1,st.ok⟩ (dn,dd) (-c.price,1)).n,.int .i64 (q06 ⟨c.pts*(p.budget+1)-c.price,1,st.ok⟩ (dn,dd) (-c.price,1)).d]) :: (cb,encC c) :: BC bb sb ob nb db fb ⟨st.n,st.d,(q06 ⟨c.pts*(p.budget+1)-c.price,1,st.ok⟩ (dn,dd) (-c.price,1)).ok⟩ s dn dd (pfC s0 s1 s2 p.most p.budget s5)) ->
   z0o_k4 ⟨fb,0,none⟩ ⟨db,0,none⟩ ⟨nb,0,none⟩ ⟨nb,0,none⟩ ⟨ob,0,none⟩ ⟨sb,0,none⟩ i lot ⟨bb,0,none⟩ dec ⟨xb,0,none⟩ t1 a1 a2 t2 a3 a4 N2 N1 K w':=by
  intro w' xb m'
  have e:q06 ⟨c.pts*(p.budget+1)-c.price,1,st.ok⟩ (dn,dd) (-c.price,1)=x:=hx.symm
  rw[e] at m'
  exact qjz m' hi hxi hst hN
 intro w66; have m:Mem w0 w66 _:=m.drew
 refine⟨fun u=>Rs u _,m.skip 4 0 rfl,⟨_,fun _ h=>h.ld 5,⟨_,fun _ h=>h.ld 5,⟨_,fun _ h=>h.ld 5,⟨_,fun _ h=>h.ld 5,⟨_,fun _ h=>h.ld 5,⟨_,fun _ h=>h.ld 5,⟨_,fun _ h=>h.ld 0,⟨_,fun _ h=>h.ld 0,⟨_,fun _ h=>h.ld 0,⟨_,fun _ h=>h.ld 0,⟨_,fun _ h=>h.ld 4,⟨_,fun _ h=>h.ld 4,⟨_,fun _ h=>h.ld 0,⟨q01 (by have:=hpr.1; omega) (by have:=hpr.2; omega),⟨?_,?_⟩⟩⟩⟩⟩⟩⟩⟩⟩⟩⟩⟩⟩⟩⟩⟩
 ·refine q81 hp hc fun w81 hf=>?_; have m:=m.fr hf
  refine⟨m.skip 4 0 rfl,⟨?_,?_⟩⟩
  ·refine q0l fun w83 hf=>?_; have m:=m.fr hf
   refine⟨m.skip 4 0 rfl,⟨?_,?_⟩⟩
   ·refine q0l fun w85 hf=>?_; have m:=m.fr hf
    refine⟨m.skip 4 0 rfl,⟨?_,?_⟩⟩
    ·refine q15 m 4 rfl hnet hone hdn hdd hpr hone fun w87 m=>?_
     refine⟨m.skip 4 0 rfl,?_⟩
     intro w89; have m:Mem w0 w89 _:=m.allocL
     refine⟨m.skip 5 1 rfl,⟨m.wr 0,?_⟩⟩
     intro w90; have m:Mem w0 w90 _:=m.set 0
     refine⟨m.wr 0,?_⟩
     intro w91; have m:Mem w0 w91 _:=m.set 0
     exact fin m
    ·intro w92; have m:Mem w0 w92 _:=m.allocL
     refine⟨m.skip 5 1 rfl,?_⟩
     refine q15 m 5 rfl hnet hone hdn hdd hpr hone fun w93 m=>?_
     refine⟨m.skip 5 1 rfl,⟨m.wr 0,?_⟩⟩
     intro w95; have m:Mem w0 w95 _:=m.set 0
     refine⟨m.wr 0,?_⟩
     intro w96; have m:Mem w0 w96 _:=m.set 0
     exact fin m
   ·intro w97; have m:Mem w0 w97 _:=m.allocL
    refine⟨m.skip 5 1 rfl,?_⟩
    refine q0l fun w98 hf=>?_; have m:=m.fr hf
    refine⟨m.skip 5 1 rfl,?_⟩
    refine q15 m 5 rfl hnet hone hdn hdd hpr hone fun w100 m=>?_
    refine⟨m.skip 5 1 rfl,⟨m.wr 0,?_⟩⟩
    intro w102; have m:Mem w0 w102 _:=m.set 0
    refine⟨m.wr 0,?_⟩
    intro w103; have m:Mem w0 w103 _:=m.set 0
    exact fin m
  ·intro w104; have m:Mem w0 w104 _:=m.allocL
   refine⟨m.skip 5 1 rfl,?_⟩
   refine q0l fun w105 hf=>?_; have m:=m.fr hf
   refine⟨m.skip 5 1 rfl,?_⟩
   refine q0l fun w107 hf=>?_; have m:=m.fr hf
   refine⟨m.skip 5 1 rfl,?_⟩
   refine q15 m 5 rfl hnet hone hdn hdd hpr hone fun w109 m=>?_
   refine⟨m.skip 5 1 rfl,⟨m.wr 0,?_⟩⟩
   intro w111; have m:Mem w0 w111 _:=m.set 0
   refine⟨m.wr 0,?_⟩
   intro w112; have m:Mem w0 w112 _:=m.set 0
   exact fin m
 ·intro w113; have m:Mem w0 w113 _:=m.allocL
  refine⟨m.skip 5 1 rfl,?_⟩
  refine q81 hp hc fun w114 hf=>?_; have m:=m.fr hf
  refine⟨m.skip 5 1 rfl,?_⟩
  refine q0l fun w116 hf=>?_; have m:=m.fr hf
  refine⟨m.skip 5 1 rfl,?_⟩
  refine q0l fun w118 hf=>?_; have m:=m.fr hf
  refine⟨m.skip 5 1 rfl,?_⟩
  refine q15 m 5 rfl hnet hone hdn hdd hpr hone fun w120 m=>?_
  refine⟨m.skip 5 1 rfl,⟨m.wr 0,?_⟩⟩
  intro w122; have m:Mem w0 w122 _:=m.set 0
  refine⟨m.wr 0,?_⟩
  intro w123; have m:Mem w0 w123 _:=m.set 0
  exact fin m
theorem qk0 {i:Nat}{lot:Int}{t1:Sl}{a1:Int}{N1:Addr->Addr->Addr->Addr->Addr->Addr->Sl->Int->Int->World->Prop}{K:Int->Bool->World->Prop}
  (hp:q03 p) (h:PF w0 s0 s1 s2 s5 p f) (hdn:I64 dn) (hdd:I64 dd) (hi:(i:Int)<2^60) (hs:I64 s.n/\I64 s.d)
  (m:Mem w0 w (BC bb sb ob nb db fb ⟨0,1,s.ok⟩ s dn dd (pfC s0 s1 s2 p.most p.budget s5)))
  (hN:∀ w',Mem w0 w' (BL sb ob nb db fb (q4r p f (dn,dd) i lot s) dn dd (pfC s0 s1 s2 p.most p.budget s5))->N1 ⟨fb,0,none⟩ ⟨db,0,none⟩ ⟨nb,0,none⟩ ⟨nb,0,none⟩ ⟨ob,0,none⟩ ⟨sb,0,none⟩ t1 a1 ((i:Int)+1) w') :
  z0o_l2 ⟨fb,0,none⟩ ⟨db,0,none⟩ ⟨nb,0,none⟩ ⟨nb,0,none⟩ ⟨ob,0,none⟩ ⟨sb,0,none⟩ i lot ⟨bb,0,none⟩ t1 a1 i s1 (s1.l:Int) 0 N1 K w:=by
 have l1:=h.pv.l1; have l5:=h.lt
 have e1:=h.pv.ch.len; have e5:=h.tk.len
 have hzero:I64 0:=⟨by decide,by decide⟩
 have hone:I64 1:=⟨by decide,by decide⟩
 refine⟨⟨fun j w'=>∃ (j':Nat) (st:RR),j=j'/\j'<=p.ch.length/\(I64 st.n/\I64 st.d)/\q1c p f (dn,dd) i lot j' (p.ch.drop j') st=q1c p f (dn,dd) i lot 0 p.ch ⟨0,1,s.ok⟩/\Mem w0 w' (BC bb sb ob nb db fb st s dn dd (pfC s0 s1 s2 p.most p.budget s5)),fun j _=>p.ch.length-j.toNat,
  ⟨0,⟨0,1,s.ok⟩,rfl,by omega,⟨hzero,hone⟩,by simp,m⟩,?_⟩⟩
 rintro j w2 ⟨j,st,rfl,hj,hst,he,m⟩
 unfold z0o_b2
 refine q00.2<|⟨fun hlt=>?_,fun hge=>?_⟩
 ·have hlt:j<p.ch.length:=by omega
  have hcm:=J6 hlt
  rw[J3 hlt,q1c] at he
  refine VC.ld (h.fr m.1).pv.ch j rfl hlt fun a hc=>?_
  obtain⟨c0,c1,c2,c3⟩:=hc w2 Fr.refl
  refine⟨_,c0,_,c1,_,c2,_,c3,q19 rfl m fun w3 m3=>?_⟩
  have m3:Mem w0 w3 ((w2.heap.size,encC p.ch[j]) :: BC bb sb ob nb db fb st s dn dd (pfC s0 s1 s2 p.most p.budget s5)):=m3
  refine⟨s5,m3.ld 6,_,m3.ld 0,?_⟩
  have hnext:∀ {w4:World} {st':RR},q28 p f (dn,dd) i lot st j p.ch[j]=st'->Mem w0 w4 (BC bb sb ob nb db fb st' s dn dd (pfC s0 s1 s2 p.most p.budget s5))->((((⟨fb,0,none⟩:Addr)=⟨fb,0,none⟩/\(⟨db,0,none⟩:Addr)=⟨db,0,none⟩/\(⟨nb,0,none⟩:Addr)=⟨nb,0,none⟩/\(⟨nb,0,none⟩:Addr)=⟨nb,0,none⟩/\(⟨ob,0,none⟩:Addr)=⟨ob,0,none⟩/\(⟨sb,0,none⟩:Addr)=⟨sb,0,none⟩/\(i:Int)=i/\lot=lot/\(⟨bb,0,none⟩:Addr)=⟨bb,0,none⟩/\t1=t1/\a1=a1/\(i:Int)=i/\s1=s1/\(s1.l:Int)=s1.l/\True) /\
    ∃ (j':Nat) (st:RR),(j:Int)+1=j'/\j'<=p.ch.length/\(I64 st.n/\I64 st.d)/\q1c p f (dn,dd) i lot j' (p.ch.drop j') st=q1c p f (dn,dd) i lot 0 p.ch ⟨0,1,s.ok⟩/\Mem w0 w4 (BC bb sb ob nb db fb st s dn dd (pfC s0 s1 s2 p.most p.budget s5)))/\p.ch.length-((j:Int)+1).toNat<p.ch.length-(j:Int).toNat) :=
   fun {w4 st'} hb m4=>⟨⟨⟨rfl,rfl,rfl,rfl,rfl,rfl,rfl,rfl,rfl,rfl,rfl,rfl,rfl,rfl,trivial⟩,j+1,st',by omega,by omega,hb ▸ q8z hst,by rw[← hb]; exact he,m4⟩,by omega⟩
  refine q0u.2<|⟨fun hne=>?_,fun hlot=>?_⟩
  ·refine⟨q01,hnext ?_ (m3.dr 1)⟩
   unfold q28
   rw[if_pos (.inl hne)]
  refine q00.2 ?_
  have hstep:∀ {dec:Bool},dec=decide (i<f.length)->¬(i<f.length/\f.getD i 0≠(j:Int))->q28 p f (dn,dd) i lot st j p.ch[j]=if dec=true\/0<cmpQ (q06 ⟨q3g p p.ch[j],1,st.ok⟩ (dn,dd) (-p.ch[j].price,1)).n (q06 ⟨q3g p p.ch[j],1,st.ok⟩ (dn,dd) (-p.ch[j].price,1)).d st.n st.d then q06 ⟨q3g p p.ch[j],1,st.ok⟩ (dn,dd) (-p.ch[j].price,1) else ⟨st.n,st.d,(q06 ⟨q3g p p.ch[j],1,st.ok⟩ (dn,dd) (-p.ch[j].price,1)).ok⟩:=fun {dec} hdec hnd=>by
   unfold q28
   rw[if_neg (by rintro (h | h); exact h hlot; exact hnd h)]
   subst hdec
   simp only[decide_eq_true_eq]
  refine⟨fun hdec=>?_,fun hdec=>?_⟩
  ·have hil:i<f.length:=by omega
   refine⟨s5,m3.ld 6,VI.ld (h.fr m3.1).tk i rfl hil ?_⟩
   have hg:f.getD i 0=f[i]:=by simp[hil]
   refine q0u.2<|⟨fun hne=>⟨q01,hnext ?_ (m3.dr 1)⟩,fun heq=>qf5 hp hcm hdn hdd hst m3 (by omega) rfl fun w4 m4=>hnext (hstep (decide_eq_decide.2 (by omega)) (by rw[hg]; exact fun h=>h.2 heq)) m4⟩
   unfold q28
   rw[if_pos (.inr ⟨hil,by rw[hg]; exact hne⟩)]
  ·exact qf5 hp hcm hdn hdd hst m3 (by omega) rfl fun w4 m4=>hnext (hstep (decide_eq_decide.2 (by omega)) (fun h=>hdec (by omega))) m4
 ·have:j=p.ch.length:=by omega
  subst this
  rw[J2 (Nat.le_refl _),q1c] at he
  refine⟨_,m.ld 1,_,m.ld 1,_,m.ld 2,_,m.ld 2,_,m.ld 0,_,m.ld 0,q15 m 3 rfl hs.1 hs.2 hone hone hst.1 hst.2 fun w3 m=>?_⟩
  have hls:q4r p f (dn,dd) i lot s=q06 ⟨s.n,s.d,st.ok⟩ (1,1) (st.n,st.d):=by unfold q4r; rw[← he]
  rw[← hls] at m ⊢
  refine⟨m.wr 1,?_⟩
  intro w4
  have m:Mem w0 w4 _:=m.set 1
  refine⟨m.wr 1,?_⟩
  intro w5
  have m:Mem w0 w5 _:=m.set 1
  exact⟨q01,hN w5 (m.dr 1)⟩
theorem q84 {K:Int->Bool->World->Prop}(hp:q03 p)(h:PF w0 s0 s1 s2 s5 p f)
  (m:Mem w0 w (BL sb ob nb db fb (q1j p (dn,dd)) dn dd (pfC s0 s1 s2 p.most p.budget s5))) (hd:Decs p p.lots f) (hdn:I64 dn) (hdd:I64 dd)
  (hK:∀ w',Fr F0 w0 w'->K (q1w (q0c p f (dn,dd)).n (q0c p f (dn,dd)).d) (q0c p f (dn,dd)).ok w') :
  z0o_k0 ⟨fb,0,none⟩ ⟨db,0,none⟩ ⟨nb,0,none⟩ ⟨nb,0,none⟩ ⟨ob,0,none⟩ ⟨sb,0,none⟩ K w:=by
 refine⟨?_⟩
 have l0:=h.pv.l0
 have e0:=h.pv.lots.len
 have hone:I64 1:=⟨by decide,by decide⟩
 refine⟨s0,m.ld 4,⟨⟨fun j w'=>∃ (j':Nat) (s:RR),j=j'/\j'<=p.lots.length/\(I64 s.n/\I64 s.d)/\q1o p f (dn,dd) j' (p.lots.drop j') s=q1o p f (dn,dd) 0 p.lots (q1j p (dn,dd))/\Mem w0 w' (BL sb ob nb db fb s dn dd (pfC s0 s1 s2 p.most p.budget s5)),fun j _=>p.lots.length-j.toNat,
  ⟨0,q1j p (dn,dd),rfl,by omega,q13 _ _ _,by simp,m⟩,?_⟩⟩⟩
 rintro j w2 ⟨j,s,rfl,hj,hs,he,m⟩
 unfold z0o_b1
 refine q00.2<|⟨fun hlt=>?_,fun hge=>?_⟩
 ·have hlt:j<p.lots.length:=by omega
  rw[J3 hlt,q1o] at he
  refine VI.ld (h.fr m.1).pv.lots j rfl hlt<|q0l fun w3 hf=>?_
  have m:=m.fr hf
  intro w4
  have m:Mem w0 w4 _:=m.allocL
  refine⟨m.wr 0,?_⟩
  intro w5
  have m:Mem w0 w5 _:=m.set 0
  refine⟨m.wr 0,?_⟩
  intro w6
  have m:Mem w0 w6 _:=m.set 0
  exact⟨s1,m.ld 5,qk0 hp h hdn hdd (by omega) hs m fun w7 m7=>⟨⟨⟨rfl,rfl,rfl,rfl,rfl,rfl,rfl,rfl,trivial⟩,j+1,_,by omega,by omega,q13 _ _ _,he,m7⟩,by dsimp only; omega⟩⟩
 ·have:j=p.lots.length:=by omega
  subst this
  rw[J2 (Nat.le_refl _),q1o] at he
  refine⟨_,m.ld 1,_,m.ld 1,_,m.ld 1,_,m.ld 1,_,m.ld 3,_,m.ld 3,q15 m 2 rfl hone hone hone hone hdn hdd fun w3 m=>?_⟩
  have hmi:=q13 ⟨1,1,s.ok⟩ (1,1) (dn,dd)
  have hmo:q06 ⟨1,1,s.ok⟩ (1,1) (dn,dd)=q3b (dn,dd) s.ok:=rfl
  rw[hmo] at m hmi ⊢
  generalize hmr:q3b (dn,dd) s.ok=mr at *
  intro w4
  have m:Mem w0 w4 _:=m.allocL
  refine⟨m.wr 0,?_⟩
  intro w5
  have m:Mem w0 w5 _:=m.set 0
  refine⟨m.wr 0,?_⟩
  intro w6
  have m:Mem w0 w6 _:=m.set 0
  intro w7
  have m:Mem w0 w7 _:=m.drew
  refine⟨fun u=>Rs u _,m.skip 3 0 rfl,_,fun _ h=>h.ld 1,_,fun _ h=>h.ld 1,_,fun _ h=>h.ld 0,_,fun _ h=>h.ld 0,_,fun _ h=>h.ld 4,_,fun _ h=>h.ld 4,_,fun _ h=>h.ld 4,_,fun _ h=>h.ld 4,_,fun _ h=>h.ld 4,_,fun _ h=>h.ld 4,qcs hp (h.fr m.1) hd fun w8 hf=>?_⟩
  have m:=m.fr hf
  refine⟨m.skip 3 0 rfl,q0l fun w9 hf=>?_⟩
  have m:=m.fr hf
  have ho:0<=offs p f/\offs p f<=100000000000:=q1a (f:=f) hp (List.prefix_refl p.de)
  refine⟨m.skip 3 0 rfl,q15 m 3 rfl hs.1 hs.2 hmi.1 hmi.2 ⟨by omega,by omega⟩ hone fun w10 m=>?_⟩
  have hbq:q0c p f (dn,dd)=q06 ⟨s.n,s.d,mr.ok⟩ (mr.n,mr.d) (offs p f,1):=by
   unfold q0c q5u
   rw[← he,hmr]
  rw[← hbq] at m ⊢
  have hbi:I64 (q0c p f (dn,dd)).n/\I64 (q0c p f (dn,dd)).d:=q13 _ _ _
  refine⟨m.skip 3 0 rfl,m.wr 1,?_⟩
  intro w11
  have m:Mem w0 w11 _:=m.set 1
  refine⟨m.wr 1,?_⟩
  intro w12
  have m:Mem w0 w12 _:=m.set 1
  intro w13
  have m:Mem w0 w13 _:=m.drew
  refine⟨fun u=>Rs u _,m.sub 0,_,fun _ h=>h.ld 1,_,fun _ h=>h.ld 1,_,fun _ h=>h.ld 3,qa7 hbi.1 hbi.2 fun w14 hf=>?_⟩
  have m:=m.fr hf
  exact⟨m.sub 0,hK w14 m.1⟩
theorem qg8 {K:Int->Bool->World->Prop}(hp:q03 p)(h:PF w s0 s1 s2 s5 p f)(hd:Decs p p.lots f)(hdn:I64 dn)(hdd:I64 dd)
  (hK:∀ w',Fr F0 w w'->K (q1w (q0c p f (dn,dd)).n (q0c p f (dn,dd)).d) (q0c p f (dn,dd)).ok w'):z0o_sh s0 s1 s2 p.most p.budget s5 dn dd K w:=by
 refine⟨?_⟩
 unfold z0o_sd
 have hone:I64 1:=⟨by decide,by decide⟩
 have hzero:I64 0:=⟨by decide,by decide⟩
 have hbud:I64 p.budget:=by have:=hp.budget; exact⟨by have:=this.1; omega,by have:=this.2; omega⟩
 have m:Mem w w []:=Mem.nil
 intro w1; have m:Mem w w1 _:=m.allocL
 intro w2; have m:Mem w w2 _:=m.allocL
 intro w3; have m:Mem w w3 _:=m.allocL
 refine⟨m.wr 0,?_⟩
 intro w4; have m:Mem w w4 _:=m.set 0
 refine q0l fun w5 hf=>?_; have m:=m.fr hf
 intro w7; have m:Mem w w7 _:=m.allocL
 refine⟨m.wr 0,?_⟩
 intro w8; have m:Mem w w8 _:=m.set 0
 refine⟨m.wr 0,?_⟩
 intro w9; have m:Mem w w9 _:=m.set 0
 intro w10; have m:Mem w w10 _:=m.drew
 refine⟨fun u=>Rs u _,m.skip 1 0 rfl,⟨_,fun _ h=>h.ld 1,⟨_,fun _ h=>h.ld 1,⟨_,fun _ h=>h.ld 2,⟨?_,?_⟩⟩⟩⟩⟩
 ·refine q0l fun w15 hf=>?_; have m:=m.fr hf
  refine⟨m.skip 1 0 rfl,⟨?_,?_⟩⟩
  ·refine q0l fun w17 hf=>?_; have m:=m.fr hf
   refine⟨m.skip 1 0 rfl,⟨?_,?_⟩⟩
   ·refine q15 m 1 rfl hzero hone hdn hdd hbud hone fun w19 m=>?_
    refine⟨m.skip 1 0 rfl,?_⟩
    intro w21; have m:Mem w w21 _:=m.allocL
    refine⟨m.skip 2 1 rfl,⟨m.wr 0,?_⟩⟩
    intro w22; have m:Mem w w22 _:=m.set 0
    refine⟨m.wr 0,?_⟩
    intro w23; have m:Mem w w23 _:=m.set 0
    exact q84 hp h m hd hdn hdd hK
   ·intro w24; have m:Mem w w24 _:=m.allocL
    refine⟨m.skip 2 1 rfl,?_⟩
    refine q15 m 2 rfl hzero hone hdn hdd hbud hone fun w25 m=>?_
    refine⟨m.skip 2 1 rfl,⟨m.wr 0,?_⟩⟩
    intro w27; have m:Mem w w27 _:=m.set 0
    refine⟨m.wr 0,?_⟩
    intro w28; have m:Mem w w28 _:=m.set 0
    exact q84 hp h m hd hdn hdd hK
  ·intro w29; have m:Mem w w29 _:=m.allocL
   refine⟨m.skip 2 1 rfl,?_⟩
   refine q0l fun w30 hf=>?_; have m:=m.fr hf
   refine⟨m.skip 2 1 rfl,?_⟩
   refine q15 m 2 rfl hzero hone hdn hdd hbud hone fun w32 m=>?_
   refine⟨m.skip 2 1 rfl,⟨m.wr 0,?_⟩⟩
   intro w34; have m:Mem w w34 _:=m.set 0
   refine⟨m.wr 0,?_⟩
   intro w35; have m:Mem w w35 _:=m.set 0
   exact q84 hp h m hd hdn hdd hK
 ·intro w36; have m:Mem w w36 _:=m.allocL
  refine⟨m.skip 2 1 rfl,?_⟩
  refine q0l fun w37 hf=>?_; have m:=m.fr hf
  refine⟨m.skip 2 1 rfl,?_⟩
  refine q0l fun w39 hf=>?_; have m:=m.fr hf
  refine⟨m.skip 2 1 rfl,?_⟩
  refine q15 m 2 rfl hzero hone hdn hdd hbud hone fun w41 m=>?_
  refine⟨m.skip 2 1 rfl,⟨m.wr 0,?_⟩⟩
  intro w43; have m:Mem w w43 _:=m.set 0
  refine⟨m.wr 0,?_⟩
  intro w44; have m:Mem w w44 _:=m.set 0
  exact q84 hp h m hd hdn hdd hK
end
open Go Pw
def encR (x:Int × Int):List Value:=[.int .i64 x.1,.int .i64 x.2]
@[simp] theorem q94 (x:Int × Int):(encR x).length=2:=rfl
theorem qlh (x:Int × Int):∀ v∈encR x,okC v=true:=by intro v hv; simp[encR] at hv; rcases hv with rfl | rfl<;>rfl
abbrev VR (w:World)(s:Sl)(l:List (Int × Int)):Prop:=Vw 2 encR w s l
def Mul0 (x:Int × Int):Prop:=q04 x.1 x.2/\I64 x.1/\I64 x.2/\0<=x.1
def schC (t:Sl)(pts bnd:Int)(ns s0 s1 s2:Sl)(m b left:Int):List Value :=
 [.slice t.p t.l t.c,.int .i64 pts,.int .i64 bnd,.slice ns.p ns.l ns.c,.slice s0.p s0.l s0.c,.slice s1.p s1.l s1.c,.slice s2.p s2.l s2.c,.int .i64 m,.int .i64 b,.int .i64 left]
section
variable {w w' w0:World}{s s0 s1 s2 s5 t ns:Sl}{p:Pr}{f:List Int}{sb:Nat}
theorem VR.ld {l:List (Int × Int)}{i:Int}{K:Addr->Prop}(h:VR w s l)(i':Nat)(hi:i=(i':Int))(h1:i'<l.length)
  (hK:∀ a:Addr,(∀ w',Fr F0 w w'->w'.cell? (a.add (i.toNat*2))=some (.int .i64 l[i'].1)/\w'.cell? ((a.add (i.toNat*2)).add 1)=some (.int .i64 l[i'].2))->K a) :
  nz s.p fun a=>(0<=i/\i<(s.l:Nat))/\K a:=by
 subst hi
 have hl:=h.len
 obtain⟨ad,hp,_⟩:=h.at (fun a=>q94 a) (J5 h1) (by decide)
 rw[hp]
 refine⟨⟨by omega,by omega⟩,hK _ fun w' hf=>?_⟩
 obtain⟨ad',hp',hc⟩:=(h.fr hf).at (fun a=>q94 a) (J5 h1) (by decide)
 rw[hp] at hp'
 cases hp'
 exact⟨hc 0 _ rfl,hc 1 _ rfl⟩
theorem qaf {K:Sl->World->Prop}(hp:q03 p)(h:PF w s0 s1 s2 s5 p f)(hK:∀ s' w' l,Mk w 2 encR w' s' l->l.length<2^41->(∀ x∈l,Mul0 x)->K s' w'):z0p_sh s0 s1 s2 p.most p.budget s5 K w:=by
 refine⟨?_⟩
 have l0:=h.pv.l0; have l1:=h.pv.l1; have l5:=h.lt
 have e1:=h.pv.ch.len
 intro w1
 have m1:Mem w w1 [(w.heap.size,pfC s0 s1 s2 p.most p.budget s5)]:=Mem.nil.alloc
 refine q0l fun w2 hf2=>?_
 have m2:=m1.fr hf2
 intro w4
 have hmk:Mk w1 2 encR w4 ⟨some ⟨w2.heap.size,0,none⟩,1,1⟩ [((0,1):Int × Int)]:=Mk.new hf2 rfl rfl
 have hf4:Fr F0 w2 w4:=Fr.alloc
 have m4:=m2.fr hf4
 refine⟨s1,m4.ld 0,⟨⟨fun out i w'=>∃ (i':Nat) (l:List (Int × Int)),i=i'/\i'<=p.ch.length/\Mk w1 2 encR w' out l/\l.length<=i'+1/\(∀ x∈l,Mul0 x),fun _ i _=>p.ch.length-i.toNat,
  ⟨0,_,rfl,by omega,hmk,by simp,fun x hx=>by simp at hx; subst hx; exact⟨rI 0,⟨by decide,by decide⟩,⟨by decide,by decide⟩,by decide⟩⟩,?_⟩⟩⟩
 rintro out i w2 ⟨i,l,rfl,hi,hm,hll,hgood⟩
 unfold z0p_b0
 have hr2:Row w2 w.heap.size (pfC s0 s1 s2 p.most p.budget s5):=hm.fr0.row (m1.row 0) fun h=>h
 have h2:PF w2 s0 s1 s2 s5 p f:=h.fr (m1.1.t hm.fr0)
 refine q00.2<|⟨fun hlt=>?_,fun hge=>hK out w2 l ⟨m1.1.t hm.fr0,hm.ow,fun b hb=>Nat.le_trans m1.1.1 (hm.nw b hb)⟩ (by omega) hgood⟩
 have hlt:i<p.ch.length:=by omega
 have hcm:=J6 hlt
 refine VC.ld h2.pv.ch i rfl hlt fun a hc=>?_
 obtain⟨c0,c1,c2,c3⟩:=hc w2 Fr.refl
 refine⟨_,c0,_,c1,_,c2,_,c3,q19 rfl Mem.nil fun w12 m=>?_⟩
 have m:Mem w2 w12 [(w2.heap.size,encC p.ch[i])]:=m
 have hnext:∀ {w':World} {out':Sl} {l':List (Int × Int)},Mk w1 2 encR w' out' l'->l'.length<=i+2->(∀ x∈l',Mul0 x)->inR .i64 ((i:Int)+1)/\((((⟨w.heap.size,0,none⟩:Addr)=⟨w.heap.size,0,none⟩/\s1=s1/\(s1.l:Int)=s1.l/\True)/\∃ (i':Nat) (l:List (Int × Int)),(i:Int)+1=i'/\i'<=p.ch.length/\Mk w1 2 encR w' out' l/\l.length<=i'+1/\∀ x∈l,Mul0 x)/\p.ch.length-((i:Int)+1).toNat<p.ch.length-(i:Int).toNat) :=
  fun {w' out' l'} hm' hl' hg'=>⟨q01,⟨⟨rfl,rfl,rfl,trivial⟩,i+1,l',by omega,by omega,hm',by omega,hg'⟩,by omega⟩
 refine⟨_,(m.1.row hr2 fun h=>h).at rfl,_,m.ld 0,q74 (h2.fr m.1).pv.lots (by omega) ?_⟩
 refine⟨_,(m.1.row hr2 fun h=>h).at rfl,q00.2 ?_⟩
 refine⟨fun hx1=>?_,fun hx1=>hnext (hm.fr m.1) (by omega) hgood⟩
 refine⟨_,m.ld 0,q00.2 ?_⟩
 refine⟨fun hx2=>?_,fun hx2=>hnext (hm.fr m.1) (by omega) hgood⟩
 have hb:=q4p hp hcm
 have hprW:=(hp.ch _ hcm).2.1
 have hbu:=hp.budget
 have hnet:I64 (p.ch[i].pts*(p.budget+1)-p.ch[i].price):=by have:=hprW.1; have:=hprW.2; exact⟨by omega,by omega⟩
 have hpr:I64 p.ch[i].price:=by have:=hprW.1; have:=hprW.2; exact⟨by omega,by omega⟩
 obtain⟨q1,q2,q3⟩:=qdx (p.ch[i].pts*(p.budget+1)-p.ch[i].price) p.ch[i].price
 have hk1:∀ {w':World} {db:Nat} {ml:List (Nat × List Value)},Mem w2 w' ((db,[.int .i64 (q7a (p.ch[i].pts*(p.budget+1)-p.ch[i].price) p.ch[i].price).n,.int .i64 (q7a (p.ch[i].pts*(p.budget+1)-p.ch[i].price) p.ch[i].price).d]) :: ml) ->
   z0p_k1 ⟨w.heap.size,0,none⟩ out ⟨db,0,none⟩ (q7a (p.ch[i].pts*(p.budget+1)-p.ch[i].price) p.ch[i].price).ok s1 (s1.l:Int) i (fun (f_1':Addr) (out_3':Sl) (t_13':Sl) (t_14':Int) (t_15':Int) (w':World)=>((f_1'=⟨w.heap.size,0,none⟩/\t_13'=s1/\t_14'=(s1.l:Int)/\True)/\∃ (i':Nat) (l:List (Int × Int)),t_15'=i'/\i'<=p.ch.length/\Mk w1 2 encR w' out_3' l/\l.length<=i'+1/\∀ x∈l,Mul0 x)/\p.ch.length-t_15'.toNat<p.ch.length-(i:Int).toNat) K w':=by
  intro w' db ml m
  refine⟨q02.2 ?_⟩
  refine⟨fun _=>?_,fun _=>hnext (hm.fr m.1) (by omega) hgood⟩
  refine⟨_,m.ld 0,q00.2 ?_⟩
  refine⟨fun hpos=>?_,fun _=>hnext (hm.fr m.1) (by omega) hgood⟩
  refine⟨_,m.ld 0,_,m.ld 0,Mk.push (hm.fr m.1) (a:=((q7a (p.ch[i].pts*(p.budget+1)-p.ch[i].price) p.ch[i].price).n,(q7a (p.ch[i].pts*(p.budget+1)-p.ch[i].price) p.ch[i].price).d)) rfl rfl qlh rfl (by omega) (by omega) fun r w5 hm5 _=>hnext hm5 (by simp; omega) fun x hx=>?_⟩
  rcases List.mem_append.1 hx with hx | hx
  ·exact hgood x hx
  ·rw[List.mem_singleton] at hx
   subst hx
   exact⟨q1,q2,q3,by have:(0:Int)<_:=hpos; exact Int.le_of_lt this⟩
 intro w19; have m:Mem w2 w19 _:=m.drew
 refine⟨fun u=>Rs u _/\Row u _ _,⟨m.sub 0,m.1.row hr2 fun h=>h⟩,⟨_,fun _ h=>h.2.at,⟨_,fun _ h=>h.2.at,⟨_,fun _ h=>h.2.at,⟨_,fun _ h=>h.2.at,⟨_,fun _ h=>h.2.at,⟨_,fun _ h=>h.2.at,⟨_,fun _ h=>h.1.ld 0,⟨_,fun _ h=>h.1.ld 0,⟨_,fun _ h=>h.1.ld 0,⟨_,fun _ h=>h.1.ld 0,⟨_,fun _ h=>h.1.ld 0,⟨?_,?_⟩⟩⟩⟩⟩⟩⟩⟩⟩⟩⟩⟩⟩
 ·refine q81 hp hcm fun w32 hf=>?_; have m:=m.fr hf
  refine⟨⟨m.sub 0,m.1.row hr2 fun h=>h⟩,⟨?_,?_⟩⟩
  ·refine qi4 hnet hpr fun w34 hf=>?_; have m:=m.fr hf
   refine⟨⟨m.sub 0,m.1.row hr2 fun h=>h⟩,?_⟩
   intro w37; have m:Mem w2 w37 _:=m.allocL
   refine⟨⟨m.sub 1,m.1.row hr2 fun h=>h⟩,⟨m.wr 0,?_⟩⟩
   intro w38; have m:Mem w2 w38 _:=m.set 0
   refine⟨m.wr 0,?_⟩
   intro w39; have m:Mem w2 w39 _:=m.set 0
   exact hk1 m
  ·intro w40; have m:Mem w2 w40 _:=m.allocL
   refine⟨⟨m.sub 1,m.1.row hr2 fun h=>h⟩,?_⟩
   refine qi4 hnet hpr fun w41 hf=>?_; have m:=m.fr hf
   refine⟨⟨m.sub 1,m.1.row hr2 fun h=>h⟩,⟨m.wr 0,?_⟩⟩
   intro w44; have m:Mem w2 w44 _:=m.set 0
   refine⟨m.wr 0,?_⟩
   intro w45; have m:Mem w2 w45 _:=m.set 0
   exact hk1 m
 ·intro w46; have m:Mem w2 w46 _:=m.allocL
  refine⟨⟨m.sub 1,m.1.row hr2 fun h=>h⟩,?_⟩
  refine q81 hp hcm fun w47 hf=>?_; have m:=m.fr hf
  refine⟨⟨m.sub 1,m.1.row hr2 fun h=>h⟩,?_⟩
  refine qi4 hnet hpr fun w49 hf=>?_; have m:=m.fr hf
  refine⟨⟨m.sub 1,m.1.row hr2 fun h=>h⟩,⟨m.wr 0,?_⟩⟩
  intro w52; have m:Mem w2 w52 _:=m.set 0
  refine⟨m.wr 0,?_⟩
  intro w53; have m:Mem w2 w53 _:=m.set 0
  exact hk1 m
def FnK (f:Value)(w0:World)(l:List (Int × Int))(g:Int × Int->Int × Bool):Prop :=
 ∀ x∈l,∀ w,Fr F0 w0 w->∀ K:VW,(∀ w',Fr F0 w w'->K (.tuple #[.int .i64 (g x).1,.bool (g x).2]) w')->q2b Tryz.prog f [.agg #[.int .i64 x.1,.int .i64 x.2]] w K
theorem q4s {f:Value}{g:Int × Int->Int × Bool}{l:List (Int × Int)}{K:Int->Int->Int->Bool->World->Prop}(h:VR w s l)(hl:l.length<2^62)(hf:FnK f w l g)
  (hK:∀ w' a b n ok,Fr F0 w w'->(ok=true->∃ x∈l,x=(a,b)/\g x=(n,true))->K a b n ok w'):z2o_sh s f K w:=by
 refine⟨?_⟩
 have el:=h.len
 intro w1
 have m:Mem w w1 [(w.heap.size,[.int .i64 0,.int .i64 0])]:=Mem.nil.alloc
 refine⟨⟨fun n found i w'=>∃ (i':Nat) (a b:Int),i=i'/\i'<=l.length/\Mem w w' [(w.heap.size,[.int .i64 a,.int .i64 b])]/\(found=true->∃ x∈l,x=(a,b)/\g x=(n,true)),fun _ _ i _=>l.length-i.toNat,⟨0,0,0,rfl,by omega,m,fun h=>by cases h⟩,?_⟩⟩
 rintro n found i w2 ⟨i,a,b,rfl,hi,m,hfo⟩
 unfold z2o_b0
 refine q00.2<|⟨fun hlt=>?_,fun hge=>?_⟩
 ·have hlt:i<l.length:=by omega
  have hxm:=J6 hlt
  refine VR.ld (h.fr m.1) i rfl hlt fun ad hc=>?_
  obtain⟨c0,c1⟩:=hc w2 Fr.refl
  refine⟨_,c0,_,c1,?_⟩
  intro w3
  have m:Mem w w3 _:=m.allocL
  refine⟨m.wr 0,?_⟩
  intro w4
  have m:Mem w w4 _:=m.set 0
  refine⟨m.wr 0,?_⟩
  intro w5
  have m:Mem w w5 _:=m.set 0
  refine⟨_,m.ld 0,_,m.ld 0,hf _ hxm w5 m.1 _ fun w6 hf6=>⟨_,_,rfl,?_⟩⟩
  have m:=m.fr hf6
  have hk:(g l[i]).2=true->z2o_k1 f ⟨w.heap.size,0,none⟩ ⟨w2.heap.size,0,none⟩ (g l[i]).1 s (s.l:Int) i (fun (key_1':Value) (best_4':Addr) (n_5':Int) (found_6':Bool) (t_11':Sl) (t_12':Int) (t_13':Int) (w':World)=>((key_1'=f/\best_4'=⟨w.heap.size,0,none⟩/\t_11'=s/\t_12'=(s.l:Int)/\True)/\∃ (i':Nat) (a b:Int),t_13'=i'/\i'<=l.length/\Mem w w' [(w.heap.size,[.int .i64 a,.int .i64 b])]/\(found_6'=true->∃ x∈l,x=(a,b)/\g x=(n_5',true)))/\l.length-t_13'.toNat<l.length-(i:Int).toNat) K w6:=by
   intro hok
   refine⟨⟨_,m.ld 0,_,m.ld 0,m.wr 1,?_⟩⟩
   intro w7
   have m:Mem w w7 _:=m.set 1
   refine⟨m.wr 1,?_⟩
   intro w8
   have m:Mem w w8 _:=m.set 1
   exact⟨q01,⟨⟨rfl,rfl,rfl,rfl,trivial⟩,i+1,_,_,by omega,by omega,m.dr 1,fun _=>⟨_,hxm,rfl,by rw[← hok]⟩⟩,by omega⟩
  have hs:inR .i64 ((i:Int)+1)/\(((f=f/\(⟨w.heap.size,0,none⟩:Addr)=⟨w.heap.size,0,none⟩/\s=s/\(s.l:Int)=(s.l:Int)/\True)/\∃ (i':Nat) (a b:Int),(i:Int)+1=i'/\i'<=l.length/\Mem w w6 [(w.heap.size,[.int .i64 a,.int .i64 b])]/\(found=true->∃ x∈l,x=(a,b)/\g x=(n,true)))/\l.length-((i:Int)+1).toNat<l.length-(i:Int).toNat) :=
   ⟨q01,⟨⟨rfl,rfl,rfl,rfl,trivial⟩,i+1,_,_,by omega,by omega,m.dr 1,hfo⟩,by omega⟩
  refine q02.2<|⟨fun hok=>?_,fun _=>hs⟩
  refine q02.2<|⟨fun _=>hk hok,fun _=>q00.2 ?_⟩
  exact⟨fun _=>hk hok,fun _=>hs⟩
 ·refine⟨_,m.ld 0,_,m.ld 0,m.wr 0,?_⟩
  intro w3
  have m:Mem w w3 _:=m.set 0
  refine⟨m.wr 0,?_⟩
  intro w4
  have m:Mem w w4 _:=m.set 0
  exact⟨_,m.ld 0,_,m.ld 0,hK w4 a b n found m.1 hfo⟩
theorem q7p {k:Nat}{pts bnd left:Int}{K:Sl->World->Prop}(h:PV w s0 s1 s2 p)(hr:Row w sb (schC t pts bnd ns s0 s1 s2 p.most p.budget left))(hk:k<p.lots.length)
  (hK:∀ s' w',Mk w 1 (ie .i64 id) w' s' (opts p p.lots[k])->K s' w'):z0d_sh (some ⟨sb,0,none⟩) k K w:=by
 refine⟨?_⟩
 have l1:=h.l1; have e1:=h.ch.len
 have l0:=h.l0; have e0:=h.lots.len
 intro w1
 have hmk:Mk w 1 (ie .i64 id) w1 ⟨some ⟨w.heap.size,0,none⟩,1,1⟩ [(-1:Int)]:=Mk.new Fr.refl rfl rfl
 refine⟨s1,(hmk.fr0.row hr fun h=>h).at rfl,⟨⟨fun out i w'=>∃ (i':Nat) (l:List Int),i=i'/\i'<=p.ch.length/\Mk w 1 (ie .i64 id) w' out l/\l.length<=i'+1/\l++q0j p.lots[k] i' (p.ch.drop i')=opts p p.lots[k],fun _ i _=>p.ch.length-i.toNat,
  ⟨0,_,rfl,by omega,hmk,by simp,rfl⟩,?_⟩⟩⟩
 rintro out i w2 ⟨i,l,rfl,hi,hm,hll,he⟩
 unfold z0d_b0
 refine q00.2<|⟨fun hlt=>?_,fun hge=>?_⟩
 ·have hlt:i<p.ch.length:=by omega
  rw[J3 hlt,q0j] at he
  refine VC.ld (h.fr hm.fr0).ch i rfl hlt fun a hc=>?_
  obtain⟨c0,c1,c2,c3⟩:=hc w2 Fr.refl
  refine⟨_,c0,_,c1,_,c2,_,c3,q19 rfl Mem.nil fun w3 m=>?_⟩
  intro w4
  have m:Mem w2 w4 [(w2.heap.size,encC p.ch[i])]:=m.drew
  refine⟨_,m.ld 0,?_⟩
  show nz _ _; rw[qgp]
  refine⟨s0,((hm.fr0.t m.1).row hr fun h=>h).at rfl,VI.ld (h.fr (hm.fr0.t m.1)).lots k rfl hk ?_⟩
  refine q09.2<|⟨fun heq=>?_,fun hne=>?_⟩
  ·rw[if_pos heq] at he
   exact Mk.push (hm.fr m.1) (a:=(i:Int)) rfl rfl (q1y _ _) rfl (by omega) (by omega) fun r w5 hm5 _=>⟨q01,⟨⟨rfl,rfl,rfl,rfl,trivial⟩,i+1,_,by omega,by omega,hm5,by simp; omega,by rw[← he]; simp⟩,by dsimp only; omega⟩
  ·rw[if_neg hne] at he
   exact⟨q01,⟨⟨rfl,rfl,rfl,rfl,trivial⟩,i+1,_,by omega,by omega,hm.fr m.1,by omega,he⟩,by dsimp only; omega⟩
 ·have:i=p.ch.length:=by omega
  subst this
  rw[J2 (Nat.le_refl _),q0j,List.append_nil] at he
  subst he
  exact hK out w2 hm
end
open Go Pw
section
variable {w w' w0:World}{s s0 s1 s2 s5 t ns:Sl}{p:Pr}{f T:List Int}{sb db bb zb tb fb:Nat}{a b n:Int}{ok:Bool}{F B:List Value}{K:Int->Int->Bool->World->Prop}
theorem qi6 (h:upB p f a b=some n):I64 a/\I64 b:=by
 unfold upB at h
 split at h
 ·rename_i hc; exact⟨hc.2.1,hc.2.2.1⟩
 ·cases h
theorem q95 {l:List (Nat × List Value)}(m:Mem w0 w (l++[(zb,[.int .i64 0,.int .i64 1]),(tb,[.int .i64 0,.int .i64 0]),(fb,F)]))(hK:∀ w',Fr F0 w0 w'->K 0 1 true w'):z0a_k0 ⟨tb,0,none⟩ ⟨zb,0,none⟩ K w:=by
 refine⟨?_⟩
 have m:=m.dr l.length (J8 ..)
 exact⟨_,m.ld 0,_,m.ld 0,put2 (K:=fun a b w=>K a b true w) m 1 rfl hK⟩
theorem q5w {l:List (Nat × List Value)}(m:Mem w0 w (l++[(zb,[.int .i64 0,.int .i64 1]),(tb,[.int .i64 0,.int .i64 0]),(fb,F)]))(hK:∀ w',Fr F0 w0 w'->K 0 1 false w'):z0a_k3 ⟨tb,0,none⟩ ⟨zb,0,none⟩ K w:=by
 refine⟨?_⟩
 have m:=m.dr l.length (J8 ..)
 exact⟨_,m.ld 0,_,m.ld 0,put2 (K:=fun a b w=>K a b false w) m 1 rfl hK⟩
theorem q96 (m:Mem w0 w [(db,[.int .i64 a,.int .i64 b]),(bb,B),(zb,[.int .i64 0,.int .i64 1]),(tb,[.int .i64 0,.int .i64 0]),(fb,F)])(hK:∀ w',Fr F0 w0 w'->K a b true w'):z0a_k2 ⟨tb,0,none⟩ ⟨db,0,none⟩ K w:=by
 exact⟨⟨_,m.ld 0,_,m.ld 0,put2 (K:=fun a b w=>K a b true w) m 3 rfl hK⟩⟩
theorem q5x {pts bnd left:Int}(hp:q03 p)(h:PF w0 s0 s1 s2 s5 p f)(hr:Row w0 sb (schC t pts bnd ns s0 s1 s2 p.most p.budget left))(hT:PF w0 s0 s1 s2 t p T)(hPT:Perm p T)(hfl:f.length<=T.length)
  (m:Mem w0 w [(db,[.int .i64 a,.int .i64 b]),(bb,pfC s0 s1 s2 p.most p.budget t),(zb,[.int .i64 0,.int .i64 1]),(tb,[.int .i64 0,.int .i64 0]),(fb,pfC s0 s1 s2 p.most p.budget s5)])
  (hn:ok=true->upB p f a b=some n) (hncr:¬qb5 p f) (hle:q0i p f<=p.budget)
  (hK:∀ w' a b ok,Fr F0 w0 w'->(I64 a/\I64 b)->(ok=true->q5g (upB p) p f a b T)->(ok=false->¬qb5 p f/\q0i p f<=p.budget)->K a b ok w') :
  z0a_k1 (some ⟨sb,0,none⟩) ⟨fb,0,none⟩ ⟨tb,0,none⟩ ⟨zb,0,none⟩ ⟨bb,0,none⟩ ⟨db,0,none⟩ n ok K w:=by
 refine⟨?_⟩
 have e5:=h.tk.len
 have hcl:ok=true->(n<q14 p T\/n=q14 p T/\gtL f T=true)->q5g (upB p) p f a b T:=fun hok hc=>.inr (.inr (.inr ⟨n,hn hok,hc⟩))
 refine⟨_,m.ld 1,⟨_,m.ld 1,⟨_,m.ld 1,⟨_,m.ld 1,⟨_,m.ld 1,⟨_,m.ld 1,?_⟩⟩⟩⟩⟩⟩
 refine q79 hp (hT.fr m.1) hPT.2.1 fun w91 hf=>?_; have m:=m.fr hf
 refine q6e ?_; skip
 intro w95; have m:Mem w0 w95 _:=m.drew
 refine⟨fun u=>Rs u _/\Row u _ _,⟨m.sub 0,m.1.row hr fun h=>h⟩,?_⟩
 refine q02.2 ?_; refine⟨fun hok=>?_,fun hok=>?_⟩
 ·refine q00.2 ⟨fun hc2=>?_,fun hc2=>?_⟩
  ·exact q96 m fun w' hf=>hK w' _ _ true hf (qi6 (hn hok)) (fun _=>hcl hok (.inl (by unfold cmpI at hc2; split at hc2; assumption; split at hc2<;>omega))) (fun h=>by cases h)
  ·refine q09.2 ⟨fun hc3=>?_,fun hc3=>?_⟩
   ·refine⟨_,fun _ h=>h.1.ld 4,q0b.2 ⟨_,rfl,⟨_,fun _ h=>h.2.at,⟨_,fun _ h=>h.1.ld 4,⟨⟨by omega,by omega,by have:=hT.tk.cap; have:=hT.tk.len; have:=e5; omega⟩,?_⟩⟩⟩⟩⟩
    simp only[Int.toNat_natCast,e5]; refine q30 (h.fr m.1).tk (Vw.take (hT.tk.fr m.1) (fun a=>q05 _ _ a) hfl) h.lt (by rw[J7]; have:=hT.lt; omega) ?_; skip
    refine⟨⟨m.sub 0,m.1.row hr fun h=>h⟩,q00.2 ⟨fun hc4=>?_,fun hc4=>?_⟩⟩
    ·exact q96 m fun w' hf=>hK w' _ _ true hf (qi6 (hn hok)) (fun _=>hcl hok (.inr ⟨by unfold cmpI at hc3; split at hc3; omega; split at hc3<;>omega,by rw[← qb7]; exact(q6q _ _ (by rw[J7]; omega)).1 hc4⟩)) (fun h=>by cases h)
    ·exact q5w (l:=[_,_]) m fun w' hf=>hK w' 0 1 false hf ⟨⟨by decide,by decide⟩,by decide,by decide⟩ (fun h=>by cases h) fun _=>⟨hncr,hle⟩
   ·exact q5w (l:=[_,_]) m fun w' hf=>hK w' 0 1 false hf ⟨⟨by decide,by decide⟩,by decide,by decide⟩ (fun h=>by cases h) fun _=>⟨hncr,hle⟩
 ·exact q5w (l:=[_,_]) m fun w' hf=>hK w' 0 1 false hf ⟨⟨by decide,by decide⟩,by decide,by decide⟩ (fun h=>by cases h) fun _=>⟨hncr,hle⟩
theorem qbm {pts bnd left:Int}(hp:q03 p)(h:PF w s0 s1 s2 s5 p f)(hd:Decs p p.lots f)(hr:Row w sb (schC t pts bnd ns s0 s1 s2 p.most p.budget left))(hT:PF w s0 s1 s2 t p T)(hPT:Perm p T)
  (hK:∀ w' a b ok,Fr F0 w w'->(I64 a/\I64 b)->(ok=true->q5g (upB p) p f a b T)->(ok=false->¬qb5 p f/\q0i p f<=p.budget)->K a b ok w') :
  z0a_sh (some ⟨sb,0,none⟩) s0 s1 s2 p.most p.budget s5 K w:=by
 refine⟨?_⟩
 unfold z0a_sd
 have hfl:f.length<=T.length:=by rw[hPT.1]; exact q1n hd
 have hkey:∀ {u:World} {l:List (Int × Int)},Fr F0 w u->(∀ x∈l,Mul0 x)->FnK (.func (.func (idOf z0o_ok)) #[.agg #[.slice s0.p s0.l s0.c,.slice s1.p s1.l s1.c,.slice s2.p s2.l s2.c,.int .i64 p.most,.int .i64 p.budget,.slice s5.p s5.l s5.c]] #[]) u l (fun x=>(q1w (q0c p f x).n (q0c p f x).d,(q0c p f x).ok)) :=
  fun {u l} hu hg x hx u2 hu2 K' hK'=>q18 z0o_ok (qg8 hp (h.fr (hu.t hu2)) hd (hg x hx).2.1 (hg x hx).2.2.1 fun u3 hu3=>hK' u3 hu3)
 have hup:∀ {l:List (Int × Int)} {a b n:Int} {ok:Bool},(∀ x∈l,Mul0 x)->(ok=true->∃ x∈l,x=(a,b)/\(fun x:Int × Int=>(q1w (q0c p f x).n (q0c p f x).d,(q0c p f x).ok)) x=(n,true))->ok=true->upB p f a b=some n:=by
  intro l a b n ok hg hfo hok
  obtain⟨x,hx,rfl,hgx⟩:=hfo hok
  obtain⟨g1,g2,g3,g4⟩:=hg _ hx
  simp only[Prod.mk.injEq] at hgx
  unfold upB
  rw[if_pos ⟨g1,g2,g3,g4⟩,if_pos hgx.2,hgx.1]
 have m:Mem w w []:=Mem.nil
 intro w1; have m:Mem w w1 _:=m.allocL; (try have hmk:Mk _ 2 encR w1 _ _:=hmk.fr (show Fr F0 w w1 from Fr.alloc))
 intro w2; have m:Mem w w2 _:=m.allocL; (try have hmk:Mk _ 2 encR w2 _ _:=hmk.fr (show Fr F0 w1 w2 from Fr.alloc))
 refine q0l fun w3 hf=>?_; have m:=m.fr hf
 intro w5; have m:Mem w w5 _:=m.allocL; (try have hmk:Mk _ 2 encR w5 _ _:=hmk.fr (show Fr F0 w3 w5 from Fr.alloc))
 refine⟨m.wr 0,?_⟩
 intro w6; have m:Mem w w6 _:=m.set 0
 refine⟨m.wr 0,?_⟩
 intro w7; have m:Mem w w7 _:=m.set 0
 intro w8; have m:Mem w w8 _:=m.drew; clear_value w8
 refine⟨fun u=>Rs u _/\Row u _ _,⟨m.sub 0,m.1.row hr fun h=>h⟩,⟨_,fun _ h=>h.1.ld 2,⟨_,fun _ h=>h.1.ld 2,⟨_,fun _ h=>h.1.ld 2,⟨_,fun _ h=>h.1.ld 2,⟨_,fun _ h=>h.1.ld 2,⟨_,fun _ h=>h.1.ld 2,?_⟩⟩⟩⟩⟩⟩⟩
 refine qct hp (h.fr m.1) hd fun w16 hf=>?_; have m:=m.fr hf
 refine⟨⟨m.sub 0,m.1.row hr fun h=>h⟩,?_⟩
 refine q02.2 ?_; refine⟨fun hcr=>?_,fun hcr=>?_⟩
 ·exact q95 (l:=[]) m fun w' hf=>hK w' 0 1 true hf ⟨⟨by decide,by decide⟩,by decide,by decide⟩ (fun _=>.inl (q12.1 hcr)) (fun h=>by cases h)
 ·refine⟨_,fun _ h=>h.1.ld 2,⟨_,fun _ h=>h.1.ld 2,⟨_,fun _ h=>h.1.ld 2,⟨_,fun _ h=>h.1.ld 2,⟨_,fun _ h=>h.1.ld 2,⟨_,fun _ h=>h.1.ld 2,q0b.2 ⟨_,rfl,⟨_,fun _ h=>h.2.at,?_⟩⟩⟩⟩⟩⟩⟩⟩
  refine qad hp (h.fr m.1) hd fun w26 hf=>?_; have m:=m.fr hf
  refine⟨⟨m.sub 0,m.1.row hr fun h=>h⟩,?_⟩
  refine q00.2 ?_; refine⟨fun hle=>?_,fun hle=>?_⟩
  ·exact q95 (l:=[]) m fun w' hf=>hK w' 0 1 true hf ⟨⟨by decide,by decide⟩,by decide,by decide⟩ (fun _=>.inr (.inl (by omega))) (fun h=>by cases h)
  ·intro w34; have m:Mem w w34 _:=m.drew; clear_value w34
   refine⟨fun u=>Rs u _/\Row u _ _,⟨m.sub 0,m.1.row hr fun h=>h⟩,q0b.2 ⟨_,rfl,⟨_,fun _ h=>h.2.at,⟨_,fun _ h=>h.2.at,⟨_,fun _ h=>h.2.at,⟨_,fun _ h=>h.2.at,⟨_,fun _ h=>h.2.at,q0b.2 ⟨_,rfl,⟨_,fun _ h=>h.2.at,?_⟩⟩⟩⟩⟩⟩⟩⟩⟩
   intro w44; have m:Mem w w44 _:=m.allocL; (try have hmk:Mk _ 2 encR w44 _ _:=hmk.fr (show Fr F0 w34 w44 from Fr.alloc)); clear_value w44
   refine⟨⟨m.sub 1,m.1.row hr fun h=>h⟩,?_⟩
   refine q22 m 0 rfl rfl fun w45 m=>?_; skip
   intro w46; have m:Mem w w46 _:=m.drew; clear_value w46
   refine⟨fun u=>Rs u _/\Row u _ _,⟨m.sub 0,m.1.row hr fun h=>h⟩,⟨_,fun _ h=>h.1.ld 3,⟨_,fun _ h=>h.1.ld 3,⟨_,fun _ h=>h.1.ld 3,⟨_,fun _ h=>h.1.ld 3,⟨_,fun _ h=>h.1.ld 3,⟨_,fun _ h=>h.1.ld 3,⟨_,fun _ h=>h.1.ld 3,⟨_,fun _ h=>h.1.ld 3,⟨_,fun _ h=>h.1.ld 3,⟨_,fun _ h=>h.1.ld 3,⟨_,fun _ h=>h.1.ld 3,⟨_,fun _ h=>h.1.ld 3,⟨?_,?_⟩⟩⟩⟩⟩⟩⟩⟩⟩⟩⟩⟩⟩⟩
   ·refine qaf hp (h.fr m.1) fun ds w60 l hmk hll hgood=>?_; have m:=m.fr hmk.fr0
    refine⟨⟨m.sub 0,m.1.row hr fun h=>h⟩,⟨?_,?_⟩⟩
    ·refine q4s (g:=fun x=>(q1w (q0c p f x).n (q0c p f x).d,(q0c p f x).ok)) hmk.vw (by omega) (hkey m.1 hgood) fun w62 a b n ok hf hfo=>?_; have m:=m.fr hf
     refine⟨⟨m.sub 0,m.1.row hr fun h=>h⟩,?_⟩
     intro w66; have m:Mem w w66 _:=m.allocL; (try have hmk:Mk _ 2 encR w66 _ _:=hmk.fr (show Fr F0 w62 w66 from Fr.alloc)); clear_value w66
     refine⟨⟨m.sub 1,m.1.row hr fun h=>h⟩,⟨m.wr 0,?_⟩⟩
     intro w67; have m:Mem w w67 _:=m.set 0; clear_value w67; simp only[J0] at m
     refine⟨m.wr 0,?_⟩
     intro w68; have m:Mem w w68 _:=m.set 0; clear_value w68; simp only[J0,J1] at m
     exact q5x hp h hr hT hPT hfl m (hup hgood hfo) (fun hcw=>by rw[q12.2 hcw] at hcr; cases hcr) (by omega) hK
    ·intro w69; have m:Mem w w69 _:=m.allocL; (try have hmk:Mk _ 2 encR w69 _ _:=hmk.fr (show Fr F0 w60 w69 from Fr.alloc)); clear_value w69
     refine⟨⟨m.sub 1,m.1.row hr fun h=>h⟩,?_⟩
     refine q4s (g:=fun x=>(q1w (q0c p f x).n (q0c p f x).d,(q0c p f x).ok)) hmk.vw (by omega) (hkey m.1 hgood) fun w70 a b n ok hf hfo=>?_; have m:=m.fr hf
     refine⟨⟨m.sub 1,m.1.row hr fun h=>h⟩,⟨m.wr 0,?_⟩⟩
     intro w74; have m:Mem w w74 _:=m.set 0
     refine⟨m.wr 0,?_⟩
     intro w75; have m:Mem w w75 _:=m.set 0
     exact q5x hp h hr hT hPT hfl m (hup hgood hfo) (fun hcw=>by rw[q12.2 hcw] at hcr; cases hcr) (by omega) hK
   ·intro w76; have m:Mem w w76 _:=m.allocL
    refine⟨⟨m.sub 1,m.1.row hr fun h=>h⟩,?_⟩
    refine qaf hp (h.fr m.1) fun ds w77 l hmk hll hgood=>?_; have m:=m.fr hmk.fr0
    refine⟨⟨m.sub 1,m.1.row hr fun h=>h⟩,?_⟩
    refine q4s (g:=fun x=>(q1w (q0c p f x).n (q0c p f x).d,(q0c p f x).ok)) hmk.vw (by omega) (hkey m.1 hgood) fun w79 a b n ok hf hfo=>?_; have m:=m.fr hf
    refine⟨⟨m.sub 1,m.1.row hr fun h=>h⟩,⟨m.wr 0,?_⟩⟩
    intro w83; have m:Mem w w83 _:=m.set 0
    refine⟨m.wr 0,?_⟩
    intro w84; have m:Mem w w84 _:=m.set 0
    exact q5x hp h hr hT hPT hfl m (hup hgood hfo) (fun hcw=>by rw[q12.2 hcw] at hcr; cases hcr) (by omega) hK
end
end Go.Proofs.YtfpobpjandjhjaaGreatDoor
namespace Pw
def q5y (p:Pr)(ri fi:Bool)(f:List Int):Int:=if ri && fi then q1r p f else 0
end Pw
namespace Go.Proofs.YtfpobpjandjhjaaGreatDoor
open Go Pw
def q2m (p:Pr)(a b:List Int):Bool:=q0g p && (q21 p a && (!q21 p b || btB p a b))
end Go.Proofs.YtfpobpjandjhjaaGreatDoor
