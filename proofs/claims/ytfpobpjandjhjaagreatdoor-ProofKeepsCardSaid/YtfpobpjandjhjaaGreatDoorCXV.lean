/- The reference's bound of a prefix. Conditions: none. -/
import Derived.Test.YtfpobpjandjhjaaGreatDoorCG5
import Derived.Test.YtfpobpjandjhjaaGreatDoorCXZ
import Derived.Test.YtfpobpjandjhjaaGreatDoorRXV
import Derived.Test.YtfpobpjandjhjaaGreatDoorCXY
namespace Go.Proofs.YtfpobpjandjhjaaGreatDoor
open Go Pw
theorem mulQ_one {n d:Int}(h:rightP n d)(hn:I64 n)(hd:I64 d):mulQ 1 1 n d=⟨n,d,true⟩:=by
 unfold mulQ
 rw[if_pos ⟨rightP_int 1,h⟩,val_int,show((1:Int):Rat)*val n d=val n d by grind]
 unfold fitQ
 have e1:=val_num h
 have e2:=val_den h
 unfold I64 at hn hd
 rw[if_pos (by omega),e1,e2]
def upR (p:Pr)(f:List Int)(a b:Int):Int × Bool:=match (if rightB p && decsB p p.lots f then upB p f a b else none) with
 | some n=>(n,true)
 | none=>(0,false)
open Go Pw
section
variable {w wB:World}{s t s0 s1 s2 s5 t5:Sl}{a b l f g:List Int}{p:Pr}{pb:Nat}
theorem dec_lt {i:Nat}(hd:Decs p p.lots f)(hi:i<f.length)(h0:0<=f[i]):f[i].toNat<p.ch.length:=by
 obtain⟨_,q⟩:=decs_at hd hi
 rcases q with q | ⟨c,q,_⟩
 ·omega
 ·obtain⟨_,q2,_⟩:=chAt_some q; exact q2
theorem perm_fits {p:Pr}{f:List Int}(h:permB p f=true):fitsB p f=true:=(Bool.and_eq_true_iff.1 h).1
end
open Go Pw
def boundB (p:Pr)(f:List Int)(a b:Int)(T:List Int):Bool:=(upR p f a b).2 && (decide ((upR p f a b).1<worth p T) || (decide ((upR p f a b).1=worth p T) && gtL f T))
def closedB (p:Pr)(f:List Int)(a b:Int)(T:List Int):Bool:=crowdB p f || (decide (p.budget<leastOf p f) || ((decide (f.length=p.lots.length) && !betterR p f T) || boundB p f a b T))
end Go.Proofs.YtfpobpjandjhjaaGreatDoor

namespace Go.Proofs.YtfpobpjandjhjaaGreatDoor
open Go Pw
def NdV (w:World)(c:NdC)(n:Nd):Prop:=(c.lot=n.lot/\c.num=n.num/\c.den=n.den)/\VI w c.nx n.next/\I64 n.num/\I64 n.den
structure NV (w:World)(s:Sl)(N:List Nd):Prop where
 nds:∃ cs:List NdC,Vw 4 encN w s cs/\cs.length=N.length/\∀ (i:Nat) c n,cs[i]?=some c->N[i]?=some n->NdV w c n
 lt:N.length<2^47
theorem NV.fr {w w':World}{s:Sl}{N:List Nd}(h:NV w s N)(hf:Fr F0 w w'):NV w' s N:=by
 obtain⟨⟨cs,h1,h2,h3⟩,h4⟩:=h
 exact⟨⟨cs,h1.fr hf,h2,fun i c n hc hn=>⟨(h3 i c n hc hn).1,(h3 i c n hc hn).2.1.fr hf,(h3 i c n hc hn).2.2⟩⟩,h4⟩
theorem NV.len {w:World}{s:Sl}{N:List Nd}(h:NV w s N):s.l=N.length:=by
 obtain⟨⟨cs,h1,h2,_⟩,_⟩:=h
 rw[h1.len,h2]
def be:Bool->List Value:=fun b=>[.bool b]
@[simp] theorem be_length (b:Bool):(be b).length=1:=rfl
def kidsB (W:List Int->Int->List Bool->Bool × List Bool)(n:Int)(f:List Int):List Int->List Int->List Bool->Bool × List Bool
 | o :: os,k :: ks,seen=>if k<=n then (false,seen) else
   if (W (f++[o]) k seen).1 then kidsB W n f os ks (W (f++[o]) k seen).2 else (false,(W (f++[o]) k seen).2)
 | _,_,seen=>(true,seen)
def walkB (p:Pr)(N:List Nd)(T:List Int):List Int->List Int->Int->List Bool->Bool × List Bool
 | ls,f,n,seen=>match (if 0<=n then N[n.toNat]? else none) with
  | none=>(false,seen)
  | some x=>if seen.getD n.toNat true then (false,seen) else
   if x.next=[] then (closedB p f x.num x.den T,seen.set n.toNat true) else
   match ls with
   | []=>(false,seen.set n.toNat true)
   | lot :: ls=>if x.lot≠f.length\/x.next.length≠(opts p lot).length then (false,seen.set n.toNat true)
    else kidsB (walkB p N T ls) n f (opts p lot) x.next (seen.set n.toNat true)
end Go.Proofs.YtfpobpjandjhjaaGreatDoor
namespace Pw
open Go
theorem Fr.any {F:Nat->Prop}{w w':World}(h:Fr F0 w w'):Fr F w w':=⟨h.1,fun b hb _=>h.2.1 b hb fun h=>h,h.2.2⟩
theorem Fr.comp {F:Nat->Prop}{w w' w2:World}(h:Fr F w w')(h':Fr F w' w2):Fr F w w2:=h.trans h' fun _ hb _=>hb
end Pw
namespace Go.Proofs.YtfpobpjandjhjaaGreatDoor
open Go Pw
section
variable {w w' w0:World}{s:Sl}{l:List Bool}{N:List Nd}
theorem NV.ld {i:Int}{K:Addr->Prop}(h:NV w0 s N)(hf:Fr F0 w0 w)(i':Nat)(hi:i=(i':Int))(h1:i'<N.length)
  (hK:∀ (a:Addr) (nx:Sl),VI w0 nx N[i'].next->(w.cell? (a.add (i.toNat*4))=some (.int .i64 N[i'].lot)/\w.cell? ((a.add (i.toNat*4)).add 1)=some (.int .i64 N[i'].num)/\w.cell? ((a.add (i.toNat*4)).add 2)=some (.int .i64 N[i'].den)/\w.cell? ((a.add (i.toNat*4)).add 3)=some (.slice nx.p nx.l nx.c))->K a) :
  nz s.p fun a=>(0<=i/\i<(s.l:Nat))/\K a:=by
 subst hi
 have hl:=h.len
 obtain⟨⟨cs,hv,hcl,hn⟩,_⟩:=h
 have h2:i'<cs.length:=by omega
 obtain⟨⟨e1,e2,e3⟩,hx,_⟩:=hn i' _ _ (List.getElem?_eq_getElem h2) (List.getElem?_eq_getElem h1)
 obtain⟨ad,hp,hc⟩:=(hv.fr hf).at (fun a=>encN_length a) (List.getElem?_eq_getElem h2) (by decide)
 rw[hp]
 refine⟨⟨by omega,by omega⟩,hK _ cs[i'].nx hx ⟨?_,?_,?_,?_⟩⟩
 ·rw[← e1]; exact hc 0 _ rfl
 ·rw[← e2]; exact hc 1 _ rfl
 ·rw[← e3]; exact hc 2 _ rfl
 ·exact hc 3 _ rfl
theorem NV.i64 (h:NV w s N){x:Nd}(hx:x∈N):I64 x.num/\I64 x.den:=by
 obtain⟨⟨cs,hv,hcl,hn⟩,_⟩:=h
 obtain⟨i,hi,rfl⟩:=List.mem_iff_getElem.1 hx
 obtain⟨_,_,h2,h3⟩:=hn i _ _ (List.getElem?_eq_getElem (by omega)) (List.getElem?_eq_getElem hi)
 exact⟨h2,h3⟩
theorem kidsB_len {W:List Int->Int->List Bool->Bool × List Bool}{n:Int}{f:List Int}{c:Nat}(hW:∀ g k seen,seen.length=c->(W g k seen).2.length=c):∀ (os ks:List Int) (seen:List Bool),seen.length=c->(kidsB W n f os ks seen).2.length=c
 | [],[],_,h=>h
 | [],_ :: _,_,h=>h
 | _ :: _,[],_,h=>h
 | o :: os,k :: ks,seen,h=>by
  unfold kidsB
  split
  ·exact h
  ·split
   ·exact kidsB_len hW os ks _ (hW _ _ _ h)
   ·exact hW _ _ _ h
theorem walkB_len {p:Pr}{T:List Int}{c:Nat}:∀ (ls f:List Int) (n:Int) (seen:List Bool),seen.length=c->(walkB p N T ls f n seen).2.length=c:=by
 intro ls
 induction ls with
 | nil =>
  intro f n seen h
  unfold walkB
  split
  ·exact h
  ·split
   ·exact h
   ·split<;>simpa using h
 | cons lot ls ih =>
  intro f n seen h
  unfold walkB
  split
  ·exact h
  ·split
   ·exact h
   ·split
    ·simpa using h
    ·simp only
     split
     ·simpa using h
     ·exact kidsB_len ih _ _ _ (by simpa using h)
end
section
variable {w w' w0:World}{s0 s1 s2 t5 ns:Sl}{p:Pr}{T:List Int}{N:List Nd}{pts bnd:Int}
abbrev rsC (t5:Sl)(pts bnd:Int)(ns:Sl):List Value:=[.slice t5.p t5.l t5.c,.int .i64 pts,.int .i64 bnd,.slice ns.p ns.l ns.c]
theorem decs_snoc {p:Pr}:∀ {ds ls f:List Int} {lot o:Int},Decs p (ds++lot :: ls) f->f.length=ds.length->Dec p lot o->Decs p (ds++lot :: ls) (f++[o])
 | [],ls,[],lot,o,_,_,ho=>⟨ho,by cases ls<;>trivial⟩
 | [],_,_ :: _,_,_,_,h,_=>by simp at h
 | _ :: _,_,[],_,_,_,h,_=>by simp at h
 | d :: ds,ls,x :: f,lot,o,h,hl,ho=>⟨h.1,decs_snoc h.2 (by simpa using hl) ho⟩
end
open Go Pw
def proofB (p:Pr)(N:List Nd)(T:List Int):Bool:=(rightB p && permB p T) && ((walkB p N T p.lots [] 0 (List.replicate N.length false)).1 && (walkB p N T p.lots [] 0 (List.replicate N.length false)).2.all id)
end Go.Proofs.YtfpobpjandjhjaaGreatDoor
