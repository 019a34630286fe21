/- Natural numbers as digits to the base 65536, the least significant one first: plain laws. Conditions: none. -/
import Derived.Test.YtfpobpjandjhjaaGreatDoorPwS
open List renaming drop_eq_getElem_cons->J0,getD_eq_getElem?_getD->J1,mem_replicate->J2,length_cons->J3,length_take->J4,replicate->J5
namespace Pw
open Go
def Dg (l:List Nat):Prop:=∀ x∈l,x<65536
def vl:List Nat->Nat
 | []=>0
 | d :: l=>d+65536*vl l
theorem q3w:∀ (l m:List Nat),vl (l++m)=vl l+65536^l.length*vl m
 | [],m=>by simp[vl]
 | d :: l,m=>by
  simp only[List.cons_append,vl,q3w l m,J3,Nat.pow_succ]
  rw[Nat.mul_add,Nat.mul_comm (65536^l.length) 65536,Nat.mul_assoc,Nat.add_assoc]
theorem qgd:∀ {l:List Nat},Dg l->vl l<65536^l.length
 | [],_=>by simp[vl]
 | d :: l,h=>by
  have ih:=qgd (l:=l) fun x hx=>h x (by simp[hx])
  have h1:=h d (by simp)
  simp only[vl,J3,Nat.pow_succ]
  omega
theorem q59 (l:List Nat)(i:Nat)(hi:i<=l.length):vl l=vl (l.take i)+65536^i*vl (l.drop i):=by
 conv=>lhs; rw[← List.take_append_drop i l,q3w]
 rw[J4,Nat.min_eq_left hi]
theorem q1k (l:List Nat)(i:Nat)(hi:i<l.length):vl (l.take (i+1))=vl (l.take i)+65536^i*l.getD i 0:=by
 rw[List.take_add_one,List.getElem?_eq_getElem hi,q3w]
 simp[vl,J1,hi,Nat.min_eq_left (Nat.le_of_lt hi)]
theorem q9b (l:List Nat)(i:Nat)(hi:i<l.length):vl (l.drop i)=l.getD i 0+65536*vl (l.drop (i+1)):=by
 rw[J0 hi,vl]
 simp[hi]
theorem q0q (l:List Nat)(i:Nat)(hi:l.length<=i):vl (l.take i)=vl l:=by rw[List.take_of_length_le hi]
theorem qia:∀ (l:List Nat) (i v:Nat),i<l.length->vl (l.set i v)+65536^i*l.getD i 0=vl l+65536^i*v
 | [],i,v,h=>by simp at h
 | d :: l,0,v,_=>by simp[vl]; omega
 | d :: l,i+1,v,h=>by
  have ih:=qia l i v (by simpa using h)
  have e:∀ a b:Nat,65536^a*65536*b=65536*(65536^a*b):=fun a b=>by rw[Nat.mul_comm (65536^a) 65536,Nat.mul_assoc]
  simp only[List.set_cons_succ,vl,Nat.pow_succ,List.getD_cons_succ,e]
  omega
theorem qib:∀ {l:List Nat},(∀ x∈l,x=0)->vl l=0
 | [],_=>rfl
 | d :: l,h=>by simp[vl,h d (by simp),qib (l:=l) fun _ hx=>h _ (by simp[hx])]
theorem qcw (n:Nat):vl (J5 n 0)=0:=qib fun _ hx=>(J2.1 hx).2
theorem Dg.nil:Dg []:=fun _ hx=>by cases hx
theorem Dg.push {l:List Nat}{d:Nat}(h:Dg l)(hd:d<65536):Dg (l++[d]):=by
 intro x hx
 rcases List.mem_append.1 hx with hx | hx
 ·exact h x hx
 ·simp at hx; subst hx; exact hd
theorem Dg.cons {l:List Nat}{d:Nat}(h:Dg l)(hd:d<65536):Dg (d :: l):=by
 intro x hx
 rcases List.mem_cons.1 hx with rfl | hx
 ·exact hd
 ·exact h x hx
theorem Dg.take {l:List Nat}(h:Dg l)(i:Nat):Dg (l.take i):=fun x hx=>h x (List.mem_of_mem_take hx)
theorem Dg.set {l:List Nat}(h:Dg l)(i:Nat){v:Nat}(hv:v<65536):Dg (l.set i v):=fun x hx=>by
 rcases List.mem_or_eq_of_mem_set hx with hx | rfl
 ·exact h x hx
 ·exact hv
theorem Dg.getD {l:List Nat}(h:Dg l)(i:Nat):l.getD i 0<65536:=by
 rw[J1]
 cases hi:l[i]? with
 | none=>simp
 | some x=>simp; exact h x (List.mem_of_getElem? hi)
theorem Dg.replicate (n:Nat):Dg (J5 n 0):=fun x hx=>by rw[(J2.1 hx).2]; decide
def Tr (l:List Nat):Prop:=l.length=0\/l.getD (l.length-1) 0≠0
theorem Tr.le {l:List Nat}(h:Tr l)(hl:0<l.length):65536^(l.length-1)<=vl l:=by
 have h1:l.getD (l.length-1) 0≠0:=by
  rcases h with h | h
  ·omega
  ·exact h
 have h2:=q1k l (l.length-1) (by omega)
 rw[q0q _ _ (by omega)] at h2
 have h3:65536^(l.length-1)*1<=65536^(l.length-1)*l.getD (l.length-1) 0:=Nat.mul_le_mul_left _ (by omega)
 omega
theorem Tr.zero {l:List Nat}(h:Tr l):vl l=0 ↔ l.length=0:=by
 constructor
 ·intro h0
  rcases Nat.eq_zero_or_pos l.length with hl | hl
  ·exact hl
  ·have:=h.le hl
   have:0<65536^(l.length-1):=Nat.pow_pos (by decide)
   omega
 ·intro h0
  rw[List.eq_nil_of_length_eq_zero h0]; rfl
theorem Tr.short {l:List Nat}(h:Tr l){k:Nat}(hk:vl l<65536^k):l.length<=k:=by
 rcases Nat.lt_or_ge k l.length with hl | hl
 ·have h1:=h.le (by omega)
  have:65536^k<=65536^(l.length-1):=Nat.pow_le_pow_right (by decide) (by omega)
  omega
 ·exact hl
theorem q4u {a b:List Nat}(ha:Dg a)(hb:Tr b)(h:a.length<b.length):vl a<vl b:=by
 have h1:=qgd ha
 have h2:=hb.le (by omega)
 have:65536^a.length<=65536^(b.length-1):=Nat.pow_le_pow_right (by decide) (by omega)
 omega
theorem qfa {a b:List Nat}{i:Nat}(ha:Dg a)(hi:i<a.length)(hib:i<b.length)(hd:a.drop (i+1)=b.drop (i+1))(h:a.getD i 0<b.getD i 0):vl a<vl b:=by
 rw[q59 a i (by omega),q59 b i (by omega),q9b a i hi,q9b b i hib,hd]
 have h1:=qgd (ha.take i)
 rw[J4,Nat.min_eq_left (by omega)] at h1
 have h2:65536^i*(a.getD i 0+65536*vl (b.drop (i+1))+1)<=65536^i*(b.getD i 0+65536*vl (b.drop (i+1))):=Nat.mul_le_mul_left _ (by omega)
 rw[Nat.mul_add] at h2
 omega
theorem qge {a b:List Nat}{i:Nat}(hi:i<a.length)(hib:i<b.length)(hd:a.drop (i+1)=b.drop (i+1))(h:a.getD i 0=b.getD i 0):a.drop i=b.drop i:=by
 rw[J0 hi,J0 hib,hd]
 simp[hi,hib] at h
 rw[h]
theorem q0t {n:Int}(h:-9223372036854775808<=n/\n<9223372036854775808):n.natAbs<65536^4:=by
 have:(65536:Nat)^4=18446744073709551616:=by decide
 omega
end Pw
