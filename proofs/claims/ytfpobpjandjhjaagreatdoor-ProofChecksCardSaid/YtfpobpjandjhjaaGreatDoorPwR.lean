/- Rational numbers in lowest terms, as the code reckons them: plain laws. Conditions: none. -/
import Derived.Test.YtfpobpjandjhjaaGreatDoorPWX
open Nat renaming div_add_mod->J0,mul_comm->J1,div_div_eq_div_mul->J2,gcd_comm->J3,gcd->J4,mul_le_mul_left->J5,div_mul_cancel->J6,mul_add->J7,mod_lt->J8,mul_add_div->J9,mul_add_mod->Ja
namespace Pw
open Go
structure RR where
 n:Int
 d:Int
 ok:Bool
deriving DecidableEq
def zr:RR:=⟨0,1,false⟩
def fitQ (q:Rat):RR:=if -9223372036854775808<=q.num/\q.num<9223372036854775808/\q.den<9223372036854775808 then ⟨q.num,q.den,true⟩ else zr
def ratI (neg:Bool)(n d:Nat):RR:=if d<9223372036854775808/\(n<9223372036854775808\/n=9223372036854775808/\neg=true) then ⟨if neg then -(n:Int) else n,d,true⟩ else zr
def sgn (neg:Bool)(n:Nat):Int:=if neg then -(n:Int) else n
theorem qa2 (neg:Bool)(n:Nat):(sgn neg n).natAbs=n:=by
 cases neg<;>simp[sgn]
theorem qeo (neg:Bool)(n d:Nat)(hd:d≠0)(hc:Nat.Coprime n d):ratI neg n d=fitQ (mkRat (sgn neg n) d):=by
 have h1:(mkRat (sgn neg n) d).num=sgn neg n:=by
  rw[Rat.num_mkRat,if_neg hd,qa2,J3,hc]
  simp
 have h2:(mkRat (sgn neg n) d).den=d:=by
  rw[Rat.den_mkRat,if_neg hd,qa2,J3,hc]
  simp
 have hz:n=0->d=1:=by
  rintro rfl
  simpa using hc
 cases neg
 ·have h1:(mkRat (sgn false n) d).num=(n:Int):=h1
  unfold fitQ ratI
  rw[h1,h2]
  simp only[Bool.false_eq_true,and_false,or_false,if_false]
  by_cases h:d<9223372036854775808/\n<9223372036854775808
  ·rw[if_pos h,if_pos ⟨by omega,by omega,h.1⟩]
  ·rw[if_neg h,if_neg]
   rintro⟨_,h2,h3⟩
   exact h ⟨h3,by omega⟩
 ·have h1:(mkRat (sgn true n) d).num=-(n:Int):=h1
  unfold fitQ ratI
  rw[h1,h2]
  simp only[and_true,if_true]
  by_cases h:d<9223372036854775808/\n<=9223372036854775808
  ·rw[if_pos ⟨h.1,by omega⟩,if_pos ⟨by omega,by omega,h.1⟩]
  ·rw[if_neg,if_neg]
   ·rintro⟨h1,h2,h3⟩
    exact h ⟨h3,by omega⟩
   ·rintro⟨h1,h2⟩
    exact h ⟨h1,by omega⟩
theorem q53 (neg:Bool)(n d:Nat)(hd:d≠0):ratI neg (n / J4 n d) (d / J4 n d)=fitQ (mkRat (sgn neg n) d):=by
 have hg:0<J4 n d:=Nat.gcd_pos_of_pos_right n (by omega)
 have hd':d / J4 n d≠0:=by
  have:=Nat.div_pos (Nat.gcd_le_right n (by omega:0<d)) hg
  omega
 rw[qeo neg _ _ hd' (Nat.coprime_div_gcd_div_gcd hg)]
 congr 1
 have e:sgn neg n=sgn neg (n / J4 n d)*(J4 n d:Nat):=by
  have:=J6 (Nat.gcd_dvd_left n d)
  cases neg
  ·simp only[sgn]
   simp
   exact_mod_cast this.symm
  ·simp only[sgn,if_true,Int.neg_mul]
   congr 1
   exact_mod_cast this.symm
 have e2:d=d / J4 n d*J4 n d:=(J6 (Nat.gcd_dvd_right n d)).symm
 generalize hG:J4 n d=g at *
 have hq:mkRat (sgn neg (n / g)*(g:Nat)) (d / g*g)=mkRat (sgn neg (n / g)) (d / g):=Rat.mkRat_mul_right (by omega)
 rw[← hq,← e,← e2]
def q04 (n d:Int):Prop:=0<d/\J4 n.natAbs d.natAbs=1
instance (n d:Int):Decidable (q04 n d):=inferInstanceAs (Decidable (_/\_))
def val (n d:Int):Rat:=mkRat n d.toNat
theorem q70 {n d:Int}(h:q04 n d):(val n d).num=n:=by
 have:d.toNat=d.natAbs:=by have:=h.1; omega
 have hd:d.natAbs≠0:=by have:=h.1; omega
 unfold val
 rw[Rat.num_mkRat,this,if_neg hd,J3,h.2]
 simp
theorem q71 {n d:Int}(h:q04 n d):((val n d).den:Int)=d:=by
 have:d.toNat=d.natAbs:=by have:=h.1; omega
 have hd:d.natAbs≠0:=by have:=h.1; omega
 unfold val
 rw[Rat.den_mkRat,this,if_neg hd,J3,h.2]
 simp
 omega
theorem qb2 (q:Rat):q04 q.num q.den:=⟨by have:=q.den_pos; omega,by simpa using q.reduced⟩
theorem qdp (q:Rat):val q.num q.den=q:=by
 unfold val
 simp[Rat.mkRat_self]
theorem qlb {q:Rat}(h:(fitQ q).ok=true):(fitQ q).n=q.num/\(fitQ q).d=q.den:=by
 unfold fitQ at *
 split at h
 ·rename_i hc
  rw[if_pos hc]
  exact⟨rfl,rfl⟩
 ·cases h
theorem q54 (q:Rat):q04 (fitQ q).n (fitQ q).d:=by
 unfold fitQ
 split
 ·exact qb2 q
 ·decide
theorem qep {q:Rat}(h:(fitQ q).ok=true):val (fitQ q).n (fitQ q).d=q:=by
 obtain⟨h1,h2⟩:=qlb h
 rw[h1,h2,qdp]
open Go
def cmpI (x y:Int):Int:=if x<y then -1 else if x>y then 1 else 0
theorem qku {M A B:Nat}(hM:0<M):(A % M+B % M) % M=(A+B) % M/\A / M+B / M+(A % M+B % M) / M=(A+B) / M:=by
 refine⟨(Nat.add_mod A B M).symm,?_⟩
 have e:A+B=M*(A / M+B / M)+(A % M+B % M):=by
  have h1:=J0 A M
  have h2:=J0 B M
  rw[J7]
  omega
 conv=>rhs; rw[e]
 rw[J9 hM]
theorem qlc {M A b:Nat}(hb:0<b)(hbM:b<=M):A / b / M=A / M / b/\A / b % M=((A / M % b)*M+A % M) / b/\A % b=((A / M % b)*M+A % M) % b:=by
 have hM:0<M:=by omega
 have e:A=b*(A / M / b*M)+((A / M % b)*M+A % M):=by
  have h1:=J0 A M
  have h2:=J0 (A / M) b
  have h3:M*(A / M)=M*(b*(A / M / b))+M*(A / M % b):=by rw[← J7,h2]
  have h4:b*(A / M / b*M)=M*(b*(A / M / b)):=by rw[Nat.mul_left_comm,J1,J1 b,← Nat.mul_assoc,J1]
  rw[J1 (A / M % b) M,h4]
  omega
 have hlt:((A / M % b)*M+A % M) / b<M:=by
  rw[Nat.div_lt_iff_lt_mul hb]
  have h1:A / M % b<b:=J8 _ hb
  have h2:A % M<M:=J8 _ hM
  have h3:(A / M % b+1)*M<=b*M:=Nat.mul_le_mul_right _ h1
  rw[Nat.add_mul] at h3
  rw[J1 M b]
  omega
 have hq:A / b=A / M / b*M+((A / M % b)*M+A % M) / b:=by
  conv=>lhs; rw[e]
  rw[J9 hb]
 refine⟨?_,?_,?_⟩
 ·rw[J2,J2,J1]
 ·rw[hq,J1 (A / M / b) M,Ja,Nat.mod_eq_of_lt hlt]
 ·conv=>lhs; rw[e]
  rw[Ja]
theorem wd_cmp {M A B:Nat}(hM:0<M):(if cmpI ((A / M:Nat):Int) ((B / M:Nat):Int)≠0 then cmpI ((A / M:Nat):Int) ((B / M:Nat):Int) else cmpI ((A % M:Nat):Int) ((B % M:Nat):Int))=cmpI A B:=by
 have h1:=J0 A M
 have h2:=J0 B M
 have h3:=J8 A hM
 have h4:=J8 B hM
 rcases Nat.lt_trichotomy (A / M) (B / M) with h | h | h
 ·have:M*(A / M+1)<=M*(B / M):=J5 _ h
  rw[J7] at this
  have hlt:A<B:=by omega
  unfold cmpI
  rw[if_pos (by omega:((A / M:Nat):Int)<((B / M:Nat):Int)),if_pos (by omega:(A:Int)<B),if_pos (by decide)]
 ·unfold cmpI
  rw[h] at h1
  rw[h]
  have e1:((A:Int)<B) ↔ (((A % M:Nat):Int)<((B % M:Nat):Int)):=by omega
  have e2:((A:Int)>B) ↔ (((A % M:Nat):Int)>((B % M:Nat):Int)):=by omega
  simp only[e1,e2]
  simp
 ·have:M*(B / M+1)<=M*(A / M):=J5 _ h
  rw[J7] at this
  have hlt:B<A:=by omega
  unfold cmpI
  rw[if_neg (by omega:¬((A / M:Nat):Int)<((B / M:Nat):Int)),if_pos (by omega:((A / M:Nat):Int)>((B / M:Nat):Int)),if_neg (by omega:¬(A:Int)<B),if_pos (by omega:(A:Int)>B),if_pos (by decide)]
end Pw
