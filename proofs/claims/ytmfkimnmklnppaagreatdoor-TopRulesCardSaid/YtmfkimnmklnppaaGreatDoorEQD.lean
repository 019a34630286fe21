/- Rational numbers in lowest terms, as the code reckons them: plain laws. Conditions: none. -/
import Derived.Test.YtmfkimnmklnppaaGreatDoorEQC
import Derived.Lib.ItoaMem
import Derived.Lib.AtoiAllCases
import Derived.Lib.IndexBytes
import Derived.Lib.IndexMore
open Nat renaming Coprime->J0,div_mul_cancel->J1,gcd->J2,coprime_div_gcd_div_gcd->J3,gcd_pos_of_pos_right->J4,gcd_dvd_left->J5,div_add_mod->J6,gcd_dvd_right->J7,mul_comm->J8,gcd_comm->J9,dvd_mul_left_of_dvd->Ja,mul_assoc->Jb,div_div_eq_div_mul->Jc,mul_mul_mul_comm->Jd,mul_le_mul_left->Je,mul_add->Jf,mod_lt->Jg,mul_add_div->Jh,mul_add_mod->Ji,mul_ne_zero->Jj,strongRecOn->Jk
namespace Pw
open Go
structure RR where
 n:Int
 d:Int
 ok:Bool
deriving DecidableEq
def zr:RR:=⟨0,1,false⟩
def fitQ(q:Rat):RR:=if -9223372036854775808<=q.num/\q.num<9223372036854775808/\q.den<9223372036854775808 then⟨q.num,q.den,true⟩else zr
def ratI(neg:Bool)(n d:Nat):RR:=if d<9223372036854775808/\(n<9223372036854775808\/n=9223372036854775808/\neg=true)then⟨if neg then -(n:Int)else n,d,true⟩else zr
def sgn(neg:Bool)(n:Nat):Int:=if neg then -(n:Int)else n
theorem qa9(neg:Bool)(n:Nat):(sgn neg n).natAbs=n:=by
 cases neg<;>simp[sgn]
theorem qi1(neg:Bool)(n d:Nat)(hd:d≠0)(hc:J0 n d):ratI neg n d=fitQ (mkRat (sgn neg n) d):=by
 have h1:(mkRat (sgn neg n) d).num=sgn neg n:=by
  rw[Rat.num_mkRat,if_neg hd,qa9,J9,hc]
  simp
 have h2:(mkRat (sgn neg n) d).den=d:=by
  rw[Rat.den_mkRat,if_neg hd,qa9,J9,hc]
  simp
 have hz:n=0->d=1:=by
  rintro rfl
  simpa using hc
 cases neg
 ·have h1:(mkRat (sgn false n) d).num=(n:Int):=h1
  unfold fitQ ratI
  rw[h1,h2]
  simp only[Bool.false_eq_true,and_false,or_false,if_false]
  by_cases h:d<9223372036854775808/\n<9223372036854775808
  ·rw[if_pos h,if_pos ⟨oo,oo,h.1⟩]
  ·rw[if_neg h,if_neg]
   rintro⟨_,h2,h3⟩
   exact h ⟨h3,oo⟩
 ·have h1:(mkRat (sgn true n) d).num=-(n:Int):=h1
  unfold fitQ ratI
  rw[h1,h2]
  simp only[and_true,if_true]
  by_cases h:d<9223372036854775808/\n<=9223372036854775808
  ·rw[if_pos ⟨h.1,oo⟩,if_pos ⟨oo,oo,h.1⟩]
  ·rw[if_neg,if_neg]
   ·rintro⟨h1,h2,h3⟩
    exact h ⟨h3,oo⟩
   ·rintro⟨h1,h2⟩
    exact h ⟨h1,oo⟩
theorem q6w(neg:Bool)(n d:Nat)(hd:d≠0):ratI neg (n/J2 n d) (d/J2 n d)=fitQ (mkRat (sgn neg n) d):=by
 have hg:0<J2 n d:=J4 n oo
 have hd':d/J2 n d≠0:=by
  have:=Nat.div_pos (Nat.gcd_le_right n (by omega:0<d)) hg
  omega
 rw[qi1 neg _ _ hd' (J3 hg)]
 congr 1
 have e:sgn neg n=sgn neg (n/J2 n d)*(J2 n d:Nat):=by
  have:=J1 (J5 n d)
  cases neg
  ·simp only[sgn]
   simp
   exact_mod_cast this.symm
  ·simp only[sgn,if_true,Int.neg_mul]
   congr 1
   exact_mod_cast this.symm
 have e2:d=d/J2 n d*J2 n d:=(J1 (J7 n d)).symm
 generalize hG:J2 n d=g at *
 have hq:mkRat (sgn neg (n/g)*(g:Nat)) (d/g*g)=mkRat (sgn neg (n/g)) (d/g):=Rat.mkRat_mul_right oo
 rw[←hq,←e,←e2]
def q0k(n d:Int):Prop:=0<d/\J2 n.natAbs d.natAbs=1
instance (n d:Int):Decidable (q0k n d):=inferInstanceAs (Decidable (_/\_))
def val(n d:Int):Rat:=mkRat n d.toNat
theorem q3g{n d:Int}(h:q0k n d):(val n d).num=n:=by
 have:d.toNat=d.natAbs:=by have:=h.1;omega
 have hd:d.natAbs≠0:=by have:=h.1;omega
 unfold val
 rw[Rat.num_mkRat,this,if_neg hd,J9,h.2]
 simp
theorem q4i{n d:Int}(h:q0k n d):((val n d).den:Int)=d:=by
 have:d.toNat=d.natAbs:=by have:=h.1;omega
 have hd:d.natAbs≠0:=by have:=h.1;omega
 unfold val
 rw[Rat.den_mkRat,this,if_neg hd,J9,h.2]
 have:=h.1
 simp
 omega
theorem q07(q:Rat):q0k q.num q.den:=⟨by have:=q.den_pos;omega,by simpa using q.reduced⟩
theorem q0j(q:Rat):val q.num q.den=q:=by
 unfold val
 simp[Rat.mkRat_self]
theorem qaa(q:Rat):q0k (fitQ q).n (fitQ q).d:=by
 unfold fitQ
 split
 ·exact q07 q
 ·decide
def cmpI(x y:Int):Int:=if x<y then -1 else if x>y then 1 else 0
theorem qsc{M A B:Nat}(hM:0<M):(A%M+B%M)%M=(A+B)%M/\A/M+B/M+(A%M+B%M)/M=(A+B)/M:=by
 refine⟨(Nat.add_mod A B M).symm,?_⟩
 have e:A+B=M*(A/M+B/M)+(A%M+B%M):=by
  have h1:=J6 A M
  have h2:=J6 B M
  rw[Jf]
  omega
 conv=>rhs;rw[e]
 rw[Jh hM]
theorem qt9{M A b:Nat}(hb:0<b)(hbM:b<=M):A/b/M=A/M/b/\A/b%M=((A/M%b)*M+A%M)/b/\A%b=((A/M%b)*M+A%M)%b:=by
 have hM:0<M:=oo
 have e:A=b*(A/M/b*M)+((A/M%b)*M+A%M):=by
  have h1:=J6 A M
  have h2:=J6 (A/M) b
  have h3:M*(A/M)=M*(b*(A/M/b))+M*(A/M%b):=by rw[←Jf,h2]
  have h4:b*(A/M/b*M)=M*(b*(A/M/b)):=by rw[Nat.mul_left_comm,J8,J8 b,←Jb,J8]
  rw[J8 (A/M%b) M,h4]
  omega
 have hlt:((A/M%b)*M+A%M)/b<M:=by
  rw[Nat.div_lt_iff_lt_mul hb]
  have h1:A/M%b<b:=Jg _ hb
  have h2:A%M<M:=Jg _ hM
  have h3:(A/M%b+1)*M<=b*M:=Nat.mul_le_mul_right _ h1
  rw[Nat.add_mul]at h3
  rw[J8 M b]
  omega
 have hq:A/b=A/M/b*M+((A/M%b)*M+A%M)/b:=by
  conv=>lhs;rw[e]
  rw[Jh hb]
 refine⟨?_,?_,?_⟩
 ·rw[Jc,Jc,J8]
 ·rw[hq,J8 (A/M/b) M,Ji,Nat.mod_eq_of_lt hlt]
 ·conv=>lhs;rw[e]
  rw[Ji]
theorem wd_cmp{M A B:Nat}(hM:0<M):(if cmpI ((A/M:Nat):Int) ((B/M:Nat):Int)≠0 then cmpI ((A/M:Nat):Int) ((B/M:Nat):Int)else cmpI ((A%M:Nat):Int) ((B%M:Nat):Int))=cmpI A B:=by
 have h1:=J6 A M
 have h2:=J6 B M
 have h3:=Jg A hM
 have h4:=Jg B hM
 rcases Nat.lt_trichotomy (A/M) (B/M)with h|h|h
 ·have:M*(A/M+1)<=M*(B/M):=Je _ h
  rw[Jf]at this
  have hlt:A<B:=oo
  unfold cmpI
  rw[if_pos (by omega:((A/M:Nat):Int)<((B/M:Nat):Int)),if_pos (by omega:(A:Int)<B),if_pos od]
 ·unfold cmpI
  rw[h]at h1
  rw[h]
  have e1:((A:Int)<B) ↔ (((A%M:Nat):Int)<((B%M:Nat):Int)):=oo
  have e2:((A:Int)>B) ↔ (((A%M:Nat):Int)>((B%M:Nat):Int)):=oo
  simp only[e1,e2]
  simp
 ·have:M*(B/M+1)<=M*(A/M):=Je _ h
  rw[Jf]at this
  have hlt:B<A:=oo
  unfold cmpI
  rw[if_neg (by omega:¬((A/M:Nat):Int)<((B/M:Nat):Int)),if_pos (by omega:((A/M:Nat):Int)>((B/M:Nat):Int)),if_neg (by omega:¬(A:Int)<B),if_pos (by omega:(A:Int)>B),if_pos od]
theorem qta(s t:Bool)(a b:Nat):sgn s a*sgn t b=sgn (s != t) (a*b):=by
 cases s<;>cases t<;>simp[sgn,Int.neg_mul,Int.mul_neg]
theorem q61(s:Bool)(a b:Nat):sgn s a*(b:Int)=sgn s (a*b):=by
 cases s<;>simp[sgn,Int.neg_mul]
theorem qtb{xs ys:Bool}{xn xd yn yd:Nat}(hx:J0 xn xd)(hy:J0 yn yd)(hxd:xd≠0)(hyd:yd≠0) :
  ratI (xs != ys) (xn/J2 xn yd*(yn/J2 yn xd)) (xd/J2 yn xd*(yd/J2 xn yd))=fitQ (mkRat (sgn xs xn) xd*mkRat (sgn ys yn) yd):=by
 have hg:0<J2 xn yd:=J4 _ oo
 have hh:0<J2 yn xd:=J4 _ oo
 have c1:=J3 hg
 have c2:=J3 hh
 have e1:=J1 (J5 xn yd)
 have e2:=J1 (J7 xn yd)
 have e3:=J1 (J5 yn xd)
 have e4:=J1 (J7 yn xd)
 generalize J2 xn yd=g at *
 generalize J2 yn xd=h at *
 generalize xn/g=a at *
 generalize yd/g=d at *
 generalize yn/h=c at *
 generalize xd/h=b at *
 subst e1 e2 e3 e4
 have c3:J0 a b:=J0.coprime_mul_right (J0.coprime_mul_right_right hx)
 have c4:J0 c d:=J0.coprime_mul_right (J0.coprime_mul_right_right hy)
 have hbd:b*d≠0:=by
  intro h0
  rcases Nat.mul_eq_zero.1 h0 with h0|h0
  ·subst h0;simp at hxd
  ·subst h0;simp at hyd
 have cc:J0 (a*c) (b*d):=J0.mul_right (J0.mul_left c3 c2) (J0.mul_left c1 c4)
 rw[qi1 _ _ _ hbd cc,Rat.mkRat_mul_mkRat,qta]
 congr 1
 have e:(a*g*(c*h))=a*c*(g*h):=by rw[Jd]
 have e':b*h*(d*g)=b*d*(g*h):=by rw[Jd,J8 h g]
 rw[e,e',←q61 _ (a*c) (g*h),Rat.mkRat_mul_right]
 exact Jj oo oo
def sumS(xs ys:Bool)(a b:Nat):Bool×Nat:=if xs=ys then(xs,a+b)else if b<=a then(xs,a-b)else(ys,b-a)
theorem qtc(xs ys:Bool)(a b:Nat):sgn xs a+sgn ys b=sgn (sumS xs ys a b).1 (sumS xs ys a b).2:=by
 unfold sumS
 split
 ·rename_i h
  subst h
  cases xs<;>simp[sgn]<;>omega
 ·rename_i h
  split
  ·cases xs<;>cases ys<;>simp_all [sgn]<;>omega
  ·cases xs<;>cases ys<;>simp_all [sgn]<;>omega
theorem qjd(xs ys:Bool)(a b:Nat):(sumS xs ys a b).2=a+b\/(sumS xs ys a b).2+b=a\/(sumS xs ys a b).2+a=b:=by
 unfold sumS
 split
 ·exact .inl rfl
 ·split
  ·exact .inr (.inl (by simp only;omega))
  ·exact .inr (.inr (by simp only;omega))
theorem q8h{n a b p:Nat}(hc:J0 a p)(h:n=a+b*p\/n+b*p=a\/n+a=b*p):J0 n p:=by
 have h1:=J5 n p
 have h2:=J7 n p
 have h3:J2 n p∣b*p:=Ja h2 b
 have h4:J2 n p∣a:=by
  rcases h with h|h|h
  ·have h1':J2 n p∣a+b*p:=by
    have:=h1
    exact h▸this
   exact(Nat.dvd_add_left h3).1 h1'
  ·rw[←h]
   exact Nat.dvd_add h1 h3
  ·rw[←h]at h3
   exact(Nat.dvd_add_right h1).1 h3
 have:=Nat.dvd_gcd h4 h2
 rw[hc]at this
 exact Nat.dvd_one.1 this
theorem sum_q{xs ys:Bool}{xn xd yn yd g n:Nat}{s:Bool}(hx:J0 xn xd)(hy:J0 yn yd)(hxd:xd≠0)(hyd:yd≠0)(hg:g=J2 xd yd)
  (hs:sumS xs ys (xn*(yd/g)) (yn*(xd/g))=(s,n)) :
  (n=0->fitQ (mkRat (sgn xs xn) xd+mkRat (sgn ys yn) yd)=⟨0,1,true⟩) /\
  ratI s (n/J2 g (n%g)) (xd/g*(yd/J2 g (n%g)))=fitQ (mkRat (sgn xs xn) xd+mkRat (sgn ys yn) yd):=by
 have hg0:0<g:=by rw[hg];exact J4 _ oo
 have e1:xd/g*g=xd:=by rw[hg];exact J1 (J5 xd yd)
 have e2:yd/g*g=yd:=by rw[hg];exact J1 (J7 xd yd)
 have c1:J0 (xd/g) (yd/g):=by rw[hg];exact J3 (by rw[←hg];exact hg0)
 clear hg
 generalize xd/g=p at *
 generalize hq:yd/g=q at *
 subst e1
 have hp0:p≠0:=by rintro rfl;simp at hxd
 have hsum:mkRat (sgn xs xn) (p*g)+mkRat (sgn ys yn) yd=mkRat (sgn s n) (p*yd):=by
  rw[Rat.mkRat_add_mkRat _ _ hxd hyd]
  have h1:=qtc xs ys (xn*q) (yn*p)
  rw[hs]at h1
  simp only at h1
  have h2:sgn xs xn*(yd:Int)+sgn ys yn*((p*g:Nat):Int)=sgn s n*(g:Int):=by
   rw[←h1,←e2,Int.add_mul,q61,q61,q61,q61,Jb,Jb]
  have h3:p*g*yd=p*yd*g:=Nat.mul_right_comm _ _ _
  rw[h2,h3,Rat.mkRat_mul_right oo]
 have cxp:J0 xn p:=J0.coprime_mul_right_right hx
 have cyq:J0 yn q:=by rw[←e2]at hy;exact J0.coprime_mul_right_right hy
 have hcases:=qjd xs ys (xn*q) (yn*p)
 rw[hs]at hcases
 simp only at hcases
 have cnp:J0 n p:=q8h (a:=xn*q) (b:=yn) (J0.mul_left cxp c1.symm) hcases
 have cnq:J0 n q:=q8h (a:=yn*p) (b:=xn) (J0.mul_left cyq c1) oo
 have hgcd:J2 n (p*yd)=J2 n g:=by
  rw[←e2,←Jb,J0.gcd_mul_left_cancel_right _ (J0.mul_left cnp.symm cnq.symm)]
 have hh:J2 g (n%g)=J2 n (p*yd):=by
  rw[hgcd,J9 n g,J9 g (n%g),←Nat.gcd_rec]
 have hdvd:J2 g (n%g)∣yd:=by
  rw[←e2]
  exact Ja (J5 g (n%g)) q
 have hpy:p*(yd/J2 g (n%g))=p*yd/J2 g (n%g):=by
  rw[Nat.mul_div_assoc _ hdvd]
 rw[hsum]
 refine⟨?_,?_⟩
 ·rintro rfl
  have:sgn s 0=0:=by cases s<;>rfl
  rw[this]
  simp[fitQ]
 ·rw[hpy,hh,q6w s n (p*yd) (Jj hp0 hyd)]
theorem qtd(n:Int):sgn (decide (n<0)) n.natAbs=n:=by
 by_cases h:n<0
 ·simp[sgn,h];omega
 ·simp[sgn,h];omega
theorem qfm(n:Int):sgn (!decide (n<0)) n.natAbs=-n:=by
 by_cases h:n<0
 ·simp[sgn,h];omega
 ·simp[sgn,h];omega
theorem qab{n d:Int}(hd:0<d):mkRat (sgn (decide (n<0)) n.natAbs) d.natAbs=val n d:=by
 rw[qtd]
 unfold val
 congr 1
 omega
theorem qte{n d:Int}(hd:0<d):mkRat (sgn (!decide (n<0)) n.natAbs) d.natAbs=-val n d:=by
 rw[qfm]
 unfold val
 rw[Rat.neg_mkRat]
 congr 1
 omega
theorem qtf{n d:Int}(hd:0<d):mkRat (sgn (decide (n<0)) d.natAbs) n.natAbs=(val n d)⁻¹:=by
 have e:val n d=Rat.divInt n d:=by
  have:d=((d.toNat:Nat):Int):=oo
  conv=>rhs;rw[this]
  rw[Rat.divInt_ofNat]
  rfl
 rw[e,Rat.inv_divInt]
 rcases Int.lt_or_le n 0 with h|h
 ·have e1:Rat.divInt d n=Rat.divInt (-d) (-n):=(Rat.neg_divInt_neg d n).symm
  have e2:-n=((n.natAbs:Nat):Int):=oo
  rw[e1,e2,Rat.divInt_ofNat]
  congr 1
  simp[sgn,h];omega
 ·have e2:n=((n.natAbs:Nat):Int):=oo
  have h':¬n<0:=oo
  conv=>rhs;rw[e2]
  rw[Rat.divInt_ofNat]
  congr 1
  simp[sgn,h'];omega
def addQ(n d n' d':Int):RR:=if q0k n d/\q0k n' d' then fitQ (val n d+val n' d')else zr
def subQ(n d n' d':Int):RR:=if q0k n d/\q0k n' d' then fitQ (val n d-val n' d')else zr
def mulQ(n d n' d':Int):RR:=if q0k n d/\q0k n' d' then fitQ (val n d*val n' d')else zr
def quoQ(n d n' d':Int):RR:=if q0k n d/\q0k n' d' then(if n'=0 then zr else fitQ (val n d/val n' d'))else zr
def cmpQ(n d n' d':Int):Int:=if q0k n d/\q0k n' d' then cmpI (n*d') (n'*d)else 0
theorem q1n{d:Nat}(h:d<10):(UInt8.ofNat (48+d)).toNat=48+d:=by
 rw[UInt8.toNat_ofNat']
 omega
theorem q62:∀(u:Nat) (c:UInt8),c∈Lib.decDigits u->48<=c.toNat/\c.toNat<=57:=by
 intro u
 induction u using Jk with
 | ind u ih =>
  intro c hc
  rw[Lib.decDigits]at hc
  split at hc
  ·rename_i h
   simp only[List.mem_singleton]at hc
   subst hc
   rw[q1n h]
   omega
  ·rename_i h
   rcases List.mem_append.1 hc with hc|hc
   ·exact ih (u/10) oo c hc
   ·simp only[List.mem_singleton]at hc
    subst hc
    rw[q1n oo]
    omega
theorem qi2(u:Nat):Lib.decDigits u≠[]:=by
 rw[Lib.decDigits]
 split<;>simp
theorem qde:∀(l:List UInt8) (acc v:Nat) (m:List UInt8),Lib.parseUint10 acc l=.ok v->Lib.parseUint10 acc (l++m)=Lib.parseUint10 v m
 | [],acc,v,m,h=>by
  simp only[Lib.parseUint10]at h
  injection h with h
  subst h
  rfl
 | c::l,acc,v,m,h=>by
  simp only[List.cons_append,Lib.parseUint10]at h ⊢
  split at h
  ·rename_i h1
   rw[if_pos h1]
   split at h
   ·cases h
   ·rename_i h2
    rw[if_neg h2]
    split at h
    ·cases h
    ·rename_i h3
     rw[if_neg h3]
     exact qde l _ v m h
  ·cases h
theorem qlu:∀(u:Nat),u<18446744073709551616->Lib.parseUint10 0 (Lib.decDigits u)=.ok u:=by
 intro u
 induction u using Jk with
 | ind u ih =>
  intro hu
  rw[Lib.decDigits]
  split
  ·rename_i h
   simp only[Lib.parseUint10,q1n h]
   rw[if_pos oo,if_neg oo,if_neg oo]
   congr 1
   omega
  ·rename_i h
   rw[qde _ _ _ _ (ih (u/10) oo oo)]
   simp only[Lib.parseUint10,q1n (show u%10<10 by omega)]
   rw[if_pos oo,if_neg oo,if_neg oo]
   congr 1
   omega
theorem qlv(u:Nat)(h:u<18446744073709551616):Lib.parseMag (Lib.decDigits u)=.ok u:=by
 unfold Lib.parseMag
 rw[if_neg (qi2 u),qlu u h]
theorem qlw{n:Int}(h0:-9223372036854775808<=n)(h1:n<9223372036854775808):Lib.atoiAll (Lib.itoa n)=.ok n:=by
 unfold Lib.itoa
 split
 ·rename_i h
  rw[Lib.atoiAll_minus,qlv _ oo]
  unfold Lib.signed
  simp only
  rw[if_neg oo]
  congr 1
  omega
 ·rename_i h
  have hd:=q62 n.toNat
  have hm:=qlv n.toNat oo
  cases hl:Lib.decDigits n.toNat with
  | nil=>exact absurd hl (qi2 _)
  | cons c r =>
   have hc:=hd c (by rw[hl];simp)
   rw[Lib.atoiAll_plain c r oo oo,←hl,hm]
   unfold Lib.signless
   simp only
   rw[if_neg oo]
   congr 1
   omega
theorem q3z(n:Int):Lib.itoa n≠[]:=by
 unfold Lib.itoa
 split
 ·simp
 ·exact qi2 _
theorem q8i(l:List UInt8)(c:UInt8)(j:Nat):Lib.occAt l [c] j=(l[j]? == some c):=by
 unfold Lib.occAt
 have e:l[j]?=(l.drop j)[0]?:=by rw[List.getElem?_drop];rfl
 rw[e]
 cases l.drop j with
 | nil=>rfl
 | cons x r =>
  by_cases h:c=x
  ·subst h;simp[List.isPrefixOf]
  ·simp[List.isPrefixOf,BEq.comm]
theorem qtg{a b:List UInt8}{c:UInt8}(h:c∉a):Lib.cut (a++c::b) [c]=(a,b,true):=by
 have hi:Lib.index (a++c::b) [c]=(a.length:Nat):=by
  refine Lib.index_first og ?_ fun j hj=>?_
  ·rw[q8i];simp
  ·rw[q8i,List.getElem?_append_left hj]
   simp only[beq_eq_false_iff_ne,ne_eq]
   intro he
   exact h (List.mem_of_getElem? he)
 unfold Lib.cut
 rw[hi,if_pos oo]
 simp
theorem qpe{a:List UInt8}{c:UInt8}(h:c∉a):Lib.cut a [c]=(a,[],false):=by
 have hi:Lib.index a [c]=-1:=by
  refine Lib.index_none fun j _=>?_
  rw[q8i]
  simp only[beq_eq_false_iff_ne,ne_eq]
  intro he
  exact h (List.mem_of_getElem? he)
 unfold Lib.cut
 rw[hi,if_neg oo]
