/- Sums and products of rational numbers, as the code reckons them with common divisors taken out ahead. Conditions: none. -/
import Derived.Test.YtfpobpjandjhjaaGreatDoorPwR
open Nat renaming Coprime->J0,div_mul_cancel->J1,coprime_div_gcd_div_gcd->J2,gcd->J3,gcd_pos_of_pos_right->J4,gcd_dvd_left->J5,gcd_dvd_right->J6,dvd_mul_left_of_dvd->J7,mul_mul_mul_comm->J8,mul_assoc->J9,mul_ne_zero->Ja,gcd_comm->Jb
namespace Pw
open Go
theorem qhs (s t:Bool)(a b:Nat):sgn s a*sgn t b=sgn (s != t) (a*b):=by
 cases s<;>cases t<;>simp[sgn,Int.neg_mul,Int.mul_neg]
theorem q6f (s:Bool)(a b:Nat):sgn s a*(b:Int)=sgn s (a*b):=by
 cases s<;>simp[sgn,Int.neg_mul]
theorem qld {xs ys:Bool}{xn xd yn yd:Nat}(hx:J0 xn xd)(hy:J0 yn yd)(hxd:xd≠0)(hyd:yd≠0) :
  ratI (xs != ys) (xn / J3 xn yd*(yn / J3 yn xd)) (xd / J3 yn xd*(yd / J3 xn yd))=fitQ (mkRat (sgn xs xn) xd*mkRat (sgn ys yn) yd):=by
 have hg:0<J3 xn yd:=J4 _ (by omega)
 have hh:0<J3 yn xd:=J4 _ (by omega)
 have c1:=J2 hg
 have c2:=J2 hh
 have e1:=J1 (J5 xn yd)
 have e2:=J1 (J6 xn yd)
 have e3:=J1 (J5 yn xd)
 have e4:=J1 (J6 yn xd)
 generalize J3 xn yd=g at *
 generalize J3 yn xd=h at *
 generalize xn / g=a at *
 generalize yd / g=d at *
 generalize yn / h=c at *
 generalize xd / h=b at *
 subst e1 e2 e3 e4
 have c3:J0 a b:=J0.coprime_mul_right (J0.coprime_mul_right_right hx)
 have c4:J0 c d:=J0.coprime_mul_right (J0.coprime_mul_right_right hy)
 have hbd:b*d≠0:=by
  intro h0
  rcases Nat.mul_eq_zero.1 h0 with h0 | h0
  ·subst h0; simp at hxd
  ·subst h0; simp at hyd
 have cc:J0 (a*c) (b*d):=J0.mul_right (J0.mul_left c3 c2) (J0.mul_left c1 c4)
 rw[qeo _ _ _ hbd cc,Rat.mkRat_mul_mkRat,qhs]
 congr 1
 have e:(a*g*(c*h))=a*c*(g*h):=by rw[J8]
 have e':b*h*(d*g)=b*d*(g*h):=by rw[J8,Nat.mul_comm h g]
 rw[e,e',← q6f _ (a*c) (g*h),Rat.mkRat_mul_right]
 exact Ja (by omega) (by omega)
def sumS (xs ys:Bool)(a b:Nat):Bool × Nat:=if xs=ys then (xs,a+b) else if b<=a then (xs,a-b) else (ys,b-a)
theorem qdr (xs ys:Bool)(a b:Nat):sgn xs a+sgn ys b=sgn (sumS xs ys a b).1 (sumS xs ys a b).2:=by
 unfold sumS
 split
 ·rename_i h
  subst h
  cases xs<;>simp[sgn]<;>omega
 ·rename_i h
  split
  ·cases xs<;>cases ys<;>simp_all [sgn]<;>omega
  ·cases xs<;>cases ys<;>simp_all [sgn]<;>omega
theorem qa4 (xs ys:Bool)(a b:Nat):(sumS xs ys a b).2=a+b\/(sumS xs ys a b).2+b=a\/(sumS xs ys a b).2+a=b:=by
 unfold sumS
 split
 ·exact .inl rfl
 ·split
  ·exact .inr (.inl (by simp only; omega))
  ·exact .inr (.inr (by simp only; omega))
theorem q8i {n a b p:Nat}(hc:J0 a p)(h:n=a+b*p\/n+b*p=a\/n+a=b*p):J0 n p:=by
 have h1:=J5 n p
 have h2:=J6 n p
 have h3:J3 n p ∣ b*p:=J7 h2 b
 have h4:J3 n p ∣ a:=by
  rcases h with h | h | h
  ·have h1':J3 n p ∣ a+b*p:=by
    have:=h1
    exact h ▸ this
   exact(Nat.dvd_add_left h3).1 h1'
  ·rw[← h]
   exact Nat.dvd_add h1 h3
  ·rw[← h] at h3
   exact(Nat.dvd_add_right h1).1 h3
 have:=Nat.dvd_gcd h4 h2
 rw[hc] at this
 exact Nat.dvd_one.1 this
theorem sum_q {xs ys:Bool}{xn xd yn yd g n:Nat}{s:Bool}(hx:J0 xn xd)(hy:J0 yn yd)(hxd:xd≠0)(hyd:yd≠0)(hg:g=J3 xd yd)
  (hs:sumS xs ys (xn*(yd / g)) (yn*(xd / g))=(s,n)) :
  (n=0->fitQ (mkRat (sgn xs xn) xd+mkRat (sgn ys yn) yd)=⟨0,1,true⟩) /\
  ratI s (n / J3 g (n % g)) (xd / g*(yd / J3 g (n % g)))=fitQ (mkRat (sgn xs xn) xd+mkRat (sgn ys yn) yd):=by
 have hg0:0<g:=by rw[hg]; exact J4 _ (by omega)
 have e1:xd / g*g=xd:=by rw[hg]; exact J1 (J5 xd yd)
 have e2:yd / g*g=yd:=by rw[hg]; exact J1 (J6 xd yd)
 have c1:J0 (xd / g) (yd / g):=by rw[hg]; exact J2 (by rw[← hg]; exact hg0)
 clear hg
 generalize xd / g=p at *
 generalize hq:yd / g=q at *
 subst e1
 have hp0:p≠0:=by rintro rfl; simp at hxd
 have hsum:mkRat (sgn xs xn) (p*g)+mkRat (sgn ys yn) yd=mkRat (sgn s n) (p*yd):=by
  rw[Rat.mkRat_add_mkRat _ _ hxd hyd]
  have h1:=qdr xs ys (xn*q) (yn*p)
  rw[hs] at h1
  simp only at h1
  have h2:sgn xs xn*(yd:Int)+sgn ys yn*((p*g:Nat):Int)=sgn s n*(g:Int):=by
   rw[← h1,← e2,Int.add_mul,q6f,q6f,q6f,q6f,J9,J9]
  have h3:p*g*yd=p*yd*g:=Nat.mul_right_comm _ _ _
  rw[h2,h3,Rat.mkRat_mul_right (by omega)]
 have cxp:J0 xn p:=J0.coprime_mul_right_right hx
 have cyq:J0 yn q:=by rw[← e2] at hy; exact J0.coprime_mul_right_right hy
 have hcases:=qa4 xs ys (xn*q) (yn*p)
 rw[hs] at hcases
 simp only at hcases
 have cnp:J0 n p:=q8i (a:=xn*q) (b:=yn) (J0.mul_left cxp c1.symm) hcases
 have cnq:J0 n q:=q8i (a:=yn*p) (b:=xn) (J0.mul_left cyq c1) (by omega)
 have hgcd:J3 n (p*yd)=J3 n g:=by
  rw[← e2,← J9,J0.gcd_mul_left_cancel_right _ (J0.mul_left cnp.symm cnq.symm)]
 have hh:J3 g (n % g)=J3 n (p*yd):=by
  rw[hgcd,Jb n g,Jb g (n % g),← Nat.gcd_rec]
 have hdvd:J3 g (n % g) ∣ yd:=by
  rw[← e2]
  exact J7 (J5 g (n % g)) q
 have hpy:p*(yd / J3 g (n % g))=p*yd / J3 g (n % g):=by
  rw[Nat.mul_div_assoc _ hdvd]
 rw[hsum]
 refine⟨?_,?_⟩
 ·rintro rfl
  have:sgn s 0=0:=by cases s<;>rfl
  rw[this]
  simp[fitQ]
 ·rw[hpy,hh,q53 s n (p*yd) (Ja hp0 hyd)]
open Go
theorem qds (n:Int):sgn (decide (n<0)) n.natAbs=n:=by
 by_cases h:n<0
 ·simp[sgn,h]; omega
 ·simp[sgn,h]; omega
theorem qeq {n d:Int}(hd:0<d):mkRat (sgn (decide (n<0)) n.natAbs) d.natAbs=val n d:=by
 rw[qds]
 unfold val
 congr 1
 omega
def addQ (n d n' d':Int):RR:=if q04 n d/\q04 n' d' then fitQ (val n d+val n' d') else zr
def mulQ (n d n' d':Int):RR:=if q04 n d/\q04 n' d' then fitQ (val n d*val n' d') else zr
def cmpQ (n d n' d':Int):Int:=if q04 n d/\q04 n' d' then cmpI (n*d') (n'*d) else 0
def q1w (n d:Int):Int:=if q04 n d then n / d else 0
end Pw
