/- Sums and products, as package ratio computes them. Conditions: none. -/
import Derived.Test.YtfpobpjandjhjaaGreatDoorRXY
import Derived.Test.YtfpobpjandjhjaaGreatDoorPwS
import Derived.Test.YtfpobpjandjhjaaGreatDoorCG1
open Int renaming lt_of_mul_lt_mul_left->J0,ediv_neg_of_neg_of_pos->J1,natCast_nonneg->J2,mul_neg_of_neg_of_pos->J3,lt_or_le->J4,tmod->J5,tmod_add_mul_tdiv->J6,tdiv->J7,natCast_mul->J8,natAbs_tmod->J9,mul_nonneg->Ja,neg_mul->Jb
open Nat renaming lt_of_le_of_lt->Jc,gcd->Jd,div_le_self->Je,gcd_pos_of_pos_right->Jf,Coprime->Jg,zero_add->Jh,gcd_le_left->Ji,mul_le_mul->Jj,le_trans->Jk
namespace Go.Proofs.YtfpobpjandjhjaaGreatDoor
open Go Pw
section
variable {w w0:World}
theorem q6g {l:List (Nat × List Value)}{b:Nat}{x y:Value}{K:Int->Int->Bool->World->Prop}(m:Mem w0 w l)(j:Nat)(hj:l[j]?=some (b,[x,y]))(hK:∀ w',Fr F0 w0 w'->K 0 1 true w'):z40_k0 ⟨b,0,none⟩ K w:=by
 refine⟨?_⟩
 simp -zeta only[q1q,Jh]
 exact zero_spec fun w1 hf=>q5p (m.fr hf) j hj hK
theorem qci:fitQ 0=⟨0,1,true⟩:=rfl
theorem qfy {xs ys:Bool}{xn xd yn yd:Nat}{K:Int->Int->Bool->World->Prop}(hx:Jg xn xd)(hy:Jg yn yd)(hxd:0<xd)(hyd:0<yd)
  (bxn:xn<18446744073709551616) (bxd:xd<18446744073709551616) (byn:yn<18446744073709551616) (byd:yd<18446744073709551616)
  (hK:∀ w',Fr F0 w w'->Kr K (fitQ (mkRat (sgn xs xn) xd*mkRat (sgn ys yn) yd)) w'):z40_sh xs xn xd ys yn yd K w:=by
 have sz:∀ s:Bool,sgn s 0=0:=fun s=>by cases s<;>rfl
 refine⟨?_⟩
 intro w1
 have m:Mem w w1 _:=Mem.nil.alloc
 clear_value w1
 intro w2
 have m:Mem w w2 _:=m.alloc
 clear_value w2
 intro w3
 have m:Mem w w3 _:=m.alloc
 clear_value w3
 refine⟨_,m.ld 2,q09.2 ?_⟩
 refine⟨fun h=>?_,fun h1=>?_⟩
 ·have h0:xn=0:=by omega
  subst h0
  simp only[sz,Rat.zero_mkRat,Rat.zero_mul,qci] at hK
  exact q6g m 0 rfl hK
 refine⟨_,m.ld 1,q09.2 ?_⟩
 refine⟨fun h=>?_,fun h2=>?_⟩
 ·have h0:yn=0:=by omega
  subst h0
  simp only[sz,Rat.zero_mkRat,Rat.mul_zero,qci] at hK
  exact q6g m 0 rfl hK
 intro w4
 have m:Mem w w4 _:=m.drew
 refine⟨fun u=>Rs u _,m.sub 0,_,fun _ h=>h.ld 2,_,fun _ h=>h.ld 1,_,fun _ h=>h.ld 1,_,fun _ h=>h.ld 2,q55 fun w5 hf=>?_⟩
 have m:Mem w w5 _:=m.fr hf
 refine⟨m.sub 0,q55 fun w6 hf=>?_⟩
 have m:Mem w w6 _:=m.fr hf
 refine⟨m.sub 0,?_⟩
 intro w7
 have m:Mem w w7 _:=m.drew
 have hg:0<Jd xn yd:=Jf _ hyd
 have hh:0<Jd yn xd:=Jf _ hxd
 have i1:xn / Jd xn yd<18446744073709551616:=Jc (Je _ _) bxn
 have i2:yn / Jd yn xd<18446744073709551616:=Jc (Je _ _) byn
 have i3:xd / Jd yn xd<18446744073709551616:=Jc (Je _ _) bxd
 have i4:yd / Jd xn yd<18446744073709551616:=Jc (Je _ _) byd
 have r:∀ a b:Nat,a / b<18446744073709551616->inR .u64 (J7 (a:Int) (b:Int)):=fun a b h=>by
  rw[q2y]
  exact inRu (J2 _) (by omega)
 refine⟨fun u=>Rs u _,m.sub 0,_,fun _ h=>h.ld 2,_,fun _ h=>h.ld 1,_,fun _ h=>h.ld 2,by omega,r _ _ i1,_,fun _ h=>h.ld 1,by omega,r _ _ i2,_,fun _ h=>h.ld 2,by omega,r _ _ i3,_,fun _ h=>h.ld 1,by omega,r _ _ i4,?_⟩
 simp -zeta only[q2y]
 refine q1v i1 i2 fun w8 hf=>?_
 have m:Mem w w8 _:=m.fr hf
 refine⟨m.sub 0,q1v i3 i4 fun w9 hf=>?_⟩
 have m:Mem w w9 _:=m.fr hf
 refine⟨m.sub 0,qb3 fun w10 hf=>?_⟩
 have m:Mem w w10 _:=m.fr hf
 refine⟨m.sub 0,q5p m 0 rfl fun w11 hf=>?_⟩
 have:=hK w11 hf
 rw[← qld hx hy (by omega) (by omega)] at this
 have e:(!(xs == ys))=(xs != ys):=rfl
 rw[e]
 exact this
theorem q5r {bn b1 b2 bt bx by':Nat}{c1 c2:List Value}{t0 t1:Value}{xs ys s:Bool}{xn xd yn yd g n:Nat}{K:Int->Int->Bool->World->Prop}
  (m:Mem w0 w [(bn,[.int .u64 ((n / 18446744073709551616:Nat):Int),.int .u64 ((n % 18446744073709551616:Nat):Int)]),(b1,c1),(b2,c2),(bt,[t0,t1]),(by',[.bool ys,.int .u64 yn,.int .u64 yd]),(bx,[.bool xs,.int .u64 xn,.int .u64 xd])])
  (hn:n<340282366920938463463374607431768211456) (hg:0<g) (bg:g<18446744073709551616) (bxd:xd<18446744073709551616) (byd:yd<18446744073709551616)
  (hz:n=0->∀ w',Fr F0 w0 w'->K 0 1 true w')
  (hK:∀ w',Fr F0 w0 w'->Kr K (ratI s (n / Jd g (n % g)) (xd / g*(yd / Jd g (n % g)))) w') :
  z4h_k1 ⟨bx,0,none⟩ ⟨by',0,none⟩ ⟨bt,0,none⟩ g ⟨bn,0,none⟩ s K w:=by
 refine⟨?_⟩
 simp -zeta only[q1q,Jh]
 refine⟨_,m.ld 0,_,m.ld 0,q02.2 ?_⟩
 constructor
 ·intro h
  simp only[Bool.and_eq_true,beq_iff_eq,and_true] at h
  have h0:n=0:=by
   have:=Nat.div_add_mod n 18446744073709551616
   omega
  exact zero_spec fun w1 hf=>q5p (m.fr hf) 3 rfl (hz h0)
 ·intro _
  refine⟨_,m.ld 0,_,m.ld 0,qa3 hn hg bg fun w1 hf=>?_⟩
  have m:Mem w0 w1 _:=m.fr hf
  intro w2
  have m:Mem w0 w2 _:=m.alloc
  refine⟨m.wr 0,?_⟩
  intro w3
  have m:Mem w0 w3 _:=m.set 0
  refine⟨m.wr 0,?_⟩
  intro w4
  have m:Mem w0 w4 _:=m.set 0
  refine q55 fun w5 hf=>?_
  have m:Mem w0 w5 _:=m.fr hf
  have hh:0<Jd g (n % g):=Nat.gcd_pos_of_pos_left _ hg
  have bh:Jd g (n % g)<18446744073709551616:=Jc (Ji _ hg) bg
  refine⟨_,m.ld 1,_,m.ld 1,qa3 hn hh bh fun w6 hf=>?_⟩
  have m:Mem w0 w6 _:=m.fr hf
  refine⟨m.wr 1,?_⟩
  intro w7
  have m:Mem w0 w7 _:=m.set 1
  refine⟨m.wr 1,?_⟩
  intro w8
  have m:Mem w0 w8 _:=m.set 1
  intro w9
  have m:Mem w0 w9 _:=m.drew
  have i1:xd / g<18446744073709551616:=Jc (Je _ _) bxd
  have i2:yd / Jd g (n % g)<18446744073709551616:=Jc (Je _ _) byd
  have r:∀ a b:Nat,a / b<18446744073709551616->inR .u64 (J7 (a:Int) (b:Int)):=fun a b h=>by
   rw[q2y]
   exact inRu (J2 _) (by omega)
  refine⟨fun u=>Rs u _,m.sub 0,_,fun _ h=>h.ld 1,_,fun _ h=>h.ld 1,_,fun _ h=>h.ld 6,by omega,r _ _ i1,_,fun _ h=>h.ld 5,by omega,r _ _ i2,?_⟩
  simp -zeta only[q2y]
  refine q1v i1 i2 fun w10 hf=>?_
  have m:Mem w0 w10 _:=m.fr hf
  refine⟨m.sub 0,qb3 fun w11 hf=>?_⟩
  have m:Mem w0 w11 _:=m.fr hf
  exact⟨m.sub 0,q5p m 4 rfl hK⟩
end
open Go Pw
section
variable {w w0:World}
theorem q8j {ba bb b1 b2 bt bx by':Nat}{c1 c2:List Value}{t0 t1:Value}{xs ys:Bool}{xn xd yn yd g A B:Nat}{K:Int->Int->Bool->World->Prop}
  (m:Mem w0 w [(b1,c1),(b2,c2),(bt,[t0,t1]),(by',[.bool ys,.int .u64 yn,.int .u64 yd]),(bx,[.bool xs,.int .u64 xn,.int .u64 xd])]) (ja jb:Nat)
  (ha:[(b1,c1),(b2,c2),(bt,[t0,t1]),(by',[.bool ys,.int .u64 yn,.int .u64 yd]),(bx,[.bool xs,.int .u64 xn,.int .u64 xd])][ja]?=some (ba,[.int .u64 ((A / 18446744073709551616:Nat):Int),.int .u64 ((A % 18446744073709551616:Nat):Int)]))
  (hb:[(b1,c1),(b2,c2),(bt,[t0,t1]),(by',[.bool ys,.int .u64 yn,.int .u64 yd]),(bx,[.bool xs,.int .u64 xn,.int .u64 xd])][jb]?=some (bb,[.int .u64 ((B / 18446744073709551616:Nat):Int),.int .u64 ((B % 18446744073709551616:Nat):Int)]))
  (hA:A<170141183460469231731687303715884105728) (hB:B<170141183460469231731687303715884105728) (hg:0<g) (bg:g<18446744073709551616) (bxd:xd<18446744073709551616) (byd:yd<18446744073709551616)
  (hK:∀ s n,sumS xs ys A B=(s,n)->(n=0->∀ w',Fr F0 w0 w'->K 0 1 true w')/\∀ w',Fr F0 w0 w'->Kr K (ratI s (n / Jd g (n % g)) (xd / g*(yd / Jd g (n % g)))) w') :
  z4h_k0 ⟨bx,0,none⟩ ⟨by',0,none⟩ ⟨bt,0,none⟩ g ⟨ba,0,none⟩ ⟨bb,0,none⟩ K w:=by
 refine⟨?_⟩
 simp -zeta only[q1q,Jh]
 intro w1
 have m:Mem w0 w1 _:=m.alloc
 refine⟨_,m.ld 5,_,m.ld 5,_,m.ld 4,q02.2 ?_⟩
 constructor
 ·intro h
  have hxy:xs=ys:=by simpa using h
  have hs:sumS xs ys A B=(xs,A+B):=by unfold sumS; rw[if_pos hxy]
  obtain⟨hz,hk⟩:=hK _ _ hs
  refine⟨_,m.ld (ja+1) ha rfl,_,m.ld (ja+1) ha rfl,_,m.ld (jb+1) hb rfl,_,m.ld (jb+1) hb rfl,qhp hA hB fun w2 hf=>?_⟩
  have m:Mem w0 w2 _:=m.fr hf
  refine⟨m.wr 0,?_⟩
  intro w3
  have m:Mem w0 w3 _:=m.set 0
  refine⟨m.wr 0,?_⟩
  intro w4
  have m:Mem w0 w4 _:=m.set 0
  exact q5r m (by omega) hg bg bxd byd hz hk
 ·intro h
  have hxy:¬xs=ys:=by
   intro he
   subst he
   simp at h
  refine⟨_,m.ld (ja+1) ha rfl,_,m.ld (ja+1) ha rfl,_,m.ld (jb+1) hb rfl,_,m.ld (jb+1) hb rfl,q7l fun w2 hf=>?_⟩
  have m:Mem w0 w2 _:=m.fr hf
  refine q00.2 ?_
  constructor
  ·intro hc
   have hle:B<=A:=by
    unfold cmpI at hc
    split at hc
    ·omega
    ·omega
   have hs:sumS xs ys A B=(xs,A-B):=by unfold sumS; rw[if_neg hxy,if_pos hle]
   obtain⟨hz,hk⟩:=hK _ _ hs
   refine⟨_,m.ld (ja+1) ha rfl,_,m.ld (ja+1) ha rfl,_,m.ld (jb+1) hb rfl,_,m.ld (jb+1) hb rfl,qcg (by omega) hle fun w3 hf=>?_⟩
   have m:Mem w0 w3 _:=m.fr hf
   refine⟨m.wr 0,?_⟩
   intro w4
   have m:Mem w0 w4 _:=m.set 0
   refine⟨m.wr 0,?_⟩
   intro w5
   have m:Mem w0 w5 _:=m.set 0
   exact q5r m (by omega) hg bg bxd byd hz hk
  ·intro hc
   have hle:¬B<=A:=by
    intro hle
    apply hc
    unfold cmpI
    split
    ·omega
    ·split<;>omega
   have hs:sumS xs ys A B=(ys,B-A):=by unfold sumS; rw[if_neg hxy,if_neg hle]
   obtain⟨hz,hk⟩:=hK _ _ hs
   intro w3
   have m:Mem w0 w3 _:=m.drew
   refine⟨fun u=>u.cell? ⟨bb,0,none⟩=some (.int .u64 ((B / 18446744073709551616:Nat):Int))/\u.cell? ⟨bb,1,none⟩=some (.int .u64 ((B % 18446744073709551616:Nat):Int))/\u.cell? ⟨ba,0,none⟩=some (.int .u64 ((A / 18446744073709551616:Nat):Int))/\u.cell? ⟨ba,1,none⟩=some (.int .u64 ((A % 18446744073709551616:Nat):Int))/\u.cell? ⟨by',0,none⟩=some (.bool ys),?_,?_⟩
   ·exact⟨m.ld (jb+1) hb rfl,m.ld (jb+1) hb rfl,m.ld (ja+1) ha rfl,m.ld (ja+1) ha rfl,m.ld 4⟩
   refine⟨_,fun _ h=>h.1,_,fun _ h=>h.2.1,_,fun _ h=>h.2.2.1,_,fun _ h=>h.2.2.2.1,_,fun _ h=>h.2.2.2.2,qcg (by omega) (by omega) fun w4 hf=>?_⟩
   have m:Mem w0 w4 _:=m.fr hf
   refine⟨?_,?_⟩
   ·exact⟨m.ld (jb+1) hb rfl,m.ld (jb+1) hb rfl,m.ld (ja+1) ha rfl,m.ld (ja+1) ha rfl,m.ld 4⟩
   refine⟨m.wr 0,?_⟩
   intro w5
   have m:Mem w0 w5 _:=m.set 0
   refine⟨m.wr 0,?_⟩
   intro w6
   have m:Mem w0 w6 _:=m.set 0
   refine⟨?_,?_⟩
   ·exact⟨m.ld (jb+1) hb rfl,m.ld (jb+1) hb rfl,m.ld (ja+1) ha rfl,m.ld (ja+1) ha rfl,m.ld 4⟩
   exact q5r m (by omega) hg bg bxd byd hz hk
end
open Go Pw
section
variable {w:World}
set_option maxHeartbeats 1000000 in
theorem qjk {xs ys:Bool}{xn xd yn yd:Nat}{K:Int->Int->Bool->World->Prop}(hx:Jg xn xd)(hy:Jg yn yd)(hxd:0<xd)(hyd:0<yd)
  (bxn:xn<=9223372036854775808) (bxd:xd<=9223372036854775808) (byn:yn<=9223372036854775808) (byd:yd<=9223372036854775808)
  (hK:∀ w',Fr F0 w w'->Kr K (fitQ (mkRat (sgn xs xn) xd+mkRat (sgn ys yn) yd)) w'):z4h_sh xs xn xd ys yn yd K w:=by
 have hg:0<Jd xd yd:=Jf _ hyd
 have bg:Jd xd yd<18446744073709551616:=by have:=Ji yd hxd; omega
 have l1:yd / Jd xd yd<=9223372036854775808:=Jk (Je _ _) byd
 have l2:xd / Jd xd yd<=9223372036854775808:=Jk (Je _ _) bxd
 have hA:xn*(yd / Jd xd yd)<170141183460469231731687303715884105728:=Jc (Jj bxn l1) (by decide)
 have hB:yn*(xd / Jd xd yd)<170141183460469231731687303715884105728:=Jc (Jj byn l2) (by decide)
 have i1:xn<18446744073709551616:=by omega
 have i2:yd / Jd xd yd<18446744073709551616:=by omega
 have i3:yn<18446744073709551616:=by omega
 have i4:xd / Jd xd yd<18446744073709551616:=by omega
 have bxd':xd<18446744073709551616:=by omega
 have byd':yd<18446744073709551616:=by omega
 have hfin:∀ s n,sumS xs ys (xn*(yd / Jd xd yd)) (yn*(xd / Jd xd yd))=(s,n)->(n=0->∀ w',Fr F0 w w'->K 0 1 true w')/\∀ w',Fr F0 w w'->Kr K (ratI s (n / Jd (Jd xd yd) (n % Jd xd yd)) (xd / Jd xd yd*(yd / Jd (Jd xd yd) (n % Jd xd yd)))) w':=by
  intro s n hs
  obtain⟨h1,h2⟩:=sum_q hx hy (by omega) (by omega) rfl hs
  refine⟨fun h0 w' hf=>?_,fun w' hf=>?_⟩
  ·have:=hK w' hf
   rw[h1 h0] at this
   exact this
  ·rw[h2]
   exact hK w' hf
 have r:∀ a b:Nat,a / b<18446744073709551616->inR .u64 (J7 (a:Int) (b:Int)):=fun a b h=>by
  rw[q2y]
  exact inRu (J2 _) (by omega)
 refine⟨?_⟩
 unfold z4h_sd
 intro w1
 have m:Mem w w1 _:=Mem.nil.alloc
 intro w2
 have m:Mem w w2 _:=m.alloc
 intro w3
 have m:Mem w w3 _:=m.alloc
 refine⟨_,m.ld 2,_,m.ld 1,q55 fun w4 hf=>?_⟩
 have m:Mem w w4 _:=m.fr hf
 intro w5
 have m:Mem w w5 _:=m.drew
 refine⟨fun u=>Rs u _,m.sub 0,_,fun _ h=>h.ld 2,_,fun _ h=>h.ld 1,by omega,r _ _ i2,_,fun _ h=>h.ld 1,_,fun _ h=>h.ld 2,by omega,r _ _ i4,?_⟩
 simp -zeta only[q2y]
 generalize Jd xd yd=g at *
 generalize yd / g=q at *
 repeat' first
  | exact q8j m 0 1 rfl rfl hA hB hg bg bxd' byd' hfin
  | exact q8j m 1 0 rfl rfl hA hB hg bg bxd' byd' hfin
  | refine⟨m.sub 0,?_⟩
  | refine⟨m.sub 1,?_⟩
  | refine⟨m.sub 2,?_⟩
  | refine⟨m.wr 0,?_⟩
  | refine⟨m.wr 1,?_⟩
  | (refine q1v i1 i2 fun w1 hf=>?_; have m:=m.fr hf)
  | (refine q1v i3 i4 fun w1 hf=>?_; have m:=m.fr hf)
  | (intro w1; have m:Mem w w1 _:=m.alloc; clear_value w1)
  | (intro w1; have m:Mem w w1 _:=m.set 0; clear_value w1)
  | (intro w1; have m:Mem w w1 _:=m.set 1; clear_value w1)
  | refine⟨?_,?_⟩
end
open Go Pw
section
variable {w:World}
theorem q6h {n d:Int}(h:q04 n d):Jg n.natAbs d.natAbs:=h.2
def fv (s:Bool)(n d:Nat):Value:=.agg #[.bool s,.int .u64 n,.int .u64 d]
def rv (r:RR):Value:=.tuple #[.agg #[.int .i64 r.n,.int .i64 r.d],.bool r.ok]
theorem q7m {n d n' d':Int}{f:Value}{r:RR}{K:Int->Int->Bool->World->Prop}(hn:I64 n)(hd:I64 d)(hn':I64 n')(hd':I64 d')
  (hf:q04 n d->q04 n' d'->∀ w1,Fr F0 w w1->q2b Tryz.prog f [fv (decide (n<0)) n.natAbs d.natAbs,fv (decide (n'<0)) n'.natAbs d'.natAbs] w1 fun u w2=>u=rv r/\Fr F0 w1 w2)
  (hK:∀ w',Fr F0 w w'->Kr K (if q04 n d/\q04 n' d' then r else zr) w'):z3b_sh n d n' d' f K w:=by
 refine⟨?_⟩
 intro w1
 have m:Mem w w1 _:=Mem.nil.alloc
 intro w2
 have m:Mem w w2 _:=m.alloc
 intro w3
 have m:Mem w w3 _:=m.alloc
 refine⟨_,m.ld 2,_,m.ld 2,_,m.ld 1,_,m.ld 1,qce hn hd hn' hd' fun w4 hf4=>?_⟩
 have m:Mem w w4 _:=m.fr hf4
 by_cases h:q04 n d/\q04 n' d'
 ·rw[if_pos h] at hK
  have e:(!(decide (q04 n d) && decide (q04 n' d')))=false:=by simp[h.1,h.2]
  rw[e,q0h]
  intro w5
  have m:Mem w w5 _:=m.drew
  refine⟨fun u=>Rs u _,m.sub 0,_,fun _ h=>h.ld 2,_,fun _ h=>h.ld 2,_,fun _ h=>h.ld 1,_,fun _ h=>h.ld 1,qb4 hn hd fun w6 hf6=>?_⟩
  have m:Mem w w6 _:=m.fr hf6
  refine⟨m.sub 0,qb4 hn' hd' fun w7 hf7=>?_⟩
  have m:Mem w w7 _:=m.fr hf7
  refine⟨m.sub 0,(hf h.1 h.2 w7 m.1).mono fun u w8 hu=>?_⟩
  obtain⟨rfl,hf8⟩:=hu
  have m:Mem w w8 _:=m.fr hf8
  exact⟨_,_,_,rfl,m.sub 0,q5p m 0 rfl hK⟩
 ·rw[if_neg h] at hK
  have e:(!(decide (q04 n d) && decide (q04 n' d')))=true:=by
   simp only[Bool.not_eq_true',Bool.and_eq_false_iff,decide_eq_false_iff_not]
   by_cases h1:q04 n d
   ·exact .inr fun h2=>h ⟨h1,h2⟩
   ·exact .inl h1
  rw[e,q17]
  exact zero_spec fun w5 hf5=>q5p (m.fr hf5) 0 rfl hK
theorem I64.abs {n:Int}(h:I64 n):n.natAbs<=9223372036854775808:=by have:=h.1; have:=h.2; omega
theorem I64.abs' {n:Int}(h:I64 n):n.natAbs<18446744073709551616:=by have:=h.1; have:=h.2; omega
theorem qer {n d n' d':Int}{K:Int->Int->Bool->World->Prop}(hn:I64 n)(hd:I64 d)(hn':I64 n')(hd':I64 d')
  (hK:∀ w',Fr F0 w w'->Kr K (addQ n d n' d') w'):z4c_sh n d n' d' K w:=by
 refine⟨?_⟩
 intro w1
 have m:Mem w w1 _:=Mem.nil.alloc
 intro w2
 have m:Mem w w2 _:=m.alloc
 intro w3
 have m:Mem w w3 _:=m.alloc
 refine⟨_,m.ld 2,_,m.ld 2,_,m.ld 1,_,m.ld 1,q7m (r:=fitQ (val n d+val n' d')) hn hd hn' hd' (fun h h' w4 hf4=>q18 z4h_ok ?_) fun w4 hf4=>q5p (m.fr hf4) 0 rfl hK⟩
 refine qjk (q6h h) (q6h h') (by have:=h.1; omega) (by have:=h'.1; omega) hn.abs hd.abs hn'.abs hd'.abs fun w5 hf5=>?_
 rw[qeq h.1,qeq h'.1]
 exact⟨rfl,hf5⟩
theorem qes {n d n' d':Int}{K:Int->Int->Bool->World->Prop}(hn:I64 n)(hd:I64 d)(hn':I64 n')(hd':I64 d')
  (hK:∀ w',Fr F0 w w'->Kr K (mulQ n d n' d') w'):z4e_sh n d n' d' K w:=by
 refine⟨?_⟩
 intro w1
 have m:Mem w w1 _:=Mem.nil.alloc
 intro w2
 have m:Mem w w2 _:=m.alloc
 intro w3
 have m:Mem w w3 _:=m.alloc
 refine⟨_,m.ld 2,_,m.ld 2,_,m.ld 1,_,m.ld 1,q7m (r:=fitQ (val n d*val n' d')) hn hd hn' hd' (fun h h' w4 hf4=>q18 z40_ok ?_) fun w4 hf4=>q5p (m.fr hf4) 0 rfl hK⟩
 refine qfy (q6h h) (q6h h') (by have:=h.1; omega) (by have:=h'.1; omega) hn.abs' hd.abs' hn'.abs' hd'.abs' fun w5 hf5=>?_
 rw[qeq h.1,qeq h'.1]
 exact⟨rfl,hf5⟩
end
open Go Pw
theorem q43 {x y:Int}(h:x<y):cmpI x y=-1:=by unfold cmpI; rw[if_pos h]
theorem q3m {x y:Int}(h:y<x):cmpI x y=1:=by unfold cmpI; rw[if_neg (by omega),if_pos h]
theorem q5s {x y:Int}(h:x=y):cmpI x y=0:=by unfold cmpI; rw[if_neg (by omega),if_neg (by omega)]
theorem qjl {x y:Int}:cmpI (-x) (-y)=-cmpI x y:=by
 rcases Int.lt_trichotomy x y with h | h | h
 ·rw[q43 h,q3m (by omega)]; rfl
 ·rw[q5s h,q5s (by omega)]; rfl
 ·rw[q3m h,q43 (by omega)]
theorem qht {n d n' d':Int}(hd:0<d)(hd':0<d')(h:¬(decide (n<0)=decide (n'<0))):cmpI n n'=cmpI (n*d') (n'*d):=by
 rcases J4 n 0 with h1 | h1
 ·have h2:0<=n':=by
   rcases J4 n' 0 with h2 | h2
   ·exact absurd (by simp[h1,h2]) h
   ·exact h2
  rw[q43 (by omega)]
  have e1:n*d'<0:=J3 h1 hd'
  have e2:0<=n'*d:=Ja h2 (by omega)
  rw[q43 (by omega)]
 ·have h2:n'<0:=by
   rcases J4 n' 0 with h2 | h2
   ·exact h2
   ·exact absurd (by simp[show ¬n<0 by omega,show ¬n'<0 by omega]) h
  rw[q3m (by omega)]
  have e1:n'*d<0:=J3 h2 hd
  have e2:0<=n*d':=Ja h1 (by omega)
  rw[q3m (by omega)]
theorem qhu {n d n' d':Int}(hd:0<d)(hd':0<d')(h:decide (n<0)=decide (n'<0)) :
  (if n<0 then -cmpI ((n.natAbs*d'.natAbs:Nat):Int) ((n'.natAbs*d.natAbs:Nat):Int) else cmpI ((n.natAbs*d'.natAbs:Nat):Int) ((n'.natAbs*d.natAbs:Nat):Int))=cmpI (n*d') (n'*d):=by
 have ed:(d.natAbs:Int)=d:=by omega
 have ed':(d'.natAbs:Int)=d':=by omega
 rw[J8,J8,ed,ed']
 by_cases h1:n<0
 ·have h2:n'<0:=by simpa [h1] using h.symm
  rw[if_pos h1]
  have e1:(n.natAbs:Int)=-n:=by omega
  have e2:(n'.natAbs:Int)=-n':=by omega
  rw[e1,e2,Jb,Jb,qjl,Int.neg_neg]
 ·have h2:¬n'<0:=by simpa [h1] using h.symm
  rw[if_neg h1]
  have e1:(n.natAbs:Int)=n:=by omega
  have e2:(n'.natAbs:Int)=n':=by omega
  rw[e1,e2]
theorem qa5 (x y:Int):-1<=cmpI x y/\cmpI x y<=1:=by
 unfold cmpI
 split
 ·decide
 ·split<;>decide
section
variable {w w0:World}
theorem q8k {ba bb b1 b2 bx by':Nat}{c1 c2:List Value}{n d n' d':Int}{K:Int->World->Prop}(hn:I64 n)(hd:I64 d)(hn':I64 n')(hd':I64 d')(pd:0<d)(pd':0<d')
  (m:Mem w0 w [(b1,c1),(b2,c2),(bb,[.int .i64 n',.int .i64 d']),(ba,[.int .i64 n,.int .i64 d])]) (jx jy:Nat)
  (hx:[(b1,c1),(b2,c2),(bb,[.int .i64 n',.int .i64 d']),(ba,[.int .i64 n,.int .i64 d])][jx]?=some (bx,[.bool (decide (n<0)),.int .u64 (n.natAbs:Int),.int .u64 (d.natAbs:Int)]))
  (hy:[(b1,c1),(b2,c2),(bb,[.int .i64 n',.int .i64 d']),(ba,[.int .i64 n,.int .i64 d])][jy]?=some (by',[.bool (decide (n'<0)),.int .u64 (n'.natAbs:Int),.int .u64 (d'.natAbs:Int)]))
  (hK:∀ w',Fr F0 w0 w'->K (cmpI (n*d') (n'*d)) w'):z4d_k0 ⟨ba,0,none⟩ ⟨bb,0,none⟩ ⟨bx,0,none⟩ ⟨by',0,none⟩ K w:=by
 refine⟨?_⟩
 simp -zeta only[q1q,Jh]
 refine⟨_,m.ld jx hx rfl,_,m.ld jy hy rfl,q02.2 ?_⟩
 constructor
 ·intro h
  refine⟨_,m.ld 3,_,m.ld 2,q6e ?_⟩
  rw[qht pd pd' (by simpa using h)]
  exact hK w m.1
 ·intro h
  have hs:decide (n<0)=decide (n'<0):=by simpa using h
  intro w1
  have m:Mem w0 w1 _:=m.drew
  refine⟨fun u=>Rs u _,m.sub 0,_,fun _ h=>h.ld jx hx rfl,_,fun _ h=>h.ld jy hy rfl,_,fun _ h=>h.ld jy hy rfl,_,fun _ h=>h.ld jx hx rfl,q1v hn.abs' hd'.abs' fun w2 hf=>?_⟩
  have m:Mem w0 w2 _:=m.fr hf
  refine⟨m.sub 0,q1v hn'.abs' hd.abs' fun w3 hf=>?_⟩
  have m:Mem w0 w3 _:=m.fr hf
  refine⟨m.sub 0,q7l fun w4 hf=>?_⟩
  have m:Mem w0 w4 _:=m.fr hf
  have hr:=qa5 ((n.natAbs*d'.natAbs:Nat):Int) ((n'.natAbs*d.natAbs:Nat):Int)
  have hc:=qhu pd pd' hs
  refine⟨m.sub 0,_,m.ld jx hx rfl,q00.2 ?_⟩
  constructor
  ·intro h1
   rw[if_pos h1] at hc
   rw[hc]
   have hr2:=qa5 (n*d') (n'*d)
   exact⟨q01,hK w4 m.1⟩
  ·intro h1
   rw[if_neg h1] at hc
   rw[hc]
   exact hK w4 m.1
set_option maxHeartbeats 1000000 in
theorem qet {n d n' d':Int}{K:Int->World->Prop}(hn:I64 n)(hd:I64 d)(hn':I64 n')(hd':I64 d')
  (hK:∀ w',Fr F0 w w'->K (cmpQ n d n' d') w'):z4d_sh n d n' d' K w:=by
 unfold cmpQ at hK
 refine⟨?_⟩
 unfold z4d_sd
 intro w1
 have m:Mem w w1 _:=Mem.nil.alloc
 intro w2
 have m:Mem w w2 _:=m.alloc
 refine⟨_,m.ld 1,_,m.ld 1,_,m.ld 0,_,m.ld 0,qce hn hd hn' hd' fun w4 hf4=>?_⟩
 have m:Mem w w4 _:=m.fr hf4
 by_cases h:q04 n d/\q04 n' d'
 ·rw[if_pos h] at hK
  have e:(!(decide (q04 n d) && decide (q04 n' d')))=false:=by simp[h.1,h.2]
  rw[e,q0h]
  have pd:=h.1.1
  have pd':=h.2.1
  intro w5
  have m:Mem w w5 _:=m.drew
  refine⟨fun u=>Rs u _,m.sub 0,_,fun _ h=>h.ld 1,_,fun _ h=>h.ld 1,_,fun _ h=>h.ld 0,_,fun _ h=>h.ld 0,?_⟩
  repeat' first
   | exact q8k hn hd hn' hd' pd pd' m 0 1 rfl rfl hK
   | exact q8k hn hd hn' hd' pd pd' m 1 0 rfl rfl hK
   | refine⟨m.sub 0,?_⟩
   | refine⟨m.sub 1,?_⟩
   | refine⟨m.sub 2,?_⟩
   | refine⟨m.wr 0,?_⟩
   | refine⟨m.wr 1,?_⟩
   | (refine qb4 hn hd fun w1 hf=>?_; have m:=m.fr hf)
   | (refine qb4 hn' hd' fun w1 hf=>?_; have m:=m.fr hf)
   | (intro w1; have m:Mem w w1 _:=m.alloc; clear_value w1)
   | (intro w1; have m:Mem w w1 _:=m.set 0; clear_value w1)
   | (intro w1; have m:Mem w w1 _:=m.set 1; clear_value w1)
   | refine⟨?_,?_⟩
 ·rw[if_neg h] at hK
  have e:(!(decide (q04 n d) && decide (q04 n' d')))=true:=by
   simp only[Bool.not_eq_true',Bool.and_eq_false_iff,decide_eq_false_iff_not]
   by_cases h1:q04 n d
   ·exact .inr fun h2=>h ⟨h1,h2⟩
   ·exact .inl h1
  rw[e,q17]
  exact hK w4 m.1
theorem qa6 {n d:Int}(hd:0<d):(J5 n d<0->J7 n d-1=n / d)/\(¬J5 n d<0->J7 n d=n / d):=by
 have h1:=J6 n d
 have h2:=Int.emod_add_mul_ediv n d
 have h3:=Int.emod_nonneg n (show d≠0 by omega)
 have h4:=Int.emod_lt_of_pos n hd
 have h5:-d<J5 n d/\J5 n d<d:=by
  have:=J9 n d
  have h7:n.natAbs % d.natAbs<d.natAbs:=Nat.mod_lt _ (by omega)
  rw[← this] at h7
  omega
 generalize J5 n d=r at *
 generalize J7 n d=q at *
 generalize n % d=r' at *
 generalize n / d=q' at *
 have h6:d*(q-q')=r'-r:=by rw[Int.mul_sub]; omega
 constructor
 ·intro hr
  have g1:d*0<d*(q-q'):=by rw[h6]; omega
  have g2:d*(q-q')<d*2:=by rw[h6]; omega
  have:=J0 g1 (by omega)
  have:=J0 g2 (by omega)
  omega
 ·intro hr
  have g1:d*(-1)<d*(q-q'):=by rw[h6]; omega
  have g2:d*(q-q')<d*1:=by rw[h6]; omega
  have:=J0 g1 (by omega)
  have:=J0 g2 (by omega)
  omega
theorem qa7 {n d:Int}{K:Int->World->Prop}(hn:I64 n)(hd:I64 d)(hK:∀ w',Fr F0 w w'->K (q1w n d) w'):z3y_sh n d K w:=by
 unfold q1w at hK
 refine⟨?_⟩
 intro w1
 have m:Mem w w1 _:=Mem.nil.alloc
 refine⟨_,m.ld 0,_,m.ld 0,q56 hn hd fun w2 hf=>?_⟩
 have m:Mem w w2 _:=m.fr hf
 by_cases h:q04 n d
 ·rw[if_pos h] at hK
  rw[decide_eq_true h,Bool.not_true,q0h]
  have hpos:=h.1
  have hb1:n / d<=9223372036854775807/\-9223372036854775808<=n / d:=by
   have a1:=hn.1
   have a2:=hn.2
   constructor
   ·rcases J4 n 0 with hh | hh
    ·have:=J1 hh hpos; omega
    ·have:=Int.ediv_le_self d hh; omega
   ·rw[Int.le_ediv_iff_mul_le hpos]
    have:-9223372036854775808*d<=-9223372036854775808*1:=Int.mul_le_mul_of_nonpos_left (by omega) (by omega)
    omega
  obtain⟨f1,f2⟩:=qa6 (n:=n) hpos
  have hq:I64 (J7 n d):=by
   by_cases hr:J5 n d<0
   ·have h1:=f1 hr
    have h2:n<0:=by
     rcases J4 n 0 with hh | hh
     ·exact hh
     ·have:=Int.tmod_nonneg d hh
      omega
    have h3:=J1 h2 hpos
    unfold I64
    omega
   ·have h1:=f2 hr
    unfold I64
    omega
  refine⟨_,m.ld 0,_,m.ld 0,by omega,q01 hq.1 hq.2,_,m.ld 0,_,m.ld 0,by omega,q00.2 ?_⟩
  constructor
  ·intro hr
   rw[f1 hr]
   exact⟨q01,hK w2 m.1⟩
  ·intro hr
   rw[f2 hr]
   exact hK w2 m.1
 ·rw[if_neg h] at hK
  rw[decide_eq_false h,Bool.not_false,q17]
  exact hK w2 m.1
end
open Go Pw
section
variable {w w0:World}
theorem qa8 (n:Int){m:Int}(hm:0<m):-m<J5 n m/\J5 n m<m:=by
 have:=J9 n m
 have h7:n.natAbs % m.natAbs<m.natAbs:=Nat.mod_lt _ (by omega)
 rw[← this] at h7
 omega
theorem qjm (n:Int){m:Int}(hm:0<m):J5 (J5 n m+m) m=n % m:=by
 obtain⟨h1,h2⟩:=qa8 n hm
 have h3:=J6 n m
 rw[Int.tmod_eq_emod_of_nonneg (by omega),Int.add_emod_right]
 conv=>rhs; rw[← h3]
 rw[Int.add_mul_emod_self_left]
theorem q6i {n m:Int}{K:Int->World->Prop}(hm:0<m)(hm2:m<4611686018427387904)(hK:K (n % m) w):z2f_sh n m K w:=by
 refine⟨?_⟩
 obtain⟨h1,h2⟩:=qa8 n hm
 refine⟨by omega,q01,by omega,?_⟩
 rw[qjm n hm]
 exact hK
end
end Go.Proofs.YtfpobpjandjhjaaGreatDoor
