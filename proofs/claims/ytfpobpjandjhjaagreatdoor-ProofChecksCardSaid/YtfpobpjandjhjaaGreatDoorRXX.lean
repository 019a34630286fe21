/- Products and quotients of words, as the library's code computes them. Conditions: none. -/
import Derived.Test.YtfpobpjandjhjaaGreatDoorCG0
open Int renaming natCast_nonneg->J0
open Nat renaming mod_eq_of_lt->J1,two_pow_pos->J2,div_add_mod->J3,div_le_self->J4,pow_add->J5,div_div_eq_div_mul->J6,mul_le_mul_right->J7,mul_comm->J8,div_mul_le_self->J9,add_mul->Ja,one_mul->Jb,eq_zero_or_pos->Jc,mul_le_mul->Jd,mod_lt->Je
namespace Go.Proofs.YtfpobpjandjhjaaGreatDoor
open Go Pw
def tabL:List Nat:=[0,1,2,2,3,3,3,3,4,4,4,4,4,4,4,4,5,5,5,5,5,5,5,5,5,5,5,5,5,5,5,5,6,6,6,6,6,6,6,6,6,6,6,6,6,6,6,6,6,6,6,6,6,6,6,6,6,6,6,6,6,6,6,6,7,7,7,7,7,7,7,7,7,7,7,7,7,7,7,7,7,7,7,7,7,7,7,7,7,7,7,7,7,7,7,7,7,7,7,7,7,7,7,7,7,7,7,7,7,7,7,7,7,7,7,7,7,7,7,7,7,7,7,7,7,7,7,7,8,8,8,8,8,8,8,8,8,8,8,8,8,8,8,8,8,8,8,8,8,8,8,8,8,8,8,8,8,8,8,8,8,8,8,8,8,8,8,8,8,8,8,8,8,8,8,8,8,8,8,8,8,8,8,8,8,8,8,8,8,8,8,8,8,8,8,8,8,8,8,8,8,8,8,8,8,8,8,8,8,8,8,8,8,8,8,8,8,8,8,8,8,8,8,8,8,8,8,8,8,8,8,8,8,8,8,8,8,8,8,8,8,8,8,8,8,8,8,8,8,8,8,8,8,8,8,8]
theorem qla:∀ x:Fin 256,0<x.val->1<=tabL.getD x.val 0/\tabL.getD x.val 0<=8/\2^(tabL.getD x.val 0-1)<=x.val/\x.val<2^tabL.getD x.val 0:=by decide +kernel
theorem qjj:(str tabL).size=256:=by decide +kernel
theorem tab_at (x:Nat)(h:x<256):((str tabL).data.toList.getD x 0).toNat=tabL.getD x 0:=by
 have:∀ x:Fin 256,((str tabL).data.toList.getD x.val 0).toNat=tabL.getD x.val 0:=by decide +kernel
 exact this ⟨x,h⟩
section
variable {w:World}
theorem q6b {X n x:Nat}{K:Int->World->Prop}(hx:x=X / 2^n)(h0:0<x)(h:x<256)(hn:n<=56)(hK:∀ r:Nat,1<=r->r<=n+8->2^(r-1)<=X->X<2^r->K r w):z42_k2 x n K w:=by
 obtain⟨t1,t2,t3,t4⟩:=qla ⟨x,h⟩ h0
 have ht:=tab_at x h
 have hs:=qjj
 simp only at t1 t2 t3 t4
 refine⟨?_⟩
 have e:((x:Int)).toNat=x:=by omega
 rw[e]
 show inR .u8 (x:Int)/\(0<=(x:Int)/\(x:Int)<(((str tabL).size:Nat):Int))/\inR .i64 ((((str tabL).data.toList.getD x 0).toNat:Nat):Int)/\inR .i64 ((n:Int)+((((str tabL).data.toList.getD x 0).toNat:Nat):Int))/\K ((n:Int)+((((str tabL).data.toList.getD x 0).toNat:Nat):Int)) w
 rw[ht,hs]
 generalize tabL.getD x 0=t at *
 refine⟨?_,⟨by omega,by omega⟩,q01,q01,?_⟩
 ·unfold inR IntKind.wrap
  simp[IntKind.bits,IntKind.signed]
  omega
 ·have:=hK (n+t) (by omega) (by omega) ?_ ?_
  ·rw[Int.natCast_add] at this
   exact this
  ·rw[hx,Nat.le_div_iff_mul_le (J2 _),← J5] at t3
   rw[show n+t-1=t-1+n by omega]
   exact t3
  ·rw[hx,Nat.div_lt_iff_lt_mul (J2 _),← J5] at t4
   rw[show n+t=t+n by omega]
   exact t4
theorem qfw {x:Nat}{K:Int->World->Prop}(h0:0<x)(h:x<18446744073709551616)(hK:∀ r:Nat,1<=r->r<=64->2^(r-1)<=x->x<2^r->K r w):z42_sh x K w:=by
 have fd:∀ (a k:Nat),k<=64->Int.fdiv (a:Int) (2^(min k (IntKind.bits .u64)))=((a / 2^k:Nat):Int):=fun a k hk=>by
  have:=shrN a k hk
  simpa using this
 have s1:∀ {n y:Nat},n<=48->y=x / 2^n->0<y->y<65536->z42_k1 (y:Int) (n:Int) K w:=by
  intro n y hn hy hy0 hyl
  refine⟨q00.2 ?_⟩
  constructor
  ·intro hc
   refine⟨by omega,q01,?_⟩
   rw[fd y 8 (by omega)]
   have e:(n:Int)+8=((n+8:Nat):Int):=by omega
   rw[e]
   refine q6b (X:=x) (by rw[hy,J6,← J5]) (by omega) (by omega) (by omega) fun r h1 h2 h3 h4=>hK r h1 (by omega) h3 h4
  ·intro hc
   exact q6b (X:=x) hy hy0 (by omega) (by omega) fun r h1 h2 h3 h4=>hK r h1 (by omega) h3 h4
 have s0:∀ {n y:Nat},n<=32->y=x / 2^n->0<y->y<4294967296->z42_k0 (y:Int) (n:Int) K w:=by
  intro n y hn hy hy0 hyl
  refine⟨q00.2 ?_⟩
  constructor
  ·intro hc
   refine⟨by omega,q01,?_⟩
   rw[fd y 16 (by omega)]
   have e:(n:Int)+16=((n+16:Nat):Int):=by omega
   rw[e]
   exact s1 (by omega) (by rw[hy,J6,← J5]) (by omega) (by omega)
  ·intro hc
   exact s1 (by omega) hy hy0 (by omega)
 refine⟨q00.2 ?_⟩
 constructor
 ·intro hc
  refine⟨by omega,?_⟩
  rw[fd x 32 (by omega)]
  exact s0 (n:=32) (by omega) rfl (by omega) (by omega)
 ·intro hc
  exact s0 (n:=0) (by omega) (by simp) (by omega) (by omega)
theorem q5q {x:Nat}{K:Int->World->Prop}(h0:0<x)(h:x<18446744073709551616)(hK:∀ s:Nat,s<=63->9223372036854775808<=x*2^s->x*2^s<18446744073709551616->K s w):z11_sh x K w:=by
 refine⟨qfw h0 h fun r h1 h2 h3 h4=>⟨q01,?_⟩⟩
 have e:(64:Int)-(r:Int)=((64-r:Nat):Int):=by omega
 rw[e]
 refine hK (64-r) (by omega) ?_ ?_
 ·have:2^(r-1)*2^(64-r)<=x*2^(64-r):=J7 _ h3
  rw[← J5,show r-1+(64-r)=63 by omega] at this
  exact this
 ·have:x*2^(64-r)<2^r*2^(64-r):=Nat.mul_lt_mul_of_pos_right h4 (J2 _)
  rw[← J5,show r+(64-r)=64 by omega] at this
  exact this
theorem qa1 {x y:Nat}{K:Int->Int->World->Prop}(hx:x<18446744073709551616)(hy:y<18446744073709551616)
  (hK:K ((x*y / 18446744073709551616:Nat):Int) ((x*y % 18446744073709551616:Nat):Int) w):z44_sh x y K w:=by
 obtain⟨bd,bt,bw,hhi⟩:=Lib.mul64_hi x y hx hy
 have ba:=Lib.half_mul_le (a:=x / 4294967296) (b:=y / 4294967296) (by omega) (by omega)
 have bb:=Lib.half_mul_le (a:=x / 4294967296) (b:=y % 4294967296) (by omega) (by omega)
 have bc:=Lib.half_mul_le (a:=x % 4294967296) (b:=y / 4294967296) (by omega) (by omega)
 refine⟨⟨by omega,by omega,by omega,by omega,by omega,?_⟩⟩
 simp only[shr32,qhf x hx,qhf y hy,mulN,addN,wu64,q7i]
 generalize hA:x / 4294967296*(y / 4294967296)=A at *
 generalize hB:x / 4294967296*(y % 4294967296)=B at *
 generalize hC:x % 4294967296*(y / 4294967296)=C at *
 generalize hD:x % 4294967296*(y % 4294967296)=D at *
 have e1:D % 18446744073709551616=D:=J1 bd
 have e2:B % 18446744073709551616=B:=J1 (by omega)
 have e3:C % 18446744073709551616=C:=J1 (by omega)
 have e4:A % 18446744073709551616=A:=J1 (by omega)
 have e5:(B+D / 4294967296) % 18446744073709551616=B+D / 4294967296:=J1 bt
 simp only[e1,e2,e3,e4,e5,qhf _ bt,q7i]
 generalize x*y=P at *
 have h1:((A+(B+D / 4294967296) / 4294967296) % 18446744073709551616+((B+D / 4294967296) % 4294967296+C) % 18446744073709551616 / 4294967296) % 18446744073709551616=P / 18446744073709551616:=by
  rw[← hhi]
  clear hhi hK
  omega
 rw[h1]
 exact hK
end
open Go Pw
section
variable {w:World}
theorem q6c {Y s d0 q1 u2 q0:Nat}{K:Int->Int->World->Prop}(hs:s<=64)(hY:Y<18446744073709551616)(h1:q0*Y<=u2*4294967296+d0)(h2:u2*4294967296+d0<(q0+1)*Y)(hu:u2<Y)(hd:d0<4294967296)(hq1:q1<4294967296)
  (hK:∀ R:Nat,u2*4294967296+d0=q0*Y+R->R<Y->K ((q1*4294967296+q0:Nat):Int) ((R / 2^s:Nat):Int) w):z41_k5 Y s d0 q1 u2 q0 K w:=by
 have hlt:=kn_lt h1 hu hd
 rw[Ja,Jb] at h2
 obtain⟨R,hR⟩:∃ R,u2*4294967296+d0=q0*Y+R:=⟨u2*4294967296+d0-q0*Y,by omega⟩
 have hRY:R<Y:=by omega
 refine⟨by omega,?_⟩
 rw[qhi hR (by omega),shrN _ _ hs]
 have e:IntKind.wrap .u64 (IntKind.wrap .u64 ((q1:Int)*4294967296)+(q0:Int))=((q1*4294967296+q0:Nat):Int):=by
  rw[q25 (n:=(q1:Int)*4294967296) (by omega) (by omega),q25 (by omega) (by omega)]
  omega
 rw[e]
 exact hK R hR hRY
theorem qb0 {Y s y1 y0 d0 q1 u2:Nat}{K:Int->Int->World->Prop}(hs:s<=64)(hYe:Y=y1*4294967296+y0)(hy0:y0<4294967296)(hy1:2147483648<=y1)(hy1':y1<4294967296)(hu:u2<Y)(hd:d0<4294967296)(hq1:q1<4294967296)
  (hK:∀ q0 R:Nat,u2*4294967296+d0=q0*Y+R->R<Y->K ((q1*4294967296+q0:Nat):Int) ((R / 2^s:Nat):Int) w):z41_l3 Y s y1 y0 d0 q1 ((u2 % y1:Nat):Int) u2 ((u2 / y1:Nat):Int) K w:=by
 have hY:Y<18446744073709551616:=by omega
 refine⟨⟨fun rh q w'=>∃ q' r':Nat,rh=r'/\q=q'/\q'*y1+r'=u2/\r'<4294967296/\q'<=4294967297/\u2*4294967296+d0<(q'+1)*Y/\w'=w,fun _ q _=>q.toNat,⟨u2 / y1,u2 % y1,rfl,rfl,?_,?_,qem hYe hy0 hy1 hu,qen hYe (by omega) hd,rfl⟩,?_⟩⟩
 ·have:=J3 u2 y1
  rw[J8] at this
  exact this
 ·have:=Je u2 (show 0<y1 by omega)
  omega
 ·rintro rh q w1 ⟨q,r,rfl,rfl,hqr,hr,hq,hN,rfl⟩
  have hgo:u2*4294967296+d0<q*Y->z41_k4 Y s y1 y0 d0 q1 r u2 q (fun (y_2':Int) (s_8':Int) (yn1_9':Int) (yn0_10':Int) (un0_14':Int) (q1_15':Int) (rhat_16':Int) (un21_17':Int) (q0_18':Int) (w':World)=>((y_2'=(Y:Int)/\s_8'=(s:Int)/\yn1_9'=(y1:Int)/\yn0_10'=(y0:Int)/\un0_14'=(d0:Int)/\q1_15'=(q1:Int)/\un21_17'=(u2:Int)/\True)/\(∃ q' r':Nat,rhat_16'=r'/\q0_18'=q'/\q'*y1+r'=u2/\r'<4294967296/\q'<=4294967297/\u2*4294967296+d0<(q'+1)*Y/\w'=w1))/\q0_18'.toNat<(q:Int).toNat) K w1:=by
   intro hlt
   have hq0:0<q:=by
    rcases Jc q with h | h
    ·subst h; omega
    ·exact h
   obtain⟨p,rfl⟩:∃ p,q=p+1:=⟨q-1,by omega⟩
   have e1:IntKind.wrap .u64 (((p+1:Nat):Int)-1)=(p:Int):=by rw[q25 (by omega) (by omega)]; omega
   have e2:IntKind.wrap .u64 ((r:Int)+(y1:Int))=((r+y1:Nat):Int):=by rw[q25 (by omega) (by omega)]; omega
   have hpr:p*y1+(r+y1)=u2:=by
    rw[Ja,Jb] at hqr
    omega
   refine⟨?_⟩
   rw[e1,e2,q00]
   constructor
   ·intro hb
    exact q6c hs hY (qel hYe hy0 hpr (by omega) (by omega)) hlt hu hd hq1 (hK p)
   ·intro hb
    exact⟨⟨⟨rfl,rfl,rfl,rfl,rfl,rfl,rfl,trivial⟩,p,r+y1,rfl,rfl,hpr,by omega,by omega,hlt,rfl⟩,by omega⟩
  unfold z41_b3
  refine q00.2 ?_
  constructor
  ·intro hc
   exact hgo (qjg hYe hqr hu hd (.inl (by omega)))
  ·intro hc
   have hqlt:q<4294967296:=by omega
   have hprod:q*y0<=4294967295*4294967295:=Jd (by omega) (by omega)
   have e3:IntKind.wrap .u64 ((q:Int)*(y0:Int))=((q*y0:Nat):Int):=by
    rw[mulN,wu64,J1 (by omega)]
   have e4:IntKind.wrap .u64 (IntKind.wrap .u64 ((4294967296:Int)*(r:Int))+(d0:Int))=((4294967296*r+d0:Nat):Int):=by
    rw[q25 (n:=(4294967296:Int)*(r:Int)) (by omega) (by omega),q25 (by omega) (by omega)]
    omega
   rw[e3,e4,q00]
   constructor
   ·intro hc2
    exact hgo (qjg hYe hqr hu hd (.inr (by omega)))
   ·intro hc2
    exact q6c hs hY (qdo hYe hqr (by omega)) hN hu hd hq1 (hK q)
theorem q6d {Y s y1 y0 u d1 d0 q1:Nat}{K:Int->Int->World->Prop}(hs:s<=64)(hYe:Y=y1*4294967296+y0)(hy0:y0<4294967296)(hy1:2147483648<=y1)(hy1':y1<4294967296)(hu:u<Y)(hd1:d1<4294967296)(hd:d0<4294967296)
  (h1:q1*Y<=u*4294967296+d1) (h2:u*4294967296+d1<(q1+1)*Y)
  (hK:∀ R:Nat,(u*18446744073709551616+(d1*4294967296+d0)) % Y=R->K (((u*18446744073709551616+(d1*4294967296+d0)) / Y:Nat):Int) ((R / 2^s:Nat):Int) w):z41_k2 Y s y1 y0 u d1 d0 q1 K w:=by
 have hlt:=kn_lt h1 hu hd1
 rw[Ja,Jb] at h2
 obtain⟨u2,hu2⟩:∃ R,u*4294967296+d1=q1*Y+R:=⟨u*4294967296+d1-q1*Y,by omega⟩
 have hu2Y:u2<Y:=by omega
 refine⟨?_⟩
 rw[qhi hu2 (by omega),q2y]
 have hdm:=J3 u2 y1
 have hle:u2 / y1*y1<=u2:=J9 _ _
 have e:IntKind.wrap .u64 ((u2:Int)-IntKind.wrap .u64 (((u2 / y1:Nat):Int)*(y1:Int)))=((u2 % y1:Nat):Int):=by
  rw[mulN,wu64,J1 (by omega)]
  rw[J8 y1] at hdm
  rw[q25 (n:=(u2:Int)-((u2 / y1*y1:Nat):Int)) (by omega) (by omega)]
  omega
 rw[e]
 refine⟨by omega,inRu (J0 _) (by have:=J4 u2 y1; omega),qb0 hs hYe hy0 hy1 hy1' hu2Y hd hlt fun q0 R hR hRY=>?_⟩
 obtain⟨k1,k2⟩:=kn_two hu2 hR hRY
 have:=hK R k2
 rw[k1] at this
 exact this
theorem qb1 {Y s y1 y0 u d1 d0:Nat}{K:Int->Int->World->Prop}(hs:s<=64)(hYe:Y=y1*4294967296+y0)(hy0:y0<4294967296)(hy1:2147483648<=y1)(hy1':y1<4294967296)(hu:u<Y)(hd1:d1<4294967296)(hd:d0<4294967296)
  (hK:∀ R:Nat,(u*18446744073709551616+(d1*4294967296+d0)) % Y=R->K (((u*18446744073709551616+(d1*4294967296+d0)) / Y:Nat):Int) ((R / 2^s:Nat):Int) w):z41_l0 Y s y1 y0 u d1 d0 ((u / y1:Nat):Int) ((u % y1:Nat):Int) K w:=by
 have hY:Y<18446744073709551616:=by omega
 refine⟨⟨fun q rh w'=>∃ q' r':Nat,rh=r'/\q=q'/\q'*y1+r'=u/\r'<4294967296/\q'<=4294967297/\u*4294967296+d1<(q'+1)*Y/\w'=w,fun q _ _=>q.toNat,⟨u / y1,u % y1,rfl,rfl,?_,?_,qem hYe hy0 hy1 hu,qen hYe (by omega) hd1,rfl⟩,?_⟩⟩
 ·have:=J3 u y1
  rw[J8] at this
  exact this
 ·have:=Je u (show 0<y1 by omega)
  omega
 ·rintro q rh w1 ⟨q,r,rfl,rfl,hqr,hr,hq,hN,rfl⟩
  have hgo:u*4294967296+d1<q*Y->z41_k1 Y s y1 y0 u d1 d0 q r (fun (y_2':Int) (s_8':Int) (yn1_9':Int) (yn0_10':Int) (un32_11':Int) (un1_13':Int) (un0_14':Int) (q1_15':Int) (rhat_16':Int) (w':World)=>((y_2'=(Y:Int)/\s_8'=(s:Int)/\yn1_9'=(y1:Int)/\yn0_10'=(y0:Int)/\un32_11'=(u:Int)/\un1_13'=(d1:Int)/\un0_14'=(d0:Int)/\True)/\(∃ q' r':Nat,rhat_16'=r'/\q1_15'=q'/\q'*y1+r'=u/\r'<4294967296/\q'<=4294967297/\u*4294967296+d1<(q'+1)*Y/\w'=w1))/\q1_15'.toNat<(q:Int).toNat) K w1:=by
   intro hlt
   have hq0:0<q:=by
    rcases Jc q with h | h
    ·subst h; omega
    ·exact h
   obtain⟨p,rfl⟩:∃ p,q=p+1:=⟨q-1,by omega⟩
   have e1:IntKind.wrap .u64 (((p+1:Nat):Int)-1)=(p:Int):=by rw[q25 (by omega) (by omega)]; omega
   have e2:IntKind.wrap .u64 ((r:Int)+(y1:Int))=((r+y1:Nat):Int):=by rw[q25 (by omega) (by omega)]; omega
   have hpr:p*y1+(r+y1)=u:=by
    rw[Ja,Jb] at hqr
    omega
   refine⟨?_⟩
   rw[e1,e2,q00]
   constructor
   ·intro hb
    exact q6d hs hYe hy0 hy1 hy1' hu hd1 hd (qel hYe hy0 hpr (by omega) (by omega)) hlt hK
   ·intro hb
    exact⟨⟨⟨rfl,rfl,rfl,rfl,rfl,rfl,rfl,trivial⟩,p,r+y1,rfl,rfl,hpr,by omega,by omega,hlt,rfl⟩,by omega⟩
  unfold z41_b0
  refine q00.2 ?_
  constructor
  ·intro hc
   exact hgo (qjg hYe hqr hu hd1 (.inl (by omega)))
  ·intro hc
   have hqlt:q<4294967296:=by omega
   have hprod:q*y0<=4294967295*4294967295:=Jd (by omega) (by omega)
   have e3:IntKind.wrap .u64 ((q:Int)*(y0:Int))=((q*y0:Nat):Int):=by
    rw[mulN,wu64,J1 (by omega)]
   have e4:IntKind.wrap .u64 (IntKind.wrap .u64 ((4294967296:Int)*(r:Int))+(d1:Int))=((4294967296*r+d1:Nat):Int):=by
    rw[q25 (n:=(4294967296:Int)*(r:Int)) (by omega) (by omega),q25 (by omega) (by omega)]
    omega
   rw[e3,e4,q00]
   constructor
   ·intro hc2
    exact hgo (qjg hYe hqr hu hd1 (.inr (by omega)))
   ·intro hc2
    exact q6d hs hYe hy0 hy1 hy1' hu hd1 hd (qdo hYe hqr (by omega)) hN hK
end
open Go Pw
section
variable {w:World}
theorem qfx {hi lo y:Nat}{K:Int->Int->World->Prop}(hy:hi<y)(hy64:y<18446744073709551616)(hlo:lo<18446744073709551616)
  (hK:∀ w',Fr F0 w w'->K (((hi*18446744073709551616+lo) / y:Nat):Int) (((hi*18446744073709551616+lo) % y:Nat):Int) w'):z41_sh hi lo y K w:=by
 refine⟨q09.2 ?_⟩
 refine⟨fun h=>by omega,fun _=>q00.2 ?_⟩
 refine⟨fun h=>by omega,fun _=>q09.2 ?_⟩
 refine⟨fun h=>?_,fun h=>?_⟩
 ·have h0:hi=0:=by omega
  subst h0
  have e:0*18446744073709551616+lo=lo:=by omega
  rw[e] at hK
  refine⟨by omega,?_,by omega,?_⟩
  ·rw[q2y]
   exact inRu (J0 _) (by have:=J4 lo y; omega)
  ·exact hK _ Fr.drew
 ·refine q5q (by omega) hy64 fun s hs h1 h2=>?_
  obtain⟨o1,o2,_⟩:=qca (s:=s) (by omega) hy h2 hlo
  have ew:IntKind.wrap .u64 (s:Int)=(s:Int):=q25 (by omega) (by omega)
  have ew2:IntKind.wrap .u64 ((64:Int)-(s:Int))=((64-s:Nat):Int):=by rw[q25 (by omega) (by omega)]; omega
  have hhi:hi*2^s<18446744073709551616:=by
   have:hi*2^s<=y*2^s:=J7 _ (by omega)
   omega
  have hl2:lo / 2^(64-s)<18446744073709551616:=by
   have:=J4 lo (2^(64-s))
   omega
  simp only[ew,ew2,shlN _ s (show s<=64 by omega),shrN _ (64-s) (show 64-s<=64 by omega),J1 h2,J1 hhi,orN _ _ hhi hl2,o1,shr32]
  have hml:lo*2^s % 18446744073709551616<18446744073709551616:=Je _ (by omega)
  generalize hY:y*2^s=Y at *
  generalize hu:hi*2^s+lo / 2^(64-s)=u at *
  generalize hd:lo*2^s % 18446744073709551616=d at *
  simp only[ql8 Y (by omega),ql8 d hml,q2y]
  have hdm:=J3 u (Y / 4294967296)
  have hle:u / (Y / 4294967296)*(Y / 4294967296)<=u:=J9 _ _
  have e:IntKind.wrap .u64 ((u:Int)-IntKind.wrap .u64 (((u / (Y / 4294967296):Nat):Int)*((Y / 4294967296:Nat):Int)))=((u % (Y / 4294967296):Nat):Int):=by
   rw[mulN,wu64,J1 (by omega)]
   rw[J8 (Y / 4294967296)] at hdm
   rw[q25 (n:=(u:Int)-((u / (Y / 4294967296)*(Y / 4294967296):Nat):Int)) (by omega) (by omega)]
   omega
  rw[e]
  refine⟨by omega,by omega,by omega,by omega,by omega,by omega,by omega,inRu (J0 _) (by have:=J4 u (Y / 4294967296); omega),qb1 (by omega) (by omega) (by omega) (by omega) (by omega) o2 (by omega) (by omega) fun R hR=>?_⟩
  have ed:d / 4294967296*4294967296+d % 4294967296=d:=Nat.div_add_mod' d 4294967296
  have o3:=(qca (s:=s) (by omega) hy (by rw[hY]; exact h2) hlo).2.2
  rw[hu,hd] at o3
  rw[ed] at hR ⊢
  rw[o3] at hR ⊢
  have hp:0<2^s:=J2 s
  rw[← hY] at hR ⊢
  rw[Nat.mul_div_mul_right _ _ hp]
  rw[Nat.mul_mod_mul_right] at hR
  rw[← hR,Nat.mul_div_cancel _ hp]
  exact hK w Fr.refl
end
end Go.Proofs.YtfpobpjandjhjaaGreatDoor
