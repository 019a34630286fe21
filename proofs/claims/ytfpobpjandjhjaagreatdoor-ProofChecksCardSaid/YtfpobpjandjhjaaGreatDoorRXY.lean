/- The small functions of package ratio: sizes, the greatest common divisor, a number in lowest terms. Conditions: none. -/
import Derived.Test.YtfpobpjandjhjaaGreatDoorRXX
import Derived.Test.YtfpobpjandjhjaaGreatDoorPwR
open Int renaming natCast_nonneg->J0,toNat_natCast->J1,lt_or_le->J2
open Nat renaming div_lt_iff_lt_mul->J3,mod_lt->J4,div_le_self->J5,zero_add->J6,gcd->J7,div_add_mod'->J8,div_eq_of_lt->J9,mod_eq_of_lt->Ja,gcd_comm->Jb
namespace Go.Proofs.YtfpobpjandjhjaaGreatDoor
open Go Pw
def I64 (n:Int):Prop:=-9223372036854775808<=n/\n<9223372036854775808
section
variable {w:World}
theorem q4n {n:Int}{K:Int->World->Prop}(h:I64 n)(hK:K (n.natAbs:Int) w):z49_sh n K w:=by
 obtain⟨h1,h2⟩:=h
 refine⟨q00.2 ?_⟩
 constructor
 ·intro hn
  have e:IntKind.wrap .u64 ((0:Int)-IntKind.wrap .u64 n)=(n.natAbs:Int):=by
   simp only[q2x]
   omega
  rw[e]
  exact hK
 ·intro hn
  have e:IntKind.wrap .u64 n=(n.natAbs:Int):=by
   simp only[q2x]
   omega
  rw[e]
  exact hK
theorem q55 {a b:Nat}{K:Int->World->Prop}(hK:∀ w',Fr F0 w w'->K ((J7 a b:Nat):Int) w'):z4f_sh a b K w:=by
 refine⟨⟨fun x y w'=>∃ m n:Nat,x=m/\y=n/\J7 m n=J7 a b/\Fr F0 w w',fun _ y _=>y.toNat,⟨a,b,rfl,rfl,rfl,Fr.refl⟩,?_⟩⟩
 rintro x y w1 ⟨m,n,rfl,rfl,hg,hf⟩
 unfold z4f_b0
 refine q00.2 ?_
 constructor
 ·intro h
  refine⟨by omega,⟨trivial,n,m % n,rfl,rfl,?_,hf.trans (G:=F0) Fr.drew fun b hb _=>hb⟩,?_⟩
  ·rw[← hg,Jb n,← Nat.gcd_rec,Jb]
  ·rw[qhg]
   have:=J4 m (show 0<n by omega)
   show((m % n:Nat):Int).toNat<(n:Int).toNat
   rw[J1,J1]
   exact this
 ·intro h
  have h0:n=0:=by omega
  subst h0
  rw[Nat.gcd_zero_right] at hg
  rw[hg]
  exact hK w1 hf
theorem zero_spec {K:Int->Int->World->Prop}(hK:∀ w',Fr F0 w w'->K 0 1 w'):z4a_sh K w:=by
 refine⟨?_⟩
 intro w1
 have m:Mem w w1 _:=Mem.nil.alloc
 refine⟨m.wr 0,?_⟩
 intro w2
 have m:Mem w w2 _:=m.set 0
 refine⟨m.wr 0,?_⟩
 intro w3
 have m:Mem w w3 _:=m.set 0
 exact⟨_,m.ld 0,_,m.ld 0,hK w3 m.1⟩
def Kr (K:Int->Int->Bool->World->Prop)(r:RR)(w:World):Prop:=K r.n r.d r.ok w
theorem q4o {n:Int}(h:I64 n):IntKind.wrap .i64 n=n:=q8d h.1 h.2
theorem q38 {w0:World}{l:List (Nat × List Value)}{b:Nat}{x y:Value}{K:Int->Int->Bool->World->Prop}(m:Mem w0 w l)(j:Nat)(hj:l[j]?=some (b,[x,y]))(hK:∀ w',Fr F0 w0 w'->K 0 1 false w'):z4g_k0 ⟨b,0,none⟩ K w:=by
 refine⟨zero_spec fun w1 hf=>?_⟩
 have m:Mem w0 w1 _:=m.fr hf
 have hlt:j<l.length:=(List.getElem?_eq_some_iff.1 hj).1
 simp -zeta only[q1q,J6]
 refine⟨m.wr j hj rfl,?_⟩
 intro w2
 have m:Mem w0 w2 _:=m.set j hj
 refine⟨m.wr j (cs:=[Value.int .i64 0,y]) (by simp[hlt]) rfl,?_⟩
 intro w3
 have m:Mem w0 w3 _:=m.set j (cs:=[Value.int .i64 0,y]) (by simp[hlt])
 exact⟨_,m.ld j (cs:=[Value.int .i64 0,Value.int .i64 1]) (by simp[hlt]) rfl,_,m.ld j (cs:=[Value.int .i64 0,Value.int .i64 1]) (by simp[hlt]) rfl,hK w3 m.1⟩
theorem q8h {w0:World}{d:Nat}{num x0 x1:Value}{n:Int}{bd bt:Nat}{l:List (Nat × List Value)}{K:Int->Int->Bool->World->Prop}(m:Mem w0 w l)(jd jt:Nat)(hd:l[jd]?=some (bd,[num,.int .u64 d]))(ht:l[jt]?=some (bt,[x0,x1]))(hlt:d<9223372036854775808)
  (hK:∀ w',Fr F0 w0 w'->K n d true w'):z4g_k2 ⟨bd,0,none⟩ ⟨bt,0,none⟩ n K w:=by
 refine⟨?_⟩
 have hl:jt<l.length:=(List.getElem?_eq_some_iff.1 ht).1
 simp -zeta only[q1q,J6]
 refine⟨_,m.ld jd hd rfl,m.wr jt ht rfl,?_⟩
 intro w2
 have m:Mem w0 w2 _:=m.set jt ht
 refine⟨m.wr jt (cs:=[Value.int .i64 n,x1]) (by simp[hl]) rfl,?_⟩
 intro w3
 have m:Mem w0 w3 _:=m.set jt (cs:=[Value.int .i64 n,x1]) (by simp[hl])
 refine⟨_,m.ld jt (cs:=[Value.int .i64 n,Value.int .i64 (IntKind.wrap .i64 d)]) (by simp[hl]) rfl,_,m.ld jt (cs:=[Value.int .i64 n,Value.int .i64 (IntKind.wrap .i64 d)]) (by simp[hl]) rfl,?_⟩
 rw[q4o ⟨by omega,by omega⟩]
 exact hK w3 m.1
theorem qb3 {neg:Bool}{n d:Nat}{K:Int->Int->Bool->World->Prop}(hK:∀ w',Fr F0 w w'->Kr K (ratI neg n d) w') :
  z4g_sh neg ((n / 18446744073709551616:Nat):Int) ((n % 18446744073709551616:Nat):Int) ((d / 18446744073709551616:Nat):Int) ((d % 18446744073709551616:Nat):Int) K w:=by
 have bad:¬(d<9223372036854775808/\(n<9223372036854775808\/n=9223372036854775808/\neg=true))->∀ w',Fr F0 w w'->K 0 1 false w':=by
  intro h w' hf
  have:=hK w' hf
  unfold ratI at this
  rw[if_neg h] at this
  exact this
 have good:(d<9223372036854775808/\(n<9223372036854775808\/n=9223372036854775808/\neg=true))->∀ w',Fr F0 w w'->K (if neg then -(n:Int) else n) d true w':=by
  intro h w' hf
  have:=hK w' hf
  unfold ratI at this
  rw[if_pos h] at this
  exact this
 have hn1:n / 18446744073709551616*18446744073709551616+n % 18446744073709551616=n:=J8 _ _
 have hd1:d / 18446744073709551616*18446744073709551616+d % 18446744073709551616=d:=J8 _ _
 have hn2:n % 18446744073709551616<18446744073709551616:=J4 _ (by omega)
 have hd2:d % 18446744073709551616<18446744073709551616:=J4 _ (by omega)
 generalize hna:n / 18446744073709551616=na at *
 generalize hnb:n % 18446744073709551616=nb at *
 generalize hda:d / 18446744073709551616=da at *
 generalize hdb:d % 18446744073709551616=db at *
 clear hna hnb hda hdb
 refine⟨?_⟩
 intro w1
 have m:Mem w w1 _:=Mem.nil.alloc
 intro w2
 have m:Mem w w2 _:=m.alloc
 intro w3
 have m:Mem w w3 _:=m.alloc
 refine⟨_,m.ld 2,q00.2 ?_⟩
 refine⟨fun h=>q38 m 0 rfl (bad (by omega)),fun h1=>⟨_,m.ld 1,q00.2 ?_⟩⟩
 refine⟨fun h=>q38 m 0 rfl (bad (by omega)),fun h2=>?_⟩
 have h1':na=0:=by omega
 have h2':da=0:=by omega
 subst h1'
 subst h2'
 simp only[Nat.zero_mul,J6] at hn1 hd1
 subst hn1
 subst hd1
 refine⟨_,m.ld 1,q00.2 ?_⟩
 refine⟨fun h=>q38 m 0 rfl (bad (by omega)),fun h3=>⟨_,m.ld 2,q00.2 ?_⟩⟩
 refine⟨fun h=>q38 m 0 rfl (bad (by omega)),fun h4=>?_⟩
 have k1:(nb<9223372036854775808\/nb=9223372036854775808/\neg=true)->z4g_k1 neg ⟨w.heap.size,0,none⟩ ⟨w1.heap.size,0,none⟩ ⟨w2.heap.size,0,none⟩ K w3:=by
  intro hfit
  refine⟨?_⟩
  simp -zeta only[q1q,J6]
  refine⟨_,m.ld 2,?_⟩
  have hg:=good ⟨by omega,hfit⟩
  cases neg
  ·rw[q0h]
   refine q8h m 1 0 rfl rfl (by omega) ?_
   rw[q4o ⟨by omega,by simp at hfit; omega⟩]
   exact hg
  ·rw[q17]
   refine q8h m 1 0 rfl rfl (by omega) ?_
   have e:IntKind.wrap .i64 ((0:Int)-IntKind.wrap .i64 (nb:Int))=-(nb:Int):=by
    rcases hfit with hfit | ⟨rfl,_⟩
    ·rw[q4o (n:=(nb:Int)) ⟨by omega,by omega⟩,q4o ⟨by omega,by omega⟩]
     omega
    ·decide
   rw[e]
   exact hg
 refine⟨_,m.ld 2,q09.2 ?_⟩
 refine⟨fun h=>?_,fun h5=>k1 (.inl (by omega))⟩
 cases neg
 ·rw[Bool.not_false,q17]
  exact q38 m 0 rfl (bad (by simp; omega))
 ·rw[Bool.not_true,q0h]
  exact k1 (.inr ⟨by omega,rfl⟩)
end
open Go Pw
section
variable {w:World}
theorem q56 {n d:Int}{K:Bool->World->Prop}(hn:I64 n)(hd:I64 d)(hK:∀ w',Fr F0 w w'->K (decide (q04 n d)) w'):z3z_sh n d K w:=by
 refine⟨?_⟩
 intro w1
 have m:Mem w w1 _:=Mem.nil.alloc
 intro w2
 have m:Mem w w2 _:=m.drew
 refine⟨fun u=>Rs u _,m.sub 0,⟨_,fun _ h=>h.ld 0,q00.2 ?_⟩⟩
 constructor
 ·intro h0
  obtain⟨D,rfl⟩:∃ D:Nat,d=D:=⟨d.natAbs,by omega⟩
  refine⟨_,fun _ h=>h.ld 0,_,fun _ h=>h.ld 0,⟨inRu (by omega) (by have:=hd.2; omega),q4n hn ⟨m.sub 0,q55 fun w3 hf=>⟨(m.fr hf).sub 0,?_⟩⟩⟩⟩
  have:=hK w3 (m.fr hf).1
  have e2:((((n.natAbs).gcd D:Nat):Int) == 1)=decide (q04 n D):=by
   rw[Bool.eq_iff_iff]
   simp only[beq_iff_eq,decide_eq_true_eq]
   unfold q04
   rw[Int.natAbs_natCast]
   constructor
   ·intro h; exact⟨by omega,by omega⟩
   ·intro h; have:=h.2; omega
  rw[e2]
  exact this
 ·intro h0
  have:=hK w2 m.1
  rw[decide_eq_false (fun h=>h0 (by have:=h.1; omega))] at this
  exact this
theorem qce {n d n' d':Int}{K:Bool->World->Prop}(hn:I64 n)(hd:I64 d)(hn':I64 n')(hd':I64 d')(hK:∀ w',Fr F0 w w'->K (decide (q04 n d) && decide (q04 n' d')) w'):z48_sh n d n' d' K w:=by
 refine⟨?_⟩
 intro w1
 have m:Mem w w1 _:=Mem.nil.alloc
 intro w2
 have m:Mem w w2 _:=m.alloc
 refine⟨_,m.ld 1,_,m.ld 1,q56 hn hd fun w3 hf=>?_⟩
 have m:Mem w w3 _:=m.fr hf
 cases hr:decide (q04 n d)
 ·rw[q0h]
  have:=hK w3 m.1
  rw[hr] at this
  exact this
 ·rw[q17]
  refine⟨_,m.ld 0,_,m.ld 0,q56 hn' hd' fun w4 hf=>?_⟩
  have:=hK w4 (m.fr hf).1
  rw[hr] at this
  exact this
theorem qcf {neg:Bool}{n d:Nat}{K:Int->Int->Bool->World->Prop}(hn:n<18446744073709551616)(hd:d<18446744073709551616)(hK:∀ w',Fr F0 w w'->Kr K (ratI neg n d) w') :
  z4g_sh neg 0 (n:Int) 0 (d:Int) K w:=by
 have:=qb3 (neg:=neg) (n:=n) (d:=d) hK
 rw[J9 hn,J9 hd,Ja hn,Ja hd] at this
 exact this
theorem qdq {neg:Bool}{n d:Nat}{K:Int->Int->Bool->World->Prop}(hn:n<18446744073709551616)(hd:0<d)(hd':d<18446744073709551616)
  (hK:∀ w',Fr F0 w w'->Kr K (fitQ (mkRat (sgn neg n) d)) w'):z3l_sh neg n d K w:=by
 have hg:0<J7 n d:=Nat.gcd_pos_of_pos_right n hd
 have b1:=J5 n (J7 n d)
 have b2:=J5 d (J7 n d)
 have key:∀ ng:Bool,ng=(neg && decide (0<n))->ratI ng (n / J7 n d) (d / J7 n d)=fitQ (mkRat (sgn neg n) d):=by
  intro ng hng
  rw[q53 ng n d (by omega)]
  have:sgn ng n=sgn neg n:=by
   subst hng
   cases neg
   ·rfl
   ·by_cases h:0<n
    ·simp[h]
    ·have:n=0:=by omega
     subst this
     rfl
  rw[this]
 refine⟨?_⟩
 intro w1
 have m:Mem w w1 _:=Mem.nil.alloc
 intro w2
 have m:Mem w w2 _:=m.alloc
 refine⟨_,m.ld 1,_,m.ld 1,q55 fun w3 hf=>?_⟩
 have m:Mem w w3 _:=m.fr hf
 intro w4
 have m:Mem w w4 _:=m.drew
 refine⟨fun u=>Rs u _,m.sub 0,⟨_,fun _ h=>h.ld 1,_,fun _ h=>h.ld 1,?_⟩⟩
 have q1:inR .u64 (Int.tdiv (n:Int) ((J7 n d:Nat):Int)):=by
  rw[q2y]; exact inRu (J0 _) (by omega)
 have q2:inR .u64 (Int.tdiv (d:Int) ((J7 n d:Nat):Int)):=by
  rw[q2y]; exact inRu (J0 _) (by omega)
 refine⟨by omega,q1,_,fun _ h=>h.ld 1,by omega,q2,?_⟩
 simp -zeta only[q2y]
 cases neg
 ·rw[q0h]
  refine qcf (by omega) (by omega) fun w5 hf=>?_
  have m:Mem w w5 _:=m.fr hf
  refine⟨m.sub 0,q5p m 0 rfl fun w6 hf6=>?_⟩
  have:=hK w6 hf6
  rw[← key false (by simp)] at this
  exact this
 ·rw[q17]
  refine⟨_,fun _ h=>h.ld 1,qcf (by omega) (by omega) fun w5 hf=>?_⟩
  have m:Mem w w5 _:=m.fr hf
  refine⟨m.sub 0,q5p m 0 rfl fun w6 hf6=>?_⟩
  have:=hK w6 hf6
  rw[← key (decide ((n:Int)>0)) (by simp)] at this
  exact this
theorem qho {n d:Int}{K:Int->Int->Bool->World->Prop}(hn:I64 n)(hd:I64 d)
  (hK:∀ w',Fr F0 w w'->Kr K (if d=0 then zr else fitQ (Rat.divInt n d)) w'):z47_sh n d K w:=by
 refine⟨?_⟩
 intro w1
 have m:Mem w w1 _:=Mem.nil.alloc
 refine q09.2 ?_
 constructor
 ·intro h0
  rw[if_pos h0] at hK
  exact zero_spec fun w2 hf=>q5p (m.fr hf) 0 rfl fun w3 hf3=>hK w3 hf3
 ·intro h0
  rw[if_neg h0] at hK
  refine q4n hn (q4n hd (qdq (by have:=hn.1; have:=hn.2; omega) (by omega) (by have:=hd.1; have:=hd.2; omega) fun w2 hf=>q5p (m.fr hf) 0 rfl fun w3 hf3=>?_))
  have:=hK w3 hf3
  have e:mkRat (sgn (!((decide (n<0)) == (decide (d<0)))) n.natAbs) d.natAbs=Rat.divInt n d:=by
   rcases J2 d 0 with hneg | hpos
   ·have e1:Rat.divInt n d=Rat.divInt (-n) (-d):=(Rat.neg_divInt_neg n d).symm
    have e2:-d=((d.natAbs:Nat):Int):=by omega
    rw[e1,e2,Rat.divInt_ofNat]
    congr 1
    rcases J2 n 0 with h | h
    ·simp[sgn,h,hneg]; omega
    ·have h':¬n<0:=by omega
     simp[sgn,h',hneg]; omega
   ·have e2:d=((d.natAbs:Nat):Int):=by omega
    have hd':¬d<0:=by omega
    conv=>rhs; rw[e2]
    rw[Rat.divInt_ofNat]
    congr 1
    rcases J2 n 0 with h | h
    ·simp[sgn,h,hd']; omega
    ·have h':¬n<0:=by omega
     simp[sgn,h',hd']; omega
  rw[← e] at this
  exact this
end
open Go Pw
section
variable {w:World}
theorem qb4 {n d:Int}{K:Bool->Int->Int->World->Prop}(hn:I64 n)(hd:I64 d)(hK:∀ w',Fr F0 w w'->K (decide (n<0)) n.natAbs d.natAbs w'):z4k_sh n d K w:=by
 refine⟨?_⟩
 intro w1
 have m:Mem w w1 _:=Mem.nil.alloc
 intro w2
 have m:Mem w w2 _:=m.alloc
 intro w3
 have m:Mem w w3 _:=m.drew
 exact⟨fun u=>Rs u _,m.sub 0,_,fun _ h=>h.ld 1,_,fun _ h=>h.ld 1,_,fun _ h=>h.ld 1,q4n hn ⟨m.sub 0,q4n hd ⟨m.sub 0,put3 m 0 rfl hK⟩⟩⟩
theorem q0l {n:Int}{K:Int->Int->World->Prop}(hK:∀ w',Fr F0 w w'->K n 1 w'):z4j_sh n K w:=by
 refine⟨?_⟩
 intro w1
 have m:Mem w w1 _:=Mem.nil.alloc
 exact put2 m 0 rfl hK
theorem q1v {x y:Nat}{K:Int->Int->World->Prop}(hx:x<18446744073709551616)(hy:y<18446744073709551616)
  (hK:∀ w',Fr F0 w w'->K ((x*y / 18446744073709551616:Nat):Int) ((x*y % 18446744073709551616:Nat):Int) w'):z3d_sh x y K w:=by
 refine⟨?_⟩
 intro w1
 have m:Mem w w1 _:=Mem.nil.alloc
 exact qa1 hx hy (put2 m 0 rfl hK)
theorem qhp {A B:Nat}{K:Int->Int->World->Prop}(hA:A<170141183460469231731687303715884105728)(hB:B<170141183460469231731687303715884105728)
  (hK:∀ w',Fr F0 w w'->K (((A+B) / 18446744073709551616:Nat):Int) (((A+B) % 18446744073709551616:Nat):Int) w') :
  z32_sh ((A / 18446744073709551616:Nat):Int) ((A % 18446744073709551616:Nat):Int) ((B / 18446744073709551616:Nat):Int) ((B % 18446744073709551616:Nat):Int) K w:=by
 obtain⟨e1,e2⟩:=qku (M:=18446744073709551616) (A:=A) (B:=B) (by decide)
 have a1:A / 18446744073709551616<9223372036854775808:=by rw[J3 (by decide)]; exact hA
 have b1:B / 18446744073709551616<9223372036854775808:=by rw[J3 (by decide)]; exact hB
 have a2:A % 18446744073709551616<18446744073709551616:=J4 _ (by decide)
 have b2:B % 18446744073709551616<18446744073709551616:=J4 _ (by decide)
 rw[← e1,← e2] at hK
 clear e1 e2 hA hB
 generalize A / 18446744073709551616=p at *
 generalize A % 18446744073709551616=q at *
 generalize B / 18446744073709551616=r at *
 generalize B % 18446744073709551616=s at *
 refine⟨?_⟩
 intro w1
 have m:Mem w w1 _:=Mem.nil.alloc
 intro w2
 have m:Mem w w2 _:=m.alloc
 intro w3
 have m:Mem w w3 _:=m.alloc
 refine⟨_,m.ld 2,_,m.ld 1,⟨⟨by omega,by omega,by omega,by omega,by omega,by omega⟩,⟨_,m.ld 2,_,m.ld 1,⟨⟨by omega,by omega,by omega,by omega,by omega,by omega⟩,?_⟩⟩⟩⟩
 have f1:((p:Int)+(r:Int)+((q:Int)+(s:Int)+0) / 18446744073709551616) % 18446744073709551616=((p+r+(q+s) / 18446744073709551616:Nat):Int):=by omega
 have f2:((q:Int)+(s:Int)+0) % 18446744073709551616=(((q+s) % 18446744073709551616:Nat):Int):=by omega
 rw[f1,f2]
 exact put2 m 0 rfl hK
theorem qcg {A B:Nat}{K:Int->Int->World->Prop}(hA:A<340282366920938463463374607431768211456)(hB:B<=A)
  (hK:∀ w',Fr F0 w w'->K (((A-B) / 18446744073709551616:Nat):Int) (((A-B) % 18446744073709551616:Nat):Int) w') :
  z33_sh ((A / 18446744073709551616:Nat):Int) ((A % 18446744073709551616:Nat):Int) ((B / 18446744073709551616:Nat):Int) ((B % 18446744073709551616:Nat):Int) K w:=by
 obtain⟨C,rfl⟩:∃ C,A=B+C:=⟨A-B,by omega⟩
 rw[Nat.add_sub_cancel_left] at hK
 obtain⟨e1,e2⟩:=qku (M:=18446744073709551616) (A:=B) (B:=C) (by decide)
 have a1:(B+C) / 18446744073709551616<18446744073709551616:=by rw[J3 (by decide)]; exact hA
 rw[← e2] at a1
 have a2:C % 18446744073709551616<18446744073709551616:=J4 _ (by decide)
 have b2:B % 18446744073709551616<18446744073709551616:=J4 _ (by decide)
 rw[← e1,← e2]
 clear e1 e2 hA hB
 generalize C / 18446744073709551616=p at *
 generalize C % 18446744073709551616=q at *
 generalize B / 18446744073709551616=r at *
 generalize B % 18446744073709551616=s at *
 refine⟨?_⟩
 intro w1
 have m:Mem w w1 _:=Mem.nil.alloc
 intro w2
 have m:Mem w w2 _:=m.alloc
 intro w3
 have m:Mem w w3 _:=m.alloc
 refine⟨_,m.ld 2,_,m.ld 1,⟨⟨by omega,by omega,by omega,by omega,by omega,by omega⟩,⟨_,m.ld 2,_,m.ld 1,⟨⟨by omega,by omega,by omega,by omega,?_,?_⟩,?_⟩⟩⟩⟩
 ·split<;>omega
 ·split<;>omega
 have f2:((((s+q) % 18446744073709551616:Nat):Int)-(s:Int)-0) % 18446744073709551616=(q:Int):=by omega
 have f1:(((r+p+(s+q) / 18446744073709551616:Nat):Int)-(r:Int)-(if (((s+q) % 18446744073709551616:Nat):Int)<(s:Int)+0 then 1 else 0)) % 18446744073709551616=(p:Int):=by
  split<;>omega
 rw[f1,f2]
 exact put2 m 0 rfl hK
theorem qa3 {A b:Nat}{K:Int->Int->Int->World->Prop}(hA:A<340282366920938463463374607431768211456)(hb:0<b)(hb':b<18446744073709551616)
  (hK:∀ w',Fr F0 w w'->K ((A / b / 18446744073709551616:Nat):Int) ((A / b % 18446744073709551616:Nat):Int) ((A % b:Nat):Int) w') :
  z2x_sh ((A / 18446744073709551616:Nat):Int) ((A % 18446744073709551616:Nat):Int) b K w:=by
 obtain⟨e1,e2,e3⟩:=qlc (M:=18446744073709551616) (A:=A) hb (by omega)
 have a1:A / 18446744073709551616<18446744073709551616:=by rw[J3 (by decide)]; exact hA
 have a2:A % 18446744073709551616<18446744073709551616:=J4 _ (by decide)
 rw[e1,e2,e3] at hK
 clear e1 e2 e3 hA
 generalize A / 18446744073709551616=p at *
 generalize A % 18446744073709551616=q at *
 refine⟨?_⟩
 intro w1
 have m:Mem w w1 _:=Mem.nil.alloc
 intro w2
 have m:Mem w w2 _:=m.alloc
 intro w3
 have m:Mem w w3 _:=m.drew
 have hm:=J4 p hb
 refine⟨_,m.ld 1,by omega,?_,_,m.ld 1,by omega,_,m.ld 1,?_⟩
 ·rw[q2y]
  exact inRu (J0 _) (by have:=J5 p b; omega)
 ·rw[qhg,q2y]
  exact qfx hm (by omega) a2 fun w4 hf=>put2 (K:=fun a c w=>K a c _ w) (m.fr hf) 0 rfl hK
theorem qhq {x:Int}{K:Bool->World->Prop}(hK:K false w):z2b_sh x K w:=by
 refine⟨?_⟩
 simpa using hK
theorem qhr {x:Int}{K:Bool->World->Prop}(hK:K false w):z4b_sh x K w:=by
 refine⟨?_⟩
 simpa using hK
theorem qch {x y:Int}{K:Int->World->Prop}(hK:K (cmpI x y) w):z1e_sh x y K w:=by
 refine⟨qhq (qhq ?_)⟩
 rw[q0h,q0h,q00]
 unfold cmpI at hK
 refine⟨fun h=>by rw[if_pos h] at hK; exact hK,fun h=>?_⟩
 rw[if_neg h] at hK
 exact q00.2<|⟨fun h=>by rw[if_pos h] at hK; exact hK,fun h=>by rw[if_neg h] at hK; exact hK⟩
theorem q6e {x y:Int}{K:Int->World->Prop}(hK:K (cmpI x y) w):z3p_sh x y K w:=by
 refine⟨qhr (qhr ?_)⟩
 rw[q0h,q0h,q00]
 unfold cmpI at hK
 refine⟨fun h=>by rw[if_pos h] at hK; exact hK,fun h=>?_⟩
 rw[if_neg h] at hK
 exact q00.2<|⟨fun h=>by rw[if_pos h] at hK; exact hK,fun h=>by rw[if_neg h] at hK; exact hK⟩
theorem qkv {b:Nat}{x y:Int}{K:Int->World->Prop}(hx:w.cell? ⟨b,0,none⟩=some (.int .i64 x))(hy:w.cell? ⟨b,1,none⟩=some (.int .i64 y))(hK:K (if x≠0 then x else y) w) :
  z4l_sh (Sl.mk (some (Addr.mk b 0 none)) 2 2) K w:=by
 refine⟨⟨fun i w'=>w'=w/\(i=0\/x=0/\i=1\/x=0/\y=0/\i=2),fun i _=>(2-i).toNat,⟨rfl,.inl rfl⟩,?_⟩⟩
 rintro i w1 ⟨rfl,hi⟩
 unfold z4l_b0
 refine q00.2 ?_
 constructor
 ·intro hlt
  rw[qgp]
  simp only at hlt
  rcases hi with rfl | ⟨h0,rfl⟩ | ⟨_,_,rfl⟩
  ·refine⟨⟨by omega,by simp⟩,x,by simp only[q1q]; exact hx,q0u.2 ?_⟩
   constructor
   ·intro h; rw[if_pos h] at hK; exact hK
   ·intro h
    exact⟨q01,⟨⟨rfl,rfl,rfl,trivial⟩,rfl,.inr (.inl ⟨h,by omega⟩)⟩,by simp only; omega⟩
  ·refine⟨⟨by omega,by simp⟩,y,by simp only[q1q]; exact hy,q0u.2 ?_⟩
   constructor
   ·intro h; rw[if_neg (by simp[h0])] at hK; exact hK
   ·intro h
    exact⟨q01,⟨⟨rfl,rfl,rfl,trivial⟩,rfl,.inr (.inr ⟨h0,h,by omega⟩)⟩,by simp only; omega⟩
  ·simp at hlt
 ·intro hlt
  simp only at hlt
  rcases hi with rfl | ⟨h0,rfl⟩ | ⟨h0,h1,rfl⟩
  ·simp at hlt
  ·simp at hlt
  ·rw[if_neg (by simp[h0]),h1] at hK
   exact hK
theorem q7l {A B:Nat}{K:Int->World->Prop}(hK:∀ w',Fr F0 w w'->K (cmpI A B) w') :
  z3c_sh ((A / 18446744073709551616:Nat):Int) ((A % 18446744073709551616:Nat):Int) ((B / 18446744073709551616:Nat):Int) ((B % 18446744073709551616:Nat):Int) K w:=by
 rw[← wd_cmp (M:=18446744073709551616) (by decide)] at hK
 generalize ((A / 18446744073709551616:Nat):Int)=p at *
 generalize ((A % 18446744073709551616:Nat):Int)=q at *
 generalize ((B / 18446744073709551616:Nat):Int)=r at *
 generalize ((B % 18446744073709551616:Nat):Int)=s at *
 refine⟨?_⟩
 intro w1
 have m:Mem w w1 _:=Mem.nil.alloc
 intro w2
 have m:Mem w w2 _:=m.alloc
 intro w3
 have m:Mem w w3 _:=m.drew
 refine⟨fun u=>Rs u _,m.sub 0,_,fun _ h=>h.ld 1,_,fun _ h=>h.ld 0,_,fun _ h=>h.ld 1,_,fun _ h=>h.ld 0,qch ⟨m.sub 0,qch ⟨m.sub 0,?_⟩⟩⟩
 intro w4
 have m:Mem w w4 _:=m.alloc
 exact⟨m.sub 1,qkv (m.ld 0) (m.ld 0) ⟨m.sub 1,hK w4 m.1⟩⟩
end
end Go.Proofs.YtfpobpjandjhjaaGreatDoor
