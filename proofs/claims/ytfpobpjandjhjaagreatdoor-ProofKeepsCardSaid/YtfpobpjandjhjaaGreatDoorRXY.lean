/- The small functions of package ratio: sizes, the greatest common divisor, a number in lowest terms. Conditions: none. -/
import Derived.Test.YtfpobpjandjhjaaGreatDoorRXX
import Derived.Test.YtfpobpjandjhjaaGreatDoorPwR
namespace Go.Proofs.YtfpobpjandjhjaaGreatDoor
open Go Pw
def I64 (n:Int):Prop:=-9223372036854775808<=n/\n<9223372036854775808
section
variable {w:World}
theorem size_spec {n:Int}{K:Int->World->Prop}(h:I64 n)(hK:K (n.natAbs:Int) w):z4v_sh n K w:=by
 obtain⟨h1,h2⟩:=h
 refine⟨?_⟩
 unfold z4v_sd
 rw[cnd_prop]
 constructor
 ·intro hn
  have e:IntKind.wrap .u64 ((0:Int)-IntKind.wrap .u64 n)=(n.natAbs:Int):=by
   simp only[wu64_mod]
   omega
  rw[e]
  exact hK
 ·intro hn
  have e:IntKind.wrap .u64 n=(n.natAbs:Int):=by
   simp only[wu64_mod]
   omega
  rw[e]
  exact hK
theorem gcd_spec {a b:Nat}{K:Int->World->Prop}(hK:∀ w',Fr F0 w w'->K ((Nat.gcd a b:Nat):Int) w'):z51_sh a b K w:=by
 refine⟨⟨fun x y w'=>∃ m n:Nat,x=m/\y=n/\Nat.gcd m n=Nat.gcd a b/\Fr F0 w w',fun _ y _=>y.toNat,⟨a,b,rfl,rfl,rfl,Fr.refl⟩,?_⟩⟩
 rintro x y w1 ⟨m,n,rfl,rfl,hg,hf⟩
 unfold z51_b0
 rw[cnd_prop]
 constructor
 ·intro h
  refine⟨by omega,⟨trivial,n,m % n,rfl,rfl,?_,hf.trans (G:=F0) Fr.drew fun b hb _=>hb⟩,?_⟩
  ·rw[← hg,Nat.gcd_comm n,← Nat.gcd_rec,Nat.gcd_comm]
  ·rw[tmodN]
   have:=Nat.mod_lt m (show 0<n by omega)
   show((m % n:Nat):Int).toNat<(n:Int).toNat
   rw[Int.toNat_natCast,Int.toNat_natCast]
   exact this
 ·intro h
  have h0:n=0:=by omega
  subst h0
  rw[Nat.gcd_zero_right] at hg
  rw[hg]
  exact hK w1 hf
theorem zero_spec {K:Int->Int->World->Prop}(hK:∀ w',Fr F0 w w'->K 0 1 w'):z4w_sh K w:=by
 refine⟨?_⟩
 unfold z4w_sd
 intro w1
 have m:Mem w w1 _:=Mem.nil.alloc
 clear_value w1
 refine⟨m.wr 0 rfl rfl,?_⟩
 intro w2
 have m:Mem w w2 _:=m.set 0 rfl
 clear_value w2
 refine⟨m.wr 0 rfl rfl,?_⟩
 intro w3
 have m:Mem w w3 _:=m.set 0 rfl
 clear_value w3
 exact⟨_,m.ld 0 rfl rfl,_,m.ld 0 rfl rfl,hK w3 m.1⟩
def Kr (K:Int->Int->Bool->World->Prop)(r:RR)(w:World):Prop:=K r.n r.d r.ok w
theorem wi64_in {n:Int}(h:I64 n):IntKind.wrap .i64 n=n:=wrap64_in h.1 h.2
theorem rat_k0_spec {w0:World}{l:List (Nat × List Value)}{b:Nat}{x y:Value}{K:Int->Int->Bool->World->Prop}(m:Mem w0 w l)(j:Nat)(hj:l[j]?=some (b,[x,y]))(hK:∀ w',Fr F0 w0 w'->K 0 1 false w'):z52_k0 ⟨b,0,none⟩ K w:=by
 refine⟨zero_spec fun w1 hf=>?_⟩
 have m:Mem w0 w1 _:=m.fr hf
 have hlt:j<l.length:=(List.getElem?_eq_some_iff.1 hj).1
 simp -zeta only[add_mk,Nat.zero_add]
 refine⟨m.wr j hj rfl,?_⟩
 intro w2
 have m:Mem w0 w2 _:=m.set j hj
 clear_value w2
 refine⟨m.wr j (cs:=[Value.int .i64 0,y]) (by simp[hlt]) rfl,?_⟩
 intro w3
 have m:Mem w0 w3 _:=m.set j (cs:=[Value.int .i64 0,y]) (by simp[hlt])
 clear_value w3
 exact⟨_,m.ld j (cs:=[Value.int .i64 0,Value.int .i64 1]) (by simp[hlt]) rfl,_,m.ld j (cs:=[Value.int .i64 0,Value.int .i64 1]) (by simp[hlt]) rfl,hK w3 m.1⟩
theorem rat_k2_spec {w0:World}{d:Nat}{num x0 x1:Value}{n:Int}{bd bt:Nat}{l:List (Nat × List Value)}{K:Int->Int->Bool->World->Prop}(m:Mem w0 w l)(jd jt:Nat)(hd:l[jd]?=some (bd,[num,.int .u64 d]))(ht:l[jt]?=some (bt,[x0,x1]))(hlt:d<9223372036854775808)
  (hK:∀ w',Fr F0 w0 w'->K n d true w'):z52_k2 ⟨bd,0,none⟩ ⟨bt,0,none⟩ n K w:=by
 refine⟨?_⟩
 unfold z52_k2d
 have hl:jt<l.length:=(List.getElem?_eq_some_iff.1 ht).1
 simp -zeta only[add_mk,Nat.zero_add]
 refine⟨_,m.ld jd hd rfl,m.wr jt ht rfl,?_⟩
 intro w2
 have m:Mem w0 w2 _:=m.set jt ht
 clear_value w2
 refine⟨m.wr jt (cs:=[Value.int .i64 n,x1]) (by simp[hl]) rfl,?_⟩
 intro w3
 have m:Mem w0 w3 _:=m.set jt (cs:=[Value.int .i64 n,x1]) (by simp[hl])
 clear_value w3
 refine⟨_,m.ld jt (cs:=[Value.int .i64 n,Value.int .i64 (IntKind.wrap .i64 d)]) (by simp[hl]) rfl,_,m.ld jt (cs:=[Value.int .i64 n,Value.int .i64 (IntKind.wrap .i64 d)]) (by simp[hl]) rfl,?_⟩
 rw[wi64_in ⟨by omega,by omega⟩]
 exact hK w3 m.1
theorem rat_spec {neg:Bool}{n d:Nat}{K:Int->Int->Bool->World->Prop}(hK:∀ w',Fr F0 w w'->Kr K (ratI neg n d) w') :
  z52_sh neg ((n / 18446744073709551616:Nat):Int) ((n % 18446744073709551616:Nat):Int) ((d / 18446744073709551616:Nat):Int) ((d % 18446744073709551616:Nat):Int) K w:=by
 have bad:¬(d<9223372036854775808/\(n<9223372036854775808\/n=9223372036854775808/\neg=true))->∀ w',Fr F0 w w'->K 0 1 false w':=by
  intro h w' hf
  have:=hK w' hf
  unfold ratI at this
  rw[if_neg h] at this
  exact this
 have good:(d<9223372036854775808/\(n<9223372036854775808\/n=9223372036854775808/\neg=true))->∀ w',Fr F0 w w'->K (if neg then -(n:Int) else n) d true w':=by
  intro h w' hf
  have:=hK w' hf
  unfold ratI at this
  rw[if_pos h] at this
  exact this
 have hn1:n / 18446744073709551616*18446744073709551616+n % 18446744073709551616=n:=Nat.div_add_mod' _ _
 have hd1:d / 18446744073709551616*18446744073709551616+d % 18446744073709551616=d:=Nat.div_add_mod' _ _
 have hn2:n % 18446744073709551616<18446744073709551616:=Nat.mod_lt _ (by omega)
 have hd2:d % 18446744073709551616<18446744073709551616:=Nat.mod_lt _ (by omega)
 generalize hna:n / 18446744073709551616=na at *
 generalize hnb:n % 18446744073709551616=nb at *
 generalize hda:d / 18446744073709551616=da at *
 generalize hdb:d % 18446744073709551616=db at *
 clear hna hnb hda hdb
 refine⟨?_⟩
 unfold z52_sd
 intro w1
 have m:Mem w w1 _:=Mem.nil.alloc
 clear_value w1
 intro w2
 have m:Mem w w2 _:=m.alloc
 clear_value w2
 intro w3
 have m:Mem w w3 _:=m.alloc
 clear_value w3
 refine⟨_,m.ld 2 rfl rfl,?_⟩
 rw[cnd_prop]
 refine⟨fun h=>rat_k0_spec m 0 rfl (bad (by omega)),fun h1=>?_⟩
 refine⟨_,m.ld 1 rfl rfl,?_⟩
 rw[cnd_prop]
 refine⟨fun h=>rat_k0_spec m 0 rfl (bad (by omega)),fun h2=>?_⟩
 have h1':na=0:=by omega
 have h2':da=0:=by omega
 subst h1'
 subst h2'
 simp only[Nat.zero_mul,Nat.zero_add] at hn1 hd1
 subst hn1
 subst hd1
 refine⟨_,m.ld 1 rfl rfl,?_⟩
 rw[cnd_prop]
 refine⟨fun h=>rat_k0_spec m 0 rfl (bad (by omega)),fun h3=>?_⟩
 refine⟨_,m.ld 2 rfl rfl,?_⟩
 rw[cnd_prop]
 refine⟨fun h=>rat_k0_spec m 0 rfl (bad (by omega)),fun h4=>?_⟩
 have k1:(nb<9223372036854775808\/nb=9223372036854775808/\neg=true)->z52_k1 neg ⟨w.heap.size,0,none⟩ ⟨w1.heap.size,0,none⟩ ⟨w2.heap.size,0,none⟩ K w3:=by
  intro hfit
  refine⟨?_⟩
  unfold z52_k1d
  simp -zeta only[add_mk,Nat.zero_add]
  refine⟨_,m.ld 2 rfl rfl,?_⟩
  have hg:=good ⟨by omega,hfit⟩
  cases neg
  ·rw[cnd_false]
   refine rat_k2_spec m 1 0 rfl rfl (by omega) ?_
   rw[wi64_in ⟨by omega,by simp at hfit; omega⟩]
   exact hg
  ·rw[cnd_true]
   refine rat_k2_spec m 1 0 rfl rfl (by omega) ?_
   have e:IntKind.wrap .i64 ((0:Int)-IntKind.wrap .i64 (nb:Int))=-(nb:Int):=by
    rcases hfit with hfit | ⟨rfl,_⟩
    ·rw[wi64_in (n:=(nb:Int)) ⟨by omega,by omega⟩,wi64_in ⟨by omega,by omega⟩]
     omega
    ·decide
   rw[e]
   exact hg
 refine⟨_,m.ld 2 rfl rfl,?_⟩
 rw[cnd_beq]
 refine⟨fun h=>?_,fun h5=>k1 (.inl (by omega))⟩
 cases neg
 ·rw[Bool.not_false,cnd_true]
  exact rat_k0_spec m 0 rfl (bad (by simp; omega))
 ·rw[Bool.not_true,cnd_false]
  exact k1 (.inr ⟨by omega,rfl⟩)
end
open Go Pw
section
variable {w:World}
theorem Right_spec {n d:Int}{K:Bool->World->Prop}(hn:I64 n)(hd:I64 d)(hK:∀ w',Fr F0 w w'->K (decide (rightP n d)) w'):z4j_sh n d K w:=by
 refine⟨?_⟩
 unfold z4j_sd
 intro w1
 have m:Mem w w1 _:=Mem.nil.alloc
 clear_value w1
 intro w2
 have m:Mem w w2 _:=m.drew
 clear_value w2
 refine⟨fun u=>Rs u _,m.sub 0 rfl,?_⟩
 refine⟨_,fun _ h=>h.ld 0 rfl rfl,?_⟩
 rw[cnd_prop]
 constructor
 ·intro h0
  obtain⟨D,rfl⟩:∃ D:Nat,d=D:=⟨d.natAbs,by omega⟩
  refine⟨_,fun _ h=>h.ld 0 rfl rfl,_,fun _ h=>h.ld 0 rfl rfl,?_⟩
  refine⟨inRu (by omega) (by have:=hd.2; omega),size_spec hn ⟨m.sub 0 rfl,?_⟩⟩
  refine gcd_spec fun w3 hf=>⟨(m.fr hf).sub 0 rfl,?_⟩
  have:=hK w3 (m.fr hf).1
  have e2:((((n.natAbs).gcd D:Nat):Int) == 1)=decide (rightP n D):=by
   rw[Bool.eq_iff_iff]
   simp only[beq_iff_eq,decide_eq_true_eq]
   unfold rightP
   rw[Int.natAbs_natCast]
   constructor
   ·intro h; exact⟨by omega,by omega⟩
   ·intro h; have:=h.2; omega
  rw[e2]
  exact this
 ·intro h0
  have:=hK w2 m.1
  rw[decide_eq_false (fun h=>h0 (by have:=h.1; omega))] at this
  exact this
theorem both_spec {n d n' d':Int}{K:Bool->World->Prop}(hn:I64 n)(hd:I64 d)(hn':I64 n')(hd':I64 d')(hK:∀ w',Fr F0 w w'->K (decide (rightP n d) && decide (rightP n' d')) w'):z4u_sh n d n' d' K w:=by
 refine⟨?_⟩
 unfold z4u_sd
 intro w1
 have m:Mem w w1 _:=Mem.nil.alloc
 clear_value w1
 intro w2
 have m:Mem w w2 _:=m.alloc
 clear_value w2
 refine⟨_,m.ld 1 rfl rfl,_,m.ld 1 rfl rfl,Right_spec hn hd fun w3 hf=>?_⟩
 have m:Mem w w3 _:=m.fr hf
 cases hr:decide (rightP n d)
 ·rw[cnd_false]
  have:=hK w3 m.1
  rw[hr] at this
  exact this
 ·rw[cnd_true]
  refine⟨_,m.ld 0 rfl rfl,_,m.ld 0 rfl rfl,Right_spec hn' hd' fun w4 hf=>?_⟩
  have:=hK w4 (m.fr hf).1
  rw[hr] at this
  exact this
theorem rat_small {neg:Bool}{n d:Nat}{K:Int->Int->Bool->World->Prop}(hn:n<18446744073709551616)(hd:d<18446744073709551616)(hK:∀ w',Fr F0 w w'->Kr K (ratI neg n d) w') :
  z52_sh neg 0 (n:Int) 0 (d:Int) K w:=by
 have:=rat_spec (neg:=neg) (n:=n) (d:=d) hK
 rw[Nat.div_eq_of_lt hn,Nat.div_eq_of_lt hd,Nat.mod_eq_of_lt hn,Nat.mod_eq_of_lt hd] at this
 exact this
theorem lowest_spec {neg:Bool}{n d:Nat}{K:Int->Int->Bool->World->Prop}(hn:n<18446744073709551616)(hd:0<d)(hd':d<18446744073709551616)
  (hK:∀ w',Fr F0 w w'->Kr K (fitQ (mkRat (sgn neg n) d)) w'):z44_sh neg n d K w:=by
 have hg:0<Nat.gcd n d:=Nat.gcd_pos_of_pos_right n hd
 have b1:=Nat.div_le_self n (Nat.gcd n d)
 have b2:=Nat.div_le_self d (Nat.gcd n d)
 have key:∀ ng:Bool,ng=(neg && decide (0<n))->ratI ng (n / Nat.gcd n d) (d / Nat.gcd n d)=fitQ (mkRat (sgn neg n) d):=by
  intro ng hng
  rw[lowest_rat ng n d (by omega)]
  have:sgn ng n=sgn neg n:=by
   subst hng
   cases neg
   ·rfl
   ·by_cases h:0<n
    ·simp[h]
    ·have:n=0:=by omega
     subst this
     rfl
  rw[this]
 refine⟨?_⟩
 unfold z44_sd
 intro w1
 have m:Mem w w1 _:=Mem.nil.alloc
 clear_value w1
 intro w2
 have m:Mem w w2 _:=m.alloc
 clear_value w2
 refine⟨_,m.ld 1 rfl rfl,_,m.ld 1 rfl rfl,gcd_spec fun w3 hf=>?_⟩
 have m:Mem w w3 _:=m.fr hf
 intro w4
 have m:Mem w w4 _:=m.drew
 clear_value w4
 refine⟨fun u=>Rs u _,m.sub 0 rfl,?_⟩
 refine⟨_,fun _ h=>h.ld 1 rfl rfl,_,fun _ h=>h.ld 1 rfl rfl,?_⟩
 have q1:inR .u64 (Int.tdiv (n:Int) ((Nat.gcd n d:Nat):Int)):=by
  rw[tdivN]; exact inRu (Int.natCast_nonneg _) (by omega)
 have q2:inR .u64 (Int.tdiv (d:Int) ((Nat.gcd n d:Nat):Int)):=by
  rw[tdivN]; exact inRu (Int.natCast_nonneg _) (by omega)
 refine⟨by omega,q1,_,fun _ h=>h.ld 1 rfl rfl,by omega,q2,?_⟩
 simp -zeta only[tdivN]
 cases neg
 ·rw[cnd_false]
  refine rat_small (by omega) (by omega) fun w5 hf=>?_
  have m:Mem w w5 _:=m.fr hf
  refine⟨m.sub 0 rfl,put2b m 0 rfl fun w6 hf6=>?_⟩
  have:=hK w6 hf6
  rw[← key false (by simp)] at this
  exact this
 ·rw[cnd_true]
  refine⟨_,fun _ h=>h.ld 1 rfl rfl,?_⟩
  refine rat_small (by omega) (by omega) fun w5 hf=>?_
  have m:Mem w w5 _:=m.fr hf
  refine⟨m.sub 0 rfl,put2b m 0 rfl fun w6 hf6=>?_⟩
  have:=hK w6 hf6
  rw[← key (decide ((n:Int)>0)) (by simp)] at this
  exact this
theorem Make_spec {n d:Int}{K:Int->Int->Bool->World->Prop}(hn:I64 n)(hd:I64 d)
  (hK:∀ w',Fr F0 w w'->Kr K (if d=0 then zr else fitQ (Rat.divInt n d)) w'):z4t_sh n d K w:=by
 refine⟨?_⟩
 unfold z4t_sd
 intro w1
 have m:Mem w w1 _:=Mem.nil.alloc
 clear_value w1
 rw[cnd_beq]
 constructor
 ·intro h0
  rw[if_pos h0] at hK
  exact zero_spec fun w2 hf=>put2b (m.fr hf) 0 rfl fun w3 hf3=>hK w3 hf3
 ·intro h0
  rw[if_neg h0] at hK
  refine size_spec hn (size_spec hd (lowest_spec (by have:=hn.1; have:=hn.2; omega) (by omega) (by have:=hd.1; have:=hd.2; omega) fun w2 hf=>put2b (m.fr hf) 0 rfl fun w3 hf3=>?_))
  have:=hK w3 hf3
  have e:mkRat (sgn (!((decide (n<0)) == (decide (d<0)))) n.natAbs) d.natAbs=Rat.divInt n d:=by
   rcases Int.lt_or_le d 0 with hneg | hpos
   ·have e1:Rat.divInt n d=Rat.divInt (-n) (-d):=(Rat.neg_divInt_neg n d).symm
    have e2:-d=((d.natAbs:Nat):Int):=by omega
    rw[e1,e2,Rat.divInt_ofNat]
    congr 1
    rcases Int.lt_or_le n 0 with h | h
    ·simp[sgn,h,hneg]; omega
    ·have h':¬n<0:=by omega
     simp[sgn,h',hneg]; omega
   ·have e2:d=((d.natAbs:Nat):Int):=by omega
    have hd':¬d<0:=by omega
    conv=>rhs; rw[e2]
    rw[Rat.divInt_ofNat]
    congr 1
    rcases Int.lt_or_le n 0 with h | h
    ·simp[sgn,h,hd']; omega
    ·have h':¬n<0:=by omega
     simp[sgn,h',hd']; omega
  rw[← e] at this
  exact this
end
open Go Pw
section
variable {w:World}
theorem of_spec {n d:Int}{K:Bool->Int->Int->World->Prop}(hn:I64 n)(hd:I64 d)(hK:∀ w',Fr F0 w w'->K (decide (n<0)) n.natAbs d.natAbs w'):z56_sh n d K w:=by
 refine⟨?_⟩
 unfold z56_sd
 intro w1
 have m:Mem w w1 _:=Mem.nil.alloc
 clear_value w1
 intro w2
 have m:Mem w w2 _:=m.alloc
 clear_value w2
 intro w3
 have m:Mem w w3 _:=m.drew
 clear_value w3
 refine⟨fun u=>Rs u _,m.sub 0 rfl,_,fun _ h=>h.ld 1 rfl rfl,_,fun _ h=>h.ld 1 rfl rfl,_,fun _ h=>h.ld 1 rfl rfl,size_spec hn ⟨m.sub 0 rfl,size_spec hd ⟨m.sub 0 rfl,?_⟩⟩⟩
 exact put3 m 0 rfl hK
theorem Of_spec {n:Int}{K:Int->Int->World->Prop}(hK:∀ w',Fr F0 w w'->K n 1 w'):z55_sh n K w:=by
 refine⟨?_⟩
 unfold z55_sd
 intro w1
 have m:Mem w w1 _:=Mem.nil.alloc
 clear_value w1
 exact put2 m 0 rfl hK
theorem product_spec {x y:Nat}{K:Int->Int->World->Prop}(hx:x<18446744073709551616)(hy:y<18446744073709551616)
  (hK:∀ w',Fr F0 w w'->K ((x*y / 18446744073709551616:Nat):Int) ((x*y % 18446744073709551616:Nat):Int) w'):z3u_sh x y K w:=by
 refine⟨?_⟩
 unfold z3u_sd
 intro w1
 have m:Mem w w1 _:=Mem.nil.alloc
 clear_value w1
 exact Mul64_spec hx hy (put2 m 0 rfl hK)
theorem wadd_spec {A B:Nat}{K:Int->Int->World->Prop}(hA:A<170141183460469231731687303715884105728)(hB:B<170141183460469231731687303715884105728)
  (hK:∀ w',Fr F0 w w'->K (((A+B) / 18446744073709551616:Nat):Int) (((A+B) % 18446744073709551616:Nat):Int) w') :
  z3i_sh ((A / 18446744073709551616:Nat):Int) ((A % 18446744073709551616:Nat):Int) ((B / 18446744073709551616:Nat):Int) ((B % 18446744073709551616:Nat):Int) K w:=by
 obtain⟨e1,e2⟩:=wd_add (M:=18446744073709551616) (A:=A) (B:=B) (by decide)
 have a1:A / 18446744073709551616<9223372036854775808:=by rw[Nat.div_lt_iff_lt_mul (by decide)]; exact hA
 have b1:B / 18446744073709551616<9223372036854775808:=by rw[Nat.div_lt_iff_lt_mul (by decide)]; exact hB
 have a2:A % 18446744073709551616<18446744073709551616:=Nat.mod_lt _ (by decide)
 have b2:B % 18446744073709551616<18446744073709551616:=Nat.mod_lt _ (by decide)
 rw[← e1,← e2] at hK
 clear e1 e2 hA hB
 generalize A / 18446744073709551616=p at *
 generalize A % 18446744073709551616=q at *
 generalize B / 18446744073709551616=r at *
 generalize B % 18446744073709551616=s at *
 refine⟨?_⟩
 unfold z3i_sd
 intro w1
 have m:Mem w w1 _:=Mem.nil.alloc
 clear_value w1
 intro w2
 have m:Mem w w2 _:=m.alloc
 clear_value w2
 intro w3
 have m:Mem w w3 _:=m.alloc
 clear_value w3
 refine⟨_,m.ld 2 rfl rfl,_,m.ld 1 rfl rfl,⟨⟨by omega,by omega,by omega,by omega,by omega,by omega⟩,?_⟩⟩
 refine⟨_,m.ld 2 rfl rfl,_,m.ld 1 rfl rfl,⟨⟨by omega,by omega,by omega,by omega,by omega,by omega⟩,?_⟩⟩
 have f1:((p:Int)+(r:Int)+((q:Int)+(s:Int)+0) / 18446744073709551616) % 18446744073709551616=((p+r+(q+s) / 18446744073709551616:Nat):Int):=by omega
 have f2:((q:Int)+(s:Int)+0) % 18446744073709551616=(((q+s) % 18446744073709551616:Nat):Int):=by omega
 rw[f1,f2]
 exact put2 m 0 rfl hK
theorem wsub_spec {A B:Nat}{K:Int->Int->World->Prop}(hA:A<340282366920938463463374607431768211456)(hB:B<=A)
  (hK:∀ w',Fr F0 w w'->K (((A-B) / 18446744073709551616:Nat):Int) (((A-B) % 18446744073709551616:Nat):Int) w') :
  z3j_sh ((A / 18446744073709551616:Nat):Int) ((A % 18446744073709551616:Nat):Int) ((B / 18446744073709551616:Nat):Int) ((B % 18446744073709551616:Nat):Int) K w:=by
 obtain⟨C,rfl⟩:∃ C,A=B+C:=⟨A-B,by omega⟩
 rw[Nat.add_sub_cancel_left] at hK
 obtain⟨e1,e2⟩:=wd_add (M:=18446744073709551616) (A:=B) (B:=C) (by decide)
 have a1:(B+C) / 18446744073709551616<18446744073709551616:=by rw[Nat.div_lt_iff_lt_mul (by decide)]; exact hA
 rw[← e2] at a1
 have a2:C % 18446744073709551616<18446744073709551616:=Nat.mod_lt _ (by decide)
 have b2:B % 18446744073709551616<18446744073709551616:=Nat.mod_lt _ (by decide)
 rw[← e1,← e2]
 clear e1 e2 hA hB
 generalize C / 18446744073709551616=p at *
 generalize C % 18446744073709551616=q at *
 generalize B / 18446744073709551616=r at *
 generalize B % 18446744073709551616=s at *
 refine⟨?_⟩
 unfold z3j_sd
 intro w1
 have m:Mem w w1 _:=Mem.nil.alloc
 clear_value w1
 intro w2
 have m:Mem w w2 _:=m.alloc
 clear_value w2
 intro w3
 have m:Mem w w3 _:=m.alloc
 clear_value w3
 refine⟨_,m.ld 2 rfl rfl,_,m.ld 1 rfl rfl,⟨⟨by omega,by omega,by omega,by omega,by omega,by omega⟩,?_⟩⟩
 refine⟨_,m.ld 2 rfl rfl,_,m.ld 1 rfl rfl,⟨⟨by omega,by omega,by omega,by omega,?_,?_⟩,?_⟩⟩
 ·split<;>omega
 ·split<;>omega
 have f2:((((s+q) % 18446744073709551616:Nat):Int)-(s:Int)-0) % 18446744073709551616=(q:Int):=by omega
 have f1:(((r+p+(s+q) / 18446744073709551616:Nat):Int)-(r:Int)-(if (((s+q) % 18446744073709551616:Nat):Int)<(s:Int)+0 then 1 else 0)) % 18446744073709551616=(p:Int):=by
  split<;>omega
 rw[f1,f2]
 exact put2 m 0 rfl hK
theorem wover_spec {A b:Nat}{K:Int->Int->Int->World->Prop}(hA:A<340282366920938463463374607431768211456)(hb:0<b)(hb':b<18446744073709551616)
  (hK:∀ w',Fr F0 w w'->K ((A / b / 18446744073709551616:Nat):Int) ((A / b % 18446744073709551616:Nat):Int) ((A % b:Nat):Int) w') :
  z3d_sh ((A / 18446744073709551616:Nat):Int) ((A % 18446744073709551616:Nat):Int) b K w:=by
 obtain⟨e1,e2,e3⟩:=wd_over (M:=18446744073709551616) (A:=A) hb (by omega)
 have a1:A / 18446744073709551616<18446744073709551616:=by rw[Nat.div_lt_iff_lt_mul (by decide)]; exact hA
 have a2:A % 18446744073709551616<18446744073709551616:=Nat.mod_lt _ (by decide)
 rw[e1,e2,e3] at hK
 clear e1 e2 e3 hA
 generalize A / 18446744073709551616=p at *
 generalize A % 18446744073709551616=q at *
 refine⟨?_⟩
 unfold z3d_sd
 intro w1
 have m:Mem w w1 _:=Mem.nil.alloc
 clear_value w1
 intro w2
 have m:Mem w w2 _:=m.alloc
 clear_value w2
 intro w3
 have m:Mem w w3 _:=m.drew
 clear_value w3
 have hm:=Nat.mod_lt p hb
 refine⟨_,m.ld 1 rfl rfl,by omega,?_,_,m.ld 1 rfl rfl,by omega,_,m.ld 1 rfl rfl,?_⟩
 ·rw[tdivN]
  exact inRu (Int.natCast_nonneg _) (by have:=Nat.div_le_self p b; omega)
 ·rw[tmodN,tdivN]
  refine Div64_spec hm (by omega) a2 fun w4 hf=>?_
  exact put2 (K:=fun a c w=>K a c _ w) (m.fr hf) 0 rfl hK
theorem isNaN_u {x:Int}{K:Bool->World->Prop}(hK:K false w):z2r_sh x K w:=by
 refine⟨?_⟩
 unfold z2r_sd
 simpa using hK
theorem isNaN_i {x:Int}{K:Bool->World->Prop}(hK:K false w):z4x_sh x K w:=by
 refine⟨?_⟩
 unfold z4x_sd
 simpa using hK
theorem Compare_u {x y:Int}{K:Int->World->Prop}(hK:K (cmpI x y) w):z1s_sh x y K w:=by
 refine⟨isNaN_u (isNaN_u ?_)⟩
 rw[cnd_false,cnd_false,cnd_prop]
 unfold cmpI at hK
 refine⟨fun h=>by rw[if_pos h] at hK; exact hK,fun h=>?_⟩
 rw[if_neg h] at hK
 rw[cnd_prop]
 exact⟨fun h=>by rw[if_pos h] at hK; exact hK,fun h=>by rw[if_neg h] at hK; exact hK⟩
theorem Compare_i {x y:Int}{K:Int->World->Prop}(hK:K (cmpI x y) w):z49_sh x y K w:=by
 refine⟨isNaN_i (isNaN_i ?_)⟩
 rw[cnd_false,cnd_false,cnd_prop]
 unfold cmpI at hK
 refine⟨fun h=>by rw[if_pos h] at hK; exact hK,fun h=>?_⟩
 rw[if_neg h] at hK
 rw[cnd_prop]
 exact⟨fun h=>by rw[if_pos h] at hK; exact hK,fun h=>by rw[if_neg h] at hK; exact hK⟩
theorem Or_two {b:Nat}{x y:Int}{K:Int->World->Prop}(hx:w.cell? ⟨b,0,none⟩=some (.int .i64 x))(hy:w.cell? ⟨b,1,none⟩=some (.int .i64 y))(hK:K (if x≠0 then x else y) w) :
  z57_sh (Sl.mk (some (Addr.mk b 0 none)) 2 2) K w:=by
 refine⟨⟨fun i w'=>w'=w/\(i=0\/x=0/\i=1\/x=0/\y=0/\i=2),fun i _=>(2-i).toNat,⟨rfl,.inl rfl⟩,?_⟩⟩
 rintro i w1 ⟨rfl,hi⟩
 unfold z57_b0
 rw[cnd_prop]
 constructor
 ·intro hlt
  rw[nz_some]
  simp only at hlt
  rcases hi with rfl | ⟨h0,rfl⟩ | ⟨_,_,rfl⟩
  ·refine⟨⟨by omega,by simp⟩,x,by simp only[add_mk]; exact hx,?_⟩
   rw[cnd_bne]
   constructor
   ·intro h; rw[if_pos h] at hK; exact hK
   ·intro h
    exact⟨inR64 (by omega) (by omega),⟨⟨rfl,rfl,rfl,trivial⟩,rfl,.inr (.inl ⟨h,by omega⟩)⟩,by simp only; omega⟩
  ·refine⟨⟨by omega,by simp⟩,y,by simp only[add_mk]; exact hy,?_⟩
   rw[cnd_bne]
   constructor
   ·intro h; rw[if_neg (by simp[h0])] at hK; exact hK
   ·intro h
    exact⟨inR64 (by omega) (by omega),⟨⟨rfl,rfl,rfl,trivial⟩,rfl,.inr (.inr ⟨h0,h,by omega⟩)⟩,by simp only; omega⟩
  ·simp at hlt
 ·intro hlt
  simp only at hlt
  rcases hi with rfl | ⟨h0,rfl⟩ | ⟨h0,h1,rfl⟩
  ·simp at hlt
  ·simp at hlt
  ·rw[if_neg (by simp[h0]),h1] at hK
   exact hK
theorem compare_spec {A B:Nat}{K:Int->World->Prop}(hK:∀ w',Fr F0 w w'->K (cmpI A B) w') :
  z3t_sh ((A / 18446744073709551616:Nat):Int) ((A % 18446744073709551616:Nat):Int) ((B / 18446744073709551616:Nat):Int) ((B % 18446744073709551616:Nat):Int) K w:=by
 rw[← wd_cmp (M:=18446744073709551616) (by decide)] at hK
 generalize ((A / 18446744073709551616:Nat):Int)=p at *
 generalize ((A % 18446744073709551616:Nat):Int)=q at *
 generalize ((B / 18446744073709551616:Nat):Int)=r at *
 generalize ((B % 18446744073709551616:Nat):Int)=s at *
 refine⟨?_⟩
 unfold z3t_sd
 intro w1
 have m:Mem w w1 _:=Mem.nil.alloc
 clear_value w1
 intro w2
 have m:Mem w w2 _:=m.alloc
 clear_value w2
 intro w3
 have m:Mem w w3 _:=m.drew
 clear_value w3
 refine⟨fun u=>Rs u _,m.sub 0 rfl,_,fun _ h=>h.ld 1 rfl rfl,_,fun _ h=>h.ld 0 rfl rfl,_,fun _ h=>h.ld 1 rfl rfl,_,fun _ h=>h.ld 0 rfl rfl,?_⟩
 refine Compare_u ⟨m.sub 0 rfl,Compare_u ⟨m.sub 0 rfl,?_⟩⟩
 intro w4
 have m:Mem w w4 _:=m.alloc
 clear_value w4
 refine⟨m.sub 1 rfl,Or_two (m.ld 0 rfl rfl) (m.ld 0 rfl rfl) ⟨m.sub 1 rfl,?_⟩⟩
 exact hK w4 m.1
end
end Go.Proofs.YtfpobpjandjhjaaGreatDoor
