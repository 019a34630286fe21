/- Sums and products, as package ratio computes them. Conditions: none. -/
import Derived.Test.YtfpobpjandjhjaaGreatDoorRXY
import Derived.Test.YtfpobpjandjhjaaGreatDoorPwS
import Derived.Test.YtfpobpjandjhjaaGreatDoorCG1
namespace Go.Proofs.YtfpobpjandjhjaaGreatDoor
open Go Pw
section
variable {w w0:World}
theorem times_k0_spec {l:List (Nat × List Value)}{b:Nat}{x y:Value}{K:Int->Int->Bool->World->Prop}(m:Mem w0 w l)(j:Nat)(hj:l[j]?=some (b,[x,y]))(hK:∀ w',Fr F0 w0 w'->K 0 1 true w'):z4k_k0 ⟨b,0,none⟩ K w:=by
 refine⟨?_⟩
 unfold z4k_k0d
 simp -zeta only[add_mk,Nat.zero_add]
 exact zero_spec fun w1 hf=>put2b (m.fr hf) j hj hK
theorem fitQ_zero:fitQ 0=⟨0,1,true⟩:=rfl
theorem times_spec {xs ys:Bool}{xn xd yn yd:Nat}{K:Int->Int->Bool->World->Prop}(hx:Nat.Coprime xn xd)(hy:Nat.Coprime yn yd)(hxd:0<xd)(hyd:0<yd)
  (bxn:xn<18446744073709551616) (bxd:xd<18446744073709551616) (byn:yn<18446744073709551616) (byd:yd<18446744073709551616)
  (hK:∀ w',Fr F0 w w'->Kr K (fitQ (mkRat (sgn xs xn) xd*mkRat (sgn ys yn) yd)) w'):z4k_sh xs xn xd ys yn yd K w:=by
 have sz:∀ s:Bool,sgn s 0=0:=fun s=>by cases s<;>rfl
 refine⟨?_⟩
 unfold z4k_sd
 intro w1
 have m:Mem w w1 _:=Mem.nil.alloc
 clear_value w1
 intro w2
 have m:Mem w w2 _:=m.alloc
 clear_value w2
 intro w3
 have m:Mem w w3 _:=m.alloc
 clear_value w3
 refine⟨_,m.ld 2 rfl rfl,?_⟩
 rw[cnd_beq]
 refine⟨fun h=>?_,fun h1=>?_⟩
 ·have h0:xn=0:=by omega
  subst h0
  simp only[sz,Rat.zero_mkRat,Rat.zero_mul,fitQ_zero] at hK
  exact times_k0_spec m 0 rfl hK
 refine⟨_,m.ld 1 rfl rfl,?_⟩
 rw[cnd_beq]
 refine⟨fun h=>?_,fun h2=>?_⟩
 ·have h0:yn=0:=by omega
  subst h0
  simp only[sz,Rat.zero_mkRat,Rat.mul_zero,fitQ_zero] at hK
  exact times_k0_spec m 0 rfl hK
 intro w4
 have m:Mem w w4 _:=m.drew
 clear_value w4
 refine⟨fun u=>Rs u _,m.sub 0 rfl,_,fun _ h=>h.ld 2 rfl rfl,_,fun _ h=>h.ld 1 rfl rfl,_,fun _ h=>h.ld 1 rfl rfl,_,fun _ h=>h.ld 2 rfl rfl,?_⟩
 refine gcd_spec fun w5 hf=>?_
 have m:Mem w w5 _:=m.fr hf
 refine⟨m.sub 0 rfl,gcd_spec fun w6 hf=>?_⟩
 have m:Mem w w6 _:=m.fr hf
 refine⟨m.sub 0 rfl,?_⟩
 intro w7
 have m:Mem w w7 _:=m.drew
 clear_value w7
 have hg:0<Nat.gcd xn yd:=Nat.gcd_pos_of_pos_right _ hyd
 have hh:0<Nat.gcd yn xd:=Nat.gcd_pos_of_pos_right _ hxd
 have i1:xn / Nat.gcd xn yd<18446744073709551616:=Nat.lt_of_le_of_lt (Nat.div_le_self _ _) bxn
 have i2:yn / Nat.gcd yn xd<18446744073709551616:=Nat.lt_of_le_of_lt (Nat.div_le_self _ _) byn
 have i3:xd / Nat.gcd yn xd<18446744073709551616:=Nat.lt_of_le_of_lt (Nat.div_le_self _ _) bxd
 have i4:yd / Nat.gcd xn yd<18446744073709551616:=Nat.lt_of_le_of_lt (Nat.div_le_self _ _) byd
 have r:∀ a b:Nat,a / b<18446744073709551616->inR .u64 (Int.tdiv (a:Int) (b:Int)):=fun a b h=>by
  rw[tdivN]
  exact inRu (Int.natCast_nonneg _) (by omega)
 refine⟨fun u=>Rs u _,m.sub 0 rfl,_,fun _ h=>h.ld 2 rfl rfl,_,fun _ h=>h.ld 1 rfl rfl,_,fun _ h=>h.ld 2 rfl rfl,by omega,r _ _ i1,_,fun _ h=>h.ld 1 rfl rfl,by omega,r _ _ i2,_,fun _ h=>h.ld 2 rfl rfl,by omega,r _ _ i3,_,fun _ h=>h.ld 1 rfl rfl,by omega,r _ _ i4,?_⟩
 simp -zeta only[tdivN]
 refine product_spec i1 i2 fun w8 hf=>?_
 have m:Mem w w8 _:=m.fr hf
 refine⟨m.sub 0 rfl,product_spec i3 i4 fun w9 hf=>?_⟩
 have m:Mem w w9 _:=m.fr hf
 refine⟨m.sub 0 rfl,rat_spec fun w10 hf=>?_⟩
 have m:Mem w w10 _:=m.fr hf
 refine⟨m.sub 0 rfl,put2b m 0 rfl fun w11 hf=>?_⟩
 have:=hK w11 hf
 rw[← times_q hx hy (by omega) (by omega)] at this
 have e:(!(xs == ys))=(xs != ys):=rfl
 rw[e]
 exact this
theorem sum_k1_spec {bn b1 b2 bt bx by':Nat}{c1 c2:List Value}{t0 t1:Value}{xs ys s:Bool}{xn xd yn yd g n:Nat}{K:Int->Int->Bool->World->Prop}
  (m:Mem w0 w [(bn,[.int .u64 ((n / 18446744073709551616:Nat):Int),.int .u64 ((n % 18446744073709551616:Nat):Int)]),(b1,c1),(b2,c2),(bt,[t0,t1]),(by',[.bool ys,.int .u64 yn,.int .u64 yd]),(bx,[.bool xs,.int .u64 xn,.int .u64 xd])])
  (hn:n<340282366920938463463374607431768211456) (hg:0<g) (bg:g<18446744073709551616) (bxd:xd<18446744073709551616) (byd:yd<18446744073709551616)
  (hz:n=0->∀ w',Fr F0 w0 w'->K 0 1 true w')
  (hK:∀ w',Fr F0 w0 w'->Kr K (ratI s (n / Nat.gcd g (n % g)) (xd / g*(yd / Nat.gcd g (n % g)))) w') :
  z53_k1 ⟨bx,0,none⟩ ⟨by',0,none⟩ ⟨bt,0,none⟩ g ⟨bn,0,none⟩ s K w:=by
 refine⟨?_⟩
 unfold z53_k1d
 simp -zeta only[add_mk,Nat.zero_add]
 refine⟨_,m.ld 0 rfl rfl,_,m.ld 0 rfl rfl,?_⟩
 rw[cnd_iff]
 constructor
 ·intro h
  simp only[Bool.and_eq_true,beq_iff_eq,and_true] at h
  have h0:n=0:=by
   have:=Nat.div_add_mod n 18446744073709551616
   omega
  exact zero_spec fun w1 hf=>put2b (m.fr hf) 3 rfl (hz h0)
 ·intro _
  refine⟨_,m.ld 0 rfl rfl,_,m.ld 0 rfl rfl,wover_spec hn hg bg fun w1 hf=>?_⟩
  have m:Mem w0 w1 _:=m.fr hf
  intro w2
  have m:Mem w0 w2 _:=m.alloc
  clear_value w2
  refine⟨m.wr 0 rfl rfl,?_⟩
  intro w3
  have m:Mem w0 w3 _:=m.set 0 rfl
  clear_value w3
  refine⟨m.wr 0 rfl rfl,?_⟩
  intro w4
  have m:Mem w0 w4 _:=m.set 0 rfl
  clear_value w4
  refine gcd_spec fun w5 hf=>?_
  have m:Mem w0 w5 _:=m.fr hf
  have hh:0<Nat.gcd g (n % g):=Nat.gcd_pos_of_pos_left _ hg
  have bh:Nat.gcd g (n % g)<18446744073709551616:=Nat.lt_of_le_of_lt (Nat.gcd_le_left _ hg) bg
  refine⟨_,m.ld 1 rfl rfl,_,m.ld 1 rfl rfl,wover_spec hn hh bh fun w6 hf=>?_⟩
  have m:Mem w0 w6 _:=m.fr hf
  refine⟨m.wr 1 rfl rfl,?_⟩
  intro w7
  have m:Mem w0 w7 _:=m.set 1 rfl
  clear_value w7
  refine⟨m.wr 1 rfl rfl,?_⟩
  intro w8
  have m:Mem w0 w8 _:=m.set 1 rfl
  clear_value w8
  intro w9
  have m:Mem w0 w9 _:=m.drew
  clear_value w9
  have i1:xd / g<18446744073709551616:=Nat.lt_of_le_of_lt (Nat.div_le_self _ _) bxd
  have i2:yd / Nat.gcd g (n % g)<18446744073709551616:=Nat.lt_of_le_of_lt (Nat.div_le_self _ _) byd
  have r:∀ a b:Nat,a / b<18446744073709551616->inR .u64 (Int.tdiv (a:Int) (b:Int)):=fun a b h=>by
   rw[tdivN]
   exact inRu (Int.natCast_nonneg _) (by omega)
  refine⟨fun u=>Rs u _,m.sub 0 rfl,_,fun _ h=>h.ld 1 rfl rfl,_,fun _ h=>h.ld 1 rfl rfl,_,fun _ h=>h.ld 6 rfl rfl,by omega,r _ _ i1,_,fun _ h=>h.ld 5 rfl rfl,by omega,r _ _ i2,?_⟩
  simp -zeta only[tdivN]
  refine product_spec i1 i2 fun w10 hf=>?_
  have m:Mem w0 w10 _:=m.fr hf
  refine⟨m.sub 0 rfl,rat_spec fun w11 hf=>?_⟩
  have m:Mem w0 w11 _:=m.fr hf
  exact⟨m.sub 0 rfl,put2b m 4 rfl hK⟩
end
open Go Pw
section
variable {w w0:World}
theorem sum_k0_spec {ba bb b1 b2 bt bx by':Nat}{c1 c2:List Value}{t0 t1:Value}{xs ys:Bool}{xn xd yn yd g A B:Nat}{K:Int->Int->Bool->World->Prop}
  (m:Mem w0 w [(b1,c1),(b2,c2),(bt,[t0,t1]),(by',[.bool ys,.int .u64 yn,.int .u64 yd]),(bx,[.bool xs,.int .u64 xn,.int .u64 xd])]) (ja jb:Nat)
  (ha:[(b1,c1),(b2,c2),(bt,[t0,t1]),(by',[.bool ys,.int .u64 yn,.int .u64 yd]),(bx,[.bool xs,.int .u64 xn,.int .u64 xd])][ja]?=some (ba,[.int .u64 ((A / 18446744073709551616:Nat):Int),.int .u64 ((A % 18446744073709551616:Nat):Int)]))
  (hb:[(b1,c1),(b2,c2),(bt,[t0,t1]),(by',[.bool ys,.int .u64 yn,.int .u64 yd]),(bx,[.bool xs,.int .u64 xn,.int .u64 xd])][jb]?=some (bb,[.int .u64 ((B / 18446744073709551616:Nat):Int),.int .u64 ((B % 18446744073709551616:Nat):Int)]))
  (hA:A<170141183460469231731687303715884105728) (hB:B<170141183460469231731687303715884105728) (hg:0<g) (bg:g<18446744073709551616) (bxd:xd<18446744073709551616) (byd:yd<18446744073709551616)
  (hK:∀ s n,sumS xs ys A B=(s,n)->(n=0->∀ w',Fr F0 w0 w'->K 0 1 true w')/\∀ w',Fr F0 w0 w'->Kr K (ratI s (n / Nat.gcd g (n % g)) (xd / g*(yd / Nat.gcd g (n % g)))) w') :
  z53_k0 ⟨bx,0,none⟩ ⟨by',0,none⟩ ⟨bt,0,none⟩ g ⟨ba,0,none⟩ ⟨bb,0,none⟩ K w:=by
 refine⟨?_⟩
 unfold z53_k0d
 simp -zeta only[add_mk,Nat.zero_add]
 intro w1
 have m:Mem w0 w1 _:=m.alloc
 clear_value w1
 refine⟨_,m.ld 5 rfl rfl,_,m.ld 5 rfl rfl,_,m.ld 4 rfl rfl,?_⟩
 rw[cnd_iff]
 constructor
 ·intro h
  have hxy:xs=ys:=by simpa using h
  have hs:sumS xs ys A B=(xs,A+B):=by unfold sumS; rw[if_pos hxy]
  obtain⟨hz,hk⟩:=hK _ _ hs
  refine⟨_,m.ld (ja+1) ha rfl,_,m.ld (ja+1) ha rfl,_,m.ld (jb+1) hb rfl,_,m.ld (jb+1) hb rfl,wadd_spec hA hB fun w2 hf=>?_⟩
  have m:Mem w0 w2 _:=m.fr hf
  refine⟨m.wr 0 rfl rfl,?_⟩
  intro w3
  have m:Mem w0 w3 _:=m.set 0 rfl
  clear_value w3
  refine⟨m.wr 0 rfl rfl,?_⟩
  intro w4
  have m:Mem w0 w4 _:=m.set 0 rfl
  clear_value w4
  exact sum_k1_spec m (by omega) hg bg bxd byd hz hk
 ·intro h
  have hxy:¬xs=ys:=by
   intro he
   subst he
   simp at h
  refine⟨_,m.ld (ja+1) ha rfl,_,m.ld (ja+1) ha rfl,_,m.ld (jb+1) hb rfl,_,m.ld (jb+1) hb rfl,compare_spec fun w2 hf=>?_⟩
  have m:Mem w0 w2 _:=m.fr hf
  rw[cnd_prop]
  constructor
  ·intro hc
   have hle:B<=A:=by
    unfold cmpI at hc
    split at hc
    ·omega
    ·omega
   have hs:sumS xs ys A B=(xs,A-B):=by unfold sumS; rw[if_neg hxy,if_pos hle]
   obtain⟨hz,hk⟩:=hK _ _ hs
   refine⟨_,m.ld (ja+1) ha rfl,_,m.ld (ja+1) ha rfl,_,m.ld (jb+1) hb rfl,_,m.ld (jb+1) hb rfl,wsub_spec (by omega) hle fun w3 hf=>?_⟩
   have m:Mem w0 w3 _:=m.fr hf
   refine⟨m.wr 0 rfl rfl,?_⟩
   intro w4
   have m:Mem w0 w4 _:=m.set 0 rfl
   clear_value w4
   refine⟨m.wr 0 rfl rfl,?_⟩
   intro w5
   have m:Mem w0 w5 _:=m.set 0 rfl
   clear_value w5
   exact sum_k1_spec m (by omega) hg bg bxd byd hz hk
  ·intro hc
   have hle:¬B<=A:=by
    intro hle
    apply hc
    unfold cmpI
    split
    ·omega
    ·split<;>omega
   have hs:sumS xs ys A B=(ys,B-A):=by unfold sumS; rw[if_neg hxy,if_neg hle]
   obtain⟨hz,hk⟩:=hK _ _ hs
   intro w3
   have m:Mem w0 w3 _:=m.drew
   clear_value w3
   refine⟨fun u=>u.cell? ⟨bb,0,none⟩=some (.int .u64 ((B / 18446744073709551616:Nat):Int))/\u.cell? ⟨bb,1,none⟩=some (.int .u64 ((B % 18446744073709551616:Nat):Int))/\u.cell? ⟨ba,0,none⟩=some (.int .u64 ((A / 18446744073709551616:Nat):Int))/\u.cell? ⟨ba,1,none⟩=some (.int .u64 ((A % 18446744073709551616:Nat):Int))/\u.cell? ⟨by',0,none⟩=some (.bool ys),?_,?_⟩
   ·exact⟨m.ld (jb+1) hb rfl,m.ld (jb+1) hb rfl,m.ld (ja+1) ha rfl,m.ld (ja+1) ha rfl,m.ld 4 rfl rfl⟩
   refine⟨_,fun _ h=>h.1,_,fun _ h=>h.2.1,_,fun _ h=>h.2.2.1,_,fun _ h=>h.2.2.2.1,_,fun _ h=>h.2.2.2.2,?_⟩
   refine wsub_spec (by omega) (by omega) fun w4 hf=>?_
   have m:Mem w0 w4 _:=m.fr hf
   refine⟨?_,?_⟩
   ·exact⟨m.ld (jb+1) hb rfl,m.ld (jb+1) hb rfl,m.ld (ja+1) ha rfl,m.ld (ja+1) ha rfl,m.ld 4 rfl rfl⟩
   refine⟨m.wr 0 rfl rfl,?_⟩
   intro w5
   have m:Mem w0 w5 _:=m.set 0 rfl
   clear_value w5
   refine⟨m.wr 0 rfl rfl,?_⟩
   intro w6
   have m:Mem w0 w6 _:=m.set 0 rfl
   clear_value w6
   refine⟨?_,?_⟩
   ·exact⟨m.ld (jb+1) hb rfl,m.ld (jb+1) hb rfl,m.ld (ja+1) ha rfl,m.ld (ja+1) ha rfl,m.ld 4 rfl rfl⟩
   exact sum_k1_spec m (by omega) hg bg bxd byd hz hk
end
open Go Pw
section
variable {w:World}
set_option maxHeartbeats 1000000 in
theorem sum_spec {xs ys:Bool}{xn xd yn yd:Nat}{K:Int->Int->Bool->World->Prop}(hx:Nat.Coprime xn xd)(hy:Nat.Coprime yn yd)(hxd:0<xd)(hyd:0<yd)
  (bxn:xn<=9223372036854775808) (bxd:xd<=9223372036854775808) (byn:yn<=9223372036854775808) (byd:yd<=9223372036854775808)
  (hK:∀ w',Fr F0 w w'->Kr K (fitQ (mkRat (sgn xs xn) xd+mkRat (sgn ys yn) yd)) w'):z53_sh xs xn xd ys yn yd K w:=by
 have hg:0<Nat.gcd xd yd:=Nat.gcd_pos_of_pos_right _ hyd
 have bg:Nat.gcd xd yd<18446744073709551616:=by have:=Nat.gcd_le_left yd hxd; omega
 have l1:yd / Nat.gcd xd yd<=9223372036854775808:=Nat.le_trans (Nat.div_le_self _ _) byd
 have l2:xd / Nat.gcd xd yd<=9223372036854775808:=Nat.le_trans (Nat.div_le_self _ _) bxd
 have hA:xn*(yd / Nat.gcd xd yd)<170141183460469231731687303715884105728:=Nat.lt_of_le_of_lt (Nat.mul_le_mul bxn l1) (by decide)
 have hB:yn*(xd / Nat.gcd xd yd)<170141183460469231731687303715884105728:=Nat.lt_of_le_of_lt (Nat.mul_le_mul byn l2) (by decide)
 have i1:xn<18446744073709551616:=by omega
 have i2:yd / Nat.gcd xd yd<18446744073709551616:=by omega
 have i3:yn<18446744073709551616:=by omega
 have i4:xd / Nat.gcd xd yd<18446744073709551616:=by omega
 have bxd':xd<18446744073709551616:=by omega
 have byd':yd<18446744073709551616:=by omega
 have hfin:∀ s n,sumS xs ys (xn*(yd / Nat.gcd xd yd)) (yn*(xd / Nat.gcd xd yd))=(s,n)->(n=0->∀ w',Fr F0 w w'->K 0 1 true w')/\∀ w',Fr F0 w w'->Kr K (ratI s (n / Nat.gcd (Nat.gcd xd yd) (n % Nat.gcd xd yd)) (xd / Nat.gcd xd yd*(yd / Nat.gcd (Nat.gcd xd yd) (n % Nat.gcd xd yd)))) w':=by
  intro s n hs
  obtain⟨h1,h2⟩:=sum_q hx hy (by omega) (by omega) rfl hs
  refine⟨fun h0 w' hf=>?_,fun w' hf=>?_⟩
  ·have:=hK w' hf
   rw[h1 h0] at this
   exact this
  ·rw[h2]
   exact hK w' hf
 have r:∀ a b:Nat,a / b<18446744073709551616->inR .u64 (Int.tdiv (a:Int) (b:Int)):=fun a b h=>by
  rw[tdivN]
  exact inRu (Int.natCast_nonneg _) (by omega)
 refine⟨?_⟩
 unfold z53_sd
 intro w1
 have m:Mem w w1 _:=Mem.nil.alloc
 clear_value w1
 intro w2
 have m:Mem w w2 _:=m.alloc
 clear_value w2
 intro w3
 have m:Mem w w3 _:=m.alloc
 clear_value w3
 refine⟨_,m.ld 2 rfl rfl,_,m.ld 1 rfl rfl,gcd_spec fun w4 hf=>?_⟩
 have m:Mem w w4 _:=m.fr hf
 intro w5
 have m:Mem w w5 _:=m.drew
 clear_value w5
 refine⟨fun u=>Rs u _,m.sub 0 rfl,_,fun _ h=>h.ld 2 rfl rfl,_,fun _ h=>h.ld 1 rfl rfl,by omega,r _ _ i2,_,fun _ h=>h.ld 1 rfl rfl,_,fun _ h=>h.ld 2 rfl rfl,by omega,r _ _ i4,?_⟩
 simp -zeta only[tdivN]
 generalize Nat.gcd xd yd=g at *
 generalize yd / g=q at *
 repeat' first
  | exact sum_k0_spec m 0 1 rfl rfl hA hB hg bg bxd' byd' hfin
  | exact sum_k0_spec m 1 0 rfl rfl hA hB hg bg bxd' byd' hfin
  | refine⟨m.sub 0 rfl,?_⟩
  | refine⟨m.sub 1 rfl,?_⟩
  | refine⟨m.sub 2 rfl,?_⟩
  | refine⟨m.wr 0 rfl rfl,?_⟩
  | refine⟨m.wr 1 rfl rfl,?_⟩
  | (refine product_spec i1 i2 fun w1 hf=>?_; have m:=m.fr hf)
  | (refine product_spec i3 i4 fun w1 hf=>?_; have m:=m.fr hf)
  | (intro w1; have m:Mem w w1 _:=m.alloc; clear_value w1)
  | (intro w1; have m:Mem w w1 _:=m.set 0 rfl; clear_value w1)
  | (intro w1; have m:Mem w w1 _:=m.set 1 rfl; clear_value w1)
  | refine⟨?_,?_⟩
end
open Go Pw
section
variable {w:World}
theorem right_cop {n d:Int}(h:rightP n d):Nat.Coprime n.natAbs d.natAbs:=h.2
def fv (s:Bool)(n d:Nat):Value:=.agg #[.bool s,.int .u64 n,.int .u64 d]
def rv (r:RR):Value:=.tuple #[.agg #[.int .i64 r.n,.int .i64 r.d],.bool r.ok]
theorem checked_spec {n d n' d':Int}{f:Value}{r:RR}{K:Int->Int->Bool->World->Prop}(hn:I64 n)(hd:I64 d)(hn':I64 n')(hd':I64 d')
  (hf:rightP n d->rightP n' d'->∀ w1,Fr F0 w w1->CallV Tryz.prog f [fv (decide (n<0)) n.natAbs d.natAbs,fv (decide (n'<0)) n'.natAbs d'.natAbs] w1 fun u w2=>u=rv r/\Fr F0 w1 w2)
  (hK:∀ w',Fr F0 w w'->Kr K (if rightP n d/\rightP n' d' then r else zr) w'):z3s_sh n d n' d' f K w:=by
 refine⟨?_⟩
 unfold z3s_sd
 intro w1
 have m:Mem w w1 _:=Mem.nil.alloc
 clear_value w1
 intro w2
 have m:Mem w w2 _:=m.alloc
 clear_value w2
 intro w3
 have m:Mem w w3 _:=m.alloc
 clear_value w3
 refine⟨_,m.ld 2 rfl rfl,_,m.ld 2 rfl rfl,_,m.ld 1 rfl rfl,_,m.ld 1 rfl rfl,both_spec hn hd hn' hd' fun w4 hf4=>?_⟩
 have m:Mem w w4 _:=m.fr hf4
 by_cases h:rightP n d/\rightP n' d'
 ·rw[if_pos h] at hK
  have e:(!(decide (rightP n d) && decide (rightP n' d')))=false:=by simp[h.1,h.2]
  rw[e,cnd_false]
  intro w5
  have m:Mem w w5 _:=m.drew
  clear_value w5
  refine⟨fun u=>Rs u _,m.sub 0 rfl,_,fun _ h=>h.ld 2 rfl rfl,_,fun _ h=>h.ld 2 rfl rfl,_,fun _ h=>h.ld 1 rfl rfl,_,fun _ h=>h.ld 1 rfl rfl,?_⟩
  refine of_spec hn hd fun w6 hf6=>?_
  have m:Mem w w6 _:=m.fr hf6
  refine⟨m.sub 0 rfl,of_spec hn' hd' fun w7 hf7=>?_⟩
  have m:Mem w w7 _:=m.fr hf7
  refine⟨m.sub 0 rfl,?_⟩
  refine(hf h.1 h.2 w7 m.1).mono fun u w8 hu=>?_
  obtain⟨rfl,hf8⟩:=hu
  have m:Mem w w8 _:=m.fr hf8
  exact⟨_,_,_,rfl,m.sub 0 rfl,put2b m 0 rfl hK⟩
 ·rw[if_neg h] at hK
  have e:(!(decide (rightP n d) && decide (rightP n' d')))=true:=by
   simp only[Bool.not_eq_true',Bool.and_eq_false_iff,decide_eq_false_iff_not]
   by_cases h1:rightP n d
   ·exact .inr fun h2=>h ⟨h1,h2⟩
   ·exact .inl h1
  rw[e,cnd_true]
  exact zero_spec fun w5 hf5=>put2b (m.fr hf5) 0 rfl hK
theorem I64.abs {n:Int}(h:I64 n):n.natAbs<=9223372036854775808:=by have:=h.1; have:=h.2; omega
theorem I64.abs' {n:Int}(h:I64 n):n.natAbs<18446744073709551616:=by have:=h.1; have:=h.2; omega
theorem Add_spec {n d n' d':Int}{K:Int->Int->Bool->World->Prop}(hn:I64 n)(hd:I64 d)(hn':I64 n')(hd':I64 d')
  (hK:∀ w',Fr F0 w w'->Kr K (addQ n d n' d') w'):z4y_sh n d n' d' K w:=by
 refine⟨?_⟩
 unfold z4y_sd
 intro w1
 have m:Mem w w1 _:=Mem.nil.alloc
 clear_value w1
 intro w2
 have m:Mem w w2 _:=m.alloc
 clear_value w2
 intro w3
 have m:Mem w w3 _:=m.alloc
 clear_value w3
 refine⟨_,m.ld 2 rfl rfl,_,m.ld 2 rfl rfl,_,m.ld 1 rfl rfl,_,m.ld 1 rfl rfl,?_⟩
 refine checked_spec (r:=fitQ (val n d+val n' d')) hn hd hn' hd' (fun h h' w4 hf4=>callV_of z53_ok ?_) fun w4 hf4=>put2b (m.fr hf4) 0 rfl hK
 refine sum_spec (right_cop h) (right_cop h') (by have:=h.1; omega) (by have:=h'.1; omega) hn.abs hd.abs hn'.abs hd'.abs fun w5 hf5=>?_
 rw[val_eq h.1,val_eq h'.1]
 exact⟨rfl,hf5⟩
theorem Mul_spec {n d n' d':Int}{K:Int->Int->Bool->World->Prop}(hn:I64 n)(hd:I64 d)(hn':I64 n')(hd':I64 d')
  (hK:∀ w',Fr F0 w w'->Kr K (mulQ n d n' d') w'):z50_sh n d n' d' K w:=by
 refine⟨?_⟩
 unfold z50_sd
 intro w1
 have m:Mem w w1 _:=Mem.nil.alloc
 clear_value w1
 intro w2
 have m:Mem w w2 _:=m.alloc
 clear_value w2
 intro w3
 have m:Mem w w3 _:=m.alloc
 clear_value w3
 refine⟨_,m.ld 2 rfl rfl,_,m.ld 2 rfl rfl,_,m.ld 1 rfl rfl,_,m.ld 1 rfl rfl,?_⟩
 refine checked_spec (r:=fitQ (val n d*val n' d')) hn hd hn' hd' (fun h h' w4 hf4=>callV_of z4k_ok ?_) fun w4 hf4=>put2b (m.fr hf4) 0 rfl hK
 refine times_spec (right_cop h) (right_cop h') (by have:=h.1; omega) (by have:=h'.1; omega) hn.abs' hd.abs' hn'.abs' hd'.abs' fun w5 hf5=>?_
 rw[val_eq h.1,val_eq h'.1]
 exact⟨rfl,hf5⟩
end
open Go Pw
theorem cmpI_lt {x y:Int}(h:x<y):cmpI x y=-1:=by unfold cmpI; rw[if_pos h]
theorem cmpI_gt {x y:Int}(h:y<x):cmpI x y=1:=by unfold cmpI; rw[if_neg (by omega),if_pos h]
theorem cmpI_eq {x y:Int}(h:x=y):cmpI x y=0:=by unfold cmpI; rw[if_neg (by omega),if_neg (by omega)]
theorem cmpI_neg {x y:Int}:cmpI (-x) (-y)=-cmpI x y:=by
 rcases Int.lt_trichotomy x y with h | h | h
 ·rw[cmpI_lt h,cmpI_gt (by omega)]; rfl
 ·rw[cmpI_eq h,cmpI_eq (by omega)]; rfl
 ·rw[cmpI_gt h,cmpI_lt (by omega)]
theorem cmp_apart {n d n' d':Int}(hd:0<d)(hd':0<d')(h:¬(decide (n<0)=decide (n'<0))):cmpI n n'=cmpI (n*d') (n'*d):=by
 rcases Int.lt_or_le n 0 with h1 | h1
 ·have h2:0<=n':=by
   rcases Int.lt_or_le n' 0 with h2 | h2
   ·exact absurd (by simp[h1,h2]) h
   ·exact h2
  rw[cmpI_lt (by omega)]
  have e1:n*d'<0:=Int.mul_neg_of_neg_of_pos h1 hd'
  have e2:0<=n'*d:=Int.mul_nonneg h2 (by omega)
  rw[cmpI_lt (by omega)]
 ·have h2:n'<0:=by
   rcases Int.lt_or_le n' 0 with h2 | h2
   ·exact h2
   ·exact absurd (by simp[show ¬n<0 by omega,show ¬n'<0 by omega]) h
  rw[cmpI_gt (by omega)]
  have e1:n'*d<0:=Int.mul_neg_of_neg_of_pos h2 hd
  have e2:0<=n*d':=Int.mul_nonneg h1 (by omega)
  rw[cmpI_gt (by omega)]
theorem cmp_alike {n d n' d':Int}(hd:0<d)(hd':0<d')(h:decide (n<0)=decide (n'<0)) :
  (if n<0 then -cmpI ((n.natAbs*d'.natAbs:Nat):Int) ((n'.natAbs*d.natAbs:Nat):Int) else cmpI ((n.natAbs*d'.natAbs:Nat):Int) ((n'.natAbs*d.natAbs:Nat):Int))=cmpI (n*d') (n'*d):=by
 have ed:(d.natAbs:Int)=d:=by omega
 have ed':(d'.natAbs:Int)=d':=by omega
 rw[Int.natCast_mul,Int.natCast_mul,ed,ed']
 by_cases h1:n<0
 ·have h2:n'<0:=by simpa [h1] using h.symm
  rw[if_pos h1]
  have e1:(n.natAbs:Int)=-n:=by omega
  have e2:(n'.natAbs:Int)=-n':=by omega
  rw[e1,e2,Int.neg_mul,Int.neg_mul,cmpI_neg,Int.neg_neg]
 ·have h2:¬n'<0:=by simpa [h1] using h.symm
  rw[if_neg h1]
  have e1:(n.natAbs:Int)=n:=by omega
  have e2:(n'.natAbs:Int)=n':=by omega
  rw[e1,e2]
theorem cmpI_range (x y:Int):-1<=cmpI x y/\cmpI x y<=1:=by
 unfold cmpI
 split
 ·decide
 ·split<;>decide
section
variable {w w0:World}
theorem Cmp_k0_spec {ba bb b1 b2 bx by':Nat}{c1 c2:List Value}{n d n' d':Int}{K:Int->World->Prop}(hn:I64 n)(hd:I64 d)(hn':I64 n')(hd':I64 d')(pd:0<d)(pd':0<d')
  (m:Mem w0 w [(b1,c1),(b2,c2),(bb,[.int .i64 n',.int .i64 d']),(ba,[.int .i64 n,.int .i64 d])]) (jx jy:Nat)
  (hx:[(b1,c1),(b2,c2),(bb,[.int .i64 n',.int .i64 d']),(ba,[.int .i64 n,.int .i64 d])][jx]?=some (bx,[.bool (decide (n<0)),.int .u64 (n.natAbs:Int),.int .u64 (d.natAbs:Int)]))
  (hy:[(b1,c1),(b2,c2),(bb,[.int .i64 n',.int .i64 d']),(ba,[.int .i64 n,.int .i64 d])][jy]?=some (by',[.bool (decide (n'<0)),.int .u64 (n'.natAbs:Int),.int .u64 (d'.natAbs:Int)]))
  (hK:∀ w',Fr F0 w0 w'->K (cmpI (n*d') (n'*d)) w'):z4z_k0 ⟨ba,0,none⟩ ⟨bb,0,none⟩ ⟨bx,0,none⟩ ⟨by',0,none⟩ K w:=by
 refine⟨?_⟩
 unfold z4z_k0d
 simp -zeta only[add_mk,Nat.zero_add]
 refine⟨_,m.ld jx hx rfl,_,m.ld jy hy rfl,?_⟩
 rw[cnd_iff]
 constructor
 ·intro h
  refine⟨_,m.ld 3 rfl rfl,_,m.ld 2 rfl rfl,Compare_i ?_⟩
  rw[cmp_apart pd pd' (by simpa using h)]
  exact hK w m.1
 ·intro h
  have hs:decide (n<0)=decide (n'<0):=by simpa using h
  intro w1
  have m:Mem w0 w1 _:=m.drew
  clear_value w1
  refine⟨fun u=>Rs u _,m.sub 0 rfl,_,fun _ h=>h.ld jx hx rfl,_,fun _ h=>h.ld jy hy rfl,_,fun _ h=>h.ld jy hy rfl,_,fun _ h=>h.ld jx hx rfl,?_⟩
  refine product_spec hn.abs' hd'.abs' fun w2 hf=>?_
  have m:Mem w0 w2 _:=m.fr hf
  refine⟨m.sub 0 rfl,product_spec hn'.abs' hd.abs' fun w3 hf=>?_⟩
  have m:Mem w0 w3 _:=m.fr hf
  refine⟨m.sub 0 rfl,compare_spec fun w4 hf=>?_⟩
  have m:Mem w0 w4 _:=m.fr hf
  have hr:=cmpI_range ((n.natAbs*d'.natAbs:Nat):Int) ((n'.natAbs*d.natAbs:Nat):Int)
  have hc:=cmp_alike pd pd' hs
  refine⟨m.sub 0 rfl,_,m.ld jx hx rfl,?_⟩
  rw[cnd_prop]
  constructor
  ·intro h1
   rw[if_pos h1] at hc
   rw[hc]
   have hr2:=cmpI_range (n*d') (n'*d)
   exact⟨inR64 (by omega) (by omega),hK w4 m.1⟩
  ·intro h1
   rw[if_neg h1] at hc
   rw[hc]
   exact hK w4 m.1
set_option maxHeartbeats 1000000 in
theorem Cmp_spec {n d n' d':Int}{K:Int->World->Prop}(hn:I64 n)(hd:I64 d)(hn':I64 n')(hd':I64 d')
  (hK:∀ w',Fr F0 w w'->K (cmpQ n d n' d') w'):z4z_sh n d n' d' K w:=by
 unfold cmpQ at hK
 refine⟨?_⟩
 unfold z4z_sd
 intro w1
 have m:Mem w w1 _:=Mem.nil.alloc
 clear_value w1
 intro w2
 have m:Mem w w2 _:=m.alloc
 clear_value w2
 refine⟨_,m.ld 1 rfl rfl,_,m.ld 1 rfl rfl,_,m.ld 0 rfl rfl,_,m.ld 0 rfl rfl,both_spec hn hd hn' hd' fun w4 hf4=>?_⟩
 have m:Mem w w4 _:=m.fr hf4
 by_cases h:rightP n d/\rightP n' d'
 ·rw[if_pos h] at hK
  have e:(!(decide (rightP n d) && decide (rightP n' d')))=false:=by simp[h.1,h.2]
  rw[e,cnd_false]
  have pd:=h.1.1
  have pd':=h.2.1
  intro w5
  have m:Mem w w5 _:=m.drew
  clear_value w5
  refine⟨fun u=>Rs u _,m.sub 0 rfl,_,fun _ h=>h.ld 1 rfl rfl,_,fun _ h=>h.ld 1 rfl rfl,_,fun _ h=>h.ld 0 rfl rfl,_,fun _ h=>h.ld 0 rfl rfl,?_⟩
  repeat' first
   | exact Cmp_k0_spec hn hd hn' hd' pd pd' m 0 1 rfl rfl hK
   | exact Cmp_k0_spec hn hd hn' hd' pd pd' m 1 0 rfl rfl hK
   | refine⟨m.sub 0 rfl,?_⟩
   | refine⟨m.sub 1 rfl,?_⟩
   | refine⟨m.sub 2 rfl,?_⟩
   | refine⟨m.wr 0 rfl rfl,?_⟩
   | refine⟨m.wr 1 rfl rfl,?_⟩
   | (refine of_spec hn hd fun w1 hf=>?_; have m:=m.fr hf)
   | (refine of_spec hn' hd' fun w1 hf=>?_; have m:=m.fr hf)
   | (intro w1; have m:Mem w w1 _:=m.alloc; clear_value w1)
   | (intro w1; have m:Mem w w1 _:=m.set 0 rfl; clear_value w1)
   | (intro w1; have m:Mem w w1 _:=m.set 1 rfl; clear_value w1)
   | refine⟨?_,?_⟩
 ·rw[if_neg h] at hK
  have e:(!(decide (rightP n d) && decide (rightP n' d')))=true:=by
   simp only[Bool.not_eq_true',Bool.and_eq_false_iff,decide_eq_false_iff_not]
   by_cases h1:rightP n d
   ·exact .inr fun h2=>h ⟨h1,h2⟩
   ·exact .inl h1
  rw[e,cnd_true]
  exact hK w4 m.1
theorem floor_code {n d:Int}(hd:0<d):(Int.tmod n d<0->Int.tdiv n d-1=n / d)/\(¬Int.tmod n d<0->Int.tdiv n d=n / d):=by
 have h1:=Int.tmod_add_mul_tdiv n d
 have h2:=Int.emod_add_mul_ediv n d
 have h3:=Int.emod_nonneg n (show d≠0 by omega)
 have h4:=Int.emod_lt_of_pos n hd
 have h5:-d<Int.tmod n d/\Int.tmod n d<d:=by
  have:=Int.natAbs_tmod n d
  have h7:n.natAbs % d.natAbs<d.natAbs:=Nat.mod_lt _ (by omega)
  rw[← this] at h7
  omega
 generalize Int.tmod n d=r at *
 generalize Int.tdiv n d=q at *
 generalize n % d=r' at *
 generalize n / d=q' at *
 have h6:d*(q-q')=r'-r:=by rw[Int.mul_sub]; omega
 constructor
 ·intro hr
  have g1:d*0<d*(q-q'):=by rw[h6]; omega
  have g2:d*(q-q')<d*2:=by rw[h6]; omega
  have:=Int.lt_of_mul_lt_mul_left g1 (by omega)
  have:=Int.lt_of_mul_lt_mul_left g2 (by omega)
  omega
 ·intro hr
  have g1:d*(-1)<d*(q-q'):=by rw[h6]; omega
  have g2:d*(q-q')<d*1:=by rw[h6]; omega
  have:=Int.lt_of_mul_lt_mul_left g1 (by omega)
  have:=Int.lt_of_mul_lt_mul_left g2 (by omega)
  omega
theorem Floor_spec {n d:Int}{K:Int->World->Prop}(hn:I64 n)(hd:I64 d)(hK:∀ w',Fr F0 w w'->K (floorQ n d) w'):z4i_sh n d K w:=by
 unfold floorQ at hK
 refine⟨?_⟩
 unfold z4i_sd
 intro w1
 have m:Mem w w1 _:=Mem.nil.alloc
 clear_value w1
 refine⟨_,m.ld 0 rfl rfl,_,m.ld 0 rfl rfl,Right_spec hn hd fun w2 hf=>?_⟩
 have m:Mem w w2 _:=m.fr hf
 by_cases h:rightP n d
 ·rw[if_pos h] at hK
  rw[decide_eq_true h,Bool.not_true,cnd_false]
  have hpos:=h.1
  have hb1:n / d<=9223372036854775807/\-9223372036854775808<=n / d:=by
   have a1:=hn.1
   have a2:=hn.2
   constructor
   ·rcases Int.lt_or_le n 0 with hh | hh
    ·have:=Int.ediv_neg_of_neg_of_pos hh hpos; omega
    ·have:=Int.ediv_le_self d hh; omega
   ·rw[Int.le_ediv_iff_mul_le hpos]
    have:-9223372036854775808*d<=-9223372036854775808*1:=Int.mul_le_mul_of_nonpos_left (by omega) (by omega)
    omega
  obtain⟨f1,f2⟩:=floor_code (n:=n) hpos
  have hq:I64 (Int.tdiv n d):=by
   by_cases hr:Int.tmod n d<0
   ·have h1:=f1 hr
    have h2:n<0:=by
     rcases Int.lt_or_le n 0 with hh | hh
     ·exact hh
     ·have:=Int.tmod_nonneg d hh
      omega
    have h3:=Int.ediv_neg_of_neg_of_pos h2 hpos
    unfold I64
    omega
   ·have h1:=f2 hr
    unfold I64
    omega
  refine⟨_,m.ld 0 rfl rfl,_,m.ld 0 rfl rfl,by omega,inR64 hq.1 hq.2,_,m.ld 0 rfl rfl,_,m.ld 0 rfl rfl,by omega,?_⟩
  rw[cnd_prop]
  constructor
  ·intro hr
   rw[f1 hr]
   exact⟨inR64 (by omega) (by omega),hK w2 m.1⟩
  ·intro hr
   rw[f2 hr]
   exact hK w2 m.1
 ·rw[if_neg h] at hK
  rw[decide_eq_false h,Bool.not_false,cnd_true]
  exact hK w2 m.1
end
open Go Pw
section
variable {w w0:World}
theorem tmod_bound (n:Int){m:Int}(hm:0<m):-m<Int.tmod n m/\Int.tmod n m<m:=by
 have:=Int.natAbs_tmod n m
 have h7:n.natAbs % m.natAbs<m.natAbs:=Nat.mod_lt _ (by omega)
 rw[← this] at h7
 omega
theorem mod_code (n:Int){m:Int}(hm:0<m):Int.tmod (Int.tmod n m+m) m=n % m:=by
 obtain⟨h1,h2⟩:=tmod_bound n hm
 have h3:=Int.tmod_add_mul_tdiv n m
 rw[Int.tmod_eq_emod_of_nonneg (by omega),Int.add_emod_right]
 conv=>rhs; rw[← h3]
 rw[Int.add_mul_emod_self_left]
theorem Mod_spec {n m:Int}{K:Int->World->Prop}(hm:0<m)(hm2:m<4611686018427387904)(hK:K (n % m) w):z2v_sh n m K w:=by
 refine⟨?_⟩
 unfold z2v_sd
 obtain⟨h1,h2⟩:=tmod_bound n hm
 refine⟨by omega,inR64 (by omega) (by omega),by omega,?_⟩
 rw[mod_code n hm]
 exact hK
end
end Go.Proofs.YtfpobpjandjhjaaGreatDoor
