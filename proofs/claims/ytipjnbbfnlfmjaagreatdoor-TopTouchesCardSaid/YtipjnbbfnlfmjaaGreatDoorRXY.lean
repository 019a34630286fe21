/- Rational numbers: what the operations answer, as plain laws. Conditions: none. -/
import Derived.Test.YtipjnbbfnlfmjaaGreatDoorRXX
open Int renaming lt_or_le->J0,natAbs_tdiv->J1,tdiv->J2
open Nat renaming div_le_self->J3,gcd->J4,gcd_comm->J5
namespace Go.Proofs.YtipjnbbfnlfmjaaGreatDoor
open Go Pw
def makeQ (n d:Int):RR:=if d=0 then zr else fitQ (Rat.divInt n d)
theorem qn3 (q:Rat):I64 (fitQ q).n/\I64 (fitQ q).d:=by
 unfold fitQ
 split
 ·rename_i h
  refine⟨⟨h.1,h.2.1⟩,?_⟩
  have:=h.2.2
  show I64 (q.den:Int)
  exact⟨by omega,by omega⟩
 ·exact⟨⟨by decide,by decide⟩,⟨by decide,by decide⟩⟩
section
variable {w w' w0:World}{s a b:Sl}{k j n m:Nat}
theorem q9t {n:Int}{K:Bool->World->Prop}(hK:K (decide (-1000000000<n/\n<1000000000)) w):z0r_sh n K w:=by
 refine⟨?_⟩
 refine q00.2 ?_
 constructor
 ·intro h
  by_cases h2:n<1000000000
  ·rw[decide_eq_true (⟨by omega,h2⟩:-1000000000<n/\n<1000000000)] at hK
   rw[decide_eq_true h2]; exact hK
  ·rw[decide_eq_false (by omega)] at hK
   rw[decide_eq_false h2]; exact hK
 ·intro h
  rw[decide_eq_false (by omega)] at hK
  exact hK
end
theorem qhi (n d:Int):mkRat (sgn ((decide (n<0)) != (decide (d<0))) n.natAbs) d.natAbs=Rat.divInt n d:=by
 rcases J0 d 0 with hneg | hpos
 ·have e1:Rat.divInt n d=Rat.divInt (-n) (-d):=(Rat.neg_divInt_neg n d).symm
  have e2:-d=((d.natAbs:Nat):Int):=by omega
  rw[e1,e2,Rat.divInt_ofNat]
  congr 1
  rcases J0 n 0 with h | h
  ·simp[sgn,h,hneg]; omega
  ·have h':¬n<0:=by omega
   simp[sgn,h',hneg]; omega
 ·have e2:d=((d.natAbs:Nat):Int):=by omega
  have hd':¬d<0:=by omega
  conv=>rhs; rw[e2]
  rw[Rat.divInt_ofNat]
  congr 1
  rcases J0 n 0 with h | h
  ·simp[sgn,h,hd']; omega
  ·have h':¬n<0:=by omega
   simp[sgn,h',hd']; omega
section
variable {w w0:World}
theorem qel {n d:Int}(hn:n.natAbs<9223372036854775808)(hd:d.natAbs<9223372036854775808)(hd0:0<d) :
  fitQ (Rat.divInt n d)=⟨J2 n (J4 n.natAbs d.natAbs:Nat),J2 d (J4 n.natAbs d.natAbs:Nat),true⟩:=by
 have hd1:¬d<0:=by omega
 rw[← qhi,← q6f _ _ _ (by omega)]
 have h1:=J3 n.natAbs (J4 n.natAbs d.natAbs)
 have h2:=J3 d.natAbs (J4 n.natAbs d.natAbs)
 unfold ratI
 rw[if_pos ⟨by omega,.inl (by omega)⟩]
 generalize J4 n.natAbs d.natAbs=g at *
 have e2:d=((d.natAbs:Nat):Int):=by omega
 congr 1
 ·rcases J0 n 0 with h | h
  ·have e1:n=-((n.natAbs:Nat):Int):=by omega
   simp only[h,hd1,decide_true,decide_false]
   conv=>rhs; rw[e1]
   rw[Int.neg_tdiv,q3t]
   simp
  ·have e1:n=((n.natAbs:Nat):Int):=by omega
   have h':¬n<0:=by omega
   simp only[h',hd1,decide_false]
   conv=>rhs; rw[e1]
   rw[q3t]
   simp
 ·conv=>rhs; rw[e2]
  rw[q3t]
theorem qg9 {n d:Int}{t:Nat}{x y:Value}{l:List (Nat × List Value)}{K:Int->Int->World->Prop}(m:Mem w0 w l)(j:Nat)(hj:l[j]?=some (t,[x,y]))(hn:n.natAbs<9223372036854775808)(hd:d.natAbs<9223372036854775808)(hd0:0<d)
  (hK:∀ w',Fr F0 w0 w'->K (fitQ (Rat.divInt n d)).n (fitQ (Rat.divInt n d)).d w'):z0q_k0 n d ⟨t,0,none⟩ K w:=by
 rw[qel hn hd hd0] at hK
 have hm:max n (-n)=(n.natAbs:Int):=by omega
 refine⟨?_⟩
 rw[hm]
 have e2:d=((d.natAbs:Nat):Int):=by omega
 refine⟨q03,⟨⟨fun x y w'=>∃ a b:Nat,x=a/\y=b/\J4 a b=J4 n.natAbs d.natAbs/\w'=w,fun _ y _=>y.toNat,⟨n.natAbs,d.natAbs,rfl,e2,rfl,rfl⟩,?_⟩⟩⟩
 rintro x y w1 ⟨a,b,rfl,rfl,hg,rfl⟩
 unfold z0q_b1
 refine q00.2 ?_
 constructor
 ·intro h
  refine⟨by omega,⟨⟨rfl,rfl,rfl,trivial⟩,b,a % b,rfl,rfl,?_,rfl⟩,?_⟩
  ·rw[← hg,J5 b,← Nat.gcd_rec,J5]
  ·rw[qp0]
   have:=Nat.mod_lt a (show 0<b by omega)
   show((a % b:Nat):Int).toNat<(b:Int).toNat
   omega
 ·intro h
  have hb:b=0:=by omega
  subst hb
  rw[Nat.gcd_zero_right] at hg
  subst hg
  intro w2
  have m:Mem w0 w2 _:=m.drew
  clear_value w2
  have hg0:0<J4 n.natAbs d.natAbs:=Nat.gcd_pos_of_pos_right _ (by omega)
  have b1:(J2 n (J4 n.natAbs d.natAbs:Nat)).natAbs<=n.natAbs:=by rw[J1]; exact J3 _ _
  have b2:(J2 d (J4 n.natAbs d.natAbs:Nat)).natAbs<=d.natAbs:=by rw[J1]; exact J3 _ _
  exact⟨fun _=>True,trivial,by omega,q03,by omega,q03,put2 m j hj hK⟩
theorem qhj {n d:Int}{K:Int->Int->World->Prop}(hn:n.natAbs<9223372036854775808)(hd:d.natAbs<9223372036854775808)(hd0:d≠0)
  (hK:∀ w',Fr F0 w w'->K (fitQ (Rat.divInt n d)).n (fitQ (Rat.divInt n d)).d w'):z0q_sh n d K w:=by
 refine⟨?_⟩
 intro w1
 have m:Mem w w1 _:=Mem.nil.alloc
 clear_value w1
 refine q00.2 ?_
 constructor
 ·intro h
  refine⟨q03,q03,qg9 m 0 rfl (by omega) (by omega) (by omega) ?_⟩
  rw[Rat.neg_divInt_neg]
  exact hK
 ·intro h
  exact qg9 m 0 rfl hn hd (by omega) hK
theorem qn4 {n d:Int}(hn:n.natAbs<9223372036854775808)(hd:d.natAbs<9223372036854775808)(hd0:d≠0):(fitQ (Rat.divInt n d)).ok=true:=by
 rcases J0 d 0 with h | h
 ·rw[← Rat.neg_divInt_neg,qel (by omega) (by omega) (by omega)]
 ·rw[qel hn hd (by omega)]
theorem Kr_mk {K:Int->Int->Bool->World->Prop}{r:RR}{w:World}(h:Kr K r w)(hr:r.ok=true):K r.n r.d true w:=by
 unfold Kr at h
 rw[hr] at h
 exact h
theorem qhk {n d:Int}{K:Int->Int->Bool->World->Prop}(hn:-1000000000<n/\n<1000000000)(hd:-1000000000<d/\d<1000000000)(hd0:d≠0)(hK:∀ w',Fr F0 w w'->Kr K (makeQ n d) w'):z0w_sh n d K w:=by
 unfold makeQ at hK
 refine⟨?_⟩
 intro w1
 have m:Mem w w1 _:=Mem.nil.alloc
 clear_value w1
 refine q09.2 ⟨fun h0=>absurd h0 hd0,fun h0=>?_⟩
 rw[if_neg h0] at hK
 refine q9t (q00.2 ⟨fun _=>q9t (q00.2 ⟨fun _=>?_,fun h=>absurd hd h⟩),fun h=>absurd hn h⟩)
 refine qhj (by omega) (by omega) h0 fun w2 hf2=>q34 (m.fr hf2) 0 rfl fun w3 hf3=>?_
 exact Kr_mk (hK w3 hf3) (qn4 (by omega) (by omega) h0)
end
