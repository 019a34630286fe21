/- The reference's Mod, Name, decimal, Lot. Conditions: none. -/
import Derived.Test.YtipjnbbfnlfmjaaGreatDoorDYTX
import Derived.Test.YtipjnbbfnlfmjaaGreatDoorDG4
open Int renaming tmod->J0,eq_ofNat_of_zero_le->J1,tmod_lt_of_pos->J2,tdiv->J3,lt_tmod_of_pos->J4,tmod_nonneg->J5,neg_tmod->J6,neg_tdiv->J7,neg_neg->J8
namespace Dp
open Go Pw
def modP (n m:Int):Int:=J0 (J0 n m+m) m
def qoa:List B:=[[113,117,97,108,105,116,121],[100,97,121,115],[115,116,97,102,102],[112,114,105,99,101],[108,111,119]]
def namP (n:Int):B:=qoa.getD (modP n 5).toNat []
theorem q2e (n:Int){m:Int}(h0:0<m):0<=modP n m/\modP n m<m:=by
 have a1:=J2 n h0
 have a2:=J4 n h0
 exact⟨J5 _ (by omega),J2 _ h0⟩
theorem qg8 {n:Int}(h:10<=n):Lib.itoa n=Lib.itoa (J3 n 10)++[UInt8.ofNat (48+(J0 n 10).toNat)]:=by
 obtain⟨u,rfl⟩:=J1 (show 0<=n by omega)
 unfold Lib.itoa
 have e1:J3 (u:Int) 10=((u / 10:Nat):Int):=rfl
 have e2:J0 (u:Int) 10=((u % 10:Nat):Int):=rfl
 rw[e1,e2,if_neg (by omega),if_neg (by omega)]
 simp only[Int.toNat_natCast]
 conv=>lhs; rw[Lib.decDigits]
 rw[dif_neg (by omega)]
theorem qn2 {n:Int}(h0:0<=n)(h:n<10):Lib.itoa n=[UInt8.ofNat (48+n.toNat)]:=by
 unfold Lib.itoa
 rw[if_neg (by omega),Lib.decDigits,dif_pos (by omega)]
theorem qej {n:Int}(h:n<=-10):Lib.itoa n=45 :: (Lib.itoa (-(J3 n 10))++[UInt8.ofNat (48+(-(J0 n 10)).toNat)]):=by
 have:=qg8 (n:=-n) (by omega)
 have e1:J3 (-n) 10=-(J3 n 10):=J7 _ _
 have e2:J0 (-n) 10=-(J0 n 10):=J6 _ _
 rw[e1,e2] at this
 rw[← this]
 unfold Lib.itoa
 rw[if_pos (by omega),if_neg (by omega)]
 congr 2
 omega
theorem qek {n:Int}(h0:n<0)(h:-10<n):Lib.itoa n=45 :: [UInt8.ofNat (48+(-(J0 n 10)).toNat)]:=by
 unfold Lib.itoa
 have e:J0 n 10=n:=by
  have:=J6 (-n) 10
  rw[J8] at this
  rw[this,Int.tmod_eq_of_lt (by omega) (by omega),J8]
 rw[if_pos h0,Lib.decDigits,dif_pos (by omega),e]
 congr 4
 omega
end Dp
namespace Go.Proofs.YtipjnbbfnlfmjaaGreatDoor
open Go Pw Dp
section
variable {w w' u:World}{s s':Sl}{x:T43}
theorem q24 {n m:Int}{K:Int->World->Prop}(h0:0<m)(h1:m<2^62)(hK:K (modP n m) w):z1b_sh n m K w:=by
 have a1:=J2 n h0
 have a2:=J4 n h0
 refine⟨?_⟩
 exact⟨by omega,q03,by omega,hK⟩
theorem str_at {l:List B}{b:Nat}{i:Int}{n:Nat}(hr:Row w b (l.flatMap encB))(h0:0<=i)(hn:n=l.length)(h1:i<n):w.cell? ((⟨b,0,none⟩:Addr).add (i.toNat*1))=some (.string (ofL (l.getD i.toNat []))):=by
 subst hn
 rw[q01,Nat.zero_add,Nat.mul_one,hr.cell]
 have hi:i.toNat<l.length:=by omega
 have:=qmd q0w l i.toNat 0 (l[i.toNat]) (List.getElem?_eq_getElem hi) (by decide)
 rw[Nat.mul_one,Nat.add_zero] at this
 rw[this,List.getD_eq_getElem?_getD,List.getElem?_eq_getElem hi]
 rfl
theorem q2z {n:Int}{K:ByteArray->World->Prop}(hK:∀ w',Fr F0 w w'->K (ofL (namP n)) w'):z0z_sh n K w:=by
 refine⟨?_⟩
 intro w1
 have r:Row w1 w.heap.size (qoa.flatMap encB):=Row.new
 have f:Fr F0 w w1:=Fr.alloc
 clear_value w1
 have hm:=q2e n (m:=5) (by decide)
 refine q24 (by decide) (by decide) ⟨hm,_,str_at r hm.1 rfl hm.2,hK w1 f⟩
theorem dig1 {b:Nat}{e:Int}{d:Nat}{K:ByteArray->Prop}(hd:d<10)(hc:w.cell? ⟨b,0,none⟩=some (.int .u8 e))(he:e=48+(d:Int))(hK:K (ofL [UInt8.ofNat (48+d)])):btsS ⟨some ⟨b,0,none⟩,1,1⟩ w K:=by
 refine qoy (l:=[UInt8.ofNat (48+d)]) ⟨rfl,fun i hi=>?_⟩ hK
 have:i=0:=by simp at hi; omega
 subst this
 rw[q01,hc,he]
 simp only[List.map_cons,List.map_nil,List.getElem_cons_zero,bv,q3u hd]
 rfl
theorem inU8 {n:Int}(h:0<=n/\n<256):inR .u8 n:=by
 unfold inR
 simp[IntKind.wrap,IntKind.bits,IntKind.signed]
 omega
theorem qjo:∀ (k:Nat) {n:Int} {K:ByteArray->World->Prop} {w:World},n.natAbs<=k->I64 n->(∀ w',Fr F0 w w'->K (ofL (Lib.itoa n)) w')->z0j_sh n K w:=by
 intro k
 induction k using Nat.strongRecOn with
 | ind k ih =>
 intro n K w hk h hK
 obtain⟨i0,i1⟩:=h
 refine z0j_mk n ?_
 unfold z0j_sd
 have hlow:∀ {u:World},10<=n\/n<0->z0j_k0 n K w:=by
  intro _ hc
  refine⟨?_⟩
  unfold z0j_k0d
  refine q00.2 ⟨fun hneg=>?_,fun hge=>?_⟩
  ·have hm1:-10<J0 n 10:=J4 n (by decide)
   have hm0:J0 n 10<=0:=by
    have:=J5 (a:=-n) 10 (by omega)
    rw[J6] at this
    omega
   have k1:∀ (r:B) (u:World),Fr F0 w u->r.length<=21->Lib.itoa n=45 :: (r++[UInt8.ofNat (48+(-(J0 n 10)).toNat)])->z0j_k1 n (ofL r) K u:=by
    intro r u hf hr he
    refine⟨?_⟩
    unfold z0j_k1d
    have e45:str [45]=ofL [45]:=rfl
    rw[e45,q0i,q0i]
    refine⟨by unfold maxI; simp; omega,by decide,q03,inU8 (by omega),?_⟩
    intro u1
    have r1:Row u1 u.heap.size [.int .u8 (48-J0 n 10)]:=Row.new
    have f1:Fr F0 u u1:=Fr.alloc
    clear_value u1
    refine dig1 (d:=(-(J0 n 10)).toNat) (by omega) (r1.at) (by omega) ?_
    rw[q17,q0i,q0i,q17]
    refine⟨by unfold maxI; simp; omega,?_⟩
    have:=hK u1 (hf.t f1)
    rw[he] at this
    exact this
   refine q00.2 ⟨fun h10=>?_,fun h10=>?_⟩
   ·have hd:-(J3 n 10)=((n.natAbs / 10:Nat):Int):=by
     rw[← J7]
     obtain⟨u,hu⟩:=J1 (show 0<=-n by omega)
     rw[hu]
     have:n.natAbs=u:=by omega
     rw[this]
     rfl
    have hI:I64 (-(J3 n 10)):=by rw[hd]; exact⟨by omega,by omega⟩
    refine⟨by decide,q03,q03,ih (n.natAbs / 10) (by omega) (by rw[hd]; omega) hI fun u hf=>?_⟩
    exact k1 _ u hf (Lib.itoa_length_le _ hI.1 (by have:=hI.2; omega)) (qej h10)
   ·exact k1 [] w Fr.refl (by simp) (qek hneg (by omega))
  ·have h10:10<=n:=by omega
   have hm1:J0 n 10<10:=J2 n (by decide)
   have hm0:0<=J0 n 10:=J5 _ (by omega)
   have hd:J3 n 10=((n.natAbs / 10:Nat):Int):=by
    obtain⟨u,hu⟩:=J1 (show 0<=n by omega)
    rw[hu]
    rfl
   have hI:I64 (J3 n 10):=by rw[hd]; exact⟨by omega,by omega⟩
   have hl:=Lib.itoa_length_le _ hI.1 (by have:=hI.2; omega)
   have he:=qg8 h10
   have rcl:∀ {u:World} {J:ByteArray->World->Prop},(∀ w',Fr F0 u w'->J (ofL (Lib.itoa (J3 n 10))) w')->z0j_sh (J3 n 10) J u:=fun hJ=>ih (n.natAbs / 10) (by omega) (by rw[hd]; omega) hI hJ
   have fin:∀ {u:World},Fr F0 w u->((((ofL (Lib.itoa (J3 n 10))).size+(ofL [UInt8.ofNat (48+(J0 n 10).toNat)]).size:Nat):Int)<=maxI)/\K (ofL (Lib.itoa (J3 n 10))++ofL [UInt8.ofNat (48+(J0 n 10).toNat)]) u:=by
    intro u hf
    rw[q17,q0i,q0i]
    refine⟨by unfold maxI; simp; omega,?_⟩
    have:=hK u hf
    rw[he] at this
    exact this
   have he48:(48:Int)+J0 n 10=48+(((J0 n 10).toNat:Nat):Int):=by omega
   intro w7
   have f7:Fr F0 w w7:=Fr.drew
   clear_value w7
   refine⟨fun u=>Fr F0 w7 u,Fr.refl,by decide,q03,by decide,q03,inU8 (by omega),rcl fun w9 f9=>⟨f9,?_⟩,?_⟩
   ·intro w11
    have r1:Row w11 w9.heap.size [.int .u8 (48+J0 n 10)]:=Row.new
    have f1:Fr F0 w9 w11:=Fr.alloc
    clear_value w11
    exact dig1 (by omega) (r1.at) he48 (fin (f7.t (f9.t f1)))
   ·intro w13
    have r1:Row w13 w7.heap.size [.int .u8 (48+J0 n 10)]:=Row.new
    have f1:Fr F0 w7 w13:=Fr.alloc
    clear_value w13
    refine⟨f1,rcl fun w14 f14=>⟨f1.t f14,dig1 (by omega) ((f14.row r1 fun h=>h).at rfl) he48 (fin (f7.t (f1.t f14)))⟩,dig1 (by omega) (r1.at) he48 ⟨f1,rcl fun w18 f18=>fin (f7.t (f1.t f18))⟩⟩
 refine q00.2 ⟨fun h0=>q00.2 ⟨fun h10=>?_,fun h10=>hlow (u:=w) (by omega)⟩,fun h0=>hlow (u:=w) (by omega)⟩
 refine⟨q03,inU8 (by omega),?_⟩
 intro w1
 have r1:Row w1 w.heap.size [.int .u8 (48+n)]:=Row.new
 have f1:Fr F0 w w1:=Fr.alloc
 clear_value w1
 refine dig1 (d:=n.toNat) (by omega) (r1.at) (by omega) ?_
 have:=hK w1 f1
 rw[qn2 h0 h10] at this
 exact this
theorem q5s {n:Int}{K:ByteArray->World->Prop}(h:I64 n)(hK:∀ w',Fr F0 w w'->K (ofL (Lib.itoa n)) w'):z0j_sh n K w:=qjo n.natAbs (Nat.le_refl _) h hK
end
