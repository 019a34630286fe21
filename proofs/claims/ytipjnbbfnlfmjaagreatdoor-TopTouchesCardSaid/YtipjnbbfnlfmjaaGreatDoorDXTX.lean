/- text: names, and formulas that are right. Conditions: none. -/
import Derived.Test.YtipjnbbfnlfmjaaGreatDoorDI
import Derived.Test.YtipjnbbfnlfmjaaGreatDoorDG1
import Derived.Lib.TrimByte
open List renaming getElem?_eq_getElem->J0,length_append->J1,append_eq_nil_iff->J2,take_length->J3,not_mem_nil->J4,pairwise_cons->J5,take_add_one->J6,mem_cons->J7,getElem_mem->J8,length_drop->J9,map_cons->Ja,map_nil->Jb
open Nat renaming zero_add->Jc,le_trans->Jd,lt_of_lt_of_le->Je,le_refl->Jf
open Bool renaming and_eq_true->Jg,eq_iff_iff->Jh,eq_false_iff->Ji,false_and->Jj,true_and->Jk
open Array renaming getElem?_eq_some_iff->Jl
namespace Go.Proofs.YtipjnbbfnlfmjaaGreatDoor
open Go Pw Dp
section
variable {w w' w0:World}{s:Sl}
theorem Vw.goS {α:Type}{n:Nat}{enc:α->List Value}{l:List α}{i:Int}{K:Addr->Prop}{S:World->Prop}(hn:∀ a,(enc a).length=n)(hn0:0<n)(hw:S w)(h:∀ v,S v->Vw n enc v s l)(i':Nat)(hi:i=(i':Int))(h1:i'<l.length)
  (hK:∀ a:Addr,(∀ k v,(enc l[i'])[k]?=some v->∀ u,S u->u.cell? ((a.add (i.toNat*n)).add k)=some v)->K a):nz s.p fun a=>(0<=i/\i<(s.l:Nat))/\K a:=by
 subst hi
 obtain⟨ad,hp,_⟩:=(h w hw).at hn (J0 h1) hn0
 have hl:=(h w hw).len
 rw[hp]
 refine⟨⟨by omega,by omega⟩,hK ad fun k v hv u hu=>?_⟩
 obtain⟨ad',hp',hc⟩:=(h u hu).at hn (J0 h1) hn0
 rw[hp] at hp'
 cases hp'
 exact hc k v hv
theorem q83 {c:UInt8}{K:Bool->World->Prop}(hK:K (q36 c) w):z33_sh (c.toNat:Int) K w:=by
 refine⟨?_⟩
 have e2:q36 c=((decide (97<=c.toNat) && decide (c.toNat<=122)) || (decide (65<=c.toNat) && decide (c.toNat<=90))):=rfl
 refine q00.2 ⟨fun h1=>q00.2 ⟨fun h2=>?_,fun h2=>q00.2 ⟨fun h3=>?_,fun h3=>?_⟩⟩,fun h1=>q00.2 ⟨fun h3=>?_,fun h3=>?_⟩⟩
 ·have:q36 c=true:=by rw[e2]; simp; omega
  rwa [this] at hK
 ·have:q36 c=decide ((c.toNat:Int)<=90):=by rw[e2,Jh]; simp; omega
  rwa [this] at hK
 ·have:q36 c=false:=by rw[e2]; simp; omega
  rwa [this] at hK
 ·have:q36 c=decide ((c.toNat:Int)<=90):=by rw[e2,Jh]; simp; omega
  rwa [this] at hK
 ·have:q36 c=false:=by rw[e2]; simp; omega
  rwa [this] at hK
theorem qhd {c:UInt8}{K:Bool->World->Prop}(hK:K (q9k c) w):z3l_sh (c.toNat:Int) K w:=by
 refine⟨?_⟩
 refine q00.2 ⟨fun h1=>?_,fun h1=>?_⟩
 ·have:q9k c=decide ((c.toNat:Int)<=57):=by unfold q9k; rw[Jh]; simp; omega
  rwa [this] at hK
 ·have:q9k c=false:=by unfold q9k; simp; omega
  rwa [this] at hK
theorem qeb {c:UInt8}{K:Bool->World->Prop}(hK:K (q1y c) w):z31_sh (c.toNat:Int) K w:=by
 refine⟨?_⟩
 refine q83 (q04.2 ⟨fun h=>?_,fun h=>qhd (q04.2 ⟨fun h'=>?_,fun h'=>?_⟩)⟩)
 ·have:q1y c=true:=by unfold q1y; rw[h]; rfl
  rwa [this] at hK
 ·have:q1y c=true:=by unfold q1y; rw[h,h']; rfl
  rwa [this] at hK
 ·have:q1y c=((c.toNat:Int) == 95):=by unfold q1y; rw[h,h',Jh]; simp; omega
  rwa [this] at hK
theorem qmu {l:B}{K:Int->World->Prop}(hl:l.length<2^62)(hK:∀ r:Int,(r == (l.length:Int))=l.all q1y->K r w):z44_sh (ofL l) 0 (Value.func (.func 293) #[] #[]) K w:=by
 refine⟨?_⟩
 refine⟨⟨fun i u=>∃ i':Nat,i=i'/\i'<=l.length/\u=w/\(l.take i').all q1y=true,fun i _=>l.length-i.toNat,⟨0,rfl,by omega,rfl,by simp⟩,?_⟩⟩
 rintro i u ⟨i,rfl,hi,rfl,hb⟩
 unfold z44_b0
 rw[q0i]
 refine q00.2 ⟨fun hlt=>⟨⟨by omega,by omega⟩,?_⟩,fun hge=>?_⟩
 ·have hil:i<l.length:=by omega
  have e:((ofL l).data.toList.getD (i:Int).toNat 0)=l[i]:=by
   show(bl (ofL l)).getD i 0=_
   rw[q3s,List.getD_eq_getElem?_getD,J0 hil]
   rfl
  rw[e]
  refine q05 z31_ok (qeb (K:=fun b u=>∃ x3:Bool,Value.bool b=Value.bool x3/\_) ⟨_,rfl,q04.2 ⟨fun h=>?_,fun h=>?_⟩⟩)
  ·refine⟨q03,⟨⟨rfl,rfl,trivial⟩,i+1,by omega,by omega,rfl,?_⟩,by dsimp only; omega⟩
   rw[J6,J0 hil,List.all_append,hb]
   simp[h]
  ·refine hK _ ?_
   have:l.all q1y=false:=List.all_eq_false.2 ⟨_,J8 hil,by simp[h]⟩
   rw[this]
   simp
   omega
 ·have:i=l.length:=by omega
  subst this
  rw[J3] at hb
  refine hK _ ?_
  rw[hb]
  simp
theorem qec {l:B}{K:Bool->World->Prop}(hl:l.length<2^62)(hK:K (q37 l) w):z32_sh (ofL l) K w:=by
 refine⟨?_⟩
 have e0:decide (ofL l=str [])=decide (l=[]):=q0h l []
 rw[e0,q0i]
 cases l with
 | nil=>exact hK
 | cons c l =>
  refine q04.2 ⟨fun _=>q00.2 ⟨fun h30=>⟨⟨by omega,by simp⟩,?_⟩,fun h30=>?_⟩,fun h=>by simp at h⟩
  ·have e:((ofL (c :: l)).data.toList.getD (0:Int).toNat 0)=c:=by
    show(bl (ofL (c :: l))).getD 0 0=_
    rw[q3s]
    rfl
   rw[e]
   have h30':decide ((c :: l).length<=30)=true:=decide_eq_true (by omega)
   refine q83 (q04.2 ⟨fun h=>qmu hl fun r hr=>?_,fun h=>?_⟩)
   ·have:q37 (c :: l)=(c :: l).all q1y:=by unfold q37; simp only[h30',h,Jk]
    rw[hr,← this]
    exact hK
   ·have:q37 (c :: l)=false:=by unfold q37; simp only[h30',h,Jk,Jj]
    rw[this] at hK
    exact hK
  ·have:q37 (c :: l)=false:=by
    show(decide ((c :: l).length<=30) && _)=false
    rw[decide_eq_false (by omega),Jj]
   rw[this] at hK
   exact hK
end
end Go.Proofs.YtipjnbbfnlfmjaaGreatDoor
namespace Dp
open Go Pw
def rfB:Fm->Nat->Nat->Bool × Nat
 | .num n d,deep,k=>if deep=0\/60<k+1 then (false,k+1) else (qdz n d,k+1)
 | .name s,deep,k=>if deep=0\/60<k+1 then (false,k+1) else (q9l s,k+1)
 | .op _ a b,deep,k=>if deep=0\/60<k+1 then (false,k+1) else
   if (rfB a (deep-1) (k+1)).1 then rfB b (deep-1) (rfB a (deep-1) (k+1)).2 else (false,(rfB a (deep-1) (k+1)).2)
theorem q2x:∀ e:Fm,0<e.parts
 | .num _ _=>by simp[Fm.parts]
 | .name _=>by simp[Fm.parts]
 | .op _ a b=>by simp[Fm.parts]; omega
theorem q5q:∀ (e:Fm) (deep k:Nat),((rfB e deep k).1=true ↔ e.sound=true/\e.depth<=deep/\k+e.parts<=60)/\((rfB e deep k).1=true->(rfB e deep k).2=k+e.parts)
 | .num n d,deep,k=>by
  unfold rfB
  simp only[Fm.sound,Fm.depth,Fm.parts]
  split
  ·simp; omega
  ·simp; omega
 | .name s,deep,k=>by
  unfold rfB
  simp only[Fm.sound,Fm.depth,Fm.parts]
  split
  ·simp; omega
  ·simp; omega
 | .op o a b,deep,k=>by
  obtain⟨ha1,ha2⟩:=q5q a (deep-1) (k+1)
  have hpa:=q2x a
  have hpb:=q2x b
  unfold rfB
  simp only[Fm.sound,Fm.depth,Fm.parts,Jg]
  split
  ·simp; omega
  ·split
   ·rename_i h1
    obtain⟨hb1,hb2⟩:=q5q b (deep-1) (rfB a (deep-1) (k+1)).2
    have h2:=ha2 h1
    obtain⟨h3,h4,h5⟩:=ha1.1 h1
    rw[h2] at hb1 hb2 ⊢
    refine⟨hb1.trans ⟨fun⟨x,y,z⟩=>⟨⟨h3,x⟩,by omega,by omega⟩,fun⟨⟨_,x⟩,y,z⟩=>⟨x,by omega,by omega⟩⟩,fun h=>by rw[hb2 h]; omega⟩
   ·rename_i h1
    refine⟨⟨fun h=>by simp at h,fun⟨⟨x,_⟩,y,z⟩=>absurd (ha1.2 ⟨x,by omega,by omega⟩) h1⟩,fun h=>by simp at h⟩
theorem qjf (e:Fm):(rfB e 12 0).1=e.right:=by
 rw[Jh,(q5q e 12 0).1]
 unfold Fm.right
 simp only[Jg,decide_eq_true_eq,Jc]
 exact⟨fun⟨x,y,z⟩=>⟨x,z,y⟩,fun⟨x,y,z⟩=>⟨x,z,y⟩⟩
end Dp
namespace Go.Proofs.YtipjnbbfnlfmjaaGreatDoor
open Go Pw Dp
theorem _root_.Pw.Fr.nb {F:Nat->Prop}{w0 w w':World}(h:Fr F0 w0 w)(h':Fr F w w')(hb:∀ b,F b->w0.heap.size<=b):Fr F0 w0 w':=h.trans h' fun b hF hlt=>absurd (hb b hF) (by omega)
theorem qmv {A F:Prop}(h:A):∀ o:Fin 6,cnd (decide (o=0)) (cnd (decide (o=0)) A F) (cnd (decide (o=1)) (cnd (decide (o=1)) A F) (cnd (decide (o=2)) (cnd (decide (o=2)) A F) (cnd (decide (o=3)) (cnd (decide (o=3)) A F) (cnd (decide (o=4)) (cnd (decide (o=4)) A F) (cnd (decide (o=5)) A F)))))
 | 0=>h
 | 1=>h
 | 2=>h
 | 3=>h
 | 4=>h
 | 5=>h
theorem op43:∀ o:Fin 6,decide (ofL (opB o)=str [43])=decide (o=0):=by decide
theorem op45:∀ o:Fin 6,decide (ofL (opB o)=str [45])=decide (o=1):=by decide
theorem op42:∀ o:Fin 6,decide (ofL (opB o)=str [42])=decide (o=2):=by decide
theorem op47:∀ o:Fin 6,decide (ofL (opB o)=str [47])=decide (o=3):=by decide
theorem opmin:∀ o:Fin 6,decide (ofL (opB o)=str [109,105,110])=decide (o=4):=by decide
theorem opmax:∀ o:Fin 6,decide (ofL (opB o)=str [109,97,120])=decide (o=5):=by decide
theorem qmw:∀ o:Fin 6,decide (ofL (opB o)=str [110,117,109])=false:=by decide
theorem qcq:∀ o:Fin 6,decide (ofL (opB o)=str [110,97,109,101])=false:=by decide
section
variable {w w' w0:World}
theorem ldX {s:Sl}{i:Int}{l:List XC}{K:ByteArray->Int->Int->ByteArray->Sl->Prop}(h:Vw 5 encX w s l)(i':Nat)(hi:i=(i':Int))(h1:i'<l.length)(hK:K l[i'].op l[i'].n l[i'].d l[i'].nm l[i'].a) :
  nz s.p fun a=>(0<=i/\i<(s.l:Nat))/\∃ x:ByteArray,w.cell? (a.add (i.toNat*5))=some (Value.string x)/\∃ y:Int,w.cell? ((a.add (i.toNat*5)).add 1)=some (Value.int .i64 y)/\∃ z:Int,w.cell? ((a.add (i.toNat*5)).add 2)=some (Value.int .i64 z) /\
   ∃ u:ByteArray,w.cell? ((a.add (i.toNat*5)).add 3)=some (Value.string u)/\∃ v:Sl,w.cell? ((a.add (i.toNat*5)).add 4)=some (Value.slice v.p v.l v.c)/\K x y z u v :=
 Vw.go q1u (by decide) h i' hi h1 fun _ hc=>⟨_,hc 0 _ rfl,_,hc 1 _ rfl,_,hc 2 _ rfl,_,hc 3 _ rfl,_,hc 4 _ rfl,hK⟩
theorem q2y {n d:Int}:qdz n d=true ↔ q0j n d/\0<=n/\Int.tmod 1000000 d=0/\n<=1000000000*d:=by
 unfold qdz
 simp only[Jg,decide_eq_true_eq]
theorem qo9 {d:Int}(h0:0<d)(h:Int.tmod 1000000 d=0):d<=1000000:=by
 rcases Int.lt_or_le 1000000 d with h' | h'
 ·rw[Int.tmod_eq_emod_of_nonneg (by omega),Int.emod_eq_of_lt (by omega) h'] at h
  omega
 ·exact h'
theorem q6h:∀ (e:Fm) {c:XC} {deep k pb:Nat} {w0 w:World} {K:Bool->World->Prop},XP w0 e c->Fr F0 w0 w->w0.heap.size<=pb->Row w pb [.int .i64 (k:Int)]->k<=60->deep<=12 ->
  (∀ w',Fr (fun b=>b=pb) w w'->Row w' pb [.int .i64 ((rfB e deep k).2:Int)]->K (rfB e deep k).1 w')->z16_sh c.op c.n c.d c.nm c.a (deep:Int) (some ⟨pb,0,none⟩) K w:=by
 intro e
 induction e with
 | num n d =>
  intro c deep k pb w0 w K hx hf hb hr hk hd hK
  obtain⟨rfl,hn64,hd64⟩:=hx
  refine z16_mk _ _ _ _ _ _ _ _ _ ?_
  unfold z16_sd
  intro w1
  have m:Mem w w1 [(w.heap.size,_)]:=Mem.nil.allocL (cs:=encX ⟨ofL wNum,n,d,ofL [],⟨none,0,0⟩⟩)
  clear_value w1
  have hr1:=m.1.row hr fun h=>h
  have hlt:=hr.lt
  have hbox:=m.row 0
  refine⟨k,hr1.at,q03,hr1.wr (by simp),?_⟩
  intro w2
  have hr2:Row w2 pb [.int .i64 ((k:Int)+1)]:=hr1.set 0 _
  have hf2:Fr (fun b=>b=pb) w1 w2:=Fr.set rfl
  have hbox2:=hf2.row hbox (by omega)
  have hF2:Fr (fun b=>b=pb) w w2:=m.1.f0.trans hf2 fun _ h _=>h
  clear_value w2
  have e1:((k:Int)+1)=((k+1:Nat):Int):=by omega
  rw[e1] at hr2
  refine q09.2 ⟨fun h=>?_,fun h=>⟨((k+1:Nat):Int),hr2.at,q00.2 ⟨fun h'=>?_,fun h'=>?_⟩⟩⟩
  ·have e:rfB (.num n d) deep k=(false,k+1):=by unfold rfB; rw[if_pos (by omega)]
   rw[e] at hK
   exact hK w2 hF2 hr2
  ·have e:rfB (.num n d) deep k=(false,k+1):=by unfold rfB; rw[if_pos (by omega)]
   rw[e] at hK
   exact hK w2 hF2 hr2
  have e:rfB (.num n d) deep k=(qdz n d,k+1):=by unfold rfB; rw[if_neg (by omega)]
  rw[e] at hK
  refine⟨_,hbox2.at,?_⟩
  have ee:decide (ofL wNum=str [110,117,109])=true:=by decide
  dsimp -zeta only; rw[ee]
  refine⟨n,hbox2.at,d,hbox2.at,q2v hn64 hd64 fun w3 hf3=>?_⟩
  have hbox3:=hf3.row hbox2 fun h=>h
  have hr3:=hf3.row hr2 fun h=>h
  have hF3:=hF2.tF hf3
  have fin:∀ b,qdz n d=b->K b w3:=fun b hb=>by subst hb; exact hK w3 hF3 hr3
  refine q00.2 ⟨fun h1=>⟨n,hbox3.at,q00.2 ⟨fun h2=>?_,fun h2=>fin _ (Ji.2 fun h=>h2 (q2y.1 h).2.1)⟩⟩,fun h1=>fin _ (Ji.2 fun h=>h1 (q2y.1 h).1)⟩
  have hd0:0<d:=h1.1
  refine⟨d,hbox3.at,by omega,q09.2 ⟨fun h3=>?_,fun h3=>fin _ (Ji.2 fun h=>h3 (q2y.1 h).2.2.1)⟩⟩
  have hdl:=qo9 hd0 h3
  refine⟨n,hbox3.at,d,hbox3.at,q03,q00.2 ⟨fun h4=>?_,fun h4=>fin _ (Ji.2 fun h=>h4 (q2y.1 h).2.2.2)⟩⟩
  refine⟨_,hbox3.at,?_⟩
  have ee:decide (ofL []=str [])=true:=by decide
  dsimp -zeta only; rw[ee]
  exact⟨⟨none,0,0⟩,hbox3.at,fin _ (q2y.2 ⟨h1,h2,h3,h4⟩)⟩
 | name s =>
  intro c deep k pb w0 w K hx hf hb hr hk hd hK
  obtain⟨rfl,hs20⟩:=hx
  refine z16_mk _ _ _ _ _ _ _ _ _ ?_
  unfold z16_sd
  intro w1
  have m:Mem w w1 [(w.heap.size,_)]:=Mem.nil.allocL (cs:=encX ⟨ofL q0n,0,0,ofL s,⟨none,0,0⟩⟩)
  clear_value w1
  have hr1:=m.1.row hr fun h=>h
  have hlt:=hr.lt
  have hbox:=m.row 0
  refine⟨k,hr1.at,q03,hr1.wr (by simp),?_⟩
  intro w2
  have hr2:Row w2 pb [.int .i64 ((k:Int)+1)]:=hr1.set 0 _
  have hf2:Fr (fun b=>b=pb) w1 w2:=Fr.set rfl
  have hbox2:=hf2.row hbox (by omega)
  have hF2:Fr (fun b=>b=pb) w w2:=m.1.f0.trans hf2 fun _ h _=>h
  clear_value w2
  have e1:((k:Int)+1)=((k+1:Nat):Int):=by omega
  rw[e1] at hr2
  refine q09.2 ⟨fun h=>?_,fun h=>⟨((k+1:Nat):Int),hr2.at,q00.2 ⟨fun h'=>?_,fun h'=>?_⟩⟩⟩
  ·have e:rfB (.name s) deep k=(false,k+1):=by unfold rfB; rw[if_pos (by omega)]
   rw[e] at hK
   exact hK w2 hF2 hr2
  ·have e:rfB (.name s) deep k=(false,k+1):=by unfold rfB; rw[if_pos (by omega)]
   rw[e] at hK
   exact hK w2 hF2 hr2
  have e:rfB (.name s) deep k=(q9l s,k+1):=by unfold rfB; rw[if_neg (by omega)]
  rw[e] at hK
  have fin:∀ b,q9l s=b->K b w2:=fun b hb=>by subst hb; exact hK w2 hF2 hr2
  have en:q9l s=(q37 s && (!decide (s=wMin) && !decide (s=wMax))):=rfl
  refine⟨_,hbox2.at,?_⟩
  have ee:decide (ofL q0n=str [110,117,109])=false:=by decide
  have ee':decide (ofL q0n=str [110,97,109,101])=true:=by decide
  dsimp -zeta only; rw[ee,ee']
  refine⟨_,hbox2.at,qec (by omega) (q04.2 ⟨fun h1=>⟨_,hbox2.at,?_⟩,fun h1=>fin _ (by rw[en,h1]; rfl)⟩)⟩
  dsimp -zeta only; rw[show decide (ofL s=str [109,105,110])=decide (s=wMin) from q0h s wMin]
  refine q04.2 ⟨fun h2=>⟨_,hbox2.at,?_⟩,fun h2=>fin _ (by rw[en,h2]; simp)⟩
  dsimp -zeta only; rw[show decide (ofL s=str [109,97,120])=decide (s=wMax) from q0h s wMax]
  refine q04.2 ⟨fun h3=>⟨0,hbox2.at,0,hbox2.at,?_⟩,fun h3=>fin _ (by rw[en,h3]; simp)⟩
  show cnd true _ _
  rw[q19]
  exact⟨⟨none,0,0⟩,hbox2.at,fin _ (by rw[en,h1,h2,h3]; rfl)⟩
 | op o a b iha ihb =>
  intro c deep k pb w0 w K hx hf hb hr hk hd hK
  obtain⟨ca,cb,⟨h1,h2,h3,h4⟩,hv,hxa,hxb⟩:=hx
  obtain⟨op,n,d,nm,sa⟩:=c
  simp only at h1 h2 h3 h4 hv
  subst h1 h2 h3 h4
  refine z16_mk _ _ _ _ _ _ _ _ _ ?_
  unfold z16_sd
  intro w1
  have m:Mem w w1 [(w.heap.size,_)]:=Mem.nil.allocL (cs:=encX ⟨ofL (opB o),0,0,ofL [],sa⟩)
  clear_value w1
  have hr1:=m.1.row hr fun h=>h
  have hlt:=hr.lt
  have hbox:=m.row 0
  refine⟨k,hr1.at,q03,hr1.wr (by simp),?_⟩
  intro w2
  have hr2:Row w2 pb [.int .i64 ((k:Int)+1)]:=hr1.set 0 _
  have hf2:Fr (fun b=>b=pb) w1 w2:=Fr.set rfl
  have hbox2:=hf2.row hbox (by omega)
  have hF2:Fr (fun b=>b=pb) w w2:=m.1.f0.trans hf2 fun _ h _=>h
  clear_value w2
  have e1:((k:Int)+1)=((k+1:Nat):Int):=by omega
  rw[e1] at hr2
  refine q09.2 ⟨fun h=>?_,fun h=>⟨((k+1:Nat):Int),hr2.at,q00.2 ⟨fun h'=>?_,fun h'=>?_⟩⟩⟩
  ·have e:rfB (.op o a b) deep k=(false,k+1):=by unfold rfB; rw[if_pos (by omega)]
   rw[e] at hK
   exact hK w2 hF2 hr2
  ·have e:rfB (.op o a b) deep k=(false,k+1):=by unfold rfB; rw[if_pos (by omega)]
   rw[e] at hK
   exact hK w2 hF2 hr2
  have e:rfB (.op o a b) deep k=if (rfB a (deep-1) (k+1)).1 then rfB b (deep-1) (rfB a (deep-1) (k+1)).2 else (false,(rfB a (deep-1) (k+1)).2):=by
   conv=>lhs; unfold rfB
   rw[if_neg (by omega)]
  rw[e] at hK
  refine⟨_,hbox2.at,?_⟩
  dsimp -zeta only; rw[qmw o,qcq o,op43 o,op45 o,op42 o,op47 o,opmin o,opmax o]
  refine qmv ⟨?_⟩ o
  unfold z16_k0d
  simp only[q01,Jc]
  have hl2:sa.l=2:=hv.len
  have hF0:Fr F0 w0 w2:=hf.nb hF2 fun b h=>h ▸ hb
  refine⟨sa,hbox2.at,?_⟩
  dsimp -zeta only; rw[hl2]
  show cnd true _ _
  rw[q19]
  refine⟨0,hbox2.at,0,hbox2.at,?_⟩
  show cnd true _ _
  rw[q19]
  refine⟨_,hbox2.at,?_⟩
  have ee:decide (ofL []=str [])=true:=by decide
  dsimp -zeta only; rw[ee,q19]
  have ed:((deep:Int)-1)=((deep-1:Nat):Int):=by omega
  rw[ed]
  refine⟨sa,hbox2.at,ldX (hv.fr hF0) 0 rfl (by simp) ⟨q03,iha hxa hF0 hb hr2 (by omega) (by omega) fun w3 hf3 hr3=>?_⟩⟩
  have hbox3:=hf3.row hbox2 (by omega)
  have hF3:Fr (fun b=>b=pb) w w3:=hF2.trans hf3 fun _ h _=>h
  refine q04.2 ⟨fun ht=>?_,fun hfa=>?_⟩
  ·rw[if_pos ht] at hK
   have hF03:Fr F0 w0 w3:=hf.nb hF3 fun b h=>h ▸ hb
   have hk3:(rfB a (deep-1) (k+1)).2<=60:=by
    have h1:=(q5q a (deep-1) (k+1)).2 ht
    have h2:=((q5q a (deep-1) (k+1)).1.1 ht).2.2
    omega
   refine⟨sa,hbox3.at,ldX (hv.fr hF03) 1 rfl (by simp) ⟨q03,ihb hxb hF03 hb hr3 hk3 (by omega) fun w4 hf4 hr4=>?_⟩⟩
   exact hK w4 (hF3.trans hf4 fun _ h _=>h) hr4
  ·rw[if_neg (by rw[hfa]; decide)] at hK
   exact hK w3 hF3 hr3
end
section
variable {w w' w0:World}
theorem q6i {x:ByteArray}{K:Int->World->Prop}(hK:∀ n:Int,0<=n->n<=2->K n w):z3m_sh x K w:=by
 have k0:=hK 0 (by omega) (by omega)
 have k1:=hK 1 (by omega) (by omega)
 have k2:=hK 2 (by omega) (by omega)
 have h:z3m_k0 x K w:=by
  refine⟨?_⟩
  exact q04.2 ⟨fun h=>q04.2 ⟨fun _=>k1,fun _=>k2⟩,fun _=>q04.2 ⟨fun _=>k1,fun _=>k2⟩⟩
 refine⟨?_⟩
 exact q04.2 ⟨fun _=>q04.2 ⟨fun _=>k0,fun _=>h⟩,fun _=>q04.2 ⟨fun _=>k0,fun _=>h⟩⟩
theorem qmx (l:B)(c:UInt8):(Lib.trimRightB l c).length<=l.length:=by
 unfold Lib.trimRightB
 rw[List.length_reverse]
 exact Jd (List.dropWhile_sublist _).length_le (by simp)
theorem qcr {n d:Int}{K:ByteArray->World->Prop}(h:qdz n d=true)(hn:I64 n)(g:GlT w)(hK:∀ s w',Fr F0 w w'->s≠[]->s.length<=60->K (ofL s) w'):z2f_sh n d K w:=by
 obtain⟨hr,h0,ht,hm⟩:=q2y.1 h
 have hd0:0<d:=hr.1
 have hdl:=qo9 hd0 ht
 have hn1:=hn.1
 have hn2:=hn.2
 refine⟨?_⟩
 intro w1
 have m:Mem w w1 [(w.heap.size,_)]:=Mem.nil.allocL (cs:=[.int .i64 n,.int .i64 d])
 clear_value w1
 intro w2
 have m:=m.drew (w:=w1)
 change Mem w w2 _ at m
 clear_value w2
 have e1:Int.tmod n d=n % d:=Int.tmod_eq_emod_of_nonneg h0
 have e2:Int.tdiv 1000000 d=1000000 / d:=Int.tdiv_eq_ediv_of_nonneg (by omega)
 have e3:Int.tdiv n d=n / d:=Int.tdiv_eq_ediv_of_nonneg h0
 have b1:=Int.emod_nonneg n (show d≠0 by omega)
 have b2:=Int.emod_lt_of_pos n hd0
 have b3:0<=1000000 / d:=Int.ediv_nonneg (by omega) (by omega)
 have b4:1000000 / d<=1000000:=Int.ediv_le_self _ (by omega)
 have b5:0<=n / d:=Int.ediv_nonneg h0 (by omega)
 have b6:n / d<=n:=Int.ediv_le_self _ h0
 have b7:0<=n % d*(1000000 / d):=Int.mul_nonneg b1 b3
 have b8:n % d*(1000000 / d)<=1000000*1000000:=Int.mul_le_mul (by omega) b4 b3 (by omega)
 have r0:w2.cell? (Addr.mk w.heap.size 0 none)=some (Value.int .i64 n):=m.ld 0
 have r1:w2.cell? (Addr.mk w.heap.size 1 none)=some (Value.int .i64 d):=m.ld 0
 have g2:=g.fr m.1
 refine⟨n,r0,d,r1,by omega,d,r1,by omega,?_⟩
 rw[e1,e2]
 refine⟨q03,q03,q09.2 ⟨fun hz=>⟨n,r0,d,r1,by omega,?_⟩,fun hz=>⟨n,r0,d,r1,by omega,?_⟩⟩⟩
 ·rw[e3]
  refine⟨q03,q3z ⟨by omega,by omega⟩ g2 fun w3 hf3=>?_⟩
  have:=q2w (n:=n / d) ⟨by omega,by omega⟩
  exact hK _ w3 (m.1.t hf3) (qdy _) (by omega)
 ·rw[e3]
  refine⟨q03,q3z ⟨by omega,by omega⟩ g2 fun w3 hf3=>?_⟩
  have l1:=q2w (n:=n / d) ⟨by omega,by omega⟩
  have e46:str [46]=ofL [46]:=by decide
  rw[e46,q0i,q0i]
  refine⟨by unfold maxI; simp; omega,q03,q3z ⟨by omega,by omega⟩ (g2.fr hf3) fun w4 hf4=>?_⟩
  have l2:=q2w (n:=1000000+n % d*(1000000 / d)) ⟨by omega,by omega⟩
  have l3:0<(Lib.itoa (1000000+n % d*(1000000 / d))).length:=List.length_pos_iff.2 (qdy _)
  rw[q0i]
  refine⟨⟨by omega,by omega⟩,?_⟩
  rw[qaf _ _ _ (Jf _)]
  refine q90 (by rw[J9]; omega) ?_
  have l4:=qmx ((Lib.itoa (1000000+n % d*(1000000 / d))).drop 1) 48
  rw[J9] at l4
  generalize Lib.trimRightB ((Lib.itoa (1000000+n % d*(1000000 / d))).drop 1) 48=tr at l4 ⊢
  rw[q17,q0i,q0i,q17]
  refine⟨by unfold maxI; rw[J1]; simp; omega,hK _ w4 (m.1.t (hf3.t hf4)) ?_ ?_⟩
  ·intro h
   exact absurd (J2.1 (J2.1 h).1).1 (qdy _)
  ·rw[J1,J1]
   simp
   omega
theorem qan {least own:Int}{s:B}{K:ByteArray->World->Prop}(hs:s≠[])(hl:s.length<=2^40)(hK:∀ s':B,s'≠[]->s'.length<=s.length+2->K (ofL s') w):z40_k2 least own (ofL s) K w:=by
 refine⟨?_⟩
 unfold z40_k2d
 refine q00.2 ⟨fun _=>?_,fun _=>hK s hs (by omega)⟩
 have e40:str [40]=ofL [40]:=by decide
 have e41:str [41]=ofL [41]:=by decide
 rw[e40,e41,q17,q0i,q0i,q0i,q0i,q17]
 refine⟨by unfold maxI; simp; omega,by unfold maxI; simp; omega,hK _ (by simp) (by simp)⟩
theorem qpa:∀ o:Fin 6,(opB o).length<=3:=by decide
def ShowK (e:Fm)(w:World)(K:ByteArray->World->Prop):Prop:=∀ s w',Fr F0 w w'->s≠[]->s.length<=64*e.parts->K (ofL s) w'
theorem q5r {s:Sl}{ca cb:XC}{w1:World}{i:Int}{K:ByteArray->Int->Int->ByteArray->Sl->Prop}(hv:Vw 5 encX w1 s [ca,cb])(i':Nat)(hi:i=(i':Int))(h1:i'<[ca,cb].length)(hK:K [ca,cb][i'].op [ca,cb][i'].n [ca,cb][i'].d [ca,cb][i'].nm [ca,cb][i'].a) :
  nz s.p fun a=>(0<=i/\i<(s.l:Nat))/\∃ x:ByteArray,(∀ w':World,Fr F0 w1 w'->w'.cell? (a.add (i.toNat*5))=some (Value.string x))/\∃ y:Int,(∀ w':World,Fr F0 w1 w'->w'.cell? ((a.add (i.toNat*5)).add 1)=some (Value.int .i64 y))/\∃ z:Int,(∀ w':World,Fr F0 w1 w'->w'.cell? ((a.add (i.toNat*5)).add 2)=some (Value.int .i64 z)) /\
   ∃ u:ByteArray,(∀ w':World,Fr F0 w1 w'->w'.cell? ((a.add (i.toNat*5)).add 3)=some (Value.string u))/\∃ v:Sl,(∀ w':World,Fr F0 w1 w'->w'.cell? ((a.add (i.toNat*5)).add 4)=some (Value.slice v.p v.l v.c))/\K x y z u v :=
 Vw.goS (S:=fun v=>Fr F0 w1 v) q1u (by decide) Fr.refl (fun _ h=>hv.fr h) i' hi h1 fun _ hc=>⟨_,hc 0 _ rfl,_,hc 1 _ rfl,_,hc 2 _ rfl,_,hc 3 _ rfl,_,hc 4 _ rfl,hK⟩
theorem sixth {A B:Prop}(h:A)(h':B):∀ o:Fin 6,cnd (decide (o=4)) (cnd (decide (o=4)) A B) (cnd (decide (o=5)) A B)
 | 0=>h'
 | 1=>h'
 | 2=>h'
 | 3=>h'
 | 4=>h
 | 5=>h
theorem qjg:∀ (e:Fm) {c:XC} {least:Int} {w0 w:World} {K:ByteArray->World->Prop},XP w0 e c->Fr F0 w0 w->GlT w->e.sound=true->e.parts<=2^20->ShowK e w K->z40_sh c.op c.n c.d c.nm c.a least K w:=by
 intro e
 induction e with
 | num n d =>
  intro c least w0 w K hx hf g hs hp hK
  obtain⟨rfl,hn64,hd64⟩:=hx
  refine z40_mk _ _ _ _ _ _ _ _ ?_
  unfold z40_sd
  intro w1
  have m:Mem w w1 [(w.heap.size,_)]:=Mem.nil.allocL (cs:=encX ⟨ofL wNum,n,d,ofL [],⟨none,0,0⟩⟩)
  clear_value w1
  have hbox:=m.row 0
  refine⟨_,hbox.at,q6i fun own _ _=>⟨_,hbox.at,?_⟩⟩
  have ee:decide (ofL wNum=str [110,117,109])=true:=by decide
  dsimp -zeta only; rw[ee,q19]
  refine⟨n,hbox.at,d,hbox.at,qcr hs hn64 (g.fr m.1) fun s w2 hf2 hne hlen=>qan hne (by omega) fun s' hne' hl'=>hK _ _ (m.1.t hf2) hne' (by simp only[Fm.parts]; omega)⟩
 | name s =>
  intro c least w0 w K hx hf g hs hp hK
  obtain⟨rfl,hs20⟩:=hx
  refine z40_mk _ _ _ _ _ _ _ _ ?_
  unfold z40_sd
  intro w1
  have m:Mem w w1 [(w.heap.size,_)]:=Mem.nil.allocL (cs:=encX ⟨ofL q0n,0,0,ofL s,⟨none,0,0⟩⟩)
  clear_value w1
  have hbox:=m.row 0
  refine⟨_,hbox.at,q6i fun own _ _=>⟨_,hbox.at,?_⟩⟩
  have ee:decide (ofL q0n=str [110,117,109])=false:=by decide
  have ee':decide (ofL q0n=str [110,97,109,101])=true:=by decide
  dsimp -zeta only; rw[ee,ee',q19,q0u]
  have hne:s≠[]:=by
   intro h
   subst h
   exact absurd hs (by decide)
  have h30:s.length<=30:=by
   cases s with
   | nil=>simp
   | cons c s =>
    simp only[Fm.sound,q9l,q37,Jg,decide_eq_true_eq] at hs
    exact hs.1.1
  exact⟨_,hbox.at,qan hne (by omega) fun s' hne' hl'=>hK _ _ m.1 hne' (by simp only[Fm.parts]; omega)⟩
 | op o a b iha ihb =>
  intro c least w0 w K hx hf g hs hp hK
  obtain⟨ca,cb,⟨h1,h2,h3,h4⟩,hv,hxa,hxb⟩:=hx
  obtain⟨op,n,d,nm,sa⟩:=c
  simp only at h1 h2 h3 h4 hv
  subst h1 h2 h3 h4
  simp only[Fm.sound,Jg] at hs
  simp only[Fm.parts] at hp
  have hpa:=q2x a
  have hpb:=q2x b
  have ho3:=qpa o
  refine z40_mk _ _ _ _ _ _ _ _ ?_
  unfold z40_sd
  intro w1
  have m:Mem w w1 [(w.heap.size,_)]:=Mem.nil.allocL (cs:=encX ⟨ofL (opB o),0,0,ofL [],sa⟩)
  clear_value w1
  have hbox:=m.row 0
  refine⟨_,hbox.at,q6i fun own hown hown2=>⟨_,hbox.at,?_⟩⟩
  dsimp -zeta only; rw[qmw o,qcq o,opmin o,opmax o,q0u,q0u]
  have hfin:∀ (s:B) (w':World),Fr F0 w w'->s≠[]->s.length<=64*(a.parts+b.parts)+20->z40_k2 least own (ofL s) K w':=fun s w' hF hne hl =>
   qan hne (by omega) fun s' hne' hl'=>hK _ _ hF hne' (by simp only[Fm.parts]; omega)
  refine sixth ⟨?_⟩ ⟨?_⟩ o
  ·unfold z40_k0d
   simp -zeta only[q01,Jc]
   intro w2
   have m2:Mem w w2 _:=m.drew
   clear_value w2
   have hF02:Fr F0 w0 w2:=hf.t m2.1
   have hb2:=m2.row 0
   have hbS:∀ {v:World},Fr F0 w2 v->Row v w.heap.size _:=fun h=>h.row hb2 fun h=>h
   have e40:str [40]=ofL [40]:=by decide
   have e41:str [41]=ofL [41]:=by decide
   have e44:str [44,32]=ofL [44,32]:=by decide
   rw[e40,e41,e44]
   simp only[q0i]
   refine⟨fun v=>Fr F0 w2 v,Fr.refl,ofL (opB o),fun v h=>(hbS h).at rfl,by unfold maxI; rw[q0i]; simp; omega,sa,fun v h=>(hbS h).at rfl,?_⟩
   refine q5r (hv.fr hF02) 0 rfl (by simp) ⟨sa,fun v h=>(hbS h).at rfl,?_⟩
   refine q5r (hv.fr hF02) 1 rfl (by simp) ?_
   refine iha hxa hF02 (g.fr m2.1) hs.1 (by omega) fun sA w3 hf3 hneA hlA=>⟨hf3,?_⟩
   rw[q17,q0i,q0i,q17,q0i,q17]
   refine⟨by unfold maxI; simp; omega,by unfold maxI; simp; omega,ihb hxb (hF02.t hf3) ((g.fr m2.1).fr hf3) hs.2 (by omega) fun sB w4 hf4 hneB hlB=>⟨hf3.t hf4,?_⟩⟩
   simp only[q17,q0i]
   refine⟨by unfold maxI; simp; omega,by unfold maxI; simp; omega,hfin _ _ (m2.1.t (hf3.t hf4)) (by simp) (by simp; omega)⟩
  ·unfold z40_k1d
   simp -zeta only[q01,Jc]
   intro w2
   have m2:Mem w w2 _:=m.drew
   clear_value w2
   have hF02:Fr F0 w0 w2:=hf.t m2.1
   have hb2:=m2.row 0
   have hbS:∀ {v:World},Fr F0 w2 v->Row v w.heap.size _:=fun h=>h.row hb2 fun h=>h
   have e32:str [32]=ofL [32]:=by decide
   rw[e32]
   refine⟨fun v=>Fr F0 w2 v,Fr.refl,sa,fun v h=>(hbS h).at rfl,?_⟩
   refine q5r (hv.fr hF02) 0 rfl (by simp) ⟨ofL (opB o),fun v h=>(hbS h).at rfl,sa,fun v h=>(hbS h).at rfl,?_⟩
   refine q5r (hv.fr hF02) 1 rfl (by simp) ⟨q03,?_⟩
   refine iha hxa hF02 (g.fr m2.1) hs.1 (by omega) fun sA w3 hf3 hneA hlA=>⟨hf3,?_⟩
   simp only[q17,q0i]
   refine⟨by unfold maxI; simp; omega,by unfold maxI; simp; omega,by unfold maxI; simp; omega,ihb hxb (hF02.t hf3) ((g.fr m2.1).fr hf3) hs.2 (by omega) fun sB w4 hf4 hneB hlB=>⟨hf3.t hf4,?_⟩⟩
   rw[q0i,q17]
   refine⟨by unfold maxI; simp; omega,hfin _ _ (m2.1.t (hf3.t hf4)) (by simp[hneA]) (by simp; omega)⟩
theorem q6j {e:Fm}{c:XC}{K:ByteArray->World->Prop}(hx:XP w e c)(g:GlT w)(hK:∀ s w',Fr F0 w w'->decide (s=[])=!e.right->K (ofL s) w'):z15_sh c.op c.n c.d c.nm c.a K w:=by
 refine⟨?_⟩
 intro w1
 have m:Mem w w1 [(w.heap.size,_)]:=Mem.nil.allocL (cs:=encX c)
 clear_value w1
 intro w2
 have m:Mem w w2 _:=m.allocL (cs:=[.int .i64 0])
 clear_value w2
 refine⟨m.wr 0,?_⟩
 intro w3
 have m:Mem w w3 _:=m.set 0
 clear_value w3
 have hbox:=m.row 1
 have hpb:=m.row 0
 have hne:w.heap.size≠w1.heap.size:=by
  have h3:=m.2.2.1
  simp only[Ja,Jb,List.set_cons_zero,J5,J7,J4,or_false,forall_eq] at h3
  omega
 have hge:w.heap.size<=w1.heap.size:=m.2.2.2 (w1.heap.size,[.int .i64 0]) (by simp)
 refine⟨_,hbox.at,_,hbox.at,_,hbox.at,_,hbox.at,c.a,hbox.at,?_⟩
 refine q6h e (deep:=12) (k:=0) hx m.1 hge hpb (by omega) (by omega) fun w4 hf4 _=>?_
 rw[qjf]
 have hbox4:=hf4.row hbox hne
 have hF4:Fr F0 w w4:=m.1.nb hf4 fun b h=>h ▸ hge
 refine q04.2 ⟨fun h=>hK [] w4 hF4 (by rw[h]; rfl),fun h=>?_⟩
 have hr:e.right=true:=by simpa using h
 have hr':e.sound=true/\e.parts<=60/\e.depth<=12:=by
  unfold Fm.right at hr
  simpa only[Jg,decide_eq_true_eq] using hr
 refine⟨_,hbox4.at,_,hbox4.at,_,hbox4.at,_,hbox4.at,c.a,hbox4.at,?_⟩
 refine qjg e hx hF4 (g.fr hF4) hr'.1 (by omega) fun s w5 hf5 hne5 _=>hK s w5 (hF4.t hf5) ?_
 rw[hr]
 simpa using hne5
theorem qed {e:Fm}{c:XC}{K:Bool->World->Prop}(hx:XP w e c)(g:GlT w)(hK:∀ w',Fr F0 w w'->K e.right w'):z36_sh c.op c.n c.d c.nm c.a K w:=by
 refine⟨?_⟩
 intro w1
 have m:Mem w w1 [(w.heap.size,_)]:=Mem.nil.allocL (cs:=encX c)
 clear_value w1
 have hbox:=m.row 0
 refine⟨_,hbox.at,_,hbox.at,_,hbox.at,_,hbox.at,c.a,hbox.at,?_⟩
 refine q6j (hx.fr m.1) (g.fr m.1) fun s w2 hf2 hs=>?_
 have e0:decide (ofL s=str [])=decide (s=[]):=q0h s []
 rw[e0,hs,Bool.not_not]
 exact hK w2 (m.1.t hf2)
end
end Go.Proofs.YtipjnbbfnlfmjaaGreatDoor
namespace Dp
open Go Pw
def nm1 (m:List B):Fm->List B
 | .name s=>addB m s
 | _=>m
def nmA:List B->Fm->List B
 | m,.num _ _=>m
 | m,.name s=>addB m s
 | m,.op _ a b=>nmA (nmA m a) b
theorem qjh:∀ {e:Fm} {m:List B} {x:B},x∈nmA m e ↔ x∈m\/x∈e.names
 | .num _ _,_,_=>by simp[nmA,Fm.names]
 | .name s,_,_=>by simp[nmA,Fm.names,q23]
 | .op _ a b,_,_=>by simp only[nmA,Fm.names,qjh,List.mem_append,or_assoc]
theorem qg2 (m:List B)(s:B):(addB m s).length<=m.length+1:=by unfold addB; split<;>simp
theorem q6k:∀ (e:Fm) (m:List B),(nmA m e).length<=m.length+e.parts
 | .num _ _,m=>by simp[nmA]
 | .name s,m=>by simpa [nmA,Fm.parts] using qg2 m s
 | .op _ a b,m=>by
  have h1:=q6k a m
  have h2:=q6k b (nmA m a)
  simp only[nmA,Fm.parts]
  omega
end Dp
namespace Go.Proofs.YtipjnbbfnlfmjaaGreatDoor
open Go Pw Dp
theorem qee {l:Nat}{vs:List Value}{w:World}{K:VW}(h:Yl Tryz.prog l vs.toArray w K):q14 Tryz.prog (.func (.yield l) #[] #[]) vs w K:=by
 unfold q14
 simpa using h
theorem Fr.put {F:Nat->Prop}{w:World}{l:Nat}{o:Obj}(h:F l):Fr F w (w.putObj l o) :=
 ⟨by simp,fun c _ hn=>World.putObj_heap_other fun he=>hn (he ▸ h),rfl,rfl,rfl⟩
structure NI (w0 w:World)(ob l fn d:Nat)(tmps:Array Value)(s:Sl)(m:List B):Prop where
 fr0:Fr F0 w0 w
 row:Row w ob [.slice s.p s.l s.c]
 ow:Ow 1 encB w s m
 nw:∀ b,inB s b->w0.heap.size<=b/\b≠ob/\b≠l
 lp:w.heap[l]?=some (lrec fn tmps z34_ps0 z34_as0 z34_bd0 d .ready none)
structure NS (ob l:Nat)(w:World)(s:Sl)(w':World)(s':Sl):Prop where
 fr:Fr (fun b=>b=ob\/b=l\/inB s b) w w'
 nw:∀ b,inB s' b->inB s b\/w.heap.size<=b
section
variable {w0 w w' w2:World}{ob l fn d:Nat}{tmps:Array Value}{s s' s2:Sl}{m:List B}
theorem NS.t (h:NS ob l w s w' s')(h':NS ob l w' s' w2 s2):NS ob l w s w2 s2 :=
 ⟨h.fr.trans h'.fr fun b hb hlt=>by
  rcases hb with hb | hb | hb
  ·exact .inl hb
  ·exact .inr (.inl hb)
  ·rcases h.nw b hb with h | h
   ·exact .inr (.inr h)
   ·omega,fun b hb=>by
  rcases h'.nw b hb with h1 | h1
  ·exact h.nw b h1
  ·exact .inr (Jd h.fr.1 h1)⟩
theorem NS.row {b:Nat}{cs:List Value}(h:NS ob l w s w' s')(hr:Row w b cs)(h1:b≠ob)(h2:b≠l)(h3:¬inB s b):Row w' b cs/\¬inB s' b :=
 ⟨h.fr.row hr (by rintro (h | h | h); exact h1 h; exact h2 h; exact h3 h),fun hb=>by
  rcases h.nw b hb with h | h
  ·exact h3 h
  ·have:=hr.lt; omega⟩
theorem NI.fr (h:NI w0 w ob l fn d tmps s m)(hf:Fr F0 w w'):NI w0 w' ob l fn d tmps s m :=
 ⟨h.fr0.t hf,hf.row h.row fun h=>h,h.ow.fr hf,h.nw,by rw[hf.2.1 l (Jl.1 h.lp).1 fun h=>h]; exact h.lp⟩
theorem NS.of (hf:Fr F0 w w'):NS ob l w s w' s:=⟨hf.f0,fun _ h=>.inl h⟩
theorem qpb (e:Fm):(∃ n,e=.name n)\/((∀ m,nm1 m e=m)/\∀ {w:World} {c:XC},XP w e c->decide (c.op=str [110,97,109,101])=false):=by
 cases e with
 | num n d =>
  refine .inr ⟨fun _=>rfl,fun {w c} h=>?_⟩
  obtain⟨rfl,_⟩:=h
  show decide (ofL wNum=_)=false
  decide
 | name n=>exact .inl ⟨n,rfl⟩
 | op o a b =>
  refine .inr ⟨fun _=>rfl,fun {w c} h=>?_⟩
  obtain⟨ca,cb,⟨h1,_⟩,_⟩:=h
  rw[h1]
  exact qcq o
theorem qmy {e:Fm}{c:XC}{t9:Value}{K':VW}(hx:XP w0 e c)(h:NI w0 w ob l fn d tmps s m)(hob:w0.heap.size<=ob)(hl:w0.heap.size<=l)(hne:ob≠l)(hm:m.length<=2^40)
  (hag:agrT 27 [(2,(Value.slice none 0 0)),(3,(Value.pointer (some ⟨ob,0,none⟩))),(9,t9)] tmps)
  (hK:∀ w' s',NI w0 w' ob l fn d tmps s' (nm1 m e)->NS ob l w s w' s'->K' (.bool true) w') :
  Yl Tryz.prog l #[.agg #[.string c.op,.int .i64 c.n,.int .i64 c.d,.string c.nm,.slice c.a.p c.a.l c.a.c]] w K':=by
 obtain⟨op,n,dd,nm,ap,al,ac⟩:=c
 refine z34_y0 (fun _ _=>True) none 0 0 ⟨ob,0,none⟩ t9 op n dd nm ap al ac hag h.lp ⟨?_⟩
 unfold z34_r0d
 refine q11 (vs:=encX ⟨op,n,dd,nm,⟨ap,al,ac⟩⟩) rfl Mem.nil fun w1 m1=>?_
 have h1:=h.fr m1.1
 have hobl:=h.row.lt
 have hll:l<w.heap.size:=(Jl.1 h.lp).1
 refine⟨h1.lp,?_⟩
 have hp:Fr (fun b=>b=l) w1 (w1.putObj l (lrec fn tmps z34_ps0 z34_as0 z34_bd0 d .busy none)):=Fr.put rfl
 have hlb:(w1.putObj l (lrec fn tmps z34_ps0 z34_as0 z34_bd0 d .busy none)).heap[l]?=some (lrec fn tmps z34_ps0 z34_as0 z34_bd0 d .busy none) :=
  World.putObj_heap_same (Je hll m1.1.1)
 generalize w1.putObj l (lrec fn tmps z34_ps0 z34_as0 z34_bd0 d .busy none)=w2 at *
 have hbox:=hp.row (m1.row 0) (by omega)
 have hrow:=hp.row h1.row hne
 have how:Ow 1 encB w2 s m:=h1.ow.frF hp fun b hb e=>(h1.nw b hb).2.2 e
 have hF2:Fr (fun b=>b=ob\/b=l\/inB s b) w w2:=m1.1.f0.trans hp fun b hb _=>.inr (.inl hb)
 have hsz:=hF2.1
 have fin:∀ (w3:World) (s3:Sl) (m3:List B),w2.heap.size<=w3.heap.size->w3.heap[l]?=some (lrec fn tmps z34_ps0 z34_as0 z34_bd0 d .busy none)->Row w3 ob [.slice s3.p s3.l s3.c]->Ow 1 encB w3 s3 m3->(∀ b,inB s3 b->inB s b\/w2.heap.size<=b) ->
   Fr (fun b=>b=ob\/b=l\/inB s b) w w3->m3=nm1 m e->rN l fn tmps z34_ps0 z34_as0 z34_bd0 d K' w3:=fun w3 s3 m3 hs3 hl3 hr3 ho3 hi3 hf3 e3=>by
  have hp3:Fr (fun b=>b=l) w3 (w3.putObj l (lrec fn tmps z34_ps0 z34_as0 z34_bd0 d .ready none)):=Fr.put rfl
  have hi:∀ b,inB s3 b->inB s b\/w.heap.size<=b:=fun b hb=>(hi3 b hb).imp id fun h=>Jd hsz h
  have hfall:=hf3.trans hp3 fun b hb _=>.inr (.inl hb)
  have hnb:∀ b,inB s3 b->w0.heap.size<=b/\b≠ob/\b≠l:=fun b hb=>by
   rcases hi b hb with h' | h'
   ·exact h.nw b h'
   ·have:=h.fr0.1
    exact⟨by omega,by omega,by omega⟩
  refine⟨hl3,hK _ s3 ⟨h.fr0.nb hfall fun b hb=>?_,hp3.row hr3 hne,?_,hnb,World.putObj_heap_same (by omega)⟩ ⟨hfall,hi⟩⟩
  ·rcases hb with rfl | rfl | hb
   ·exact hob
   ·exact hl
   ·exact(h.nw b hb).1
  ·rw[← e3]
   exact ho3.frF hp3 fun b hb e=>(hnb b hb).2.2 e
 refine⟨_,hbox.at,?_⟩
 rcases qpb e with⟨nn,rfl⟩ | ⟨hn1,hn2⟩
 ·obtain⟨hxe,h20⟩:=hx
  cases hxe
  have ee:decide (ofL q0n=str [110,97,109,101])=true:=by decide
  rw[ee,q19]
  refine⟨s,hrow.at,ofL nn,hbox.at,q0k how.vw (by omega) ?_⟩
  cases hc:decide (nn∈m) with
  | true =>
   refine fin w2 s m (Jf _) hlb hrow how (fun b hb=>.inl hb) hF2 ?_
   simp only[nm1,addB]
   rw[if_pos (of_decide_eq_true hc)]
  | false =>
   refine⟨s,hrow.at,ofL nn,hbox.at,?_⟩
   intro w3
   have hf3:Fr F0 w2 w3:=Fr.alloc
   have hx3:Vw 1 encB w3 ⟨some ⟨w2.heap.size,0,none⟩,1,1⟩ [nn]:=Vw.new rfl rfl
   clear_value w3
   refine(how.fr hf3).app hx3 q4z rfl (by simp; omega) (by simp; omega) fun s4 w4 ho4 hf4 hi4=>?_
   have hnb4:¬inB s ob:=fun hb=>(h.nw ob hb).2.1 rfl
   have hnl4:¬inB s l:=fun hb=>(h.nw l hb).2.2 rfl
   have hr4:=hf4.row (hf3.row hrow fun h=>h) hnb4
   refine⟨hr4.wr (by simp),?_⟩
   intro w5
   have hr5:Row w5 ob _:=hr4.set 0 (.slice s4.p s4.l s4.c)
   have hf5:Fr (fun b=>b=ob) w4 w5:=Fr.set rfl
   have hl5:w5.heap[l]?=some (lrec fn tmps z34_ps0 z34_as0 z34_bd0 d .busy none):=by
    have hl2:l<w2.heap.size:=by omega
    have hl3:l<w3.heap.size:=Je hl2 hf3.1
    rw[hf5.2.1 l (Je hl3 hf4.1) (Ne.symm hne),hf4.2.1 l hl3 hnl4,hf3.2.1 l hl2 fun h=>h]
    exact hlb
   have hi5:∀ b,inB s4 b->inB s b\/w2.heap.size<=b:=fun b hb=>(hi4 b hb).imp id fun h=>Jd hf3.1 h
   have ho5:Ow 1 encB w5 s4 (m++[nn]):=ho4.frF hf5 fun b hb e=>by
    rcases hi5 b hb with h' | h'
    ·exact(h.nw b h').2.1 e
    ·omega
   clear_value w5
   refine fin w5 s4 _ (Jd hf3.1 (Jd hf4.1 hf5.1)) hl5 hr5 ho5 hi5 (((hF2.tF hf3).trans hf4 fun b hb _=>.inr (.inr hb)).trans hf5 fun b hb _=>.inl hb) ?_
   simp only[nm1,addB]
   rw[if_neg (of_decide_eq_false hc)]
 ·rw[hn2 hx,q0u]
  exact fin w2 s m (Jf _) hlb hrow how (fun b hb=>.inl hb) hF2 (hn1 m).symm
end
end Go.Proofs.YtipjnbbfnlfmjaaGreatDoor
namespace Dp
open Go Pw
def Fm.kids:Fm->List Fm
 | .num _ _=>[]
 | .name _=>[]
 | .op _ a b=>[a,b]
theorem qmz (e:Fm)(m:List B):nmA m e=nm1 (e.kids.foldl nmA m) e:=by cases e<;>rfl
theorem qhe:∀ (e:Fm) (m:List B) (i:Nat),((e.kids.take i).foldl nmA m).length+1<=m.length+e.parts
 | .num _ _,m,i=>by simp[Fm.kids,Fm.parts]
 | .name _,m,i=>by simp[Fm.kids,Fm.parts]
 | .op _ a b,m,i=>by
  have h1:=q6k a m
  have h2:=q6k b (nmA m a)
  simp only[Fm.kids,Fm.parts]
  match i with
  | 0=>simp; omega
  | 1=>simp; omega
  | i+2=>simp; omega
theorem qpc:∀ (e:Fm) (m:List B) (i:Nat) (h:i<e.kids.length),((e.kids.take i).foldl nmA m).length+e.kids[i].parts<=m.length+e.parts
 | .op _ a b,m,0,_=>by simp[Fm.kids,Fm.parts]; omega
 | .op _ a b,m,1,_=>by
  have ha:=q6k a m
  simp[Fm.kids,Fm.parts]
  omega
 | .op _ a b,m,i+2,h=>absurd h (by simp[Fm.kids])
end Dp
namespace Go.Proofs.YtipjnbbfnlfmjaaGreatDoor
open Go Pw Dp
theorem XP.kids {w:World}:∀ {e:Fm} {c:XC},XP w e c->∃ cs:List XC,Vw 5 encX w c.a cs/\cs.length=e.kids.length/\∀ i (h:i<cs.length) (h':i<e.kids.length),XP w e.kids[i] cs[i]
 | .num n d,c,h=>by
  obtain⟨rfl,_⟩:=h
  exact⟨[],Vw.nil,rfl,fun i h=>by simp at h⟩
 | .name s,c,h=>by
  obtain⟨rfl,_⟩:=h
  exact⟨[],Vw.nil,rfl,fun i h=>by simp at h⟩
 | .op o a b,c,h=>by
  obtain⟨ca,cb,_,hv,ha,hb⟩:=h
  refine⟨[ca,cb],hv,rfl,fun i h h'=>?_⟩
  match i with
  | 0=>exact ha
  | 1=>exact hb
def fnV (vb yb:Nat):Value:=.func (.func 274) #[] #[.pointer (some ⟨vb,0,none⟩),.pointer (some ⟨yb,0,none⟩)]
def fnY (l:Nat):Value:=.func (.yield l) #[] #[]
section
variable {w0 w w':World}{ob l fn d vb yb:Nat}{tmps:Array Value}{s s':Sl}{m:List B}{t9:Value}
def Vis (w0:World)(ob l fn d vb yb:Nat)(tmps:Array Value)(e:Fm):Prop :=
 ∀ {c:XC} {w:World} {s:Sl} {m:List B} {K:Bool->World->Prop},XP w0 e c->NI w0 w ob l fn d tmps s m->Row w vb [fnV vb yb]->Row w yb [fnY l]->¬inB s vb->¬inB s yb->m.length+e.parts<=2^40 ->
  (∀ w' s',NI w0 w' ob l fn d tmps s' (nmA m e)->NS ob l w s w' s'->K true w')->z1n_sh c.op c.n c.d c.nm c.a ⟨vb,0,none⟩ ⟨yb,0,none⟩ K w
theorem q6l {e:Fm}(hkids:∀ k∈e.kids,Vis w0 ob l fn d vb yb tmps k)(hob:w0.heap.size<=ob)(hl:w0.heap.size<=l)(hne:ob≠l)(h1:vb≠ob/\vb≠l)(h2:yb≠ob/\yb≠l)
  (hag:agrT 27 [(2,(Value.slice none 0 0)),(3,(Value.pointer (some ⟨ob,0,none⟩))),(9,t9)] tmps):Vis w0 ob l fn d vb yb tmps e:=by
 intro c w s m K hx hI hv hy hsv hsy hm hK
 obtain⟨cs,hcv,hcl,hck⟩:=hx.kids
 have hea:c.a.l=e.kids.length:=by rw[hcv.len,hcl]
 refine⟨?_⟩
 intro w1
 have m1:Mem w w1 [(w.heap.size,_)]:=Mem.nil.allocL (cs:=encX c)
 clear_value w1
 have hI1:=hI.fr m1.1
 have hbox:=m1.row 0
 have hobl:=hI.row.lt
 have hll:l<w.heap.size:=(Jl.1 hI.lp).1
 have hsb:¬inB s w.heap.size:=fun hb=>by have:=hI.ow.lt' hb; omega
 have hk2:e.kids.length<=2:=by cases e<;>simp[Fm.kids]
 refine⟨c.a,hbox.at,⟨⟨fun t u=>∃ (i:Nat) (s':Sl),t=i/\i<=e.kids.length/\NI w0 u ob l fn d tmps s' ((e.kids.take i).foldl nmA m)/\NS ob l w1 s u s',fun t _=>e.kids.length-t.toNat,⟨0,s,rfl,by omega,by simpa using hI1,NS.of Fr.refl⟩,?_⟩⟩⟩
 rintro t u ⟨i,s',rfl,hi,hIu,hSu⟩
 have hv1:=m1.1.row hv fun h=>h
 have hy1:=m1.1.row hy fun h=>h
 unfold z1n_b0
 obtain⟨hvu,hsv'⟩:=hSu.row hv1 h1.1 h1.2 hsv
 obtain⟨hyu,hsy'⟩:=hSu.row hy1 h2.1 h2.2 hsy
 refine q00.2 ⟨fun hlt=>?_,fun hge=>?_⟩
 ·have hil:i<e.kids.length:=by omega
  refine ldX (hcv.fr hIu.fr0) i rfl (by omega) ?_
  refine q11 (vs:=encX cs[i]) rfl Mem.nil fun w2 m2=>?_
  have hr2:=m2.row 0
  refine⟨fnV vb yb,(m2.1.row hvu fun h=>h).at rfl,_,hr2.at,_,hr2.at,_,hr2.at,_,hr2.at,cs[i].a,hr2.at,?_⟩
  refine q05 z1n_ok ?_
  have hacc:=qpc e m i hil
  refine hkids _ (J8 hil) (hck i (by omega) hil) (hIu.fr m2.1) (m2.1.row hvu fun h=>h) (m2.1.row hyu fun h=>h) hsv' hsy' (by omega) fun w3 s3 hI3 hS3=>⟨true,rfl,?_⟩
  refine⟨q03,⟨⟨rfl,rfl,rfl,rfl,rfl,trivial⟩,i+1,s3,by omega,by omega,?_,hSu.t ((NS.of m2.1).t hS3)⟩,by dsimp only; omega⟩
  rw[J6,J0 hil,List.foldl_append]
  exact hI3
 ·have hie:i=e.kids.length:=by omega
  subst hie
  rw[J3] at hIu
  have hkl:=qhe e m e.kids.length
  rw[J3] at hkl
  obtain⟨hbu,_⟩:=hSu.row hbox (by omega) (by omega) hsb
  refine⟨fnY l,hyu.at,_,hbu.at,?_⟩
  simp only[q01,Jc]
  refine⟨_,hbu.at,_,hbu.at,_,hbu.at,c.a,hbu.at,?_⟩
  refine qee (qmy hx hIu hob hl hne (by omega) hag fun w2 s2 hI2 hS2=>⟨true,rfl,?_⟩)
  refine hK w2 s2 ?_ (((NS.of m1.1).t hSu).t hS2)
  rw[qmz]
  exact hI2
theorem qhf (hob:w0.heap.size<=ob)(hl:w0.heap.size<=l)(hne:ob≠l)(h1:vb≠ob/\vb≠l)(h2:yb≠ob/\yb≠l)
  (hag:agrT 27 [(2,(Value.slice none 0 0)),(3,(Value.pointer (some ⟨ob,0,none⟩))),(9,t9)] tmps):∀ e:Fm,Vis w0 ob l fn d vb yb tmps e:=by
 intro e
 induction e with
 | num n d=>exact q6l (fun k hk=>by cases hk) hob hl hne h1 h2 hag
 | name s=>exact q6l (fun k hk=>by cases hk) hob hl hne h1 h2 hag
 | op o a b iha ihb =>
  refine q6l (fun k hk=>?_) hob hl hne h1 h2 hag
  simp only[Fm.kids,J7,J4,or_false] at hk
  rcases hk with rfl | rfl
  ·exact iha
  ·exact ihb
theorem qef {e:Fm}{c:XC}{K:Sl->World->Prop}(hx:XP w e c)(g:GlT w)(hp:e.parts<=2^38)(hK:∀ w' r l,Mk w 1 encB w' r l->(∀ x,x∈l ↔ x∈e.namesR)->l.length<=e.parts->K r w'):z34_sh c.op c.n c.d c.nm c.a K w:=by
 refine⟨?_⟩
 unfold z34_sd
 intro w1
 have m1:Mem w w1 [(w.heap.size,_)]:=Mem.nil.allocL (cs:=encX c)
 clear_value w1
 have hbox:=m1.row 0
 refine⟨_,hbox.at,_,hbox.at,_,hbox.at,_,hbox.at,c.a,hbox.at,?_⟩
 refine qed (hx.fr m1.1) (g.fr m1.1) fun w7 hf7=>?_
 have hF7:=m1.1.t hf7
 refine q04.2 ⟨fun h=>?_,fun h=>?_⟩
 ·refine hK w7 _ [] (Mk.nil hF7) (fun x=>?_) (by simp)
  have:e.right=false:=by simpa using h
  unfold Fm.namesR
  rw[this]
  simp
 have hr:e.right=true:=by simpa using h
 intro w9
 have m9:Mem w7 w9 [(w7.heap.size,_)]:=Mem.nil.allocL (cs:=[.slice none 0 0])
 clear_value w9
 have hF9:=hF7.t m9.1
 have hb9:=(hf7.t m9.1).row hbox fun h=>h
 refine⟨_,hb9.at,_,hb9.at,_,hb9.at,_,hb9.at,c.a,hb9.at,⟨?_⟩⟩
 intro w15
 have m15:Mem w7 w15 [(w9.heap.size,_),(w7.heap.size,_)]:=m9.allocL (cs:=encX c)
 clear_value w15
 refine⟨?_⟩
 unfold z34_f0d
 refine⟨⟨_,_,_,rfl⟩,fun fn tmps hag=>?_⟩
 have hd:Fr F0 w15 (w15.alloc (.deferred (some []))):=Fr.alloc
 have hdD:(w15.alloc (.deferred (some []))).heap[w15.heap.size]?=some (.deferred (some [])):=by show(w15.heap.push _)[w15.heap.size]?=_; simp
 have hds:(w15.alloc (.deferred (some []))).heap.size=w15.heap.size+1:=by show(w15.heap.push _).size=_; simp
 generalize w15.alloc (.deferred (some []))=wd at *
 have hl:Fr F0 wd (wd.alloc (lrec fn tmps z34_ps0 z34_as0 z34_bd0 w15.heap.size .ready none)):=Fr.alloc
 have hlL:(wd.alloc (lrec fn tmps z34_ps0 z34_as0 z34_bd0 w15.heap.size .ready none)).heap[wd.heap.size]?=some (lrec fn tmps z34_ps0 z34_as0 z34_bd0 w15.heap.size .ready none):=by
  show(wd.heap.push _)[wd.heap.size]?=_; simp
 have hls:(wd.alloc (lrec fn tmps z34_ps0 z34_as0 z34_bd0 w15.heap.size .ready none)).heap.size=wd.heap.size+1:=by show(wd.heap.push _).size=_; simp
 generalize wd.alloc (lrec fn tmps z34_ps0 z34_as0 z34_bd0 w15.heap.size .ready none)=wl at *
 rw[hds] at hlL hls
 refine q05 z24_ok ⟨?_⟩
 intro w16
 have m16:Mem wl w16 [(wl.heap.size,[fnY (w15.heap.size+1)])]:=Mem.nil.allocL (cs:=[fnY (w15.heap.size+1)])
 clear_value w16
 intro w17
 have m17:Mem wl w17 [(w16.heap.size,[.nilFunc]),(wl.heap.size,[fnY (w15.heap.size+1)])]:=m16.allocL (cs:=[.nilFunc])
 clear_value w17
 refine⟨m17.wr 0,?_⟩
 intro w18
 have m18:Mem wl w18 [(w16.heap.size,[fnV w16.heap.size wl.heap.size]),(wl.heap.size,[fnY (w15.heap.size+1)])]:=m17.set (v:=fnV w16.heap.size wl.heap.size) 0
 clear_value w18
 have hF15:Fr F0 w w15:=hF7.t m15.1
 have hF18:Fr F0 w15 w18:=(hd.t hl).t m18.1
 have hb15:=hF18.row (m15.row 0) fun h=>h
 have ho15:=hF18.row (m15.row 1) fun h=>h
 have z1:=m15.1.1
 have z2:=hF7.1
 have z3:=(m15.row 1).lt
 have z4:=m16.1.1
 have z5:w16.heap.size≠wl.heap.size:=by
  have h3:=m18.2.2.1
  simp only[Ja,Jb,J5,J7,J4,or_false,forall_eq] at h3
  omega
 refine⟨_,m18.ld 0,_,hb15.at,?_⟩
 simp -zeta only[q01,Jc]
 refine⟨_,hb15.at,_,hb15.at,_,hb15.at,c.a,hb15.at,?_⟩
 refine q05 z1n_ok ?_
 have hNI:NI w w18 w7.heap.size (w15.heap.size+1) fn w15.heap.size tmps ⟨none,0,0⟩ []:=by
  refine⟨hF15.t hF18,ho15,⟨rfl,by simpa using OwnV.nil⟩,(fun b ⟨a,ha,_⟩=>by cases ha),?_⟩
  rw[m18.1.2.1 _ (by omega) fun h=>h]
  exact hlL
 refine qhf (w0:=w) (by omega) (by omega) (by omega) ⟨by omega,by omega⟩ ⟨by omega,by omega⟩ hag e hx hNI (m18.row 0) (m18.row 1) (fun⟨a,ha,_⟩=>by cases ha) (fun⟨a,ha,_⟩=>by cases ha) (by simp; omega) fun w19 s19 hI19 hS19=>?_
 refine⟨true,rfl,.inl ⟨hI19.lp,?_⟩⟩
 have hp1:Fr (fun b=>b=w15.heap.size+1) w19 (w19.putObj (w15.heap.size+1) (lrec fn tmps z34_ps0 z34_as0 z34_bd0 w15.heap.size .exhausted none)):=Fr.put rfl
 generalize w19.putObj (w15.heap.size+1) (lrec fn tmps z34_ps0 z34_as0 z34_bd0 w15.heap.size .exhausted none)=w20 at *
 refine⟨s19,(hp1.row hI19.row (by omega)).at rfl,?_,?_⟩
 ·have z6:=hF18.1
  have z8:=m18.1.1
  have z7:=hS19.fr.1
  rw[hp1.2.1 w15.heap.size (by omega) (by omega),hS19.fr.2.1 w15.heap.size (by omega) (by rintro (h | h | ⟨a,ha,_⟩); omega; omega; cases ha),m18.1.2.1 w15.heap.size (by omega) fun h=>h,hl.2.1 w15.heap.size (by omega) fun h=>h]
  exact hdD
 ·intro w21
  have hp2:Fr (fun b=>b=w15.heap.size) w20 w21:=Fr.put rfl
  clear_value w21
  have hnd:∀ b,inB s19 b->b≠w15.heap.size:=fun b hb e=>by
   rcases hS19.nw b hb with⟨a,ha,_⟩ | h'
   ·cases ha
   ·have:=hF18.1
    have:=(m15.row 0).lt
    have:=m18.1.1
    omega
  refine hK w21 s19 (nmA [] e) ⟨(hI19.fr0.nb hp1 fun b hb=>by omega).nb hp2 fun b hb=>by omega,?_,fun b hb=>(hI19.nw b hb).1⟩ (fun x=>?_) (by simpa using q6k e [])
  ·exact(hI19.ow.frF hp1 fun b hb e=>(hI19.nw b hb).2.2 e).frF hp2 fun b hb e=>hnd b hb e
  ·rw[qjh]
   unfold Fm.namesR
   rw[hr]
   simp
end
