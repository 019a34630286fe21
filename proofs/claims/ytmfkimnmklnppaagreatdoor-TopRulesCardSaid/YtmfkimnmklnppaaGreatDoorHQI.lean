/- prove: trends. Conditions: none. -/
import Derived.Test.YtmfkimnmklnppaaGreatDoorHQH
open List renaming getElem?_eq_getElem->J0,getElem_mem->J1,take_length->J2,take_add_one->J3,mem_cons->J4,mem_singleton->J5,mem_cons_self->J6,length_cons->J7,length_map->J8,mem_append->J9,mem_of_getElem?->Ja,all_eq_true->Jb,range'_succ->Jc,range'_zero->Jd,length_take->Je,map_append->Jf,forIn_cons->Jg,forIn_nil->Jh
open Nat renaming zero_le->Ji,le_refl->Jj,add_sub_cancel->Jk,zero_add->Jl,le_trans->Jm,sub_zero->Jn,div_one->Jo
open Bool renaming not_eq_true'->Jp,and_eq_true->Jq,or_eq_true->Jr
open Array renaming getElem?_toList->Js,getElem?_setIfInBounds->Jt
set_option maxRecDepth 20000
namespace Dp
open Go Pw
theorem qrf(o:Fin 6):decide (ofL (opB o)=str [45])=decide (o=1):=by revert o;decide
theorem q9e(o:Fin 6):decide (ofL (opB o)=str [110,97,109,101])=false/\decide (ofL (opB o)=str [110,117,109])=false:=by revert o;decide
def r6(o:Fin 6)(x y:Bool×Bool)(f s:Rat×Rat):Bool×Bool:=
 if o=2 then(true,true)else if o=3/\0<s.1.num/\(y=noT\/0<=f.1.num)then orT x (revT y)else if o=3 then(true,true)else orT x y
def r4(o:Fin 6)(x y:Bool×Bool)(f s:Rat×Rat):Bool×Bool:=
 if o=2/\(x=noT/\f.2.num<=0\/y=noT/\s.2.num<=0)then revT (orT x y)else r6 o x y f s
def r3(o:Fin 6)(x y:Bool×Bool)(f s:Rat×Rat):Bool×Bool:=
 if o=2/\(x=noT/\0<=f.1.num\/y=noT/\0<=s.1.num)then orT x y else r4 o x y f s
theorem qus(o:Fin 6)(x y:Bool×Bool)(f s:Rat×Rat):trop o x y f s=if o=1 then orT x (revT y)else if o=2/\0<=f.1.num/\0<=s.1.num then orT x y else r3 o x y f s:=rfl
end Dp
namespace Go.Proofs.YtmfkimnmklnppaaGreatDoor
open Go Pw Dp
section
variable{w w' w0:World}{t:Td}{x:T43}{rb:Nat}{lf:Int}{mp:Option Nat}{K:Int->World->Prop}
theorem q4w{a:Bool×Bool}(hK:K (trI (revT a)) w):z18_sh (trI a) K w:=by
 refine⟨fi ?_⟩
 refine⟨od,od,?_⟩
 rw[qur]
 exact hK
structure TR(w:World)(o:Fin 6)(eb b1 b2 b3 b4:Nat)(f s:Rat×Rat):Prop where
 e:∃cs,Row w eb (Value.string (ofL (opB o))::cs)
 r1:Row w b1 (encQ f.1)
 r2:Row w b2 (encQ f.2)
 r3:Row w b3 (encQ s.1)
 r4:Row w b4 (encQ s.2)
variable{o:Fin 6}{eb b1 b2 b3 b4:Nat}{f s:Rat×Rat}{a b:Bool×Bool}
theorem qrg(hK:K (trI (revT (orT a b))) w):z2b_k5 (trI a) (trI b) K w:=by
 refine⟨fi ?_⟩
 rw[q7n]
 exact q4w hK
theorem qrh(hK:K (trI (orT a (revT b))) w):z2b_k7 (trI a) (trI b) K w:=by
 refine⟨fi ?_⟩
 refine q4w ?_
 rw[q7n]
 exact hK
theorem qri(h:TR w o eb b1 b2 b3 b4 f s)(hK:K (trI (r6 o a b f s)) w):z2b_k6 ⟨eb,0,none⟩ (trI a) (trI b) ⟨b1,0,none⟩ ⟨b3,0,none⟩ K w:=by
 obtain⟨cs,he⟩:=h.e
 have k8:(o≠2->¬(o=3/\0<s.1.num/\(b=noT\/0<=f.1.num)))->o≠2->z2b_k8 ⟨eb,0,none⟩ (trI a) (trI b) K w:=fun hn h2=>by
  refine⟨fi ?_⟩
  refine⟨_,he.at,?_⟩
  rw[q7z]
  unfold r6 at hK
  rw[if_neg h2,if_neg (hn h2)]at hK
  refine q00.2 ⟨fun h3=>?_,fun h3=>?_⟩
  ·rw[if_pos h3]at hK
   exact hK
  ·rw[if_neg h3]at hK
   rw[q7n]
   exact hK
 refine⟨fi ?_⟩
 refine⟨_,he.at,?_⟩
 rw[q35]
 refine q00.2 ⟨fun h2=>?_,fun h2=>⟨_,he.at,?_⟩⟩
 ·unfold r6 at hK
  rw[if_pos h2]at hK
  exact hK
 rw[q7z]
 refine q00.2 ⟨fun h3=>⟨_,h.r3.at,?_⟩,fun h3=>k8 (fun _ h=>h3 h.1) h2⟩
 refine q00.2 ⟨fun h4=>?_,fun h4=>k8 (fun _ h=>h4 h.2.1) h2⟩
 rw[q82]
 have yes:(b=noT\/0<=f.1.num)->z2b_k7 (trI a) (trI b) K w:=fun h5=>by
  unfold r6 at hK
  rw[if_neg h2,if_pos ⟨h3,h4,h5⟩]at hK
  exact qrh hK
 refine q00.2 ⟨fun h5=>yes (.inl h5),fun h5=>⟨_,h.r1.at,?_⟩⟩
 exact q00.2 ⟨fun h6=>yes (.inr h6),fun h6=>k8 (fun _ h=>h.2.2.elim h5 h6) h2⟩
theorem qrj(h:TR w o eb b1 b2 b3 b4 f s)(hK:K (trI (r4 o a b f s)) w):z2b_k4 ⟨eb,0,none⟩ (trI a) (trI b) ⟨b1,0,none⟩ ⟨b2,0,none⟩ ⟨b3,0,none⟩ ⟨b4,0,none⟩ K w:=by
 obtain⟨cs,he⟩:=h.e
 have yes:o=2->(a=noT/\f.2.num<=0\/b=noT/\s.2.num<=0)->z2b_k5 (trI a) (trI b) K w:=fun h2 h=>by
  unfold r4 at hK
  rw[if_pos ⟨h2,h⟩]at hK
  exact qrg hK
 have no:¬(o=2/\(a=noT/\f.2.num<=0\/b=noT/\s.2.num<=0))->z2b_k6 ⟨eb,0,none⟩ (trI a) (trI b) ⟨b1,0,none⟩ ⟨b3,0,none⟩ K w:=fun hn=>by
  unfold r4 at hK
  rw[if_neg hn]at hK
  exact qri h hK
 refine⟨fi ?_⟩
 simp -zeta only[q82]
 refine⟨_,he.at,?_⟩
 rw[q35]
 refine q00.2 ⟨fun h2=>q00.2 ⟨fun h3=>⟨_,h.r2.at,q00.2 ⟨fun h4=>yes h2 (.inl ⟨h3,h4⟩),fun h4=>⟨_,he.at,?_⟩⟩⟩,fun h3=>⟨_,he.at,?_⟩⟩,fun h2=>⟨_,he.at,?_⟩⟩
 ·rw[q35]
  exact q00.2 ⟨fun _=>q00.2 ⟨fun h5=>⟨_,h.r4.at,q00.2 ⟨fun h6=>yes h2 (.inr ⟨h5,h6⟩),fun h6=>no fun h=>h.2.elim (fun h=>h4 h.2) fun h=>h6 h.2⟩⟩,fun h5=>no fun h=>h.2.elim (fun h=>h4 h.2) fun h=>h5 h.1⟩,fun h=>absurd h2 h⟩
 ·rw[q35]
  exact q00.2 ⟨fun _=>q00.2 ⟨fun h5=>⟨_,h.r4.at,q00.2 ⟨fun h6=>yes h2 (.inr ⟨h5,h6⟩),fun h6=>no fun h=>h.2.elim (fun h=>h3 h.1) fun h=>h6 h.2⟩⟩,fun h5=>no fun h=>h.2.elim (fun h=>h3 h.1) fun h=>h5 h.1⟩,fun h=>absurd h2 h⟩
 ·rw[q35]
  simp_all
theorem qrk(h:TR w o eb b1 b2 b3 b4 f s)(hK:K (trI (r3 o a b f s)) w):z2b_k3 ⟨eb,0,none⟩ (trI a) (trI b) ⟨b1,0,none⟩ ⟨b2,0,none⟩ ⟨b3,0,none⟩ ⟨b4,0,none⟩ K w:=by
 obtain⟨cs,he⟩:=h.e
 have yes:o=2->(a=noT/\0<=f.1.num\/b=noT/\0<=s.1.num)->K (trI (orT a b)) w:=fun h2 h=>by
  unfold r3 at hK
  grind
 have no:¬(o=2/\(a=noT/\0<=f.1.num\/b=noT/\0<=s.1.num))->z2b_k4 ⟨eb,0,none⟩ (trI a) (trI b) ⟨b1,0,none⟩ ⟨b2,0,none⟩ ⟨b3,0,none⟩ ⟨b4,0,none⟩ K w:=fun hn=>by
  unfold r3 at hK
  rw[if_neg hn]at hK
  exact qrj h hK
 refine⟨fi ?_⟩
 simp -zeta only[q82,q7n]
 refine⟨_,he.at,?_⟩
 rw[q35]
 refine q00.2 ⟨fun h2=>q00.2 ⟨fun h3=>⟨_,h.r1.at,q00.2 ⟨fun h4=>yes h2 (.inl ⟨h3,h4⟩),fun h4=>⟨_,he.at,?_⟩⟩⟩,fun h3=>⟨_,he.at,?_⟩⟩,fun h2=>⟨_,he.at,?_⟩⟩
 ·rw[q35]
  exact q00.2 ⟨fun _=>q00.2 ⟨fun h5=>⟨_,h.r3.at,q00.2 ⟨fun h6=>yes h2 (.inr ⟨h5,h6⟩),fun h6=>no fun h=>h.2.elim (fun h=>h4 h.2) fun h=>h6 h.2⟩⟩,fun h5=>no fun h=>h.2.elim (fun h=>h4 h.2) fun h=>h5 h.1⟩,fun h=>absurd h2 h⟩
 ·rw[q35]
  exact q00.2 ⟨fun _=>q00.2 ⟨fun h5=>⟨_,h.r3.at,q00.2 ⟨fun h6=>yes h2 (.inr ⟨h5,h6⟩),fun h6=>no fun h=>h.2.elim (fun h=>h3 h.1) fun h=>h6 h.2⟩⟩,fun h5=>no fun h=>h.2.elim (fun h=>h3 h.1) fun h=>h5 h.1⟩,fun h=>absurd h2 h⟩
 ·rw[q35]
  simp_all
theorem qrl(h:TR w o eb b1 b2 b3 b4 f s)(hK:K (trI (trop o a b f s)) w):z2b_k2 ⟨eb,0,none⟩ (trI a) (trI b) ⟨b1,0,none⟩ ⟨b2,0,none⟩ ⟨b3,0,none⟩ ⟨b4,0,none⟩ K w:=by
 obtain⟨cs,he⟩:=h.e
 rw[qus]at hK
 refine⟨fi ?_⟩
 refine⟨_,he.at,?_⟩
 rw[qrf]
 refine q00.2 ⟨fun h1=>?_,fun h1=>⟨_,he.at,?_⟩⟩
 ·rw[if_pos h1]at hK
  refine q4w ?_
  rw[q7n]
  exact hK
 rw[if_neg h1]at hK
 rw[q35,q7n]
 have no:¬(o=2/\0<=f.1.num/\0<=s.1.num)->z2b_k3 ⟨eb,0,none⟩ (trI a) (trI b) ⟨b1,0,none⟩ ⟨b2,0,none⟩ ⟨b3,0,none⟩ ⟨b4,0,none⟩ K w:=fun hn=>by
  rw[if_neg hn]at hK
  exact qrk h hK
 refine q00.2 ⟨fun h2=>⟨_,h.r1.at,q00.2 ⟨fun h3=>⟨_,h.r3.at,q00.2 ⟨fun h4=>?_,fun h4=>no fun h=>h4 h.2.2⟩⟩,fun h3=>no fun h=>h3 h.2.1⟩⟩,fun h2=>no fun h=>h2 h.1⟩
 rw[if_pos ⟨h2,h3,h4⟩]at hK
 exact hK
end
section
variable{w w' w0:World}{t:Td}{x:T43}{rb:Nat}{lf:Int}{mp:Option Nat}{K:Int->World->Prop}
theorem qcq{L:List Pt}{b1 b2:Nat}{p q:Rat}(Q:Nat->Nat->World->Prop)(h:Sx w0 w L)(i j:Nat)(hi:L[i]?=some (fun c=>c=b1,fun u=>Row u b1 [.int .i64 (0:Int),.int .i64 (0:Int)]))(hj:L[j]?=some (fun c=>c=b2,fun u=>Row u b2 [.int .i64 (0:Int),.int .i64 (0:Int)]))(hij:i≠j)
  (hQ:∀w',Fr F0 w0 w'->Row w' b1 (encQ p)->Row w' b2 (encQ q)->Q b1 b2 w') :
  wrOk w (Addr.mk b1 0 none) /\ 
 (let w108:World:=w.setCell (Addr.mk b1 0 none) (Value.int .i64 p.num)
 wrOk w108 (Addr.mk b1 1 none) /\ 
 (let w109:World:=w108.setCell (Addr.mk b1 1 none) (Value.int .i64 (p.den:Int))
 wrOk w109 (Addr.mk b2 0 none) /\ 
 (let w110:World:=w109.setCell (Addr.mk b2 0 none) (Value.int .i64 q.num)
 wrOk w110 (Addr.mk b2 1 none) /\ 
 (let w111:World:=w110.setCell (Addr.mk b2 1 none) (Value.int .i64 (q.den:Int))
 Q b1 b2 w111)))):=by
 have hne:b1≠b2:=fun e=>h.dj i j _ _ hij hi hj b1 rfl e
 have r1:Row w b1 [.int .i64 (0:Int),.int .i64 (0:Int)]:=h.get i hi
 have r2:Row w b2 [.int .i64 (0:Int),.int .i64 (0:Int)]:=h.get j hj
 have n1:=(h.nw i _ hi b1 rfl).1
 have n2:=(h.nw j _ hj b2 rfl).1
 have f0:=h.fr0
 have st:∀ {u:World} {b k:Nat} {v:Value},Fr F0 w0 u->w0.heap.size<=b->Fr F0 w0 (u.setCell ⟨b,k,none⟩ v):=fun {u b k v} f hb=>f.trans (Fr.set (F:=fun c=>c=b) rfl) fun c (hc:c=b) hlt=>absurd hlt oo
 refine⟨r1.wr og,?_⟩
 intro w1
 have r1:=r1.set 0 (.int .i64 p.num)
 have f1:Fr F0 w0 w1:=st f0 n1
 have r2:Row w1 b2 _:=(Fr.set (F:=fun c=>c=b1) rfl).row r2 fun h=>hne h.symm
 refine⟨r1.wr og,?_⟩
 intro w2
 have r1:Row w2 b1 (encQ p):=r1.set 1 (.int .i64 (p.den:Int))
 have f2:Fr F0 w0 w2:=st f1 n1
 have r2:Row w2 b2 _:=(Fr.set (F:=fun c=>c=b1) rfl).row r2 fun h=>hne h.symm
 refine⟨r2.wr og,?_⟩
 intro w3
 have r2:=r2.set 0 (.int .i64 q.num)
 have f3:Fr F0 w0 w3:=st f2 n2
 have r1:Row w3 b1 _:=(Fr.set (F:=fun c=>c=b2) rfl).row r1 hne
 refine⟨r2.wr og,?_⟩
 intro w4
 have r2:Row w4 b2 (encQ q):=r2.set 1 (.int .i64 (q.den:Int))
 have f4:Fr F0 w0 w4:=st f3 n2
 have r1:Row w4 b1 _:=(Fr.set (F:=fun c=>c=b2) rfl).row r1 hne
 exact hQ w4 f4 r1 r2
structure TE(w:World)(rb:Nat)(x:T43)(lf:Int)(mp:Option Nat)(t:Td)(o:Fin 6)(ea eb':Fm)(eb:Nat)(c ca cb:XC):Prop where
 b:RB w rb x lf mp
 r:Row w eb (encX c)
 v:Vw 5 encX w c.a [ca,cb]
 xa:XP w ea ca
 xb:XP w eb' cb
 op:c.op=ofL (opB o)
 T:TP w x t
 g:GlT w
theorem TE.fr{o:Fin 6}{ea eb':Fm}{eb:Nat}{c ca cb:XC}(h:TE w rb x lf mp t o ea eb' eb c ca cb)(f:Fr F0 w w'):TE w' rb x lf mp t o ea eb' eb c ca cb:=
 ⟨h.b.fr f,f.row h.r fun h=>h,h.v.fr f,h.xa.fr f,h.xb.fr f,h.op,h.T.fr f,h.g.fr f⟩
theorem qrm{o:Fin 6}{ea eb':Fm}{eb b1 b2:Nat}{c ca cb:XC}{f s:Rat×Rat}{a b:Bool×Bool}(h:TE w rb x lf mp t o ea eb' eb c ca cb)(R:q0m t)(r1:Row w b1 (encQ f.1))(r2:Row w b2 (encQ f.2))(hs:q0s t eb'=some s)(hF:FR eb')
  (hK:∀w',Fr F0 w w'->K (trI (trop o a b f s)) w'):z2b_k1 (some ⟨rb,0,none⟩) ⟨eb,0,none⟩ (trI a) (trI b) ⟨b1,0,none⟩ ⟨b2,0,none⟩ K w:=by
 refine⟨fi ?_⟩
 intro w1
 have f1:Fr F0 w w1:=Fr.drew
 clear_value w1
 obtain⟨S,hSi,hSe⟩:∃S:World->Prop,(∀u,RB u rb x lf mp/\Row u eb (encX c)/\Vw 5 encX u c.a [ca,cb]->S u)/\∀u,S u->RB u rb x lf mp/\Row u eb (encX c)/\Vw 5 encX u c.a [ca,cb]:=⟨_,fun _ h=>h,fun _ h=>h⟩
 have hS:∀u,Fr F0 w u->S u:=fun u f=>hSi u ⟨h.b.fr f,f.row h.r fun h=>h,h.v.fr f⟩
 simp -zeta only[q1j,q04]
 refine⟨S,hS _ f1,T43.lds_pre (fun u hu=>(hSe u hu).1) ⟨c.a,fun u hu=>(hSe u hu).2.1.at,?_⟩⟩
 refine Vw.goS (enc:=encX) (S:=S) q1p od (hS _ f1) (fun u hu=>(hSe u hu).2.2) 1 rfl (show 1<2 by decide) fun ad hc=>?_
 refine⟨_,hc 0 _ rfl,_,hc 1 _ rfl,_,hc 2 _ rfl,_,hc 3 _ rfl,cb.a,hc 4 _ rfl,?_⟩
 have h0:Sx w w1 []:=Sx.nil f1
 have hR:∀ {u:World} {L:List Pt} {K:Int->Int->Int->Int->Int->World->Prop},Sx w u L->(∀w',Fr F0 u w'->K s.1.num (s.1.den:Int) s.2.num (s.2.den:Int) 0 w')->z64_sh x cb.op cb.n cb.d cb.nm cb.a K u:=fun h1 hK=>q77 (h.xb.fr h1.fr0) hs hF (h.g.fr h1.fr0) R (h.T.fr h1.fr0) hK
 have fin:∀(b3 b4:Nat) (w':World),Fr F0 w w'->Row w' b3 (encQ s.1)->Row w' b4 (encQ s.2)->z2b_k2 ⟨eb,0,none⟩ (trI a) (trI b) ⟨b1,0,none⟩ ⟨b2,0,none⟩ ⟨b3,0,none⟩ ⟨b4,0,none⟩ K w':=fun b3 b4 w' f' r3 r4=>qrl ⟨⟨_,(by
   have:=f'.row h.r fun h=>h
   unfold encX at this
   rw[h.op]at this
   exact this)⟩,f'.row r1 fun h=>h,f'.row r2 fun h=>h,r3,r4⟩ (hK w' f')
 have hS':∀ {u:World} {L:List Pt},Sx w u L->S u:=fun h1=>hS _ h1.fr0
 clear hSi hSe hS hK
 repeat' first
  | exact qcq (fun b3 b4 w'=>z2b_k2 ⟨eb,0,none⟩ (trI a) (trI b) ⟨b1,0,none⟩ ⟨b2,0,none⟩ ⟨b3,0,none⟩ ⟨b4,0,none⟩ K w') ox 1 0 rfl rfl od (fin _ _)
  | exact qcq (fun b3 b4 w'=>z2b_k2 ⟨eb,0,none⟩ (trI a) (trI b) ⟨b1,0,none⟩ ⟨b2,0,none⟩ ⟨b3,0,none⟩ ⟨b4,0,none⟩ K w') ox 0 1 rfl rfl od (fin _ _)
  | refine⟨hS' ox,?_⟩
  |refine hR ox fun w' f=>?_
   have:=Sx.fr ox f
  |intro w'
   have:Sx w w' _:=Sx.row (cs:=[Value.int .i64 (0:Int),.int .i64 (0:Int)]) ox
   clear_value w'
  | refine⟨?_,?_⟩
end
section
variable{w w' w0:World}{t:Td}{x:T43}{rb:Nat}{lf:Int}{mp:Option Nat}
theorem FR.sub{o:Fin 6}{a b:Fm}(h:FR (.op o a b)):FR a/\FR b:=by
 obtain⟨h1,h2,h3⟩:=h
 unfold Fm.four at h1
 simp only[Jq]at h1
 simp only[Fm.parts]at h2
 simp only[Fm.depth]at h3
 exact⟨⟨h1.2.1,oo,oo⟩,⟨h1.2.2,oo,oo⟩⟩
theorem qo4{o:Fin 6}{a b:Fm}(h:(q0s t (.op o a b)).isSome=true):(∃p,q0s t a=some p)/\∃q,q0s t b=some q:=by
 unfold q0s at h
 grind
def Trd(t:Td)(x:T43)(rb:Nat)(lf:Int)(mp:Option Nat)(s:B)(e:Fm):Prop:=∀ {c:XC} {w:World} {K:Int->World->Prop},XP w e c->RB w rb x lf mp->TP w x t->GlT w->FR e->(q0s t e).isSome=true ->
 (∀w',Fr F0 w w'->K (trI (trQ t s e)) w')->z2b_sh (some ⟨rb,0,none⟩) c.op c.n c.d c.nm c.a (ofL s) K w
theorem qrn{K:Int->World->Prop}{o:Fin 6}{ea eb':Fm}{eb:Nat}{c ca cb:XC}{s:B}(R:q0m t)(iha:Trd t x rb lf mp s ea)(ihb:Trd t x rb lf mp s eb')(h:TE w rb x lf mp t o ea eb' eb c ca cb)(hF:FR (.op o ea eb'))(hr:(q0s t (.op o ea eb')).isSome=true)
  (hK:∀w',Fr F0 w w'->K (trI (trQ t s (.op o ea eb'))) w'):z2b_k0 (some ⟨rb,0,none⟩) (ofL s) ⟨eb,0,none⟩ K w:=by
 obtain⟨hFa,hFb⟩:=hF.sub
 obtain⟨⟨p,hp⟩,q,hq⟩:=qo4 hr
 refine⟨fi ?_⟩
 refine⟨_,h.r.at,?_⟩
 rw[h.op,(q9e o).1]
 refine q0h ?_
 intro w1
 have f1:Fr F0 w w1:=Fr.drew
 clear_value w1
 obtain⟨S,hSi,hSe⟩:∃S:World->Prop,(∀u,RB u rb x lf mp/\Row u eb (encX c)/\Vw 5 encX u c.a [ca,cb]->S u)/\∀u,S u->RB u rb x lf mp/\Row u eb (encX c)/\Vw 5 encX u c.a [ca,cb]:=⟨_,fun _ h=>h,fun _ h=>h⟩
 have hS:∀u,Fr F0 w u->S u:=fun u f=>hSi u ⟨h.b.fr f,f.row h.r fun h=>h,h.v.fr f⟩
 simp -zeta only[q1j,q04]
 refine⟨S,hS _ f1,c.a,fun u hu=>(hSe u hu).2.1.at,?_⟩
 refine Vw.goS (enc:=encX) (S:=S) q1p od (hS _ f1) (fun u hu=>(hSe u hu).2.2) 0 rfl (show 0<2 by decide) fun ad hc=>?_
 refine⟨_,hc 0 _ rfl,_,hc 1 _ rfl,_,hc 2 _ rfl,_,hc 3 _ rfl,ca.a,hc 4 _ rfl,c.a,fun u hu=>(hSe u hu).2.1.at,?_⟩
 refine Vw.goS (enc:=encX) (S:=S) q1p od (hS _ f1) (fun u hu=>(hSe u hu).2.2) 1 rfl (show 1<2 by decide) fun ad2 hc2=>?_
 refine⟨_,hc2 0 _ rfl,_,hc2 1 _ rfl,_,hc2 2 _ rfl,_,hc2 3 _ rfl,cb.a,hc2 4 _ rfl,?_⟩
 have h1:=h.fr f1
 refine iha h1.xa h1.b h1.T h1.g hFa (by rw[hp];rfl) fun w2 f2=>?_
 have f2:=f1.t f2
 have h2:=h.fr f2
 refine⟨hS _ f2,ihb h2.xb h2.b h2.T h2.g hFb (by rw[hq];rfl) fun w3 f3=>?_⟩
 have f3:=f2.t f3
 refine⟨hS _ f3,?_⟩
 rw[q7n,q82]
 unfold trQ at hK
 refine q00.2 ⟨fun h0=>?_,fun h0=>?_⟩
 ·rw[if_pos h0]at hK
  exact hK w3 f3
 rw[if_neg h0,hp,hq]at hK
 intro w4
 have f4:Fr F0 w w4:=f3.t Fr.drew
 clear_value w4
 refine⟨S,hS _ f4,T43.lds_pre (fun u hu=>(hSe u hu).1) ⟨c.a,fun u hu=>(hSe u hu).2.1.at,?_⟩⟩
 refine Vw.goS (enc:=encX) (S:=S) q1p od (hS _ f4) (fun u hu=>(hSe u hu).2.2) 0 rfl (show 0<2 by decide) fun ad3 hc3=>?_
 refine⟨_,hc3 0 _ rfl,_,hc3 1 _ rfl,_,hc3 2 _ rfl,_,hc3 3 _ rfl,ca.a,hc3 4 _ rfl,?_⟩
 have h00:Sx w w4 []:=Sx.nil f4
 have hR:∀ {u:World} {L:List Pt} {K:Int->Int->Int->Int->Int->World->Prop},Sx w u L->(∀w',Fr F0 u w'->K p.1.num (p.1.den:Int) p.2.num (p.2.den:Int) 0 w')->z64_sh x ca.op ca.n ca.d ca.nm ca.a K u:=fun h1 hK=>q77 (h.xa.fr h1.fr0) hp hFa (h.g.fr h1.fr0) R (h.T.fr h1.fr0) hK
 have fin:∀(b1 b2:Nat) (w':World),Fr F0 w w'->Row w' b1 (encQ p.1)->Row w' b2 (encQ p.2)->z2b_k1 (some ⟨rb,0,none⟩) ⟨eb,0,none⟩ (trI (trQ t s ea)) (trI (trQ t s eb')) ⟨b1,0,none⟩ ⟨b2,0,none⟩ K w':=fun b1 b2 w' f' r1 r2=>qrm (h.fr f') R r1 r2 hq hFb fun w'' f''=>hK w'' (f'.t f'')
 have hS':∀ {u:World} {L:List Pt},Sx w u L->S u:=fun h1=>hS _ h1.fr0
 clear hSi hSe hS hK h1 h2 f1 f2 f3
 repeat' first
  | exact qcq (fun b1 b2 w'=>z2b_k1 (some ⟨rb,0,none⟩) ⟨eb,0,none⟩ (trI (trQ t s ea)) (trI (trQ t s eb')) ⟨b1,0,none⟩ ⟨b2,0,none⟩ K w') ox 1 0 rfl rfl od (fin _ _)
  | exact qcq (fun b1 b2 w'=>z2b_k1 (some ⟨rb,0,none⟩) ⟨eb,0,none⟩ (trI (trQ t s ea)) (trI (trQ t s eb')) ⟨b1,0,none⟩ ⟨b2,0,none⟩ K w') ox 0 1 rfl rfl od (fin _ _)
  | refine⟨hS' ox,?_⟩
  |refine hR ox fun w' f=>?_
   have:=Sx.fr ox f
  |intro w'
   have:Sx w w' _:=Sx.row (cs:=[Value.int .i64 (0:Int),.int .i64 (0:Int)]) ox
   clear_value w'
  | refine⟨?_,?_⟩
theorem qax(R:q0m t)(s:B):∀e:Fm,Trd t x rb lf mp s e:=by
 intro e
 induction e with
 | num n d =>
  intro c w K hx hb T g hF hr hK
  obtain⟨rfl,_⟩:=hx
  refine z2b_mk (fi ?_)
  intro w1
  have m:Mem w w1 [(w.heap.size,encX ⟨ofL wNum,n,d,ofL [],⟨none,0,0⟩⟩)]:=Mem.nil.allocL
  clear_value w1
  refine⟨_,m.ld 0,?_⟩
  rw[show decide (ofL wNum=str [110,117,109])=true by decide]
  exact q08 (hK w1 m.1)
 | name n =>
  intro c w K hx hb T g hF hr hK
  obtain⟨rfl,_⟩:=hx
  refine z2b_mk (fi ?_)
  intro w1
  have m:Mem w w1 [(w.heap.size,encX ⟨ofL q1w,0,0,ofL n,⟨none,0,0⟩⟩)]:=Mem.nil.allocL
  clear_value w1
  refine⟨_,m.ld 0,?_⟩
  rw[show decide (ofL q1w=str [110,117,109])=false by decide]
  refine q0h ⟨_,m.ld 0,?_⟩
  rw[show decide (ofL q1w=str [110,97,109,101])=true by decide]
  refine q08 ⟨_,m.ld 0,?_⟩
  rw[q0c]
  have hK:=hK w1 m.1
  unfold trQ at hK
  refine q09.2 ⟨fun h=>?_,fun h=>?_⟩
  ·have:decide (n=s)=false:=by simpa using h
   rw[this]at hK
   exact hK
  ·have:decide (n=s)=true:=by simpa using h
   rw[this]at hK
   refine⟨fi ?_⟩
   refine⟨_,m.ld 0,?_⟩
   rw[show decide (ofL q1w=str [110,97,109,101])=true by decide]
   exact q08 hK
 | op o ea eb' iha ihb =>
  intro c w K hx hb T g hF hr hK
  obtain⟨ca,cb,⟨h1,h2,h3,h4⟩,hv,ha,hb'⟩:=hx
  refine z2b_mk (fi ?_)
  intro w1
  have m:Mem w w1 [(w.heap.size,encX c)]:=Mem.nil.allocL
  clear_value w1
  have te:TE w1 rb x lf mp t o ea eb' w.heap.size c ca cb:=⟨hb.fr m.1,m.row 0,hv.fr m.1,ha.fr m.1,hb'.fr m.1,h1,T.fr m.1,g.fr m.1⟩
  refine⟨_,m.ld 0,?_⟩
  rw[h1,(q9e o).2]
  refine q0h ⟨_,m.ld 0,?_⟩
  rw[h1,(q9e o).1]
  exact q0h (qrn R iha ihb te hF hr fun w' f=>hK w' (m.1.t f))
end
section
variable{w w' w0:World}{t:Td}{x:T43}{rb:Nat}{lf:Int}{mp:Option Nat}{K:Bool->World->Prop}
theorem qh0(T:TP w x t)(hb:RB w rb x lf mp)(R:q0m t)(C:ChkT t)(g:GlT w)(hB:q45 t=true)(hK:∀w',Fr F0 w w'->K true w'):z1q_sh (some ⟨rb,0,none⟩) K w:=by
 have hF:FR t.fm:=⟨R.fm.1,R.fm.2.1,R.fm.2.2⟩
 have hcl:=R.crit
 unfold q45 at hB
 simp only[Jq,Jp]at hB
 obtain⟨hB1,hB2⟩:=hB
 rw[Jb]at hB2
 refine⟨fi ?_⟩
 simp -zeta only[q1j,q04]
 refine⟨_,hb.at rfl,_,hb.at rfl,_,hb.at rfl,_,hb.at rfl,_,hb.at rfl,?_⟩
 refine qax R wPrice t.fm T.fm hb T g hF C.rg fun w1 f1=>?_
 refine⟨_,(hb.fr f1).at rfl,?_⟩
 rw[qsq,hB1]
 have hvl:=T.crit.len
 refine⟨⟨fun bad i u=>∃k:Nat,i=(k:Int)/\k<=t.crit.length/\bad=trI (false,false)/\Fr F0 w u,fun _ i _=>t.crit.length-i.toNat,⟨0,rfl,Ji _,rfl,f1⟩,?_⟩⟩
 rintro _ _ u ⟨k,rfl,hk,rfl,f⟩
 refine fi ?_
 refine q00.2 ⟨fun hlt=>?_,fun hge=>hK u f⟩
 have hkl:k<t.crit.length:=oo
 refine ldCr (T.crit.fr f) k rfl hkl ?_
 have hc:=hB2 _ (J1 hkl)
 generalize t.crit[k]=c0 at *
 refine q1u (vs:=encC c0) rfl Mem.nil fun w2 n2=>?_
 have f2:=f.t n2.1
 intro w3
 have n3:Mem u w3 _:=n2.drew
 have f3:Fr F0 w w3:=f2.t Fr.drew
 clear_value w3
 simp -zeta only[q1j,q04]
 refine⟨fun v=>RB v rb x lf mp/\Row v u.heap.size (encC c0),⟨hb.fr f3,n3.row 0 rfl⟩,_,fun v hv=>hv.1.at rfl,_,fun v hv=>hv.1.at rfl,_,fun v hv=>hv.1.at rfl,_,fun v hv=>hv.1.at rfl,_,fun v hv=>hv.1.at rfl,_,fun v hv=>hv.2.at rfl,?_⟩
 refine qax R c0.name t.fm (T.fm.fr f3) (hb.fr f3) (T.fr f3) (g.fr f3) hF C.rg fun w4 f4=>?_
 have n4:=n3.fr f4
 refine⟨_,n4.ld 0,?_⟩
 have or0:∀y:Bool×Bool,y=noT->IntKind.wrap .i64 (((BitVec.ofInt (IntKind.bits .i64) (trI (false,false)) ||| BitVec.ofInt (IntKind.bits .i64) (trI y))).toNat:Int)=trI (false,false):=fun y hy=>by
  rw[q7n,hy];rfl
 refine q09.2 ⟨fun hl=>?_,fun hl=>?_⟩
 ·rw[hl]at hc
  simp only[if_true,Jp]at hc
  refine⟨q01,⟨⟨trivial,trivial,trivial,trivial⟩,k+1,oo,oo,?_,f3.t f4⟩,oo⟩
  rw[qsq,hc]
  exact or0 _ rfl
 ·rw[hl]at hc
  simp only[Bool.false_eq_true,if_false,Jp]at hc
  refine⟨q01,⟨⟨trivial,trivial,trivial,trivial⟩,k+1,oo,oo,?_,f3.t f4⟩,oo⟩
  rw[qre,hc]
  exact or0 _ rfl
theorem qej(T:TP w x t)(hb:RB w rb x lf mp)(R:q0m t)(g:GlT w)(hK:∀w',Fr F0 w w'->K (!decide (wLow∈t.fm.namesR)) w'):z3t_sh (some ⟨rb,0,none⟩) K w:=by
 refine⟨fi ?_⟩
 exact q4v T hb R g fun w' f=>hK w' f
theorem qcr(T:TP w x t)(hb:RB w rb x lf mp)(R:q0m t)(hD:q3d t=true)(hK:∀w',Fr F0 w w'->K true w'):z3f_sh (some ⟨rb,0,none⟩) K w:=by
 have hcl:=R.crit
 have htl:=R.ties
 unfold q3d at hD
 simp only[Jq,Jr,Jp,decide_eq_true_eq,decide_eq_false_iff_not]at hD
 obtain⟨hD1,hD2⟩:=hD
 rw[Jb]at hD2
 refine⟨fi ?_⟩
 intro w1
 have h:Sx w w1 _:=(Sx.nil Fr.refl).add (q:=(inB ⟨some ⟨w.heap.size,0,none⟩,1,1⟩,fun u=>Ow 1 encB u ⟨some ⟨w.heap.size,0,none⟩,1,1⟩ [wPrice])) (w':=w1) Fr.alloc (q0b.ow _ _) (Ow.new rfl rfl) fun b ⟨a,ha,hb⟩=>by
  cases ha
  subst hb
  exact⟨Jj _,by simp[w1]⟩
 clear_value w1
 generalize(⟨some ⟨w.heap.size,0,none⟩,1,1⟩:Sl)=s0 at h ⊢
 simp -zeta only[q1j,q04]
 refine⟨_,(hb.fr h.fr0).at rfl,?_⟩
 have hvl:=T.crit.len
 refine⟨⟨fun s i u=>∃k:Nat,i=(k:Int)/\k<=t.crit.length/\Sx w u [(inB s,fun u=>Ow 1 encB u s (wPrice::(t.crit.take k).map Cr.name))],fun _ i _=>t.crit.length-i.toNat,⟨0,rfl,Ji _,h⟩,?_⟩⟩
 rintro s _ u ⟨k,rfl,hk,h⟩
 refine fi ?_
 refine q00.2 ⟨fun hlt=>?_,fun hge=>?_⟩
 ·have hkl:k<t.crit.length:=oo
  refine ldCr (T.crit.fr h.fr0) k rfl hkl ?_
  have tk:(t.crit.take (k+1)).map Cr.name=(t.crit.take k).map Cr.name++[t.crit[k].name]:=by
   rw[J3,J0 hkl,Jf]
   rfl
  generalize t.crit[k]=c0 at *
  refine h.box (vs:=encC c0) rfl fun w2 f2 h=>?_
  refine⟨_,h.ld 0 rfl rfl,?_⟩
  intro w3
  have hx:Vw 1 encB w3 ⟨some ⟨w2.heap.size,0,none⟩,1,1⟩ [c0.name]:=Vw.new rfl rfl
  have h:Sx w w3 _:=h.fr Fr.alloc
  clear_value w3
  have hlk:(wPrice::(t.crit.take k).map Cr.name).length=k+1:=oz
  refine h.app 1 rfl hx qbj rfl oz oz fun r w4 h f4=>?_
  refine⟨q01,⟨⟨rfl,rfl,rfl,trivial⟩,k+1,oo,oo,?_⟩,uo⟩
  rw[tk]
  exact h.tail
 ·have hk':k=t.crit.length:=oo
  subst hk'
  rw[J2]at h
  refine q78 (T.fr h.fr0) (hb.fr h.fr0) hcl fun w2 r f2 ho _=>?_
  have h:=h.fr f2
  have hn:Ow 1 encB w2 s (wPrice::t.crit.map Cr.name):=h.get 0 rfl
  have hrl:=ho.len
  have hsl:(q0z t).length=t.crit.length+1:=by unfold q0z;rw[J7,J8]
  have hnl:(wPrice::t.crit.map Cr.name).length=t.crit.length+1:=oz
  have f0:=h.fr0
  clear h
  refine⟨⟨fun i v=>∃k:Nat,i=(k:Int)/\k<=t.crit.length+1/\Fr F0 w2 v,fun i _=>t.crit.length+1-i.toNat,⟨0,rfl,Ji _,Fr.refl⟩,?_⟩⟩
  rintro _ v ⟨k,rfl,hk,fv⟩
  refine fi ?_
  refine q00.2 ⟨fun hlt=>?_,fun hge=>hK v (f0.t fv)⟩
  have hkl:k<(q0z t).length:=oo
  refine ldL (ho.vw.fr fv) k rfl hkl ?_
  have fact:(q0z t)[k].1<(q0z t)[k].2->(wPrice::t.crit.map Cr.name)[k]'oo∈t.ties:=by
   cases k with
   | zero=>exact fun h=>hD1.elim (fun h'=>absurd h h') id
   | succ k =>
    have hk':k<t.crit.length:=oo
    intro h
    have:=hD2 _ (J1 hk')
    simp only[Jr,Jp,decide_eq_false_iff_not,decide_eq_true_eq]at this
    have e:(wPrice::t.crit.map Cr.name)[k+1]'(by rw[hnl];omega)=t.crit[k].name:=og
    have e2:(q0z t)[k+1]'hkl=(t.crit[k].low,t.crit[k].high):=by simp[q0z]
    grind
  generalize hp:(q0z t)[k]=p at fact ⊢
  intro w3
  have n3:Mem v w3 [(v.heap.size,[Value.int .i64 (0:Int),.int .i64 (0:Int)])]:=Mem.nil.allocL (cs:=[Value.int .i64 (0:Int),.int .i64 (0:Int)])
  clear_value w3
  refine⟨n3.wr 0,?_⟩
  intro w4
  have n3:=n3.set (i:=0) (v:=.int .i64 p.1) 0
  refine⟨n3.wr 0,?_⟩
  intro w5
  have n3:Mem v w5 [(v.heap.size,encL p)]:=n3.set (i:=1) (v:=.int .i64 p.2) 0
  clear_value w5
  intro w6
  have n3:Mem v w6 [(v.heap.size,encL p)]:=n3.drew
  clear_value w6
  have f6:=fv.t n3.1
  have g6:=f0.t f6
  obtain⟨S,hSi,hSe⟩:∃S:World->Prop,(∀u,RB u rb x lf mp/\Row u v.heap.size (encL p)/\Vw 1 encB u s (wPrice::t.crit.map Cr.name)->S u)/\∀u,S u->RB u rb x lf mp/\Row u v.heap.size (encL p)/\Vw 1 encB u s (wPrice::t.crit.map Cr.name):=⟨_,fun _ h=>h,fun _ h=>h⟩
  have hS6:S w6:=hSi w6 ⟨hb.fr g6,n3.row 0,hn.vw.fr f6⟩
  refine⟨S,hS6,_,fun u hu=>(hSe u hu).2.1.at,_,fun u hu=>(hSe u hu).2.1.at,q00.2 ⟨fun hlt2=>?_,fun _=>?_⟩⟩
  ·refine⟨_,fun u hu=>(hSe u hu).1.at rfl,?_⟩
   refine Vw.goS (enc:=encB) (S:=S) (fun _=>rfl) od hS6 (fun u hu=>(hSe u hu).2.2) k rfl oo fun ad hc=>?_
   refine⟨_,hc 0 _ rfl,?_⟩
   refine q1s (T.ties.fr g6) oo ⟨hS6,?_⟩
   rw[decide_eq_true (fact hlt2)]
   exact q0h ⟨q01,⟨⟨rfl,rfl,rfl,rfl,trivial⟩,k+1,oo,oo,f6⟩,uo⟩
  ·exact⟨q01,⟨⟨rfl,rfl,rfl,rfl,trivial⟩,k+1,oo,oo,f6⟩,uo⟩
end
section
variable{w w' w0:World}{t:Td}{x:T43}{rb:Nat}{lf:Int}{mp:Option Nat}
structure CT(w:World)(x:T43)(t:Td):Prop where
 T:TP w x t
 R:q0m t
 C:ChkT t
 hl:(q0f t).length<=4000
 g:GlT w
 gm:Gm w
theorem CT.fr(h:CT w x t)(f:Fr F0 w w'):CT w' x t:=⟨h.T.fr f,h.R,h.C,h.hl,h.g.fr f,h.gm.fr f⟩
theorem qek{b:Nat}{cs:List Value}{kd:Int}{s:Sl}{K:Int->Sl->World->Prop}(r:Row w b cs)(hl:cs.length=2)(hb:w0.heap.size<=b)(hf:Fr F0 w0 w)(hK:∀w',Fr F0 w0 w'->K kd s w') :
  wrOk w (Addr.mk b 0 none) /\ 
 (let w4:World:=w.setCell (Addr.mk b 0 none) (Value.int .i64 kd)
 wrOk w4 (Addr.mk b 1 none) /\ 
 (let w5:World:=w4.setCell (Addr.mk b 1 none) (Value.slice s.p s.l s.c)
 ∃x6:Int,w5.cell? (Addr.mk b 0 none)=some (Value.int .i64 x6)/\∃x7:Sl,w5.cell? (Addr.mk b 1 none)=some (Value.slice x7.p x7.l x7.c)/\K x6 x7 w5)):=by
 match cs,hl with
 | [y,z],_ =>
 refine⟨r.wr og,?_⟩
 intro w4
 have r4:=r.set 0 (.int .i64 kd)
 have f4:Fr (fun c=>c=b) w w4:=Fr.set rfl
 refine⟨r4.wr og,?_⟩
 intro w5
 have r5:Row w5 b [.int .i64 kd,.slice s.p s.l s.c]:=r4.set 1 (.slice s.p s.l s.c)
 have f5:Fr (fun c=>c=b) w w5:=f4.trans (Fr.set (F:=fun c=>c=b) rfl) fun _ h _=>h
 exact⟨_,r5.at,s,r5.at,hK w5 (hf.trans f5 fun c hc hlt=>absurd hlt oo)⟩
def Ends(w0:World)(x:T43)(claim work:Int):Prop:=
 ∀(w:World) (rb:Nat) (K:Int->Sl->World->Prop),Fr F0 w0 w->w0.heap.size<=rb->RB w rb x work none->(∀w' kd s,Fr (fun c=>c=rb) w w'->kd=2\/kd=3->K kd s w')->z1t_sh (some ⟨rb,0,none⟩) claim K w
theorem q5q{claim work:Int}{f:Value}{b:Bool}{K:Int->Sl->World->Prop}(c:CT w x t)(hw:1<=work)
  (hsure:∀(u:World) (rb:Nat) (K:VW),Fr F0 w u->RB u rb x 0 none->(∀u',Fr F0 u u'->K (.bool b) u')->q0y Tryz.prog f [.pointer (some ⟨rb,0,none⟩)] u K)
  (hsearch:b=false->Ends w x claim work) (hK:∀w' kd s,Fr F0 w w'->(b=true->kd=1)->(b=false->kd=2\/kd=3)->K kd s w'):z4s_sh x claim work f K w:=by
 refine⟨fi ?_⟩
 intro w1
 have m:Mem w w1 [(w.heap.size,x.cs)]:=Mem.nil.allocL
 clear_value w1
 generalize w.heap.size=b0 at m ⊢
 intro w2
 have m:Mem w w2 [(w1.heap.size,[Value.int .i64 (0:Int),Value.slice none 0 0]),(b0,x.cs)]:=m.allocL (cs:=[Value.int .i64 (0:Int),Value.slice none 0 0])
 clear_value w2
 generalize w1.heap.size=b1 at m ⊢
 have hb1:w.heap.size<=b1:=m.2.2.2 (b1,[Value.int .i64 (0:Int),Value.slice none 0 0]) og
 refine T43.ld_row (m.row 1) ?_
 have c2:=c.fr m.1
 have hlt2:=(m.row 0).lt
 refine qkd c2.T c.R c.C c.hl c2.g c2.gm fun w4 rb f4 hrb hb=>?_
 have m:=m.fr f4
 refine q0h (q00.2 ⟨fun h=>absurd h oo,fun _=>?_⟩)
 refine hsure w4 rb _ m.1 hb fun w5 f5=>⟨b,rfl,?_⟩
 have n:=m.fr f5
 have hb5:=hb.fr f5
 have hne:rb≠b1:=oo
 have hrw:w.heap.size<=rb:=oo
 refine q09.2 ⟨fun ht=>?_,fun hf=>?_⟩
 ·exact qek (s:=⟨none,0,0⟩) (n.row 0) rfl hb1 n.1 fun w' f'=>hK w' 1 _ f' (fun _=>rfl) fun h=>oz
 ·simp -zeta only[q1j,q04]
  refine⟨Row.wr hb5 (by simp[T43.cs]),?_⟩
  intro w6
  have hb6:RB w6 rb x work none:=Row.set hb5 20 (.int .i64 work)
  have f6:Fr (fun c=>c=rb) w5 w6:=Fr.set rfl
  clear_value w6
  have g6:Fr F0 w w6:=n.1.trans f6 fun c (hc:c=rb) hlt=>absurd hlt oo
  refine hsearch hf w6 rb _ g6 hrw hb6 fun w7 kd s f7 hkd=>?_
  have g7:Fr F0 w w7:=g6.trans f7 fun c (hc:c=rb) hlt=>absurd hlt oo
  have r7:=f7.row (f6.row (n.row 0) fun h=>hne h.symm) fun h=>hne h.symm
  exact qek r7 rfl hb1 g7 fun w' f'=>hK w' kd s f' (fun h=>by rw[h]at hf;cases hf) fun _=>hkd
theorem qcs{work:Int}{K:Int->Sl->World->Prop}(c:CT w x t)(hw:1<=work)(hB:q45 t=true)(hK:∀w' s,Fr F0 w w'->K 1 s w'):z3s_sh x work K w:=by
 refine⟨fi ?_⟩
 intro w1
 have m:Mem w w1 [(w.heap.size,x.cs)]:=Mem.nil.allocL
 clear_value w1
 generalize w.heap.size=b0 at m ⊢
 intro w2
 have m:Mem w w2 [(w1.heap.size,[Value.int .i64 (0:Int),Value.slice none 0 0]),(b0,x.cs)]:=m.allocL (cs:=[Value.int .i64 (0:Int),Value.slice none 0 0])
 clear_value w2
 generalize w1.heap.size=b1 at m ⊢
 have hb1:w.heap.size<=b1:=m.2.2.2 (b1,[Value.int .i64 (0:Int),Value.slice none 0 0]) og
 refine T43.ld_row (m.row 1) ?_
 have c2:=c.fr m.1
 refine q5q (b:=true) c2 hw (fun u rb K f hb hK=>q02 z1q_ok (show z1q_sh _ _ u from qh0 (c2.T.fr f) hb c.R c.C (c2.g.fr f) hB hK)) (fun h=>by cases h) fun w3 kd s f3 h1 _=>?_
 have m:=m.fr f3
 rw[h1 rfl]
 exact qek (m.row 0) rfl hb1 m.1 fun w' f'=>hK w' s f'
theorem qel{work:Int}{K:Int->Sl->World->Prop}(c:CT w x t)(hw:1<=work)(hB:q3d t=true)(hK:∀w' s,Fr F0 w w'->K 1 s w'):z45_sh x work K w:=by
 refine⟨fi ?_⟩
 intro w1
 have m:Mem w w1 [(w.heap.size,x.cs)]:=Mem.nil.allocL
 clear_value w1
 generalize w.heap.size=b0 at m ⊢
 intro w2
 have m:Mem w w2 [(w1.heap.size,[Value.int .i64 (0:Int),Value.slice none 0 0]),(b0,x.cs)]:=m.allocL (cs:=[Value.int .i64 (0:Int),Value.slice none 0 0])
 clear_value w2
 generalize w1.heap.size=b1 at m ⊢
 have hb1:w.heap.size<=b1:=m.2.2.2 (b1,[Value.int .i64 (0:Int),Value.slice none 0 0]) og
 refine T43.ld_row (m.row 1) ?_
 have c2:=c.fr m.1
 refine q5q (b:=true) c2 hw (fun u rb K f hb hK=>q02 z3f_ok (show z3f_sh _ _ u from qcr (c2.T.fr f) hb c.R hB hK)) (fun h=>by cases h) fun w3 kd s f3 h1 _=>?_
 have m:=m.fr f3
 rw[h1 rfl]
 exact qek (m.row 0) rfl hb1 m.1 fun w' f'=>hK w' s f'
theorem Ends.fr{claim work:Int}(h:Ends w x claim work)(f:Fr F0 w w'):Ends w' x claim work:=fun u rb K fu hrb hb hK=>h u rb K (f.t fu) (Jm f.1 hrb) hb hK
theorem qh1{work:Int}{K:Int->Sl->World->Prop}(c:CT w x t)(hw:1<=work)(hS:wLow∈t.fm.namesR->Ends w x 2 work)(hK:∀w' kd s,Fr F0 w w'->(wLow∉t.fm.namesR->kd=1)->(wLow∈t.fm.namesR->kd=2\/kd=3)->K kd s w'):z4r_sh x work K w:=by
 refine⟨fi ?_⟩
 intro w1
 have m:Mem w w1 [(w.heap.size,x.cs)]:=Mem.nil.allocL
 clear_value w1
 generalize w.heap.size=b0 at m ⊢
 intro w2
 have m:Mem w w2 [(w1.heap.size,[Value.int .i64 (0:Int),Value.slice none 0 0]),(b0,x.cs)]:=m.allocL (cs:=[Value.int .i64 (0:Int),Value.slice none 0 0])
 clear_value w2
 generalize w1.heap.size=b1 at m ⊢
 have hb1:w.heap.size<=b1:=m.2.2.2 (b1,[Value.int .i64 (0:Int),Value.slice none 0 0]) og
 refine T43.ld_row (m.row 1) ?_
 have c2:=c.fr m.1
 refine q5q (b:=!decide (wLow∈t.fm.namesR)) c2 hw (fun u rb K f hb hK=>q02 z3t_ok (show z3t_sh _ _ u from qej (c2.T.fr f) hb c.R (c2.g.fr f) hK)) (fun h=>(hS (by simpa using h)).fr m.1) fun w3 kd s f3 h1 h2=>?_
 have m:=m.fr f3
 exact qek (m.row 0) rfl hb1 m.1 fun w' f'=>hK w' kd s f' (fun h=>h1 (by simpa using h)) fun h=>h2 (by simpa using h)
end
section
variable{w w' w0:World}{t:Td}{x:T43}
def fn3:List Value:=[Value.func (.func 18) #[] #[],Value.func (.func 19) #[] #[],Value.func (.func 20) #[] #[]]
def tagg(x:T43):Value:=.agg #[(Value.string x.f0),(Value.slice x.f1.p x.f1.l x.f1.c),(Value.slice x.f2.p x.f2.l x.f2.c),(Value.slice x.f3.p x.f3.l x.f3.c),(Value.int .i64 x.f4),(Value.int .i64 x.f5),(Value.string x.f6),(Value.int .i64 x.f7),(Value.int .i64 x.f8),(Value.string x.f9),(Value.slice x.f10.p x.f10.l x.f10.c),(Value.slice x.f11.p x.f11.l x.f11.c),(Value.int .i64 x.f12),(Value.slice x.f13.p x.f13.l x.f13.c),(Value.int .i64 x.f14),(Value.int .i64 x.f15),(Value.int .i64 x.f16),(Value.int .i64 x.f17),(Value.int .i64 x.f18),(Value.int .i64 x.f19)]
theorem qh2{work:Int}(bad:Nat)(c:CT w x t)(hw:1<=work)(hb:bad=1\/bad=3)(hB:q45 t=true)(hS:bad=3->wLow∉t.fm.namesR)(hS':bad=1->wLow∈t.fm.namesR/\Ends w x 2 work)(hD:bad=3->q3d t=true)
  (k:Nat) (hk:k<3) (hkb:k<=bad) (K:VW) (hK:∀(w':World) (kd:Int) (s:Sl),Fr F0 w w'->(k<bad->kd=1)->(k=bad->kd=2\/kd=3)->K (.agg #[.int .i64 kd,.slice s.p s.l s.c]) w'):q0y Tryz.prog (fn3[k]'hk) [tagg x,.int .i64 work] w K:=by
 match k,hk,hkb with
 | 0,_,_=>exact q02 z3s_ok (show z3s_sh x work _ w from qcs c hw hB fun w' s f=>hK w' 1 s f (fun _=>rfl) fun h=>oo)
 | 1,_,hkb =>
  refine q02 z4r_ok (show z4r_sh x work _ w from qh1 c hw (fun h=>?_) fun w' kd s f h1 h2=>hK w' kd s f (fun h=>h1 (hS oo)) fun h=>h2 (hS' h.symm).1)
  grind
 | 2,_,hkb =>
  have h3:bad=3:=oo
  exact q02 z45_ok (show z45_sh x work _ w from qel c hw (hD h3) fun w' s f=>hK w' 1 s f (fun _=>rfl) fun h=>oo)
theorem q4x{work:Int}{K:T43->Int->Int->World->Prop}(bad:Nat)(R:q0m t)(C:ChkT t)(hl:(q0f t).length<=4000)(g:GlT w)(gm:Gm w)(hw:1<=work)(hb:bad=1\/bad=3)(hB:q45 t=true)(hS:bad=3->wLow∉t.fm.namesR)
  (hS':bad=1->wLow∈t.fm.namesR/\∀w' x,Fr F0 w w'->CT w' x t->Ends w' x 2 work) (hD:bad=3->q3d t=true)
  (hOK:bad=3->∀w' x,Fr F0 w w'->TP w' x t->K x 0 0 w') (hBad:bad=1->∀w' x er,Fr F0 w w'->er=41\/er=42->K x 0 er w'):z44_sh (ofL (q0f t)) work K w:=by
 refine⟨fi ?_⟩
 intro w1
 have h:Sx w w1 _:=(Sx.nil Fr.refl).row (cs:=zX.cs)
 clear_value w1
 generalize w.heap.size=b0 at h ⊢
 refine qar R hl (gm.fr h.fr0) fun w2 x f2 T=>?_
 have TG:=T
 have T:=T.tp
 have hs1:=(h.nw 0 _ rfl _ rfl).2
 have h:=h.fr f2
 intro w6
 have f6:Fr F0 w2 w6:=Fr.alloc
 have h:Sx w w6 _:=h.row (cs:=zX.cs)
 clear_value w6
 have hge:w.heap.size<=w2.heap.size:=(h.nw 0 _ rfl _ rfl).1
 have hT:∀(u:World),Fr F0 w2 u->TP u x t:=fun u f=>T.fr f
 have hz2:w2.heap.size<=w2.heap.size:=Jj _
 generalize hb1:w2.heap.size=b1 at h hge hz2 ⊢
 refine h.st (vs:=x.cs) 0 rfl rfl fun w7 f7 h=>?_
 have g7:Fr F0 w2 w7:=f6.trans f7 fun c (hc:c=b1) hlt=>absurd hlt oo
 refine q0h (T43.ld_row (h.get 0 rfl:Row w7 b1 x.cs) ?_)
 have c7:CT w7 x t:=⟨hT w7 g7,R,C,hl,g.fr h.fr0,gm.fr h.fr0⟩
 refine qav c7.T R C hl c7.g c7.gm fun w11 f11=>?_
 have h:=h.fr f11
 refine q0h ?_
 intro w16
 have f16:Fr F0 w11 w16:=Fr.alloc
 have h:Sx w w16 _:=h.row (cs:=fn3)
 clear_value w16
 generalize w11.heap.size=bf at h ⊢
 have c16:CT w16 x t:=(c7.fr f11).fr f16
 clear hT
 have hE:bad=1->wLow∈t.fm.namesR/\Ends w16 x 2 work:=fun hbd=>⟨(hS' hbd).1,(hS' hbd).2 w16 x h.fr0 c16⟩
 refine⟨⟨fun i u=>∃k:Nat,i=(k:Int)/\k<=3/\k<=bad/\Fr F0 w16 u,fun i _=>3-i.toNat,⟨0,rfl,oo,oo,Fr.refl⟩,?_⟩⟩
 rintro _ u ⟨k,rfl,hk3,hkb,f⟩
 have h:=h.fr f
 have cu:=c16.fr f
 have nb0:w.heap.size<=b0:=(h.nw 2 _ rfl _ rfl).1
 refine fi ?_
 refine q00.2 ⟨fun hlt=>?_,fun hge=>?_⟩
 ·have hk:k<3:=oo
  refine nz_i ⟨⟨oo,by show(k:Int)<((3:Nat):Int);omega⟩,fn3[k]'hk,?_,?_⟩
  ·rw[q04]
   have hr:Row u bf fn3:=h.get 0 rfl
   exact hr.at (by rw[Jl,Int.toNat_natCast,Nat.mul_one];exact J0 hk)
  refine T43.ld_row (h.get 1 rfl:Row u b1 x.cs) ?_
  refine qh2 bad cu hw hb hB hS (fun hbd=>⟨(hE hbd).1,(hE hbd).2.fr f⟩) hD k hk hkb _ fun w3 kd s f3 h1 h2=>⟨kd,s,rfl,?_⟩
  have h:=h.fr f3
  refine q0i.2 ⟨fun hk2=>?_,fun hk2=>q0i.2 ⟨fun hk3=>?_,fun hk3=>?_⟩⟩
  ·have hbd:bad=1:=oo
   refine h.st (vs:=zX.cs) 2 rfl rfl fun w4 f4 h=>T43.ld_row (x:=zX) (h.get 2 rfl:Row w4 b0 zX.cs) ?_
   exact hBad hbd w4 _ _ h.fr0 (.inl rfl)
  ·have hbd:bad=1:=oo
   refine h.st (vs:=zX.cs) 2 rfl rfl fun w4 f4 h=>T43.ld_row (x:=zX) (h.get 2 rfl:Row w4 b0 zX.cs) ?_
   exact hBad hbd w4 _ _ h.fr0 (.inr rfl)
  ·have hlt:k<bad:=oo
   exact⟨q01,⟨⟨rfl,rfl,rfl,rfl,rfl,trivial⟩,k+1,oo,oo,oo,f.t f3⟩,uo⟩
 ·have hbd:bad=3:=oo
  refine T43.ld_row (h.get 1 rfl:Row u b1 x.cs) ?_
  refine h.st (vs:=x.cs) 2 rfl rfl fun w4 f4 h=>T43.ld_row (x:=x) (h.get 2 rfl:Row w4 b0 x.cs) ?_
  have gu:Fr (fun c=>c=b0) w2 w4:=((g7.t f11).t (f16.t f)).f0.trans f4 fun c hc hlt=>hc
  exact hOK hbd w4 x h.fr0 (TG _ w4 gu fun c (hc:c=b0)=>hc▸hs1)
end
end Go.Proofs.YtmfkimnmklnppaaGreatDoor
namespace Dp
open Go Pw
def smQ:Int->List (Int×Int)->Bool
 | _,[]=>true
 | n,s::r=>if s.2-s.1>=400 then false else if n*(s.2-s.1+1)>400 then false else smQ (n*(s.2-s.1+1)) r
theorem qro(n:Int)(s:Int×Int)(r:List (Int×Int)):smQ n (s::r)=if s.2-s.1>=400 then false else if n*(s.2-s.1+1)>400 then false else smQ (n*(s.2-s.1+1)) r:=rfl
def qix(t:Td):Bool:=smQ 1 (q0z t++if wLow∈t.fm.namesR then [(t.low,t.high)]else [])
def q36(s:Int×Int):List Int:=[s.1,Int.tdiv (s.1+s.2) 2,s.2]
end Dp
namespace Go.Proofs.YtmfkimnmklnppaaGreatDoor
open Go Pw Dp
section
variable{w w' w0:World}{t:Td}{x:T43}{rb:Nat}{lf:Int}{mp:Option Nat}
theorem qiy{s:Sl}{l:List (Int×Int)}{K:Bool->World->Prop}(hv:Vw 2 encL w s l)(hl:l.length<=20)(hi:∀p∈l,0<=p.1/\p.1<=p.2/\p.2<=1000000000)(hK:∀w',Fr F0 w w'->K (smQ 1 l) w'):z29_l1 1 s (s.l:Int) (0:Int) K w:=by
 have hvl:=hv.len
 refine⟨⟨fun n i u=>∃k:Nat,i=(k:Int)/\k<=l.length/\(0<=n/\n<=400)/\smQ 1 l=smQ n (l.drop k)/\Fr F0 w u,fun _ i _=>l.length-i.toNat,⟨0,rfl,Ji _,⟨od,od⟩,rfl,Fr.refl⟩,?_⟩⟩
 rintro n _ u ⟨k,rfl,hk,⟨hn0,hn⟩,he,f⟩
 refine fi ?_
 rw[he]at hK
 refine q00.2 ⟨fun hlt=>?_,fun hge=>?_⟩
 ·have hkl:k<l.length:=oo
  refine ldL (hv.fr f) k rfl hkl ?_
  obtain⟨h1,h2,h3⟩:=hi _ (J1 hkl)
  have hd:=List.drop_eq_getElem_cons hkl
  rw[hd]at hK he
  generalize l[k]=p at *
  intro w1
  have m:Mem u w1 [(u.heap.size,[Value.int .i64 (0:Int),.int .i64 (0:Int)])]:=Mem.nil.allocL (cs:=[Value.int .i64 (0:Int),.int .i64 (0:Int)])
  clear_value w1
  refine⟨m.wr 0,?_⟩
  intro w2
  have m:=m.set (i:=0) (v:=.int .i64 p.1) 0
  refine⟨m.wr 0,?_⟩
  intro w3
  have m:Mem u w3 [(u.heap.size,encL p)]:=m.set (i:=1) (v:=.int .i64 p.2) 0
  clear_value w3
  rw[qro]at hK he
  refine⟨_,m.ld 0,_,m.ld 0,q01,q00.2 ⟨fun h4=>?_,fun h4=>?_⟩⟩
  ·rw[if_pos h4]at hK
   exact hK w3 (f.t m.1)
  rw[if_neg h4]at hK he
  have hb:0<=n*(p.2-p.1+1)/\n*(p.2-p.1+1)<=400*400:=⟨Int.mul_nonneg hn0 oo,Int.mul_le_mul hn oo oo oo⟩
  refine⟨_,m.ld 0,_,m.ld 0,q01,q01,q01,q00.2 ⟨fun h5=>?_,fun h5=>?_⟩⟩
  ·rw[if_pos h5]at hK
   exact hK w3 (f.t m.1)
  ·rw[if_neg h5]at hK he
   exact⟨q01,⟨⟨rfl,rfl,trivial⟩,k+1,oo,oo,⟨hb.1,oo⟩,he,f.t m.1⟩,uo⟩
 ·have hk':k=l.length:=oo
  subst hk'
  rw[List.drop_length]at hK
  exact hK u f
theorem qrp(R:q0m t)(C:ChkT t):∀p∈q0z t,0<=p.1/\p.1<=p.2/\p.2<=1000000000:=by
 intro p hp
 unfold q0z at hp
 rcases J4.1 hp with rfl|hp
 ·exact⟨R.low.1,C.lh,R.high.2⟩
 ·obtain⟨c,hc,rfl⟩:=List.mem_map.1 hp
  have:=R.critN c hc
  exact⟨this.2.2.1.1,C.cr c hc,this.2.2.2.2⟩
theorem qh3{K:Bool->World->Prop}(c:CT w x t)(hb:RB w rb x lf mp)(hK:∀w',Fr F0 w w'->K (qix t) w'):z29_sh (some ⟨rb,0,none⟩) K w:=by
 have hcl:=c.R.crit
 have hsl:(q0z t).length=t.crit.length+1:=by unfold q0z;rw[J7,J8]
 have hok:=qrp c.R c.C
 refine⟨fi ?_⟩
 refine q78 c.T hb hcl fun w1 s f1 ho hn=>?_
 have h:Sx w w1 [(inB s,fun u=>Ow 2 encL u s (q0z t))]:=(Sx.nil Fr.refl).add f1 (q0b.ow _ _) ho fun b hb=>⟨hn b hb,ho.lt' hb⟩
 have c1:=c.fr f1
 refine q4v c1.T (hb.fr f1) c.R c1.g fun w2 f2=>?_
 have h:=h.fr f2
 unfold qix at hK
 refine q00.2 ⟨fun hl=>?_,fun hl=>?_⟩
 ·rw[if_pos hl]at hK
  have how:Ow 2 encL w2 s (q0z t):=h.get 0 rfl
  refine ldL how.vw 0 rfl oo ?_
  intro w3
  have hx:Vw 2 encL w3 ⟨some ⟨w2.heap.size,0,none⟩,1,1⟩ [(t.low,t.high)]:=Vw.new rfl rfl
  have h:Sx w w3 _:=h.fr Fr.alloc
  clear_value w3
  refine h.app 0 rfl hx qc0 rfl oz oz fun r w4 h f4=>⟨fi ?_⟩
  have hor:Ow 2 encL w4 r (q0z t++[(t.low,t.high)]):=h.get 0 rfl
  refine qiy hor.vw oz (fun p hp=>?_) fun w5 f5=>hK w5 (h.fr0.t f5)
  rcases J9.1 hp with hp|hp
  ·exact hok p hp
  ·rw[J5.1 hp]
   exact⟨c.R.low.1,c.C.lh,c.R.high.2⟩
 ·rw[if_neg hl,List.append_nil]at hK
  have how:Ow 2 encL w2 s (q0z t):=h.get 0 rfl
  refine⟨fi ?_⟩
  exact qiy how.vw oo hok fun w5 f5=>hK w5 (h.fr0.t f5)
theorem qem{s:Sl}{a b c:Int}{K:Sl->World->Prop}(hv:Ow 1 encI w s [a,b,c])(h1:a≠b)(h2:b≠c)(hK:∀w',Fr F0 w w'->K s w'):z3w_sh s K w:=by
 have hvl:s.l=3:=hv.len
 refine⟨fi ?_⟩
 refine q00.2 ⟨fun h=>oo,fun _=>?_⟩
 refine⟨⟨fun i u=>∃k:Nat,i=(k:Int)/\1<=k/\k<=3/\Fr F0 w u,fun i _=>3-i.toNat,⟨1,rfl,oo,oo,Fr.refl⟩,?_⟩⟩
 rintro _ u ⟨k,rfl,hk1,hk3,f⟩
 refine fi ?_
 refine q00.2 ⟨fun hlt=>?_,fun hge=>hK u f⟩
 intro w1
 have f1:Fr F0 w w1:=f.t Fr.drew
 clear_value w1
 have hk:k<3:=oo
 have hlen:[a,b,c].length=3:=rfl
 refine ldI (hv.vw.fr f1) k rfl oo ?_
 refine⟨q01,?_⟩
 refine ldI (hv.vw.fr f1) (k-1) oo oo ?_
 have hne:∀(k:Nat) (h0:1<=k) (h1:k<[a,b,c].length) (h2:k-1<[a,b,c].length),¬[a,b,c][k]=[a,b,c][k-1]:=fun k h0 h3 h4=>match k,h0,h3,h4 with
  | 1,_,_,_=>fun h=>h1 (show a=b from Eq.symm h)
  | 2,_,_,_=>fun h=>h2 (show b=c from Eq.symm h)
  | k+3,_,h,_=>absurd h (by rw[hlen];omega)
 refine q0i.2 ⟨fun h=>absurd h (hne k hk1 oo oo),fun _=>?_⟩
 exact⟨q01,⟨⟨rfl,trivial⟩,k+1,oo,oo,oo,f1⟩,uo⟩
theorem q9f{p:Int×Int}{K:Sl->World->Prop}(h0:0<=p.1)(h1:p.1+2<=p.2)(h2:p.2<=1000000000)(hK:∀w' s,Fr F0 w w'->Vw 1 encI w' s (q36 p)->(∀b,inB s b->w.heap.size<=b/\b<w'.heap.size)->K s w'):z2c_sh p.1 p.2 false K w:=by
 have hm:p.1<Int.tdiv (p.1+p.2) 2/\Int.tdiv (p.1+p.2) 2<p.2:=oz
 refine⟨fi ?_⟩
 intro w1
 have m:Mem w w1 [(w.heap.size,encL p)]:=Mem.nil.allocL
 clear_value w1
 generalize w.heap.size=b0 at m ⊢
 refine q08 ⟨_,m.ld 0,_,m.ld 0,_,m.ld 0,q01,od,q01,_,m.ld 0,?_⟩
 have hs1:w.heap.size<=w1.heap.size:=m.1.1
 intro w2
 have ho:Ow 1 encI w2 ⟨some ⟨w1.heap.size,0,none⟩,3,3⟩ (q36 p):=Row.ow (l:=q36 p) (fun _=>rfl) Row.new
 have hs2:w1.heap.size<w2.heap.size:=by simp[w2]
 have m:Mem w w2 _:=m.fr Fr.alloc
 clear_value w2
 exact qem ho oo oo fun w3 f3=>hK w3 _ (m.1.t f3) (ho.vw.fr f3) fun b ⟨a,ha,hb⟩=>by
  cases ha
  subst hb
  have:=f3.1
  grind
end
end Go.Proofs.YtmfkimnmklnppaaGreatDoor
namespace Dp
open Go Pw
def q59(t:Td)(vs:List Int):List Vl:=(t.crit.map Cr.name).zip vs
theorem qke{t:Td}{vs:List Int}(hl:vs.length=t.crit.length){k:Nat}(hk:k<t.crit.length):(q59 t vs).take (k+1)=(q59 t vs).take k++[(t.crit[k].name,vs[k]'oo)]:=by
 unfold q59
 have h:k<((t.crit.map Cr.name).zip vs).length:=oz
 rw[J3,J0 h,List.getElem_zip,List.getElem_map]
 rfl
theorem qen{t:Td}{vs:List Int}(hl:vs.length=t.crit.length):(q59 t vs).length=t.crit.length:=by unfold q59;rw[List.length_zip,J8];omega
end Dp
namespace Go.Proofs.YtmfkimnmklnppaaGreatDoor
open Go Pw Dp
section
variable{w w' w0:World}{t:Td}{x:T43}{rb:Nat}{lf:Int}{mp:Option Nat}
theorem qay{l:Sl}{p:Int}{vs:List Int}{K:Int->Int->Int->Int->Sl->World->Prop}(T:TP w x t)(R:q0m t)(hb:RB w rb x lf mp)(hv:Vw 1 encI w l (p::vs))(hl:vs.length=t.crit.length)
  (hK:∀w' id s,Fr F0 w w'->I64 id->Vw 2 encV w' s (q59 t vs)->(∀b,inB s b->w.heap.size<=b/\b<w'.heap.size)->K 0 id 0 p s w'):z28_sh (some ⟨rb,0,none⟩) l K w:=by
 have hcl:=R.crit
 have hlots:=R.lots
 have hlv:=hv.len
 rw[J7]at hlv
 refine⟨fi ?_⟩
 intro w1
 have h:Sx w w1 _:=(Sx.nil Fr.refl).row (cs:=[Value.int .i64 (0:Int),.int .i64 (0:Int),.int .i64 (0:Int),.int .i64 (0:Int),.slice none 0 0])
 clear_value w1
 generalize w.heap.size=t4 at h ⊢
 intro w2
 have h:Sx w w2 _:=h.fr Fr.drew
 clear_value w2
 obtain⟨S,hSi,hSe⟩:∃S:World->Prop,(∀u,RB u rb x lf mp/\Vw 2 encL u x.f1 t.lots/\Vw 1 encI u l (p::vs)->S u)/\∀u,S u->RB u rb x lf mp/\Vw 2 encL u x.f1 t.lots/\Vw 1 encI u l (p::vs):=⟨_,fun _ h=>h,fun _ h=>h⟩
 have hS:∀u,Fr F0 w u->S u:=fun u f=>hSi u ⟨hb.fr f,T.lots.fr f,hv.fr f⟩
 simp -zeta only[q1j,q04]
 refine⟨S,hS _ h.fr0,x.f1,fun u hu=>(hSe u hu).1.at rfl,?_⟩
 refine Vw.goS (enc:=encL) (S:=S) (fun _=>rfl) od (hS _ h.fr0) (fun u hu=>(hSe u hu).2.1) 0 rfl oo fun ad hc=>?_
 have hid:I64 t.lots[0].1:=q4t (R.lotN _ (J1 oo)).1 od
 refine⟨_,hc 0 _ rfl,?_⟩
 refine Vw.goS (enc:=encI) (S:=S) (fun _=>rfl) od (hS _ h.fr0) (fun u hu=>(hSe u hu).2.2) 0 rfl oz fun ad2 hc2=>?_
 refine⟨p,hc2 0 _ rfl,?_⟩
 generalize t.lots[0].1=id at hid ⊢
 intro w3
 have h:Sx w w3 _:=h.row (cs:=[Value.int .i64 (0:Int),.int .i64 (0:Int),.int .i64 (0:Int),.int .i64 (0:Int),.slice none 0 0])
 clear_value w3
 generalize w2.heap.size=x5 at h ⊢
 refine⟨hS _ h.fr0,?_⟩
 refine h.st (vs:=[Value.int .i64 (0:Int),.int .i64 id,.int .i64 (0:Int),.int .i64 p,.slice none 0 0]) 0 rfl rfl fun w4 f4 h=>?_
 refine⟨_,(hb.fr h.fr0).at rfl,?_⟩
 have hvl:=T.crit.len
 have h:Sx w w4 [(fun c=>c=x5,fun u=>Row u x5 [Value.int .i64 (0:Int),.int .i64 id,.int .i64 (0:Int),.int .i64 p,.slice none 0 0]),(fun c=>c=t4,fun u=>Row u t4 [Value.int .i64 (0:Int),.int .i64 (0:Int),.int .i64 (0:Int),.int .i64 (0:Int),.slice none 0 0])]:=h
 have h:=h.add (q:=(inB ⟨none,0,0⟩,fun u=>Ow 2 encV u ⟨none,0,0⟩ [])) Fr.refl (q0b.ow _ _) ⟨rfl,OwnV.nil⟩ fun b ⟨a,ha,_⟩=>by cases ha
 refine⟨⟨fun i u=>∃(k:Nat) (s:Sl),i=(k:Int)/\k<=t.crit.length/\Sx w u [(inB s,fun u=>Ow 2 encV u s ((q59 t vs).take k)),(fun c=>c=x5,fun u=>Row u x5 [Value.int .i64 (0:Int),.int .i64 id,.int .i64 (0:Int),.int .i64 p,.slice s.p s.l s.c]),(fun c=>c=t4,fun u=>Row u t4 [Value.int .i64 (0:Int),.int .i64 (0:Int),.int .i64 (0:Int),.int .i64 (0:Int),.slice none 0 0])],fun i _=>t.crit.length-i.toNat,⟨0,⟨none,0,0⟩,rfl,Ji _,h⟩,?_⟩⟩
 rintro _ u ⟨k,s,rfl,hk,h⟩
 refine fi ?_
 refine q00.2 ⟨fun hlt=>?_,fun hge=>?_⟩
 ·have hkl:k<t.crit.length:=oo
  refine ldCr (T.crit.fr h.fr0) k rfl hkl ?_
  have tk:=qke hl hkl
  generalize t.crit[k]=c0 at *
  refine h.box (vs:=encC c0) rfl fun w5 f5 h=>?_
  generalize u.heap.size=cb at h ⊢
  intro w6
  have h:Sx w w6 _:=h.fr Fr.drew
  clear_value w6
  obtain⟨S2,hSi2,hSe2⟩:∃S:World->Prop,(∀u,Row u x5 [Value.int .i64 (0:Int),.int .i64 id,.int .i64 (0:Int),.int .i64 p,.slice s.p s.l s.c]/\Row u cb (encC c0)/\Vw 1 encI u l (p::vs)->S u)/\∀u,S u->Row u x5 [Value.int .i64 (0:Int),.int .i64 id,.int .i64 (0:Int),.int .i64 p,.slice s.p s.l s.c]/\Row u cb (encC c0)/\Vw 1 encI u l (p::vs):=⟨_,fun _ h=>h,fun _ h=>h⟩
  simp -zeta only[q04]
  have hS6:S2 w6:=hSi2 w6 ⟨h.get 2 rfl,h.get 0 rfl,hv.fr h.fr0⟩
  refine⟨S2,hS6,s,fun v hv=>(hSe2 v hv).1.at,_,fun v hv=>(hSe2 v hv).2.1.at,q01,?_⟩
  refine Vw.goS (enc:=encI) (S:=S2) (fun _=>rfl) od hS6 (fun u hu=>(hSe2 u hu).2.2) (k+1) oo oz fun ad hc=>?_
  have e1:(p::vs)[k+1]'oz=vs[k]'oo:=List.getElem_cons_succ ..
  rw[e1]at hc
  refine⟨_,hc 0 _ rfl,?_⟩
  intro w7
  have hx:Vw 2 encV w7 ⟨some ⟨w6.heap.size,0,none⟩,1,1⟩ [(c0.name,vs[k]'oo)]:=Vw.new rfl rfl
  have h:Sx w w7 _:=h.fr Fr.alloc
  clear_value w7
  refine⟨hSi2 w7 ⟨h.get 2 rfl,h.get 0 rfl,hv.fr h.fr0⟩,?_⟩
  have hlk:((q59 t vs).take k).length<=k:=List.length_take_le ..
  refine h.app 1 rfl hx qg1 rfl oz oz fun r w8 h f8=>?_
  refine⟨hSi2 w8 ⟨h.get 2 rfl,h.get 0 rfl,hv.fr h.fr0⟩,h.wr 2 rfl rfl,?_⟩
  intro w9
  have h:Sx w w9 _:=h.set (i:=4) (v:=.slice r.p r.l r.c) 2 rfl
  clear_value w9
  refine⟨q01,⟨⟨trivial,trivial,trivial,trivial,trivial,trivial⟩,k+1,r,oo,oo,?_⟩,oo⟩
  rw[tk]
  exact h.tail
 ·have hk':k=t.crit.length:=oo
  subst hk'
  have e:(q59 t vs).take t.crit.length=q59 t vs:=List.take_of_length_le (by rw[qen hl];exact Jj _)
  rw[e]at h
  simp -zeta only[q04]
  refine⟨_,h.ld 1 rfl rfl,_,h.ld 1 rfl rfl,_,h.ld 1 rfl rfl,_,h.ld 1 rfl rfl,s,h.ld 1 rfl rfl,?_⟩
  refine h.st (vs:=[Value.int .i64 (0:Int),.int .i64 id,.int .i64 (0:Int),.int .i64 p,.slice s.p s.l s.c]) 2 rfl rfl fun w10 f10 h=>?_
  exact⟨_,h.ld 2 rfl rfl,_,h.ld 2 rfl rfl,_,h.ld 2 rfl rfl,_,h.ld 2 rfl rfl,s,h.ld 2 rfl rfl,hK w10 id s h.fr0 hid (h.get 0 rfl:Ow 2 encV w10 s (q59 t vs)).vw fun b hb=>h.nw 0 _ rfl b hb⟩
theorem qaz{p:Int}{K:Int->Int->Int->Int->Sl->World->Prop}(T:TP w x t)(R:q0m t)(hb:RB w rb x lf mp)
  (hK:∀w' a b c d s,Fr F0 w w'->K a b c d s w'):z27_sh (some ⟨rb,0,none⟩) p K w:=by
 have hcl:=R.crit
 refine⟨fi ?_⟩
 intro w1
 have h:Sx w w1 _:=(Sx.nil Fr.refl).row (cs:=[Value.int .i64 (0:Int),.int .i64 (0:Int),.int .i64 (0:Int),.int .i64 (0:Int),.slice none 0 0])
 clear_value w1
 generalize w.heap.size=t4 at h ⊢
 intro w2
 have h:=h.add (q:=(inB ⟨some ⟨w1.heap.size,0,none⟩,1,1⟩,fun u=>Ow 1 encI u ⟨some ⟨w1.heap.size,0,none⟩,1,1⟩ [p])) (w':=w2) Fr.alloc (q0b.ow _ _) (Ow.new rfl rfl) fun b ⟨a,ha,hb⟩=>by
  cases ha
  subst hb
  exact⟨Jj _,by simp[w2]⟩
 clear_value w2
 generalize(⟨some ⟨w1.heap.size,0,none⟩,1,1⟩:Sl)=s0 at h ⊢
 simp -zeta only[q1j,q04]
 refine⟨_,(hb.fr h.fr0).at rfl,?_⟩
 have hvl:=T.crit.len
 refine⟨⟨fun s i u=>∃k:Nat,i=(k:Int)/\k<=t.crit.length/\Sx w u [(inB s,fun u=>Ow 1 encI u s (p::(t.crit.take k).map Cr.low)),(fun c=>c=t4,fun u=>Row u t4 [Value.int .i64 (0:Int),.int .i64 (0:Int),.int .i64 (0:Int),.int .i64 (0:Int),.slice none 0 0])],fun _ i _=>t.crit.length-i.toNat,⟨0,rfl,Ji _,h⟩,?_⟩⟩
 rintro s _ u ⟨k,rfl,hk,h⟩
 refine fi ?_
 refine q00.2 ⟨fun hlt=>?_,fun hge=>?_⟩
 ·have hkl:k<t.crit.length:=oo
  refine ldCr (T.crit.fr h.fr0) k rfl hkl ?_
  have tk:(t.crit.take (k+1)).map Cr.low=(t.crit.take k).map Cr.low++[t.crit[k].low]:=by
   rw[J3,J0 hkl,Jf]
   rfl
  generalize t.crit[k]=c0 at *
  refine h.box (vs:=encC c0) rfl fun w3 f3 h=>?_
  refine⟨_,h.ld 0 rfl rfl,?_⟩
  intro w4
  have hx:Vw 1 encI w4 ⟨some ⟨w3.heap.size,0,none⟩,1,1⟩ [c0.low]:=Vw.new rfl rfl
  have h:Sx w w4 _:=h.fr Fr.alloc
  clear_value w4
  have hlk:(p::(t.crit.take k).map Cr.low).length=k+1:=oz
  refine h.app 1 rfl hx q47 rfl oz oz fun r w5 h f5=>?_
  refine⟨q01,⟨⟨rfl,rfl,rfl,rfl,trivial⟩,k+1,oo,oo,?_⟩,uo⟩
  rw[tk]
  exact h.tail
 ·have hk':k=t.crit.length:=oo
  subst hk'
  rw[J2]at h
  have how:Ow 1 encI u s (p::t.crit.map Cr.low):=h.get 0 rfl
  refine qay (T.fr h.fr0) R (hb.fr h.fr0) how.vw oz fun w6 id r f6 hid hr _=>?_
  have h:=h.fr f6
  refine h.st (vs:=[Value.int .i64 (0:Int),.int .i64 id,.int .i64 (0:Int),.int .i64 p,.slice r.p r.l r.c]) 1 rfl rfl fun w7 f7 h=>?_
  simp -zeta only[q04]
  exact⟨_,h.ld 1 rfl rfl,_,h.ld 1 rfl rfl,_,h.ld 1 rfl rfl,_,h.ld 1 rfl rfl,r,h.ld 1 rfl rfl,hK w7 _ _ _ _ _ h.fr0⟩
end
end Go.Proofs.YtmfkimnmklnppaaGreatDoor
namespace Pw
open Go
section
variable{P:Program}{w:World}{kt et:TypeId}{a b c d:Int}
theorem eq_int(he:P.underlying et=some (.int .i64))(n:Nat):(Op.equalIn (n+1) et (.int .i64 a) (.int .i64 c)).run P w=.ok (a==c) w:=by
 simp[Op.equalIn,run_underlying he]
theorem eq_arr{ti:TypeInfo}(hk:P.underlying kt=some (.array 2 et))(he:P.underlying et=some (.int .i64))(hi:P.info? et=some ti)(hz:P.cellsOf et=1)(hp:P.plainKey et=true) :
  (Op.equal kt (.agg #[.int .i64 a,.int .i64 b]) (.agg #[.int .i64 c,.int .i64 d])).run P w=.ok (a==c&&b==d) w:=by
 unfold Op.equal Op.maxDepth
 rw[show(10000:Nat)=9999+1 from rfl,Op.equalIn]
 simp only[Sem.run_bind,run_underlying hk,Result.andThen_ok,run_sizeOf w hi,hz]
 simp only[Std.Legacy.Range.forIn_eq_forIn_range',Std.Legacy.Range.size,Jn,Jk,Jo,Jc,Jd,Jg,Jh]
 have p0:∀x y:Int,(part et #[.int .i64 x,.int .i64 y] 0).run P w=.ok (.int .i64 x) w:=fun x y=>run_part_plain w hp rfl
 have p1:∀x y:Int,(part et #[.int .i64 x,.int .i64 y] 1).run P w=.ok (.int .i64 y) w:=fun x y=>run_part_plain w hp rfl
 have q:∀x y:Int,(Op.equalIn 9999 et (.int .i64 x) (.int .i64 y)).run P w=.ok (x==y) w:=fun x y=>eq_int he 9998
 by_cases h1:a=c<;>by_cases h2:b=d<;>simp[h1,h2,p0,p1,q]
theorem qeo(hk:P.underlying kt=some (.array 2 et))(he:P.underlying et=some (.int .i64)){ti:TypeInfo}(hi:P.info? et=some ti)(hz:P.cellsOf et=1)(hp:P.plainKey et=true)(em:Bool) :
  (Instr.checkKey em 10000 kt (.agg #[.int .i64 a,.int .i64 b])).run P w=.ok () w:=by
 rw[show(10000:Nat)=9999+1 from rfl,Instr.checkKey]
 simp only[Sem.run_bind,run_underlying hk,Result.andThen_ok,run_sizeOf w hi,hz]
 simp only[Std.Legacy.Range.forIn_eq_forIn_range',Std.Legacy.Range.size,Jn,Jk,Jo,Jc,Jd,Jg,Jh]
 have p0:∀x y:Int,(part et #[.int .i64 x,.int .i64 y] 0).run P w=.ok (.int .i64 x) w:=fun x y=>run_part_plain w hp rfl
 have p1:∀x y:Int,(part et #[.int .i64 x,.int .i64 y] 1).run P w=.ok (.int .i64 y) w:=fun x y=>run_part_plain w hp rfl
 have q:∀x:Int,(Instr.checkKey em 9999 et (.int .i64 x)).run P w=.ok () w:=fun x=>by
  rw[show(9999:Nat)=9998+1 from rfl,Instr.checkKey]
  simp[run_underlying he]
 simp[run_sizeOf w hi,hz,p0,p1,q]
def KM(w:World)(r:Nat):Prop:=∃es cl,w.heap[r]?=some (.map es cl)/\∀e∈es.toList,(∃a b:Int,e.key=.agg #[.int .i64 a,.int .i64 b])/\∃(n d:Int) (ok:Bool),e.val=.agg #[.int .i64 n,.int .i64 d,.bool ok]/\(-9223372036854775808<=n/\n<9223372036854775808)/\-9223372036854775808<=d/\d<9223372036854775808
theorem KM.lt{r:Nat}(h:KM w r):r<w.heap.size:=by
 obtain⟨es,c,h1,h2⟩:=h
 grind
theorem KM.congr{w':World}{r:Nat}(h:KM w r)(e:w'.heap[r]?=w.heap[r]?):KM w' r:=by
 obtain⟨es,c,h1,h2⟩:=h
 exact⟨es,c,e.trans h1,h2⟩
theorem KM.made(w:World):KM (w.alloc (.map #[] 0)) w.heap.size:=⟨#[],0,(Go.MapKept.heap_alloc w _).1,fun e he=>by cases he⟩
theorem qiz{ti:TypeInfo}(hk:P.underlying kt=some (.array 2 et))(he:P.underlying et=some (.int .i64))(hi:P.info? et=some ti)(hz:P.cellsOf et=1)(hp:P.plainKey et=true) :
  ∀(l:List MapEntry) (i:Nat),(∀e∈l,∃a b:Int,e.key=.agg #[.int .i64 a,.int .i64 b]) ->
   (Instr.findAsking kt (.agg #[.int .i64 a,.int .i64 b]) l i).run P w=.ok none w\/∃j e,(Instr.findAsking kt (.agg #[.int .i64 a,.int .i64 b]) l i).run P w=.ok (some (i+j,e.val)) w/\l[j]?=some e/\e.key=.agg #[.int .i64 a,.int .i64 b]
 | [],i,_=>.inl (by simp[Instr.findAsking])
 | e::l,i,h=>by
  obtain⟨c,d,hkey⟩:=h e (J6 ..)
  have hq:=eq_arr (P:=P) (w:=w) (a:=a) (b:=b) (c:=c) (d:=d) hk he hi hz hp
  rw[←hkey]at hq
  by_cases hcd:a=c/\b=d
  ·obtain⟨rfl,rfl⟩:=hcd
   refine .inr ⟨0,e,?_,rfl,hkey⟩
   simp[Instr.findAsking,hq]
  ·have hf:(a==c&&b==d)=false:=oz
   rw[hf]at hq
   rcases qiz hk he hi hz hp l (i+1) (fun e he=>h e (List.mem_cons_of_mem _ he))with h1|⟨j,e',h1,h2,h3⟩
   ·exact .inl (by simp[Instr.findAsking,hq,h1])
   ·exact .inr ⟨j+1,e',by simp[Instr.findAsking,hq,h1,Nat.add_assoc,Nat.add_comm 1 j],by simpa using h2,h3⟩
theorem qh4(hk:P.underlying kt=some (.array 2 et))(l:List MapEntry)(hl:l≠[])(h:∀e∈l,∃a b:Int,e.key=.agg #[.int .i64 a,.int .i64 b]):Instr.findNow (.array 2 et) (.agg #[.int .i64 a,.int .i64 b]) l 0=none:=by
 cases l with
 | nil=>grind
 | cons e l =>
  obtain⟨c,d,hkey⟩:=h e (J6 ..)
  simp[Instr.findNow,Instr.sameNow,hkey]
theorem q9g{ti:TypeInfo}(hk:P.underlying kt=some (.array 2 et))(he:P.underlying et=some (.int .i64))(hi:P.info? et=some ti)(hz:P.cellsOf et=1)(hp:P.plainKey et=true)(l:List MapEntry)(h:∀e∈l,∃a b:Int,e.key=.agg #[.int .i64 a,.int .i64 b]) :
  (Instr.findKey kt (.agg #[.int .i64 a,.int .i64 b]) l).run P w=.ok none w\/∃j e,(Instr.findKey kt (.agg #[.int .i64 a,.int .i64 b]) l).run P w=.ok (some (j,e.val)) w/\l[j]?=some e/\e.key=.agg #[.int .i64 a,.int .i64 b]:=by
 cases l with
 | nil=>exact .inl (by simp[Instr.findKey,run_underlying hk,Instr.findNow])
 | cons e l =>
  have hn:=qh4 (a:=a) (b:=b) hk (e::l) og h
  rcases qiz (P:=P) (w:=w) (a:=a) (b:=b) hk he hi hz hp (e::l) 0 h with h1|⟨j,e',h1,h2,h3⟩
  ·exact .inl (by simp[Instr.findKey,run_underlying hk,hn,h1])
  ·exact .inr ⟨j,e',by simp[Instr.findKey,run_underlying hk,hn,h1],h2,h3⟩
end
open Go Go.MapKept
section
variable{P:Program}{w:World}{mt kt et vt:TypeId}{a b:Int}{r:Nat}
theorem qkf{ti tz:TypeInfo}(hm:P.underlying mt=some (.map kt vt))(hk:P.underlying kt=some (.array 2 et))(he:P.underlying et=some (.int .i64))(hi:P.info? et=some ti)(hz:P.cellsOf et=1)(hp:P.plainKey et=true)
  (hv:P.info? vt=some tz) (hz2:tz.zero=some (.agg #[.int .i64 0,.int .i64 0,.bool false])) (h:KM w r) :
  ∃(n d:Int) (ok has:Bool),(-9223372036854775808<=n/\n<9223372036854775808)/\(-9223372036854775808<=d/\d<9223372036854775808) /\
   (Instr.lookup mt (.map (some r)) (.agg #[.int .i64 a,.int .i64 b]) true).run P w=.ok (.tuple #[.agg #[.int .i64 n,.int .i64 d,.bool ok],.bool has]) w:=by
 obtain⟨es,c,h1,h2⟩:=h
 have hc:=qeo (P:=P) (w:=w) (a:=a) (b:=b) hk he hi hz hp es.isEmpty
 rcases q9g (P:=P) (w:=w) (a:=a) (b:=b) hk he hi hz hp es.toList (fun e he=>(h2 e he).1)with hf|⟨j,e,hf,hj,hkey⟩
 ·refine⟨0,0,false,false,oo,oo,?_⟩
  simp[Instr.lookup,run_underlying hm,run_getObj_map h1,hc,hf,zeroValue,typeInfo,hv,hz2]
 ·obtain⟨n,d,ok,hval,hn,hd⟩:=(h2 e (Ja hj)).2
  refine⟨n,d,ok,true,hn,hd,?_⟩
  simp[Instr.lookup,run_underlying hm,run_getObj_map h1,hc,hf,hval]
theorem qkg{ti:TypeInfo}{n d:Int}{ok:Bool}(hm:P.underlying mt=some (.map kt vt))(hk:P.underlying kt=some (.array 2 et))(he:P.underlying et=some (.int .i64))(hi:P.info? et=some ti)(hz:P.cellsOf et=1)(hp:P.plainKey et=true)
  (hn:-9223372036854775808<=n/\n<9223372036854775808) (hd:-9223372036854775808<=d/\d<9223372036854775808) (h:KM w r) :
  ∃w',(Instr.mapUpdate mt (.map (some r)) (.agg #[.int .i64 a,.int .i64 b]) (.agg #[.int .i64 n,.int .i64 d,.bool ok])).run P w=.ok () w'/\KM w' r/\Fr (fun c=>c=r) w w':=by
 have hlt:=h.lt
 obtain⟨es,c,h1,h2⟩:=h
 have hc:=qeo (P:=P) (w:=w) (a:=a) (b:=b) hk he hi hz hp false
 have key:∀es' c',(∀e∈es'.toList,(∃a b:Int,e.key=.agg #[.int .i64 a,.int .i64 b])/\∃(n d:Int) (ok:Bool),e.val=.agg #[.int .i64 n,.int .i64 d,.bool ok]/\(-9223372036854775808<=n/\n<9223372036854775808)/\-9223372036854775808<=d/\d<9223372036854775808) ->
   KM { w with heap:=w.heap.setIfInBounds r (.map es' c') } r/\Fr (fun c=>c=r) w { w with heap:=w.heap.setIfInBounds r (.map es' c') }:=fun es' c' hes =>
  ⟨⟨es',c',by simp[Jt,hlt],hes⟩,og,fun b _ hb=>by
   have hb:¬b=r:=hb
   simp[Jt,Ne.symm hb],rfl,rfl,rfl⟩
 rcases q9g (P:=P) (w:=w) (a:=a) (b:=b) hk he hi hz hp es.toList (fun e he=>(h2 e he).1)with hf|⟨j,e,hf,hj,hkey⟩
 ·refine⟨_,by simp[Instr.mapUpdate,run_underlying hm,run_getObj_map h1,hc,hf,run_setObj_map _ h1];rfl,key _ _ fun e he=>?_⟩
  simp only[Array.toList_push,J9,J5]at he
  rcases he with he|rfl
  ·exact h2 e he
  ·grind
 ·rw[Js]at hj
  have hs:Instr.keyThatStays (.agg #[.int .i64 a,.int .i64 b]) (.agg #[.int .i64 a,.int .i64 b])=(pure (.agg #[.int .i64 a,.int .i64 b]):Sem Value):=by
   unfold Instr.keyThatStays
   have:Instr.sameBits 10000 (.agg #[.int .i64 a,.int .i64 b]) (.agg #[.int .i64 a,.int .i64 b])=true:=by
    rw[show(10000:Nat)=9998+1+1 from rfl]
    simp[Instr.sameBits]
   simp[this]
  refine⟨_,by simp[Instr.mapUpdate,run_underlying hm,run_getObj_map h1,hc,hf,hj,hkey,hs,run_setObj_map _ h1];rfl,key _ _ fun e he=>?_⟩
  obtain⟨i,hi'⟩:=List.getElem?_of_mem he
  rw[Js,Array.getElem?_modify]at hi'
  cases hes:es[i]? with
  | none=>grind
  | some e0 =>
   have h0:=h2 e0 (Ja (by rw[Js];exact hes))
   grind
end
end Pw
namespace Go.Proofs.YtmfkimnmklnppaaGreatDoor
open Go Pw Dp
section
variable{w w' w0:World}{t:Td}{x:T43}{rb:Nat}{lf:Int}{mb:Nat}{L:List Pt}
abbrev Mpt(mb:Nat):Pt:=(fun c=>c=mb,fun u=>KM u mb)
theorem q0b.km(mb:Nat):q0b (Mpt mb).1 (Mpt mb).2:=fun _ _ he h=>h.congr (he mb rfl)
theorem qo5{a b:Int}(h:KM w mb):∃(n d:Int) (ok has:Bool),I64 n/\I64 d /\
   (Instr.lookup 122 (.map (some mb)) (.agg #[.int .i64 a,.int .i64 b]) true).run Tryz.prog w=.ok (.tuple #[.agg #[.int .i64 n,.int .i64 d,.bool ok],.bool has]) w:=
 qkf (kt:=390) (vt:=378) (et:=3) (ti:=(Tryz.prog.info? 3).getD default) (tz:=(Tryz.prog.info? 378).getD default) (by kernel_rfl) (by kernel_rfl) (by kernel_rfl) (by kernel_rfl) (by kernel_rfl) (by kernel_rfl) (by kernel_rfl) (by kernel_rfl) h
theorem qut{a b n d:Int}{ok:Bool}(hn:I64 n)(hd:I64 d)(h:KM w mb) :
  ∃w',(Instr.mapUpdate 122 (.map (some mb)) (.agg #[.int .i64 a,.int .i64 b]) (.agg #[.int .i64 n,.int .i64 d,.bool ok])).run Tryz.prog w=.ok () w'/\KM w' mb/\Fr (fun c=>c=mb) w w':=
 qkg (kt:=390) (vt:=378) (et:=3) (ti:=(Tryz.prog.info? 3).getD default) (by kernel_rfl) (by kernel_rfl) (by kernel_rfl) (by kernel_rfl) (by kernel_rfl) (by kernel_rfl) hn hd h
end
end Go.Proofs.YtmfkimnmklnppaaGreatDoor
namespace Pw
open Go
def encK(r:Dp.Rk):List Value:=[.int .i64 r.b,.int .i64 r.n,.int .i64 r.d,.int .i64 r.place,.int .i64 r.out]
@[simp] theorem quu(r:Dp.Rk):(encK r).length=5:=rfl
theorem qh5(r:Dp.Rk):∀v∈encK r,okC v=true:=by
 intro v hv
 simp only[encK,J4,List.not_mem_nil,or_false]at hv
 rcases hv with rfl|rfl|rfl|rfl|rfl<;>rfl
end Pw
namespace Dp
open Go Pw
theorem q49:∀(k:Nat) (l:List Dp.Sc),(q2a k l).length=l.length
 | _,[]=>rfl
 | k,_::l=>by simp[q2a,q49 (k+1) l]
theorem q9h:∀(k:Nat) (l:List Dp.Sc) (x:Dp.Sc),q2a k (l++[x])=q2a k l++[⟨x.1.b,x.2.1,x.2.2,((k+l.length:Nat):Int)+1,0⟩]
 | k,[],x=>by simp[q2a]
 | k,y::l,x=>by
  show _::q2a (k+1) (l++[x])=_::(q2a (k+1) l++_)
  rw[q9h (k+1) l x]
  grind
end Dp
namespace Go.Proofs.YtmfkimnmklnppaaGreatDoor
open Go Pw Dp
section
variable{w w' w0 u:World}{s:Sl}{x:T43}{t:Td}
theorem quv{vals:List Vl}{e:Fm}{c:XC}(hi:∀v∈vals,I64 v.2)(hx:XP w e c):I64 (e.evE vals).1.1/\I64 (e.evE vals).1.2:=by
 have hz:I64 0:=⟨od,od⟩
 unfold Fm.evE
 split
 ·split
  ·rename_i y hy
   exact ev_I hi e hx hy
  ·grind
 ·grind
theorem ptsA_I{lot low:Int}{e:En}(T:TP w x t)(E:EnOk w e)(hlow:I64 low):I64 (ptsA (q0e t lot) low e).1.1/\I64 (ptsA (q0e t lot) low e).1.2:=by
 have hz:I64 0:=⟨od,od⟩
 unfold ptsA
 split
 ·refine quv (fun v hv=>?_) T.fm
  simp only[J4]at hv
  rcases hv with rfl|rfl|h
  ·exact E.p
  ·exact hlow
  ·exact E.i v h
 ·grind
structure RkI(w4:World)(g:Sl)(gl:List Dp.Sc)(o:Sl)(ol:List Rk)(u:World):Prop where
 f:Fr F0 w4 u
 hg:Ow 7 encS u g gl
 ho:Ow 5 encK u o ol
 gn:∀b,inB g b->w4.heap.size<=b
 on:∀b,inB o b->w4.heap.size<=b
 dj:∀b,inB g b->¬inB o b
theorem RkI.fr{w4:World}{g o:Sl}{gl:List Dp.Sc}{ol:List Rk}(h:RkI w4 g gl o ol u)(f:Fr F0 u w'):RkI w4 g gl o ol w':=⟨h.f.t f,h.hg.fr f,h.ho.fr f,h.gn,h.on,h.dj⟩
theorem RkI.frB{w4:World}{g o:Sl}{gl:List Dp.Sc}{ol:List Rk}{F:Nat->Prop}(h:RkI w4 g gl o ol u)(f:Fr F u w')(h1:∀b,F b->w4.heap.size<=b)(h2:∀b,inB g b->¬F b)(h3:∀b,inB o b->¬F b):RkI w4 g gl o ol w':=
 ⟨h.f.trans f fun b hb hlt=>by have:=h1 b hb;omega,h.hg.frF f h2,h.ho.frF f h3,h.gn,h.on,h.dj⟩
theorem RkI.pushG{w4:World}{g o:Sl}{gl:List Dp.Sc}{ol:List Rk}{y:Dp.Sc}{K:SW}{cs:Array Value}(h:RkI w4 g gl o ol u)(hc:cs=(encS y).toArray)(hl:gl.length<2^20)(hK:∀r u',RkI w4 r (gl++[y]) o ol u'->K r u') :
  apS 7 72 [(Value.int .i64 (0:Int)),(Value.int .i64 (0:Int)),(Value.int .i64 (0:Int)),(Value.int .i64 (0:Int)),(Value.slice none 0 0),(Value.int .i64 (0:Int)),(Value.int .i64 (0:Int))] 91 g ⟨some ⟨u.heap.size,0,none⟩,1,1⟩ (u.alloc (Obj.cells cs 91)) K:=by
 have h':=h.fr (Fr.alloc (o:=Obj.cells cs 91))
 refine h'.hg.app (m:=[y]) (Vw.new rfl hc) quc rfl oy oy fun r u' ho hf hs=>hK r u' ⟨h'.f.trans hf fun b hb hlt=>by have:=h.gn b hb;omega,ho,h'.ho.frF hf fun b hb hg=>h.dj b hg hb,fun b hb=>?_,h.on,fun b hb hbo=>?_⟩
 ·have h1:=h'.f.1
  rcases hs b hb with h2|h2
  ·exact h.gn b h2
  ·omega
 ·have:=h'.ho.lt' hbo
  rcases hs b hb with h2|h2
  ·exact h.dj b h2 hbo
  ·omega
theorem RkI.pushO{w4:World}{g o:Sl}{gl:List Dp.Sc}{ol:List Rk}{y:Rk}{K:SW}{cs:Array Value}(h:RkI w4 g gl o ol u)(hc:cs=(encK y).toArray)(hl:ol.length<2^20)(hK:∀r u',RkI w4 g gl r (ol++[y]) u'->K r u') :
  apS 5 40 [(Value.int .i64 (0:Int)),(Value.int .i64 (0:Int)),(Value.int .i64 (0:Int)),(Value.int .i64 (0:Int)),(Value.int .i64 (0:Int))] 55 o ⟨some ⟨u.heap.size,0,none⟩,1,1⟩ (u.alloc (Obj.cells cs 55)) K:=by
 have h':=h.fr (Fr.alloc (o:=Obj.cells cs 55))
 refine h'.ho.app (m:=[y]) (Vw.new rfl hc) qh5 rfl oy oy fun r u' ho hf hs=>hK r u' ⟨h'.f.trans hf fun b hb hlt=>by have:=h.on b hb;omega,h'.hg.frF hf fun b hb hg=>h.dj b hb hg,ho,h.gn,fun b hb=>?_,fun b hbg hb=>?_⟩
 ·have h1:=h'.f.1
  rcases hs b hb with h2|h2
  ·exact h.on b h2
  ·omega
 ·have:=h'.hg.lt' hbg
  rcases hs b hb with h2|h2
  ·exact h.dj b hbg h2
  ·omega
structure RkW(x:T43)(t:Td)(bt:Nat)(own:Sl)(l:List En)(lot:Int)(w:World):Prop where
 T:TP w x t
 rt:Row w bt x.cs
 v:Vw 5 encE w own l
 e:∀y∈l,EnOk w y
theorem RkW.fr{bt:Nat}{own:Sl}{l:List En}{lot:Int}(h:RkW x t bt own l lot w)(f:Fr F0 w w'):RkW x t bt own l lot w':=⟨h.T.fr f,f.row h.rt fun h=>h,h.v.fr f,fun y hy=>(h.e y hy).fr f⟩
structure RkH(t:Td)(l:List En)(lot:Int):Prop where
 F:Fit t
 len:l.length<=12
 hlot:∃m,t.lots.find? (fun m=>decide (m.1=lot))=some m
 hl:∀e∈l,e.l=lot
variable{bt:Nat}{own:Sl}{l:List En}{lot:Int}{K:Sl->Int->World->Prop}
theorem qep{w5:World}{g o:Sl}{gs:List Dp.Sc}{ol:List Rk}(hg:Vw 7 encS w5 g gs)(ho:Vw 5 encK w5 o ol)(h1:gs.length<=12)(h2:ol.length<=12)(f0:Fr F0 w0 w5)
  (hK:∀r w',Fr F0 w0 w'->Vw 5 encK w' r (q2a 0 gs++ol)->K r 0 w'):z6j_l4 o ⟨none,0,0⟩ g (g.l:Int) 0 K w5:=by
 have el:=hg.len
 refine⟨⟨fun r i u=>∃i':Nat,i=i'/\i'<=gs.length/\Mk w5 5 encK u r (q2a 0 (gs.take i')),fun _ i _=>gs.length-i.toNat,⟨0,rfl,oo,Mk.nil Fr.refl⟩,?_⟩⟩
 rintro r i u ⟨i,rfl,hi,hm⟩
 have hpl:(q2a 0 (gs.take i)).length=i:=by rw[q49,Je];omega
 refine fi ?_
 refine q00.2 ⟨fun hlt=>?_,fun hge=>?_⟩
 ·have hil:i<gs.length:=oo
  have tk:gs.take (i+1)=gs.take i++[gs[i]]:=ud
  have tl:(gs.take i).length=i:=oz
  refine Vw.go q24 od (hg.fr hm.fr0) i rfl hil fun a hc=>⟨_,hc 0 _ rfl,_,hc 1 _ rfl,_,hc 2 _ rfl,_,hc 3 _ rfl,_,hc 4 _ rfl,_,hc 5 _ rfl,_,hc 6 _ rfl,?_⟩
  intro w76
  refine q1u rfl Mem.nil fun w77 m=>?_
  clear w76
  have m:Mem u w77 [(u.heap.size,encS gs[i])]:=m
  refine⟨_,m.ld (i:=0) 0 rfl rfl,_,m.ld (i:=5) 0 rfl rfl,_,m.ld (i:=6) 0 rfl rfl,q01,?_⟩
  have hm:=hm.fr m.1
  intro w81
  refine hm.push (a:=⟨gs[i].1.b,gs[i].2.1,gs[i].2.2,(i:Int)+1,0⟩) rfl rfl qh5 rfl oo oo fun s82 w83 hm' hf=>⟨q01,⟨⟨rfl,rfl,rfl,trivial⟩,i+1,oo,oo,?_⟩,uo⟩
  rw[tk,q9h,tl,Jl]
  exact hm'
 ·have hil:i=gs.length:=oo
  subst hil
  rw[J2]at hm hpl
  refine hm.app (ho.fr hm.fr0) qh5 rfl oo oo fun s84 w85 hm' hf=>hK s84 w85 (f0.t hm'.fr0) hm'.vw
theorem splQ_len(v:Rv)(low:Int):∀(es:List En) (s:List Dp.Sc×List Rk),(es.foldl (splS v low) s).1.length+(es.foldl (splS v low) s).2.length=s.1.length+s.2.length+es.length
 | [],s=>og
 | e::es,s=>by
  rw[List.foldl_cons,splQ_len v low es]
  unfold splS
  grind
theorem qeq{w4:World}{low:Int}(H:RkH t l lot)(W:RkW x t bt own l lot w4)(hlow:I64 low)(f0:Fr F0 w0 w4)
  (hK:∀r w',Fr F0 w0 w'->Vw 5 encK w' r (q2a 0 (q39 (cmpS (q0e t lot)) (splQ (q0e t lot) low l).1 (splQ (q0e t lot) low l).1.length)++(splQ (q0e t lot) low l).2)->K r 0 w') :
  z6j_l2 ⟨bt,0,none⟩ low ⟨none,0,0⟩ ⟨none,0,0⟩ own (own.l:Int) 0 K w4:=by
 have el:=W.v.len
 have hl:=H.len
 refine⟨⟨fun g o i u=>∃i':Nat,i=i'/\i'<=l.length/\RkI w4 g ((l.take i').foldl (splS (q0e t lot) low) ([],[])).1 o ((l.take i').foldl (splS (q0e t lot) low) ([],[])).2 u/\∀y∈((l.take i').foldl (splS (q0e t lot) low) ([],[])).1,ScOk w4 y,fun _ _ i _=>l.length-i.toNat,
  ⟨0,rfl,oo,⟨Fr.refl,⟨rfl,by simpa using OwnV.nil⟩,⟨rfl,by simpa using OwnV.nil⟩,(fun b ⟨a,ha,_⟩=>by cases ha),(fun b ⟨a,ha,_⟩=>by cases ha),(fun b ⟨a,ha,_⟩=>by cases ha)⟩,fun y hy=>by cases hy⟩,?_⟩⟩
 rintro g o i u ⟨i,rfl,hi,I,hS⟩
 refine fi ?_
 have hlen:=splQ_len (q0e t lot) low (l.take i) ([],[])
 simp only[List.length_nil,Je,Jl]at hlen
 refine q00.2 ⟨fun hlt=>?_,fun hge=>?_⟩
 ·have hil:i<l.length:=oo
  have tk:l.take (i+1)=l.take i++[l[i]]:=by rw[J3,J0 hil];rfl
  have hmem:=J1 hil
  generalize hst:(l.take i).foldl (splS (q0e t lot) low) ([],[])=st at *
  have hnx:(l.take (i+1)).foldl (splS (q0e t lot) low) ([],[])=splS (q0e t lot) low st l[i]:=by rw[tk,List.foldl_append,hst];rfl
  refine ldE ((W.fr I.f).v) i rfl hil ?_
  intro w30
  refine q1u rfl Mem.nil fun w31 m=>?_
  clear w30
  have m:Mem u w31 [(u.heap.size,encE l[i])]:=m
  have hw4u:=I.f.1
  have I:=I.fr m.1
  have W1:=W.fr I.f
  refine T43.ld_row W1.rt ⟨_,m.ld (i:=0) 0 rfl rfl,_,m.ld (i:=1) 0 rfl rfl,_,m.ld (i:=2) 0 rfl rfl,_,m.ld (i:=3) 0 rfl rfl,_,m.ld (i:=4) 0 rfl rfl,?_⟩
  have hadm:∀ {J:Int->World->Prop},(∀w',Fr F0 w31 w'->J (admQ (q0e t lot) l[i]) w')->z6b_sh x l[i].b l[i].l l[i].r l[i].p l[i].v J w31:=fun {J} hJ=>by
   have el:=H.hl _ hmem
   refine qal (e:=l[i]) W1.T (W1.e _ hmem) H.F (by rw[el];exact H.hlot) ?_
   grind
  refine hadm fun w38 f38=>?_
  have hg38:∀b,inB g b->b<w38.heap.size:=fun b hb=>(I.fr f38).hg.lt' hb
  have ho38:∀b,inB o b->b<w38.heap.size:=fun b hb=>(I.fr f38).ho.lt' hb
  intro w39
  have m:Mem u w39 ((w38.heap.size,[.int .i64 0,.int .i64 0])::_):=(m.fr f38).allocL (cs:=[.int .i64 0,.int .i64 0])
  have I:RkI w4 g st.1 o st.2 w39:=(I.fr f38).fr Fr.alloc
  have hw38:u.heap.size<=w38.heap.size:=m.2.2.2 _ (J6 ..)
  clear_value w39
  have k3:∀ {v:World} {bad:Int} {n d:Int},Mem u v [(w38.heap.size,[.int .i64 n,.int .i64 d]),(u.heap.size,encE l[i])]->RkI w4 g st.1 o st.2 v->bad=(ptsA (q0e t lot) low l[i]).2->(bad=0->(n,d)=(ptsA (q0e t lot) low l[i]).1) ->
    z6j_k3 ⟨bt,0,none⟩ low g o ⟨u.heap.size,0,none⟩ bad ⟨w38.heap.size,0,none⟩ own (own.l:Int) (i:Int) (fun t_3' low_10' good_14' out_15' t_56' t_57' t_58' w'=>((t_3'=(⟨bt,0,none⟩:Addr)/\low_10'=low/\t_56'=own/\t_57'=(own.l:Int)/\True)/\∃i':Nat,t_58'=i'/\i'<=l.length/\RkI w4 good_14' ((l.take i').foldl (splS (q0e t lot) low) ([],[])).1 out_15' ((l.take i').foldl (splS (q0e t lot) low) ([],[])).2 w'/\∀y∈((l.take i').foldl (splS (q0e t lot) low) ([],[])).1,ScOk w4 y)/\l.length-t_58'.toNat<l.length-(i:Int).toNat) K v:=fun {v bad n d} m I hbad hnd=>by
   refine⟨fi ?_⟩
   simp -zeta only[q04]
   refine q0r.2 ⟨fun hb=>⟨_,m.ld (i:=0) 1 rfl rfl,?_⟩,fun hb=>⟨_,m.ld (i:=0) 1 rfl rfl,_,m.ld (i:=1) 1 rfl rfl,_,m.ld (i:=2) 1 rfl rfl,_,m.ld (i:=3) 1 rfl rfl,_,m.ld (i:=4) 1 rfl rfl,_,m.ld (i:=0) 0 rfl rfl,_,m.ld (i:=1) 0 rfl rfl,?_⟩⟩
   ·intro w53
    have e1:splS (q0e t lot) low st l[i]=(st.1,st.2++[⟨l[i].b,0,0,0,bad⟩]):=by unfold splS;rw[←hbad,if_pos hb]
    refine I.pushO (y:=⟨l[i].b,0,0,0,bad⟩) rfl oo fun s54 w55 I'=>⟨q01,⟨⟨trivial,trivial,trivial,trivial,trivial⟩,i+1,oo,oo,?_,?_⟩,oo⟩
    ·grind
    ·grind
   ·intro w63
    have e1:splS (q0e t lot) low st l[i]=(st.1++[(l[i],(n,d))],st.2):=by unfold splS;rw[←hbad,if_neg (fun h=>h hb),←hnd hb]
    have hpi:=ptsA_I (lot:=lot) W.T (W.e _ hmem) hlow
    rw[←hnd hb]at hpi
    refine I.pushG (y:=(l[i],(n,d))) rfl oo fun s64 w65 I'=>⟨q01,⟨⟨trivial,trivial,trivial,trivial,trivial⟩,i+1,oo,oo,?_,?_⟩,oo⟩
    ·grind
    ·rw[hnx,e1]
     intro y hy
     rcases J9.1 hy with h|h
     ·exact hS y h
     ·rw[J5.1 h]
      exact⟨W.e _ hmem,hpi.1,hpi.2⟩
  have W2:=W.fr I.f
  refine q0i.2 ⟨fun h0=>?_,fun h0=>k3 m I (by unfold ptsA;rw[if_neg h0]) fun h=>absurd h h0⟩
  have e2:ptsA (q0e t lot) low l[i]=ptsQ (q0e t lot) l[i] low:=by unfold ptsA;rw[if_pos h0]
  refine T43.ld_row W2.rt ⟨_,m.ld (i:=0) 1 rfl rfl,_,m.ld (i:=1) 1 rfl rfl,_,m.ld (i:=2) 1 rfl rfl,_,m.ld (i:=3) 1 rfl rfl,_,m.ld (i:=4) 1 rfl rfl,?_⟩
  refine q34 (lot:=lot) W2.T (W2.e _ hmem) hlow fun w47 f47=>?_
  have m:=m.fr f47
  have I:=I.fr f47
  refine⟨m.wr 0,?_⟩
  intro w50
  have m':=m.set (i:=0) (v:=.int .i64 (ptsQ (q0e t lot) l[i] low).1.1) 0
  refine⟨m'.wr 0,?_⟩
  intro w51
  have m':=m'.set (i:=1) (v:=.int .i64 (ptsQ (q0e t lot) l[i] low).1.2) 0
  have hf:Fr (fun b=>b=w38.heap.size) w47 w51:=(Fr.set (F:=fun b=>b=w38.heap.size) rfl).trans (Fr.set (F:=fun b=>b=w38.heap.size) rfl) fun _ h _=>h
  have h438:w4.heap.size<=w38.heap.size:=Jm hw4u hw38
  have I':=I.frB hf (fun b hb=>by rw[show b=w38.heap.size from hb];exact h438) (fun b hb he=>by have:=hg38 b hb;rw[show b=w38.heap.size from he]at this;omega) (fun b hb he=>by have:=ho38 b hb;rw[show b=w38.heap.size from he]at this;omega)
  grind
 ·have hil:i=l.length:=oo
  subst hil
  rw[J2]at I hS hlen
  have W1:=W.fr I.f
  refine T43.ld_row W1.rt ?_
  have es:splQ (q0e t lot) low l=l.foldl (splS (q0e t lot) low) ([],[]):=rfl
  rw[es]at hK
  generalize l.foldl (splS (q0e t lot) low) ([],[])=st at *
  have hcmp:qud w4 (.func (.func 29) #[.agg #[(Value.string x.f0),(Value.slice x.f1.p x.f1.l x.f1.c),(Value.slice x.f2.p x.f2.l x.f2.c),(Value.slice x.f3.p x.f3.l x.f3.c),(Value.int .i64 x.f4),(Value.int .i64 x.f5),(Value.string x.f6),(Value.int .i64 x.f7),(Value.int .i64 x.f8),(Value.string x.f9),(Value.slice x.f10.p x.f10.l x.f10.c),(Value.slice x.f11.p x.f11.l x.f11.c),(Value.int .i64 x.f12),(Value.slice x.f13.p x.f13.l x.f13.c),(Value.int .i64 x.f14),(Value.int .i64 x.f15),(Value.int .i64 x.f16),(Value.int .i64 x.f17),(Value.int .i64 x.f18),(Value.int .i64 x.f19)]] #[]) (cmpS (q0e t lot)):=fun v y z K hv hy hz hK =>
   q02 z0i_ok (qce (K:=kk [tI] K) (lot:=lot) (W.T.fr hv) H.F (hy.fr hv) (hz.fr hv) hK)
  refine qcf (w0:=w4) ⟨I.f,I.hg,I.gn⟩ oo hS hcmp fun w5 hm hf=>?_
  refine qep (w0:=w0) hm.vw (I.ho.frF hf fun b hb hg=>I.dj b hg hb).vw (by rw[q4p];omega) oo (f0.t hm.fr0) hK
theorem qer{w3:World}(H:RkH t l lot)(W:RkW x t bt own l lot w3)(f0:Fr F0 w0 w3)(hK:∀r w',Fr F0 w0 w'->Vw 5 encK w' r (q2d (q0e t lot) l)->K r 0 w') :
  z6j_l0 ⟨bt,0,none⟩ own 0 false own (own.l:Int) 0 K w3:=by
 have el:=W.v.len
 have hl:=H.len
 refine⟨⟨fun low fd i u=>∃i':Nat,i=i'/\i'<=l.length/\Fr F0 w3 u/\(low,fd)=(l.take i').foldl (lowS (q0e t lot)) (0,false)/\I64 low,fun _ _ i _=>l.length-i.toNat,⟨0,rfl,oo,Fr.refl,rfl,⟨od,od⟩⟩,?_⟩⟩
 rintro low fd i u ⟨i,rfl,hi,f,hq,hlow⟩
 refine fi ?_
 refine q00.2 ⟨fun hlt=>?_,fun hge=>?_⟩
 ·have hil:i<l.length:=oo
  have tk:l.take (i+1)=l.take i++[l[i]]:=ud
  have hmem:=J1 hil
  have hnx:(l.take (i+1)).foldl (lowS (q0e t lot)) (0,false)=lowS (q0e t lot) (low,fd) l[i]:=oz
  refine ldE ((W.fr f).v) i rfl hil ?_
  intro w12
  refine q1u rfl Mem.nil fun w13 m=>?_
  clear w12
  have m:Mem u w13 [(u.heap.size,encE l[i])]:=m
  have F:=f.t m.1
  have W1:=W.fr F
  refine T43.ld_row W1.rt ⟨_,m.ld (i:=0) 0 rfl rfl,_,m.ld (i:=1) 0 rfl rfl,_,m.ld (i:=2) 0 rfl rfl,_,m.ld (i:=3) 0 rfl rfl,_,m.ld (i:=4) 0 rfl rfl,?_⟩
  have hadm:∀ {J:Int->World->Prop},(∀w',Fr F0 w13 w'->J (admQ (q0e t lot) l[i]) w')->z6b_sh x l[i].b l[i].l l[i].r l[i].p l[i].v J w13:=fun {J} hJ=>by
   have el:=H.hl _ hmem
   refine qal (e:=l[i]) W1.T (W1.e _ hmem) H.F (by rw[el];exact H.hlot) ?_
   grind
  refine hadm fun w20 f20=>?_
  have m:=m.fr f20
  have F:=F.t f20
  have same:lowS (q0e t lot) (low,fd) l[i]=(low,fd)->inR .i64 ((i:Int)+1)/\(((⟨bt,0,none⟩:Addr)=⟨bt,0,none⟩/\own=own/\own=own/\(own.l:Int)=(own.l:Int)/\True)/\∃i':Nat,(i:Int)+1=i'/\i'<=l.length/\Fr F0 w3 w20/\(low,fd)=(l.take i').foldl (lowS (q0e t lot)) (0,false)/\I64 low)/\l.length-((i:Int)+1).toNat<l.length-(i:Int).toNat:=fun h =>
   ⟨q01,⟨⟨rfl,rfl,rfl,rfl,trivial⟩,i+1,oo,oo,F,by rw[hnx,h],hlow⟩,oo⟩
  have take:lowS (q0e t lot) (low,fd) l[i]=(l[i].p,true)->z6j_k1 ⟨bt,0,none⟩ own ⟨u.heap.size,0,none⟩ own (own.l:Int) (i:Int) (fun t_3' own_8' low_10' found_11' t_33' t_34' t_35' w'=>((t_3'=(⟨bt,0,none⟩:Addr)/\own_8'=own/\t_33'=own/\t_34'=(own.l:Int)/\True)/\∃i':Nat,t_35'=i'/\i'<=l.length/\Fr F0 w3 w'/\(low_10',found_11')=(l.take i').foldl (lowS (q0e t lot)) (0,false)/\I64 low_10')/\l.length-t_35'.toNat<l.length-(i:Int).toNat) K w20:=fun h=>by
   refine⟨fi ?_⟩
   rw[q04]
   exact⟨_,m.ld (i:=3) 0 rfl rfl,q01,⟨⟨rfl,rfl,rfl,rfl,trivial⟩,i+1,oo,oo,F,by rw[hnx,h],(W.e _ hmem).p⟩,oo⟩
  refine q0i.2 ⟨fun h0=>?_,fun h0=>same ?_⟩
  ·refine q09.2 ⟨fun hf=>take ?_,fun hf=>⟨_,m.ld (i:=3) 0 rfl rfl,q00.2 ⟨fun hlt=>take ?_,fun hlt=>same ?_⟩⟩⟩
   ·unfold lowS
    grind
   ·unfold lowS
    grind
   ·unfold lowS
    grind
  ·unfold lowS
   grind
 ·have hil:i=l.length:=oo
  subst hil
  rw[J2]at hq
  have e1:low=(lowQ (q0e t lot) l).1:=by unfold lowQ;rw[←hq]
  subst e1
  exact qeq (w0:=w0) H (W.fr f) hlow (f0.t f) hK
theorem q9i(T:TP w x t)(H:RkH t l lot)(hv:Vw 5 encE w s l)(hb:(l.map (·.b)).Nodup)(hr:(l.map (·.r)).Nodup)(hE:∀e∈l,EnOk w e)
  (hK:∀r w',Fr F0 w w'->Vw 5 encK w' r (q2d (q0e t lot) l)->K r 0 w'):z6j_sh x lot s K w:=by
 refine⟨fi ?_⟩
 intro w1
 have m:Mem w w1 [(w.heap.size,x.cs)]:=Mem.nil.allocL (cs:=x.cs)
 clear_value w1
 refine T43.ld_row (m.row 0) ?_
 have hl:=H.len
 obtain⟨lm,hlm⟩:=H.hlot
 have hany:t.lots.any (fun m=>decide (m.1=lot))=true:=List.any_eq_true.2 ⟨lm,List.mem_of_find?_eq_some hlm,List.find?_some (p:=fun m:Int×Int=>decide (m.1=lot)) hlm⟩
 refine qe6 (T.fr m.1) H.F (hv.fr m.1) oo hany H.hl hb hr fun own w3 hm=>?_
 have m:=m.fr hm.fr0
 exact q0h (qer (w0:=w) H ⟨T.fr m.1,m.row 0,hm.vw,fun e he=>(hE e he).fr m.1⟩ m.1 hK)
end
section
variable{w w' w0:World}{t:Td}{x:T43}{rb:Nat}{lf:Int}{mb:Nat}{L:List Pt}
theorem qo6{b:Bool}{X Y:Prop}(h1:b=false->X)(h2:b=true->Y):cnd (!b) X Y:=by
 cases b
 ·exact h1 rfl
 ·exact h2 rfl
theorem qsr{p6 p8 kb t0:Nat}{n d:Int}{ok:Bool}{c0 ck ct:List Value}{K:Int->Int->Bool->World->Prop}(hl:ct.length=3)
  (h:Sx w0 w ((fun c=>c=p8,fun u=>Row u p8 [.int .i64 n,.int .i64 d,.bool ok])::(fun c=>c=kb,fun u=>Row u kb ck)::(fun c=>c=p6,fun u=>Row u p6 ct)::(fun c=>c=t0,fun u=>Row u t0 c0)::Mpt mb::L)) (hn:I64 n) (hd:I64 d)
  (hK:∀w' n d ok,Sx w0 w' (Mpt mb::L)->I64 n->I64 d->K n d ok w'):z1s_k2 ⟨p6,0,none⟩ ⟨p8,0,none⟩ K w:=by
 refine⟨fi ?_⟩
 simp -zeta only[q04]
 refine⟨_,h.ld 0 rfl rfl,_,h.ld 0 rfl rfl,_,h.ld 0 rfl rfl,?_⟩
 refine h.st (vs:=[.int .i64 n,.int .i64 d,.bool ok]) 2 rfl (by rw[hl];rfl) fun w5 f5 h=>?_
 exact⟨_,h.ld 2 rfl rfl,_,h.ld 2 rfl rfl,_,h.ld 2 rfl rfl,hK w5 _ _ _ h.tail.tail.tail.tail hn hd⟩
theorem qss{p6 p8 kb t0 nb:Nat}{n d r a b:Int}{c0 ct cp:List Value}{K:Int->Int->Bool->World->Prop}(hl:ct.length=3)(hl8:cp.length=3)
  (h:Sx w0 w ((fun c=>c=nb,fun u=>Row u nb [.int .i64 n,.int .i64 d])::(fun c=>c=p8,fun u=>Row u p8 cp)::(fun c=>c=kb,fun u=>Row u kb [.int .i64 a,.int .i64 b])::(fun c=>c=p6,fun u=>Row u p6 ct)::(fun c=>c=t0,fun u=>Row u t0 c0)::Mpt mb::L)) (hn:I64 n) (hd:I64 d)
  (hb:∀u,Sx w0 u (Mpt mb::L)->RB u rb x lf (some mb))
  (hK:∀w' n d ok,Sx w0 w' (Mpt mb::L)->I64 n->I64 d->K n d ok w'):z1s_k1 (some ⟨rb,0,none⟩) ⟨p6,0,none⟩ ⟨kb,0,none⟩ ⟨p8,0,none⟩ ⟨nb,0,none⟩ r K w:=by
 refine⟨fi ?_⟩
 simp -zeta only[q1j,q04]
 refine⟨_,h.ld 0 rfl rfl,_,h.ld 0 rfl rfl,?_⟩
 refine h.st (vs:=[.int .i64 n,.int .i64 d,.bool (r==(0:Int))]) 1 rfl (by rw[hl8];rfl) fun w5 f5 h=>?_
 refine⟨some mb,Row.at (hb w5 h.tail.tail.tail.tail.tail) rfl,?_⟩
 refine q08 ?_
 intro w6
 have h:Sx w0 w6 _:=h.fr Fr.drew
 clear_value w6
 generalize hok:(r==(0:Int))=ok at h
 obtain⟨S,hSi,hSe⟩:∃S:World->Prop,(∀u,RB u rb x lf (some mb)/\Row u kb [.int .i64 a,.int .i64 b]/\Row u p8 [.int .i64 n,.int .i64 d,.bool ok]->S u)/\∀u,S u->RB u rb x lf (some mb)/\Row u kb [.int .i64 a,.int .i64 b]/\Row u p8 [.int .i64 n,.int .i64 d,.bool ok]:=⟨_,fun _ h=>h,fun _ h=>h⟩
 refine⟨S,hSi w6 ⟨hb w6 h.tail.tail.tail.tail.tail,h.get 2 rfl,h.get 1 rfl⟩,some mb,fun u hu=>Row.at (hSe u hu).1 rfl,_,fun u hu=>(hSe u hu).2.1.at,_,fun u hu=>(hSe u hu).2.1.at,_,fun u hu=>(hSe u hu).2.2.at,_,fun u hu=>(hSe u hu).2.2.at,_,fun u hu=>(hSe u hu).2.2.at,?_⟩
 obtain⟨w7,h1,h2,h3⟩:=qut (a:=a) (b:=b) (n:=n) (d:=d) (ok:=ok) hn hd (h.get 5 rfl:KM w6 mb)
 refine⟨w7,h1,?_⟩
 have h:Sx w0 w7 _:=h.upd 5 rfl h3 (q0b.km mb) h2 fun b hb=>.inl hb
 exact qsr hl h.tail hn hd hK
theorem qst{p6 p8 kb t0:Nat}{n d a b low:Int}{e:En}{ok has:Bool}{ct:List Value}{K:Int->Int->Bool->World->Prop}(hl:ct.length=3)
  (h:Sx w0 w ((fun c=>c=p8,fun u=>Row u p8 [.int .i64 n,.int .i64 d,.bool ok])::(fun c=>c=kb,fun u=>Row u kb [.int .i64 a,.int .i64 b])::(fun c=>c=p6,fun u=>Row u p6 ct)::(fun c=>c=t0,fun u=>Row u t0 (encE e))::Mpt mb::L)) (hn:I64 n) (hd:I64 d)
  (T:TP w0 x t) (E:∀u,Sx w0 u (Mpt mb::L)->EnOk u e) (hlow:I64 low)
  (hb:∀u,Sx w0 u (Mpt mb::L)->RB u rb x lf (some mb))
  (hK:∀w' n d ok,Sx w0 w' (Mpt mb::L)->I64 n->I64 d->K n d ok w'):z1s_k0 (some ⟨rb,0,none⟩) low ⟨t0,0,none⟩ ⟨p6,0,none⟩ ⟨kb,0,none⟩ ⟨p8,0,none⟩ has K w:=by
 refine⟨fi ?_⟩
 refine qo6 (fun _=>?_) fun _=>qsr hl h hn hd hK
 intro w1
 have h:Sx w0 w1 _:=h.fr Fr.drew
 clear_value w1
 simp -zeta only[q1j,q04]
 obtain⟨S,hSi,hSe⟩:∃S:World->Prop,(∀u,RB u rb x lf (some mb)/\Row u t0 (encE e)->S u)/\∀u,S u->RB u rb x lf (some mb)/\Row u t0 (encE e):=⟨_,fun _ h=>h,fun _ h=>h⟩
 have hS:∀u,Fr F0 w1 u->S u:=fun u f=>hSi u ⟨hb u (h.fr f).tail.tail.tail.tail,(h.fr f).get 3 rfl⟩
 have e0:=E w1 h.tail.tail.tail.tail
 have hi:∀lot,I64 (ptsQ (q0e t lot) e low).1.1/\I64 (ptsQ (q0e t lot) e low).1.2:=fun lot=>quv (w:=w0) (e:=t.fm) (vals:=(wPrice,e.p)::(wLow,low)::e.vals) (fun v hv=>by
  rcases J4.1 hv with rfl|hv
  ·exact e0.p
  ·rcases J4.1 hv with rfl|hv
   ·exact hlow
   ·exact e0.i v hv) T.fm
 refine⟨S,hS _ Fr.refl,?_⟩
 refine T43.lds_pre (fun u hu=>(hSe u hu).1) ?_
 refine⟨_,fun u hu=>(hSe u hu).2.at,_,fun u hu=>(hSe u hu).2.at,_,fun u hu=>(hSe u hu).2.at,_,fun u hu=>(hSe u hu).2.at,e.v,fun u hu=>(hSe u hu).2.at,?_,?_⟩
 ·refine q34 (lot:=0) (T.fr h.fr0) e0 hlow fun w3 f3=>⟨hS _ f3,?_⟩
  have h:Sx w0 w3 _:=h.fr f3
  intro w4
  have h:Sx w0 w4 _:=h.row (cs:=[.int .i64 0,.int .i64 0])
  have f4:Fr F0 w1 w4:=f3.t Fr.alloc
  clear_value w4
  generalize w3.heap.size=nb at h ⊢
  refine⟨hS _ f4,h.wr 0 rfl rfl,?_⟩
  intro w5
  have h:Sx w0 w5 _:=h.set (i:=0) (v:=.int .i64 (ptsQ (q0e t 0) e low).1.1) 0 rfl
  clear_value w5
  refine⟨h.wr 0 rfl rfl,?_⟩
  intro w6
  have h:Sx w0 w6 _:=h.set (i:=1) (v:=.int .i64 (ptsQ (q0e t 0) e low).1.2) 0 rfl
  clear_value w6
  exact qss hl rfl h (hi 0).1 (hi 0).2 hb hK
 ·intro w2
  have h:Sx w0 w2 _:=h.row (cs:=[.int .i64 0,.int .i64 0])
  have f2:Fr F0 w1 w2:=Fr.alloc
  clear_value w2
  generalize w1.heap.size=nb at h ⊢
  refine⟨hS _ f2,?_⟩
  refine q34 (lot:=0) (T.fr h.fr0) (E w2 h.tail.tail.tail.tail.tail) hlow fun w3 f3=>?_
  have h:Sx w0 w3 _:=h.fr f3
  refine⟨h.wr 0 rfl rfl,?_⟩
  intro w5
  have h:Sx w0 w5 _:=h.set (i:=0) (v:=.int .i64 (ptsQ (q0e t 0) e low).1.1) 0 rfl
  clear_value w5
  refine⟨h.wr 0 rfl rfl,?_⟩
  intro w6
  have h:Sx w0 w6 _:=h.set (i:=1) (v:=.int .i64 (ptsQ (q0e t 0) e low).1.2) 0 rfl
  clear_value w6
  exact qss hl rfl h (hi 0).1 (hi 0).2 hb hK
theorem qh6{low:Int}{e:En}{K:Int->Int->Bool->World->Prop}(h:Sx w0 w (Mpt mb::L))(T:TP w0 x t)(E:∀u,Sx w0 u (Mpt mb::L)->EnOk u e)(hlow:I64 low)
  (hb:∀u,Sx w0 u (Mpt mb::L)->RB u rb x lf (some mb))
  (hK:∀w' n d ok,Sx w0 w' (Mpt mb::L)->I64 n->I64 d->K n d ok w'):z1s_sh (some ⟨rb,0,none⟩) e.b e.l e.r e.p e.v low K w:=by
 refine⟨fi ?_⟩
 intro w1
 have h:Sx w0 w1 _:=h.row (cs:=encE e)
 clear_value w1
 generalize w.heap.size=t0 at h ⊢
 intro w2
 have h:Sx w0 w2 _:=h.row (cs:=[.int .i64 0,.int .i64 0,.bool false])
 clear_value w2
 generalize w1.heap.size=p6 at h ⊢
 refine⟨_,h.ld 1 rfl rfl,?_⟩
 intro w4
 have h:Sx w0 w4 _:=h.row (cs:=[.int .i64 0,.int .i64 0])
 clear_value w4
 generalize w2.heap.size=kb at h ⊢
 refine⟨h.wr 0 rfl rfl,?_⟩
 intro w5
 have h:Sx w0 w5 _:=h.set (i:=0) (v:=.int .i64 e.b) 0 rfl
 clear_value w5
 refine⟨h.wr 0 rfl rfl,?_⟩
 intro w6
 have h:Sx w0 w6 _:=h.set (i:=1) (v:=.int .i64 low) 0 rfl
 clear_value w6
 intro w7
 have h:Sx w0 w7 _:=h.fr Fr.drew
 clear_value w7
 simp -zeta only[q1j,q04]
 have h:Sx w0 w7 ((fun c=>c=kb,fun u=>Row u kb [.int .i64 e.b,.int .i64 low])::(fun c=>c=p6,fun u=>Row u p6 [.int .i64 0,.int .i64 0,.bool false])::(fun c=>c=t0,fun u=>Row u t0 (encE e))::Mpt mb::L):=h
 obtain⟨S,hSi,hSe⟩:∃S:World->Prop,(∀u,RB u rb x lf (some mb)/\Row u kb [.int .i64 e.b,.int .i64 low]->S u)/\∀u,S u->RB u rb x lf (some mb)/\Row u kb [.int .i64 e.b,.int .i64 low]:=⟨_,fun _ h=>h,fun _ h=>h⟩
 have hS:∀u,Fr F0 w7 u->S u:=fun u f=>hSi u ⟨hb u (h.fr f).tail.tail.tail,(h.fr f).get 0 rfl⟩
 refine⟨S,hS _ Fr.refl,some mb,fun u hu=>Row.at (hSe u hu).1 rfl,_,fun u hu=>(hSe u hu).2.at,_,fun u hu=>(hSe u hu).2.at,?_,?_⟩
 ·obtain⟨n,d,ok,has,hn,hd,hr⟩:=qo5 (a:=e.b) (b:=low) (h.get 3 rfl:KM w7 mb)
  refine⟨_,hr,n,d,ok,has,rfl,hS _ Fr.refl,?_⟩
  intro w8
  have h:Sx w0 w8 _:=h.row (cs:=[.int .i64 0,.int .i64 0,.bool false])
  have f8:Fr F0 w7 w8:=Fr.alloc
  clear_value w8
  generalize w7.heap.size=p8 at h ⊢
  refine⟨hS _ f8,?_⟩
  refine h.st (vs:=[.int .i64 n,.int .i64 d,.bool ok]) 0 rfl rfl fun w9 f9 h=>?_
  exact qst rfl h hn hd T E hlow hb hK
 ·intro w8
  have h:Sx w0 w8 _:=h.row (cs:=[.int .i64 0,.int .i64 0,.bool false])
  have f8:Fr F0 w7 w8:=Fr.alloc
  clear_value w8
  generalize w7.heap.size=p8 at h ⊢
  obtain⟨n,d,ok,has,hn,hd,hr⟩:=qo5 (a:=e.b) (b:=low) (h.get 4 rfl:KM w8 mb)
  refine⟨hS _ f8,_,hr,n,d,ok,has,rfl,?_⟩
  refine h.st (vs:=[.int .i64 n,.int .i64 d,.bool ok]) 0 rfl rfl fun w9 f9 h=>?_
  exact qst rfl h hn hd T E hlow hb hK
end
