/- slices, of values and of operations; operations on numbers. Conditions: none. -/
import Derived.Test.YtipjnbbfnlfmjaaGreatDoorUA
import Derived.Test.YtipjnbbfnlfmjaaGreatDoorTE2
namespace Pw
open Go
def encV (x:Dp.Vl):List Value:=[.string (ofL x.1),.int .i64 x.2]
@[simp] theorem q3c (x:Dp.Vl):(encV x).length=2:=rfl
theorem qk3 (x:Dp.Vl):∀ v∈encV x,okC v=true:=by
 intro v hv
 simp only[encV,List.mem_cons,List.not_mem_nil,or_false] at hv
 rcases hv with rfl | rfl<;>rfl
def opF (o:Fin 6):Value:=.func (.func (match o with
 | 0=>216
 | 1=>217
 | 2=>218
 | 3=>219
 | 4=>220
 | 5=>222)) #[] #[]
def encO (o:Fin 6):List Value:=[.string (ofL (Dp.opB o)),opF o]
@[simp] theorem q8e (o:Fin 6):(encO o).length=2:=rfl
theorem qk4 (o:Fin 6):okC (opF o)=true:=rfl
section
variable {w:World}{s:Sl}{i:Int}
theorem ldV {l:List Dp.Vl}{K:ByteArray->Int->Prop}(h:Vw 2 encV w s l)(i':Nat)(hi:i=(i':Int))(h1:i'<l.length)(hK:K (ofL l[i'].1) l[i'].2) :
  nz s.p fun a=>(0<=i/\i<(s.l:Nat))/\∃ x:ByteArray,w.cell? (a.add (i.toNat*2))=some (Value.string x)/\∃ y:Int,w.cell? ((a.add (i.toNat*2)).add 1)=some (Value.int .i64 y)/\K x y :=
 Vw.go q3c (by decide) h i' hi h1 fun _ hc=>⟨_,hc 0 _ rfl,_,hc 1 _ rfl,hK⟩
theorem ldO {l:List (Fin 6)}{K:ByteArray->Value->Prop}(h:Vw 2 encO w s l)(i':Nat)(hi:i=(i':Int))(h1:i'<l.length)(hK:K (ofL (Dp.opB l[i'])) (opF l[i'])) :
  nz s.p fun a=>(0<=i/\i<(s.l:Nat))/\∃ x:ByteArray,w.cell? (a.add (i.toNat*2))=some (Value.string x)/\∃ y:Value,w.cell? ((a.add (i.toNat*2)).add 1)=some y/\K x y :=
 Vw.go q8e (by decide) h i' hi h1 fun _ hc=>⟨_,hc 0 _ rfl,_,hc 1 _ rfl,hK⟩
end
end Pw
namespace Go.Proofs.YtipjnbbfnlfmjaaGreatDoor
open Go Pw Dp
section
variable {w w' w0:World}{s:Sl}
theorem q3d {X Y:Prop}(h:X):cnd true X Y:=h
theorem q44 {X Y:Prop}(h:Y):cnd false X Y:=h
theorem q45 {l:List Vl}{f:Value}{p:Vl->Bool}{K:Int->World->Prop}(hv:Vw 2 encV w s l)(hl:l.length<2^62)(hp:∀ x∈l,Dcs F0 f w [.agg #[.string (ofL x.1),.int .i64 x.2]] (p x))(hK:∀ r w',Fr F0 w w'->Ix p l r->K r w'):z05_sh s f K w:=by
 have el:=hv.len
 refine⟨?_⟩
 refine⟨⟨fun i u=>∃ i':Nat,i=i'/\i'<=l.length/\Fr F0 w u/\∀ j (h:j<l.length),j<i'->p l[j]=false,fun i _=>l.length-i.toNat,⟨0,rfl,by omega,Fr.refl,fun j _ h=>by omega⟩,?_⟩⟩
 rintro i u ⟨i,rfl,hi,hf,hb⟩
 unfold z05_b0
 refine q00.2 ⟨fun hlt=>?_,fun hge=>?_⟩
 ·have hil:i<l.length:=by omega
  refine ldV (hv.fr hf) i rfl hil (hp _ (List.getElem_mem hil) u _ hf fun u' hf'=>⟨_,rfl,?_⟩)
  have hF:=hf.t hf'
  refine q04.2 ⟨fun h=>hK _ _ hF (.inr ⟨i,hil,rfl,h,fun j hj=>hb j (by omega) hj⟩),fun h=>⟨q03,⟨⟨rfl,rfl,rfl,trivial⟩,i+1,by omega,by omega,hF,fun j hjl hj=>?_⟩,by dsimp only; omega⟩⟩
  rcases Nat.lt_or_ge j i with h' | h'
  ·exact hb j hjl h'
  ·have:j=i:=by omega
   subst this
   exact h
 ·refine hK _ _ hf (.inl ⟨rfl,fun x hx=>?_⟩)
  obtain⟨j,hj,rfl⟩:=List.mem_iff_getElem.1 hx
  exact hb j hj (by omega)
theorem q8f {l:List (Fin 6)}{f:Value}{p:(Fin 6)->Bool}{K:Int->World->Prop}(hv:Vw 2 encO w s l)(hl:l.length<2^62)(hp:∀ x∈l,Dcs F0 f w [.agg #[.string (ofL (opB x)),opF x]] (p x))(hK:∀ r w',Fr F0 w w'->Ix p l r->K r w'):z01_sh s f K w:=by
 have el:=hv.len
 refine⟨?_⟩
 refine⟨⟨fun i u=>∃ i':Nat,i=i'/\i'<=l.length/\Fr F0 w u/\∀ j (h:j<l.length),j<i'->p l[j]=false,fun i _=>l.length-i.toNat,⟨0,rfl,by omega,Fr.refl,fun j _ h=>by omega⟩,?_⟩⟩
 rintro i u ⟨i,rfl,hi,hf,hb⟩
 unfold z01_b0
 refine q00.2 ⟨fun hlt=>?_,fun hge=>?_⟩
 ·have hil:i<l.length:=by omega
  refine ldO (hv.fr hf) i rfl hil (hp _ (List.getElem_mem hil) u _ hf fun u' hf'=>⟨_,rfl,?_⟩)
  have hF:=hf.t hf'
  refine q04.2 ⟨fun h=>hK _ _ hF (.inr ⟨i,hil,rfl,h,fun j hj=>hb j (by omega) hj⟩),fun h=>⟨q03,⟨⟨rfl,rfl,rfl,trivial⟩,i+1,by omega,by omega,hF,fun j hjl hj=>?_⟩,by dsimp only; omega⟩⟩
  rcases Nat.lt_or_ge j i with h' | h'
  ·exact hb j hjl h'
  ·have:j=i:=by omega
   subst this
   exact h
 ·refine hK _ _ hf (.inl ⟨rfl,fun x hx=>?_⟩)
  obtain⟨j,hj,rfl⟩:=List.mem_iff_getElem.1 hx
  exact hb j hj (by omega)
theorem q5w {l:List Cr}{f:Value}{p:Cr->Bool}{K:Bool->World->Prop}(hv:Vw 5 encC w s l)(hl:l.length<2^62)(hp:∀ x∈l,Dcs F0 f w [.agg #[.string (ofL x.name),.int .i64 x.kind,.int .i64 x.low,.int .i64 x.high,.bool x.less]] (p x))(hK:∀ w',Fr F0 w w'->K (l.any p) w'):z00_sh s f K w :=
 ⟨q2a hv hl hp fun r w' hf hr=>by rw[hr.ge]; exact hK w' hf⟩
theorem q5x {l:List (Int × Int)}{f:Value}{p:(Int × Int)->Bool}{K:Bool->World->Prop}(hv:Vw 2 encL w s l)(hl:l.length<2^62)(hp:∀ x∈l,Dcs F0 f w [.agg #[.int .i64 x.1,.int .i64 x.2]] (p x))(hK:∀ w',Fr F0 w w'->K (l.any p) w'):z04_sh s f K w :=
 ⟨q29 hv hl hp fun r w' hf hr=>by rw[hr.ge]; exact hK w' hf⟩
theorem qd2 {t:Bool}{a b c d:Int}{K:Int->Int->World->Prop}(hK:∀ w',Fr F0 w w'->K (if t then a else c) (if t then b else d) w'):z3q_sh t a b c d K w:=by
 refine⟨?_⟩
 intro w1 w2 w3
 have m:Mem w w3 [(w2.heap.size,[.int .i64 0,.int .i64 0]),(w1.heap.size,[.int .i64 c,.int .i64 d]),(w.heap.size,[.int .i64 a,.int .i64 b])]:=((Mem.nil.allocL (cs:=[.int .i64 a,.int .i64 b])).allocL (cs:=[.int .i64 c,.int .i64 d])).allocL (cs:=[.int .i64 0,.int .i64 0])
 clear_value w3 w2 w1
 cases t with
 | true =>
  refine q3d ⟨a,m.ld 2,b,m.ld 2,m.wr 0,?_⟩
  intro w6
  have m:=m.set (i:=0) (v:=.int .i64 a) 0
  refine⟨m.wr 0,?_⟩
  intro w7
  have m:=m.set (i:=1) (v:=.int .i64 b) 0
  exact⟨a,m.ld 0,b,m.ld 0,hK _ m.1⟩
 | false =>
  refine q44 ⟨c,m.ld 1,d,m.ld 1,m.wr 0,?_⟩
  intro w6
  have m:=m.set (i:=0) (v:=.int .i64 c) 0
  refine⟨m.wr 0,?_⟩
  intro w7
  have m:=m.set (i:=1) (v:=.int .i64 d) 0
  exact⟨c,m.ld 0,d,m.ld 0,hK _ m.1⟩
theorem qhn {n d n' d':Int}{K:Int->Int->Bool->World->Prop}(hn:I64 n)(hd:I64 d)(hn':I64 n')(hd':I64 d')(hK:∀ w',Fr F0 w w'->K (if decide (cmpQ n d n' d'<=0)=true then n else n') (if decide (cmpQ n d n' d'<=0)=true then d else d') true w'):z2n_sh n d n' d' K w:=by
 refine⟨?_⟩
 intro w1 w2 w3 w4
 have m:Mem w w4 [(w2.heap.size,[.int .i64 0,.int .i64 0]),(w1.heap.size,[.int .i64 n',.int .i64 d']),(w.heap.size,[.int .i64 n,.int .i64 d])]:=(((Mem.nil.allocL (cs:=[.int .i64 n,.int .i64 d])).allocL (cs:=[.int .i64 n',.int .i64 d'])).allocL (cs:=[.int .i64 0,.int .i64 0])).drew
 clear_value w4 w3 w2 w1
 refine⟨fun u=>Mem w u [(w2.heap.size,[.int .i64 0,.int .i64 0]),(w1.heap.size,[.int .i64 n',.int .i64 d']),(w.heap.size,[.int .i64 n,.int .i64 d])],m,_,fun u h=>h.ld 2,_,fun u h=>h.ld 2,_,fun u h=>h.ld 1,_,fun u h=>h.ld 1,_,fun u h=>h.ld 2,_,fun u h=>h.ld 2,_,fun u h=>h.ld 1,_,fun u h=>h.ld 1,?_⟩
 refine q77 hn hd hn' hd' fun w14 f14=>⟨m.fr f14,?_⟩
 refine qd2 fun w16 f16=>?_
 have m:=(m.fr f14).fr f16
 refine⟨m,m.wr 0,?_⟩
 intro w18
 have m:=m.set (i:=0) (v:=.int .i64 (if decide (cmpQ n d n' d'<=0)=true then n else n')) 0
 refine⟨m.wr 0,?_⟩
 intro w19
 have m:=m.set (i:=1) (v:=.int .i64 (if decide (cmpQ n d n' d'<=0)=true then d else d')) 0
 exact⟨_,m.ld 0,_,m.ld 0,hK _ m.1⟩
theorem qho {n d n' d':Int}{K:Int->Int->Bool->World->Prop}(hn:I64 n)(hd:I64 d)(hn':I64 n')(hd':I64 d')(hK:∀ w',Fr F0 w w'->K (if decide (cmpQ n d n' d'>=0)=true then n else n') (if decide (cmpQ n d n' d'>=0)=true then d else d') true w'):z2o_sh n d n' d' K w:=by
 refine⟨?_⟩
 intro w1 w2 w3 w4
 have m:Mem w w4 [(w2.heap.size,[.int .i64 0,.int .i64 0]),(w1.heap.size,[.int .i64 n',.int .i64 d']),(w.heap.size,[.int .i64 n,.int .i64 d])]:=(((Mem.nil.allocL (cs:=[.int .i64 n,.int .i64 d])).allocL (cs:=[.int .i64 n',.int .i64 d'])).allocL (cs:=[.int .i64 0,.int .i64 0])).drew
 clear_value w4 w3 w2 w1
 refine⟨fun u=>Mem w u [(w2.heap.size,[.int .i64 0,.int .i64 0]),(w1.heap.size,[.int .i64 n',.int .i64 d']),(w.heap.size,[.int .i64 n,.int .i64 d])],m,_,fun u h=>h.ld 2,_,fun u h=>h.ld 2,_,fun u h=>h.ld 1,_,fun u h=>h.ld 1,_,fun u h=>h.ld 2,_,fun u h=>h.ld 2,_,fun u h=>h.ld 1,_,fun u h=>h.ld 1,?_⟩
 refine q77 hn hd hn' hd' fun w14 f14=>⟨m.fr f14,?_⟩
 refine qd2 fun w16 f16=>?_
 have m:=(m.fr f14).fr f16
 refine⟨m,m.wr 0,?_⟩
 intro w18
 have m:=m.set (i:=0) (v:=.int .i64 (if decide (cmpQ n d n' d'>=0)=true then n else n')) 0
 refine⟨m.wr 0,?_⟩
 intro w19
 have m:=m.set (i:=1) (v:=.int .i64 (if decide (cmpQ n d n' d'>=0)=true then d else d')) 0
 exact⟨_,m.ld 0,_,m.ld 0,hK _ m.1⟩
theorem qn6 {o:Fin 6}{a b:Int × Int}{K:VW}(ha:I64 a.1/\I64 a.2)(hb:I64 b.1/\I64 b.2)(hK:∀ w',Fr F0 w w'->K (.tuple #[.agg #[.int .i64 (q5v o a b).n,.int .i64 (q5v o a b).d],.bool (q5v o a b).ok]) w') :
  q14 Tryz.prog (opF o) [.agg #[.int .i64 a.1,.int .i64 a.2],.agg #[.int .i64 b.1,.int .i64 b.2]] w K:=by
 match o with
 | 0=>exact q05 z3r_ok (qfy (K:=kk [.u 2,.g 2,tI,tI,tB] K) ha.1 ha.2 hb.1 hb.2 fun w' f=>hK w' f)
 | 1=>exact q05 z3v_ok (qg0 (K:=kk [.u 2,.g 2,tI,tI,tB] K) ha.1 ha.2 hb.1 hb.2 fun w' f=>hK w' f)
 | 2=>exact q05 z3t_ok (qfz (K:=kk [.u 2,.g 2,tI,tI,tB] K) ha.1 ha.2 hb.1 hb.2 fun w' f=>hK w' f)
 | 3=>exact q05 z3u_ok (qg1 (K:=kk [.u 2,.g 2,tI,tI,tB] K) ha.1 ha.2 hb.1 hb.2 fun w' f=>hK w' f)
 | 4 =>
  refine q05 z2n_ok (qhn (K:=kk [.u 2,.g 2,tI,tI,tB] K) ha.1 ha.2 hb.1 hb.2 fun w' f=>?_)
  have:=hK w' f
  simp only[q5v] at this
  by_cases h:cmpQ a.1 a.2 b.1 b.2<=0
  ·rw[if_pos h] at this; rw[decide_eq_true h]; exact this
  ·rw[if_neg h] at this; rw[decide_eq_false h]; exact this
 | 5 =>
  refine q05 z2o_ok (qho (K:=kk [.u 2,.g 2,tI,tI,tB] K) ha.1 ha.2 hb.1 hb.2 fun w' f=>?_)
  have:=hK w' f
  simp only[q5v] at this
  by_cases h:cmpQ a.1 a.2 b.1 b.2>=0
  ·rw[if_pos h] at this; rw[decide_eq_true h]; exact this
  ·rw[if_neg h] at this; rw[decide_eq_false h]; exact this
end
end Go.Proofs.YtipjnbbfnlfmjaaGreatDoor
namespace Dp
theorem opB_eq:∀ (i:Fin 6) (o:Fin 6),decide (opB i=opB o)=true->i=o:=by decide
theorem qn7:∀ o:Fin 6,o∈([0,1,2,3,4,5]:List (Fin 6)):=by decide
theorem qk5:∀ (i:Nat) (h:i<6),([0,1,2,3,4,5]:List (Fin 6))[i]'h=⟨i,h⟩
 | 0,_=>rfl
 | 1,_=>rfl
 | 2,_=>rfl
 | 3,_=>rfl
 | 4,_=>rfl
 | 5,_=>rfl
end Dp
namespace Go.Proofs.YtipjnbbfnlfmjaaGreatDoor
open Go Pw Dp
section
variable {w w' w0:World}{s:Sl}
theorem qhp {n m:B}{f:Value}{b:Nat}{K:Bool->World->Prop}(h:Row w b [.string (ofL m)])(hK:∀ w',Fr F0 w w'->K (decide (n=m)) w'):z2p_sh (ofL n) f ⟨b,0,none⟩ K w:=by
 refine⟨?_⟩
 intro w1
 have m1:Mem w w1 [(w.heap.size,[.string (ofL n),f])]:=Mem.nil.allocL (cs:=[.string (ofL n),f])
 clear_value w1
 refine⟨_,m1.ld 0,_,(m1.1.row h fun h=>h).at rfl,?_⟩
 dsimp -zeta only; rw[q0h]
 exact hK _ m1.1
theorem q9y {o:Fin 6}{K:ByteArray->Value->Bool->World->Prop}(hK:∀ w',Fr F0 w w'->K (ofL (opB o)) (opF o) true w'):z3p_sh (ofL (opB o)) K w:=by
 refine⟨?_⟩
 intro w1 w2 w3
 have m:Mem w w3 [(w2.heap.size,([0,1,2,3,4,5]:List (Fin 6)).flatMap encO),(w1.heap.size,[.string (str []),.nilFunc]),(w.heap.size,[.string (ofL (opB o))])] :=
  ((Mem.nil.allocL (cs:=[.string (ofL (opB o))])).allocL (cs:=[.string (str []),.nilFunc])).allocL (cs:=([0,1,2,3,4,5]:List (Fin 6)).flatMap encO)
 clear_value w3 w2 w1
 have hv:Vw 2 encO w3 ⟨some ⟨w2.heap.size,0,none⟩,6,6⟩ [0,1,2,3,4,5]:=(Row.ow q8e (l:=([0,1,2,3,4,5]:List (Fin 6))) (m.row 0)).vw
 refine q8f hv (by decide) (p:=fun x=>decide (opB x=opB o)) (fun x _=>fun u K hu hK=>q05 z2p_ok (qhp (K:=kk [tB] K) (hu.row (m.row 2) fun h=>h) hK)) fun r w4 f4 hr=>?_
 have m:=m.fr f4
 have hv:=hv.fr f4
 rcases hr with⟨_,h⟩ | ⟨i,hi,rfl,hp,_⟩
 ·have:=h o (qn7 o)
  simp at this
 ·have hi6:i<6:=hi
  rw[qk5 i hi6] at hp
  have ho:=opB_eq _ _ hp
  refine q00.2 ⟨fun h=>by omega,fun _=>?_⟩
  refine(ldO (K:=fun x11 x12=>wrOk w4 (Addr.mk w1.heap.size 0 none)/\_) hv i rfl hi ?_:nz (some (Addr.mk w2.heap.size 0 none)) _)
  rw[qk5 i hi6,ho]
  refine⟨m.wr 1,?_⟩
  intro w13
  have m:=m.set (i:=0) (v:=.string (ofL (opB o))) 1
  refine qk2 (qk4 o) ⟨m.wr 1,?_⟩
  intro w14
  have m:=m.set (i:=1) (v:=opF o) 1
  exact⟨_,m.ld 1,_,m.ld 1,hK _ m.1⟩
theorem qgd (q:Rat):I64 (fitQ q).n/\I64 (fitQ q).d:=by
 unfold fitQ
 split
 ·rename_i h
  exact⟨⟨h.1,h.2.1⟩,⟨by show(-9223372036854775808:Int)<=(q.den:Int); omega,by show(q.den:Int)<9223372036854775808; omega⟩⟩
 ·exact⟨⟨by decide,by decide⟩,⟨by decide,by decide⟩⟩
theorem qpn {o:Fin 6}{a b:Int × Int}(ha:I64 a.1/\I64 a.2)(hb:I64 b.1/\I64 b.2):I64 (q5v o a b).n/\I64 (q5v o a b).d:=by
 have hz:I64 zr.n/\I64 zr.d:=⟨⟨by decide,by decide⟩,⟨by decide,by decide⟩⟩
 unfold q5v
 split
 ·unfold addQ; split; exact qgd _; exact hz
 ·unfold subQ; split; exact qgd _; exact hz
 ·unfold mulQ; split; exact qgd _; exact hz
 ·unfold quoQ; split; split; exact hz; exact qgd _; exact hz
 ·split; exact ha; exact hb
 ·split; exact ha; exact hb
theorem appQ_I {o:Fin 6}{a b:Int × Int}(ha:I64 a.1/\I64 a.2)(hb:I64 b.1/\I64 b.2):I64 (appQ o a b).1.n/\I64 (appQ o a b).1.d:=by
 have hz:I64 0:=⟨by decide,by decide⟩
 unfold appQ
 split
 ·exact⟨hz,hz⟩
 ·split
  ·exact qpn ha hb
  ·exact⟨hz,hz⟩
theorem q5y {o:Fin 6}{a b:Int × Int}{bo ba bb bt:Nat}{K:Int->Int->Int->World->Prop}(ha:I64 a.1/\I64 a.2)(hb:I64 b.1/\I64 b.2)(hno:¬(o=3/\b.1=0))
  (m:Mem w0 w [(bt,[.int .i64 0,.int .i64 0]),(bb,[.int .i64 b.1,.int .i64 b.2]),(ba,[.int .i64 a.1,.int .i64 a.2]),(bo,encO o)])
  (hK:∀ w',Fr F0 w0 w'->K (appQ o a b).1.n (appQ o a b).1.d (appQ o a b).2 w'):z0i_k0 ⟨bo,0,none⟩ ⟨ba,0,none⟩ ⟨bb,0,none⟩ ⟨bt,0,none⟩ K w:=by
 refine⟨?_⟩
 simp -zeta only[q01]
 refine⟨_,m.ld 3,_,m.ld 2,_,m.ld 2,_,m.ld 1,_,m.ld 1,?_⟩
 refine qn6 ha hb fun w17 f17=>⟨_,_,_,rfl,?_⟩
 have m:=m.fr f17
 intro w22
 have m:Mem w0 w22 ((w17.heap.size,[.int .i64 0,.int .i64 0]) :: _):=m.allocL (cs:=[.int .i64 0,.int .i64 0])
 clear_value w22
 refine⟨m.wr 0,?_⟩
 intro w23
 have m:=m.set (i:=0) (v:=.int .i64 (q5v o a b).n) 0
 refine⟨m.wr 0,?_⟩
 intro w24
 have m:=m.set (i:=1) (v:=.int .i64 (q5v o a b).d) 0
 unfold appQ at hK
 rw[if_neg hno] at hK
 refine q04.2 ⟨fun h=>?_,fun h=>?_⟩
 ·rw[if_pos h] at hK
  refine⟨_,m.ld 0,_,m.ld 0,m.wr 1,?_⟩
  intro w27
  have m:=m.set (i:=0) (v:=.int .i64 (q5v o a b).n) 1
  refine⟨m.wr 1,?_⟩
  intro w28
  have m:=m.set (i:=1) (v:=.int .i64 (q5v o a b).d) 1
  exact⟨_,m.ld 1,_,m.ld 1,hK _ m.1⟩
 ·rw[if_neg (by rw[h]; decide)] at hK
  refine⟨m.wr 1,?_⟩
  intro w31
  have m:=m.set (i:=0) (v:=.int .i64 0) 1
  refine⟨m.wr 1,?_⟩
  intro w32
  have m:=m.set (i:=1) (v:=.int .i64 0) 1
  exact⟨_,m.ld 1,_,m.ld 1,hK _ m.1⟩
theorem q6n {o:Fin 6}{a b:Int × Int}{K:Int->Int->Int->World->Prop}(ha:I64 a.1/\I64 a.2)(hb:I64 b.1/\I64 b.2)(hK:∀ w',Fr F0 w w'->K (appQ o a b).1.n (appQ o a b).1.d (appQ o a b).2 w') :
  z0i_sh (ofL (opB o)) (opF o) a.1 a.2 b.1 b.2 K w:=by
 refine⟨?_⟩
 intro w1 w2 w3 w4
 have m:Mem w w4 [(w3.heap.size,[.int .i64 0,.int .i64 0]),(w2.heap.size,[.int .i64 b.1,.int .i64 b.2]),(w1.heap.size,[.int .i64 a.1,.int .i64 a.2]),(w.heap.size,encO o)] :=
  (((Mem.nil.allocL (cs:=encO o)).allocL (cs:=[.int .i64 a.1,.int .i64 a.2])).allocL (cs:=[.int .i64 b.1,.int .i64 b.2])).allocL (cs:=[.int .i64 0,.int .i64 0])
 clear_value w4 w3 w2 w1
 refine⟨_,m.ld 3,?_⟩
 dsimp -zeta only; rw[op47]
 refine q00.2 ⟨fun h3=>⟨_,m.ld 1,q09.2 ⟨fun h0=>?_,fun h0=>q5y ha hb (fun h=>h0 h.2) m hK⟩⟩,fun h3=>q5y ha hb (fun h=>h3 h.1) m hK⟩
 have e:appQ o a b=(⟨0,0,false⟩,15):=by unfold appQ; rw[if_pos ⟨h3,h0⟩]
 rw[e] at hK
 refine⟨m.wr 0,?_⟩
 intro w7
 have m:=m.set (i:=0) (v:=.int .i64 0) 0
 refine⟨m.wr 0,?_⟩
 intro w8
 have m:=m.set (i:=1) (v:=.int .i64 0) 0
 exact⟨_,m.ld 0,_,m.ld 0,hK _ m.1⟩
end
section
variable {w w' w0:World}{s:Sl}
def smK (e:Fm)(p d:Nat)(K:Int->Bool->World->Prop)(w:World):Prop:=if e.parts<=p/\e.depth<=d then K ((p:Int)-(e.parts:Int)) true w else K 0 false w
theorem q9z {e:Fm}{c:XC}{p d:Nat}{K:Int->Bool->World->Prop}(h1:e.parts=1)(h2:e.depth=1)(hc:c.a=⟨none,0,0⟩)(hp:p<=60)(hd:d<=12)(hK:∀ w',Fr F0 w w'->smK e p d K w') :
  z3d_sh c.op c.n c.d c.nm c.a (p:Int) (d:Int) K w:=by
 refine z3d_mk _ _ _ _ _ _ _ _ _ ?_
 unfold z3d_sd
 intro w1
 have m:Mem w w1 [(w.heap.size,encX c)]:=Mem.nil.allocL (cs:=encX c)
 clear_value w1
 have hk:=hK w1 m.1
 unfold smK at hk
 refine q00.2 ⟨fun h=>?_,fun h=>q00.2 ⟨fun h'=>?_,fun h'=>⟨q03,_,m.lD 0 rfl rfl,?_⟩⟩⟩
 ·rw[if_neg (by omega)] at hk; exact hk
 ·rw[if_neg (by omega)] at hk; exact hk
 ·rw[if_pos (by omega),h1] at hk
  refine⟨⟨fun pp i u=>pp=(p:Int)-1/\i=0/\u=w1,fun _ _ _=>0,⟨rfl,rfl,rfl⟩,?_⟩⟩
  rintro pp i u ⟨rfl,rfl,rfl⟩
  unfold z3d_b0
  rw[hc]
  exact q00.2 ⟨fun h=>by simp at h,fun _=>hk⟩
theorem qer:∀ (e:Fm) {c:XC} {p d:Nat} {w:World} {K:Int->Bool->World->Prop},XP w e c->p<=60->d<=12->(∀ w',Fr F0 w w'->smK e p d K w')->z3d_sh c.op c.n c.d c.nm c.a (p:Int) (d:Int) K w:=by
 intro e
 induction e with
 | num n k =>
  intro c p d w K hx hp hd hK
  obtain⟨rfl,_⟩:=hx
  exact q9z (e:=.num n k) rfl rfl rfl hp hd hK
 | name s =>
  intro c p d w K hx hp hd hK
  obtain⟨rfl,_⟩:=hx
  exact q9z (e:=.name s) rfl rfl rfl hp hd hK
 | op o a b iha ihb =>
  intro c p d w K hx hp hd hK
  obtain⟨ca,cb,_,hv,hxa,hxb⟩:=hx
  refine z3d_mk _ _ _ _ _ _ _ _ _ ?_
  unfold z3d_sd
  intro w1
  have m:Mem w w1 [(w.heap.size,encX c)]:=Mem.nil.allocL (cs:=encX c)
  clear_value w1
  have e1:(Fm.op o a b).parts=1+a.parts+b.parts:=rfl
  have e2:(Fm.op o a b).depth=max a.depth b.depth+1:=rfl
  unfold smK at hK
  have ha0:=q2x a
  have hb0:=q2x b
  have hk:=hK w1 m.1
  refine q00.2 ⟨fun h=>?_,fun h=>q00.2 ⟨fun h'=>?_,fun h'=>⟨q03,_,m.lD 0 rfl rfl,?_⟩⟩⟩
  ·rw[if_neg (by omega)] at hk; exact hk
  ·rw[if_neg (by omega)] at hk; exact hk
  clear hk
  have f1:=m.1
  refine⟨⟨fun pp i u=>Fr F0 w u/\((i=0/\pp=(p:Int)-1)\/(i=1/\pp=(p:Int)-1-a.parts/\a.parts<=p-1/\a.depth<=d-1)\/(i=2/\pp=(p:Int)-1-a.parts-b.parts/\a.parts+b.parts<=p-1/\a.depth<=d-1/\b.depth<=d-1)),fun _ i _=>2-i.toNat,⟨f1,.inl ⟨rfl,rfl⟩⟩,?_⟩⟩
  rintro pp i u ⟨f,hI⟩
  unfold z3d_b0
  have hv:=hv.fr f
  have el:=hv.len
  have e3:c.a.l=2:=el
  refine q00.2 ⟨fun hlt=>?_,fun hge=>?_⟩
  ·have hi:(i=0/\pp=(p:Int)-1)\/(i=1/\pp=(p:Int)-1-a.parts/\a.parts<=p-1/\a.depth<=d-1):=by
    rcases hI with h | h | h
    ·exact .inl h
    ·exact .inr h
    ·omega
   rcases hi with⟨rfl,rfl⟩ | ⟨rfl,rfl,h1,h2⟩
   ·refine ldX hv 0 rfl (by simp) ?_
    intro w9
    refine q11 rfl Mem.nil fun w10 m10=>?_
    have m10:Mem u w10 [(u.heap.size,encX ca)]:=m10
    refine⟨_,m10.lD 0 rfl rfl,_,m10.lD 0 rfl rfl,_,m10.lD 0 rfl rfl,_,m10.lD 0 rfl rfl,_,m10.lD 0 rfl rfl,q03,?_⟩
    have f10:=f.t m10.1
    rw[show(p:Int)-1=((p-1:Nat):Int) by omega,show(d:Int)-1=((d-1:Nat):Int) by omega]
    refine iha (hxa.fr f10) (by omega) (by omega) fun w16 f16=>?_
    have f16:=f10.t f16
    have hk:=hK w16 f16
    unfold smK
    by_cases hok:a.parts<=p-1/\a.depth<=d-1
    ·rw[if_pos hok]
     exact⟨q03,⟨⟨rfl,rfl,rfl,trivial⟩,f16,.inr (.inl ⟨by omega,by omega,hok.1,hok.2⟩)⟩,by dsimp only; omega⟩
    ·rw[if_neg hok]
     rw[if_neg (by omega)] at hk
     exact hk
   ·refine ldX hv 1 rfl (by simp) ?_
    intro w9
    refine q11 rfl Mem.nil fun w10 m10=>?_
    have m10:Mem u w10 [(u.heap.size,encX cb)]:=m10
    refine⟨_,m10.lD 0 rfl rfl,_,m10.lD 0 rfl rfl,_,m10.lD 0 rfl rfl,_,m10.lD 0 rfl rfl,_,m10.lD 0 rfl rfl,q03,?_⟩
    have f10:=f.t m10.1
    rw[show(p:Int)-1-a.parts=((p-1-a.parts:Nat):Int) by omega,show(d:Int)-1=((d-1:Nat):Int) by omega]
    refine ihb (hxb.fr f10) (by omega) (by omega) fun w16 f16=>?_
    have f16:=f10.t f16
    have hk:=hK w16 f16
    unfold smK
    by_cases hok:b.parts<=p-1-a.parts/\b.depth<=d-1
    ·rw[if_pos hok]
     exact⟨q03,⟨⟨rfl,rfl,rfl,trivial⟩,f16,.inr (.inr ⟨by omega,by omega,by omega,h2,hok.2⟩)⟩,by dsimp only; omega⟩
    ·rw[if_neg hok]
     rw[if_neg (by omega)] at hk
     exact hk
  ·have hi:i=2/\pp=(p:Int)-1-a.parts-b.parts/\a.parts+b.parts<=p-1/\a.depth<=d-1/\b.depth<=d-1:=by
    rcases hI with h | h | h
    ·omega
    ·omega
    ·exact h
   obtain⟨_,rfl,h1,h2,h3⟩:=hi
   have hk:=hK u f
   rw[if_pos (by omega),e1] at hk
   rw[show(p:Int)-1-a.parts-b.parts=(p:Int)-((1+a.parts+b.parts:Nat):Int) by omega]
   exact hk
theorem qes:∀ (e:Fm) {c:XC} {w:World} {K:Bool->World->Prop},XP w e c->(∀ w',Fr F0 w w'->K e.formed w')->z2q_sh c.op c.n c.d c.nm c.a K w:=by
 intro e
 induction e with
 | num n k =>
  intro c w K hx hK
  obtain⟨rfl,hn,hd⟩:=hx
  refine z2q_mk _ _ _ _ _ _ _ ?_
  unfold z2q_sd
  intro w1
  have m:Mem w w1 [(w.heap.size,encX ⟨ofL wNum,n,k,ofL [],⟨none,0,0⟩⟩)]:=Mem.nil.allocL (cs:=encX ⟨ofL wNum,n,k,ofL [],⟨none,0,0⟩⟩)
  clear_value w1
  refine⟨_,m.lD 0 rfl rfl,?_⟩
  dsimp -zeta only; rw[show decide (ofL wNum=str [110,117,109])=true by decide]
  refine q3d ⟨_,m.lD 0 rfl rfl,q3d ⟨_,m.lD 0 rfl rfl,?_⟩⟩
  dsimp -zeta only; rw[show decide (ofL []=str [])=true by decide]
  exact q3d ⟨_,m.lD 0 rfl rfl,_,m.lD 0 rfl rfl,q2v hn hd fun w7 f7=>hK w7 (m.1.t f7)⟩
 | name s =>
  intro c w K hx hK
  obtain⟨rfl,_⟩:=hx
  refine z2q_mk _ _ _ _ _ _ _ ?_
  unfold z2q_sd
  intro w1
  have m:Mem w w1 [(w.heap.size,encX ⟨ofL q0n,0,0,ofL s,⟨none,0,0⟩⟩)]:=Mem.nil.allocL (cs:=encX ⟨ofL q0n,0,0,ofL s,⟨none,0,0⟩⟩)
  clear_value w1
  refine⟨_,m.lD 0 rfl rfl,?_⟩
  dsimp -zeta only; rw[show decide (ofL q0n=str [110,117,109])=false by decide,show decide (ofL q0n=str [110,97,109,101])=true by decide]
  refine q44 (q3d ⟨_,m.lD 0 rfl rfl,q3d ⟨_,m.lD 0 rfl rfl,?_⟩⟩)
  dsimp -zeta only; rw[show decide (ofL s=str [])=decide (s=[]) from q0h s []]
  have hk:=hK w1 m.1
  simp only[Fm.formed] at hk
  refine q04.2 ⟨fun h=>⟨_,m.lD 0 rfl rfl,_,m.lD 0 rfl rfl,?_⟩,fun h=>?_⟩
  ·rw[h] at hk; exact hk
  ·rw[h] at hk; exact hk
 | op o a b iha ihb =>
  intro c w K hx hK
  obtain⟨ca,cb,⟨ho,hn,hd,hm⟩,hv,hxa,hxb⟩:=hx
  have e3:c.a.l=2:=hv.len
  obtain⟨c0,c1,c2,c3,c4⟩:=c
  simp only at ho hn hd hm hv e3
  subst ho hn hd hm
  refine z2q_mk _ _ _ _ _ _ _ ?_
  unfold z2q_sd
  intro w1
  have m:Mem w w1 [(w.heap.size,encX ⟨ofL (opB o),0,0,ofL [],c4⟩)]:=Mem.nil.allocL (cs:=encX ⟨ofL (opB o),0,0,ofL [],c4⟩)
  clear_value w1
  refine⟨_,m.lD 0 rfl rfl,?_⟩
  dsimp -zeta only; rw[qmw,qcq]
  refine q44 (q44 ⟨_,m.lD 0 rfl rfl,q9y fun w14 f14=>?_⟩)
  have m:=m.fr f14
  intro w17
  have m:Mem w w17 ((w14.heap.size,[.string (str []),.nilFunc]) :: _):=m.allocL (cs:=[.string (str []),.nilFunc])
  clear_value w17
  refine⟨m.wr 0,?_⟩
  intro w18
  have m:=m.set (i:=0) (v:=.string (ofL (opB o))) 0
  refine qk2 (qk4 o) ⟨m.wr 0,?_⟩
  intro w19
  have m:=m.set (i:=1) (v:=opF o) 0
  refine q3d ⟨_,m.lD 1 rfl rfl,?_⟩
  dsimp -zeta only; rw[show((c4.l:Int) == 2)=true by rw[e3]; rfl]
  refine q3d ⟨_,m.lD 1 rfl rfl,?_⟩
  dsimp -zeta only; rw[show decide (ofL []=str [])=true by decide]
  refine q3d ⟨_,m.lD 1 rfl rfl,_,m.lD 1 rfl rfl,q3d ⟨_,m.lD 1 rfl rfl,?_⟩⟩
  refine ldX (hv.fr m.1) 0 rfl (by simp) ?_
  refine iha (hxa.fr m.1) fun w31 f31=>?_
  have m:=m.fr f31
  have hk:=hK w31 m.1
  simp only[Fm.formed] at hk
  refine q04.2 ⟨fun h=>⟨_,m.lD 1 rfl rfl,?_⟩,fun h=>?_⟩
  ·refine ldX (hv.fr m.1) 1 rfl (by simp) ?_
   refine ihb (hxb.fr m.1) fun w40 f40=>?_
   have hk:=hK w40 (m.1.t f40)
   simp only[Fm.formed] at hk
   rw[h] at hk
   exact hk
  ·rw[h] at hk; exact hk
theorem qhq {e:Fm}{c:XC}{K:Int->World->Prop}(hx:XP w e c)(hK:∀ w',Fr F0 w w'->K e.wrong w'):z3f_sh c.op c.n c.d c.nm c.a K w:=by
 refine⟨?_⟩
 intro w1
 have m:Mem w w1 [(w.heap.size,encX c)]:=Mem.nil.allocL (cs:=encX c)
 clear_value w1
 refine⟨_,m.lD 0 rfl rfl,_,m.lD 0 rfl rfl,_,m.lD 0 rfl rfl,_,m.lD 0 rfl rfl,_,m.lD 0 rfl rfl,?_⟩
 refine qer e (p:=60) (d:=12) (hx.fr m.1) (by decide) (by decide) fun w7 f7=>?_
 have m:=m.fr f7
 unfold smK
 unfold Fm.wrong at hK
 by_cases h:e.parts<=60/\e.depth<=12
 ·rw[if_pos h]
  rw[if_pos h] at hK
  refine q44 ⟨_,m.lD 0 rfl rfl,_,m.lD 0 rfl rfl,_,m.lD 0 rfl rfl,_,m.lD 0 rfl rfl,_,m.lD 0 rfl rfl,?_⟩
  refine qes e (hx.fr m.1) fun w15 f15=>?_
  have hk:=hK w15 (m.1.t f15)
  cases hf:e.formed with
  | true=>rw[hf] at hk; exact q44 hk
  | false=>rw[hf] at hk; exact q3d hk
 ·rw[if_neg h]
  rw[if_neg h] at hK
  exact q3d (hK w7 m.1)
end
