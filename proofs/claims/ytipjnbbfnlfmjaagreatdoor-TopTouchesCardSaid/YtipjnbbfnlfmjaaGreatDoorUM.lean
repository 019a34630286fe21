/- The law's own functions: twice, sanity, the entries. Conditions: none. -/
import Derived.Test.YtipjnbbfnlfmjaaGreatDoorUQZ
import Derived.Test.YtipjnbbfnlfmjaaGreatDoorTN
open List renaming map_append->J0,length_singleton->J1,mem_singleton->J2,length_append->J3,mem_map->J4,range_succ->J5,map_cons->J6,mem_cons->J7,range->J8
namespace Pw
open Go
theorem Ms.congr {w w':World}{r:Nat}{l:List (ByteArray × Value)}(h:Ms w r l)(e:w'.heap[r]?=w.heap[r]?):Ms w' r l:=by
 obtain⟨es,c,h1,h2⟩:=h
 exact⟨es,c,by rw[e]; exact h1,h2⟩
theorem Ms.frF {w w':World}{r:Nat}{l:List (ByteArray × Value)}{F:Nat->Prop}(h:Ms w r l)(f:Fr F w w')(hn:¬F r):Ms w' r l:=by
 obtain⟨es,c,h1,h2⟩:=h
 exact Ms.congr ⟨es,c,h1,h2⟩ (f.2.1 r (Array.getElem?_eq_some_iff.1 h1).1 hn)
theorem qh0 {α:Type}{n:ByteArray}{v:α}:∀ {l:List (ByteArray × α)},(∀ p∈l,p.1≠n)->sput n v l=l++[(n,v)]
 | [],_=>rfl
 | p :: l,h=>by
  unfold sput
  rw[if_neg (h p (by simp)),qh0 fun q hq=>h q (by simp[hq])]
  rfl
theorem sset_frB {w:World}{r:Nat}{n:ByteArray}{v:Value}:Fr (fun b=>b=r) w (w.sset r n v):=by
 refine⟨by simp[World.sset],fun b _ hn=>?_,rfl,rfl,rfl⟩
 unfold World.sset
 rw[Array.getElem?_modify,if_neg fun h=>hn h.symm]
theorem qh1 {n:ByteArray}:∀ {l:List ByteArray},q2p false n (l.map fun m=>(m,true))=false->∀ m∈l,m≠n
 | [],_,m,hm=>by cases hm
 | x :: l,h,m,hm=>by
  simp only[J6,q2p] at h
  split at h
  ·cases h
  ·rename_i hx
   rcases J7.1 hm with rfl | h'
   ·exact hx
   ·exact qh1 h m h'
def encT4 (q:Int × Int × Int × Int):List Value:=[.int .i64 q.1,.int .i64 q.2.1,.int .i64 q.2.2.1,.int .i64 q.2.2.2]
@[simp] theorem encT4_length (q:Int × Int × Int × Int):(encT4 q).length=4:=rfl
end Pw
namespace Dp
open Go Pw
def bidV (q:Int × Int × Int × Int)(i:Nat):Int:=match i % 3 with
 | 0=>q.2.1
 | 1=>q.2.2.1
 | _=>q.2.2.2
def q74 (q:Int × Int × Int × Int):Nat->List Cr->List Vl
 | _,[]=>[]
 | k,c :: l=>(c.name,bidV q k) :: q74 q (k+1) l
theorem qa4 (q:Int × Int × Int × Int):∀ (k:Nat) (l:List Cr) (c:Cr),q74 q k (l++[c])=q74 q k l++[(c.name,bidV q (k+l.length))]
 | k,[],c=>by simp[q74]
 | k,y :: l,c=>by
  show _ :: q74 q (k+1) (l++[c])=_ :: (q74 q (k+1) l++_)
  rw[qa4 q (k+1) l c]
  simp[Nat.add_assoc,Nat.add_comm 1]
theorem q6y (q:Int × Int × Int × Int):∀ (k:Nat) (l:List Cr),(q74 q k l).length=l.length
 | _,[]=>rfl
 | k,_ :: l=>by simp[q74,q6y q (k+1) l]
theorem bid_at (q:Int × Int × Int × Int)(i:Nat):(encT4 q)[1+i % 3]?=some (.int .i64 (bidV q i)):=by
 have h:i % 3<3:=Nat.mod_lt _ (by decide)
 unfold bidV
 generalize i % 3=j at h
 match j,h with
 | 0,_=>rfl
 | 1,_=>rfl
 | 2,_=>rfl
 | n+3,h=>omega
theorem qlr {q:Int × Int × Int × Int}(h:(-9223372036854775808<=q.2.1/\q.2.1<9223372036854775808)/\(-9223372036854775808<=q.2.2.1/\q.2.2.1<9223372036854775808)/\(-9223372036854775808<=q.2.2.2/\q.2.2.2<9223372036854775808)):∀ (k:Nat) (l:List Cr),∀ v∈q74 q k l,-9223372036854775808<=v.2/\v.2<9223372036854775808
 | _,[],v,hv=>by cases hv
 | k,c :: l,v,hv=>by
  rcases J7.1 hv with rfl | hv
  ·show -9223372036854775808<=bidV q k/\bidV q k<9223372036854775808
   unfold bidV
   split
   ·exact h.1
   ·exact h.2.1
   ·exact h.2.2
  ·exact qlr h (k+1) l v hv
end Dp
namespace Go.Proofs.YtipjnbbfnlfmjaaGreatDoor
open Go Pw Dp
section
variable {w w' w0 u:World}{s:Sl}{x:T43}{t:Td}{K:Bool->World->Prop}
theorem ofL_ne {a b:B}(h:ofL a≠ofL b):a≠b:=fun e=>h (by rw[e])
theorem qa5 (T:TP w x t)(hF:Fit t)(hK:∀ r w',Fr F0 w w'->(r=false->(t.crit.map (·.name)).Nodup)->K r w'):z1c_sh x K w:=by
 have el:=T.crit.len
 have hl:=hF.crit
 refine⟨?_⟩
 intro w1
 have m:Mem w w1 [(w.heap.size,x.cs)]:=Mem.nil.allocL (cs:=x.cs)
 clear_value w1
 intro w2
 have q:Ms w2 w1.heap.size []:=Ms.made _
 have m:Mem w w2 [(w.heap.size,x.cs)]:=m.fr Fr.alloc
 have hb:w.heap.size<=w1.heap.size:=by
  have h1:w2.heap.size=w1.heap.size+1:=World.size_alloc _ _
  have:=(m.row 0).lt
  omega
 clear_value w2
 refine⟨_,m.ld (i:=2) 0 rfl rfl,?_⟩
 refine⟨⟨fun i u=>∃ i':Nat,i=i'/\i'<=t.crit.length/\Fr F0 w u/\Ms u w1.heap.size (((t.crit.take i').map fun c=>ofL c.name).map fun m=>(m,.bool true))/\((t.crit.take i').map (·.name)).Nodup,fun i _=>t.crit.length-i.toNat,⟨0,rfl,by omega,m.1,q,by simp⟩,?_⟩⟩
 rintro i u ⟨i,rfl,hi,f,hm,hn⟩
 unfold z1c_b0
 refine q00.2 ⟨fun hlt=>?_,fun hge=>?_⟩
 ·have hil:i<t.crit.length:=by omega
  have tk:t.crit.take (i+1)=t.crit.take i++[t.crit[i]]:=by rw[List.take_add_one,List.getElem?_eq_getElem hil]; rfl
  refine ldCr (T.crit.fr f) i rfl hil ?_
  intro w10
  refine q11 rfl Mem.nil fun w11 m11=>?_
  clear w10
  have m11:Mem u w11 [(u.heap.size,encC t.crit[i])]:=m11
  have f11:=f.t m11.1
  have hm:=hm.frF m11.1 fun h=>h
  refine⟨_,m11.ld (i:=0) 0 rfl rfl,((t.crit.take i).map fun c=>ofL c.name).map fun m=>(m,true),?_,?_⟩
  ·rw[List.map_map]
   exact hm
  refine q04.2 ⟨fun h=>hK true w11 f11 (fun h=>by cases h),fun h=>⟨_,m11.ld (i:=0) 0 rfl rfl,⟨_,hm⟩,?_⟩⟩
  have hne:=qh1 h
  intro w15
  have s15:Fr (fun b=>b=w1.heap.size) w11 w15:=sset_frB
  have hm':Ms w15 w1.heap.size (sput (ofL t.crit[i].name) (.bool true) _):=hm.set _ _
  rw[qh0 fun p hp=>?_] at hm'
  ·refine⟨q03,⟨⟨rfl,rfl,rfl,trivial⟩,i+1,by omega,by omega,f11.trans s15 fun b hbb hlt=>by omega,?_,?_⟩,by dsimp only; omega⟩
   ·rw[tk,J0,J0]
    exact hm'
   ·rw[tk,J0,List.nodup_append]
    refine⟨hn,by simp,fun a ha b hb=>?_⟩
    rw[J6,List.map_nil,J2] at hb
    subst hb
    obtain⟨c,hc,rfl⟩:=J4.1 ha
    exact ofL_ne (hne _ (J4.2 ⟨c,hc,rfl⟩))
  ·obtain⟨m,hm,rfl⟩:=J4.1 hp
   exact hne m hm
 ·have hil:i=t.crit.length:=by omega
  subst hil
  rw[List.take_length] at hn
  exact hK false u f fun _=>hn
theorem qfg {K:Bool->World->Prop}(hK:∀ w',Fr F0 w w'->K true w'):z10_sh K w :=
 ⟨(qdn w).mono fun _ w' he=>⟨true,he.1,hK w' he.2⟩⟩
structure LI (W0:World)(lot:Int)(o:Sl)(es:List En)(u:World):Prop where
 f:Fr F0 W0 u
 ow:Ow 5 encE u o es
 on:∀ b,inB o b->W0.heap.size<=b
 ok:∀ e∈es,EnOk u e/\(∀ b,inB e.v b->b<u.heap.size/\¬inB o b)/\e.l=lot
 b:es.map (·.b)=(J8 es.length).map fun (i:Nat)=>(i:Int)
 r:es.map (·.r)=(J8 es.length).map fun (i:Nat)=>(i:Int)
theorem LI.fr {W0:World}{lot:Int}{o:Sl}{es:List En}(h:LI W0 lot o es u)(f:Fr F0 u w'):LI W0 lot o es w' :=
 ⟨h.f.t f,h.ow.fr f,h.on,fun e he=>⟨(h.ok e he).1.fr f,fun b hb=>⟨Nat.lt_of_lt_of_le ((h.ok e he).2.1 b hb).1 f.1,((h.ok e he).2.1 b hb).2⟩,(h.ok e he).2.2⟩,h.b,h.r⟩
theorem q8q (n:Nat):((J8 n).map fun (i:Nat)=>(i:Int)).Nodup:=by
 rw[List.nodup_iff_pairwise_ne,List.pairwise_map]
 exact List.nodup_range.imp fun h e=>h (by omega)
theorem EnOk.frF {F:Nat->Prop}{e:En}(h:EnOk w e)(f:Fr F w w')(hn:∀ b,inB e.v b->¬F b):EnOk w' e:=⟨h.v.frF f hn,h.len,h.i,h.b,h.r,h.p⟩
theorem LI.push {W0:World}{lot:Int}{o:Sl}{es:List En}{e:En}{K:SW}{cs:Array Value}(h:LI W0 lot o es u)(hc:cs=(encE e).toArray)(hl:es.length<2^20)(he:EnOk u e)(hv:∀ b,inB e.v b->¬inB o b/\b<u.heap.size)(hlot:e.l=lot)(hb:e.b=(es.length:Int))(hr:e.r=(es.length:Int))
  (hK:∀ r u',LI W0 lot r (es++[e]) u'->K r u') :
  apS 5 56 [(Value.int .i64 (0:Int)),(Value.int .i64 (0:Int)),(Value.int .i64 (0:Int)),(Value.int .i64 (0:Int)),(Value.slice none 0 0)] 54 o ⟨some ⟨u.heap.size,0,none⟩,1,1⟩ (u.alloc (Obj.cells cs 54)) K:=by
 have h':=h.fr (Fr.alloc (o:=Obj.cells cs 54))
 have hsz:(u.alloc (Obj.cells cs 54)).heap.size=u.heap.size+1:=World.size_alloc _ _
 refine h'.ow.app (m:=[e]) (Vw.new rfl hc) qk9 rfl (by simp; omega) (by simp; omega) fun r u' ho hf hs=>hK r u' ⟨h'.f.trans hf fun b hb hlt=>by have:=h.on b hb; omega,ho,fun b hb=>?_,fun y hy=>?_,?_,?_⟩
 ·have h1:=h'.f.1
  rcases hs b hb with h2 | h2
  ·exact h.on b h2
  ·omega
 ·rcases List.mem_append.1 hy with hy | hy
  ·obtain⟨q1,q2,q3⟩:=h'.ok y hy
   refine⟨q1.frF hf fun b hb=>(q2 b hb).2,fun b hb=>⟨Nat.lt_of_lt_of_le (q2 b hb).1 hf.1,fun hbr=>?_⟩,q3⟩
   rcases hs b hbr with h2 | h2
   ·exact(q2 b hb).2 h2
   ·have:=(q2 b hb).1
    omega
  ·rw[J2.1 hy]
   have h1:=hf.1
   refine⟨(he.fr Fr.alloc).frF hf fun b hb=>(hv b hb).1,fun b hb=>⟨?_,fun hbr=>?_⟩,hlot⟩
   ·have:=(hv b hb).2
    omega
   rcases hs b hbr with h2 | h2
   ·exact(hv b hb).1 h2
   ·have:=(hv b hb).2
    omega
 ·rw[J0,h.b,J3,J1,J5,J0]
  simp[hb]
 ·rw[J0,h.r,J3,J1,J5,J0]
  simp[hr]
end
