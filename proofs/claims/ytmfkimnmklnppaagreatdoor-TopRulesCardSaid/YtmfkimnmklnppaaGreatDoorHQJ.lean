/- prove: comparing two entries at a low price. Conditions: none. -/
import Derived.Test.YtmfkimnmklnppaaGreatDoorHQI
open List renaming length_append->J0,getElem_mem->J1,map_append->J2,mem_append->J3,append_nil->J4,getElem?_eq_getElem->J5,mem_singleton->J6,not_mem_nil->J7,getElem?_eq_some_iff->J8,take_add_one->J9,take_length->Ja,mem_cons->Jb,length_singleton->Jc,mem_cons_self->Jd,filter_append->Je,length_cons->Jf,length_drop->Jg,range_succ->Jh,range->Ji
open Int renaming emod_lt_of_pos->Jj,emod_nonneg->Jk
open Nat renaming zero_le->Jl,le_refl->Jm
set_option maxRecDepth 20000
namespace Pw
open Go
section
variable{w w' w0:World}{A B L:List Pt}{q:Pt}
theorem Sx.drp(A:List Pt)(h:Sx w0 w (A++B)):Sx w0 w B:=
 h.sub (·+A.length) (fun i j e=>oo) fun i p hi=>oz
theorem Sx.up(A:List Pt)(h:Sx w0 w (A++q::B)):Sx w0 w (q::(A++B)):=
 h.sub (fun i=>if i=0 then A.length else if i<=A.length then i-1 else i) (fun i j e=>by(try dsimp only at e);split at e<;>split at e<;>(try split at e)<;>(try split at e)<;>omega) fun i p hi=>oz
theorem Sx.down(A:List Pt)(h:Sx w0 w (q::(A++B))):Sx w0 w (A++q::B):=
 h.sub (fun i=>if i<A.length then i+1 else if i=A.length then 0 else i) (fun i j e=>by(try dsimp only at e);split at e<;>split at e<;>(try split at e)<;>(try split at e)<;>omega) fun i p hi=>by
  by_cases hl:i<A.length
  ·grind
  ·grind
theorem Sx.skip(A:List Pt)(h:Sx w0 w (q::(A++B))):Sx w0 w (q::B):=(h.down A).drp A
end
end Pw
namespace Go.Proofs.YtmfkimnmklnppaaGreatDoor
open Go Pw Dp
section
variable{w w' w0:World}{t:Td}{x:T43}{rb:Nat}{lf:Int}{mb:Nat}{L:List Pt}
theorem q27{low:Int}{e:En}{K:Int->Int->Bool->World->Prop}(A:List Pt)(h:Sx w0 w (A++Mpt mb::L))(T:TP w0 x t)(E:∀u,Sx w0 u (Mpt mb::L)->EnOk u e)(hlow:I64 low)
  (hb:∀u,Sx w0 u (Mpt mb::L)->RB u rb x lf (some mb))
  (hK:∀w' n d ok,Sx w0 w' (A++Mpt mb::L)->I64 n->I64 d->K n d ok w'):z1s_sh (some ⟨rb,0,none⟩) e.b e.l e.r e.p e.v low K w:=
 qh6 (h.up A) T (fun u hu=>E u (hu.skip A)) hlow (fun u hu=>hb u (hu.skip A)) fun w' n d ok h=>hK w' n d ok (h.down A)
theorem qsu{i j xb yb:Nat}{n d n' d':Int}{ok ok':Bool}{K:Int->Bool->World->Prop}(h:Sx w0 w L)(hx:L[i]?=some (fun c=>c=xb,fun u=>Row u xb [.int .i64 n,.int .i64 d,.bool ok]))(hy:L[j]?=some (fun c=>c=yb,fun u=>Row u yb [.int .i64 n',.int .i64 d',.bool ok']))
  (hn:I64 n) (hd:I64 d) (hn':I64 n') (hd':I64 d') (hK:∀w' r b,Sx w0 w' L->K r b w'):z14_k0 ⟨xb,0,none⟩ ⟨yb,0,none⟩ K w:=by
 refine⟨fi ?_⟩
 intro w1
 have h:Sx w0 w1 _:=h.fr Fr.drew
 clear_value w1
 simp -zeta only[q04]
 obtain⟨S,hSi,hSe⟩:∃S:World->Prop,(∀u,Sx w0 u L->S u)/\∀u,S u->Sx w0 u L:=⟨_,fun _ h=>h,fun _ h=>h⟩
 refine⟨S,hSi _ h,_,fun u hu=>(hSe u hu).ld i hx rfl,_,fun u hu=>(hSe u hu).ld i hx rfl,_,fun u hu=>(hSe u hu).ld j hy rfl,_,fun u hu=>(hSe u hu).ld j hy rfl,_,fun u hu=>(hSe u hu).ld i hx rfl,?_⟩
 refine q40 hn hd hn' hd' fun w2 f2=>⟨S,hSi _ (h.fr f2),fun _ h=>h,?_⟩
 cases ok
 ·exact q0h (hK _ _ _ (h.fr f2))
 ·exact q08 ⟨_,fun u hu=>(hSe u hu).ld j hy rfl,hK _ _ _ (h.fr f2)⟩
theorem q6m{low:Int}{a b:En}{K:Int->Bool->World->Prop}(h:Sx w0 w (Mpt mb::L))(T:TP w0 x t)(Ea:∀u,Sx w0 u (Mpt mb::L)->EnOk u a)(Eb:∀u,Sx w0 u (Mpt mb::L)->EnOk u b)(hlow:I64 low)
  (hb:∀u,Sx w0 u (Mpt mb::L)->RB u rb x lf (some mb))
  (hK:∀w' r ok,Sx w0 w' (Mpt mb::L)->K r ok w'):z14_sh (some ⟨rb,0,none⟩) a.b a.l a.r a.p a.v b.b b.l b.r b.p b.v low K w:=by
 refine⟨fi ?_⟩
 intro w1
 have h:Sx w0 w1 _:=h.row (cs:=encE a)
 clear_value w1
 generalize w.heap.size=ta at h ⊢
 intro w2
 have h:Sx w0 w2 _:=h.row (cs:=encE b)
 clear_value w2
 generalize w1.heap.size=tb at h ⊢
 intro w3
 have h:Sx w0 w3 ((fun c=>c=tb,fun u=>Row u tb (encE b))::(fun c=>c=ta,fun u=>Row u ta (encE a))::Mpt mb::L):=h.fr Fr.drew
 clear_value w3
 obtain⟨S,hSi,hSe⟩:∃S:World->Prop,(∀u,Sx w0 u ((fun c=>c=tb,fun u=>Row u tb (encE b))::(fun c=>c=ta,fun u=>Row u ta (encE a))::Mpt mb::L)->S u)/\∀u,S u->Sx w0 u ((fun c=>c=tb,fun u=>Row u tb (encE b))::(fun c=>c=ta,fun u=>Row u ta (encE a))::Mpt mb::L):=⟨_,fun _ h=>h,fun _ h=>h⟩
 refine⟨S,hSi _ h,_,fun u hu=>(hSe u hu).ld 1 rfl rfl,_,fun u hu=>(hSe u hu).ld 1 rfl rfl,_,fun u hu=>(hSe u hu).ld 1 rfl rfl,_,fun u hu=>(hSe u hu).ld 1 rfl rfl,a.v,fun u hu=>(hSe u hu).ld 1 rfl rfl,_,fun u hu=>(hSe u hu).ld 0 rfl rfl,_,fun u hu=>(hSe u hu).ld 0 rfl rfl,_,fun u hu=>(hSe u hu).ld 0 rfl rfl,_,fun u hu=>(hSe u hu).ld 0 rfl rfl,b.v,fun u hu=>(hSe u hu).ld 0 rfl rfl,?_⟩
 repeat' first
  | exact qsu (i:=0) (j:=1) h rfl rfl ox ox ox ox fun w' r ok h=>hK w' r ok h.tail.tail.tail.tail
  | exact qsu (i:=1) (j:=0) h rfl rfl ox ox ox ox fun w' r ok h=>hK w' r ok h.tail.tail.tail.tail
  | refine q27 (mb:=mb) (L:=L) (e:=a) [_,_] h T Ea hlow hb fun w' n d ok h hn hd=>?_
  | refine q27 (mb:=mb) (L:=L) (e:=b) [_,_] h T Eb hlow hb fun w' n d ok h hn hd=>?_
  | refine q27 (mb:=mb) (L:=L) (e:=a) [_,_,_] h T Ea hlow hb fun w' n d ok h hn hd=>?_
  | refine q27 (mb:=mb) (L:=L) (e:=b) [_,_,_] h T Eb hlow hb fun w' n d ok h hn hd=>?_
  | refine q27 (mb:=mb) (L:=L) (e:=a) [_,_,_,_] h T Ea hlow hb fun w' n d ok h hn hd=>?_
  | refine q27 (mb:=mb) (L:=L) (e:=b) [_,_,_,_] h T Eb hlow hb fun w' n d ok h hn hd=>?_
  | refine⟨hSi _ h,?_⟩
  | refine⟨hSi _ h.tail,?_⟩
  | refine⟨hSi _ h.tail.tail,?_⟩
  | refine h.st 0 rfl rfl fun w' f h=>?_
  | refine h.st 1 rfl rfl fun w' f h=>?_
  | (intro w';have h:Sx w0 w' _:=h.row (cs:=[.int .i64 0,.int .i64 0,.bool false]);clear_value w')
  | refine⟨?_,?_⟩
end
section
variable{w w' w0:World}{t:Td}{x:T43}{rb:Nat}{lf:Int}{mb:Nat}{L:List Pt}
theorem qes{l:Sl}{low other:Int}{a b:En}{K:Bool->World->Prop}(h:Sx w0 w (Mpt mb::L))(T:TP w0 x t)(hv:∀u,Sx w0 u (Mpt mb::L)->Vw 5 encE u l [a,b])
  (Ea:∀u,Sx w0 u (Mpt mb::L)->EnOk u a) (Eb:∀u,Sx w0 u (Mpt mb::L)->EnOk u b) (hlow:I64 low) (hoth:I64 other)
  (hb:∀u,Sx w0 u (Mpt mb::L)->RB u rb x lf (some mb))
  (hK:∀w' r,Sx w0 w' (Mpt mb::L)->K r w'):z1u_sh (some ⟨rb,0,none⟩) l low other K w:=by
 refine⟨fi ?_⟩
 intro w1
 have h:Sx w0 w1 _:=h.fr Fr.drew
 clear_value w1
 obtain⟨S,hSi,hSe⟩:∃S:World->Prop,(∀u,Sx w0 u (Mpt mb::L)->S u)/\∀u,S u->Sx w0 u (Mpt mb::L):=⟨_,fun _ h=>h,fun _ h=>h⟩
 refine⟨S,hSi _ h,?_⟩
 refine Vw.goS (enc:=encE) (S:=S) (fun _=>rfl) od (hSi _ h) (fun u hu=>hv u (hSe u hu)) 0 rfl (by show _<2;omega) fun ad hc=>?_
 refine⟨_,hc 0 _ rfl,_,hc 1 _ rfl,_,hc 2 _ rfl,_,hc 3 _ rfl,a.v,hc 4 _ rfl,?_⟩
 refine Vw.goS (enc:=encE) (S:=S) (fun _=>rfl) od (hSi _ h) (fun u hu=>hv u (hSe u hu)) 1 rfl (by show _<2;omega) fun ad hc=>?_
 refine⟨_,hc 0 _ rfl,_,hc 1 _ rfl,_,hc 2 _ rfl,_,hc 3 _ rfl,b.v,hc 4 _ rfl,?_⟩
 refine q6m (a:=a) (b:=b) h T Ea Eb hlow hb fun w2 r1 ok1 h=>?_
 intro w3
 have h:Sx w0 w3 _:=h.fr Fr.drew
 clear_value w3
 refine⟨S,hSi _ h,?_⟩
 refine Vw.goS (enc:=encE) (S:=S) (fun _=>rfl) od (hSi _ h) (fun u hu=>hv u (hSe u hu)) 0 rfl (by show _<2;omega) fun ad hc=>?_
 refine⟨_,hc 0 _ rfl,_,hc 1 _ rfl,_,hc 2 _ rfl,_,hc 3 _ rfl,a.v,hc 4 _ rfl,?_⟩
 refine Vw.goS (enc:=encE) (S:=S) (fun _=>rfl) od (hSi _ h) (fun u hu=>hv u (hSe u hu)) 1 rfl (by show _<2;omega) fun ad hc=>?_
 refine⟨_,hc 0 _ rfl,_,hc 1 _ rfl,_,hc 2 _ rfl,_,hc 3 _ rfl,b.v,hc 4 _ rfl,?_⟩
 refine q6m (a:=a) (b:=b) h T Ea Eb hoth hb fun w4 r2 ok2 h=>?_
 refine q00.2 ⟨fun _=>?_,fun _=>hK _ _ h⟩
 cases ok1
 ·simp_all
 ·refine q08 ?_
  cases ok2
  ·simp_all
  ·exact q08 (hK _ _ h)
theorem qh7{p:Option Addr}{K:Value->Value->Value->World->Prop}(hK:∀w',Fr F0 w w'->K (.func (.func 285) #[.pointer p] #[]) (.func (.func 286) #[.pointer p] #[]) (.func (.func 287) #[.pointer p] #[]) w'):z1r_sh p K w:=by
 refine⟨fi ?_⟩
 intro w1
 have h:Sx w w1 _:=(Sx.nil Fr.refl).row (cs:=[Value.nilFunc,.nilFunc,.nilFunc])
 clear_value w1
 generalize w.heap.size=t4 at h ⊢
 refine h.st (vs:=[.func (.func 285) #[.pointer p] #[],.func (.func 286) #[.pointer p] #[],.func (.func 287) #[.pointer p] #[]]) 0 rfl rfl fun w2 f2 h=>?_
 exact⟨_,h.ld 0 rfl rfl,_,h.ld 0 rfl rfl,_,h.ld 0 rfl rfl,hK w2 h.fr0⟩
noncomputable def qkh:TypeId:=match Tryz.prog.underlying 316 with
 | some (.array _ e)=>e
 | _=>0
noncomputable def qo7:Bool:=match Tryz.prog.underlying qkh with
 | some (.array _ _)=>false
 | some (.struct _)=>false
 | some _=>true
 | none=>false
theorem idx1{f g k:Value}:(Instr.index 316 (.agg #[f,g,k]) (.int .i64 1)).run Tryz.prog w=.ok g w:=by
 have hk:Tryz.prog.underlying 316=some (.array 3 qkh):=by kernel_rfl
 have hi:Tryz.prog.info? qkh=some ((Tryz.prog.info? qkh).getD default):=by kernel_rfl
 have hz:Tryz.prog.cellsOf qkh=1:=by kernel_rfl
 have hp:qo7=true:=by kernel_rfl
 unfold qo7 at hp
 generalize qkh=et at hk hi hz hp
 have p1:(part et #[f,g,k] 1).run Tryz.prog w=.ok g w:=by
  cases hu:Tryz.prog.underlying et with
  | none=>simp[hu]at hp
  | some d=>cases d<;>simp[hu]at hp<;>simp[part,isAgg,run_underlying hu]
 simp[Instr.index,asIntOf,run_underlying hk,run_sizeOf w hi,hz,p1]
end
section
variable{w w' w0:World}{t:Td}{x:T43}{rb:Nat}{lf:Int}{mb:Nat}{L:List Pt}
theorem encE_ok:∀a:En,∀v∈encE a,okC v=true:=fun a v hv=>by
 simp only[encE,Jb,J7,or_false]at hv
 rcases hv with rfl|rfl|rfl|rfl|rfl<;>rfl
section
variable{ta tb:Nat}{a b:En}{bs:Sl}{bl:List Int}{l:Sl}{el:List En}{N2:Option Addr->Int->Addr->Addr->Value->Int->Sl->Int->Sl->Int->Int->Sl->Int->Int->World->Prop}{N0:Option Addr->Int->Addr->Addr->Value->Int->Sl->Sl->Int->Int->World->Prop}{K:Sl->Bool->World->Prop}{most n m:Int}
theorem qo8{e:En}{K:SW}{A:List Pt}(h:Sx w0 w ((inB l,fun u=>Ow 5 encE u l el)::A))(he:el.length<=3)(hK:∀w' s,Sx w0 w' ((inB s,fun u=>Ow 5 encE u s (el++[e]))::A)->K s w') :
  apS 5 56 [(Value.int .i64 (0:Int)),(Value.int .i64 (0:Int)),(Value.int .i64 (0:Int)),(Value.int .i64 (0:Int)),(Value.slice none 0 0)] 49 l (Sl.mk (some (Addr.mk w.heap.size 0 none)) 1 1) (w.alloc (Obj.cells #[(Value.int .i64 e.b),(Value.int .i64 e.l),(Value.int .i64 e.r),(Value.int .i64 e.p),(Value.slice e.v.p e.v.l e.v.c)] 49)) K:=by
 have hx:Vw 5 encE (w.alloc (Obj.cells (encE e).toArray 49)) ⟨some ⟨w.heap.size,0,none⟩,1,1⟩ [e]:=Vw.new rfl rfl
 have h:Sx w0 (w.alloc (Obj.cells (encE e).toArray 49)) _:=h.fr Fr.alloc
 exact h.app 0 rfl hx encE_ok rfl oz oz fun r w' h f=>hK w' r h
theorem ctr_k4{A:List Pt}(h:Sx w0 w ((inB l,fun u=>Ow 5 encE u l el)::(A++Mpt mb::L)))(he:el.length<=3)(T:TP w0 x t)(R:q0m t)(hb:∀u,Sx w0 u (Mpt mb::L)->RB u rb x lf (some mb))
  (hK:∀w' s b,Sx w0 w' (A++Mpt mb::L)->K s b w'):z15_k4 (some ⟨rb,0,none⟩) 2 most n l N2 N0 K w:=by
 refine⟨fi ?_⟩
 refine q08 ?_
 refine q00.2 ⟨fun _=>?_,fun _=>hK _ _ _ h.tail⟩
 refine qaz (T.fr h.fr0) R (hb w (h.tail.drp A)) fun w1 c1 c2 c3 c4 s f1=>?_
 exact qo8 (e:=⟨c1,c2,c3,c4,s,[]⟩) (h.fr f1) he fun w2 s h=>hK _ _ _ h.tail
theorem ctr_k3{A:List Pt}(h:Sx w0 w ((inB l,fun u=>Ow 5 encE u l el)::(A++Mpt mb::L)))(he:el.length<=2)(T:TP w0 x t)(R:q0m t)(hb:∀u,Sx w0 u (Mpt mb::L)->RB u rb x lf (some mb))
  (hK:∀w' s b,Sx w0 w' (A++Mpt mb::L)->K s b w'):z15_k3 (some ⟨rb,0,none⟩) 2 most n m l N2 N0 K w:=by
 refine⟨fi ?_⟩
 refine qaz (T.fr h.fr0) R (hb w (h.tail.drp A)) fun w1 c1 c2 c3 c4 s f1=>?_
 refine qo8 (e:=⟨c1,c2,c3,c4,s,[]⟩) (h.fr f1) oo fun w2 s h=>?_
 exact ctr_k4 h oz T R hb hK
theorem qet{ls:Sl}{ll:List Int}{K:Sl->Bool->World->Prop}(h:Sx w0 w (Mpt mb::L))(T:TP w0 x t)(R:q0m t)(hv:∀u,Sx w0 u (Mpt mb::L)->Vw 1 encI u ls ll)(hll:ll.length<=100)(hi:∀n∈ll,I64 n)
  (Ea:∀u,Sx w0 u (Mpt mb::L)->EnOk u a) (Eb:∀u,Sx w0 u (Mpt mb::L)->EnOk u b)
  (hb:∀u,Sx w0 u (Mpt mb::L)->RB u rb x lf (some mb))
  (hK:∀w' s r,Sx w0 w' (Mpt mb::L)->K s r w'):z15_sh (some ⟨rb,0,none⟩) 2 a.b a.l a.r a.p a.v b.b b.l b.r b.p b.v ls K w:=by
 refine⟨fi ?_⟩
 intro w1
 have h:Sx w0 w1 _:=h.row (cs:=encE a)
 clear_value w1
 generalize w.heap.size=ta at h ⊢
 intro w2
 have h:Sx w0 w2 _:=h.row (cs:=encE b)
 clear_value w2
 generalize w1.heap.size=tb at h ⊢
 refine qh7 fun w3 f3=>?_
 have h:Sx w0 w3 _:=h.fr f3
 refine⟨q01,_,idx1,_,rfl,?_⟩
 refine⟨_,h.ld 1 rfl rfl,_,h.ld 0 rfl rfl,?_⟩
 generalize min a.p b.p=most
 have hvl:=(hv w3 (h.drp [_,_])).len
 have h:Sx w0 w3 ((fun c=>c=tb,fun u=>Row u tb (encE b))::(fun c=>c=ta,fun u=>Row u ta (encE a))::Mpt mb::L):=h
 have h:=h.add (q:=(inB ⟨none,0,0⟩,fun u=>Ow 1 encI u ⟨none,0,0⟩ [])) Fr.refl (q0b.ow _ _) ⟨rfl,OwnV.nil⟩ fun b ⟨a,ha,_⟩=>by cases ha
 refine⟨⟨fun s i u=>∃(k:Nat) (bl:List Int),i=(k:Int)/\k<=ll.length/\bl.length<=k/\(∀n∈bl,I64 n)/\Sx w0 u ((inB s,fun u=>Ow 1 encI u s bl)::(fun c=>c=tb,fun u=>Row u tb (encE b))::(fun c=>c=ta,fun u=>Row u ta (encE a))::Mpt mb::L),fun _ i _=>ll.length-i.toNat,⟨0,[],rfl,Jl _,Jm _,fun _ h=>(by cases h),h⟩,?_⟩⟩
 rintro s _ u ⟨k,bl,rfl,hk,hbl,hib,h⟩
 refine fi ?_
 refine q00.2 ⟨fun hlt=>?_,fun _=>hK _ _ _ (h.drp [_,_,_])⟩
 have hkl:k<ll.length:=oo
 refine Vw.go (enc:=encI) (fun _=>rfl) od (hv u (h.drp [_,_,_])) k rfl hkl fun ad hc=>?_
 refine⟨_,hc 0 _ rfl,?_⟩
 have hin:=hi _ (J1 hkl)
 generalize ll[k]=n at hin ⊢
 refine q00.2 ⟨fun _=>hK _ _ _ (h.drp [_,_,_]),fun _=>?_⟩
 intro w4
 have h:Sx w0 w4 _:=h.fr Fr.alloc
 clear_value w4
 refine q08 ?_
 refine⟨fi ?_⟩
 have hsl:=(h.get 0 rfl:Ow 1 encI w4 s bl).len
 refine⟨⟨fun i u=>∃(j:Nat),i=(j:Int)/\j<=bl.length/\Sx w0 u ((inB s,fun u=>Ow 1 encI u s bl)::(fun c=>c=tb,fun u=>Row u tb (encE b))::(fun c=>c=ta,fun u=>Row u ta (encE a))::Mpt mb::L),fun i _=>bl.length-i.toNat,⟨0,rfl,Jl _,h⟩,?_⟩⟩
 rintro _ v ⟨j,rfl,hj,h⟩
 refine fi ?_
 refine q00.2 ⟨fun hlt2=>?_,fun _=>?_⟩
 ·have hjl:j<bl.length:=oo
  refine Vw.go (enc:=encI) (fun _=>rfl) od (h.get 0 rfl:Ow 1 encI v s bl).vw j rfl hjl fun ad hc=>?_
  refine⟨_,hc 0 _ rfl,?_⟩
  have him:=hib _ (J1 hjl)
  generalize bl[j]=m at him ⊢
  simp -zeta only[q04]
  refine⟨_,h.ld 2 rfl rfl,_,h.ld 2 rfl rfl,_,h.ld 2 rfl rfl,_,h.ld 2 rfl rfl,a.v,h.ld 2 rfl rfl,_,h.ld 1 rfl rfl,_,h.ld 1 rfl rfl,_,h.ld 1 rfl rfl,_,h.ld 1 rfl rfl,b.v,h.ld 1 rfl rfl,?_⟩
  intro w5
  have hrow:Row w5 v.heap.size ([a,b].flatMap encE):=((Sx.nil (w:=v) Fr.refl).row (cs:=[a,b].flatMap encE)).get 0 rfl
  have h:=h.add (q:=(inB ⟨some ⟨v.heap.size,0,none⟩,2,2⟩,fun u=>Ow 5 encE u ⟨some ⟨v.heap.size,0,none⟩,2,2⟩ [a,b])) (w':=w5) Fr.alloc (q0b.ow _ _) (Row.ow (n:=5) (enc:=encE) (l:=[a,b]) (fun _=>rfl) hrow) fun b ⟨a,ha,hb⟩=>by
   cases ha
   subst hb
   exact⟨Jm _,by simp[w5]⟩
  clear_value w5
  refine q02 z1u_ok (show z1u_sh (some ⟨rb,0,none⟩) ⟨some ⟨v.heap.size,0,none⟩,2,2⟩ m n _ w5 from ?_)
  refine qes (a:=a) (b:=b) (lf:=lf) (h.up [_,_,_,_]) T (fun u h=>(h.get 1 rfl:Ow 5 encE u ⟨some ⟨v.heap.size,0,none⟩,2,2⟩ [a,b]).vw) (fun u h=>Ea u (h.skip [_,_,_,_])) (fun u h=>Eb u (h.skip [_,_,_,_])) him hin (fun u h=>hb u (h.skip [_,_,_,_])) fun w6 r h=>?_
  have h:=h.down [_,_,_,_]
  refine⟨r,rfl,?_⟩
  refine qo6 (fun _=>?_) fun _=>?_
  ·exact⟨q01,⟨⟨trivial,trivial,trivial,trivial,trivial,trivial,trivial,trivial,trivial,trivial,trivial,trivial,trivial,trivial⟩,j+1,oo,oo,h.tail⟩,oo⟩
  ·refine q08 ?_
   exact ctr_k3 (A:=[_,_,_]) h oz T R hb fun w' s b h=>hK w' s b (h.drp [_,_,_])
 ·intro w5
  have hx:Vw 1 encI w5 ⟨some ⟨v.heap.size,0,none⟩,1,1⟩ [n]:=Vw.new rfl rfl
  have h:Sx w0 w5 _:=h.fr Fr.alloc
  clear_value w5
  refine h.app 0 rfl hx q47 rfl oz oz fun r w6 h f6=>?_
  refine⟨q01,⟨⟨rfl,rfl,rfl,rfl,rfl,rfl,rfl,rfl,trivial⟩,k+1,bl++[n],oo,oo,by rw[J0];show bl.length+1<=_;omega,fun z hz=>?_,h⟩,uo⟩
  grind
end
end
section
variable{w w' w0:World}{t:Td}{x:T43}{rb:Nat}{lf:Int}{mb:Nat}{A:List Pt}{ld lb d fn:Nat}{tmps:Array Value}{t4 t23:Value}
abbrev EP(es:List En):Pt:=(fun b=>∃e∈es,inB e.v b,fun u=>∀e∈es,EnOk u e)
theorem q0b.en(e:En):q0b (inB e.v) (fun u=>EnOk u e):=fun u u' he h=>{ h with v:=q0b.vw e.v e.vals u u' he h.v }
theorem q0b.ep(es:List En):q0b (EP es).1 (EP es).2:=fun u u' he h e hm=>q0b.en e u u' (fun b hb=>he b ⟨e,hm,hb⟩) (h e hm)
abbrev RL(ld:Nat)(o:Obj)(lb:Nat)(s:Sl)(es:List En)(A:List Pt):List Pt:=
 (fun c=>c=ld,fun u=>u.heap[ld]?=some o)::(fun c=>c=lb,fun u=>Row u lb [.slice s.p s.l s.c])::(inB s,fun u=>Ow 5 encE u s es)::EP es::A
noncomputable abbrev rcS(fn:Nat)(tmps:Array Value)(d:Nat):Obj:=lrec fn tmps z1t_ps0 z1t_as0 z1t_bd0 d .ready none
noncomputable abbrev rcB(fn:Nat)(tmps:Array Value)(d:Nat):Obj:=lrec fn tmps z1t_ps0 z1t_as0 z1t_bd0 d .busy none
theorem stepS{e:En}{s:Sl}{es:List En}{ta:Nat}{K':VW}(h:Sx w0 w (RL ld (rcS fn tmps d) lb s es ((inB e.v,fun u=>EnOk u e)::A)))(hl:es.length<400)
  (hag:agrT 99 [(0,(Value.pointer (some ⟨rb,0,none⟩))),(1,(Value.int .i64 2)),(4,(Value.pointer (some ⟨ta,0,none⟩))),(5,(Value.bool false)),(6,(Value.pointer (some ⟨lb,0,none⟩))),(23,t23)] tmps)
  (hK:∀w' s' es',Sx w0 w' (RL ld (rcS fn tmps d) lb s' es' A)->es'.length=es.length+1->K' (.bool true) w') :
  Yl Tryz.prog ld #[.agg #[.int .i64 e.b,.int .i64 e.l,.int .i64 e.r,.int .i64 e.p,.slice e.v.p e.v.l e.v.c]] w K':=by
 refine z1t_y0 hag (h.get 0 rfl) ⟨fi ?_⟩
 refine h.box (vs:=encE e) rfl fun w1 f1 h=>?_
 generalize w.heap.size=xb at h ⊢
 refine⟨h.get 1 rfl,?_⟩
 have h:Sx w0 _ (_::RL ld (rcB fn tmps d) lb s es ((inB e.v,fun u=>EnOk u e)::A)):=h.obj (o':=rcB fn tmps d) 1 rfl
 generalize w1.putObj ld (rcB fn tmps d)=w2 at *
 have hsl:=(h.get 3 rfl:Ow 5 encE w2 s es).len
 dsimp -zeta only
 refine⟨s,h.ld 2 rfl rfl,q01,h.wr 0 rfl rfl,?_⟩
 intro w3
 have h:Sx w0 w3 _:=h.set (i:=0) (v:=.int .i64 ((s.l:Int)+1)) 0 rfl
 clear_value w3
 refine⟨s,h.ld 2 rfl rfl,_,h.ld 0 rfl rfl,_,h.ld 0 rfl rfl,_,h.ld 0 rfl rfl,_,h.ld 0 rfl rfl,e.v,h.ld 0 rfl rfl,?_⟩
 intro w4
 have hx:Vw 5 encE w4 ⟨some ⟨w3.heap.size,0,none⟩,1,1⟩ [{ e with b:=(s.l:Int)+1 }]:=Vw.new rfl rfl
 have h:Sx w0 w4 ((fun c=>c=xb,fun u=>Row u xb ((encE e).set 0 (.int .i64 ((s.l:Int)+1))))::RL ld (rcB fn tmps d) lb s es ((inB e.v,fun u=>EnOk u e)::A)):=h.fr Fr.alloc
 clear_value w4
 refine h.app 3 rfl hx encE_ok rfl oz oz fun r w5 h f5=>?_
 refine⟨h.wr 2 rfl rfl,?_⟩
 intro w6
 have h:Sx w0 w6 _:=h.set (i:=0) (v:=.slice r.p r.l r.c) 2 rfl
 clear_value w6
 have hrl:=(h.get 3 rfl:Ow 5 encE w6 r (es++[{ e with b:=(s.l:Int)+1 }])).len
 rw[J0]at hrl
 refine⟨r,h.ld 2 rfl rfl,q00.2 ⟨fun h=>?_,fun _=>?_⟩⟩
 ·grind
 refine⟨h.get 1 rfl,?_⟩
 have h:Sx w0 _ ((fun c=>c=xb,fun u=>Row u xb ((encE e).set 0 (.int .i64 ((s.l:Int)+1))))::(RL ld (rcS fn tmps d) lb r (es++[{ e with b:=(s.l:Int)+1 }]) ((inB e.v,fun u=>EnOk u e)::A)).set 3 (EP es)):=h.obj (o':=rcS fn tmps d) 1 rfl
 have h:=h.tail
 have h:=Sx.joinM (A:=[(fun c=>c=ld,fun u=>u.heap[ld]?=some (rcS fn tmps d)),(fun c=>c=lb,fun u=>Row u lb [.slice r.p r.l r.c]),(inB r,fun u=>Ow 5 encE u r (es++[{ e with b:=(s.l:Int)+1 }])),EP es]) (B:=A) (r:=EP (es++[{ e with b:=(s.l:Int)+1 }])) h 3 rfl (q0b.ep _) (fun h1 h2 a ha=>by
  rcases J3.1 ha with ha|ha
  ·exact h1 a ha
  ·rw[J6.1 ha]
   have h2:EnOk _ e:=h2
   exact { h2 with b:=⟨by show _<=(s.l:Int)+1;omega,by show(s.l:Int)+1<_;omega⟩ }) (fun b ⟨a,ha,hb⟩=>by
  rcases J3.1 ha with ha|ha
  ·grind
  ·grind)
 exact hK _ r _ h oz
theorem qb0{l:Sl}{vs:List Int}{L:List Pt}{K:Sl->World->Prop}(h:Sx w0 w L)(hv:Ow 1 encI w l vs)(hl:vs.length<=100)(hK:∀w' s,Fr F0 w w'->Sx w0 w' ((inB s,fun u=>Ow 1 encI u s vs)::L)->K s w'):z4w_sh l K w:=by
 have hvl:=hv.len
 refine⟨fi ?_⟩
 obtain⟨hv1,⟨hp,h0,hc⟩|⟨b,cs,hp,hr⟩⟩:=hv.own
 ·rw[hp]
  refine q08 ?_
  have:vs=[]:=List.eq_nil_of_length_eq_zero oo
  subst this
  exact hK w _ Fr.refl (h.add (q:=(inB ⟨none,0,0⟩,fun u=>Ow 1 encI u ⟨none,0,0⟩ [])) Fr.refl (q0b.ow _ _) ⟨rfl,OwnV.nil⟩ fun b ⟨a,ha,_⟩=>by cases ha)
 ·rw[hp]
  refine q0h ?_
  intro w1
  have hrow:Row w1 w.heap.size (([]:List Int).flatMap encI):=((Sx.nil (w:=w) Fr.refl).row (cs:=[])).get 0 rfl
  have h:=h.add (q:=(inB ⟨some ⟨w.heap.size,0,none⟩,0,0⟩,fun u=>Ow 1 encI u ⟨some ⟨w.heap.size,0,none⟩,0,0⟩ [])) (w':=w1) Fr.alloc (q0b.ow _ _) (Row.ow (n:=1) (enc:=encI) (l:=[]) (fun _=>rfl) hrow) fun b ⟨a,ha,hb⟩=>by
   cases ha
   subst hb
   exact⟨Jm _,by simp[w1]⟩
  have hx:Vw 1 encI w1 l vs:=hv.vw.fr Fr.alloc
  have f1:Fr F0 w w1:=Fr.alloc
  clear_value w1
  exact h.app 0 rfl hx q47 rfl oz oz fun r w2 h f=>hK w2 r (f1.trans f fun b hb hlt=>by
   obtain⟨a,ha,hb⟩:=hb
   grind) h
structure Fx(w0:World)(A:List Pt)(x:T43)(t:Td)(rb mb:Nat)(lf:Int)(ld tp ty tr ta te:Nat)(ss:Sl):Prop where
 te:∃j:Nat,A[j]?=some (fun c=>c=te,fun u=>Row u te [.func (.func 245) #[] #[.pointer (some ⟨tp,0,none⟩),.pointer (some ⟨ty,0,none⟩),.pointer (some ⟨tr,0,none⟩),.pointer (some ⟨ta,0,none⟩),.pointer (some ⟨te,0,none⟩)]])
 ty:∃j:Nat,A[j]?=some (fun c=>c=ty,fun u=>Row u ty [.func (.yield ld) #[] #[]])
 tp:∃j:Nat,A[j]?=some (fun c=>c=tp,fun u=>Row u tp [.slice ss.p ss.l ss.c])
 ss:∃j:Nat,A[j]?=some (inB ss,fun u=>Ow 2 encL u ss (q0z t))
 tr:∃j:Nat,A[j]?=some (fun c=>c=tr,fun u=>Row u tr [.pointer (some ⟨rb,0,none⟩)])
 ta:∃j:Nat,A[j]?=some (fun c=>c=ta,fun u=>Row u ta [.bool false])
 rb:∃(j:Nat) (c:Nat->Prop),A[j]?=some (c,fun u=>RB u rb x lf (some mb))
theorem Fx.cons{q:Pt}{tp ty tr ta te:Nat}{ss:Sl}(h:Fx w0 A x t rb mb lf ld tp ty tr ta te ss):Fx w0 (q::A) x t rb mb lf ld tp ty tr ta te ss:=
 ⟨h.te.imp' (·+1) fun _ h=>h,h.ty.imp' (·+1) fun _ h=>h,h.tp.imp' (·+1) fun _ h=>h,h.ss.imp' (·+1) fun _ h=>h,h.tr.imp' (·+1) fun _ h=>h,h.ta.imp' (·+1) fun _ h=>h,h.rb.imp' (·+1) fun _ h=>h⟩
end
section
variable{w w' w0:World}{t:Td}{x:T43}{rb:Nat}{lf:Int}{mb:Nat}{ld lb d fn:Nat}{tmps:Array Value}{t23:Value}{tp ty tr ta te tv:Nat}{ss:Sl}
theorem qo9{p:Int×Int}(h0:0<=p.1)(h1:p.1+2<=p.2)(h2:p.2<=1000000000):∀v∈q36 p,I64 v:=fun v hv=>by
 have hm:p.1<Int.tdiv (p.1+p.2) 2/\Int.tdiv (p.1+p.2) 2<p.2:=oz
 unfold q36 at hv
 simp only[Jb,J7,or_false]at hv
 rcases hv with rfl|rfl|rfl<;>exact⟨oo,oo⟩
theorem qrq(T:TP w0 x t)(R:q0m t)(hsp:∀p∈q0z t,0<=p.1/\p.1+2<=p.2/\p.2<=1000000000)
  (hag:agrT 99 [(0,(Value.pointer (some ⟨rb,0,none⟩))),(1,(Value.int .i64 2)),(4,(Value.pointer (some ⟨tv,0,none⟩))),(5,(Value.bool false)),(6,(Value.pointer (some ⟨lb,0,none⟩))),(23,t23)] tmps) :
  ∀(k:Nat) {A:List Pt} {l:Sl} {vs:List Int} {s:Sl} {es:List En} {w:World} {K:Bool->World->Prop},k+vs.length=(q0z t).length->Fx w0 A x t rb mb lf ld tp ty tr ta te ss ->
   Sx w0 w (RL ld (rcS fn tmps d) lb s es ((inB l,fun u=>Ow 1 encI u l vs)::A))->(∀v∈vs,I64 v)->es.length+3^k<=400 ->
   (∀w' s' es',Sx w0 w' (RL ld (rcS fn tmps d) lb s' es' ((inB l,fun u=>Ow 1 encI u l vs)::A))->es'.length=es.length+3^k->K true w') ->
   z0b_sh l ⟨tp,0,none⟩ ⟨ty,0,none⟩ ⟨tr,0,none⟩ ⟨ta,0,none⟩ ⟨te,0,none⟩ K w:=by
 have hcl:=R.crit
 have hsl:(q0z t).length=t.crit.length+1:=by unfold q0z;rw[Jf,List.length_map]
 intro k
 induction k with
 | zero =>
  intro A l vs s es w K hk hF h hvi hb hK
  obtain⟨jp,hjp⟩:=hF.tp
  obtain⟨jy,hjy⟩:=hF.ty
  obtain⟨jr,hjr⟩:=hF.tr
  obtain⟨js,hjs⟩:=hF.ss
  obtain⟨jb,cb,hjb⟩:=hF.rb
  refine⟨fi ?_⟩
  refine⟨ss,h.ld (jp+5) hjp rfl,?_⟩
  have hl:=(h.get 4 rfl:Ow 1 encI w l vs).len
  have hssl:=(h.get (js+5) hjs:Ow 2 encL w ss (q0z t)).len
  refine q0i.2 ⟨fun _=>?_,fun hne=>absurd (show(l.l:Int)=ss.l by omega) hne⟩
  intro w2
  have h:Sx w0 w2 _:=h.fr Fr.drew
  clear_value w2
  obtain⟨S,hSi,hSe⟩:∃S:World->Prop,(∀u s es,Sx w0 u (RL ld (rcS fn tmps d) lb s es ((inB l,fun u=>Ow 1 encI u l vs)::A))->S u)/\∀u,S u->∃s es,Sx w0 u (RL ld (rcS fn tmps d) lb s es ((inB l,fun u=>Ow 1 encI u l vs)::A)):=⟨fun u=>∃s es,Sx w0 u (RL ld (rcS fn tmps d) lb s es ((inB l,fun u=>Ow 1 encI u l vs)::A)),fun _ s es h=>⟨s,es,h⟩,fun _ h=>h⟩
  refine⟨S,hSi _ _ _ h,_,fun u hu=>let⟨_,_,h⟩:=hSe u hu;h.ld (jy+5) hjy rfl,some ⟨rb,0,none⟩,fun u hu=>let⟨_,_,h⟩:=hSe u hu;h.ld (jr+5) hjr rfl,?_⟩
  cases vs with
  | nil=>simp at hk;omega
  | cons p vs =>
  rw[Jf]at hk
  refine qay (T.fr h.fr0) R (h.get (jb+5) hjb:RB w2 rb x lf (some mb)) (h.get 4 rfl:Ow 1 encI w2 l (p::vs)).vw oo fun w6 id s6 f6 hid hv6 hn6=>?_
  have hen:EnOk w6 ⟨0,id,0,p,s6,q59 t vs⟩:=⟨hv6,by show(q59 t vs).length<_;rw[qen oo];omega,fun v hv=>hvi _ (List.mem_cons_of_mem _ (List.of_mem_zip hv).2),⟨by show _<=(0:Int);omega,by show(0:Int)<_;omega⟩,⟨by show _<=(0:Int);omega,by show(0:Int)<_;omega⟩,hvi _ (Jd ..)⟩
  have hh:=Sx.ins (A:=[_,_,_,_]) (q:=(inB s6,fun u=>EnOk u ⟨0,id,0,p,s6,q59 t vs⟩)) h f6 (q0b.en ⟨0,id,0,p,s6,q59 t vs⟩) hen hn6
  refine⟨hSi _ _ _ (h.fr f6),q5l (stepS (e:=⟨0,id,0,p,s6,q59 t vs⟩) hh oo hag fun w9 s' es' h' hl'=>⟨true,rfl,hSi _ _ _ h',hK _ _ _ h' oo⟩)⟩
 | succ k ih =>
  intro A l vs s es w K hk hF h hvi hb hK
  obtain⟨jp,hjp⟩:=hF.tp
  obtain⟨je,hje⟩:=hF.te
  obtain⟨ja,hja⟩:=hF.ta
  obtain⟨js,hjs⟩:=hF.ss
  have hvl:vs.length<=100:=oo
  refine⟨fi ?_⟩
  refine⟨ss,h.ld (jp+5) hjp rfl,?_⟩
  have hl:=(h.get 4 rfl:Ow 1 encI w l vs).len
  have hssl:=(h.get (js+5) hjs:Ow 2 encL w ss (q0z t)).len
  refine q0i.2 ⟨fun he=>absurd (show(l.l:Int)=ss.l from he) oo,fun _=>?_⟩
  intro w2
  have h:Sx w0 w2 _:=h.fr Fr.drew
  clear_value w2
  obtain⟨S,hSi,hSe⟩:∃S:World->Prop,(∀u s es,Sx w0 u (RL ld (rcS fn tmps d) lb s es ((inB l,fun u=>Ow 1 encI u l vs)::A))->S u)/\∀u,S u->∃s es,Sx w0 u (RL ld (rcS fn tmps d) lb s es ((inB l,fun u=>Ow 1 encI u l vs)::A)):=⟨fun u=>∃s es,Sx w0 u (RL ld (rcS fn tmps d) lb s es ((inB l,fun u=>Ow 1 encI u l vs)::A)),fun _ s es h=>⟨s,es,h⟩,fun _ h=>h⟩
  have hll:l.l<(q0z t).length:=oo
  refine⟨S,hSi _ _ _ h,ss,fun u hu=>let⟨_,_,h⟩:=hSe u hu;h.ld (jp+5) hjp rfl,?_⟩
  refine Vw.goS (enc:=encL) (S:=S) (fun _=>rfl) od (hSi _ _ _ h) (fun u hu=>let⟨_,_,h⟩:=hSe u hu;(h.get (js+5) hjs:Ow 2 encL u ss (q0z t)).vw) l.l rfl hll fun ad hc=>?_
  obtain⟨hp0,hp1,hp2⟩:=hsp _ (J1 hll)
  generalize(q0z t)[l.l]=p at hc hp0 hp1 hp2
  refine⟨p.1,hc 0 _ rfl,p.2,hc 1 _ rfl,false,fun u hu=>let⟨_,_,h⟩:=hSe u hu;h.ld (ja+5) hja rfl,?_⟩
  refine q9f hp0 hp1 hp2 fun w4 r4 f4 hv4 hn4=>⟨hSi _ _ _ (h.fr f4),?_⟩
  have h:=Sx.ins (A:=[_,_,_,_]) (q:=(inB r4,fun u=>Vw 1 encI u r4 (q36 p))) h f4 (q0b.vw _ _) hv4 hn4
  have hi3:=qo9 hp0 hp1 hp2
  have h3:(q36 p).length=3:=rfl
  have hr4:=hv4.len
  refine⟨⟨fun i u=>∃(j:Nat) (s':Sl) (es':List En),i=(j:Int)/\j<=3/\es'.length=es.length+j*3^k/\Sx w0 u (RL ld (rcS fn tmps d) lb s' es' ((inB r4,fun u=>Vw 1 encI u r4 (q36 p))::(inB l,fun u=>Ow 1 encI u l vs)::A)),fun i _=>3-i.toNat,⟨0,s,es,rfl,oo,oo,h⟩,?_⟩⟩
  rintro _ u ⟨j,s',es',rfl,hj,hes,h⟩
  refine fi ?_
  refine q00.2 ⟨fun hlt=>?_,fun hge=>?_⟩
  ·have hjl:j<(q36 p).length:=oo
   refine Vw.go (enc:=encI) (fun _=>rfl) od (h.get 4 rfl:Vw 1 encI u r4 (q36 p)) j rfl hjl fun ad hc=>?_
   refine⟨_,hc 0 _ rfl,?_⟩
   have hin:=hi3 _ (J1 hjl)
   generalize(q36 p)[j]=n at hin ⊢
   intro w5
   have h:Sx w0 w5 _:=h.fr Fr.drew
   clear_value w5
   obtain⟨S,hSi,hSe⟩:∃S:World->Prop,(∀u s es,Sx w0 u (RL ld (rcS fn tmps d) lb s es ((inB r4,fun u=>Vw 1 encI u r4 (q36 p))::(inB l,fun u=>Ow 1 encI u l vs)::A))->S u)/\∀u,S u->∃s es,Sx w0 u (RL ld (rcS fn tmps d) lb s es ((inB r4,fun u=>Vw 1 encI u r4 (q36 p))::(inB l,fun u=>Ow 1 encI u l vs)::A)):=⟨fun u=>∃s es,Sx w0 u (RL ld (rcS fn tmps d) lb s es ((inB r4,fun u=>Vw 1 encI u r4 (q36 p))::(inB l,fun u=>Ow 1 encI u l vs)::A)),fun _ s es h=>⟨s,es,h⟩,fun _ h=>h⟩
   have hbud:es'.length+3^k<=400:=by
    rw[Nat.pow_succ]at hb
    generalize 3^k=m at hb hes ⊢
    have:=Nat.mul_le_mul_right m (show j+1<=3 by omega)
    grind
   have hvi':∀v∈vs++[n],I64 v:=fun v hv=>oz
   have fin:∀(w9:World) (s9:Sl) (Kb:Bool->World->Prop),Sx w0 w9 (RL ld (rcS fn tmps d) lb s' es' ((inB s9,fun u=>Ow 1 encI u s9 (vs++[n]))::(inB r4,fun u=>Vw 1 encI u r4 (q36 p))::(inB l,fun u=>Ow 1 encI u l vs)::A)) -> 
     (∀w' s1 es1,es1.length=es.length+(j+1)*3^k->Sx w0 w' (RL ld (rcS fn tmps d) lb s1 es1 ((inB r4,fun u=>Vw 1 encI u r4 (q36 p))::(inB l,fun u=>Ow 1 encI u l vs)::A))->Kb true w') ->
     z0b_sh s9 ⟨tp,0,none⟩ ⟨ty,0,none⟩ ⟨tr,0,none⟩ ⟨ta,0,none⟩ ⟨te,0,none⟩ Kb w9:=fun w9 s9 Kb h9 hK9 =>
    ih oz hF.cons.cons h9 hvi' hbud fun w' s1 es1 h1 hl1=>hK9 w' s1 es1 oz (Sx.del (A:=[_,_,_,_]) h1)
   refine⟨S,hSi _ _ _ h,_,fun u hu=>let⟨_,_,h⟩:=hSe u hu;h.ld (je+6) hje rfl,?_,?_⟩
   ·refine qb0 h (h.get 5 rfl:Ow 1 encI w5 l vs) hvl fun w6 r6 f6 h=>⟨hSi _ _ _ h.tail,?_⟩
    intro w7
    have hx:Vw 1 encI w7 ⟨some ⟨w6.heap.size,0,none⟩,1,1⟩ [n]:=Vw.new rfl rfl
    have h:Sx w0 w7 _:=h.fr Fr.alloc
    clear_value w7
    refine⟨hSi _ _ _ h.tail,?_⟩
    refine h.app 0 rfl hx q47 rfl oz oz fun r w8 h f8=>⟨hSi _ _ _ h.tail,?_⟩
    refine q02 z0b_ok (fin w8 r _ (h.down [_,_,_,_]) fun w9 s1 es1 hl1 h1=>⟨true,rfl,q0h ⟨q01,⟨⟨rfl,rfl,rfl,rfl,trivial⟩,j+1,s1,es1,oo,oo,hl1,h1⟩,uo⟩⟩)
   ·intro w7
    have hx:Vw 1 encI w7 ⟨some ⟨w5.heap.size,0,none⟩,1,1⟩ [n]:=Vw.new rfl rfl
    have h:Sx w0 w7 _:=h.fr Fr.alloc
    clear_value w7
    refine⟨hSi _ _ _ h,?_⟩
    refine qb0 h (h.get 5 rfl:Ow 1 encI w7 l vs) hvl fun w6 r6 f6 h=>⟨hSi _ _ _ h.tail,?_⟩
    refine h.app 0 rfl (hx.fr f6) q47 rfl oz oz fun r w8 h f8=>⟨hSi _ _ _ h.tail,?_⟩
    refine q02 z0b_ok (fin w8 r _ (h.down [_,_,_,_]) fun w9 s1 es1 hl1 h1=>⟨true,rfl,q0h ⟨q01,⟨⟨rfl,rfl,rfl,rfl,trivial⟩,j+1,s1,es1,oo,oo,hl1,h1⟩,uo⟩⟩)
  ·have hj3:j=3:=oo
   subst hj3
   exact hK u s' es' (Sx.del (A:=[_,_,_,_]) h) oo
end
end Go.Proofs.YtmfkimnmklnppaaGreatDoor
namespace Pw
open Go
section
variable{w w' w0:World}{L:List Pt}
abbrev qki(w0 w:World)(rb:Nat):Pt:=(fun b=>w0.heap.size<=b/\b<w.heap.size/\b≠rb,fun u=>∀b,w0.heap.size<=b->b<w.heap.size->b≠rb->u.heap[b]?=w.heap[b]?)
theorem Sx.start{rb:Nat}{cs:List Value}(f:Fr F0 w0 w)(hrb:w0.heap.size<=rb)(r:Row w rb cs):Sx w0 w [(fun c=>c=rb,fun u=>Row u rb cs),qki w0 w rb]:=by
 have hlt:=r.lt
 refine⟨f,fun i p hi=>?_,fun i p hi=>?_,fun i p hi b hb=>?_,fun i j p q hij hi hj b hb hq=>?_⟩
 ·match i,hi with
  | 0,hi=>cases hi;exact q0b.row _ _
  | 1,hi=>cases hi;exact fun u u' he h b h1 h2 h3=>(he b ⟨h1,h2,h3⟩).trans (h b h1 h2 h3)
 ·grind
 ·grind
 ·grind
theorem Sx.stop{rb tv:Nat}{Q:World->Prop}(h:Sx w0 w' L)(f:Fr F0 w0 w){i j:Nat}(hi:L[i]?=some (qki w0 w rb))(hj:L[j]?=some (fun c=>c=tv,Q))(ht:w.heap.size<=tv):Fr (fun c=>c=rb) w w':=by
 have h1:=h.fr0
 have h2:=(h.nw j _ hj tv rfl).2
 refine⟨oo,fun b hb hn=>?_,h1.2.2.1.trans f.2.2.1.symm,h1.2.2.2.1.trans f.2.2.2.1.symm,h1.2.2.2.2.trans f.2.2.2.2.symm⟩
 by_cases hb0:b<w0.heap.size
 ·rw[h1.2.1 b hb0 fun h=>h,f.2.1 b hb0 fun h=>h]
 ·exact(h.get i hi:∀b,w0.heap.size<=b->b<w.heap.size->b≠rb->w'.heap[b]?=w.heap[b]?) b oo hb hn
theorem quw{P:Program}{n:Nat}{σ:St}{v:Value}{ps:Array Tmp}{sa bd:Code}{N R:World->Prop}(h:Sx w0 w L)(hv:∃gf first cap,v=.func (.func gf) first cap)
  (hz:∀fn tmps w1,agrT n σ tmps->Sx w0 w1 ((fun c=>c=w.heap.size+1,fun u=>u.heap[w.heap.size+1]?=some (lrec fn tmps ps sa bd w.heap.size .ready none))::(fun c=>c=w.heap.size,fun u=>u.heap[w.heap.size]?=some (.deferred (some [])))::L) ->
   q0y P v [.func (.yield (w.heap.size+1)) #[] #[]] w1 fun _ w'=>w'.heap[w.heap.size+1]?=some (lrec fn tmps ps sa bd w.heap.size .ready none)/\N (w'.putObj (w.heap.size+1) (lrec fn tmps ps sa bd w.heap.size .exhausted none))) :
  rfF P n σ v ps sa bd w N R:=by
 refine⟨hv,fun fn tmps hag=>?_⟩
 have hd:Fr F0 w (w.alloc (.deferred (some []))):=Fr.alloc
 have hdD:(w.alloc (.deferred (some []))).heap[w.heap.size]?=some (.deferred (some [])):=by show(w.heap.push _)[w.heap.size]?=_;simp
 have hds:(w.alloc (.deferred (some []))).heap.size=w.heap.size+1:=ud
 generalize w.alloc (.deferred (some []))=wd at *
 have hl:Fr F0 wd (wd.alloc (lrec fn tmps ps sa bd w.heap.size .ready none)):=Fr.alloc
 have hlL:(wd.alloc (lrec fn tmps ps sa bd w.heap.size .ready none)).heap[wd.heap.size]?=some (lrec fn tmps ps sa bd w.heap.size .ready none):=by
  show(wd.heap.push _)[wd.heap.size]?=_;simp
 have hls:(wd.alloc (lrec fn tmps ps sa bd w.heap.size .ready none)).heap.size=wd.heap.size+1:=ud
 generalize wd.alloc (lrec fn tmps ps sa bd w.heap.size .ready none)=wl at *
 rw[hds]at hlL hls
 have h0:Sx w0 wd ((fun c=>c=w.heap.size,fun u=>u.heap[w.heap.size]?=some (.deferred (some [])))::L):=h.add hd (fun _ _ he h=>(he _ rfl).trans h) hdD fun b hb=>oo
 have h1:=h0.add (q:=(fun c=>c=w.heap.size+1,fun u=>u.heap[w.heap.size+1]?=some (lrec fn tmps ps sa bd w.heap.size .ready none))) hl (fun _ _ he h=>(he _ rfl).trans h) hlL fun b hb=>oo
 exact q0y.mono (fun u w' h=>.inl h) (hz fn tmps wl hag h1)
end
end Pw
namespace Go.Proofs.YtmfkimnmklnppaaGreatDoor
open Go Pw Dp
section
variable{w w' w0:World}{t:Td}{x:T43}{rb:Nat}{lf:Int}{mp:Option Nat}{mb:Nat}{L:List Pt}
theorem qct{K:Value->World->Prop}(h:Sx w0 w L)(T:TP w x t)(hb:RB w rb x lf mp)(hl:t.crit.length<=12)
  (hK:∀w' tp tr ta ss,Sx w0 w' ((fun c=>c=tp,fun u=>Row u tp [.slice ss.p ss.l ss.c])::(inB ss,fun u=>Ow 2 encL u ss (q0z t))::(fun c=>c=ta,fun u=>Row u ta [.bool false])::(fun c=>c=tr,fun u=>Row u tr [.pointer (some ⟨rb,0,none⟩)])::L) ->
   K (.func (.func 244) #[] #[.pointer (some ⟨tp,0,none⟩),.pointer (some ⟨tr,0,none⟩),.pointer (some ⟨ta,0,none⟩)]) w'):z16_sh (some ⟨rb,0,none⟩) false K w:=by
 refine⟨fi ?_⟩
 intro w1
 have h:Sx w0 w1 _:=h.row (cs:=[.pointer (some ⟨rb,0,none⟩)])
 have f1:Fr F0 w w1:=Fr.alloc
 clear_value w1
 generalize w.heap.size=tr at h ⊢
 intro w2
 have h:Sx w0 w2 _:=h.row (cs:=[.bool false])
 have f2:Fr F0 w w2:=f1.t Fr.alloc
 clear_value w2
 generalize w1.heap.size=ta at h ⊢
 refine⟨_,h.ld 1 rfl rfl,?_⟩
 refine q78 (T.fr f2) (hb.fr f2) hl fun w4 ss f4 how hnew=>?_
 have h:=h.add (q:=(inB ss,fun u=>Ow 2 encL u ss (q0z t))) f4 (q0b.ow _ _) how fun b hb=>⟨hnew b hb,by
  obtain⟨a,ha,hb⟩:=hb
  rcases how.own with⟨_,⟨hp,_⟩|⟨b',cs,hp,hr,_⟩⟩
  ·grind
  ·rw[hp]at ha
   cases ha
   subst hb
   exact hr.lt⟩
 intro w6
 have h:Sx w0 w6 _:=h.row (cs:=[.slice none 0 0])
 clear_value w6
 generalize w4.heap.size=tp at h ⊢
 refine⟨h.wr 0 rfl rfl,?_⟩
 intro w7
 have h:Sx w0 w7 _:=h.set (i:=0) (v:=.slice ss.p ss.l ss.c) 0 rfl
 clear_value w7
 exact hK w7 tp tr ta ss h
end
section
variable{w w' w0:World}{t:Td}{x:T43}{rb:Nat}{lf:Int}{mp:Option Nat}{mb:Nat}{L:List Pt}{d lb tv:Nat}{s:Sl}{es:List En}
abbrev rbP(rb:Nat)(x:T43)(lf:Int)(mp:Option Nat):Pt:=(fun c=>c=rb,fun u=>Row u rb (x.cs++[.int .i64 lf,.map mp]))
abbrev SL(w0 w:World)(d lb tv:Nat)(s:Sl)(es:List En)(x:T43)(rb:Nat)(lf:Int)(mb:Nat)(cv:List Value):List Pt:=
 [Mpt mb,rbP rb x lf (some mb),(fun c=>c=tv,fun u=>Row u tv cv),(fun c=>c=d,fun u=>u.heap[d]?=some (.deferred (some []))),(fun c=>c=lb,fun u=>Row u lb [.slice s.p s.l s.c]),(inB s,fun u=>Ow 5 encE u s es),EP es,qki w0 w rb]
def NeOk(w0 w:World)(d lb tv:Nat)(s:Sl)(es:List En)(x:T43)(rb mb:Nat)(Ne:Addr->World->Prop):Prop:=
 ∀u lf k (r:Sl),Sx w0 u (SL w0 w d lb tv s es x rb lf mb [.int .i64 k,.slice r.p r.l r.c])->k=2\/k=3->Ne ⟨tv,0,none⟩ u
theorem qux{L:List Pt}{u:World}{cv:List Value}{k:Int}{r:Sl}{Ne:Addr->World->Prop}(hcv:cv.length=2)(h:Sx w0 u L)(j:Nat)(hj:L[j]?=some (fun c=>c=tv,fun u=>Row u tv cv))
  (hK:∀u',Sx w0 u' (L.set j (fun c=>c=tv,fun u=>Row u tv [.int .i64 k,.slice r.p r.l r.c]))->Ne ⟨tv,0,none⟩ u') :
  wrOk u ⟨tv,0,none⟩/\(let w83:World:=u.setCell ⟨tv,0,none⟩ (Value.int .i64 k)
   wrOk w83 ((⟨tv,0,none⟩:Addr).add 1)/\(let w84:World:=w83.setCell ((⟨tv,0,none⟩:Addr).add 1) (Value.slice r.p r.l r.c)
    Ne ⟨tv,0,none⟩ w84)):=by
 match cv,hcv with
 | [y,z],_ =>
 have hjl:j<L.length:=(J8.1 hj).1
 refine⟨h.wr j hj rfl,?_⟩
 intro w1
 have h:Sx w0 w1 (L.set j (fun c=>c=tv,fun u=>Row u tv [.int .i64 k,z])):=h.set (i:=0) (v:=.int .i64 k) j hj
 clear_value w1
 have hj2:(L.set j (fun c=>c=tv,fun u=>Row u tv [.int .i64 k,z]))[j]?=some (fun c=>c=tv,fun u=>Row u tv [.int .i64 k,z]):=oz
 refine⟨h.wr j hj2 rfl,?_⟩
 intro w2
 have h:Sx w0 w2 _:=h.set (i:=1) (v:=.slice r.p r.l r.c) j hj2
 clear_value w2
 rw[List.set_set]at h
 exact hK w2 h
theorem qoa{sv:Sl}{p:Int×Int}{y z:Value}{Ne:Addr->World->Prop}{K:Int->Sl->World->Prop}(h:Sx w0 w' ((inB sv,fun u=>Vw 1 encI u sv (q36 p))::SL w0 w d lb tv s es x rb lf mb [y,z]))
  (T:TP w0 x t) (R:q0m t) (hlf:0<=lf/\lf<9223372036854775808) (hes:es.length<=400) (hi3:∀v∈q36 p,I64 v) (hNe:NeOk w0 w d lb tv s es x rb mb Ne):z1t_l2 (some ⟨rb,0,none⟩) 2 ⟨tv,0,none⟩ false ⟨lb,0,none⟩ sv s (s.l:Int) (0:Int) Ne K w':=by
 have hsl:=(h.get 6 rfl:Ow 5 encE w' s es).len
 refine⟨⟨fun i u=>∃(k:Nat) (lf:Int),i=(k:Int)/\k<=es.length/\(0<=lf/\lf<9223372036854775808)/\Sx w0 u ((inB sv,fun u=>Vw 1 encI u sv (q36 p))::SL w0 w d lb tv s es x rb lf mb [y,z]),fun i _=>es.length-i.toNat,⟨0,lf,rfl,Jl _,hlf,h⟩,?_⟩⟩
 rintro _ u ⟨k,lf,rfl,hk,hlf,h⟩
 refine fi ?_
 refine q00.2 ⟨fun hlt=>?_,fun _=>?_⟩
 ·have hkl:k<es.length:=oo
  refine Vw.go (enc:=encE) (fun _=>rfl) od (h.get 6 rfl:Ow 5 encE u s es).vw k rfl hkl fun ad hc=>?_
  refine⟨_,hc 0 _ rfl,_,hc 1 _ rfl,_,hc 2 _ rfl,_,hc 3 _ rfl,_,hc 4 _ rfl,?_⟩
  have hma:=J1 hkl
  generalize es[k]=a at hma ⊢
  refine h.box (vs:=encE a) rfl fun w1 f1 h=>?_
  generalize u.heap.size=ba at h ⊢
  refine⟨s,h.ld 6 rfl rfl,?_⟩
  refine⟨⟨fun i u=>∃(j:Nat) (lf:Int),i=(j:Int)/\j<=es.length/\(0<=lf/\lf<9223372036854775808)/\Sx w0 u ((fun c=>c=ba,fun u=>Row u ba (encE a))::(inB sv,fun u=>Vw 1 encI u sv (q36 p))::SL w0 w d lb tv s es x rb lf mb [y,z]),fun i _=>es.length-i.toNat,⟨0,lf,rfl,Jl _,hlf,h⟩,?_⟩⟩
  rintro _ v ⟨j,lf,rfl,hj,hlf,h⟩
  refine fi ?_
  refine q00.2 ⟨fun hlt2=>?_,fun _=>⟨q01,⟨⟨rfl,rfl,rfl,rfl,rfl,rfl,rfl,rfl,trivial⟩,k+1,lf,oo,oo,hlf,h.tail⟩,uo⟩⟩
  have hjl:j<es.length:=oo
  refine Vw.go (enc:=encE) (fun _=>rfl) od (h.get 7 rfl:Ow 5 encE v s es).vw j rfl hjl fun ad hc=>?_
  refine⟨_,hc 0 _ rfl,_,hc 1 _ rfl,_,hc 2 _ rfl,_,hc 3 _ rfl,_,hc 4 _ rfl,?_⟩
  have hmb:=J1 hjl
  generalize es[j]=b at hmb ⊢
  refine h.box (vs:=encE b) rfl fun w2 f2 h=>?_
  generalize v.heap.size=bb at h ⊢
  simp -zeta only[q1j]
  have hr:(x.cs++[Value.int .i64 lf,.map (some mb)])[20]?=some (.int .i64 lf):=rfl
  refine⟨lf,h.ld 4 rfl hr,q01,h.wr 4 rfl rfl,?_⟩
  intro w3
  have h:Sx w0 w3 ((fun c=>c=bb,fun u=>Row u bb (encE b))::(fun c=>c=ba,fun u=>Row u ba (encE a))::(inB sv,fun u=>Vw 1 encI u sv (q36 p))::SL w0 w d lb tv s es x rb (lf-1) mb [y,z]):=h.set (i:=20) (v:=.int .i64 (lf-1)) 4 rfl
  clear_value w3
  have hr:(x.cs++[Value.int .i64 (lf-1),.map (some mb)])[20]?=some (.int .i64 (lf-1)):=rfl
  refine⟨lf-1,h.ld 4 rfl hr,q00.2 ⟨fun _=>?_,fun hge=>?_⟩⟩
  ·exact qux (r:=⟨none,0,0⟩) (Ne:=Ne) rfl h 5 rfl fun u' h=>hNe u' (lf-1) 3 ⟨none,0,0⟩ h.tail.tail.tail (.inr rfl)
  ·simp -zeta only[q04]
   refine⟨_,h.ld 1 rfl rfl,_,h.ld 1 rfl rfl,_,h.ld 1 rfl rfl,_,h.ld 1 rfl rfl,a.v,h.ld 1 rfl rfl,_,h.ld 0 rfl rfl,_,h.ld 0 rfl rfl,_,h.ld 0 rfl rfl,_,h.ld 0 rfl rfl,b.v,h.ld 0 rfl rfl,?_⟩
   refine qet (x:=x) (t:=t) (lf:=lf-1) (mb:=mb) (a:=a) (b:=b) (ll:=q36 p) (h.up [_,_,_]) T R (fun u h=>h.get 3 rfl) (by show 3<=100;omega) hi3 (fun u h=>(h.get 9 rfl:∀e∈es,EnOk u e) a hma) (fun u h=>(h.get 9 rfl:∀e∈es,EnOk u e) b hmb) (fun u h=>h.get 4 rfl) fun w5 r ok h=>?_
   have h:=h.down [_,_,_]
   cases ok
   ·refine q0h ⟨q01,⟨⟨trivial,trivial,trivial,trivial,trivial,trivial,trivial,trivial,trivial,trivial,trivial,trivial,trivial⟩,j+1,lf-1,oo,oo,⟨oo,oo⟩,h.tail⟩,oo⟩
   ·exact q08 (qux (Ne:=Ne) rfl h 5 rfl fun u' h=>hNe u' (lf-1) 2 r h.tail.tail.tail (.inl rfl))
 ·exact q0h (qux (r:=⟨none,0,0⟩) (Ne:=Ne) rfl h 3 rfl fun u' h=>hNe u' lf 3 ⟨none,0,0⟩ h.tail (.inr rfl))
end
section
variable{w w' w0:World}{t:Td}{x:T43}{rb:Nat}{lf:Int}{mp:Option Nat}{mb:Nat}{L:List Pt}{d lb tv:Nat}{s:Sl}{es:List En}
theorem qob{y z:Value}{Ne:Addr->World->Prop}{K:Int->Sl->World->Prop}(h:Sx w0 w' (SL w0 w d lb tv s es x rb lf mb [y,z]))
  (c:CT w0 x t) (hw:wLow∈t.fm.namesR) (hsp:∀p∈q0z t,0<=p.1/\p.1+2<=p.2/\p.2<=1000000000) (hlf:0<=lf/\lf<9223372036854775808) (hes:es.length<=400) (hNe:NeOk w0 w d lb tv s es x rb mb Ne):z1t_k1 (some ⟨rb,0,none⟩) 2 ⟨tv,0,none⟩ false ⟨lb,0,none⟩ Ne K w':=by
 refine⟨fi ?_⟩
 simp -zeta only[q1j]
 have hr4:∀lf,(x.cs++[Value.int .i64 lf,.map (some mb)])[4]?=some (.int .i64 x.f4):=fun _=>rfl
 have hr5:∀lf,(x.cs++[Value.int .i64 lf,.map (some mb)])[5]?=some (.int .i64 x.f5):=fun _=>rfl
 refine⟨_,h.ld 1 rfl (hr4 lf),?_⟩
 intro w1
 have h:Sx w0 w1 _:=h.fr Fr.alloc
 clear_value w1
 refine q4v (c.T.fr h.fr0) (h.get 1 rfl:RB w1 rb x lf (some mb)) c.R (c.g.fr h.fr0) fun w2 f2=>?_
 have h:Sx w0 w2 _:=h.fr f2
 rw[decide_eq_true hw]
 refine q08 ?_
 intro w3
 have h:Sx w0 w3 _:=h.fr Fr.drew
 clear_value w3
 obtain⟨S,hSi,hSe⟩:∃S:World->Prop,(∀u,Sx w0 u (SL w0 w d lb tv s es x rb lf mb [y,z])->S u)/\∀u,S u->Sx w0 u (SL w0 w d lb tv s es x rb lf mb [y,z]):=⟨_,fun _ h=>h,fun _ h=>h⟩
 refine⟨S,hSi _ h,x.f4,fun u hu=>(hSe u hu).ld 1 rfl (hr4 lf),x.f5,fun u hu=>(hSe u hu).ld 1 rfl (hr5 lf),?_⟩
 obtain⟨h0,h1,h2⟩:=hsp (t.low,t.high) (Jd ..)
 rw[c.T.low,c.T.high]
 refine q9f (p:=(t.low,t.high)) h0 h1 h2 fun w4 r4 f4 hv4 hn4=>⟨hSi _ (h.fr f4),s,(h.fr f4).ld 4 rfl rfl,?_⟩
 exact qoa (p:=(t.low,t.high)) (h.add (q:=(inB r4,fun u=>Vw 1 encI u r4 (q36 (t.low,t.high)))) f4 (q0b.vw _ _) hv4 hn4) c.T c.R hlf hes (qo9 h0 h1 h2) hNe
theorem qh8{work:Int}(c:CT w0 x t)(hw:wLow∈t.fm.namesR)(hsm:qix t=false)(hsp:∀p∈q0z t,0<=p.1/\p.1+2<=p.2/\p.2<=1000000000)(h4:3^(q0z t).length<=400)(hlf:0<=work/\work<9223372036854775808):Ends w0 x 2 work:=by
 intro w rb K f hrb hb hK
 refine⟨fi ?_⟩
 have h:Sx w0 w [rbP rb x work none,qki w0 w rb]:=Sx.start f hrb hb
 intro w1
 have h:Sx w0 w1 _:=h.row (cs:=[.int .i64 0,.slice none 0 0])
 clear_value w1
 refine qh3 (c.fr h.fr0) (h.get 1 rfl:RB w1 rb x work none) fun w2 f2=>?_
 have h:Sx w0 w2 _:=h.fr f2
 rw[hsm]
 intro w4
 have h:Sx w0 w4 _:=h.row (cs:=[.slice none 0 0])
 clear_value w4
 generalize w2.heap.size=lb at h ⊢
 intro w5
 have h:=h.add (q:=Mpt w4.heap.size) (w':=w5) Fr.alloc (q0b.km _) (KM.made w4) fun b hb=>by
  have hb:b=w4.heap.size:=hb
  subst hb
  exact⟨Jm _,by simp[w5]⟩
 clear_value w5
 generalize w4.heap.size=mb at h ⊢
 simp -zeta only[q1j]
 refine⟨h.wr 3 rfl rfl,?_⟩
 intro w7
 have h:Sx w0 w7 [Mpt mb,(fun c=>c=lb,fun u=>Row u lb [.slice none 0 0]),(fun c=>c=w.heap.size,fun u=>Row u w.heap.size [.int .i64 0,.slice none 0 0]),rbP rb x work (some mb),qki w0 w rb]:=h.set (i:=21) (v:=.map (some mb)) 3 rfl
 clear_value w7
 refine qct h (c.T.fr h.fr0) (h.get 3 rfl:RB w7 rb x work (some mb)) c.R.crit fun w8 tp tr ta ss h=>⟨fi ?_⟩
 refine quw h ⟨_,_,_,rfl⟩ fun fn tmps w9 hag h=>?_
 refine q02 z0h_ok ⟨fi ?_⟩
 intro w10
 have h:Sx w0 w10 _:=h.row (cs:=[.func (.yield (w8.heap.size+1)) #[] #[]])
 clear_value w10
 generalize w9.heap.size=ty at h ⊢
 intro w11
 have h:Sx w0 w11 _:=h.row (cs:=[.nilFunc])
 clear_value w11
 generalize w10.heap.size=te at h ⊢
 refine⟨h.wr 0 rfl rfl,?_⟩
 intro w12
 have h:Sx w0 w12 _:=h.set (i:=0) (v:=.func (.func 245) #[] #[.pointer (some ⟨tp,0,none⟩),.pointer (some ⟨ty,0,none⟩),.pointer (some ⟨tr,0,none⟩),.pointer (some ⟨ta,0,none⟩),.pointer (some ⟨te,0,none⟩)]) 0 rfl
 clear_value w12
 refine⟨_,h.ld 0 rfl rfl,?_⟩
 have h:=h.add (q:=(inB ⟨none,0,0⟩,fun u=>Ow 5 encE u ⟨none,0,0⟩ [])) Fr.refl (q0b.ow _ _) ⟨rfl,OwnV.nil⟩ fun b ⟨a,ha,_⟩=>by cases ha
 have h:=h.add (q:=EP []) Fr.refl (q0b.ep []) (fun e he=>by cases he) fun b ⟨e,he,_⟩=>by cases he
 have h:=h.add (q:=(inB ⟨none,0,0⟩,fun u=>Ow 1 encI u ⟨none,0,0⟩ [])) Fr.refl (q0b.ow _ _) ⟨rfl,OwnV.nil⟩ fun b ⟨a,ha,_⟩=>by cases ha
 have h:Sx w0 w12 (RL (w8.heap.size+1) (rcS fn tmps w8.heap.size) lb ⟨none,0,0⟩ [] ((inB ⟨none,0,0⟩,fun u=>Ow 1 encI u ⟨none,0,0⟩ [])::[(fun c=>c=te,fun u=>Row u te [.func (.func 245) #[] #[.pointer (some ⟨tp,0,none⟩),.pointer (some ⟨ty,0,none⟩),.pointer (some ⟨tr,0,none⟩),.pointer (some ⟨ta,0,none⟩),.pointer (some ⟨te,0,none⟩)]]),
   (fun c=>c=ty,fun u=>Row u ty [.func (.yield (w8.heap.size+1)) #[] #[]]),(fun c=>c=w8.heap.size,fun u=>u.heap[w8.heap.size]?=some (.deferred (some []))),(fun c=>c=tp,fun u=>Row u tp [.slice ss.p ss.l ss.c]),(inB ss,fun u=>Ow 2 encL u ss (q0z t)),(fun c=>c=ta,fun u=>Row u ta [.bool false]),(fun c=>c=tr,fun u=>Row u tr [.pointer (some ⟨rb,0,none⟩)]),Mpt mb,
   (fun c=>c=w.heap.size,fun u=>Row u w.heap.size [.int .i64 0,.slice none 0 0]),rbP rb x work (some mb),qki w0 w rb])):=h.pick [5,12,2,1,0,3,4,6,7,8,9,10,11,13,14,15] od rfl
 refine q02 z0b_ok (show z0b_sh ⟨none,0,0⟩ ⟨tp,0,none⟩ ⟨ty,0,none⟩ ⟨tr,0,none⟩ ⟨ta,0,none⟩ ⟨te,0,none⟩ _ w12 from ?_)
 refine qrq c.T c.R hsp hag (q0z t).length (by rfl) (rb:=rb) (mb:=mb) (lf:=work) (ss:=ss) ⟨⟨0,rfl⟩,⟨1,rfl⟩,⟨3,rfl⟩,⟨4,rfl⟩,⟨6,rfl⟩,⟨5,rfl⟩,⟨9,_,rfl⟩⟩ h (fun v hv=>by cases hv) oz fun w13 s es h hl=>⟨true,rfl,h.get 0 rfl,?_⟩
 have hl:es.length=0+3^(q0z t).length:=hl
 have h:=h.obj (o':=lrec fn tmps z1t_ps0 z1t_as0 z1t_bd0 w8.heap.size .exhausted none) 0 rfl
 generalize w13.putObj (w8.heap.size+1) (lrec fn tmps z1t_ps0 z1t_as0 z1t_bd0 w8.heap.size .exhausted none)=w14 at *
 have h:Sx w0 w14 (SL w0 w w8.heap.size lb w.heap.size s es x rb work mb [.int .i64 0,.slice none 0 0]):=h.pick [12,14,13,7,1,2,3,15] od rfl
 refine qob h c hw hsp hlf oo fun u lf k r h hk=>⟨h.get 3 rfl,?_⟩
 have h:=h.obj (o':=.deferred none) 3 rfl
 exact⟨k,h.ld 2 rfl rfl,r,h.ld 2 rfl rfl,hK _ k r (h.stop f (i:=7) (j:=2) rfl rfl (Jm _)) hk⟩
end
section
variable{w w' w0:World}
theorem q9j{s:Sl}{l:List Rk}{K:Sl->World->Prop}(hv:Vw 5 encK w s l)(hl:l.length<=1000)(hK:∀w' s,Fr F0 w w'->Ow 1 encI w' s (q18 l)->K s w'):z25_sh s K w:=by
 have hvl:=hv.len
 refine⟨fi ?_⟩
 have h:=(Sx.nil (w:=w) Fr.refl).add (q:=(inB ⟨none,0,0⟩,fun u=>Ow 1 encI u ⟨none,0,0⟩ [])) Fr.refl (q0b.ow _ _) ⟨rfl,OwnV.nil⟩ fun b ⟨a,ha,_⟩=>by cases ha
 refine⟨⟨fun o i u=>∃k:Nat,i=(k:Int)/\k<=l.length/\(q18 (l.take k)).length<=k/\Sx w u [(inB o,fun u=>Ow 1 encI u o (q18 (l.take k)))],fun _ i _=>l.length-i.toNat,⟨0,rfl,Jl _,Jm _,h⟩,?_⟩⟩
 rintro o _ u ⟨k,rfl,hk,hol,h⟩
 refine fi ?_
 refine q00.2 ⟨fun hlt=>?_,fun _=>?_⟩
 ·have hkl:k<l.length:=oo
  refine Vw.go (enc:=encK) (fun _=>rfl) od (hv.fr h.fr0) k rfl hkl fun ad hc=>?_
  refine⟨_,hc 0 _ rfl,_,hc 1 _ rfl,_,hc 2 _ rfl,_,hc 3 _ rfl,_,hc 4 _ rfl,?_⟩
  have tk:q18 (l.take (k+1))=q18 (l.take k)++q18 [l[k]]:=by
   rw[J9,J5 hkl]
   unfold q18
   rw[Je,J2]
   rfl
  generalize l[k]=r at tk ⊢
  refine h.box (vs:=encK r) rfl fun w1 f1 h=>?_
  refine⟨_,h.ld 0 rfl rfl,q0i.2 ⟨fun h0=>⟨_,h.ld 0 rfl rfl,q00.2 ⟨fun hp=>⟨_,h.ld 0 rfl rfl,?_⟩,fun hp=>?_⟩⟩,fun h0=>?_⟩⟩
  ·have he:q18 [r]=[r.b]:=by unfold q18;simp[h0,hp]
   intro w2
   have hx:Vw 1 encI w2 ⟨some ⟨w1.heap.size,0,none⟩,1,1⟩ [r.b]:=Vw.new rfl rfl
   have h:Sx w w2 _:=h.fr Fr.alloc
   clear_value w2
   refine h.app 1 rfl hx q47 rfl (by show((q18 (l.take k)).length+1)*8<=_;omega) (by show(q18 (l.take k)).length+1<_;omega) fun z w3 h f3=>?_
   refine⟨q01,⟨⟨rfl,rfl,trivial⟩,k+1,oo,oo,by rw[tk,he,J0];show _+1<=_;omega,by rw[tk,he];exact h.tail⟩,uo⟩
  ·have he:q18 [r]=[]:=by unfold q18;simp[hp]
   exact⟨q01,⟨⟨rfl,rfl,trivial⟩,k+1,oo,oo,by rw[tk,he,J4];omega,by rw[tk,he,J4];exact h.tail⟩,uo⟩
  ·have he:q18 [r]=[]:=by unfold q18;simp[h0]
   exact⟨q01,⟨⟨rfl,rfl,trivial⟩,k+1,oo,oo,by rw[tk,he,J4];omega,by rw[tk,he,J4];exact h.tail⟩,uo⟩
 ·have hk':k=l.length:=oo
  subst hk'
  rw[Ja]at h
  exact hK u o h.fr0 (h.get 0 rfl)
theorem qeu{s:Sl}{l:List Int}{n:Int}{K:Sl->World->Prop}(hv:Vw 1 encI w s l)(hl:l.length<=1000)(hK:∀w' s,Fr F0 w w'->Ow 1 encI w' s (l.filter (fun x=>decide (x≠n)))->K s w'):z1p_sh s n K w:=by
 have hvl:=hv.len
 refine⟨fi ?_⟩
 have h:=(Sx.nil (w:=w) Fr.refl).add (q:=(inB ⟨none,0,0⟩,fun u=>Ow 1 encI u ⟨none,0,0⟩ [])) Fr.refl (q0b.ow _ _) ⟨rfl,OwnV.nil⟩ fun b ⟨a,ha,_⟩=>by cases ha
 refine⟨⟨fun o i u=>∃k:Nat,i=(k:Int)/\k<=l.length/\((l.take k).filter (fun x=>decide (x≠n))).length<=k/\Sx w u [(inB o,fun u=>Ow 1 encI u o ((l.take k).filter (fun x=>decide (x≠n))))],fun _ i _=>l.length-i.toNat,⟨0,rfl,Jl _,Jm _,h⟩,?_⟩⟩
 rintro o _ u ⟨k,rfl,hk,hol,h⟩
 refine fi ?_
 refine q00.2 ⟨fun hlt=>?_,fun _=>?_⟩
 ·have hkl:k<l.length:=oo
  refine Vw.go (enc:=encI) (fun _=>rfl) od (hv.fr h.fr0) k rfl hkl fun ad hc=>?_
  refine⟨_,hc 0 _ rfl,?_⟩
  have tk:(l.take (k+1)).filter (fun x=>decide (x≠n))=(l.take k).filter (fun x=>decide (x≠n))++[l[k]].filter (fun x=>decide (x≠n)):=by
   rw[J9,J5 hkl,Je]
   rfl
  generalize l[k]=y at tk ⊢
  refine q0r.2 ⟨fun hne=>?_,fun heq=>?_⟩
  ·have he:[y].filter (fun x=>decide (x≠n))=[y]:=by simp[hne]
   intro w2
   have hx:Vw 1 encI w2 ⟨some ⟨u.heap.size,0,none⟩,1,1⟩ [y]:=Vw.new rfl rfl
   have h:Sx w w2 _:=h.fr Fr.alloc
   clear_value w2
   refine h.app 0 rfl hx q47 rfl (by show(((l.take k).filter (fun x=>decide (x≠n))).length+1)*8<=_;omega) (by show((l.take k).filter (fun x=>decide (x≠n))).length+1<_;omega) fun z w3 h f3=>?_
   refine⟨q01,⟨⟨rfl,rfl,rfl,trivial⟩,k+1,oo,oo,by rw[tk,he,J0];show _+1<=_;omega,by rw[tk,he];exact h⟩,uo⟩
  ·have he:[y].filter (fun x=>decide (x≠n))=[]:=by simp[heq]
   refine⟨q01,⟨⟨rfl,rfl,rfl,trivial⟩,k+1,oo,oo,by rw[tk,he,J4];omega,by rw[tk,he,J4];exact h⟩,uo⟩
 ·have hk':k=l.length:=oo
  subst hk'
  rw[Ja]at h
  exact hK u o h.fr0 (h.get 0 rfl)
theorem qoc{s r:Sl}{l:List Int}{K:Bool->World->Prop}(hv:Vw 1 encI w s l)(hr:Vw 1 encI w r l)(hl:l.length<=1000)(hK:∀w',Fr F0 w w'->K true w'):z3e_sh s r K w:=by
 have hvl:=hv.len
 have hrl:=hr.len
 refine⟨fi ?_⟩
 refine q0r.2 ⟨fun h=>absurd (show(s.l:Int)=r.l by omega) h,fun _=>?_⟩
 refine⟨⟨fun i u=>∃k:Nat,i=(k:Int)/\k<=l.length/\Fr F0 w u,fun i _=>l.length-i.toNat,⟨0,rfl,Jl _,Fr.refl⟩,?_⟩⟩
 rintro _ u ⟨k,rfl,hk,f⟩
 refine fi ?_
 refine q00.2 ⟨fun hlt=>?_,fun _=>hK u f⟩
 have hkl:k<l.length:=oo
 intro w1
 have f1:Fr F0 w w1:=f.t Fr.drew
 clear_value w1
 refine Vw.go (enc:=encI) (fun _=>rfl) od (hv.fr f1) k rfl hkl fun ad hc=>?_
 refine⟨_,hc 0 _ rfl,?_⟩
 refine Vw.go (enc:=encI) (fun _=>rfl) od (hr.fr f1) k rfl hkl fun ad2 hc2=>?_
 refine⟨_,hc2 0 _ rfl,?_⟩
 exact q0r.2 ⟨fun h=>absurd rfl h,fun _=>⟨q01,⟨⟨rfl,rfl,rfl,trivial⟩,k+1,oo,oo,f1⟩,uo⟩⟩
end
end Go.Proofs.YtmfkimnmklnppaaGreatDoor
namespace Dp
open Go Pw
def nxt(l:List Int)(k:Nat)(n:Int):Int:=match l[k]? with
 | some x=>x%n
 | none=>0
def nxk(l:List Int)(k:Nat):Nat:=if k<l.length then k+1 else k
theorem nxt_bd{l:List Int}{k:Nat}{n:Int}(hn:0<n):0<=nxt l k n/\nxt l k n<n:=by
 unfold nxt
 split
 ·exact⟨Jk _ oo,Jj _ hn⟩
 ·omega
end Dp
namespace Go.Proofs.YtmfkimnmklnppaaGreatDoor
open Go Pw Dp
section
variable{w w' w0:World}{L:List Pt}
abbrev Nrd(mb:Nat)(s:Sl)(k:Nat):Pt:=(fun c=>c=mb,fun u=>Row u mb [.slice s.p s.l s.c,.int .i64 (k:Int)])
theorem qod{mb:Nat}{s:Sl}{l:List Int}{k:Nat}{n:Int}{K:Int->World->Prop}(h:Sx w0 w (Nrd mb s k::L))(hv:∀u,Sx w0 u L->Vw 1 encI u s l)(hl:l.length<2^62)(hk:k<=l.length)(hn:0<n)(hn2:n<4611686018427387904)
  (hK:∀w',Sx w0 w' (Nrd mb s (nxk l k)::L)->K (nxt l k n) w'):z07_sh (some ⟨mb,0,none⟩) n K w:=by
 have hvl:=(hv w h.tail).len
 refine⟨fi ?_⟩
 intro w1
 have h:Sx w0 w1 _:=h.fr Fr.drew
 clear_value w1
 simp -zeta only[q1j,q04]
 refine⟨_,h.ld 0 rfl rfl,s,h.ld 0 rfl rfl,q00.2 ⟨fun hge=>?_,fun hlt=>⟨_,h.ld 0 rfl rfl,q01,h.wr 0 rfl rfl,?_⟩⟩⟩
 ·have e1:l[k]?=none:=List.getElem?_eq_none (by omega)
  unfold nxt nxk at hK
  grind
 ·have hkl:k<l.length:=(by omega)
  intro w2
  have h:Sx w0 w2 (Nrd mb s (k+1)::L):=h.set (i:=1) (v:=.int .i64 ((k:Int)+1)) 0 rfl
  clear_value w2
  intro w3
  have h:Sx w0 w3 (Nrd mb s (k+1)::L):=h.fr Fr.drew
  clear_value w3
  obtain⟨S,hSi,hSe⟩:∃S:World->Prop,(∀u,Sx w0 u (Nrd mb s (k+1)::L)->S u)/\∀u,S u->Sx w0 u (Nrd mb s (k+1)::L):=⟨_,fun _ h=>h,fun _ h=>h⟩
  refine⟨S,hSi _ h,s,fun u hu=>(hSe u hu).ld 0 rfl rfl,_,fun u hu=>(hSe u hu).ld 0 rfl rfl,q01,?_⟩
  refine Vw.goS (enc:=encI) (S:=S) (fun _=>rfl) (by decide) (hSi _ h) (fun u hu=>hv u (hSe u hu).tail) k (by omega) hkl fun ad hc=>?_
  refine⟨_,hc 0 _ rfl,q7v hn hn2 ⟨hSi _ h,?_⟩⟩
  unfold nxt nxk at hK
  grind
theorem q9k{n d:Int}{K:ByteArray->Int->Int->ByteArray->Sl->World->Prop}(hn:-1000000000<n/\n<1000000000)(hd:-1000000000<d/\d<1000000000)(hd0:d≠0)(hK:∀w',Fr F0 w w'->K (ofL wNum) (q2p n d).n (q2p n d).d (str []) ⟨none,0,0⟩ w'):z32_sh n d K w:=by
 refine⟨fi ?_⟩
 intro w1
 have h:Sx w w1 _:=(Sx.nil Fr.refl).row (cs:=[.string (str []),.int .i64 0,.int .i64 0,.string (str []),.slice none 0 0])
 clear_value w1
 generalize w.heap.size=t0 at h ⊢
 refine qk0 hn hd hd0 fun w2 f2=>?_
 have h:Sx w w2 _:=h.fr f2
 unfold Kr
 dsimp -zeta only
 intro w5
 have h:Sx w w5 _:=h.row (cs:=[.int .i64 0,.int .i64 0])
 clear_value w5
 generalize w2.heap.size=t1 at h ⊢
 refine⟨h.wr 0 rfl rfl,?_⟩
 intro w6
 have h:Sx w w6 _:=h.set (i:=0) (v:=.int .i64 (q2p n d).n) 0 rfl
 clear_value w6
 refine⟨h.wr 0 rfl rfl,?_⟩
 intro w7
 have h:Sx w w7 _:=h.set (i:=1) (v:=.int .i64 (q2p n d).d) 0 rfl
 clear_value w7
 refine⟨_,h.ld 0 rfl rfl,_,h.ld 0 rfl rfl,?_⟩
 refine h.st (vs:=[.string (ofL wNum),.int .i64 (q2p n d).n,.int .i64 (q2p n d).d,.string (str []),.slice none 0 0]) 1 rfl rfl fun w8 f8 h=>?_
 exact⟨_,h.ld 1 rfl rfl,_,h.ld 1 rfl rfl,_,h.ld 1 rfl rfl,_,h.ld 1 rfl rfl,⟨none,0,0⟩,h.ld 1 rfl rfl,hK w8 h.fr0⟩
theorem q6n{s:ByteArray}{a b:XC}{K:ByteArray->Int->Int->ByteArray->Sl->World->Prop}
  (hK:∀w' i,Fr F0 w w'->Row w' i ([a,b].flatMap encX)->w.heap.size<=i/\i<w'.heap.size->K s 0 0 (str []) ⟨some ⟨i,0,none⟩,2,2⟩ w'):z3d_sh s a.op a.n a.d a.nm a.a b.op b.n b.d b.nm b.a K w:=by
 refine⟨fi ?_⟩
 intro w1
 have h:Sx w w1 _:=(Sx.nil Fr.refl).row (cs:=encX a)
 clear_value w1
 generalize w.heap.size=t0 at h ⊢
 intro w2
 have h:Sx w w2 _:=h.row (cs:=encX b)
 clear_value w2
 generalize w1.heap.size=t1 at h ⊢
 intro w3
 have h:Sx w w3 _:=h.row (cs:=[.string (str []),.int .i64 0,.int .i64 0,.string (str []),.slice none 0 0])
 clear_value w3
 generalize w2.heap.size=t2 at h ⊢
 refine⟨_,h.ld 2 rfl rfl,_,h.ld 2 rfl rfl,_,h.ld 2 rfl rfl,_,h.ld 2 rfl rfl,a.a,h.ld 2 rfl rfl,_,h.ld 1 rfl rfl,_,h.ld 1 rfl rfl,_,h.ld 1 rfl rfl,_,h.ld 1 rfl rfl,b.a,h.ld 1 rfl rfl,?_⟩
 intro w14
 have h:Sx w w14 _:=h.row (cs:=[a,b].flatMap encX)
 clear_value w14
 refine h.st (vs:=[.string s,.int .i64 0,.int .i64 0,.string (str []),.slice (some ⟨w3.heap.size,0,none⟩) 2 2]) 1 rfl rfl fun w15 f15 h=>?_
 exact⟨_,h.ld 1 rfl rfl,_,h.ld 1 rfl rfl,_,h.ld 1 rfl rfl,_,h.ld 1 rfl rfl,⟨some ⟨w3.heap.size,0,none⟩,2,2⟩,h.ld 1 rfl rfl,hK w15 _ h.fr0 (h.get 0 rfl) (h.nw 0 _ rfl _ rfl)⟩
end
section
variable{w w' w0:World}{t:Td}{x:T43}{s:Sl}{l:List En}{lot:Int}
theorem qh9{K:Int->Int->World->Prop}(T:TP w x t)(H:RkH t l lot)(hv:Vw 5 encE w s l)(hb:(l.map (·.b)).Nodup)(hr:(l.map (·.r)).Nodup)(hE:∀e∈l,EnOk w e)
  {r:Rk} (hf:(q2d (q0e t lot) l)[0]?=some r) (hp:r.place=1) (hK:∀w',Fr F0 w w'->K r.b 0 w'):z4v_sh x lot s K w:=by
 refine⟨fi ?_⟩
 intro w1
 have m:Mem w w1 [(w.heap.size,x.cs)]:=Mem.nil.allocL (cs:=x.cs)
 clear_value w1
 refine T43.ld_row (m.row 0) ?_
 refine q9i (T.fr m.1) H (hv.fr m.1) hb hr (fun e he=>(hE e he).fr m.1) fun o w2 f2 hv2=>?_
 obtain⟨hl,hg⟩:=J8.1 hf
 have hol:=hv2.len
 refine q0r.2 ⟨fun h=>absurd rfl h,fun _=>q0i.2 ⟨fun h=>absurd (show(o.l:Int)=0 from h) oo,fun _=>?_⟩⟩
 refine Vw.go (enc:=encK) (fun _=>rfl) od hv2 0 rfl hl fun ad hc=>?_
 rw[hg]at hc
 refine⟨_,hc 3 _ rfl,q0r.2 ⟨fun h=>absurd hp h,fun _=>?_⟩⟩
 refine Vw.go (enc:=encK) (fun _=>rfl) od hv2 0 rfl hl fun ad2 hc2=>?_
 rw[hg]at hc2
 exact⟨_,hc2 0 _ rfl,hK w2 (m.1.t f2)⟩
theorem small2:qix (sanT san2)=false:=by decide +kernel
theorem spans2:∀p∈q0z (sanT san2),0<=p.1/\p.1+2<=p.2/\p.2<=1000000000:=by decide +kernel
theorem qrr:(q0f (sanT san1)).length<=4000:=by decide +kernel
theorem qrs:(q0f (sanT san2)).length<=4000:=by decide +kernel
instance (n:Int):Decidable (I64 n):=inferInstanceAs (Decidable (_/\_))
theorem quy:Fit (sanT san1):=by
 constructor<;>decide +kernel
theorem san_b1:q0f (sanT san1)=[116,101,110,100,101,114,32,116,10,108,111,116,32,49,32,109,111,115,116,32,51,48,10,99,114,105,116,101,114,105,111,110,32,99,111,109,102,111,114,116,32,103,114,97,100,101,32,48,32,49,48,10,112,114,105,99,101,32,49,32,51,48,10,102,111,114,109,117,108,97,32,40,51,48,32,45,32,112,114,105,99,101,41,32,47,32,51,48,32,43,32,99,111,109,102,111,114,116,10,116,105,101,32,112,114,105,99,101,32,99,111,109,102,111,114,116,10,98,117,100,103,101,116,32,57,57,10,116,105,109,101,115,32,49,48,32,50,48,32,51,48,32,52,48,32,53,10]:=by decide +kernel
theorem san_b2:q0f (sanT san2)=[116,101,110,100,101,114,32,116,10,108,111,116,32,49,32,109,111,115,116,32,51,48,10,99,114,105,116,101,114,105,111,110,32,99,111,109,102,111,114,116,32,103,114,97,100,101,32,48,32,49,48,10,112,114,105,99,101,32,49,32,51,48,10,102,111,114,109,117,108,97,32,108,111,119,32,47,32,112,114,105,99,101,32,43,32,99,111,109,102,111,114,116,32,47,32,49,48,10,116,105,101,32,112,114,105,99,101,32,99,111,109,102,111,114,116,10,98,117,100,103,101,116,32,57,57,10,116,105,109,101,115,32,49,48,32,50,48,32,51,48,32,52,48,32,53,10]:=by decide +kernel
theorem san_s1:str [116,101,110,100,101,114,32,116,10,108,111,116,32,49,32,109,111,115,116,32,51,48,10,99,114,105,116,101,114,105,111,110,32,99,111,109,102,111,114,116,32,103,114,97,100,101,32,48,32,49,48,10,112,114,105,99,101,32,49,32,51,48,10,102,111,114,109,117,108,97,32,40,51,48,32,45,32,112,114,105,99,101,41,32,47,32,51,48,32,43,32,99,111,109,102,111,114,116,10,116,105,101,32,112,114,105,99,101,32,99,111,109,102,111,114,116,10,98,117,100,103,101,116,32,57,57,10,116,105,109,101,115,32,49,48,32,50,48,32,51,48,32,52,48,32,53,10]=ofL (q0f (sanT san1)):=by
 rw[san_b1]
 rfl
theorem san_s2:str [116,101,110,100,101,114,32,116,10,108,111,116,32,49,32,109,111,115,116,32,51,48,10,99,114,105,116,101,114,105,111,110,32,99,111,109,102,111,114,116,32,103,114,97,100,101,32,48,32,49,48,10,112,114,105,99,101,32,49,32,51,48,10,102,111,114,109,117,108,97,32,108,111,119,32,47,32,112,114,105,99,101,32,43,32,99,111,109,102,111,114,116,32,47,32,49,48,10,116,105,101,32,112,114,105,99,101,32,99,111,109,102,111,114,116,10,98,117,100,103,101,116,32,57,57,10,116,105,109,101,115,32,49,48,32,50,48,32,51,48,32,52,48,32,53,10]=ofL (q0f (sanT san2)):=by
 rw[san_b2]
 rfl
theorem qoe{b:Nat}{K:Bool->World->Prop}(h:Sx w w' [(fun c=>c=b,fun u=>Row u b x.cs)])(T:TP w' x (sanT san1))(hK:∀w1,Fr F0 w w1->K true w1):z26_k0 ⟨b,0,none⟩ K w':=by
 refine⟨fi ?_⟩
 intro w1
 have h:Sx w w1 _:=h.fr Fr.alloc
 have v1:Vw 2 encV w1 ⟨some ⟨w'.heap.size,0,none⟩,1,1⟩ [(q1h,8)]:=Vw.new (a:=(q1h,8)) rfl rfl
 have T:TP w1 x _:=T.fr Fr.alloc
 clear_value w1
 intro w2
 have h:Sx w w2 _:=h.fr Fr.alloc
 have v2:Vw 2 encV w2 ⟨some ⟨w1.heap.size,0,none⟩,1,1⟩ [(q1h,8)]:=Vw.new (a:=(q1h,8)) rfl rfl
 have v1:=v1.fr (w':=w2) Fr.alloc
 have T:TP w2 x _:=T.fr Fr.alloc
 clear_value w2
 intro w3
 have hrow:Row w3 w2.heap.size ((sanE ⟨some ⟨w'.heap.size,0,none⟩,1,1⟩ ⟨some ⟨w1.heap.size,0,none⟩,1,1⟩).flatMap encE):=((Sx.nil (w:=w2) Fr.refl).row (cs:=(sanE ⟨some ⟨w'.heap.size,0,none⟩,1,1⟩ ⟨some ⟨w1.heap.size,0,none⟩,1,1⟩).flatMap encE)).get 0 rfl
 have hv:=(Row.ow (n:=5) (enc:=encE) (fun _=>rfl) hrow).vw
 have h:Sx w w3 _:=h.fr Fr.alloc
 have v1:=v1.fr (w':=w3) Fr.alloc
 have v2:=v2.fr (w':=w3) Fr.alloc
 have T:TP w3 x _:=T.fr Fr.alloc
 clear_value w3
 generalize(⟨some ⟨w'.heap.size,0,none⟩,1,1⟩:Sl)=s1 at v1 hv
 generalize(⟨some ⟨w1.heap.size,0,none⟩,1,1⟩:Sl)=s2 at v2 hv
 refine T43.ld_row (h.get 0 rfl) ?_
 have hf:=qo3 s1 s2
 cases hr:(q2d (q0e (sanT san1) 1) (sanE s1 s2))[0]? with
 | none=>grind
 | some r =>
 rw[hr]at hf
 simp only[Option.map_some,Option.some.injEq,Prod.mk.injEq]at hf
 refine qh9 T ⟨quy,by show 2<=12;omega,⟨(1,30),rfl⟩,fun e he=>?_⟩ hv (by show [(5:Int),6].Nodup;decide) (by show [(1:Int),2].Nodup;decide) (fun e he=>?_) hr hf.2 fun w4 f4=>q0i.2 ⟨fun _=>?_,fun h=>absurd rfl h⟩
 ·simp only[sanE,Jb,J7,or_false]at he
  grind
 ·simp only[sanE,Jb,J7,or_false]at he
  rcases he with rfl|rfl
  ·exact⟨v1,by show 1<_;omega,by show ∀v∈([(q1h,8)]:List Vl),I64 v.2;decide,by show I64 5;decide,by show I64 1;decide,by show I64 20;decide⟩
  ·exact⟨v2,by show 1<_;omega,by show ∀v∈([(q1h,8)]:List Vl),I64 v.2;decide,by show I64 6;decide,by show I64 2;decide,by show I64 5;decide⟩
 ·rw[hf.1]
  exact hK w4 (h.fr0.t f4)
theorem qha{K:Bool->World->Prop}(g:GlT w)(gm:Gm w)(hK:∀w',Fr F0 w w'->K true w'):z26_sh K w:=by
 refine⟨fi ?_⟩
 rw[san_s1,san_s2]
 refine q4x (t:=sanT san1) 3 (qei qo0) chk1 qrr g gm oo (.inr rfl) qup (fun _=>nolow1) (fun h=>absurd h oo) (fun _=>qrd) (fun _ w1 x f1 T=>?_) (fun h=>absurd h oo)
 intro w5
 have h:Sx w1 w5 _:=(Sx.nil Fr.refl).row (cs:=zX.cs)
 clear_value w5
 generalize w1.heap.size=t1 at h ⊢
 refine h.st (vs:=x.cs) 0 rfl rfl fun w6 f6 h=>?_
 refine q4x (t:=sanT san2) 1 (qei qo1) chk2 qrs (g.fr (f1.t h.fr0)) (gm.fr (f1.t h.fr0)) oo (.inl rfl) quq (fun h=>absurd h oo) (fun _=>⟨low2,fun w' x' f' c=>qh8 c low2 small2 spans2 od ⟨oo,oo⟩⟩) (fun h=>absurd h oo) (fun h=>absurd h oo) fun _ w7 x7 er f7 her=>?_
 have h:=h.fr f7
 refine h.box (vs:=x7.cs) rfl fun w12 f12 h=>?_
 have h:=h.tail
 have T:=T.fr h.fr0
 have hlots:=T.lots.len
 have h0:w12.cell? ⟨t1,1,none⟩=some (.slice x.f1.p x.f1.l x.f1.c):=h.ld 0 rfl rfl
 have fin:∃x13:Sl,w12.cell? ((⟨t1,0,none⟩:Addr).add 1)=some (Value.slice x13.p x13.l x13.c)/\cnd ((x13.l:Int) != (1:Int)) (K false w12) (z26_k0 ⟨t1,0,none⟩ K w12):=
  ⟨x.f1,h0,q0r.2 ⟨fun h=>absurd (by rw[hlots];rfl) h,fun _=>qoe h T fun w' f'=>hK w' (f1.t f')⟩⟩
 refine q0r.2 ⟨fun h=>absurd rfl h,fun _=>q0r.2 ⟨fun h1=>q0r.2 ⟨fun h2=>?_,fun _=>fin⟩,fun _=>fin⟩⟩
 omega
end
end Go.Proofs.YtmfkimnmklnppaaGreatDoor
namespace Dp
open Go Pw
structure InT(t:Td)(vs:List Vl):Prop where
 nm:vs.map (·.1)=t.crit.map Cr.name
 vb:∀v∈vs,0<=v.2/\v.2<=30
end Dp
namespace Go.Proofs.YtmfkimnmklnppaaGreatDoor
open Go Pw Dp
section
variable{w w' w0:World}{t:Td}{x:T43}
theorem at_k2{s o:Sl}{t0 t6 xb cb k:Nat}{id p n:Int}{c:Cr}{vs:List Vl}{N1:Sl->Addr->Addr->Addr->Int->World->Prop}{K:Int->Int->Int->Int->Sl->World->Prop}(h:Sx w w' [(fun a=>a=cb,fun u=>Row u cb (encC c)),(inB o,fun u=>Ow 2 encV u o vs),(fun c=>c=xb,fun u=>Row u xb [.int .i64 0,.int .i64 id,.int .i64 0,.int .i64 p,.slice o.p o.l o.c]),(fun c=>c=t6,fun u=>Row u t6 [.int .i64 0,.int .i64 0,.int .i64 0,.int .i64 0,.slice none 0 0]),(fun c=>c=t0,fun u=>Row u t0 x.cs)])(hn:0<=n/\n<=c.high-c.low)(hc:0<=c.low/\c.low<=c.high/\c.high<=30)(hk:k<=100)(hvs:vs.length=k)
  (hK:∀u r,Sx w u [(inB r,fun u=>Ow 2 encV u r (vs++[(c.name,c.low+n)])),(fun c=>c=xb,fun u=>Row u xb [.int .i64 0,.int .i64 id,.int .i64 0,.int .i64 p,.slice r.p r.l r.c]),(fun c=>c=t6,fun u=>Row u t6 [.int .i64 0,.int .i64 0,.int .i64 0,.int .i64 0,.slice none 0 0]),(fun c=>c=t0,fun u=>Row u t0 x.cs)]->N1 s ⟨t0,0,none⟩ ⟨t6,0,none⟩ ⟨xb,0,none⟩ ((k:Int)+1) u) :
  z3c_k2 s ⟨t0,0,none⟩ ⟨t6,0,none⟩ ⟨xb,0,none⟩ (k:Int) ⟨cb,0,none⟩ n N1 K w':=by
 refine⟨fi ?_⟩
 refine⟨o,h.ld 2 rfl rfl,_,h.ld 0 rfl rfl,_,h.ld 0 rfl rfl,q01,?_⟩
 intro w6
 have hx:Vw 2 encV w6 ⟨some ⟨w'.heap.size,0,none⟩,1,1⟩ [(c.name,c.low+n)]:=Vw.new (a:=(c.name,c.low+n)) rfl rfl
 have h:Sx w w6 _:=h.fr Fr.alloc
 clear_value w6
 refine h.app 1 rfl hx qg1 rfl oz oz fun r w7 h f7=>?_
 refine⟨h.wr 2 rfl rfl,?_⟩
 intro w8
 have h:Sx w w8 _:=h.set (i:=4) (v:=.slice r.p r.l r.c) 2 rfl
 clear_value w8
 exact⟨q01,hK w8 r h.tail⟩
theorem qof{price:Int}{s:Sl}{l:List Int}{K:Int->Int->Int->Int->Sl->World->Prop}(T:TP w x t)(R:q0m t)(hlh:t.low<=t.high)(hcr:∀c∈t.crit,0<=c.low/\c.low<=c.high/\c.high<=30)(hv:Vw 1 encI w s l)
  (hK:∀(w':World) (e:En),Fr F0 w w'->InT t e.vals->t.low<=e.p->e.p<=t.high->I64 e.l->Vw 2 encV w' e.v e.vals->(∀b,inB e.v b->w.heap.size<=b/\b<w'.heap.size)->K 0 e.l 0 e.p e.v w'):z3c_sh x price s K w:=by
 have hlow:=R.low
 have hhigh:=R.high
 unfold inN at hlow hhigh
 have hcl:=R.crit
 have hlots:=R.lots
 have hsv:=hv.len
 refine⟨fi ?_⟩
 intro w1
 have h:Sx w w1 _:=(Sx.nil Fr.refl).row (cs:=x.cs)
 clear_value w1
 generalize w.heap.size=t0 at h ⊢
 intro w2
 have h:Sx w w2 _:=h.row (cs:=[.int .i64 0,.int .i64 0,.int .i64 0,.int .i64 0,.slice none 0 0])
 clear_value w2
 generalize w1.heap.size=t6 at h ⊢
 intro w3
 have h:Sx w w3 [(fun c=>c=t6,fun u=>Row u t6 [.int .i64 0,.int .i64 0,.int .i64 0,.int .i64 0,.slice none 0 0]),(fun c=>c=t0,fun u=>Row u t0 x.cs)]:=h.fr Fr.drew
 clear_value w3
 have hvl:=T.crit.len
 have loop:∀(v:World) (xb:Nat) (id p:Int),I64 id->t.low<=p->p<=t.high->Sx w v ((fun c=>c=xb,fun u=>Row u xb [.int .i64 0,.int .i64 id,.int .i64 0,.int .i64 p,.slice none 0 0])::[(fun c=>c=t6,fun u=>Row u t6 [.int .i64 0,.int .i64 0,.int .i64 0,.int .i64 0,.slice none 0 0]),(fun c=>c=t0,fun u=>Row u t0 x.cs)]) ->
   z3c_k0 s ⟨t0,0,none⟩ ⟨t6,0,none⟩ ⟨xb,0,none⟩ K v:=fun v xb id p hid hp1 hp2 h=>by
  refine⟨fi ?_⟩
  have h:=h.add (q:=(inB ⟨none,0,0⟩,fun u=>Ow 2 encV u ⟨none,0,0⟩ [])) Fr.refl (q0b.ow _ _) ⟨rfl,OwnV.nil⟩ fun b ⟨a,ha,_⟩=>by cases ha
  refine⟨⟨fun i u=>∃(k:Nat) (o:Sl) (vs:List Vl),i=(k:Int)/\k<=t.crit.length/\vs.length=k/\vs.map (·.1)=(t.crit.take k).map Cr.name/\(∀v∈vs,0<=v.2/\v.2<=30)/\Sx w u [(inB o,fun u=>Ow 2 encV u o vs),(fun c=>c=xb,fun u=>Row u xb [.int .i64 0,.int .i64 id,.int .i64 0,.int .i64 p,.slice o.p o.l o.c]),(fun c=>c=t6,fun u=>Row u t6 [.int .i64 0,.int .i64 0,.int .i64 0,.int .i64 0,.slice none 0 0]),(fun c=>c=t0,fun u=>Row u t0 x.cs)],fun i _=>t.crit.length-i.toNat,⟨0,⟨none,0,0⟩,[],rfl,Jl _,rfl,rfl,fun v hv=>(by cases hv),h⟩,?_⟩⟩
  rintro _ u ⟨k,o,vs,rfl,hk,hvs,hnm,hvb,h⟩
  refine fi ?_
  refine⟨x.f2,h.ld 3 rfl rfl,q00.2 ⟨fun hlt=>⟨x.f2,h.ld 3 rfl rfl,?_⟩,fun hge=>?_⟩⟩
  ·have hkl:k<t.crit.length:=oo
   refine Vw.go (enc:=encC) (fun _=>rfl) od (T.crit.fr h.fr0) k rfl hkl fun ad hc=>?_
   refine⟨_,hc 0 _ rfl,_,hc 1 _ rfl,_,hc 2 _ rfl,_,hc 3 _ rfl,_,hc 4 _ rfl,?_⟩
   have hcb:=hcr _ (J1 hkl)
   have tk:(t.crit.take (k+1)).map Cr.name=(t.crit.take k).map Cr.name++[t.crit[k].name]:=by
    rw[J9,J5 hkl,J2]
    rfl
   generalize t.crit[k]=c at hcb tk ⊢
   refine h.box (vs:=encC c) rfl fun w5 f5 h=>?_
   generalize u.heap.size=cb at h ⊢
   refine q00.2 ⟨fun hlt2=>?_,fun _=>at_k2 h ⟨oo,oo⟩ hcb oo hvs fun u r h=>⟨⟨⟨rfl,rfl,rfl,rfl,trivial⟩,k+1,r,_,oo,oo,by rw[J0,hvs];rfl,by rw[J2,hnm,tk];rfl,fun z hz=>by
    rcases J3.1 hz with hz|hz
    ·exact hvb z hz
    ·rw[J6.1 hz]
     exact⟨uo,uo⟩,h⟩,uo⟩⟩
   have hkl2:k<l.length:=oo
   intro w6
   have h:Sx w w6 [(fun a=>a=cb,fun u=>Row u cb (encC c)),(inB o,fun u=>Ow 2 encV u o vs),(fun c=>c=xb,fun u=>Row u xb [.int .i64 0,.int .i64 id,.int .i64 0,.int .i64 p,.slice o.p o.l o.c]),(fun c=>c=t6,fun u=>Row u t6 [.int .i64 0,.int .i64 0,.int .i64 0,.int .i64 0,.slice none 0 0]),(fun c=>c=t0,fun u=>Row u t0 x.cs)]:=h.fr Fr.drew
   clear_value w6
   obtain⟨S,hSi,hSe⟩:∃S:World->Prop,(∀u,Sx w u [(fun a=>a=cb,fun u=>Row u cb (encC c)),(inB o,fun u=>Ow 2 encV u o vs),(fun c=>c=xb,fun u=>Row u xb [.int .i64 0,.int .i64 id,.int .i64 0,.int .i64 p,.slice o.p o.l o.c]),(fun c=>c=t6,fun u=>Row u t6 [.int .i64 0,.int .i64 0,.int .i64 0,.int .i64 0,.slice none 0 0]),(fun c=>c=t0,fun u=>Row u t0 x.cs)]->S u)/\∀u,S u->Sx w u [(fun a=>a=cb,fun u=>Row u cb (encC c)),(inB o,fun u=>Ow 2 encV u o vs),(fun c=>c=xb,fun u=>Row u xb [.int .i64 0,.int .i64 id,.int .i64 0,.int .i64 p,.slice o.p o.l o.c]),(fun c=>c=t6,fun u=>Row u t6 [.int .i64 0,.int .i64 0,.int .i64 0,.int .i64 0,.slice none 0 0]),(fun c=>c=t0,fun u=>Row u t0 x.cs)]:=⟨_,fun _ h=>h,fun _ h=>h⟩
   refine⟨S,hSi _ h,?_⟩
   refine Vw.goS (enc:=encI) (S:=S) (fun _=>rfl) od (hSi _ h) (fun u hu=>hv.fr (hSe u hu).fr0) k rfl hkl2 fun ad hc=>?_
   refine⟨_,hc 0 _ rfl,_,fun u hu=>(hSe u hu).ld 0 rfl rfl,_,fun u hu=>(hSe u hu).ld 0 rfl rfl,q01,q01,?_⟩
   have hm0:=Jk l[k] (show c.high-c.low+1≠0 by omega)
   have hm1:=Jj l[k] (show 0<c.high-c.low+1 by omega)
   exact q7v (by omega) (by omega) ⟨hSi _ h,at_k2 h ⟨hm0,(by omega)⟩ hcb (by omega) hvs fun u r h=>⟨⟨⟨rfl,rfl,rfl,rfl,trivial⟩,k+1,r,_,(by omega),(by omega),by rw[J0,hvs];rfl,by rw[J2,hnm,tk];rfl,fun z hz=>by
    rcases J3.1 hz with hz|hz
    ·exact hvb z hz
    ·rw[J6.1 hz]
     exact⟨uo,uo⟩,h⟩,uo⟩⟩
  ·have hk':k=t.crit.length:=oo
   subst hk'
   rw[Ja]at hnm
   simp -zeta only[q04]
   refine⟨_,h.ld 1 rfl rfl,_,h.ld 1 rfl rfl,_,h.ld 1 rfl rfl,_,h.ld 1 rfl rfl,o,h.ld 1 rfl rfl,?_⟩
   refine h.st (vs:=[.int .i64 0,.int .i64 id,.int .i64 0,.int .i64 p,.slice o.p o.l o.c]) 2 rfl rfl fun w10 f10 h=>?_
   exact⟨_,h.ld 2 rfl rfl,_,h.ld 2 rfl rfl,_,h.ld 2 rfl rfl,_,h.ld 2 rfl rfl,o,h.ld 2 rfl rfl,hK w10 ⟨0,id,0,p,o,vs⟩ h.fr0 ⟨hnm,hvb⟩ hp1 hp2 hid (h.get 0 rfl:Ow 2 encV w10 o vs).vw fun b hb=>h.nw 0 _ rfl b hb⟩
 obtain⟨S,hSi,hSe⟩:∃S:World->Prop,(∀u,Sx w u [(fun c=>c=t6,fun u=>Row u t6 [.int .i64 0,.int .i64 0,.int .i64 0,.int .i64 0,.slice none 0 0]),(fun c=>c=t0,fun u=>Row u t0 x.cs)]->S u)/\∀u,S u->Sx w u [(fun c=>c=t6,fun u=>Row u t6 [.int .i64 0,.int .i64 0,.int .i64 0,.int .i64 0,.slice none 0 0]),(fun c=>c=t0,fun u=>Row u t0 x.cs)]:=⟨_,fun _ h=>h,fun _ h=>h⟩
 refine⟨S,hSi _ h,x.f1,fun u hu=>(hSe u hu).ld 1 rfl rfl,?_⟩
 refine Vw.goS (enc:=encL) (S:=S) (fun _=>rfl) od (hSi _ h) (fun u hu=>T.lots.fr (hSe u hu).fr0) 0 rfl oo fun ad hc=>?_
 have hid:I64 t.lots[0].1:=q4t (R.lotN _ (J1 oo)).1 od
 generalize t.lots[0]=lt0 at hc hid
 refine⟨lt0.1,hc 0 _ rfl,_,fun u hu=>(hSe u hu).ld 1 rfl rfl,_,fun u hu=>(hSe u hu).ld 1 rfl rfl,_,fun u hu=>(hSe u hu).ld 1 rfl rfl,?_⟩
 rw[T.low,T.high]
 have hm0:=Jk price (show t.high-t.low+1≠0 by omega)
 have hm1:=Jj price (show 0<t.high-t.low+1 by omega)
 refine⟨q01,q01,?_,?_⟩
 ·refine q7v oo oo ⟨hSi _ h,q01,?_⟩
  intro w4
  have h4:Sx w w4 _:=h.row (cs:=[.int .i64 0,.int .i64 0,.int .i64 0,.int .i64 0,.slice none 0 0])
  clear_value w4
  refine⟨hSi _ h4.tail,?_⟩
  refine h4.st (vs:=[.int .i64 0,.int .i64 lt0.1,.int .i64 0,.int .i64 (t.low+price%(t.high-t.low+1)),.slice none 0 0]) 0 rfl rfl fun w5 f5 h=>?_
  exact loop w5 _ lt0.1 _ hid oo oo h
 ·intro w4
  have h4:Sx w w4 _:=h.row (cs:=[.int .i64 0,.int .i64 0,.int .i64 0,.int .i64 0,.slice none 0 0])
  clear_value w4
  refine⟨hSi _ h4.tail,?_⟩
  refine q7v oo oo ⟨hSi _ h4.tail,q01,?_⟩
  refine h4.st (vs:=[.int .i64 0,.int .i64 lt0.1,.int .i64 0,.int .i64 (t.low+price%(t.high-t.low+1)),.slice none 0 0]) 0 rfl rfl fun w5 f5 h=>?_
  exact loop w5 _ lt0.1 _ hid oo oo h
end
end Go.Proofs.YtmfkimnmklnppaaGreatDoor
namespace Pw
open Go
theorem Vw.drop{α:Type}{n:Nat}{enc:α->List Value}{w:World}{s:Sl}{l:List α}(h:Vw n enc w s l)(hn:∀a,(enc a).length=n){k:Nat}(hk:k<=l.length):Vw n enc w ⟨subP s.p k s.c n,s.l-k,s.c-k⟩ (l.drop k):=by
 have hl:=h.len
 have hc:=h.cap
 obtain⟨h1,h2⟩:=h.rd
 refine⟨by rw[Jg];show s.l-k=_;omega,by show s.l-k<=s.c-k;omega,by rw[q1d hn,Jg];show _=(s.l-k)*n;rw[hl],?_⟩
 show match subP s.p k s.c n with
  | none=>(s.l-k)*n=0
  | some a=>_
 unfold subP
 cases hp:s.p with
 | none =>
  rw[hp]at h2
  have h2:s.l*n=0:=h2
  have:(s.l-k)*n=0:=by
   rcases Nat.mul_eq_zero.1 h2 with h|h
   ·grind
   ·grind
  grind
 | some a =>
  rw[hp]at h2
  have h2:∀i (h:i<(l.flatMap enc).length),w.cell? (a.add i)=some (l.flatMap enc)[i]:=h2
  by_cases hck:s.c=k
  ·grind
  ·rw[if_neg hck]
   intro i hi
   show w.cell? ((a.add (k*n)).add i)=_
   rw[qkx]
   have hlen:((l.take k).flatMap enc).length=k*n:=by rw[q1d hn,List.length_take,Nat.min_eq_left hk]
   have he:l.flatMap enc=(l.take k).flatMap enc++(l.drop k).flatMap enc:=by rw[←List.flatMap_append,List.take_append_drop]
   grind
end Pw
namespace Dp
open Go Pw
structure EsOk(t:Td)(es:List En):Prop where
 b:es.map (·.b)=(Ji es.length).map fun(i:Nat)=>(i:Int)+1
 r:es.map (·.r)=(Ji es.length).map fun(i:Nat)=>(i:Int)+1
 v:∀e∈es,InT t e.vals/\t.low<=e.p/\e.p<=t.high
end Dp
namespace Go.Proofs.YtmfkimnmklnppaaGreatDoor
open Go Pw Dp
section
variable{w w' w0:World}{t:Td}{x:T43}
theorem qb1{ls o:Sl}{t2 xb k:Nat}{es:List En}{e:En}{L:List Pt}{N0:Sl->Addr->Sl->Int->World->Prop}{K:Sl->World->Prop}
  (h:Sx w w' ((fun c=>c=xb,fun u=>Row u xb (encE e))::(inB e.v,fun u=>Vw 2 encV u e.v e.vals)::(inB o,fun u=>Ow 5 encE u o es)::EP es::L)) (E:EsOk t es) (hes:es.length<6) (hin:InT t e.vals) (hc:t.crit.length<=12) (hp:t.low<=e.p/\e.p<=t.high) (hpi:I64 e.p) (hk:k<2^62)
  (hK:∀u r es',es'.length=es.length+1->EsOk t es'->Sx w u ((inB r,fun u=>Ow 5 encE u r es')::EP es'::L)->N0 ls ⟨t2,0,none⟩ r ((k:Int)+4) u) :
  z0t_k1 ls ⟨t2,0,none⟩ o (k:Int) ⟨xb,0,none⟩ N0 K w':=by
 have hol:=(h.get 2 rfl:Ow 5 encE w' o es).len
 refine⟨fi ?_⟩
 refine⟨q01,h.wr 0 rfl rfl,?_⟩
 intro w1
 have h:Sx w w1 _:=h.set (i:=0) (v:=.int .i64 ((o.l:Int)+1)) 0 rfl
 clear_value w1
 refine⟨q01,h.wr 0 rfl rfl,?_⟩
 intro w2
 have h:Sx w w2 _:=h.set (i:=2) (v:=.int .i64 ((o.l:Int)+1)) 0 rfl
 clear_value w2
 refine⟨_,h.ld 0 rfl rfl,_,h.ld 0 rfl rfl,_,h.ld 0 rfl rfl,_,h.ld 0 rfl rfl,e.v,h.ld 0 rfl rfl,?_⟩
 intro w3
 have hx:Vw 5 encE w3 ⟨some ⟨w2.heap.size,0,none⟩,1,1⟩ [{ e with b:=(o.l:Int)+1,r:=(o.l:Int)+1 }]:=Vw.new rfl rfl
 have h:Sx w w3 _:=h.fr Fr.alloc
 clear_value w3
 refine h.app 2 rfl hx encE_ok rfl oz oz fun r w4 h f4=>?_
 refine⟨q01,?_⟩
 have h:=h.tail
 have hvl:e.vals.length=t.crit.length:=by
  have:=congrArg List.length hin.nm
  grind
 have h:=Sx.joinM (A:=[]) (B:=(inB r,fun u=>Ow 5 encE u r (es++[{ e with b:=(o.l:Int)+1,r:=(o.l:Int)+1 }]))::EP es::L) (r:=EP (es++[{ e with b:=(o.l:Int)+1,r:=(o.l:Int)+1 }])) h 1 rfl (q0b.ep _) (fun h1 h2 a ha=>by
  rcases J3.1 ha with ha|ha
  ·exact h1 a ha
  ·rw[J6.1 ha]
   have ho:I64 ((o.l:Int)+1):=⟨oo,oo⟩
   exact⟨h2,by show e.vals.length<_;omega,fun v hv=>by
    have:=hin.vb v hv
    exact⟨oo,oo⟩,ho,ho,hpi⟩) (fun b ⟨a,ha,hb⟩=>by
  rcases J3.1 ha with ha|ha
  ·grind
  ·grind)
 refine hK w4 r _ oz ⟨?_,?_,fun z hz=>?_⟩ h
 ·rw[J2,E.b,J0,Jc,Jh,J2,hol]
  rfl
 ·rw[J2,E.r,J0,Jc,Jh,J2,hol]
  rfl
 ·rcases J3.1 hz with hz|hz
  ·exact E.v z hz
  ·grind
theorem qev{ls:Sl}{l:List Int}{K:Sl->World->Prop}(T:TP w x t)(R:q0m t)(hlh:t.low<=t.high)(hcr:∀c∈t.crit,0<=c.low/\c.low<=c.high/\c.high<=30)(hv:Vw 1 encI w ls l)(hl:l.length<2^61)
  (hK:∀w' s es,Sx w w' [(inB s,fun u=>Ow 5 encE u s es),EP es]->es.length<=6->EsOk t es->K s w'):z0t_sh x ls K w:=by
 have hlow:=R.low
 have hhigh:=R.high
 unfold inN at hlow hhigh
 have hcl:=R.crit
 have hsv:=hv.len
 refine⟨fi ?_⟩
 intro w1
 have h:Sx w w1 _:=(Sx.nil Fr.refl).row (cs:=x.cs)
 clear_value w1
 generalize w.heap.size=t2 at h ⊢
 have h:=h.add (q:=EP []) Fr.refl (q0b.ep []) (fun e he=>by cases he) fun b ⟨e,he,_⟩=>by cases he
 have h:=h.add (q:=(inB ⟨none,0,0⟩,fun u=>Ow 5 encE u ⟨none,0,0⟩ [])) Fr.refl (q0b.ow _ _) ⟨rfl,OwnV.nil⟩ fun b ⟨a,ha,_⟩=>by cases ha
 refine⟨⟨fun o i u=>∃(k:Nat) (es:List En),i=(k:Int)/\k<=l.length+4/\es.length<=6/\EsOk t es/\Sx w u [(inB o,fun u=>Ow 5 encE u o es),EP es,(fun c=>c=t2,fun u=>Row u t2 x.cs)],fun _ i _=>l.length+4-i.toNat,⟨0,[],rfl,Jl _,Jl _,⟨rfl,rfl,fun e he=>by cases he⟩,h⟩,?_⟩⟩
 rintro o _ u ⟨k,es,rfl,hk,hes,E,h⟩
 have hend:K o u:=hK u o es (h.pick [0,1] od rfl) hes E
 refine fi ?_
 refine⟨q01,q00.2 ⟨fun hlt=>q00.2 ⟨fun ho=>?_,fun _=>hend⟩,fun _=>hend⟩⟩
 have hol:=(h.get 0 rfl:Ow 5 encE u o es).len
 have hkl:k<l.length:=oo
 intro w2
 have h:Sx w w2 [(inB o,fun u=>Ow 5 encE u o es),EP es,(fun c=>c=t2,fun u=>Row u t2 x.cs)]:=h.fr Fr.drew
 clear_value w2
 obtain⟨S,hSi,hSe⟩:∃S:World->Prop,(∀u,Sx w u [(inB o,fun u=>Ow 5 encE u o es),EP es,(fun c=>c=t2,fun u=>Row u t2 x.cs)]->S u)/\∀u,S u->Sx w u [(inB o,fun u=>Ow 5 encE u o es),EP es,(fun c=>c=t2,fun u=>Row u t2 x.cs)]:=⟨_,fun _ h=>h,fun _ h=>h⟩
 refine⟨S,hSi _ h,T43.lds_pre (l:=[]) (fun u hu=>by rw[J4];exact(hSe u hu).get 2 rfl) ?_⟩
 refine Vw.goS (enc:=encI) (S:=S) (fun _=>rfl) od (hSi _ h) (fun u hu=>hv.fr (hSe u hu).fr0) k rfl hkl fun ad hc=>?_
 refine⟨_,hc 0 _ rfl,q01,⟨oo,oo⟩,?_,?_⟩
 ·have hd:Vw 1 encI w2 _ (l.drop (k+1)):=(hv.fr h.fr0).drop (fun _=>rfl) oo
  refine qof (T.fr h.fr0) R hlh hcr hd fun w5 e f5 hin hp1 hp2 hid hev hnew=>⟨hSi _ (h.fr f5),?_⟩
  have h:=h.add (q:=(inB e.v,fun u=>Vw 2 encV u e.v e.vals)) f5 (q0b.vw _ _) hev hnew
  intro w6
  have h:Sx w w6 _:=h.row (cs:=[.int .i64 0,.int .i64 0,.int .i64 0,.int .i64 0,.slice none 0 0])
  clear_value w6
  generalize w5.heap.size=xb at h ⊢
  refine⟨hSi _ h.tail.tail,?_⟩
  refine h.st (vs:=[.int .i64 0,.int .i64 e.l,.int .i64 0,.int .i64 e.p,.slice e.v.p e.v.l e.v.c]) 0 rfl rfl fun w7 f7 h=>?_
  exact qb1 (e:=⟨0,e.l,0,e.p,e.v,e.vals⟩) (L:=[(fun c=>c=t2,fun u=>Row u t2 x.cs)]) h E oo hin hcl ⟨hp1,hp2⟩ ⟨by show _<=e.p;omega,by show e.p<_;omega⟩ oo fun u r es' hl' E' h=>⟨⟨⟨rfl,rfl,trivial⟩,k+4,es',oo,oo,oo,E',h⟩,uo⟩
 ·intro w6
  have h:Sx w w6 _:=h.row (cs:=[.int .i64 0,.int .i64 0,.int .i64 0,.int .i64 0,.slice none 0 0])
  have hd:Vw 1 encI w6 _ (l.drop (k+1)):=(hv.fr h.fr0).drop (fun _=>rfl) oo
  clear_value w6
  generalize w2.heap.size=xb at h ⊢
  refine⟨hSi _ h.tail,?_⟩
  refine qof (T.fr h.fr0) R hlh hcr hd fun w5 e f5 hin hp1 hp2 hid hev hnew=>?_
  have h:=h.add (q:=(inB e.v,fun u=>Vw 2 encV u e.v e.vals)) f5 (q0b.vw _ _) hev hnew
  refine h.st (vs:=[.int .i64 0,.int .i64 e.l,.int .i64 0,.int .i64 e.p,.slice e.v.p e.v.l e.v.c]) 1 rfl rfl fun w7 f7 h=>?_
  exact qb1 (e:=⟨0,e.l,0,e.p,e.v,e.vals⟩) (L:=[(fun c=>c=t2,fun u=>Row u t2 x.cs)]) (h.pick [1,0,2,3,4] od rfl) E oo hin hcl ⟨hp1,hp2⟩ ⟨by show _<=e.p;omega,by show e.p<_;omega⟩ oo fun u r es' hl' E' h=>⟨⟨⟨rfl,rfl,trivial⟩,k+4,es',oo,oo,oo,E',h⟩,uo⟩
end
