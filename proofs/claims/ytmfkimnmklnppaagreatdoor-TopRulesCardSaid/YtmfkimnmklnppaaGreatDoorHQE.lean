/- text: texts that are split; the tokens of a line and of a formula. Conditions: none. -/
import Derived.Test.YtmfkimnmklnppaaGreatDoorHQD
import Derived.Shelf.Strings.Cut
import Derived.Shelf.Strings.Split
import Derived.Shelf.Strings.Prefix
import Derived.Shelf.Strings.Search3
import Derived.Test.YtmfkimnmklnppaaGreatDoorCards
import Derived.Test.YtmfkimnmklnppaaGreatDoorTie
import Derived.Deep.DeepHandedRow
import Derived.Lib.LaidTab
import Derived.Test.YtmfkimnmklnppaaGreatDoorGQC
import Derived.SizedLaws
open List renaming drop_eq_nil_of_le->J0,drop_drop->J1,length_pos_iff->J2,getElem_mem->J3,length_append->J4,mem_cons_self->J5,take_append_drop->J6,drop_left->J7,not_mem_nil->J8,drop_eq_getElem_cons->J9,append_assoc->Ja,take_length->Jb,all_eq_true->Jc,mem_cons->Jd,length->Je,append_nil->Jf,filter_append->Jg,pairwise_cons->Jh,length_cons->Ji,map_append->Jj,isSuffixOf->Jk,isPrefixOf->Jl,map_cons->Jm,map_map->Jn,map_nil->Jo
open Int renaming ediv_nonneg->Jp,lt_or_le->Jq,mul_ediv_add_emod->Jr,ediv_le_of_le_mul->Js,natAbs_tdiv->Jt,emod_nonneg->Ju,tdiv->Jv
open Nat renaming lt_or_ge->Jw,div_le_self->Jx,le_refl->Jy,gcd->Jz,le_trans->JA,gcd_comm->JB,zero_le->JC
open Bool renaming and_eq_true->JD
namespace Pw
open Go
def szL:List (List UInt8)->Nat
 | []=>0
 | l::ls=>l.length+1+szL ls
theorem q6f{c:UInt8}:∀(k:Nat) (s:List UInt8),s.length<=k->szL (q0d c s)=s.length+1
 | k,s,hk=>by
  by_cases hc:c∈s
  ·obtain⟨a,b,rfl,ha⟩:=List.eq_append_cons_of_mem hc
   simp only[J4,Ji]at hk ⊢
   cases k with
   | zero=>omega
   | succ k =>
    rw[q53 ha]
    have:=q6f (c:=c) k b oo
    simp only[szL,this]
    omega
  ·rw[q5j hc]
   simp[szL]
theorem qc5:∀a b:List (List UInt8),szL (a++b)=szL a+szL b
 | [],b=>by simp[szL]
 | x::a,b=>by simp only[List.cons_append,szL,qc5 a b];omega
theorem qc6:∀ls:List (List UInt8),ls.length<=szL ls
 | []=>Jy _
 | l::ls=>by
  have:=qc6 ls
  simp only[Ji,szL]
  omega
theorem q6g(ls:List (List UInt8))(i:Nat):szL (ls.take i)<=szL ls:=by
 have:=qc5 (ls.take i) (ls.drop i)
 simp_all
theorem map_bl{l:List ByteArray}{m:List (List UInt8)}(h:l.map bl=m):l=m.map ofL:=by
 rw[←h,Jn]
 conv=>lhs;rw[←List.map_id l]
 exact List.map_congr_left fun s _=>q7b og
theorem q6h{p:UInt8->Bool}{a b:List UInt8}(h:a.all p=true)(h':∀c r,b=c::r->p c=false):(a++b).takeWhile p=a:=by
 induction a with
 | nil =>
  cases b with
  | nil=>rfl
  | cons c r=>simp_all
 | cons x a ih=>simp_all
end Pw
namespace Go.Proofs.YtmfkimnmklnppaaGreatDoor
open Go Pw Dp
structure Gm(w:World):Prop where
 tab:GlT w
 m5:∃m,w.cell? ⟨Tryz.laysM145_ren.g 1,0,none⟩=some (.int .i64 m)
 m6:∃m,w.cell? ⟨Tryz.laysM146_ren.g 1,0,none⟩=some (.int .i64 m)
section
variable{w w' w0:World}
theorem qmz(hf:Fr F0 w w'){a:Addr}{v:Value}(h:w.cell? a=some v):w'.cell? a=some v:=by
 have hlt:=World.block_lt_of_cell? _ _ h
 have h2:=hf.2.1 a.block hlt fun hh=>hh
 unfold World.cell? at h ⊢
 rw[h2]
 exact h
theorem Gm.fr(h:Gm w)(hf:Fr F0 w w'):Gm w':=by
 obtain⟨h1,⟨m,h2⟩,⟨m',h3⟩⟩:=h
 exact⟨h1.fr hf,⟨m,qmz hf h2⟩,⟨m',qmz hf h3⟩⟩
theorem qam{s:B}{c:UInt8}{K:Sl->World->Prop}(h:s.length<4294967281)(g:Gm w)(hK:∀w' r,Mk w 1 encB w' r (q0d c s)->K r w'):z4c_sh (ofL s) (ofL [c]) K w:=by
 obtain⟨m,hm⟩:=g.m6
 have so:(ofL s).size=s.length:=q0u s
 have hc:(ofL [c]).size=1:=q0u [c]
 have e:Lib.splitB (ofL [c]) 0 (Lib.countB (ofL s) (ofL [c])) (ofL s)=(q0d c s).map ofL:=by
  refine map_bl ?_
  have h:=Lib.splitB_data (ofL [c]) 0 (Lib.countB (ofL s) (ofL [c])) (ofL s)
  have e1:(ofL s).data.toList=s:=q28 s
  have e2:(ofL [c]).data.toList=[c]:=q28 [c]
  have e3:Lib.countB (ofL s) (ofL [c])=Lib.count s [c]:=oz
  rw[e1,e2,e3]at h
  rw[e3]
  exact h
 have hl:=Lib.splitB_all (ofL [c]) oo 0 _ (ofL s) rfl
 exact⟨(Any.strings_Split { Tryz.laysM146 with } Tryz.laysM146.i9 (ofL s) (ofL [c]) m w oo hm oo).mono fun e' w' he=>by
  obtain⟨rfl,rfl⟩:=he
  refine⟨⟨some ⟨w.heap.size,0,none⟩,_,_⟩,rfl,hK _ _ ?_⟩
  rw[e]at hl
  have ec:((q0d c s).map ofL).map Value.string=(q0d c s).flatMap encB:=by rw[Jn];exact(qhz (fun x=>Value.string (ofL x)) _).symm
  rw[e,ec]
  refine⟨Fr.alloc,?_,fun b ⟨a,ha,hb⟩=>by cases ha;subst hb;exact Jy _⟩
  have:=Row.ow (enc:=encB) (n:=1) (fun _=>rfl) (l:=q0d c s) (Row.new (w:=w) (cs:=(q0d c s).flatMap encB) (e:=Tryz.laysM146_ren.t 9))
  grind⟩
theorem qq4{s:B}{c:UInt8}{K:ByteArray->ByteArray->Bool->World->Prop}(h:s.length<4294967281)(g:Gm w)
  (hK:∀w',Fr F0 w w'->K (ofL (Lib.cut s [c]).1) (ofL (Lib.cut s [c]).2.1) (Lib.cut s [c]).2.2 w'):z5u_sh (ofL s) (ofL [c]) K w:=by
 obtain⟨m,hm⟩:=g.m5
 exact⟨(Any.strings_Cut { Tryz.laysM145 with } (ofL s) (ofL [c]) m w (by rw[q0u];exact h) hm).mono fun e w' he=>by
  obtain⟨rfl,n,rfl⟩:=he
  have e1:(ofL s).data.toList=s:=q28 s
  have e2:(ofL [c]).data.toList=[c]:=q28 [c]
  rw[e1,e2]
  exact⟨_,_,_,rfl,hK _ (qi7 w n)⟩⟩
theorem q9v{s p:B}{K:Bool->World->Prop}(h:s.length<2^62)(hK:K (p.isSuffixOf s) w):z2d_sh (ofL s) (ofL p) K w:=
 ⟨(Any.strings_HasSuffix Tryz.lays100 (ofL s) (ofL p) w (by rw[q0u];omega)).mono fun e w' he=>by
  obtain⟨rfl,rfl⟩:=he
  have e1:(ofL s).data.toList=s:=q28 s
  have e2:(ofL p).data.toList=p:=q28 p
  rw[e1,e2]
  exact⟨_,rfl,hK⟩⟩
theorem q5c{s:B}{c:UInt8}{K:Bool->World->Prop}(hK:K (decide (0<=Lib.indexByte s c)) w):z36_sh (ofL s) (ofL [c]) K w:=
 ⟨(Any.strings_Contains_one Tryz.lays144 (ofL s) c w).mono fun e w' he=>by
  obtain⟨rfl,rfl⟩:=he
  have e1:(ofL s).data.toList=s:=q28 s
  grind⟩
theorem qgg{s:B}{fr:Int}{K:Sl->World->Prop}(hs:s.length<=2^20)(h0:0<=fr/\fr<=2^40)(g:Gm w)
  (hK:∀w' r T,Mk w 2 q4r w' r T->T.map (·.1)=(q0d 32 s).filter (fun p=>!decide (p=[]))++[[]]->(∀p q,q0d 32 s=p::q->p≠[]->T[0]?=some (p,fr))->K r w'):z61_sh (ofL s) fr K w:=by
 refine⟨fi ?_⟩
 rw[show str [32]=ofL [32]from rfl]
 refine qam oo g fun w1 r2 h2=>?_
 have hsz:szL (q0d 32 s)=s.length+1:=q6f s.length s (Jy _)
 have hln:=qc6 (q0d 32 s)
 generalize q0d 32 s=P at *
 have el:=h2.len
 have push:∀(u:World) (o:Sl) (T:List (B×Int)) (x:B×Int) (K':SW),Mk w1 2 q4r u o T->T.length<=P.length->(∀r u',Mk w1 2 q4r u' r (T++[x])->K' r u')->apS 2 24 [(Value.string (str [])),(Value.int .i64 (0:Int))] 171 o ⟨some ⟨u.heap.size,0,none⟩,1,1⟩ (u.alloc (Obj.cells #[.string (ofL x.1),.int .i64 x.2] 171)) K':=fun u o T x K' hm hl hK=>by
  refine hm.push (a:=x) rfl rfl qid rfl oo oo fun r u' h _=>hK r u' h
 refine⟨⟨fun o at' i u=>∃(i':Nat) (T:List (B×Int)),i=i'/\i'<=P.length/\at'=fr+(szL (P.take i'):Nat)/\Mk w1 2 q4r u o T/\T.map (·.1)=(P.take i').filter (fun p=>!decide (p=[]))/\(∀p q,P=p::q->p≠[]->0<i'->T[0]?=some (p,fr)),fun _ _ i _=>P.length-i.toNat,⟨0,[],rfl,oo,by simp[szL],Mk.nil Fr.refl,rfl,fun _ _ _ _ h=>oo⟩,?_⟩⟩
 rintro o at' i u ⟨i,T,rfl,hi,rfl,hm,hT,hF⟩
 have hTl:T.length<=P.length:=by
  have h1:=congrArg Je hT
  grind
 have hst:=q6g P i
 have hP:Vw 1 encB u r2 P:=(h2.fr hm.fr0).vw
 refine fi ?_
 refine q00.2 ⟨fun hlt=>?_,fun hge=>?_⟩
 ·have hil:i<P.length:=oo
  refine ldB hP i rfl hil ?_
  have es:szL (P.take (i+1))=szL (P.take i)+(P[i].length+1):=by rw[q16 hil,qc5];simp[szL]
  have hst2:=q6g P (i+1)
  have k1:∀(v:World) (o':Sl) (T':List (B×Int)),Mk w1 2 q4r v o' T'->T'.map (·.1)=(P.take (i+1)).filter (fun p=>!decide (p=[]))->(∀p q,P=p::q->p≠[]->T'[0]?=some (p,fr))->z61_k1 (ofL s) fr o' (fr+(szL (P.take i):Nat)) (ofL P[i]) r2 (r2.l:Int) (i:Int) (fun(s_0':ByteArray) (from_1':Int) (out_5':Sl) (at_6':Int) (t_11':Sl) (t_12':Int) (t_13':Int) (w':World)=>((s_0'=ofL s/\from_1'=fr/\t_11'=r2/\t_12'=(r2.l:Int)/\True)/\∃(i':Nat) (T:List (B×Int)),t_13'=i'/\i'<=P.length/\at_6'=fr+(szL (P.take i'):Nat)/\Mk w1 2 q4r w' out_5' T/\T.map (·.1)=(P.take i').filter (fun p=>!decide (p=[]))/\(∀p q,P=p::q->p≠[]->0<i'->T[0]?=some (p,fr)))/\P.length-t_13'.toNat<P.length-(i:Int).toNat) K v:=fun v o' T' hm' hT' hF'=>by
   refine⟨fi ?_⟩
   rw[q0u]
   refine⟨q01,q01,q01,⟨⟨rfl,rfl,rfl,rfl,trivial⟩,i+1,T',oo,oo,oo,hm',hT',fun p q e hp _=>hF' p q e hp⟩,oo⟩
  rw[show str []=ofL []from rfl,q0c]
  by_cases hp:P[i]=[]
  ·rw[decide_eq_true hp]
   refine q0h (k1 u o T hm ?_ fun p q e hne=>?_)
   ·rw[q16 hil,Jg,hT,hp]
    simp
   ·grind
  ·rw[decide_eq_false hp]
   refine q08 ?_
   refine push u o T (P[i],fr+(szL (P.take i):Nat)) _ hm hTl fun r u' h'=>k1 u' r _ h' ?_ fun p q e hne=>?_
   ·rw[q16 hil,Jg,Jj,hT]
    simp[hp]
   ·rcases Nat.eq_zero_or_pos i with hz|hz
    ·subst hz
     have:T=[]:=ud
     subst this
     simp[e,szL]
    ·grind
 ·have hil:i=P.length:=oo
  subst hil
  rw[Jb]at *
  rw[q0u]
  refine⟨q01,?_⟩
  refine push u o T ([],fr+(s.length:Int)) _ hm hTl fun r u' h'=>hK u' r _ ⟨h2.fr0.t h'.fr0,h'.ow,fun b hb=>JA h2.fr0.1 (h'.nw b hb)⟩ ?_ fun p q e hne=>?_
  ·grind
  ·grind
end
open Go Go.ChangeShapes Go.WideShapes Go.ChangeAt Go.RowKit
set_option maxRecDepth 100000
noncomputable abbrev LL:List (String×DataW Unit):=Rows.topRulesRow.laid
theorem gTab:Tryz.prog.globalNamed "internal/strconv.uint64pow10"=some 3:=by kernel_rfl
theorem qq5:(Tryz.prog.globals[3]?).map (·.type)=some 368:=by kernel_rfl
theorem qq6:Tryz.prog.cellsOf 368=20:=by kernel_rfl
theorem cellsU:Tryz.prog.cellsOf 98=1:=by kernel_rfl
def only(n:String)(x:String×DataW Unit):Bool:=x.1==n
theorem tab_of{W:World}(h:laidMetH Tryz.prog LL W):Lib.TabIs Tryz.prog W "internal/strconv.uint64pow10" .u64 Lib.pow10Tab:=
 Lib.tabIs_of_head (rest:=[]) gTab qq5 Tryz.underlying368 Tryz.underlying98 cellsU qq6 (laidMetH.filter (only "internal/strconv.uint64pow10") h)
theorem glob{W:World}(h:laidMetH Tryz.prog LL W)(hsh:W.ShapedOpen Tryz.prog):Gm W:=⟨tab_of h,Tryz.laysM145.s1_3 W hsh,Tryz.laysM146.s1_3 W hsh⟩
noncomputable def low0:Nat:=(World.holding Tryz.prog default ⟨#[],#[],[]⟩).heap.size
noncomputable def q91(os:Os):World:=
 let w0:=World.holding Tryz.prog os ⟨#[.cells #[.string { data:=#[118,97,108,117,101,32,111,117,116,32,111,102,32,114,97,110,103,101] }] 406,.cells #[.string { data:=#[105,110,118,97,108,105,100,32,115,121,110,116,97,120] }] 406],#[],[]⟩
 let h0:=w0.heap
 let h1:=h0.modify 8 fun o=>match o with
  | .cells _ t frozen=>.cells #[.int .u8 0,.int .u8 1,.int .u8 28,.int .u8 2,.int .u8 29,.int .u8 14,.int .u8 24,.int .u8 3,.int .u8 30,.int .u8 22,.int .u8 20,.int .u8 15,.int .u8 25,.int .u8 17,.int .u8 4,.int .u8 8,.int .u8 31,.int .u8 27,.int .u8 13,.int .u8 23,.int .u8 21,.int .u8 19,.int .u8 16,.int .u8 7,.int .u8 26,.int .u8 12,.int .u8 18,.int .u8 6,.int .u8 11,.int .u8 5,.int .u8 10,.int .u8 9] t frozen
  | o=>o
 let h2:=h1.modify 9 fun o=>match o with
  | .cells _ t frozen=>.cells #[.int .u8 0,.int .u8 1,.int .u8 56,.int .u8 2,.int .u8 57,.int .u8 49,.int .u8 28,.int .u8 3,.int .u8 61,.int .u8 58,.int .u8 42,.int .u8 50,.int .u8 38,.int .u8 29,.int .u8 17,.int .u8 4,.int .u8 62,.int .u8 47,.int .u8 59,.int .u8 36,.int .u8 45,.int .u8 43,.int .u8 51,.int .u8 22,.int .u8 53,.int .u8 39,.int .u8 33,.int .u8 30,.int .u8 24,.int .u8 18,.int .u8 12,.int .u8 5,.int .u8 63,.int .u8 55,.int .u8 48,.int .u8 27,.int .u8 60,.int .u8 41,.int .u8 37,.int .u8 16,.int .u8 46,.int .u8 35,.int .u8 44,.int .u8 21,.int .u8 52,.int .u8 32,.int .u8 23,.int .u8 11,.int .u8 54,.int .u8 26,.int .u8 40,.int .u8 15,.int .u8 34,.int .u8 20,.int .u8 31,.int .u8 10,.int .u8 25,.int .u8 14,.int .u8 19,.int .u8 9,.int .u8 13,.int .u8 8,.int .u8 7,.int .u8 6] t frozen
  | o=>o
 let h3:=h2.modify 3 fun o=>match o with
  | .cells _ t frozen=>.cells #[.int .u64 1,.int .u64 10,.int .u64 100,.int .u64 1000,.int .u64 10000,.int .u64 100000,.int .u64 1000000,.int .u64 10000000,.int .u64 100000000,.int .u64 1000000000,.int .u64 10000000000,.int .u64 100000000000,.int .u64 1000000000000,.int .u64 10000000000000,.int .u64 100000000000000,.int .u64 1000000000000000,.int .u64 10000000000000000,.int .u64 100000000000000000,.int .u64 1000000000000000000,.int .u64 10000000000000000000] t frozen
  | o=>o
 let h4:=h3.modify 7 fun o=>match o with
  | .cells _ t frozen=>.cells #[.iface 404 (.pointer (some ⟨low0,0,none⟩))] t frozen
  | o=>o
 let h5:=h4.modify 6 fun o=>match o with
  | .cells _ t frozen=>.cells #[.iface 404 (.pointer (some ⟨low0+1,0,none⟩))] t frozen
  | o=>o
 let h6:=h5.modify 2 fun o=>match o with
  | .cells _ t frozen=>.cells #[.int .u8 128,.int .u8 191,.int .u8 160,.int .u8 191,.int .u8 128,.int .u8 159,.int .u8 144,.int .u8 191,.int .u8 128,.int .u8 143,.int .u8 0,.int .u8 0,.int .u8 0,.int .u8 0,.int .u8 0,.int .u8 0,.int .u8 0,.int .u8 0,.int .u8 0,.int .u8 0,.int .u8 0,.int .u8 0,.int .u8 0,.int .u8 0,.int .u8 0,.int .u8 0,.int .u8 0,.int .u8 0,.int .u8 0,.int .u8 0,.int .u8 0,.int .u8 0] t frozen
  | o=>o
 let h7:=h6.modify 1 fun o=>match o with
  | .cells _ t frozen=>.cells (Go.Pinned.utf8FirstZ.map fun(n:Nat)=>Value.int .u8 (n:Int)).toArray t frozen
  | o=>o
 { w0 with heap:=h7 }
theorem qq7(os:Os)(args:Array Value):laidMet Tryz.prog LL ((q91 os).forCall (fun _ _=>0) ⟨#[],args,[]⟩).memory:=
 laidMet_of_run' 8 (by kernel_rfl) (by kernel_rfl)
end Go.Proofs.YtmfkimnmklnppaaGreatDoor
namespace Pw
open Go Go.ChangeShapes Go.WideShapes Go.ChangeAt Go.RowKit
section
variable{H:Type}{enc:TypeId×Value->H}{P:Program}{W:World}
theorem qq8{k:IntKind}{t e:TypeId}{cs:List Value}{x:DataW H×List MemPlace}{fuel:Nat}(ht:P.underlying t=some (.slice e))(he:P.underlying e=some (.int k))(hc:P.cellsOf e=1)
  (h:DataW.trod enc P W 0 (fun _=>true) true fuel t cs=some x) :
  ∃(q:Sl) (l:List Int),cs=[.slice q.p q.l q.c]/\Vw 1 (ie k id) W q l/\(∀n∈l,(Lit.int k n).wf=true)/\l.length<2^63/\∀R b,P.bytesOf e=b->(∀n∈x.1.weights P t,n<=R)->l.length*b<=R:=by
 rcases open_ints ht he hc h with⟨rfl,_⟩|⟨a,len,cap,zs,rfl,_,hle,hm,hz,hx,hcell,hwf⟩
 ·exact⟨⟨none,0,0⟩,[],rfl,Vw.nil,og,og,fun R b _ _=>og⟩
 ·simp only[if_true]at hz
  have hlen:(zs.take len).length=len:=oy
  refine⟨⟨some a,len,cap⟩,zs.take len,rfl,⟨hlen.symm,hle,?_⟩,fun n hn=>hwf n (List.mem_of_mem_take hn),?_,fun R b hb hw=>?_⟩
  ·rw[show(zs.take len).flatMap (ie k id)=(zs.take len).map (fun n=>Value.int k n)from qhz (fun n=>Value.int k n) _]
   refine⟨oy,fun i hi=>?_⟩
   simp at hi
   rw[hcell i oo]
   have:i<zs.length:=oo
   simp[this]
  ·rw[hlen]
   have:maxLen=2^63-1:=rfl
   omega
  ·rw[hx]at hw
   have:=hw ((lits (H:=H) k (zs.take len)).length*b+(lits (H:=H) k (zs.drop len)).length*b) (by
    simp only[DataW.weights,ht,hb]
    rw[←Nat.add_mul]
    exact J5 ..)
   have e:(lits (H:=H) k (zs.take len)).length=(zs.take len).length:=by simp[lits]
   rw[e]at this
   omega
theorem qu3{k:IntKind}{r:Reach}{b0:Nat}{t e:TypeId}{v:Value}{d:DataW H}{ps:List MemPlace}(ht:P.underlying t=some (.slice e))(he:P.underlying e=some (.int k))(hc:P.cellsOf e=1)
  (hval:Value.okWide P W r b0 t v) (h:DataW.Trod enc P W 0 (fun _=>true) true t v d ps) :
  ∃(q:Sl) (l:List Int),v=.slice q.p q.l q.c/\Vw 1 (ie k id) W q l/\(∀n∈l,(Lit.int k n).wf=true)/\l.length<2^63/\∀R b,P.bytesOf e=b->(∀n∈d.weights P t,n<=R)->l.length*b<=R:=by
 obtain⟨a,len,cap,rfl⟩:=okWide_slice ht hval
 obtain⟨fuel,hf⟩:=h
 obtain⟨q,l,hcs,h1,h2,h3,h4⟩:=qq8 ht he hc hf
 simp only[Value.cells,List.cons.injEq,and_true]at hcs
 exact⟨q,l,hcs,h1,h2,h3,h4⟩
end
end Pw
namespace Dp
open Go Pw
theorem q73{c:UInt8}(h:q17 c=true):q23 c=false/\c.toNat≠32:=by
 unfold q17 at h
 simp only[JD,decide_eq_true_eq]at h
 unfold q23
 grind
theorem qgh{c:UInt8}(h:q23 c=true):c.toNat≠32:=by
 unfold q23 at h
 grind
theorem qq9:∀c∈([40,41,42,43,45,47]:List UInt8),q23 c=false/\q17 c=false/\c.toNat≠32:=od
theorem q7x{s:B}(h:sep s):∀c r,s=c::r->q14 c=false/\q17 c=false/\c.toNat≠46:=by
 rintro c r rfl
 rcases h with h|⟨q,h⟩|⟨q,h⟩
 ·cases h
 ·cases h;decide
 ·cases h;decide
end Dp
namespace Go.Proofs.YtmfkimnmklnppaaGreatDoor
open Go Pw Dp
section
variable{w w' w0:World}
theorem q92{s:B}{k:Nat}{c:UInt8}{r:B}(h:s.drop k=c::r):((ofL s).data.toList.getD (k:Int).toNat 0)=c/\k<s.length:=by
 have hk:k<s.length:=by
  rcases Jw k s.length with h'|h'
  ·exact h'
  ·rw[J0 h']at h;cases h
 refine⟨?_,hk⟩
 show(bl (ofL s)).getD k 0=c
 rw[q28,List.getD_eq_getElem?_getD]
 have:s[k]?=some c:=by
  have h1:(s.drop k)[0]?=some c:=by rw[h];rfl
  grind
 rw[this]
 rfl
theorem qn0{s a r:B}{k:Nat}(h:s.drop k=a++r):(ofL s).extract k (k+a.length)=ofL a/\k+a.length<=s.length\/a=[]:=by
 by_cases ha:a=[]
 ·exact .inr ha
 ·refine .inl ⟨q7b ?_,?_⟩
  ·rw[qa7,q28,q28,List.drop_take,h,show k+a.length-k=a.length by omega,List.take_left']
   rfl
  ·have:=congrArg Je h
   rw[List.length_drop,J4]at this
   have:=J2.2 ha
   omega
def FT(w0:World)(s:B)(m:List B)(o:Sl)(k:Int)(u:World):Prop:=
 ∃(k':Nat) (m1 m2:List B) (T:List (B×Int)),k=k'/\k'<=s.length/\Dp.Tok (s.drop k') m2/\m1++m2=m/\Mk w0 2 q4r u o T/\T.map (·.1)=m1
theorem fpush{u:World}{o:Sl}{T:List (B×Int)}{x:B×Int}{K':SW}(hm:Mk w0 2 q4r u o T)(hl:T.length<=2^21)(hK:∀r u',Mk w0 2 q4r u' r (T++[x])->K' r u') :
  apS 2 24 [(Value.string (str [])),(Value.int .i64 (0:Int))] 171 o ⟨some ⟨u.heap.size,0,none⟩,1,1⟩ (u.alloc (Obj.cells #[.string (ofL x.1),.int .i64 x.2] 171)) K':=
 hm.push (a:=x) rfl rfl qid rfl oo oo fun r u' h _=>hK r u' h
theorem qn1:∀ {s:B} {m:List B},Dp.Tok s m->m.length<=s.length:=by
 intro s m h
 induction h with
 | nil=>simp
 | blank _ ih=>grind
 | @name a s m h1 _ _ ih =>
  have:0<a.length:=by cases a with
   | nil=>cases h1
   | cons _ _=>simp
  grind
 | @num a s m h1 _ _ _ ih =>
  have:=J2.2 h1
  grind
 | dec _ _ _ _ _ _ ih=>grind
 | sym _ _ ih=>grind
theorem q6i{s:B}{m:List B}{fr:Int}{K:Sl->World->Prop}(hs:s.length<=2^20)(h0:0<=fr/\fr<=2^40)(ht:Dp.Tok s m)
  (hK:∀w' r T,Mk w 2 q4r w' r T->T.map (·.1)=m++[[]]->K r w'):z1w_sh (ofL s) fr K w:=by
 have hml:=qn1 ht
 refine⟨fi ?_⟩
 refine⟨⟨fun o k u=>FT w s m o k u,fun _ k _=>s.length-k.toNat,⟨0,[],m,[],rfl,oo,ht,rfl,Mk.nil Fr.refl,rfl⟩,?_⟩⟩
 rintro o k u ⟨k,m1,m2,T,rfl,hk,ht,hm,hT,hTm⟩
 have hTl:T.length<=2^20:=oz
 have k1:∀ {v:World} {a r m3:B} {m2':List B},Fr F0 u v->s.drop k=a++r->a≠[]->m2=a::m2'->Dp.Tok r m2'->z1w_k1 (ofL s) fr o (k:Int) ((k+a.length:Nat):Int) (fun(s_0':ByteArray) (from_1':Int) (out_5':Sl) (k_6':Int) (w':World)=>((s_0'=ofL s/\from_1'=fr/\True)/\FT w s m out_5' k_6' w')/\s.length-k_6'.toNat<s.length-(k:Int).toNat) K v:=fun {v a r m3 m2'} f hd ha e2 hr=>by
  obtain⟨e1,hle⟩:=(qn0 hd).resolve_right ha
  have ha0:=J2.2 ha
  refine⟨fi ?_⟩
  rw[q0u]
  refine⟨⟨oo,oo,oo⟩,q01,?_⟩
  rw[show(k:Int).toNat=k from rfl,show((k+a.length:Nat):Int).toNat=k+a.length from rfl,e1]
  refine fpush (x:=(a,fr+k)) (hT.fr f) oo fun r' u' h'=>⟨⟨⟨rfl,rfl,trivial⟩,k+a.length,m1++[a],m2',_,rfl,hle,?_,?_,h',?_⟩,?_⟩
  ·rw[←J1,hd,J7];exact hr
  ·grind
  ·grind
  ·omega
 refine fi ?_
 rw[q0u]
 generalize hd:s.drop k=d at ht
 have byte:∀ {c:UInt8} {r:B} {X:Prop},d=c::r->(k<s.length->inR .i64 ((k:Int)+1)/\(0<=(k:Int)/\(k:Int)<(s.length:Nat))/\X)->((k:Int)<(s.length:Int)->inR .i64 ((k:Int)+1)/\(0<=(k:Int)/\(k:Int)<(s.length:Nat))/\X):=fun {c r X} e h hlt=>h oo
 have nb:∀ {c:UInt8},c.toNat≠32->((c.toNat:Int)==32)=false:=fun {c} h=>oz
 have fin:d=[]->k=s.length:=fun e=>by
  rw[e]at hd
  have:=congrArg Je hd
  grind
 have some':∀ {c:UInt8} {r:B},d=c::r->((ofL s).data.toList.getD (k:Int).toNat 0)=c/\k<s.length:=fun {c r} e=>q92 (by rw[hd,e])
 cases ht with
 | nil =>
  have:=fin rfl
  rw[decide_eq_false oo]
  refine q0h ⟨q01,?_⟩
  refine fpush (x:=([],fr+(s.length:Int))) hT oo fun r u' h'=>hK u' r _ h' ?_
  grind
 | @blank r m2 hr =>
  obtain⟨e,hlt⟩:=some' rfl
  rw[decide_eq_true oo,e]
  refine q08 ⟨q01,⟨oo,oo⟩,q08 ⟨q01,⟨⟨rfl,rfl,trivial⟩,k+1,m1,m2,T,oo,oo,?_,hm,hT,hTm⟩,uo⟩⟩
  rw[←J1,hd];exact hr
 | @name a r m2' hn hsep hr =>
  obtain⟨c,a',rfl⟩:∃c a',a=c::a':=by
   cases a with
   | nil=>cases hn
   | cons c a'=>grind
  obtain⟨e,hlt⟩:=some' rfl
  unfold q0w at hn
  simp only[JD]at hn
  rw[decide_eq_true oo,e]
  refine q08 ⟨q01,⟨oo,oo⟩,?_⟩
  rw[nb (qgh hn.2.1)]
  refine q0h ⟨⟨oo,oo⟩,q2i ?_⟩
  rw[hn.2.1]
  refine q08 (q3q oo oo qq0 ?_)
  rw[hd,q6h hn.2.2 fun c r e=>(q7x hsep c r e).1]
  exact k1 (m3:=[]) Fr.refl hd og rfl hr
 | @num a r m2' hne hn hsep hr =>
  obtain⟨c,a',rfl⟩:∃c a',a=c::a':=by
   cases a with
   | nil=>grind
   | cons c a'=>grind
  obtain⟨e,hlt⟩:=some' rfl
  have hc:=hn c og
  have hcc:=q73 hc
  rw[decide_eq_true oo,e]
  refine q08 ⟨q01,⟨oo,oo⟩,?_⟩
  rw[nb hcc.2]
  refine q0h ⟨⟨oo,oo⟩,q2i ?_⟩
  rw[hcc.1]
  refine q0h ⟨⟨oo,oo⟩,q26 ?_⟩
  rw[hc]
  refine q08 (q3q oo oo q6b ?_)
  rw[hd,q6h (Jc.2 hn) fun c r e=>(q7x hsep c r e).2.1]
  have hle:=((qn0 hd).resolve_right og).2
  have hd2:s.drop (k+(c::a').length)=r:=by rw[←J1,hd,J7]
  generalize hj:k+(c::a').length=j at *
  refine⟨q01,?_⟩
  rw[show min ((j:Int)+1) (s.length:Int)=((min (j+1) s.length:Nat):Int) by omega]
  refine q3q oo oo q6b ?_
  refine q00.2 ⟨fun hlt2=>?_,fun _=>hj▸k1 (m3:=[]) Fr.refl hd og rfl hr⟩
  obtain⟨x,r',er⟩:∃x r',r=x::r':=by
   cases r with
   | nil=>grind
   | cons x r'=>grind
  obtain⟨e2,_⟩:=q92 (hd2.trans er)
  rw[e2]
  refine⟨⟨oo,oo⟩,?_⟩
  rw[show((x.toNat:Int)==46)=false by rw[beq_eq_false_iff_ne];have:=(q7x hsep x r' er).2.2;omega]
  exact q0h (hj▸k1 (m3:=[]) Fr.refl hd og rfl hr)
 | @dec a b r m2' hne hn hne2 hn2 hsep hr =>
  obtain⟨c,a',rfl⟩:∃c a',a=c::a':=by
   cases a with
   | nil=>grind
   | cons c a'=>grind
  obtain⟨e,hlt⟩:=some' rfl
  have hc:=hn c og
  have hcc:=q73 hc
  rw[decide_eq_true oo,e]
  refine q08 ⟨q01,⟨oo,oo⟩,?_⟩
  rw[nb hcc.2]
  refine q0h ⟨⟨oo,oo⟩,q2i ?_⟩
  rw[hcc.1]
  refine q0h ⟨⟨oo,oo⟩,q26 ?_⟩
  rw[hc]
  refine q08 (q3q oo oo q6b ?_)
  have hd':s.drop k=(c::a')++(46::(b++r)):=by rw[hd];simp
  have hb0:=J2.2 hne2
  rw[show s.drop k=(c::a')++(46::(b++r))from hd',q6h (Jc.2 hn) fun c r e=>by cases e;decide]
  have hle:=((qn0 hd).resolve_right og).2
  have hd2:s.drop (k+(c::a').length)=46::(b++r):=by rw[←J1,hd',J7]
  have hlen:k+((c::a')++46::b).length=k+(c::a').length+1+b.length:=oz
  have fine:=fun(v:World) (f:Fr F0 u v)=>k1 (v:=v) (m3:=[]) f (a:=(c::a')++46::b) (r:=r) (m2':=m2') (by rw[hd]) og rfl hr
  rw[hlen]at fine hle
  generalize k+(c::a').length=j at *
  refine⟨q01,?_⟩
  rw[show min ((j:Int)+1) (s.length:Int)=((j+1:Nat):Int) by omega]
  refine q3q oo oo q6b ?_
  have hd3:s.drop (j+1)=b++r:=by rw[←J1,hd2];rfl
  rw[hd3,q6h (Jc.2 hn2) fun c r e=>(q7x hsep c r e).2.1]
  rw[decide_eq_true oo]
  obtain⟨e2,_⟩:=q92 hd2
  rw[e2]
  refine q08 ⟨⟨oo,oo⟩,q08 ⟨q01,?_⟩⟩
  rw[decide_eq_true (show((j+1+b.length:Nat):Int)>(j:Int)+1 by omega)]
  exact q08 (fine u Fr.refl)
 | @sym c r m2' hc hr =>
  obtain⟨e,hlt⟩:=some' rfl
  obtain⟨h1,h2,h3⟩:=qq9 c hc
  rw[decide_eq_true oo,e]
  refine q08 ⟨q01,⟨oo,oo⟩,?_⟩
  rw[nb h3]
  refine q0h ⟨⟨oo,oo⟩,q2i ?_⟩
  rw[h1]
  refine q0h ⟨⟨oo,oo⟩,q26 ?_⟩
  rw[h2]
  exact q0h (k1 (m3:=[]) (a:=[c]) Fr.refl hd og rfl hr)
end
open Go Pw
def q2p(n d:Int):RR:=if d=0 then zr else fitQ (Rat.divInt n d)
theorem qqa(q:Rat):I64 (fitQ q).n/\I64 (fitQ q).d:=by
 unfold fitQ
 split
 ·rename_i h
  refine⟨⟨h.1,h.2.1⟩,?_⟩
  have:=h.2.2
  show I64 (q.den:Int)
  exact⟨oo,oo⟩
 ·exact⟨⟨od,od⟩,⟨od,od⟩⟩
theorem q93(n d:Int):q0k (q2p n d).n (q2p n d).d/\I64 (q2p n d).n/\I64 (q2p n d).d:=by
 unfold q2p
 split
 ·exact⟨od,⟨od,od⟩,⟨od,od⟩⟩
 ·exact⟨qaa _,qqa _⟩
theorem qc7{n d:Int}(h:q0k n d):fitQ (val n d)=if -9223372036854775808<=n/\n<9223372036854775808/\d<9223372036854775808 then⟨n,d,true⟩else zr:=by
 unfold fitQ
 rw[q3g h]
 have e:=q4i h
 grind
theorem qu4{n d:Int}(h:0<d):val n d=Rat.divInt n d:=by
 have e:d=((d.toNat:Nat):Int):=oo
 unfold val
 conv=>rhs;rw[e]
 rw[Rat.divInt_ofNat]
theorem qn2{n d:Int}(h:q0k n d)(hn:I64 n)(hd:I64 d):fitQ (val n d)=⟨n,d,true⟩:=by
 rw[qc7 h,if_pos ⟨hn.1,hn.2,hd.2⟩]
section
variable{w w' w0:World}{s a b:Sl}{k j n m:Nat}
theorem q56{n:Int}{K:Bool->World->Prop}(hK:K (decide (-1000000000<n/\n<1000000000)) w):z1g_sh n K w:=by
 refine⟨fi ?_⟩
 rw[q00]
 constructor
 ·intro h
  by_cases h2:n<1000000000
  ·rw[decide_eq_true (⟨oo,h2⟩:-1000000000<n/\n<1000000000)]at hK
   rw[decide_eq_true h2];exact hK
  ·rw[decide_eq_false oo]at hK
   rw[decide_eq_false h2];exact hK
 ·intro h
  rw[decide_eq_false oo]at hK
  exact hK
end
theorem qjz(n d:Int):mkRat (sgn ((decide (n<0)) != (decide (d<0))) n.natAbs) d.natAbs=Rat.divInt n d:=by
 rcases Jq d 0 with hneg|hpos
 ·have e1:Rat.divInt n d=Rat.divInt (-n) (-d):=(Rat.neg_divInt_neg n d).symm
  have e2:-d=((d.natAbs:Nat):Int):=oo
  rw[e1,e2,Rat.divInt_ofNat]
  congr 1
  rcases Jq n 0 with h|h
  ·simp[sgn,h,hneg];omega
  ·have h':¬n<0:=oo
   simp[sgn,h',hneg];omega
 ·have e2:d=((d.natAbs:Nat):Int):=oo
  have hd':¬d<0:=oo
  conv=>rhs;rw[e2]
  rw[Rat.divInt_ofNat]
  congr 1
  rcases Jq n 0 with h|h
  ·simp[sgn,h,hd'];omega
  ·have h':¬n<0:=oo
   simp[sgn,h',hd'];omega
section
variable{w w0:World}
theorem qgi{n d:Int}(hn:n.natAbs<9223372036854775808)(hd:d.natAbs<9223372036854775808)(hd0:0<d) :
  fitQ (Rat.divInt n d)=⟨Jv n (Jz n.natAbs d.natAbs:Nat),Jv d (Jz n.natAbs d.natAbs:Nat),true⟩:=by
 have hd1:¬d<0:=oo
 rw[←qjz,←q6w _ _ _ oo]
 have h1:=Jx n.natAbs (Jz n.natAbs d.natAbs)
 have h2:=Jx d.natAbs (Jz n.natAbs d.natAbs)
 unfold ratI
 rw[if_pos ⟨oo,.inl oo⟩]
 generalize Jz n.natAbs d.natAbs=g at *
 have e2:d=((d.natAbs:Nat):Int):=oo
 congr 1
 ·rcases Jq n 0 with h|h
  ·have e1:n=-((n.natAbs:Nat):Int):=oo
   simp only[h,hd1,decide_true,decide_false]
   conv=>rhs;rw[e1]
   rw[Int.neg_tdiv,q4h]
   simp
  ·have e1:n=((n.natAbs:Nat):Int):=oo
   have h':¬n<0:=oo
   simp only[h',hd1,decide_false]
   conv=>rhs;rw[e1]
   rw[q4h]
   simp
 ·conv=>rhs;rw[e2]
  rw[q4h]
theorem qii{n d:Int}{t:Nat}{x y:Value}{l:List (Nat×List Value)}{K:Int->Int->World->Prop}(m:Mem w0 w l)(j:Nat)(hj:l[j]?=some (t,[x,y]))(hn:n.natAbs<9223372036854775808)(hd:d.natAbs<9223372036854775808)(hd0:0<d)
  (hK:∀w',Fr F0 w0 w'->K (fitQ (Rat.divInt n d)).n (fitQ (Rat.divInt n d)).d w'):z1f_k0 n d ⟨t,0,none⟩ K w:=by
 rw[qgi hn hd hd0]at hK
 have hm:max n (-n)=(n.natAbs:Int):=oo
 refine⟨fi ?_⟩
 rw[hm]
 have e2:d=((d.natAbs:Nat):Int):=oo
 refine⟨q01,⟨⟨fun x y w'=>∃a b:Nat,x=a/\y=b/\Jz a b=Jz n.natAbs d.natAbs/\w'=w,fun _ y _=>y.toNat,⟨n.natAbs,d.natAbs,rfl,e2,rfl,rfl⟩,?_⟩⟩⟩
 rintro x y w1 ⟨a,b,rfl,rfl,hg,rfl⟩
 refine fi ?_
 rw[q00]
 constructor
 ·intro h
  refine⟨oo,⟨⟨rfl,rfl,rfl,trivial⟩,b,a%b,rfl,rfl,?_,rfl⟩,?_⟩
  ·rw[←hg,JB b,←Nat.gcd_rec,JB]
  ·rw[qt7]
   have:=Nat.mod_lt a (show 0<b by omega)
   show((a%b:Nat):Int).toNat<(b:Int).toNat
   omega
 ·intro h
  have hb:b=0:=oo
  subst hb
  rw[Nat.gcd_zero_right]at hg
  subst hg
  intro w2
  have m:Mem w0 w2 _:=m.drew
  clear_value w2
  have hg0:0<Jz n.natAbs d.natAbs:=Nat.gcd_pos_of_pos_right _ oo
  have b1:(Jv n (Jz n.natAbs d.natAbs:Nat)).natAbs<=n.natAbs:=by rw[Jt];exact Jx _ _
  have b2:(Jv d (Jz n.natAbs d.natAbs:Nat)).natAbs<=d.natAbs:=by rw[Jt];exact Jx _ _
  exact⟨fun _=>True,trivial,oo,q01,oo,q01,put2 m j hj hK⟩
theorem qan{n d:Int}{K:Int->Int->World->Prop}(hn:n.natAbs<9223372036854775808)(hd:d.natAbs<9223372036854775808)(hd0:d≠0)
  (hK:∀w',Fr F0 w w'->K (fitQ (Rat.divInt n d)).n (fitQ (Rat.divInt n d)).d w'):z1f_sh n d K w:=by
 refine⟨fi ?_⟩
 intro w1
 have m:Mem w w1 _:=Mem.nil.alloc
 clear_value w1
 rw[q00]
 constructor
 ·intro h
  refine⟨q01,q01,qii m 0 rfl oo oo oo ?_⟩
  rw[Rat.neg_divInt_neg]
  exact hK
 ·intro h
  exact qii m 0 rfl hn hd oo hK
theorem qij{n d:Int}(hn:n.natAbs<9223372036854775808)(hd:d.natAbs<9223372036854775808)(hd0:d≠0):(fitQ (Rat.divInt n d)).ok=true:=by
 rcases Jq d 0 with h|h
 ·rw[←Rat.neg_divInt_neg,qgi oo oo oo]
 ·rw[qgi hn hd oo]
theorem Kr_mk{K:Int->Int->Bool->World->Prop}{r:RR}{w:World}(h:Kr K r w)(hr:r.ok=true):K r.n r.d true w:=by
 unfold Kr at h
 rw[hr]at h
 exact h
theorem qk0{n d:Int}{K:Int->Int->Bool->World->Prop}(hn:-1000000000<n/\n<1000000000)(hd:-1000000000<d/\d<1000000000)(hd0:d≠0)(hK:∀w',Fr F0 w w'->Kr K (q2p n d) w'):z21_sh n d K w:=by
 unfold q2p at hK
 refine⟨fi ?_⟩
 intro w1
 have m:Mem w w1 _:=Mem.nil.alloc
 clear_value w1
 refine q0i.2 ⟨fun h0=>absurd h0 hd0,fun h0=>?_⟩
 rw[if_neg h0]at hK
 refine q56 (q00.2 ⟨fun _=>q56 (q00.2 ⟨fun _=>?_,fun h=>absurd hd h⟩),fun h=>absurd hn h⟩)
 refine qan oo oo h0 fun w2 hf2=>q3x (m.fr hf2) 0 rfl fun w3 hf3=>?_
 exact Kr_mk (hK w3 hf3) (qij oo oo h0)
end
def encD(c:XC)(n:Int):List Value:=[.string c.op,.int .i64 c.n,.int .i64 c.d,.string c.nm,.slice c.a.p c.a.l c.a.c,.int .i64 n]
def zD:List Value:=[.string (str []),.int .i64 0,.int .i64 0,.string (str []),.slice none 0 0,.int .i64 0]
section
variable{w w' w0:World}{b k p:Nat}{ts:Sl}{T:List (B×Int)}
abbrev Sf(w:World)(b:Nat)(ts:Sl)(k p:Nat)(T:List (B×Int)):Prop:=Sc w b ts k [.int .i64 (p:Int)] T
theorem qsi(h:Sf w b ts k p T):wrOk w ⟨b,2,none⟩/\Sf (w.setCell ⟨b,2,none⟩ (.int .i64 ((p:Int)+1))) b ts k (p+1) T/\Fr (fun c=>c=b) w (w.setCell ⟨b,2,none⟩ (.int .i64 ((p:Int)+1))):=by
 have f:Fr (fun c=>c=b) w (w.setCell ⟨b,2,none⟩ (.int .i64 ((p:Int)+1))):=Fr.set rfl
 exact⟨h.row.wr (by simp[scC]),⟨h.row.set 2 (.int .i64 ((p:Int)+1)),h.tk.frF f fun c hc e=>h.ne (e▸hc),h.ne⟩,f⟩
theorem qe0{c:XC}{K:ByteArray->Int->Int->ByteArray->Sl->Int->World->Prop}(h:Sf w b ts k p T)(hp:p<2^62)(hT:T≠[])
  (hK:∀w',Fr (fun c=>c=b) w w'->Sf w' b ts k (p+1) T->K c.op c.n c.d c.nm c.a 1 w'):z1x_sh (some ⟨b,0,none⟩) c.op c.n c.d c.nm c.a K w:=by
 refine⟨fi ?_⟩
 intro w1
 have m:Mem w w1 [(w.heap.size,encX c)]:=Mem.nil.allocL (cs:=encX c)
 clear_value w1
 intro w2
 have m:Mem w w2 [(w1.heap.size,zD),(w.heap.size,encX c)]:=m.allocL (cs:=zD)
 clear_value w2
 have h2:=h.fr m.1
 have hb:=h.row.lt
 have n0:=m.2.2.2 _ (J5 ..)
 have n1:=m.2.2.2 _ (List.mem_cons_of_mem _ (J5 ..))
 dsimp only at n0 n1
 have r0:=m.row 0
 have r1:=m.row 1
 have hne:w1.heap.size≠w.heap.size:=by
  have:=m.2.2.1
  grind
 obtain⟨hw,h6,f6⟩:=qsi h2
 refine nz_i ⟨(p:Int),h2.row.at (i:=2) rfl,q01,nz_i ⟨hw,?_⟩⟩
 intro w6
 have r0:=f6.row r0 oo
 have r1:=f6.row r1 oo
 refine⟨_,r1.at,_,r1.at (i:=1) rfl,_,r1.at (i:=2) rfl,_,r1.at (i:=3) rfl,c.a,r1.at (i:=4) rfl,?_⟩
 refine q13 r0 (by simp[zD]) fun w12 f12 r12=>?_
 have r12:Row w12 w1.heap.size (encD c 1):=r12
 refine⟨_,r12.at,_,r12.at (i:=1) rfl,_,r12.at (i:=2) rfl,_,r12.at (i:=3) rfl,c.a,r12.at (i:=4) rfl,_,r12.at (i:=5) rfl,?_⟩
 have z:=m.1.1
 refine hK w12 ((m.1.f0.trans f6 fun _ h _=>h).trans f12 fun d hd hlt=>oo) ⟨f12.row h6.row oo,h6.tk.frF f12 fun d hd e=>?_,h6.ne⟩
 have:=h.tk.lt encTk_length od hT d hd
 omega
theorem qn3{op:ByteArray}{ca cb:XC}{na nb:Nat}{K:ByteArray->Int->Int->ByteArray->Sl->Int->World->Prop}(h:Sf w b ts k p T)(hp:p<2^62)(hT:T≠[])(ha:na<2^62)(hb:nb<2^62)
  (hK:∀w' i,Fr (fun c=>c=b) w w'->Sf w' b ts k (p+1) T->Row w' i ([ca,cb].flatMap encX)->w.heap.size<=i->K op 0 0 (str []) ⟨some ⟨i,0,none⟩,2,2⟩ ((max na nb+1:Nat):Int) w') :
  z1y_sh (some ⟨b,0,none⟩) op ca.op ca.n ca.d ca.nm ca.a na cb.op cb.n cb.d cb.nm cb.a nb K w:=by
 refine⟨fi ?_⟩
 intro w1
 have m:Mem w w1 [(w.heap.size,encD ca na)]:=Mem.nil.allocL (cs:=encD ca na)
 clear_value w1
 intro w2
 have m:Mem w w2 [(w1.heap.size,encD cb nb),(w.heap.size,encD ca na)]:=m.allocL (cs:=encD cb nb)
 clear_value w2
 intro w3
 have m:Mem w w3 [(w2.heap.size,zD),(w1.heap.size,encD cb nb),(w.heap.size,encD ca na)]:=m.allocL (cs:=zD)
 clear_value w3
 have h3:=h.fr m.1
 have hbl:=h.row.lt
 have kk:=m.2.2.1
 simp only[Jm,Jo,Jh,Jd,J8,or_false,forall_eq_or_imp,forall_eq]at kk
 have nw:=m.2.2.2
 simp only[Jd,J8,or_false,forall_eq_or_imp,forall_eq]at nw
 have r0:=m.row 0
 have r1:=m.row 1
 have r2:=m.row 2
 obtain⟨hw,h7,f7⟩:=qsi h3
 refine nz_i ⟨(p:Int),h3.row.at (i:=2) rfl,q01,nz_i ⟨hw,?_⟩⟩
 intro w7
 have r0:=f7.row r0 oo
 have r1:=f7.row r1 oo
 have r2:=f7.row r2 oo
 have l0:w2.heap.size<w7.heap.size:=r0.lt
 refine⟨_,r2.at,_,r2.at (i:=1) rfl,_,r2.at (i:=2) rfl,_,r2.at (i:=3) rfl,ca.a,r2.at (i:=4) rfl,_,r1.at,_,r1.at (i:=1) rfl,_,r1.at (i:=2) rfl,_,r1.at (i:=3) rfl,cb.a,r1.at (i:=4) rfl,?_⟩
 intro w18
 have ri:Row w18 w7.heap.size ([ca,cb].flatMap encX):=Row.new
 have f18:Fr F0 w7 w18:=Fr.alloc
 clear_value w18
 have r0:=f18.row r0 fun h=>h
 have r1:=f18.row r1 fun h=>h
 have r2:=f18.row r2 fun h=>h
 have h18:=h7.fr f18
 refine⟨_,r2.at (i:=5) rfl,_,r1.at (i:=5) rfl,q01,?_⟩
 refine q13 r0 (by simp[zD]) fun w21 f21 r21=>?_
 have r21:Row w21 w2.heap.size (encD ⟨op,0,0,str [],⟨some ⟨w7.heap.size,0,none⟩,2,2⟩⟩ (1+max (na:Int) (nb:Int))):=r21
 refine⟨_,r21.at,_,r21.at (i:=1) rfl,_,r21.at (i:=2) rfl,_,r21.at (i:=3) rfl,⟨some ⟨w7.heap.size,0,none⟩,2,2⟩,r21.at (i:=4) rfl,_,r21.at (i:=5) rfl,?_⟩
 rw[show(1+max (na:Int) (nb:Int))=((max na nb+1:Nat):Int) by omega]
 have z:=m.1.1
 have z7:w3.heap.size<=w7.heap.size:=f7.1
 refine hK w21 _ (((m.1.f0.trans f7 fun _ h _=>h).tF f18).trans f21 fun d hd hlt=>oo) ⟨f21.row h18.row oo,h18.tk.frF f21 fun d hd e=>?_,h18.ne⟩ (f21.row ri oo) oo
 have:=h.tk.lt encTk_length od hT d hd
 omega
theorem qn4{s:B}{K:World->Prop}(h:Sf w b ts k p T)(hk:k<T.length)(hl:T.length<2^62)(hs:T[k].1=s)(hK:∀w',Fr (fun c=>c=b) w w'->Sf w' b ts (k+1) p T->K w'):z1z_sh (some ⟨b,0,none⟩) (ofL s) K w:=by
 refine⟨fi ?_⟩
 intro w1
 have f1:Fr F0 w w1:=Fr.drew
 clear_value w1
 refine⟨fun _=>True,trivial,nz_i (nz_i (q0v (h.fr f1) hk fun w5 f5=>?_))⟩
 rw[hs,decide_eq_true rfl]
 refine q0q (nz_i (q1g (h.fr (f1.t f5)) hk hl fun w9 f9 h9=>?_))
 exact hK w9 ((f1.t f5).f0.trans f9 fun _ h _=>h) h9
end
end Go.Proofs.YtmfkimnmklnppaaGreatDoor
namespace Dp
open Go Pw
def q74(l:B)(m:Int):Int×Int:=l.foldl (fun s c=>(10*s.1+((c.toNat:Int)-48),10*s.2)) (m,1)
theorem qao(l:B)(c:UInt8)(m:Int):q74 (l++[c]) m=(10*(q74 l m).1+((c.toNat:Int)-48),10*(q74 l m).2):=by
 unfold q74
 grind
def q3a(n d:Int):B:=if n%d=0 then []else q2n (n%d) d
theorem suf1{c:UInt8}(h:c≠48):([48]:B).isSuffixOf [c]=false:=by
 have:=Ne.symm h
 simp[Jk,Jl,this]
theorem suf2{a c:UInt8}(h:c≠48):([48]:B).isSuffixOf [a,c]=false:=by
 have:=Ne.symm h
 simp[Jk,Jl,this]
theorem q94{n d:Int}(hd:q1x d=true)(h0:0<=n):(q3a n d).length<=2/\(∀c∈q3a n d,q17 c=true)/\([48]:B).isSuffixOf (q3a n d)=false/\(q74 (q3a n d) (n/d)).1*d=n*(q74 (q3a n d) (n/d)).2 /\
  ((q3a n d).length=0->(q74 (q3a n d) (n/d)).2=1)/\(q74 (q3a n d) (n/d)).2≠0:=by
 have hdd:d=1\/d=2\/d=4\/d=5\/d=10:=by unfold q1x at hd;simpa using hd
 have hdp:0<d:=oo
 have e1:d*(n/d)+n%d=n:=Jr n d
 have r0:=Ju n (show d≠0 by omega)
 have r1:=Int.emod_lt_of_pos n hdp
 unfold q3a
 by_cases hr:n%d=0
 ·rw[if_pos hr]
  refine⟨og,(fun c hc=>by cases hc),od,?_,fun _=>rfl,by show(1:Int)≠0;decide⟩
  show n/d*d=n*1
  grind
 rw[if_neg hr]
 obtain⟨f1,f2⟩:=qbs hr r0 r1
 have hx:(100*(n%d)/d)*d=100*(n%d):=oz
 have hx0:0<=100*(n%d)/d:=Jp oo oo
 have hx1:100*(n%d)/d<100:=Int.ediv_lt_of_lt_mul hdp oo
 have hx2:100*(n%d)/d≠0:=fun e=>oz
 refine⟨?_,f2,?_⟩
 ·unfold q2n
  grind
 unfold q2n
 rw[if_neg hr]
 generalize hxx:100*(n%d)/d=x at *
 obtain⟨y,rfl⟩:=Int.eq_ofNat_of_zero_le hx0
 rw[Int.toNat_natCast]
 have hy:y<100:=oo
 have d1:(UInt8.ofNat (48+y/10)).toNat=48+y/10:=q1n oo
 have d2:(UInt8.ofNat (48+y%10)).toNat=48+y%10:=q1n oo
 split
 ·rename_i h10
  refine⟨?_,?_,fun h=>by simp at h,by show(10:Int)*1≠0;decide⟩
  ·have:UInt8.ofNat (48+y/10)≠48:=fun e=>by
    have:=congrArg UInt8.toNat e
    grind
   exact suf1 this
  ·show(10*(n/d)+(((UInt8.ofNat (48+y/10)).toNat:Int)-48))*d=n*(10*1)
   grind
 ·rename_i h10
  refine⟨?_,?_,fun h=>by simp at h,by show(10:Int)*(10*1)≠0;decide⟩
  ·have:UInt8.ofNat (48+y%10)≠48:=fun e=>ud
   exact suf2 this
  ·show(10*(10*(n/d)+(((UInt8.ofNat (48+y/10)).toNat:Int)-48))+(((UInt8.ofNat (48+y%10)).toNat:Int)-48))*d=n*(10*(10*1))
   grind
theorem q6j(n d:Int):decB n d=Lib.itoa (n/d)++(if n%d=0 then []else 46::q3a n d):=by
 unfold decB q3a
 grind
theorem qqb{n d a b:Int}(h:q2h n d=true)(hb:b≠0)(e:a*d=n*b)(hn:n<9000000000000000000)(hd:d<9000000000000000000):(if b=0 then zr else fitQ (Rat.divInt a b))=⟨n,d,true⟩:=by
 have hr:=q8v h
 have h0:=(q3m h)
 rw[if_neg hb]
 have e1:Rat.divInt a b=val n d:=by
  have:val n d=Rat.divInt n d:=by
   unfold val
   rw[←Rat.divInt_ofNat]
   grind
  rw[this,Rat.divInt_eq_divInt_iff hb oo]
  exact e
 rw[e1]
 unfold fitQ
 rw[q3g hr,q4i hr]
 have hden:((val n d).den:Int)=d:=q4i hr
 grind
end Dp
namespace Go.Proofs.YtmfkimnmklnppaaGreatDoor
open Go Pw Dp
theorem inU8{n:Int}(h:0<=n/\n<256):inR .u8 n:=by
 unfold inR
 simp[IntKind.wrap,IntKind.bits,IntKind.signed]
 omega
section
variable{w w' w0:World}{b k p:Nat}{ts:Sl}{T:List (B×Int)}
def qqc(c:UInt8):List Value:=[bv c]
theorem q95{n d:Int}{ab:Nat}{s:Sl}{K:ByteArray->Int->Int->ByteArray->Sl->Int->World->Prop}(h:Sf w b ts k p T)(hk:k<T.length)(hl:T.length<2^62)(hp:p<2^62)
  (hn:q2h n d=true) (hd:q1x d=true) (r0:Row w ab zD) (hab:ab≠b) (hs:Vw 1 qqc w s (q3a n d))
  (hK:∀w',Fr (fun c=>c=b\/c=ab) w w'->Sf w' b ts (k+1) (p+1) T->K (ofL wNum) n d (str []) ⟨none,0,0⟩ 1 w') (hts:¬inB ts ab):z0k_l2 (some ⟨b,0,none⟩) ⟨ab,0,none⟩ (n/d) 1 s (s.l:Int) 0 K w:=by
 have hT:T≠[]:=oz
 have hnd:=q3m hn
 obtain⟨f1,f2,f3,f4,f5,f6⟩:=q94 hd hnd.2
 have hn9:n<=1000000000*d:=by
  unfold q2h at hn
  grind
 have hd10:d<=10:=by
  have hdd:d=1\/d=2\/d=4\/d=5\/d=10:=by unfold q1x at hd;simpa using hd
  omega
 have q0:0<=n/d:=Jp hnd.2 oo
 have q1:n/d<=1000000000:=Js hnd.1 oo
 have el:=hs.len
 generalize q3a n d=l at *
 have bd:∀i,i<=l.length->0<=(q74 (l.take i) (n/d)).1/\(q74 (l.take i) (n/d)).1<1000000000*10^i+10^i/\(q74 (l.take i) (n/d)).2=10^i:=by
  intro i
  induction i with
  | zero=>intro _;exact⟨q0,by show n/d<_;omega,rfl⟩
  | succ i ih =>
   intro hi
   obtain⟨a1,a2,a3⟩:=ih oo
   have hil:i<l.length:=oo
   rw[q16 hil,qao]
   have hc:=f2 _ (J3 hil)
   unfold q17 at hc
   grind
 refine⟨⟨fun a e i u=>∃i':Nat,i=i'/\i'<=l.length/\u=w/\a=(q74 (l.take i') (n/d)).1/\e=(q74 (l.take i') (n/d)).2,fun _ _ i _=>l.length-i.toNat,⟨0,rfl,oo,rfl,rfl,rfl⟩,?_⟩⟩
 rintro a e i u ⟨i,rfl,hi,rfl,rfl,rfl⟩
 refine fi ?_
 refine q00.2 ⟨fun hlt=>?_,fun hge=>?_⟩
 ·have hil:i<l.length:=oo
  obtain⟨a1,a2,a3⟩:=bd i hi
  obtain⟨b1,b2,b3⟩:=bd (i+1) hil
  have hc:=f2 _ (J3 hil)
  unfold q17 at hc
  simp only[JD,decide_eq_true_eq]at hc
  refine Vw.go (n:=1) (enc:=qqc) (fun _=>rfl) od hs i rfl hil fun ad hcell=>?_
  have small:∀i:Nat,i<=2->(1000000000*10^i+10^i:Int)<=100000000100/\(10^i:Int)<=100:=oz
  have s1:=small i oo
  refine⟨_,hcell 0 _ rfl,q01,inU8 oo,q01,q01,q01,q01,⟨⟨rfl,rfl,rfl,rfl,trivial⟩,i+1,oo,oo,rfl,?_,?_⟩,uo⟩
  ·rw[q16 hil,qao]
  ·omega
 ·have hil:i=l.length:=oo
  subst hil
  obtain⟨a1,a2,a3⟩:=bd l.length (Jy _)
  rw[Jb]at *
  have small:∀i:Nat,i<=2->(1000000000*10^i+10^i:Int)<=100000000100/\(0:Int)<10^i/\(10^i:Int)<=100:=oz
  obtain⟨s1,s2,s3⟩:=small _ f1
  have hb0:=h.row.lt
  refine qlz ⟨oo,oo⟩ ⟨oo,oo⟩ fun w27 f27=>?_
  rw[qqb hn f6 f4 oo oo]
  unfold Kr
  dsimp -zeta only
  intro w30
  have m:Mem w27 w30 [(w27.heap.size,[.int .i64 0,.int .i64 0])]:=Mem.nil.allocL (cs:=[.int .i64 0,.int .i64 0])
  clear_value w30
  refine⟨m.wr 0,?_⟩
  intro w31
  have m:=m.set (i:=0) (v:=.int .i64 n) 0
  refine⟨m.wr 0,?_⟩
  intro w32
  have m:Mem w27 w32 [(w27.heap.size,[.int .i64 n,.int .i64 d])]:=m.set (i:=1) (v:=.int .i64 d) 0
  clear_value w32 w31
  have h:=h.fr (f27.t m.1)
  have r0:=(f27.t m.1).row r0 fun h=>h
  have rm:=m.row 0
  have hbl:=h.row.lt
  have z27:=f27.1
  have hab':=r0.lt
  refine nz_i (q1g h hk hl fun w34 f34 h34=>?_)
  have nb:w27.heap.size≠b:=oo
  have rm:=f34.row rm nb
  have r0:=f34.row r0 hab
  refine⟨_,rm.at,_,rm.at (i:=1) rfl,?_⟩
  refine qe0 (c:=⟨ofL wNum,n,d,ofL [],⟨none,0,0⟩⟩) h34 hp hT fun w38 f38 h38=>?_
  have r0:=f38.row r0 hab
  refine q13 r0 (by simp[zD]) fun w40 f40 r40=>?_
  have r40:Row w40 ab (encD ⟨ofL wNum,n,d,ofL [],⟨none,0,0⟩⟩ 1):=r40
  refine⟨_,r40.at,_,r40.at (i:=1) rfl,_,r40.at (i:=2) rfl,_,r40.at (i:=3) rfl,⟨none,0,0⟩,r40.at (i:=4) rfl,_,r40.at (i:=5) rfl,?_⟩
  refine hK w40 ((((f27.t m.1).f0 (F:=fun c=>c=b\/c=ab)).trans (f34.trans f38 fun _ h _=>h) fun _ h _=>.inl h).trans f40 fun _ h _=>.inr h) ⟨f40.row h38.row (Ne.symm hab),h38.tk.frF f40 fun c hc e=>hts (e▸hc),h38.ne⟩
end
end Go.Proofs.YtmfkimnmklnppaaGreatDoor
namespace Dp
open Go Pw
theorem qu5(n d:Int):(Lib.cut (decB n d) [46]).1=Lib.itoa (n/d)/\(Lib.cut (decB n d) [46]).2.1=q3a n d:=by
 have h:(46:UInt8)∉Lib.itoa (n/d):=qbr od (.inl od)
 rw[q6j]
 by_cases hr:n%d=0
 ·rw[if_pos hr,Jf,qpe h]
  refine⟨rfl,?_⟩
  unfold q3a
  rw[if_pos hr]
 ·rw[if_neg hr,qtg h]
  grind
end Dp
namespace Go.Proofs.YtmfkimnmklnppaaGreatDoor
open Go Pw Dp
section
variable{w w' w0:World}{b k p:Nat}{ts:Sl}{T:List (B×Int)}
theorem qc8{n d:Int}{K:ByteArray->Int->Int->ByteArray->Sl->Int->World->Prop}(h:Sf w b ts k p T)(hk:k<T.length)(hl:T.length<2^62)(hp:p<2^62)
  (hn:q2h n d=true) (hd:q1x d=true) (g:Gm w) (hK:∀w',Fr (fun c=>c=b) w w'->Sf w' b ts (k+1) (p+1) T->K (ofL wNum) n d (str []) ⟨none,0,0⟩ 1 w'):z0k_sh (some ⟨b,0,none⟩) (ofL (decB n d)) K w:=by
 have hT:T≠[]:=oz
 have hnd:=q3m hn
 obtain⟨f1,f2,f3,-,-,-⟩:=q94 hd hnd.2
 have hn9:n<=1000000000*d:=by
  unfold q2h at hn
  grind
 have q0:0<=n/d:=Jp hnd.2 oo
 have q1:n/d<=1000000000:=Js hnd.1 oo
 have il:=q4l (n:=n/d) ⟨oo,oo⟩
 have dl:(decB n d).length<=24:=by
  rw[q6j]
  grind
 obtain⟨c1,c2⟩:=qu5 n d
 refine⟨fi ?_⟩
 intro w1
 have m:Mem w w1 [(w.heap.size,zD)]:=Mem.nil.allocL (cs:=zD)
 clear_value w1
 have hb0:=h.row.lt
 have hab:w.heap.size≠b:=oo
 have hts:¬inB ts w.heap.size:=fun hb=>by have:=h.tk.lt encTk_length od hT _ hb;omega
 have n0:=m.2.2.2 _ (J5 ..)
 generalize hab0:w.heap.size=ab at *
 rw[show str [46]=ofL [46]from rfl]
 refine qq4 oo (g.fr m.1) fun w2 f2=>?_
 rw[c1,c2]
 have m:=m.fr f2
 intro w6
 have m:Mem w w6 [(ab,zD)]:=m.drew
 clear_value w6
 refine⟨fun _=>True,trivial,nz_i (q6c (qie q0) oo (q08 ?_))⟩
 rw[show str [48]=ofL [48]from rfl]
 refine q9v oo ?_
 rw[f3]
 refine q0q ⟨fi ?_⟩
 refine qif q0 q1 fun w15 f15=>nz_i (q08 ?_)
 have m:=m.fr f15
 rw[q0u,decide_eq_true (show((q3a n d).length:Int)<=6 by omega)]
 refine q08 ?_
 have fin:z0k_k1 (some ⟨b,0,none⟩) ⟨ab,0,none⟩ (ofL (q3a n d)) (n/d) K w15:=by
  refine⟨fi ?_⟩
  refine qpa F0 fun s w24 ho hsl f24 hi=>?_
  rw[q28]at ho
  have hs:Vw 1 qqc w24 s (q3a n d):=Ow.vw ⟨by rw[hsl,q0u],by
   have:(q3a n d).flatMap qqc=(q3a n d).map bv:=qhz bv _
   grind⟩
  have m:=m.fr f24
  refine q95 (h.fr m.1) hk hl hp hn hd (m.row 0) hab hs (fun w' f' h'=>hK w' ?_ h') hts
  refine(m.1.f0 (F:=fun c=>c=b)).trans f' fun c hc hlt=>?_
  omega
 refine q00.2 ⟨fun _=>q0q fin,fun hq=>?_⟩
 have hr0:n%d=0:=by
  have e1:d*(n/d)+n%d=n:=Jr n d
  have e2:n/d=1000000000:=oo
  rw[e2]at e1
  have:=Ju n (show d≠0 by omega)
  omega
 rw[show decide (ofL (q3a n d)=str [])=true by
  unfold q3a
  rw[if_pos hr0]
  decide]
 exact q0q fin
end
end Go.Proofs.YtmfkimnmklnppaaGreatDoor
namespace Dp
open Go Pw
def q96(v:Nat)(r:List B):Prop:=∀t∈r.head?,(v<=1->t≠[42]/\t≠[47])/\(v=0->t≠[43]/\t≠[45])
theorem q96.up{v v':Nat}{r:List B}(h:q96 v r)(hv:v<=v'):q96 v' r:=fun t ht=>⟨fun h'=>(h t ht).1 oo,fun h'=>(h t ht).2 oo⟩
def opsB(v:Nat):B:=if v=0 then [43,45]else [42,47]
theorem ops_in{v:Nat}{o:Fin 6}(ho:lev o=v)(hv:v<2):∃c,opS o=[c]/\decide (0<=Lib.indexByte (opsB v) c)=true:=by
 subst ho
 match o,hv with
 | 0,_=>exact⟨43,rfl,od⟩
 | 1,_=>exact⟨45,rfl,od⟩
 | 2,_=>exact⟨42,rfl,od⟩
 | 3,_=>exact⟨47,rfl,od⟩
 | 4,h=>exact absurd h od
 | 5,h=>exact absurd h od
theorem qu6{v:Nat}{c:UInt8}{r:List B}(h:q96 v ([c]::r))(hv:v<2):decide (0<=Lib.indexByte (opsB v) c)=false:=by
 have h:=h [c] og
 match v,hv with
 | 0,_ =>
  have h1:=h.2 rfl
  have a:c≠43:=fun e=>h1.1 (by rw[e])
  have b:c≠45:=fun e=>h1.2 (by rw[e])
  simp[opsB,Lib.indexByte,Ne.symm a,Ne.symm b]
 | 1,_ =>
  have h1:=h.1 od
  have a:c≠42:=fun e=>h1.1 (by rw[e])
  have b:c≠47:=fun e=>h1.2 (by rw[e])
  simp[opsB,Lib.indexByte,Ne.symm a,Ne.symm b]
theorem qn5{v:Nat}{o:Fin 6}{r:List B}(ho:lev o=v)(hv:v<2):q96 (v+1) (opS o::r):=fun t ht=>by
 simp only[List.head?_cons,Option.mem_some_iff]at ht
 subst ht ho
 refine⟨fun h=>?_,fun h=>oo⟩
 match o,hv,h with
 | 0,_,_=>exact⟨od,od⟩
 | 1,_,_=>exact⟨od,od⟩
 | 2,_,h=>exact absurd h od
 | 3,_,h=>exact absurd h od
 | 4,h,_=>exact absurd h od
 | 5,h,_=>exact absurd h od
def itT(v:Nat)(l:List (Fin 6×Fm)):List B:=l.flatMap fun p=>opS p.1::p.2.toks (v+1)
def itP(l:List (Fin 6×Fm)):Nat:=(l.map fun p=>1+p.2.parts).sum
end Dp
namespace Go.Proofs.YtmfkimnmklnppaaGreatDoor
open Go Pw Dp
section
variable{w w' w0:World}{b k p:Nat}{ts:Sl}{T:List (B×Int)}
structure Pre(w:World)(b:Nat)(ts:Sl)(k p:Nat)(T:List (B×Int))(v:Nat)(e:Fm):Prop where
 sc:Sf w b ts k p T
 tl:T.length<2^62
 tk:∃r,(T.map (·.1)).drop k=e.toks v++r/\r≠[]/\q96 v r
 pp:p+e.parts<=2^40
 four:e.four=true
 dp:e.depth<=2^40
 g:∃w0,Fr F0 w0 w/\w0.heap.size<=b/\Gm w0
structure Post(w:World)(b:Nat)(ts:Sl)(k p:Nat)(T:List (B×Int))(v:Nat)(e:Fm)(w':World)(c:XC):Prop where
 fr:Fr (fun d=>d=b) w w'
 sc:Sf w' b ts (k+(e.toks v).length) (p+e.parts) T
 x:XW (fun i=>w.heap.size<=i/\i<w'.heap.size) w' e c
abbrev KX:=ByteArray->Int->Int->ByteArray->Sl->Int->World->Prop
def q4s(sh:Option Addr->KX->World->Prop)(b:Nat)(ts:Sl)(T:List (B×Int))(v:Nat)(e:Fm):Prop:=
 ∀ {w:World} {k p:Nat} {K:KX},Pre w b ts k p T v e->(∀w' c,Post w b ts k p T v e w' c->K c.op c.n c.d c.nm c.a (e.depth:Int) w')->sh (some ⟨b,0,none⟩) K w
theorem Pre.gm{v:Nat}{e:Fm}(h:Pre w b ts k p T v e):Gm w:=let⟨_,f,_,g⟩:=h.g;g.fr f
theorem Pre.gs{v:Nat}{e:Fm}(h:Pre w b ts k p T v e)(f:Fr (fun d=>d=b) w w'):∃w0,Fr F0 w0 w'/\w0.heap.size<=b/\Gm w0:=
 let⟨w0,f0,hb,g⟩:=h.g
 ⟨w0,f0.trans f fun d hd hlt=>oo,hb,g⟩
theorem q7j{t:B}{r:List B}(h:(T.map (·.1)).drop k=t::r):∃hk:k<T.length,T[k].1=t/\(T.map (·.1)).drop (k+1)=r:=by
 have hk:k<T.length:=by
  rcases Jw k T.length with h'|h'
  ·exact h'
  ·rw[J0 oz]at h
   cases h
 refine⟨hk,?_,?_⟩
 ·have h1:((T.map (·.1)).drop k)[0]?=some t:=by rw[h];rfl
  grind
 ·rw[←J1,h]
  rfl
theorem q97{x:Nat}{c:XC}{n:Int}(r:Row w x (encD c n)){K:KX}(hK:K c.op c.n c.d c.nm c.a n w) :
  ∃x41:ByteArray,w.cell? ⟨x,0,none⟩=some (Value.string x41)/\∃x42:Int,w.cell? ((⟨x,0,none⟩:Addr).add 1)=some (Value.int .i64 x42)/\∃x43:Int,w.cell? ((⟨x,0,none⟩:Addr).add 2)=some (Value.int .i64 x43)/\∃x44:ByteArray,w.cell? ((⟨x,0,none⟩:Addr).add 3)=some (Value.string x44)/\∃x45:Sl,w.cell? ((⟨x,0,none⟩:Addr).add 4)=some (Value.slice x45.p x45.l x45.c)/\∃x46:Int,w.cell? ((⟨x,0,none⟩:Addr).add 5)=some (Value.int .i64 x46)/\K x41 x42 x43 x44 x45 x46 w:=
 ⟨_,r.at,_,r.at (i:=1) rfl,_,r.at (i:=2) rfl,_,r.at (i:=3) rfl,c.a,r.at (i:=4) rfl,_,r.at (i:=5) rfl,hK⟩
theorem qgj{e:Fm}(hl:∀o x y,e≠.op o x y):q4s z0u_sh b ts T 2 e:=by
 intro w k p K h hK
 obtain⟨r,ht,hr,_⟩:=h.tk
 have hb0:=h.sc.row.lt
 have hp:=h.pp
 have hpp:=q2m e
 have n20:¬inB ts w.heap.size:=fun hb=>by
  have hk:T≠[]:=by
   intro e0
   rw[e0]at ht
   simp_all
  have:=h.sc.tk.lt encTk_length od hk _ hb
  omega
 refine⟨fi ?_⟩
 intro w1
 have m:Mem w w1 [(w.heap.size,zD)]:=Mem.nil.allocL (cs:=zD)
 clear_value w1
 generalize hab:w.heap.size=ab at *
 have hne:ab≠b:=oo
 have fin:∀(w':World) (c:XC),Fr (fun d=>d=b) w w'->Row w' ab zD->Sf w' b ts (k+1) (p+1) T->(e.toks 2).length=1->e.parts=1->e.depth=1->(∀(u:World) (P:Nat->Prop),XW P u e c)->stN w' ⟨ab,0,none⟩ [.string c.op,.int .i64 c.n,.int .i64 c.d,.string c.nm,.slice c.a.p c.a.l c.a.c,.int .i64 1] fun w9=>∃x41:ByteArray,w9.cell? ⟨ab,0,none⟩=some (Value.string x41)/\∃x42:Int,w9.cell? ((⟨ab,0,none⟩:Addr).add 1)=some (Value.int .i64 x42)/\∃x43:Int,w9.cell? ((⟨ab,0,none⟩:Addr).add 2)=some (Value.int .i64 x43)/\∃x44:ByteArray,w9.cell? ((⟨ab,0,none⟩:Addr).add 3)=some (Value.string x44)/\∃x45:Sl,w9.cell? ((⟨ab,0,none⟩:Addr).add 4)=some (Value.slice x45.p x45.l x45.c)/\∃x46:Int,w9.cell? ((⟨ab,0,none⟩:Addr).add 5)=some (Value.int .i64 x46)/\K x41 x42 x43 x44 x45 x46 w9:=fun w' c f r0 hs e1 e2 e3 hx=>by
  refine q13 r0 (by simp[zD]) fun w9 f9 r9=>q97 (c:=c) (n:=1) r9 ?_
  have:=hK w9 c ⟨f.trans f9 fun d hd hlt=>oo,by
   rw[e1,e2]
   exact⟨f9.row hs.row (Ne.symm hne),hs.tk.frF f9 fun d hd e=>n20 (e▸hd),hs.ne⟩,hx _ _⟩
  rw[e3]at this
  exact this
 cases e with
 | num n d =>
  obtain⟨hk,e1,e2⟩:=q7j (show(T.map (·.1)).drop k=decB n d::r from ht)
  have hT:T≠[]:=oz
  have hf:=h.four
  unfold Fm.four at hf
  simp only[JD]at hf
  have hnd:=q3m hf.1
  refine nz_i (q0v (h.sc.fr m.1) hk fun w3 f3=>?_)
  have m:=m.fr f3
  rw[e1]
  obtain⟨c,q,eq⟩:∃c q,decB n d=c::q:=by
   rw[q6j]
   cases hq:Lib.itoa (n/d)with
   | nil=>exact absurd hq (q3z _)
   | cons c q=>exact⟨c,_,rfl⟩
  have hc:q17 c=true:=by
   have q0:0<=n/d:=Jp hnd.2 oo
   refine q7w q0 c ?_
   rw[q6j]at eq
   cases hq:Lib.itoa (n/d)with
   | nil=>exact absurd hq (q3z _)
   | cons c' q'=>grind
  rw[show decide (ofL (decB n d)=str [])=false by
   rw[show str []=ofL []from rfl,q0c,eq]
   grind]
  refine q08 ?_
  obtain⟨ec,hlt⟩:=q92 (s:=decB n d) (k:=0) (c:=c) (r:=q) oz
  rw[show((ofL (decB n d)).data.toList.getD (0:Int).toNat 0)=c from ec,q0u]
  refine⟨⟨oo,oo⟩,q26 ?_⟩
  rw[hc]
  refine q08 (qc8 (h.sc.fr m.1) hk h.tl oo hf.1 hf.2 (h.gm.fr m.1) fun w7 f7 h7=>?_)
  have hn9:n<=1000000000*d:=by
   have:=hf.1
   unfold q2h at this
   grind
  have hd10:d<=10:=by
   have:=hf.2
   have hdd:d=1\/d=2\/d=4\/d=5\/d=10:=by unfold q1x at this;simpa using this
   omega
  exact fin w7 ⟨ofL wNum,n,d,ofL [],⟨none,0,0⟩⟩ (m.1.f0.trans f7 fun _ h _=>h) (f7.row (m.row 0) hne) h7 rfl rfl rfl fun u P=>⟨rfl,⟨oo,oo⟩,⟨oo,oo⟩⟩
 | name s =>
  obtain⟨hk,e1,e2⟩:=q7j (show(T.map (·.1)).drop k=s::r from ht)
  have hT:T≠[]:=oz
  have hf:q2k s=true:=h.four
  have hnm:=q1y hf
  obtain⟨c,q,eq⟩:∃c q,s=c::q:=by
   cases s with
   | nil=>cases hnm
   | cons c q=>grind
  have hnm':=hnm
  rw[eq]at hnm'
  unfold q0w at hnm'
  simp only[JD,decide_eq_true_eq]at hnm'
  have hsl:s.length<=30:=oz
  refine nz_i (q0v (h.sc.fr m.1) hk fun w3 f3=>?_)
  have m:=m.fr f3
  rw[e1]
  rw[show decide (ofL s=str [])=false by
   rw[show str []=ofL []from rfl,q0c,eq]
   grind]
  refine q08 ?_
  obtain⟨ec,hlt⟩:=q92 (s:=s) (k:=0) (c:=c) (r:=q) oz
  rw[show((ofL s).data.toList.getD (0:Int).toNat 0)=c from ec,q0u]
  refine⟨⟨oo,oo⟩,q26 ?_⟩
  have hdg:q17 c=false:=by
   rw[Bool.eq_false_iff]
   intro hd
   have:=(q73 hd).1
   rw[hnm'.2.1]at this
   cases this
  rw[hdg]
  refine q0h ⟨fi ?_⟩
  have hno:∀t:B,t≠s->decide (ofL s=ofL t)=false:=fun t hne=>by rw[q0c];exact decide_eq_false fun e=>hne e.symm
  unfold q2k at hf
  simp only[JD,Bool.not_eq_true',decide_eq_false_iff_not]at hf
  rw[show decide (ofL s=str [40])=false from hno [40] (by rw[eq];intro e;cases e;exact absurd hnm'.2.1 od),show decide (ofL s=str [109,105,110])=false from hno wMin (fun e=>hf.2.1 e.symm),show decide (ofL s=str [109,97,120])=false from hno wMax (fun e=>hf.2.2 e.symm)]
  refine q0h (q0h (q0h ?_))
  intro w72
  have m:Mem w w72 [(ab,zD)]:=m.drew
  clear_value w72
  refine⟨fun _=>True,trivial,nz_i (q41 oo ?_)⟩
  rw[hnm]
  refine q0q (nz_i (q1g (h.sc.fr m.1) hk h.tl fun w79 f79 h79=>?_))
  refine qe0 (c:=⟨ofL q1w,0,0,ofL s,⟨none,0,0⟩⟩) h79 oo hT fun w81 f81 h81=>?_
  have ff:=f79.trans f81 fun _ h _=>h
  exact fin w81 ⟨ofL q1w,0,0,ofL s,⟨none,0,0⟩⟩ (m.1.f0.trans ff fun _ h _=>h) (ff.row (m.row 0) hne) h81 rfl rfl rfl fun u P=>⟨rfl,oo⟩
 | op o x y=>grind
theorem qe1{o:Fin 6}{x y:Fm}(hf:q4s z0l_sh b ts T 0 (.op o x y)):q4s z0u_sh b ts T 2 (.op o x y):=by
 intro w k p K h hK
 obtain⟨r,ht,hr,_⟩:=h.tk
 have hb0:=h.sc.row.lt
 have hfo:=h.four
 unfold Fm.four at hfo
 simp only[JD,decide_eq_true_eq]at hfo
 have et:(Fm.op o x y).toks 2=[40]::((Fm.op o x y).toks 0++[[41]]):=by
  unfold Fm.toks parT
  grind
 rw[et]at ht
 have ht':(T.map (·.1)).drop k=[40]::((Fm.op o x y).toks 0++([41]::r)):=by rw[ht];simp
 obtain⟨hk,e1,e2⟩:=q7j ht'
 have hT:T≠[]:=oz
 have n20:¬inB ts w.heap.size:=fun hb=>by
  have:=h.sc.tk.lt encTk_length od hT _ hb
  omega
 refine⟨fi ?_⟩
 intro w1
 have m:Mem w w1 [(w.heap.size,zD)]:=Mem.nil.allocL (cs:=zD)
 clear_value w1
 refine nz_i (q0v (h.sc.fr m.1) hk fun w3 f3=>?_)
 have m:=m.fr f3
 rw[e1,show decide (ofL [40]=str [])=false by decide]
 refine q08 ⟨⟨oo,by rw[q0u];decide⟩,?_⟩
 rw[show((ofL [40]).data.toList.getD (0:Int).toNat 0)=40 from rfl]
 refine q26 ?_
 rw[show q17 40=false by decide]
 refine q0h ⟨fi ?_⟩
 rw[show decide (ofL [40]=str [40])=true by decide]
 refine q08 (nz_i (q1g (h.sc.fr m.1) hk h.tl fun w17 f17 h17=>?_))
 have hp:=h.pp
 have m0:=m
 generalize hab:w.heap.size=ab at *
 have hne:ab≠b:=oo
 have F17:Fr (fun d=>d=b) w w17:=m.1.f0.trans f17 fun _ h _=>h
 have r17:=f17.row (m.row 0) hne
 refine hf (k:=k+1) (p:=p) ⟨h17,h.tl,⟨_,e2,og,fun t ht=>?_⟩,h.pp,h.four,h.dp,h.gs F17⟩ fun w19 c hc=>?_
 ·grind
 have r19:=hc.fr.row r17 hne
 have e3:(T.map (·.1)).drop (k+1+((Fm.op o x y).toks 0).length)=[41]::r:=by rw[←J1,e2,J7]
 obtain⟨hk3,e4,e5⟩:=q7j e3
 intro w21
 have q21:Row w21 w19.heap.size zD:=Row.new
 have f21:Fr F0 w19 w21:=Fr.alloc
 clear_value w21
 have h21:=hc.sc.fr f21
 have x21:=hc.x.go (w':=w21) (P:=_) fun i hi=>f21.2.1 i hi.2 fun h=>h
 have r21:=f21.row r19 fun h=>h
 have z19:w.heap.size<=w19.heap.size:=JA F17.1 hc.fr.1
 have l19:=r19.lt
 have lb:=hc.sc.row.lt
 generalize hxb:w19.heap.size=xb at *
 refine q13 q21 (by simp[zD]) fun w22 f22 r22=>?_
 have r22:Row w22 xb (encD c ((Fm.op o x y).depth:Int)):=r22
 have nt:∀d,inB ts d->d<w.heap.size:=fun d hd=>h.sc.tk.lt encTk_length od hT d hd
 have h22:Sf w22 b ts (k+1+((Fm.op o x y).toks 0).length) (p+(Fm.op o x y).parts) T:=⟨f22.row h21.row oo,h21.tk.frF f22 fun d hd e=>by have:=nt d hd;omega,h21.ne⟩
 refine qn4 (s:=[41]) h22 hk3 h.tl e4 fun w23 f23 h23=>?_
 have r23:=f23.row r22 oo
 refine⟨_,r23.at,_,r23.at (i:=1) rfl,_,r23.at (i:=2) rfl,_,r23.at (i:=3) rfl,c.a,r23.at (i:=4) rfl,_,r23.at (i:=5) rfl,?_⟩
 have a23:=f23.row (f22.row r21 oo) hne
 refine q13 a23 (by simp[zD]) fun w30 f30 r30=>q97 (c:=c) (n:=((Fm.op o x y).depth:Int)) r30 ?_
 have z21:=f21.1
 have z22:=f22.1
 have z23:=f23.1
 have z30:=f30.1
 refine hK w30 c ⟨?_,?_,?_⟩
 ·have F22:Fr (fun d=>d=b) w w22:=(((F17.trans hc.fr fun _ h _=>h).tF f21)).trans f22 fun d hd hlt=>oo
  exact(F22.trans f23 fun _ h _=>h).trans f30 fun d hd hlt=>oo
 ·rw[et]
  rw[show k+([40]::((Fm.op o x y).toks 0++[[41]])).length=k+1+((Fm.op o x y).toks 0).length+1 by simp;omega]
  exact⟨f30.row h23.row (Ne.symm hne),h23.tk.frF f30 fun d hd e=>by have:=nt d hd;omega,h23.ne⟩
 ·refine(x21.go fun i hi=>?_).mono fun i hi=>⟨JA F17.1 hi.1,oo⟩
  have i1:i≠b:=by have:=F17.1;omega
  have i2:i≠ab:=by have:=F17.1;have:=(show ab<w17.heap.size from r17.lt);omega
  rw[f30.2.1 i oo i2,f23.2.1 i oo i1,f22.2.1 i oo oo]
end
end Go.Proofs.YtmfkimnmklnppaaGreatDoor
namespace Dp
open Go Pw
theorem q7y(v:Nat)(q:Fin 6×Fm)(l:List (Fin 6×Fm)):itT v (q::l)=opS q.1::(q.2.toks (v+1)++itT v l):=by simp[itT]
theorem qgk(v:Nat)(l m:List (Fin 6×Fm)):itT v (l++m)=itT v l++itT v m:=by simp[itT]
theorem qik(l:List (Fin 6×Fm))(q:Fin 6×Fm):itP (l++[q])=itP l+(1+q.2.parts):=by simp[itP]
theorem q98(x:Fm)(l:List (Fin 6×Fm))(q:Fin 6×Fm):x.join (l++[q])=.op q.1 (x.join l) q.2:=by simp[Fm.join]
theorem qap(x:Fm):∀(l:List (Fin 6×Fm)) (i:Nat),(x.join (l.take i)).depth<=(x.join l).depth:=by
 intro l i
 have h:∀(l:List (Fin 6×Fm)) (x:Fm),x.depth<=(x.join l).depth:=by
  intro l
  induction l with
  | nil=>intro x;exact Jy _
  | cons q l ih =>
   intro x
   have:=ih (.op q.1 x q.2)
   have e:(Fm.op q.1 x q.2).depth=max x.depth q.2.depth+1:=rfl
   show x.depth<=((Fm.op q.1 x q.2).join l).depth
   omega
 have e:x.join l=(x.join (l.take i)).join (l.drop i):=by
  unfold Fm.join
  rw[←List.foldl_append,J6]
 grind
theorem qil(l:List (Fin 6×Fm))(i:Nat):itP (l.take i)<=itP l:=by
 have e:itP l=itP (l.take i)+itP (l.drop i):=by
  unfold itP
  rw[←List.sum_append,←Jj,J6]
 omega
theorem qn6(x:Fm):∀(l:List (Fin 6×Fm)) (q:Fin 6×Fm),q∈l->q.2.depth<=(x.join l).depth:=by
 intro l q hq
 obtain⟨i,hi,rfl⟩:=List.mem_iff_getElem.1 hq
 have h1:=qap x l (i+1)
 rw[List.take_add_one,List.getElem?_eq_getElem hi]at h1
 have e:(x.join (l.take i++[l[i]])).depth=max (x.join (l.take i)).depth l[i].2.depth+1:=by rw[q98];rfl
 grind
end Dp
namespace Go.Proofs.YtmfkimnmklnppaaGreatDoor
open Go Pw Dp
section
variable{w w' w0:World}{b k p:Nat}{ts:Sl}{T:List (B×Int)}
def qim(f:Value)(b:Nat)(ts:Sl)(T:List (B×Int))(v:Nat)(e:Fm):Prop:=
 ∀ {w:World} {k p:Nat} {K:VW},Pre w b ts k p T v e->(∀w' c,Post w b ts k p T v e w' c->K (.agg #[.string c.op,.int .i64 c.n,.int .i64 c.d,.string c.nm,.slice c.a.p c.a.l c.a.c,.int .i64 (e.depth:Int)]) w')->q0y Tryz.prog f [] w K
structure Ch(w:World)(b:Nat)(ts:Sl)(k p:Nat)(T:List (B×Int))(v:Nat)(hd:Fm)(l:List (Fin 6×Fm))(xb tb i:Nat)(c:XC)(u:World):Prop where
 fr:Fr (fun d=>d=b) w u
 sc:Sf u b ts (k+(hd.toks (v+1)).length+(itT v (l.take i)).length) (p+hd.parts+itP (l.take i)) T
 rx:Row u xb (encD c ((hd.join (l.take i)).depth:Int))
 rt:Row u tb zD
 x:XW (fun j=>w.heap.size<=j/\j<u.heap.size/\j≠xb/\j≠tb) u (hd.join (l.take i)) c
theorem qsj(h:Sf w b ts k p T):kAt b w=k:=by
 unfold kAt
 rw[h.row.at (i:=1) rfl]
 rfl
theorem qaq{v:Nat}(hv:v<2){e:Fm}{f:Value}(hh:qim f b ts T (v+1) (e.spine v).1)(hi:∀q∈(e.spine v).2,qim f b ts T (v+1) q.2){K:KX}(h:Pre w b ts k p T v e)
  (hK:∀w' c,Post w b ts k p T v e w' c->K c.op c.n c.d c.nm c.a (e.depth:Int) w'):z1b_sh (some ⟨b,0,none⟩) (ofL (opsB v)) f K w:=by
 obtain⟨r,ht,hr,hnx⟩:=h.tk
 have hj:=Fm.spine_join v e
 have htk:=Fm.spine_toks v e
 obtain⟨hf1,hf2⟩:=Fm.spine_four v h.four
 have hpt:e.parts=(e.spine v).1.parts+itP (e.spine v).2:=by
  have:=Fm.join_parts (e.spine v).2 (e.spine v).1
  rw[hj]at this
  exact this
 have hdp:=h.dp
 generalize(e.spine v).1=hd at *
 generalize(e.spine v).2=l at *
 have htk:e.toks v=hd.toks (v+1)++itT v l:=htk
 have hpp:=h.pp
 have hb0:=h.sc.row.lt
 have htl:=h.tl
 have left:∀i,i<=l.length->(T.map (·.1)).drop (k+(hd.toks (v+1)).length+(itT v (l.take i)).length)=itT v (l.drop i)++r:=fun i _=>by
  rw[Nat.add_assoc,←J1,ht,htk,←J1,Ja,J7]
  conv=>lhs;rw[←J6 i l,qgk]
  grind
 have nxt:∀i,i<=l.length->q96 (v+1) (itT v (l.drop i)++r):=fun i hil=>by
  rcases Jw i l.length with h'|h'
  ·rw[J9 h',q7y]
   exact qn5 (hf2 _ (J3 h')).2 hv
  ·rw[J0 h']
   exact hnx.up oo
 have nen:∀i,itT v (l.drop i)++r≠[]:=fun i h'=>hr (List.append_eq_nil_iff.1 h').2
 have kT:k<T.length:=by
  rcases Jw k T.length with h'|h'
  ·exact h'
  ·rw[J0 oz]at ht
   simp_all
 have hT:T≠[]:=oz
 have nt:∀d,inB ts d->d<w.heap.size:=fun d hd=>h.sc.tk.lt encTk_length od hT d hd
 have dj:=fun i=>qap hd l i
 rw[hj]at dj
 refine⟨fi ?_⟩
 intro w1
 have m:Mem w w1 [(w.heap.size,zD)]:=Mem.nil.allocL (cs:=zD)
 clear_value w1
 generalize htb:w.heap.size=tb at m
 have hl0:=left 0 (JC _)
 refine hh (k:=k) (p:=p) ⟨h.sc.fr m.1,htl,⟨itT v l++r,by rw[ht,htk,Ja],nen 0,nxt 0 (JC _)⟩,oo,hf1,by have:=dj 0;simp only[List.take_zero]at this;have e0:hd.join []=hd:=rfl;rw[e0]at this;omega,h.gs m.1.f0⟩ fun w3 c hc=>⟨_,_,_,_,c.a,_,rfl,?_⟩
 have r3:Row w3 tb zD:=hc.fr.row (m.row 0) oo
 have z1:=m.1.1
 have z3:=hc.fr.1
 have t3:=r3.lt
 intro w11
 have q11:Row w11 w3.heap.size zD:=Row.new
 have f11:Fr F0 w3 w11:=Fr.alloc
 clear_value w11
 have z11:=f11.1
 have r11:=f11.row r3 fun h=>h
 have b3:=hc.sc.row.lt
 have x11:=hc.x.go (w':=w11) fun i hi=>f11.2.1 i hi.2 fun h=>h
 generalize hxb:w3.heap.size=xb at *
 refine q13 q11 (by simp[zD]) fun w12 f12 r12=>?_
 have r12:Row w12 xb (encD c (hd.depth:Int)):=r12
 have z12:=f12.1
 have l12:=r12.lt
 have c0:Ch w b ts k p T v hd l xb tb 0 c w12:=by
  have F12:Fr (fun d=>d=b) w w12:=(((m.1.f0 (F:=fun d=>d=b)).trans hc.fr fun _ h _=>h).tF f11).trans f12 fun d hd hlt=>oo
  refine⟨F12,⟨f12.row (f11.row hc.sc.row fun h=>h) oo,(hc.sc.tk.fr f11).frF f12 fun d hd e=>by have:=nt d hd;omega,hc.sc.ne⟩,r12,f12.row r11 oo,?_⟩
  refine(x11.go fun i hi=>f12.2.1 i oo oo).mono fun i hi=>⟨by have:=hi.1;omega,by have:=hi.2;omega,by have:=hi.2;omega,by have:=hi.1;have:=(show tb<w1.heap.size from(m.row 0).lt);omega⟩
 obtain⟨t0,m0,e0⟩:∃t m,itT v (l.drop 0)++r=t::m:=by
  cases hq:itT v (l.drop 0)++r with
  | nil=>grind
  | cons t m=>grind
 obtain⟨hk0,et0,_⟩:=q7j (hl0.trans e0)
 refine nz_i (q0v c0.sc hk0 fun w14 f14=>?_)
 have cfr:∀ {i:Nat} {c:XC} {u u':World},Ch w b ts k p T v hd l xb tb i c u->Fr F0 u u'->Ch w b ts k p T v hd l xb tb i c u':=fun hc f=>⟨hc.fr.tF f,hc.sc.fr f,f.row hc.rx fun h=>h,f.row hc.rt fun h=>h,(hc.x.go fun i hi=>f.2.1 i hi.2.1 fun h=>h).mono fun i hi=>⟨hi.1,Nat.lt_of_lt_of_le hi.2.1 f.1,hi.2.2⟩⟩
 refine⟨⟨fun t u=>∃(i:Nat) (c:XC) (hk:k+(hd.toks (v+1)).length+(itT v (l.take i)).length<T.length),i<=l.length/\Ch w b ts k p T v hd l xb tb i c u/\t=ofL (T[k+(hd.toks (v+1)).length+(itT v (l.take i)).length]).1,fun _ u=>T.length-kAt b u,⟨0,c,hk0,oo,cfr c0 f14,rfl⟩,?_⟩⟩
 rintro t u ⟨i,c,hk,hil,hC,rfl⟩
 have stop:i=l.length->∀u',Fr F0 u u'->z1b_k1 ⟨tb,0,none⟩ ⟨xb,0,none⟩ K u':=fun e1 u' fu=>by
  have hC:=cfr hC fu
  subst e1
  obtain⟨fr,sc,rx,rt,x⟩:=hC
  rw[Jb]at sc rx x
  rw[hj]at rx x
  refine⟨fi ?_⟩
  refine⟨_,rx.at,_,rx.at (i:=1) rfl,_,rx.at (i:=2) rfl,_,rx.at (i:=3) rfl,c.a,rx.at (i:=4) rfl,_,rx.at (i:=5) rfl,?_⟩
  refine q13 rt (by simp[zD]) fun w50 f50 r50=>q97 (c:=c) (n:=(e.depth:Int)) r50 ?_
  have zz:=f50.1
  refine hK w50 c ⟨fr.trans f50 fun d hd hlt=>oo,?_,(x.go fun j hj=>f50.2.1 j hj.2.1 hj.2.2.2).mono fun j hj=>⟨hj.1,oo⟩⟩
  have e2:k+(hd.toks (v+1)).length+(itT v l).length=k+(e.toks v).length:=oz
  have e3:p+hd.parts+itP l=p+e.parts:=oo
  rw[e2,e3]at sc
  exact⟨f50.row sc.row oo,sc.tk.frF f50 fun d hd e=>by have:=nt d hd;omega,sc.ne⟩
 have hlf:=left i hil
 refine fi ?_
 rcases Jw i l.length with hlt|hge
 ·have hdr:l.drop i=l[i]::l.drop (i+1):=J9 hlt
  rw[hdr,q7y]at hlf
  obtain⟨hq4,hql⟩:=hf2 _ (J3 hlt)
  obtain⟨ch,hch,hcon⟩:=ops_in hql hv
  obtain⟨_,e1,e2⟩:=q7j (t:=opS l[i].1) (r:=l[i].2.toks (v+1)++itT v (l.drop (i+1))++r) (by rw[hlf];simp)
  have e1':ofL T[k+(hd.toks (v+1)).length+(itT v (l.take i)).length].1=ofL [ch]:=by rw[e1,hch]
  rw[e1',show(((ofL [ch]).size:Int)==1)=true by rw[q0u];rfl]
  refine q08 (q5c ?_)
  rw[hcon]
  refine q08 (nz_i (q1g hC.sc hk htl fun w19 f19 h19=>?_))
  have htbb:tb≠b:=oo
  have hxbb:xb≠b:=oo
  intro w21
  have f21:Fr (fun d=>d=b) u w21:=f19.tF Fr.drew
  have h21:Sf w21 b ts (k+(hd.toks (v+1)).length+(itT v (l.take i)).length+1) (p+hd.parts+itP (l.take i)) T:=Sc.fr h19 Fr.drew
  clear_value w21
  have x21:=hC.x.go (w':=w21) fun j hj=>f21.2.1 j hj.2.1 oo
  have rx21:=f21.row hC.rx hxbb
  have rt21:=f21.row hC.rt htbb
  have z21:=f21.1
  have hpi:=qil l i
  have hpi1:=qil l (i+1)
  rw[q16 hlt,qik]at hpi1
  have hdi:=qn6 hd l _ (J3 hlt)
  rw[hj]at hdi
  refine⟨fun u=>Row u xb (encD c ((hd.join (l.take i)).depth:Int)),rx21,_,fun u hu=>hu.at,_,fun u hu=>hu.at (i:=1) rfl,_,fun u hu=>hu.at (i:=2) rfl,_,fun u hu=>hu.at (i:=3) rfl,c.a,fun u hu=>hu.at (i:=4) rfl,_,fun u hu=>hu.at (i:=5) rfl,?_⟩
  refine hi _ (J3 hlt) ⟨h21,htl,⟨itT v (l.drop (i+1))++r,by rw[e2,Ja],nen (i+1),nxt (i+1) hlt⟩,oo,hq4,oo,h.gs (hC.fr.trans f21 fun _ h _=>h)⟩ fun w30 c' hc'=>⟨_,_,_,_,c'.a,_,rfl,?_⟩
  have rx30:=hc'.fr.row rx21 hxbb
  have rt30:=hc'.fr.row rt21 htbb
  have x30:=x21.go (w':=w30) fun j hj=>hc'.fr.2.1 j oo oo
  have z30:=hc'.fr.1
  refine⟨rx30,qn3 (ca:=c) (cb:=c') (na:=(hd.join (l.take i)).depth) (nb:=l[i].2.depth) hc'.sc oo hT oz oo fun w38 ni f38 h38 rn hni=>?_⟩
  have rx38:=f38.row rx30 hxbb
  have rt38:=f38.row rt30 htbb
  have z38:=f38.1
  have hn38:=rn.lt
  have x38:=x30.go (w':=w38) fun j hj=>f38.2.1 j oo oo
  have y38:=hc'.x.go (w':=w38) fun j hj=>f38.2.1 j hj.2 (by have:=hj.1;have:=hC.fr.1;omega)
  have lx:=rx21.lt
  have lt:=rt21.lt
  refine q13 rx38 (by simp[encD]) fun w40 f40 r40=>?_
  have z40:=f40.1
  have hC':Ch w b ts k p T v hd l xb tb (i+1) ⟨ofL [ch],0,0,str [],⟨some ⟨ni,0,none⟩,2,2⟩⟩ w40:=by
   have F:Fr (fun d=>d=b) w w40:=(((hC.fr.trans f21 fun _ h _=>h).trans hc'.fr fun _ h _=>h).trans f38 fun _ h _=>h).trans f40 fun d hd hlt=>oo
   refine⟨F,?_,?_,f40.row rt38 oo,?_⟩
   ·have e3:k+(hd.toks (v+1)).length+(itT v (l.take (i+1))).length=k+(hd.toks (v+1)).length+(itT v (l.take i)).length+1+(l[i].2.toks (v+1)).length:=by
     rw[q16 hlt,qgk,J4,q7y]
     simp[itT]
     omega
    have e4:p+hd.parts+itP (l.take (i+1))=p+hd.parts+itP (l.take i)+l[i].2.parts+1:=by rw[q16 hlt,qik];omega
    rw[e3,e4]
    exact⟨f40.row h38.row (Ne.symm hxbb),h38.tk.frF f40 fun d hd e=>by have:=nt d hd;omega,h38.ne⟩
   ·rw[q16 hlt,q98]
    exact r40
   ·rw[q16 hlt,q98]
    have g1:∀j,j<w38.heap.size->j≠xb->w40.heap[j]?=w38.heap[j]?:=fun j h1 h2=>f40.2.1 j h1 h2
    refine⟨c,c',ni,⟨by rw[qtt,hch],rfl,rfl,rfl⟩,rfl,f40.row rn oo,⟨oo,oo,oo,oo⟩,?_,?_⟩
    ·exact(x38.go fun j hj=>g1 j oo hj.2.2.1).mono fun j hj=>⟨hj.1,oo,hj.2.2⟩
    ·exact(y38.go fun j hj=>g1 j oo oo).mono fun j hj=>⟨by have:=hC.fr.1;omega,oo,oo,oo⟩
  obtain⟨t1,m1,e3⟩:∃t m,itT v (l.drop (i+1))++r=t::m:=by
   cases hq:itT v (l.drop (i+1))++r with
   | nil=>grind
   | cons t m=>grind
  obtain⟨hk1,_,_⟩:=q7j ((left (i+1) hlt).trans e3)
  refine nz_i (q0v hC'.sc hk1 fun w42 f42=>?_)
  have hC2:=cfr hC' f42
  refine⟨⟨⟨rfl,rfl,rfl,rfl,rfl,trivial⟩,i+1,_,hk1,hlt,hC2,rfl⟩,?_⟩
  show T.length-kAt b w42<T.length-kAt b u
  rw[qsj hC2.sc,qsj hC.sc,q16 hlt,qgk,J4,q7y]
  grind
 ·have e1:i=l.length:=oo
  rw[J0 hge]at hlf
  obtain⟨t1,m1,e3⟩:∃t m,r=t::m:=by
   cases hq:r with
   | nil=>grind
   | cons t m=>grind
  obtain⟨_,e4,_⟩:=q7j (hlf.trans e3)
  rw[e4]
  rw[e3]at hnx
  refine q09.2 ⟨fun hsz=>?_,fun _=>stop e1 u Fr.refl⟩
  obtain⟨ch,rfl⟩:∃ch,t1=[ch]:=by
   rw[q0u]at hsz
   have:t1.length=1:=oz
   exact List.length_eq_one_iff.1 this
  refine q5c ?_
  rw[qu6 hnx hv]
  exact q0h (stop e1 u Fr.refl)
theorem qgl{e:Fm}(hh:∀q,(q=(e.spine 1).1\/∃o,(o,q)∈(e.spine 1).2)->q4s z0u_sh b ts T 2 q):q4s z20_sh b ts T 1 e:=by
 have hV:∀q,(q=(e.spine 1).1\/∃o,(o,q)∈(e.spine 1).2)->qim (.func (.func 317) #[.pointer (some ⟨b,0,none⟩)] #[]) b ts T 2 q:=fun q hq=>fun {w k p K} h hK=>q02 z0u_ok (hh q hq (K:=kk [.g 6,tS,tI,tI,tS,tL,tI] K) h fun w' c hc=>hK w' c hc)
 intro w k p K h hK
 obtain⟨r,ht,hr,_⟩:=h.tk
 have kT:k<T.length:=by
  rcases Jw k T.length with h'|h'
  ·exact h'
  ·rw[J0 oz]at ht
   simp_all
 have hT:T≠[]:=oz
 have nt:∀d,inB ts d->d<w.heap.size:=fun d hd=>h.sc.tk.lt encTk_length od hT d hd
 have hb0:=h.sc.row.lt
 refine⟨fi ?_⟩
 intro w1
 have m:Mem w w1 [(w.heap.size,zD)]:=Mem.nil.allocL (cs:=zD)
 clear_value w1
 rw[show str [42,47]=ofL (opsB 1)from rfl]
 have z1:=m.1.1
 refine qaq (v:=1) od (hV _ (.inl rfl)) (fun q hq=>hV _ (.inr ⟨q.1,hq⟩)) ⟨h.sc.fr m.1,h.tl,h.tk,h.pp,h.four,h.dp,h.gs m.1.f0⟩ fun w2 c hc=>?_
 have r2:=hc.fr.row (m.row 0) oo
 have z2:=hc.fr.1
 have l1:=(m.row 0).lt
 refine q13 r2 (by simp[zD]) fun w4 f4 r4=>q97 (c:=c) (n:=(e.depth:Int)) r4 ?_
 have z4:=f4.1
 exact hK w4 c ⟨((m.1.f0 (F:=fun d=>d=b)).trans hc.fr fun _ h _=>h).trans f4 fun d hd hlt=>oo,⟨f4.row hc.sc.row oo,hc.sc.tk.frF f4 fun d hd e=>by have:=nt d hd;omega,hc.sc.ne⟩,(hc.x.go fun j hj=>f4.2.1 j hj.2 oo).mono fun j hj=>⟨oo,oo⟩⟩
theorem q75{e:Fm}(hh:∀q,(q=(e.spine 0).1\/∃o,(o,q)∈(e.spine 0).2)->q4s z20_sh b ts T 1 q):q4s z0l_sh b ts T 0 e:=by
 have hV:∀q,(q=(e.spine 0).1\/∃o,(o,q)∈(e.spine 0).2)->qim (.func (.func 295) #[.pointer (some ⟨b,0,none⟩)] #[]) b ts T 1 q:=fun q hq=>fun {w k p K} h hK=>q02 z20_ok (hh q hq (K:=kk [.g 6,tS,tI,tI,tS,tL,tI] K) h fun w' c hc=>hK w' c hc)
 have hB:q4s z0f_sh b ts T 0 e:=by
  intro w k p K h hK
  obtain⟨r,ht,hr,_⟩:=h.tk
  have kT:k<T.length:=by
   rcases Jw k T.length with h'|h'
   ·exact h'
   ·rw[J0 oz]at ht
    simp_all
  have hT:T≠[]:=oz
  have nt:∀d,inB ts d->d<w.heap.size:=fun d hd=>h.sc.tk.lt encTk_length od hT d hd
  have hb0:=h.sc.row.lt
  refine⟨fi ?_⟩
  intro w1
  have m:Mem w w1 [(w.heap.size,zD)]:=Mem.nil.allocL (cs:=zD)
  clear_value w1
  rw[show str [43,45]=ofL (opsB 0)from rfl]
  have z1:=m.1.1
  refine qaq (v:=0) od (hV _ (.inl rfl)) (fun q hq=>hV _ (.inr ⟨q.1,hq⟩)) ⟨h.sc.fr m.1,h.tl,h.tk,h.pp,h.four,h.dp,h.gs m.1.f0⟩ fun w2 c hc=>?_
  have r2:=hc.fr.row (m.row 0) oo
  have z2:=hc.fr.1
  have l1:=(m.row 0).lt
  refine q13 r2 (by simp[zD]) fun w4 f4 r4=>q97 (c:=c) (n:=(e.depth:Int)) r4 ?_
  have z4:=f4.1
  exact hK w4 c ⟨((m.1.f0 (F:=fun d=>d=b)).trans hc.fr fun _ h _=>h).trans f4 fun d hd hlt=>oo,⟨f4.row hc.sc.row oo,hc.sc.tk.frF f4 fun d hd e=>by have:=nt d hd;omega,hc.sc.ne⟩,(hc.x.go fun j hj=>f4.2.1 j hj.2 oo).mono fun j hj=>⟨oo,oo⟩⟩
 intro w k p K h hK
 refine⟨(z0f_ok.2 [.pointer (some ⟨b,0,none⟩)] w (fun v u=>∃r0_0:ByteArray,∃r0_1:Int,∃r0_2:Int,∃r0_3:ByteArray,∃r0_4:Sl,∃r0_5:Int,v=(Value.agg #[(Value.string r0_0),(Value.int .i64 r0_1),(Value.int .i64 r0_2),(Value.string r0_3),(Value.slice r0_4.p r0_4.l r0_4.c),(Value.int .i64 r0_5)])/\K r0_0 r0_1 r0_2 r0_3 r0_4 r0_5 u) (hB (K:=kk [.g 6,tS,tI,tI,tS,tL,tI] _) h fun w' c hc=>⟨_,_,_,_,c.a,_,rfl,hK w' c hc⟩)).mono fun ev w' he=>?_⟩
 grind
theorem qn7:∀(n:Nat) (e:Fm),e.parts<=n->e.four=true->q4s z0l_sh b ts T 0 e/\q4s z20_sh b ts T 1 e/\q4s z0u_sh b ts T 2 e:=by
 intro n
 induction n with
 | zero=>intro e he;have:=q2m e;omega
 | succ n ih =>
  intro e he h4
  have sm:∀v,(∃o x y,e=.op o x y/\lev o=v)->∀q,(q=(e.spine v).1\/∃o,(o,q)∈(e.spine v).2)->q.parts<=n/\q.four=true:=fun v ho q hq=>by
   obtain⟨s1,s2⟩:=Fm.spine_small ho
   obtain⟨f1,f2⟩:=Fm.spine_four v h4
   rcases hq with rfl|⟨o,hq⟩
   ·exact⟨oo,f1⟩
   ·have:=s2 _ hq
    grind
  have self:∀v,(∀o x y,e=.op o x y->lev o≠v)->∀q,(q=(e.spine v).1\/∃o,(o,q)∈(e.spine v).2)->q=e:=fun v hn q hq=>by
   rw[Fm.spine_leaf hn]at hq
   rcases hq with rfl|⟨o,hq⟩
   ·rfl
   ·cases hq
  by_cases hop:∃o x y,e=.op o x y
  ·obtain⟨o,x,y,rfl⟩:=hop
   have h4':=h4
   unfold Fm.four at h4'
   simp only[JD,decide_eq_true_eq]at h4'
   rcases(by omega:lev o=0\/lev o=1)with hl|hl
   ·have hF:q4s z0l_sh b ts T 0 (.op o x y):=q75 fun q hq=>let⟨h1,h2⟩:=sm 0 ⟨o,x,y,rfl,hl⟩ q hq;(ih q h1 h2).2.1
    have hA:q4s z0u_sh b ts T 2 (.op o x y):=qe1 hF
    refine⟨hF,qgl fun q hq=>?_,hA⟩
    rw[self 1 (fun o' x' y' e'=>by cases e';omega) q hq]
    exact hA
   ·have hM:q4s z20_sh b ts T 1 (.op o x y):=qgl fun q hq=>let⟨h1,h2⟩:=sm 1 ⟨o,x,y,rfl,hl⟩ q hq;(ih q h1 h2).2.2
    have hF:q4s z0l_sh b ts T 0 (.op o x y):=q75 fun q hq=>by
     rw[self 0 (fun o' x' y' e'=>by cases e';omega) q hq]
     exact hM
    exact⟨hF,hM,qe1 hF⟩
  ·have hno:∀o x y,e≠.op o x y:=fun o x y h=>hop ⟨o,x,y,h⟩
   have hA:q4s z0u_sh b ts T 2 e:=qgj hno
   have hM:q4s z20_sh b ts T 1 e:=qgl fun q hq=>by
    rw[self 1 (fun o x y h=>absurd h (hno o x y)) q hq]
    exact hA
   refine⟨q75 fun q hq=>?_,hM,hA⟩
   rw[self 0 (fun o x y h=>absurd h (hno o x y)) q hq]
   exact hM
end
section
variable{w w' w0:World}{b k bt:Nat}{ts s:Sl}{tx:ByteArray}{fm:Int}{T:List (B×Int)}{x x':T43}{t t':Td}{Z:List Sl}{F:Nat->Prop}{fl:Bool}{E:List Pt}
theorem qn8{e:Fm}{K:ByteArray->Int->Int->ByteArray->Sl->World->Prop}(hv:Vw 2 q4r w s T)(hl:T.length<2^62)(hT:T.map (·.1)=e.toks 0++[[]])(he:FR e)(g:Gm w)
  (hK:∀w' c,Fr F0 w w'->XW (fun i=>w.heap.size<=i/\i<w'.heap.size) w' e c->K c.op c.n c.d c.nm c.a w'):z7a_sh s K w:=by
 have hne:T≠[]:=by intro e0;rw[e0]at hT;simp at hT
 have nt:∀d,inB s d->d<w.heap.size:=fun d hd=>hv.lt encTk_length od hne d hd
 have h60:=he.parts
 have h12:=he.depth
 refine⟨fi ?_⟩
 intro w1
 have m:Mem w w1 [(w.heap.size,encX ⟨str [],0,0,str [],⟨none,0,0⟩⟩)]:=Mem.nil.allocL (cs:=encX ⟨str [],0,0,str [],⟨none,0,0⟩⟩)
 clear_value w1
 intro w2
 have m:Mem w w2 [(w1.heap.size,scC s 0 [.int .i64 ((0:Nat):Int)]),_]:=m.allocL (cs:=scC s 0 [.int .i64 ((0:Nat):Int)])
 clear_value w2
 have kk:=m.2.2.1
 simp only[Jm,Jo,Jh,Jd,J8,or_false,forall_eq]at kk
 have nw:=m.2.2.2
 simp only[Jd,J8,or_false,forall_eq_or_imp,forall_eq]at nw
 have ra:=m.row 1
 have rb:=m.row 0
 generalize haa:w.heap.size=a at *
 generalize hbb:w1.heap.size=b at *
 refine(qn7 e.parts e (Jy _) he.four).1 (k:=0) (p:=0) ⟨⟨rb,hv.fr m.1,fun hb=>by have:=nt _ hb;omega⟩,hl,⟨[[]],by rw[List.drop_zero];exact hT,og,fun t ht=>?_⟩,oo,he.four,oo,⟨w,m.1,oo,g⟩⟩ fun w3 c hc=>?_
 ·grind
 have lt3:(e.toks 0).length<T.length:=by
  have:=congrArg Je hT
  grind
 have et:(T[0+(e.toks 0).length]'oo).1=[]:=by
  have h1:(T.map (·.1))[0+(e.toks 0).length]?=some []:=by rw[hT,List.getElem?_append_right oo];simp
  grind
 have ra:=hc.fr.row ra oo
 have F3:Fr F0 w w3:=m.1.trans hc.fr fun d hd hlt=>oo
 have z3:=hc.fr.1
 have la:=ra.lt
 have lb:=hc.sc.row.lt
 intro w5
 have r5:Row w5 w3.heap.size zD:=Row.new
 have f5:Fr F0 w3 w5:=Fr.alloc
 clear_value w5
 have z5:=f5.1
 have x5:=hc.x.go (w':=w5) fun i hi=>f5.2.1 i hi.2 fun h=>h
 have h5:=hc.sc.fr f5
 have ra:=f5.row ra fun h=>h
 generalize hxx:w3.heap.size=xb at *
 refine q13 r5 (by simp[zD]) fun w6 f6 r6=>?_
 have r6:Row w6 xb (encD c (e.depth:Int)):=r6
 have z6:=f6.1
 have l6:=r6.lt
 have x6:=x5.go (w':=w6) fun i hi=>f6.2.1 i oo oo
 have h6:Sf w6 b s (0+(e.toks 0).length) (0+e.parts) T:=⟨f6.row h5.row oo,h5.tk.frF f6 fun d hd e=>by have:=nt d hd;omega,h5.ne⟩
 have ra:=f6.row ra oo
 intro w7
 have f7:Fr F0 w6 w7:=Fr.drew
 clear_value w7
 refine⟨fun _=>True,trivial,q0v (h6.fr f7) oo fun w9 f9=>?_⟩
 rw[et,show decide (ofL []=str [])=true by decide]
 refine q0q ?_
 have f9:=f7.t f9
 have h9:=h6.fr f9
 refine⟨_,h9.row.at (i:=2) rfl,?_⟩
 rw[decide_eq_false (show ¬(((0+e.parts:Nat):Int)>60) by omega)]
 have r9:=f9.row r6 fun h=>h
 refine q0h ⟨_,r9.at (i:=5) rfl,?_⟩
 rw[decide_eq_false (show ¬((e.depth:Int)>12) by omega)]
 refine q0h ⟨_,r9.at,_,r9.at (i:=1) rfl,_,r9.at (i:=2) rfl,_,r9.at (i:=3) rfl,c.a,r9.at (i:=4) rfl,?_⟩
 refine q13 (f9.row ra fun h=>h) (by simp[encX]) fun w21 f21 r21=>?_
 have r21:Row w21 a (encX c):=r21
 have z9:=f9.1
 have z21:=f21.1
 have F21:Fr F0 w w21:=(((F3.t f5).trans f6 fun d hd hlt=>oo).t f9).trans f21 fun d hd hlt=>oo
 refine⟨_,r21.at,_,r21.at (i:=1) rfl,_,r21.at (i:=2) rfl,_,r21.at (i:=3) rfl,c.a,r21.at (i:=4) rfl,hK w21 c F21 ?_⟩
 refine(x6.go fun i hi=>?_).mono fun i hi=>⟨by have:=hi.1;have:=m.1.1;omega,by have:=hi.2;omega⟩
 rw[f21.2.1 i oo (by have:=hi.1;have:=(show a<w2.heap.size from(m.row 1).lt);omega),f9.2.1 i oo fun h=>h]
theorem qc9{e:Fm}{K:World->Prop}(h:LS w0 w b ts k (ofL (32::e.shw 0)) fm T bt x t Z F fl E)(hT:T≠[])(he:FR e)(hf:0<=fm/\fm<=2^40)(g:Gm w0)
  (hK:∀w' x' F',LS w0 w' b ts (T.length-1) (ofL (32::e.shw 0)) fm T bt x' { t with fm:=e } Z F' true E->K w'):z2h_sh (some ⟨b,0,none⟩) K w:=by
 have hsl:=shw_len e 0 he.four
 have h60:=he.parts
 have hTl:=J2.2 hT
 have htl:=h.tl
 have hel:ts.l=T.length:=h.sca.tk.len
 refine⟨fi ?_⟩
 intro w1
 have h:LS w0 w1 b ts k (ofL (32::e.shw 0)) fm T bt x t Z F fl E:=h.fr Fr.drew
 clear_value w1
 have S:∀ {u:World},LS w0 u b ts k (ofL (32::e.shw 0)) fm T bt x t Z F fl E->Row u b (scC ts k (qg3 (ofL (32::e.shw 0)) fm bt)):=fun h=>h.sca.row
 refine⟨fun u=>Row u b (scC ts k (qg3 (ofL (32::e.shw 0)) fm bt)),S h,nz_i ⟨_,fun u hu=>hu.at (i:=4) rfl,nz_i ⟨_,fun u hu=>hu.at (i:=2) rfl,nz_i ⟨_,fun u hu=>hu.at (i:=3) rfl,?_⟩⟩⟩⟩
 have htk:Dp.Tok (32::e.shw 0) (e.toks 0):=by
  have:=qbt e 0 (s:=[]) (m:=[]) he.four (.inl rfl) .nil
  rw[Jf,Jf]at this
  exact .blank this
 refine q6i oy hf htk fun w9 r10 T' hm hT'=>?_
 have h9:=h.fr hm.fr0
 have hT'l:T'.length<2^62:=by
  have h1:=congrArg Je hT'
  rw[List.length_map,J4,List.length_singleton]at h1
  have h2:=qn1 htk
  grind
 refine⟨S h9,qn8 hm.vw hT'l hT' he (g.fr h9.sx.fr0) fun w11 c f11 hx=>?_⟩
 have h11:=h9.fr f11
 refine⟨S h11,nz_i ?_⟩
 have hs:=h9.sx.upd (q:=(fun i=>w9.heap.size<=i/\i<w11.heap.size,fun u=>true=true->XW (fun i=>w9.heap.size<=i/\i<w11.heap.size) u e c)) 9 rfl f11.f0 (fun u u' he h _=>(h rfl).go he) (fun _=>hx) fun _ hb=>.inr hb
 rw[q04]
 refine q13 (o:=6) h11.box (by show 6+5<=20;decide) fun w14 f14 r14=>nz_i ?_
 have hs14:=hs.upd (q:=(fun c=>c=bt,fun u=>Row u bt (T43.cs { x with f6:=c.op,f7:=c.n,f8:=c.d,f9:=c.nm,f10:=c.a }))) 2 rfl f14 (q0b.row _ _) r14 fun _ hb=>.inl hb
 have h14:LS w0 w14 b ts k (ofL (32::e.shw 0)) fm T bt { x with f6:=c.op,f7:=c.n,f8:=c.d,f9:=c.nm,f10:=c.a } { t with fm:=e } Z (fun i=>w9.heap.size<=i/\i<w11.heap.size) true E:=⟨hs14,{ h.sc with },h.tl⟩
 refine⟨ts,h14.sca.row.at (i:=0) rfl,?_⟩
 rw[hel]
 refine⟨q01,nz_i ⟨h14.sca.row.wr (i:=1) (by simp[scC]),?_⟩⟩
 refine hK _ _ _ (h14.step (Fr.set rfl) ⟨?_,h14.sca.tk.frF (Fr.set (F:=fun c=>c=b) rfl) fun c hc e=>h14.sca.ne (e▸hc),h14.sca.ne⟩)
 have:=h14.sca.row.set 1 (.int .i64 ((T.length:Int)-1))
 rw[show((T.length:Int)-1)=((T.length-1:Nat):Int) by omega]at this ⊢
 exact this
end
end Go.Proofs.YtmfkimnmklnppaaGreatDoor
namespace Pw
open Go Go.MapKept
theorem Ms.congr{w w':World}{r:Nat}{l:List (ByteArray×Value)}(h:Ms w r l)(e:w'.heap[r]?=w.heap[r]?):Ms w' r l:=by
 obtain⟨es,c,h1,h2⟩:=h
 exact⟨es,c,by rw[e];exact h1,h2⟩
theorem Ms.lt{w:World}{r:Nat}{l:List (ByteArray×Value)}(h:Ms w r l):r<w.heap.size:=by
 obtain⟨es,c,h1,h2⟩:=h
 grind
theorem qca{w:World}{r:Nat}{n:ByteArray}{v:Value}:Fr (fun b=>b=r) w (w.sset r n v):=by
 refine⟨by simp[World.sset],fun b _ hn=>?_,rfl,rfl,rfl⟩
 unfold World.sset
 grind
theorem q6k{α:Type}(d:α)(m n:ByteArray)(v:α):∀l:List (ByteArray×α),q3t d m (sput n v l)=if n=m then v else q3t d m l
 | []=>rfl
 | p::l=>by
  unfold sput
  by_cases h:p.1=n
  ·rw[if_pos h]
   simp only[q3t]
   grind
  ·rw[if_neg h]
   simp only[q3t]
   by_cases hp:p.1=m
   ·grind
   ·rw[if_neg hp,if_neg hp,q6k d m n v l]
theorem q9w{P:Program}{w:World}{r:Nat}{n:ByteArray}{l:List (ByteArray×Value)}{v:Value}(t:TypeId){kt et:TypeId}(ht:P.underlying t=some (.map kt et))(hk:P.underlying kt=some .string)(h:Ms w r l)(hv:∀d,q3t d n l=v) :
  (Instr.lookup t (.map (some r)) (.string n) true).run P w=.ok (.tuple #[v,.bool true]) w:=by
 obtain⟨es,clock,hb,he⟩:=h
 have hkey:IsKey .string (.string n):=by simp[IsKey]
 have hc:=run_checkKey (P:=P) (w:=w) hk hkey es.isEmpty 9999
 unfold Instr.lookup
 rcases q2u (n:=n) (.bool true) (.bool true) es.toList l 0 he with⟨h1,h2,_⟩|⟨j,x,h1,h2,_,_⟩
 ·exfalso
  rcases q2u (n:=n) (.bool false) (.bool true) es.toList l 0 he with⟨_,h3,_⟩|⟨j,x,h3,_,_,_⟩
  ·grind
  ·grind
 ·rw[hv]at h2
  have hf:=run_findKey (P:=P) (w:=w) hk h1
  simp[run_underlying ht,run_getObj_map hb,hc,hf,h2]
