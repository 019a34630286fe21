/- strconv.Itoa, Atoi where it reads a number, strings.TrimRight. Conditions: none. -/
import Derived.Test.YtmfkimnmklnppaaGreatDoorHQA
import Derived.Shelf.Strconv.Itoa4
import Derived.Shelf.Strconv.AtoiAll
import Derived.Shelf.Strings.Trim
import Derived.Lib.ItoaLen
import Derived.Lib.SplitLaws
import Derived.Lib.TrimByte
open List renaming mem_cons->J0,foldl_cons->J1,not_mem_nil->J2,mem_map->J3,length_cons->J4,mem_singleton->J5,foldl_append->J6,getElem?_eq_getElem->J7,count_eq_zero_of_not_mem->J8,flatMap_cons->J9,all_eq_true->Ja,length_map->Jb,mem_filterMap->Jc,map_cons->Jd,pairwise_append->Je,length_append->Jf,pairwise_map->Jg,mem_append->Jh,length_zip->Ji,Pairwise->Jj
open Nat renaming mul_le_mul->Jk,mul_le_mul_right->Jl,one_dvd->Jm,mul_succ->Jn,dvd_mul_left->Jo,zero_add->Jp
open Bool renaming and_eq_true->Jq,eq_false_iff->Jr,eq_iff_iff->Js,false_eq_true->Jt,or_eq_true->Ju,true_and->Jv
namespace Go.Proofs.YtmfkimnmklnppaaGreatDoor
open Go Pw Dp
def GlT(w:World):Prop:=Lib.TabIs Tryz.prog w "internal/strconv.uint64pow10" .u64 Lib.pow10Tab
section
variable{w w' w0:World}
theorem qi7(w:World):∀k,Fr F0 w (w.drewN k):=fun _=>⟨Nat.le_refl _,fun _ _ _=>rfl,rfl,rfl,rfl⟩
theorem qth(w:World)(os:Array Obj):Fr F0 w (Go.Sort.grow w os):=by
 refine⟨by simp[Go.Sort.grow],fun b hb _=>?_,rfl,rfl,rfl⟩
 show(w.heap++os)[b]?=_
 grind
theorem qpm(w:World)(e:TypeId)(t:ByteArray):Fr F0 w (Lib.bytesWorld w e t):=by
 unfold Lib.bytesWorld
 refine⟨by simp[World.freeze],fun b hb _=>?_,rfl,rfl,rfl⟩
 have hne:b≠w.heap.size:=oo
 simp only[World.freeze]
 rw[if_neg od]
 simp only
 rw[Array.getElem?_modify,if_neg (Ne.symm hne)]
 show(w.heap.push _)[b]?=_
 grind
theorem GlT.fr(h:GlT w)(hf:Fr F0 w w'):GlT w':=by
 unfold GlT Lib.TabIs World.var? at h ⊢
 cases hg:Program.globalNamed Tryz.prog "internal/strconv.uint64pow10" with
 | none=>grind
 | some g =>
  rw[hg]at h
  simp only[Option.bind_some]at h ⊢
  have hlt:g<w.heap.size:=oz
  rw[hf.2.1 g hlt fun hh=>hh]
  exact h
theorem q4l{n:Int}(h:I64 n):(Lib.itoa n).length<=21:=Lib.itoa_length_le n h.1 (by have:=h.2;omega)
theorem q15{n:Int}{K:ByteArray->World->Prop}(h:I64 n)(g:GlT w)(hK:∀w',Fr F0 w w'->K (ofL (Lib.itoa n)) w'):z50_sh n K w:=
 ⟨(Any.strconv_Itoa Tryz.laysM171 n h.1 (by have:=h.2;omega) w g).mono fun e w' he=>by
  obtain⟨rfl,k,os,rfl⟩:=he
  exact⟨_,rfl,hK _ (Fr0.t (qi7 w k) (qth _ os))⟩⟩
theorem qm8{s:B}{n:Int}{K:Int->Value->World->Prop}(hs:s.length<=2^40)(ha:Lib.atoiAll s=.ok n)(hK:∀w',Fr F0 w w'->K n .nilIface w'):z4z_sh (ofL s) K w:=
 ⟨(Any.strconv_Atoi_ok Tryz.laysC172 (ofL s) (by rw[q0u];omega) n (by show Lib.atoiAll (bl (ofL s))=_;rw[q28];exact ha) w).mono fun e w' he=>by
  obtain⟨rfl,h⟩:=he
  refine⟨_,_,rfl,hK _ ?_⟩
  rcases h with rfl|⟨t,rfl⟩
  ·exact Fr.refl
  ·exact qpm _ _ _⟩
theorem q9s{s:B}{K:ByteArray->World->Prop}(hs:s.length<=2^40)(hK:K (ofL (Lib.trimRightB s 48)) w):z2e_sh (ofL s) (str [48]) K w:=
 ⟨(Any.strings_TrimRight_one Tryz.lays162 (ofL s) 48 od w (by rw[q0u];omega)).mono fun e w' he=>by
  obtain⟨rfl,rfl⟩:=he
  refine⟨_,rfl,?_⟩
  exact hK⟩
end
section
variable{w w' w0:World}{s:Sl}
theorem Vw.goS{α:Type}{n:Nat}{enc:α->List Value}{l:List α}{i:Int}{K:Addr->Prop}{S:World->Prop}(hn:∀a,(enc a).length=n)(hn0:0<n)(hw:S w)(h:∀v,S v->Vw n enc v s l)(i':Nat)(hi:i=(i':Int))(h1:i'<l.length)
  (hK:∀a:Addr,(∀k v,(enc l[i'])[k]?=some v->∀u,S u->u.cell? ((a.add (i.toNat*n)).add k)=some v)->K a):nz s.p fun a=>(0<=i/\i<(s.l:Nat))/\K a:=by
 subst hi
 obtain⟨ad,hp,_⟩:=(h w hw).at hn (J7 h1) hn0
 have hl:=(h w hw).len
 rw[hp]
 refine⟨⟨oo,oo⟩,hK ad fun k v hv u hu=>?_⟩
 obtain⟨ad',hp',hc⟩:=(h u hu).at hn (J7 h1) hn0
 grind
theorem q2i{c:UInt8}{K:Bool->World->Prop}(hK:K (q23 c) w):z5z_sh (c.toNat:Int) K w:=by
 refine⟨fi ?_⟩
 have e2:q23 c=((decide (97<=c.toNat)&&decide (c.toNat<=122))||(decide (65<=c.toNat)&&decide (c.toNat<=90))):=rfl
 refine q00.2 ⟨fun h1=>q00.2 ⟨fun h2=>?_,fun h2=>q00.2 ⟨fun h3=>?_,fun h3=>?_⟩⟩,fun h1=>q00.2 ⟨fun h3=>?_,fun h3=>?_⟩⟩
 ·grind
 ·grind
 ·omega
 ·grind
 ·grind
theorem q26{c:UInt8}{K:Bool->World->Prop}(hK:K (q17 c) w):z6n_sh (c.toNat:Int) K w:=by
 refine⟨fi ?_⟩
 refine q00.2 ⟨fun h1=>?_,fun h1=>?_⟩
 ·have:q17 c=decide ((c.toNat:Int)<=57):=by unfold q17;rw[Js];simp;omega
  rwa [this]at hK
 ·have:q17 c=false:=by unfold q17;simp;omega
  rwa [this]at hK
theorem q8p{c:UInt8}{K:Bool->World->Prop}(hK:K (q14 c) w):z5w_sh (c.toNat:Int) K w:=by
 refine⟨fi ?_⟩
 refine q2i (q09.2 ⟨fun h=>?_,fun h=>q26 (q09.2 ⟨fun h'=>?_,fun h'=>?_⟩)⟩)
 ·have:q14 c=true:=by unfold q14;rw[h];rfl
  rwa [this]at hK
 ·have:q14 c=true:=by unfold q14;rw[h,h'];rfl
  rwa [this]at hK
 ·have:q14 c=((c.toNat:Int)==95):=by unfold q14;rw[h,h',Js];simp;omega
  rwa [this]at hK
theorem qpn{l:B}{K:Int->World->Prop}(hl:l.length<2^62)(hK:∀r:Int,(r==(l.length:Int))=l.all q14->K r w):z7g_sh (ofL l) 0 (Value.func (.func 268) #[] #[]) K w:=by
 refine⟨fi ?_⟩
 refine⟨⟨fun i u=>∃i':Nat,i=i'/\i'<=l.length/\u=w/\(l.take i').all q14=true,fun i _=>l.length-i.toNat,⟨0,rfl,oo,rfl,og⟩,?_⟩⟩
 rintro i u ⟨i,rfl,hi,rfl,hb⟩
 refine fi ?_
 rw[q0u]
 refine q00.2 ⟨fun hlt=>⟨⟨oo,oo⟩,?_⟩,fun hge=>?_⟩
 ·have hil:i<l.length:=oo
  have e:((ofL l).data.toList.getD (i:Int).toNat 0)=l[i]:=by
   show(bl (ofL l)).getD i 0=_
   simp_all
  rw[e]
  refine q02 z5w_ok (q8p (K:=fun b u=>∃x3:Bool,Value.bool b=Value.bool x3/\_) ⟨_,rfl,q09.2 ⟨fun h=>?_,fun h=>?_⟩⟩)
  ·refine⟨q01,⟨⟨rfl,rfl,trivial⟩,i+1,oo,oo,rfl,?_⟩,uo⟩
   rw[List.take_add_one,J7 hil,List.all_append,hb]
   simp[h]
  ·grind
 ·grind
theorem q41{l:B}{K:Bool->World->Prop}(hl:l.length<2^62)(hK:K (q0w l) w):z5x_sh (ofL l) K w:=by
 refine⟨fi ?_⟩
 have e0:decide (ofL l=str [])=decide (l=[]):=q0c l []
 rw[e0,q0u]
 cases l with
 | nil=>exact hK
 | cons c l =>
  refine q09.2 ⟨fun _=>q00.2 ⟨fun h30=>⟨⟨oo,og⟩,?_⟩,fun h30=>?_⟩,fun h=>by simp at h⟩
  ·have e:((ofL (c::l)).data.toList.getD (0:Int).toNat 0)=c:=by
    show(bl (ofL (c::l))).getD 0 0=_
    simp_all
   rw[e]
   have h30':decide ((c::l).length<=30)=true:=decide_eq_true oo
   refine q2i (q09.2 ⟨fun h=>qpn hl fun r hr=>?_,fun h=>?_⟩)
   ·have:q0w (c::l)=(c::l).all q14:=by unfold q0w;simp only[h30',h,Jv]
    grind
   ·have:q0w (c::l)=false:=by unfold q0w;simp only[h30',h,Jv,Bool.false_and]
    grind
  ·have:q0w (c::l)=false:=by
    show(decide ((c::l).length<=30)&&_)=false
    grind
   grind
end
end Go.Proofs.YtmfkimnmklnppaaGreatDoor
namespace Dp
open Go Pw
def rfBz:Fm->Nat->Nat->Bool×Nat
 | .num n d,deep,k=>if deep=0\/60<k+1 then(false,k+1)else(q2h n d,k+1)
 | .name s,deep,k=>if deep=0\/60<k+1 then(false,k+1)else(q2k s,k+1)
 | .op _ a b,deep,k=>if deep=0\/60<k+1 then(false,k+1)else
   if(rfBz a (deep-1) (k+1)).1 then rfBz b (deep-1) (rfBz a (deep-1) (k+1)).2 else(false,(rfBz a (deep-1) (k+1)).2)
theorem q2m:∀e:Fm,0<e.parts
 | .num _ _=>by simp[Fm.parts]
 | .name _=>by simp[Fm.parts]
 | .op _ a b=>by simp[Fm.parts];omega
theorem q67:∀(e:Fm) (deep k:Nat),((rfBz e deep k).1=true ↔ e.sound=true/\e.depth<=deep/\k+e.parts<=60)/\((rfBz e deep k).1=true->(rfBz e deep k).2=k+e.parts)
 | .num n d,deep,k=>by
  unfold rfBz
  simp only[Fm.sound,Fm.depth,Fm.parts]
  grind
 | .name s,deep,k=>by
  unfold rfBz
  simp only[Fm.sound,Fm.depth,Fm.parts]
  grind
 | .op o a b,deep,k=>by
  obtain⟨ha1,ha2⟩:=q67 a (deep-1) (k+1)
  have hpa:=q2m a
  have hpb:=q2m b
  unfold rfBz
  simp only[Fm.sound,Fm.depth,Fm.parts,Jq]
  split
  ·simp;omega
  ·split
   ·rename_i h1
    obtain⟨hb1,hb2⟩:=q67 b (deep-1) (rfBz a (deep-1) (k+1)).2
    grind
   ·grind
theorem qm9(e:Fm):(rfBz e 12 0).1=e.right:=by
 rw[Js,(q67 e 12 0).1]
 unfold Fm.right
 grind
end Dp
namespace Go.Proofs.YtmfkimnmklnppaaGreatDoor
open Go Pw Dp
theorem _root_.Pw.Fr.nb{F:Nat->Prop}{w0 w w':World}(h:Fr F0 w0 w)(h':Fr F w w')(hb:∀b,F b->w0.heap.size<=b):Fr F0 w0 w':=h.trans h' fun b hF hlt=>absurd (hb b hF) oo
theorem qi8{A F:Prop}(h:A):∀o:Fin 6,cnd (decide (o=0)) (cnd (decide (o=0)) A F) (cnd (decide (o=1)) (cnd (decide (o=1)) A F) (cnd (decide (o=2)) (cnd (decide (o=2)) A F) (cnd (decide (o=3)) (cnd (decide (o=3)) A F) (cnd (decide (o=4)) (cnd (decide (o=4)) A F) (cnd (decide (o=5)) A F)))))
 | 0=>h
 | 1=>h
 | 2=>h
 | 3=>h
 | 4=>h
 | 5=>h
theorem op43:∀o:Fin 6,decide (ofL (opB o)=str [43])=decide (o=0):=od
theorem op45:∀o:Fin 6,decide (ofL (opB o)=str [45])=decide (o=1):=od
theorem op42:∀o:Fin 6,decide (ofL (opB o)=str [42])=decide (o=2):=od
theorem op47:∀o:Fin 6,decide (ofL (opB o)=str [47])=decide (o=3):=od
theorem qpo:∀o:Fin 6,decide (ofL (opB o)=str [109,105,110])=decide (o=4):=od
theorem qpp:∀o:Fin 6,decide (ofL (opB o)=str [109,97,120])=decide (o=5):=od
theorem qji:∀o:Fin 6,decide (ofL (opB o)=str [110,117,109])=false:=od
theorem q8q:∀o:Fin 6,decide (ofL (opB o)=str [110,97,109,101])=false:=od
section
variable{w w' w0:World}
theorem ldX{s:Sl}{i:Int}{l:List XC}{K:ByteArray->Int->Int->ByteArray->Sl->Prop}(h:Vw 5 encX w s l)(i':Nat)(hi:i=(i':Int))(h1:i'<l.length)(hK:K l[i'].op l[i'].n l[i'].d l[i'].nm l[i'].a) :
  nz s.p fun a=>(0<=i/\i<(s.l:Nat))/\∃x:ByteArray,w.cell? (a.add (i.toNat*5))=some (Value.string x)/\∃y:Int,w.cell? ((a.add (i.toNat*5)).add 1)=some (Value.int .i64 y)/\∃z:Int,w.cell? ((a.add (i.toNat*5)).add 2)=some (Value.int .i64 z) /\
   ∃u:ByteArray,w.cell? ((a.add (i.toNat*5)).add 3)=some (Value.string u)/\∃v:Sl,w.cell? ((a.add (i.toNat*5)).add 4)=some (Value.slice v.p v.l v.c)/\K x y z u v:=
 Vw.go q1p od h i' hi h1 fun _ hc=>⟨_,hc 0 _ rfl,_,hc 1 _ rfl,_,hc 2 _ rfl,_,hc 3 _ rfl,_,hc 4 _ rfl,hK⟩
theorem q1b{n d:Int}:q2h n d=true ↔ q0k n d/\0<=n/\Int.tmod 1000000 d=0/\n<=1000000000*d:=by
 unfold q2h
 grind
theorem qi9{d:Int}(h0:0<d)(h:Int.tmod 1000000 d=0):d<=1000000:=by
 rcases Int.lt_or_le 1000000 d with h'|h'
 ·rw[Int.tmod_eq_emod_of_nonneg oo,Int.emod_eq_of_lt oo h']at h
  omega
 ·exact h'
theorem q6x:∀(e:Fm) {c:XC} {deep k pb:Nat} {w0 w:World} {K:Bool->World->Prop},XP w0 e c->Fr F0 w0 w->w0.heap.size<=pb->Row w pb [.int .i64 (k:Int)]->k<=60->deep<=12 ->
  (∀w',Fr (fun b=>b=pb) w w'->Row w' pb [.int .i64 ((rfBz e deep k).2:Int)]->K (rfBz e deep k).1 w')->z2l_sh c.op c.n c.d c.nm c.a (deep:Int) (some ⟨pb,0,none⟩) K w:=by
 intro e
 induction e with
 | num n d =>
  intro c deep k pb w0 w K hx hf hb hr hk hd hK
  obtain⟨rfl,hn64,hd64⟩:=hx
  refine z2l_mk (fi ?_)
  intro w1
  have m:Mem w w1 [(w.heap.size,_)]:=Mem.nil.allocL (cs:=encX ⟨ofL wNum,n,d,ofL [],⟨none,0,0⟩⟩)
  clear_value w1
  have hr1:=m.1.row hr fun h=>h
  have hlt:=hr.lt
  have hbox:=m.row 0
  refine⟨k,hr1.at,q01,hr1.wr og,?_⟩
  intro w2
  have hr2:Row w2 pb [.int .i64 ((k:Int)+1)]:=hr1.set 0 _
  have hf2:Fr (fun b=>b=pb) w1 w2:=Fr.set rfl
  have hbox2:=hf2.row hbox oo
  have hF2:Fr (fun b=>b=pb) w w2:=m.1.f0.trans hf2 fun _ h _=>h
  clear_value w2
  have e1:((k:Int)+1)=((k+1:Nat):Int):=oo
  rw[e1]at hr2
  refine q0i.2 ⟨fun h=>?_,fun h=>⟨((k+1:Nat):Int),hr2.at,q00.2 ⟨fun h'=>?_,fun h'=>?_⟩⟩⟩
  ·have e:rfBz (.num n d) deep k=(false,k+1):=by unfold rfBz;rw[if_pos oo]
   grind
  ·have e:rfBz (.num n d) deep k=(false,k+1):=by unfold rfBz;rw[if_pos oo]
   grind
  have e:rfBz (.num n d) deep k=(q2h n d,k+1):=by unfold rfBz;rw[if_neg oo]
  rw[e]at hK
  refine⟨_,hbox2.at,?_⟩
  have ee:decide (ofL wNum=str [110,117,109])=true:=od
  rw[ee]
  refine⟨n,hbox2.at,d,hbox2.at,q52 hn64 hd64 fun w3 hf3=>?_⟩
  have hbox3:=hf3.row hbox2 fun h=>h
  have hr3:=hf3.row hr2 fun h=>h
  have hF3:=hF2.tF hf3
  have fin:∀b,q2h n d=b->K b w3:=fun b hb=>oz
  refine q00.2 ⟨fun h1=>⟨n,hbox3.at,q00.2 ⟨fun h2=>?_,fun h2=>fin _ (Jr.2 fun h=>h2 (q1b.1 h).2.1)⟩⟩,fun h1=>fin _ (Jr.2 fun h=>h1 (q1b.1 h).1)⟩
  have hd0:0<d:=h1.1
  refine⟨d,hbox3.at,oo,q0i.2 ⟨fun h3=>?_,fun h3=>fin _ (Jr.2 fun h=>h3 (q1b.1 h).2.2.1)⟩⟩
  have hdl:=qi9 hd0 h3
  refine⟨n,hbox3.at,d,hbox3.at,q01,q00.2 ⟨fun h4=>?_,fun h4=>fin _ (Jr.2 fun h=>h4 (q1b.1 h).2.2.2)⟩⟩
  refine⟨_,hbox3.at,?_⟩
  have ee:decide (ofL []=str [])=true:=od
  rw[ee]
  exact⟨⟨none,0,0⟩,hbox3.at,fin _ (q1b.2 ⟨h1,h2,h3,h4⟩)⟩
 | name s =>
  intro c deep k pb w0 w K hx hf hb hr hk hd hK
  obtain⟨rfl,hs20⟩:=hx
  refine z2l_mk (fi ?_)
  intro w1
  have m:Mem w w1 [(w.heap.size,_)]:=Mem.nil.allocL (cs:=encX ⟨ofL q1w,0,0,ofL s,⟨none,0,0⟩⟩)
  clear_value w1
  have hr1:=m.1.row hr fun h=>h
  have hlt:=hr.lt
  have hbox:=m.row 0
  refine⟨k,hr1.at,q01,hr1.wr og,?_⟩
  intro w2
  have hr2:Row w2 pb [.int .i64 ((k:Int)+1)]:=hr1.set 0 _
  have hf2:Fr (fun b=>b=pb) w1 w2:=Fr.set rfl
  have hbox2:=hf2.row hbox oo
  have hF2:Fr (fun b=>b=pb) w w2:=m.1.f0.trans hf2 fun _ h _=>h
  clear_value w2
  have e1:((k:Int)+1)=((k+1:Nat):Int):=oo
  rw[e1]at hr2
  refine q0i.2 ⟨fun h=>?_,fun h=>⟨((k+1:Nat):Int),hr2.at,q00.2 ⟨fun h'=>?_,fun h'=>?_⟩⟩⟩
  ·have e:rfBz (.name s) deep k=(false,k+1):=by unfold rfBz;rw[if_pos oo]
   grind
  ·have e:rfBz (.name s) deep k=(false,k+1):=by unfold rfBz;rw[if_pos oo]
   grind
  have e:rfBz (.name s) deep k=(q2k s,k+1):=by unfold rfBz;rw[if_neg oo]
  rw[e]at hK
  have fin:∀b,q2k s=b->K b w2:=fun b hb=>oz
  have en:q2k s=(q0w s&&(!decide (s=wMin) && !decide (s=wMax))):=rfl
  refine⟨_,hbox2.at,?_⟩
  have ee:decide (ofL q1w=str [110,117,109])=false:=od
  have ee':decide (ofL q1w=str [110,97,109,101])=true:=od
  rw[ee,ee']
  refine⟨_,hbox2.at,q41 oo (q09.2 ⟨fun h1=>⟨_,hbox2.at,?_⟩,fun h1=>fin _ (by rw[en,h1];rfl)⟩)⟩
  rw[show decide (ofL s=str [109,105,110])=decide (s=wMin)from q0c s wMin]
  refine q09.2 ⟨fun h2=>⟨_,hbox2.at,?_⟩,fun h2=>fin _ (by rw[en,h2];simp)⟩
  rw[show decide (ofL s=str [109,97,120])=decide (s=wMax)from q0c s wMax]
  refine q09.2 ⟨fun h3=>⟨0,hbox2.at,0,hbox2.at,?_⟩,fun h3=>fin _ (by rw[en,h3];simp)⟩
  show cnd true _ _
  rw[q1c]
  exact⟨⟨none,0,0⟩,hbox2.at,fin _ oz⟩
 | op o a b iha ihb =>
  intro c deep k pb w0 w K hx hf hb hr hk hd hK
  obtain⟨ca,cb,⟨h1,h2,h3,h4⟩,hv,hxa,hxb⟩:=hx
  obtain⟨op,n,d,nm,sa⟩:=c
  simp only at h1 h2 h3 h4 hv
  subst h1 h2 h3 h4
  refine z2l_mk (fi ?_)
  intro w1
  have m:Mem w w1 [(w.heap.size,_)]:=Mem.nil.allocL (cs:=encX ⟨ofL (opB o),0,0,ofL [],sa⟩)
  clear_value w1
  have hr1:=m.1.row hr fun h=>h
  have hlt:=hr.lt
  have hbox:=m.row 0
  refine⟨k,hr1.at,q01,hr1.wr og,?_⟩
  intro w2
  have hr2:Row w2 pb [.int .i64 ((k:Int)+1)]:=hr1.set 0 _
  have hf2:Fr (fun b=>b=pb) w1 w2:=Fr.set rfl
  have hbox2:=hf2.row hbox oo
  have hF2:Fr (fun b=>b=pb) w w2:=m.1.f0.trans hf2 fun _ h _=>h
  clear_value w2
  have e1:((k:Int)+1)=((k+1:Nat):Int):=oo
  rw[e1]at hr2
  refine q0i.2 ⟨fun h=>?_,fun h=>⟨((k+1:Nat):Int),hr2.at,q00.2 ⟨fun h'=>?_,fun h'=>?_⟩⟩⟩
  ·have e:rfBz (.op o a b) deep k=(false,k+1):=by unfold rfBz;rw[if_pos oo]
   grind
  ·have e:rfBz (.op o a b) deep k=(false,k+1):=by unfold rfBz;rw[if_pos oo]
   grind
  have e:rfBz (.op o a b) deep k=if(rfBz a (deep-1) (k+1)).1 then rfBz b (deep-1) (rfBz a (deep-1) (k+1)).2 else(false,(rfBz a (deep-1) (k+1)).2):=by
   conv=>lhs;unfold rfBz
   grind
  rw[e]at hK
  refine⟨_,hbox2.at,?_⟩
  rw[qji o,q8q o,op43 o,op45 o,op42 o,op47 o,qpo o,qpp o]
  refine qi8 ⟨fi ?_⟩ o
  simp only[q04,Jp]
  have hl2:sa.l=2:=hv.len
  have hF0:Fr F0 w0 w2:=hf.nb hF2 fun b h=>h▸hb
  refine⟨sa,hbox2.at,?_⟩
  rw[hl2]
  show cnd true _ _
  rw[q1c]
  refine⟨0,hbox2.at,0,hbox2.at,?_⟩
  show cnd true _ _
  rw[q1c]
  refine⟨_,hbox2.at,?_⟩
  have ee:decide (ofL []=str [])=true:=od
  rw[ee,q1c]
  have ed:((deep:Int)-1)=((deep-1:Nat):Int):=oo
  rw[ed]
  refine⟨sa,hbox2.at,ldX (hv.fr hF0) 0 rfl og ⟨q01,iha hxa hF0 hb hr2 oo oo fun w3 hf3 hr3=>?_⟩⟩
  have hbox3:=hf3.row hbox2 oo
  have hF3:Fr (fun b=>b=pb) w w3:=hF2.trans hf3 fun _ h _=>h
  refine q09.2 ⟨fun ht=>?_,fun hfa=>?_⟩
  ·rw[if_pos ht]at hK
   have hF03:Fr F0 w0 w3:=hf.nb hF3 fun b h=>h▸hb
   have hk3:(rfBz a (deep-1) (k+1)).2<=60:=by
    have h1:=(q67 a (deep-1) (k+1)).2 ht
    have h2:=((q67 a (deep-1) (k+1)).1.1 ht).2.2
    omega
   refine⟨sa,hbox3.at,ldX (hv.fr hF03) 1 rfl og ⟨q01,ihb hxb hF03 hb hr3 hk3 oo fun w4 hf4 hr4=>?_⟩⟩
   exact hK w4 (hF3.trans hf4 fun _ h _=>h) hr4
  ·grind
end
end Go.Proofs.YtmfkimnmklnppaaGreatDoor
namespace Pw
open Go
def q0d(c:UInt8)(l:List UInt8):List (List UInt8):=Lib.splitK [c] 0 (Lib.count l [c]) l
theorem qma{a b:List UInt8}{c:UInt8}(h:c∉a):Lib.index (a++c::b) [c]=(a.length:Nat):=by
 refine Lib.index_first og ?_ fun j hj=>?_
 ·rw[q8i];simp
 ·rw[q8i,List.getElem?_append_left hj]
  grind
theorem q5j{a:List UInt8}{c:UInt8}(h:c∉a):q0d c a=[a]:=by
 unfold q0d
 rw[Lib.count_one,J8 h]
 rfl
theorem q53{a b:List UInt8}{c:UInt8}(h:c∉a):q0d c (a++c::b)=a::q0d c b:=by
 unfold q0d
 have e:Lib.count (a++c::b) [c]=Lib.count b [c]+1:=by
  rw[Lib.count_one,Lib.count_one,List.count_append,J8 h,List.count_cons_self]
  omega
 rw[e]
 conv=>lhs;unfold Lib.splitK
 rw[qma h,if_neg og]
 simp
theorem q7f{c:UInt8}:∀ {w:List UInt8} {ps:List (List UInt8)},c∉w->(∀p∈ps,c∉p)->q0d c (w++ps.flatMap fun p=>c::p)=w::ps
 | w,[],hw,_=>by simpa using q5j hw
 | w,p::ps,hw,hp=>by
  rw[J9,List.cons_append,q53 hw,q7f (hp p og) fun q hq=>hp q (by simp[hq])]
theorem qti{n:Int}{c:UInt8}(h:c∈Lib.itoa n):c=45\/(48<=c.toNat/\c.toNat<=57):=by
 unfold Lib.itoa at h
 split at h
 ·rcases J0.1 h with h|h
  ·exact .inl h
  ·exact .inr (q62 _ _ h)
 ·exact .inr (q62 _ _ h)
theorem qbr{n:Int}{c:UInt8}(h1:c≠45)(h2:c.toNat<48\/57<c.toNat):c∉Lib.itoa n:=fun h=>by
 rcases qti h with h|h
 ·exact h1 h
 ·omega
end Pw
namespace Dp
open Go Pw
def q1e(s:B):Bool:=q2k s&&(!decide (s=wPrice) && !decide (s=wLow))
def q2n(r d:Int):B:=if r=0 then []else if(100*r/d).toNat%10=0 then [UInt8.ofNat (48+(100*r/d).toNat/10)]else [UInt8.ofNat (48+(100*r/d).toNat/10),UInt8.ofNat (48+(100*r/d).toNat%10)]
def decB(n d:Int):B:=Lib.itoa (n/d)++(if n%d=0 then []else 46::q2n (n%d) d)
def q1x(d:Int):Bool:=decide (d=1\/d=2\/d=4\/d=5\/d=10)
def lev(o:Fin 6):Nat:=match o with
 | 0=>0
 | 1=>0
 | 2=>1
 | 3=>1
 | 4=>2
 | 5=>2
def opS(o:Fin 6):B:=match o with
 | 0=>[43]
 | 1=>[45]
 | 2=>[42]
 | 3=>[47]
 | 4=>wMin
 | 5=>wMax
def parB(b:Bool)(s:B):B:=if b then 40::(s++[41])else s
def parT(b:Bool)(m:List B):List B:=if b then [40]::(m++[[41]])else m
namespace Fm
def four:Fm->Bool
 | .num n d=>q2h n d&&q1x d
 | .name s=>q2k s
 | .op o a b=>decide (lev o<2)&&(a.four&&b.four)
def shw:Fm->Nat->B
 | .num n d,_=>decB n d
 | .name s,_=>s
 | .op o a b,k=>parB (decide (lev o<k)) (a.shw (lev o)++(32::(opS o++(32::b.shw (lev o+1)))))
def toks:Fm->Nat->List B
 | .num n d,_=>[decB n d]
 | .name s,_=>[s]
 | .op o a b,k=>parT (decide (lev o<k)) (a.toks (lev o)++(opS o::b.toks (lev o+1)))
end Fm
def sep(s:B):Prop:=s=[]\/(∃r,s=32::r)\/∃r,s=41::r
inductive Tok:B->List B->Prop
 | nil:Tok [] []
 | blank {s m}:Tok s m->Tok (32::s) m
 | name {w s m}:q0w w=true->sep s->Tok s m->Tok (w++s) (w::m)
 | num {w s m}:w≠[]->(∀c∈w,q17 c=true)->sep s->Tok s m->Tok (w++s) (w::m)
 | dec {a b s m}:a≠[]->(∀c∈a,q17 c=true)->b≠[]->(∀c∈b,q17 c=true)->sep s->Tok s m->Tok (a++46::b++s) ((a++46::b)::m)
 | sym {c s m}:c∈[40,41,42,43,45,47]->Tok s m->Tok (c::s) ([c]::m)
theorem q7w{n:Int}(h:0<=n):∀c∈Lib.itoa n,q17 c=true:=fun c hc=>by
 unfold Lib.itoa at hc
 rw[if_neg oo]at hc
 have:=q62 _ c hc
 unfold q17
 grind
theorem qbs{r d:Int}(h:r≠0)(h0:0<=r)(h1:r<d):q2n r d≠[]/\∀c∈q2n r d,q17 c=true:=by
 have hq:100*r/d<100:=Int.ediv_lt_of_lt_mul oo oo
 unfold q2n
 rw[if_neg h]
 generalize hg:(100*r/d).toNat=q
 have hq':q<100:=oo
 have h1:q17 (UInt8.ofNat (48+q/10))=true:=by
  unfold q17
  rw[q1n oo]
  simp;omega
 have h2:q17 (UInt8.ofNat (48+q%10))=true:=by
  unfold q17
  rw[q1n oo]
  simp;omega
 grind
theorem qtj{n d:Int}{s:B}{m:List B}(hd:0<d)(hn:0<=n)(hs:sep s)(h:Tok s m):Tok (decB n d++s) (decB n d::m):=by
 have h1:=Int.ediv_nonneg hn (Int.le_of_lt hd)
 unfold decB
 split
 ·rw[List.append_nil]
  exact .num (q3z _) (q7w h1) hs h
 ·rename_i hr
  obtain⟨a,b⟩:=qbs hr (Int.emod_nonneg n oo) (Int.emod_lt_of_pos n hd)
  exact .dec (q3z _) (q7w h1) a b hs h
theorem q3m{n d:Int}(h:q2h n d=true):0<d/\0<=n:=by
 unfold q2h at h
 simp only[Jq,decide_eq_true_eq]at h
 exact⟨h.1.1,h.2.1⟩
theorem q1y{s:B}(h:q2k s=true):q0w s=true:=by
 unfold q2k at h
 grind
theorem qfv:∀o:Fin 6,lev o<2->∃c,opS o=[c]/\c∈([40,41,42,43,45,47]:List UInt8)
 | 0,_=>⟨43,rfl,od⟩
 | 1,_=>⟨45,rfl,od⟩
 | 2,_=>⟨42,rfl,od⟩
 | 3,_=>⟨47,rfl,od⟩
 | 4,h=>absurd h od
 | 5,h=>absurd h od
theorem qbt:∀(e:Fm) (k:Nat) {s:B} {m:List B},e.four=true->sep s->Tok s m->Tok (e.shw k++s) (e.toks k++m)
 | .num n d,_,s,m,hf,hs,h=>by
  unfold Fm.four at hf
  simp only[Jq]at hf
  have:=q3m hf.1
  exact qtj this.1 this.2 hs h
 | .name w,_,s,m,hf,hs,h=>.name (q1y hf) hs h
 | .op o a b,k,s,m,hf,hs,h=>by
  unfold Fm.four at hf
  simp only[Jq,decide_eq_true_eq]at hf
  obtain⟨ho,ha,hb⟩:=hf
  obtain⟨c,hc,hcm⟩:=qfv o ho
  have core:∀ {s:B} {m:List B},sep s->Tok s m->Tok (a.shw (lev o)++(32::(opS o++(32::b.shw (lev o+1))))++s) (a.toks (lev o)++(opS o::b.toks (lev o+1))++m):=fun {s m} hs h=>by
   have h1:=qbt b (lev o+1) hb hs h
   have h2:Tok (32::(opS o++(32::(b.shw (lev o+1)++s)))) (opS o::(b.toks (lev o+1)++m)):=by
    rw[hc]
    exact .blank (.sym hcm (.blank h1))
   have h3:=qbt a (lev o) ha (.inr (.inl ⟨_,rfl⟩)) h2
   simpa using h3
  unfold Fm.shw Fm.toks parB parT
  split
  ·have:=core (s:=41::s) (m:=[41]::m) (.inr (.inr ⟨_,rfl⟩)) (.sym od h)
   have:=Tok.sym (c:=40) od this
   simpa using this
  ·exact core hs h
inductive Ln where
 | tender (n:B)
 | lot (id most:Int)
 | crit (c:Cr)
 | req (r:Rq)
 | price (lo hi:Int)
 | form (e:Fm)
 | tie (l:List B)
 | most (n:Int)
 | combo (l:List Int)
 | budget (n:Int)
 | times (a b c d e:Int)
def q1f:B:=[116,101,110,100,101,114]
def q42:B:=[108,111,116]
def wCrit':B:=[99,114,105,116,101,114,105,111,110]
def q68:B:=[114,101,113,117,105,114,101]
def wTie:B:=[116,105,101]
def wCombo:B:=[99,111,109,98,111]
def qdk:B:=[103,114,97,100,101]
def qdl:B:=[111,102,102,101,114]
def q4m:B:=[108,101,115,115]
def q2o(k:Int):B:=if k=1 then qdk else qdl
namespace Ln
def word:Ln->B
 | .tender _=>q1f
 | .lot _ _=>q42
 | .crit _=>wCrit'
 | .req _=>q68
 | .price _ _=>wPrice
 | .form _=>q38
 | .tie _=>wTie
 | .most _=>q3l
 | .combo _=>wCombo
 | .budget _=>q1k
 | .times ..=>q2f
def args:Ln->List B
 | .tender n=>[n]
 | .lot i m=>[Lib.itoa i,q3l,Lib.itoa m]
 | .crit c=>[c.name,q2o c.kind,Lib.itoa c.low,Lib.itoa c.high]++(if c.less then [q4m]else [])
 | .req r=>[r.name,r.rel,Lib.itoa r.val]
 | .price a b=>[Lib.itoa a,Lib.itoa b]
 | .form _=>[]
 | .tie l=>l
 | .most n=>[Lib.itoa n]
 | .combo l=>l.map Lib.itoa
 | .budget n=>[Lib.itoa n]
 | .times a b c d e=>[Lib.itoa a,Lib.itoa b,Lib.itoa c,Lib.itoa d,Lib.itoa e]
def body:Ln->B
 | .form e=>32::e.shw 0
 | k=>k.args.flatMap (32 :: ·)
def line(k:Ln):B:=k.word++k.body
def app(t:Td):Ln->Td
 | .tender n=>{ t with name:=n }
 | .lot i m=>{ t with lots:=t.lots++[(i,m)] }
 | .crit c=>{ t with crit:=t.crit++[c] }
 | .req r=>{ t with reqs:=t.reqs++[r] }
 | .price a b=>{ t with low:=a,high:=b }
 | .form e=>{ t with fm:=e }
 | .tie l=>{ t with ties:=l }
 | .most n=>{ t with most:=n }
 | .combo l=>{ t with combos:=t.combos++[l] }
 | .budget n=>{ t with budget:=n }
 | .times a b c d e=>{ t with t1:=a,t2:=b,t3:=c,t4:=d,t5:=e }
def isForm:Ln->Bool
 | .form _=>true
 | _=>false
end Ln
def q0a(t:Td):List Ln:=
 .tender t.name::(t.lots.map (fun l=>Ln.lot l.1 l.2)++(t.crit.map Ln.crit++(t.reqs.map Ln.req++(.price t.low t.high :: .form t.fm ::
  ((if t.ties=[]then []else [.tie t.ties])++((if t.most=0 then []else [.most t.most])++(t.combos.map Ln.combo++[.budget t.budget,.times t.t1 t.t2 t.t3 t.t4 t.t5])))))))
def q0f(t:Td):B:=(q0a t).flatMap fun k=>k.line++[10]
def zeroT:Td:=⟨[],[],[],[],0,0,.num 0 1,[],0,[],0,0,0,0,0,0⟩
theorem qpq(l:List (Int×Int)):∀t:Td,(l.map (fun l=>Ln.lot l.1 l.2)).foldl Ln.app t={ t with lots:=t.lots++l }:=by
 induction l with
 | nil=>intro t;simp
 | cons a l ih=>intro t;rw[Jd,J1,ih];simp[Ln.app]
theorem qpr(l:List Cr):∀t:Td,(l.map Ln.crit).foldl Ln.app t={ t with crit:=t.crit++l }:=by
 induction l with
 | nil=>intro t;simp
 | cons a l ih=>intro t;rw[Jd,J1,ih];simp[Ln.app]
theorem qps(l:List Rq):∀t:Td,(l.map Ln.req).foldl Ln.app t={ t with reqs:=t.reqs++l }:=by
 induction l with
 | nil=>intro t;simp
 | cons a l ih=>intro t;rw[Jd,J1,ih];simp[Ln.app]
theorem qjj(l:List (List Int)):∀t:Td,(l.map Ln.combo).foldl Ln.app t={ t with combos:=t.combos++l }:=by
 induction l with
 | nil=>intro t;simp
 | cons a l ih=>intro t;rw[Jd,J1,ih];simp[Ln.app]
theorem qtk(t:Td):(q0a t).foldl Ln.app zeroT=t:=by
 unfold q0a
 rw[J1,J6,J6,J6,J1,J1,J6,J6,J6,J1,J1,List.foldl_nil,qpq,qpr,qps,qjj]
 have e1:∀u:Td,u.ties=[]->(if t.ties=[]then []else [Ln.tie t.ties]).foldl Ln.app u={ u with ties:=t.ties }:=fun u hu=>by
  split
  ·rename_i h;rw[h,←hu];rfl
  ·rfl
 have e2:∀u:Td,u.most=0->(if t.most=0 then []else [Ln.most t.most]).foldl Ln.app u={ u with most:=t.most }:=fun u hu=>by
  split
  ·rename_i h;rw[h,←hu];rfl
  ·rfl
 rw[e1 _ rfl,e2 _ rfl]
 simp[Ln.app,zeroT]
theorem q54(k:Ln):(32:UInt8)∉k.word/\(10:UInt8)∉k.word/\k.word≠[]:=by
 have h:k.word∈[q1f,q42,wCrit',q68,wPrice,q38,wTie,q3l,wCombo,q1k,q2f]:=by cases k<;>simp[Ln.word]
 exact(show ∀w∈[q1f,q42,wCrit',q68,wPrice,q38,wTie,q3l,wCombo,q1k,q2f],(32:UInt8)∉w/\(10:UInt8)∉w/\w≠[] by decide) _ h
def q3n(s:B):Prop:=s≠[]/\(32:UInt8)∉s/\(10:UInt8)∉s
theorem qjk{k:Ln}(hk:k.isForm=false)(h:∀s∈k.args,q3n s):q0d 32 k.line=k.word::k.args:=by
 have hw:(32:UInt8)∉k.word:=(q54 k).1
 have hb:k.body=k.args.flatMap (32 :: ·):=by cases k<;>first|rfl|cases hk
 unfold Ln.line
 rw[hb]
 exact q7f hw fun p hp=>(h p hp).2.1
theorem qag(t:Td)(h:∀k∈q0a t,(10:UInt8)∉k.line):q0d 10 (q0f t)=(q0a t).map Ln.line++[[]]:=by
 unfold q0f
 generalize q0a t=ls at h
 induction ls with
 | nil=>rfl
 | cons k ls ih =>
  rw[J9,List.append_assoc,List.singleton_append,q53 (h k og),ih fun q hq=>h q (by simp[hq])]
  rfl
open Go Pw
namespace Fm
def spine(v:Nat):Fm->Fm×List (Fin 6×Fm)
 | .num n d=>(.num n d,[])
 | .name s=>(.name s,[])
 | .op o a b=>if lev o=v then((a.spine v).1,(a.spine v).2++[(o,b)])else(.op o a b,[])
def join(x:Fm)(l:List (Fin 6×Fm)):Fm:=l.foldl (fun x p=>.op p.1 x p.2) x
theorem spine_join(v:Nat):∀e:Fm,(e.spine v).1.join (e.spine v).2=e
 | .num n d=>rfl
 | .name s=>rfl
 | .op o a b=>by
  unfold spine
  split
  ·show join _ _=_
   unfold join
   rw[J6]
   have:=spine_join v a
   unfold join at this
   grind
  ·rfl
theorem qtl{e:Fm}{v:Nat}(h:∀o a b,e=.op o a b->lev o≠v):e.toks v=e.toks (v+1):=by
 cases e with
 | num n d=>rfl
 | name s=>rfl
 | op o a b =>
  have:=h o a b rfl
  unfold toks
  rw[show decide (lev o<v)=decide (lev o<v+1) by rw[decide_eq_decide];omega]
theorem spine_toks(v:Nat):∀e:Fm,e.toks v=(e.spine v).1.toks (v+1)++(e.spine v).2.flatMap fun p=>opS p.1::p.2.toks (v+1)
 | .num n d=>by simp[spine,toks]
 | .name s=>by simp[spine,toks]
 | .op o a b=>by
  by_cases h:lev o=v
  ·have ih:=spine_toks v a
   have e1:(Fm.op o a b).spine v=((a.spine v).1,(a.spine v).2++[(o,b)]):=by
    conv=>lhs;unfold spine
    rw[if_pos h]
   rw[e1]
   conv=>lhs;unfold toks
   rw[h,show decide (v<v)=false by simp,ih]
   simp[parT]
  ·have e1:(Fm.op o a b).spine v=(.op o a b,[]):=by
    conv=>lhs;unfold spine
    rw[if_neg h]
   rw[e1]
   rw[qtl fun o' a' b' e=>by cases e;exact h]
   simp
theorem spine_four(v:Nat):∀ {e:Fm},e.four=true->(e.spine v).1.four=true/\∀p∈(e.spine v).2,p.2.four=true/\lev p.1=v
 | .num n d,h=>⟨h,fun p hp=>by cases hp⟩
 | .name s,h=>⟨h,fun p hp=>by cases hp⟩
 | .op o a b,h=>by
  have h':=h
  unfold four at h'
  simp only[Jq,decide_eq_true_eq]at h'
  unfold spine
  split
  ·rename_i he
   obtain⟨h1,h2⟩:=spine_four v h'.2.1
   grind
  ·grind
theorem join_parts:∀(l:List (Fin 6×Fm)) (x:Fm),(x.join l).parts=x.parts+(l.map fun p=>1+p.2.parts).sum
 | [],x=>by simp[join]
 | p::l,x=>by
  have:=join_parts l (.op p.1 x p.2)
  unfold join at this ⊢
  rw[J1,this]
  simp[parts];omega
theorem spine_small{v:Nat}{e:Fm}(h:∃o a b,e=.op o a b/\lev o=v):(e.spine v).1.parts<e.parts/\∀p∈(e.spine v).2,p.2.parts<e.parts:=by
 have hj:=spine_join v e
 have hp:=join_parts (e.spine v).2 (e.spine v).1
 rw[hj]at hp
 have hne:(e.spine v).2≠[]:=by
  obtain⟨o,a,b,rfl,ho⟩:=h
  unfold spine
  simp_all
 have hm:∀(l:List (Fin 6×Fm)) p,p∈l->1+p.2.parts<=(l.map fun p=>1+p.2.parts).sum:=by
  intro l
  induction l with
  | nil=>grind
  | cons a l ih=>grind
 have hpos:∀e:Fm,0<e.parts:=fun e=>by cases e<;>simp[parts]<;>omega
 constructor
 ·cases hl:(e.spine v).2 with
  | nil=>grind
  | cons p l=>grind
 ·grind
theorem spine_leaf{v:Nat}{e:Fm}(h:∀o a b,e=.op o a b->lev o≠v):e.spine v=(e,[]):=by
 cases e with
 | num n d=>rfl
 | name s=>rfl
 | op o a b=>unfold spine;rw[if_neg (h o a b rfl)]
end Fm
open Go Pw
abbrev Vl:=B×Int
def q4n(o:Fin 6)(a b:Int×Int):RR:=match o with
 | 0=>addQ a.1 a.2 b.1 b.2
 | 1=>subQ a.1 a.2 b.1 b.2
 | 2=>mulQ a.1 a.2 b.1 b.2
 | 3=>quoQ a.1 a.2 b.1 b.2
 | 4=>if cmpQ a.1 a.2 b.1 b.2<=0 then⟨a.1,a.2,true⟩else⟨b.1,b.2,true⟩
 | 5=>if cmpQ a.1 a.2 b.1 b.2>=0 then⟨a.1,a.2,true⟩else⟨b.1,b.2,true⟩
def appQ(o:Fin 6)(a b:Int×Int):RR×Int:=
 if o=3/\b.1=0 then(⟨0,0,false⟩,15)else if(q4n o a b).ok=true then(q4n o a b,0)else(⟨0,0,false⟩,3)
namespace Fm
def ev(vs:List Vl):Fm->Except Int (Int×Int)
 | .num n d=>.ok (n,d)
 | .name s=>match vs.find? (fun v=>decide (v.1=s))with
  | some v=>.ok (v.2,1)
  | none=>.error 13
 | .op o a b=>match a.ev vs with
  | .error e=>.error e
  | .ok x=>match b.ev vs with
   | .error e=>.error e
   | .ok y=>if(appQ o x y).2=0 then .ok ((appQ o x y).1.n,(appQ o x y).1.d)else .error (appQ o x y).2
def formed:Fm->Bool
 | .num n d=>decide (q0k n d)
 | .name s=>!decide (s=[])
 | .op _ a b=>a.formed&&b.formed
def wrong(e:Fm):Int:=if e.parts<=60/\e.depth<=12 then(if e.formed then 0 else 1)else 2
def evE(vs:List Vl)(e:Fm):(Int×Int)×Int:=if e.wrong=0 then(match e.ev vs with
 | .ok x=>(x,0)
 | .error c=>((0,0),c))else((0,0),e.wrong)
end Fm
structure En where
 b:Int
 l:Int
 r:Int
 p:Int
 v:Sl
 vals:List Vl
def valF(vs:List Vl)(n:B):Option Int:=(vs.find? (fun v=>decide (v.1=n))).map (·.2)
def valN(vs:List Vl)(n:B):Nat:=vs.countP (fun v=>decide (v.1=n))
def badC(vs:List Vl)(c:Cr):Bool:=!decide (valN vs c.name=1)||(decide ((valF vs c.name).getD 0<c.low)||decide ((valF vs c.name).getD 0>c.high))
def wLe:B:=[60,61]
def wGe:B:=[62,61]
def q4o(vs:List Vl):List Rq->Int
 | []=>0
 | r::rs=>if valN vs r.name=0 then 13 else if r.rel≠wLe/\r.rel≠wGe then 1
  else if(r.rel=wLe/\(valF vs r.name).getD 0>r.val)\/(r.rel=wGe/\(valF vs r.name).getD 0<r.val)then 37 else q4o vs rs
structure Rv where
 most:Int
 low:Int
 high:Int
 crit:List Cr
 reqs:List Rq
 fm:Fm
 ties:List B
def admQ(t:Rv)(x:En):Int:=
 if x.p<t.low then 16 else if x.p>min t.high t.most then 16
 else if t.crit.any (badC x.vals)then 16
 else if x.vals.any (fun v=>!t.crit.any (fun c=>decide (c.name=v.1)))then 13
 else q4o x.vals t.reqs
def ptsQ(t:Rv)(x:En)(low:Int):(Int×Int)×Int:=t.fm.evE ((wPrice,x.p)::(wLow,low)::x.vals)
def tieQ(t:Rv)(n:B)(a b:En):Int:=
 if n=wPrice then cmpI b.p a.p else match t.crit.find? (fun c=>decide (c.name=n))with
  | none=>0
  | some c=>match valF a.vals n,valF b.vals n with
   | some x,some y=>(if c.less then -1 else 1)*cmpI x y
   | _,_=>0
def qbu(t:Rv)(a b:En):List B->Bool
 | []=>decide (a.r<b.r)
 | n::ns=>if tieQ t n a b≠0 then decide (tieQ t n a b>0)else qbu t a b ns
def betQ(t:Rv)(a b:En)(p q:Int×Int):Bool:=if cmpQ p.1 p.2 q.1 q.2≠0 then decide (cmpQ p.1 p.2 q.1 q.2>0)else qbu t a b t.ties
abbrev Sc:=En×Int×Int
def cmpS(t:Rv)(x y:Sc):Int:=if betQ t x.1 y.1 x.2 y.2 then -1 else if betQ t y.1 x.1 y.2 x.2 then 1 else 0
def sink{α:Type}(c:α->α->Int)(l:List α):Nat->List α
 | 0=>l
 | j+1=>match l[j]?,l[j+1]? with
  | some x,some y=>if c y x<0 then sink c ((l.set (j+1) x).set j y) j else l
  | _,_=>l
def q39{α:Type}(c:α->α->Int)(l:List α):Nat->List α
 | 0=>l
 | i+1=>sink c (q39 c l i) i
structure Rk where
 b:Int
 n:Int
 d:Int
 place:Int
 out:Int
def lowS(t:Rv)(s:Int×Bool)(x:En):Int×Bool:=if admQ t x=0/\(s.2=false\/x.p<s.1)then(x.p,true)else s
def lowQ(t:Rv)(es:List En):Int×Bool:=es.foldl (lowS t) (0,false)
def ptsA(t:Rv)(low:Int)(x:En):(Int×Int)×Int:=if admQ t x=0 then ptsQ t x low else((0,0),admQ t x)
def splS(t:Rv)(low:Int)(s:List Sc×List Rk)(x:En):List Sc×List Rk:=
 if(ptsA t low x).2≠0 then(s.1,s.2++[⟨x.b,0,0,0,(ptsA t low x).2⟩])else(s.1++[(x,(ptsA t low x).1)],s.2)
def splQ(t:Rv)(low:Int)(es:List En):List Sc×List Rk:=es.foldl (splS t low) ([],[])
def q2a:Nat->List Sc->List Rk
 | _,[]=>[]
 | k,x::l=>⟨x.1.b,x.2.1,x.2.2,(k:Int)+1,0⟩::q2a (k+1) l
def q2d(t:Rv)(es:List En):List Rk:=
 q2a 0 (q39 (cmpS t) (splQ t (lowQ t es).1 es).1 (splQ t (lowQ t es).1 es).1.length)++(splQ t (lowQ t es).1 es).2
def q0e(t:Td)(lot:Int):Rv:=⟨((t.lots.find? (fun l=>decide (l.1=lot))).map (·.2)).getD 0,t.low,t.high,t.crit,t.reqs,t.fm,t.ties⟩
theorem q8r{α:Type}(c:α->α->Int):∀(j:Nat) (l:List α),(sink c l j).length=l.length
 | 0,_=>rfl
 | j+1,l=>by
  unfold sink
  split
  ·split
   ·rw[q8r c j];simp
   ·rfl
  ·rfl
theorem q4p{α:Type}(c:α->α->Int)(l:List α):∀i,(q39 c l i).length=l.length
 | 0=>rfl
 | i+1=>by unfold q39;rw[q8r,q4p c l i]
open Go Pw
def Nr(D M:Nat)(q:Rat):Prop:=∃k:Int,q=mkRat k D/\k.natAbs<=M*D
theorem Nr.fit{D M:Nat}{q:Rat}(h:Nr D M q)(hD:0<D)(hM:(M+1)*D<4611686018427387904):fitQ q=⟨q.num,q.den,true⟩:=by
 obtain⟨k,rfl,hk⟩:=h
 have h1:(mkRat k D).num.natAbs<=k.natAbs:=by
  rw[Rat.num_mkRat,if_neg oo]
  exact Int.natAbs_ediv_le_natAbs _ _
 have h2:(mkRat k D).den<=D:=by
  rw[Rat.den_mkRat,if_neg oo]
  exact Nat.div_le_self _ _
 have h3:(M+1)*D=M*D+D:=Nat.succ_mul M D
 unfold fitQ
 grind
theorem Nr.add{D M M':Nat}{p q:Rat}(hD:0<D)(h:Nr D M p)(h':Nr D M' q):Nr D (M+M') (p+q):=by
 obtain⟨k,rfl,hk⟩:=h
 obtain⟨j,rfl,hj⟩:=h'
 refine⟨k+j,?_,?_⟩
 ·rw[Rat.mkRat_add_mkRat _ _ oo oo,←Int.add_mul,Rat.mkRat_mul_right oo]
 ·grind
theorem Nr.neg{D M:Nat}{q:Rat}(h:Nr D M q):Nr D M (-q):=by
 obtain⟨k,rfl,hk⟩:=h
 exact⟨-k,by rw[Rat.neg_mkRat],oo⟩
theorem Nr.sub{D M M':Nat}{p q:Rat}(hD:0<D)(h:Nr D M p)(h':Nr D M' q):Nr D (M+M') (p-q):=by
 rw[Rat.sub_eq_add_neg]
 exact h.add hD h'.neg
theorem Nr.mulI{D M V:Nat}{q:Rat}{v:Int}(h:Nr D M q)(hv:v.natAbs<=V):Nr D (M*V) (q*mkRat v 1):=by
 obtain⟨k,rfl,hk⟩:=h
 refine⟨k*v,?_,?_⟩
 ·simp_all
 ·rw[Int.natAbs_mul]
  calc k.natAbs*v.natAbs<=(M*D)*V:=Jk hk hv
   _=M*V*D:=oz
theorem Nr.of{D d M:Nat}{n:Int}(hD:0<D)(hd:d∣D)(hn:n.natAbs<=M*d):Nr D M (mkRat n d):=by
 obtain⟨c,rfl⟩:=hd
 have hc:c≠0:=fun h=>oz
 refine⟨n*c,?_,?_⟩
 ·rw[Rat.mkRat_mul_right hc]
 ·rw[Int.natAbs_mul,←Nat.mul_assoc]
  exact Jl _ hn
theorem Nr.mono{D M M':Nat}{q:Rat}(h:Nr D M q)(hM:M<=M'):Nr D M' q:=by
 obtain⟨k,e,hk⟩:=h
 exact⟨k,e,Nat.le_trans hk (Jl _ hM)⟩
def Gv(vs:List Vl)(D M:Nat)(e:Fm)(q:Rat):Prop:=e.ev vs=.ok (q.num,(q.den:Int))/\Nr D M q
theorem qtm{o:Fin 6}{p q r:Rat}{D M:Nat}(hq:q4n o (p.num,p.den) (q.num,q.den)=fitQ r)(ho:o=3->q.num≠0)(hr:Nr D M r)(hD:0<D)(hM:(M+1)*D<4611686018427387904) :
  appQ o (p.num,(p.den:Int)) (q.num,(q.den:Int))=(⟨r.num,r.den,true⟩,0):=by
 unfold appQ
 rw[if_neg fun h=>ho h.1 h.2,hq,hr.fit hD hM,if_pos rfl]
theorem Gv.op{vs:List Vl}{o:Fin 6}{a b:Fm}{p q r:Rat}{D M M1 M2:Nat}(ha:Gv vs D M1 a p)(hb:Gv vs D M2 b q)(hq:q4n o (p.num,p.den) (q.num,q.den)=fitQ r)(ho:o=3->q.num≠0)
  (hr:Nr D M r) (hD:0<D) (hM:(M+1)*D<4611686018427387904):Gv vs D M (.op o a b) r:=by
 refine⟨?_,hr⟩
 unfold Fm.ev
 rw[ha.1]
 dsimp only
 rw[hb.1]
 dsimp only
 rw[qtm hq ho hr hD hM,if_pos rfl]
theorem Gv.add{vs:List Vl}{a b:Fm}{p q:Rat}{D M M':Nat}(ha:Gv vs D M a p)(hb:Gv vs D M' b q)(hD:0<D)(hM:(M+M'+1)*D<4611686018427387904):Gv vs D (M+M') (.op 0 a b) (p+q):=
 ha.op hb (by show addQ _ _ _ _=_;unfold addQ;rw[if_pos ⟨q07 p,q07 q⟩,q0j,q0j]) (fun h=>by cases h) (ha.2.add hD hb.2) hD hM
theorem Gv.sub{vs:List Vl}{a b:Fm}{p q:Rat}{D M M':Nat}(ha:Gv vs D M a p)(hb:Gv vs D M' b q)(hD:0<D)(hM:(M+M'+1)*D<4611686018427387904):Gv vs D (M+M') (.op 1 a b) (p-q):=
 ha.op hb (by show subQ _ _ _ _=_;unfold subQ;rw[if_pos ⟨q07 p,q07 q⟩,q0j,q0j]) (fun h=>by cases h) (ha.2.sub hD hb.2) hD hM
theorem Gv.mul{vs:List Vl}{a b:Fm}{p q:Rat}{D M M1 M2:Nat}(ha:Gv vs D M1 a p)(hb:Gv vs D M2 b q)(hr:Nr D M (p*q))(hD:0<D)(hM:(M+1)*D<4611686018427387904):Gv vs D M (.op 2 a b) (p*q):=
 ha.op hb (by show mulQ _ _ _ _=_;unfold mulQ;rw[if_pos ⟨q07 p,q07 q⟩,q0j,q0j]) (fun h=>by cases h) hr hD hM
theorem Gv.quo{vs:List Vl}{a b:Fm}{p q:Rat}{D M M1 M2:Nat}(ha:Gv vs D M1 a p)(hb:Gv vs D M2 b q)(h0:q.num≠0)(hr:Nr D M (p/q))(hD:0<D)(hM:(M+1)*D<4611686018427387904):Gv vs D M (.op 3 a b) (p/q):=
 ha.op hb (by show quoQ _ _ _ _=_;unfold quoQ;rw[if_pos ⟨q07 p,q07 q⟩,if_neg h0,q0j,q0j]) (fun _=>h0) hr hD hM
theorem q2b(v:Int):(mkRat v 1).num=v/\(mkRat v 1).den=1:=by
 constructor
 ·rw[Rat.num_mkRat];simp
 ·rw[Rat.den_mkRat];simp
theorem Gv.num{vs:List Vl}{n d:Int}{D M:Nat}(hr:q0k n d)(hD:0<D)(hd:d.toNat∣D)(hn:n.natAbs<=M*d.toNat):Gv vs D M (.num n d) (val n d):=by
 refine⟨?_,Nr.of hD hd hn⟩
 unfold Fm.ev
 rw[q3g hr,q4i hr]
theorem Gv.name{vs:List Vl}{s:B}{v:Vl}{D M:Nat}(hf:vs.find? (fun v=>decide (v.1=s))=some v)(hD:0<D)(hv:v.2.natAbs<=M):Gv vs D M (.name s) (mkRat v.2 1):=by
 refine⟨?_,Nr.of hD (Jm D) oo⟩
 unfold Fm.ev
 rw[hf,(q2b v.2).1,(q2b v.2).2]
 rfl
structure FC where
 kind:Int
 low:Int
 high:Int
 less:Bool
 n:Int
 d:Int
 req:Option (Bool×Int)
structure FP where
 low:Int
 high:Int
 budget:Int
 most:Int
 lots:List Int
 k:Int
 cs:List FC
 combo:Bool
 t1:Int
 t2:Int
 t3:Int
 t4:Int
 t5:Int
def wSpeed:B:=[115,112,101,101,100]
def q1h:B:=[99,111,109,102,111,114,116]
def qtn:B:=[119,101,105,103,104,116]
def q1q:List B:=[wSpeed,q1h,qtn]
structure FC.Ok(c:FC):Prop where
 kind:c.kind=1\/c.kind=2
 low:0<=c.low/\c.low<=2
 high:c.low<=c.high/\c.high<=c.low+19
 n:1<=c.n/\c.n<=9
 num:q2h c.n c.d=true
 d:q1x c.d=true
 req:∀r,c.req=some r->c.kind=2/\0<=r.2/\r.2<=9
structure FP.Ok(p:FP):Prop where
 low:0<=p.low/\p.low<=39
 high:p.low<p.high/\p.high<=p.low+500
 budget:100<=p.budget/\p.budget<=2099
 most:0<=p.most/\p.most<=2
 lots:1<=p.lots.length/\p.lots.length<=3
 lot:∀m∈p.lots,p.low<=m/\m<=p.low+519
 k:1<=p.k/\p.k<=9
 cs:p.cs.length<=3
 c:∀c∈p.cs,c.Ok
 combo:p.combo=true->2<=p.lots.length
 t1:10<=p.t1/\p.t1<=14
 t2:p.t1<p.t2/\p.t2<=p.t1+5
 t3:p.t2<p.t3/\p.t3<=p.t2+5
 t4:p.t3<p.t4/\p.t4<=p.t3+5
 t5:1<=p.t5/\p.t5<=10
def fm0(k h:Int):Fm:=.op 2 (.num k 1) (.op 3 (.op 1 (.num h 1) (.name wPrice)) (.num h 1))
def fmS(e:Fm)(c:FC×B):Fm:=.op (if c.1.less then 1 else 0) e (.op 2 (.num c.1.n c.1.d) (.name c.2))
def FP.crits(p:FP):List (FC×B):=p.cs.zip q1q
def FP.fm(p:FP):Fm:=p.crits.foldl fmS (fm0 p.k p.high)
def idsL:Nat->List Int->List (Int×Int)
 | _,[]=>[]
 | i,m::l=>(1+2*(i:Int),m)::idsL (i+1) l
def crOf(c:FC×B):Cr:=⟨c.2,c.1.kind,c.1.low,c.1.high,c.1.less⟩
def rqOf(c:FC×B):Option Rq:=c.1.req.map fun r=>⟨c.2,if r.1 then wGe else wLe,r.2⟩
def q05(p:FP):Td:=
 ⟨[116],idsL 0 p.lots,p.crits.map crOf,p.crits.filterMap rqOf,p.low,p.high,p.fm,wPrice::p.crits.map (·.2),p.most,if p.combo then [[1,3]]else [],p.budget,p.t1,p.t2,p.t3,p.t4,p.t5⟩
def sumC(vs:List Vl):Rat->List (FC×B)->Rat
 | q,[]=>q
 | q,c::l=>sumC vs (if c.1.less then q-val c.1.n c.1.d*mkRat ((valF vs c.2).getD 0) 1 else q+val c.1.n c.1.d*mkRat ((valF vs c.2).getD 0) 1) l
def q7g(k h x:Int):Rat:=mkRat k 1*(mkRat (h-x) 1/mkRat h 1)
theorem qah{d:Int}{H:Nat}(h:q1x d=true):d.toNat∣20*H/\0<d/\d<=10:=by
 unfold q1x at h
 simp only[decide_eq_true_eq]at h
 have h20:d.toNat∣20/\0<d/\d<=10:=by
  rcases h with rfl|rfl|rfl|rfl|rfl<;>decide
 grind
theorem qmb{vs:List Vl}{s:B}{v:Vl}(h:vs.find? (fun v=>decide (v.1=s))=some v):(valF vs s).getD 0=v.2:=by
 unfold valF;rw[h];rfl
theorem qfw{vs:List Vl}{H c4:Nat}(hc4:c4=400)(hH:0<H)(hH':H<=1000):∀(l:List (FC×B)) {e:Fm} {q:Rat} {M:Nat},Gv vs (20*H) M e q->M+c4*l.length<=10000 ->
  (∀c∈l,c.1.Ok/\∃v,vs.find? (fun v=>decide (v.1=c.2))=some v/\v.2.natAbs<=30)->∃M',Gv vs (20*H) M' (l.foldl fmS e) (sumC vs q l)/\M'<=M+c4*l.length
 | [],e,q,M,h,_,_=>⟨M,h,og⟩
 | c::l,e,q,M,h,hM,hc=>by
  obtain⟨ok,v,hv,hv30⟩:=hc c og
  obtain⟨hd,hd0,hd10⟩:=qah (H:=H) ok.d
  have hD:0<20*H:=oo
  rw[J4,Jn]at hM
  have hr:q0k c.1.n c.1.d:=by
   have:=ok.num
   unfold q2h at this
   grind
  have hn:=ok.n
  have g1:Gv vs (20*H) 9 (.num c.1.n c.1.d) (val c.1.n c.1.d):=Gv.num hr hD hd oo
  have g2:Gv vs (20*H) 30 (.name c.2) (mkRat v.2 1):=Gv.name hv hD hv30
  have hb:∀k,k<=10000->(k+1)*(20*H)<4611686018427387904:=fun k hk=>by
   calc (k+1)*(20*H)<=10001*(20*1000):=Jk oo oo
    _<4611686018427387904:=od
  have g3:Gv vs (20*H) c4 (.op 2 (.num c.1.n c.1.d) (.name c.2)) (val c.1.n c.1.d*mkRat v.2 1):=g1.mul g2 ((g1.2.mulI hv30).mono oo) hD (hb c4 oo)
  have e0:=qmb hv
  rw[J1]
  unfold sumC fmS
  rw[e0]
  cases hless:c.1.less with
  | true =>
   simp only[if_true]
   obtain⟨M',h1,h2⟩:=qfw hc4 hH hH' l (h.sub g3 hD (hb (M+c4) oo)) oo fun c hc'=>hc c (by simp[hc'])
   exact⟨M',h1,by rw[J4,Jn];omega⟩
  | false =>
   simp only[Jt,if_false]
   obtain⟨M',h1,h2⟩:=qfw hc4 hH hH' l (h.add g3 hD (hb (M+c4) oo)) oo fun c hc'=>hc c (by simp[hc'])
   exact⟨M',h1,by rw[J4,Jn];omega⟩
theorem qdm{h x:Int}(hh:0<h):mkRat (h-x) 1/mkRat h 1=mkRat (h-x) h.toNat:=by
 have:(h.toNat:Int)=h:=oo
 have e1:((h.toNat:Nat):Rat)=(h:Rat):=by
  rw[←Rat.intCast_natCast,this]
 rw[Rat.mkRat_eq_div,Rat.mkRat_eq_div,Rat.mkRat_eq_div,e1]
 grind
theorem fm0_ev{vs:List Vl}{k h:Int}{v:Vl}(hk:1<=k/\k<=9)(hh:0<h/\h<=1000)(hv:vs.find? (fun v=>decide (v.1=wPrice))=some v)(h0:0<=v.2)(h1:v.2<=h) :
  Gv vs (20*h.toNat) 9 (fm0 k h) (q7g k h v.2):=by
 have hD:0<20*h.toNat:=oo
 have hb:∀M,M<=10000->(M+1)*(20*h.toNat)<4611686018427387904:=fun M hM=>by
  calc (M+1)*(20*h.toNat)<=10001*(20*1000):=Jk oo oo
   _<4611686018427387904:=od
 have i1:∀n:Int,q0k n 1:=fun n=>⟨od,og⟩
 have g1:Gv vs (20*h.toNat) 1000 (.num h 1) (mkRat h 1):=Gv.num (i1 h) hD (Jm _) oy
 have g2:Gv vs (20*h.toNat) 1000 (.name wPrice) (mkRat v.2 1):=Gv.name hv hD oo
 have g3:=g1.sub g2 hD (hb _ oo)
 have e3:mkRat h 1-mkRat v.2 1=mkRat (h-v.2) 1:=by
  rw[Rat.sub_eq_add_neg,Rat.neg_mkRat,Rat.mkRat_add_mkRat _ _ od od]
  congr 1
  omega
 rw[e3]at g3
 have g4:Gv vs (20*h.toNat) 1 (.op 3 (.op 1 (.num h 1) (.name wPrice)) (.num h 1)) (mkRat (h-v.2) 1/mkRat h 1):=g3.quo g1 (by rw[(q2b h).1];omega) (by
  rw[qdm hh.1]
  exact Nr.of hD (Jo _ _) oo) hD (hb _ oo)
 have g5:Gv vs (20*h.toNat) 9 (.num k 1) (mkRat k 1):=Gv.num (i1 k) hD (Jm _) oy
 refine g5.mul g4 ?_ hD (hb _ oo)
 have:=g4.2.mulI (v:=k) (V:=9) oo
 grind
def inN(lo n:Int):Prop:=lo<=n/\n<=1000000000
def Ln.Ok(t:Td)(sn:List B):Ln->Prop
 | .tender n=>q0w n=true/\q1f∉sn
 | .lot i m=>inN 1 i/\inN 0 m/\(∀l∈t.lots,l.1≠i)/\t.lots.length<12
 | .crit c=>q1e c.name=true/\(∀d∈t.crit,d.name≠c.name)/\(c.kind=1\/c.kind=2)/\inN 0 c.low/\inN 0 c.high/\t.crit.length<12
 | .req r=>q1e r.name=true/\(r.rel=wLe\/r.rel=wGe)/\inN 0 r.val/\t.reqs.length<24
 | .price a b=>inN 0 a/\inN 0 b/\wPrice∉sn
 | .form e=>e.four=true/\e.parts<=60/\e.depth<=12/\q38∉sn
 | .tie l=>l≠[]/\(∀s∈l,s=wPrice\/q1e s=true)/\l.Nodup/\l.length<=12/\t.ties=[]/\wTie∉sn
 | .most n=>inN 0 n/\q3l∉sn
 | .combo l=>2<=l.length/\l.length<=12/\(∀n∈l,inN 1 n)/\l.Nodup/\t.combos.length<12
 | .budget n=>inN 0 n/\q1k∉sn
 | .times a b c d e=>inN 0 a/\inN 0 b/\inN 0 c/\inN 0 d/\inN 0 e/\q2f∉sn
def okLs:Td->List B->List Ln->Prop
 | _,_,[]=>True
 | t,sn,k::ks=>k.Ok t sn/\okLs (k.app t) (k.word::sn) ks
structure q0m(t:Td):Prop where
 name:q0w t.name=true
 lots:1<=t.lots.length/\t.lots.length<=12
 lotN:∀l∈t.lots,inN 1 l.1/\inN 0 l.2
 lotD:t.lots.Pairwise fun a b=>a.1≠b.1
 crit:t.crit.length<=12
 critN:∀c∈t.crit,q1e c.name=true/\(c.kind=1\/c.kind=2)/\inN 0 c.low/\inN 0 c.high
 critD:t.crit.Pairwise fun a b=>a.name≠b.name
 reqs:t.reqs.length<=24
 reqN:∀r∈t.reqs,q1e r.name=true/\(r.rel=wLe\/r.rel=wGe)/\inN 0 r.val
 fm:t.fm.four=true/\t.fm.parts<=60/\t.fm.depth<=12
 ties:t.ties.length<=12
 tieN:∀s∈t.ties,s=wPrice\/q1e s=true
 tieD:t.ties.Nodup
 combos:t.combos.length<=12
 comboN:∀l∈t.combos,2<=l.length/\l.length<=12/\(∀n∈l,inN 1 n)/\l.Nodup
 low:inN 0 t.low
 high:inN 0 t.high
 most:inN 0 t.most
 budget:inN 0 t.budget
 t1:inN 0 t.t1
 t2:inN 0 t.t2
 t3:inN 0 t.t3
 t4:inN 0 t.t4
 t5:inN 0 t.t5
theorem qdn{rest:List Ln}:∀(l:List (Int×Int)) (t:Td) (sn:List B),t.lots.length+l.length<=12->(∀x∈l,inN 1 x.1/\inN 0 x.2)->(t.lots++l).Pairwise (fun a b=>a.1≠b.1) ->
  okLs { t with lots:=t.lots++l } ((l.map fun _=>q42).reverse++sn) rest->okLs t sn (l.map (fun l=>Ln.lot l.1 l.2)++rest)
 | [],t,sn,_,_,_,h=>by simpa using h
 | a::l,t,sn,hl,hn,hp,h=>by
  rw[J4]at hl
  refine⟨⟨(hn a og).1,(hn a og).2,fun x hx=>(Je.1 hp).2.2 x hx a og,oo⟩,?_⟩
  refine qdn l _ _ (by simp[Ln.app];omega) (fun x hx=>hn x (by simp[hx])) (by simpa [Ln.app]using hp) ?_
  simpa [Ln.app,Ln.word]using h
theorem qdo{rest:List Ln}:∀(l:List Cr) (t:Td) (sn:List B),t.crit.length+l.length<=12->(∀c∈l,q1e c.name=true/\(c.kind=1\/c.kind=2)/\inN 0 c.low/\inN 0 c.high)->(t.crit++l).Pairwise (fun a b=>a.name≠b.name) ->
  okLs { t with crit:=t.crit++l } ((l.map fun _=>wCrit').reverse++sn) rest->okLs t sn (l.map Ln.crit++rest)
 | [],t,sn,_,_,_,h=>by simpa using h
 | a::l,t,sn,hl,hn,hp,h=>by
  rw[J4]at hl
  obtain⟨h1,h2,h3,h4⟩:=hn a og
  refine⟨⟨h1,fun x hx=>(Je.1 hp).2.2 x hx a og,h2,h3,h4,oo⟩,?_⟩
  refine qdo l _ _ (by simp[Ln.app];omega) (fun x hx=>hn x (by simp[hx])) (by simpa [Ln.app]using hp) ?_
  simpa [Ln.app,Ln.word]using h
theorem qdp{rest:List Ln}:∀(l:List Rq) (t:Td) (sn:List B),t.reqs.length+l.length<=24->(∀r∈l,q1e r.name=true/\(r.rel=wLe\/r.rel=wGe)/\inN 0 r.val) ->
  okLs { t with reqs:=t.reqs++l } ((l.map fun _=>q68).reverse++sn) rest->okLs t sn (l.map Ln.req++rest)
 | [],t,sn,_,_,h=>by simpa using h
 | a::l,t,sn,hl,hn,h=>by
  rw[J4]at hl
  obtain⟨h1,h2,h3⟩:=hn a og
  refine⟨⟨h1,h2,h3,oo⟩,?_⟩
  refine qdp l _ _ (by simp[Ln.app];omega) (fun x hx=>hn x (by simp[hx])) ?_
  simpa [Ln.app,Ln.word]using h
theorem q8s{rest:List Ln}:∀(l:List (List Int)) (t:Td) (sn:List B),t.combos.length+l.length<=12->(∀l'∈l,2<=l'.length/\l'.length<=12/\(∀n∈l',inN 1 n)/\l'.Nodup) ->
  okLs { t with combos:=t.combos++l } ((l.map fun _=>wCombo).reverse++sn) rest->okLs t sn (l.map Ln.combo++rest)
 | [],t,sn,_,_,h=>by simpa using h
 | a::l,t,sn,hl,hn,h=>by
  rw[J4]at hl
  obtain⟨h1,h2,h3,h4⟩:=hn a og
  refine⟨⟨h1,h2,h3,h4,oo⟩,?_⟩
  refine q8s l _ _ (by simp[Ln.app];omega) (fun x hx=>hn x (by simp[hx])) ?_
  simpa [Ln.app,Ln.word]using h
theorem qpt{t:Td}(h:q0m t):okLs zeroT [] (q0a t):=by
 unfold q0a
 refine⟨⟨h.name,og⟩,?_⟩
 refine qdn _ _ _ (by simpa [Ln.app,zeroT]using h.lots.2) h.lotN (by simpa [Ln.app,zeroT]using h.lotD) ?_
 refine qdo _ _ _ (by simpa [Ln.app,zeroT]using h.crit) h.critN (by simpa [Ln.app,zeroT]using h.critD) ?_
 refine qdp _ _ _ (by simpa [Ln.app,zeroT]using h.reqs) h.reqN ?_
 have nm:∀(s:B),s≠q68->s≠wCrit'->s≠q42->s≠q1f ->
   s∉(t.reqs.map fun _=>q68).reverse++((t.crit.map fun _=>wCrit').reverse++((t.lots.map fun _=>q42).reverse++[q1f])):=fun s h1 h2 h3 h4 hm=>by
  simp only[Jh,List.mem_reverse,J5]at hm
  rcases hm with hm|hm|hm|hm
  ·grind
  ·grind
  ·grind
  ·exact h4 hm
 refine⟨⟨h.low,h.high,nm wPrice od od od od⟩,⟨h.fm.1,h.fm.2.1,h.fm.2.2,?_⟩,?_⟩
 ·intro hm
  rcases J0.1 hm with hm|hm
  ·exact absurd (show q38=wPrice from hm) od
  ·exact nm q38 od od od od hm
 have n2:∀s,s≠q38->s≠wPrice->s≠q68->s≠wCrit'->s≠q42->s≠q1f ->
   s∉q38::wPrice::((t.reqs.map fun _=>q68).reverse++((t.crit.map fun _=>wCrit').reverse++((t.lots.map fun _=>q42).reverse++[q1f]))):=fun s a b c d e f hm=>by
  rcases J0.1 hm with hm|hm
  ·exact a hm
  rcases J0.1 hm with hm|hm
  ·exact b hm
  exact nm s c d e f hm
 have tail:∀(u:Td) (sn:List B),u.combos=[]->(∀s∈[q3l,q1k,q2f],s∉sn)->okLs u sn ((if t.most=0 then []else [Ln.most t.most])++(t.combos.map Ln.combo++[.budget t.budget,.times t.t1 t.t2 t.t3 t.t4 t.t5])):=fun u sn hu hs=>by
  have t2:∀(u:Td) (sn:List B),u.combos=[]->(∀s∈[q1k,q2f],s∉sn)->okLs u sn (t.combos.map Ln.combo++[.budget t.budget,.times t.t1 t.t2 t.t3 t.t4 t.t5]):=fun u sn hu hs=>by
   refine q8s _ _ _ (by rw[hu];simpa using h.combos) h.comboN ?_
   have n3:∀s,s≠wCombo->s∉sn->s∉(t.combos.map fun _=>wCombo).reverse++sn:=fun s h1 h2 hm=>oz
   refine⟨⟨h.budget,n3 _ od (hs _ og)⟩,⟨h.t1,h.t2,h.t3,h.t4,h.t5,fun hm=>?_⟩,trivial⟩
   rcases J0.1 hm with hm|hm
   ·exact absurd (show q2f=q1k from hm) od
   ·exact n3 _ od (hs _ og) hm
  split
  ·grind
  ·refine⟨⟨h.most,hs _ og⟩,t2 _ _ hu fun s hs' hm=>?_⟩
   have hs0:s≠q3l:=fun e=>by
    subst e
    exact absurd hs' od
   rcases J0.1 hm with hm|hm
   ·exact hs0 hm
   ·grind
 have f3:∀s∈[wTie,q3l,q1k,q2f],s≠q38/\s≠wPrice/\s≠q68/\s≠wCrit'/\s≠q42/\s≠q1f:=od
 have f0:=fun s (hs:s∈[wTie,q3l,q1k,q2f])=>n2 s (f3 s hs).1 (f3 s hs).2.1 (f3 s hs).2.2.1 (f3 s hs).2.2.2.1 (f3 s hs).2.2.2.2.1 (f3 s hs).2.2.2.2.2
 split
 ·exact tail _ _ rfl fun s hs=>f0 s oz
 ·rename_i hne
  refine⟨⟨hne,h.tieN,h.tieD,h.ties,rfl,f0 _ og⟩,tail _ _ rfl fun s hs hm=>?_⟩
  rcases J0.1 hm with hm|hm
  ·rw[show s=wTie from hm]at hs
   exact absurd hs od
  ·exact f0 s oz hm
theorem q1z:∀n∈q1q,q1e n=true/\n≠wPrice/\n≠wLow:=od
theorem qdq:q1q.Nodup:=od
theorem q0p{p:FP}{c:FC×B}(h:c∈p.crits):c.1∈p.cs/\c.2∈q1q:=by
 have:=List.of_mem_zip h
 exact this
theorem qfx{p:FP}(h:p.Ok):p.crits.map (·.2)=q1q.take p.cs.length:=by
 have hc:=h.cs
 have g:∀(l:List FC) (m:List B),l.length<=m.length->(l.zip m).map (·.2)=m.take l.length:=by
  intro l
  induction l with
  | nil=>intro m _;simp
  | cons a l ih =>
   intro m hm
   cases m with
   | nil=>simp at hm
   | cons b m=>simp_all
 exact g _ _ (by show _<=3;omega)
theorem q8t{p:FP}(h:p.Ok):(p.crits.map (·.2)).Nodup:=by
 rw[qfx h]
 exact qdq.sublist (List.take_sublist _ _)
theorem q69:∀ {l:List Int} {i:Nat} {x:Int×Int},x∈idsL i l->x.2∈l/\1+2*(i:Int)<=x.1/\x.1<1+2*((i+l.length:Nat):Int)
 | m::l,i,x,h=>by
  rcases J0.1 h with rfl|h
  ·grind
  ·obtain⟨a,b,c⟩:=q69 h
   grind
theorem q43:∀(l:List Int) (i:Nat),(idsL i l).length=l.length
 | [],_=>rfl
 | m::l,i=>by simp[idsL,q43 l]
theorem qai:∀(l:List Int) (i:Nat),(idsL i l).Pairwise fun a b=>a.1≠b.1
 | [],_=>Jj.nil
 | m::l,i=>by
  refine Jj.cons (fun x hx=>?_) (qai l (i+1))
  have:=(q69 hx).2.1
  omega
theorem qmc{P:Fm->Nat->Prop}(hs:∀e k (c:FC×B),P e k->c.1.Ok->c.2∈q1q->P (fmS e c) (k+1)):∀(l:List (FC×B)) {e:Fm} {k:Nat},P e k->(∀c∈l,c.1.Ok/\c.2∈q1q)->P (l.foldl fmS e) (k+l.length)
 | [],_,_,h,_=>h
 | c::l,e,k,h,hc=>by
  have:=qmc hs l (hs e k c h (hc c og).1 (hc c og).2) fun d hd=>hc d (by simp[hd])
  grind
theorem qdr{n:Int}(h:0<=n/\n<=1000000000):q2h n 1=true/\q1x 1=true:=by
 refine⟨?_,od⟩
 unfold q2h
 simp only[Jq,decide_eq_true_eq]
 refine⟨⟨od,og⟩,h.1,od,oo⟩
theorem qmd{p:FP}(h:p.Ok):p.fm.four=true/\p.fm.parts<=60/\p.fm.depth<=12:=by
 have hk:=h.k
 have hl:=h.low
 have hh:=h.high
 have hlen:p.crits.length<=3:=by
  unfold FP.crits
  rw[Ji]
  have:=h.cs
  omega
 have base:(fm0 p.k p.high).four=true/\(fm0 p.k p.high).parts=7+4*0/\(fm0 p.k p.high).depth<=4+0:=by
  have a:=qdr (n:=p.k) oo
  have b:=qdr (n:=p.high) oo
  refine⟨?_,by simp[fm0,Fm.parts],by simp[fm0,Fm.depth]⟩
  have e:q2k wPrice=true:=od
  simp[fm0,Fm.four,a.1,a.2,b.1,e,lev]
 have:=qmc (P:=fun e k=>e.four=true/\e.parts=7+4*k/\e.depth<=4+k) (fun e k c hP ho hn=>by
  obtain⟨h1,h2,h3⟩:=hP
  have hw:=(q1z _ hn).1
  unfold q1e at hw
  simp only[Jq]at hw
  have hd:=ho.d
  refine⟨?_,?_,?_⟩
  ·unfold fmS
   split<;>simp[Fm.four,h1,ho.num,hd,hw.1,lev]
  ·unfold fmS
   simp[Fm.parts,h2];omega
  ·unfold fmS
   simp only[Fm.depth]
   omega) p.crits base fun c hc=>⟨h.c _ (q0p hc).1,(q0p hc).2⟩
 unfold FP.fm
 grind
theorem qbv{l:List Cr}(hn:l.Pairwise fun a b=>a.name≠b.name){c:Cr}(hc:c∈l):l.find? (fun x=>decide (x.name=c.name))=some c:=by
 induction l with
 | nil=>cases hc
 | cons a l ih =>
  rw[List.pairwise_cons]at hn
  grind
theorem q3o{p:FP}(h:p.Ok):(q05 p).crit.Pairwise fun a b=>a.name≠b.name:=by
 have:=q8t h
 unfold List.Nodup at this
 rw[Jg]at this
 show(p.crits.map crOf).Pairwise _
 rw[Jg]
 exact this
theorem q6a{p:FP}(h:p.Ok):p.crits.length<=3:=by
 unfold FP.crits
 rw[Ji]
 have:=h.cs
 omega
theorem q55{p:FP}(h:p.Ok):q0m (q05 p):=by
 have hlow:=h.low
 have hhigh:=h.high
 have hlots:=h.lots
 have hl3:=q6a h
 have hb:=h.budget
 have hm:=h.most
 have g1:=h.t1
 have g2:=h.t2
 have g3:=h.t3
 have g4:=h.t4
 have g5:=h.t5
 have hname:∀c∈p.crits,q1e c.2=true:=fun c hc=>(q1z _ (q0p hc).2).1
 refine⟨by show q0w [116]=true;decide,?_,?_,qai _ _,?_,?_,q3o h,?_,?_,qmd h,?_,?_,?_,?_,?_,?_,?_,?_,?_,?_,?_,?_,?_,?_⟩
 ·show 1<=(idsL 0 p.lots).length/\(idsL 0 p.lots).length<=12
  rw[q43];omega
 ·intro l hl
  obtain⟨a,b,c⟩:=q69 hl
  have hm:=h.lot _ a
  have:((0+p.lots.length:Nat):Int)<=3:=oo
  exact⟨⟨oo,oo⟩,⟨oo,oo⟩⟩
 ·show(p.crits.map crOf).length<=12
  grind
 ·intro c hc
  obtain⟨x,hx,rfl⟩:=J3.1 hc
  have ok:=h.c _ (q0p hx).1
  have k1:=ok.low
  have k2:=ok.high
  exact⟨hname x hx,ok.kind,⟨k1.1,by show x.1.low<=_;omega⟩,⟨by show 0<=x.1.high;omega,by show x.1.high<=_;omega⟩⟩
 ·show(p.crits.filterMap rqOf).length<=24
  grind
 ·intro r hr
  obtain⟨x,hx,e⟩:=Jc.1 hr
  unfold rqOf at e
  cases hq:x.1.req with
  | none=>grind
  | some q =>
   rw[hq]at e
   cases e
   have k:=(h.c _ (q0p hx).1).req q hq
   refine⟨hname x hx,?_,⟨k.2.1,by show q.2<=_;omega⟩⟩
   grind
 ·show(wPrice::p.crits.map (·.2)).length<=12
  grind
 ·intro s hs
  rcases J0.1 hs with rfl|hs
  ·exact .inl rfl
  ·grind
 ·show(wPrice::p.crits.map (·.2)).Nodup
  rw[List.nodup_cons]
  refine⟨fun hc=>?_,q8t h⟩
  obtain⟨x,hx,e⟩:=J3.1 hc
  exact(q1z _ (q0p hx).2).2.1 e
 ·show(if p.combo then [[1,3]]else([]:List (List Int))).length<=12
  split<;>decide
 ·intro l hl
  replace hl:l∈(if p.combo then [[1,3]]else([]:List (List Int))):=hl
  split at hl
  ·rw[J5]at hl
   subst hl
   refine⟨od,od,fun n hn=>?_,od⟩
   simp only[J0,J2,or_false]at hn
   rcases hn with rfl|rfl<;>exact⟨od,od⟩
  ·cases hl
 ·exact⟨hlow.1,by show p.low<=_;omega⟩
 ·exact⟨by show 0<=p.high;omega,by show p.high<=_;omega⟩
 ·exact⟨hm.1,by show p.most<=_;omega⟩
 ·exact⟨by show 0<=p.budget;omega,by show p.budget<=_;omega⟩
 ·exact⟨by show 0<=p.t1;omega,by show p.t1<=_;omega⟩
 ·exact⟨by show 0<=p.t2;omega,by show p.t2<=_;omega⟩
 ·exact⟨by show 0<=p.t3;omega,by show p.t3<=_;omega⟩
 ·exact⟨by show 0<=p.t4;omega,by show p.t4<=_;omega⟩
 ·exact⟨by show 0<=p.t5;omega,by show p.t5<=_;omega⟩
theorem q32{n:Int}(h:0<=n/\n<=1000000000):(Lib.itoa n).length<=21:=Lib.itoa_length_le n oo oo
theorem shw_len:∀(e:Fm) (k:Nat),e.four=true->(e.shw k).length<=30*e.parts
 | .num n d,_,h=>by
  unfold Fm.four at h
  simp only[Jq]at h
  obtain⟨h1,_⟩:=h
  unfold q2h at h1
  simp only[Jq,decide_eq_true_eq]at h1
  obtain⟨hr,h0,_,hm⟩:=h1
  have h1:0<d:=hr.1
  have q1:0<=n/d:=Int.ediv_nonneg h0 oo
  have q2:n/d<=1000000000:=Int.ediv_le_of_le_mul h1 hm
  have:=q32 ⟨q1,q2⟩
  show(decB n d).length<=30*1
  unfold decB
  split
  ·simp;omega
  ·have:(q2n (n%d) d).length<=2:=by
    unfold q2n
    grind
   simp;omega
 | .name s,_,h=>by
  have:=q1y h
  show s.length<=30*1
  unfold q0w at this
  grind
 | .op o a b,k,h=>by
  unfold Fm.four at h
  simp only[Jq,decide_eq_true_eq]at h
  obtain⟨ho,ha,hb⟩:=h
  have h1:=shw_len a (lev o) ha
  have h2:=shw_len b (lev o+1) hb
  obtain⟨c,hc,_⟩:=qfv o ho
  show(parB _ _).length<=30*(1+a.parts+b.parts)
  unfold parB
  grind
theorem q44{ls:List Ln}(h:∀k∈ls,k.line.length<=130):(ls.flatMap fun k=>k.line++[10]).length<=131*ls.length:=by
 induction ls with
 | nil=>simp
 | cons a l ih=>grind
theorem qse:∀(l:List B),(l.flatMap (32 :: ·)).length=l.length+(l.map List.length).sum
 | []=>rfl
 | a::l=>by
  rw[J9,Jf,qse l]
  simp;omega
theorem qpu{p:FP}(h:p.Ok):(q0f (q05 p)).length<=4000:=by
 have hR:=q55 h
 have hl3:=q6a h
 have hlots:=h.lots
 have hn3:∀c∈p.crits,c.2.length<=7:=fun c hc=>(show ∀n∈q1q,n.length<=7 by decide) _ (q0p hc).2
 unfold q0f q0a
 have bt:(Ln.line (.tender (q05 p).name)).length<=130:=by show(Ln.line (.tender [116])).length<=130;decide +kernel
 have bl:=q44 (ls:=(q05 p).lots.map fun l=>Ln.lot l.1 l.2) fun k hk=>by
  obtain⟨l,hl,rfl⟩:=J3.1 hk
  obtain⟨a,b⟩:=hR.lotN l hl
  have h1:=q32 (n:=l.1) ⟨by have:=a.1;omega,a.2⟩
  have h2:=q32 b
  simp[Ln.line,Ln.word,Ln.body,Ln.args,q42,q3l];omega
 have bc:=q44 (ls:=(q05 p).crit.map Ln.crit) fun k hk=>by
  obtain⟨c,hc,rfl⟩:=J3.1 hk
  obtain⟨x,hx,rfl⟩:=J3.1 hc
  obtain⟨_,_,a,b⟩:=hR.critN _ hc
  have h1:=q32 a
  have h2:=q32 b
  have h3:(crOf x).name.length<=7:=hn3 x hx
  have h4:(q2o (crOf x).kind).length<=5:=by unfold q2o;split<;>decide
  simp only[Ln.line,Ln.word,Ln.body,Ln.args,wCrit',q4m]
  split<;>simp<;>omega
 have br:=q44 (ls:=(q05 p).reqs.map Ln.req) fun k hk=>by
  obtain⟨r,hr,rfl⟩:=J3.1 hk
  obtain⟨_,hrel,a⟩:=hR.reqN r hr
  obtain⟨x,hx,e⟩:=Jc.1 hr
  have h1:=q32 a
  have h3:r.name.length<=7:=by
   unfold rqOf at e
   cases hq:x.1.req with
   | none=>grind
   | some q=>grind
  have h4:r.rel.length<=2:=by rcases hrel with e|e<;>rw[e]<;>decide
  simp[Ln.line,Ln.word,Ln.body,Ln.args,q68];omega
 have bp:(Ln.line (.price (q05 p).low (q05 p).high)).length<=130:=by
  have h1:=q32 hR.low
  have h2:=q32 hR.high
  simp[Ln.line,Ln.word,Ln.body,Ln.args,wPrice];omega
 have bf:(Ln.line (.form (q05 p).fm)).length<=1808:=by
  have h1:=shw_len (q05 p).fm 0 hR.fm.1
  have h2:=hR.fm.2.1
  simp[Ln.line,Ln.word,Ln.body,q38];omega
 have bi:=q44 (ls:=if(q05 p).ties=[]then []else [Ln.tie (q05 p).ties]) fun k hk=>by
  split at hk
  ·cases hk
  rw[J5]at hk
  subst hk
  have:((wPrice::p.crits.map (·.2)).map List.length).sum<=7*(wPrice::p.crits.map (·.2)).length:=by
   have g:∀l:List B,(∀s∈l,s.length<=7)->(l.map List.length).sum<=7*l.length:=by
    intro l
    induction l with
    | nil=>intro _;simp
    | cons a l ih=>grind
   refine g _ fun s hs=>?_
   rcases J0.1 hs with rfl|hs
   ·decide
   ·grind
  have e:(Ln.tie (q05 p).ties).line.length=3+((wPrice::p.crits.map (·.2)).length+((wPrice::p.crits.map (·.2)).map List.length).sum):=by
   rw[←qse]
   simp[Ln.line,Ln.word,Ln.body,Ln.args,wTie,q05];omega
  rw[J4,Jb]at this
  rw[e,J4,Jb]
  omega
 have bm:=q44 (ls:=if(q05 p).most=0 then []else [Ln.most (q05 p).most]) fun k hk=>by
  split at hk
  ·cases hk
  rw[J5]at hk
  subst hk
  have h1:=q32 hR.most
  simp[Ln.line,Ln.word,Ln.body,Ln.args,q3l];omega
 have bo:=q44 (ls:=(q05 p).combos.map Ln.combo) fun k hk=>by
  obtain⟨l,hl,rfl⟩:=J3.1 hk
  replace hl:l∈(if p.combo then [[1,3]]else([]:List (List Int))):=hl
  split at hl
  ·rw[J5]at hl
   subst hl
   decide +kernel
  ·cases hl
 have bb:=q44 (ls:=[Ln.budget (q05 p).budget,.times (q05 p).t1 (q05 p).t2 (q05 p).t3 (q05 p).t4 (q05 p).t5]) fun k hk=>by
  simp only[J0,J2,or_false]at hk
  rcases hk with rfl|rfl
  ·have h1:=q32 hR.budget
   simp[Ln.line,Ln.word,Ln.body,Ln.args,q1k];omega
  ·have h1:=q32 hR.t1
   have h2:=q32 hR.t2
   have h3:=q32 hR.t3
   have h4:=q32 hR.t4
   have h5:=q32 hR.t5
   simp[Ln.line,Ln.word,Ln.body,Ln.args,q2f];omega
 have n1:(q05 p).lots.length<=3:=by show(idsL 0 p.lots).length<=3;rw[q43];omega
 have n2:(q05 p).crit.length<=3:=by show(p.crits.map crOf).length<=3;rw[Jb];omega
 have n3:(q05 p).reqs.length<=3:=by
  show(p.crits.filterMap rqOf).length<=3
  grind
 have n4:(q05 p).combos.length<=1:=by
  show(if p.combo then [[1,3]]else([]:List (List Int))).length<=1
  split<;>decide
 have n5:(if(q05 p).ties=[]then []else [Ln.tie (q05 p).ties]).length<=1:=by split<;>simp
 have n6:(if(q05 p).most=0 then []else [Ln.most (q05 p).most]).length<=1:=by split<;>simp
 rw[Jb]at bl bc br bo
 simp only[J9,List.flatMap_append,Jf,List.length_singleton]at bl bc br bi bm bo bb ⊢
 grind
def bndQ(t:Td)(s:B):Option (Int×Int):=if s=wPrice\/s=wLow then some (t.low,t.high)else(t.crit.find? (fun c=>decide (c.name=s))).map fun c=>(c.low,c.high)
def qjl(o:Fin 6)(a b:Int×Bool):Option (Int×Bool):=
 if o=2 then some (a.1+b.1,false)else if o=3 then(if b.2=true/\a.1=1 then some (0,false)else some (a.1-b.1,false))
 else if a.2 then some (b.1,false)else if b.2=true\/a.1=b.1 then some (a.1,false)else none
def q3h(t:Td):Fm->Option (Int×Bool)
 | .num _ _=>some (0,true)
 | .name s=>(bndQ t s).map fun _=>(if s=wPrice\/s=wLow then 1 else 0,false)
 | .op o a b=>match q3h t a with
  | none=>none
  | some p=>match q3h t b with
   | none=>none
   | some q=>qjl o p q
def minQ:List Rat->Rat
 | []=>0
 | a::l=>l.foldl (fun m x=>if x<m then x else m) a
def maxQ:List Rat->Rat
 | []=>0
 | a::l=>l.foldl (fun m x=>if m<x then x else m) a
def corn(o:Fin 6)(a b:Rat×Rat):List Rat:=match o with
 | 0=>[a.1+b.1,a.2+b.2]
 | 1=>[a.1-b.2,a.2-b.1]
 | 2=>[a.1*b.1,a.1*b.2,a.2*b.1,a.2*b.2]
 | 3=>[a.1/b.1,a.1/b.2,a.2/b.1,a.2/b.2]
 | _=>[]
def ropQ(o:Fin 6)(a b:Rat×Rat):Option (Rat×Rat):=
 if lev o=2 then none else if o=3/\b.1.num<=0/\0<=b.2.num then none else if(corn o a b).all (fun q=>(fitQ q).ok)then some (minQ (corn o a b),maxQ (corn o a b))else none
def q0s(t:Td):Fm->Option (Rat×Rat)
 | .num n d=>some (val n d,val n d)
 | .name s=>match bndQ t s with
  | none=>none
  | some x=>if x.1>x.2 then none else some (mkRat x.1 1,mkRat x.2 1)
 | .op o a b=>match q0s t a with
  | none=>none
  | some x=>match q0s t b with
   | none=>none
   | some y=>ropQ o x y
def orT(a b:Bool×Bool):Bool×Bool:=(a.1||b.1,a.2||b.2)
def revT(a:Bool×Bool):Bool×Bool:=(a.2,a.1)
def noT:Bool×Bool:=(false,false)
def trop(o:Fin 6)(x y:Bool×Bool)(f s:Rat×Rat):Bool×Bool:=
 if o=1 then orT x (revT y)
 else if o=2/\0<=f.1.num/\0<=s.1.num then orT x y
 else if o=2/\(x=noT/\0<=f.1.num\/y=noT/\0<=s.1.num)then orT x y
 else if o=2/\(x=noT/\f.2.num<=0\/y=noT/\s.2.num<=0)then revT (orT x y)
 else if o=2 then(true,true)
 else if o=3/\0<s.1.num/\(y=noT\/0<=f.1.num)then orT x (revT y)
 else if o=3 then(true,true)
 else orT x y
def trQ(t:Td)(s:B):Fm->Bool×Bool
 | .num _ _=>noT
 | .name n=>(decide (n=s),false)
 | .op o a b=>if orT (trQ t s a) (trQ t s b)=noT then noT else trop o (trQ t s a) (trQ t s b) ((q0s t a).getD (0,0)) ((q0s t b).getD (0,0))
def q45(t:Td):Bool:=!(trQ t wPrice t.fm).1&&t.crit.all fun c=>if c.less then !(trQ t c.name t.fm).1 else !(trQ t c.name t.fm).2
def q3d(t:Td):Bool:=(!decide (t.low<t.high)||decide (wPrice∈t.ties))&&t.crit.all fun c=>!decide (c.low<c.high)||decide (c.name∈t.ties)
structure ChkT(t:Td):Prop where
 cr:∀c∈t.crit,c.low<=c.high
 lh:t.low<=t.high
 lot:∀l∈t.lots,t.low<=l.2
 rq:∀r∈t.reqs,∃c,t.crit.find? (fun c=>decide (c.name=r.name))=some c/\c.kind=2
 unit:∃b,q3h t t.fm=some (0,b)
 rg:(q0s t t.fm).isSome=true
 tie:∀s∈t.ties,(bndQ t s).isSome=true/\s≠wLow
 combo:∀l∈t.combos,∀i∈l,∃m∈t.lots,m.1=i
 t12:t.t1<=t.t2
 t23:t.t2<=t.t3
 t34:t.t3<=t.t4
theorem qfy:∀(l:List Rat) (a:Rat),l.foldl (fun m x=>if x<m then x else m) a∈a::l
 | [],a=>og
 | x::l,a=>by
  rw[J1]
  have:=qfy l (if x<a then x else a)
  grind
theorem qfz:∀(l:List Rat) (a:Rat),l.foldl (fun m x=>if m<x then x else m) a∈a::l
 | [],a=>og
 | x::l,a=>by
  rw[J1]
  have:=qfz l (if a<x then x else a)
  grind
theorem qbw{l:List Rat}(h:l≠[]):minQ l∈l:=by
 cases l with
 | nil=>grind
 | cons a l=>exact qfy l a
theorem qbx{l:List Rat}(h:l≠[]):maxQ l∈l:=by
 cases l with
 | nil=>grind
 | cons a l=>exact qfz l a
def Rg(t:Td)(D M:Nat)(e:Fm):Prop:=∃x,q0s t e=some x/\Nr D M x.1/\Nr D M x.2
theorem Rg.op{t:Td}{o:Fin 6}{a b:Fm}{x y:Rat×Rat}{D M:Nat}(ha:q0s t a=some x)(hb:q0s t b=some y)(ho:lev o≠2)(h3:o=3->¬(y.1.num<=0/\0<=y.2.num))
  (hc:∀q∈corn o x y,Nr D M q) (hD:0<D) (hM:(M+1)*D<4611686018427387904):Rg t D M (.op o a b):=by
 have hne:corn o x y≠[]:=by
  match o,ho with
  | 0,_=>simp[corn]
  | 1,_=>simp[corn]
  | 2,_=>simp[corn]
  | 3,_=>simp[corn]
  | 4,h=>exact absurd rfl h
  | 5,h=>exact absurd rfl h
 refine⟨(minQ (corn o x y),maxQ (corn o x y)),?_,hc _ (qbw hne),hc _ (qbx hne)⟩
 unfold q0s
 rw[ha]
 dsimp only
 rw[hb]
 dsimp only
 unfold ropQ
 rw[if_neg ho,if_neg fun h=>h3 h.1 h.2,if_pos]
 rw[Ja]
 intro q hq
 rw[(hc q hq).fit hD hM]
theorem rg_ex{t:Td}{o:Fin 6}{a b:Fm}{x y:Rat×Rat}{D M:Nat}(ha:q0s t a=some x)(hb:q0s t b=some y)(ho:lev o≠2)(h3:o=3->¬(y.1.num<=0/\0<=y.2.num))
  (hc:∀q∈corn o x y,Nr D M q) (hD:0<D) (hM:(M+1)*D<4611686018427387904):∃z,q0s t (.op o a b)=some z/\z.1∈corn o x y/\z.2∈corn o x y:=by
 have hne:corn o x y≠[]:=by
  match o,ho with
  | 0,_=>simp[corn]
  | 1,_=>simp[corn]
  | 2,_=>simp[corn]
  | 3,_=>simp[corn]
  | 4,h=>exact absurd rfl h
  | 5,h=>exact absurd rfl h
 refine⟨(minQ (corn o x y),maxQ (corn o x y)),?_,qbw hne,qbx hne⟩
 unfold q0s
 rw[ha]
 dsimp only
 rw[hb]
 dsimp only
 unfold ropQ
 rw[if_neg ho,if_neg fun h=>h3 h.1 h.2,if_pos]
 rw[Ja]
 intro q hq
 rw[(hc q hq).fit hD hM]
theorem qby{p:FP}(h:p.Ok){c:FC×B}(hc:c∈p.crits):bndQ (q05 p) c.2=some (c.1.low,c.1.high):=by
 have hn:=(q1z _ (q0p hc).2).2
 unfold bndQ
 rw[if_neg oz]
 have h1:crOf c∈(q05 p).crit:=J3.2 ⟨c,hc,rfl⟩
 have h2:=qbv (q3o h) h1
 rw[show(crOf c).name=c.2 from rfl]at h2
 rw[h2]
 rfl
theorem q8u(t:Td):bndQ t wPrice=some (t.low,t.high):=by unfold bndQ;rw[if_pos (.inl rfl)]
theorem q6y{p:FP}{P:Nat->Fm->Prop}(hs:∀e k,∀c∈p.crits,P k e->P (k+1) (fmS e c)):∀(l:List (FC×B)),(∀c∈l,c∈p.crits)->∀ {e:Fm} {k:Nat},P k e->P (k+l.length) (l.foldl fmS e)
 | [],_,_,_,h=>h
 | c::l,hl,e,k,h=>by
  have:=q6y hs l (fun c hc=>hl c (by simp[hc])) (hs e k c (hl c og) h)
  grind
theorem qme{p:FP}(h:p.Ok):q3h (q05 p) (q05 p).fm=some (0,false):=by
 refine q6y (p:=p) (P:=fun _ e=>q3h (q05 p) e=some (0,false)) (fun e k c hc he=>?_) p.crits (fun _ h=>h) (k:=0) ?_
 ·have hn:=(q1z _ (q0p hc).2).2
  unfold fmS
  cases c.1.less<;>simp[q3h,he,qby h hc,qjl,hn.1,hn.2]
 ·simp[fm0,q3h,q8u,qjl]
theorem sub1(a b:Int):mkRat a 1-mkRat b 1=mkRat (a-b) 1:=by
 rw[Rat.sub_eq_add_neg,Rat.neg_mkRat,Rat.mkRat_add_mkRat _ _ od od]
 congr 1
 omega
theorem hb20{h:Int}(hh:0<h/\h<=1000){M:Nat}(hM:M<=10000):(M+1)*(20*h.toNat)<4611686018427387904:=by
 calc (M+1)*(20*h.toNat)<=10001*(20*1000):=Jk oo oo
  _<4611686018427387904:=od
theorem fm0_rg{t:Td}{k:Int}(hk:1<=k/\k<=9)(hh:0<t.high/\t.high<=1000)(hl:0<=t.low/\t.low<=t.high):Rg t (20*t.high.toNat) 9 (fm0 k t.high):=by
 have hD:0<20*t.high.toNat:=oo
 have r0:∀n:Int,q0s t (.num n 1)=some (mkRat n 1,mkRat n 1):=fun n=>rfl
 have r1:q0s t (.name wPrice)=some (mkRat t.low 1,mkRat t.high 1):=by
  unfold q0s
  rw[q8u]
  grind
 have I:∀v:Int,v.natAbs<=1000->Nr (20*t.high.toNat) 1000 (mkRat v 1):=fun v hv=>Nr.of hD (Jm _) oo
 obtain⟨z,e1,z1,z2⟩:=rg_ex (D:=20*t.high.toNat) (M:=1000) (o:=1) (r0 t.high) r1 od (fun h=>by cases h) (fun q hq=>by
  simp only[corn,sub1,J0,J2,or_false]at hq
  grind) hD (hb20 hh oo)
 have V:∀q∈corn 1 (mkRat t.high 1,mkRat t.high 1) (mkRat t.low 1,mkRat t.high 1),Nr (20*t.high.toNat) 1 (q/mkRat t.high 1):=fun q hq=>by
  simp only[corn,sub1,J0,J2,or_false]at hq
  rcases hq with rfl|rfl<;>rw[qdm hh.1]<;>exact Nr.of hD (Jo _ _) oo
 have v1:=V _ z1
 have v2:=V _ z2
 obtain⟨y,e2,y1,y2⟩:=rg_ex (D:=20*t.high.toNat) (M:=1) (o:=3) e1 (r0 t.high) od (fun _ h=>by rw[(q2b t.high).1]at h;omega) (fun q hq=>by
  simp only[corn,J0,J2,or_false]at hq
  grind) hD (hb20 hh oo)
 have Y:∀q∈corn 3 z (mkRat t.high 1,mkRat t.high 1),Nr (20*t.high.toNat) 9 (mkRat k 1*q):=fun q hq=>by
  have:Nr (20*t.high.toNat) 1 q:=by
   simp only[corn,J0,J2,or_false]at hq
   grind
  have:=this.mulI (v:=k) (V:=9) oo
  grind
 have y1:=Y _ y1
 have y2:=Y _ y2
 refine Rg.op (o:=2) (r0 k) e2 od (fun h=>by cases h) (fun q hq=>?_) hD (hb20 hh oo)
 simp only[corn,J0,J2,or_false]at hq
 grind
theorem q8v{n d:Int}(h:q2h n d=true):q0k n d:=by
 unfold q2h at h
 grind
theorem qto{p:FP}(h:p.Ok){c:FC×B}(hc:c∈p.crits):∃x,q0s (q05 p) (.op 2 (.num c.1.n c.1.d) (.name c.2))=some x/\Nr (20*p.high.toNat) 270 x.1/\Nr (20*p.high.toNat) 270 x.2:=by
 have ok:=h.c _ (q0p hc).1
 have k0:=h.low
 have k1:=h.high
 have k2:=ok.low
 have k3:=ok.high
 have k4:=ok.n
 have hh:0<p.high/\p.high<=1000:=oo
 have hD:0<20*p.high.toNat:=oo
 obtain⟨hd,hd0,hd10⟩:=qah (H:=p.high.toNat) ok.d
 have g1:Nr (20*p.high.toNat) 9 (val c.1.n c.1.d):=Nr.of hD hd oo
 have r1:q0s (q05 p) (.name c.2)=some (mkRat c.1.low 1,mkRat c.1.high 1):=by
  unfold q0s
  rw[qby h hc]
  grind
 have g2:∀v:Int,v.natAbs<=30->Nr (20*p.high.toNat) 270 (val c.1.n c.1.d*mkRat v 1):=fun v hv=>(g1.mulI hv).mono oo
 refine Rg.op (o:=2) (x:=(val c.1.n c.1.d,val c.1.n c.1.d)) rfl r1 od (fun h=>by cases h) (fun q hq=>?_) hD (hb20 hh oo)
 simp only[corn,J0,J2,or_false]at hq
 grind
theorem qtp{p:FP}(h:p.Ok):∀(l:List (FC×B)),(∀c∈l,c∈p.crits)->l.length<=3->Rg (q05 p) (20*p.high.toNat) (9+270*l.length) (l.foldl fmS (fm0 p.k p.high)):=by
 have k0:=h.low
 have k1:=h.high
 have hh:0<p.high/\p.high<=1000:=oo
 have hD:0<20*p.high.toNat:=oo
 intro l hl h3
 have:=q6y (p:=p) (P:=fun k e=>k<=3->Rg (q05 p) (20*p.high.toNat) (9+270*k) e) (fun e k c hc he hk=>by
  obtain⟨x,e1,x1,x2⟩:=he oo
  obtain⟨y,e2,y1,y2⟩:=qto h hc
  have hb:=hb20 hh (M:=9+270*(k+1)) oo
  unfold fmS
  cases c.1.less with
  | true =>
   refine Rg.op (o:=1) e1 e2 od (fun h=>by cases h) (fun q hq=>?_) hD hb
   simp only[corn,J0,J2,or_false]at hq
   rcases hq with rfl|rfl
   ·exact(x1.sub hD y2).mono oo
   ·exact(x2.sub hD y1).mono oo
  | false =>
   refine Rg.op (o:=0) e1 e2 od (fun h=>by cases h) (fun q hq=>?_) hD hb
   simp only[corn,J0,J2,or_false]at hq
   rcases hq with rfl|rfl
   ·exact(x1.add hD y1).mono oo
   ·exact(x2.add hD y2).mono oo) l hl (k:=0) (fun _=>fm0_rg (t:=q05 p) h.k hh ⟨h.low.1,by show p.low<=p.high;omega⟩)
 rw[Jp]at this
 exact this h3
theorem qtq{t:Td}{s m:B}{n d:Int}(hr:q0k n d)(hn:0<=n):trQ t s (.op 2 (.num n d) (.name m))=(decide (m=s),false):=by
 unfold trQ
 have e1:trQ t s (.num n d)=noT:=rfl
 have e2:trQ t s (.name m)=(decide (m=s),false):=rfl
 rw[e1,e2]
 cases decide (m=s)with
 | false=>rfl
 | true =>
  rw[if_neg od]
  have e3:q0s t (.num n d)=some (val n d,val n d):=rfl
  rw[e3]
  unfold trop
  rw[if_neg od]
  split
  ·rfl
  ·rw[if_pos ⟨rfl,.inl ⟨rfl,by show 0<=(val n d).num;rw[q3g hr];exact hn⟩⟩]
   rfl
theorem or_no{x y:Bool×Bool}(h:orT x y=noT):x=noT/\y=noT:=by
 obtain⟨a,b⟩:=x
 obtain⟨c,d⟩:=y
 revert h
 cases a<;>cases b<;>cases c<;>cases d<;>decide
theorem qtr{t:Td}{s:B}{e:Fm}{c:FC×B}(hr:q0k c.1.n c.1.d)(hn:0<=c.1.n):trQ t s (fmS e c)=if c.1.less then orT (trQ t s e) (false,decide (c.2=s))else orT (trQ t s e) (decide (c.2=s),false):=by
 have hp:=qtq (t:=t) (s:=s) (m:=c.2) hr hn
 unfold fmS
 cases c.1.less with
 | true =>
  rw[if_pos rfl,if_pos rfl]
  conv=>lhs;unfold trQ
  rw[hp]
  split
  ·rename_i hz
   obtain⟨h1,h2⟩:=or_no hz
   rw[h1]
   have:decide (c.2=s)=false:=congrArg Prod.fst h2
   grind
  ·unfold trop
   rw[if_pos rfl]
   rfl
 | false =>
  rw[if_neg od,if_neg od]
  conv=>lhs;unfold trQ
  rw[hp]
  split
  ·grind
  ·unfold trop
   grind
theorem qsf{t:Td}{s:B}{k h:Int}(hk:0<=k)(hh:0<h):trQ t s (fm0 k h)=(false,decide (wPrice=s)):=by
 have i1:∀n:Int,q0k n 1:=fun n=>⟨od,og⟩
 have e1:trQ t s (.op 1 (.num h 1) (.name wPrice))=(false,decide (wPrice=s)):=by
  unfold trQ
  rw[show trQ t s (.num h 1)=noT from rfl,show trQ t s (.name wPrice)=(decide (wPrice=s),false)from rfl]
  cases decide (wPrice=s)<;>rfl
 have e2:trQ t s (.op 3 (.op 1 (.num h 1) (.name wPrice)) (.num h 1))=(false,decide (wPrice=s)):=by
  conv=>lhs;unfold trQ
  rw[e1,show trQ t s (.num h 1)=noT from rfl]
  cases decide (wPrice=s)with
  | false=>rfl
  | true =>
   rw[if_neg od]
   unfold trop
   rw[if_neg od,if_neg oo,if_neg oo,if_neg oo,if_neg od,if_pos ⟨rfl,by show 0<(val h 1).num;rw[q3g (i1 h)];exact hh,.inl rfl⟩]
   rfl
 unfold fm0
 conv=>lhs;unfold trQ
 rw[e2,show trQ t s (.num k 1)=noT from rfl]
 cases decide (wPrice=s)with
 | false=>rfl
 | true =>
  rw[if_neg od]
  unfold trop
  rw[if_neg od]
  split
  ·rfl
  ·rw[if_pos ⟨rfl,.inl ⟨rfl,by show 0<=(val k 1).num;rw[q3g (i1 k)];exact hk⟩⟩]
   rfl
theorem qmf{p:FP}(h:p.Ok){c d:FC×B}(hc:c∈p.crits)(hd:d∈p.crits)(e:c.2=d.2):c.1.less=d.1.less:=by
 have h1:=qbv (q3o h) (c:=crOf c) (J3.2 ⟨c,hc,rfl⟩)
 have h2:=qbv (q3o h) (c:=crOf d) (J3.2 ⟨d,hd,rfl⟩)
 rw[show(crOf c).name=c.2 from rfl,e]at h1
 rw[show(crOf d).name=d.2 from rfl,h1]at h2
 have:=Option.some.inj h2
 exact congrArg Cr.less this
theorem qg0{p:FP}(h:p.Ok):q45 (q05 p)=true:=by
 have k0:=h.low
 have k1:=h.high
 have k2:=h.k
 have hst:∀ {s:B} {e:Fm},∀c∈p.crits,trQ (q05 p) s (fmS e c)=if c.1.less then orT (trQ (q05 p) s e) (false,decide (c.2=s))else orT (trQ (q05 p) s e) (decide (c.2=s),false):=fun {s e} c hc =>
  qtr (q8v (h.c _ (q0p hc).1).num) (by have:=(h.c _ (q0p hc).1).n;omega)
 unfold q45
 rw[Jq,Ja]
 refine⟨?_,fun c hc=>?_⟩
 ·rw[Bool.not_eq_true']
  refine q6y (p:=p) (P:=fun _ e=>(trQ (q05 p) wPrice e).1=false) (fun e k c hc he=>?_) p.crits (fun _ h=>h) (k:=0) ?_
  ·rw[hst c hc,decide_eq_false (q1z _ (q0p hc).2).2.1]
   split<;>simp[orT,he]
  ·rw[qsf oo oo]
 ·obtain⟨d,hd,rfl⟩:=J3.1 hc
  have hnp:decide (wPrice=(crOf d).name)=false:=decide_eq_false fun e=>(q1z _ (q0p hd).2).2.1 e.symm
  show(if d.1.less then !(trQ (q05 p) d.2 p.fm).1 else !(trQ (q05 p) d.2 p.fm).2)=true
  have fin:∀b:Bool,d.1.less=b->(if b then(trQ (q05 p) d.2 p.fm).1 else(trQ (q05 p) d.2 p.fm).2)=false:=fun b hb=>by
   refine q6y (p:=p) (P:=fun _ e=>(if b then(trQ (q05 p) d.2 e).1 else(trQ (q05 p) d.2 e).2)=false) (fun e k c hc he=>?_) p.crits (fun _ h=>h) (k:=0) ?_
   ·rw[hst c hc]
    by_cases hcd:c.2=d.2
    ·have:=qmf h hc hd hcd
     rw[hb]at this
     rw[this]
     cases b with
     | true=>simp only[if_true]at he ⊢;simp[orT,he]
     | false=>simp only[Jt,if_false]at he ⊢;simp[orT,he]
    ·rw[decide_eq_false hcd]
     cases c.1.less<;>cases b<;>simp_all [orT]
   ·rw[qsf oo oo,show decide (wPrice=d.2)=false from hnp]
    cases b<;>rfl
  grind
theorem qjm{p:FP}(_h:p.Ok):wLow∉(q05 p).fm.namesR:=by
 have:wLow∉(q05 p).fm.names:=by
  refine q6y (p:=p) (P:=fun _ e=>wLow∉e.names) (fun e k c hc he=>?_) p.crits (fun _ h=>h) (k:=0) ?_
  ·have:=(q1z _ (q0p hc).2).2.2
   simp only[fmS,Fm.names,List.nil_append,Jh,J5,not_or]
   grind
  ·simp[fm0,Fm.names];decide
 unfold Fm.namesR
 grind
theorem qds(p:FP):q3d (q05 p)=true:=by
 unfold q3d
 rw[Jq,Ja]
 refine⟨?_,fun c hc=>?_⟩
 ·rw[Ju,decide_eq_true_eq]
  exact .inr (by simp[q05])
 ·obtain⟨d,hd,rfl⟩:=J3.1 hc
  rw[Ju,decide_eq_true_eq]
  exact .inr (J0.2 (.inr (J3.2 ⟨d,hd,rfl⟩)))
theorem qpv{p:FP}(h:p.Ok):ChkT (q05 p):=by
 have k0:=h.low
 have k1:=h.high
 have k2:=h.t2
 have k3:=h.t3
 have k4:=h.t4
 refine⟨fun c hc=>?_,by show p.low<=p.high;omega,fun l hl=>?_,fun r hr=>?_,⟨false,qme h⟩,?_,fun s hs=>?_,fun l hl i hi=>?_,by show p.t1<=p.t2;omega,by show p.t2<=p.t3;omega,by show p.t3<=p.t4;omega⟩
 ·obtain⟨x,hx,rfl⟩:=J3.1 hc
  exact(h.c _ (q0p hx).1).high.1
 ·exact(h.lot _ (q69 hl).1).1
 ·obtain⟨x,hx,e⟩:=Jc.1 hr
  refine⟨crOf x,?_,?_⟩
  ·have:=qbv (q3o h) (c:=crOf x) (J3.2 ⟨x,hx,rfl⟩)
   have e2:r.name=(crOf x).name:=by
    unfold rqOf at e
    cases hq:x.1.req with
    | none=>grind
    | some q=>rw[hq]at e;cases e;rfl
   grind
  ·unfold rqOf at e
   cases hq:x.1.req with
   | none=>grind
   | some q=>exact((h.c _ (q0p hx).1).req q hq).1
 ·obtain⟨x,e,_⟩:=qtp h p.crits (fun _ h=>h) (q6a h)
  have:q0s (q05 p) (q05 p).fm=some x:=e
  rw[this]
  rfl
 ·rcases J0.1 hs with rfl|hs
  ·exact⟨by rw[q8u];rfl,od⟩
  ·obtain⟨x,hx,rfl⟩:=J3.1 hs
   exact⟨by rw[qby h hx];rfl,(q1z _ (q0p hx).2).2.2⟩
 ·replace hl:l∈(if p.combo then [[1,3]]else([]:List (List Int))):=hl
  split at hl
  ·rename_i hco
   rw[J5]at hl
   subst hl
   have h2:=h.combo hco
   have hL:∃a b r,p.lots=a::b::r:=by
    cases hp:p.lots with
    | nil=>grind
    | cons a l =>
     cases l with
     | nil=>grind
     | cons b r=>grind
   obtain⟨a,b,r,e⟩:=hL
   have e':(q05 p).lots=(1,a)::(3,b)::idsL 2 r:=by
    show idsL 0 p.lots=_
    rw[e]
    simp[idsL]
   simp only[J0,J2,or_false]at hi
   rw[e']
   rcases hi with rfl|rfl
   ·simp_all
   ·simp_all
  ·cases hl
