/- text: all kinds of lines. Conditions: none. -/
import Derived.Test.YtmfkimnmklnppaaGreatDoorHQE
import Derived.Shelf.Strings.OnBuilder
open List renaming mem_cons->J0,length_append->J1,not_mem_nil->J2,drop_eq_getElem_cons->J3,getElem?_eq_getElem->J4,length_singleton->J5,length_map->J6,mem_singleton->J7,take_of_length_le->J8,mem_append->J9,getElem?_map->Ja,getElem_mem->Jb,append_nil->Jc,length_pos_iff->Jd,pairwise_cons->Je,drop_length->Jf,mem_map->Jg,any_append->Jh,map_append->Ji,map_cons->Jj,range->Jk
open Nat renaming le_refl->Jl,lt_of_lt_of_le->Jm,le_trans->Jn,le_of_lt->Jo,zero_le->Jp
open Bool renaming and_eq_true->Jq
namespace Dp
open Go Pw
namespace Ln
def readF:Ln->Nat
 | .tender _=>135 | .lot _ _=>136 | .crit _=>138 | .req _=>140 | .price _ _=>142 | .form _=>143 | .tie _=>144 | .most _=>145 | .combo _=>146 | .budget _=>148 | .times ..=>149
def fullF:Ln->Nat
 | .lot _ _=>137 | .crit _=>139 | .req _=>141 | .combo _=>147|_=>134
def once:Ln->Bool
 | .lot _ _=>false | .crit _=>false | .req _=>false | .combo _=>false|_=>true
def kindV(k:Ln):Value:=.agg #[.func (.func k.readF) #[] #[],.bool k.once,.func (.func k.fullF) #[] #[]]
end Ln
def qu7(k:Ln)(T:List (B×Int)):Prop:=T≠[]/\(k.isForm=false->T.map (·.1)=k.word::(k.args++[[]]))
end Dp
namespace Go.Proofs.YtmfkimnmklnppaaGreatDoor
open Go Pw Dp
section
variable{w w' w0:World}{b k bt:Nat}{ts s:Sl}{tx:ByteArray}{fm:Int}{T:List (B×Int)}{x x':T43}{t t':Td}{Z:List Sl}{F:Nat->Prop}{fl:Bool}{E:List Pt}
theorem q2j{k:Ln}{m:List B}(hT:T.map (·.1)=k.word::(m++[[]])):T.length=m.length+2/\(∀j (h:j<m.length) (h':1+j<T.length),T[1+j].1=m[j])/\(∀h':1+m.length<T.length,T[1+m.length].1=[]):=by
 have hl:=congrArg List.length hT
 simp only[J6,List.length_cons,J1,List.length_nil]at hl
 have ge:∀j (h':1+j<T.length),(T.map (·.1))[1+j]?=some T[1+j].1:=fun j h'=>oz
 grind
theorem qn9{k:Ln}{sn:List B}(hk:k.Ok t sn)(h:LS w0 w b ts 1 tx fm T bt x t Z F fl E)(hT:qu7 k T)(htx:∀e,k=.form e->tx=ofL (32::e.shw 0))(hfm:0<=fm/\fm<=2^40)(g:Gm w0){K:VW}
  (hK:∀w' x' Z' F',LS w0 w' b ts (T.length-1) tx fm T bt x' (k.app t) Z' F' (fl||k.isForm) E->K (.tuple #[]) w'):q0y Tryz.prog (.func (.func k.readF) #[] #[]) [.pointer (some ⟨b,0,none⟩)] w K:=by
 obtain⟨hne,hT⟩:=hT
 cases k with
 | tender n =>
  have hT:=hT rfl
  obtain⟨hl,ha,hz⟩:=q2j hT
  have hl:T.length=3:=hl
  refine q02 z39_ok (qg4 (K:=kk [.u 0] K) h oo (ha 0 (by simp[Ln.args]) oo) hk.1 fun w' x' h'=>?_)
  have e:T.length-1=1+1:=oo
  exact hK w' x' Z F (by rw[e,show(fl||Ln.isForm (.tender n))=fl by simp[Ln.isForm]];exact h')
 | lot i m =>
  have hT:=hT rfl
  obtain⟨hl,ha,hz⟩:=q2j hT
  have hl:T.length=5:=hl
  obtain⟨h1,h2,h3,h4⟩:=hk
  refine q02 z4e_ok (qq3 (K:=kk [.u 0] K) h oo (ha 0 (by simp[Ln.args]) oo) (ha 1 (by simp[Ln.args]) oo) (ha 2 (by simp[Ln.args]) oo) h1 h2 h3 h4 fun w' x' h'=>?_)
  have e:T.length-1=1+1+1+1:=oo
  exact hK w' x' Z F (by rw[e,show(fl||Ln.isForm (.lot i m))=fl by simp[Ln.isForm]];exact h')
 | crit c =>
  have hT:=hT rfl
  obtain⟨h1,h2,h3,h4,h5,h6⟩:=hk
  have ea:(Ln.crit c).args=[c.name,q2o c.kind,Lib.itoa c.low,Lib.itoa c.high]++(if c.less then [q4m]else []):=rfl
  obtain⟨hl,ha,hz⟩:=q2j hT
  have e4:∀h':1+1+1+1+1<T.length,T[1+1+1+1+1].1=if c.less then q4m else []:=fun h'=>oz
  have hl':T.length=6+(if c.less then 1 else 0):=oz
  have hg:∀j (h:j<4) (h':1+j<T.length),T[1+j].1=[c.name,q2o c.kind,Lib.itoa c.low,Lib.itoa c.high][j]:=fun j h h'=>oz
  refine q02 z1c_ok (q9t (K:=kk [.u 0] K) (d:=c) h oo (hg 0 od oo) (hg 1 od oo) (hg 2 od oo) (hg 3 od oo) (e4 oo) h1 h3 h4 h5 h2 h6 fun w' x' h'=>?_)
  have e:T.length-1=1+4+(if c.less then 1 else 0):=oo
  exact hK w' x' Z F (by rw[e,show(fl||Ln.isForm (.crit c))=fl by simp[Ln.isForm]];exact h')
 | req d =>
  have hT:=hT rfl
  obtain⟨hl,ha,hz⟩:=q2j hT
  have hl:T.length=5:=hl
  obtain⟨h1,h2,h3,h4⟩:=hk
  refine q02 z2k_ok (qdz (K:=kk [.u 0] K) (d:=d) h oo (ha 0 (by simp[Ln.args]) oo) (ha 1 (by simp[Ln.args]) oo) (ha 2 (by simp[Ln.args]) oo) h1 h2 h3 h4 fun w' x' h'=>?_)
  have e:T.length-1=1+1+1+1:=oo
  exact hK w' x' Z F (by rw[e,show(fl||Ln.isForm (.req d))=fl by simp[Ln.isForm]];exact h')
 | price lo hi =>
  have hT:=hT rfl
  obtain⟨hl,ha,hz⟩:=q2j hT
  have hl:T.length=4:=hl
  obtain⟨h1,h2,h3⟩:=hk
  refine q02 z3o_ok (qjr (K:=kk [.u 0] K) h oo (ha 0 (by simp[Ln.args]) oo) (ha 1 (by simp[Ln.args]) oo) h1 h2 fun w' x' h'=>?_)
  have e:T.length-1=1+1+1:=oo
  exact hK w' x' Z F (by rw[e,show(fl||Ln.isForm (.price lo hi))=fl by simp[Ln.isForm]];exact h')
 | form e =>
  obtain⟨h1,h2,h3,h4⟩:=hk
  have htx:=htx e rfl
  subst htx
  refine q02 z2h_ok (qc9 (K:=kk [.u 0] K) (e:=e) h hne ⟨h1,h2,h3⟩ hfm g fun w' x' F' h'=>?_)
  exact hK w' x' Z F' (by rw[show(fl||Ln.isForm (.form e))=true by simp[Ln.isForm]];exact h')
 | tie l =>
  have hT:=hT rfl
  obtain⟨hl,ha,hz⟩:=q2j hT
  have hl:T.length=l.length+2:=hl
  obtain⟨h1,h2,h3,h4,h5,h6⟩:=hk
  refine q02 z4g_ok (qmx (K:=kk [.u 0] K) (l:=l) h oo (fun j hj=>ha j hj oo) (hz oo) h1 h2 h3 h4 h5 fun w' x' h'=>?_)
  have e:T.length-1=1+l.length:=oo
  exact hK w' x' Z F (by rw[e,show(fl||Ln.isForm (.tie l))=fl by simp[Ln.isForm]];exact h')
 | most n =>
  have hT:=hT rfl
  obtain⟨hl,ha,hz⟩:=q2j hT
  have hl:T.length=3:=hl
  refine q02 z3z_ok (qmp (K:=kk [.u 0] K) h oo (ha 0 (by simp[Ln.args]) oo) hk.1 fun w' x' h'=>?_)
  have e:T.length-1=1+1:=oo
  exact hK w' x' Z F (by rw[e,show(fl||Ln.isForm (.most n))=fl by simp[Ln.isForm]];exact h')
 | combo l =>
  have hT:=hT rfl
  obtain⟨hl,ha,hz⟩:=q2j hT
  have hl:T.length=(l.map Lib.itoa).length+2:=hl
  rw[J6]at hl
  obtain⟨h1,h2,h3,h4,h5⟩:=hk
  have hz':∀h':1+l.length<T.length,T[1+l.length].1=[]:=fun h'=>oz
  refine q02 z3l_ok (qjy (K:=kk [.u 0] K) (l:=l) h oo (fun j hj=>(ha j oo oo).trans (List.getElem_map ..)) (hz' oo) h1 h2 h3 h4 h5 fun w' x' Z' h'=>?_)
  have e:T.length-1=1+l.length:=oo
  exact hK w' x' Z' F (by rw[e,show(fl||Ln.isForm (.combo l))=fl by simp[Ln.isForm]];exact h')
 | budget n =>
  have hT:=hT rfl
  obtain⟨hl,ha,hz⟩:=q2j hT
  have hl:T.length=3:=hl
  refine q02 z37_ok (qg5 (K:=kk [.u 0] K) h oo (ha 0 (by simp[Ln.args]) oo) hk.1 fun w' x' h'=>?_)
  have e:T.length-1=1+1:=oo
  exact hK w' x' Z F (by rw[e,show(fl||Ln.isForm (.budget n))=fl by simp[Ln.isForm]];exact h')
 | times a1 a2 a3 a4 a5 =>
  have hT:=hT rfl
  obtain⟨hl,ha,hz⟩:=q2j hT
  have hl:T.length=7:=hl
  obtain⟨h1,h2,h3,h4,h5,h6⟩:=hk
  refine q02 z3p_ok (qgf (K:=kk [.u 0] K) (v:=[a1,a2,a3,a4,a5]) h rfl oo (fun j hj=>?_) (fun n hn=>?_) fun w' x' h'=>?_)
  ·match j,hj with
   | 0,_=>exact ha 0 (by simp[Ln.args]) oo
   | 1,_=>exact ha 1 (by simp[Ln.args]) oo
   | 2,_=>exact ha 2 (by simp[Ln.args]) oo
   | 3,_=>exact ha 3 (by simp[Ln.args]) oo
   | 4,_=>exact ha 4 (by simp[Ln.args]) oo
  ·grind
  have e:T.length-1=1+5:=oo
  exact hK w' x' Z F (by rw[e,show(fl||Ln.isForm (.times a1 a2 a3 a4 a5))=fl by simp[Ln.isForm]];exact h')
theorem qna{k:Ln}{sn:List B}(hk:k.Ok t sn)(h:LS w0 w b ts 0 tx fm T bt x t Z F fl E){K:VW}(hK:∀w',Fr F0 w w'->K (.bool false) w'):q0y Tryz.prog (.func (.func k.fullF) #[] #[]) [.pointer (some ⟨bt,0,none⟩)] w K:=by
 have never:q0y Tryz.prog (.func (.func 134) #[] #[]) [.pointer (some ⟨bt,0,none⟩)] w K:=q02 z55_ok ⟨hK w Fr.refl⟩
 have ne:∀ {n:Nat} {m:Int},(n:Int)<m->((n:Int)==m)=false:=fun h=>oz
 cases k with
 | lot i m =>
  have el:x.f1.l=t.lots.length:=(h.sx.get 3 rfl:Ow 2 encL w x.f1 t.lots).len
  refine q02 z56_ok ⟨nz_i ⟨x.f1,h.box.at (i:=1) rfl,?_⟩⟩
  have:=hk.2.2.2
  rw[el,ne (m:=12) oo]
  exact hK w Fr.refl
 | crit c =>
  have el:x.f2.l=t.crit.length:=(h.sx.get 4 rfl:Ow 5 encC w x.f2 t.crit).len
  refine q02 z57_ok ⟨nz_i ⟨x.f2,h.box.at (i:=2) rfl,?_⟩⟩
  have:=hk.2.2.2.2.2
  rw[el,ne (m:=12) oo]
  exact hK w Fr.refl
 | req d =>
  have el:x.f3.l=t.reqs.length:=(h.sx.get 5 rfl:Ow 3 encR w x.f3 t.reqs).len
  refine q02 z58_ok ⟨nz_i ⟨x.f3,h.box.at (i:=3) rfl,?_⟩⟩
  have:=hk.2.2.2
  rw[el,ne (m:=24) oo]
  exact hK w Fr.refl
 | combo l =>
  have el:x.f13.l=Z.length:=(h.sx.get 7 rfl:Ow 1 encZ w x.f13 Z).len
  have el2:Z.length=t.combos.length:=(h.sx.get 8 rfl:IZ w Z t.combos).1
  refine q02 z59_ok ⟨nz_i ⟨x.f13,h.box.at (i:=13) rfl,?_⟩⟩
  have:=hk.2.2.2.2
  rw[el,el2,ne (m:=12) oo]
  exact hK w Fr.refl
 | tender n=>exact never
 | price lo hi=>exact never
 | form e=>exact never
 | tie l=>exact never
 | most n=>exact never
 | budget n=>exact never
 | times a1 a2 a3 a4 a5=>exact never
theorem qk1{K:Option Nat->World->Prop}(hK:∀w' r,Fr F0 w w'->w.heap.size<=r->(∃l,Ms w' r l/\∀(k:Ln) d,q3t d (ofL k.word) l=k.kindV)->K (some r) w'):z6p_sh K w:=by
 refine⟨fi ?_⟩
 intro w1
 have m1:Ms w1 w.heap.size []:=Ms.made w
 have f1:Fr F0 w w1:=Fr.alloc
 clear_value w1
 have hr:w.heap.size<=w.heap.size:=Jl _
 generalize hrr:w.heap.size=r at *
 have go:∀ {u:World} {l:List (ByteArray×Value)} {n:ByteArray} {v:Value},Fr F0 w u->Ms u r l->Fr F0 w (u.sset r n v)/\Ms (u.sset r n v) r (sput n v l):=fun {u l n v} f m=>⟨f.trans qca fun b hb hlt=>oo,m.set n v⟩
 refine⟨⟨_,m1⟩,?_⟩
 intro w2
 obtain⟨f2,m2⟩:=go (n:=str [116,101,110,100,101,114]) (v:=Value.agg #[(Value.func (.func 135) #[] #[]),(Value.bool true),(Value.func (.func 134) #[] #[])]) f1 m1
 refine⟨⟨_,m2⟩,?_⟩
 intro w3
 obtain⟨f3,m3⟩:=go (n:=str [108,111,116]) (v:=Value.agg #[(Value.func (.func 136) #[] #[]),(Value.bool false),(Value.func (.func 137) #[] #[])]) f2 m2
 refine⟨⟨_,m3⟩,?_⟩
 intro w4
 obtain⟨f4,m4⟩:=go (n:=str [99,114,105,116,101,114,105,111,110]) (v:=Value.agg #[(Value.func (.func 138) #[] #[]),(Value.bool false),(Value.func (.func 139) #[] #[])]) f3 m3
 refine⟨⟨_,m4⟩,?_⟩
 intro w5
 obtain⟨f5,m5⟩:=go (n:=str [114,101,113,117,105,114,101]) (v:=Value.agg #[(Value.func (.func 140) #[] #[]),(Value.bool false),(Value.func (.func 141) #[] #[])]) f4 m4
 refine⟨⟨_,m5⟩,?_⟩
 intro w6
 obtain⟨f6,m6⟩:=go (n:=str [112,114,105,99,101]) (v:=Value.agg #[(Value.func (.func 142) #[] #[]),(Value.bool true),(Value.func (.func 134) #[] #[])]) f5 m5
 refine⟨⟨_,m6⟩,?_⟩
 intro w7
 obtain⟨f7,m7⟩:=go (n:=str [102,111,114,109,117,108,97]) (v:=Value.agg #[(Value.func (.func 143) #[] #[]),(Value.bool true),(Value.func (.func 134) #[] #[])]) f6 m6
 refine⟨⟨_,m7⟩,?_⟩
 intro w8
 obtain⟨f8,m8⟩:=go (n:=str [116,105,101]) (v:=Value.agg #[(Value.func (.func 144) #[] #[]),(Value.bool true),(Value.func (.func 134) #[] #[])]) f7 m7
 refine⟨⟨_,m8⟩,?_⟩
 intro w9
 obtain⟨f9,m9⟩:=go (n:=str [109,111,115,116]) (v:=Value.agg #[(Value.func (.func 145) #[] #[]),(Value.bool true),(Value.func (.func 134) #[] #[])]) f8 m8
 refine⟨⟨_,m9⟩,?_⟩
 intro w10
 obtain⟨f10,m10⟩:=go (n:=str [99,111,109,98,111]) (v:=Value.agg #[(Value.func (.func 146) #[] #[]),(Value.bool false),(Value.func (.func 147) #[] #[])]) f9 m9
 refine⟨⟨_,m10⟩,?_⟩
 intro w11
 obtain⟨f11,m11⟩:=go (n:=str [98,117,100,103,101,116]) (v:=Value.agg #[(Value.func (.func 148) #[] #[]),(Value.bool true),(Value.func (.func 134) #[] #[])]) f10 m10
 refine⟨⟨_,m11⟩,?_⟩
 intro w12
 obtain⟨f12,m12⟩:=go (n:=str [116,105,109,101,115]) (v:=Value.agg #[(Value.func (.func 149) #[] #[]),(Value.bool true),(Value.func (.func 134) #[] #[])]) f11 m11
 refine hK _ r f12 (Jl _) ⟨_,m12,fun k d=>?_⟩
 simp only[q6k]
 cases k<;>rfl
end
end Go.Proofs.YtmfkimnmklnppaaGreatDoor
namespace Dp
open Go Pw
theorem nameC{c:UInt8}(h:q14 c=true):c≠32/\c≠10:=by
 constructor<;>(rintro rfl;revert h;decide)
theorem qgm{s:B}(h:q0w s=true):q3n s:=by
 unfold q0w at h
 cases s with
 | nil=>cases h
 | cons c r =>
  simp only[Jq,List.all_eq_true]at h
  exact⟨og,fun hm=>(nameC (h.2.2 _ hm)).1 rfl,fun hm=>(nameC (h.2.2 _ hm)).2 rfl⟩
theorem qgn{s:B}(h:q1e s=true):q3n s:=by
 unfold q1e at h
 simp only[Jq]at h
 exact qgm (q1y h.1)
theorem q33(n:Int):q3n (Lib.itoa n):=⟨q3z n,qbr od (.inl od),qbr od (.inl od)⟩
theorem qnb{l:B}(h:∀c∈l,q17 c=true):(10:UInt8)∉l:=fun hm=>by
 have:=h _ hm
 revert this
 decide
theorem qgo:∀(e:Fm) (k:Nat),e.four=true->(10:UInt8)∉e.shw k
 | .num n d,_,h=>by
  unfold Fm.four at h
  simp only[Jq]at h
  have hp:=q3m h.1
  have q0:0<=n/d:=Int.ediv_nonneg hp.2 oo
  unfold Fm.shw decB
  intro hm
  rcases J9.1 hm with hm|hm
  ·exact(q33 _).2.2 hm
  ·split at hm
   ·cases hm
   ·rename_i hr
    rcases J0.1 hm with hm|hm
    ·grind
    ·exact qnb (qbs hr (Int.emod_nonneg n oo) (Int.emod_lt_of_pos n hp.1)).2 hm
 | .name s,_,h=>(qgm (q1y h)).2.2
 | .op o a b,k,h=>by
  unfold Fm.four at h
  simp only[Jq,decide_eq_true_eq]at h
  have h1:=qgo a (lev o) h.2.1
  have h2:=qgo b (lev o+1) h.2.2
  obtain⟨c,hc,hcm⟩:=qfv o h.1
  have h3:(10:UInt8)≠c:=oz
  unfold Fm.shw parB
  grind
theorem qnc{k:Ln}{t:Td}{sn:List B}(h:k.Ok t sn):(k.isForm=false->∀s∈k.args,q3n s)/\(10:UInt8)∉k.line:=by
 have ha:k.isForm=false->∀s∈k.args,q3n s:=by
  intro hf
  cases k with
  | tender n=>intro s hs;rw[J7.1 (show s∈[n]from hs)];exact qgm h.1
  | lot i m =>
   intro s hs
   simp only[Ln.args,J0,J2,or_false]at hs
   rcases hs with rfl|rfl|rfl
   ·exact q33 _
   ·exact⟨od,od,od⟩
   ·exact q33 _
  | crit c =>
   intro s hs
   simp only[Ln.args,J9,J0,J2,or_false]at hs
   rcases hs with(rfl|rfl|rfl|rfl)|hs
   ·exact qgn h.1
   ·unfold q2o;split<;>exact⟨od,od,od⟩
   ·exact q33 _
   ·exact q33 _
   ·split at hs
    ·rw[J7.1 hs];exact⟨od,od,od⟩
    ·cases hs
  | req r =>
   intro s hs
   simp only[Ln.args,J0,J2,or_false]at hs
   rcases hs with rfl|rfl|rfl
   ·exact qgn h.1
   ·rcases h.2.1 with e|e<;>rw[e]<;>exact⟨od,od,od⟩
   ·exact q33 _
  | price a b =>
   intro s hs
   simp only[Ln.args,J0,J2,or_false]at hs
   rcases hs with rfl|rfl<;>exact q33 _
  | form e=>cases hf
  | tie l =>
   intro s hs
   rcases h.2.1 s hs with rfl|hw
   ·exact⟨od,od,od⟩
   ·exact qgn hw
  | most n=>intro s hs;rw[J7.1 (show s∈[Lib.itoa n]from hs)];exact q33 _
  | combo l =>
   intro s hs
   obtain⟨n,_,rfl⟩:=Jg.1 (show s∈l.map Lib.itoa from hs)
   exact q33 _
  | budget n=>intro s hs;rw[J7.1 (show s∈[Lib.itoa n]from hs)];exact q33 _
  | times a b c d e =>
   intro s hs
   simp only[Ln.args,J0,J2,or_false]at hs
   rcases hs with rfl|rfl|rfl|rfl|rfl<;>exact q33 _
 refine⟨ha,?_⟩
 unfold Ln.line
 intro hm
 rcases J9.1 hm with hm|hm
 ·exact(q54 k).2.1 hm
 ·cases hf:k.isForm with
  | true =>
   cases k with
   | form e =>
    rcases J0.1 hm with hm|hm
    ·grind
    ·exact qgo e 0 h.1 hm
   | _=>cases hf
  | false =>
   have hb:k.body=k.args.flatMap (32 :: ·):=by cases k<;>first|rfl|cases hf
   rw[hb]at hm
   obtain⟨s,hs,hm⟩:=List.mem_flatMap.1 hm
   rcases J0.1 hm with hm|hm
   ·grind
   ·exact(ha hf s hs).2.2 hm
theorem qk2{k:Ln}{t:Td}{sn:List B}(h:k.Ok t sn):(∃q,q0d 32 k.line=k.word::q)/\(k.isForm=false->q0d 32 k.line=k.word::k.args/\(k.word::k.args).filter (fun p=>!decide (p=[]))=k.word::k.args):=by
 have hl:=(qnc h).1
 have hw:=q54 k
 cases hf:k.isForm with
 | true =>
  refine⟨?_,fun h=>by cases h⟩
  cases k with
  | form e=>exact⟨_,q53 hw.1⟩
  | _=>cases hf
 | false =>
  have hs:=qjk hf (hl hf)
  refine⟨⟨_,hs⟩,fun _=>⟨hs,?_⟩⟩
  rw[List.filter_eq_self]
  intro p hp
  rcases J0.1 hp with rfl|hp
  ·grind
  ·simpa using(hl hf p hp).1
theorem qe2:∀(i:Nat) {t:Td} {sn:List B} {L:List Ln},okLs t sn L->okLs ((L.take i).foldl Ln.app t) (((L.take i).map Ln.word).reverse++sn) (L.drop i)
 | 0,_,_,_,h=>by simpa using h
 | _+1,_,_,[],h=>by simpa using h
 | i+1,t,sn,k::L,h=>by
  have:=qe2 i h.2
  grind
end Dp
namespace Go.Proofs.YtmfkimnmklnppaaGreatDoor
open Go Pw Dp
def iSM(sm:Nat)(sn:List B):Pt:=(fun c=>c=sm,fun u=>∃lB:List (ByteArray×Bool),Ms u sm (lB.map fun p=>(p.1,Value.bool p.2))/\∀n:B,q3t false (ofL n) lB=decide (n∈sn))
def iAM(am:Nat):Pt:=(fun c=>c=am,fun u=>∃l,Ms u am l/\∀(k:Ln) d,q3t d (ofL k.word) l=k.kindV)
def iSP(sp:Sl)(P:List B):Pt:=(inB sp,fun u=>Vw 1 encB u sp P)
def zX:T43:=T43.mk (str []) (Sl.mk none 0 0) (Sl.mk none 0 0) (Sl.mk none 0 0) (0:Int) (0:Int) (str []) (0:Int) (0:Int) (str []) (Sl.mk none 0 0) (Sl.mk none 0 0) (0:Int) (Sl.mk none 0 0) (0:Int) (0:Int) (0:Int) (0:Int) (0:Int) (0:Int)
def iRow(b:Nat)(cs:List Value):Pt:=(fun c=>c=b,fun u=>Row u b cs)
theorem qe3(sm:Nat)(sn:List B):q0b (iSM sm sn).1 (iSM sm sn).2:=fun u u' he ⟨lB,h,h'⟩=>⟨lB,h.congr (he sm rfl),h'⟩
theorem qnd(am:Nat):q0b (iAM am).1 (iAM am).2:=fun u u' he ⟨l,h,h'⟩=>⟨l,h.congr (he am rfl),h'⟩
section
variable{w w' w0:World}{bt sm am t2:Nat}{sp:Sl}{x:T43}{t:Td}{Z:List Sl}{F:Nat->Prop}{fl:Bool}{E:List Pt}
theorem Sx.hdG{L:List Pt}{p:Pt}{G:Nat->Prop}(h:Sx w0 w L)(i:Nat)(hi:L[i]?=some p)(f:Fr G w w')(hG:∀b,G b->b<w0.heap.size):p.2 w':=
 h.rs i p hi w w' (fun b hb=>f.2.1 b (h.nw i p hi b hb).2 fun hg=>by have:=(h.nw i p hi b hb).1;have:=hG b hg;omega) (h.hd i p hi)
theorem qsk{G:Nat->Prop}(h:Sx w0 w (TPs bt x t Z F true E))(sc:TSc x t)(f:Fr G w w')(hG:∀b,G b->b<w0.heap.size):TP w' x t:=
 ⟨sc.name,(Sx.hdG h 1 rfl f hG:Ow 2 encL w' x.f1 t.lots).vw,(Sx.hdG h 2 rfl f hG:Ow 5 encC w' x.f2 t.crit).vw,(Sx.hdG h 3 rfl f hG:Ow 3 encR w' x.f3 t.reqs).vw,sc.low,sc.high,(Sx.hdG h 7 rfl f hG:true=true->XW F w' t.fm _) rfl |>.xp,(Sx.hdG h 4 rfl f hG:Ow 1 encB w' x.f11 t.ties).vw,sc.most,
  ⟨Z,(Sx.hdG h 5 rfl f hG:Ow 1 encZ w' x.f13 Z).vw,(Sx.hdG h 6 rfl f hG:IZ w' Z t.combos).1,(Sx.hdG h 6 rfl f hG:IZ w' Z t.combos).2⟩,sc.budget,sc.t1,sc.t2,sc.t3,sc.t4,sc.t5⟩
def TPG(w0 w:World)(x:T43)(t:Td):Prop:=∀(G:Nat->Prop) (w':World),Fr G w w'->(∀b,G b->b<w0.heap.size)->TP w' x t
abbrev PE(sm am t2:Nat)(sp:Sl)(sn P:List B):List Pt:=[iSP sp P,iAM am,iSM sm sn,iRow t2 zX.cs]
theorem qne{sn P:List B}{s_0:ByteArray}{K:T43->World->Prop}{s6:Sl}(h:Sx w0 w (TPs bt x t Z F true (PE sm am t2 sp sn P)))(sc:TSc x t)
  (h6:Vw 1 encB w s6 [q1f,q42,wPrice,q38,q1k,q2f]) (hin:∀n∈[q1f,q42,wPrice,q38,q1k,q2f],n∈sn)
  (hK:∀w',Fr F0 w0 w'->TPG w0 w' x t->K x w'):z6r_l3 s_0 ⟨t2,0,none⟩ ⟨bt,0,none⟩ sm s6 (6:Int) (0:Int) K w:=by
 have el:=h6.len
 refine⟨⟨fun j u=>∃j':Nat,j=j'/\j'<=6/\u=w,fun j _=>6-j.toNat,⟨0,rfl,oo,rfl⟩,?_⟩⟩
 rintro j u ⟨j,rfl,hj,rfl⟩
 refine fi ?_
 refine q00.2 ⟨fun hlt=>?_,fun hge=>?_⟩
 ·have hj6:j<6:=oo
  refine ldB h6 j rfl (by simpa using hj6) ?_
  obtain⟨lB,hm,hs⟩:=(h.get 10 rfl:(iSM sm sn).2 u)
  refine⟨lB,hm,?_⟩
  rw[hs,decide_eq_true (hin _ (Jb _))]
  exact q0h ⟨q01,⟨⟨rfl,rfl,rfl,rfl,rfl,rfl,trivial⟩,j+1,oo,oo,rfl⟩,uo⟩
 ·refine T43.ld_row (h.get 0 rfl:Row u bt x.cs) ?_
  refine q13 (h.get 11 rfl:Row u t2 zX.cs) (by show 0+20<=20;decide) fun w67 f67 r67=>?_
  have h':=h.upd (q:=iRow t2 x.cs) 11 rfl f67 (q0b.row _ _) r67 fun _ hb=>.inl hb
  refine T43.ld_row (h'.get 11 rfl:Row w67 t2 x.cs) ?_
  exact hK w67 h'.fr0 fun G w'' f hG=>qsk (E:=[iSP sp P,iAM am,iSM sm sn,iRow t2 x.cs]) h' sc f hG
end
section
variable{w w' w0:World}{b bt sm am t2:Nat}{sp:Sl}{x:T43}{t:Td}{Z:List Sl}{F:Nat->Prop}{fl:Bool}{E:List Pt}{q:Pt}
theorem qgp{k:Ln}{u:World}{am:Nat}(h:(iAM am).2 u):(Instr.lookup 159 (Value.map (some am)) (Value.string (ofL k.word)) true).run Tryz.prog u=.ok (.tuple #[k.kindV,.bool true]) u:=by
 obtain⟨l,hm,hl⟩:=h
 exact q9w (kt:=9) (et:=176) 159 (by kernel_rfl) (by kernel_rfl) hm (hl k)
theorem qcb{k:Ln}{sn P:List B}{ts:Sl}{T:List (B×Int)}{wb kb:Nat}{at':Int}{s_0:ByteArray}{a5:Option Nat}{l18:Sl}{i19 i20:Int}{N0:ByteArray->Addr->Addr->Nat->Option Nat->Int->Sl->Int->Int->World->Prop}{K:T43->World->Prop}
  (h:LS w0 w b ts 0 (str []) 0 T bt x t Z F fl (iRow kb [.func (.func k.readF) #[] #[],.bool k.once,.func (.func k.fullF) #[] #[]]::iRow wb [.string (ofL k.word),.int .i64 at']::PE sm am t2 sp sn P))
  (hk:k.Ok t sn) (hT:qu7 k T) (ha:0<=at'/\at'<=2^39) (hkl:k.line.length<=2^20) (hend:∀h':T.length-1<T.length,T[T.length-1].1=[]) (g:Gm w0)
  (hK:∀w' x' Z' F',Sx w0 w' (TPs bt x' (k.app t) Z' F' (fl||k.isForm) (PE sm am t2 sp (k.word::sn) P))->TSc x' (k.app t)->z6r_k2 s_0 ⟨t2,0,none⟩ ⟨bt,0,none⟩ sm a5 at' (ofL k.line) l18 i19 i20 N0 K w') :
  z6r_k1 s_0 ⟨t2,0,none⟩ ⟨bt,0,none⟩ sm a5 at' (ofL k.line) ⟨b,0,none⟩ ⟨wb,0,none⟩ ⟨kb,0,none⟩ l18 i19 i20 N0 K w:=by
 have hTl:=Jd.2 hT.1
 have hwl:k.word.length<=k.line.length:=by unfold Ln.line;rw[J1];omega
 refine⟨fi ?_⟩
 intro w38
 have h:LS w0 w38 b ts 0 (str []) 0 T bt x t Z F fl _:=h.fr Fr.drew
 clear_value w38
 refine⟨fun u=>Row u kb [.func (.func k.readF) #[] #[],.bool k.once,.func (.func k.fullF) #[] #[]],h.sx.get 10 rfl,_,fun u hu=>hu.at (i:=2) rfl,qna hk h fun w42 f42=>⟨false,rfl,?_⟩⟩
 have h:=h.fr f42
 refine q0q ⟨h.sx.get 10 rfl,_,(h.sx.get 11 rfl:Row w42 wb _).at rfl,?_⟩
 obtain⟨lB,hm,hs⟩:=(h.sx.get 14 rfl:(iSM sm sn).2 w42)
 refine⟨⟨_,hm⟩,?_⟩
 intro w46
 have h:LS w0 w46 b ts 0 (str []) 0 T bt x t Z F fl (iRow kb [.func (.func k.readF) #[] #[],.bool k.once,.func (.func k.fullF) #[] #[]]::iRow wb [.string (ofL k.word),.int .i64 at']::PE sm am t2 sp (k.word::sn) P):=
  ⟨h.sx.upd (q:=iSM sm (k.word::sn)) 14 rfl qca (qe3 _ _) ⟨sput (ofL k.word) true lB,by rw[←qhr];exact hm.set _ _,fun n=>by
   rw[q6k,hs]
   by_cases hn:k.word=n
   ·grind
   ·rw[if_neg (fun e=>hn (qlx.1 e))]
    grind⟩ fun _ hb=>.inl hb,h.sc,h.tl⟩
 clear_value w46
 refine q1g h.sca hTl h.tl fun w47 f47 h47=>?_
 have h:=h.step f47 h47
 have hwr:Row w47 wb [.string (ofL k.word),.int .i64 at']:=h.sx.get 11 rfl
 refine⟨_,hwr.at (i:=1) rfl,_,hwr.at,?_⟩
 rw[q0u]
 refine⟨q01,h.sx.wr (i:=3) 0 rfl rfl,?_⟩
 intro w51
 have h:LS w0 w51 b ts 1 (str []) (at'+(k.word.length:Int)) T bt x t Z F fl _:=⟨h.sx.set (i:=3) (v:=.int .i64 (at'+(k.word.length:Int))) 0 rfl,h.sc,h.tl⟩
 clear_value w51
 refine⟨_,h.sx.ld (i:=3) 0 rfl rfl,q01,⟨oo,by rw[q0u];omega⟩,h.sx.wr (i:=2) 0 rfl rfl,?_⟩
 rw[show(at'+(k.word.length:Int)-at').toNat=k.word.length by omega,qi3 _ _ _ (by rw[q0u];exact Jl _),show k.line.drop k.word.length=k.body by unfold Ln.line;exact List.drop_left ..]
 intro w53
 have h:LS w0 w53 b ts 1 (ofL k.body) (at'+(k.word.length:Int)) T bt x t Z F fl _:=⟨h.sx.set (i:=2) (v:=.string (ofL k.body)) 0 rfl,h.sc,h.tl⟩
 clear_value w53
 refine⟨_,(h.sx.get 10 rfl:Row w53 kb _).at rfl,qn9 hk h hT (fun e he=>by rw[he];rfl) ⟨oo,oo⟩ g fun w56 x' Z' F' h=>⟨rfl,?_⟩⟩
 intro w57
 have h:LS w0 w57 b ts (T.length-1) (ofL k.body) (at'+(k.word.length:Int)) T bt x' (k.app t) Z' F' (fl||k.isForm) _:=h.fr Fr.drew
 clear_value w57
 refine⟨fun _=>True,trivial,q0v h.sca oo fun w59 f59=>?_⟩
 rw[hend oo,show decide (ofL []=str [])=true by decide]
 refine q0q ?_
 have h:=h.fr f59
 exact hK w59 x' Z' F' (LS.del (LS.del h)).sx.tail.tail h.sc
theorem qqd{t:Td}{i:Nat}(h10:∀k∈q0a t,(10:UInt8)∉k.line)(hi:i<(q0d 10 (q0f t)).length):(∃h:i<(q0a t).length,(q0d 10 (q0f t))[i]=(q0a t)[i].line)\/(i=(q0a t).length/\(q0d 10 (q0f t))[i]=[]):=by
 have e:=qag t h10
 grind
def PI(w0:World)(t:Td)(bt sm am t2:Nat)(sp:Sl)(at' i:Int)(u:World):Prop:=
 ∃(i':Nat) (x:T43) (Z:List Sl) (F:Nat->Prop),i=i'/\i'<=(q0d 10 (q0f t)).length/\at'=(szL ((q0d 10 (q0f t)).take i'):Nat) /\
  Sx w0 u (TPs bt x (((q0a t).take i').foldl Ln.app zeroT) Z F (((q0a t).take i').any Ln.isForm) (PE sm am t2 sp (((q0a t).take i').map Ln.word).reverse (q0d 10 (q0f t))))/\TSc x (((q0a t).take i').foldl Ln.app zeroT)
theorem qu8(t:Td):(q0a t).any Ln.isForm=true:=by
 unfold q0a
 simp[Jh,Ln.isForm]
theorem qqe{t:Td}(h:1<=t.lots.length):∀n∈[q1f,q42,wPrice,q38,q1k,q2f],n∈((q0a t).map Ln.word).reverse:=by
 intro n hn
 rw[List.mem_reverse,Jg]
 simp only[J0,J2,or_false]at hn
 rcases hn with rfl|rfl|rfl|rfl|rfl|rfl
 ·exact⟨.tender t.name,by simp[q0a],rfl⟩
 ·obtain⟨l,r,e⟩:∃l r,t.lots=l::r:=by
   cases hl:t.lots with
   | nil=>grind
   | cons l r=>grind
  exact⟨.lot l.1 l.2,by simp[q0a,e],rfl⟩
 ·exact⟨.price t.low t.high,by simp[q0a],rfl⟩
 ·exact⟨.form t.fm,by simp[q0a],rfl⟩
 ·exact⟨.budget t.budget,by simp[q0a],rfl⟩
 ·exact⟨.times t.t1 t.t2 t.t3 t.t4 t.t5,by simp[q0a],rfl⟩
theorem qcc{x0:T43}{F0':Nat->Prop}{K:T43->World->Prop}(hR:q0m t)(hl:(q0f t).length<=4000)(g:Gm w0)(hsp:sp.l=(q0d 10 (q0f t)).length)
  (h:Sx w0 w (TPs bt x0 zeroT [] F0' false (PE sm am t2 sp [] (q0d 10 (q0f t))))) (hs:TSc x0 zeroT) (hK:∀w' x,Fr F0 w0 w'->TPG w0 w' x t->K x w') :
  z6r_l0 (ofL (q0f t)) ⟨t2,0,none⟩ ⟨bt,0,none⟩ sm (some am) 0 sp (sp.l:Int) 0 K w:=by
 have hok:=qpt hR
 have hokd:=fun i=>qe2 i hok
 have h10:∀k∈q0a t,(10:UInt8)∉k.line:=fun k hk=>by
  obtain⟨i,hi,rfl⟩:=List.mem_iff_getElem.1 hk
  have:=hokd i
  rw[J3 hi]at this
  exact(qnc this.1).2
 have hPl:(q0d 10 (q0f t)).length=(q0a t).length+1:=by rw[qag t h10];simp
 have hsz:szL (q0d 10 (q0f t))=(q0f t).length+1:=q6f _ _ (Jl _)
 have hln:=qc6 (q0d 10 (q0f t))
 have hat:=fun i hi=>qqd (t:=t) (i:=i) h10 hi
 have hpl:∀i (hi:i<(q0d 10 (q0f t)).length),(q0d 10 (q0f t))[i].length<=4001/\szL ((q0d 10 (q0f t)).take (i+1))=szL ((q0d 10 (q0f t)).take i)+((q0d 10 (q0f t))[i].length+1):=fun i hi=>by
  have e:szL ((q0d 10 (q0f t)).take (i+1))=szL ((q0d 10 (q0f t)).take i)+((q0d 10 (q0f t))[i].length+1):=by rw[q16 hi,qc5];simp[szL]
  have:=q6g (q0d 10 (q0f t)) (i+1)
  exact⟨oo,e⟩
 have hall:=qtk t
 have hfi:=qu8 t
 have hwi:=qqe hR.lots.1
 refine⟨⟨fun at' i u=>PI w0 t bt sm am t2 sp at' i u,fun _ i _=>(q0d 10 (q0f t)).length-i.toNat,⟨0,x0,[],F0',rfl,oo,rfl,by simpa using h,by simpa using hs⟩,?_⟩⟩
 rintro at' i u ⟨i,x,Z,F,rfl,hi,rfl,h,hs⟩
 have hst:=q6g (q0d 10 (q0f t)) i
 refine fi ?_
 refine q00.2 ⟨fun hlt=>?_,fun hge=>?_⟩
 ·have hil:i<(q0d 10 (q0f t)).length:=oo
  obtain⟨hpl1,hpl2⟩:=hpl i hil
  have hst2:=q6g (q0d 10 (q0f t)) (i+1)
  refine ldB (h.get 8 rfl:Vw 1 encB u sp _) i rfl hil ?_
  have k2:∀(v:World) (x':T43) (Z':List Sl) (F':Nat->Prop),Sx w0 v (TPs bt x' (((q0a t).take (i+1)).foldl Ln.app zeroT) Z' F' (((q0a t).take (i+1)).any Ln.isForm) (PE sm am t2 sp (((q0a t).take (i+1)).map Ln.word).reverse (q0d 10 (q0f t))))->TSc x' (((q0a t).take (i+1)).foldl Ln.app zeroT) ->
    z6r_k2 (ofL (q0f t)) ⟨t2,0,none⟩ ⟨bt,0,none⟩ sm (some am) (szL ((q0d 10 (q0f t)).take i):Nat) (ofL (q0d 10 (q0f t))[i]) sp (sp.l:Int) (i:Int) (fun(s_0':ByteArray) (t_2':Addr) (t_3':Addr) (seen_4':Nat) (all_5':Option Nat) (at_6':Int) (t_18':Sl) (t_19':Int) (t_20':Int) (w':World)=>((s_0'=ofL (q0f t)/\t_2'=⟨t2,0,none⟩/\t_3'=⟨bt,0,none⟩/\seen_4'=sm/\all_5'=some am/\t_18'=sp/\t_19'=(sp.l:Int)/\True)/\PI w0 t bt sm am t2 sp at_6' t_20' w')/\(q0d 10 (q0f t)).length-t_20'.toNat<(q0d 10 (q0f t)).length-(i:Int).toNat) K v:=fun v x' Z' F' h' hs'=>by
   refine⟨fi ?_⟩
   rw[q0u]
   exact⟨q01,q01,q01,⟨⟨rfl,rfl,rfl,rfl,rfl,rfl,rfl,trivial⟩,i+1,x',Z',F',oo,oo,by rw[hpl2];omega,h',hs'⟩,oo⟩
  refine qgg oo ⟨oo,oo⟩ (g.fr h.fr0) fun w10 r11 T hm hT hT0=>?_
  have hTne:T≠[]:=by intro e;rw[e]at hT;simp at hT
  have hTl:=Jd.2 hTne
  have htl:T.length<2^62:=by
   have h1:=congrArg List.length hT
   rw[J6,J1,J5]at h1
   have h2:=List.length_filter_le (fun p=>!decide (p=[])) (q0d 32 (q0d 10 (q0f t))[i])
   have h3:=qc6 (q0d 32 (q0d 10 (q0f t))[i])
   rw[q6f _ _ (Jl _)]at h3
   omega
  have hS:=h.add (q:=(inB r11,fun u=>Vw 2 q4r u r11 T)) hm.fr0 (q0b.vw _ _) hm.vw fun b hb=>⟨hm.nw b hb,hm.ow.lt' hb⟩
  intro w12
  have h:LS w0 w12 w10.heap.size r11 0 (str []) 0 T bt x _ Z F _ _:=⟨hS.row (cs:=scC r11 0 (qg3 (str []) 0 bt)) (e:=169),hs,htl⟩
  clear_value w12
  generalize w10.heap.size=b at *
  refine q0v h.sca hTl fun w13 f13=>?_
  have h:=h.fr f13
  intro w15
  have h:LS w0 w15 b r11 0 (str []) 0 T bt x _ Z F _ _:=h.row (cs:=[.string (str []),.int .i64 0])
  clear_value w15
  generalize w13.heap.size=wb at *
  refine⟨h.loc.wr og,?_⟩
  intro w16
  have h:LS w0 w16 b r11 0 (str []) 0 T bt x _ Z F _ _:=h.set (i:=0) (v:=.string (ofL T[0].1))
  clear_value w16
  refine⟨h.loc.wr og,?_⟩
  intro w17
  have h:LS w0 w17 b r11 0 (str []) 0 T bt x _ Z F _ ((fun d=>d=wb,fun u=>Row u wb [.string (ofL T[0].1),.int .i64 T[0].2])::PE sm am t2 sp _ _):=h.set (i:=1) (v:=.int .i64 T[0].2)
  clear_value w17
  refine⟨_,h.loc.at,?_⟩
  rcases hat i hil with⟨hiL,eL⟩|⟨hiL,eL⟩
  ·have hkd:=hokd i
   rw[J3 hiL]at hkd
   have hk:=hkd.1
   rw[eL]at hT hT0 k2 hpl1 hpl2 ⊢
   have tk1:∀ {α:Type} (f:α->Ln->α) (a:α),((q0a t).take (i+1)).foldl f a=f (((q0a t).take i).foldl f a) (q0a t)[i]:=fun f a=>by rw[q16 hiL,List.foldl_append];rfl
   have tk2:(((q0a t).take (i+1)).map Ln.word).reverse=(q0a t)[i].word::(((q0a t).take i).map Ln.word).reverse:=by rw[q16 hiL,Ji,List.reverse_append];rfl
   have tk3:((q0a t).take (i+1)).any Ln.isForm=(((q0a t).take i).any Ln.isForm||(q0a t)[i].isForm):=by rw[q16 hiL,Jh];simp
   rw[tk1,tk2,tk3]at k2
   rw[Jc]at hk
   generalize(q0a t)[i]=k at *
   obtain⟨⟨q,hq⟩,hq2⟩:=qk2 hk
   have hw:=q54 k
   have e0:=hT0 _ _ hq hw.2.2
   rw[J4 hTl]at e0
   have e1:T[0]=(k.word,((szL ((q0d 10 (q0f t)).take i):Nat):Int)):=Option.some.inj e0
   rw[e1]at h ⊢
   dsimp -zeta only at h ⊢
   have hlT:qu7 k T:=⟨hTne,fun hf=>by rw[hT,(hq2 hf).1,(hq2 hf).2];rfl⟩
   have hend:∀h':T.length-1<T.length,T[T.length-1].1=[]:=fun h'=>by
    have h1:(T.map (·.1))[T.length-1]?=some []:=by
     rw[hT,List.getElem?_append_right (by have:=congrArg List.length hT;rw[J6,J1,J5]at this;omega)]
     have:=congrArg List.length hT
     rw[J6,J1,J5]at this
     rw[show T.length-1-(List.filter (fun p=>!decide (p=[])) (q0d 32 k.line)).length=0 by omega]
     rfl
    rw[Ja,J4 h']at h1
    simpa using h1
   rw[show decide (ofL k.word=str [])=false by rw[show str []=ofL []from rfl,q0c];exact decide_eq_false hw.2.2]
   refine q08 ⟨_,h.loc.at,_,qgp (h.sx.get 12 rfl),_,_,_,_,rfl,?_⟩
   intro w26
   have h:LS w0 w26 b r11 0 (str []) 0 T bt x _ Z F _ _:=h.row (cs:=[Value.nilFunc,.bool false,Value.nilFunc])
   clear_value w26
   generalize w17.heap.size=kb at *
   refine qdc rfl ⟨h.loc.wr og,?_⟩
   intro w27
   have h:LS w0 w27 b r11 0 (str []) 0 T bt x _ Z F _ _:=h.set (i:=0) (v:=.func (.func k.readF) #[] #[])
   clear_value w27
   refine⟨h.loc.wr og,?_⟩
   intro w28
   have h:LS w0 w28 b r11 0 (str []) 0 T bt x _ Z F _ _:=h.set (i:=1) (v:=.bool k.once)
   clear_value w28
   refine qdc rfl ⟨h.loc.wr og,?_⟩
   intro w29
   have h:LS w0 w29 b r11 0 (str []) 0 T bt x _ Z F _ (iRow kb [.func (.func k.readF) #[] #[],.bool k.once,.func (.func k.fullF) #[] #[]]::iRow wb [.string (ofL k.word),.int .i64 ((szL ((q0d 10 (q0f t)).take i):Nat):Int)]::PE sm am t2 sp _ _):=h.set (i:=2) (v:=.func (.func k.fullF) #[] #[])
   clear_value w29
   refine q0q ?_
   intro w31
   have h:LS w0 w31 b r11 0 (str []) 0 T bt x _ Z F _ _:=h.fr Fr.drew
   clear_value w31
   have hk1:∀(v:World),LS w0 v b r11 0 (str []) 0 T bt x _ Z F _ (iRow kb [.func (.func k.readF) #[] #[],.bool k.once,.func (.func k.fullF) #[] #[]]::iRow wb [.string (ofL k.word),.int .i64 ((szL ((q0d 10 (q0f t)).take i):Nat):Int)]::PE sm am t2 sp _ _)->_:=fun v h =>
    qcb h hk hlT ⟨oo,oo⟩ oo hend g k2
   refine⟨fun u=>Row u kb [.func (.func k.readF) #[] #[],.bool k.once,.func (.func k.fullF) #[] #[]]/\Row u wb [.string (ofL k.word),.int .i64 ((szL ((q0d 10 (q0f t)).take i):Nat):Int)],⟨h.sx.get 10 rfl,h.sx.get 11 rfl⟩,_,fun u hu=>hu.1.at (i:=1) rfl,?_⟩
   refine q09.2 ⟨fun _=>q0q ⟨⟨h.sx.get 10 rfl,h.sx.get 11 rfl⟩,hk1 w31 h⟩,fun ho=>?_⟩
   have ho:k.once=true:=by simpa using ho
   refine⟨_,fun u hu=>hu.2.at,?_⟩
   obtain⟨lB,hmm,hss⟩:=(h.sx.get 14 rfl:(iSM sm _).2 w31)
   refine⟨lB,hmm,⟨h.sx.get 10 rfl,h.sx.get 11 rfl⟩,?_⟩
   rw[hss,decide_eq_false (by
    cases k with
    | tender n=>exact hk.2
    | price a b=>exact hk.2.2
    | form e=>exact hk.2.2.2
    | tie l=>exact hk.2.2.2.2.2
    | most n=>exact hk.2
    | budget n=>exact hk.2
    | times a b c d e=>exact hk.2.2.2.2.2
    | _=>cases ho)]
   exact q0q ⟨⟨h.sx.get 10 rfl,h.sx.get 11 rfl⟩,hk1 w31 h⟩
  ·rw[eL]at hT hT0 k2 ⊢
   have eT:T[0].1=[]:=by
    rw[q5j og]at hT
    have h1:(T.map (·.1))[0]?=some []:=by rw[hT];rfl
    rw[Ja,J4 hTl]at h1
    simpa using h1
   rw[eT,show decide (ofL []=str [])=true by decide]
   have tk0:(q0a t).take (i+1)=(q0a t).take i:=by rw[J8 oo,J8 oo]
   rw[tk0]at k2
   exact q0h (k2 w17 x Z F h.del.sx.tail.tail h.sc)
 ·have hil:i=(q0d 10 (q0f t)).length:=oo
  have hiL:(q0a t).take i=q0a t:=J8 oo
  rw[hiL]at h hs
  rw[hfi,hall]at h
  rw[hall]at hs
  intro w62
  have h6:Vw 1 encB w62 ⟨some ⟨u.heap.size,0,none⟩,6,6⟩ [q1f,q42,wPrice,q38,q1k,q2f]:=(Row.ow (enc:=encB) (n:=1) (l:=[q1f,q42,wPrice,q38,q1k,q2f]) (fun _=>rfl) Row.new).vw
  have h:Sx w0 w62 _:=h.fr Fr.alloc
  clear_value w62
  exact qne h hs h6 hwi fun w' f T=>hK w' x f T
theorem q1m{Q:World->Prop}{L:List Pt}(h:Sx w0 w L)(hr:q0b (fun _=>False) Q)(hq:Q w)(B':Nat->Prop)(hB:∀b,¬B' b):Sx w0 w ((B',Q)::L):=
 h.add Fr.refl (hr.wide fun _ h=>h.elim) hq fun b hb=>absurd hb (hB b)
theorem qk3{K:T43->World->Prop}(hR:q0m t)(hl:(q0f t).length<=4000)(g:Gm w)(hK:∀w' x,Fr F0 w w'->TPG w w' x t->K x w'):z6r_sh (ofL (q0f t)) K w:=by
 refine⟨fi ?_⟩
 intro w1
 have h:Sx w w1 [iRow w.heap.size zX.cs]:=(Sx.nil Fr.refl).row (cs:=zX.cs)
 clear_value w1
 generalize w.heap.size=t2 at h ⊢
 have noB:∀b,¬inB ⟨none,0,0⟩ b:=fun b ⟨a,ha,_⟩=>by cases ha
 have h:=q1m (Q:=fun u=>false=true->XW (fun _=>False) u zeroT.fm ⟨zX.f6,zX.f7,zX.f8,zX.f9,zX.f10⟩) h (fun _ _ _ _ h=>by cases h) (fun h=>by cases h) (fun _=>False) fun _ h=>h
 have h:=q1m (Q:=fun u=>IZ u [] zeroT.combos) h (fun _ _ _ h=>⟨h.1,fun i hi=>by cases hi⟩) ⟨rfl,fun i hi=>by cases hi⟩ (zB []) fun b ⟨z,hz,_⟩=>by cases hz
 have en:∀ {α:Type} {n:Nat} {enc:α->List Value} (u:World),Ow n enc u ⟨none,0,0⟩ ([]:List α):=fun u=>⟨rfl,OwnV.nil⟩
 have h:=q1m (Q:=fun u=>Ow 1 encZ u zX.f13 []) h (fun _ _ _ _=>en _) (en _) (inB zX.f13) noB
 have h:=q1m (Q:=fun u=>Ow 1 encB u zX.f11 zeroT.ties) h (fun _ _ _ _=>en _) (en _) (inB zX.f11) noB
 have h:=q1m (Q:=fun u=>Ow 3 encR u zX.f3 zeroT.reqs) h (fun _ _ _ _=>en _) (en _) (inB zX.f3) noB
 have h:=q1m (Q:=fun u=>Ow 5 encC u zX.f2 zeroT.crit) h (fun _ _ _ _=>en _) (en _) (inB zX.f2) noB
 have h:=q1m (Q:=fun u=>Ow 2 encL u zX.f1 zeroT.lots) h (fun _ _ _ _=>en _) (en _) (inB zX.f1) noB
 intro w2
 have h:Sx w w2 (TPs w1.heap.size zX zeroT [] (fun _=>False) false [iRow t2 zX.cs]):=h.row (cs:=zX.cs)
 clear_value w2
 generalize w1.heap.size=bt at h ⊢
 intro w3
 have h:Sx w w3 (TPs bt zX zeroT [] (fun _=>False) false [iSM w2.heap.size [],iRow t2 zX.cs]):=
  Sx.ins (A:=[_,_,_,_,_,_,_,_]) (B:=[iRow t2 zX.cs]) h Fr.alloc (qe3 _ _) ⟨[],Ms.made w2,fun n=>rfl⟩ fun b hb=>by
   have hb:b=w2.heap.size:=hb
   subst hb
   exact⟨Jl _,by have:w3.heap.size=w2.heap.size+1:=World.size_alloc _ _;omega⟩
 clear_value w3
 generalize w2.heap.size=sm at h ⊢
 refine qk1 fun w4 am f4 ham hm=>?_
 have h:Sx w w4 (TPs bt zX zeroT [] (fun _=>False) false [iAM am,iSM sm [],iRow t2 zX.cs]):=
  Sx.ins (A:=[_,_,_,_,_,_,_,_]) (B:=[iSM sm [],iRow t2 zX.cs]) h f4 (qnd _) hm fun b hb=>by
   have hb:b=am:=hb
   subst hb
   obtain⟨l,hl,_⟩:=hm
   exact⟨ham,hl.lt⟩
 rw[show str [10]=ofL [10]from rfl]
 refine qam oo (g.fr h.fr0) fun w6 sp hsp=>?_
 have h:Sx w w6 (TPs bt zX zeroT [] (fun _=>False) false (PE sm am t2 sp [] (q0d 10 (q0f t)))):=
  Sx.ins (A:=[_,_,_,_,_,_,_,_]) (B:=[iAM am,iSM sm [],iRow t2 zX.cs]) (q:=iSP sp (q0d 10 (q0f t))) h hsp.fr0 (q0b.vw _ _) hsp.vw fun b hb=>⟨hsp.nw b hb,hsp.ow.lt' hb⟩
 exact qcc hR hl g hsp.len h ⟨rfl,rfl,rfl,rfl,rfl,rfl,rfl,rfl,rfl,rfl⟩ hK
end
end Go.Proofs.YtmfkimnmklnppaaGreatDoor
set_option maxRecDepth 20000
namespace Go.Proofs.YtmfkimnmklnppaaGreatDoor
open Go Pw Dp
noncomputable def c80:Code:=Tryz.f80.body.getD .skip
noncomputable def c36:Code:=Tryz.f36.body.getD .skip
noncomputable def p36a:Code:=sqL c36
noncomputable def p36c:Code:=sqL (sqR (sqR c36))
noncomputable def p36d:Code:=sqR (sqR (sqR c36))
noncomputable def o80:Array Oper:=rgO (sqL c80)
noncomputable def o36:Array Oper:=rgO (sqL (sqR c36))
theorem c80_eq:Tryz.f80.body=some (.seq (.region 0 o80 false) (sqR c80)):=by kernel_rfl
theorem c36_eq:Tryz.f36.body=some (.seq p36a (.seq (.region 1 o36 false) (.seq p36c p36d))):=by kernel_rfl
def ca1A:A:=(qr 2 (qc ql ql))
theorem ca1_n(b:Nat)(K:World->Prop)(w:World):K w=W Tryz.prog [] 16 ca1A (sqR c80) [] (endQ K) [] ((1,.nilIface)::(4,.nilIface)::q25 [.pointer (some ⟨b,0,none⟩)]) w:=by kernel_rfl
theorem ca1_o(K:World->Prop):obs Tryz.prog [] 16 ca1A (sqR c80) (fun _=>endQ K)=[]:=by kernel_rfl
theorem o80_at:∃o p,o80[0]?=some o/\o80[1]?=some p/\o80.size=2/\o.guard=none/\o.dst=some 4/\o.op=.call ⟨.builtin .recover,#[],#[]⟩/\p.guard=none/\p.dst=some 1/\p.op=.assign (.tmp 4):=
  ⟨(o80[0]?).getD default,(o80[1]?).getD default,by kernel_rfl,by kernel_rfl,by kernel_rfl,by kernel_rfl,by kernel_rfl,by kernel_rfl,by kernel_rfl,by kernel_rfl,by kernel_rfl⟩
theorem ca1_wp{Q:Exit->Act->List Frame->World->Prop}{b:Nat}{cs:List Frame}{w:World}(hv:recoverD cs=none)
    (hQ:∀a,a.defers=[]->Q .normal a cs w) {a:Act} (ha:Agr 16 [] (q25 [.pointer (some ⟨b,0,none⟩)]) a) :
    (Code.seq (.region 0 o80 false) (sqR c80)).wpSIn Fence.wide 0 Tryz.prog Q a cs w:=by
  obtain⟨o,p,ho,hp,hs,hg,hd,hop,hg',hd',hop'⟩:=o80_at
  refine wpSIn_seq (wpSIn_region ?_)
  have e:Jk o80.size=[0,1]:=by rw[hs];rfl
  rw[e]
  simp only[wpOpsSIn,ho,hp]
  refine⟨fun _ _=>trivial,?_⟩
  rw[if_pos (q1i hg _)]
  have hr:(execOp a.eval o).run Tryz.prog w=.ok .recover w:=by simp[execOp,hop,resolve,invoke,builtin]
  rw[hr,hv]
  have ha1:=ha.put (d:=4) od .nilIface
  rw[←hd]at ha1
  refine⟨fun _ _=>trivial,?_⟩
  rw[if_pos (q1i hg' _)]
  have e4:(a.put o.dst .nilIface).eval (.tmp 4)=.nilIface:=by rw[hd];exact(ha.put (d:=4) od .nilIface).ev (x:=.tmp 4) rfl
  have hr':(execOp (a.put o.dst .nilIface).eval p).run Tryz.prog w=.ok (.value .nilIface) w:=by simp[execOp,hop',e4]
  rw[hr']
  have ha2:Agr 16 [] ((1,.nilIface)::(4,.nilIface)::q25 [.pointer (some ⟨b,0,none⟩)]) ((a.put o.dst .nilIface).put p.dst .nilIface):=by
    rw[hd',hd]
    exact(ha.put (d:=4) od .nilIface).put (d:=1) od .nilIface
  refine wpSIn_of_wpIn rfl ?_
  refine wpIn_mono (sound (Pn:=fun _ _=>False) (B:=[]) (Z:=fun D=>D=[]) (r:=none) (m:=0) progMixed (q3u.up (Γ:=[]) trivial rfl) ca1A (sqR c80) (fun _=>endQ (fun u=>u=w)) (.inr rfl) (by rw[ca1_o];intro o ho;cases ho) [] [] _ _ w rfl ha2 (by rw[←ca1_n])) fun e a' w' hq=>?_
  cases e with
  | normal =>
    obtain⟨D,σ',rfl,hA,hk⟩:=hq
    subst hk
    exact hQ a' hA.2.1
  | panic c=>exact hq.1.elim
  | outgrown=>exact hq.elim
  | ret=>obtain⟨_,_,_,_,hk⟩:=hq;exact hk.elim
  | exit id=>obtain⟨_,_,_,_,hk⟩:=hq;exact hk.elim
  | goto l=>obtain⟨_,_,_,_,hk⟩:=hq;exact hk.elim
theorem res80(tmps:Array Value)(w:World):(results Tryz.f80 tmps).run Tryz.prog w=.ok (.tuple #[]) w:=by
  simp[results]
theorem qu9{b:Nat}{w:World}{R:Ending->FrameMode->World->Prop}(hR:R (.returned (.tuple #[])) .returning w):CallsDIn Fence.wide 0 Tryz.prog 80 #[.pointer (some ⟨b,0,none⟩)] .returning w R:=by
  refine callsDIn_of_wpSIn Tryz.func80 c80_eq trivial fun c₀ cs hc=>?_
  refine ca1_wp (cs:=c₀::cs) (by simp[recoverD,hc]) (fun a hd=>?_) (q2w (vs:=[.pointer (some ⟨b,0,none⟩)]) (m:=16) og)
  exact⟨hd,.returning,by rw[←hc],_,res80 _ _,hR⟩
theorem p36a_e(f:Value)(N:St->World->Prop)(w:World) :
    (let w1:World:=w.alloc (Obj.cells #[(Value.int .i64 (0:Int)),(Value.int .i64 (0:Int))] 108)
     N [(2,ptr w.heap.size),(0,f)] w1)=W Tryz.prog [] 7 (A.reg (qn 1 RA.done)) p36a [] (atQ N) [] (q25 [f]) w:=by kernel_rfl
theorem p36a_o(N:St->World->Prop):obs Tryz.prog [] 7 (A.reg (qn 1 RA.done)) p36a (fun _=>atQ N)=[]:=by kernel_rfl
theorem o36_at:∃o p,o36[0]?=some o/\o36[1]?=some p/\o36.size=2/\o.guard=none/\o.dst=some 3/\o.op=.makeFunc (.func 80) #[] #[.tmp 2]/\p.guard=none/\p.dst=none/\p.op=.defer ⟨.value (.tmp 3),#[],#[]⟩:=
  ⟨(o36[0]?).getD default,(o36[1]?).getD default,by kernel_rfl,by kernel_rfl,by kernel_rfl,by kernel_rfl,by kernel_rfl,by kernel_rfl,by kernel_rfl,by kernel_rfl,by kernel_rfl⟩
theorem mf36_e(f:Value)(b:Nat)(dst:Option Nat)(ty:TypeId)(pos:String)(af:Array Edge)(gd:Option (Nat×Bool))(K:VW)(w:World) :
    K (.func (.func 80) #[] #[ptr b]) w=opW Tryz.prog [] [(2,ptr b),(0,f)] { dst:=dst,op:=.makeFunc (.func 80) #[] #[.tmp 2],type:=ty,pos:=pos,after:=af,guard:=gd } w K:=by kernel_rfl
def q9x(b:Nat):Deferred:={ target:=.fn (.func 80) #[ptr b],args:=#[] }
def ca2A:A:=A.reg (qn 1 (RA.dyn (Value.tuple #[]) RA.done))
theorem p36c_e(f:Value)(b:Nat)(M:World->Prop)(w:World) :
    q0y Tryz.prog f [] w (fun u w'=>u=.tuple #[]/\[ptr b]=[ptr b]/\M w')=W Tryz.prog [] 7 ca2A p36c [] (atQ (qjv [2] [ptr b] M)) [] [(2,ptr b),(0,f)] w:=by kernel_rfl
theorem p36c_o(M:St->World->Prop):obs Tryz.prog [] 7 ca2A p36c (fun _=>atQ M)=[]:=by kernel_rfl
def ca3A:A:=qr 2 ql
theorem p36d_e(b:Nat)(M:World->Prop)(w:World) :
    (wrOk w (Addr.mk b 0 none) /\
    (let w24:World:=w.setCell (Addr.mk b 0 none) (Value.int .i64 0)
    wrOk w24 ((Addr.mk b 0 none).add 1) /\
    (let w25:World:=w24.setCell ((Addr.mk b 0 none).add 1) (Value.int .i64 0)
    [ptr b]=[ptr b]/\M w25)))=W Tryz.prog [] 7 ca3A p36d [] (rtQ (qjv [2] [ptr b] M) (fun _ _=>False)) [] [(2,ptr b)] w:=by kernel_rfl
theorem p36d_o(Q:Qt):obs Tryz.prog [] 7 ca3A p36d (fun _=>Q)=[]:=by kernel_rfl
theorem qua(b:Nat)(Kv:VW)(w:World):(∃x14:Int,w.cell? (Addr.mk b 0 none)=some (Value.int .i64 x14)/\∃x15:Int,w.cell? ((Addr.mk b 0 none).add 1)=some (Value.int .i64 x15)/\Kv (.agg #[.int .i64 x14,.int .i64 x15]) w) =
    resW Tryz.prog [(2,ptr b)] w Tryz.f36.results.toList (fun vs=>Kv (oneV vs) w):=by kernel_rfl
theorem res36{b:Nat}{B:List Deferred}{a:Act}{w:World}(ha:Agr 7 B [(2,ptr b)] a)(r:Row w b [.int .i64 0,.int .i64 0]) :
    (results Tryz.f36 a.tmps).run Tryz.prog w=.ok (.agg #[.int .i64 0,.int .i64 0]) w:=by
  obtain⟨v,h1,h2⟩:=q50 (P:=Tryz.prog) (fn:=Tryz.f36) (w:=w) (K:=fun v _=>v=.agg #[.int .i64 0,.int .i64 0]) ha (Eq.mp (qua b (fun v _=>v=.agg #[.int .i64 0,.int .i64 0]) w)
    ⟨_,r.at,_,by rw[q04];exact r.at (i:=1) rfl,rfl⟩)
  rw[h1,h2]
theorem qgq{f:Value}{w:World}{K:Int->Int->World->Prop}
    (hf:∀w1 b,Fr F0 w w1->w.heap.size<=b->Row w1 b [.int .i64 0,.int .i64 0] ->
      q0y Tryz.prog f [] w1 fun v u=>v=.tuple #[]/\Row u b [.int .i64 0,.int .i64 0]/\∀u',Fr (fun c=>c=b) u u'->K 0 0 u'):z5v_sh f K w:=by
  refine⟨(callsIn_wide (n:=0)).1 (callsIn_of_wp_marks Tryz.func36 c36_eq trivial ?_)⟩
  have hfin:∀w',K 0 0 w'->∃r0_0:Int,∃r0_1:Int,(Ending.returned (.agg #[.int .i64 0,.int .i64 0]))=.returned (.agg #[.int .i64 r0_0,.int .i64 r0_1])/\K r0_0 r0_1 w':=fun w' f=>⟨_,_,rfl,f⟩
  refine wpIn_seq (qmu (n:=7) (B:=[]) (Γ:=[]) (Pn:=fun _ _=>False) (q3u.up trivial rfl) rfl (p36a_o _) (q2w (vs:=[f]) (m:=7) og) (by
    rw[←p36a_e f fun σ w3=>∃b,σ=[(2,ptr b),(0,f)]/\w.heap.size<=b/\Fr F0 w w3/\Row w3 b [.int .i64 0,.int .i64 0]]
    intro w1
    exact⟨_,rfl,Jl _,Fr.alloc,Row.new⟩) fun ex a1 w1 hq=>?_)
  rcases qmt hq with⟨rfl,σ,hA,b,rfl,hb,f1,r1⟩|⟨_,_,hf,_⟩
  case inr=>exact hf.elim
  obtain⟨o,p,ho,hp,hs,hg,hd,hop,hg',hd',hop'⟩:=o36_at
  refine wpIn_seq (wpIn_region ?_)
  have el:Jk o36.size=[0,1]:=by rw[hs];rfl
  rw[el]
  simp only[wpOpsIn,ho,hp]
  rw[if_pos (q1i hg _)]
  refine q4b (by rw[hop];rfl) (q1a (P:=Tryz.prog) (Γ:=[]) (Pn:=fun _ _=>False) (n:=7) (B:=[]) (q3u.up trivial rfl) hA (by rw[hop];rfl) (K:=fun v u=>v=.func (.func 80) #[] #[ptr b]/\w1=u) ?_ (fun _ _ _ _ h=>h.elim) fun v u hv=>?_)
  . obtain⟨dst,op,ty,pos,af,gd⟩:=o
    simp only at hop
    subst hop
    rw[←mf36_e]
    grind
  obtain⟨rfl,rfl⟩:=hv
  rw[hd]
  have hA3:=hA.put (d:=3) od (.func (.func 80) #[] #[ptr b])
  rw[if_pos (q1i hg' _)]
  refine⟨fun _ _=>trivial,?_⟩
  have hr:(Oper.semAt Fence.wide.round (a1.put (some 3) (.func (.func 80) #[] #[ptr b])).eval p).run Tryz.prog w1=.ok (.defer (q9x b)) w1:=by
    have e13:(a1.put (some 3) (.func (.func 80) #[] #[ptr b])).eval (.tmp 3)=.func (.func 80) #[] #[ptr b]:=hA3.ev (x:=.tmp 3) rfl
    show(execOp _ p).run Tryz.prog w1=_
    simp[execOp,hop',resolve,e13,Deferred.ofValue,q9x]
  rw[hr,Oper.uponIn_defer,hd']
  have hA4:Agr 7 [q9x b] [(2,ptr b),(0,f)] (({ a1.put (some 3) (.func (.func 80) #[] #[ptr b])with defers:=q9x b::(a1.put (some 3) (.func (.func 80) #[] #[ptr b])).defers }:Act).put none undef):=by
    refine⟨hA3.1,?_,fun t v ht=>?_⟩
    . show q9x b::_=_
      rw[hA3.2.1]
    . refine hA3.2.2 t v ?_
      rw[q3r]
      by_cases h13:3=t
      . subst h13;cases ht
      . grind
  have hinv:∀u:World,(invoke (q9x b).target (q9x b).args).run Tryz.prog u=.ok (.enter 80 #[ptr b]) u:=fun u=>by
    have:=Tryz.call80 #[ptr b] u
    simp[invoke,q9x,this]
  refine wpIn_seq (qmu (n:=7) (B:=[q9x b]) (Γ:=[]) (Pn:=fun _ _=>False) (q3u.up trivial rfl) rfl (p36c_o _) hA4 (by
    rw[←p36c_e f b (fun u=>Row u b [.int .i64 0,.int .i64 0]/\∀u',Fr (fun c=>c=b) u u'->K 0 0 u')]
    exact(hf w1 b f1 hb r1).mono fun v u hk=>⟨hk.1,rfl,hk.2⟩) fun ex a2 w2 hq=>?_)
  rcases qmt hq with⟨rfl,σ,hA,hN⟩|⟨_,_,hf,_⟩
  case inr=>exact hf.elim
  obtain⟨hA',r2,hk⟩:=q6e hA hN
  refine qmu (n:=7) (B:=[q9x b]) (Γ:=[]) (Pn:=fun _ _=>False) (q3u.up trivial rfl) rfl (p36d_o _) hA' (by
    show W Tryz.prog [] 7 ca3A p36d [] _ [] [(2,ptr b)] w2
    rw[←p36d_e b (fun u=>Row u b [.int .i64 0,.int .i64 0]/\K 0 0 u)]
    simp -zeta only[q04]
    refine⟨r2.wr og,?_⟩
    intro w3
    have r3:=r2.set 0 (.int .i64 0)
    have f3:Fr (fun c=>c=b) w2 w3:=Fr.set rfl
    refine⟨r3.wr og,?_⟩
    intro w4
    have r4:=r3.set 1 (.int .i64 0)
    exact⟨trivial,r4,hk w4 (f3.trans (Fr.set (F:=fun c=>c=b) rfl) fun _ h _=>h)⟩) fun ex a3 w3 hq=>?_
  rcases qsh hq with⟨rfl,σ,hA,hM⟩|⟨rfl,σ,hA,hN⟩|⟨_,_,hf,_⟩
  case inr.inr=>exact hf.elim
  case inr.inl=>exact hN.elim
  obtain⟨hA',r3,hK⟩:=q6e hA hM
  show LeavesInM _ _ _ _ _ _ a3.defers _ _
  rw[hA'.2.1]
  refine⟨og,.inr ⟨fun h=>by simp[Fence.wide]at h,_,_,_,_,rfl,hinv w3,fun _ _=>trivial,?_⟩⟩
  refine qu9 ?_
  show LeavesInM _ _ _ _ _ _ [] (settle .returning) _
  exact⟨_,res36 hA' r3,hfin w3 hK⟩
section
variable{w w' w0:World}{t:Td}
theorem TPG.tp{x:T43}(h:TPG w w' x t):TP w' x t:=h (fun _=>False) w' Fr.refl fun _ h=>h.elim
theorem qar{K:T43->Int->Int->World->Prop}(hR:q0m t)(hl:(q0f t).length<=4000)(g:Gm w)(hK:∀w' x,Fr F0 w w'->TPG w w' x t->K x 0 0 w'):z6l_sh (ofL (q0f t)) K w:=by
 refine⟨fi ?_⟩
 intro w1
 have m:Mem w w1 [(w.heap.size,[Value.string (ofL (q0f t))])]:=Mem.nil.allocL (cs:=[Value.string (ofL (q0f t))])
 clear_value w1
 generalize w.heap.size=bs at m ⊢
 intro w2
 have m:Mem w w2 [(w1.heap.size,zX.cs),(bs,[Value.string (ofL (q0f t))])]:=m.allocL (cs:=zX.cs)
 clear_value w2
 generalize w1.heap.size=bo at m ⊢
 refine⟨_,m.ld 1,?_⟩
 have hs:(ofL (q0f t)).size=(q0f t).length:=q0u _
 rw[show decide (((ofL (q0f t)).size:Int)>(4000:Int))=false from decide_eq_false oo]
 refine q0h ?_
 intro w6
 have m:Mem w w6 [(w2.heap.size,zX.cs),(bo,zX.cs),(bs,[Value.string (ofL (q0f t))])]:=m.allocL (cs:=zX.cs)
 clear_value w6
 generalize w2.heap.size=bt at m ⊢
 have rt:Row w6 bt zX.cs:=m.row 0
 have ro:Row w6 bo zX.cs:=m.row 1
 have hbt:bt≠bo:=by
  have:=m.2.2.1
  simp only[Jj,Je,J0]at this
  have:=this.1 bo (.inl rfl)
  omega
 have nt:w.heap.size<=bt:=m.2.2.2 (bt,zX.cs) og
 have no:w.heap.size<=bo:=m.2.2.2 (bo,zX.cs) og
 refine qgq fun w7 b f7 hb rb=>?_
 refine q02 z52_ok (show z52_sh _ _ _ w7 from⟨?_⟩)
 have m:=m.fr f7
 refine⟨_,m.ld 2,?_⟩
 refine qk3 hR hl (g.fr m.1) fun w8 x f8 T=>?_
 have rt7:=f7.row rt fun h=>h
 have ro7:=f7.row ro fun h=>h
 refine q13 (f8.row rt7 fun h=>h) (Jl 20) fun w9 f9 rt9=>?_
 have rb8:=f8.row rb fun h=>h
 have hnb:b≠bt:=fun h=>by have:=rt.lt;omega
 have hnbo:b≠bo:=fun h=>by have:=ro.lt;omega
 refine⟨rfl,f9.row rb8 hnb,fun w10 f10=>?_⟩
 have rt10:=f10.row rt9 fun h=>hnb h.symm
 have ro10:=f10.row (f9.row (f8.row ro7 fun h=>h) fun h=>hbt h.symm) fun h=>hnbo h.symm
 have T10:Fr (fun c=>c=b\/c=bt) w8 w10:=(f9.mono (G:=fun c=>c=b\/c=bt) fun _ h=>.inr h).trans (f10.mono (G:=fun c=>c=b\/c=bt) fun _ h=>.inl h) fun _ h _=>h
 have blt:∀c,c=b\/c=bt\/c=bo->c<w7.heap.size:=fun c hc=>by
  have:=rb.lt
  have:=rt7.lt
  have:=ro7.lt
  omega
 have f06:Fr F0 w w8:=(m.1.trans f8 fun _ h _=>h)
 have rbn:w.heap.size<=b:=by have:=rt.lt;omega
 have f10':Fr F0 w w10:=f06.trans T10 fun c hc hlt=>oo
 intro w11
 have f11:Fr F0 w10 w11:=Fr.alloc
 have n:Mem w10 w11 [(w10.heap.size,[.int .i64 0,.int .i64 0])]:=Mem.nil.allocL (cs:=[.int .i64 0,.int .i64 0])
 refine⟨n.wr 0,?_⟩
 intro w12
 have n:=n.set (i:=0) (v:=.int .i64 0) 0
 refine⟨n.wr 0,?_⟩
 intro w13
 have n:Mem w10 w13 [(w10.heap.size,[.int .i64 0,.int .i64 0])]:=n.set (i:=1) (v:=.int .i64 0) 0
 clear_value w13 w12 w11
 refine⟨_,n.ld 0,?_⟩
 refine q0h ?_
 have rt13:=n.1.row rt10 fun h=>h
 have ro13:=n.1.row ro10 fun h=>h
 refine T43.ld_row rt13 ?_
 refine q13 ro13 (Jl 20) fun w14 f14 ro14=>?_
 refine T43.ld_row (x:=x) ro14 ?_
 refine hK w14 x ((f10'.trans n.1 fun _ h _=>h).trans f14 fun c hc hlt=>by subst hc;omega) ?_
 intro G u fu hG
 have hw7:w.heap.size<=w7.heap.size:=by have:=rt.lt;have:=blt bt (.inr (.inl rfl));omega
 refine T (fun c=>(c=b\/c=bt\/c=bo)\/G c) u ?_ fun c hc=>hc.elim (blt c) fun h=>Jm (hG c h) hw7
 have f814:Fr (fun c=>c=b\/c=bt\/c=bo) w8 w14:=((T10.mono fun _ h=>h.elim .inl fun h=>.inr (.inl h)).trans (n.1.mono fun _ h=>h.elim) fun _ h _=>h).trans (f14.mono fun _ h=>.inr (.inr h)) fun _ h _=>h
 exact(f814.mono fun _ h=>.inl h).trans (fu.mono fun _ h=>.inr h) fun _ h _=>h
end
end Go.Proofs.YtmfkimnmklnppaaGreatDoor
namespace Pw
open Go
def NU(w:World)(k:Nat):Prop:=k<w.heap.size/\∀c f,w.heap[k]?≠some (.cells c 5 f)
section
variable{w w' w0 w2:World}{k b:Nat}
theorem NU.congr(h:NU w k)(hs:w.heap.size<=w'.heap.size)(he:w'.heap[k]?=w.heap[k]?):NU w' k:=⟨Jm h.1 hs,fun c f=>he▸h.2 c f⟩
theorem NU.fr(h:NU w k)(hf:Fr F0 w w'):NU w' k:=h.congr hf.1 (hf.2.1 k h.1 fun h=>h)
theorem NU.new{cs:Array Value}{e:TypeId}(he:e≠5):NU (w.alloc (.cells cs e)) w.heap.size:=by
 refine⟨by show _<(w.heap.push _).size;simp,fun c f h=>?_⟩
 have:(w.alloc (.cells cs e)).heap[w.heap.size]?=some (.cells cs e (0,0)):=by show(w.heap.push _)[w.heap.size]?=_;simp
 grind
theorem NU.set{a:Addr}{v:Value}(h:NU w k):NU (w.setCell a v) k:=by
 refine⟨by simpa [World.setCell]using h.1,fun c f hc=>?_⟩
 by_cases ha:a.block=k
 ·simp only[World.setCell,Array.getElem?_modify,if_pos ha]at hc
  cases ho:w.heap[k]? with
  | none=>grind
  | some o =>
   rw[ho]at hc
   cases o with
   | cells c' e' f' =>
    simp only[Option.map_some,Option.some.injEq,Obj.cells.injEq]at hc
    obtain⟨_,rfl,_⟩:=hc
    exact h.2 _ _ ho
   | _=>simp at hc
 ·rw[q3w ha]at hc
  exact h.2 _ _ hc
theorem qsl{a:Addr}:∀(vs:List Value) (i:Nat) {w:World},NU w k->NU (wrC w a i vs) k
 | [],_,_,h=>h
 | _::vs,i,_,h=>qsl vs (i+1) h.set
theorem qqf{size bytes:Nat}{zero:List Value}{e:TypeId}{s:Sl}{n:Nat}{new:List Value}{K K':SW}(h:apG size bytes zero e s n new w K)(hs:∀b,inB s b->NU w b)(he:e≠5)(hk:∀r w',K r w'->(∀b,inB r b->NU w' b)->K' r w'):apG size bytes zero e s n new w K':=by
 refine⟨fun hc=>?_,fun hc=>?_⟩
 ·have h1:=h.1 hc
  cases hp:s.p with
  | none =>
   rw[hp]at h1
   exact hk _ _ h1 fun b ⟨a,ha,_⟩=>by cases ha
  | some a =>
   rw[hp]at h1
   exact⟨h1.1,hk _ _ h1.2 fun b ⟨a',ha',hb⟩=>by cases ha';exact qsl _ _ (hs b ⟨a,hp,hb⟩)⟩
 ·obtain⟨h1,h2,old,h3,h4⟩:=h.2 hc
  exact⟨h1,h2,old,h3,fun cap hcap=>hk _ _ (h4 cap hcap) fun b ⟨a,ha,hb⟩=>by cases ha;subst hb;exact NU.new (w:=w.drew) he⟩
theorem qqg{size bytes:Nat}{zero:List Value}{e:TypeId}{s x:Sl}{K K':SW}(h:apS size bytes zero e s x w K)(hs:∀b,inB s b->NU w b)(he:e≠5)(hk:∀r w',K r w'->(∀b,inB r b->NU w' b)->K' r w'):apS size bytes zero e s x w K':=by
 obtain⟨new,h1,h2,h3⟩:=h
 exact⟨new,h1,h2,qqf h3 hs he hk⟩
theorem qsm{a:Addr}{K K':World->Prop}:∀(us:List Value) (i:Nat) (u:World),stN.go a K us i u->NU u k->(∀w',NU w' k->K w'->K' w')->stN.go a K' us i u
 | [],_,_,h,hn,hk=>hk _ hn h
 | _::us,i,_,h,hn,hk=>⟨h.1,qsm us (i+1) _ h.2 hn.set hk⟩
structure Fb(b:Nat)(w w':World):Prop where
 bel:RowKit.Below b w w'
 oth:∀k,k≠b->NU w k->w'.heap[k]?=w.heap[k]?
theorem Fb.nu(h:Fb b w w')(hb:k≠b)(hn:NU w k):NU w' k:=hn.congr h.bel.size (h.oth k hb hn)
theorem Fb.row{cs:List Value}(h:Fb b w w')(hb:k≠b)(hn:NU w k)(hr:Row w k cs):Row w' k cs:=hr.congr (h.oth k hb hn)
theorem Fb.fr0(h:Fb b w w')(h0:Fr F0 w0 w)(hb:w0.heap.size<=b):Fr F0 w0 w':=
 ⟨Jn h0.1 h.bel.size,fun k hk _=>(h.bel.block k oo).trans (h0.2.1 k hk fun h=>h),h.bel.os.trans h0.2.2.1,h.bel.output.trans h0.2.2.2.1,h.bel.tape.trans h0.2.2.2.2⟩
end
end Pw
namespace Dp
open Go Pw
def Ln.words:Ln->List B
 | .form e=>[q38,e.shw 0]
 | k=>k.word::k.args
theorem joinT(l:List B):Lib.joinTail [32] l=l.flatMap (32 :: ·):=by
 unfold Lib.joinTail
 induction l with
 | nil=>rfl
 | cons a l ih=>grind
theorem qas(k:Ln):Lib.join k.words [32]=k.line:=by
 have h:∀(a:B) (l:List B),Lib.join (a::l) [32]=a++l.flatMap (32 :: ·):=fun a l=>by rw[Lib.join_cons,joinT]
 cases k<;>unfold Ln.words Ln.line Ln.body<;>rw[h]<;>first|rfl|exact congrArg (q38++·) (Jc _)
theorem qnf{k:Ln}:0<k.words.length:=by cases k<;>simp[Ln.words]
theorem qqh:∀(l:List B),l.length<=(Lib.join l [32]).length+1
 | []=>og
 | a::l=>by
  rw[Lib.join_cons,J1,Lib.joinTail_length]
  simp
  omega
end Dp
namespace Go.Proofs.YtmfkimnmklnppaaGreatDoor
open Go Pw Dp
def Bld(b:Nat)(l:List UInt8)(w:World):Prop:=Lib.IsBuilderF 232 5 b b (Lib.byteCells l) w
section
variable{w w' w0:World}{b:Nat}{l:List UInt8}
theorem qin{T:TypeId}{p:Value}{bs:List Value}(h:Lib.BuilderAtF T 5 b b p bs w)(hf:Fr F0 w w'):Lib.BuilderAtF T 5 b b p bs w':=by
 have hlt:=h.lt
 obtain⟨hB,v,hb,hown,hne⟩:=h
 refine⟨hB,v,(hf.2.1 b hlt fun h=>h).trans hb,⟨hown.1,?_⟩,hne⟩
 rcases hown.2 with h1|⟨g,cap,cur,fz,h1,h2,h3,h4⟩
 ·exact .inl h1
 ·exact .inr ⟨g,cap,cur,fz,h1,h2,(hf.2.1 g (Array.getElem?_eq_some_iff.1 h3).1 fun h=>h).trans h3,h4⟩
theorem Bld.fr(h:Bld b l w)(hf:Fr F0 w w'):Bld b l w':=h.elim (fun h=>.inl (qin h hf)) fun h=>.inr (qin h hf)
theorem Bld.lt(h:Bld b l w):b<w.heap.size:=h.elim (fun h=>h.lt) fun h=>h.lt
theorem Bld.new:Bld w.heap.size [] (w.alloc (.cells #[.pointer none,.slice none 0 0] 232)):=Lib.IsBuilderF.of (Lib.fresh_isBuilder 232 5 w)
theorem fb_of(h1:RowKit.Below b w w')(h2:Lib.OthersKept 5 (some b) w w'):Fb b w w':=
 ⟨h1,fun k hb hn=>by
  obtain⟨hlt,hnc⟩:=hn
  obtain⟨o,ho⟩:∃o,w.heap[k]?=some o:=⟨_,Array.getElem?_eq_getElem hlt⟩
  rw[ho]
  exact h2 k o ho (fun e=>hb (Option.some.inj e)) fun c f he=>hnc c f (by rw[ho,he])⟩
theorem q7r{s:ByteArray}{K:Int->Value->World->Prop}(h:Bld b l w)(hlen:l.length+s.size<=140737488355328)(hK:∀r0 r1 w',Bld b (l++bl s) w'->Fb b w w'->K r0 r1 w'):z04_sh (some ⟨b,0,none⟩) s K w:=
 ⟨(Any.Builder_WriteString_k { Tryz.lays156 with } Tryz.Builder_Extra_156 b b (Lib.byteCells l) s w h (by rw[Lib.byteCells_length];exact hlen) (Jo h.lt)).mono fun e w' he=>by
  obtain⟨rfl,h1,h2,h3⟩:=he
  refine⟨_,_,rfl,hK _ _ _ (.inr ?_) (fb_of h2 h3)⟩
  rw[Lib.byteCells_append]
  exact h1⟩
theorem qgr{K:ByteArray->World->Prop}(h:Bld b l w)(hK:∀w',Fb b w w'->K (ofL l) w'):z0e_sh (some ⟨b,0,none⟩) K w:=
 ⟨(Any.Builder_String_any_k Tryz.lays169 Tryz.Builder_Extra_169 b b l w h (Jo h.lt)).mono fun e w' he=>by
  obtain⟨rfl,_,h2,h3⟩:=he
  exact⟨_,rfl,hK _ (fb_of h2 h3)⟩⟩
theorem qng{s:Sl}{ws:List B}{K:ByteArray->World->Prop}(hv:Ow 1 encB w s ws)(h0:0<ws.length)(hl:(Lib.join ws [32]).length<=4000)(hK:∀w',Fr F0 w w'->K (ofL (Lib.join ws [32])) w'):z51_sh s (str [32]) K w:=by
 obtain⟨hs,hn|⟨bk,cs,hp,hr,hc,hle,ht⟩⟩:=hv.own
 ·have:=hv.len
  omega
 have hll:=hv.len
 have ev:=hv.vw
 obtain⟨p,n,c⟩:=s
 simp only at hp hll
 subst hp hll
 have e:(ws.map ofL).map (fun s:ByteArray=>s.data.toList)=ws:=by
  rw[List.map_map]
  conv=>rhs;rw[←List.map_id ws]
  exact List.map_congr_left fun x _=>q28 x
 have hj:=qqh ws
 have hcs:=Any.strings_Join Tryz.lays156 Tryz.Builder_Extra_156 bk 0 c (ws.map ofL) (str [32]) w (fun j x hx=>by
  rw[Ja]at hx
  cases hw:ws[j]? with
  | none=>grind
  | some y =>
   rw[hw]at hx
   cases hx
   obtain⟨ad,ha,hc⟩:=ev.at (enc:=encB) (fun _=>rfl) hw od
   cases ha
   have:=hc 0 _ rfl
   simp_all) hr.lt oz oz (by rw[e];exact Jn hl od)
 rw[J6,e]at hcs
 refine⟨hcs.mono fun e' w' he=>?_⟩
 obtain⟨rfl,hb⟩:=he
 exact⟨_,rfl,hK _ ⟨hb.size,fun k hk _=>hb.block k hk,hb.os,hb.output,hb.tape⟩⟩
end
structure DS(w0 w:World)(tb bb:Nat)(x:T43)(t:Td)(rest:List Ln)(L:List (Nat×List Value)):Prop where
 f:Fr F0 w0 w
 new:w0.heap.size<=tb
 lt:tb<bb
 r:Row w tb x.cs
 b:∃txt,Bld bb txt w/\txt++rest.flatMap (fun k=>k.line++[10])=q0f t
 loc:∀p∈L,Row w p.1 p.2/\NU w p.1/\bb<p.1
structure Wd(w:World)(bb:Nat)(L:List (Nat×List Value))(s:Sl)(ws:List B):Prop where
 ow:Ow 1 encB w s ws
 nu:∀b,inB s b->NU w b/\bb<b/\∀p∈L,p.1≠b
section
variable{w w' w0:World}{tb bb:Nat}{x:T43}{t:Td}{rest:List Ln}{k:Ln}{L:List (Nat×List Value)}{s:Sl}{ws:List B}
theorem qe4{T:TypeId}{p:Value}{bs:List Value}{b:Nat}{F:Nat->Prop}(h:Lib.BuilderAtF T 5 b b p bs w)(hf:Fr F w w')(hF:∀k,F k->k≠b/\NU w k):Lib.BuilderAtF T 5 b b p bs w':=by
 have hlt:=h.lt
 obtain⟨hB,v,hb,hown,hne⟩:=h
 refine⟨hB,v,(hf.2.1 b hlt fun h=>(hF b h).1 rfl).trans hb,⟨hown.1,?_⟩,hne⟩
 rcases hown.2 with h1|⟨g,cap,cur,fz,h1,h2,h3,h4⟩
 ·exact .inl h1
 ·exact .inr ⟨g,cap,cur,fz,h1,h2,(hf.2.1 g (Array.getElem?_eq_some_iff.1 h3).1 fun h=>(hF g h).2.2 _ _ h3).trans h3,h4⟩
theorem DS.nuF{F:Nat->Prop}(h:DS w0 w tb bb x t rest L)(hf:Fr F w w')(hF:∀k,F k->NU w k/\bb<k/\∀p∈L,p.1≠k):DS w0 w' tb bb x t rest L:=by
 obtain⟨txt,hb,ht⟩:=h.b
 have hlt:=h.lt
 have hn:=h.new
 refine⟨h.f.trans hf fun b hb hl=>?_,hn,hlt,hf.row h.r fun hh=>?_,⟨txt,?_,ht⟩,fun p hp=>?_⟩
 ·grind
 ·grind
 ·have hF':∀k,F k->k≠bb/\NU w k:=fun k hk=>⟨by have:=(hF k hk).2.1;omega,(hF k hk).1⟩
  exact hb.elim (fun h=>.inl (qe4 h hf hF')) fun h=>.inr (qe4 h hf hF')
 ·obtain⟨h1,h2,h3⟩:=h.loc p hp
  have hne:¬F p.1:=fun hh=>(hF _ hh).2.2 p hp rfl
  exact⟨hf.row h1 hne,h2.congr hf.1 (hf.2.1 _ h1.lt hne),h3⟩
theorem DS.fr(h:DS w0 w tb bb x t rest L)(hf:Fr F0 w w'):DS w0 w' tb bb x t rest L:=h.nuF hf fun _ h=>h.elim
theorem DS.blt(h:DS w0 w tb bb x t rest L):bb<w.heap.size:=let⟨_,hb,_⟩:=h.b;hb.lt
theorem DS.drop{p:Nat×List Value}(h:DS w0 w tb bb x t rest (p::L)):DS w0 w tb bb x t rest L:={ h with loc:=fun q hq=>h.loc q (List.mem_cons_of_mem _ hq) }
theorem DS.row{b:Nat}{cs:List Value}(h:DS w0 w tb bb x t rest L)(j:Nat)(hj:L[j]?=some (b,cs)):Row w b cs:=(h.loc _ (List.mem_of_getElem? hj)).1
theorem DS.box{cs vs:List Value}{e:TypeId}{K:World->Prop}(h:DS w0 w tb bb x t rest L)(he:e≠5)(hl:vs.length=cs.length)(hK:∀w',DS w0 w' tb bb x t rest ((w.heap.size,vs)::L)->K w') :
  stN (w.alloc (Obj.cells cs.toArray e)) ⟨w.heap.size,0,none⟩ vs K:=by
 have hblt:=h.blt
 have h1:DS w0 (w.alloc (Obj.cells cs.toArray e)) tb bb x t rest L:=h.fr Fr.alloc
 have hn:NU (w.alloc (Obj.cells cs.toArray e)) w.heap.size:=NU.new he
 refine qsm vs 0 _ (q13 (cs:=cs) (K:=fun w'=>Fr (fun c=>c=w.heap.size) (w.alloc (Obj.cells cs.toArray e)) w'/\Row w' w.heap.size (q2e cs 0 vs)) Row.new oo fun w' f r=>⟨f,r⟩) hn fun w' hn' ⟨f,r⟩=>?_
 refine hK w' ?_
 have h2:=h1.nuF f fun k hk=>by
  subst hk
  refine⟨hn,hblt,fun p hp=>?_⟩
  have:=(h.loc p hp).1.lt
  omega
 refine { h2 with loc:=fun p hp=>?_ }
 rcases J0.1 hp with rfl|hp
 ·refine⟨?_,hn',hblt⟩
  have:q2e cs 0 vs=vs:=by unfold q2e;simp[hl]
  grind
 ·exact h2.loc p hp
theorem DS.words{cs:List Value}(h:DS w0 w tb bb x t rest L)(ws:List B)(hc:cs=ws.flatMap encB):DS w0 (w.alloc (Obj.cells cs.toArray 9)) tb bb x t rest L/\Wd (w.alloc (Obj.cells cs.toArray 9)) bb L ⟨some ⟨w.heap.size,0,none⟩,ws.length,ws.length⟩ ws:=by
 have hb:=h.blt
 refine⟨h.fr Fr.alloc,Row.ow (fun _=>rfl) (hc▸Row.new),fun b ⟨a,ha,hb'⟩=>?_⟩
 cases ha
 subst hb'
 refine⟨NU.new od,hb,fun p hp=>?_⟩
 have:=(h.loc p hp).1.lt
 grind
theorem Wd.fr(hw:Wd w bb L s ws)(hf:Fr F0 w w'):Wd w' bb L s ws:=⟨hw.ow.fr hf,fun b hb=>⟨(hw.nu b hb).1.fr hf,(hw.nu b hb).2⟩⟩
theorem DS.app{y:Sl}{m:List B}{K:SW}(h:DS w0 w tb bb x t rest L)(hw:Wd w bb L s ws)(hy:Vw 1 encB w y m)(hl:ws.length+m.length<=2^20)
  (hK:∀r w',DS w0 w' tb bb x t rest L->Wd w' bb L r (ws++m)->Fr (inB s) w w'->K r w'):apS 1 16 [Value.string (str [])] 9 s y w K:=by
 have hb:=h.blt
 refine qqg (K:=fun r w'=>Ow 1 encB w' r (ws++m)/\Fr (inB s) w w'/\∀b,inB r b->inB s b\/w.heap.size<=b) (hw.ow.app hy (fun a v hv=>by simp[encB]at hv;subst hv;rfl) rfl oo oo fun r w' h1 h2 h3=>⟨h1,h2,h3⟩) (fun b hb=>(hw.nu b hb).1) od fun r w' ⟨h1,h2,h3⟩ h4=>?_
 refine hK r w' (h.nuF h2 fun k hk=>hw.nu k hk) ⟨h1,fun b hb'=>⟨h4 b hb',?_⟩⟩ h2
 rcases h3 b hb' with h5|h5
 ·exact(hw.nu b h5).2
 ·refine⟨oo,fun p hp=>?_⟩
  have:=(h.loc p hp).1.lt
  omega
theorem q2c{K:World->Prop}(hl:(q0f t).length<=4000)(h:DS w0 w tb bb x t (k::rest) L)(hw:Wd w bb L s k.words)(hK:∀w',DS w0 w' tb bb x t rest L->K w'):z54_sh s ⟨bb,0,none⟩ K w:=by
 refine⟨fi ?_⟩
 obtain⟨txt,hb,ht⟩:=h.b
 have hlen:txt.length+(k.line.length+1)<=4000:=oz
 refine qng hw.ow qnf (by rw[qas];omega) fun w1 f1=>?_
 rw[qas]
 have e10:ofL k.line++str [10]=ofL (k.line++[10]):=ofL_app k.line [10]
 have hz1:(ofL k.line).size=k.line.length:=q0u _
 refine⟨?_,?_⟩
 ·rw[hz1]
  show((k.line.length+1:Nat):Int)<=9223372036854775807
  omega
 rw[e10]
 obtain h1:=h.fr f1
 refine q7r (hb.fr f1) (by rw[q0u,J1,J5];omega) fun r0 r1 w2 hb2 fb=>hK w2 ?_
 rw[q28]at hb2
 have hn:=h.new
 have hlt:=h.lt
 refine⟨fb.fr0 h1.f oo,hn,hlt,?_,⟨_,hb2,?_⟩,fun p hp=>?_⟩
 ·exact h1.r.congr (fb.bel.block tb oo)
 ·grind
 ·obtain⟨p1,p2,p3⟩:=h1.loc p hp
  exact⟨fb.row oo p2 p1,fb.nu oo p2,p3⟩
end
section
variable{w w' w0:World}{tb bb:Nat}{x:T43}{t:Td}{rest:List Ln}{k:Ln}{L:List (Nat×List Value)}{s:Sl}{ws:List B}{K:ByteArray->World->Prop}
theorem q4t{lo n:Int}(h:inN lo n)(h0:0<=lo):I64 n:=⟨by have:=h.1;omega,by have:=h.2;omega⟩
theorem inR1{i:Nat}(h:i<2^30):inR .i64 ((i:Int)+1):=q01
structure DC(w0:World)(x:T43)(t:Td):Prop where
 T:TP w0 x t
 R:q0m t
 hl:(q0f t).length<=4000
 g:GlT w0
theorem qqi{q:Nat}{z:Sl}{l:List Int}{N7:Addr->Addr->Addr->Sl->Int->Int->World->Prop}{t133:Sl}{n134:Int}(c:DC w0 x t)(h:DS w0 w tb bb x t (.combo l::rest) [])(hw:Wd w bb [] s [wCombo])(hz:∀u,Fr F0 w0 u->Vw 1 encI u z l)(hi:∀n∈l,inN 1 n)(hll:l.length<=12)(hq:q<2^30)
  (hN:∀w',DS w0 w' tb bb x t rest []->N7 ⟨tb,0,none⟩ ⟨bb,0,none⟩ ⟨bb,0,none⟩ t133 n134 ((q:Int)+1) w'):z6o_l8 ⟨tb,0,none⟩ ⟨bb,0,none⟩ ⟨bb,0,none⟩ s t133 n134 (q:Int) z (z.l:Int) (0:Int) N7 K w:=by
 refine⟨⟨fun s i u=>∃j:Nat,i=j/\j<=l.length/\DS w0 u tb bb x t (.combo l::rest) []/\Wd u bb [] s (wCombo::(l.take j).map Lib.itoa),fun _ i _=>l.length-i.toNat,⟨0,rfl,Jp _,h,hw⟩,?_⟩⟩
 rintro s1 _ u ⟨j,rfl,hj,h,hw⟩
 have hv:=hz u h.f
 have hzl:=hv.len
 refine fi ?_
 refine q00.2 ⟨fun hlt=>?_,fun hge=>?_⟩
 ·have hj':j<l.length:=oo
  refine ldI hv j rfl hj' ?_
  refine q15 (q4t (hi _ (Jb hj')) od) (c.g.fr h.f) fun w1 f1=>?_
  have h:=h.fr f1
  have hw:=hw.fr f1
  intro w2
  obtain⟨h,hx⟩:=h.words (cs:=[Value.string (ofL (Lib.itoa l[j]))]) [Lib.itoa l[j]] rfl
  have hw:Wd w2 bb [] s1 _:=hw.fr Fr.alloc
  refine h.app hw hx.ow.vw oy fun r w' h hw f=>?_
  refine⟨inR1 oo,⟨⟨rfl,rfl,rfl,rfl,rfl,rfl,rfl,rfl,trivial⟩,j+1,oo,oo,h,?_⟩,uo⟩
  rw[List.take_add_one,J4 hj',Ji]
  exact hw
 ·have hj':j=l.length:=oo
  subst hj'
  rw[List.take_length]at hw
  exact q2c c.hl h hw fun w' h=>⟨inR1 hq,hN w' h⟩
theorem qcd{α:Type}{f:α->Ln}{l:List α}{j:Nat}(hj:j<l.length)(R:List Ln):(l.drop j).map f++R=f l[j]::((l.drop (j+1)).map f++R):=by
 rw[J3 hj]
 rfl
theorem qqj(c:DC w0 x t)(h:DS w0 w tb bb x t (t.combos.map Ln.combo++[.budget t.budget,.times t.t1 t.t2 t.t3 t.t4 t.t5]) [])(hK:∀w',Fr F0 w0 w'->K (ofL (q0f t)) w'):z6o_l7 ⟨tb,0,none⟩ ⟨bb,0,none⟩ ⟨bb,0,none⟩ x.f13 (x.f13.l:Int) (0:Int) K w:=by
 have hcl:=c.R.combos
 refine⟨⟨fun i u=>∃j:Nat,i=j/\j<=t.combos.length/\DS w0 u tb bb x t ((t.combos.drop j).map Ln.combo++[.budget t.budget,.times t.t1 t.t2 t.t3 t.t4 t.t5]) [],fun i _=>t.combos.length-i.toNat,⟨0,rfl,Jp _,h⟩,?_⟩⟩
 rintro _ u ⟨j,rfl,hj,h⟩
 obtain⟨Z,hv,hzl,hz⟩:=c.T.combos
 have hv:=hv.fr h.f
 have hvl:=hv.len
 refine fi ?_
 refine q00.2 ⟨fun hlt=>?_,fun hge=>?_⟩
 ·have hj':j<t.combos.length:=oo
  refine ldZ hv j rfl oo ?_
  intro w1
  rw[qcd hj']at h
  obtain⟨h,hw⟩:=h.words (cs:=[Value.string (ofL wCombo)]) [wCombo] rfl
  have hc:=c.R.comboN _ (Jb hj')
  exact qqi c h hw (fun u f=>(hz j oo hj').fr f) hc.2.2.1 hc.2.1 oo fun w' h=>⟨⟨⟨rfl,rfl,rfl,rfl,rfl,trivial⟩,j+1,oo,oo,h⟩,uo⟩
 ·have hj':j=t.combos.length:=oo
  subst hj'
  rw[Jf]at h
  simp -zeta only[q04]
  refine⟨_,h.r.at,?_⟩
  rw[c.T.budget]
  refine q15 (q4t c.R.budget od) (c.g.fr h.f) fun w1 f1=>?_
  have h:=h.fr f1
  intro w2
  obtain⟨h,hw⟩:=h.words (cs:=[Value.string (ofL q1k),Value.string (ofL (Lib.itoa t.budget))]) [q1k,Lib.itoa t.budget] rfl
  refine q2c c.hl h hw fun w3 h=>?_
  refine⟨_,h.r.at,_,h.r.at,_,h.r.at,_,h.r.at,_,h.r.at,?_⟩
  rw[c.T.t1,c.T.t2,c.T.t3,c.T.t4,c.T.t5]
  intro w4
  refine h.box (cs:=[_,_,_,_,_]) od rfl fun w5 h=>?_
  intro w6
  have h:DS w0 w6 tb bb x t _ _:=h.fr Fr.drew
  refine⟨fun v=>Row v w3.heap.size [(Value.int .i64 t.t1),(Value.int .i64 t.t2),(Value.int .i64 t.t3),(Value.int .i64 t.t4),(Value.int .i64 t.t5)],h.row 0 rfl,_,fun v hv=>hv.at rfl,_,fun v hv=>hv.at rfl,_,fun v hv=>hv.at rfl,_,fun v hv=>hv.at rfl,_,fun v hv=>hv.at rfl,?_⟩
  refine q15 (q4t c.R.t1 od) (c.g.fr h.f) fun w7 f7=>?_
  have h:=h.fr f7
  refine⟨h.row 0 rfl,q15 (q4t c.R.t2 od) (c.g.fr h.f) fun w8 f8=>?_⟩
  have h:=h.fr f8
  refine⟨h.row 0 rfl,q15 (q4t c.R.t3 od) (c.g.fr h.f) fun w9 f9=>?_⟩
  have h:=h.fr f9
  refine⟨h.row 0 rfl,q15 (q4t c.R.t4 od) (c.g.fr h.f) fun w10 f10=>?_⟩
  have h:=h.fr f10
  refine⟨h.row 0 rfl,q15 (q4t c.R.t5 od) (c.g.fr h.f) fun w11 f11=>?_⟩
  have h:=h.fr f11
  refine⟨h.row 0 rfl,?_⟩
  intro w12
  obtain⟨h,hw⟩:=h.words (cs:=[q2f,Lib.itoa t.t1,Lib.itoa t.t2,Lib.itoa t.t3,Lib.itoa t.t4,Lib.itoa t.t5].flatMap encB) [q2f,Lib.itoa t.t1,Lib.itoa t.t2,Lib.itoa t.t3,Lib.itoa t.t4,Lib.itoa t.t5] rfl
  refine⟨h.row 0 rfl,?_⟩
  refine q2c c.hl h hw fun w13 h=>⟨h.row 0 rfl,?_⟩
  obtain⟨txt,hb,ht⟩:=h.b
  rw[List.flatMap_nil,Jc]at ht
  subst ht
  have hn:=h.new
  have hlt:=h.lt
  exact qgr hb fun w14 fb=>hK w14 (fb.fr0 h.f oo)
theorem qio(c:DC w0 x t)(h:DS w0 w tb bb x t (t.combos.map Ln.combo++[.budget t.budget,.times t.t1 t.t2 t.t3 t.t4 t.t5]) [])(hK:∀w',Fr F0 w0 w'->K (ofL (q0f t)) w'):z6o_k6 ⟨tb,0,none⟩ ⟨bb,0,none⟩ ⟨bb,0,none⟩ K w:=by
 refine⟨fi ?_⟩
 simp -zeta only[q04]
 exact⟨_,h.r.at,qqj c h hK⟩
theorem qip(c:DC w0 x t)(h:DS w0 w tb bb x t ((if t.most=0 then []else [.most t.most])++(t.combos.map Ln.combo++[.budget t.budget,.times t.t1 t.t2 t.t3 t.t4 t.t5])) [])(hK:∀w',Fr F0 w0 w'->K (ofL (q0f t)) w'):z6o_k5 ⟨tb,0,none⟩ ⟨bb,0,none⟩ ⟨bb,0,none⟩ K w:=by
 refine⟨fi ?_⟩
 simp -zeta only[q04]
 refine⟨_,h.r.at,?_⟩
 rw[c.T.most]
 refine q0r.2 ⟨fun hm=>?_,fun hm=>?_⟩
 ·rw[if_neg hm]at h
  refine⟨_,h.r.at,?_⟩
  rw[c.T.most]
  refine q15 (q4t c.R.most od) (c.g.fr h.f) fun w1 f1=>?_
  have h:=h.fr f1
  intro w2
  obtain⟨h,hw⟩:=h.words (cs:=[Value.string (ofL q3l),Value.string (ofL (Lib.itoa t.most))]) [q3l,Lib.itoa t.most] rfl
  exact q2c c.hl h hw fun w3 h=>qio c h hK
 ·rw[if_pos hm]at h
  exact qio c h hK
end
section
variable{w w' w0 u:World}{s:Sl}{x:T43}{t:Td}{e:En}
theorem q34{low lot:Int}{K:Int->Int->Int->World->Prop}(T:TP w x t)(E:EnOk w e)(hlow:I64 low)
  (hK:∀w',Fr F0 w w'->K (ptsQ (q0e t lot) e low).1.1 (ptsQ (q0e t lot) e low).1.2 (ptsQ (q0e t lot) e low).2 w'):z5d_sh x e.b e.l e.r e.p e.v low K w:=by
 refine⟨fi ?_⟩
 intro w1 w2 w3
 have m:Mem w w3 [(w2.heap.size,[.int .i64 0,.int .i64 0]),(w1.heap.size,encE e),(w.heap.size,x.cs)]:=((Mem.nil.allocL (cs:=x.cs)).allocL (cs:=encE e)).allocL (cs:=[.int .i64 0,.int .i64 0])
 clear_value w3 w2 w1
 refine⟨_,m.ld (i:=3) 1 rfl rfl,?_⟩
 intro w5 w6
 have m':Mem w w6 ((w3.heap.size,([(wPrice,e.p),(wLow,low)]:List Vl).flatMap encV)::_):=(m.allocL (cs:=([(wPrice,e.p),(wLow,low)]:List Vl).flatMap encV)).drew
 have m:Mem w w6 [(w2.heap.size,[.int .i64 0,.int .i64 0]),(w1.heap.size,encE e),(w.heap.size,x.cs)]:=m'.dr 1
 have hne:∀p∈([(w2.heap.size,[.int .i64 0,.int .i64 0]),(w1.heap.size,encE e),(w.heap.size,x.cs)]:List (Nat×List Value)),p.1≠w3.heap.size:=fun p hp=>by
  have h:=m'.2.2.1
  rw[Jj,Je]at h
  have h:=h.1 p.1 (Jg.2 ⟨p,hp,rfl⟩)
  omega
 have hw3:w.heap.size<=w3.heap.size:=m'.2.2.2 _ (List.mem_cons_self ..)
 have mk:Mk w 2 encV w6 ⟨some ⟨w3.heap.size,0,none⟩,2,2⟩ [(wPrice,e.p),(wLow,low)]:=⟨m'.1,Row.ow q46 (l:=([(wPrice,e.p),(wLow,low)]:List Vl)) (m'.row 0),fun b hb=>by
  obtain⟨a,ha,rfl⟩:=hb
  grind⟩
 clear_value w6 w5
 have el:=E.len
 refine⟨fun u=>Mem w u [(w2.heap.size,[.int .i64 0,.int .i64 0]),(w1.heap.size,encE e),(w.heap.size,x.cs)],m,_,fun u h=>h.ld (i:=6) 2 rfl rfl,_,fun u h=>h.ld (i:=7) 2 rfl rfl,_,fun u h=>h.ld (i:=8) 2 rfl rfl,_,fun u h=>h.ld (i:=9) 2 rfl rfl,_,fun u h=>h.ld (i:=10) 2 rfl rfl,_,fun u h=>h.ld (i:=4) 1 rfl rfl,?_⟩
 refine mk.app (m:=e.vals) (E.v.fr m.1) qg1 rfl oy oy fun s14 w15 mk' hf=>?_
 have m:Mem w w15 [(w2.heap.size,[.int .i64 0,.int .i64 0]),(w1.heap.size,encE e),(w.heap.size,x.cs)]:=m.frF hf (fun p hp hb=>by
  obtain⟨a,ha,hb⟩:=hb
  grind) fun b hb=>by
  obtain⟨a,ha,rfl⟩:=hb
  cases ha
  exact hw3
 refine⟨m,?_⟩
 refine qmv (e:=t.fm) (c:=⟨x.f6,x.f7,x.f8,x.f9,x.f10⟩) (T.fm.fr m.1) mk'.vw oy (fun v hv=>?_) fun w16 f16=>?_
 ·rcases J9.1 hv with h|h
  ·simp only[J0,J2,or_false]at h
   rcases h with rfl|rfl
   ·exact E.p
   ·exact hlow
  ·exact E.i v h
 ·have m:=m.fr f16
  refine⟨m,m.wr 0,?_⟩
  intro w19
  have m:=m.set (i:=0) (v:=.int .i64 (ptsQ (q0e t lot) e low).1.1) 0
  refine⟨m.wr 0,?_⟩
  intro w20
  have m:=m.set (i:=1) (v:=.int .i64 (ptsQ (q0e t lot) e low).1.2) 0
  exact⟨_,m.ld 0,_,m.ld 0,hK _ m.1⟩
theorem qqk{n m:B}{k:Int}{b:Nat}{K:Bool->World->Prop}(h:Row w b [.string (ofL m)])(hK:∀w',Fr F0 w w'->K (decide (n=m)) w'):z4a_sh (ofL n) k ⟨b,0,none⟩ K w:=by
 refine⟨fi ?_⟩
 intro w1
 have m1:Mem w w1 [(w.heap.size,[.string (ofL n),.int .i64 k])]:=Mem.nil.allocL (cs:=[.string (ofL n),.int .i64 k])
 clear_value w1
 refine⟨ofL n,m1.ld 0,ofL m,(m1.1.row h fun h=>h).at rfl,?_⟩
 rw[q0c]
 exact hK _ m1.1
theorem qe5{n:B}{K:Int->Bool->World->Prop}(E:EnOk w e)(hK:∀w',Fr F0 w w'->K ((valF e.vals n).getD 0) (valF e.vals n).isSome w'):z5s_sh e.b e.l e.r e.p e.v (ofL n) K w:=by
 refine⟨fi ?_⟩
 intro w1 w2
 have m:Mem w w2 [(w1.heap.size,[.string (ofL n)]),(w.heap.size,encE e)]:=(Mem.nil.allocL (cs:=encE e)).allocL (cs:=[.string (ofL n)])
 clear_value w2 w1
 have el:=E.len
 refine⟨_,m.ld (i:=4) 1 rfl rfl,?_⟩
 refine q4q (E.v.fr m.1) oo (p:=fun v=>decide (v.1=n)) (fun x _=>fun u K hu hK=>q02 z4a_ok (qqk (K:=kk [tB] K) (hu.row (m.row 0) fun h=>h) hK)) fun r w4 f4 hr=>?_
 have m:=m.fr f4
 have hk:=hK w4 m.1
 unfold valF at hk
 refine q00.2 ⟨fun h0=>?_,fun h0=>⟨_,m.ld (i:=4) 1 rfl rfl,?_⟩⟩
 ·rw[hr.none h0]at hk
  exact hk
 ·obtain⟨i,hil,rfl,hf⟩:=hr.find h0
  rw[hf]at hk
  exact Vw.go q46 od (E.v.fr m.1) i rfl hil fun a hc=>⟨_,hc 1 _ rfl,hk⟩
def TieOk(w:World)(f:Value)(g:En->En->Int):Prop:=
 ∀(u:World) (a b:En) (K:VW),Fr F0 w u->EnOk u a->EnOk u b->(∀u',Fr F0 u u'->K (.int .i64 (g a b)) u') ->
  q0y Tryz.prog f [.agg #[.int .i64 a.b,.int .i64 a.l,.int .i64 a.r,.int .i64 a.p,.slice a.v.p a.v.l a.v.c],.agg #[.int .i64 b.b,.int .i64 b.l,.int .i64 b.r,.int .i64 b.p,.slice b.v.p b.v.l b.v.c]] u K
theorem qnh{a b:En}{K:Int->World->Prop}(hK:∀w',Fr F0 w w'->K (cmpI b.p a.p) w'):z5o_sh a.b a.l a.r a.p a.v b.b b.l b.r b.p b.v K w:=by
 refine⟨fi ?_⟩
 intro w1 w2
 have m:Mem w w2 [(w1.heap.size,encE b),(w.heap.size,encE a)]:=(Mem.nil.allocL (cs:=encE a)).allocL (cs:=encE b)
 clear_value w2 w1
 exact⟨_,m.ld (i:=3) 0 rfl rfl,_,m.ld (i:=3) 1 rfl rfl,q8m (hK w2 m.1)⟩
theorem qni{a b:En}{K:Int->World->Prop}(hK:∀w',Fr F0 w w'->K 0 w'):z5q_sh a.b a.l a.r a.p a.v b.b b.l b.r b.p b.v K w:=by
 refine⟨fi ?_⟩
 intro w1 w2
 have m:Mem w w2 [(w1.heap.size,encE b),(w.heap.size,encE a)]:=(Mem.nil.allocL (cs:=encE a)).allocL (cs:=encE b)
 exact hK w2 m.1
theorem qub(x y:Int):cmpI x y=-1\/cmpI x y=0\/cmpI x y=1:=by
 unfold cmpI
 omega
theorem qnj{a b:En}{n:B}{sg:Int}{bn bs:Nat}{K:Int->World->Prop}(rn:Row w bn [.string (ofL n)])(rs:Row w bs [.int .i64 sg])(hs:sg=1\/sg=-1)(Ea:EnOk w a)(Eb:EnOk w b)
  (hK:∀w',Fr F0 w w'->K (match valF a.vals n,valF b.vals n with
   | some x,some y=>sg*cmpI x y
   | _,_=>0) w'):z5r_sh a.b a.l a.r a.p a.v b.b b.l b.r b.p b.v ⟨bn,0,none⟩ ⟨bs,0,none⟩ K w:=by
 refine⟨fi ?_⟩
 intro w1 w2
 have m:Mem w w2 [(w1.heap.size,encE b),(w.heap.size,encE a)]:=(Mem.nil.allocL (cs:=encE a)).allocL (cs:=encE b)
 clear_value w2 w1
 have R:∀ {u:World},Fr F0 w u->Row u bn [.string (ofL n)]:=fun f=>f.row rn fun h=>h
 refine⟨_,m.ld (i:=0) 1 rfl rfl,_,m.ld (i:=1) 1 rfl rfl,_,m.ld (i:=2) 1 rfl rfl,_,m.ld (i:=3) 1 rfl rfl,_,m.ld (i:=4) 1 rfl rfl,_,(R m.1).at rfl,?_⟩
 refine qe5 (Ea.fr m.1) fun w9 f9=>?_
 have m:=m.fr f9
 refine⟨_,m.ld (i:=0) 0 rfl rfl,_,m.ld (i:=1) 0 rfl rfl,_,m.ld (i:=2) 0 rfl rfl,_,m.ld (i:=3) 0 rfl rfl,_,m.ld (i:=4) 0 rfl rfl,_,(R m.1).at rfl,?_⟩
 refine qe5 (Eb.fr m.1) fun w18 f18=>?_
 have m:=m.fr f18
 cases ha:valF a.vals n with
 | none =>
  rw[ha]at hK
  exact q0h (hK w18 m.1)
 | some xa =>
  cases hb:valF b.vals n with
  | none =>
   rw[ha,hb]at hK
   exact q08 (q0h (hK w18 m.1))
  | some xb =>
   rw[ha,hb]at hK
   refine q08 (q08 ?_)
   intro w21
   have m:Mem w w21 [(w1.heap.size,encE b),(w.heap.size,encE a)]:=m.drew
   clear_value w21
   refine⟨fun u=>Fr F0 w u,m.1,sg,fun u f=>(f.row rs fun h=>h).at rfl,q8m ⟨m.1,?_,hK w21 m.1⟩⟩
   have:=qub xa xb
   simp only[Option.getD_some]
   rcases hs with rfl|rfl<;>rcases this with h|h|h<;>rw[h]<;>exact q01 od od
theorem qnk{c:Cr}{n:B}{b:Nat}{K:Bool->World->Prop}(h:Row w b [.string (ofL n)])(hK:∀w',Fr F0 w w'->K (decide (c.name=n)) w'):z5p_sh (ofL c.name) c.kind c.low c.high c.less ⟨b,0,none⟩ K w:=by
 refine⟨fi ?_⟩
 intro w1
 have m1:Mem w w1 [(w.heap.size,encC c)]:=Mem.nil.allocL (cs:=encC c)
 clear_value w1
 refine⟨ofL c.name,m1.ld 0,ofL n,(m1.1.row h fun h=>h).at rfl,?_⟩
 rw[q0c]
 exact hK _ m1.1
theorem qql{n:B}{lot:Int}{K:Value->World->Prop}(T:TP w x t)(hF:Fit t)(hK:∀f w',Fr F0 w w'->TieOk w' f (tieQ (q0e t lot) n)->K f w'):z79_sh x (ofL n) K w:=by
 refine⟨fi ?_⟩
 intro w1 w2
 have m:Mem w w2 [(w1.heap.size,[.string (ofL n)]),(w.heap.size,x.cs)]:=(Mem.nil.allocL (cs:=x.cs)).allocL (cs:=[.string (ofL n)])
 clear_value w2 w1
 have hcl:=hF.crit
 refine⟨_,m.ld 0,?_⟩
 rw[show decide (ofL n=str [112,114,105,99,101])=decide (n=wPrice)from q0c n wPrice]
 refine q00.2 ⟨fun h=>hK _ w2 m.1 fun u a b K hu Ea Eb hK=>?_,fun h=>⟨_,m.ld (i:=2) 1 rfl rfl,?_⟩⟩
 ·refine q02 z5o_ok (qnh (K:=kk [tI] K) fun w' f=>?_)
  have:=hK w' f
  unfold tieQ at this
  rw[if_pos h]at this
  exact this
 refine q29 (T.crit.fr m.1) oo (p:=fun c=>decide (c.name=n)) (fun c _=>fun u K hu hK=>q02 z5p_ok (qnk (K:=kk [tB] K) (hu.row (m.row 0) fun h=>h) hK)) fun r w5 f5 hr=>?_
 have m:=m.fr f5
 have et:∀a b,tieQ (q0e t lot) n a b=match t.crit.find? (fun c=>decide (c.name=n))with
  | none=>0
  | some c=>match valF a.vals n,valF b.vals n with
   | some x,some y=>(if c.less then -1 else 1)*cmpI x y
   | _,_=>0:=fun a b=>by unfold tieQ;rw[if_neg h];rfl
 refine q00.2 ⟨fun h0=>hK _ w5 m.1 fun u a b K hu Ea Eb hK=>?_,fun h0=>?_⟩
 ·refine q02 z5q_ok (qni (K:=kk [tI] K) fun w' f=>?_)
  have:=hK w' f
  rw[et,hr.none h0]at this
  exact this
 obtain⟨i,hil,rfl,hf⟩:=hr.find h0
 intro w7
 have m:Mem w w7 ((w5.heap.size,[.int .i64 0])::_):=m.allocL (cs:=[.int .i64 0])
 clear_value w7
 refine⟨m.wr 0,?_⟩
 intro w8
 have m:Mem w w8 ((w5.heap.size,[.int .i64 1])::_):=m.set (i:=0) (v:=.int .i64 1) 0
 clear_value w8
 have fin:∀ {v:World} {sg:Int},Mem w v [(w5.heap.size,[.int .i64 sg]),(w1.heap.size,[.string (ofL n)]),(w.heap.size,x.cs)]->sg=(if t.crit[i].less then -1 else 1)->z79_k0 ⟨w1.heap.size,0,none⟩ ⟨w5.heap.size,0,none⟩ K v:=fun {v sg} m hs=>by
  refine⟨fi ?_⟩
  refine hK _ v m.1 fun u a b K hu Ea Eb hK=>?_
  refine q02 z5r_ok (qnj (K:=kk [tI] K) (n:=n) (sg:=sg) (hu.row (m.roW 1 rfl) fun h=>h) (hu.row (m.row 0) fun h=>h) ?_ Ea Eb fun w' f=>?_)
  ·omega
  ·have:=hK w' f
   rw[et,hf]at this
   rw[hs]
   exact this
 refine⟨_,m.ld (i:=2) 2 rfl rfl,?_⟩
 refine Vw.go q8k od (T.crit.fr m.1) i rfl hil fun a hc=>⟨_,hc 4 _ rfl,?_⟩
 refine q09.2 ⟨fun h=>⟨m.wr 0,?_⟩,fun h=>fin m (by rw[h];rfl)⟩
 intro w12
 have m:=m.set (i:=0) (v:=.int .i64 (-1)) 0
 exact fin m (by rw[h];rfl)
theorem qqm{v:Rv}{a b:En}{p q:Int×Int}(h:cmpQ p.1 p.2 q.1 q.2=0):betQ v a b p q=qbu v a b v.ties:=by
 unfold betQ
 grind
theorem q99{a b:En}{p q:Int×Int}{lot:Int}{K:Bool->World->Prop}(T:TP w x t)(hF:Fit t)(Ea:EnOk w a)(Eb:EnOk w b)(hp:I64 p.1/\I64 p.2)(hq:I64 q.1/\I64 q.2)
  (hK:∀w',Fr F0 w w'->K (betQ (q0e t lot) a b p q) w'):z4u_sh x a.b a.l a.r a.p a.v b.b b.l b.r b.p b.v p.1 p.2 q.1 q.2 K w:=by
 refine⟨fi ?_⟩
 intro w1 w2 w3 w4 w5
 have m:Mem w w5 [(w4.heap.size,[.int .i64 q.1,.int .i64 q.2]),(w3.heap.size,[.int .i64 p.1,.int .i64 p.2]),(w2.heap.size,encE b),(w1.heap.size,encE a),(w.heap.size,x.cs)]:=
  ((((Mem.nil.allocL (cs:=x.cs)).allocL (cs:=encE a)).allocL (cs:=encE b)).allocL (cs:=[.int .i64 p.1,.int .i64 p.2])).allocL (cs:=[.int .i64 q.1,.int .i64 q.2])
 clear_value w5 w4 w3 w2 w1
 refine⟨_,m.ld (i:=0) 1 rfl rfl,_,m.ld (i:=1) 1 rfl rfl,_,m.ld (i:=0) 0 rfl rfl,_,m.ld (i:=1) 0 rfl rfl,?_⟩
 refine q40 hp.1 hp.2 hq.1 hq.2 fun w10 f10=>?_
 have m:=m.fr f10
 refine q0r.2 ⟨fun hn=>?_,fun h0=>⟨_,m.ld (i:=11) 4 rfl rfl,?_⟩⟩
 ·have hk:=hK w10 m.1
  unfold betQ at hk
  grind
 rw[qqm h0]at hK
 have el:=T.ties.len
 have hl:=hF.ties
 have et:(q0e t lot).ties=t.ties:=rfl
 rw[et]at hK
 refine⟨⟨fun i u=>∃i':Nat,i=i'/\i'<=t.ties.length/\Fr F0 w10 u/\qbu (q0e t lot) a b t.ties=qbu (q0e t lot) a b (t.ties.drop i'),fun i _=>t.ties.length-i.toNat,⟨0,rfl,oo,Fr.refl,rfl⟩,?_⟩⟩
 rintro i u ⟨i,rfl,hi,f,hq⟩
 rw[hq]at hK
 refine fi ?_
 have M:=m.fr f
 refine q00.2 ⟨fun hlt=>?_,fun hge=>?_⟩
 ·have hil:i<t.ties.length:=oo
  have ed:t.ties.drop i=t.ties[i]::t.ties.drop (i+1):=J3 hil
  refine ldB (T.ties.fr M.1) i rfl hil ?_
  intro w15
  have f15:Fr F0 u w15:=Fr.drew
  have M:=M.fr f15
  have f:=f.t f15
  clear_value w15
  have S:∀ {v:World},Fr F0 w15 v->Mem w v _:=fun g=>M.fr g
  refine⟨fun v=>Fr F0 w15 v,Fr.refl,T43.lds_row (fun v g=>(S g).row 4) ?_⟩
  simp -zeta only[q04]
  refine⟨_,fun v g=>(S g).ld (i:=0) 3 rfl rfl,_,fun v g=>(S g).ld (i:=1) 3 rfl rfl,_,fun v g=>(S g).ld (i:=2) 3 rfl rfl,_,fun v g=>(S g).ld (i:=3) 3 rfl rfl,_,fun v g=>(S g).ld (i:=4) 3 rfl rfl,_,fun v g=>(S g).ld (i:=0) 2 rfl rfl,_,fun v g=>(S g).ld (i:=1) 2 rfl rfl,_,fun v g=>(S g).ld (i:=2) 2 rfl rfl,_,fun v g=>(S g).ld (i:=3) 2 rfl rfl,_,fun v g=>(S g).ld (i:=4) 2 rfl rfl,?_⟩
  refine qql (lot:=lot) (T.fr M.1) hF fun fn w28 f28 hfn=>⟨f28,?_⟩
  refine hfn w28 a b _ Fr.refl (Ea.fr (S f28).1) (Eb.fr (S f28).1) fun w31 f31=>⟨_,rfl,f28.t f31,?_⟩
  have M:=S (f28.t f31)
  have F:=f.t (f28.t f31)
  have hk:=hK w31 M.1
  rw[ed]at hk
  unfold qbu at hk
  refine q0r.2 ⟨fun hn=>?_,fun h0=>⟨q01,⟨⟨trivial,trivial,trivial,trivial,trivial,trivial⟩,i+1,oo,oo,F,?_⟩,oo⟩⟩
  ·grind
  ·rw[hq,ed]
   show(if _ then _ else _)=_
   grind
 ·have hil:i=t.ties.length:=oo
  subst hil
  rw[Jf]at hK
  rw[q04,q04]
  exact⟨_,M.ld (i:=2) 3 rfl rfl,_,M.ld (i:=2) 2 rfl rfl,hK u M.1⟩
def encS(y:Dp.Sc):List Value:=[.int .i64 y.1.b,.int .i64 y.1.l,.int .i64 y.1.r,.int .i64 y.1.p,.slice y.1.v.p y.1.v.l y.1.v.c,.int .i64 y.2.1,.int .i64 y.2.2]
@[simp] theorem q24(y:Dp.Sc):(encS y).length=7:=rfl
theorem quc(y:Dp.Sc):∀v∈encS y,okC v=true:=by
 intro v hv
 simp only[encS,J0,J2,or_false]at hv
 rcases hv with rfl|rfl|rfl|rfl|rfl|rfl|rfl<;>rfl
structure ScOk(w:World)(y:Dp.Sc):Prop where
 e:EnOk w y.1
 n:I64 y.2.1
 d:I64 y.2.2
theorem ScOk.fr{y:Dp.Sc}(h:ScOk w y)(f:Fr F0 w w'):ScOk w' y:=⟨h.e.fr f,h.n,h.d⟩
theorem qce{y z:Dp.Sc}{lot:Int}{K:Int->World->Prop}(T:TP w x t)(hF:Fit t)(hy:ScOk w y)(hz:ScOk w z)(hK:∀w',Fr F0 w w'->K (cmpS (q0e t lot) y z) w') :
  z0i_sh x.f0 x.f1 x.f2 x.f3 x.f4 x.f5 x.f6 x.f7 x.f8 x.f9 x.f10 x.f11 x.f12 x.f13 x.f14 x.f15 x.f16 x.f17 x.f18 x.f19 y.1.b y.1.l y.1.r y.1.p y.1.v y.2.1 y.2.2 z.1.b z.1.l z.1.r z.1.p z.1.v z.2.1 z.2.2 K w:=by
 refine⟨fi ?_⟩
 intro w1 w2 w3
 have m:Mem w w3 [(w2.heap.size,encS z),(w1.heap.size,encS y),(w.heap.size,x.cs)]:=((Mem.nil.allocL (cs:=x.cs)).allocL (cs:=encS y)).allocL (cs:=encS z)
 clear_value w3 w2 w1
 unfold cmpS at hK
 refine T43.ld_row (m.row 2) ⟨_,m.ld (i:=0) 1 rfl rfl,_,m.ld (i:=1) 1 rfl rfl,_,m.ld (i:=2) 1 rfl rfl,_,m.ld (i:=3) 1 rfl rfl,_,m.ld (i:=4) 1 rfl rfl,_,m.ld (i:=0) 0 rfl rfl,_,m.ld (i:=1) 0 rfl rfl,_,m.ld (i:=2) 0 rfl rfl,_,m.ld (i:=3) 0 rfl rfl,_,m.ld (i:=4) 0 rfl rfl,_,m.ld (i:=5) 1 rfl rfl,_,m.ld (i:=6) 1 rfl rfl,_,m.ld (i:=5) 0 rfl rfl,_,m.ld (i:=6) 0 rfl rfl,?_⟩
 refine q99 (lot:=lot) (T.fr m.1) hF (hy.e.fr m.1) (hz.e.fr m.1) ⟨hy.n,hy.d⟩ ⟨hz.n,hz.d⟩ fun w19 f19=>?_
 have m:=m.fr f19
 refine q09.2 ⟨fun h=>?_,fun h=>?_⟩
 ·have hk:=hK w19 m.1
  grind
 rw[if_neg (by rw[h];decide)]at hK
 refine T43.ld_row (m.row 2) ⟨_,m.ld (i:=0) 0 rfl rfl,_,m.ld (i:=1) 0 rfl rfl,_,m.ld (i:=2) 0 rfl rfl,_,m.ld (i:=3) 0 rfl rfl,_,m.ld (i:=4) 0 rfl rfl,_,m.ld (i:=0) 1 rfl rfl,_,m.ld (i:=1) 1 rfl rfl,_,m.ld (i:=2) 1 rfl rfl,_,m.ld (i:=3) 1 rfl rfl,_,m.ld (i:=4) 1 rfl rfl,_,m.ld (i:=5) 0 rfl rfl,_,m.ld (i:=6) 0 rfl rfl,_,m.ld (i:=5) 1 rfl rfl,_,m.ld (i:=6) 1 rfl rfl,?_⟩
 refine q99 (lot:=lot) (T.fr m.1) hF (hz.e.fr m.1) (hy.e.fr m.1) ⟨hz.n,hz.d⟩ ⟨hy.n,hy.d⟩ fun w36 f36=>?_
 have hk:=hK w36 (m.1.t f36)
 refine q09.2 ⟨fun h=>?_,fun h=>?_⟩
 ·grind
 ·grind
end
