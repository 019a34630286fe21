/- score: Rank. Conditions: none. -/
import Derived.Test.YtipjnbbfnlfmjaaGreatDoorUQY
import Derived.Test.YtipjnbbfnlfmjaaGreatDoorTE5
open List renaming mem_append->J0,getElem?_eq_getElem->J1,isPrefixOf->J2,mem_cons_of_mem->J3,isPrefixOf_iff_prefix->J4,mem_of_find?_eq_some->J5,take_add_one->J6,length_take->J7,take_length->J8,any_eq_true->J9,mem_map->Ja,find?_eq_none->Jb,mem_cons->Jc,foldl_append->Jd,getElem_mem->Je,find?_some->Jf,find?_cons->Jg
namespace Pw
open Go
def encK (r:Dp.Rk):List Value:=[.int .i64 r.b,.int .i64 r.n,.int .i64 r.d,.int .i64 r.place,.int .i64 r.out]
@[simp] theorem q8i (r:Dp.Rk):(encK r).length=5:=rfl
theorem qf0 (r:Dp.Rk):∀ v∈encK r,okC v=true:=by
 intro v hv
 simp only[encK,Jc,List.not_mem_nil,or_false] at hv
 rcases hv with rfl | rfl | rfl | rfl | rfl<;>rfl
end Pw
namespace Dp
open Go Pw
theorem q3e:∀ (k:Nat) (l:List Sc),(q30 k l).length=l.length
 | _,[]=>rfl
 | k,_ :: l=>by simp[q30,q3e (k+1) l]
theorem q8j:∀ (k:Nat) (l:List Sc) (x:Sc),q30 k (l++[x])=q30 k l++[⟨x.1.b,x.2.1,x.2.2,((k+l.length:Nat):Int)+1,0⟩]
 | k,[],x=>by simp[q30]
 | k,y :: l,x=>by
  show _ :: q30 (k+1) (l++[x])=_ :: (q30 (k+1) l++_)
  rw[q8j (k+1) l x]
  simp[Nat.add_assoc,Nat.add_comm 1]
end Dp
namespace Go.Proofs.YtipjnbbfnlfmjaaGreatDoor
open Go Pw Dp
section
variable {w w' w0 u:World}{s:Sl}{x:T43}{t:Td}
theorem evE_I {vals:List Vl}{e:Fm}{c:XC}(hi:∀ v∈vals,I64 v.2)(hx:XP w e c):I64 (e.evE vals).1.1/\I64 (e.evE vals).1.2:=by
 have hz:I64 0:=⟨by decide,by decide⟩
 unfold Fm.evE
 split
 ·split
  ·rename_i y hy
   exact ev_I hi e hx hy
  ·exact⟨hz,hz⟩
 ·exact⟨hz,hz⟩
theorem ptsA_I {lot low:Int}{e:En}(T:TP w x t)(E:EnOk w e)(hlow:I64 low):I64 (ptsA (q0m t lot) low e).1.1/\I64 (ptsA (q0m t lot) low e).1.2:=by
 have hz:I64 0:=⟨by decide,by decide⟩
 unfold ptsA
 split
 ·refine evE_I (fun v hv=>?_) T.fm
  simp only[Jc] at hv
  rcases hv with rfl | rfl | h
  ·exact E.p
  ·exact hlow
  ·exact E.i v h
 ·exact⟨hz,hz⟩
structure RkI (w4:World)(g:Sl)(gl:List Sc)(o:Sl)(ol:List Rk)(u:World):Prop where
 f:Fr F0 w4 u
 hg:Ow 7 encS u g gl
 ho:Ow 5 encK u o ol
 gn:∀ b,inB g b->w4.heap.size<=b
 on:∀ b,inB o b->w4.heap.size<=b
 dj:∀ b,inB g b->¬inB o b
theorem RkI.fr {w4:World}{g o:Sl}{gl:List Sc}{ol:List Rk}(h:RkI w4 g gl o ol u)(f:Fr F0 u w'):RkI w4 g gl o ol w':=⟨h.f.t f,h.hg.fr f,h.ho.fr f,h.gn,h.on,h.dj⟩
theorem RkI.frB {w4:World}{g o:Sl}{gl:List Sc}{ol:List Rk}{F:Nat->Prop}(h:RkI w4 g gl o ol u)(f:Fr F u w')(h1:∀ b,F b->w4.heap.size<=b)(h2:∀ b,inB g b->¬F b)(h3:∀ b,inB o b->¬F b):RkI w4 g gl o ol w' :=
 ⟨h.f.trans f fun b hb hlt=>by have:=h1 b hb; omega,h.hg.frF f h2,h.ho.frF f h3,h.gn,h.on,h.dj⟩
theorem RkI.pushG {w4:World}{g o:Sl}{gl:List Sc}{ol:List Rk}{y:Sc}{K:SW}{cs:Array Value}(h:RkI w4 g gl o ol u)(hc:cs=(encS y).toArray)(hl:gl.length<2^20)(hK:∀ r u',RkI w4 r (gl++[y]) o ol u'->K r u') :
  apS 7 72 [(Value.int .i64 (0:Int)),(Value.int .i64 (0:Int)),(Value.int .i64 (0:Int)),(Value.int .i64 (0:Int)),(Value.slice none 0 0),(Value.int .i64 (0:Int)),(Value.int .i64 (0:Int))] 91 g ⟨some ⟨u.heap.size,0,none⟩,1,1⟩ (u.alloc (Obj.cells cs 91)) K:=by
 have h':=h.fr (Fr.alloc (o:=Obj.cells cs 91))
 refine h'.hg.app (m:=[y]) (Vw.new rfl hc) qpt rfl (by simp; omega) (by simp; omega) fun r u' ho hf hs=>hK r u' ⟨h'.f.trans hf fun b hb hlt=>by have:=h.gn b hb; omega,ho,h'.ho.frF hf fun b hb hg=>h.dj b hg hb,fun b hb=>?_,h.on,fun b hb hbo=>?_⟩
 ·have h1:=h'.f.1
  rcases hs b hb with h2 | h2
  ·exact h.gn b h2
  ·omega
 ·have:=h'.ho.lt' hbo
  rcases hs b hb with h2 | h2
  ·exact h.dj b h2 hbo
  ·omega
theorem RkI.pushO {w4:World}{g o:Sl}{gl:List Sc}{ol:List Rk}{y:Rk}{K:SW}{cs:Array Value}(h:RkI w4 g gl o ol u)(hc:cs=(encK y).toArray)(hl:ol.length<2^20)(hK:∀ r u',RkI w4 g gl r (ol++[y]) u'->K r u') :
  apS 5 40 [(Value.int .i64 (0:Int)),(Value.int .i64 (0:Int)),(Value.int .i64 (0:Int)),(Value.int .i64 (0:Int)),(Value.int .i64 (0:Int))] 65 o ⟨some ⟨u.heap.size,0,none⟩,1,1⟩ (u.alloc (Obj.cells cs 65)) K:=by
 have h':=h.fr (Fr.alloc (o:=Obj.cells cs 65))
 refine h'.ho.app (m:=[y]) (Vw.new rfl hc) qf0 rfl (by simp; omega) (by simp; omega) fun r u' ho hf hs=>hK r u' ⟨h'.f.trans hf fun b hb hlt=>by have:=h.on b hb; omega,h'.hg.frF hf fun b hb hg=>h.dj b hb hg,ho,h.gn,fun b hb=>?_,fun b hbg hb=>?_⟩
 ·have h1:=h'.f.1
  rcases hs b hb with h2 | h2
  ·exact h.on b h2
  ·omega
 ·have:=h'.hg.lt' hbg
  rcases hs b hb with h2 | h2
  ·exact h.dj b hbg h2
  ·omega
structure RkW (x:T43)(t:Td)(bt:Nat)(own:Sl)(l:List En)(lot:Int)(w:World):Prop where
 T:TP w x t
 rt:Row w bt x.cs
 v:Vw 5 encE w own l
 e:∀ y∈l,EnOk w y
theorem RkW.fr {bt:Nat}{own:Sl}{l:List En}{lot:Int}(h:RkW x t bt own l lot w)(f:Fr F0 w w'):RkW x t bt own l lot w':=⟨h.T.fr f,f.row h.rt fun h=>h,h.v.fr f,fun y hy=>(h.e y hy).fr f⟩
structure RkH (t:Td)(l:List En)(lot:Int):Prop where
 F:Fit t
 len:l.length<=12
 hlot:∃ m,t.lots.find? (fun m=>decide (m.1=lot))=some m
 hl:∀ e∈l,e.l=lot
variable {bt:Nat}{own:Sl}{l:List En}{lot:Int}{K:Sl->Int->World->Prop}
theorem qd7 {w5:World}{g o:Sl}{gs:List Sc}{ol:List Rk}(hg:Vw 7 encS w5 g gs)(ho:Vw 5 encK w5 o ol)(h1:gs.length<=12)(h2:ol.length<=12)(f0:Fr F0 w0 w5)
  (hK:∀ r w',Fr F0 w0 w'->Vw 5 encK w' r (q30 0 gs++ol)->K r 0 w'):z3k_l4 o ⟨none,0,0⟩ g (g.l:Int) 0 K w5:=by
 have el:=hg.len
 refine⟨⟨fun r i u=>∃ i':Nat,i=i'/\i'<=gs.length/\Mk w5 5 encK u r (q30 0 (gs.take i')),fun _ i _=>gs.length-i.toNat,⟨0,rfl,by omega,Mk.nil Fr.refl⟩,?_⟩⟩
 rintro r i u ⟨i,rfl,hi,hm⟩
 have hpl:(q30 0 (gs.take i)).length=i:=by rw[q3e,J7]; omega
 unfold z3k_b4
 refine q00.2 ⟨fun hlt=>?_,fun hge=>?_⟩
 ·have hil:i<gs.length:=by omega
  have tk:gs.take (i+1)=gs.take i++[gs[i]]:=by rw[J6,J1 hil]; rfl
  have tl:(gs.take i).length=i:=by rw[J7]; omega
  refine Vw.go q1k (by decide) (hg.fr hm.fr0) i rfl hil fun a hc=>⟨_,hc 0 _ rfl,_,hc 1 _ rfl,_,hc 2 _ rfl,_,hc 3 _ rfl,_,hc 4 _ rfl,_,hc 5 _ rfl,_,hc 6 _ rfl,?_⟩
  intro w76
  refine q11 rfl Mem.nil fun w77 m=>?_
  clear w76
  have m:Mem u w77 [(u.heap.size,encS gs[i])]:=m
  refine⟨_,m.ld (i:=0) 0 rfl rfl,_,m.ld (i:=5) 0 rfl rfl,_,m.ld (i:=6) 0 rfl rfl,q03,?_⟩
  have hm:=hm.fr m.1
  intro w81
  refine hm.push (a:=⟨gs[i].1.b,gs[i].2.1,gs[i].2.2,(i:Int)+1,0⟩) rfl rfl qf0 rfl (by omega) (by omega) fun s82 w83 hm' hf=>⟨q03,⟨⟨rfl,rfl,rfl,trivial⟩,i+1,by omega,by omega,?_⟩,by dsimp only; omega⟩
  rw[tk,q8j,tl,Nat.zero_add]
  exact hm'
 ·have hil:i=gs.length:=by omega
  subst hil
  rw[J8] at hm hpl
  refine hm.app (ho.fr hm.fr0) qf0 rfl (by omega) (by omega) fun s84 w85 hm' hf=>hK s84 w85 (f0.t hm'.fr0) hm'.vw
theorem qb5 (v:Rv)(low:Int):∀ (es:List En) (s:List Sc × List Rk),(es.foldl (splS v low) s).1.length+(es.foldl (splS v low) s).2.length=s.1.length+s.2.length+es.length
 | [],s=>by simp
 | e :: es,s=>by
  rw[List.foldl_cons,qb5 v low es]
  unfold splS
  split<;>simp<;>omega
theorem qd8 {w4:World}{low:Int}(H:RkH t l lot)(W:RkW x t bt own l lot w4)(hlow:I64 low)(f0:Fr F0 w0 w4)
  (hK:∀ r w',Fr F0 w0 w'->Vw 5 encK w' r (q30 0 (q72 (cmpS (q0m t lot)) (splQ (q0m t lot) low l).1 (splQ (q0m t lot) low l).1.length)++(splQ (q0m t lot) low l).2)->K r 0 w') :
  z3k_l2 ⟨bt,0,none⟩ low ⟨none,0,0⟩ ⟨none,0,0⟩ own (own.l:Int) 0 K w4:=by
 have el:=W.v.len
 have hl:=H.len
 refine⟨⟨fun g o i u=>∃ i':Nat,i=i'/\i'<=l.length/\RkI w4 g ((l.take i').foldl (splS (q0m t lot) low) ([],[])).1 o ((l.take i').foldl (splS (q0m t lot) low) ([],[])).2 u/\∀ y∈((l.take i').foldl (splS (q0m t lot) low) ([],[])).1,ScOk w4 y,fun _ _ i _=>l.length-i.toNat,
  ⟨0,rfl,by omega,⟨Fr.refl,⟨rfl,by simpa using OwnV.nil⟩,⟨rfl,by simpa using OwnV.nil⟩,(fun b ⟨a,ha,_⟩=>by cases ha),(fun b ⟨a,ha,_⟩=>by cases ha),(fun b ⟨a,ha,_⟩=>by cases ha)⟩,fun y hy=>by cases hy⟩,?_⟩⟩
 rintro g o i u ⟨i,rfl,hi,I,hS⟩
 unfold z3k_b2
 have hlen:=qb5 (q0m t lot) low (l.take i) ([],[])
 simp only[List.length_nil,J7,Nat.zero_add] at hlen
 refine q00.2 ⟨fun hlt=>?_,fun hge=>?_⟩
 ·have hil:i<l.length:=by omega
  have tk:l.take (i+1)=l.take i++[l[i]]:=by rw[J6,J1 hil]; rfl
  have hmem:=Je hil
  generalize hst:(l.take i).foldl (splS (q0m t lot) low) ([],[])=st at *
  have hnx:(l.take (i+1)).foldl (splS (q0m t lot) low) ([],[])=splS (q0m t lot) low st l[i]:=by rw[tk,Jd,hst]; rfl
  refine ldE ((W.fr I.f).v) i rfl hil ?_
  intro w30
  refine q11 rfl Mem.nil fun w31 m=>?_
  clear w30
  have m:Mem u w31 [(u.heap.size,encE l[i])]:=m
  have hw4u:=I.f.1
  have I:=I.fr m.1
  have W1:=W.fr I.f
  refine T43.ld_row W1.rt ⟨_,m.ld (i:=0) 0 rfl rfl,_,m.ld (i:=1) 0 rfl rfl,_,m.ld (i:=2) 0 rfl rfl,_,m.ld (i:=3) 0 rfl rfl,_,m.ld (i:=4) 0 rfl rfl,?_⟩
  have hadm:∀ {J:Int->World->Prop},(∀ w',Fr F0 w31 w'->J (admQ (q0m t lot) l[i]) w')->z3c_sh x l[i].b l[i].l l[i].r l[i].p l[i].v J w31:=fun {J} hJ=>by
   have el:=H.hl _ hmem
   refine qa0 (e:=l[i]) W1.T (W1.e _ hmem) H.F (by rw[el]; exact H.hlot) ?_
   rw[el]
   exact hJ
  refine hadm fun w38 f38=>?_
  have hg38:∀ b,inB g b->b<w38.heap.size:=fun b hb=>(I.fr f38).hg.lt' hb
  have ho38:∀ b,inB o b->b<w38.heap.size:=fun b hb=>(I.fr f38).ho.lt' hb
  intro w39
  have m:Mem u w39 ((w38.heap.size,[.int .i64 0,.int .i64 0]) :: _):=(m.fr f38).allocL (cs:=[.int .i64 0,.int .i64 0])
  have I:RkI w4 g st.1 o st.2 w39:=(I.fr f38).fr Fr.alloc
  have hw38:u.heap.size<=w38.heap.size:=m.2.2.2 _ (List.mem_cons_self ..)
  clear_value w39
  have k3:∀ {v:World} {bad:Int} {n d:Int},Mem u v [(w38.heap.size,[.int .i64 n,.int .i64 d]),(u.heap.size,encE l[i])]->RkI w4 g st.1 o st.2 v->bad=(ptsA (q0m t lot) low l[i]).2->(bad=0->(n,d)=(ptsA (q0m t lot) low l[i]).1) ->
    z3k_k3 ⟨bt,0,none⟩ low g o ⟨u.heap.size,0,none⟩ bad ⟨w38.heap.size,0,none⟩ own (own.l:Int) (i:Int) (fun t_3' low_10' good_14' out_15' t_56' t_57' t_58' w'=>((t_3'=(⟨bt,0,none⟩:Addr)/\low_10'=low/\t_56'=own/\t_57'=(own.l:Int)/\True)/\∃ i':Nat,t_58'=i'/\i'<=l.length/\RkI w4 good_14' ((l.take i').foldl (splS (q0m t lot) low) ([],[])).1 out_15' ((l.take i').foldl (splS (q0m t lot) low) ([],[])).2 w'/\∀ y∈((l.take i').foldl (splS (q0m t lot) low) ([],[])).1,ScOk w4 y)/\l.length-t_58'.toNat<l.length-(i:Int).toNat) K v:=fun {v bad n d} m I hbad hnd=>by
   refine⟨?_⟩
   simp -zeta only[q01]
   refine q1s.2 ⟨fun hb=>⟨_,m.ld (i:=0) 1 rfl rfl,?_⟩,fun hb=>⟨_,m.ld (i:=0) 1 rfl rfl,_,m.ld (i:=1) 1 rfl rfl,_,m.ld (i:=2) 1 rfl rfl,_,m.ld (i:=3) 1 rfl rfl,_,m.ld (i:=4) 1 rfl rfl,_,m.ld (i:=0) 0 rfl rfl,_,m.ld (i:=1) 0 rfl rfl,?_⟩⟩
   ·intro w53
    have e1:splS (q0m t lot) low st l[i]=(st.1,st.2++[⟨l[i].b,0,0,0,bad⟩]):=by unfold splS; rw[← hbad,if_pos hb]
    refine I.pushO (y:=⟨l[i].b,0,0,0,bad⟩) rfl (by omega) fun s54 w55 I'=>⟨q03,⟨⟨trivial,trivial,trivial,trivial,trivial⟩,i+1,by omega,by omega,?_,?_⟩,by omega⟩
    ·rw[hnx,e1]; exact I'
    ·rw[hnx,e1]; exact hS
   ·intro w63
    have e1:splS (q0m t lot) low st l[i]=(st.1++[(l[i],(n,d))],st.2):=by unfold splS; rw[← hbad,if_neg (fun h=>h hb),← hnd hb]
    have hpi:=ptsA_I (lot:=lot) W.T (W.e _ hmem) hlow
    rw[← hnd hb] at hpi
    refine I.pushG (y:=(l[i],(n,d))) rfl (by omega) fun s64 w65 I'=>⟨q03,⟨⟨trivial,trivial,trivial,trivial,trivial⟩,i+1,by omega,by omega,?_,?_⟩,by omega⟩
    ·rw[hnx,e1]; exact I'
    ·rw[hnx,e1]
     intro y hy
     rcases J0.1 hy with h | h
     ·exact hS y h
     ·rw[List.mem_singleton.1 h]
      exact⟨W.e _ hmem,hpi.1,hpi.2⟩
  have W2:=W.fr I.f
  refine q09.2 ⟨fun h0=>?_,fun h0=>k3 m I (by unfold ptsA; rw[if_neg h0]) fun h=>absurd h h0⟩
  have e2:ptsA (q0m t lot) low l[i]=ptsQ (q0m t lot) l[i] low:=by unfold ptsA; rw[if_pos h0]
  refine T43.ld_row W2.rt ⟨_,m.ld (i:=0) 1 rfl rfl,_,m.ld (i:=1) 1 rfl rfl,_,m.ld (i:=2) 1 rfl rfl,_,m.ld (i:=3) 1 rfl rfl,_,m.ld (i:=4) 1 rfl rfl,?_⟩
  refine qez (lot:=lot) W2.T (W2.e _ hmem) hlow fun w47 f47=>?_
  have m:=m.fr f47
  have I:=I.fr f47
  refine⟨m.wr 0,?_⟩
  intro w50
  have m':=m.set (i:=0) (v:=.int .i64 (ptsQ (q0m t lot) l[i] low).1.1) 0
  refine⟨m'.wr 0,?_⟩
  intro w51
  have m':=m'.set (i:=1) (v:=.int .i64 (ptsQ (q0m t lot) l[i] low).1.2) 0
  have hf:Fr (fun b=>b=w38.heap.size) w47 w51:=(Fr.set (F:=fun b=>b=w38.heap.size) rfl).trans (Fr.set (F:=fun b=>b=w38.heap.size) rfl) fun _ h _=>h
  have h438:w4.heap.size<=w38.heap.size:=Nat.le_trans hw4u hw38
  have I':=I.frB hf (fun b hb=>by rw[show b=w38.heap.size from hb]; exact h438) (fun b hb he=>by have:=hg38 b hb; rw[show b=w38.heap.size from he] at this; omega) (fun b hb he=>by have:=ho38 b hb; rw[show b=w38.heap.size from he] at this; omega)
  exact k3 m' I' (by rw[e2]) fun _=>by rw[e2]
 ·have hil:i=l.length:=by omega
  subst hil
  rw[J8] at I hS hlen
  have W1:=W.fr I.f
  refine T43.ld_row W1.rt ?_
  have es:splQ (q0m t lot) low l=l.foldl (splS (q0m t lot) low) ([],[]):=rfl
  rw[es] at hK
  generalize l.foldl (splS (q0m t lot) low) ([],[])=st at *
  have hcmp:qpu w4 (.func (.func 27) #[.agg #[(Value.string x.f0),(Value.slice x.f1.p x.f1.l x.f1.c),(Value.slice x.f2.p x.f2.l x.f2.c),(Value.slice x.f3.p x.f3.l x.f3.c),(Value.int .i64 x.f4),(Value.int .i64 x.f5),(Value.string x.f6),(Value.int .i64 x.f7),(Value.int .i64 x.f8),(Value.string x.f9),(Value.slice x.f10.p x.f10.l x.f10.c),(Value.slice x.f11.p x.f11.l x.f11.c),(Value.int .i64 x.f12),(Value.slice x.f13.p x.f13.l x.f13.c),(Value.int .i64 x.f14),(Value.int .i64 x.f15),(Value.int .i64 x.f16),(Value.int .i64 x.f17),(Value.int .i64 x.f18),(Value.int .i64 x.f19)]] #[]) (cmpS (q0m t lot)):=fun v y z K hv hy hz hK =>
   q05 z0e_ok (qb1 (K:=kk [tI] K) (lot:=lot) (W.T.fr hv) H.F (hy.fr hv) (hz.fr hv) hK)
  refine qb2 (w0:=w4) ⟨I.f,I.hg,I.gn⟩ (by omega) hS hcmp fun w5 hm hf=>?_
  refine qd7 (w0:=w0) hm.vw (I.ho.frF hf fun b hb hg=>I.dj b hg hb).vw (by rw[q43]; omega) (by omega) (f0.t hm.fr0) hK
theorem qd9 {w3:World}(H:RkH t l lot)(W:RkW x t bt own l lot w3)(f0:Fr F0 w0 w3)(hK:∀ r w',Fr F0 w0 w'->Vw 5 encK w' r (qeq (q0m t lot) l)->K r 0 w') :
  z3k_l0 ⟨bt,0,none⟩ own 0 false own (own.l:Int) 0 K w3:=by
 have el:=W.v.len
 have hl:=H.len
 refine⟨⟨fun low fd i u=>∃ i':Nat,i=i'/\i'<=l.length/\Fr F0 w3 u/\(low,fd)=(l.take i').foldl (lowS (q0m t lot)) (0,false)/\I64 low,fun _ _ i _=>l.length-i.toNat,⟨0,rfl,by omega,Fr.refl,rfl,⟨by decide,by decide⟩⟩,?_⟩⟩
 rintro low fd i u ⟨i,rfl,hi,f,hq,hlow⟩
 unfold z3k_b0
 refine q00.2 ⟨fun hlt=>?_,fun hge=>?_⟩
 ·have hil:i<l.length:=by omega
  have tk:l.take (i+1)=l.take i++[l[i]]:=by rw[J6,J1 hil]; rfl
  have hmem:=Je hil
  have hnx:(l.take (i+1)).foldl (lowS (q0m t lot)) (0,false)=lowS (q0m t lot) (low,fd) l[i]:=by rw[tk,Jd,← hq]; rfl
  refine ldE ((W.fr f).v) i rfl hil ?_
  intro w12
  refine q11 rfl Mem.nil fun w13 m=>?_
  clear w12
  have m:Mem u w13 [(u.heap.size,encE l[i])]:=m
  have F:=f.t m.1
  have W1:=W.fr F
  refine T43.ld_row W1.rt ⟨_,m.ld (i:=0) 0 rfl rfl,_,m.ld (i:=1) 0 rfl rfl,_,m.ld (i:=2) 0 rfl rfl,_,m.ld (i:=3) 0 rfl rfl,_,m.ld (i:=4) 0 rfl rfl,?_⟩
  have hadm:∀ {J:Int->World->Prop},(∀ w',Fr F0 w13 w'->J (admQ (q0m t lot) l[i]) w')->z3c_sh x l[i].b l[i].l l[i].r l[i].p l[i].v J w13:=fun {J} hJ=>by
   have el:=H.hl _ hmem
   refine qa0 (e:=l[i]) W1.T (W1.e _ hmem) H.F (by rw[el]; exact H.hlot) ?_
   rw[el]
   exact hJ
  refine hadm fun w20 f20=>?_
  have m:=m.fr f20
  have F:=F.t f20
  have same:lowS (q0m t lot) (low,fd) l[i]=(low,fd)->inR .i64 ((i:Int)+1)/\(((⟨bt,0,none⟩:Addr)=⟨bt,0,none⟩/\own=own/\own=own/\(own.l:Int)=(own.l:Int)/\True)/\∃ i':Nat,(i:Int)+1=i'/\i'<=l.length/\Fr F0 w3 w20/\(low,fd)=(l.take i').foldl (lowS (q0m t lot)) (0,false)/\I64 low)/\l.length-((i:Int)+1).toNat<l.length-(i:Int).toNat:=fun h =>
   ⟨q03,⟨⟨rfl,rfl,rfl,rfl,trivial⟩,i+1,by omega,by omega,F,by rw[hnx,h],hlow⟩,by omega⟩
  have take:lowS (q0m t lot) (low,fd) l[i]=(l[i].p,true)->z3k_k1 ⟨bt,0,none⟩ own ⟨u.heap.size,0,none⟩ own (own.l:Int) (i:Int) (fun t_3' own_8' low_10' found_11' t_33' t_34' t_35' w'=>((t_3'=(⟨bt,0,none⟩:Addr)/\own_8'=own/\t_33'=own/\t_34'=(own.l:Int)/\True)/\∃ i':Nat,t_35'=i'/\i'<=l.length/\Fr F0 w3 w'/\(low_10',found_11')=(l.take i').foldl (lowS (q0m t lot)) (0,false)/\I64 low_10')/\l.length-t_35'.toNat<l.length-(i:Int).toNat) K w20:=fun h=>by
   refine⟨?_⟩
   rw[q01]
   exact⟨_,m.ld (i:=3) 0 rfl rfl,q03,⟨⟨rfl,rfl,rfl,rfl,trivial⟩,i+1,by omega,by omega,F,by rw[hnx,h],(W.e _ hmem).p⟩,by omega⟩
  refine q09.2 ⟨fun h0=>?_,fun h0=>same ?_⟩
  ·refine q04.2 ⟨fun hf=>take ?_,fun hf=>⟨_,m.ld (i:=3) 0 rfl rfl,q00.2 ⟨fun hlt=>take ?_,fun hlt=>same ?_⟩⟩⟩
   ·unfold lowS
    rw[if_pos ⟨h0,.inl (by simpa using hf)⟩]
   ·unfold lowS
    rw[if_pos ⟨h0,.inr hlt⟩]
   ·unfold lowS
    rw[if_neg]
    rintro⟨_,h | h⟩
    ·simp only at h
     rw[h] at hf; cases hf
    ·exact hlt h
  ·unfold lowS
   rw[if_neg fun h=>h0 h.1]
 ·have hil:i=l.length:=by omega
  subst hil
  rw[J8] at hq
  have e1:low=(lowQ (q0m t lot) l).1:=by unfold lowQ; rw[← hq]
  subst e1
  exact qd8 (w0:=w0) H (W.fr f) hlow (f0.t f) hK
theorem qda (T:TP w x t)(H:RkH t l lot)(hv:Vw 5 encE w s l)(hb:(l.map (·.b)).Nodup)(hr:(l.map (·.r)).Nodup)(hE:∀ e∈l,EnOk w e)
  (hK:∀ r w',Fr F0 w w'->Vw 5 encK w' r (qeq (q0m t lot) l)->K r 0 w'):z3k_sh x lot s K w:=by
 refine⟨?_⟩
 intro w1
 have m:Mem w w1 [(w.heap.size,x.cs)]:=Mem.nil.allocL (cs:=x.cs)
 clear_value w1
 refine T43.ld_row (m.row 0 rfl) ?_
 have hl:=H.len
 obtain⟨lm,hlm⟩:=H.hlot
 have hany:t.lots.any (fun m=>decide (m.1=lot))=true:=J9.2 ⟨lm,J5 hlm,Jf (p:=fun m:Int × Int=>decide (m.1=lot)) hlm⟩
 refine qd6 (T.fr m.1) H.F (hv.fr m.1) (by omega) hany H.hl hb hr fun own w3 hm=>?_
 have m:=m.fr hm.fr0
 exact q44 (qd9 (w0:=w) H ⟨T.fr m.1,m.row 0,hm.vw,fun e he=>(hE e he).fr m.1⟩ m.1 hK)
end
end Go.Proofs.YtipjnbbfnlfmjaaGreatDoor
namespace Dp
open Go Pw
section
variable {a b:Td}{lot:Int}
theorem qkg {i j:Int}(hi:-9223372036854775808<=i/\i<9223372036854775808)(hj:-9223372036854775808<=j/\j<9223372036854775808)(h:lotC i=lotC j):i=j:=by
 have h:=List.append_cancel_left h
 have h1:=q3v hi.1 hi.2
 have h2:=q3v hj.1 hj.2
 rw[h,h2] at h1
 injection h1 with h1
 exact h1.symm
theorem q1q (ht:q7r a b [lot]=false){c:B}(hh:q5i [lot] c=true)(hc:c∈q02 a\/c∈q02 b):c∈q02 a/\c∈q02 b/\eqc a b c=true:=by
 unfold q7r at ht
 rw[List.any_eq_false] at ht
 have hn:c ∉ q12 a b:=fun h=>ht c (qcg.2 (.base h)) hh
 have hb:c∈both a b:=qme.2 hc.symm
 have hi:isCh a b c=false:=by
  cases h:isCh a b c with
  | false=>rfl
  | true=>exact absurd (qe3.2 ⟨hb,h⟩) hn
 unfold isCh at hi
 simp only[Bool.not_eq_false',Bool.and_eq_true,decide_eq_true_eq] at hi
 exact hi
theorem qkh (i:Int):wLot.isPrefixOf (lotC i)=true:=J4.2 ⟨_,rfl⟩
theorem qng (n:B):q1b.isPrefixOf (q0t n)=true:=J4.2 ⟨_,rfl⟩
theorem qdb (n:B):q5i [lot] (q0t n)=true:=by
 unfold q5i
 rw[if_neg (by simp[q0t,q1b,wLot,J2])]
 simp[q0t,q1b,q0n,q16,q1v,q0f,q0o]
theorem qb6 (k:Nat):q5i [lot] (reqC k)=true:=by
 unfold q5i
 rw[if_neg (by simp[reqC,wReq,wLot,J2])]
 simp[reqC,wReq,q0n,q16,q1v,q0f,q0o]
theorem qnh:q5i [lot] (lotC lot)=true:=by
 unfold q5i
 rw[if_pos (qkh lot)]
 simp
theorem qki {t:Td}{n:B}(h:q0t n∈q02 t):∃ x∈t.crit,x.name=n:=by
 rcases q39 h with h | ⟨l,_,h⟩ | ⟨x,hx,h⟩ | ⟨k,_,h⟩ | h
 ·exact absurd h (by simp[q0t,q1b,q0n])
 ·exact absurd h (by simp[q0t,lotC,q1b,wLot])
 ·exact⟨x,hx,(qci h).symm⟩
 ·exact absurd h (by simp[q0t,reqC,q1b,wReq])
 ·exact absurd h (by simp[q0t,q1b,q35,q0y,q2t,q2u,q1v,q0f,q0o,q16])
theorem qoc {t:Td}{k:Nat}(hk:k<2^62)(hl:t.reqs.length<2^62)(h:reqC k∈q02 t):k<t.reqs.length:=by
 rcases q39 h with h | ⟨l,_,h⟩ | ⟨x,hx,h⟩ | ⟨j,hj,h⟩ | h
 ·exact absurd h (by simp[reqC,wReq,q0n])
 ·exact absurd h (by simp[reqC,lotC,wReq,wLot])
 ·exact absurd h (by simp[reqC,q0t,wReq,q1b])
 ·have:=q76 hk (by omega) h
  omega
 ·exact absurd h (by simp[reqC,wReq,q35,q0y,q2t,q2u,q1v,q0f,q0o,q16])
theorem lot_cl {t:Td}{i:Int}(h:lotC i∈q02 t):∃ l∈t.lots,lotC i=lotC l.1:=by
 rcases q39 h with h | ⟨l,hl,h⟩ | ⟨x,hx,h⟩ | ⟨j,hj,h⟩ | h
 ·exact absurd h (by simp[lotC,wLot,q0n])
 ·exact⟨l,hl,h⟩
 ·exact absurd h (by simp[lotC,q0t,wLot,q1b])
 ·exact absurd h (by simp[lotC,reqC,wLot,wReq])
 ·exact absurd h (by simp[lotC,wLot,q35,q0y,q2t,q2u,q1v,q0f,q0o,q16])
theorem in_lot {t:Td}{l:Int × Int}(h:l∈t.lots):lotC l.1∈q02 t:=q28.2 (.inl (by
 unfold q8x
 exact J3 _ (J0.2 (.inl (Ja.2 ⟨l,h,rfl⟩)))))
theorem qkj {t:Td}{c:Cr}(h:c∈t.crit):q0t c.name∈q02 t:=q28.2 (.inl (by
 unfold q8x
 exact J3 _ (J0.2 (.inr (J0.2 (.inl (Ja.2 ⟨c,h,rfl⟩)))))))
theorem qkk {t:Td}{k:Nat}(h:k<t.reqs.length):reqC k∈q02 t:=q28.2 (.inl (by
 unfold q8x
 exact J3 _ (J0.2 (.inr (J0.2 (.inr (Ja.2 ⟨k,by simpa using h,rfl⟩)))))))
theorem qb7 {t:Td}{c:B}(h:c∈q35):c∈q02 t:=q28.2 (.inr h)
theorem q31 {l:List Cr}(hn:(l.map (·.name)).Nodup){c:Cr}(hc:c∈l):l.find? (fun x=>decide (x.name=c.name))=some c:=by
 induction l with
 | nil=>cases hc
 | cons y l ih =>
  rw[List.map_cons,List.nodup_cons] at hn
  rcases Jc.1 hc with rfl | h
  ·simp
  ·have:¬y.name=c.name:=fun e=>hn.1 (by rw[e]; exact Ja.2 ⟨c,h,rfl⟩)
   rw[List.find?_cons_of_neg (by simpa using this)]
   exact ih hn.2 h
theorem q4g {t:Td}{n:B}:q8y t (q0t n)=(t.crit.find? (fun x=>decide (x.name=n))).getD ⟨[],0,0,0,false⟩:=by
 unfold q8y
 congr 2
 funext x
 rw[decide_eq_decide]
 exact⟨qci,fun h=>by rw[h]⟩
theorem qpv {i:Int}(h:eqc a b (lotC i)=true):lotM a (lotC i)=lotM b (lotC i):=by
 unfold eqc at h
 have n:∀ w∈[q0n,q0y,q2t,q2u,q1v,q0f,q0o,q16],lotC i≠w:=by
  intro w hw e
  have h1:∀ w∈[q0n,q0y,q2t,q2u,q1v,q0f,q0o,q16],(32:UInt8) ∉ w:=by decide
  exact h1 w hw (e ▸ J0.2 (.inl (by decide)))
 rw[if_neg (n _ (by decide)),if_neg (n _ (by decide)),if_neg (n _ (by decide)),if_neg (n _ (by decide)),if_neg (n _ (by decide)),if_neg (n _ (by decide)),if_neg (n _ (by decide)),if_neg (n _ (by decide)),if_pos (qkh i)] at h
 exact of_decide_eq_true h
theorem qgf {n:B}(h:eqc a b (q0t n)=true):q8y a (q0t n)=q8y b (q0t n):=by
 unfold eqc at h
 have q:∀ w∈[q0n,q0y,q2t,q2u,q1v,q0f,q0o,q16],q0t n≠w:=by
  intro w hw e
  have h1:∀ w∈[q0n,q0y,q2t,q2u,q1v,q0f,q0o,q16],(32:UInt8) ∉ w:=by decide
  exact h1 w hw (e ▸ J0.2 (.inl (by decide)))
 rw[if_neg (q _ (by decide)),if_neg (q _ (by decide)),if_neg (q _ (by decide)),if_neg (q _ (by decide)),if_neg (q _ (by decide)),if_neg (q _ (by decide)),if_neg (q _ (by decide)),if_neg (q _ (by decide)),if_neg (by simp[q0t,q1b,wLot,J2]),if_pos (qng n)] at h
 exact of_decide_eq_true h
theorem qpw {k:Nat}(h:eqc a b (reqC k)=true):reqF a (reqC k)=reqF b (reqC k):=by
 unfold eqc at h
 have q:=qiy (k:=k)
 rw[if_neg (q _ (by decide)),if_neg (q _ (by decide)),if_neg (q _ (by decide)),if_neg (q _ (by decide)),if_neg (q _ (by decide)),if_neg (q _ (by decide)),if_neg (q _ (by decide)),if_neg (q _ (by decide)),if_neg (by simp[reqC,wReq,wLot,J2]),if_neg (by simp[reqC,wReq,q1b,J2])] at h
 exact of_decide_eq_true h
structure q3f (v u:Rv):Prop where
 most:v.most=u.most
 low:v.low=u.low
 high:v.high=u.high
 reqs:v.reqs=u.reqs
 fm:v.fm=u.fm
 ties:v.ties=u.ties
 crit:∀ c,c∈v.crit ↔ c∈u.crit
 nv:(v.crit.map (·.name)).Nodup
 nu:(u.crit.map (·.name)).Nodup
theorem qgg {α:Type}{l m:List α}(h:∀ c,c∈l ↔ c∈m)(p:α->Bool):l.any p=m.any p:=by
 rw[Bool.eq_iff_iff,J9,J9]
 exact⟨fun⟨c,h1,h2⟩=>⟨c,(h c).1 h1,h2⟩,fun⟨c,h1,h2⟩=>⟨c,(h c).2 h1,h2⟩⟩
theorem q3f.find {v u:Rv}(h:q3f v u)(n:B):v.crit.find? (fun c=>decide (c.name=n))=u.crit.find? (fun c=>decide (c.name=n)):=by
 cases e:v.crit.find? (fun c=>decide (c.name=n)) with
 | none =>
  rw[Jb] at e
  symm
  rw[Jb]
  exact fun c hc=>e c ((h.crit c).2 hc)
 | some c =>
  have h1:=J5 e
  have h2:c.name=n:=of_decide_eq_true (Jf (p:=fun c:Cr=>decide (c.name=n)) e)
  subst h2
  exact(q31 h.nu ((h.crit c).1 h1)).symm
theorem q3f.adm {v u:Rv}(h:q3f v u)(x:En):admQ v x=admQ u x:=by
 unfold admQ
 rw[h.most,h.low,h.high,h.reqs,qgg h.crit]
 have:(fun w:Vl=>!v.crit.any (fun c=>decide (c.name=w.1)))=fun w:Vl=>!u.crit.any (fun c=>decide (c.name=w.1)):=by
  funext w
  rw[qgg h.crit]
 rw[this]
theorem q3f.tie {v u:Rv}(h:q3f v u)(n:B)(x y:En):tieQ v n x y=tieQ u n x y:=by
 unfold tieQ
 rw[h.find n]
theorem q3f.tiesE {v u:Rv}(h:q3f v u)(x y:En):∀ l:List B,qaw v x y l=qaw u x y l
 | []=>rfl
 | n :: l=>by
  unfold qaw
  rw[h.tie n,h.tiesE x y l]
theorem q3f.bet {v u:Rv}(h:q3f v u)(x y:En)(p q:Int × Int):betQ v x y p q=betQ u x y p q:=by
 unfold betQ
 rw[h.tiesE,h.ties]
theorem q3f.cmp {v u:Rv}(h:q3f v u):cmpS v=cmpS u:=by
 funext x y
 unfold cmpS
 rw[h.bet,h.bet]
theorem q3f.lowS {v u:Rv}(h:q3f v u):lowS v=lowS u:=by
 funext s x
 unfold Dp.lowS
 rw[h.adm]
theorem q3f.splS {v u:Rv}(h:q3f v u)(low:Int):splS v low=splS u low:=by
 have e:ptsA v low=ptsA u low:=by
  funext x
  unfold ptsA ptsQ
  rw[h.adm,h.fm]
 funext s x
 unfold Dp.splS
 rw[e]
theorem q3f.rank {v u:Rv}(h:q3f v u)(es:List En):qeq v es=qeq u es:=by
 unfold qeq splQ lowQ
 rw[h.lowS,h.cmp,h.splS]
theorem alike (ht:q7r a b [lot]=false)(na:(a.crit.map (·.name)).Nodup)(nb:(b.crit.map (·.name)).Nodup)(ra:a.reqs.length<2^62)(rb:b.reqs.length<2^62)
  (la:∀ l∈a.lots,-9223372036854775808<=l.1/\l.1<9223372036854775808) (lb:∀ l∈b.lots,-9223372036854775808<=l.1/\l.1<9223372036854775808) (hl:∃ m,m∈a.lots/\m.1=lot) :
  (∃ m,b.lots.find? (fun l=>decide (l.1=lot))=some m)/\q3f (q0m a lot) (q0m b lot):=by
 obtain⟨m,hm,rfl⟩:=hl
 have hmr:=la m hm
 obtain⟨_,hlb,hle⟩:=q1q ht qnh (.inl (in_lot hm))
 have fnd:∀ {t:Td},(∀ l∈t.lots,-9223372036854775808<=l.1/\l.1<9223372036854775808)->t.lots.find? (fun l=>decide (lotC l.1=lotC m.1))=t.lots.find? (fun l=>decide (l.1=m.1)):=fun {t} h=>by
  generalize t.lots=ls at h
  induction ls with
  | nil=>rfl
  | cons l ls ih =>
   have e:decide (lotC l.1=lotC m.1)=decide (l.1=m.1):=by
    rw[decide_eq_decide]
    exact⟨fun e=>qkg (h l (by simp)) hmr e,fun e=>by rw[e]⟩
   rw[Jg,Jg,e,ih fun x hx=>h x (by simp[hx])]
 have hmost:=qpv hle
 unfold lotM at hmost
 rw[fnd la,fnd lb] at hmost
 obtain⟨l,hl,he⟩:=lot_cl hlb
 have hl1:=qkg hmr (lb l hl) he
 have hsome:(b.lots.find? (fun l=>decide (l.1=m.1))).isSome=true:=by
  rw[List.find?_isSome]
  exact⟨l,hl,by simp[hl1]⟩
 have hr:=(q1q (a:=a) (b:=b) ht (c:=q0y) rfl (.inl (qb7 (by decide)))).2.2
 have hf:=(q1q (a:=a) (b:=b) ht (c:=q2t) rfl (.inl (qb7 (by decide)))).2.2
 have hti:=(q1q (a:=a) (b:=b) ht (c:=q2u) rfl (.inl (qb7 (by decide)))).2.2
 have hr:a.low=b.low/\a.high=b.high:=by
  unfold eqc at hr
  rw[if_neg (by decide),if_pos rfl] at hr
  simpa using hr
 have hf:a.fm=b.fm:=by
  unfold eqc at hf
  rw[if_neg (by decide),if_neg (by decide),if_pos rfl] at hf
  simpa using hf
 have hti:a.ties=b.ties:=by
  unfold eqc at hti
  rw[if_neg (by decide),if_neg (by decide),if_neg (by decide),if_pos rfl] at hti
  simpa using hti
 have hlen:a.reqs.length=b.reqs.length:=by
  rcases Nat.lt_trichotomy a.reqs.length b.reqs.length with h | h | h
  ·have:=qoc (by omega) ra (q1q ht (qb6 a.reqs.length) (.inr (qkk h))).1
   omega
  ·exact h
  ·have:=qoc (by omega) rb (q1q ht (qb6 b.reqs.length) (.inl (qkk h))).2.1
   omega
 have hreqs:a.reqs=b.reqs:=by
  refine List.ext_getElem hlen fun k h1 h2=>?_
  have:=qpw (q1q ht (qb6 k) (.inl (qkk h1))).2.2
  rw[q6g h1 ra,q6g h2 rb] at this
  exact Option.some.inj this
 have hcr:∀ c,c∈a.crit ↔ c∈b.crit:=fun c=>by
  constructor
  ·intro hc
   obtain⟨_,h1,h2⟩:=q1q ht (qdb c.name) (.inl (qkj hc))
   have h2:=qgf h2
   obtain⟨x,hx,hxn⟩:=qki h1
   rw[q4g,q4g,q31 na hc,← hxn,q31 nb hx] at h2
   simp only[Option.getD_some] at h2
   rw[h2]
   exact hx
  ·intro hc
   obtain⟨h1,_,h2⟩:=q1q ht (qdb c.name) (.inr (qkj hc))
   have h2:=qgf h2
   obtain⟨x,hx,hxn⟩:=qki h1
   rw[q4g,q4g,q31 nb hc,← hxn,q31 na hx] at h2
   simp only[Option.getD_some] at h2
   rw[← h2]
   exact hx
 exact⟨Option.isSome_iff_exists.1 hsome,hmost,hr.1,hr.2,hreqs,hf,hti,hcr,na,nb⟩
end
