/- The reference's Made: a formula of numbers. Conditions: none. -/
import Derived.Test.YtipjnbbfnlfmjaaGreatDoorDR1
import Derived.Test.YtipjnbbfnlfmjaaGreatDoorRXY
import Derived.SizedLaws
import Derived.Deep.Slices
import Derived.ChangeArms
open List renaming take_of_length_le->J0,length_take->J1,getElem_take->J2,getElem_append_right->J3,getElem?_eq_getElem->J4,getElem_append_left->J5,mem_cons_self->J6,mem_cons_of_mem->J7,mem_of_mem_take->J8,mem_map->J9,length_cons->Ja,foldl_cons->Jb,length_nil->Jc,set_set->Jd,pairwise_cons->Je,map_cons->Jf,take_add_one->Jg,ext_getElem->Jh,take->Ji,mem_cons->Jj
open Int renaming tmod->Jk,tmod_lt_of_pos->Jl,tdiv->Jm,tmod_nonneg->Jn,tdiv_nonneg->Jo
open Nat renaming le_refl->Jp,min_eq_left->Jq,blt_eq->Jr,le_trans->Js,lt_or_ge->Jt,mul_comm->Ju
namespace Pw
open Go
theorem q2q.row {b:Nat}{vs:List Value}:q2q (fun c=>c=b) (fun w=>Row w b vs):=fun _ _ he h=>h.congr (he b rfl)
theorem Sp.bury {α:Type}{n:Nat}{enc:α->List Value}{w0 w:World}{s:Sl}{l:List α}{L:List (Nat × List Value)}{B:Nat->Prop}{Q:World->Prop}{b:Nat}{vs:List Value}(h:Sp w0 w ((b,vs) :: L) B Q n enc s l) :
  Sp w0 w L (fun c=>B c\/c=b) (fun w=>Q w/\Row w b vs) n enc s l:=by
 have hp:=h.m.2.2.1
 simp only[Jf,Je,J9] at hp
 refine⟨h.m.dr 1,h.rs.and q2q.row,⟨h.q,h.row 0⟩,fun c hc=>?_,h.ow,fun c hc=>⟨(h.os c hc).1,fun hc'=>?_,fun p hp=>(h.os c hc).2.2 p (J7 _ hp)⟩⟩
 ·rcases hc with hc | rfl
  ·exact⟨(h.ap c hc).1,(h.ap c hc).2.1,fun p hp=>(h.ap c hc).2.2 p (J7 _ hp)⟩
  ·exact⟨(h.row 0).lt,h.m.2.2.2 _ (J6 ..),fun p hp' e=>by have:=hp.1 p.1 ⟨p,hp',rfl⟩; omega⟩
 ·rcases hc' with hc' | rfl
  ·exact(h.os c hc).2.1 hc'
  ·exact(h.os c hc).2.2 _ (J6 ..) rfl
theorem sub0 (p:Option Addr)(c n:Nat):subP p 0 c n=p:=by
 unfold subP
 split
 ·rfl
 ·cases p with
  | none=>rfl
  | some a=>simp[Addr.add]
theorem Ow.take {α:Type}{n:Nat}{enc:α->List Value}{w:World}{s:Sl}{l:List α}(h:Ow n enc w s l)(hn:∀ a,(enc a).length=n){j:Nat}(hj:j<=l.length):Ow n enc w ⟨subP s.p 0 s.c n,j-0,s.c-0⟩ (l.take j):=by
 have hl:=h.len
 rw[sub0]
 have hlen:((l.take j).flatMap enc).length=j*n:=by rw[q0a hn]; simp; rw[Jq hj]
 refine⟨by simp; omega,by simpa using hlen,?_⟩
 rcases h.own.2 with⟨h1,h2,h3⟩ | ⟨b,cs,h1,h2,h3,h4,h5⟩
 ·exact .inl ⟨h1,by simp; omega,by simpa using h3⟩
 ·refine .inr ⟨b,cs,h1,h2,by simpa using h3,by simp; omega,?_⟩
  have h6:l.flatMap enc=(l.take j).flatMap enc++(l.drop j).flatMap enc:=by rw[← List.flatMap_append,List.take_append_drop]
  rw[h6] at h5
  have:=congrArg (Ji ((l.take j).flatMap enc).length) h5
  rw[List.take_take,List.take_left,Jq (by simp)] at this
  exact this
theorem Sp.take {α:Type}{n:Nat}{enc:α->List Value}{w0 w:World}{s:Sl}{l:List α}{L:List (Nat × List Value)}{B:Nat->Prop}{Q:World->Prop}(h:Sp w0 w L B Q n enc s l)(hn:∀ a,(enc a).length=n){j:Nat}(hj:j<=l.length):Sp w0 w L B Q n enc ⟨subP s.p 0 s.c n,j-0,s.c-0⟩ (l.take j) :=
 ⟨h.m,h.rs,h.q,h.ap,h.ow.take hn hj,fun b hb=>h.os b (by rw[sub0] at hb; exact hb)⟩
end Pw
namespace Dp
open Go Pw
def q9u:List B:=[[112,114,105,99,101],[108,111,119],[113,117,97,108,105,116,121],[100,97,121,115]]
def opsB:List B:=[[43],[45],[42],[47],wMin,wMax]
def opN (n:Int):Fin 6:=⟨(Jk n 6).toNat,by have:=Jl n (b:=6) (by decide); omega⟩
end Dp
namespace Go.Proofs.YtipjnbbfnlfmjaaGreatDoor
open Go Pw Dp
def qem (r:Int):Fm:=.num (makeQ (Jk r 13-3) (1+Jk (Jm r 13) 4)).n (makeQ (Jk r 13-3) (1+Jk (Jm r 13) 4)).d
def q4n (st:List Fm)(r:Int):List Fm :=
 if h:1<st.length then st.take (st.length-2)++[.op (opN r) st[st.length-2] st[st.length-1]] else st
def q0v (st:List Fm)(x:Int):List Fm :=
 let n:=modP x 1000
 let r:=Jm n 10
 let c:=Jk n 10
 if c=0\/c=1 then st++[qem r] else if c=2\/c=3\/c=4 then st++[.name (q9u.getD (Jk r 4).toNat [])] else q4n st r
def qen (l:List Int):Fm:=match (l.take 80).foldl q0v [] with
 | []=>.name q1m
 | e :: r=>r.foldl (fun a b=>.op 0 a b) e
theorem qhl (st:List Fm)(r:Int):(q4n st r).length<=st.length:=by
 unfold q4n
 split
 ·simp; omega
 ·omega
theorem qcu (st:List Fm)(x:Int):(q0v st x).length<=st.length+1:=by
 unfold q0v
 simp only
 split
 ·simp
 ·split
  ·simp
  ·have:=qhl st (Jm (modP x 1000) 10); omega
theorem q9v {α β:Type}(f:β->α->β)(b:β)(l:List α){i:Nat}(hi:i<l.length):(l.take (i+1)).foldl f b=f ((l.take i).foldl f b) l[i]:=by
 rw[Jg,J4 hi,Option.toList_some,List.foldl_append,Jb,List.foldl_nil]
theorem qga (l:List Int):∀ st:List Fm,(l.foldl q0v st).length<=st.length+l.length:=by
 induction l with
 | nil=>intro st; simp
 | cons x l ih=>intro st; have:=ih (q0v st x); have:=qcu st x; simp only[Jb,Ja]; omega
def XQ (P:Nat->Prop)(w:World):Fm->XC->Prop
 | .op o a b,c=>∃ ca cb i,(c.op=ofL (opB o)/\c.n=0/\c.d=0/\c.nm=ofL [])/\c.a=⟨some ⟨i,0,none⟩,2,2⟩/\Row w i ([ca,cb].flatMap encX)/\P i/\XQ P w a ca/\XQ P w b cb
 | .num n d,c=>XP w (.num n d) c
 | .name s,c=>XP w (.name s) c
theorem pairX {w:World}{i:Nat}{ca cb:XC}(h:Row w i ([ca,cb].flatMap encX)):Vw 5 encX w ⟨some ⟨i,0,none⟩,2,2⟩ [ca,cb]:=(Row.ow q1u (l:=[ca,cb]) h).vw
section
variable {P P':Nat->Prop}{w w' u:World}{s s':Sl}{x:T43}
theorem XQ.xp:∀ {e:Fm} {c:XC},XQ P w e c->XP w e c
 | .num _ _,_,h=>h
 | .name _,_,h=>h
 | .op _ _ _,_,⟨ca,cb,_,h1,h2,h5,_,h3,h4⟩=>⟨ca,cb,h1,by rw[h2]; exact pairX h5,h3.xp,h4.xp⟩
theorem XQ.mono (hp:∀ b,P b->P' b):∀ {e:Fm} {c:XC},XQ P w e c->XQ P' w e c
 | .num _ _,_,h=>h
 | .name _,_,h=>h
 | .op _ _ _,_,⟨ca,cb,i,h1,h2,h5,hi,h3,h4⟩=>⟨ca,cb,i,h1,h2,h5,hp i hi,h3.mono hp,h4.mono hp⟩
theorem XQ.go (he:∀ b,P b->w'.heap[b]?=w.heap[b]?):∀ {e:Fm} {c:XC},XQ P w e c->XQ P w' e c
 | .num _ _,_,h=>h
 | .name _,_,h=>h
 | .op _ _ _,_,⟨ca,cb,i,h1,h2,h5,hi,h3,h4⟩=>⟨ca,cb,i,h1,h2,h5.congr (he i hi),hi,h3.go he,h4.go he⟩
theorem XQ.rests (e:Fm)(c:XC):q2q P (fun w=>XQ P w e c):=fun _ _ he h=>h.go he
def SQ (P:Nat->Prop)(w:World)(cs:List XC)(es:List Fm):Prop:=cs.length=es.length/\∀ i (h:i<cs.length) (h':i<es.length),XQ P w es[i] cs[i]
theorem SQ.rests (cs:List XC)(es:List Fm):q2q P (fun w=>SQ P w cs es):=fun _ _ he h=>⟨h.1,fun i a b=>(h.2 i a b).go he⟩
theorem SQ.mono (hp:∀ b,P b->P' b){cs:List XC}{es:List Fm}(h:SQ P w cs es):SQ P' w cs es:=⟨h.1,fun i a b=>(h.2 i a b).mono hp⟩
theorem SQ.nil:SQ P w [] []:=⟨rfl,fun i h=>absurd h (by simp)⟩
theorem SQ.take {cs:List XC}{es:List Fm}(h:SQ P w cs es)(j:Nat):SQ P w (cs.take j) (es.take j) :=
 ⟨by rw[J1,J1,h.1],fun i a b=>by rw[J2,J2]; exact h.2 i _ _⟩
theorem SQ.push {cs:List XC}{es:List Fm}{c:XC}{e:Fm}(h:SQ P w cs es)(hx:XQ P w e c):SQ P w (cs++[c]) (es++[e]):=by
 refine⟨by simp[h.1],fun i a b=>?_⟩
 rcases Jt i cs.length with hi | hi
 ·rw[J5 hi,J5 (by rw[← h.1]; exact hi)]
  exact h.2 i _ _
 ·have hj:i=cs.length:=by simp at a; omega
  subst hj
  have h1:=h.1
  rw[J3 (Jp _),J3 (by omega)]
  simpa [h.1] using hx
theorem XQ.nam {s:B}(h:s.length<=2^20):XQ P w (.name s) ⟨ofL q0n,0,0,ofL s,⟨none,0,0⟩⟩:=⟨rfl,h⟩
theorem qjp (n d:Int):I64 (makeQ n d).n/\I64 (makeQ n d).d:=by
 unfold makeQ
 split
 ·exact⟨⟨by decide,by decide⟩,⟨by decide,by decide⟩⟩
 ·exact qn3 _
theorem opB_at (o:Fin 6):opsB[o.val]?=some (opB o):=by
 revert o; decide
def mdL (ob tb:Nat):List (Nat × List Value):=[(ob,opsB.flatMap encB),(tb,encX ⟨ofL [],0,0,ofL [],⟨none,0,0⟩⟩)]
theorem opsMd {ob:Nat}{i:Int}{K:ByteArray->Prop}{S:World->Prop}(hS:∀ u,S u->Row u ob (opsB.flatMap encB))(h0:0<=i)(h1:i<6)(hK:K (ofL (opB ⟨i.toNat,by omega⟩))) :
  (0<=i/\i<((6:Nat):Int))/\∃ x:ByteArray,(∀ w':World,S w'->w'.cell? ((⟨ob,0,none⟩:Addr).add (i.toNat*1))=some (Value.string x))/\K x:=by
 refine⟨⟨h0,h1⟩,_,fun u hu=>str_at (l:=opsB) (n:=6) (hS u hu) h0 rfl h1,?_⟩
 have:=opB_at ⟨i.toNat,by omega⟩
 rw[List.getD_eq_getElem?_getD,this]
 exact hK
section
variable {w0 w:World}{P:Nat->Prop}{st ls ops:Sl}{cs:List XC}{es:List Fm}{ob tb:Nat}{t2:Addr}{k r:Int}{N:Sl->Addr->Sl->Sl->Int->World->Prop}{K:ByteArray->Int->Int->ByteArray->Sl->World->Prop}
theorem q6v (h:Sp w0 w (mdL ob tb) P (fun u=>SQ P u cs es) 5 encX st cs)(hl:cs.length<=2^20)(hr:0<=r/\r<100)(hk:0<=k/\k<2^40)
  (hN:∀ u st' cs' P',Sp w0 u (mdL ob tb) P' (fun u=>SQ P' u cs' (es++[qem r])) 5 encX st' cs'->N ls t2 st' ops (k+1) u):z0x_k1 ls t2 st ops k r N K w:=by
 have a1:=Jl r (b:=13) (by decide)
 have a2:=Jn (a:=r) 13 hr.1
 have b1:=Jl (Jm r 13) (b:=4) (by decide)
 have b0:0<=Jm r 13:=Jo hr.1 (by decide)
 have b3:Jm r 13<=r:=Int.tdiv_le_self 13 hr.1
 have b2:=Jn (a:=Jm r 13) 4 b0
 refine⟨?_⟩
 refine⟨by decide,q03,by decide,q03,by decide,q03,?_⟩
 refine qhk (by omega) (by omega) (by omega) fun w7 f7=>?_
 simp -zeta only[Kr]
 have h:=h.fr f7
 intro w10
 have h:Sp w0 w10 ((w7.heap.size,_) :: mdL ob tb) P _ 5 encX st cs:=h.allocL (vs:=[.int .i64 0,.int .i64 0])
 clear_value w10
 refine⟨h.wr 0,?_⟩
 intro w11
 have h:Sp w0 w11 ((w7.heap.size,[_,_]) :: mdL ob tb) P _ 5 encX st cs:=h.set 0
 clear_value w11
 refine⟨h.wr 0,?_⟩
 intro w12
 have h:Sp w0 w12 ((w7.heap.size,[_,_]) :: mdL ob tb) P _ 5 encX st cs:=h.set 0
 clear_value w12
 refine⟨_,h.ld 0,_,h.ld 0,?_⟩
 intro w15
 have h:=h.dr 1
 have hI:=qjp (Jk r 13-3) (1+Jk (Jm r 13) 4)
 refine h.push (a:=⟨ofL wNum,(makeQ (Jk r 13-3) (1+Jk (Jm r 13) 4)).n,(makeQ (Jk r 13-3) (1+Jk (Jm r 13) 4)).d,ofL [],⟨none,0,0⟩⟩) rfl rfl qea rfl (by omega) (by omega) fun s16 w17 h=>?_
 refine⟨q03,hN w17 s16 _ P (h.say (SQ.rests _ _) (fun _ hb=>hb) fun hq=>hq.push ⟨rfl,hI.1,hI.2⟩)⟩
theorem qcv (h:Sp w0 w (mdL ob tb) P (fun u=>SQ P u cs es) 5 encX st cs)(hl:cs.length<=2^20)(hr:0<=r/\r<100)(hk:0<=k/\k<2^40)
  (hN:∀ u st' cs' P',Sp w0 u (mdL ob tb) P' (fun u=>SQ P' u cs' (es++[.name (q9u.getD (Jk r 4).toNat [])])) 5 encX st' cs'->N ls t2 st' ops (k+1) u):z0x_k3 ls t2 st ops k r N K w:=by
 have b1:=Jl r (b:=4) (by decide)
 have b2:=Jn (a:=r) 4 hr.1
 refine⟨?_⟩
 refine⟨?_⟩
 intro w18
 have h:Sp w0 w18 ((w.heap.size,_) :: mdL ob tb) P _ 5 encX st cs:=h.allocL (vs:=q9u.flatMap encB)
 clear_value w18
 refine⟨by decide,⟨b2,b1⟩,_,str_at (h.row 0 rfl) b2 rfl b1,?_⟩
 intro w22
 have h:=h.dr 1
 have hs:(q9u.getD (Jk r 4).toNat []).length<=2^20:=by
  have:(Jk r 4).toNat<4:=by omega
  generalize (Jk r 4).toNat=j at this
  rcases j with _ | _ | _ | _ | j
  iterate 4 decide
  omega
 refine h.push (a:=⟨ofL q0n,0,0,ofL (q9u.getD (Jk r 4).toNat []),⟨none,0,0⟩⟩) rfl rfl qea rfl (by omega) (by omega) fun s16 w17 h=>?_
 exact⟨q03,hN w17 s16 _ P (h.say (SQ.rests _ _) (fun _ hb=>hb) fun hq=>hq.push (XQ.nam hs))⟩
theorem qcw (h:Sp w0 w (mdL ob tb) P (fun u=>SQ P u cs es) 5 encX st cs)(hl:cs.length<=2^20)(hr:0<=r/\r<100)(hk:0<=k/\k<2^40)
  (hN:∀ u st' cs' P',Sp w0 u (mdL ob tb) P' (fun u=>SQ P' u cs' (q4n es r)) 5 encX st' cs'->N ls t2 st' ⟨some ⟨ob,0,none⟩,6,6⟩ (k+1) u):z0x_k4 ls t2 st ⟨some ⟨ob,0,none⟩,6,6⟩ k r N K w:=by
 have hlen:=h.ow.len
 have hq:=h.q.1
 refine⟨?_⟩
 refine q00.2 ⟨fun h1=>?_,fun h1=>?_⟩
 ·have e1:1<es.length:=by omega
  have b1:=Jl r (b:=6) (by decide)
  have b2:=Jn (a:=r) 6 hr.1
  refine⟨q03,ldX h.ow.vw (cs.length-2) (by omega) (by omega) ?_⟩
  intro w31
  have h:Sp w0 w31 ((w.heap.size,_) :: mdL ob tb) P _ 5 encX st cs:=h.allocL (vs:=encX ⟨ofL [],0,0,ofL [],⟨none,0,0⟩⟩)
  clear_value w31
  refine q3w h 0 rfl rfl fun w32 h=>?_
  refine⟨q03,ldX h.ow.vw (cs.length-1) (by omega) (by omega) ?_⟩
  intro w39
  have h:Sp w0 w39 ((w32.heap.size,_) :: (w.heap.size,_) :: mdL ob tb) P _ 5 encX st cs:=h.allocL (vs:=encX ⟨ofL [],0,0,ofL [],⟨none,0,0⟩⟩)
  clear_value w39
  refine q3w h 0 rfl rfl fun w40 h=>?_
  intro w41
  have h:Sp w0 w41 ((w32.heap.size,encX cs[cs.length-1]) :: (w.heap.size,encX cs[cs.length-2]) :: mdL ob tb) P _ 5 encX st cs:=h.drew
  clear_value w41
  refine⟨fun u=>Rs u ((w32.heap.size,encX cs[cs.length-1]) :: (w.heap.size,encX cs[cs.length-2]) :: mdL ob tb),h.sub 0,q03,⟨by decide,by omega,?_⟩,by decide,?_⟩
  ·have:=h.ow.vw.cap; omega
  refine opsMd (S:=fun u=>Rs u ((w32.heap.size,encX cs[cs.length-1]) :: (w.heap.size,encX cs[cs.length-2]) :: mdL ob tb)) (fun u hu=>hu (ob,opsB.flatMap encB) (by simp[mdL])) b2 b1 ?_
  refine⟨_,fun u hu=>hu.ld 1,_,fun u hu=>hu.ld 1,_,fun u hu=>hu.ld 1,_,fun u hu=>hu.ld 1,cs[cs.length-2].a,fun u hu=>hu.ld 1,_,fun u hu=>hu.ld 0,_,fun u hu=>hu.ld 0,_,fun u hu=>hu.ld 0,_,fun u hu=>hu.ld 0,cs[cs.length-1].a,fun u hu=>hu.ld 0,?_⟩
  intro w55
  have h:Sp w0 w55 ((w41.heap.size,_) :: (w32.heap.size,encX cs[cs.length-1]) :: (w.heap.size,encX cs[cs.length-2]) :: mdL ob tb) P _ 5 encX st cs:=h.allocL (vs:=[cs[cs.length-2],cs[cs.length-1]].flatMap encX)
  clear_value w55
  refine⟨h.sub 1,?_⟩
  intro w56
  refine⟨(h.fr Fr.alloc).sub 1,?_⟩
  have h2:=h.take q1u (j:=cs.length-2) (by omega)
  have ej:((st.l:Int)-2).toNat=cs.length-2:=by omega
  rw[ej]
  refine h2.push (a:=⟨ofL (opB ⟨(Jk r 6).toNat,by omega⟩),0,0,ofL [],⟨some ⟨w41.heap.size,0,none⟩,2,2⟩⟩) rfl rfl qea rfl (by simp; omega) (by simp; omega) fun s57 w58 h=>?_
  refine⟨h.sub 1,q03,hN w58 s57 _ _ ((h.bury.dr 2).say (SQ.rests _ _) (fun _ hb=>hb) fun⟨hQ,hR⟩=>?_)⟩
  have eM:q4n es r=es.take (cs.length-2)++[.op (opN r) (es[cs.length-2]'(by omega)) (es[cs.length-1]'(by omega))]:=by
   unfold q4n
   rw[dif_pos e1]
   simp only[hq]
  rw[eM]
  refine SQ.push ((SQ.mono (fun b hb=>.inl hb) hQ).take _) ⟨_,_,w41.heap.size,⟨rfl,rfl,rfl,rfl⟩,rfl,hR,.inr rfl,?_,?_⟩
  ·have:=hQ.2 (cs.length-2) (by omega) (by omega)
   exact XQ.mono (fun b hb=>.inl hb) this
  ·have:=hQ.2 (cs.length-1) (by omega) (by omega)
   exact XQ.mono (fun b hb=>.inl hb) this
 ·refine⟨q03,hN w st cs P ?_⟩
  have:q4n es r=es:=by unfold q4n; rw[dif_neg (by omega)]
  rw[this]
  exact h
end
end
theorem qcx (st:List Fm){x:Int}(hc:Jk (modP x 1000) 10=0\/Jk (modP x 1000) 10=1):q0v st x=st++[qem (Jm (modP x 1000) 10)]:=if_pos hc
theorem qat (st:List Fm){x:Int}(hc:¬(Jk (modP x 1000) 10=0\/Jk (modP x 1000) 10=1))(h3:Jk (modP x 1000) 10=2\/Jk (modP x 1000) 10=3\/Jk (modP x 1000) 10=4):q0v st x=st++[.name (q9u.getD (Jk (Jm (modP x 1000) 10) 4).toNat [])]:=(if_neg hc).trans (if_pos h3)
theorem qeo (st:List Fm){x:Int}(hc:¬(Jk (modP x 1000) 10=0\/Jk (modP x 1000) 10=1))(h3:¬(Jk (modP x 1000) 10=2\/Jk (modP x 1000) 10=3\/Jk (modP x 1000) 10=4)):q0v st x=q4n st (Jm (modP x 1000) 10):=(if_neg hc).trans (if_neg h3)
section
variable {w0 w:World}{P:Nat->Prop}{st ls ops:Sl}{cs:List XC}{es:List Fm}{ob tb:Nat}{t2:Addr}{k r:Int}{N:Sl->Addr->Sl->Sl->Int->World->Prop}{K:ByteArray->Int->Int->ByteArray->Sl->World->Prop}
theorem qcy {c:Int}(h3:c=2\/c=3\/c=4->z0x_k3 ls t2 st ops k r N K w)(h4:¬(c=2\/c=3\/c=4)->z0x_k4 ls t2 st ops k r N K w):z0x_k2 ls t2 st ops k r c N K w:=by
 refine⟨?_⟩
 refine q09.2 ⟨fun h=>q09.2 ⟨fun _=>h3 (.inl h),fun h'=>absurd h h'⟩,fun h2=>q09.2 ⟨fun h=>q09.2 ⟨fun _=>h3 (.inr (.inl h)),fun h'=>absurd h h'⟩,fun h3'=>q09.2 ⟨fun h=>h3 (.inr (.inr h)),fun h4'=>h4 (by omega)⟩⟩⟩
theorem qcz {eb:Nat}{e0:Fm}{er:List Fm}{c0:XC}{cr:List XC}(h:Sp w0 w [(eb,encX c0),(tb,encX ⟨ofL [],0,0,ofL [],⟨none,0,0⟩⟩)] P (fun u=>SQ P u (c0 :: cr) (e0 :: er)) 5 encX st (c0 :: cr))(hl:cr.length<=2^20)
  (hK:∀ w' c,Fr F0 w0 w'->XQ (fun b=>w0.heap.size<=b/\b<w'.heap.size) w' (er.foldl (fun a b=>.op 0 a b) e0) c->K c.op c.n c.d c.nm c.a w'):z0x_l6 ⟨tb,0,none⟩ st ⟨eb,0,none⟩ 1 K w:=by
 have hlen:=h.ow.len
 have hq:=h.q.1
 simp only[Ja] at hlen hq
 refine⟨⟨fun i u=>∃ (i':Nat) (P':Nat->Prop) (c:XC),i=((i'+1:Nat):Int)/\i'<=er.length/\Sp w0 u [(eb,encX c),(tb,encX ⟨ofL [],0,0,ofL [],⟨none,0,0⟩⟩)] P' (fun u=>SQ P' u (c0 :: cr) (e0 :: er)/\XQ P' u ((er.take i').foldl (fun a b=>.op 0 a b) e0) c) 5 encX st (c0 :: cr),fun i _=>er.length+1-i.toNat,⟨0,P,c0,rfl,by omega,h.say (fun u u' he hq=>⟨SQ.rests _ _ u u' he hq.1,XQ.rests _ _ u u' he hq.2⟩) (fun _ hb=>hb) fun hq=>⟨hq,hq.2 0 (by simp) (by simp)⟩⟩,?_⟩⟩
 rintro i u ⟨i,P',c,rfl,hi,h⟩
 unfold z0x_b6
 refine q00.2 ⟨fun hlt=>?_,fun hge=>?_⟩
 ·have hie:i<er.length:=by omega
  intro w73
  have h:=h.drew
  have hd:Sp w0 w73 _ _ _ 5 encX st (c0 :: cr):=h
  clear_value w73
  refine⟨fun v=>v=w73,rfl,?_⟩
  refine⟨_,fun v hv=>by rw[hv]; exact hd.ld (i:=0) 0 rfl rfl,_,fun v hv=>by rw[hv,q01]; exact hd.ld (i:=1) 0 rfl rfl,_,fun v hv=>by rw[hv,q01]; exact hd.ld (i:=2) 0 rfl rfl,_,fun v hv=>by rw[hv,q01]; exact hd.ld (i:=3) 0 rfl rfl,c.a,fun v hv=>by rw[hv,q01]; exact hd.ld (i:=4) 0 rfl rfl,?_⟩
  have hi1:i+1<(c0 :: cr).length:=by simp; omega
  refine Vw.go q1u (by decide) hd.ow.vw (i+1) rfl hi1 fun a hc=>⟨_,fun v hv=>by rw[hv]; exact hc 0 _ rfl,_,fun v hv=>by rw[hv]; exact hc 1 _ rfl,_,fun v hv=>by rw[hv]; exact hc 2 _ rfl,_,fun v hv=>by rw[hv]; exact hc 3 _ rfl,(c0 :: cr)[i+1].a,fun v hv=>by rw[hv]; exact hc 4 _ rfl,?_⟩
  intro w86
  have h2:Sp w0 w86 ((w73.heap.size,_) :: _) _ _ 5 encX st (c0 :: cr):=hd.allocL (vs:=[c,(c0 :: cr)[i+1]].flatMap encX)
  clear_value w86
  refine q3w h2 1 rfl (vs:=encX ⟨ofL (opB 0),0,0,ofL [],⟨some ⟨w73.heap.size,0,none⟩,2,2⟩⟩) rfl fun w87 h=>?_
  refine⟨q03,⟨⟨rfl,rfl,rfl,trivial⟩,i+1,fun b=>P' b\/b=w73.heap.size,⟨ofL (opB 0),0,0,ofL [],⟨some ⟨w73.heap.size,0,none⟩,2,2⟩⟩,by omega,by omega,?_⟩,by dsimp only; omega⟩
  refine h.bury.say (fun u u' he hq=>⟨SQ.rests _ _ u u' he hq.1,XQ.rests _ _ u u' he hq.2⟩) (fun _ hb=>hb) fun⟨⟨hQ,hX⟩,hR⟩=>⟨SQ.mono (fun b hb=>.inl hb) hQ,?_⟩
  rw[q9v _ _ _ hie]
  exact⟨_,_,w73.heap.size,⟨rfl,rfl,rfl,rfl⟩,rfl,hR,.inr rfl,XQ.mono (fun b hb=>.inl hb) hX,XQ.mono (fun b hb=>.inl hb) (hQ.2 (i+1) hi1 (by simp; omega))⟩
 ·have hie:i=er.length:=by omega
  refine⟨_,h.ld (i:=0) 0 rfl rfl,_,by rw[q01]; exact h.ld (i:=1) 0 rfl rfl,_,by rw[q01]; exact h.ld (i:=2) 0 rfl rfl,_,by rw[q01]; exact h.ld (i:=3) 0 rfl rfl,c.a,by rw[q01]; exact h.ld (i:=4) 0 rfl rfl,?_⟩
  refine q3w h 1 rfl rfl fun w93 h=>?_
  refine⟨_,h.ld (i:=0) 1 rfl rfl,_,by rw[q01]; exact h.ld (i:=1) 1 rfl rfl,_,by rw[q01]; exact h.ld (i:=2) 1 rfl rfl,_,by rw[q01]; exact h.ld (i:=3) 1 rfl rfl,c.a,by rw[q01]; exact h.ld (i:=4) 1 rfl rfl,?_⟩
  have hX:=h.q.2
  rw[hie,List.take_length] at hX
  exact hK w93 c h.m.1 (hX.mono fun b hb=>⟨(h.ap b hb).2.1,(h.ap b hb).1⟩)
theorem qd0 (h:Sp w0 w (mdL ob tb) P (fun u=>SQ P u cs es) 5 encX st cs)(hl:cs.length<=2^20)
  (hK:∀ w' c,Fr F0 w0 w'->XQ (fun b=>w0.heap.size<=b/\b<w'.heap.size) w' (match es with | []=>.name q1m | e :: r=>r.foldl (fun a b=>.op 0 a b) e) c->K c.op c.n c.d c.nm c.a w'):z0x_k5 ⟨tb,0,none⟩ st K w:=by
 have hlen:=h.ow.len
 have hq:=h.q.1
 refine⟨?_⟩
 refine q09.2 ⟨fun h0=>?_,fun h0=>?_⟩
 ·refine q3w h 1 rfl (vs:=encX ⟨ofL q0n,0,0,ofL q1m,⟨none,0,0⟩⟩) rfl fun w93 h=>?_
  refine⟨_,h.ld (i:=0) 1 rfl rfl,_,by rw[q01]; exact h.ld (i:=1) 1 rfl rfl,_,by rw[q01]; exact h.ld (i:=2) 1 rfl rfl,_,by rw[q01]; exact h.ld (i:=3) 1 rfl rfl,⟨none,0,0⟩,by rw[q01]; exact h.ld (i:=4) 1 rfl rfl,?_⟩
  have he:es=[]:=List.eq_nil_of_length_eq_zero (by omega)
  subst he
  exact hK w93 ⟨ofL q0n,0,0,ofL q1m,⟨none,0,0⟩⟩ h.m.1 (XQ.nam (by decide))
 ·obtain⟨c0,cr,rfl⟩:∃ c0 cr,cs=c0 :: cr:=by
   cases cs with
   | nil=>simp at hlen; omega
   | cons a b=>exact⟨a,b,rfl⟩
  obtain⟨e0,er,rfl⟩:∃ e0 er,es=e0 :: er:=by
   cases es with
   | nil=>simp at hq
   | cons a b=>exact⟨a,b,rfl⟩
  refine ldX h.ow.vw 0 rfl (by simp) ?_
  intro w71
  have h:Sp w0 w71 ((w.heap.size,_) :: mdL ob tb) P _ 5 encX st (c0 :: cr):=h.allocL (vs:=encX ⟨ofL [],0,0,ofL [],⟨none,0,0⟩⟩)
  clear_value w71
  refine q3w h 0 rfl (vs:=encX c0) rfl fun w72 h=>?_
  have hs:Sp w0 w72 [(w.heap.size,encX c0),(tb,encX ⟨ofL [],0,0,ofL [],⟨none,0,0⟩⟩)] P _ 5 encX st (c0 :: cr) :=
   ⟨h.m.subl (by simp[mdL]),h.rs,h.q,fun b hb=>⟨(h.ap b hb).1,(h.ap b hb).2.1,fun p hp=>(h.ap b hb).2.2 p (by simp[mdL] at hp ⊢; rcases hp with rfl | rfl<;>simp)⟩,h.ow,fun b hb=>⟨(h.os b hb).1,(h.os b hb).2.1,fun p hp=>(h.os b hb).2.2 p (by simp[mdL] at hp ⊢; rcases hp with rfl | rfl<;>simp)⟩⟩
  exact qcz hs (by simp at hl; omega) hK
theorem q8b {l:List Int}(hv:Vw 1 encI w ls l)(hK:∀ w' c,Fr F0 w w'->XQ (fun b=>w.heap.size<=b/\b<w'.heap.size) w' (qen l) c->K c.op c.n c.d c.nm c.a w'):z0x_sh ls K w:=by
 have el:=hv.len
 refine⟨?_⟩
 intro w1
 have m:Mem w w1 [(w.heap.size,_)]:=Mem.nil.allocL (cs:=encX ⟨ofL [],0,0,ofL [],⟨none,0,0⟩⟩)
 clear_value w1
 intro w2
 have m:Mem w w2 (mdL w1.heap.size w.heap.size):=m.allocL (cs:=opsB.flatMap encB)
 clear_value w2
 (try dsimp -zeta only[hA]);generalize w1.heap.size=ob at m
 (try dsimp -zeta only[hA]);generalize w.heap.size=tb at m
 refine⟨⟨fun st i u=>∃ (i':Nat) (P:Nat->Prop) (cs:List XC),i=i'/\i'<=(l.take 80).length/\Sp w u (mdL ob tb) P (fun u=>SQ P u cs (((l.take 80).take i').foldl q0v [])) 5 encX st cs,fun _ i _=>(l.take 80).length-i.toNat,
  ⟨0,_,[],rfl,by omega,(Sp.start m).say (SQ.rests _ _) (fun _ hb=>hb) fun _=>SQ.nil⟩,?_⟩⟩
 rintro st i u ⟨i,P,cs,rfl,hi,h⟩
 have hq:=h.q.1
 have hel:=qga ((l.take 80).take i) []
 simp only[J1,Jc] at hi hel
 have hend:¬(i<l.length/\i<80)->z0x_k5 ⟨tb,0,none⟩ st K u:=fun hn=>by
  refine qd0 h (by omega) fun w' c hf hX=>hK w' c hf ?_
  have:(l.take 80).take i=l.take 80:=J0 (by simp; omega)
  rw[this] at hX
  exact hX
 unfold z0x_b0
 refine q00.2 ⟨fun h1=>q00.2 ⟨fun h2=>?_,fun h2=>hend (by omega)⟩,fun h1=>hend (by omega)⟩
 refine ldI (hv.fr h.m.1) i rfl (by omega) (q24 (by decide) (by decide) ?_)
 have hm:=q2e (l[i]'(by omega)) (m:=1000) (by decide)
 have hil:i<(l.take 80).length:=by simp; omega
 have hstep:=q9v q0v [] (l.take 80) hil
 have hx:(l.take 80)[i]=l[i]'(by omega):=by simp
 rw[hx] at hstep
 generalize l[i]'(by omega)=xi at hm hstep
 have d0:0<=Jm (modP xi 1000) 10:=Jo hm.1 (by decide)
 have d1:Jm (modP xi 1000) 10<100:=by
  obtain⟨v,hv⟩:=Int.eq_ofNat_of_zero_le hm.1
  rw[hv] at hm ⊢
  have:Jm (v:Int) 10=((v / 10:Nat):Int):=rfl
  rw[this]
  omega
 have go:∀ {es':List Fm},q0v (((l.take 80).take i).foldl q0v []) xi=es'->∀ u st' cs' P',Sp w u (mdL ob tb) P' (fun u=>SQ P' u cs' es') 5 encX st' cs'->_:=fun he u st' cs' P' hS=>show((ls=ls/\(⟨tb,0,none⟩:Addr)=⟨tb,0,none⟩/\(⟨some ⟨ob,0,none⟩,6,6⟩:Sl)=⟨some ⟨ob,0,none⟩,6,6⟩/\True)/\∃ (i':Nat) (P:Nat->Prop) (cs:List XC),(i:Int)+1=i'/\i'<=(l.take 80).length/\Sp w u (mdL ob tb) P (fun u=>SQ P u cs (((l.take 80).take i').foldl q0v [])) 5 encX st' cs)/\(l.take 80).length-((i:Int)+1).toNat<(l.take 80).length-(i:Int).toNat from
  ⟨⟨⟨rfl,rfl,rfl,trivial⟩,i+1,P',cs',by omega,by omega,by rw[hstep,he]; exact hS⟩,by omega⟩
 have k1:=fun (hc:Jk (modP xi 1000) 10=0\/Jk (modP xi 1000) 10=1)=>go (qcx _ hc)
 have k3:=fun (hc:¬(Jk (modP xi 1000) 10=0\/Jk (modP xi 1000) 10=1)) h3=>go (qat _ hc h3)
 have k4:=fun (hc:¬(Jk (modP xi 1000) 10=0\/Jk (modP xi 1000) 10=1)) h3=>go (qeo _ hc h3)
 refine⟨by decide,q03,by decide,q09.2 ⟨fun hc=>q09.2 ⟨fun _=>q6v h (by omega) ⟨d0,d1⟩ (by omega) (k1 (.inl hc)),fun hc'=>absurd hc hc'⟩,fun hc0=>q09.2 ⟨fun hc=>q6v h (by omega) ⟨d0,d1⟩ (by omega) (k1 (.inr hc)),fun hc=>qcy (fun h3=>qcv h (by omega) ⟨d0,d1⟩ (by omega) (k3 (by omega) h3)) fun h4=>qcw h (by omega) ⟨d0,d1⟩ (by omega) (k4 (by omega) h4)⟩⟩⟩
end
structure Pn where
 lots:List (Int × Int)
 crit:List (Int × Int × Int × Int)
 reqs:List (Int × Int × Int)
 form:List Int
 ties:List Int
 combos:List (List Int)
 o0:Int
 o1:Int
 o2:Int
 o3:Int
 o4:Int
 o5:Int
 o6:Int
 o7:Int
 o8:Int
 o9:Int
def qau:List B:=[[60,61],[62,61]]
def lotQ (l:Int × Int):Int × Int:=(modP l.1 4,l.2)
def qhm (c:Int × Int × Int × Int):Cr:=⟨namP c.1,modP c.2.1 3,c.2.2.1,c.2.2.2,Jk c.2.2.2 2 != 0⟩
def reqQ (r:Int × Int × Int):Rq:=⟨namP r.1,qau.getD (modP r.2.1 2).toNat [],r.2.2⟩
def tdP (p:Pn):Td:=⟨Lib.itoa p.o9,(p.lots.take 5).map lotQ,(p.crit.take 5).map qhm,(p.reqs.take 4).map reqQ,p.o0,p.o1,qen p.form,(p.ties.take 4).map namP,p.o2,(p.combos.take 3).map (Ji 4),p.o3,p.o4,p.o5,p.o6,p.o7,p.o8⟩
def q4l (x:Int × Int × Int):List Value:=[.int .i64 x.1,.int .i64 x.2.1,.int .i64 x.2.2]
@[simp] theorem q41 (x:Int × Int × Int):(q4l x).length=3:=rfl
def encT4 (x:Int × Int × Int × Int):List Value:=[.int .i64 x.1,.int .i64 x.2.1,.int .i64 x.2.2.1,.int .i64 x.2.2.2]
@[simp] theorem encT4_length (x:Int × Int × Int × Int):(encT4 x).length=4:=rfl
structure PP (w:World)(x:T29)(p:Pn):Prop where
 lots:Vw 2 encL w x.f0 p.lots
 crit:Vw 4 encT4 w x.f1 p.crit
 reqs:Vw 3 q4l w x.f2 p.reqs
 form:Vw 1 encI w x.f3 p.form
 ties:Vw 1 encI w x.f4 p.ties
 combos:CP w x.f5 p.combos
 o0:x.f6=p.o0
 o1:x.f7=p.o1
 o2:x.f8=p.o2
 o3:x.f9=p.o3
 o4:x.f10=p.o4
 o5:x.f11=p.o5
 o6:x.f12=p.o6
 o7:x.f13=p.o7
 o8:x.f14=p.o8
 o9:x.f15=p.o9
theorem PP.fr {w w':World}{x:T29}{p:Pn}(h:PP w x p)(hf:Fr F0 w w'):PP w' x p :=
 { h with lots:=h.lots.fr hf,crit:=h.crit.fr hf,reqs:=h.reqs.fr hf,form:=h.form.fr hf,ties:=h.ties.fr hf,combos:=h.combos.fr hf }
def tbx (p:Pn)(c:XC)(s1 s2 s3 s11 s13:Sl):T43:=⟨ofL (Lib.itoa p.o9),s1,s2,s3,p.o0,p.o1,c.op,c.n,c.d,c.nm,c.a,s11,p.o2,s13,p.o3,p.o4,p.o5,p.o6,p.o7,p.o8⟩
section
variable {w0 w:World}{x:T29}{p:Pn}{c:XC}{s1 s2 s3 s11 s13:Sl}{B:Nat->Prop}{Q:World->Prop}{b1 b2 b3:Nat}{K:T43->World->Prop}
def tnL (b1 b2 b3:Nat)(y:T43)(x:T29):List (Nat × List Value):=[(b3,y.cs),(b2,zT),(b1,x.cs)]
theorem qep (a:Int × Int):∀ v∈encL a,okC v=true:=by intro v hv; simp[encL] at hv; rcases hv with rfl | rfl<;>rfl
theorem qav (a:Cr):∀ v∈encC a,okC v=true:=by intro v hv; simp[encC] at hv; rcases hv with rfl | rfl | rfl | rfl | rfl<;>rfl
theorem qjq (a:Rq):∀ v∈encR a,okC v=true:=by intro v hv; simp[encR] at hv; rcases hv with rfl | rfl | rfl<;>rfl
theorem q1p {α β:Type}(f:α->β)(l:List α){i:Nat}(hi:i<l.length):(l.take (i+1)).map f=(l.take i).map f++[f l[i]]:=by
 rw[Jg,J4 hi,Option.toList_some,List.map_append,Jf,List.map_nil]
theorem qjr (hp:PP w0 x p)(h:Sp w0 w (tnL b1 b2 b3 (tbx p c s1 s2 s3 s11 s13) x) B Q 2 encL s1 [])
  (hK:∀ u s,Sp w0 u (tnL b1 b2 b3 (tbx p c s s2 s3 s11 s13) x) B Q 2 encL s ((p.lots.take 5).map lotQ)->z07_k2 ⟨b1,0,none⟩ ⟨b2,0,none⟩ ⟨b3,0,none⟩ K u):z07_l1 ⟨b1,0,none⟩ ⟨b2,0,none⟩ ⟨b3,0,none⟩ 0 K w:=by
 have el:=hp.lots.len
 refine⟨⟨fun i u=>∃ (i':Nat) (s:Sl),i=i'/\i'<=(p.lots.take 5).length/\Sp w0 u (tnL b1 b2 b3 (tbx p c s s2 s3 s11 s13) x) B Q 2 encL s (((p.lots.take 5).take i').map lotQ),fun i _=>(p.lots.take 5).length-i.toNat,⟨0,s1,rfl,by omega,h⟩,?_⟩⟩
 rintro i u ⟨i,s,rfl,hi,h⟩
 simp only[J1] at hi
 have hend:¬(i<p.lots.length/\i<5)->z07_k2 ⟨b1,0,none⟩ ⟨b2,0,none⟩ ⟨b3,0,none⟩ K u:=fun hn=>hK u s (by
  have:(p.lots.take 5).take i=p.lots.take 5:=J0 (by simp; omega)
  rw[this] at h
  exact h)
 unfold z07_b1
 refine⟨x.f0,h.ld (i:=0) 2 rfl rfl,q00.2 ⟨fun h1=>q00.2 ⟨fun h2=>?_,fun h2=>hend (by omega)⟩,fun h1=>hend (by omega)⟩⟩
 intro w34
 have h:Sp w0 w34 (tnL b1 b2 b3 (tbx p c s s2 s3 s11 s13) x) B Q 2 encL s (((p.lots.take 5).take i).map lotQ):=h.drew
 clear_value w34
 have hil:i<p.lots.length:=by omega
 have hit:i<(p.lots.take 5).length:=by simp; omega
 have hS:Rs w34 (tnL b1 b2 b3 (tbx p c s s2 s3 s11 s13) x)/\Vw 2 encL w34 x.f0 p.lots:=⟨h.sub 0,hp.lots.fr h.m.1⟩
 refine⟨fun u=>Rs u (tnL b1 b2 b3 (tbx p c s s2 s3 s11 s13) x)/\Vw 2 encL u x.f0 p.lots,hS,s,fun u hu=>by rw[q01]; exact hu.1.ld (i:=1) 0 rfl rfl,x.f0,fun u hu=>hu.1.ld (i:=0) 2 rfl rfl,?_⟩
 refine Vw.goS q0s (by decide) hS (fun u hu=>hu.2) i rfl hil fun a hc=>⟨⟨by decide,by decide⟩,_,hc 0 _ rfl,x.f0,fun u hu=>hu.1.ld (i:=0) 2 rfl rfl,?_⟩
 refine Vw.goS q0s (by decide) hS (fun u hu=>hu.2) i rfl hil fun a hc=>⟨⟨by decide,by decide⟩,_,hc 1 _ rfl,?_⟩
 refine q24 (by decide) (by decide) ⟨hS,?_⟩
 intro w45
 have h':=h.fr (Fr.alloc (o:=Obj.cells (encL (lotQ p.lots[i])).toArray 49))
 refine⟨⟨h'.sub 0,hp.lots.fr h'.m.1⟩,h.push (a:=lotQ p.lots[i]) rfl rfl qep rfl (by simp; omega) (by simp; omega) fun s46 w47 h=>⟨⟨h.sub 0,hp.lots.fr h.m.1⟩,?_⟩⟩
 rw[q01]
 refine⟨h.wr 0,?_⟩
 refine⟨q03,⟨⟨rfl,rfl,rfl,trivial⟩,i+1,s46,by omega,by omega,?_⟩,by dsimp only; omega⟩
 have:=h.set (i:=1) (v:=.slice s46.p s46.l s46.c) 0
 rw[q1p _ _ hit,J2]
 exact this
theorem qjs (hp:PP w0 x p)(h:Sp w0 w (tnL b1 b2 b3 (tbx p c s1 s2 s3 s11 s13) x) B Q 5 encC s2 [])
  (hK:∀ u s,Sp w0 u (tnL b1 b2 b3 (tbx p c s1 s s3 s11 s13) x) B Q 5 encC s ((p.crit.take 5).map qhm)->z07_k4 ⟨b1,0,none⟩ ⟨b2,0,none⟩ ⟨b3,0,none⟩ K u):z07_l3 ⟨b1,0,none⟩ ⟨b2,0,none⟩ ⟨b3,0,none⟩ 0 K w:=by
 have el:=hp.crit.len
 refine⟨⟨fun i u=>∃ (i':Nat) (s:Sl),i=i'/\i'<=(p.crit.take 5).length/\Sp w0 u (tnL b1 b2 b3 (tbx p c s1 s s3 s11 s13) x) B Q 5 encC s (((p.crit.take 5).take i').map qhm),fun i _=>(p.crit.take 5).length-i.toNat,⟨0,s2,rfl,by omega,h⟩,?_⟩⟩
 rintro i u ⟨i,s,rfl,hi,h⟩
 simp only[J1] at hi
 have hend:¬(i<p.crit.length/\i<5)->z07_k4 ⟨b1,0,none⟩ ⟨b2,0,none⟩ ⟨b3,0,none⟩ K u:=fun hn=>hK u s (by
  have:(p.crit.take 5).take i=p.crit.take 5:=J0 (by simp; omega)
  rw[this] at h
  exact h)
 unfold z07_b3
 have x1:∀ {v:World},Sp w0 v (tnL b1 b2 b3 (tbx p c s1 s s3 s11 s13) x) B Q 5 encC s (((p.crit.take 5).take i).map qhm)->v.cell? ((⟨b1,0,none⟩:Addr).add 1)=some (Value.slice x.f1.p x.f1.l x.f1.c):=fun h=>by rw[q01]; exact h.ld (i:=1) 2 rfl rfl
 refine⟨x.f1,x1 h,q00.2 ⟨fun h1=>q00.2 ⟨fun h2=>?_,fun h2=>hend (by omega)⟩,fun h1=>hend (by omega)⟩⟩
 have hil:i<p.crit.length:=by omega
 have hit:i<(p.crit.take 5).length:=by simp; omega
 refine⟨x.f1,x1 h,Vw.go encT4_length (by decide) (hp.crit.fr h.m.1) i rfl hil fun a hc=>⟨_,hc 0 _ rfl,_,hc 1 _ rfl,_,hc 2 _ rfl,_,hc 3 _ rfl,?_⟩⟩
 generalize ecr:p.crit[i]=cr
 intro w56
 have h:Sp w0 w56 ((u.heap.size,_) :: tnL b1 b2 b3 (tbx p c s1 s s3 s11 s13) x) B Q 5 encC s _:=h.allocL (vs:=[.int .i64 0,.int .i64 0,.int .i64 0,.int .i64 0])
 clear_value w56
 refine q3w h 0 rfl (vs:=encT4 cr) rfl fun w57 h=>?_
 intro w58
 have h:Sp w0 w58 ((u.heap.size,encT4 cr) :: tnL b1 b2 b3 (tbx p c s1 s s3 s11 s13) x) B Q 5 encC s _:=h.drew
 clear_value w58
 refine⟨fun v=>Rs v ((u.heap.size,encT4 cr) :: tnL b1 b2 b3 (tbx p c s1 s s3 s11 s13) x),h.sub 0,s,fun v hv=>by rw[q01]; exact hv.ld (i:=2) 1 rfl rfl,?_⟩
 refine⟨⟨by decide,by decide⟩,_,fun v hv=>by rw[q01]; exact hv.ld (i:=0) 0 rfl rfl,⟨by decide,by decide⟩,_,fun v hv=>by rw[q01]; exact hv.ld (i:=1) 0 rfl rfl,⟨by decide,by decide⟩,_,fun v hv=>by rw[q01]; exact hv.ld (i:=2) 0 rfl rfl,⟨by decide,by decide⟩,_,fun v hv=>by rw[q01]; exact hv.ld (i:=3) 0 rfl rfl,⟨by decide,by decide⟩,_,fun v hv=>by rw[q01]; exact hv.ld (i:=3) 0 rfl rfl,by decide,?_⟩
 refine q2z fun w66 hf=>?_
 have h:=h.fr hf
 refine⟨h.sub 0,q24 (by decide) (by decide) ⟨h.sub 0,?_⟩⟩
 intro w70
 have h':=h.fr (Fr.alloc (o:=Obj.cells (encC (qhm cr)).toArray 56))
 refine⟨h'.sub 0,h.push (a:=qhm cr) rfl rfl qav rfl (by simp; omega) (by simp; omega) fun s46 w47 h=>⟨h.sub 0,?_⟩⟩
 rw[q01]
 refine⟨h.wr 1,?_⟩
 refine⟨q03,⟨⟨rfl,rfl,rfl,trivial⟩,i+1,s46,by omega,by omega,?_⟩,by dsimp only; omega⟩
 have:=(h.set (i:=2) (v:=.slice s46.p s46.l s46.c) 1).dr 1
 rw[q1p _ _ hit,J2,ecr]
 exact this
theorem qjt (hp:PP w0 x p)(h:Sp w0 w (tnL b1 b2 b3 (tbx p c s1 s2 s3 s11 s13) x) B Q 1 encB s11 [])
  (hK:∀ u s,Sp w0 u (tnL b1 b2 b3 (tbx p c s1 s2 s3 s s13) x) B Q 1 encB s ((p.ties.take 4).map namP)->z07_k8 ⟨b1,0,none⟩ ⟨b2,0,none⟩ ⟨b3,0,none⟩ K u):z07_l7 ⟨b1,0,none⟩ ⟨b2,0,none⟩ ⟨b3,0,none⟩ 0 K w:=by
 have el:=hp.ties.len
 refine⟨⟨fun i u=>∃ (i':Nat) (s:Sl),i=i'/\i'<=(p.ties.take 4).length/\Sp w0 u (tnL b1 b2 b3 (tbx p c s1 s2 s3 s s13) x) B Q 1 encB s (((p.ties.take 4).take i').map namP),fun i _=>(p.ties.take 4).length-i.toNat,⟨0,s11,rfl,by omega,h⟩,?_⟩⟩
 rintro i u ⟨i,s,rfl,hi,h⟩
 simp only[J1] at hi
 have hend:¬(i<p.ties.length/\i<4)->z07_k8 ⟨b1,0,none⟩ ⟨b2,0,none⟩ ⟨b3,0,none⟩ K u:=fun hn=>hK u s (by
  have:(p.ties.take 4).take i=p.ties.take 4:=J0 (by simp; omega)
  rw[this] at h
  exact h)
 unfold z07_b7
 refine⟨x.f4,by rw[q01]; exact h.ld (i:=4) 2 rfl rfl,q00.2 ⟨fun h1=>q00.2 ⟨fun h2=>?_,fun h2=>hend (by omega)⟩,fun h1=>hend (by omega)⟩⟩
 intro w34
 have h:Sp w0 w34 (tnL b1 b2 b3 (tbx p c s1 s2 s3 s s13) x) B Q 1 encB s (((p.ties.take 4).take i).map namP):=h.drew
 clear_value w34
 have hil:i<p.ties.length:=by omega
 have hit:i<(p.ties.take 4).length:=by simp; omega
 have hS:Rs w34 (tnL b1 b2 b3 (tbx p c s1 s2 s3 s s13) x)/\Vw 1 encI w34 x.f4 p.ties:=⟨h.sub 0,hp.ties.fr h.m.1⟩
 refine⟨fun u=>Rs u (tnL b1 b2 b3 (tbx p c s1 s2 s3 s s13) x)/\Vw 1 encI u x.f4 p.ties,hS,s,fun u hu=>by rw[q01]; exact hu.1.ld (i:=11) 0 rfl rfl,x.f4,fun u hu=>by rw[q01]; exact hu.1.ld (i:=4) 2 rfl rfl,?_⟩
 refine Vw.goS encI_length (by decide) hS (fun u hu=>hu.2) i rfl hil fun a hc=>⟨_,hc 0 _ rfl,?_⟩
 refine q2z fun w66 hf=>?_
 have h:=h.fr hf
 refine⟨⟨h.sub 0,hp.ties.fr h.m.1⟩,?_⟩
 intro w70
 have h':=h.fr (Fr.alloc (o:=Obj.cells (encB (namP p.ties[i])).toArray 9))
 refine⟨⟨h'.sub 0,hp.ties.fr h'.m.1⟩,h.push (a:=namP p.ties[i]) rfl rfl q4z rfl (by simp; omega) (by simp; omega) fun s46 w47 h=>⟨⟨h.sub 0,hp.ties.fr h.m.1⟩,?_⟩⟩
 rw[q01]
 refine⟨h.wr 0,?_⟩
 refine⟨q03,⟨⟨rfl,rfl,rfl,trivial⟩,i+1,s46,by omega,by omega,?_⟩,by dsimp only; omega⟩
 have:=h.set (i:=11) (v:=.slice s46.p s46.l s46.c) 0
 rw[q1p _ _ hit,J2]
 exact this
theorem q3b {rb cb i:Nat}{s:Sl}{cr:Int × Int × Int}{K:World->Prop}{hi:i<(p.reqs.take 4).length}{hcr:(p.reqs.take 4)[i]=cr}
  (h:Sp w0 w ((rb,qau.flatMap encB) :: (cb,q4l cr) :: tnL b1 b2 b3 (tbx p c s1 s2 s s11 s13) x) B Q 3 encR s (((p.reqs.take 4).take i).map reqQ))
  (hK:∀ s46 w47,Sp w0 w47 (tnL b1 b2 b3 (tbx p c s1 s2 s46 s11 s13) x) B Q 3 encR s46 (((p.reqs.take 4).take (i+1)).map reqQ)->K w47) :
  ∃ S:World->Prop,S w/\(∀ u:World,S u->Rs u ((cb,q4l cr) :: tnL b1 b2 b3 (tbx p c s1 s2 s s11 s13) x))/\(0<=modP cr.2.1 2/\modP cr.2.1 2<(2:Nat))/\∃ x1:ByteArray,(∀ w':World,S w'->w'.cell? ((Addr.mk rb 0 none).add ((modP cr.2.1 2).toNat*1))=some (Value.string x1)) /\
   let w':World:=w.alloc (Obj.cells #[(Value.string (ofL (namP cr.1))),(Value.string x1),(Value.int .i64 cr.2.2)] 76)
   S w'/\apS 3 40 [(Value.string (str [])),(Value.string (str [])),(Value.int .i64 (0:Int))] 76 s (Sl.mk (some (Addr.mk w.heap.size 0 none)) 1 1) w' fun (s97:Sl) (w98:World)=>S w98/\wrOk w98 ((Addr.mk b3 0 none).add 3)/\let w99:World:=w98.setCell ((Addr.mk b3 0 none).add 3) (Value.slice s97.p s97.l s97.c)
    K w99:=by
 simp only[J1] at hi
 have hm:=q2e cr.2.1 (m:=2) (by decide)
 refine⟨fun u=>Rs u ((rb,qau.flatMap encB) :: (cb,q4l cr) :: tnL b1 b2 b3 (tbx p c s1 s2 s s11 s13) x),h.sub 0,fun u hu p hp=>hu p (J7 _ hp),hm,_,fun v hv=>str_at (l:=qau) (hv (rb,qau.flatMap encB) (J6 ..)) hm.1 rfl hm.2,?_⟩
 intro w96
 have h':=h.fr (Fr.alloc (o:=Obj.cells (encR (reqQ cr)).toArray 76))
 refine⟨h'.sub 0,h.push (a:=reqQ cr) rfl rfl qjq rfl (by simp; omega) (by simp; omega) fun s46 w47 h=>⟨h.sub 0,?_⟩⟩
 rw[q01]
 refine⟨h.wr 2,hK s46 _ ?_⟩
 have:=(h.set (i:=3) (v:=.slice s46.p s46.l s46.c) 2).dr 2
 rw[q1p _ _ (by simp; omega),hcr]
 exact this
theorem qju {i:Nat}{s:Sl}{N:Addr->Addr->Addr->Int->World->Prop}{u:World}(hp:PP w0 x p)(h:Sp w0 u (tnL b1 b2 b3 (tbx p c s1 s2 s s11 s13) x) B Q 3 encR s (((p.reqs.take 4).take i).map reqQ))
  (hN:i<(p.reqs.take 4).length->∀ s v,Sp w0 v (tnL b1 b2 b3 (tbx p c s1 s2 s s11 s13) x) B Q 3 encR s (((p.reqs.take 4).take (i+1)).map reqQ)->N ⟨b1,0,none⟩ ⟨b2,0,none⟩ ⟨b3,0,none⟩ ((i:Int)+1) v)
  (hend:¬(i<p.reqs.length/\i<4)->z07_k6 ⟨b1,0,none⟩ ⟨b2,0,none⟩ ⟨b3,0,none⟩ K u):z07_b5 ⟨b1,0,none⟩ ⟨b2,0,none⟩ ⟨b3,0,none⟩ i N K u:=by
 have el:=hp.reqs.len
 unfold z07_b5
 have x1:∀ {v:World},Sp w0 v (tnL b1 b2 b3 (tbx p c s1 s2 s s11 s13) x) B Q 3 encR s (((p.reqs.take 4).take i).map reqQ)->v.cell? ((⟨b1,0,none⟩:Addr).add 2)=some (Value.slice x.f2.p x.f2.l x.f2.c):=fun h=>by rw[q01]; exact h.ld (i:=2) 2 rfl rfl
 refine⟨x.f2,x1 h,q00.2 ⟨fun h1=>q00.2 ⟨fun h2=>?_,fun h2=>hend (by omega)⟩,fun h1=>hend (by omega)⟩⟩
 have hil:i<p.reqs.length:=by omega
 have hit:i<(p.reqs.take 4).length:=by simp; omega
 refine⟨x.f2,x1 h,Vw.go q41 (by decide) (hp.reqs.fr h.m.1) i rfl hil fun a hc=>⟨_,hc 0 _ rfl,_,hc 1 _ rfl,_,hc 2 _ rfl,?_⟩⟩
 generalize ecr:p.reqs[i]=cr
 intro w80
 have h:Sp w0 w80 ((u.heap.size,_) :: tnL b1 b2 b3 (tbx p c s1 s2 s s11 s13) x) B Q 3 encR s _:=h.allocL (vs:=[.int .i64 0,.int .i64 0,.int .i64 0])
 clear_value w80
 refine q3w h 0 rfl (vs:=q4l cr) rfl fun w57 h=>?_
 intro w82
 have h:Sp w0 w82 ((u.heap.size,q4l cr) :: tnL b1 b2 b3 (tbx p c s1 s2 s s11 s13) x) B Q 3 encR s _:=h.drew
 clear_value w82
 refine⟨fun v=>Rs v ((u.heap.size,q4l cr) :: tnL b1 b2 b3 (tbx p c s1 s2 s s11 s13) x),h.sub 0,s,fun v hv=>by rw[q01]; exact hv.ld (i:=3) 1 rfl rfl,?_⟩
 refine⟨⟨by decide,by decide⟩,_,fun v hv=>by rw[q01]; exact hv.ld (i:=0) 0 rfl rfl,⟨by decide,by decide⟩,_,fun v hv=>by rw[q01]; exact hv.ld (i:=1) 0 rfl rfl,⟨by decide,by decide⟩,_,fun v hv=>by rw[q01]; exact hv.ld (i:=2) 0 rfl rfl,?_⟩
 refine⟨q2z fun w88 hf=>⟨(h.fr hf).sub 0,?_,q24 (by decide) (by decide) ⟨(h.fr hf).sub 0,?_⟩⟩,?_⟩
 ·intro w90
  have h1:Sp w0 w90 ((w88.heap.size,_) :: (u.heap.size,q4l cr) :: tnL b1 b2 b3 (tbx p c s1 s2 s s11 s13) x) B Q 3 encR s _:=(h.fr hf).allocL (vs:=qau.flatMap encB)
  clear_value w90
  refine⟨h1.sub 1,q24 (by decide) (by decide) ?_⟩
  (try dsimp -zeta only[hA]);generalize w88.heap.size=rb at h1 ⊢
  refine q3b (K:=fun v=>inR .i64 ((i:Int)+1)/\N ⟨b1,0,none⟩ ⟨b2,0,none⟩ ⟨b3,0,none⟩ ((i:Int)+1) v) (hi:=hit) (hcr:=by rw[J2]; exact ecr) h1 ?_
  exact fun s46 w47 h=>⟨q03,hN hit s46 w47 h⟩
 ·intro w103
  have h1:Sp w0 w103 ((w88.heap.size,_) :: (u.heap.size,q4l cr) :: tnL b1 b2 b3 (tbx p c s1 s2 s s11 s13) x) B Q 3 encR s _:=(h.fr hf).allocL (vs:=qau.flatMap encB)
  clear_value w103
  (try dsimp -zeta only[hA]);generalize w88.heap.size=rb at h1 ⊢
  refine q3b (K:=fun v=>inR .i64 ((i:Int)+1)/\N ⟨b1,0,none⟩ ⟨b2,0,none⟩ ⟨b3,0,none⟩ ((i:Int)+1) v) (hi:=hit) (hcr:=by rw[J2]; exact ecr) h1 ?_
  exact fun s46 w47 h=>⟨q03,hN hit s46 w47 h⟩
 ·intro w110
  have h1:Sp w0 w110 ((w82.heap.size,_) :: (u.heap.size,q4l cr) :: tnL b1 b2 b3 (tbx p c s1 s2 s s11 s13) x) B Q 3 encR s _:=h.allocL (vs:=qau.flatMap encB)
  clear_value w110
  refine⟨h1.sub 1,q2z fun w111 hf=>?_⟩
  have h1:=h1.fr hf
  refine⟨h1.sub 1,q24 (by decide) (by decide) ?_⟩
  (try dsimp -zeta only[hA]);generalize w82.heap.size=rb at h1 ⊢
  refine q3b (K:=fun v=>inR .i64 ((i:Int)+1)/\N ⟨b1,0,none⟩ ⟨b2,0,none⟩ ⟨b3,0,none⟩ ((i:Int)+1) v) (hi:=hit) (hcr:=by rw[J2]; exact ecr) h1 ?_
  exact fun s46 w47 h=>⟨q03,hN hit s46 w47 h⟩
theorem qjv (hp:PP w0 x p)(h:Sp w0 w (tnL b1 b2 b3 (tbx p c s1 s2 s3 s11 s13) x) B Q 3 encR s3 [])
  (hK:∀ u s,Sp w0 u (tnL b1 b2 b3 (tbx p c s1 s2 s s11 s13) x) B Q 3 encR s ((p.reqs.take 4).map reqQ)->z07_k6 ⟨b1,0,none⟩ ⟨b2,0,none⟩ ⟨b3,0,none⟩ K u):z07_l5 ⟨b1,0,none⟩ ⟨b2,0,none⟩ ⟨b3,0,none⟩ 0 K w:=by
 have el:=hp.reqs.len
 refine⟨⟨fun i u=>∃ (i':Nat) (s:Sl),i=i'/\i'<=(p.reqs.take 4).length/\Sp w0 u (tnL b1 b2 b3 (tbx p c s1 s2 s s11 s13) x) B Q 3 encR s (((p.reqs.take 4).take i').map reqQ),fun i _=>(p.reqs.take 4).length-i.toNat,⟨0,s3,rfl,by omega,h⟩,?_⟩⟩
 rintro i u ⟨i,s,rfl,hi,h⟩
 simp only[J1] at hi
 have hend:¬(i<p.reqs.length/\i<4)->z07_k6 ⟨b1,0,none⟩ ⟨b2,0,none⟩ ⟨b3,0,none⟩ K u:=fun hn=>hK u s (by
  have:(p.reqs.take 4).take i=p.reqs.take 4:=J0 (by simp; omega)
  rw[this] at h
  exact h)
 refine qju hp h (fun hit s46 w47 h=>⟨⟨⟨rfl,rfl,rfl,trivial⟩,i+1,s46,by omega,by omega,h⟩,by dsimp only; omega⟩) hend
end
end Go.Proofs.YtipjnbbfnlfmjaaGreatDoor
namespace Pw
open Go
theorem Sp.nextRow {α β:Type}{n n':Nat}{enc:α->List Value}{enc':β->List Value}{w0 w:World}{s:Sl}{l:List α}{L:List (Nat × List Value)}{B:Nat->Prop}{Q:World->Prop}{b:Nat}{l':List β}(hn:∀ a,(enc' a).length=n')(h:Sp w0 w ((b,l'.flatMap enc') :: L) B Q n enc s l) :
  Sp w0 w L (fun b=>B b\/inB s b) (fun w=>Q w/\Ow n enc w s l) n' enc' ⟨some ⟨b,0,none⟩,l'.length,l'.length⟩ l':=by
 have h2:=(h.next (β:=β) (n':=n') (enc':=enc'))
 have hp:=h.m.2.2.1
 simp only[Jf,Je,J9] at hp
 refine⟨h.m.dr 1,h2.rs,h2.q,fun c hc=>⟨(h2.ap c hc).1,(h2.ap c hc).2.1,fun p hp=>(h2.ap c hc).2.2 p (J7 _ hp)⟩,?_,fun c ⟨a,ha,hb⟩=>?_⟩
 ·refine⟨rfl,by simp[q0a hn],.inr ⟨b,_,rfl,h.row 0,by simp[q0a hn],Jp _,J0 (Jp _)⟩⟩
 ·cases ha
  subst hb
  exact⟨h.m.2.2.2 _ (J6 ..),fun hB=>(h2.ap _ hB).2.2 _ (J6 ..) rfl,fun p hp' e=>by have:=hp.1 p.1 ⟨p,hp',rfl⟩; simp only at e; omega⟩
theorem stN5 {α:Type}{n:Nat}{enc:α->List Value}{w0 w:World}{s:Sl}{l:List α}{L:List (Nat × List Value)}{B:Nat->Prop}{Q:World->Prop}{b o j:Nat}{cs:List Value}{v0 v1 v2 v3 v4:Value}{K:World->Prop}(h:Sp w0 w L B Q n enc s l)(hj:L[j]?=some (b,cs))(ho:o+5<=cs.length)
  (hK:∀ w',Sp w0 w' (L.set j (b,(((((cs.set o v0).set (o+1) v1).set (o+2) v2).set (o+3) v3).set (o+4) v4))) B Q n enc s l->K w'):stN w ⟨b,o,none⟩ [v0,v1,v2,v3,v4] K:=by
 have hl:j<L.length:=(List.getElem?_eq_some_iff.1 hj).1
 have sj:∀ (M:List (Nat × List Value)) (p:Nat × List Value),M.length=L.length->(M.set j p)[j]?=some p:=fun M p h=>List.getElem?_set_self (by omega)
 have e:∀ k:Nat,(⟨b,o,none⟩:Addr).add k=⟨b,o+k,none⟩:=fun k=>q01 b o k
 have h1:=h.set (i:=o) (v:=v0) j hj
 have h2:=h1.set (i:=o+1) (v:=v1) j (sj _ _ rfl)
 have h3:=h2.set (i:=o+2) (v:=v2) j (sj _ _ (by simp))
 have h4:=h3.set (i:=o+3) (v:=v3) j (sj _ _ (by simp))
 have h5:=h4.set (i:=o+4) (v:=v4) j (sj _ _ (by simp))
 have w0':=h.wr j hj (i:=o) (by simp[Jr]; omega)
 have w1':=h1.wr j (sj _ _ rfl) (i:=o+1) (by simp[Jr]; omega)
 have w2':=h2.wr j (sj _ _ (by simp)) (i:=o+2) (by simp[Jr]; omega)
 have w3':=h3.wr j (sj _ _ (by simp)) (i:=o+3) (by simp[Jr]; omega)
 have w4':=h4.wr j (sj _ _ (by simp)) (i:=o+4) (by simp[Jr]; omega)
 rw[Jd,Jd,Jd,Jd] at h5
 have hk:=hK _ h5
 unfold stN stN.go stN.go stN.go stN.go stN.go stN.go
 rw[e,e,e,e,e]
 exact⟨w0',w1',w2',w3',w4',hk⟩
end Pw
namespace Go.Proofs.YtipjnbbfnlfmjaaGreatDoor
open Go Pw Dp
def InZ (w:World)(Z:List Sl)(L:List (List Int)):Prop:=Z.length=L.length/\∀ i (h:i<Z.length) (h':i<L.length),Vw 1 encI w Z[i] L[i]
def IoZ (w:World)(Z:List Sl)(L:List (List Int)):Prop:=Z.length=L.length/\∀ i (h:i<Z.length) (h':i<L.length),Ow 1 encI w Z[i] L[i]
theorem IoZ.inz {w:World}{Z:List Sl}{L:List (List Int)}(h:IoZ w Z L):InZ w Z L:=⟨h.1,fun i a b=>(h.2 i a b).vw⟩
theorem IoZ.push {w:World}{Z:List Sl}{L:List (List Int)}{s:Sl}{l:List Int}(h:IoZ w Z L)(hv:Ow 1 encI w s l):IoZ w (Z++[s]) (L++[l]):=by
 refine⟨by simp[h.1],fun i a b=>?_⟩
 rcases Jt i Z.length with hi | hi
 ·rw[J5 hi,J5 (by rw[← h.1]; exact hi)]
  exact h.2 i _ _
 ·have hj:i=Z.length:=by simp at a; omega
  subst hj
  have h1:=h.1
  rw[J3 (Jp _),J3 (by omega)]
  simpa [h.1] using hv
theorem IoZ.pop {w:World}{Z:List Sl}{L:List (List Int)}{s:Sl}{l:List Int}(h:IoZ w (Z++[s]) (L++[l])):IoZ w Z L/\Ow 1 encI w s l:=by
 obtain⟨h1,h2⟩:=h
 simp only[List.length_append,Ja,Jc] at h1
 refine⟨⟨by omega,fun i a b=>?_⟩,?_⟩
 ·have:=h2 i (by simp; omega) (by simp; omega)
  rw[J5 a,J5 b] at this
  exact this
 ·have:=h2 Z.length (by simp) (by simp; omega)
  rw[J3 (Jp _),J3 (by omega)] at this
  have e:Z.length=L.length:=by omega
  simpa [e] using this
theorem q6m (a:Sl):∀ v∈encZ a,okC v=true:=by intro v hv; simp[encZ] at hv; subst hv; rfl
theorem qpi (a:Int):∀ v∈encI a,okC v=true:=by intro v hv; simp[encI] at hv; subst hv; rfl
section
variable {w0 w:World}{x:T29}{p:Pn}{c:XC}{s1 s2 s3 s11 s13:Sl}{B:Nat->Prop}{Q:World->Prop}{b1 b2 b3:Nat}{K:T43->World->Prop}
theorem qjw (hp:PP w0 x p)(h:Sp w0 w (tnL b1 b2 b3 (tbx p c s1 s2 s3 s11 s13) x) B Q 1 encZ s13 [])
  (hK:∀ u s B' Z,(∀ b,B b->B' b)->Sp w0 u (tnL b1 b2 b3 (tbx p c s1 s2 s3 s11 s) x) B' (fun u=>Q u/\IoZ u Z ((p.combos.take 3).map (Ji 4))) 1 encZ s Z->z07_k10 ⟨b2,0,none⟩ ⟨b3,0,none⟩ K u):z07_l9 ⟨b1,0,none⟩ ⟨b2,0,none⟩ ⟨b3,0,none⟩ 0 K w:=by
 obtain⟨Z0,hZ,hZl,hZi⟩:=hp.combos
 have el:=hZ.len
 refine⟨⟨fun i u=>∃ (i':Nat) (s:Sl) (B':Nat->Prop) (Z:List Sl),i=i'/\i'<=(p.combos.take 3).length/\(∀ b,B b->B' b)/\Sp w0 u (tnL b1 b2 b3 (tbx p c s1 s2 s3 s11 s) x) B' (fun u=>Q u/\IoZ u Z (((p.combos.take 3).take i').map (Ji 4))) 1 encZ s Z,fun i _=>(p.combos.take 3).length-i.toNat,
  ⟨0,s13,B,[],rfl,by omega,fun _ h=>h,h.say (fun u u' he hq=>⟨h.rs u u' he hq.1,hq.2.1,fun i h=>absurd h (by simp)⟩) (fun _ h=>h) fun hq=>⟨hq,rfl,fun i h=>absurd h (by simp)⟩⟩,?_⟩⟩
 rintro i u ⟨i,s,B',Z,rfl,hi,hB,h⟩
 simp only[J1] at hi
 have hend:¬(i<p.combos.length/\i<3)->z07_k10 ⟨b2,0,none⟩ ⟨b3,0,none⟩ K u:=fun hn=>hK u s B' Z hB (by
  have:(p.combos.take 3).take i=p.combos.take 3:=J0 (by simp; omega)
  rw[this] at h
  exact h)
 have hzl:=h.q.2.1
 simp only[List.length_map,J1] at hzl
 unfold z07_b9
 refine⟨x.f5,by rw[q01]; exact h.ld (i:=5) 2 rfl rfl,q00.2 ⟨fun h1=>q00.2 ⟨fun h2=>?_,fun h2=>hend (by omega)⟩,fun h1=>hend (by omega)⟩⟩
 intro w136
 have h:Sp w0 w136 (tnL b1 b2 b3 (tbx p c s1 s2 s3 s11 s) x) B' (fun u=>Q u/\IoZ u Z (((p.combos.take 3).take i).map (Ji 4))) 1 encZ s Z:=h.drew
 clear_value w136
 have hil:i<p.combos.length:=by omega
 have hiz:i<Z0.length:=by omega
 have hit:i<(p.combos.take 3).length:=by simp; omega
 have hS:Rs w136 (tnL b1 b2 b3 (tbx p c s1 s2 s3 s11 s) x)/\Vw 1 encZ w136 x.f5 Z0:=⟨h.sub 0,hZ.fr h.m.1⟩
 refine⟨fun u=>Rs u (tnL b1 b2 b3 (tbx p c s1 s2 s3 s11 s) x)/\Vw 1 encZ u x.f5 Z0,hS,s,fun u hu=>by rw[q01]; exact hu.1.ld (i:=13) 0 rfl rfl,x.f5,fun u hu=>by rw[q01]; exact hu.1.ld (i:=5) 2 rfl rfl,?_⟩
 refine Vw.goS q1i (by decide) hS (fun u hu=>hu.2) i rfl hiz fun a hc=>⟨Z0[i],hc 0 _ rfl,x.f5,fun u hu=>by rw[q01]; exact hu.1.ld (i:=5) 2 rfl rfl,?_⟩
 refine Vw.goS q1i (by decide) hS (fun u hu=>hu.2) i rfl hiz fun a hc=>⟨Z0[i],hc 0 _ rfl,?_⟩
 have hv:=(hZi i hiz hil).fr h.m.1
 have hvl:=hv.len
 have hvc:=hv.cap
 refine⟨⟨by decide,by omega,by omega⟩,?_⟩
 intro w145
 have h1:Sp w0 w145 ((w136.heap.size,([]:List Int).flatMap encI) :: tnL b1 b2 b3 (tbx p c s1 s2 s3 s11 s) x) B' _ 1 encZ s Z:=h.allocL (vs:=[])
 have f1:Fr F0 w136 w145:=Fr.alloc
 clear_value w145
 have hrs:=h.rs
 have hos:=fun b hb=>(h.os b hb).2.1
 have ej:(min (Z0[i].l:Int) 4).toNat=min p.combos[i].length 4:=by omega
 rw[ej]
 refine⟨⟨h1.sub 1,hZ.fr h1.m.1⟩,(h1.nextRow encI_length).app (m:=p.combos[i].take (min p.combos[i].length 4)) ((hv.fr f1).take encI_length (by omega)) qpi rfl (by simp; omega) (by simp; omega) fun s146 w147 h=>⟨⟨h.sub 0,hZ.fr h.m.1⟩,?_⟩⟩
 have etk:p.combos[i].take (min p.combos[i].length 4)=p.combos[i].take 4:=by
  rcases Nat.le_total p.combos[i].length 4 with h | h
  ·rw[Jq h,J0 (Jp _),J0 h]
  ·rw[Nat.min_eq_right h]
 rw[List.nil_append,etk] at h
 have h:=h.back hrs hos
 have h':=h.fr (Fr.alloc (o:=Obj.cells (encZ s146).toArray 25))
 refine⟨⟨h'.sub 0,hZ.fr h'.m.1⟩,h.push (a:=s146) rfl rfl q6m rfl (by omega) (by omega) fun s149 w150 h=>⟨⟨h.sub 0,hZ.fr h.m.1⟩,?_⟩⟩
 rw[q01]
 refine⟨h.wr 0,?_⟩
 refine⟨q03,⟨⟨rfl,rfl,rfl,trivial⟩,i+1,s149,fun b=>B' b\/inB s146 b,Z++[s146],by omega,by omega,fun b hb=>.inl (hB b hb),?_⟩,by dsimp only; omega⟩
 have:=h.set (i:=13) (v:=.slice s149.p s149.l s149.c) 0
 rw[q1p _ _ hit,J2]
 refine this.say (C:=fun b=>B' b\/inB s146 b) (fun u u' he hq=>?_) (fun _ h=>h) fun hq=>⟨hq.1.1,hq.1.2.push hq.2⟩
 obtain⟨hq,hz⟩:=hq
 obtain⟨hz,hv⟩:=hz.pop
 obtain⟨a1,a2⟩:=hrs u u' (fun b hb=>he b (.inl hb)) ⟨hq,hz⟩
 exact⟨a1,a2.push (q2q.ow _ _ u u' (fun b hb=>he b (.inr hb)) hv)⟩
end
structure TP0 (w:World)(x:T43)(t:Td):Prop where
 name:x.f0=ofL t.name
 lots:Vw 2 encL w x.f1 t.lots
 crit:Vw 5 encC w x.f2 t.crit
 reqs:Vw 3 encR w x.f3 t.reqs
 low:x.f4=t.low
 high:x.f5=t.high
 fm:XP w t.fm ⟨x.f6,x.f7,x.f8,x.f9,x.f10⟩
 ties:Vw 1 encB w x.f11 t.ties
 most:x.f12=t.most
 budget:x.f14=t.budget
 t1:x.f15=t.t1
 t2:x.f16=t.t2
 t3:x.f17=t.t3
 t4:x.f18=t.t4
 t5:x.f19=t.t5
theorem TP0.tp {w:World}{x:T43}{t:Td}(h:TP0 w x t)(hc:CP w x.f13 t.combos):TP w x t:={ h with combos:=hc }
structure TW (w:World)(x:T43)(t:Td)(Z:List Sl):Prop where
 tp:TP0 w x t
 o1:Ow 2 encL w x.f1 t.lots
 o2:Ow 5 encC w x.f2 t.crit
 o3:Ow 3 encR w x.f3 t.reqs
 o4:Ow 1 encB w x.f11 t.ties
 fm:∃ P,XQ P w t.fm ⟨x.f6,x.f7,x.f8,x.f9,x.f10⟩
 ne:∀ s∈t.ties,s≠[]
 io:IoZ w Z t.combos
structure PFit (p:Pn):Prop where
 lots:∀ l∈p.lots,I64 l.2
 crit:∀ l∈p.crit,I64 l.2.2.1/\I64 l.2.2.2
 reqs:∀ l∈p.reqs,I64 l.2.2
 combos:∀ l∈p.combos,∀ i∈l,I64 i
 o0:I64 p.o0
 o1:I64 p.o1
 o2:I64 p.o2
 o3:I64 p.o3
 o4:I64 p.o4
 o5:I64 p.o5
 o6:I64 p.o6
 o7:I64 p.o7
 o8:I64 p.o8
 o9:I64 p.o9
theorem q9w:∀ (l:List Fm) (e:Fm) (N:Nat),(∀ x∈l,x.parts<=N)->(l.foldl (fun a b=>Fm.op 0 a b) e).parts<=e.parts+l.length*(N+1)
 | [],e,N,_=>by simp
 | x :: l,e,N,h=>by
  have h1:=q9w l (.op 0 e x) N fun y hy=>h y (J7 _ hy)
  have h2:=h x (J6 ..)
  simp only[Jb,Ja,Fm.parts,Nat.add_mul] at h1 ⊢
  omega
def sumP (st:List Fm):Nat:=(st.map Fm.parts).sum
theorem q79 (a b:List Fm):sumP (a++b)=sumP a+sumP b:=by simp[sumP]
theorem qjx (st:List Fm)(x:Int):sumP (q0v st x)<=sumP st+1:=by
 have one:∀ e:Fm,sumP [e]=e.parts:=fun e=>by simp[sumP]
 unfold q0v
 simp only
 split
 ·rw[q79,one]; exact Jp _
 ·split
  ·rw[q79,one]; exact Jp _
  ·unfold q4n
   split
   ·rename_i h
    rw[q79,one]
    have e:st=st.take (st.length-2)++[st[st.length-2],st[st.length-1]]:=by
     apply Jh
     ·simp; omega
     ·intro i h1 h2
      rw[List.getElem_append]
      split
      ·rw[J2]
      ·rename_i h3
       simp only[J1] at h3
       rcases (show i=st.length-2\/i=st.length-1 by omega) with rfl | rfl
       ·simp[Jq (show st.length-2<=st.length by omega)]
       ·have:st.length-1-(st.length-2)=1:=by omega
        simp[Jq (show st.length-2<=st.length by omega),this]
    have h2:=congrArg sumP e
    rw[q79] at h2
    have h3:sumP [st[st.length-2],st[st.length-1]]=st[st.length-2].parts+st[st.length-1].parts:=by simp[sumP]
    simp only[Fm.parts]
    omega
   ·omega
theorem qjy (l:List Int):∀ st:List Fm,sumP (l.foldl q0v st)<=sumP st+l.length:=by
 induction l with
 | nil=>intro st; simp
 | cons x l ih=>intro st; have:=ih (q0v st x); have:=qjx st x; simp only[Jb,Ja]; omega
theorem qgb {st:List Fm}:∀ {e:Fm},e∈st->e.parts<=sumP st:=by
 induction st with
 | nil=>intro e h; cases h
 | cons a st ih =>
  intro e h
  have:sumP (a :: st)=a.parts+sumP st:=by simp[sumP]
  rcases Jj.1 h with rfl | h
  ·omega
  ·have:=ih h; omega
theorem q9x (l:List Int):(qen l).parts<=10000:=by
 unfold qen
 have h1:=qjy (l.take 80) []
 have h2:=qga (l.take 80) []
 have h3:(l.take 80).length<=80:=by simp; omega
 have h0:sumP []=0:=rfl
 simp only[Jc] at h2
 split
 ·simp[Fm.parts]
 ·rename_i e r he
  rw[he] at h1 h2
  have ha:=qgb (st:=e :: r) (J6 ..)
  have hb:=q9w r e 80 fun x hx=>by have:=qgb (st:=e :: r) (J7 _ hx); omega
  simp only[Ja] at h2
  have:r.length*(80+1)<=80*81:=Nat.mul_le_mul (by omega) (by omega)
  omega
theorem q5t (n:Int):(namP n).length<=7:=by
 have hm:=q2e n (m:=5) (by decide)
 unfold namP
 have:(modP n 5).toNat<5:=by omega
 generalize (modP n 5).toNat=j at this
 rcases j with _ | _ | _ | _ | _ | j
 iterate 5 decide
 omega
theorem qjz (n:Int):namP n≠[]:=by
 have hm:=q2e n (m:=5) (by decide)
 unfold namP
 have:(modP n 5).toNat<5:=by omega
 generalize (modP n 5).toNat=j at this
 rcases j with _ | _ | _ | _ | _ | j
 iterate 5 decide
 omega
theorem qgc (n:Int){m:Int}(h0:0<m)(h1:m<2^62):I64 (modP n m):=by
 have:=q2e n h0
 unfold I64; omega
theorem qpj {p:Pn}(h:PFit p):Fit (tdP p):=by
 refine⟨?_,?_,?_,?_,?_,?_,?_,?_,?_,?_,?_,?_,h.o0,h.o1,h.o2,h.o3,h.o4,h.o5,h.o6,h.o7,h.o8⟩
 ·have:=q9x p.form; simp only[tdP]; omega
 ·have:=Lib.itoa_length_le p.o9 h.o9.1 (by have:=h.o9.2; omega); simp only[tdP]; omega
 ·simp[tdP]; omega
 ·simp[tdP]; omega
 ·simp[tdP]; omega
 ·simp[tdP]; omega
 ·simp[tdP]; omega
 ·intro l hl
  obtain⟨a,ha,rfl⟩:=J9.1 hl
  exact⟨qgc _ (by decide) (by decide),h.lots a (J8 ha)⟩
 ·intro l hl
  obtain⟨a,ha,rfl⟩:=J9.1 hl
  exact⟨Js (q5t _) (by decide),qgc _ (by decide) (by decide),h.crit a (J8 ha)⟩
 ·intro l hl
  obtain⟨a,ha,rfl⟩:=J9.1 hl
  refine⟨Js (q5t _) (by decide),?_,h.reqs a (J8 ha)⟩
  show(qau.getD (modP a.2.1 2).toNat []).length<=_
  have hm:=q2e a.2.1 (m:=2) (by decide)
  have:(modP a.2.1 2).toNat<2:=by omega
  generalize (modP a.2.1 2).toNat=j at this
  rcases j with _ | _ | j
  iterate 2 decide
  omega
 ·intro l hl
  obtain⟨a,ha,rfl⟩:=J9.1 hl
  exact Js (q5t _) (by decide)
 ·intro l hl
  obtain⟨a,ha,rfl⟩:=J9.1 hl
  exact⟨by simp; omega,fun i hi=>h.combos a (J8 ha) i (J8 hi)⟩
section
variable {w0 w:World}{x:T29}{p:Pn}{c:XC}{B:Nat->Prop}{Q:World->Prop}{b1 b2 b3:Nat}{K:T43->World->Prop}
theorem qk0 {P:Nat->Prop}(hp:PP w0 x p)(h:Sp w0 w [(b3,(T43.mk (ofL (Lib.itoa p.o9)) ⟨none,0,0⟩ ⟨none,0,0⟩ ⟨none,0,0⟩ p.o0 p.o1 c.op c.n c.d c.nm c.a ⟨none,0,0⟩ p.o2 ⟨none,0,0⟩ p.o3 0 0 0 0 0).cs),(b2,zT),(b1,x.cs)] P (fun u=>XQ P u (qen p.form) c) 2 encL ⟨none,0,0⟩ [])
  (hK:∀ w' y B Q Z,Sp w0 w' [] B Q 1 encZ y.f13 Z->(∀ u,Q u->TW u y (tdP p) Z)->K y w'):z07_k0 ⟨b1,0,none⟩ ⟨b2,0,none⟩ ⟨b3,0,none⟩ K w:=by
 have L:∀ {k j:Nat} {i:Int} {v:Value},i.toNat*1=j->x.cs[6+j]?=some v->w.cell? (((⟨b1,0,none⟩:Addr).add 6).add (i.toNat*1))=some v:=fun {k j i v} e hv=>by
  rw[e,q01,q01]
  exact h.ld (i:=0+6+j) 2 rfl (by simpa using hv)
 refine⟨?_⟩
 unfold z07_k0d
 refine⟨⟨by decide,by decide⟩,_,L (k:=0) (j:=4) rfl rfl,⟨by decide,by decide⟩,_,L (k:=0) (j:=5) rfl rfl,⟨by decide,by decide⟩,_,L (k:=0) (j:=6) rfl rfl,⟨by decide,by decide⟩,_,L (k:=0) (j:=7) rfl rfl,⟨by decide,by decide⟩,_,L (k:=0) (j:=8) rfl rfl,?_⟩
 rw[q01,hp.o4,hp.o5,hp.o6,hp.o7,hp.o8]
 refine stN5 h (j:=0) rfl (by show 0+15+5<=20; decide) fun w1 h=>?_
 have h:Sp w0 w1 (tnL b1 b2 b3 (tbx p c ⟨none,0,0⟩ ⟨none,0,0⟩ ⟨none,0,0⟩ ⟨none,0,0⟩ ⟨none,0,0⟩) x) P _ 2 encL ⟨none,0,0⟩ []:=h
 refine qjr hp h fun w2 s1 h=>⟨?_⟩
 refine qjs hp h.next fun w3 s2 h=>⟨?_⟩
 refine qjv hp h.next fun w4 s3 h=>⟨?_⟩
 refine qjt hp h.next fun w5 s11 h=>⟨?_⟩
 refine qjw hp h.next fun w6 s13 B' Z _ h=>⟨?_⟩
 refine T43.ld_row (h.row 0 rfl) (q3w h 1 rfl rfl fun w7 h=>T43.ld_row (h.row 1 rfl) (hK w7 _ B' _ Z (h.dr 3 rfl) fun u hq=>?_))
 obtain⟨⟨⟨⟨⟨hX,h1⟩,h2⟩,h3⟩,h4⟩,hz⟩:=hq
 exact⟨⟨rfl,h1.vw,h2.vw,h3.vw,rfl,rfl,hX.xp,h4.vw,rfl,rfl,rfl,rfl,rfl,rfl,rfl⟩,h1,h2,h3,h4,⟨_,hX⟩,fun s hs=>by obtain⟨a,_,rfl⟩:=J9.1 hs; exact qjz a,hz⟩
theorem qd1 (hp:PP w x p)(hf:PFit p)(hK:∀ w' y B Q Z,Sp w w' [] B Q 1 encZ y.f13 Z->(∀ u,Q u->TW u y (tdP p) Z)->K y w'):z07_sh x K w:=by
 refine⟨?_⟩
 unfold z07_sd
 intro w1
 have m:Mem w w1 [(w.heap.size,x.cs)]:=Mem.nil.allocL
 clear_value w1
 intro w2
 have m:Mem w w2 [(w1.heap.size,zT),(w.heap.size,x.cs)]:=m.allocL
 clear_value w2
 intro w3
 have m:Mem w w3 [(w1.heap.size,zT),(w.heap.size,x.cs)]:=m.drew
 clear_value w3
 have k1:=(m.row 0).lt
 have k0:=(m.row 1).lt
 have kw:=m.1.1
 have R:∀ {u:World},Fr F0 w3 u->Mem w u [(w1.heap.size,zT),(w.heap.size,x.cs)]:=fun h=>m.fr h
 have L:∀ {i:Int} {j:Nat} {v:Value},i.toNat*1=j->x.cs[6+j]?=some v->∀ u,Fr F0 w3 u->u.cell? ((⟨w.heap.size,6,none⟩:Addr).add (i.toNat*1))=some v:=fun e hv u hu=>by
  rw[e,q01]
  exact(R hu).ld 1 rfl hv
 have pv:∀ {u:World},Fr F0 w3 u->Vw 1 encI u x.f3 p.form:=fun h=>hp.form.fr (m.1.t h)
 refine⟨fun u=>Fr F0 w3 u,Fr.refl,⟨by decide,by decide⟩,_,L (j:=9) rfl rfl,⟨by decide,by decide⟩,_,L (j:=0) rfl rfl,⟨by decide,by decide⟩,_,L (j:=1) rfl rfl,⟨by decide,by decide⟩,_,L (j:=2) rfl rfl,⟨by decide,by decide⟩,_,L (j:=3) rfl rfl,x.f3,fun u hu=>(R hu).ld 1,?_⟩
 rw[hp.o9,hp.o0,hp.o1,hp.o2,hp.o3]
 have fin:∀ (u:World) (b3 lo hi:Nat) (c:XC),Mem w u [(b3,zT),(w1.heap.size,zT),(w.heap.size,x.cs)]->XQ (fun b=>lo<=b/\b<hi) u (qen p.form) c->w3.heap.size<=lo->hi<=u.heap.size->(b3<lo\/hi<=b3) ->
   stN u ⟨b3,0,none⟩ (T43.mk (ofL (Lib.itoa p.o9)) ⟨none,0,0⟩ ⟨none,0,0⟩ ⟨none,0,0⟩ p.o0 p.o1 c.op c.n c.d c.nm c.a ⟨none,0,0⟩ p.o2 ⟨none,0,0⟩ p.o3 0 0 0 0 0).cs fun w16=>z07_k0 ⟨w.heap.size,0,none⟩ ⟨w1.heap.size,0,none⟩ ⟨b3,0,none⟩ K w16:=by
  intro u b3 lo hi c m hX h1 h2 h3
  have h:Sp w u [(b3,zT),(w1.heap.size,zT),(w.heap.size,x.cs)] (fun b=>lo<=b/\b<hi) (fun u=>XQ (fun b=>lo<=b/\b<hi) u (qen p.form) c) 2 encL ⟨none,0,0⟩ ([]:List (Int × Int)):=by
   refine⟨m,XQ.rests _ _,hX,fun b hb=>⟨by omega,by omega,fun p hp=>?_⟩,⟨rfl,by simpa using OwnV.nil⟩,fun b ⟨a,ha,_⟩=>by cases ha⟩
   simp only[Jj,List.not_mem_nil,or_false] at hp
   rcases hp with rfl | rfl | rfl<;>simp only<;>omega
  exact q3w h 0 rfl rfl fun w16 h=>qk0 hp h hK
 refine⟨q5s hf.o9 fun w11 f11=>⟨f11,q8b (pv f11) fun w13 c f13 hX=>⟨f11.t f13,?_⟩,?_⟩,?_⟩
 ·intro w15
  have m15:Mem w w15 [(w13.heap.size,zT),_,_]:=(R (f11.t f13)).allocL
  have f15:Fr F0 w13 w15:=Fr.alloc
  have s15:w13.heap.size<=w15.heap.size:=f15.1
  clear_value w15
  exact⟨f11.t (f13.t f15),fin w15 _ _ _ c m15 (hX.go fun b hb=>f15.2.1 b hb.2 fun h=>h) f11.1 s15 (.inr (Jp _))⟩
 ·intro w17
  have m17:Mem w w17 [(w11.heap.size,zT),_,_]:=(R f11).allocL
  have f17:Fr F0 w11 w17:=Fr.alloc
  have s17:w11.heap.size<w17.heap.size:=(m17.row 0).lt
  clear_value w17
  have t1:=f11.1
  refine⟨f11.t f17,q8b (pv (f11.t f17)) fun w18 c f18 hX=>⟨f11.t (f17.t f18),fin w18 _ _ _ c (m17.fr f18) hX (by omega) (Jp _) (.inl s17)⟩⟩
 ·intro w21
  have m21:Mem w w21 [(w3.heap.size,zT),_,_]:=m.allocL
  have f21:Fr F0 w3 w21:=Fr.alloc
  have s21:w3.heap.size<w21.heap.size:=(m21.row 0).lt
  clear_value w21
  refine⟨f21,q5s hf.o9 fun w22 f22=>⟨f21.t f22,q8b (pv (f21.t f22)) fun w24 c f24 hX=>⟨f21.t (f22.t f24),?_⟩⟩⟩
  have t2:=f22.1
  exact fin w24 _ _ _ c (m21.fr (f22.t f24)) hX (by omega) (Jp _) (.inl (by omega))
theorem q6w (hp:PP w x p)(hf:PFit p)(hK:∀ w' y Z,Fr F0 w w'->TW w' y (tdP p) Z->Ow 1 encZ w' y.f13 Z->K y w'):z07_sh x K w :=
 qd1 hp hf fun w' y _ _ Z h hq=>hK w' y Z h.m.1 (hq w' h.q) h.ow
end
open Go Pw Dp Go.ChangeShapes Go.WideShapes Go.ChangeAt Go.RowKit
section
variable {H:Type}{enc:TypeId × Value->H}{P:Program}{W:World}
theorem q5u {n fuel:Nat}{e g:TypeId}{cs:List Value}{y:DataW H × List MemPlace}(he:P.underlying e=some (.array n g))(hg:P.underlying g=some (.int .i64))(hc:P.cellsOf g=1)(hl:cs.length=n)
  (h:DataW.trod enc P W 0 (fun _=>true) true fuel e cs=some y):∃ l:List Int,l.length=n/\cs=l.map (Value.int .i64)/\∀ i∈l,I64 i:=by
 obtain⟨xs,m,_,_,_,hx,hat⟩:=DataW.trod_array he h
 have key:∀ i (hi:i<cs.length),∃ x:Int,cs[i]=Value.int .i64 x/\(Lit.int .i64 x).wf=true:=by
  intro i hi
  have h0:=hat i (by omega)
  rw[hc,Nat.mul_one] at h0
  have hxi:i<xs.length:=by omega
  rw[J4 hxi] at h0
  obtain⟨x,hx',_,hw⟩:=DataW.trod_int hg h0
  refine⟨x,?_,hw⟩
  rw[List.drop_eq_getElem_cons hi,List.take_succ_cons,List.take_zero] at hx'
  exact(List.cons.inj hx').1
 refine⟨cs.map fun v=>match v with | .int _ x=>x | _=>0,by simp[hl],?_,?_⟩
 ·apply Jh
  ·simp
  ·intro i h1 h2
   obtain⟨x,hx',_⟩:=key i h1
   simp[hx']
 ·intro x hx
  simp only[J9] at hx
  obtain⟨v,hv,rfl⟩:=hx
  obtain⟨i,hi,rfl⟩:=List.getElem_of_mem hv
  obtain⟨y,hy,hw⟩:=key i hi
  rw[hy]
  exact qo5 hw
theorem q26 {α:Type}{encA:α->List Value}{n fuel:Nat}{F:α->Prop}{t e:TypeId}{cs:List Value}{x:DataW H × List MemPlace}(ht:P.underlying t=some (.slice e))(hc:P.cellsOf e=n)(hn:∀ a,(encA a).length=n)(hn0:0<n)
  (hop:∀ fuel cs y,cs.length=n->DataW.trod enc P W 0 (fun _=>true) true fuel e cs=some y->∃ a,cs=encA a/\F a)
  (h:DataW.trod enc P W 0 (fun _=>true) true fuel t cs=some x):∃ (q:Sl) (l:List α),cs=[.slice q.p q.l q.c]/\Vw n encA W q l/\∀ a∈l,F a:=by
 rcases Go.Deep.open_slice ht h with⟨rfl,_⟩ | ⟨a',len,cap,m,n',D,Pl,rfl,_,hle,_,hm,hx,hel⟩
 ·exact⟨⟨none,0,0⟩,[],rfl,Vw.nil,fun a h=>by cases h⟩
 ·simp only[if_true] at hm
  subst hm
  rw[hc] at hel
  have key:∀ i,i<len->∃ q:α,F q/\∀ j,j<n->W.cell? ((a'.add (i*n)).add j)=(encA q)[j]?:=fun i hi=>by
   obtain⟨cs',g1,g2⟩:=hel i (by omega)
   obtain⟨_,hlen,hcell⟩:=World.cells?_some g1
   obtain⟨q,rfl,hq⟩:=hop _ _ _ hlen g2
   exact⟨q,hq,hcell⟩
  let qs:=(List.range len).pmap (fun i (hi:i<len)=>Classical.choose (key i hi)) (fun i hi=>List.mem_range.1 hi)
  have hql:qs.length=len:=by simp[qs]
  have hq:∀ i (hi:i<qs.length),F qs[i]/\∀ j,j<n->W.cell? ((a'.add (i*n)).add j)=(encA qs[i])[j]?:=fun i hi=>by
   have hi':i<len:=by omega
   have e:qs[i]=Classical.choose (key i hi'):=by simp[qs]
   rw[e]
   exact Classical.choose_spec (key i hi')
  clear_value qs
  refine⟨⟨some a',len,m⟩,qs,rfl,⟨hql.symm,hle,?_⟩,fun a ha=>?_⟩
  ·refine⟨by rw[q0a hn]; simp[hql],fun i hi=>?_⟩
   rw[q0a hn] at hi
   have hin:i / n<qs.length:=Nat.div_lt_of_lt_mul (by rw[Ju]; exact hi)
   have hmod:=Nat.mod_lt i hn0
   have h2:=(hq (i / n) hin).2 (i % n) hmod
   have h3:=qmd hn qs (i / n) (i % n) qs[i / n] (J4 hin) hmod
   rw[qdq] at h2
   have e:i / n*n+i % n=i:=by rw[Ju]; exact Nat.div_add_mod i n
   rw[e] at h2 h3
   rw[h2,← h3]
   exact J4 _
  ·obtain⟨i,hi,rfl⟩:=List.mem_iff_getElem.1 ha
   exact(hq i hi).1
theorem q8c {fuel:Nat}{t e:TypeId}{cs:List Value}{x:DataW H × List MemPlace}(ht:P.underlying t=some (.slice e))(he:P.underlying e=some (.int .i64))(hc:P.cellsOf e=1)
  (h:DataW.trod enc P W 0 (fun _=>true) true fuel t cs=some x):∃ (q:Sl) (l:List Int),cs=[.slice q.p q.l q.c]/\Vw 1 (fun n=>[Value.int .i64 n]) W q l/\∀ a∈l,I64 a :=
 q26 ht hc (fun _=>rfl) (by decide) (fun fuel cs y _ h=>by
  obtain⟨a,ha,_,w⟩:=DataW.trod_int he h
  exact⟨a,ha,qo5 w⟩) h
theorem qpk {fuel:Nat}{t e g:TypeId}{cs:List Value}{x:DataW H × List MemPlace}(ht:P.underlying t=some (.slice e))(he:P.underlying e=some (.array 2 g))(hg:P.underlying g=some (.int .i64))(ce:P.cellsOf e=2)(cg:P.cellsOf g=1)
  (h:DataW.trod enc P W 0 (fun _=>true) true fuel t cs=some x):∃ (q:Sl) (l:List (Int × Int)),cs=[.slice q.p q.l q.c]/\Vw 2 encL W q l/\∀ a∈l,I64 a.2 :=
 q26 ht ce q0s (by decide) (fun fuel cs y hl h=>by
  obtain⟨l,h1,rfl,h2⟩:=q5u he hg cg hl h
  match l,h1 with
  | [a,b],_=>exact⟨(a,b),rfl,h2 b (by simp)⟩) h
theorem qk1 {fuel:Nat}{t e g:TypeId}{cs:List Value}{x:DataW H × List MemPlace}(ht:P.underlying t=some (.slice e))(he:P.underlying e=some (.array 3 g))(hg:P.underlying g=some (.int .i64))(ce:P.cellsOf e=3)(cg:P.cellsOf g=1)
  (h:DataW.trod enc P W 0 (fun _=>true) true fuel t cs=some x):∃ (q:Sl) (l:List (Int × Int × Int)),cs=[.slice q.p q.l q.c]/\Vw 3 q4l W q l/\∀ a∈l,I64 a.1/\I64 a.2.1/\I64 a.2.2 :=
 q26 ht ce q41 (by decide) (fun fuel cs y hl h=>by
  obtain⟨l,h1,rfl,h2⟩:=q5u he hg cg hl h
  match l,h1 with
  | [a,b,c],_=>exact⟨(a,b,c),rfl,h2 a (by simp),h2 b (by simp),h2 c (by simp)⟩) h
theorem qpl {fuel:Nat}{t e g:TypeId}{cs:List Value}{x:DataW H × List MemPlace}(ht:P.underlying t=some (.slice e))(he:P.underlying e=some (.array 4 g))(hg:P.underlying g=some (.int .i64))(ce:P.cellsOf e=4)(cg:P.cellsOf g=1)
  (h:DataW.trod enc P W 0 (fun _=>true) true fuel t cs=some x):∃ (q:Sl) (l:List (Int × Int × Int × Int)),cs=[.slice q.p q.l q.c]/\Vw 4 encT4 W q l/\∀ a∈l,I64 a.2.2.1/\I64 a.2.2.2 :=
 q26 ht ce encT4_length (by decide) (fun fuel cs y hl h=>by
  obtain⟨l,h1,rfl,h2⟩:=q5u he hg cg hl h
  match l,h1 with
  | [a,b,c,d],_=>exact⟨(a,b,c,d),rfl,h2 c (by simp),h2 d (by simp)⟩) h
theorem qpm {fuel:Nat}{t e g:TypeId}{cs:List Value}{x:DataW H × List MemPlace}(ht:P.underlying t=some (.slice e))(he:P.underlying e=some (.slice g))(hg:P.underlying g=some (.int .i64))(ce:P.cellsOf e=1)(cg:P.cellsOf g=1)
  (h:DataW.trod enc P W 0 (fun _=>true) true fuel t cs=some x):∃ (q:Sl) (l:List (List Int)),cs=[.slice q.p q.l q.c]/\CP W q l/\∀ a∈l,∀ i∈a,I64 i:=by
 obtain⟨q,l,h1,h2,h3⟩:=q26 (α:=Sl × List Int) (encA:=fun z=>encZ z.1) (F:=fun z=>Vw 1 encI W z.1 z.2/\∀ i∈z.2,I64 i) ht ce (fun _=>rfl) (by decide) (fun fuel cs y _ h=>by
  obtain⟨q,l,h1,h2,h3⟩:=q8c he hg cg h
  exact⟨(q,l),h1,h2,h3⟩) h
 refine⟨q,l.map (·.2),h1,⟨l.map (·.1),⟨by rw[h2.len]; simp,h2.cap,?_⟩,by simp,fun i a b=>?_⟩,fun a ha=>?_⟩
 ·have e:(l.map (·.1)).flatMap encZ=l.flatMap fun z=>encZ z.1:=by rw[List.flatMap_map]
  rw[e]
  exact h2.rd
 ·simp only[List.getElem_map]
  exact(h3 _ (List.getElem_mem (by simpa using a))).1
 ·obtain⟨z,hz,rfl⟩:=J9.1 ha
  exact(h3 z hz).2
theorem qn5 {r:Reach}{b0:Nat}{t:TypeId}{a2 a3 a4 g s1:TypeId}{f0 f1 f2 f3 f4 f5 f6:Field}{v:Value}{d:DataW H}{ps:List MemPlace}(ht:P.underlying t=some (.struct #[f0,f1,f2,f3,f4,f5,f6]))
  (u0:P.underlying f0.type=some (.slice a2)) (u1:P.underlying f1.type=some (.slice a4)) (u2:P.underlying f2.type=some (.slice a3)) (u3:P.underlying f3.type=some (.slice g)) (u4:P.underlying f4.type=some (.slice g)) (u5:P.underlying f5.type=some (.slice s1)) (u6:P.underlying f6.type=some (.array 10 g))
  (w2:P.underlying a2=some (.array 2 g)) (w4:P.underlying a4=some (.array 4 g)) (w3:P.underlying a3=some (.array 3 g)) (ws:P.underlying s1=some (.slice g)) (wg:P.underlying g=some (.int .i64))
  (o:f0.offset=0/\f1.offset=1/\f2.offset=2/\f3.offset=3/\f4.offset=4/\f5.offset=5/\f6.offset=6) (c:P.cellsOf f0.type=1/\P.cellsOf f1.type=1/\P.cellsOf f2.type=1/\P.cellsOf f3.type=1/\P.cellsOf f4.type=1/\P.cellsOf f5.type=1/\P.cellsOf f6.type=10)
  (k:P.cellsOf t=16/\P.cellsOf a2=2/\P.cellsOf a4=4/\P.cellsOf a3=3/\P.cellsOf s1=1/\P.cellsOf g=1) (hval:Value.okWide P W r b0 t v) (h:DataW.Trod enc P W 0 (fun _=>true) true t v d ps) :
  ∃ (x:T29) (p:Pn),v=.agg x.cs.toArray/\PP W x p/\PFit p:=by
 obtain⟨o0,o1,o2,o3,o4,o5,o6⟩:=o
 obtain⟨c0,c1,c2,c3,c4,c5,c6⟩:=c
 obtain⟨k0,k1,k2,k3,k4,k5⟩:=k
 unfold Value.okWide at hval
 rw[ht] at hval
 obtain⟨cs,rfl,hsz,_⟩:=hval
 obtain⟨fuel,hf⟩:=h
 obtain⟨xs,n,_,_,hl,hlen,hx⟩:=DataW.trod_struct ht hf
 rw[k0] at hsz
 have at':∀ (j:Nat) (f:Field),#[f0,f1,f2,f3,f4,f5,f6][j]?=some f->∃ y,DataW.trod enc P W 0 (fun _=>true) true n f.type ((cs.toList.drop f.offset).take (P.cellsOf f.type))=some y:=by
  intro j f hj
  have hj':=(Array.getElem?_eq_some_iff.1 hj).1
  have hj2:j<xs.length:=by rw[hlen]; simpa using hj'
  have:=hx j f hj
  rw[J4 hj2] at this
  exact⟨_,this⟩
 obtain⟨y0,q0⟩:=at' 0 f0 rfl
 obtain⟨y1,q1⟩:=at' 1 f1 rfl
 obtain⟨y2,q2⟩:=at' 2 f2 rfl
 obtain⟨y3,q3⟩:=at' 3 f3 rfl
 obtain⟨y4,q4⟩:=at' 4 f4 rfl
 obtain⟨y5,q5⟩:=at' 5 f5 rfl
 obtain⟨y6,q6⟩:=at' 6 f6 rfl
 rw[o0,c0] at q0
 rw[o1,c1] at q1
 rw[o2,c2] at q2
 rw[o3,c3] at q3
 rw[o4,c4] at q4
 rw[o5,c5] at q5
 rw[o6,c6] at q6
 obtain⟨z0,l0,e0,v0,i0⟩:=qpk u0 w2 wg k1 k5 q0
 obtain⟨z1,l1,e1,v1,i1⟩:=qpl u1 w4 wg k2 k5 q1
 obtain⟨z2,l2,e2,v2,i2⟩:=qk1 u2 w3 wg k3 k5 q2
 obtain⟨z3,l3,e3,v3,i3⟩:=q8c u3 wg k5 q3
 obtain⟨z4,l4,e4,v4,i4⟩:=q8c u4 wg k5 q4
 obtain⟨z5,l5,e5,v5,i5⟩:=qpm u5 ws wg k4 k5 q5
 obtain⟨l6,n6,e6,i6⟩:=q5u u6 wg k5 (by simp[hsz]) q6
 obtain⟨o0,o1,o2,o3,o4,o5,o6,o7,o8,o9,rfl⟩:∃ a b c d e f g h i j,l6=[a,b,c,d,e,f,g,h,i,j]:=by
  match l6,n6 with
  | [a,b,c,d,e,f,g,h,i,j],_=>exact⟨a,b,c,d,e,f,g,h,i,j,rfl⟩
 refine⟨⟨z0,z1,z2,z3,z4,z5,o0,o1,o2,o3,o4,o5,o6,o7,o8,o9⟩,⟨l0,l1,l2,l3,l4,l5,o0,o1,o2,o3,o4,o5,o6,o7,o8,o9⟩,?_,⟨v0,v1,v2,v3,v4,v5,rfl,rfl,rfl,rfl,rfl,rfl,rfl,rfl,rfl,rfl⟩,⟨i0,i1,fun l hl=>(i2 l hl).2.2,i5,i6 _ (by simp),i6 _ (by simp),i6 _ (by simp),i6 _ (by simp),i6 _ (by simp),i6 _ (by simp),i6 _ (by simp),i6 _ (by simp),i6 _ (by simp),i6 _ (by simp)⟩⟩
 congr 1
 rcases cs with⟨cs⟩
 congr 1
 simp only at e0 e1 e2 e3 e4 e5 e6 hsz
 have hs16:cs.length=16:=hsz
 match cs,hs16 with
 | [d0,d1,d2,d3,d4,d5,d6,d7,d8,d9,d10,d11,d12,d13,d14,d15],_ =>
  simp at e0 e1 e2 e3 e4 e5 e6
  obtain⟨r6,r7,r8,r9,r10,r11,r12,r13,r14,r15⟩:=e6
  subst e0 e1 e2 e3 e4 e5 r6 r7 r8 r9 r10 r11 r12 r13 r14 r15
  rfl
theorem arg_l3 {r:Reach}{b0:Nat}{t e g:TypeId}{v:Value}{d:DataW H}{ps:List MemPlace}(ht:P.underlying t=some (.slice e))(he:P.underlying e=some (.array 3 g))(hg:P.underlying g=some (.int .i64))(ce:P.cellsOf e=3)(cg:P.cellsOf g=1)
  (hval:Value.okWide P W r b0 t v) (h:DataW.Trod enc P W 0 (fun _=>true) true t v d ps):∃ (q:Sl) (l:List (Int × Int × Int)),v=.slice q.p q.l q.c/\Vw 3 q4l W q l/\∀ a∈l,I64 a.1/\I64 a.2.1/\I64 a.2.2:=by
 obtain⟨a,len,cap,rfl⟩:=okWide_slice ht hval
 obtain⟨fuel,hf⟩:=h
 obtain⟨q,l,h1,h2,h3⟩:=qk1 ht he hg ce cg hf
 simp only[Value.cells,List.cons.injEq,and_true] at h1
 exact⟨q,l,h1,h2,h3⟩
end
