/- An array of two arrays of four ints among the arguments. Conditions: none. -/
import Derived.Test.YtfpobpjandjhjaaGreatDoorCEA
import Derived.Test.YtfpobpjandjhjaaGreatDoorPE2
open List renaming length_append->J0,mem_singleton->J1,getElem?_eq_getElem->J2,append_assoc->J3,getElem_mem->J4,map_cons->J5,flatMap_append->J6,map_nil->J7
namespace Pw
open Go Go.ChangeShapes Go.WideShapes Go.ChangeAt Go.RowKit
section
variable {H:Type}{enc:TypeId × Value->H}{P:Program}{W:World}
theorem qdc {k:IntKind}{t f:TypeId}{c0 c1 c2 c3:Value}{x:DataW H × List MemPlace}{fuel:Nat}(ht:P.underlying t=some (.array 4 f))(hf:P.underlying f=some (.int k))(hc:P.cellsOf f=1)
  (h:DataW.trod enc P W 0 (fun _=>true) true fuel t [c0,c1,c2,c3]=some x):∃ a b c d:Int,c0=.int k a/\c1=.int k b/\c2=.int k c/\c3=.int k d/\(Lit.int k a).wf=true/\(Lit.int k b).wf=true/\(Lit.int k c).wf=true/\(Lit.int k d).wf=true:=by
 obtain⟨xs,m,_,_,_,hx,hat⟩:=DataW.trod_array ht h
 have h0:=hat 0 (by omega)
 have h1:=hat 1 (by omega)
 have h2:=hat 2 (by omega)
 have h3:=hat 3 (by omega)
 rw[hc,J2 (by omega)] at h0 h1 h2 h3
 obtain⟨a,e0,_,w0⟩:=DataW.trod_int hf h0
 obtain⟨b,e1,_,w1⟩:=DataW.trod_int hf h1
 obtain⟨c,e2,_,w2⟩:=DataW.trod_int hf h2
 obtain⟨d,e3,_,w3⟩:=DataW.trod_int hf h3
 simp at e0 e1 e2 e3
 exact⟨a,b,c,d,e0,e1,e2,e3,w0,w1,w2,w3⟩
theorem qiz {k:IntKind}{r:Reach}{b0:Nat}{t e f:TypeId}{v:Value}{d:DataW H}{ps:List MemPlace}(ht:P.underlying t=some (.array 2 e))(he:P.underlying e=some (.array 4 f))(hf:P.underlying f=some (.int k))(hc:P.cellsOf f=1)(hce:P.cellsOf e=4)(hct:P.cellsOf t=8)
  (hval:Value.okWide P W r b0 t v) (h:DataW.Trod enc P W 0 (fun _=>true) true t v d ps) :
  ∃ a0 a1 a2 a3 a4 a5 a6 a7:Int,v=.agg #[.int k a0,.int k a1,.int k a2,.int k a3,.int k a4,.int k a5,.int k a6,.int k a7]/\(Lit.int k a0).wf=true/\(Lit.int k a1).wf=true/\(Lit.int k a2).wf=true/\(Lit.int k a3).wf=true/\(Lit.int k a4).wf=true/\(Lit.int k a5).wf=true/\(Lit.int k a6).wf=true/\(Lit.int k a7).wf=true:=by
 unfold Value.okWide at hval
 rw[ht] at hval
 obtain⟨cs,rfl,hsz,_⟩:=hval
 obtain⟨fuel,hfu⟩:=h
 obtain⟨xs,m,_,_,_,hx,hat⟩:=DataW.trod_array ht hfu
 rw[hct] at hsz
 obtain⟨c0,c1,c2,c3,c4,c5,c6,c7,rfl⟩:∃ c0 c1 c2 c3 c4 c5 c6 c7,cs=#[c0,c1,c2,c3,c4,c5,c6,c7]:=by
  rcases cs with⟨l⟩
  match l,hsz with
  | [a,b,c,d,e,f,g,h],_=>exact⟨a,b,c,d,e,f,g,h,rfl⟩
 have h0:=hat 0 (by omega)
 have h1:=hat 1 (by omega)
 rw[hce,J2 (by omega)] at h0 h1
 obtain⟨a0,a1,a2,a3,rfl,rfl,rfl,rfl,w0,w1,w2,w3⟩:=qdc he hf hc h0
 obtain⟨a4,a5,a6,a7,rfl,rfl,rfl,rfl,w4,w5,w6,w7⟩:=qdc he hf hc h1
 exact⟨a0,a1,a2,a3,a4,a5,a6,a7,rfl,w0,w1,w2,w3,w4,w5,w6,w7⟩
end
end Pw
namespace Go.Proofs.YtfpobpjandjhjaaGreatDoor
open Go Pw
section
variable {w w' w0:World}{t5 ns:Sl}{T:List Int}{N:List Nd}{pts bnd:Int}{b:Nat}
structure FitR (T:List Int)(pts bnd:Int)(N:List Nd):Prop where
 t:∀ n∈T,I64 n
 pts:I64 pts
 bnd:I64 bnd
 n:∀ x∈N,I64 x.lot/\∀ n∈x.next,I64 n
theorem qgl {N:List Nd}{i:Nat}(hi:i<N.length):((N.take i).flatMap q62).length+(q62 N[i]).length<=(N.flatMap q62).length:=by
 have e:N.flatMap q62=(N.take i).flatMap q62++(q62 N[i]++(N.drop (i+1)).flatMap q62):=by
  rw[← List.flatMap_cons,← List.drop_eq_getElem_cons hi,← J6,List.take_append_drop]
 rw[e,J0,J0]
 omega
theorem q3z (l:List Int):(l.map fun n=>ofL (Lib.itoa n)).map bl=l.map Lib.itoa:=by
 rw[List.map_map]
 exact List.map_congr_left fun n _=>qc9 _
theorem qef {K:ByteArray->World->Prop}(hT:VI w t5 T)(hN:NV w ns N)(hs:SmR T N)(hx43:∀ x∈N,x.next.length<2^42)(hT43:T.length<2^42)(hF:FitR T pts bnd N)(g:GlT w)(hlen:(encT T pts bnd N).length<=140737488355328)
  (hK:∀ w',Fr F0 w w'->K (ofL (encT T pts bnd N)) w'):z3f_sh t5 pts bnd ns K w:=by
 have e5:=hT.len
 have en:=hN.len
 have hn1:=hs.n
 unfold encT at hlen
 rw[J0,J0] at hlen
 refine⟨?_⟩
 intro w1
 have m:Mem w w1 _:=Mem.nil.allocL (cs:=rsC t5 pts bnd ns)
 have n1:NU w1 w.heap.size:=NU.new (by decide)
 have hrow:=m.row 0
 have hwb:w.heap.size<w1.heap.size:=n1.1
 intro w2
 have hb2:Bld w1.heap.size [] w2:=Bld.new
 have hf2:Fr F0 w w2:=m.1.t Fr.alloc
 have hrow:Row w2 w.heap.size (rsC t5 pts bnd ns):=(Fr.alloc:Fr F0 w1 w2).row hrow fun h=>h
 have n1:NU w2 w.heap.size:=n1.fr (Fr.alloc:Fr F0 w1 w2)
 refine⟨t5,hrow.at,q5b (hT.fr hf2) hF.t (by omega) (g.fr hf2) fun w4 r5 hm5 hn5=>?_⟩
 have hb4:=hb2.fr hm5.fr0
 have hr4:=hm5.fr0.row hrow fun h=>h
 have n4:=n1.fr hm5.fr0
 have hlt2:=hb2.lt
 have hwt:bl (str [116,97,107,101])=qe9:=by rw[q9z]; rfl
 have hwp:bl (str [112,111,105,110,116,115])=q61:=by rw[q9z]; rfl
 have hwn:bl (str [110,111,100,101])=qlx:=by rw[q9z]; rfl
 refine q7g hb4 hm5.vw (fun k hk=>⟨by have:=hm5.nw k hk; omega,hn5 k hk⟩) (by rw[hwt,q3z]; simp only[List.length_nil]; omega) fun w6 hb6 hf6=>?_
 rw[hwt,q3z,List.nil_append] at hb6
 have hr6:=hf6.row (by omega) n4 hr4
 have n6:=hf6.nu (by omega) n4
 have hF6:Fr F0 w w6:=hf6.fr0 (hf2.t hm5.fr0) (by omega)
 refine⟨_,hr6.at,_,hr6.at,?_⟩
 intro w9
 have m9:Mem w6 w9 _:=Mem.nil.allocL (cs:=([pts,bnd]:List Int).map (Value.int .i64))
 have hF9:Fr F0 w w9:=hF6.t m9.1
 refine q5b (l:=[pts,bnd]) (Row.ow (fun a=>q05 _ _ a) (l:=[pts,bnd]) (m9.row 0)).vw (fun n hn=>(List.mem_cons.1 hn).elim (fun h=>h ▸ hF.pts) fun h=>(J1.1 h) ▸ hF.bnd) (by simp) (g.fr hF9) fun w10 r11 hm11 hn11=>?_
 have hf10:Fr F0 w6 w10:=m9.1.t hm11.fr0
 have hb10:=hb6.fr hf10
 have hlt6:=hb6.lt
 have hm9s:=m9.1.1
 refine q7g hb10 hm11.vw (fun k hk=>⟨by have:=hm11.nw k hk; omega,hn11 k hk⟩) (by rw[hwp,q3z]; simp only[J5,J7]; omega) fun w12 hb12 hf12=>?_
 rw[hwp,q3z] at hb12
 have hr12:=hf12.row (by omega) (n6.fr hf10) (hf10.row hr6 fun h=>h)
 have hF12:Fr F0 w w12:=hf12.fr0 (hF6.t hf10) (by omega)
 refine⟨ns,hr12.at,⟨⟨fun i u=>∃ i':Nat,i=i'/\i'<=N.length/\Bld w1.heap.size (q4c qe9 (T.map Lib.itoa)++q4c q61 [Lib.itoa pts,Lib.itoa bnd]++(N.take i').flatMap q62) u/\Fr F0 w u,fun i _=>N.length-i.toNat,⟨0,rfl,by omega,by simpa using hb12,hF12⟩,?_⟩⟩⟩
 clear hb12 hF12 hr12 hf12 hb10 hf10 hn11 hm11 m9 hF9 hr6 n6 hF6 hb6 hf6 hr4 n4 hb4 hm5 hn5 hb2 hf2 hrow n1
 rintro i u ⟨i,rfl,hi,hb,hf⟩
 unfold z3f_b0
 refine q00.2 ⟨fun hlt=>?_,fun hge=>?_⟩
 ·have hiN:i<N.length:=by omega
  obtain⟨i1,i2⟩:=hN.i64 (J4 hiN)
  obtain⟨i3,i4⟩:=hF.n _ (J4 hiN)
  have hx:=hx43 _ (J4 hiN)
  have hfb:=qgl hiN
  have hblt:=hb.lt
  refine hN.ld hf i rfl hiN fun a nx hnx hc=>?_
  obtain⟨c0,c1,c2,c3⟩:=hc
  refine⟨_,c0,_,c1,_,c2,nx,c3,qky _ _ _ (K:=fun w20=>Mem u w20 [(u.heap.size,[.int .i64 N[i].lot,.int .i64 N[i].num,.int .i64 N[i].den,.slice nx.p nx.l nx.c])]) (q19 (w0:=u) (l:=[]) rfl Mem.nil fun w20 m20=>m20) (NU.new (by decide)) fun w20 n20 m20=>?_⟩
  intro w21
  have m:Mem u w21 _:=m20.drew
  have n21:NU w21 u.heap.size:=n20.fr Fr.drew
  have hgl:=fun {v:World} (h:Fr F0 u v)=>g.fr (hf.t h)
  have hxs:∀ {v:World},Fr F0 w21 v->Rs v [(u.heap.size,[.int .i64 N[i].lot,.int .i64 N[i].num,.int .i64 N[i].den,.slice nx.p nx.l nx.c])]:=fun h=>(m.fr h).sub 0
  have l1:=qdb i1
  have l2:=qdb i2
  have e47:bl (str [47])=[47]:=by rw[q9z]; rfl
  have s47:(str [47]).size=1:=by decide
  have so:∀ l:List UInt8,(ofL l).size=l.length:=fun l=>by rw[← q4l,qc9]
  have hdual:bl ((ofL (Lib.itoa N[i].num)++str [47])++ofL (Lib.itoa N[i].den))=qim N[i]:=by
   unfold qim
   rw[q8g,q8g,qc9,qc9,e47,J3]
   rfl
  refine⟨fun v=>Rs v [(u.heap.size,[.int .i64 N[i].lot,.int .i64 N[i].num,.int .i64 N[i].den,.slice nx.p nx.l nx.c])],hxs Fr.refl,_,fun _ h=>h.ld 0,_,fun _ h=>h.ld 0,q6x i1 (hgl m.1) fun w25 f25=>⟨hxs f25,?_,q6x i2 (hgl (m.1.t f25)) fun w27 f27=>⟨hxs (f25.t f27),?_,?_⟩⟩⟩
  ·rw[so,s47]; unfold maxI; omega
  ·rw[ByteArray.size_append,so,so,s47]; unfold maxI; omega
  intro w29
  have f29:Fr F0 w21 w29:=(f25.t f27).t Fr.drew
  have hbu:∀ {v:World},Fr F0 w21 v->Bld w1.heap.size (q4c qe9 (T.map Lib.itoa)++q4c q61 [Lib.itoa pts,Lib.itoa bnd]++(N.take i).flatMap q62) v:=fun h=>hb.fr (m.1.t h)
  have hfin:∀ {v:World} {s38:Sl} {K':World->Prop},Fr F0 w21 v->Vw 1 encS v s38 (ofL (Lib.itoa N[i].lot) :: ((ofL (Lib.itoa N[i].num)++str [47])++ofL (Lib.itoa N[i].den)) :: N[i].next.map (fun n=>ofL (Lib.itoa n)))->(∀ k,inB s38 k->u.heap.size<=k/\NU v k) ->
    (∀ v',Rs v' [(u.heap.size,[.int .i64 N[i].lot,.int .i64 N[i].num,.int .i64 N[i].den,.slice nx.p nx.l nx.c])]->Bld w1.heap.size (q4c qe9 (T.map Lib.itoa)++q4c q61 [Lib.itoa pts,Lib.itoa bnd]++(N.take (i+1)).flatMap q62) v'->Fr F0 w v'->K' v')->z3x_sh (some ⟨w1.heap.size,0,none⟩) (str [110,111,100,101]) s38 K' v:=fun {v s38 K'} hv hvw hk hK'=>by
   have hm:(ofL (Lib.itoa N[i].lot) :: ((ofL (Lib.itoa N[i].num)++str [47])++ofL (Lib.itoa N[i].den)) :: N[i].next.map (fun n=>ofL (Lib.itoa n))).map bl=Lib.itoa N[i].lot :: qim N[i] :: N[i].next.map Lib.itoa:=by
    rw[J5,J5,qc9,hdual,q3z]
   refine q7g (hbu hv) hvw (fun k hk'=>⟨by have:=(hk k hk').1; omega,(hk k hk').2⟩) ?_ fun v' hb' hf'=>hK' v' ?_ ?_ (hf'.fr0 (hf.t (m.1.t hv)) (by omega))
   ·rw[hm,hwn,J0,J0]
    have:(q4c qlx (Lib.itoa N[i].lot :: qim N[i] :: N[i].next.map Lib.itoa)).length=(q62 N[i]).length:=rfl
    omega
   ·intro q hq
    rw[J1] at hq
    subst hq
    exact hf'.row (by omega) (n21.fr hv) (hxs hv _ (J1.2 rfl))
   ·rw[hm,hwn] at hb'
    rw[q08 hiN,J6]
    rw[J3] at hb'
    simpa [q62] using hb'
  have hN0:∀ {v':World},Rs v' [(u.heap.size,[.int .i64 N[i].lot,.int .i64 N[i].num,.int .i64 N[i].den,.slice nx.p nx.l nx.c])]->Bld w1.heap.size (q4c qe9 (T.map Lib.itoa)++q4c q61 [Lib.itoa pts,Lib.itoa bnd]++(N.take (i+1)).flatMap q62) v'->Fr F0 w v' ->
    Rs v' [(u.heap.size,[.int .i64 N[i].lot,.int .i64 N[i].num,.int .i64 N[i].den,.slice nx.p nx.l nx.c])]/\inR .i64 ((i:Int)+1)/\(((⟨w1.heap.size,0,none⟩:Addr)=⟨w1.heap.size,0,none⟩/\ns=ns/\(ns.l:Int)=ns.l/\True)/\∃ i':Nat,(i:Int)+1=i'/\i'<=N.length/\Bld w1.heap.size (q4c qe9 (T.map Lib.itoa)++q4c q61 [Lib.itoa pts,Lib.itoa bnd]++(N.take i').flatMap q62) v'/\Fr F0 w v')/\N.length-((i:Int)+1).toNat<N.length-(i:Int).toNat :=
   fun h1 h2 h3=>⟨h1,q01,⟨⟨rfl,rfl,rfl,trivial⟩,i+1,by omega,by omega,h2,h3⟩,by omega⟩
  refine⟨fun v=>Rs v [(u.heap.size,[.int .i64 N[i].lot,.int .i64 N[i].num,.int .i64 N[i].den,.slice nx.p nx.l nx.c])],hxs f29,_,fun _ h=>h.ld 0,nx,fun _ h=>h.ld 0,q6x i3 (hgl (m.1.t f29)) fun w33 f33=>⟨hxs (f29.t f33),?_,?_⟩⟩
  ·intro w35
   have m35:Mem w33 w35 _:=Mem.nil.allocL (cs:=([ofL (Lib.itoa N[i].lot),(ofL (Lib.itoa N[i].num)++str [47])++ofL (Lib.itoa N[i].den)]:List ByteArray).flatMap encS)
   have n35:NU w35 w33.heap.size:=NU.new (by decide)
   have f35:=(f29.t f33).t m35.1
   refine⟨hxs f35,q5b (hnx.fr (hf.t (m.1.t f35))) i4 (by omega) (hgl (m.1.t f35)) fun w36 r37 hm37 hn37=>⟨hxs (f35.t hm37.fr0),?_⟩⟩
   have f36:=f35.t hm37.fr0
   have hsl:Mk w33 1 encS w36 ⟨some ⟨w33.heap.size,0,none⟩,2,2⟩ [ofL (Lib.itoa N[i].lot),(ofL (Lib.itoa N[i].num)++str [47])++ofL (Lib.itoa N[i].den)] :=
    ⟨m35.1.t hm37.fr0,(Row.ow encS_length (m35.row 0)).fr hm37.fr0,fun b ⟨a,ha,hb⟩=>by cases ha; subst hb; exact Nat.le_refl _⟩
   refine qbv (K:=fun s w'=>Mk w33 1 encS w' s (([ofL (Lib.itoa N[i].lot),(ofL (Lib.itoa N[i].num)++str [47])++ofL (Lib.itoa N[i].den)]:List ByteArray)++N[i].next.map (fun n=>ofL (Lib.itoa n)))) (hsl.app hm37.vw qed rfl (by simp; omega) (by simp; omega) fun r w' h _=>h) (fun b ⟨a,ha,hb⟩=>by cases ha; subst hb; exact n35.fr hm37.fr0) (by decide) fun s38 w39 h hn=>?_
   have f39:=(f29.t f33).t h.fr0
   have hsz:=(m.1.t (f29.t f33)).1
   exact⟨hxs f39,hfin f39 h.vw (fun k hk=>⟨by have:=h.nw k hk; omega,hn k hk⟩) fun v' h1 h2 h3=>hN0 h1 h2 h3⟩
  ·refine q5b (hnx.fr (hf.t (m.1.t (f29.t f33)))) i4 (by omega) (hgl (m.1.t (f29.t f33))) fun w41 r42 hm42 hn42=>⟨hxs ((f29.t f33).t hm42.fr0),?_⟩
   have f41:=(f29.t f33).t hm42.fr0
   intro w43
   have m43:Mem w41 w43 _:=Mem.nil.allocL (cs:=([ofL (Lib.itoa N[i].lot),(ofL (Lib.itoa N[i].num)++str [47])++ofL (Lib.itoa N[i].den)]:List ByteArray).flatMap encS)
   have n43:NU w43 w41.heap.size:=NU.new (by decide)
   have f43:=f41.t m43.1
   refine⟨hxs f43,?_⟩
   have hsl:Mk w41 1 encS w43 ⟨some ⟨w41.heap.size,0,none⟩,2,2⟩ [ofL (Lib.itoa N[i].lot),(ofL (Lib.itoa N[i].num)++str [47])++ofL (Lib.itoa N[i].den)] :=
    ⟨m43.1,Row.ow encS_length (m43.row 0),fun b ⟨a,ha,hb⟩=>by cases ha; subst hb; exact Nat.le_refl _⟩
   refine qbv (K:=fun s w'=>Mk w41 1 encS w' s (([ofL (Lib.itoa N[i].lot),(ofL (Lib.itoa N[i].num)++str [47])++ofL (Lib.itoa N[i].den)]:List ByteArray)++N[i].next.map (fun n=>ofL (Lib.itoa n)))) (hsl.app (hm42.vw.fr m43.1) qed rfl (by simp; omega) (by simp; omega) fun r w' h _=>h) (fun b ⟨a,ha,hb⟩=>by cases ha; subst hb; exact n43) (by decide) fun s44 w45 h hn=>?_
   have f45:=f41.t h.fr0
   have hsz:=(m.1.t f41).1
   exact⟨hxs f45,hfin f45 h.vw (fun k hk=>⟨by have:=h.nw k hk; omega,hn k hk⟩) fun v' h1 h2 h3=>hN0 h1 h2 h3⟩
 ·have:i=N.length:=by omega
  subst this
  rw[List.take_length] at hb
  refine qee hb fun w47 f47=>?_
  have hk:=hK w47 (f47.fr0 hf (by omega))
  unfold encT at hk
  rw[← J3] at hk
  exact hk
end
end Go.Proofs.YtfpobpjandjhjaaGreatDoor
