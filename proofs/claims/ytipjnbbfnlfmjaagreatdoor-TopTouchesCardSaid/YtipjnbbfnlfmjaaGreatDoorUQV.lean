/- TopTouches. Conditions: none. -/
import Derived.Test.YtipjnbbfnlfmjaaGreatDoorUM
import Derived.Test.YtipjnbbfnlfmjaaGreatDoorDL1X
open List renaming getElem_mem->J0,length_take->J1
namespace Go.Proofs.YtipjnbbfnlfmjaaGreatDoor
open Go Pw Dp
section
variable {w w' u w0:World}{x:T29}{y z:T43}{ta tb:Td}{p:Pn}{K:Bool->World->Prop}
structure LW (y z:T43)(ta tb:Td)(ba bo:Nat)(bs:Sl)(bl:List (Int × Int × Int × Int))(w:World):Prop where
 ra:Row w ba y.cs
 rb:Row w bo z.cs
 Ua:TP w y ta
 Ub:TP w z tb
 g:GlT w
 hb:Vw 4 encT4 w bs bl
theorem LW.fr {ba bo:Nat}{bs:Sl}{bl:List (Int × Int × Int × Int)}(h:LW y z ta tb ba bo bs bl w)(f:Fr F0 w w'):LW y z ta tb ba bo bs bl w' :=
 ⟨f.row h.ra fun h=>h,f.row h.rb fun h=>h,h.Ua.fr f,h.Ub.fr f,h.g.fr f,h.hb.fr f⟩
theorem qqq {r q:Sl}{l:List Rk}(h1:Vw 5 encK w r l)(h2:Vw 5 encK w q l)(hl:l.length<2^40)(hK:∀ w',Fr F0 w w'->K true w'):z0d_l5 true r q (r.l:Int) 0 K w:=by
 have e1:=h1.len
 refine⟨⟨fun i u=>∃ i':Nat,i=i'/\i'<=l.length/\Fr F0 w u,fun i _=>l.length-i.toNat,⟨0,rfl,by omega,Fr.refl⟩,?_⟩⟩
 rintro i u ⟨i,rfl,hi,f⟩
 unfold z0d_b5
 refine q00.2 ⟨fun hlt=>?_,fun _=>hK u f⟩
 have hil:i<l.length:=by omega
 intro w83
 have f:Fr F0 w w83:=f.t Fr.drew
 clear_value w83
 refine Vw.go q8i (by decide) (h1.fr f) i rfl hil fun a hc=>⟨_,hc 0 _ rfl,_,hc 1 _ rfl,_,hc 2 _ rfl,_,hc 3 _ rfl,_,hc 4 _ rfl,?_⟩
 refine Vw.go q8i (by decide) (h2.fr f) i rfl hil fun a hc=>⟨_,hc 0 _ rfl,_,hc 1 _ rfl,_,hc 2 _ rfl,_,hc 3 _ rfl,_,hc 4 _ rfl,?_⟩
 simp only[beq_self_eq_true,Bool.and_self,Bool.not_true]
 exact q44 ⟨q03,⟨⟨trivial,trivial,trivial,trivial,trivial⟩,i+1,by omega,by omega,f⟩,by omega⟩
theorem qhy (v:Rv)(es:List En):(qeq v es).length=es.length:=by
 unfold qeq
 rw[List.length_append,q3e,q43]
 have:=qb5 v (lowQ v es).1 es ([],[])
 unfold splQ
 simpa using this
variable {ba bo:Nat}{bs o:Sl}{bl:List (Int × Int × Int × Int)}{lot:Int}{es:List En}{W0:World}
theorem qqr (L:LW y z ta tb ba bo bs bl w)(hA:Fit ta)(hB:Fit tb)(na:(ta.crit.map (·.name)).Nodup)(nb:(tb.crit.map (·.name)).Nodup)(hl:∃ m,m∈ta.lots/\m.1=lot)(hi:I64 lot)(I:LI W0 lot o es w)(h8:es.length<=8)(hK:∀ w',Fr F0 w w'->K true w') :
  z0d_k4 true ⟨ba,0,none⟩ ⟨bo,0,none⟩ lot o K w:=by
 refine⟨?_⟩
 refine T43.ld_row L.ra (T43.ld_row L.rb ?_)
 intro w72
 have m:Mem w w72 [(w.heap.size,([lot]:List Int).flatMap encI)]:=Mem.nil.allocL (cs:=([lot]:List Int).flatMap encI)
 clear_value w72
 have L1:=L.fr m.1
 refine qct (lots:=[lot]) L1.Ua L1.Ub hA hB L1.g (Row.ow encI_length (l:=[lot]) (m.row 0)).vw (by show(1:Nat)<_; decide) (fun j hj=>by rw[List.mem_singleton.1 hj]; exact hi) fun w73 f73=>?_
 have f:=m.1.t f73
 cases ht:q7r ta tb [lot] with
 | true=>exact q3d (hK w73 f)
 | false =>
  refine q44 ?_
  obtain⟨hlb,hal⟩:=alike ht na nb (by have:=hA.reqs; omega) (by have:=hB.reqs; omega) (fun l hl=>(hA.lot l hl).1) (fun l hl=>(hB.lot l hl).1) hl
  have hla:∃ m,ta.lots.find? (fun l=>decide (l.1=lot))=some m:=by
   rw[← Option.isSome_iff_exists,List.find?_isSome]
   obtain⟨m,hm,hm1⟩:=hl
   exact⟨m,hm,by simp[hm1]⟩
  have nbd:(es.map (·.b)).Nodup:=by rw[I.b]; exact q8q _
  have nrd:(es.map (·.r)).Nodup:=by rw[I.r]; exact q8q _
  have L2:=L.fr f
  have I2:=I.fr f
  refine T43.ld_row L2.ra ?_
  refine qda L2.Ua ⟨hA,by omega,hla,fun e he=>(I.ok e he).2.2⟩ I2.ow.vw nbd nrd (fun e he=>(I2.ok e he).1) fun r77 w76 f76 v77=>?_
  have L3:=L2.fr f76
  have I3:=I2.fr f76
  refine T43.ld_row L3.rb ?_
  refine qda L3.Ub ⟨hB,by omega,hlb,fun e he=>(I.ok e he).2.2⟩ I3.ow.vw nbd nrd (fun e he=>(I3.ok e he).1) fun r81 w80 f80 v81=>?_
  rw[← hal.rank] at v81
  have v77:=v77.fr f80
  have hln:=qhy (q0m ta lot) es
  have e1:=v77.len
  have e2:=v81.len
  refine q44 ?_
  rw[show((r77.l:Int) != (r81.l:Int))=false by rw[e1,e2]; simp]
  exact q44 (qqq v77 v81 (by omega) fun w' f'=>hK w' ((f.t f76).t (f80.t f')))
theorem qqs (L:LW y z ta tb ba bo bs bl W0)(hA:Fit ta)(hB:Fit tb)(na:(ta.crit.map (·.name)).Nodup)(nb:(tb.crit.map (·.name)).Nodup)(hl:∃ m,m∈ta.lots/\m.1=lot)(hi:I64 lot)
  (hbi:∀ q∈bl,I64 q.1/\I64 q.2.1/\I64 q.2.2.1/\I64 q.2.2.2) (hK:∀ w',Fr F0 W0 w'->K true w') :
  z0d_l2 bs true ⟨ba,0,none⟩ ⟨bo,0,none⟩ lot ⟨none,0,0⟩ 0 K W0:=by
 have eb:=L.hb.len
 have hcl:=hA.crit
 have hlI:LI W0 lot ⟨none,0,0⟩ [] W0:=⟨Fr.refl,⟨rfl,by simpa using OwnV.nil⟩,(fun b ⟨a,ha,_⟩=>by cases ha),(fun e he=>by cases he),rfl,rfl⟩
 refine⟨⟨fun o i u=>∃ (i':Nat) (es:List En),i=i'/\i'<=8/\es.length=i'/\LI W0 lot o es u,fun _ i _=>8-i.toNat,⟨0,[],rfl,by omega,rfl,hlI⟩,?_⟩⟩
 rintro o i u ⟨i,es,rfl,h8,hes,I⟩
 unfold z0d_b2
 have hend:z0d_k4 true ⟨ba,0,none⟩ ⟨bo,0,none⟩ lot o K u:=qqr (L.fr I.f) hA hB na nb hl hi I (by omega) fun w' f=>hK w' (I.f.t f)
 refine q00.2 ⟨fun h1=>q00.2 ⟨fun h2=>?_,fun _=>hend⟩,fun _=>hend⟩
 have hil:i<bl.length:=by omega
 have hq:=hbi _ (J0 hil)
 have Lu:=L.fr I.f
 refine Vw.go encT4_length (by decide) Lu.hb i rfl hil fun a hc=>⟨⟨by decide,by decide⟩,_,hc 0 _ rfl,?_⟩
 intro w41
 refine q11 rfl Mem.nil fun w42 m=>?_
 clear w41
 have m:Mem u w42 [(u.heap.size,[.int .i64 (i:Int),.int .i64 lot,.int .i64 (i:Int),.int .i64 bl[i].1,.slice none 0 0])]:=m
 rw[q01]
 refine⟨_,((Lu.fr m.1).ra).at (i:=2) rfl,?_⟩
 have ec:=Lu.Ua.crit.len
 refine⟨⟨fun j v=>∃ (j':Nat) (s:Sl),j=j'/\j'<=ta.crit.length/\Fr F0 u v/\Row v u.heap.size [.int .i64 (i:Int),.int .i64 lot,.int .i64 (i:Int),.int .i64 bl[i].1,.slice s.p s.l s.c]/\Ow 2 encV v s (q74 bl[i] 0 (ta.crit.take j'))/\(∀ b,inB s b->u.heap.size<b),fun j _=>ta.crit.length-j.toNat,
  ⟨0,⟨none,0,0⟩,rfl,by omega,m.1,m.row 0,⟨rfl,(OwnV.nil:OwnV 2 w42 ⟨none,0,0⟩ [])⟩,fun b ⟨a,ha,_⟩=>by cases ha⟩,?_⟩⟩
 rintro j v ⟨j,s,rfl,hj,f,rx,ow,os⟩
 unfold z0d_b3
 have hvl:(q74 bl[i] 0 (ta.crit.take j)).length=j:=by rw[q6y,J1]; omega
 refine q00.2 ⟨fun hlt=>?_,fun hge=>?_⟩
 ·have hjl:j<ta.crit.length:=by omega
  have tk:ta.crit.take (j+1)=ta.crit.take j++[ta.crit[j]]:=by rw[List.take_add_one,List.getElem?_eq_getElem hjl]; rfl
  have tl:(ta.crit.take j).length=j:=by rw[J1]; omega
  refine ldCr (Lu.Ua.crit.fr f) j rfl hjl ?_
  intro w50
  refine q11 rfl Mem.nil fun w51 m51=>?_
  clear w50
  have m51:Mem v w51 [(v.heap.size,encC ta.crit[j])]:=m51
  intro w52
  have d:Fr F0 v w52:=m51.1.t Fr.drew
  have rc:Row w52 v.heap.size (encC ta.crit[j]):=(Fr.drew (F:=F0)).row (m51.row 0) fun h=>h
  have rx:=d.row rx fun h=>h
  have ow':=ow.fr d
  have f52:=f.t d
  have hsv:∀ b,inB s b->b<v.heap.size:=fun b hb=>ow.lt' hb
  have huv:=f.1
  have hux:=rx.lt
  clear_value w52
  rw[q01]
  have hS:∀ {q:World},Fr F0 u q->Vw 4 encT4 q bs bl:=fun g=>Lu.hb.fr g
  refine⟨fun q=>Fr F0 u q/\Row q u.heap.size [.int .i64 (i:Int),.int .i64 lot,.int .i64 (i:Int),.int .i64 bl[i].1,.slice s.p s.l s.c]/\Row q v.heap.size (encC ta.crit[j]),⟨f52,rx,rc⟩,s,fun q h=>h.2.1.at (i:=4) rfl,_,fun q h=>h.2.2.at (i:=0) rfl,by decide,?_⟩
  have ej:(1:Int)+Int.tmod (j:Int) 3=((1+j % 3:Nat):Int):=by
   rw[show Int.tmod (j:Int) 3=((j % 3:Nat):Int) from rfl]; omega
  have hj3:j % 3<3:=Nat.mod_lt _ (by decide)
  rw[ej]
  refine⟨q03,?_⟩
  refine Vw.goS (S:=fun q=>Fr F0 u q/\Row q u.heap.size [.int .i64 (i:Int),.int .i64 lot,.int .i64 (i:Int),.int .i64 bl[i].1,.slice s.p s.l s.c]/\Row q v.heap.size (encC ta.crit[j])) encT4_length (by decide) ⟨f52,rx,rc⟩ (fun q h=>hS h.1) i rfl hil fun a hc=>⟨⟨by omega,by omega⟩,bidV bl[i] j,fun q h=>?_,?_⟩
  ·have:=hc (1+j % 3) _ (bid_at bl[i] j) q h
   rw[Int.toNat_natCast (1+j % 3),Nat.mul_one]
   exact this
  intro w58
  have d58:Fr F0 w52 w58:=Fr.alloc
  refine⟨⟨f52.t d58,d58.row rx fun h=>h,d58.row rc fun h=>h⟩,?_⟩
  refine(ow'.fr d58).app (m:=[(ta.crit[j].name,bidV bl[i] j)]) (Vw.new (enc:=encV) rfl rfl) qk3 rfl (by simp; omega) (by simp; omega) fun s59 w60 ho hf hs=>?_
  have l52:=d.1
  have l58:=d58.1
  have f60:Fr F0 u w60:=(f52.t d58).trans hf fun b hb hlt=>by have:=os b hb; omega
  have rx60:=hf.row (d58.row rx fun h=>h) fun hb=>by have:=os _ hb; omega
  have rc60:=hf.row (d58.row rc fun h=>h) fun hb=>by have:=hsv _ hb; omega
  refine⟨⟨f60,rx60,rc60⟩,rx60.wr (by simp),?_⟩
  intro w61
  have g61:Fr (fun b=>b=u.heap.size) w60 w61:=Fr.set rfl
  have rx61:=rx60.set 4 (.slice s59.p s59.l s59.c)
  have os59:∀ b,inB s59 b->u.heap.size<b:=fun b hb=>by
   rcases hs b hb with h | h
   ·exact os b h
   ·omega
  refine⟨q03,⟨⟨rfl,rfl,rfl,rfl,rfl,rfl,rfl,rfl,rfl,rfl,trivial⟩,j+1,s59,by omega,by omega,f60.trans g61 fun b hb hlt=>by omega,rx61,?_,os59⟩,by dsimp only; omega⟩
  rw[tk,qa4,tl,Nat.zero_add]
  exact ho.frF g61 fun b hb he=>by have:=os59 b hb; omega
 ·have hjl:j=ta.crit.length:=by omega
  subst hjl
  rw[List.take_length] at ow hvl
  simp -zeta only[q01]
  refine⟨_,rx.at (i:=0) rfl,_,rx.at (i:=1) rfl,_,rx.at (i:=2) rfl,_,rx.at (i:=3) rfl,s,rx.at (i:=4) rfl,?_⟩
  have Iv:=I.fr f
  intro w67
  have hsv:∀ b,inB s b->b<v.heap.size:=fun b hb=>ow.lt' hb
  refine Iv.push (e:=⟨i,lot,i,bl[i].1,s,q74 bl[i] 0 ta.crit⟩) rfl (by omega) ⟨ow.vw,by rw[hvl]; omega,fun v hv=>qlr hq.2 0 _ v hv,⟨by dsimp only; omega,by dsimp only; omega⟩,⟨by dsimp only; omega,by dsimp only; omega⟩,hq.1⟩ (fun b hb=>⟨fun hbo=>?_,hsv b hb⟩) rfl (by rw[hes]) (by rw[hes]) fun r u' I'=>⟨q03,⟨⟨trivial,trivial,trivial,trivial,trivial,trivial⟩,i+1,_,by omega,by omega,by simp[hes],I'⟩,by omega⟩
  have h1:=os b hb
  have h2:=I.ow.lt' hbo
  omega
end
section
variable {w w' u w0:World}{x:T29}{y z:T43}{ta tb:Td}{p:Pn}{K:Bool->World->Prop}{ba bo:Nat}{bs es:Sl}{bl:List (Int × Int × Int × Int)}{el:List (Int × Int × Int)}
theorem qqt (L:LW y z ta tb ba bo bs bl w)(hA:Fit ta)(hB:Fit tb)(hbi:∀ q∈bl,I64 q.1/\I64 q.2.1/\I64 q.2.2.1/\I64 q.2.2.2)(hK:∀ w',Fr F0 w w'->K true w') :
  z0d_k1 bs true ⟨ba,0,none⟩ ⟨bo,0,none⟩ K w:=by
 refine⟨?_⟩
 simp -zeta only[q01]
 have ell:=L.Ua.lots.len
 refine⟨_,L.ra.at (i:=1) rfl,q09.2 ⟨fun _=>hK w Fr.refl,fun h0=>?_⟩⟩
 refine T43.ld_row L.ra (qa5 L.Ua hA fun r32 w31 f31 na=>q04.2 ⟨fun _=>hK w31 f31,fun h32=>?_⟩)
 have L1:=L.fr f31
 refine T43.ld_row L1.rb (qa5 L1.Ub hB fun r35 w34 f34 nb=>q04.2 ⟨fun _=>hK w34 (f31.t f34),fun h35=>?_⟩)
 have L2:=L1.fr f34
 have f:=f31.t f34
 have hl0:0<ta.lots.length:=by omega
 refine⟨_,L2.ra.at (i:=1) rfl,?_⟩
 refine Vw.go q0s (by decide) L2.Ua.lots 0 rfl hl0 fun a hc=>⟨_,hc 0 _ rfl,?_⟩
 exact qqs L2 hA hB (na h32) (nb h35) ⟨_,J0 hl0,rfl⟩ (hA.lot _ (J0 hl0)).1 hbi fun w' f'=>hK w' (f.t f')
theorem FitK.mono {k k':Nat}{t:Td}(h:FitK k t)(hk:k'<=k):FitK k' t :=
 { h with fp:=by have:=h.fp; omega,lots:=by have:=h.lots; omega,ties:=by have:=h.ties; omega,combos:=by have:=h.combos; omega }
structure TL (w0:World)(x:T29)(p:Pn)(bs es:Sl)(bl:List (Int × Int × Int × Int))(el:List (Int × Int × Int)):Prop where
 g:GlT w0
 hp:PP w0 x p
 hf:PFit p
 hb:Vw 4 encT4 w0 bs bl
 hbi:∀ q∈bl,I64 q.1/\I64 q.2.1/\I64 q.2.2.1/\I64 q.2.2.2
 he:Vw 3 q4l w0 es el
 hei:∀ e∈el,I64 e.1/\I64 e.2.1/\I64 e.2.2
theorem qqu {lo:Nat}{Za Zb:List Sl}{D:Nat->Prop}(T:TL w0 x p bs es bl el)(f0:Fr F0 w0 w)(hbo:w0.heap.size<=bo)(hne:ba≠bo)(ra:Row w ba y.cs)(rb:Row w bo z.cs)(Ua:TD D w y (tdP p) Za)(hD:D bo)(Ub:TE lo w z tb Zb)(hB:FitK 4 tb)(hK:∀ w',Fr F0 w0 w'->K true w') :
  z0d_l0 bs es true ⟨ba,0,none⟩ ⟨bo,0,none⟩ 0 K w:=by
 have he:=T.he
 have eel:=he.len
 have hA:=(qh2 T.hf).fit
 refine⟨⟨fun i u=>∃ (i' lo:Nat) (z:T43) (tb:Td) (Zb:List Sl),i=i'/\i'<=4/\i'<=el.length/\Fr F0 w0 u/\Row u ba y.cs/\Row u bo z.cs/\TD D u y (tdP p) Za/\TE lo u z tb Zb/\FitK (4-i') tb,fun i _=>4-i.toNat,⟨0,lo,z,tb,Zb,rfl,by omega,by omega,f0,ra,rb,Ua,Ub,hB⟩,?_⟩⟩
 rintro i u ⟨i,lo,z,tb,Zb,rfl,h4,hil,f0,ra,rb,Ua,Ub,hB⟩
 unfold z0d_b0
 have hend:z0d_k1 bs true ⟨ba,0,none⟩ ⟨bo,0,none⟩ K u:=qqt ⟨ra,rb,Ua.tp,Ub.tp,T.g.fr f0,T.hb.fr f0⟩ hA hB.fit T.hbi fun w' f=>hK w' (f0.t f)
 refine q00.2 ⟨fun h1=>q00.2 ⟨fun h2=>?_,fun _=>hend⟩,fun _=>hend⟩
 have hlt:i<el.length:=by omega
 intro w33
 have d:Fr F0 u w33:=Fr.drew
 clear_value w33
 have f0:=f0.t d
 have ra:=d.row ra fun h=>h
 have rb:=d.row rb fun h=>h
 have Ua:=Ua.fr d
 have Ub:=Ub.fr d
 refine⟨fun v=>v=w33,rfl,T43.lds_row (fun v hv=>by rw[hv]; exact rb) ?_⟩
 refine Vw.goS (S:=fun v=>v=w33) q41 (by decide) rfl (fun v hv=>by rw[hv]; exact he.fr f0) i rfl hlt fun a hc=>⟨_,hc 0 _ rfl,_,hc 1 _ rfl,_,hc 2 _ rfl,?_⟩
 obtain⟨k,hk⟩:∃ k,4-i=k+1:=⟨3-i,by omega⟩
 rw[hk] at hB
 have hq:=(T.hei _ (J0 hlt)).2.2
 refine qhx rb Ub hB fun v z' Z' fv rb' U'=>⟨q03,⟨⟨rfl,rfl,rfl,rfl,rfl,trivial⟩,i+1,_,z',_,Z',by omega,by omega,by omega,?_,fv.row ra hne,rb',?_,U',?_⟩,by dsimp only; omega⟩
 ·exact f0.trans fv fun b hb hlt=>by omega
 ·exact Ua.frB (F:=fun c=>c=bo) (fun c hc=>by rw[show c=bo from hc]; exact hD) (fun c hc=>⟨z,by rw[show c=bo from hc]; exact rb⟩) (fun c hc=>⟨z',by rw[show c=bo from hc]; exact rb'⟩) fv
 ·exact FitK.mono (qnz hB hq) (by omega)
theorem qbr (T:TL w x p bs es bl el)(hK:∀ w',Fr F0 w w'->K true w'):z0d_sh x bs es K w:=by
 have hp:=T.hp
 have hf:=T.hf
 refine⟨?_⟩
 intro w1
 have m:Mem w w1 [(w.heap.size,x.cs)]:=Mem.nil.allocL
 clear_value w1
 refine qfg fun w2 f2=>?_
 have m:=m.fr f2
 intro w4
 have m:Mem w w4 [(w.heap.size,x.cs)]:=m.drew
 clear_value w4
 have hR:∀ {u:World},Fr F0 w4 u->Row u w.heap.size x.cs:=fun f=>(m.fr f).row 0
 have hP:∀ {u:World},Fr F0 w4 u->PP u x p:=fun f=>hp.fr (m.1.t f)
 refine⟨fun u=>Fr F0 w4 u,Fr.refl,T29.lds_row (fun u hu=>hR hu) (T29.lds_row (fun u hu=>hR hu) ⟨fun u u' h hs=>hs.t h.f0,⟨fun u=>ExtL.alloc,fun u=>ExtL.alloc,trivial⟩,fun w8 e8=>?_⟩)⟩
 refine q6w (hP e8.f0) hf fun w9 r10 Z1 f9 T1 O1=>⟨f9.ext,fun w11 e11=>?_⟩
 have f11:=e8.f0.t (f9.t e11.f0)
 refine q6w (hP f11) hf fun w12 r13 Z2 f12 T2 O2=>⟨f12.ext,fun w14 e14 w15 e15 _ g15 w16 e16 n16 g16=>?_⟩
 have f14:=f11.t (f12.t e14.f0)
 have ga:=e11.f0.t (f12.t e14.f0)
 have r15:=g15.f0.row (Row.new (cs:=zT)) fun h=>h
 have r16:=g16.f0.row (Row.new (cs:=zT)) fun h=>h
 have hne:w15.heap.size≠w16.heap.size:=n16 _ (List.mem_cons_self ..)
 have l15:=e15.f0.1
 have l16:=e16.f0.1
 (try dsimp -zeta only[hA]);generalize w15.heap.size=ba at hne r15 l15 ⊢
 generalize w16.heap.size=bo at hne r16 l16 ⊢
 refine qqp r15 r16 hne (T1.fr ga) (O1.fr ga) (T2.fr e14.f0) (O2.fr e14.f0) (fun u f=>f14.trans f fun b hb _=>by omega) fun w18 f18 v1 v2 U1 U2=>?_
 have F18:Fr F0 w4 w18:=f14.trans f18 fun b hb _=>by omega
 have A1:=qh2 hf
 have W4:=m.1
 have T4:TL w4 x p bs es bl el:=⟨T.g.fr W4,hp.fr W4,hf,T.hb.fr W4,T.hbi,T.he.fr W4,T.hei⟩
 exact qqu (lo:=0) T4 F18 l16 hne v1 v2 U1 (.inr rfl) U2.te (FitK.mono A1 (by omega)) fun w' f=>hK w' (W4.t f)
end
