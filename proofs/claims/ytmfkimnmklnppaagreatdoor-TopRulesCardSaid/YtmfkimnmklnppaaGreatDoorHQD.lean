/- eval: the value of a formula; it panics with the first error. Conditions: none. -/
import Derived.Test.YtmfkimnmklnppaaGreatDoorHQC
import Derived.RecoverIn
import Derived.Shelf.Strings.BuilderK
open List renaming length_take->J0,getElem_mem->J1,take_length->J2,getElem_append_right->J3,mem_iff_getElem->J4,not_mem_nil->J5,mem_cons->J6,range->J7,range'->J8
namespace Go.Proofs.YtmfkimnmklnppaaGreatDoor
open Go Pw Dp
def fail(er:Int):List PanicEntry:=[{ v:=.iface 148 (.agg #[.int .i64 er]),recovered:=false }]
section
variable{w w' w0:World}{s:Sl}
theorem ev_I{vals:List Vl}(hi:∀v∈vals,I64 v.2):∀(e:Fm) {c:XC} {x:Int×Int},XP w e c->e.ev vals=.ok x->I64 x.1/\I64 x.2
 | .num n d,c,x,hx,h=>by
  cases h
  exact hx.2
 | .name s,c,x,_,h=>by
  unfold Fm.ev at h
  split at h
  ·rename_i v hv
   cases h
   exact⟨hi _ (List.mem_of_find?_eq_some hv),(⟨od,od⟩:I64 1)⟩
  ·cases h
 | .op o a b,c,x,⟨_,_,_,_,hxa,hxb⟩,h=>by
  unfold Fm.ev at h
  split at h
  ·cases h
  ·rename_i y hy
   split at h
   ·cases h
   ·rename_i z hz
    split at h
    ·cases h
     exact appQ_I (ev_I hi a hxa hy) (ev_I hi b hxb hz)
    ·cases h
theorem qg8{n m:B}{k:Int}{b:Nat}{c:XC}{K:Bool->World->Prop}(h:Row w b (encX c))(hc:c.nm=ofL m)(hK:∀w',Fr F0 w w'->K (decide (n=m)) w'):z4q_sh (ofL n) k ⟨b,0,none⟩ K w:=by
 refine⟨fi ?_⟩
 intro w1
 have m1:Mem w w1 [(w.heap.size,[.string (ofL n),.int .i64 k])]:=Mem.nil.allocL (cs:=[.string (ofL n),.int .i64 k])
 clear_value w1
 refine⟨ofL n,m1.ld 0,c.nm,?_,?_⟩
 ·rw[q04];exact(m1.1.row h fun h=>h).at (i:=3) rfl
 ·rw[hc,q0c]
  exact hK _ m1.1
variable{Pn:List PanicEntry->World->Prop}
theorem qc1{bt bx:Nat}{n d er:Int}{K:Int->Int->World->Prop}(f:Fr F0 w0 w)(hbt:w0.heap.size<=bt)(rt:Row w bt [.int .i64 0,.int .i64 0])(rx:Row w bx [.int .i64 n,.int .i64 d])
  (hP:er≠0->Pn (fail er) w) (hK:er=0->∀w',Fr F0 w0 w'->K n d w'):z6d_k0 Pn ⟨bt,0,none⟩ ⟨bx,0,none⟩ er K w:=by
 refine⟨?_⟩
 unfold z6d_k0d
 simp -zeta only[q04]
 refine q0r.2 ⟨hP,fun h0=>⟨_,rx.at,_,rx.at,rt.wr od,?_⟩⟩
 intro w76
 have f1:Fr F0 w0 w76:=f.trans (Fr.set (F:=fun c=>c=bt) rfl) fun c hc hlt=>oo
 have r1:=rt.set 0 (.int .i64 n)
 refine⟨r1.wr og,?_⟩
 intro w77
 have f2:Fr F0 w0 w77:=f1.trans (Fr.set (F:=fun c=>c=bt) rfl) fun c hc hlt=>oo
 have r2:=r1.set 1 (.int .i64 d)
 exact⟨_,r2.at,_,r2.at,hK h0 w77 f2⟩
theorem qju{vals:List Vl}(hl:vals.length<2^62)(hi:∀v∈vals,I64 v.2):∀(e:Fm) {c:XC} {w:World} {K:Int->Int->World->Prop},XP w e c->Vw 2 encV w s vals ->
  (∀x w',e.ev vals=.ok x->Fr F0 w w'->K x.1 x.2 w')->(∀er w',e.ev vals=.error er->Fr F0 w w'->Pn (fail er) w')->z6d_sh Pn c.op c.n c.d c.nm c.a s K w:=by
 intro e
 induction e with
 | num n d =>
  intro c w K hx hv hK hP
  obtain⟨rfl,hn,hd⟩:=hx
  refine z6d_mk _ _ _ _ _ _ _ _ _ _ _ ?_
  unfold z6d_sd
  intro w1 w2
  have m:Mem w w2 [(w1.heap.size,[.int .i64 0,.int .i64 0]),(w.heap.size,encX ⟨ofL wNum,n,d,ofL [],⟨none,0,0⟩⟩)]:=(Mem.nil.allocL (cs:=encX ⟨ofL wNum,n,d,ofL [],⟨none,0,0⟩⟩)).allocL (cs:=[.int .i64 0,.int .i64 0])
  clear_value w2 w1
  refine⟨_,m.ld 1,?_⟩
  rw[show decide (ofL wNum=str [110,117,109])=true by decide]
  refine q08 ⟨_,m.ld 1,_,m.ld 1,m.wr 0,?_⟩
  intro w6
  have m:=m.set (i:=0) (v:=.int .i64 n) 0
  refine⟨m.wr 0,?_⟩
  intro w7
  have m:=m.set (i:=1) (v:=.int .i64 d) 0
  exact⟨_,m.ld 0,_,m.ld 0,hK (n,d) _ rfl m.1⟩
 | name nm =>
  intro c w K hx hv hK hP
  obtain⟨rfl,hsl⟩:=hx
  refine z6d_mk _ _ _ _ _ _ _ _ _ _ _ ?_
  unfold z6d_sd
  intro w1 w2
  have m:Mem w w2 [(w1.heap.size,[.int .i64 0,.int .i64 0]),(w.heap.size,encX ⟨ofL q1w,0,0,ofL nm,⟨none,0,0⟩⟩)]:=(Mem.nil.allocL (cs:=encX ⟨ofL q1w,0,0,ofL nm,⟨none,0,0⟩⟩)).allocL (cs:=[.int .i64 0,.int .i64 0])
  clear_value w2 w1
  refine⟨_,m.ld 1,?_⟩
  rw[show decide (ofL q1w=str [110,117,109])=false by decide,show decide (ofL q1w=str [110,97,109,101])=true by decide]
  refine q0h (q08 ?_)
  refine q4q (hv.fr m.1) hl (p:=fun v=>decide (v.1=nm)) (fun x _=>fun u K hu hK=>q02 z4q_ok (qg8 (K:=kk [tB] K) (hu.row (m.roW 1 rfl) fun h=>h) rfl hK)) fun r w10 f10 hr=>?_
  have m:=m.fr f10
  refine q00.2 ⟨fun h0=>?_,fun h0=>?_⟩
  ·have hf:=hr.none h0
   refine hP 13 w10 ?_ m.1
   unfold Fm.ev
   rw[hf]
  ·obtain⟨i,hil,rfl,hf⟩:=hr.find h0
   refine Vw.go q46 od (hv.fr m.1) i rfl hil fun a hc=>⟨_,hc 1 _ rfl,?_⟩
   refine qft fun w14 f14=>?_
   have m:=m.fr f14
   refine⟨m.wr 0,?_⟩
   intro w16
   have m:=m.set (i:=0) (v:=.int .i64 vals[i].2) 0
   refine⟨m.wr 0,?_⟩
   intro w17
   have m:=m.set (i:=1) (v:=.int .i64 1) 0
   refine⟨_,m.ld 0,_,m.ld 0,hK (vals[i].2,1) _ ?_ m.1⟩
   unfold Fm.ev
   rw[hf]
 | op o a b iha ihb =>
  intro c w K hx hv hK hP
  have hx0:=hx
  obtain⟨ca,cb,⟨ho,hn,hd,hm⟩,hva,hxa,hxb⟩:=hx
  obtain⟨c0,c1,c2,c3,c4⟩:=c
  simp only at ho hn hd hm hva
  subst ho hn hd hm
  refine z6d_mk _ _ _ _ _ _ _ _ _ _ _ ?_
  unfold z6d_sd
  intro w1 w2
  have m:Mem w w2 [(w1.heap.size,[.int .i64 0,.int .i64 0]),(w.heap.size,encX ⟨ofL (opB o),0,0,ofL [],c4⟩)]:=(Mem.nil.allocL (cs:=encX ⟨ofL (opB o),0,0,ofL [],c4⟩)).allocL (cs:=[.int .i64 0,.int .i64 0])
  have hb1:w.heap.size<=w1.heap.size:=(Fr.alloc (F:=F0)).1
  clear_value w2 w1
  refine⟨_,m.ld 1,?_⟩
  rw[qji,q8q]
  refine q0h (q0h ⟨_,m.ld 1,qaj fun w21 f21=>?_⟩)
  have m:=m.fr f21
  intro w24
  have m:Mem w w24 ((w21.heap.size,[.string (str []),.nilFunc])::_):=m.allocL (cs:=[.string (str []),.nilFunc])
  clear_value w24
  refine⟨m.wr 0,?_⟩
  intro w25
  have m:=m.set (i:=0) (v:=.string (ofL (opB o))) 0
  refine qdc (qmj o) ⟨m.wr 0,?_⟩
  intro w26
  have m:Mem w w26 [(w21.heap.size,encO o),(w1.heap.size,[.int .i64 0,.int .i64 0]),(w.heap.size,encX ⟨ofL (opB o),0,0,ofL [],c4⟩)]:=m.set (i:=1) (v:=opF o) 0
  clear_value w26 w25
  refine⟨_,m.ld 2,?_⟩
  refine ldX (hva.fr m.1) 0 rfl og ?_
  refine iha (hxa.fr m.1) (hv.fr m.1) (fun x w34 hex f34=>?_) fun er w' he f=>hP er w' (by unfold Fm.ev;rw[he]) (m.1.t f)
  have hxi:=ev_I hi a (hxa.fr m.1) hex
  have m:=m.fr f34
  intro w36
  have m:Mem w w36 ((w34.heap.size,[.int .i64 0,.int .i64 0])::_):=m.allocL (cs:=[.int .i64 0,.int .i64 0])
  clear_value w36
  refine⟨m.wr 0,?_⟩
  intro w37
  have m:=m.set (i:=0) (v:=.int .i64 x.1) 0
  refine⟨m.wr 0,?_⟩
  intro w38
  have m:=m.set (i:=1) (v:=.int .i64 x.2) 0
  intro w39
  have m:Mem w w39 [(w34.heap.size,[.int .i64 x.1,.int .i64 x.2]),(w21.heap.size,encO o),(w1.heap.size,[.int .i64 0,.int .i64 0]),(w.heap.size,encX ⟨ofL (opB o),0,0,ofL [],c4⟩)]:=m.drew
  clear_value w39 w38 w37
  have M:∀ {u:World},Fr F0 w39 u->Mem w u [(w34.heap.size,[.int .i64 x.1,.int .i64 x.2]),(w21.heap.size,encO o),(w1.heap.size,[.int .i64 0,.int .i64 0]),(w.heap.size,encX ⟨ofL (opB o),0,0,ofL [],c4⟩)]:=fun f=>m.fr f
  refine⟨fun u=>Fr F0 w39 u,Fr.refl,_,fun u f=>(M f).ld 1,_,fun u f=>(M f).ld 1,_,fun u f=>(M f).ld 0,_,fun u f=>(M f).ld 0,_,fun u f=>(M f).ld 3,?_⟩
  refine Vw.goS (S:=fun u=>Fr F0 w39 u) q1p od Fr.refl (fun u f=>hva.fr (M f).1) 1 rfl og fun ad hc=>⟨_,fun u f=>hc 0 _ rfl u f,_,fun u f=>hc 1 _ rfl u f,_,fun u f=>hc 2 _ rfl u f,_,fun u f=>hc 3 _ rfl u f,_,fun u f=>hc 4 _ rfl u f,?_⟩
  have key:∀ {u:World} {J:Int->Int->World->Prop},Fr F0 w39 u->(∀y w',b.ev vals=.ok y->Fr F0 u w'->J y.1 y.2 w')->z6d_sh Pn cb.op cb.n cb.d cb.nm cb.a s J u:=fun {u J} f hJ =>
   ihb (hxb.fr (M f).1) (hv.fr (M f).1) hJ fun er w' he f'=>hP er w' (by unfold Fm.ev;rw[hex];simp only;rw[he]) ((M f).1.t f')
  have fin:∀ {u:World} {y:Int×Int} {bx:Nat},b.ev vals=.ok y->Fr F0 w39 u->Row u bx [.int .i64 (appQ o x y).1.n,.int .i64 (appQ o x y).1.d]->z6d_k0 Pn ⟨w1.heap.size,0,none⟩ ⟨bx,0,none⟩ (appQ o x y).2 K u:=fun {u y bx} hy f rx =>
   qc1 (M f).1 hb1 ((M f).row 2) rx (fun h=>hP _ _ (by unfold Fm.ev;rw[hex];simp only;rw[hy];simp only;rw[if_neg h]) (M f).1) fun h w' f'=>hK ((appQ o x y).1.n,(appQ o x y).1.d) w' (by unfold Fm.ev;rw[hex];simp only;rw[hy];simp only;rw[if_pos h]) f'
  refine⟨?_,?_⟩
  ·refine key Fr.refl fun y w52 hy f52=>?_
   have hyi:=ev_I hi b (hxb.fr (M f52).1) hy
   refine⟨f52,?_,?_⟩
   ·refine q72 hxi hyi fun w54 f54=>?_
    have f54:=f52.t f54
    refine⟨f54,?_⟩
    intro w57
    have m:Mem w54 w57 [(w54.heap.size,[.int .i64 0,.int .i64 0])]:=Mem.nil.allocL (cs:=[.int .i64 0,.int .i64 0])
    clear_value w57
    refine⟨f54.t m.1,m.wr 0,?_⟩
    intro w58
    have m:=m.set (i:=0) (v:=.int .i64 (appQ o x y).1.n) 0
    refine⟨m.wr 0,?_⟩
    intro w59
    have m:=m.set (i:=1) (v:=.int .i64 (appQ o x y).1.d) 0
    exact fin hy (f54.t m.1) (m.row 0)
   ·intro w60
    have m:Mem w52 w60 [(w52.heap.size,[.int .i64 0,.int .i64 0])]:=Mem.nil.allocL (cs:=[.int .i64 0,.int .i64 0])
    clear_value w60
    refine⟨f52.t m.1,q72 hxi hyi fun w61 f61=>?_⟩
    have m:=m.fr f61
    refine⟨f52.t m.1,m.wr 0,?_⟩
    intro w64
    have m:=m.set (i:=0) (v:=.int .i64 (appQ o x y).1.n) 0
    refine⟨m.wr 0,?_⟩
    intro w65
    have m:=m.set (i:=1) (v:=.int .i64 (appQ o x y).1.d) 0
    exact fin hy (f52.t m.1) (m.row 0)
  ·intro w66
   have m:Mem w39 w66 [(w39.heap.size,[.int .i64 0,.int .i64 0])]:=Mem.nil.allocL (cs:=[.int .i64 0,.int .i64 0])
   clear_value w66
   refine⟨m.1,key m.1 fun y w67 hy f67=>?_⟩
   have m:=m.fr f67
   have hyi:=ev_I hi b (hxb.fr (M m.1).1) hy
   refine⟨m.1,q72 hxi hyi fun w69 f69=>?_⟩
   have m:=m.fr f69
   refine⟨m.1,m.wr 0,?_⟩
   intro w72
   have m:=m.set (i:=0) (v:=.int .i64 (appQ o x y).1.n) 0
   refine⟨m.wr 0,?_⟩
   intro w73
   have m:=m.set (i:=1) (v:=.int .i64 (appQ o x y).1.d) 0
   exact fin hy m.1 (m.row 0)
end
end Go.Proofs.YtmfkimnmklnppaaGreatDoor
set_option maxRecDepth 20000
namespace Go.Proofs.YtmfkimnmklnppaaGreatDoor
open Go Pw Dp
def sqL:Code->Code
 | .seq a _=>a
 | c=>c
def sqR:Code->Code
 | .seq _ b=>b
 | c=>c
def rgO:Code->Array Oper
 | .region _ ops _=>ops
 | _=>#[]
noncomputable def c87:Code:=Tryz.f72.body.getD .skip
noncomputable def c52:Code:=Tryz.f30.body.getD .skip
noncomputable def p52a:Code:=sqL c52
noncomputable def p52b:Code:=sqL (sqR c52)
noncomputable def p52d:Code:=sqR (sqR (sqR c52))
noncomputable def o87:Array Oper:=rgO (sqL c87)
noncomputable def o52:Array Oper:=rgO (sqL (sqR (sqR c52)))
theorem qsg:Tryz.f72.body=some (.seq (.region 0 o87 false) (sqR c87)):=by kernel_rfl
theorem c52_eq:Tryz.f30.body=some (.seq p52a (.seq p52b (.seq (.region 4 o52 false) p52d))):=by kernel_rfl
def fval(er:Int):Value:=.iface 148 (.agg #[.int .i64 er])
def ev1A:A:=qb (qr 1 (qc (A.reg (qn 1 RA.done)) (qr 3 (qc (qr 2 (A.drw (dp [0,1,2] (DA.eff 3 (DA.eff 4 DA.done))))) ql))))
def ev1d(er:Int)(b0 b1:Nat)(K:World->Prop)(w:World):Prop:=
 let w2:World:=w.alloc (Obj.cells #[(Value.int .i64 (0:Int))] 148)
 wrOk w2 (Addr.mk w.heap.size 0 none) /\ 
 (let w3:World:=w2.setCell (Addr.mk w.heap.size 0 none) (Value.int .i64 er)
 let w4:World:=w3.drew
 ∃S5:World->Prop,S5 w4/\∃x6:Int,(∀w':World,S5 w'->w'.cell? (Addr.mk w.heap.size 0 none)=some (Value.int .i64 x6))/\wrOk w4 (Addr.mk b0 0 none) /\ 
 (let w7:World:=w4.setCell (Addr.mk b0 0 none) (Value.int .i64 (0:Int))
 wrOk w7 ((Addr.mk b0 0 none).add 1) /\ 
 (let w8:World:=w7.setCell ((Addr.mk b0 0 none).add 1) (Value.int .i64 (0:Int))
 S5 w8/\wrOk w8 (Addr.mk b1 0 none) /\ 
 (let w9:World:=w8.setCell (Addr.mk b1 0 none) (Value.int .i64 x6)
 K w9))))
def endQ(K:World->Prop):Qt
 | .normal,_,_,w=>K w
 | _,_,_,_=>False
theorem ev1_e(er:Int)(b0 b1:Nat)(K:World->Prop)(w:World):ev1d er b0 b1 K w=W Tryz.prog [] 14 ev1A (sqR c87) [] (endQ K) [] ((5,fval er)::q25 [.pointer (some ⟨b0,0,none⟩),.pointer (some ⟨b1,0,none⟩)]) w:=by kernel_rfl
theorem ev1_n(b0 b1:Nat)(K:World->Prop)(w:World):K w=W Tryz.prog [] 14 ev1A (sqR c87) [] (endQ K) [] ((5,.nilIface)::q25 [.pointer (some ⟨b0,0,none⟩),.pointer (some ⟨b1,0,none⟩)]) w:=by kernel_rfl
theorem ev1_o(K:World->Prop):obs Tryz.prog [] 14 ev1A (sqR c87) (fun _=>endQ K)=[]:=by kernel_rfl
theorem qq2{er:Int}{b0 b1:Nat}{x y z:Value}{w:World}{K:World->Prop}(r0:Row w b0 [x,y])(r1:Row w b1 [z])(hne:b0≠b1)
  (hK:∀w',Fr (fun b=>b=b0\/b=b1) w w'->Row w' b0 [.int .i64 0,.int .i64 0]->Row w' b1 [.int .i64 er]->K w'):ev1d er b0 b1 K w:=by
 unfold ev1d
 have h0:=r0.lt
 have h1:=r1.lt
 intro w2
 have m:Mem w w2 [(w.heap.size,[.int .i64 0])]:=Mem.nil.allocL (cs:=[.int .i64 0])
 clear_value w2
 refine⟨m.wr 0,?_⟩
 intro w3
 have m:=m.set (i:=0) (v:=.int .i64 er) 0
 intro w4
 have m:Mem w w4 [(w.heap.size,[.int .i64 er])]:=m.drew
 clear_value w4 w3
 have r0:=m.1.row r0 fun h=>h
 have r1:=m.1.row r1 fun h=>h
 refine⟨fun u=>Row u w.heap.size [.int .i64 er],m.row 0,er,fun u h=>h.at,r0.wr og,?_⟩
 simp -zeta only[q04]
 intro w7
 have r0:=r0.set 0 (.int .i64 0)
 have f7:Fr (fun b=>b=b0) w4 w7:=Fr.set rfl
 refine⟨r0.wr og,?_⟩
 intro w8
 have r0:=r0.set 1 (.int .i64 0)
 have f8:Fr (fun b=>b=b0) w4 w8:=f7.trans (Fr.set (F:=fun b=>b=b0) rfl) fun _ h _=>h
 have r1:=f8.row r1 fun h=>hne h.symm
 refine⟨f8.row (m.row 0) fun h=>oo,r1.wr og,?_⟩
 intro w9
 have r1:=r1.set 0 (.int .i64 er)
 have f9:Fr (fun b=>b=b1) w8 w9:=Fr.set rfl
 have r0:=f9.row r0 hne
 exact hK w9 ((m.1.f0.trans (f8.mono (G:=fun b=>b=b0\/b=b1) fun _ h=>.inl h) fun _ h _=>h).trans (f9.mono (G:=fun b=>b=b0\/b=b1) fun _ h=>.inr h) fun _ h _=>h) r0 r1
theorem o87_at:∃o,o87[0]?=some o/\o87.size=1/\o.guard=none/\o.dst=some 5/\o.op=.call ⟨.builtin .recover,#[],#[]⟩:=⟨(o87[0]?).getD default,by kernel_rfl,by kernel_rfl,by kernel_rfl,by kernel_rfl,by kernel_rfl⟩
theorem qmr{Q:Exit->Act->List Frame->World->Prop}{K:World->Prop}{b0 b1:Nat}{cs cs':List Frame}{w:World}{v:Value}(hv:(recoverD cs=some (v,cs'))\/(recoverD cs=none/\v=.nilIface/\cs'=cs))
  (h:W Tryz.prog [] 14 ev1A (sqR c87) [] (endQ K) [] ((5,v)::q25 [.pointer (some ⟨b0,0,none⟩),.pointer (some ⟨b1,0,none⟩)]) w)
  (hQ:∀a w',a.defers=[]->K w'->Q .normal a cs' w') {a:Act} (ha:Agr 14 [] (q25 [.pointer (some ⟨b0,0,none⟩),.pointer (some ⟨b1,0,none⟩)]) a) :
  (Code.seq (.region 0 o87 false) (sqR c87)).wpSIn Fence.wide 0 Tryz.prog Q a cs w:=by
 obtain⟨o,ho,hs,hg,hd,hop⟩:=o87_at
 refine wpSIn_seq (wpSIn_region ?_)
 have e:J7 o87.size=[0]:=by rw[hs];rfl
 rw[e]
 simp only[wpOpsSIn,ho]
 refine⟨fun _ _=>trivial,?_⟩
 rw[if_pos (q1i hg _)]
 have hr:(execOp a.eval o).run Tryz.prog w=.ok .recover w:=by simp[execOp,hop,resolve,invoke,builtin]
 rw[hr]
 have fin:∀cs'',cs''=cs'->Exit.thenS ((sqR c87).wpSIn Fence.wide 0 Tryz.prog Q) Q .normal (a.put o.dst v) cs'' w:=by
  rintro _ rfl
  refine wpSIn_of_wpIn rfl ?_
  have ha':Agr 14 [] ((5,v)::q25 [.pointer (some ⟨b0,0,none⟩),.pointer (some ⟨b1,0,none⟩)]) (a.put o.dst v):=by
   rw[hd];exact ha.put od v
  refine wpIn_mono (sound (Pn:=fun _ _=>False) (B:=[]) (Z:=fun D=>D=[]) (r:=none) (m:=0) progMixed (q3u.up (Γ:=[]) trivial rfl) ev1A (sqR c87) (fun _=>endQ K) (.inr rfl) (by rw[ev1_o];intro o ho;cases ho) [] [] _ _ w rfl ha' h) fun e a' w' hq=>?_
  cases e with
  | normal =>
   obtain⟨D,σ',rfl,hA,hk⟩:=hq
   exact hQ a' w' hA.2.1 hk
  | panic c=>exact hq.1.elim
  | outgrown=>exact hq.elim
  | ret=>obtain⟨_,_,_,_,hk⟩:=hq;exact hk.elim
  | exit id=>obtain⟨_,_,_,_,hk⟩:=hq;exact hk.elim
  | goto l=>obtain⟨_,_,_,_,hk⟩:=hq;exact hk.elim
 grind
theorem res87(tmps:Array Value)(w:World):(results Tryz.f72 tmps).run Tryz.prog w=.ok (.tuple #[]) w:=by
 simp[results]
theorem qms{b0 b1:Nat}{w:World}{R:Ending->FrameMode->World->Prop}(hR:R (.returned (.tuple #[])) .returning w):CallsDIn Fence.wide 0 Tryz.prog 72 #[.pointer (some ⟨b0,0,none⟩),.pointer (some ⟨b1,0,none⟩)] .returning w R:=by
 refine callsDIn_of_wpSIn Tryz.func72 qsg trivial fun c₀ cs hc=>?_
 refine qmr (K:=fun w'=>w'=w) (v:=.nilIface) (cs':=c₀::cs) (.inr ⟨by simp[recoverD,hc],rfl,rfl⟩) (by rw[←ev1_n]) (fun a w' hd hw=>?_) (q2w (vs:=[.pointer (some ⟨b0,0,none⟩),.pointer (some ⟨b1,0,none⟩)]) (m:=14) og)
 subst hw
 exact⟨hd,.returning,by rw[←hc],_,res87 _ _,hR⟩
theorem qg9{er:Int}{b0 b1:Nat}{x y z:Value}{w:World}{R:Ending->FrameMode->World->Prop}(r0:Row w b0 [x,y])(r1:Row w b1 [z])(hne:b0≠b1)
  (hR:∀w',Fr (fun b=>b=b0\/b=b1) w w'->Row w' b0 [.int .i64 0,.int .i64 0]->Row w' b1 [.int .i64 er]->R (.returned (.tuple #[])) (.panicking [{ v:=fval er,recovered:=true }]) w') :
  CallsDIn Fence.wide 0 Tryz.prog 72 #[.pointer (some ⟨b0,0,none⟩),.pointer (some ⟨b1,0,none⟩)] (.panicking (fail er)) w R:=by
 refine callsDIn_of_wpSIn Tryz.func72 qsg trivial fun c₀ cs hc=>?_
 refine qmr (K:=fun w'=>R (.returned (.tuple #[])) (.panicking [{ v:=fval er,recovered:=true }]) w') (v:=fval er) (cs':={ c₀ with mode:=.panicking [{ v:=fval er,recovered:=true }] } :: cs) (.inl (by simp[recoverD,hc,fail,fval])) (by
   rw[←ev1_e]
   exact qq2 r0 r1 hne hR) (fun a w' hd hw=>?_) (q2w (vs:=[.pointer (some ⟨b0,0,none⟩),.pointer (some ⟨b1,0,none⟩)]) (m:=14) og)
 exact⟨hd,_,rfl,_,res87 _ _,hw⟩
def atQ(N:St->World->Prop):Qt
  | .normal,_,σ,w=>N σ w
  | _,_,_,_=>False
def rtQ(M N:St->World->Prop):Qt
  | .ret,_,σ,w=>M σ w
  | .normal,_,σ,w=>N σ w
  | _,_,_,_=>False
theorem qmt{n:Nat}{B:List Deferred}{Pn:List PanicEntry->World->Prop}{N:St->World->Prop}{e:Exit}{a:Act}{w:World}(h:hat n B (fun D=>D=[]) Pn (atQ N) e a w) :
    (e=.normal/\∃σ,Agr n B σ a/\N σ w)\/∃c,e=.panic c/\Pn c w/\a.defers=B:=by
  cases e with
  | normal=>obtain⟨D,σ,rfl,hA,hN⟩:=h;exact .inl ⟨rfl,σ,hA,hN⟩
  | panic c=>obtain⟨hp,D,rfl,hd⟩:=h;exact .inr ⟨c,rfl,hp,hd⟩
  | outgrown=>exact h.elim
  | ret=>obtain⟨_,_,_,_,hk⟩:=h;exact hk.elim
  | exit id=>obtain⟨_,_,_,_,hk⟩:=h;exact hk.elim
  | goto l=>obtain⟨_,_,_,_,hk⟩:=h;exact hk.elim
theorem qsh{n:Nat}{B:List Deferred}{Pn:List PanicEntry->World->Prop}{M N:St->World->Prop}{e:Exit}{a:Act}{w:World}(h:hat n B (fun D=>D=[]) Pn (rtQ M N) e a w) :
    (e=.ret/\∃σ,Agr n B σ a/\M σ w)\/(e=.normal/\∃σ,Agr n B σ a/\N σ w)\/∃c,e=.panic c/\Pn c w/\a.defers=B:=by
  cases e with
  | normal=>obtain⟨D,σ,rfl,hA,hN⟩:=h;exact .inr (.inl ⟨rfl,σ,hA,hN⟩)
  | panic c=>obtain⟨hp,D,rfl,hd⟩:=h;exact .inr (.inr ⟨c,rfl,hp,hd⟩)
  | outgrown=>exact h.elim
  | ret=>obtain⟨D,σ,rfl,hA,hN⟩:=h;exact .inl ⟨rfl,σ,hA,hN⟩
  | exit id=>obtain⟨_,_,_,_,hk⟩:=h;exact hk.elim
  | goto l=>obtain⟨_,_,_,_,hk⟩:=h;exact hk.elim
section
variable{w w' w0:World}{s:Sl}
theorem qmu{n:Nat}{B:List Deferred}{Γ:Env}{Pn:List PanicEntry->World->Prop}{x:A}{c:Code}{Q:Qt}{σ:St}{a:Act}{R:Exit->Act->World->Prop}(hΓ:EnvP Tryz.prog Pn Γ)(hx:noRf x=true)(hob:obs Tryz.prog Γ n x c (fun _=>Q)=[])
    (ha:Agr n B σ a) (h:W Tryz.prog Γ n x c [] Q [] σ w) (hk:∀e a' w',hat n B (fun D=>D=[]) Pn Q e a' w'->R e a' w'):c.wpIn (fen none) 0 Tryz.prog R a w:=
  wpIn_mono (sound (r:=none) (m:=0) (B:=B) (Z:=fun D=>D=[]) progMixed hΓ x c (fun _=>Q) (.inr hx) oz [] [] σ a w rfl ha h) hk
abbrev ptr(b:Nat):Value:=.pointer (some ⟨b,0,none⟩)
def xagg(c:XC):Value:=.agg #[.string c.op,.int .i64 c.n,.int .i64 c.d,.string c.nm,.slice c.a.p c.a.l c.a.c]
abbrev st52(c:XC)(s:Sl)(b0 b1 b2:Nat):St:=[(5,ptr b2),(4,ptr b1),(2,ptr b0),(0,xagg c),(1,.slice s.p s.l s.c)]
theorem p52a_e(c:XC)(s:Sl)(N:St->World->Prop)(w:World) :
    (let w1:World:=w.alloc (Obj.cells (encX c).toArray 31)
     let w2:World:=w1.alloc (Obj.cells #[(Value.int .i64 (0:Int)),(Value.int .i64 (0:Int))] 28)
     let w3:World:=w2.alloc (Obj.cells #[(Value.int .i64 (0:Int))] 38)
     N (st52 c s w.heap.size w1.heap.size w2.heap.size) w3)=W Tryz.prog [] 17 (A.reg (qn 3 RA.done)) p52a [] (atQ N) [] (q25 [xagg c,.slice s.p s.l s.c]) w:=by kernel_rfl
def ev2A:A:=(qr 3 (qr 2 (qc (qr 4 ql) ql)))
def ev2d(b0 b1 b2:Nat)(M:World->Prop)(N:World->Prop)(w:World):Prop:=
  ∃x4:ByteArray,w.cell? (Addr.mk b0 0 none)=some (Value.string x4)/\∃x5:Int,w.cell? ((Addr.mk b0 0 none).add 1)=some (Value.int .i64 x5)/\∃x6:Int,w.cell? ((Addr.mk b0 0 none).add 2)=some (Value.int .i64 x6)/\∃x7:ByteArray,w.cell? ((Addr.mk b0 0 none).add 3)=some (Value.string x7)/\∃x8:Sl,w.cell? ((Addr.mk b0 0 none).add 4)=some (Value.slice x8.p x8.l x8.c)/\z6e_sh x4 x5 x6 x7 x8 (fun(r10:Int) (w9:World)=>cnd (r10 != (0:Int))
    (wrOk w9 (Addr.mk b1 0 none) /\ 
  (let w11:World:=w9.setCell (Addr.mk b1 0 none) (Value.int .i64 (0:Int))
  wrOk w11 ((Addr.mk b1 0 none).add 1) /\ 
  (let w12:World:=w11.setCell ((Addr.mk b1 0 none).add 1) (Value.int .i64 (0:Int))
  wrOk w12 (Addr.mk b2 0 none) /\ 
  (let w13:World:=w12.setCell (Addr.mk b2 0 none) (Value.int .i64 r10)
  M w13))))
    (N w9)) w
def qjv(ts:List Nat)(vs:List Value)(M:World->Prop):St->World->Prop:=fun σ w=>match getAll σ ts with
  | some us=>us=vs/\M w
  | none=>False
theorem q6e{n:Nat}{B:List Deferred}{ts:List Nat}{vs:List Value}{M:World->Prop}{σ:St}{a:Act}(ha:Agr n B σ a)(h:qjv ts vs M σ w):Agr n B (zipS ts vs) a/\M w:=by
  unfold qjv at h
  split at h
  . rename_i us hus
    obtain⟨rfl,h⟩:=h
    exact⟨ha.getAll hus,h⟩
  . exact h.elim
theorem p52b_e(c:XC)(s:Sl)(b0 b1 b2:Nat)(M N:World->Prop)(w:World) :
    ev2d b0 b1 b2 (fun w=>[ptr b1,ptr b2]=[ptr b1,ptr b2]/\M w) (fun w=>[.slice s.p s.l s.c,ptr b0,ptr b1,ptr b2]=[.slice s.p s.l s.c,ptr b0,ptr b1,ptr b2]/\N w) w=W Tryz.prog [(71,z6e_S)] 17 ev2A p52b [] (rtQ (qjv [4,5] [ptr b1,ptr b2] M) (qjv [1,2,4,5] [.slice s.p s.l s.c,ptr b0,ptr b1,ptr b2] N)) [] (st52 c s b0 b1 b2) w:=by kernel_rfl
theorem o52_at:∃o p,o52[0]?=some o/\o52[1]?=some p/\o52.size=2/\o.guard=none/\o.dst=some 13/\o.op=.makeFunc (.func 72) #[] #[.tmp 4,.tmp 5]/\p.guard=none/\p.dst=none/\p.op=.defer ⟨.value (.tmp 13),#[],#[]⟩:=
  ⟨(o52[0]?).getD default,(o52[1]?).getD default,by kernel_rfl,by kernel_rfl,by kernel_rfl,by kernel_rfl,by kernel_rfl,by kernel_rfl,by kernel_rfl,by kernel_rfl,by kernel_rfl⟩
theorem mf_e(sp:Option Addr)(sl sc:Nat)(b0 b1 b2:Nat)(dst:Option Nat)(ty:TypeId)(pos:String)(af:Array Edge)(gd:Option (Nat×Bool))(K:VW)(w:World) :
    K (.func (.func 72) #[] #[ptr b1,ptr b2]) w=opW Tryz.prog [] (zipS [1,2,4,5] [.slice sp sl sc,ptr b0,ptr b1,ptr b2]) { dst:=dst,op:=.makeFunc (.func 72) #[] #[.tmp 4,.tmp 5],type:=ty,pos:=pos,after:=af,guard:=gd } w K:=by kernel_rfl
def qdy(b1 b2:Nat):Deferred:={ target:=.fn (.func 72) #[ptr b1,ptr b2],args:=#[] }
noncomputable def o5:Array Oper:=rgO (sqL p52d)
theorem qty:p52d=.seq (.region 5 o5 false) .ret:=by kernel_rfl
theorem qtz:o5.size=5:=by kernel_rfl
theorem o5_sel:qbb o5=true:=by kernel_rfl
def e5d(b0:Nat)(M:St->World->Prop)(σ:St)(w:World):Prop:=
  ∃x17:ByteArray,w.cell? (Addr.mk b0 0 none)=some (Value.string x17)/\∃x18:Int,w.cell? ((Addr.mk b0 0 none).add 1)=some (Value.int .i64 x18)/\∃x19:Int,w.cell? ((Addr.mk b0 0 none).add 2)=some (Value.int .i64 x19)/\∃x20:ByteArray,w.cell? ((Addr.mk b0 0 none).add 3)=some (Value.string x20)/\∃x21:Sl,w.cell? ((Addr.mk b0 0 none).add 4)=some (Value.slice x21.p x21.l x21.c) /\
    M ((15,get σ 1 |>.getD undef)::(14,xagg ⟨x17,x18,x19,x20,x21⟩)::σ) w
theorem e5_e(sp:Option Addr)(sl sc:Nat)(b0 b1 b2:Nat)(M:St->World->Prop)(w:World) :
    e5d b0 M (zipS [1,2,4,5] [.slice sp sl sc,ptr b0,ptr b1,ptr b2]) w=rgW Tryz.prog [] 17 o5 (qn 2 RA.done) (o5.toList.take 2) M (zipS [1,2,4,5] [.slice sp sl sc,ptr b0,ptr b1,ptr b2]) w:=by kernel_rfl
theorem e5c_e(n d:Int)(X v15:Value)(sp:Option Addr)(sl sc:Nat)(b0 b1 b2:Nat)(M:St->World->Prop)(w:World) :
    (wrOk w (Addr.mk b1 0 none) /\ 
  (let w24:World:=w.setCell (Addr.mk b1 0 none) (Value.int .i64 n)
  wrOk w24 ((Addr.mk b1 0 none).add 1) /\ 
  (let w25:World:=w24.setCell ((Addr.mk b1 0 none).add 1) (Value.int .i64 d)
  wrOk w25 (Addr.mk b2 0 none) /\ 
  (let w26:World:=w25.setCell (Addr.mk b2 0 none) (Value.int .i64 (0:Int))
  M ((16,.agg #[.int .i64 n,.int .i64 d])::(15,v15)::(14,X)::zipS [1,2,4,5] [.slice sp sl sc,ptr b0,ptr b1,ptr b2]) w26))))=rgW Tryz.prog [] 17 o5 (qn 2 RA.done) (o5.toList.drop 3) M ((16,.agg #[.int .i64 n,.int .i64 d])::(15,v15)::(14,X)::zipS [1,2,4,5] [.slice sp sl sc,ptr b0,ptr b1,ptr b2]) w:=by kernel_rfl
theorem o5_2:∃o,o5[2]?=some o/\o.guard=none/\o.dst=some 16/\∃ats,o.op=.call ⟨.value (.func 73),#[.tmp 14,.tmp 15],ats⟩:=⟨(o5[2]?).getD default,by kernel_rfl,by kernel_rfl,by kernel_rfl,#[31,47],by kernel_rfl⟩
theorem q7h{B:List Deferred}{σ:St}{a:Act}{b1 b2:Nat}(ha:Agr 17 B σ a)(h4:get σ 4=some (ptr b1))(h5:get σ 5=some (ptr b2)):Agr 17 B (zipS [4,5] [ptr b1,ptr b2]) a:=ha.getAll (by unfold getAll;rw[h4];unfold getAll;rw[h5];rfl)
theorem p52a_o(N:St->World->Prop):obs Tryz.prog [] 17 (A.reg (qn 3 RA.done)) p52a (fun _=>atQ N)=[]:=by kernel_rfl
theorem p52b_o(Q:Qt):obs Tryz.prog [(71,z6e_S)] 17 ev2A p52b (fun _=>Q)=[]:=by kernel_rfl
theorem qu0(b1 b2:Nat)(Kv:VW)(w:World):(∃x14:Int,w.cell? (Addr.mk b1 0 none)=some (Value.int .i64 x14)/\∃x15:Int,w.cell? ((Addr.mk b1 0 none).add 1)=some (Value.int .i64 x15)/\∃x16:Int,w.cell? (Addr.mk b2 0 none)=some (Value.int .i64 x16)/\Kv (.tuple #[.agg #[.int .i64 x14,.int .i64 x15],.int .i64 x16]) w) =
    resW Tryz.prog (zipS [4,5] [ptr b1,ptr b2]) w Tryz.f30.results.toList (fun vs=>Kv (oneV vs) w):=by kernel_rfl
theorem qu1{n d er:Int}{b1 b2:Nat}{B:List Deferred}{a:Act}(ha:Agr 17 B (zipS [4,5] [ptr b1,ptr b2]) a)(r1:Row w b1 [.int .i64 n,.int .i64 d])(r2:Row w b2 [.int .i64 er]) :
    (results Tryz.f30 a.tmps).run Tryz.prog w=.ok (.tuple #[.agg #[.int .i64 n,.int .i64 d],.int .i64 er]) w:=by
  obtain⟨v,h1,h2⟩:=q50 (P:=Tryz.prog) (fn:=Tryz.f30) (w:=w) (K:=fun v _=>v=.tuple #[.agg #[.int .i64 n,.int .i64 d],.int .i64 er]) ha (Eq.mp (qu0 b1 b2 (fun v _=>v=.tuple #[.agg #[.int .i64 n,.int .i64 d],.int .i64 er]) w)
    ⟨_,r1.at,_,by rw[q04];exact r1.at (i:=1) rfl,_,r2.at,rfl⟩)
  rw[h1,h2]
theorem qmv{e:Fm}{c:XC}{vals:List Vl}{K:Int->Int->Int->World->Prop}(hx:XP w e c)(hv:Vw 2 encV w s vals)(hl:vals.length<2^62)(hi:∀v∈vals,I64 v.2)
    (hK:∀w',Fr F0 w w'->K (e.evE vals).1.1 (e.evE vals).1.2 (e.evE vals).2 w'):z6x_sh c.op c.n c.d c.nm c.a s K w:=by
  refine⟨(callsIn_wide (n:=0)).1 (callsIn_of_wp_marks Tryz.func30 c52_eq trivial ?_)⟩
  have hfin:∀w',Fr F0 w w'->∃r0_0:Int,∃r0_1:Int,∃r1:Int,(Ending.returned (.tuple #[.agg #[.int .i64 (e.evE vals).1.1,.int .i64 (e.evE vals).1.2],.int .i64 (e.evE vals).2]))=.returned (.tuple #[.agg #[.int .i64 r0_0,.int .i64 r0_1],.int .i64 r1])/\K r0_0 r0_1 r1 w':=fun w' f=>⟨_,_,_,rfl,hK w' f⟩
  refine wpIn_seq (qmu (n:=17) (B:=[]) (Γ:=[]) (Pn:=fun _ _=>False) (q3u.up trivial rfl) rfl (p52a_o _) (q2w (vs:=[xagg c,.slice s.p s.l s.c]) (m:=17) og) (by
    rw[←p52a_e c s fun σ w3=>∃b0 b1 b2,b1≠b2/\σ=st52 c s b0 b1 b2/\Mem w w3 [(b2,[.int .i64 0]),(b1,[.int .i64 0,.int .i64 0]),(b0,encX c)]]
    intro w1 w2 w3
    have m:Mem w w3 [(w2.heap.size,[.int .i64 0]),(w1.heap.size,[.int .i64 0,.int .i64 0]),(w.heap.size,encX c)]:=((Mem.nil.allocL (cs:=encX c)).allocL (cs:=[.int .i64 0,.int .i64 0])).allocL (cs:=[.int .i64 0])
    have hne:w1.heap.size≠w2.heap.size:=by
      have:w2.heap.size=w1.heap.size+1:=World.size_alloc _ _
      omega
    grind) fun ex a1 w3 hq=>?_)
  rcases qmt hq with⟨rfl,σ,hA,b0,b1,b2,hne,rfl,m⟩|⟨_,_,hf,_⟩
  case inr=>exact hf.elim
  have hnw:∀b∈[b2,b1,b0],w.heap.size<=b:=fun b hb=>by
    have:=m.2.2.2
    simp only[J6,J5,or_false]at hb
    rcases hb with rfl|rfl|rfl
    . simp_all
    . simp_all
    . simp_all
  have h1n:=hnw b1 og
  have h2n:=hnw b2 og
  refine wpIn_seq (qmu (n:=17) (B:=[]) (Γ:=[(71,z6e_S)]) (Pn:=fun _ _=>False) (q3u.up ⟨.inl z6e_ok,trivial⟩ rfl) rfl (p52b_o _) hA (by
    rw[←p52b_e c s b0 b1 b2 (fun u=>e.wrong≠0/\Fr F0 w u/\Row u b1 [.int .i64 0,.int .i64 0]/\Row u b2 [.int .i64 e.wrong]) (fun u=>e.wrong=0/\Mem w u [(b2,[.int .i64 0]),(b1,[.int .i64 0,.int .i64 0]),(b0,encX c)])]
    unfold ev2d
    simp -zeta only[q04]
    refine⟨_,m.ld 2,_,m.ld 2,_,m.ld 2,_,m.ld 2,_,m.ld 2,?_⟩
    refine qjt (hx.fr m.1) fun w9 f9=>?_
    have m:=m.fr f9
    refine q0r.2 ⟨fun hw=>⟨m.wr 1,?_⟩,fun hw=>⟨trivial,hw,m⟩⟩
    intro w11
    have m:=m.set (i:=0) (v:=.int .i64 0) 1
    refine⟨m.wr 1,?_⟩
    intro w12
    have m:=m.set (i:=1) (v:=.int .i64 0) 1
    refine⟨m.wr 0,?_⟩
    intro w13
    have m:=m.set (i:=0) (v:=.int .i64 e.wrong) 0
    exact⟨trivial,hw,m.1,m.row 1,m.row 0⟩) fun ex a2 w9 hq=>?_)
  rcases qsh hq with⟨rfl,σ,hA,hM⟩|⟨rfl,σ,hA,hN⟩|⟨_,_,hf,_⟩
  case inr.inr=>exact hf.elim
  . obtain⟨hA',hw,f,r1,r2⟩:=q6e hA hM
    show LeavesInM _ _ _ _ _ _ a2.defers _ _
    rw[hA'.2.1]
    refine⟨_,qu1 hA' r1 r2,?_⟩
    have:=hfin w9 f
    unfold Fm.evE at this
    grind
  obtain⟨hA',hw,m⟩:=q6e hA hN
  have eE:e.evE vals=(match e.ev vals with
    | .ok x=>(x,0)
    | .error c=>((0,0),c)):=by unfold Fm.evE;rw[if_pos hw];rfl
  obtain⟨o,p,ho,hp,hs,hg,hd,hop,hg',hd',hop'⟩:=o52_at
  refine wpIn_seq (wpIn_region ?_)
  have el:J7 o52.size=[0,1]:=by rw[hs];rfl
  rw[el]
  simp only[wpOpsIn,ho,hp]
  rw[if_pos (q1i hg _)]
  refine q4b (by rw[hop];rfl) (q1a (P:=Tryz.prog) (Γ:=[]) (Pn:=fun _ _=>False) (n:=17) (B:=[]) (q3u.up trivial rfl) hA' (by rw[hop];rfl) (K:=fun v u=>v=.func (.func 72) #[] #[ptr b1,ptr b2]/\w9=u) ?_ (fun _ _ _ _ h=>h.elim) fun v u hv=>?_)
  . obtain⟨dst,op,ty,pos,af,gd⟩:=o
    simp only at hop
    subst hop
    rw[←mf_e]
    grind
  obtain⟨rfl,rfl⟩:=hv
  rw[hd]
  have hA3:=hA'.put (d:=13) od (.func (.func 72) #[] #[ptr b1,ptr b2])
  rw[if_pos (q1i hg' _)]
  refine⟨fun _ _=>trivial,?_⟩
  have hr:(Oper.semAt Fence.wide.round (a2.put (some 13) (.func (.func 72) #[] #[ptr b1,ptr b2])).eval p).run Tryz.prog w9=.ok (.defer (qdy b1 b2)) w9:=by
    have e13:(a2.put (some 13) (.func (.func 72) #[] #[ptr b1,ptr b2])).eval (.tmp 13)=.func (.func 72) #[] #[ptr b1,ptr b2]:=hA3.ev (x:=.tmp 13) rfl
    show(execOp _ p).run Tryz.prog w9=_
    simp[execOp,hop',resolve,e13,Deferred.ofValue,qdy]
  rw[hr,Oper.uponIn_defer,hd']
  have hA4:Agr 17 [qdy b1 b2] (zipS [1,2,4,5] [.slice s.p s.l s.c,ptr b0,ptr b1,ptr b2]) (({ a2.put (some 13) (.func (.func 72) #[] #[ptr b1,ptr b2])with defers:=qdy b1 b2::(a2.put (some 13) (.func (.func 72) #[] #[ptr b1,ptr b2])).defers }:Act).put none undef):=by
    refine⟨hA3.1,?_,fun t v ht=>?_⟩
    . show qdy b1 b2::_=_
      rw[hA3.2.1]
    . refine hA3.2.2 t v ?_
      rw[q3r]
      by_cases h13:13=t
      . subst h13;cases ht
      . grind
  have hinv:∀u:World,(invoke (qdy b1 b2).target (qdy b1 b2).args).run Tryz.prog u=.ok (.enter 72 #[ptr b1,ptr b2]) u:=fun u=>by
    have:=Tryz.call72 #[ptr b1,ptr b2] u
    simp[invoke,qdy,this]
  rw[qty]
  refine wpIn_seq (wpIn_region ?_)
  have e5:J7 o5.size=J8 0 (o5.toList.take 2).length++[2,3,4]:=by
    have:o5.toList.length=5:=by rw[Array.length_toList];exact qtz
    rw[qtz,J0,this];rfl
  have hsel:∀o∈o5.toList,q5e o.op=false:=fun o ho=>q06 o5_sel (Array.mem_toList_iff.1 ho)
  have hat5:∀j,o5.toList[j]?=o5[j]?:=fun j=>Array.getElem?_toList
  rw[e5]
  refine qbc (r₀:=none) (m:=0) (P:=Tryz.prog) (Γ:=[]) (Pn:=fun _ _=>False) (q3u.up trivial rfl) (fun _ _ _ _ h=>h.elim) (K:=fun σ u=>σ=(15,.slice s.p s.l s.c)::(14,xagg c)::zipS [1,2,4,5] [.slice s.p s.l s.c,ptr b0,ptr b1,ptr b2]/\w9=u) (fun σ a u hA hk=>?_) (qn 2 RA.done) (o5.toList.take 2) 0 _ _ _ (fun o ho=>hsel o (List.mem_of_mem_take ho)) (fun j hj=>by rw[List.getElem?_take,if_pos (by simp at hj;omega),hat5,Nat.zero_add]) hA4 (by
    rw[←e5_e]
    unfold e5d
    simp -zeta only[q04]
    exact⟨_,m.ld 2,_,m.ld 2,_,m.ld 2,_,m.ld 2,_,m.ld 2,rfl,trivial⟩)
  obtain⟨rfl,hu⟩:=hk
  subst hu
  obtain⟨q,hq,hg2,hd2,ats,hop2⟩:=o5_2
  show wpOpsIn _ _ _ _ _ (2::[3,4]) _ _
  rw[wpOpsIn]
  simp only[hq]
  rw[if_pos (q1i hg2 _)]
  refine⟨fun _ _=>trivial,?_⟩
  have e14:a.eval (.tmp 14)=xagg c:=hA.ev (x:=.tmp 14) rfl
  have e15:a.eval (.tmp 15)=.slice s.p s.l s.c:=hA.ev (x:=.tmp 15) rfl
  have hr2:(Oper.semAt (fen none).round a.eval q).run Tryz.prog w9=.ok (.enter 73 #[xagg c,.slice s.p s.l s.c]) w9:=by
    show(execOp _ q).run Tryz.prog w9=_
    have:=Tryz.call73 #[xagg c,.slice s.p s.l s.c] w9
    have hf:a.eval (.func 73)=.func (.func 73) #[] #[]:=rfl
    simp[execOp,hop2,resolve,e14,e15,hf,Deferred.ofValue,invoke,this]
  rw[hr2,Oper.uponIn_enter]
  refine⟨fun h=>by simp[fen,Fence.wide]at h,qhs ?_⟩
  have hcall:=(qju (w:=w9) (Pn:=fun ch u=>∃er,ch=fail er/\e.ev vals=.error er/\Fr F0 w9 u) (K:=fun n d u=>e.ev vals=.ok (n,d)/\Fr F0 w9 u) hl hi e (hx.fr m.1) (hv.fr m.1) (fun x w' hev f=>⟨hev,f⟩) fun er w' hev f=>⟨er,rfl,hev,f⟩).out
  refine hcall.mono fun ex u he=>?_
  rcases he with⟨n,d,rfl,hev,f⟩|⟨ch,rfl,er,rfl,hev,f⟩
  . rw[hev]at eE
    rw[hd2]
    have hA:=hA.put (d:=16) od (.agg #[.int .i64 n,.int .i64 d])
    have m:=m.fr f
    have e34:[3,4]=J8 3 (o5.toList.drop 3).length++[]:=by
      have:o5.toList.length=5:=by rw[Array.length_toList];exact qtz
      rw[List.length_drop,this];rfl
    show wpOpsIn _ _ _ _ _ [3,4] _ _
    rw[e34]
    refine qbc (r₀:=none) (m:=0) (P:=Tryz.prog) (Γ:=[]) (Pn:=fun _ _=>False) (q3u.up trivial rfl) (fun _ _ _ _ h=>h.elim) (K:=fun σ v=>get σ 4=some (ptr b1)/\get σ 5=some (ptr b2)/\Fr F0 w v/\Row v b1 [.int .i64 n,.int .i64 d]/\Row v b2 [.int .i64 0]) (fun σ a' v hA' hk=>?_) (qn 2 RA.done) (o5.toList.drop 3) 3 _ _ _ (fun o ho=>hsel o (List.mem_of_mem_drop ho)) (fun j hj=>by rw[List.getElem?_drop,hat5]) hA (by
      rw[←e5c_e]
      simp -zeta only[q04]
      refine⟨m.wr 1,?_⟩
      intro w24
      have m:=m.set (i:=0) (v:=.int .i64 n) 1
      refine⟨m.wr 1,?_⟩
      intro w25
      have m:=m.set (i:=1) (v:=.int .i64 d) 1
      refine⟨m.wr 0,?_⟩
      intro w26
      have m:=m.set (i:=0) (v:=.int .i64 0) 0
      exact⟨rfl,rfl,m.1,m.row 1,m.row 0⟩)
    obtain⟨g4,g5,f,r1,r2⟩:=hk
    refine wpIn_ret ?_
    show LeavesInM _ _ _ _ _ _ a'.defers _ _
    rw[hA'.2.1]
    refine⟨og,.inr ⟨fun h=>by simp[Fence.wide]at h,_,_,_,_,rfl,hinv v,fun _ _=>trivial,?_⟩⟩
    refine qms ?_
    show LeavesInM _ _ _ _ _ _ [] (settle .returning) _
    refine⟨_,qu1 (q7h hA' g4 g5) r1 r2,?_⟩
    grind
  . rw[hev]at eE
    have m:=m.fr f
    show LeavesInM _ _ _ _ _ _ a.defers _ _
    rw[hA.2.1]
    refine⟨og,.inr ⟨fun h=>by simp[Fence.wide]at h,_,_,_,_,rfl,hinv u,fun _ _=>trivial,?_⟩⟩
    refine qg9 (m.row 1) (m.row 0) hne fun w' f' r1 r2=>?_
    show LeavesInM _ _ _ _ _ _ [] (settle (.panicking [{ v:=fval er,recovered:=true }])) _
    have:=hfin w' (m.1.trans f' fun b hb hlt=>by rcases hb with rfl|rfl<;>omega)
    rw[eE]at this
    exact⟨_,qu1 (q7h hA rfl rfl) r1 r2,this⟩
end
end Go.Proofs.YtmfkimnmklnppaaGreatDoor
namespace Pw
open Go
def encE(e:Dp.En):List Value:=[.int .i64 e.b,.int .i64 e.l,.int .i64 e.r,.int .i64 e.p,.slice e.v.p e.v.l e.v.c]
@[simp] theorem qga(e:Dp.En):(encE e).length=5:=rfl
theorem encE_ok(e:Dp.En):∀v∈encE e,okC v=true:=by
 intro v hv
 simp only[encE,J6,J5,or_false]at hv
 rcases hv with rfl|rfl|rfl|rfl|rfl<;>rfl
theorem q8z(a b:Int):(a==b)=decide (a=b):=oz
end Pw
namespace Go.Proofs.YtmfkimnmklnppaaGreatDoor
open Go Pw Dp
structure EnOk(w:World)(e:En):Prop where
 v:Vw 2 encV w e.v e.vals
 len:e.vals.length<2^40
 i:∀v∈e.vals,I64 v.2
 b:I64 e.b
 r:I64 e.r
 p:I64 e.p
section
variable{w w' w0 u:World}{s:Sl}
theorem EnOk.fr{e:En}(h:EnOk w e)(f:Fr F0 w w'):EnOk w' e:=⟨h.v.fr f,h.len,h.i,h.b,h.r,h.p⟩
theorem q90{vals:List Vl}{n:B}{K:Int->Int->World->Prop}(hv:Vw 2 encV w s vals)(hl:vals.length<2^40)(hK:∀w',Fr F0 w w'->K ((valF vals n).getD 0) ((valN vals n:Nat):Int) w'):z5i_sh s (ofL n) K w:=by
 have el:=hv.len
 refine⟨fi ?_⟩
 refine⟨⟨fun x m i u=>∃i':Nat,i=i'/\i'<=vals.length/\Fr F0 w u/\x=(valF (vals.take i') n).getD 0/\m=((valN (vals.take i') n:Nat):Int),fun _ _ i _=>vals.length-i.toNat,⟨0,rfl,oo,Fr.refl,rfl,rfl⟩,?_⟩⟩
 rintro x m i u ⟨i,rfl,hi,hf,rfl,rfl⟩
 refine fi ?_
 refine q00.2 ⟨fun hlt=>?_,fun hge=>?_⟩
 ·have hil:i<vals.length:=oo
  refine ldV (hv.fr hf) i rfl hil ?_
  intro w4
  have m:Mem u w4 [(u.heap.size,[.string (str []),.int .i64 0])]:=Mem.nil.allocL (cs:=[.string (str []),.int .i64 0])
  clear_value w4
  refine⟨m.wr 0,?_⟩
  intro w5
  have m:=m.set (i:=0) (v:=.string (ofL vals[i].1)) 0
  refine⟨m.wr 0,?_⟩
  intro w6
  have m:Mem u w6 [(u.heap.size,[.string (ofL vals[i].1),.int .i64 vals[i].2])]:=m.set (i:=1) (v:=.int .i64 vals[i].2) 0
  clear_value w6 w5
  refine⟨_,m.ld 0,?_⟩
  rw[q0c]
  have F:=hf.t m.1
  have tk:vals.take (i+1)=vals.take i++[vals[i]]:=ud
  have cle:valN (vals.take i) n<=i:=by
   have:=List.countP_le_length (p:=fun v=>decide (v.1=n)) (l:=vals.take i)
   simp only[J0]at this
   unfold valN
   omega
  refine q00.2 ⟨fun he=>?_,fun he=>?_⟩
  ·have e1:valN (vals.take (i+1)) n=valN (vals.take i) n+1:=by
    rw[tk];unfold valN;rw[List.countP_append];simp[he]
   refine q0i.2 ⟨fun h0=>⟨_,m.ld 0,q01,q01,⟨⟨rfl,rfl,rfl,trivial⟩,i+1,oo,oo,F,?_,?_⟩,uo⟩,fun h0=>⟨q01,q01,⟨⟨rfl,rfl,rfl,trivial⟩,i+1,oo,oo,F,?_,?_⟩,uo⟩⟩
   ·have hn:(vals.take i).find? (fun v=>decide (v.1=n))=none:=by
     rw[List.find?_eq_none]
     intro y hy
     have h0':(vals.take i).countP (fun v=>decide (v.1=n))=0:=by unfold valN at h0;omega
     grind
    unfold valF
    grind
   ·rw[e1];omega
   ·have hs:∃y,(vals.take i).find? (fun v=>decide (v.1=n))=some y:=by
     rw[←Option.isSome_iff_exists,List.find?_isSome]
     have h0':0<(vals.take i).countP (fun v=>decide (v.1=n)):=by unfold valN at h0;omega
     simp_all
    obtain⟨y,hy⟩:=hs
    unfold valF
    grind
   ·rw[e1];omega
  ·refine⟨q01,⟨⟨rfl,rfl,rfl,trivial⟩,i+1,oo,oo,F,?_,?_⟩,uo⟩
   ·unfold valF
    grind
   ·unfold valN
    grind
 ·grind
variable{x:T43}{t:Td}{e:En}{bt be:Nat}{K:Int->World->Prop}
theorem ldRq{l:List Rq}{i:Int}{K:ByteArray->ByteArray->Int->Prop}(h:Vw 3 encR w s l)(i':Nat)(hi:i=(i':Int))(h1:i'<l.length)(hK:K (ofL l[i'].name) (ofL l[i'].rel) l[i'].val) :
  nz s.p fun a=>(0<=i/\i<(s.l:Nat))/\∃x:ByteArray,w.cell? (a.add (i.toNat*3))=some (Value.string x)/\∃y:ByteArray,w.cell? ((a.add (i.toNat*3)).add 1)=some (Value.string y)/\∃z:Int,w.cell? ((a.add (i.toNat*3)).add 2)=some (Value.int .i64 z)/\K x y z:=
 Vw.go qfu od h i' hi h1 fun _ hc=>⟨_,hc 0 _ rfl,_,hc 1 _ rfl,_,hc 2 _ rfl,hK⟩
theorem qc2(re:Row w be (encE e))(T:TP w x t)(E:EnOk w e)(hF:Fit t)(hK:∀w',Fr F0 w w'->K (q4o e.vals t.reqs) w'):z6b_l2 ⟨be,0,none⟩ x.f3 (x.f3.l:Int) 0 K w:=by
 have el:=T.reqs.len
 have hl:=hF.reqs
 refine⟨⟨fun i u=>∃i':Nat,i=i'/\i'<=t.reqs.length/\Fr F0 w u/\q4o e.vals t.reqs=q4o e.vals (t.reqs.drop i'),fun i _=>t.reqs.length-i.toNat,⟨0,rfl,oo,Fr.refl,rfl⟩,?_⟩⟩
 rintro i u ⟨i,rfl,hi,f,hq⟩
 refine fi ?_
 rw[hq]at hK
 refine q00.2 ⟨fun hlt=>?_,fun hge=>?_⟩
 ·have hil:i<t.reqs.length:=oo
  have ed:t.reqs.drop i=t.reqs[i]::t.reqs.drop (i+1):=List.drop_eq_getElem_cons hil
  rw[ed]at hK
  unfold q4o at hK
  refine ldRq (T.reqs.fr f) i rfl hil ?_
  intro w45
  refine q1u rfl Mem.nil fun w46 m=>?_
  clear w45
  have F:=f.t m.1
  have re:=F.row re fun h=>h
  rw[q04]
  refine⟨_,re.at (i:=4) rfl,_,m.ld 0,q90 (E.v.fr F) E.len fun w49 f49=>?_⟩
  have m:=m.fr f49
  have F:=f.t m.1
  have hk:=hK w49 F
  have hle:decide (ofL t.reqs[i].rel=str [60,61])=decide (t.reqs[i].rel=wLe):=q0c _ wLe
  have hge:decide (ofL t.reqs[i].rel=str [62,61])=decide (t.reqs[i].rel=wGe):=q0c _ wGe
  have next:q4o e.vals (t.reqs.drop i)=q4o e.vals (t.reqs.drop (i+1))->inR .i64 ((i:Int)+1)/\((⟨be,0,none⟩:Addr)=⟨be,0,none⟩/\x.f3=x.f3/\(x.f3.l:Int)=(x.f3.l:Int)/\True)/\∃i',(i:Int)+1=(i':Nat)/\i'<=t.reqs.length/\Fr F0 w w49/\q4o e.vals t.reqs=q4o e.vals (t.reqs.drop i'):=fun h =>
   ⟨q01,⟨rfl,rfl,rfl,trivial⟩,i+1,oo,oo,F,hq.trans h⟩
  have dec:t.reqs.length-((i:Int)+1).toNat<t.reqs.length-(i:Int).toNat:=oo
  refine q0i.2 ⟨fun h0=>?_,fun h0=>⟨_,m.ld 0,?_⟩⟩
  ·grind
  have h0':¬valN e.vals t.reqs[i].name=0:=oo
  rw[if_neg h0']at hk
  have hk3:(t.reqs[i].rel=wLe\/t.reqs[i].rel=wGe)->z6b_k3 ⟨be,0,none⟩ ⟨u.heap.size,0,none⟩ ((valF e.vals t.reqs[i].name).getD 0) x.f3 (x.f3.l:Int) (i:Int) (fun x_3' t_85' t_86' t_87' w'=>((x_3'=(⟨be,0,none⟩:Addr)/\t_85'=x.f3/\t_86'=(x.f3.l:Int)/\True)/\∃i',t_87'=(i':Nat)/\i'<=t.reqs.length/\Fr F0 w w'/\q4o e.vals t.reqs=q4o e.vals (t.reqs.drop i'))/\t.reqs.length-t_87'.toNat<t.reqs.length-(i:Int).toNat) K w49:=fun hor=>by
   have hn:¬(t.reqs[i].rel≠wLe/\t.reqs[i].rel≠wGe):=fun h=>hor.elim h.1 h.2
   rw[if_neg hn]at hk
   refine⟨fi ?_⟩
   simp -zeta only[q04]
   have nx:¬((t.reqs[i].rel=wLe/\(valF e.vals t.reqs[i].name).getD 0>t.reqs[i].val)\/(t.reqs[i].rel=wGe/\(valF e.vals t.reqs[i].name).getD 0<t.reqs[i].val))->q4o e.vals (t.reqs.drop i)=q4o e.vals (t.reqs.drop (i+1)):=fun h=>by
    rw[ed]
    show(if _ then _ else _)=_
    grind
   refine⟨_,m.ld 0,?_⟩
   rw[hle]
   refine q00.2 ⟨fun h1=>⟨_,m.ld 0,q00.2 ⟨fun h2=>?_,fun h2=>⟨_,m.ld 0,?_⟩⟩⟩,fun h1=>⟨_,m.ld 0,?_⟩⟩
   ·grind
   ·rw[hge]
    have ne:¬t.reqs[i].rel=wGe:=by rw[h1];decide
    refine q00.2 ⟨fun h3=>absurd h3 ne,fun h3=>?_⟩
    grind
   ·rw[hge]
    refine q00.2 ⟨fun h3=>⟨_,m.ld 0,q00.2 ⟨fun h4=>?_,fun h4=>?_⟩⟩,fun h3=>?_⟩
    ·grind
    ·grind
    ·grind
  rw[hle,←decide_not]
  refine q00.2 ⟨fun h1=>⟨_,m.ld 0,?_⟩,fun h1=>hk3 (.inl (Decidable.not_not.1 h1))⟩
  rw[hge,←decide_not]
  refine q00.2 ⟨fun h2=>?_,fun h2=>hk3 (.inr (Decidable.not_not.1 h2))⟩
  rw[if_pos ⟨h1,h2⟩]at hk
  exact hk
 ·have hil:i=t.reqs.length:=oo
  subst hil
  rw[List.drop_length]at hK
  exact hK u f
theorem qgb{c:Cr}{n:B}{k:Int}{b:Nat}{K:Bool->World->Prop}(h:Row w b [.string (ofL n),.int .i64 k])(hK:∀w',Fr F0 w w'->K (decide (c.name=n)) w'):z4p_sh (ofL c.name) c.kind c.low c.high c.less ⟨b,0,none⟩ K w:=by
 refine⟨fi ?_⟩
 intro w1
 have m1:Mem w w1 [(w.heap.size,encC c)]:=Mem.nil.allocL (cs:=encC c)
 clear_value w1
 refine⟨ofL c.name,m1.ld 0,ofL n,(m1.1.row h fun h=>h).at rfl,?_⟩
 rw[q0c]
 exact hK _ m1.1
theorem qc3(rt:Row w bt x.cs)(re:Row w be (encE e))(T:TP w x t)(E:EnOk w e)(hF:Fit t)(hK:∀w',Fr F0 w w'->K (if e.vals.any (fun v=>!t.crit.any (fun c=>decide (c.name=v.1)))then 13 else q4o e.vals t.reqs) w') :
  z6b_l1 ⟨bt,0,none⟩ ⟨be,0,none⟩ e.v (e.v.l:Int) 0 K w:=by
 have el:=E.v.len
 have hl:=E.len
 have hc:=hF.crit
 refine⟨⟨fun i u=>∃i':Nat,i=i'/\i'<=e.vals.length/\Fr F0 w u/\(e.vals.take i').any (fun v=>!t.crit.any (fun c=>decide (c.name=v.1)))=false,fun i _=>e.vals.length-i.toNat,⟨0,rfl,oo,Fr.refl,rfl⟩,?_⟩⟩
 rintro i u ⟨i,rfl,hi,f,hq⟩
 refine fi ?_
 refine q00.2 ⟨fun hlt=>?_,fun hge=>?_⟩
 ·have hil:i<e.vals.length:=oo
  refine ldV (E.v.fr f) i rfl hil ?_
  intro w4
  have m:Mem u w4 [(u.heap.size,[.string (str []),.int .i64 0])]:=Mem.nil.allocL (cs:=[.string (str []),.int .i64 0])
  clear_value w4
  refine⟨m.wr 0,?_⟩
  intro w5
  have m:=m.set (i:=0) (v:=.string (ofL e.vals[i].1)) 0
  refine⟨m.wr 0,?_⟩
  intro w6
  have m:Mem u w6 [(u.heap.size,[.string (ofL e.vals[i].1),.int .i64 e.vals[i].2])]:=m.set (i:=1) (v:=.int .i64 e.vals[i].2) 0
  clear_value w6 w5
  have F:=f.t m.1
  rw[q04]
  refine⟨_,(F.row rt fun h=>h).at (i:=2) rfl,?_⟩
  refine q3e (T.crit.fr F) oo (p:=fun c=>decide (c.name=e.vals[i].1)) (fun c _=>fun v K hu hK=>q02 z4p_ok (qgb (K:=kk [tB] K) (hu.row (m.row 0) fun h=>h) hK)) fun w38 f38=>?_
  have F:=F.t f38
  have tk:e.vals.take (i+1)=e.vals.take i++[e.vals[i]]:=ud
  refine q09.2 ⟨fun h=>?_,fun h=>⟨q01,⟨⟨rfl,rfl,rfl,rfl,trivial⟩,i+1,oo,oo,F,?_⟩,uo⟩⟩
  ·have:e.vals.any (fun v=>!t.crit.any (fun c=>decide (c.name=v.1)))=true:=List.any_eq_true.2 ⟨_,J1 hil,h⟩
   grind
  ·grind
 ·have hil:i=e.vals.length:=oo
  subst hil
  rw[J2]at hq
  rw[if_neg (by rw[hq];simp)]at hK
  rw[q04]
  exact⟨_,(f.row rt fun h=>h).at (i:=3) rfl,qc2 (f.row re fun h=>h) (T.fr f) (E.fr f) hF fun w' f'=>hK w' (f.t f')⟩
theorem qc4(rt:Row w bt x.cs)(re:Row w be (encE e))(T:TP w x t)(E:EnOk w e)(hF:Fit t)
  (hK:∀w',Fr F0 w w'->K (if t.crit.any (badC e.vals)then 16 else if e.vals.any (fun v=>!t.crit.any (fun c=>decide (c.name=v.1)))then 13 else q4o e.vals t.reqs) w') :
  z6b_l0 ⟨bt,0,none⟩ ⟨be,0,none⟩ x.f2 (x.f2.l:Int) 0 K w:=by
 have el:=T.crit.len
 have hc:=hF.crit
 refine⟨⟨fun i u=>∃i':Nat,i=i'/\i'<=t.crit.length/\Fr F0 w u/\(t.crit.take i').any (badC e.vals)=false,fun i _=>t.crit.length-i.toNat,⟨0,rfl,oo,Fr.refl,rfl⟩,?_⟩⟩
 rintro i u ⟨i,rfl,hi,f,hq⟩
 refine fi ?_
 refine q00.2 ⟨fun hlt=>?_,fun hge=>?_⟩
 ·have hil:i<t.crit.length:=oo
  refine ldCr (T.crit.fr f) i rfl hil ?_
  intro w21
  refine q1u rfl Mem.nil fun w22 m=>?_
  clear w21
  have m:Mem u w22 [(u.heap.size,encC t.crit[i])]:=m
  have F:=f.t m.1
  rw[q04]
  refine⟨_,(F.row re fun h=>h).at (i:=4) rfl,_,m.ld 0,q90 (E.v.fr F) E.len fun w25 f25=>?_⟩
  have m:=m.fr f25
  have F:=f.t m.1
  have bad:badC e.vals t.crit[i]=true->K 16 w25:=fun h=>oz
  have tk:t.crit.take (i+1)=t.crit.take i++[t.crit[i]]:=ud
  refine q0r.2 ⟨fun h=>bad ?_,fun h1=>⟨_,m.ld 0,q00.2 ⟨fun h=>bad ?_,fun h2=>⟨_,m.ld 0,q00.2 ⟨fun h=>bad ?_,fun h3=>⟨q01,⟨⟨rfl,rfl,rfl,rfl,trivial⟩,i+1,oo,oo,F,?_⟩,uo⟩⟩⟩⟩⟩⟩
  ·unfold badC
   grind
  ·unfold badC
   grind
  ·unfold badC
   grind
  ·rw[tk,List.any_append,hq]
   unfold badC
   grind
 ·have hil:i=t.crit.length:=oo
  subst hil
  rw[J2]at hq
  rw[if_neg (by rw[hq];simp)]at hK
  rw[q04]
  exact⟨_,(f.row re fun h=>h).at (i:=4) rfl,qc3 (f.row rt fun h=>h) (f.row re fun h=>h) (T.fr f) (E.fr f) hF fun w' f'=>hK w' (f.t f')⟩
theorem qgc{l:Int×Int}{b:Nat}{K:Bool->World->Prop}(h:Row w b (encE e))(hK:∀w',Fr F0 w w'->K (decide (l.1=e.l)) w'):z4o_sh l.1 l.2 ⟨b,0,none⟩ K w:=by
 refine⟨fi ?_⟩
 intro w1
 have m1:Mem w w1 [(w.heap.size,[.int .i64 l.1,.int .i64 l.2])]:=Mem.nil.allocL (cs:=[.int .i64 l.1,.int .i64 l.2])
 clear_value w1
 refine⟨l.1,m1.ld 0,e.l,?_,?_⟩
 ·rw[q04];exact(m1.1.row h fun h=>h).at (i:=1) rfl
 ·rw[q8z]
  exact hK _ m1.1
theorem qal(T:TP w x t)(E:EnOk w e)(hF:Fit t)(hlot:∃m,t.lots.find? (fun l=>decide (l.1=e.l))=some m)(hK:∀w',Fr F0 w w'->K (admQ (q0e t e.l) e) w'):z6b_sh x e.b e.l e.r e.p e.v K w:=by
 refine⟨fi ?_⟩
 intro w1 w2
 have m:Mem w w2 [(w1.heap.size,encE e),(w.heap.size,x.cs)]:=(Mem.nil.allocL (cs:=x.cs)).allocL (cs:=encE e)
 clear_value w2 w1
 have hll:=hF.lots
 refine⟨_,m.ld (i:=1) 1 rfl rfl,?_⟩
 refine q4j (T.lots.fr m.1) oo (p:=fun l=>decide (l.1=e.l)) (fun l _=>fun u K hu hK=>q02 z4o_ok (qgc (K:=kk [tB] K) (hu.row (m.row 0) fun h=>h) hK)) fun r w4 f4 hr=>?_
 have m:=m.fr f4
 obtain⟨lm,hlm⟩:=hlot
 refine q00.2 ⟨fun h=>?_,fun h=>?_⟩
 ·rw[hr.none h]at hlm;cases hlm
 obtain⟨i,hil,rfl,hfi⟩:=hr.find h
 rw[hfi]at hlm
 cases hlm
 have em:(q0e t e.l).most=t.lots[i].2:=by unfold q0e;rw[hfi];rfl
 unfold admQ at hK
 rw[em]at hK
 replace hK:∀w',Fr F0 w w'->K (if e.p<t.low then 16 else if e.p>min t.high t.lots[i].2 then 16 else if t.crit.any (badC e.vals)then 16 else if e.vals.any (fun v=>!t.crit.any (fun c=>decide (c.name=v.1)))then 13 else q4o e.vals t.reqs) w':=hK
 intro w6
 have m:Mem w w6 [(w1.heap.size,encE e),(w.heap.size,x.cs)]:=m.drew
 clear_value w6
 refine⟨_,m.ld (i:=3) 0 rfl rfl,_,m.ld (i:=4) 1 rfl rfl,?_⟩
 rw[T.low]
 refine q00.2 ⟨fun h1=>?_,fun h1=>⟨_,m.ld (i:=3) 0 rfl rfl,_,m.ld (i:=5) 1 rfl rfl,_,m.ld (i:=1) 1 rfl rfl,?_⟩⟩
 ·have hk:=hK w6 m.1
  grind
 rw[if_neg h1]at hK
 refine Vw.go q8j od (T.lots.fr m.1) i rfl hil fun a hc=>⟨_,hc 1 _ rfl,?_⟩
 rw[T.high]
 refine q00.2 ⟨fun h2=>?_,fun h2=>⟨_,m.ld (i:=2) 1 rfl rfl,?_⟩⟩
 ·have hk:=hK w6 m.1
  grind
 rw[if_neg h2]at hK
 exact qc4 (m.row 1) (m.row 0) (T.fr m.1) (E.fr m.1) hF fun w' f'=>hK w' (m.1.t f')
end
section
variable{w w' w0:World}{b k k' bt:Nat}{ts s:Sl}{tx:ByteArray}{fm:Int}{T:List (B×Int)}{x x':T43}{t t':Td}{Z:List Sl}{F:Nat->Prop}{fl:Bool}{E:List Pt}{q:Pt}
theorem LS.ins(h:LS w0 w b ts k tx fm T bt x t Z F fl E)(hf:Fr F0 w w')(hr:q0b q.1 q.2)(hq:q.2 w')(hn:∀b,q.1 b->w.heap.size<=b/\b<w'.heap.size):LS w0 w' b ts k tx fm T bt x t Z F fl (q::E):=
 ⟨Sx.ins (A:=[_,_,_,_,_,_,_,_,_,_]) (B:=E) h.sx hf hr hq hn,h.sc,h.tl⟩
theorem LS.del(h:LS w0 w b ts k tx fm T bt x t Z F fl (q::E)):LS w0 w b ts k tx fm T bt x t Z F fl E:=
 ⟨Sx.del (A:=[_,_,_,_,_,_,_,_,_,_]) (B:=E) h.sx,h.sc,h.tl⟩
theorem LS.row{cs:List Value}{e:TypeId}(h:LS w0 w b ts k tx fm T bt x t Z F fl E):LS w0 (w.alloc (Obj.cells cs.toArray e)) b ts k tx fm T bt x t Z F fl ((fun c=>c=w.heap.size,fun u=>Row u w.heap.size cs)::E):=
 h.ins Fr.alloc (q0b.row _ _) Row.new fun b hb=>ud
theorem LS.set{c i:Nat}{cs:List Value}{v:Value}(h:LS w0 w b ts k tx fm T bt x t Z F fl ((fun d=>d=c,fun u=>Row u c cs)::E)):LS w0 (w.setCell ⟨c,i,none⟩ v) b ts k tx fm T bt x t Z F fl ((fun d=>d=c,fun u=>Row u c (cs.set i v))::E):=
 ⟨h.sx.set (i:=i) (v:=v) 10 rfl,h.sc,h.tl⟩
theorem LS.loc{c:Nat}{cs:List Value}(h:LS w0 w b ts k tx fm T bt x t Z F fl ((fun d=>d=c,fun u=>Row u c cs)::E)):Row w c cs:=h.sx.get 10 rfl
theorem qjw{l:Int×Int}{n:Int}{c:Nat}{K:Bool->World->Prop}(h:Row w c [.int .i64 n])(hK:∀w',Fr F0 w w'->K (decide (l.1=n)) w'):z2i_sh l.1 l.2 ⟨c,0,none⟩ K w:=by
 refine⟨fi ?_⟩
 intro w1
 have m:Mem w w1 [(w.heap.size,[.int .i64 l.1,.int .i64 l.2])]:=Mem.nil.allocL (cs:=[.int .i64 l.1,.int .i64 l.2])
 clear_value w1
 refine⟨_,m.ld 0,_,(m.1.row h fun h=>h).at rfl,?_⟩
 rw[q8z]
 exact hK w1 m.1
theorem qmw{n:Int}{c:Nat}{K:Bool->World->Prop}(h:LS w0 w b ts k tx fm T bt x t Z F fl ((fun d=>d=c,fun u=>Row u c [.pointer (some ⟨b,0,none⟩)])::E))(hl:t.lots.length<=2^20)(hn:∀l∈t.lots,l.1≠n)
  (hK:∀w',Fr F0 w w'->K true w'):z3m_sh n ⟨c,0,none⟩ K w:=by
 refine⟨fi ?_⟩
 intro w1
 have m:Mem w w1 [(w.heap.size,[.int .i64 n])]:=Mem.nil.allocL (cs:=[.int .i64 n])
 clear_value w1
 have h:=h.fr m.1
 refine⟨_,h.loc.at rfl,nz_i ⟨_,h.ptr,nz_i ⟨x.f1,h.box.at (i:=1) rfl,?_⟩⟩⟩
 refine q1l (p:=fun l=>decide (l.1=n)) (h.sx.get 3 rfl:Ow 2 encL w1 x.f1 t.lots).vw oo (fun l _ u K f hK=>q02 z2i_ok (qjw (f.row (m.row 0) fun h=>h) hK)) fun w7 f7=>?_
 rw[show t.lots.any (fun l=>decide (l.1=n))=false by grind]
 exact hK w7 (m.1.t f7)
theorem qq3{i m:Int}{K:World->Prop}(h:LS w0 w b ts k tx fm T bt x t Z F fl E)(hk:k+2<T.length)(ht:T[k].1=Lib.itoa i)(ht1:T[k+1].1=q3l)(ht2:T[k+1+1].1=Lib.itoa m)(hi:inN 1 i)(hm:inN 0 m)
  (hn:∀l∈t.lots,l.1≠i) (hl:t.lots.length<12) (hK:∀w' x',LS w0 w' b ts (k+1+1+1) tx fm T bt x' { t with lots:=t.lots++[(i,m)] } Z F fl E->K w'):z4e_sh (some ⟨b,0,none⟩) K w:=by
 refine⟨fi ?_⟩
 intro w1
 have h:LS w0 w1 b ts k tx fm T bt x t Z F fl _:=h.row (cs:=[.pointer (some ⟨b,0,none⟩)])
 clear_value w1
 refine⟨_,h.loc.at,q5m h.sca oo h.tl ht (by have:=hi.1;omega) hi.1 hi.2 (fun u K f hK=>q02 z3m_ok (qmw (h.fr f) oo hn hK)) fun w3 f3 h3=>?_⟩
 have h:=h.step f3 h3
 refine⟨_,h.loc.at,?_⟩
 intro w6
 have hv:Vw 1 encB w6 ⟨some ⟨w3.heap.size,0,none⟩,1,1⟩ [q3l]:=Vw.new rfl rfl
 have h:LS w0 w6 b ts (k+1) tx fm T bt x t Z F fl _:=h.fr Fr.alloc
 clear_value w6
 refine qbz h.sca oo h.tl hv od (by rw[ht1];decide) fun w7 f7 h7=>?_
 have h:=h.step f7 h7
 intro w9
 have h:LS w0 w9 b ts (k+1+1) tx fm T bt x t Z F fl _:=h.fr Fr.drew
 clear_value w9
 refine⟨fun u=>u.cell? ⟨w.heap.size,0,none⟩=some (.pointer (some ⟨b,0,none⟩))/\u.cell? ⟨b,4,none⟩=some (.pointer (some ⟨bt,0,none⟩))/\u.cell? ⟨bt,1,none⟩=some (.slice x.f1.p x.f1.l x.f1.c),⟨h.loc.at,h.ptr,h.box.at (i:=1) rfl⟩,_,fun u hu=>hu.1,nz_i ⟨_,fun u hu=>hu.2.1,_,fun u hu=>hu.1,nz_i ⟨_,fun u hu=>hu.2.1,nz_i ⟨x.f1,fun u hu=>hu.2.2,_,fun u hu=>hu.1,?_⟩⟩⟩⟩
 refine q1t h.sca hk h.tl ht2 hm fun w20 f20 h20=>?_
 have h:=h.step f20 h20
 refine⟨⟨h.loc.at,h.ptr,h.box.at (i:=1) rfl⟩,?_⟩
 intro w22
 have hv:Vw 2 encL w22 ⟨some ⟨w20.heap.size,0,none⟩,1,1⟩ [(i,m)]:=Vw.new rfl rfl
 have h:LS w0 w22 b ts (k+1+1+1) tx fm T bt x t Z F fl _:=h.fr Fr.alloc
 clear_value w22
 refine⟨⟨h.loc.at,h.ptr,h.box.at (i:=1) rfl⟩,h.sx.app 3 rfl hv qc0 rfl oy oy fun r w24 hs _=>?_⟩
 refine⟨⟨hs.ld 10 rfl rfl,hs.ld (i:=4) 0 rfl rfl,hs.ld (i:=1) 2 rfl rfl⟩,nz_i ⟨hs.wr 2 rfl rfl,?_⟩⟩
 exact hK _ { x with f1:=r } (LS.del ⟨hs.set (i:=1) (v:=.slice r.p r.l r.c) 2 rfl,{ h.sc with },h.tl⟩)
end
structure LSS(b bt i:Nat)(s:Sl)(Q:World->Prop)(u:World):Prop where
 p:u.cell? ⟨b,4,none⟩=some (.pointer (some ⟨bt,0,none⟩))
 l:u.cell? ⟨bt,i,none⟩=some (.slice s.p s.l s.c)
 q:Q u
section
variable{w w' w0:World}{b k k' bt c:Nat}{ts s:Sl}{tx:ByteArray}{fm:Int}{T:List (B×Int)}{x x':T43}{t t':Td}{Z:List Sl}{F:Nat->Prop}{fl:Bool}{E:List Pt}{q:Pt}
theorem LS.upd{cs cs':List Value}(h:LS w0 w b ts k tx fm T bt x t Z F fl ((fun d=>d=c,fun u=>Row u c cs)::E))(f:Fr (fun d=>d=c) w w')(hr:Row w' c cs'):LS w0 w' b ts k tx fm T bt x t Z F fl ((fun d=>d=c,fun u=>Row u c cs')::E):=
 ⟨h.sx.upd (q:=(fun d=>d=c,fun u=>Row u c cs')) 10 rfl f (q0b.row _ _) hr fun _ hb=>.inl hb,h.sc,h.tl⟩
theorem qjx{d:Cr}{n:B}{cs:List Value}{K:Bool->World->Prop}(h:Row w c (.string (ofL n)::cs))(hK:∀w',Fr F0 w w'->K (decide (d.name=n)) w'):z0m_sh (ofL d.name) d.kind d.low d.high d.less ⟨c,0,none⟩ K w:=by
 refine⟨fi ?_⟩
 intro w1
 have m:Mem w w1 [(w.heap.size,encC d)]:=Mem.nil.allocL (cs:=encC d)
 clear_value w1
 refine⟨_,m.ld 0,_,(m.1.row h fun h=>h).at rfl,?_⟩
 rw[q0c]
 exact hK w1 m.1
theorem q7i{d:Cr}{K:World->Prop}(h:LS w0 w b ts k tx fm T bt x t Z F fl ((fun e=>e=c,fun u=>Row u c (encC d))::E))(hl:t.crit.length<12)
  (hK:∀w' x',LS w0 w' b ts k tx fm T bt x' { t with crit:=t.crit++[d] } Z F fl E->K w'):z1c_k1 (some ⟨b,0,none⟩) ⟨c,0,none⟩ K w:=by
 refine⟨fi ?_⟩
 intro w35
 have h:LS w0 w35 b ts k tx fm T bt x t Z F fl _:=h.fr Fr.drew
 clear_value w35
 have S:∀ {u:World} {k:Nat},LS w0 u b ts k tx fm T bt x t Z F fl ((fun e=>e=c,fun u=>Row u c (encC d))::E)->LSS b bt 2 x.f2 (fun u=>Row u c (encC d)) u:=fun h=>⟨h.ptr,h.box.at (i:=2) rfl,h.loc⟩
 refine⟨LSS b bt 2 x.f2 (fun u=>Row u c (encC d)),S h,nz_i ⟨_,fun u hu=>hu.p,nz_i ⟨_,fun u hu=>hu.p,nz_i ⟨x.f2,fun u hu=>hu.l,_,fun u hu=>hu.q.at,_,fun u hu=>hu.q.at (i:=1) rfl,_,fun u hu=>hu.q.at (i:=2) rfl,_,fun u hu=>hu.q.at (i:=3) rfl,_,fun u hu=>hu.q.at (i:=4) rfl,?_⟩⟩⟩⟩
 intro w48
 have hv:Vw 5 encC w48 ⟨some ⟨w35.heap.size,0,none⟩,1,1⟩ [d]:=Vw.new rfl rfl
 have h:LS w0 w48 b ts k tx fm T bt x t Z F fl _:=h.fr Fr.alloc
 clear_value w48
 refine⟨S h,h.sx.app 4 rfl hv qmn rfl oy oy fun r w50 hs _=>?_⟩
 refine⟨⟨hs.ld (i:=4) 0 rfl rfl,hs.ld (i:=2) 2 rfl rfl,hs.get 10 rfl⟩,nz_i ⟨hs.wr 2 rfl rfl,?_⟩⟩
 exact hK _ { x with f2:=r } (LS.del ⟨hs.set (i:=2) (v:=.slice r.p r.l r.c) 2 rfl,{ h.sc with },h.tl⟩)
theorem q9t{d:Cr}{K:World->Prop}(h:LS w0 w b ts k tx fm T bt x t Z F fl E)(hk:k+4<T.length)(ht:T[k].1=d.name)(ht1:T[k+1].1=q2o d.kind)(ht2:T[k+1+1].1=Lib.itoa d.low)(ht3:T[k+1+1+1].1=Lib.itoa d.high)
  (ht4:T[k+1+1+1+1].1=if d.less then q4m else []) (hw:q1e d.name=true) (hkd:d.kind=1\/d.kind=2) (h1:inN 0 d.low) (h2:inN 0 d.high)
  (hn:∀e∈t.crit,e.name≠d.name) (hl:t.crit.length<12) (hK:∀w' x',LS w0 w' b ts (k+4+(if d.less then 1 else 0)) tx fm T bt x' { t with crit:=t.crit++[d] } Z F fl E->K w'):z1c_sh (some ⟨b,0,none⟩) K w:=by
 have hlen:d.name.length<2^62:=by
  have h3:=hw
  unfold q1e at h3
  simp only[Bool.and_eq_true]at h3
  have h4:=q1y h3.1
  unfold q0w at h4
  grind
 refine⟨fi ?_⟩
 refine qdx h.sca oo (by rw[ht];exact hw) oz fun w1 f1=>?_
 rw[ht]
 have h:=h.fr f1
 intro w3
 have h:LS w0 w3 b ts k tx fm T bt x t Z F fl _:=h.row (cs:=[.string (str []),.int .i64 0,.int .i64 0,.int .i64 0,.bool false])
 clear_value w3
 refine q13 h.loc og fun w4 f4 r4=>?_
 have h:LS w0 w4 b ts k tx fm T bt x t Z F fl _:=h.upd (cs':=encC ⟨d.name,1,0,0,false⟩) f4 r4
 intro w5
 have h:LS w0 w5 b ts k tx fm T bt x t Z F fl _:=h.fr Fr.drew
 clear_value w5
 generalize w1.heap.size=c at *
 have S:∀ {u:World},LS w0 u b ts k tx fm T bt x t Z F fl ((fun e=>e=c,fun u=>Row u c (encC ⟨d.name,1,0,0,false⟩))::E)->LSS b bt 2 x.f2 (fun _=>True) u:=fun h=>⟨h.ptr,h.box.at (i:=2) rfl,trivial⟩
 refine⟨LSS b bt 2 x.f2 (fun _=>True),S h,nz_i (nz_i ⟨_,fun u hu=>hu.p,nz_i ⟨x.f2,fun u hu=>hu.l,?_⟩⟩)⟩
 refine q3e (p:=fun e=>decide (e.name=d.name)) (h.sx.get 4 rfl:Ow 5 encC w5 x.f2 t.crit).vw oo (fun e _ u K f hK=>q02 z0m_ok (qjx (f.row h.loc fun h=>h) hK)) fun w12 f12=>?_
 rw[show t.crit.any (fun e=>decide (e.name=d.name))=false by grind]
 have h:=h.fr f12
 refine⟨S h,q0q ⟨S h,nz_i (q1g h.sca oo h.tl fun w16 f16 h16=>?_)⟩⟩
 have h:=h.step f16 h16
 intro w18
 have hv:Vw 1 encB w18 ⟨some ⟨w16.heap.size,0,none⟩,2,2⟩ [qdk,qdl]:=(Row.ow (enc:=encB) (n:=1) (l:=[qdk,qdl]) (fun _=>rfl) Row.new).vw
 have h:LS w0 w18 b ts (k+1) tx fm T bt x t Z F fl _:=h.fr Fr.alloc
 clear_value w18
 refine qbz h.sca oo h.tl hv od (by rw[ht1];unfold q2o;split<;>simp) fun w19 f19 h19=>?_
 have h:=h.step f19 h19
 rw[ht1]
 have fin:∀(u:World),LS w0 u b ts (k+1+1) tx fm T bt x t Z F fl ((fun e=>e=c,fun u=>Row u c (encC ⟨d.name,d.kind,0,0,false⟩))::E)->z1c_k0 (some ⟨b,0,none⟩) ⟨c,0,none⟩ K u:=fun u h=>by
  refine⟨fi ?_⟩
  refine q1t h.sca oo h.tl ht2 h1 fun w22 f22 h22=>?_
  have h:=h.step f22 h22
  refine q1t h.sca oo h.tl ht3 h2 fun w24 f24 h24=>?_
  have h:=h.step f24 h24
  refine⟨h.loc.wr og,?_⟩
  intro w26
  have h:LS w0 w26 b ts (k+1+1+1+1) tx fm T bt x t Z F fl ((fun e=>e=c,fun u=>Row u c (encC ⟨d.name,d.kind,d.low,0,false⟩))::E):=h.set (i:=2) (v:=.int .i64 d.low)
  clear_value w26
  refine⟨h.loc.wr og,?_⟩
  intro w27
  have h:LS w0 w27 b ts (k+1+1+1+1) tx fm T bt x t Z F fl ((fun e=>e=c,fun u=>Row u c (encC ⟨d.name,d.kind,d.low,d.high,false⟩))::E):=h.set (i:=3) (v:=.int .i64 d.high)
  clear_value w27
  refine nz_i (q0v h.sca oo fun w29 f29=>?_)
  have h:=h.fr f29
  rw[ht4]
  obtain⟨nm,kd,lo,hi,le⟩:=d
  cases le with
  | true =>
   rw[show decide (ofL (if true=true then q4m else [])=str [108,101,115,115])=true by decide]
   refine q08 (nz_i (q1g h.sca oo h.tl fun w32 f32 h32=>?_))
   have h:=h.step f32 h32
   refine⟨h.loc.wr og,?_⟩
   intro w34
   have h:LS w0 w34 b ts (k+1+1+1+1+1) tx fm T bt x t Z F fl ((fun e=>e=c,fun u=>Row u c (encC ⟨nm,kd,lo,hi,true⟩))::E):=h.set (i:=4) (v:=.bool true)
   clear_value w34
   exact q7i h hl hK
  | false =>
   rw[show decide (ofL (if false=true then q4m else [])=str [108,101,115,115])=false by decide]
   exact q0h (q7i h hl hK)
 rcases hkd with hkd|hkd
 ·rw[hkd,show decide (ofL (q2o 1)=str [111,102,102,101,114])=false by decide]
  simp_all
 ·rw[hkd,show decide (ofL (q2o 2)=str [111,102,102,101,114])=true by decide]
  refine q08 ⟨h.loc.wr og,?_⟩
  intro w21
  refine fin w21 ?_
  rw[hkd]
  exact h.set (i:=1) (v:=.int .i64 2)
theorem qdz{d:Rq}{K:World->Prop}(h:LS w0 w b ts k tx fm T bt x t Z F fl E)(hk:k+2<T.length)(ht:T[k].1=d.name)(ht1:T[k+1].1=d.rel)(ht2:T[k+1+1].1=Lib.itoa d.val)(hw:q1e d.name=true)
  (hr:d.rel=wLe\/d.rel=wGe) (h1:inN 0 d.val) (hl:t.reqs.length<24) (hK:∀w' x',LS w0 w' b ts (k+1+1+1) tx fm T bt x' { t with reqs:=t.reqs++[d] } Z F fl E->K w'):z2k_sh (some ⟨b,0,none⟩) K w:=by
 have hlen:d.name.length<2^62:=by
  have h3:=hw
  unfold q1e at h3
  simp only[Bool.and_eq_true]at h3
  have h4:=q1y h3.1
  unfold q0w at h4
  grind
 refine⟨fi ?_⟩
 refine qdx h.sca oo (by rw[ht];exact hw) oz fun w1 f1=>?_
 rw[ht]
 have h:=h.fr f1
 intro w3
 have h:LS w0 w3 b ts k tx fm T bt x t Z F fl _:=h.row (cs:=[.string (str []),.string (str []),.int .i64 0])
 clear_value w3
 refine q13 h.loc og fun w4 f4 r4=>?_
 have h:LS w0 w4 b ts k tx fm T bt x t Z F fl _:=h.upd (cs':=encR ⟨d.name,[],0⟩) f4 r4
 generalize w1.heap.size=c at *
 refine nz_i (q1g h.sca oo h.tl fun w6 f6 h6=>?_)
 have h:=h.step f6 h6
 intro w8
 have hv:Vw 1 encB w8 ⟨some ⟨w6.heap.size,0,none⟩,2,2⟩ [wLe,wGe]:=(Row.ow (enc:=encB) (n:=1) (l:=[wLe,wGe]) (fun _=>rfl) Row.new).vw
 have h:LS w0 w8 b ts (k+1) tx fm T bt x t Z F fl _:=h.fr Fr.alloc
 clear_value w8
 refine qbz h.sca oo h.tl hv od oz fun w9 f9 h9=>?_
 rw[ht1]
 have h:=h.step f9 h9
 refine⟨h.loc.wr og,?_⟩
 intro w11
 have h:LS w0 w11 b ts (k+1+1) tx fm T bt x t Z F fl ((fun e=>e=c,fun u=>Row u c (encR ⟨d.name,d.rel,0⟩))::E):=h.set (i:=1) (v:=.string (ofL d.rel))
 clear_value w11
 refine q1t h.sca oo h.tl ht2 h1 fun w12 f12 h12=>?_
 have h:=h.step f12 h12
 refine⟨h.loc.wr og,?_⟩
 intro w14
 have h:LS w0 w14 b ts (k+1+1+1) tx fm T bt x t Z F fl ((fun e=>e=c,fun u=>Row u c (encR d))::E):=h.set (i:=2) (v:=.int .i64 d.val)
 clear_value w14
 intro w15
 have h:LS w0 w15 b ts (k+1+1+1) tx fm T bt x t Z F fl _:=h.fr Fr.drew
 clear_value w15
 have S:∀ {u:World},LS w0 u b ts (k+1+1+1) tx fm T bt x t Z F fl ((fun e=>e=c,fun u=>Row u c (encR d))::E)->LSS b bt 3 x.f3 (fun u=>Row u c (encR d)) u:=fun h=>⟨h.ptr,h.box.at (i:=3) rfl,h.loc⟩
 refine⟨LSS b bt 3 x.f3 (fun u=>Row u c (encR d)),S h,nz_i ⟨_,fun u hu=>hu.p,nz_i ⟨_,fun u hu=>hu.p,nz_i ⟨x.f3,fun u hu=>hu.l,_,fun u hu=>hu.q.at,_,fun u hu=>hu.q.at (i:=1) rfl,_,fun u hu=>hu.q.at (i:=2) rfl,?_⟩⟩⟩⟩
 intro w26
 have hv:Vw 3 encR w26 ⟨some ⟨w15.heap.size,0,none⟩,1,1⟩ [d]:=Vw.new rfl rfl
 have h:LS w0 w26 b ts (k+1+1+1) tx fm T bt x t Z F fl _:=h.fr Fr.alloc
 clear_value w26
 refine⟨S h,h.sx.app 5 rfl hv qmo rfl oy oy fun r w28 hs _=>?_⟩
 refine⟨⟨hs.ld (i:=4) 0 rfl rfl,hs.ld (i:=3) 2 rfl rfl,hs.get 10 rfl⟩,nz_i ⟨hs.wr 2 rfl rfl,?_⟩⟩
 exact hK _ { x with f3:=r } (LS.del ⟨hs.set (i:=3) (v:=.slice r.p r.l r.c) 2 rfl,{ h.sc with },h.tl⟩)
end
def kAt(b:Nat)(u:World):Nat:=match u.cell? ⟨b,1,none⟩with
 | some (.int _ z)=>z.toNat
 | _=>0
section
variable{w w' w0:World}{b k k' bt c:Nat}{ts s:Sl}{tx:ByteArray}{fm:Int}{T:List (B×Int)}{x x':T43}{t t':Td}{Z:List Sl}{F:Nat->Prop}{fl:Bool}{E:List Pt}{q:Pt}
theorem LS.kat(h:LS w0 w b ts k tx fm T bt x t Z F fl E):kAt b w=k:=by
 unfold kAt
 rw[h.sca.row.at (i:=1) rfl]
 rfl
theorem qgd{l:List Int}{v:Int}{K:Int->World->Prop}(hv:Vw 1 encI w s l)(hl:l.length<2^62)(hK:∀r,Ix (fun x=>decide (v=x)) l r->K r w):z35_sh s v K w:=by
 have el:=hv.len
 refine⟨fi ?_⟩
 refine⟨⟨fun i u=>∃i':Nat,i=i'/\i'<=l.length/\u=w/\∀j (h:j<l.length),j<i'->decide (v=l[j])=false,fun i _=>l.length-i.toNat,⟨0,rfl,oo,rfl,fun j _ h=>oo⟩,?_⟩⟩
 rintro i u ⟨i,rfl,hi,rfl,hb⟩
 refine fi ?_
 refine q00.2 ⟨fun hlt=>?_,fun hge=>?_⟩
 ·have hil:i<l.length:=oo
  refine ldI hv i rfl hil ?_
  rw[q8z]
  refine q00.2 ⟨fun h=>hK _ (.inr ⟨i,hil,rfl,decide_eq_true h,fun j hj=>hb j oo hj⟩),fun h=>⟨q01,⟨⟨rfl,rfl,rfl,trivial⟩,i+1,oo,oo,rfl,fun j hjl hj=>?_⟩,uo⟩⟩
  grind
 ·refine hK _ (.inl ⟨rfl,fun x hx=>?_⟩)
  obtain⟨j,hj,rfl⟩:=J4.1 hx
  grind
theorem q9u{l:List Int}{v:Int}{K:Bool->World->Prop}(hv:Vw 1 encI w s l)(hl:l.length<2^62)(hK:K (decide (v∈l)) w):z19_sh s v K w:=by
 refine⟨qgd hv hl fun r hr=>?_⟩
 rw[hr.ge,show l.any (fun x=>decide (v=x))=decide (v∈l) by grind]
 exact hK
theorem qih{α:Type}{l:List α}(hn:l.Nodup){j:Nat}(hj:j<l.length):l[j]∉l.take j:=fun hm=>by
 obtain⟨i,hi,e⟩:=J4.1 hm
 rw[J0]at hi
 rw[List.getElem_take]at e
 have:=(List.getElem_inj hn).1 e
 omega
theorem q16{α:Type}{l:List α}{j:Nat}(hj:j<l.length):l.take (j+1)=l.take j++[l[j]]:=ud
theorem qmx{l:List B}{K:World->Prop}(h:LS w0 w b ts k tx fm T bt x t Z F fl E)(hk:k+l.length<T.length)(hT:∀j (h:j<l.length),(T[k+j]'oo).1=l[j])(hT1:T[k+l.length].1=[])
  (hne:l≠[]) (hw:∀s∈l,s=wPrice\/q1e s=true) (hn:l.Nodup) (hl:l.length<=12) (ht:t.ties=[])
  (hK:∀w' x',LS w0 w' b ts (k+l.length) tx fm T bt x' { t with ties:=l } Z F fl E->K w'):z4g_sh (some ⟨b,0,none⟩) K w:=by
 have hlen:=List.length_pos_iff.2 hne
 refine⟨fi ?_⟩
 refine⟨⟨fun u=>∃j x',j<=l.length/\LS w0 u b ts (k+j) tx fm T bt x' { t with ties:=l.take j } Z F fl E,fun u=>T.length-kAt b u,⟨0,x,oo,?_⟩,?_⟩⟩
 ·rw[List.take_zero,←ht]
  exact h
 rintro u ⟨j,y,hj,h⟩
 have hel:y.f11.l=j:=by rw[(h.sx.get 6 rfl:Ow 1 encB u y.f11 (l.take j)).len,J0];omega
 have more:∀(v:World) (hjl:j<l.length),LS w0 v b ts (k+j) tx fm T bt y { t with ties:=l.take j } Z F fl E->z4g_k1 (some ⟨b,0,none⟩) (fun x_0' w'=>((x_0'=some ⟨b,0,none⟩/\True)/\∃j x',j<=l.length/\LS w0 w' b ts (k+j) tx fm T bt x' { t with ties:=l.take j } Z F fl E)/\T.length-kAt b w'<T.length-kAt b u) K v:=fun v hjl hv=>by
  have e0:=hT j hjl
  refine⟨fi ?_⟩
  refine nz_i (q0v hv.sca oo fun w9 f9=>?_)
  have hv:=hv.fr f9
  intro w11
  have hv:LS w0 w11 b ts (k+j) tx fm T bt y _ Z F fl E:=hv.fr Fr.drew
  clear_value w11
  rw[e0]
  refine⟨fun _=>True,trivial,nz_i ?_⟩
  have hlj:=hw _ (J1 hjl)
  have k2:∀(v:World),LS w0 v b ts (k+j) tx fm T bt y { t with ties:=l.take j } Z F fl E->z4g_k2 (some ⟨b,0,none⟩) (ofL l[j]) (fun x_0' w'=>((x_0'=some ⟨b,0,none⟩/\True)/\∃j x',j<=l.length/\LS w0 w' b ts (k+j) tx fm T bt x' { t with ties:=l.take j } Z F fl E)/\T.length-kAt b w'<T.length-kAt b u) K v:=fun v hv=>by
   refine⟨fi ?_⟩
   have S:∀ {u:World} {k:Nat},LS w0 u b ts k tx fm T bt y { t with ties:=l.take j } Z F fl E->LSS b bt 11 y.f11 (fun _=>True) u:=fun h=>⟨h.ptr,h.box.at (i:=11) rfl,trivial⟩
   intro w18
   have hv:LS w0 w18 b ts (k+j) tx fm T bt y _ Z F fl E:=hv.fr Fr.drew
   clear_value w18
   refine⟨LSS b bt 11 y.f11 (fun _=>True),S hv,nz_i (nz_i ⟨_,fun u hu=>hu.p,nz_i ⟨y.f11,fun u hu=>hu.l,?_⟩⟩)⟩
   refine q1s (hv.sx.get 6 rfl:Ow 1 encB w18 y.f11 (l.take j)).vw oz ?_
   rw[decide_eq_false (qih hn hjl)]
   refine⟨S hv,q0q ⟨S hv,?_⟩⟩
   intro w28
   have hv:LS w0 w28 b ts (k+j) tx fm T bt y _ Z F fl E:=hv.fr Fr.drew
   clear_value w28
   refine⟨LSS b bt 11 y.f11 (fun _=>True),S hv,nz_i (nz_i ⟨_,fun u hu=>hu.p,nz_i ⟨y.f11,fun u hu=>hu.l,?_⟩⟩)⟩
   rw[hel,decide_eq_true (show((j:Nat):Int)<12 by omega)]
   refine q0q ⟨S hv,?_⟩
   intro w36
   have hv:LS w0 w36 b ts (k+j) tx fm T bt y _ Z F fl E:=hv.fr Fr.drew
   clear_value w36
   refine⟨LSS b bt 11 y.f11 (fun _=>True),S hv,nz_i ⟨_,fun u hu=>hu.p,nz_i ⟨_,fun u hu=>hu.p,nz_i ⟨y.f11,fun u hu=>hu.l,nz_i (q1g hv.sca oo hv.tl fun w45 f45 h45=>?_)⟩⟩⟩⟩
   have hv:=hv.step f45 h45
   refine⟨S hv,?_⟩
   rw[e0]
   intro w47
   have hx:Vw 1 encB w47 ⟨some ⟨w45.heap.size,0,none⟩,1,1⟩ [l[j]]:=Vw.new rfl rfl
   have hv:LS w0 w47 b ts (k+j+1) tx fm T bt y _ Z F fl E:=hv.fr Fr.alloc
   clear_value w47
   refine⟨S hv,hv.sx.app 6 rfl hx qbj rfl oy oy fun r w49 hs _=>?_⟩
   refine⟨⟨hs.ld (i:=4) 0 rfl rfl,hs.ld (i:=11) 2 rfl rfl,trivial⟩,nz_i ⟨hs.wr 2 rfl rfl,?_⟩⟩
   intro w51
   have hv:LS w0 w51 b ts (k+(j+1)) tx fm T bt { y with f11:=r } { t with ties:=l.take (j+1) } Z F fl E:=by
    rw[q16 hjl]
    exact⟨hs.set (i:=11) (v:=.slice r.p r.l r.c) 2 rfl,{ hv.sc with },hv.tl⟩
   clear_value w51
   refine⟨⟨⟨rfl,trivial⟩,j+1,_,oo,hv⟩,?_⟩
   rw[hv.kat,h.kat]
   omega
  rcases hlj with hp|hp
  ·rw[show decide (ofL l[j]=str [112,114,105,99,101])=true by rw[hp];decide]
   exact q08 (q0q (k2 w11 hv))
  ·refine q00.2 ⟨fun _=>q0q (k2 w11 hv),fun _=>q8y hp ?_ fun w15 f15=>q0q (k2 w15 (hv.fr f15))⟩
   have h4:=hp
   unfold q1e at h4
   simp only[Bool.and_eq_true]at h4
   have h4:=q1y h4.1
   unfold q0w at h4
   grind
 refine fi ?_
 refine nz_i ⟨_,h.ptr,nz_i ⟨y.f11,h.box.at (i:=11) rfl,?_⟩⟩
 rw[hel]
 refine q0i.2 ⟨fun h0=>more u oo h,fun h0=>nz_i (q0v h.sca oo fun w6 f6=>?_)⟩
 have h':=h.fr f6
 rcases Nat.lt_or_ge j l.length with hjl|hjl
 ·have e0:=hT j hjl
  have hlj:=hw _ (J1 hjl)
  rw[show decide (ofL (T[k+j]'oo).1=str [])=false by
   rw[e0,show str []=ofL []from rfl,q0c]
   refine decide_eq_false fun e=>?_
   rw[e]at hlj
   rcases hlj with hlj|hlj<;>exact absurd hlj od]
  simp_all
 ·have:j=l.length:=oo
  subst this
  rw[hT1,J2]at *
  rw[show decide (ofL []=str [])=true by decide]
  exact q0h (hK w6 y h')
theorem qge{l:List Int}{n:Int}{r:Sl}{K:Bool->World->Prop}(h:Row w c [.slice r.p r.l r.c])(hv:Vw 1 encI w r l)(hl:l.length<=2^20)(hn:n∉l)(hK:∀w',Fr F0 w w'->K true w'):z2g_sh n ⟨c,0,none⟩ K w:=by
 refine⟨fi ?_⟩
 refine⟨r,h.at,q9u hv oo ?_⟩
 rw[decide_eq_false hn]
 exact hK w Fr.refl
theorem qjy{l:List Int}{K:World->Prop}(h:LS w0 w b ts k tx fm T bt x t Z F fl E)(hk:k+l.length<T.length)(hT:∀j (h:j<l.length),(T[k+j]'oo).1=Lib.itoa l[j])(hT1:T[k+l.length].1=[])
  (hl2:2<=l.length) (hl:l.length<=12) (hi:∀n∈l,inN 1 n) (hn:l.Nodup) (hc:t.combos.length<12)
  (hK:∀w' x' Z',LS w0 w' b ts (k+l.length) tx fm T bt x' { t with combos:=t.combos++[l] } Z' F fl E->K w'):z3l_sh (some ⟨b,0,none⟩) K w:=by
 refine⟨fi ?_⟩
 intro w1
 have h:LS w0 w1 b ts k tx fm T bt x t Z F fl _:=h.row (cs:=[.slice none 0 0])
 clear_value w1
 generalize w.heap.size=c at *
 have h:LS w0 w1 b ts k tx fm T bt x t Z F fl ((fun d=>d=c,fun u=>Row u c [.slice none 0 0])::(inB ⟨none,0,0⟩,fun u=>Ow 1 encI u ⟨none,0,0⟩ ([]:List Int))::E):=
  ⟨Sx.ins (A:=[_,_,_,_,_,_,_,_,_,_,_]) (B:=E) (q:=(inB ⟨none,0,0⟩,fun u=>Ow 1 encI u ⟨none,0,0⟩ ([]:List Int))) h.sx Fr.refl (q0b.ow _ _) ⟨rfl,by simpa using OwnV.nil⟩ (fun b ⟨a,ha,_⟩=>by cases ha),h.sc,h.tl⟩
 refine⟨⟨fun u=>∃j r,j<=l.length/\LS w0 u b ts (k+j) tx fm T bt x t Z F fl ((fun d=>d=c,fun u=>Row u c [.slice r.p r.l r.c])::(inB r,fun u=>Ow 1 encI u r (l.take j))::E),fun u=>T.length-kAt b u,⟨0,⟨none,0,0⟩,oo,h⟩,?_⟩⟩
 rintro u ⟨j,r,hj,h⟩
 have ho:∀ {v:World} {k:Nat},LS w0 v b ts k tx fm T bt x t Z F fl ((fun d=>d=c,fun u=>Row u c [.slice r.p r.l r.c])::(inB r,fun u=>Ow 1 encI u r (l.take j))::E)->Ow 1 encI v r (l.take j):=fun h=>h.sx.get 11 rfl
 have hel:r.l=j:=by rw[(ho h).len,J0];omega
 have more:∀(v:World) (hjl:j<l.length),LS w0 v b ts (k+j) tx fm T bt x t Z F fl ((fun d=>d=c,fun u=>Row u c [.slice r.p r.l r.c])::(inB r,fun u=>Ow 1 encI u r (l.take j))::E) ->
   z3l_k1 (some ⟨b,0,none⟩) ⟨c,0,none⟩ (fun x_0' l_2' w'=>((x_0'=some ⟨b,0,none⟩/\l_2'=⟨c,0,none⟩/\True)/\∃j r,j<=l.length/\LS w0 w' b ts (k+j) tx fm T bt x t Z F fl ((fun d=>d=c,fun u=>Row u c [.slice r.p r.l r.c])::(inB r,fun u=>Ow 1 encI u r (l.take j))::E))/\T.length-kAt b w'<T.length-kAt b u) K v:=fun v hjl hv=>by
  have hin:=hi _ (J1 hjl)
  refine⟨fi ?_⟩
  refine nz_i (q0v hv.sca oo fun w7 f7=>?_)
  have hv:=hv.fr f7
  refine q5m hv.sca oo hv.tl (hT j hjl) (by have:=hin.1;omega) hin.1 hin.2 (fun u K f hK=>q02 z2g_ok (qge ((hv.fr f).loc) (ho (hv.fr f)).vw oz (qih hn hjl) hK)) fun w9 f9 h9=>?_
  have hv:=hv.step f9 h9
  refine⟨r,hv.loc.at,?_⟩
  rw[hel]
  refine q0i.2 ⟨fun h0=>oo,fun _=>⟨r,hv.loc.at,?_⟩⟩
  intro w13
  have hx:Vw 1 encI w13 ⟨some ⟨w9.heap.size,0,none⟩,1,1⟩ [l[j]]:=Vw.new rfl rfl
  have hv:LS w0 w13 b ts (k+j+1) tx fm T bt x t Z F fl _:=hv.fr Fr.alloc
  clear_value w13
  refine hv.sx.app 11 rfl hx q47 rfl oy oy fun r' w15 hs _=>?_
  refine⟨hs.wr 10 rfl rfl,?_⟩
  intro w16
  have hv:LS w0 w16 b ts (k+(j+1)) tx fm T bt x t Z F fl ((fun d=>d=c,fun u=>Row u c [.slice r'.p r'.l r'.c])::(inB r',fun u=>Ow 1 encI u r' (l.take (j+1)))::E):=by
   rw[q16 hjl]
   exact⟨hs.set (i:=0) (v:=.slice r'.p r'.l r'.c) 10 rfl,hv.sc,hv.tl⟩
  clear_value w16
  refine⟨⟨⟨rfl,rfl,trivial⟩,j+1,r',oo,hv⟩,?_⟩
  rw[hv.kat,h.kat]
  omega
 refine fi ?_
 refine⟨r,h.loc.at,?_⟩
 rw[hel]
 refine q00.2 ⟨fun h0=>more u oo h,fun h0=>nz_i (q0v h.sca oo fun w4 f4=>?_)⟩
 have h':=h.fr f4
 rcases Nat.lt_or_ge j l.length with hjl|hjl
 ·rw[show decide (ofL (T[k+j]'oo).1=str [])=false by
   rw[hT j hjl,show str []=ofL []from rfl,q0c]
   exact decide_eq_false (q3z _)]
  simp_all
 ·have:j=l.length:=oo
  subst this
  rw[hT1,show decide (ofL []=str [])=true by decide]
  refine q0h ?_
  rw[J2]at *
  intro w17
  have h:LS w0 w17 b ts (k+l.length) tx fm T bt x t Z F fl _:=h'.fr Fr.drew
  clear_value w17
  have S:∀ {u:World},LS w0 u b ts (k+l.length) tx fm T bt x t Z F fl ((fun d=>d=c,fun u=>Row u c [.slice r.p r.l r.c])::(inB r,fun u=>Ow 1 encI u r l)::E)->LSS b bt 13 x.f13 (fun u=>Row u c [.slice r.p r.l r.c]) u:=fun h=>⟨h.ptr,h.box.at (i:=13) rfl,h.loc⟩
  refine⟨LSS b bt 13 x.f13 (fun u=>Row u c [.slice r.p r.l r.c]),S h,nz_i ⟨_,fun u hu=>hu.p,nz_i ⟨_,fun u hu=>hu.p,nz_i ⟨x.f13,fun u hu=>hu.l,r,fun u hu=>hu.q.at,?_⟩⟩⟩⟩
  intro w26
  have hx:Vw 1 encZ w26 ⟨some ⟨w17.heap.size,0,none⟩,1,1⟩ [r]:=Vw.new rfl rfl
  have h:LS w0 w26 b ts (k+l.length) tx fm T bt x t Z F fl _:=h.fr Fr.alloc
  clear_value w26
  have hIZ:IZ w26 Z t.combos:=h.sx.get 8 rfl
  refine⟨S h,h.sx.app 7 rfl hx qtw rfl (by have:=hIZ.1;simp;omega) (by have:=hIZ.1;simp;omega) fun r' w28 hs _=>?_⟩
  refine⟨⟨hs.ld (i:=4) 0 rfl rfl,hs.ld (i:=13) 2 rfl rfl,hs.get 10 rfl⟩,nz_i ⟨hs.wr 2 rfl rfl,?_⟩⟩
  have hs2:=hs.set (i:=13) (v:=.slice r'.p r'.l r'.c) 2 rfl
  have hs3:=Sx.del (A:=[_,_,_,_,_,_,_,_,_,_]) (B:=(inB r,fun u=>Ow 1 encI u r l)::E) hs2
  have hs4:=Sx.joinM (A:=[_,_,_,_,_,_,_,_,_,_]) (B:=E) (p:=(zB Z,fun u=>IZ u Z t.combos)) (r:=(zB (Z++[r]),fun u=>IZ u (Z++[r]) (t.combos++[l]))) hs3 8 rfl (IZ.rests _ _) (fun⟨h1,h2⟩ h3=>⟨by simp[h1],fun i hi hi'=>by
   rcases Nat.lt_or_ge i Z.length with hl|hl
   ·grind
   ·have:i=Z.length:=by simp at hi;omega
    subst this
    rw[J3 (Nat.le_refl _),J3 oo]
    simp only[Nat.sub_self,List.getElem_cons_zero]
    have e:([l]:List (List Int))[Z.length-t.combos.length]'oy=l:=og
    rw[e]
    exact h3.vw⟩) (fun d ⟨z,hz,hd⟩=>by
   rcases List.mem_append.1 hz with hz|hz
   ·exact .inl ⟨z,hz,hd⟩
   ·grind)
  exact hK _ { x with f13:=r' } (Z++[r]) ⟨hs4,{ h.sc with },h.tl⟩
def tmT(t:Td)(v:List Int)(i:Nat):Td:=
 { t with t1:=if 0<i then v.getD 0 0 else t.t1,t2:=if 1<i then v.getD 1 0 else t.t2,t3:=if 2<i then v.getD 2 0 else t.t3,t4:=if 3<i then v.getD 3 0 else t.t4,t5:=if 4<i then v.getD 4 0 else t.t5 }
def qu2(bt:Nat):List Value:=[.pointer (some ⟨bt,15,none⟩),.pointer (some ⟨bt,16,none⟩),.pointer (some ⟨bt,17,none⟩),.pointer (some ⟨bt,18,none⟩),.pointer (some ⟨bt,19,none⟩)]
theorem qmy{v:List Int}{i:Nat}(hi:i<5)(h:LS w0 w b ts k tx fm T bt x (tmT t v i) Z F fl E):∃x',LS w0 (w.setCell ⟨bt,15+i,none⟩ (.int .i64 (v.getD i 0))) b ts k tx fm T bt x' (tmT t v (i+1)) Z F fl E:=by
 match i,hi with
 | 0,_=>exact⟨{ x with f15:=v.getD 0 0 },h.put rfl rfl rfl rfl rfl rfl rfl rfl rfl rfl rfl rfl rfl { h.sc with t1:=rfl }⟩
 | 1,_=>exact⟨{ x with f16:=v.getD 1 0 },h.put rfl rfl rfl rfl rfl rfl rfl rfl rfl rfl rfl rfl rfl { h.sc with t2:=rfl }⟩
 | 2,_=>exact⟨{ x with f17:=v.getD 2 0 },h.put rfl rfl rfl rfl rfl rfl rfl rfl rfl rfl rfl rfl rfl { h.sc with t3:=rfl }⟩
 | 3,_=>exact⟨{ x with f18:=v.getD 3 0 },h.put rfl rfl rfl rfl rfl rfl rfl rfl rfl rfl rfl rfl rfl { h.sc with t4:=rfl }⟩
 | 4,_=>exact⟨{ x with f19:=v.getD 4 0 },h.put rfl rfl rfl rfl rfl rfl rfl rfl rfl rfl rfl rfl rfl { h.sc with t5:=rfl }⟩
theorem qgf{v:List Int}{K:World->Prop}(h:LS w0 w b ts k tx fm T bt x t Z F fl E)(hv:v.length=5)(hk:k+5<=T.length)(hT:∀j (h:j<v.length),(T[k+j]'oo).1=Lib.itoa v[j])(hi:∀n∈v,inN 0 n)
  (hK:∀w' x',LS w0 w' b ts (k+5) tx fm T bt x' (tmT t v 5) Z F fl E->K w'):z3p_sh (some ⟨b,0,none⟩) K w:=by
 refine⟨fi ?_⟩
 refine nz_i ⟨_,h.ptr,nz_i ?_⟩
 intro w4
 have h:LS w0 w4 b ts k tx fm T bt x t Z F fl _:=h.fr Fr.drew
 clear_value w4
 refine⟨fun _=>True,trivial,?_⟩
 intro w6
 have h:LS w0 w6 b ts k tx fm T bt x t Z F fl ((fun d=>d=w4.heap.size,fun u=>Row u w4.heap.size (qu2 bt))::E):=h.row (cs:=qu2 bt)
 clear_value w6
 generalize w4.heap.size=c at *
 refine⟨⟨fun i u=>∃(j:Nat) (x':T43),i=j/\j<=5/\LS w0 u b ts (k+j) tx fm T bt x' (tmT t v j) Z F fl ((fun d=>d=c,fun u=>Row u c (qu2 bt))::E),fun i _=>5-i.toNat,⟨0,x,rfl,oo,h⟩,?_⟩⟩
 rintro i u ⟨j,y,rfl,hj,h⟩
 refine fi ?_
 refine q00.2 ⟨fun hlt=>?_,fun hge=>?_⟩
 ·have hj5:j<5:=oo
  refine nz_i ⟨⟨oo,by show(j:Int)<5;omega⟩,some ⟨bt,15+j,none⟩,?_,?_⟩
  ·rw[q04]
   refine h.loc.at ?_
   match j,hj5 with
   | 0,_=>rfl
   | 1,_=>rfl
   | 2,_=>rfl
   | 3,_=>rfl
   | 4,_=>rfl
  ·have hin:=hi _ (J1 (show j<v.length by omega))
   have ev:v.getD j 0=v[j]'oo:=by rw[List.getD_eq_getElem?_getD,List.getElem?_eq_getElem oo];rfl
   refine q1t h.sca oo h.tl (hT j oo) hin fun w9 f9 h9=>?_
   have h:=h.step f9 h9
   refine nz_i ⟨h.wr (by rw[Nat.blt_eq];omega),?_⟩
   obtain⟨y',h'⟩:=qmy (v:=v) hj5 h
   rw[ev]at h'
   exact⟨q01,⟨⟨rfl,rfl,rfl,trivial⟩,j+1,y',oo,oo,h'⟩,uo⟩
 ·have:j=5:=oo
  subst this
  exact hK u y h.del
end
end Go.Proofs.YtmfkimnmklnppaaGreatDoor
namespace Go.Proofs
open Go.Shelf
def Tryz.laysM146_ren:Go.Shelf.Ren:=⟨fun|146=>82|221=>150|268=>220|138=>221|143=>222|195=>275|197=>276|218=>277|219=>278|260=>296|217=>297|225=>298|224=>299|267=>300|266=>318|314=>319|n=>n,fun|9=>9|31=>32|3=>3|4=>4|0=>0|105=>335|21=>21|5=>5|46=>144|119=>361|139=>364|138=>363|146=>365|51=>210|n=>n,fun|1=>0|3=>1|4=>2|n=>n⟩
theorem Tryz.laysM146:Go.Proofs.LaysM.n146 Tryz.prog Tryz.laysM146_ren:={
 mixed:=by kernel_rfl
 f138:=Tryz.func221.trans (congrArg some (by kernel_rfl))
 f143:=Tryz.func222.trans (congrArg some (by kernel_rfl))
 f146:=Tryz.func82.trans (congrArg some (by kernel_rfl))
 f195:=Tryz.func275.trans (congrArg some (by kernel_rfl))
 f197:=Tryz.func276.trans (congrArg some (by kernel_rfl))
 f217:=Tryz.func297.trans (congrArg some (by kernel_rfl))
 f218:=Tryz.func277.trans (congrArg some (by kernel_rfl))
 f219:=Tryz.func278.trans (congrArg some (by kernel_rfl))
 f221:=Tryz.func150.trans (congrArg some (by kernel_rfl))
 f224:=Tryz.func299.trans (congrArg some (by kernel_rfl))
 f225:=Tryz.func298.trans (congrArg some (by kernel_rfl))
 f260:=Tryz.func296.trans (congrArg some (by kernel_rfl))
 f266:=Tryz.func318.trans (congrArg some (by kernel_rfl))
 f267:=Tryz.func300.trans (congrArg some (by kernel_rfl))
 f268:=Tryz.func220.trans (congrArg some (by kernel_rfl))
 f314:=Tryz.func319.trans (congrArg some (by kernel_rfl))
 t0:=Tryz.underlying0
 a0:=Tryz.isAgg0
 z0:=Tryz.sizeOf0
 v0:=Tryz.zeroValue0
 t3:=Tryz.underlying3
 a3:=Tryz.isAgg3
 z3:=Tryz.sizeOf3
 v3:=Tryz.zeroValue3
 t4:=Tryz.underlying4
 a4:=Tryz.isAgg4
 z4:=Tryz.sizeOf4
 v4:=Tryz.zeroValue4
 t5:=Tryz.underlying5
 a5:=Tryz.isAgg5
 z5:=Tryz.sizeOf5
 v5:=Tryz.zeroValue5
 t9:=Tryz.underlying9
 a9:=Tryz.isAgg9
 z9:=Tryz.sizeOf9
 v9:=Tryz.zeroValue9
 t21:=Tryz.underlying21
 a21:=Tryz.isAgg21
 z21:=Tryz.sizeOf21
 v21:=Tryz.zeroValue21
 t31:=Tryz.underlying32
 a31:=Tryz.isAgg32
 z31:=Tryz.sizeOf32
 v31:=Tryz.zeroValue32
 t46:=Tryz.underlying144
 a46:=Tryz.isAgg144
 z46:=Tryz.sizeOf144
 v46:=Tryz.zeroValue144
 t51:=Tryz.underlying210
 a51:=Tryz.isAgg210
 z51:=Tryz.sizeOf210
 v51:=Tryz.zeroValue210
 t105:=Tryz.underlying335
 a105:=Tryz.isAgg335
 z105:=Tryz.sizeOf335
 v105:=Tryz.zeroValue335
 t119:=Tryz.underlying361
 a119:=Tryz.isAgg361
 z119:=Tryz.sizeOf361
 t138:=Tryz.underlying363
 a138:=Tryz.isAgg363
 z138:=Tryz.sizeOf363
 v138:=Tryz.zeroValue363
 t139:=Tryz.underlying364
 a139:=Tryz.isAgg364
 z139:=Tryz.sizeOf364
 v139:=Tryz.zeroValue364
 t146:=Tryz.underlying365
 a146:=Tryz.isAgg365
 z146:=Tryz.sizeOf365
 v146:=Tryz.zeroValue365
 g1:=by kernel_rfl
 g3:=by kernel_rfl
 g4:=by kernel_rfl
 i0:=by kernel_rfl
 i3:=by kernel_rfl
 i4:=by kernel_rfl
 i5:=by kernel_rfl
 i9:=by kernel_rfl
 i21:=by kernel_rfl
 i31:=by kernel_rfl
 i46:=by kernel_rfl
 i51:=by kernel_rfl
 i105:=by kernel_rfl
 i138:=by kernel_rfl
 i139:=by kernel_rfl
 i146:=by kernel_rfl
 m1:=by kernel_rfl
 s1_3:=fun w h=>Go.Proofs.cell_of_shapedOpen_int (zero:=#[.int .i64 0]) (t:=3) h (of_decide_eq_true (by kernel_rfl)) (by kernel_rfl) rfl (by kernel_rfl) (by kernel_rfl) Tryz.underlying3
 m3:=by kernel_rfl
 m4:=by kernel_rfl }
def Tryz.laysM145_ren:Go.Shelf.Ren:=⟨fun|145=>348|220=>355|219=>278|217=>297|225=>298|224=>299|267=>300|266=>318|314=>319|n=>n,fun|9=>9|4=>4|59=>398|3=>3|5=>5|46=>144|146=>365|51=>210|n=>n,fun|1=>0|n=>n⟩
theorem Tryz.laysM145:Go.Proofs.LaysM.n145 Tryz.prog Tryz.laysM145_ren:={
 mixed:=by kernel_rfl
 f145:=Tryz.func348.trans (congrArg some (by kernel_rfl))
 f217:=Tryz.func297.trans (congrArg some (by kernel_rfl))
 f219:=Tryz.func278.trans (congrArg some (by kernel_rfl))
 f220:=Tryz.func355.trans (congrArg some (by kernel_rfl))
 f224:=Tryz.func299.trans (congrArg some (by kernel_rfl))
 f225:=Tryz.func298.trans (congrArg some (by kernel_rfl))
 f266:=Tryz.func318.trans (congrArg some (by kernel_rfl))
 f267:=Tryz.func300.trans (congrArg some (by kernel_rfl))
 f314:=Tryz.func319.trans (congrArg some (by kernel_rfl))
 t3:=Tryz.underlying3
 a3:=Tryz.isAgg3
 z3:=Tryz.sizeOf3
 v3:=Tryz.zeroValue3
 t4:=Tryz.underlying4
 a4:=Tryz.isAgg4
 z4:=Tryz.sizeOf4
 v4:=Tryz.zeroValue4
 t5:=Tryz.underlying5
 a5:=Tryz.isAgg5
 z5:=Tryz.sizeOf5
 v5:=Tryz.zeroValue5
 t9:=Tryz.underlying9
 a9:=Tryz.isAgg9
 z9:=Tryz.sizeOf9
 v9:=Tryz.zeroValue9
 t46:=Tryz.underlying144
 a46:=Tryz.isAgg144
 z46:=Tryz.sizeOf144
 v46:=Tryz.zeroValue144
 t51:=Tryz.underlying210
 a51:=Tryz.isAgg210
 z51:=Tryz.sizeOf210
 v51:=Tryz.zeroValue210
 t59:=Tryz.underlying398
 a59:=Tryz.isAgg398
 z59:=Tryz.sizeOf398
 v59:=Tryz.zeroValue398
 t146:=Tryz.underlying365
 a146:=Tryz.isAgg365
 z146:=Tryz.sizeOf365
 v146:=Tryz.zeroValue365
 g1:=by kernel_rfl
 i3:=by kernel_rfl
 i4:=by kernel_rfl
 i5:=by kernel_rfl
 i9:=by kernel_rfl
 i46:=by kernel_rfl
 i51:=by kernel_rfl
 i59:=by kernel_rfl
 i146:=by kernel_rfl
 m1:=by kernel_rfl
 s1_3:=fun w h=>Go.Proofs.cell_of_shapedOpen_int (zero:=#[.int .i64 0]) (t:=3) h (of_decide_eq_true (by kernel_rfl)) (by kernel_rfl) rfl (by kernel_rfl) (by kernel_rfl) Tryz.underlying3 }
def Tryz.lays100_ren:Go.Shelf.Ren:=⟨fun|100=>349|207=>356|n=>n,fun|9=>9|4=>4|3=>3|n=>n,fun|n=>n⟩
theorem Tryz.lays100:Go.Proofs.Lays.n100 Tryz.prog Tryz.lays100_ren:={
 mixed:=by kernel_rfl
 f100:=Tryz.func349.trans (congrArg some (by kernel_rfl))
 f207:=Tryz.func356.trans (congrArg some (by kernel_rfl))
 t3:=Tryz.underlying3
 a3:=Tryz.isAgg3
 z3:=Tryz.sizeOf3
 v3:=Tryz.zeroValue3
 t4:=Tryz.underlying4
 a4:=Tryz.isAgg4
 z4:=Tryz.sizeOf4
 v4:=Tryz.zeroValue4
 t9:=Tryz.underlying9
 a9:=Tryz.isAgg9
 z9:=Tryz.sizeOf9
 v9:=Tryz.zeroValue9 }
def Tryz.lays144_ren:Go.Shelf.Ren:=⟨fun|144=>315|143=>222|219=>278|217=>297|225=>298|224=>299|267=>300|266=>318|314=>319|n=>n,fun|9=>9|4=>4|3=>3|5=>5|46=>144|146=>365|51=>210|n=>n,fun|1=>0|n=>n⟩
theorem Tryz.lays144:Go.Proofs.Lays.n144 Tryz.prog Tryz.lays144_ren:={
 mixed:=by kernel_rfl
 f143:=Tryz.func222.trans (congrArg some (by kernel_rfl))
 f144:=Tryz.func315.trans (congrArg some (by kernel_rfl))
 f217:=Tryz.func297.trans (congrArg some (by kernel_rfl))
 f219:=Tryz.func278.trans (congrArg some (by kernel_rfl))
 f224:=Tryz.func299.trans (congrArg some (by kernel_rfl))
 f225:=Tryz.func298.trans (congrArg some (by kernel_rfl))
 f266:=Tryz.func318.trans (congrArg some (by kernel_rfl))
 f267:=Tryz.func300.trans (congrArg some (by kernel_rfl))
 f314:=Tryz.func319.trans (congrArg some (by kernel_rfl))
 t3:=Tryz.underlying3
 a3:=Tryz.isAgg3
 z3:=Tryz.sizeOf3
 v3:=Tryz.zeroValue3
 t4:=Tryz.underlying4
 a4:=Tryz.isAgg4
 z4:=Tryz.sizeOf4
 v4:=Tryz.zeroValue4
 t5:=Tryz.underlying5
 a5:=Tryz.isAgg5
 z5:=Tryz.sizeOf5
 v5:=Tryz.zeroValue5
 t9:=Tryz.underlying9
 a9:=Tryz.isAgg9
 z9:=Tryz.sizeOf9
 v9:=Tryz.zeroValue9
 t46:=Tryz.underlying144
 a46:=Tryz.isAgg144
 z46:=Tryz.sizeOf144
 v46:=Tryz.zeroValue144
 t51:=Tryz.underlying210
 a51:=Tryz.isAgg210
 z51:=Tryz.sizeOf210
 v51:=Tryz.zeroValue210
 t146:=Tryz.underlying365
 a146:=Tryz.isAgg365
 z146:=Tryz.sizeOf365
 v146:=Tryz.zeroValue365
 g1:=by kernel_rfl }
def Tryz.lays169_ren:Go.Shelf.Ren:=⟨fun|169=>157|n=>n,fun|70=>229|9=>9|0=>0|72=>232|37=>230|127=>300|3=>3|5=>5|n=>n,fun|n=>n⟩
theorem Tryz.lays169:Go.Proofs.Lays.n169 Tryz.prog Tryz.lays169_ren:={
 mixed:=by kernel_rfl
 f169:=Tryz.func157.trans (congrArg some (by kernel_rfl))
 t0:=Tryz.underlying0
 a0:=Tryz.isAgg0
 z0:=Tryz.sizeOf0
 v0:=Tryz.zeroValue0
 t3:=Tryz.underlying3
 a3:=Tryz.isAgg3
 z3:=Tryz.sizeOf3
 v3:=Tryz.zeroValue3
 t9:=Tryz.underlying9
 a9:=Tryz.isAgg9
 z9:=Tryz.sizeOf9
 v9:=Tryz.zeroValue9
 t37:=Tryz.underlying230
 a37:=Tryz.isAgg230
 z37:=Tryz.sizeOf230
 v37:=Tryz.zeroValue230
 t70:=Tryz.underlying229
 a70:=Tryz.isAgg229
 z70:=Tryz.sizeOf229
 v70:=Tryz.zeroValue229
 t72:=Tryz.underlying232
 a72:=Tryz.isAgg232
 z72:=Tryz.sizeOf232
 v72:=Tryz.zeroValue232
 t127:=Tryz.underlying300
 a127:=Tryz.isAgg300
 z127:=Tryz.sizeOf300
 v127:=Tryz.zeroValue300 }
def Tryz.lays156_ren:Go.Shelf.Ren:=⟨fun|156=>154|165=>224|166=>153|169=>157|240=>223|241=>280|276=>279|277=>301|n=>n,fun|31=>32|9=>9|3=>3|4=>4|0=>0|20=>20|72=>232|76=>235|70=>229|37=>230|75=>234|127=>300|164=>338|5=>5|80=>240|n=>n,fun|n=>n⟩
theorem Tryz.lays156:Go.Proofs.Lays.n156 Tryz.prog Tryz.lays156_ren:={
 mixed:=by kernel_rfl
 f156:=Tryz.func154.trans (congrArg some (by kernel_rfl))
 f165:=Tryz.func224.trans (congrArg some (by kernel_rfl))
 f166:=Tryz.func153.trans (congrArg some (by kernel_rfl))
 f169:=Tryz.func157.trans (congrArg some (by kernel_rfl))
 f240:=Tryz.func223.trans (congrArg some (by kernel_rfl))
 f241:=Tryz.func280.trans (congrArg some (by kernel_rfl))
 f276:=Tryz.func279.trans (congrArg some (by kernel_rfl))
 f277:=Tryz.func301.trans (congrArg some (by kernel_rfl))
 t0:=Tryz.underlying0
 a0:=Tryz.isAgg0
 z0:=Tryz.sizeOf0
 v0:=Tryz.zeroValue0
 t3:=Tryz.underlying3
 a3:=Tryz.isAgg3
 z3:=Tryz.sizeOf3
 v3:=Tryz.zeroValue3
 t4:=Tryz.underlying4
 a4:=Tryz.isAgg4
 z4:=Tryz.sizeOf4
 v4:=Tryz.zeroValue4
 t9:=Tryz.underlying9
 a9:=Tryz.isAgg9
 z9:=Tryz.sizeOf9
 v9:=Tryz.zeroValue9
 t20:=Tryz.underlying20
 a20:=Tryz.isAgg20
 z20:=Tryz.sizeOf20
 v20:=Tryz.zeroValue20
 t31:=Tryz.underlying32
 a31:=Tryz.isAgg32
 z31:=Tryz.sizeOf32
 v31:=Tryz.zeroValue32
 t37:=Tryz.underlying230
 a37:=Tryz.isAgg230
 z37:=Tryz.sizeOf230
 v37:=Tryz.zeroValue230
 t70:=Tryz.underlying229
 a70:=Tryz.isAgg229
 z70:=Tryz.sizeOf229
 v70:=Tryz.zeroValue229
 t72:=Tryz.underlying232
 a72:=Tryz.isAgg232
 z72:=Tryz.sizeOf232
 v72:=Tryz.zeroValue232
 t75:=Tryz.underlying234
 a75:=Tryz.isAgg234
 z75:=Tryz.sizeOf234
 v75:=Tryz.zeroValue234
 t76:=Tryz.underlying235
 a76:=Tryz.isAgg235
 z76:=Tryz.sizeOf235
 v76:=Tryz.zeroValue235
 t127:=Tryz.underlying300
 a127:=Tryz.isAgg300
 z127:=Tryz.sizeOf300
 v127:=Tryz.zeroValue300
 t164:=Tryz.underlying338
 a164:=Tryz.isAgg338
 z164:=Tryz.sizeOf338
 v164:=Tryz.zeroValue338 }
theorem Tryz.Builder_Extra_169:Builder.Extra Tryz.prog Tryz.lays169_ren:={
 sizeBuilder:=by kernel_rfl
 liesBuilder:=by kernel_rfl
 t5:=Tryz.underlying5
 a5:=Tryz.isAgg5
 z5:=Tryz.sizeOf5
 v5:=Tryz.zeroValue5
 infoByte:=by kernel_rfl
 cellsByte:=by kernel_rfl
 sizeByte:=by kernel_rfl
 neB5:=by decide }
theorem Tryz.Builder_Extra_156:Builder.Extra Tryz.prog Tryz.lays156_ren:={
 sizeBuilder:=by kernel_rfl
 liesBuilder:=by kernel_rfl
 t5:=Tryz.underlying5
 a5:=Tryz.isAgg5
 z5:=Tryz.sizeOf5
 v5:=Tryz.zeroValue5
 infoByte:=by kernel_rfl
 cellsByte:=by kernel_rfl
 sizeByte:=by kernel_rfl
 neB5:=by decide }
