/- eval: the value of a formula; it panics with the first error. Conditions: none. -/
import Derived.Test.YtipjnbbfnlfmjaaGreatDoorUQX
import Derived.Test.YtipjnbbfnlfmjaaGreatDoorTE3
namespace Go.Proofs.YtipjnbbfnlfmjaaGreatDoor
open Go Pw Dp
def fail (er:Int):List PanicEntry:=[{ v:=.iface 159 (.agg #[.int .i64 er]),recovered:=false }]
section
variable {w w' w0:World}{s:Sl}
theorem ev_I {vals:List Vl}(hi:∀ v∈vals,I64 v.2):∀ (e:Fm) {c:XC} {x:Int × Int},XP w e c->e.ev vals=.ok x->I64 x.1/\I64 x.2
 | .num n d,c,x,hx,h=>by
  cases h
  exact hx.2
 | .name s,c,x,_,h=>by
  unfold Fm.ev at h
  split at h
  ·rename_i v hv
   cases h
   exact⟨hi _ (List.mem_of_find?_eq_some hv),(⟨by decide,by decide⟩:I64 1)⟩
  ·cases h
 | .op o a b,c,x,⟨_,_,_,_,hxa,hxb⟩,h=>by
  unfold Fm.ev at h
  split at h
  ·cases h
  ·rename_i y hy
   split at h
   ·cases h
   ·rename_i z hz
    split at h
    ·cases h
     exact appQ_I (ev_I hi a hxa hy) (ev_I hi b hxb hz)
    ·cases h
theorem qet {n m:B}{k:Int}{b:Nat}{c:XC}{K:Bool->World->Prop}(h:Row w b (encX c))(hc:c.nm=ofL m)(hK:∀ w',Fr F0 w w'->K (decide (n=m)) w'):z28_sh (ofL n) k ⟨b,0,none⟩ K w:=by
 refine⟨?_⟩
 intro w1
 have m1:Mem w w1 [(w.heap.size,[.string (ofL n),.int .i64 k])]:=Mem.nil.allocL (cs:=[.string (ofL n),.int .i64 k])
 clear_value w1
 refine⟨ofL n,m1.ld 0,c.nm,?_,?_⟩
 ·rw[q01]; exact(m1.1.row h fun h=>h).at (i:=3) rfl
 ·dsimp -zeta only; rw[hc,q0h]
  exact hK _ m1.1
variable {Pn:List PanicEntry->World->Prop}
theorem qax {bt bx:Nat}{n d er:Int}{K:Int->Int->World->Prop}(f:Fr F0 w0 w)(hbt:w0.heap.size<=bt)(rt:Row w bt [.int .i64 0,.int .i64 0])(rx:Row w bx [.int .i64 n,.int .i64 d])
  (hP:er≠0->Pn (fail er) w) (hK:er=0->∀ w',Fr F0 w0 w'->K n d w'):z3e_k0 Pn ⟨bt,0,none⟩ ⟨bx,0,none⟩ er K w:=by
 refine⟨?_⟩
 unfold z3e_k0d
 simp -zeta only[q01]
 refine q1s.2 ⟨hP,fun h0=>⟨_,rx.at,_,rx.at,rt.wr (by decide),?_⟩⟩
 intro w76
 have f1:Fr F0 w0 w76:=f.trans (Fr.set (F:=fun c=>c=bt) rfl) fun c hc hlt=>by omega
 have r1:=rt.set 0 (.int .i64 n)
 refine⟨r1.wr (by simp),?_⟩
 intro w77
 have f2:Fr F0 w0 w77:=f1.trans (Fr.set (F:=fun c=>c=bt) rfl) fun c hc hlt=>by omega
 have r2:=r1.set 1 (.int .i64 d)
 exact⟨_,r2.at,_,r2.at,hK h0 w77 f2⟩
theorem qhr {vals:List Vl}(hl:vals.length<2^62)(hi:∀ v∈vals,I64 v.2):∀ (e:Fm) {c:XC} {w:World} {K:Int->Int->World->Prop},XP w e c->Vw 2 encV w s vals ->
  (∀ x w',e.ev vals=.ok x->Fr F0 w w'->K x.1 x.2 w')->(∀ er w',e.ev vals=.error er->Fr F0 w w'->Pn (fail er) w')->z3e_sh Pn c.op c.n c.d c.nm c.a s K w:=by
 intro e
 induction e with
 | num n d =>
  intro c w K hx hv hK hP
  obtain⟨rfl,hn,hd⟩:=hx
  refine z3e_mk _ _ _ _ _ _ _ _ _ _ _ ?_
  unfold z3e_sd
  intro w1 w2
  have m:Mem w w2 [(w1.heap.size,[.int .i64 0,.int .i64 0]),(w.heap.size,encX ⟨ofL wNum,n,d,ofL [],⟨none,0,0⟩⟩)]:=(Mem.nil.allocL (cs:=encX ⟨ofL wNum,n,d,ofL [],⟨none,0,0⟩⟩)).allocL (cs:=[.int .i64 0,.int .i64 0])
  clear_value w2 w1
  refine⟨_,m.ld 1,?_⟩
  dsimp -zeta only; rw[show decide (ofL wNum=str [110,117,109])=true by decide]
  refine q3d ⟨_,m.ld 1,_,m.ld 1,m.wr 0,?_⟩
  intro w6
  have m:=m.set (i:=0) (v:=.int .i64 n) 0
  refine⟨m.wr 0,?_⟩
  intro w7
  have m:=m.set (i:=1) (v:=.int .i64 d) 0
  exact⟨_,m.ld 0,_,m.ld 0,hK (n,d) _ rfl m.1⟩
 | name nm =>
  intro c w K hx hv hK hP
  obtain⟨rfl,hsl⟩:=hx
  refine z3e_mk _ _ _ _ _ _ _ _ _ _ _ ?_
  unfold z3e_sd
  intro w1 w2
  have m:Mem w w2 [(w1.heap.size,[.int .i64 0,.int .i64 0]),(w.heap.size,encX ⟨ofL q0n,0,0,ofL nm,⟨none,0,0⟩⟩)]:=(Mem.nil.allocL (cs:=encX ⟨ofL q0n,0,0,ofL nm,⟨none,0,0⟩⟩)).allocL (cs:=[.int .i64 0,.int .i64 0])
  clear_value w2 w1
  refine⟨_,m.ld 1,?_⟩
  dsimp -zeta only; rw[show decide (ofL q0n=str [110,117,109])=false by decide,show decide (ofL q0n=str [110,97,109,101])=true by decide]
  refine q44 (q3d ?_)
  refine q45 (hv.fr m.1) hl (p:=fun v=>decide (v.1=nm)) (fun x _=>fun u K hu hK=>q05 z28_ok (qet (K:=kk [tB] K) (hu.row (m.roW 1 rfl) fun h=>h) rfl hK)) fun r w10 f10 hr=>?_
  have m:=m.fr f10
  refine q00.2 ⟨fun h0=>?_,fun h0=>?_⟩
  ·have hf:=hr.none h0
   refine hP 13 w10 ?_ m.1
   unfold Fm.ev
   rw[hf]
  ·obtain⟨i,hil,rfl,hf⟩:=hr.find h0
   refine Vw.go q3c (by decide) (hv.fr m.1) i rfl hil fun a hc=>⟨_,hc 1 _ rfl,?_⟩
   refine qj5 fun w14 f14=>?_
   have m:=m.fr f14
   refine⟨m.wr 0,?_⟩
   intro w16
   have m:=m.set (i:=0) (v:=.int .i64 vals[i].2) 0
   refine⟨m.wr 0,?_⟩
   intro w17
   have m:=m.set (i:=1) (v:=.int .i64 1) 0
   refine⟨_,m.ld 0,_,m.ld 0,hK (vals[i].2,1) _ ?_ m.1⟩
   unfold Fm.ev
   rw[hf]
 | op o a b iha ihb =>
  intro c w K hx hv hK hP
  have hx0:=hx
  obtain⟨ca,cb,⟨ho,hn,hd,hm⟩,hva,hxa,hxb⟩:=hx
  obtain⟨c0,c1,c2,c3,c4⟩:=c
  simp only at ho hn hd hm hva
  subst ho hn hd hm
  refine z3e_mk _ _ _ _ _ _ _ _ _ _ _ ?_
  unfold z3e_sd
  intro w1 w2
  have m:Mem w w2 [(w1.heap.size,[.int .i64 0,.int .i64 0]),(w.heap.size,encX ⟨ofL (opB o),0,0,ofL [],c4⟩)]:=(Mem.nil.allocL (cs:=encX ⟨ofL (opB o),0,0,ofL [],c4⟩)).allocL (cs:=[.int .i64 0,.int .i64 0])
  have hb1:w.heap.size<=w1.heap.size:=(Fr.alloc (F:=F0)).1
  clear_value w2 w1
  refine⟨_,m.ld 1,?_⟩
  dsimp -zeta only; rw[qmw,qcq]
  refine q44 (q44 ⟨_,m.ld 1,q9y fun w21 f21=>?_⟩)
  have m:=m.fr f21
  intro w24
  have m:Mem w w24 ((w21.heap.size,[.string (str []),.nilFunc]) :: _):=m.allocL (cs:=[.string (str []),.nilFunc])
  clear_value w24
  refine⟨m.wr 0,?_⟩
  intro w25
  have m:=m.set (i:=0) (v:=.string (ofL (opB o))) 0
  refine qk2 (qk4 o) ⟨m.wr 0,?_⟩
  intro w26
  have m:Mem w w26 [(w21.heap.size,encO o),(w1.heap.size,[.int .i64 0,.int .i64 0]),(w.heap.size,encX ⟨ofL (opB o),0,0,ofL [],c4⟩)]:=m.set (i:=1) (v:=opF o) 0
  clear_value w26 w25
  refine⟨_,m.ld 2,?_⟩
  refine ldX (hva.fr m.1) 0 rfl (by simp) ?_
  refine iha (hxa.fr m.1) (hv.fr m.1) (fun x w34 hex f34=>?_) fun er w' he f=>hP er w' (by unfold Fm.ev; rw[he]) (m.1.t f)
  have hxi:=ev_I hi a (hxa.fr m.1) hex
  have m:=m.fr f34
  intro w36
  have m:Mem w w36 ((w34.heap.size,[.int .i64 0,.int .i64 0]) :: _):=m.allocL (cs:=[.int .i64 0,.int .i64 0])
  clear_value w36
  refine⟨m.wr 0,?_⟩
  intro w37
  have m:=m.set (i:=0) (v:=.int .i64 x.1) 0
  refine⟨m.wr 0,?_⟩
  intro w38
  have m:=m.set (i:=1) (v:=.int .i64 x.2) 0
  intro w39
  have m:Mem w w39 [(w34.heap.size,[.int .i64 x.1,.int .i64 x.2]),(w21.heap.size,encO o),(w1.heap.size,[.int .i64 0,.int .i64 0]),(w.heap.size,encX ⟨ofL (opB o),0,0,ofL [],c4⟩)]:=m.drew
  clear_value w39 w38 w37
  have M:∀ {u:World},Fr F0 w39 u->Mem w u [(w34.heap.size,[.int .i64 x.1,.int .i64 x.2]),(w21.heap.size,encO o),(w1.heap.size,[.int .i64 0,.int .i64 0]),(w.heap.size,encX ⟨ofL (opB o),0,0,ofL [],c4⟩)]:=fun f=>m.fr f
  refine⟨fun u=>Fr F0 w39 u,Fr.refl,_,fun u f=>(M f).ld 1,_,fun u f=>(M f).ld 1,_,fun u f=>(M f).ld 0,_,fun u f=>(M f).ld 0,_,fun u f=>(M f).ld 3,?_⟩
  refine Vw.goS (S:=fun u=>Fr F0 w39 u) q1u (by decide) Fr.refl (fun u f=>hva.fr (M f).1) 1 rfl (by simp) fun ad hc=>⟨_,fun u f=>hc 0 _ rfl u f,_,fun u f=>hc 1 _ rfl u f,_,fun u f=>hc 2 _ rfl u f,_,fun u f=>hc 3 _ rfl u f,_,fun u f=>hc 4 _ rfl u f,?_⟩
  have key:∀ {u:World} {J:Int->Int->World->Prop},Fr F0 w39 u->(∀ y w',b.ev vals=.ok y->Fr F0 u w'->J y.1 y.2 w')->z3e_sh Pn cb.op cb.n cb.d cb.nm cb.a s J u:=fun {u J} f hJ =>
   ihb (hxb.fr (M f).1) (hv.fr (M f).1) hJ fun er w' he f'=>hP er w' (by unfold Fm.ev; rw[hex]; simp only; rw[he]) ((M f).1.t f')
  have fin:∀ {u:World} {y:Int × Int} {bx:Nat},b.ev vals=.ok y->Fr F0 w39 u->Row u bx [.int .i64 (appQ o x y).1.n,.int .i64 (appQ o x y).1.d]->z3e_k0 Pn ⟨w1.heap.size,0,none⟩ ⟨bx,0,none⟩ (appQ o x y).2 K u:=fun {u y bx} hy f rx =>
   qax (M f).1 hb1 ((M f).row 2) rx (fun h=>hP _ _ (by unfold Fm.ev; rw[hex]; simp only; rw[hy]; simp only; rw[if_neg h]) (M f).1) fun h w' f'=>hK ((appQ o x y).1.n,(appQ o x y).1.d) w' (by unfold Fm.ev; rw[hex]; simp only; rw[hy]; simp only; rw[if_pos h]) f'
  refine⟨?_,?_⟩
  ·refine key Fr.refl fun y w52 hy f52=>?_
   have hyi:=ev_I hi b (hxb.fr (M f52).1) hy
   refine⟨f52,?_,?_⟩
   ·refine q6n hxi hyi fun w54 f54=>?_
    have f54:=f52.t f54
    refine⟨f54,?_⟩
    intro w57
    have m:Mem w54 w57 [(w54.heap.size,[.int .i64 0,.int .i64 0])]:=Mem.nil.allocL (cs:=[.int .i64 0,.int .i64 0])
    clear_value w57
    refine⟨f54.t m.1,m.wr 0,?_⟩
    intro w58
    have m:=m.set (i:=0) (v:=.int .i64 (appQ o x y).1.n) 0
    refine⟨m.wr 0,?_⟩
    intro w59
    have m:=m.set (i:=1) (v:=.int .i64 (appQ o x y).1.d) 0
    exact fin hy (f54.t m.1) (m.row 0)
   ·intro w60
    have m:Mem w52 w60 [(w52.heap.size,[.int .i64 0,.int .i64 0])]:=Mem.nil.allocL (cs:=[.int .i64 0,.int .i64 0])
    clear_value w60
    refine⟨f52.t m.1,q6n hxi hyi fun w61 f61=>?_⟩
    have m:=m.fr f61
    refine⟨f52.t m.1,m.wr 0,?_⟩
    intro w64
    have m:=m.set (i:=0) (v:=.int .i64 (appQ o x y).1.n) 0
    refine⟨m.wr 0,?_⟩
    intro w65
    have m:=m.set (i:=1) (v:=.int .i64 (appQ o x y).1.d) 0
    exact fin hy (f52.t m.1) (m.row 0)
  ·intro w66
   have m:Mem w39 w66 [(w39.heap.size,[.int .i64 0,.int .i64 0])]:=Mem.nil.allocL (cs:=[.int .i64 0,.int .i64 0])
   clear_value w66
   refine⟨m.1,key m.1 fun y w67 hy f67=>?_⟩
   have m:=m.fr f67
   have hyi:=ev_I hi b (hxb.fr (M m.1).1) hy
   refine⟨m.1,q6n hxi hyi fun w69 f69=>?_⟩
   have m:=m.fr f69
   refine⟨m.1,m.wr 0,?_⟩
   intro w72
   have m:=m.set (i:=0) (v:=.int .i64 (appQ o x y).1.n) 0
   refine⟨m.wr 0,?_⟩
   intro w73
   have m:=m.set (i:=1) (v:=.int .i64 (appQ o x y).1.d) 0
   exact fin hy m.1 (m.row 0)
end
