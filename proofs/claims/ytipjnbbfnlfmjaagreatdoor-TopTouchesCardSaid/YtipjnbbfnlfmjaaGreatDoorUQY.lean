/- eval: Eval defers a call that recovers. Conditions: none. -/
import Derived.Test.YtipjnbbfnlfmjaaGreatDoorUE
import Derived.Test.YtipjnbbfnlfmjaaGreatDoorTE4
import Derived.RecoverIn
open List renaming getElem?_eq_getElem->J0,getElem_mem->J1,mem_cons_self->J2,drop_eq_getElem_cons->J3,length_take->J4,take_add_one->J5,append_assoc->J6,mem_cons_of_mem->J7,not_mem_nil->J8,take_length->J9,mem_or_eq_of_mem_set->Ja,find?_append->Jb,length_eq_zero_iff->Jc,mem_cons->Jd,take_append_drop->Je,length_set->Jf,mem_iff_getElem->Jg,countP_append->Jh,getElem_take->Ji,drop_length->Jj,any_eq_true->Jk,getElem_inj->Jl,mem_map->Jm,any_append->Jn,map_append->Jo,drop_left->Jp,range->Jq,range'->Jr
set_option maxRecDepth 20000
namespace Go.Proofs.YtipjnbbfnlfmjaaGreatDoor
open Go Pw Dp
def sqL:Code->Code
 | .seq a _=>a
 | c=>c
def sqR:Code->Code
 | .seq _ b=>b
 | c=>c
def rgO:Code->Array Oper
 | .region _ ops _=>ops
 | _=>#[]
noncomputable def c87:Code:=Tryz.f87.body.getD .skip
noncomputable def c52:Code:=Tryz.f52.body.getD .skip
noncomputable def p52a:Code:=sqL c52
noncomputable def p52b:Code:=sqL (sqR c52)
noncomputable def p52d:Code:=sqR (sqR (sqR c52))
noncomputable def o87:Array Oper:=rgO (sqL c87)
noncomputable def o52:Array Oper:=rgO (sqL (sqR (sqR c52)))
theorem qob:Tryz.f87.body=some (.seq (.region 0 o87 false) (sqR c87)):=by kernel_rfl
theorem c52_eq:Tryz.f52.body=some (.seq p52a (.seq p52b (.seq (.region 4 o52 false) p52d))):=by kernel_rfl
def fval (er:Int):Value:=.iface 159 (.agg #[.int .i64 er])
def ev1A:A:=qb (qr 1 (qc (A.reg (qn 1 RA.done)) (qr 3 (qc (qr 2 (A.drw (dp [0,1,2] (DA.eff 3 (DA.eff 4 DA.done))))) ql))))
def ev1d (er:Int)(b0 b1:Nat)(K:World->Prop)(w:World):Prop :=
 let w2:World:=w.alloc (Obj.cells #[(Value.int .i64 (0:Int))] 159)
 wrOk w2 (Addr.mk w.heap.size 0 none) /\ 
 (let w3:World:=w2.setCell (Addr.mk w.heap.size 0 none) (Value.int .i64 er)
 let w4:World:=w3.drew
 ∃ S5:World->Prop,S5 w4/\∃ x6:Int,(∀ w':World,S5 w'->w'.cell? (Addr.mk w.heap.size 0 none)=some (Value.int .i64 x6))/\wrOk w4 (Addr.mk b0 0 none) /\ 
 (let w7:World:=w4.setCell (Addr.mk b0 0 none) (Value.int .i64 (0:Int))
 wrOk w7 ((Addr.mk b0 0 none).add 1) /\ 
 (let w8:World:=w7.setCell ((Addr.mk b0 0 none).add 1) (Value.int .i64 (0:Int))
 S5 w8/\wrOk w8 (Addr.mk b1 0 none) /\ 
 (let w9:World:=w8.setCell (Addr.mk b1 0 none) (Value.int .i64 x6)
 K w9))))
def endQ (K:World->Prop):Qt
 | .normal,_,_,w=>K w
 | _,_,_,_=>False
theorem ev1_e (er:Int)(b0 b1:Nat)(K:World->Prop)(w:World):ev1d er b0 b1 K w=W Tryz.prog [] 14 ev1A (sqR c87) [] (endQ K) [] ((5,fval er) :: q1d [.pointer (some ⟨b0,0,none⟩),.pointer (some ⟨b1,0,none⟩)]) w:=by kernel_rfl
theorem ev1_n (b0 b1:Nat)(K:World->Prop)(w:World):K w=W Tryz.prog [] 14 ev1A (sqR c87) [] (endQ K) [] ((5,.nilIface) :: q1d [.pointer (some ⟨b0,0,none⟩),.pointer (some ⟨b1,0,none⟩)]) w:=by kernel_rfl
theorem ev1_o (K:World->Prop):obs Tryz.prog [] 14 ev1A (sqR c87) (fun _=>endQ K)=[]:=by kernel_rfl
theorem qn8 {er:Int}{b0 b1:Nat}{x y z:Value}{w:World}{K:World->Prop}(r0:Row w b0 [x,y])(r1:Row w b1 [z])(hne:b0≠b1)
  (hK:∀ w',Fr (fun b=>b=b0\/b=b1) w w'->Row w' b0 [.int .i64 0,.int .i64 0]->Row w' b1 [.int .i64 er]->K w'):ev1d er b0 b1 K w:=by
 unfold ev1d
 have h0:=r0.lt
 have h1:=r1.lt
 intro w2
 have m:Mem w w2 [(w.heap.size,[.int .i64 0])]:=Mem.nil.allocL (cs:=[.int .i64 0])
 clear_value w2
 refine⟨m.wr 0,?_⟩
 intro w3
 have m:=m.set (i:=0) (v:=.int .i64 er) 0
 intro w4
 have m:Mem w w4 [(w.heap.size,[.int .i64 er])]:=m.drew
 clear_value w4 w3
 have r0:=m.1.row r0 fun h=>h
 have r1:=m.1.row r1 fun h=>h
 refine⟨fun u=>Row u w.heap.size [.int .i64 er],m.row 0,er,fun u h=>h.at,r0.wr (by simp),?_⟩
 simp -zeta only[q01]
 intro w7
 have r0:=r0.set 0 (.int .i64 0)
 have f7:Fr (fun b=>b=b0) w4 w7:=Fr.set rfl
 refine⟨r0.wr (by simp),?_⟩
 intro w8
 have r0:=r0.set 1 (.int .i64 0)
 have f8:Fr (fun b=>b=b0) w4 w8:=f7.trans (Fr.set (F:=fun b=>b=b0) rfl) fun _ h _=>h
 have r1:=f8.row r1 fun h=>hne h.symm
 refine⟨f8.row (m.row 0) fun h=>by omega,r1.wr (by simp),?_⟩
 intro w9
 have r1:=r1.set 0 (.int .i64 er)
 have f9:Fr (fun b=>b=b1) w8 w9:=Fr.set rfl
 have r0:=f9.row r0 hne
 exact hK w9 ((m.1.f0.trans (f8.mono (G:=fun b=>b=b0\/b=b1) fun _ h=>.inl h) fun _ h _=>h).trans (f9.mono (G:=fun b=>b=b0\/b=b1) fun _ h=>.inr h) fun _ h _=>h) r0 r1
theorem o87_at:∃ o,o87[0]?=some o/\o87.size=1/\o.guard=none/\o.dst=some 5/\o.op=.call ⟨.builtin .recover,#[],#[]⟩:=⟨(o87[0]?).getD default,by kernel_rfl,by kernel_rfl,by kernel_rfl,by kernel_rfl,by kernel_rfl⟩
theorem qk6 {Q:Exit->Act->List Frame->World->Prop}{K:World->Prop}{b0 b1:Nat}{cs cs':List Frame}{w:World}{v:Value}(hv:(recoverD cs=some (v,cs'))\/(recoverD cs=none/\v=.nilIface/\cs'=cs))
  (h:W Tryz.prog [] 14 ev1A (sqR c87) [] (endQ K) [] ((5,v) :: q1d [.pointer (some ⟨b0,0,none⟩),.pointer (some ⟨b1,0,none⟩)]) w)
  (hQ:∀ a w',a.defers=[]->K w'->Q .normal a cs' w') {a:Act} (ha:Agr 14 [] (q1d [.pointer (some ⟨b0,0,none⟩),.pointer (some ⟨b1,0,none⟩)]) a) :
  (Code.seq (.region 0 o87 false) (sqR c87)).wpSIn Fence.wide 0 Tryz.prog Q a cs w:=by
 obtain⟨o,ho,hs,hg,hd,hop⟩:=o87_at
 refine wpSIn_seq (wpSIn_region ?_)
 have e:Jq o87.size=[0]:=by rw[hs]; rfl
 rw[e]
 simp only[wpOpsSIn,ho]
 refine⟨fun _ _=>trivial,?_⟩
 rw[if_pos (q25 hg _)]
 have hr:(execOp a.eval o).run Tryz.prog w=.ok .recover w:=by simp[execOp,hop,resolve,invoke,builtin]
 rw[hr]
 have fin:∀ cs'',cs''=cs'->Exit.thenS ((sqR c87).wpSIn Fence.wide 0 Tryz.prog Q) Q .normal (a.put o.dst v) cs'' w:=by
  rintro _ rfl
  refine wpSIn_of_wpIn rfl ?_
  have ha':Agr 14 [] ((5,v) :: q1d [.pointer (some ⟨b0,0,none⟩),.pointer (some ⟨b1,0,none⟩)]) (a.put o.dst v):=by
   rw[hd]; exact ha.put (by decide) v
  refine wpIn_mono (sound (Pn:=fun _ _=>False) (B:=[]) (Z:=fun D=>D=[]) (r:=none) (m:=0) progMixed (q4t.up (Γ:=[]) trivial rfl) ev1A (sqR c87) (fun _=>endQ K) (.inr rfl) (by rw[ev1_o]; intro o ho; cases ho) [] [] _ _ w rfl ha' h) fun e a' w' hq=>?_
  cases e with
  | normal =>
   obtain⟨D,σ',rfl,hA,hk⟩:=hq
   exact hQ a' w' hA.2.1 hk
  | panic c=>exact hq.1.elim
  | outgrown=>exact hq.elim
  | ret=>obtain⟨_,_,_,_,hk⟩:=hq; exact hk.elim
  | exit id=>obtain⟨_,_,_,_,hk⟩:=hq; exact hk.elim
  | goto l=>obtain⟨_,_,_,_,hk⟩:=hq; exact hk.elim
 rcases hv with hv | ⟨hv,rfl,rfl⟩
 ·rw[hv]
  exact fin _ rfl
 ·rw[hv]
  exact fin _ rfl
theorem res87 (tmps:Array Value)(w:World):(results Tryz.f87 tmps).run Tryz.prog w=.ok (.tuple #[]) w:=by
 simp[results]
theorem qk7 {b0 b1:Nat}{w:World}{R:Ending->FrameMode->World->Prop}(hR:R (.returned (.tuple #[])) .returning w):CallsDIn Fence.wide 0 Tryz.prog 87 #[.pointer (some ⟨b0,0,none⟩),.pointer (some ⟨b1,0,none⟩)] .returning w R:=by
 refine callsDIn_of_wpSIn Tryz.func87 qob trivial fun c₀ cs hc=>?_
 refine qk6 (K:=fun w'=>w'=w) (v:=.nilIface) (cs':=c₀ :: cs) (.inr ⟨by simp[recoverD,hc],rfl,rfl⟩) (by rw[← ev1_n]) (fun a w' hd hw=>?_) (q3r (vs:=[.pointer (some ⟨b0,0,none⟩),.pointer (some ⟨b1,0,none⟩)]) (m:=14) (by simp))
 subst hw
 exact⟨hd,.returning,by rw[← hc],_,res87 _ _,hR⟩
theorem qeu {er:Int}{b0 b1:Nat}{x y z:Value}{w:World}{R:Ending->FrameMode->World->Prop}(r0:Row w b0 [x,y])(r1:Row w b1 [z])(hne:b0≠b1)
  (hR:∀ w',Fr (fun b=>b=b0\/b=b1) w w'->Row w' b0 [.int .i64 0,.int .i64 0]->Row w' b1 [.int .i64 er]->R (.returned (.tuple #[])) (.panicking [{ v:=fval er,recovered:=true }]) w') :
  CallsDIn Fence.wide 0 Tryz.prog 87 #[.pointer (some ⟨b0,0,none⟩),.pointer (some ⟨b1,0,none⟩)] (.panicking (fail er)) w R:=by
 refine callsDIn_of_wpSIn Tryz.func87 qob trivial fun c₀ cs hc=>?_
 refine qk6 (K:=fun w'=>R (.returned (.tuple #[])) (.panicking [{ v:=fval er,recovered:=true }]) w') (v:=fval er) (cs':={ c₀ with mode:=.panicking [{ v:=fval er,recovered:=true }] } :: cs) (.inl (by simp[recoverD,hc,fail,fval])) (by
   rw[← ev1_e]
   exact qn8 r0 r1 hne hR) (fun a w' hd hw=>?_) (q3r (vs:=[.pointer (some ⟨b0,0,none⟩),.pointer (some ⟨b1,0,none⟩)]) (m:=14) (by simp))
 exact⟨hd,_,rfl,_,res87 _ _,hw⟩
end Go.Proofs.YtipjnbbfnlfmjaaGreatDoor
set_option maxRecDepth 20000
namespace Go.Proofs.YtipjnbbfnlfmjaaGreatDoor
open Go Pw Dp
def atQ (N:St->World->Prop):Qt
  | .normal,_,σ,w=>N σ w
  | _,_,_,_=>False
def rtQ (M N:St->World->Prop):Qt
  | .ret,_,σ,w=>M σ w
  | .normal,_,σ,w=>N σ w
  | _,_,_,_=>False
theorem hat_at {n:Nat}{B:List Deferred}{Pn:List PanicEntry->World->Prop}{N:St->World->Prop}{e:Exit}{a:Act}{w:World}(h:hat n B (fun D=>D=[]) Pn (atQ N) e a w) :
    (e=.normal/\∃ σ,Agr n B σ a/\N σ w)\/∃ c,e=.panic c/\Pn c w/\a.defers=B:=by
  cases e with
  | normal=>obtain⟨D,σ,rfl,hA,hN⟩:=h; exact .inl ⟨rfl,σ,hA,hN⟩
  | panic c=>obtain⟨hp,D,rfl,hd⟩:=h; exact .inr ⟨c,rfl,hp,hd⟩
  | outgrown=>exact h.elim
  | ret=>obtain⟨_,_,_,_,hk⟩:=h; exact hk.elim
  | exit id=>obtain⟨_,_,_,_,hk⟩:=h; exact hk.elim
  | goto l=>obtain⟨_,_,_,_,hk⟩:=h; exact hk.elim
theorem hat_rt {n:Nat}{B:List Deferred}{Pn:List PanicEntry->World->Prop}{M N:St->World->Prop}{e:Exit}{a:Act}{w:World}(h:hat n B (fun D=>D=[]) Pn (rtQ M N) e a w) :
    (e=.ret/\∃ σ,Agr n B σ a/\M σ w)\/(e=.normal/\∃ σ,Agr n B σ a/\N σ w)\/∃ c,e=.panic c/\Pn c w/\a.defers=B:=by
  cases e with
  | normal=>obtain⟨D,σ,rfl,hA,hN⟩:=h; exact .inr (.inl ⟨rfl,σ,hA,hN⟩)
  | panic c=>obtain⟨hp,D,rfl,hd⟩:=h; exact .inr (.inr ⟨c,rfl,hp,hd⟩)
  | outgrown=>exact h.elim
  | ret=>obtain⟨D,σ,rfl,hA,hN⟩:=h; exact .inl ⟨rfl,σ,hA,hN⟩
  | exit id=>obtain⟨_,_,_,_,hk⟩:=h; exact hk.elim
  | goto l=>obtain⟨_,_,_,_,hk⟩:=h; exact hk.elim
section
variable {w w' w0:World}{s:Sl}
theorem piece {n:Nat}{B:List Deferred}{Γ:Env}{Pn:List PanicEntry->World->Prop}{x:A}{c:Code}{Q:Qt}{σ:St}{a:Act}{R:Exit->Act->World->Prop}(hΓ:EnvP Tryz.prog Pn Γ)(hx:noRf x=true)(hob:obs Tryz.prog Γ n x c (fun _=>Q)=[])
    (ha:Agr n B σ a) (h:W Tryz.prog Γ n x c [] Q [] σ w) (hk:∀ e a' w',hat n B (fun D=>D=[]) Pn Q e a' w'->R e a' w'):c.wpIn (fen none) 0 Tryz.prog R a w :=
  wpIn_mono (sound (r:=none) (m:=0) (B:=B) (Z:=fun D=>D=[]) progMixed hΓ x c (fun _=>Q) (.inr hx) (by rw[hob]; intro o ho; cases ho) [] [] σ a w rfl ha h) hk
abbrev ptr (b:Nat):Value:=.pointer (some ⟨b,0,none⟩)
def xagg (c:XC):Value:=.agg #[.string c.op,.int .i64 c.n,.int .i64 c.d,.string c.nm,.slice c.a.p c.a.l c.a.c]
abbrev st52 (c:XC)(s:Sl)(b0 b1 b2:Nat):St:=[(5,ptr b2),(4,ptr b1),(2,ptr b0),(0,xagg c),(1,.slice s.p s.l s.c)]
theorem p52a_e (c:XC)(s:Sl)(N:St->World->Prop)(w:World) :
    (let w1:World:=w.alloc (Obj.cells (encX c).toArray 38)
     let w2:World:=w1.alloc (Obj.cells #[(Value.int .i64 (0:Int)),(Value.int .i64 (0:Int))] 35)
     let w3:World:=w2.alloc (Obj.cells #[(Value.int .i64 (0:Int))] 61)
     N (st52 c s w.heap.size w1.heap.size w2.heap.size) w3)=W Tryz.prog [] 17 (A.reg (qn 3 RA.done)) p52a [] (atQ N) [] (q1d [xagg c,.slice s.p s.l s.c]) w:=by kernel_rfl
def ev2A:A:=(qr 3 (qr 2 (qc (qr 4 ql) ql)))
def ev2d (b0 b1 b2:Nat)(M:World->Prop)(N:World->Prop)(w:World):Prop :=
  ∃ x4:ByteArray,w.cell? (Addr.mk b0 0 none)=some (Value.string x4)/\∃ x5:Int,w.cell? ((Addr.mk b0 0 none).add 1)=some (Value.int .i64 x5)/\∃ x6:Int,w.cell? ((Addr.mk b0 0 none).add 2)=some (Value.int .i64 x6)/\∃ x7:ByteArray,w.cell? ((Addr.mk b0 0 none).add 3)=some (Value.string x7)/\∃ x8:Sl,w.cell? ((Addr.mk b0 0 none).add 4)=some (Value.slice x8.p x8.l x8.c)/\z3f_sh x4 x5 x6 x7 x8 (fun (r10:Int) (w9:World)=>cnd (r10 != (0:Int))
    (wrOk w9 (Addr.mk b1 0 none) /\ 
  (let w11:World:=w9.setCell (Addr.mk b1 0 none) (Value.int .i64 (0:Int))
  wrOk w11 ((Addr.mk b1 0 none).add 1) /\ 
  (let w12:World:=w11.setCell ((Addr.mk b1 0 none).add 1) (Value.int .i64 (0:Int))
  wrOk w12 (Addr.mk b2 0 none) /\ 
  (let w13:World:=w12.setCell (Addr.mk b2 0 none) (Value.int .i64 r10)
  M w13))))
    (N w9)) w
def qn9 (ts:List Nat)(vs:List Value)(M:World->Prop):St->World->Prop:=fun σ w=>match getAll σ ts with
  | some us=>us=vs/\M w
  | none=>False
theorem qd3 {n:Nat}{B:List Deferred}{ts:List Nat}{vs:List Value}{M:World->Prop}{σ:St}{a:Act}(ha:Agr n B σ a)(h:qn9 ts vs M σ w):Agr n B (zipS ts vs) a/\M w:=by
  unfold qn9 at h
  split at h
  . rename_i us hus
    obtain⟨rfl,h⟩:=h
    exact⟨ha.getAll hus,h⟩
  . exact h.elim
theorem p52b_e (c:XC)(s:Sl)(b0 b1 b2:Nat)(M N:World->Prop)(w:World) :
    ev2d b0 b1 b2 (fun w=>[ptr b1,ptr b2]=[ptr b1,ptr b2]/\M w) (fun w=>[.slice s.p s.l s.c,ptr b0,ptr b1,ptr b2]=[.slice s.p s.l s.c,ptr b0,ptr b1,ptr b2]/\N w) w=W Tryz.prog [(86,z3f_S)] 17 ev2A p52b [] (rtQ (qn9 [4,5] [ptr b1,ptr b2] M) (qn9 [1,2,4,5] [.slice s.p s.l s.c,ptr b0,ptr b1,ptr b2] N)) [] (st52 c s b0 b1 b2) w:=by kernel_rfl
theorem o52_at:∃ o p,o52[0]?=some o/\o52[1]?=some p/\o52.size=2/\o.guard=none/\o.dst=some 13/\o.op=.makeFunc (.func 87) #[] #[.tmp 4,.tmp 5]/\p.guard=none/\p.dst=none/\p.op=.defer ⟨.value (.tmp 13),#[],#[]⟩ :=
  ⟨(o52[0]?).getD default,(o52[1]?).getD default,by kernel_rfl,by kernel_rfl,by kernel_rfl,by kernel_rfl,by kernel_rfl,by kernel_rfl,by kernel_rfl,by kernel_rfl,by kernel_rfl⟩
theorem mf_e (sp:Option Addr)(sl sc:Nat)(b0 b1 b2:Nat)(dst:Option Nat)(ty:TypeId)(pos:String)(af:Array Edge)(gd:Option (Nat × Bool))(K:VW)(w:World) :
    K (.func (.func 87) #[] #[ptr b1,ptr b2]) w=opW Tryz.prog [] (zipS [1,2,4,5] [.slice sp sl sc,ptr b0,ptr b1,ptr b2]) { dst:=dst,op:=.makeFunc (.func 87) #[] #[.tmp 4,.tmp 5],type:=ty,pos:=pos,after:=af,guard:=gd } w K:=by kernel_rfl
def qd4 (b1 b2:Nat):Deferred:={ target:=.fn (.func 87) #[ptr b1,ptr b2],args:=#[] }
noncomputable def o5:Array Oper:=rgO (sqL p52d)
theorem qpo:p52d=.seq (.region 5 o5 false) .ret:=by kernel_rfl
theorem qpp:o5.size=5:=by kernel_rfl
theorem o5_sel:q7m o5=true:=by kernel_rfl
def e5d (b0:Nat)(M:St->World->Prop)(σ:St)(w:World):Prop :=
  ∃ x17:ByteArray,w.cell? (Addr.mk b0 0 none)=some (Value.string x17)/\∃ x18:Int,w.cell? ((Addr.mk b0 0 none).add 1)=some (Value.int .i64 x18)/\∃ x19:Int,w.cell? ((Addr.mk b0 0 none).add 2)=some (Value.int .i64 x19)/\∃ x20:ByteArray,w.cell? ((Addr.mk b0 0 none).add 3)=some (Value.string x20)/\∃ x21:Sl,w.cell? ((Addr.mk b0 0 none).add 4)=some (Value.slice x21.p x21.l x21.c) /\
    M ((15,get σ 1 |>.getD undef) :: (14,xagg ⟨x17,x18,x19,x20,x21⟩) :: σ) w
theorem e5_e (sp:Option Addr)(sl sc:Nat)(b0 b1 b2:Nat)(M:St->World->Prop)(w:World) :
    e5d b0 M (zipS [1,2,4,5] [.slice sp sl sc,ptr b0,ptr b1,ptr b2]) w=rgW Tryz.prog [] 17 o5 (qn 2 RA.done) (o5.toList.take 2) M (zipS [1,2,4,5] [.slice sp sl sc,ptr b0,ptr b1,ptr b2]) w:=by kernel_rfl
theorem e5c_e (n d:Int)(X v15:Value)(sp:Option Addr)(sl sc:Nat)(b0 b1 b2:Nat)(M:St->World->Prop)(w:World) :
    (wrOk w (Addr.mk b1 0 none) /\ 
  (let w24:World:=w.setCell (Addr.mk b1 0 none) (Value.int .i64 n)
  wrOk w24 ((Addr.mk b1 0 none).add 1) /\ 
  (let w25:World:=w24.setCell ((Addr.mk b1 0 none).add 1) (Value.int .i64 d)
  wrOk w25 (Addr.mk b2 0 none) /\ 
  (let w26:World:=w25.setCell (Addr.mk b2 0 none) (Value.int .i64 (0:Int))
  M ((16,.agg #[.int .i64 n,.int .i64 d]) :: (15,v15) :: (14,X) :: zipS [1,2,4,5] [.slice sp sl sc,ptr b0,ptr b1,ptr b2]) w26))))=rgW Tryz.prog [] 17 o5 (qn 2 RA.done) (o5.toList.drop 3) M ((16,.agg #[.int .i64 n,.int .i64 d]) :: (15,v15) :: (14,X) :: zipS [1,2,4,5] [.slice sp sl sc,ptr b0,ptr b1,ptr b2]) w:=by kernel_rfl
theorem o5_2:∃ o,o5[2]?=some o/\o.guard=none/\o.dst=some 16/\∃ ats,o.op=.call ⟨.value (.func 88),#[.tmp 14,.tmp 15],ats⟩:=⟨(o5[2]?).getD default,by kernel_rfl,by kernel_rfl,by kernel_rfl,#[38,52],by kernel_rfl⟩
theorem q6x {B:List Deferred}{σ:St}{a:Act}{b1 b2:Nat}(ha:Agr 17 B σ a)(h4:get σ 4=some (ptr b1))(h5:get σ 5=some (ptr b2)):Agr 17 B (zipS [4,5] [ptr b1,ptr b2]) a:=ha.getAll (by unfold getAll; rw[h4]; unfold getAll; rw[h5]; rfl)
theorem p52a_o (N:St->World->Prop):obs Tryz.prog [] 17 (A.reg (qn 3 RA.done)) p52a (fun _=>atQ N)=[]:=by kernel_rfl
theorem p52b_o (Q:Qt):obs Tryz.prog [(86,z3f_S)] 17 ev2A p52b (fun _=>Q)=[]:=by kernel_rfl
theorem qpq (b1 b2:Nat)(Kv:VW)(w:World):(∃ x14:Int,w.cell? (Addr.mk b1 0 none)=some (Value.int .i64 x14)/\∃ x15:Int,w.cell? ((Addr.mk b1 0 none).add 1)=some (Value.int .i64 x15)/\∃ x16:Int,w.cell? (Addr.mk b2 0 none)=some (Value.int .i64 x16)/\Kv (.tuple #[.agg #[.int .i64 x14,.int .i64 x15],.int .i64 x16]) w) =
    resW Tryz.prog (zipS [4,5] [ptr b1,ptr b2]) w Tryz.f52.results.toList (fun vs=>Kv (oneV vs) w):=by kernel_rfl
theorem qpr {n d er:Int}{b1 b2:Nat}{B:List Deferred}{a:Act}(ha:Agr 17 B (zipS [4,5] [ptr b1,ptr b2]) a)(r1:Row w b1 [.int .i64 n,.int .i64 d])(r2:Row w b2 [.int .i64 er]) :
    (results Tryz.f52 a.tmps).run Tryz.prog w=.ok (.tuple #[.agg #[.int .i64 n,.int .i64 d],.int .i64 er]) w:=by
  obtain⟨v,h1,h2⟩:=q6c (P:=Tryz.prog) (fn:=Tryz.f52) (w:=w) (K:=fun v _=>v=.tuple #[.agg #[.int .i64 n,.int .i64 d],.int .i64 er]) ha (Eq.mp (qpq b1 b2 (fun v _=>v=.tuple #[.agg #[.int .i64 n,.int .i64 d],.int .i64 er]) w)
    ⟨_,r1.at,_,by rw[q01]; exact r1.at (i:=1) rfl,_,r2.at,rfl⟩)
  rw[h1,h2]
theorem qk8 {e:Fm}{c:XC}{vals:List Vl}{K:Int->Int->Int->World->Prop}(hx:XP w e c)(hv:Vw 2 encV w s vals)(hl:vals.length<2^62)(hi:∀ v∈vals,I64 v.2)
    (hK:∀ w',Fr F0 w w'->K (e.evE vals).1.1 (e.evE vals).1.2 (e.evE vals).2 w'):z3o_sh c.op c.n c.d c.nm c.a s K w:=by
  refine⟨(callsIn_wide (n:=0)).1 (callsIn_of_wp_marks Tryz.func52 c52_eq trivial ?_)⟩
  have hfin:∀ w',Fr F0 w w'->∃ r0_0:Int,∃ r0_1:Int,∃ r1:Int,(Ending.returned (.tuple #[.agg #[.int .i64 (e.evE vals).1.1,.int .i64 (e.evE vals).1.2],.int .i64 (e.evE vals).2]))=.returned (.tuple #[.agg #[.int .i64 r0_0,.int .i64 r0_1],.int .i64 r1])/\K r0_0 r0_1 r1 w':=fun w' f=>⟨_,_,_,rfl,hK w' f⟩
  refine wpIn_seq (piece (n:=17) (B:=[]) (Γ:=[]) (Pn:=fun _ _=>False) (q4t.up trivial rfl) rfl (p52a_o _) (q3r (vs:=[xagg c,.slice s.p s.l s.c]) (m:=17) (by simp)) (by
    rw[← p52a_e c s fun σ w3=>∃ b0 b1 b2,b1≠b2/\σ=st52 c s b0 b1 b2/\Mem w w3 [(b2,[.int .i64 0]),(b1,[.int .i64 0,.int .i64 0]),(b0,encX c)]]
    intro w1 w2 w3
    have m:Mem w w3 [(w2.heap.size,[.int .i64 0]),(w1.heap.size,[.int .i64 0,.int .i64 0]),(w.heap.size,encX c)]:=((Mem.nil.allocL (cs:=encX c)).allocL (cs:=[.int .i64 0,.int .i64 0])).allocL (cs:=[.int .i64 0])
    have hne:w1.heap.size≠w2.heap.size:=by
      have:w2.heap.size=w1.heap.size+1:=World.size_alloc _ _
      omega
    exact⟨_,_,_,hne,rfl,m⟩) fun ex a1 w3 hq=>?_)
  rcases hat_at hq with⟨rfl,σ,hA,b0,b1,b2,hne,rfl,m⟩ | ⟨_,_,hf,_⟩
  case inr=>exact hf.elim
  have hnw:∀ b∈[b2,b1,b0],w.heap.size<=b:=fun b hb=>by
    have:=m.2.2.2
    simp only[Jd,J8,or_false] at hb
    rcases hb with rfl | rfl | rfl
    . exact this _ (J2 ..)
    . exact this _ (J7 _ (J2 ..))
    . exact this _ (J7 _ (J7 _ (J2 ..)))
  have h1n:=hnw b1 (by simp)
  have h2n:=hnw b2 (by simp)
  refine wpIn_seq (piece (n:=17) (B:=[]) (Γ:=[(86,z3f_S)]) (Pn:=fun _ _=>False) (q4t.up ⟨.inl z3f_ok,trivial⟩ rfl) rfl (p52b_o _) hA (by
    rw[← p52b_e c s b0 b1 b2 (fun u=>e.wrong≠0/\Fr F0 w u/\Row u b1 [.int .i64 0,.int .i64 0]/\Row u b2 [.int .i64 e.wrong]) (fun u=>e.wrong=0/\Mem w u [(b2,[.int .i64 0]),(b1,[.int .i64 0,.int .i64 0]),(b0,encX c)])]
    unfold ev2d
    simp -zeta only[q01]
    refine⟨_,m.ld 2,_,m.ld 2,_,m.ld 2,_,m.ld 2,_,m.ld 2,?_⟩
    refine qhq (hx.fr m.1) fun w9 f9=>?_
    have m:=m.fr f9
    refine q1s.2 ⟨fun hw=>⟨m.wr 1,?_⟩,fun hw=>⟨trivial,hw,m⟩⟩
    intro w11
    have m:=m.set (i:=0) (v:=.int .i64 0) 1
    refine⟨m.wr 1,?_⟩
    intro w12
    have m:=m.set (i:=1) (v:=.int .i64 0) 1
    refine⟨m.wr 0,?_⟩
    intro w13
    have m:=m.set (i:=0) (v:=.int .i64 e.wrong) 0
    exact⟨trivial,hw,m.1,m.row 1,m.row 0⟩) fun ex a2 w9 hq=>?_)
  rcases hat_rt hq with⟨rfl,σ,hA,hM⟩ | ⟨rfl,σ,hA,hN⟩ | ⟨_,_,hf,_⟩
  case inr.inr=>exact hf.elim
  . obtain⟨hA',hw,f,r1,r2⟩:=qd3 hA hM
    show LeavesInM _ _ _ _ _ _ a2.defers _ _
    rw[hA'.2.1]
    refine⟨_,qpr hA' r1 r2,?_⟩
    have:=hfin w9 f
    unfold Fm.evE at this
    rw[if_neg hw] at this
    exact this
  obtain⟨hA',hw,m⟩:=qd3 hA hN
  have eE:e.evE vals=(match e.ev vals with
    | .ok x=>(x,0)
    | .error c=>((0,0),c)):=by unfold Fm.evE; rw[if_pos hw]; rfl
  obtain⟨o,p,ho,hp,hs,hg,hd,hop,hg',hd',hop'⟩:=o52_at
  refine wpIn_seq (wpIn_region ?_)
  have el:Jq o52.size=[0,1]:=by rw[hs]; rfl
  rw[el]
  simp only[wpOpsIn,ho,hp]
  rw[if_pos (q25 hg _)]
  refine q66 (by rw[hop]; rfl) (q1c (P:=Tryz.prog) (Γ:=[]) (Pn:=fun _ _=>False) (n:=17) (B:=[]) (q4t.up trivial rfl) hA' (by rw[hop]; rfl) (K:=fun v u=>v=.func (.func 87) #[] #[ptr b1,ptr b2]/\w9=u) ?_ (fun _ _ _ _ h=>h.elim) fun v u hv=>?_)
  . obtain⟨dst,op,ty,pos,af,gd⟩:=o
    simp only at hop
    subst hop
    rw[← mf_e]
    exact⟨rfl,rfl⟩
  obtain⟨rfl,rfl⟩:=hv
  rw[hd]
  have hA3:=hA'.put (d:=13) (by decide) (.func (.func 87) #[] #[ptr b1,ptr b2])
  rw[if_pos (q25 hg' _)]
  refine⟨fun _ _=>trivial,?_⟩
  have hr:(Oper.semAt Fence.wide.round (a2.put (some 13) (.func (.func 87) #[] #[ptr b1,ptr b2])).eval p).run Tryz.prog w9=.ok (.defer (qd4 b1 b2)) w9:=by
    have e13:(a2.put (some 13) (.func (.func 87) #[] #[ptr b1,ptr b2])).eval (.tmp 13)=.func (.func 87) #[] #[ptr b1,ptr b2]:=hA3.ev (x:=.tmp 13) rfl
    show(execOp _ p).run Tryz.prog w9=_
    simp[execOp,hop',resolve,e13,Deferred.ofValue,qd4]
  rw[hr,Oper.uponIn_defer,hd']
  have hA4:Agr 17 [qd4 b1 b2] (zipS [1,2,4,5] [.slice s.p s.l s.c,ptr b0,ptr b1,ptr b2]) (({ a2.put (some 13) (.func (.func 87) #[] #[ptr b1,ptr b2]) with defers:=qd4 b1 b2 :: (a2.put (some 13) (.func (.func 87) #[] #[ptr b1,ptr b2])).defers }:Act).put none undef):=by
    refine⟨hA3.1,?_,fun t v ht=>?_⟩
    . show qd4 b1 b2 :: _=_
      rw[hA3.2.1]
    . refine hA3.2.2 t v ?_
      rw[q4a]
      by_cases h13:13=t
      . subst h13; cases ht
      . rw[if_neg h13]; exact ht
  have hinv:∀ u:World,(invoke (qd4 b1 b2).target (qd4 b1 b2).args).run Tryz.prog u=.ok (.enter 87 #[ptr b1,ptr b2]) u:=fun u=>by
    have:=Tryz.call87 #[ptr b1,ptr b2] u
    simp [invoke,qd4,this]
  rw[qpo]
  refine wpIn_seq (wpIn_region ?_)
  have e5:Jq o5.size=Jr 0 (o5.toList.take 2).length++[2,3,4]:=by
    have:o5.toList.length=5:=by rw[Array.length_toList]; exact qpp
    rw[qpp,J4,this]; rfl
  have hsel:∀ o∈o5.toList,q3o o.op=false:=fun o ho=>q07 o5_sel (Array.mem_toList_iff.1 ho)
  have hat5:∀ j,o5.toList[j]?=o5[j]?:=fun j=>Array.getElem?_toList
  rw[e5]
  refine qab (r₀:=none) (m:=0) (P:=Tryz.prog) (Γ:=[]) (Pn:=fun _ _=>False) (q4t.up trivial rfl) (fun _ _ _ _ h=>h.elim) (K:=fun σ u=>σ=(15,.slice s.p s.l s.c) :: (14,xagg c) :: zipS [1,2,4,5] [.slice s.p s.l s.c,ptr b0,ptr b1,ptr b2]/\w9=u) (fun σ a u hA hk=>?_) (qn 2 RA.done) (o5.toList.take 2) 0 _ _ _ (fun o ho=>hsel o (List.mem_of_mem_take ho)) (fun j hj=>by rw[List.getElem?_take,if_pos (by simp at hj; omega),hat5,Nat.zero_add]) hA4 (by
    rw[← e5_e]
    unfold e5d
    simp -zeta only[q01]
    exact⟨_,m.ld 2,_,m.ld 2,_,m.ld 2,_,m.ld 2,_,m.ld 2,rfl,trivial⟩)
  obtain⟨rfl,hu⟩:=hk
  subst hu
  obtain⟨q,hq,hg2,hd2,ats,hop2⟩:=o5_2
  show wpOpsIn _ _ _ _ _ (2 :: [3,4]) _ _
  rw[wpOpsIn]
  simp only[hq]
  rw[if_pos (q25 hg2 _)]
  refine⟨fun _ _=>trivial,?_⟩
  have e14:a.eval (.tmp 14)=xagg c:=hA.ev (x:=.tmp 14) rfl
  have e15:a.eval (.tmp 15)=.slice s.p s.l s.c:=hA.ev (x:=.tmp 15) rfl
  have hr2:(Oper.semAt (fen none).round a.eval q).run Tryz.prog w9=.ok (.enter 88 #[xagg c,.slice s.p s.l s.c]) w9:=by
    show(execOp _ q).run Tryz.prog w9=_
    have:=Tryz.call88 #[xagg c,.slice s.p s.l s.c] w9
    have hf:a.eval (.func 88)=.func (.func 88) #[] #[]:=rfl
    simp [execOp,hop2,resolve,e14,e15,hf,Deferred.ofValue,invoke,this]
  rw[hr2,Oper.uponIn_enter]
  refine⟨fun h=>by simp[fen,Fence.wide] at h,q9a ?_⟩
  have hcall:=(qhr (w:=w9) (Pn:=fun ch u=>∃ er,ch=fail er/\e.ev vals=.error er/\Fr F0 w9 u) (K:=fun n d u=>e.ev vals=.ok (n,d)/\Fr F0 w9 u) hl hi e (hx.fr m.1) (hv.fr m.1) (fun x w' hev f=>⟨hev,f⟩) fun er w' hev f=>⟨er,rfl,hev,f⟩).out
  refine hcall.mono fun ex u he=>?_
  rcases he with⟨n,d,rfl,hev,f⟩ | ⟨ch,rfl,er,rfl,hev,f⟩
  . rw[hev] at eE
    rw[hd2]
    have hA:=hA.put (d:=16) (by decide) (.agg #[.int .i64 n,.int .i64 d])
    have m:=m.fr f
    have e34:[3,4]=Jr 3 (o5.toList.drop 3).length++[]:=by
      have:o5.toList.length=5:=by rw[Array.length_toList]; exact qpp
      rw[List.length_drop,this]; rfl
    show wpOpsIn _ _ _ _ _ [3,4] _ _
    rw[e34]
    refine qab (r₀:=none) (m:=0) (P:=Tryz.prog) (Γ:=[]) (Pn:=fun _ _=>False) (q4t.up trivial rfl) (fun _ _ _ _ h=>h.elim) (K:=fun σ v=>get σ 4=some (ptr b1)/\get σ 5=some (ptr b2)/\Fr F0 w v/\Row v b1 [.int .i64 n,.int .i64 d]/\Row v b2 [.int .i64 0]) (fun σ a' v hA' hk=>?_) (qn 2 RA.done) (o5.toList.drop 3) 3 _ _ _ (fun o ho=>hsel o (List.mem_of_mem_drop ho)) (fun j hj=>by rw[List.getElem?_drop,hat5]) hA (by
      rw[← e5c_e]
      simp -zeta only[q01]
      refine⟨m.wr 1,?_⟩
      intro w24
      have m:=m.set (i:=0) (v:=.int .i64 n) 1
      refine⟨m.wr 1,?_⟩
      intro w25
      have m:=m.set (i:=1) (v:=.int .i64 d) 1
      refine⟨m.wr 0,?_⟩
      intro w26
      have m:=m.set (i:=0) (v:=.int .i64 0) 0
      exact⟨rfl,rfl,m.1,m.row 1,m.row 0⟩)
    obtain⟨g4,g5,f,r1,r2⟩:=hk
    refine wpIn_ret ?_
    show LeavesInM _ _ _ _ _ _ a'.defers _ _
    rw[hA'.2.1]
    refine⟨by simp,.inr ⟨fun h=>by simp[Fence.wide] at h,_,_,_,_,rfl,hinv v,fun _ _=>trivial,?_⟩⟩
    refine qk7 ?_
    show LeavesInM _ _ _ _ _ _ [] (settle .returning) _
    refine⟨_,qpr (q6x hA' g4 g5) r1 r2,?_⟩
    have:=hfin v f
    rw[eE] at this
    exact this
  . rw[hev] at eE
    have m:=m.fr f
    show LeavesInM _ _ _ _ _ _ a.defers _ _
    rw[hA.2.1]
    refine⟨by simp,.inr ⟨fun h=>by simp[Fence.wide] at h,_,_,_,_,rfl,hinv u,fun _ _=>trivial,?_⟩⟩
    refine qeu (m.row 1) (m.row 0) hne fun w' f' r1 r2=>?_
    show LeavesInM _ _ _ _ _ _ [] (settle (.panicking [{ v:=fval er,recovered:=true }])) _
    have:=hfin w' (m.1.trans f' fun b hb hlt=>by rcases hb with rfl | rfl<;>omega)
    rw[eE] at this
    exact⟨_,qpr (q6x hA rfl rfl) r1 r2,this⟩
end
end Go.Proofs.YtipjnbbfnlfmjaaGreatDoor
namespace Pw
open Go
def encE (e:Dp.En):List Value:=[.int .i64 e.b,.int .i64 e.l,.int .i64 e.r,.int .i64 e.p,.slice e.v.p e.v.l e.v.c]
@[simp] theorem qev (e:Dp.En):(encE e).length=5:=rfl
theorem qk9 (e:Dp.En):∀ v∈encE e,okC v=true:=by
 intro v hv
 simp only[encE,Jd,J8,or_false] at hv
 rcases hv with rfl | rfl | rfl | rfl | rfl<;>rfl
theorem qew (a b:Int):(a == b)=decide (a=b):=by rw[Bool.eq_iff_iff]; simp
end Pw
namespace Go.Proofs.YtipjnbbfnlfmjaaGreatDoor
open Go Pw Dp
structure EnOk (w:World)(e:En):Prop where
 v:Vw 2 encV w e.v e.vals
 len:e.vals.length<2^40
 i:∀ v∈e.vals,I64 v.2
 b:I64 e.b
 r:I64 e.r
 p:I64 e.p
section
variable {w w' w0 u:World}{s:Sl}
theorem EnOk.fr {e:En}(h:EnOk w e)(f:Fr F0 w w'):EnOk w' e:=⟨h.v.fr f,h.len,h.i,h.b,h.r,h.p⟩
theorem q8g {vals:List Vl}{n:B}{K:Int->Int->World->Prop}(hv:Vw 2 encV w s vals)(hl:vals.length<2^40)(hK:∀ w',Fr F0 w w'->K ((valF vals n).getD 0) ((valN vals n:Nat):Int) w'):z2r_sh s (ofL n) K w:=by
 have el:=hv.len
 refine⟨?_⟩
 refine⟨⟨fun x m i u=>∃ i':Nat,i=i'/\i'<=vals.length/\Fr F0 w u/\x=(valF (vals.take i') n).getD 0/\m=((valN (vals.take i') n:Nat):Int),fun _ _ i _=>vals.length-i.toNat,⟨0,rfl,by omega,Fr.refl,rfl,rfl⟩,?_⟩⟩
 rintro x m i u ⟨i,rfl,hi,hf,rfl,rfl⟩
 unfold z2r_b0
 refine q00.2 ⟨fun hlt=>?_,fun hge=>?_⟩
 ·have hil:i<vals.length:=by omega
  refine ldV (hv.fr hf) i rfl hil ?_
  intro w4
  have m:Mem u w4 [(u.heap.size,[.string (str []),.int .i64 0])]:=Mem.nil.allocL (cs:=[.string (str []),.int .i64 0])
  clear_value w4
  refine⟨m.wr 0,?_⟩
  intro w5
  have m:=m.set (i:=0) (v:=.string (ofL vals[i].1)) 0
  refine⟨m.wr 0,?_⟩
  intro w6
  have m:Mem u w6 [(u.heap.size,[.string (ofL vals[i].1),.int .i64 vals[i].2])]:=m.set (i:=1) (v:=.int .i64 vals[i].2) 0
  clear_value w6 w5
  refine⟨_,m.ld 0,?_⟩
  dsimp -zeta only; rw[q0h]
  have F:=hf.t m.1
  have tk:vals.take (i+1)=vals.take i++[vals[i]]:=by rw[J5,J0 hil]; rfl
  have cle:valN (vals.take i) n<=i:=by
   have:=List.countP_le_length (p:=fun v=>decide (v.1=n)) (l:=vals.take i)
   simp only[J4] at this
   unfold valN
   omega
  refine q00.2 ⟨fun he=>?_,fun he=>?_⟩
  ·have e1:valN (vals.take (i+1)) n=valN (vals.take i) n+1:=by
    rw[tk]; unfold valN; rw[Jh]; simp[he]
   refine q09.2 ⟨fun h0=>⟨_,m.ld 0,q03,q03,⟨⟨rfl,rfl,rfl,trivial⟩,i+1,by omega,by omega,F,?_,?_⟩,by omega⟩,fun h0=>⟨q03,q03,⟨⟨rfl,rfl,rfl,trivial⟩,i+1,by omega,by omega,F,?_,?_⟩,by omega⟩⟩
   ·have hn:(vals.take i).find? (fun v=>decide (v.1=n))=none:=by
     rw[List.find?_eq_none]
     intro y hy
     have h0':(vals.take i).countP (fun v=>decide (v.1=n))=0:=by unfold valN at h0; omega
     exact List.countP_eq_zero.1 h0' y hy
    unfold valF
    rw[tk,Jb,hn]
    simp[he]
   ·rw[e1]; omega
   ·have hs:∃ y,(vals.take i).find? (fun v=>decide (v.1=n))=some y:=by
     rw[← Option.isSome_iff_exists,List.find?_isSome]
     have h0':0<(vals.take i).countP (fun v=>decide (v.1=n)):=by unfold valN at h0; omega
     exact List.countP_pos_iff.1 h0'
    obtain⟨y,hy⟩:=hs
    unfold valF
    rw[tk,Jb,hy]
    rfl
   ·rw[e1]; omega
  ·refine⟨q03,⟨⟨rfl,rfl,rfl,trivial⟩,i+1,by omega,by omega,F,?_,?_⟩,by omega⟩
   ·unfold valF
    rw[tk,Jb]
    simp[he]
   ·unfold valN
    rw[tk,Jh]
    simp[he]
 ·have hil:i=vals.length:=by omega
  subst hil
  rw[J9]
  exact hK u hf
variable {x:T43}{t:Td}{e:En}{bt be:Nat}{K:Int->World->Prop}
theorem ldRq {l:List Rq}{i:Int}{K:ByteArray->ByteArray->Int->Prop}(h:Vw 3 encR w s l)(i':Nat)(hi:i=(i':Int))(h1:i'<l.length)(hK:K (ofL l[i'].name) (ofL l[i'].rel) l[i'].val) :
  nz s.p fun a=>(0<=i/\i<(s.l:Nat))/\∃ x:ByteArray,w.cell? (a.add (i.toNat*3))=some (Value.string x)/\∃ y:ByteArray,w.cell? ((a.add (i.toNat*3)).add 1)=some (Value.string y)/\∃ z:Int,w.cell? ((a.add (i.toNat*3)).add 2)=some (Value.int .i64 z)/\K x y z :=
 Vw.go q1j (by decide) h i' hi h1 fun _ hc=>⟨_,hc 0 _ rfl,_,hc 1 _ rfl,_,hc 2 _ rfl,hK⟩
theorem qay (re:Row w be (encE e))(T:TP w x t)(E:EnOk w e)(hF:Fit t)(hK:∀ w',Fr F0 w w'->K (q42 e.vals t.reqs) w'):z3c_l2 ⟨be,0,none⟩ x.f3 (x.f3.l:Int) 0 K w:=by
 have el:=T.reqs.len
 have hl:=hF.reqs
 refine⟨⟨fun i u=>∃ i':Nat,i=i'/\i'<=t.reqs.length/\Fr F0 w u/\q42 e.vals t.reqs=q42 e.vals (t.reqs.drop i'),fun i _=>t.reqs.length-i.toNat,⟨0,rfl,by omega,Fr.refl,rfl⟩,?_⟩⟩
 rintro i u ⟨i,rfl,hi,f,hq⟩
 unfold z3c_b2
 rw[hq] at hK
 refine q00.2 ⟨fun hlt=>?_,fun hge=>?_⟩
 ·have hil:i<t.reqs.length:=by omega
  have ed:t.reqs.drop i=t.reqs[i] :: t.reqs.drop (i+1):=J3 hil
  rw[ed] at hK
  unfold q42 at hK
  refine ldRq (T.reqs.fr f) i rfl hil ?_
  intro w45
  refine q11 rfl Mem.nil fun w46 m=>?_
  clear w45
  have F:=f.t m.1
  have re:=F.row re fun h=>h
  rw[q01]
  refine⟨_,re.at (i:=4) rfl,_,m.ld 0,q8g (E.v.fr F) E.len fun w49 f49=>?_⟩
  have m:=m.fr f49
  have F:=f.t m.1
  have hk:=hK w49 F
  have hle:decide (ofL t.reqs[i].rel=str [60,61])=decide (t.reqs[i].rel=wLe):=q0h _ wLe
  have hge:decide (ofL t.reqs[i].rel=str [62,61])=decide (t.reqs[i].rel=wGe):=q0h _ wGe
  have next:q42 e.vals (t.reqs.drop i)=q42 e.vals (t.reqs.drop (i+1))->inR .i64 ((i:Int)+1)/\((⟨be,0,none⟩:Addr)=⟨be,0,none⟩/\x.f3=x.f3/\(x.f3.l:Int)=(x.f3.l:Int)/\True)/\∃ i',(i:Int)+1=(i':Nat)/\i'<=t.reqs.length/\Fr F0 w w49/\q42 e.vals t.reqs=q42 e.vals (t.reqs.drop i'):=fun h =>
   ⟨q03,⟨rfl,rfl,rfl,trivial⟩,i+1,by omega,by omega,F,hq.trans h⟩
  have dec:t.reqs.length-((i:Int)+1).toNat<t.reqs.length-(i:Int).toNat:=by omega
  refine q09.2 ⟨fun h0=>?_,fun h0=>⟨_,m.ld 0,?_⟩⟩
  ·rw[if_pos (by omega)] at hk
   exact hk
  have h0':¬valN e.vals t.reqs[i].name=0:=by omega
  rw[if_neg h0'] at hk
  have hk3:(t.reqs[i].rel=wLe\/t.reqs[i].rel=wGe)->z3c_k3 ⟨be,0,none⟩ ⟨u.heap.size,0,none⟩ ((valF e.vals t.reqs[i].name).getD 0) x.f3 (x.f3.l:Int) (i:Int) (fun x_3' t_85' t_86' t_87' w'=>((x_3'=(⟨be,0,none⟩:Addr)/\t_85'=x.f3/\t_86'=(x.f3.l:Int)/\True)/\∃ i',t_87'=(i':Nat)/\i'<=t.reqs.length/\Fr F0 w w'/\q42 e.vals t.reqs=q42 e.vals (t.reqs.drop i'))/\t.reqs.length-t_87'.toNat<t.reqs.length-(i:Int).toNat) K w49:=fun hor=>by
   have hn:¬(t.reqs[i].rel≠wLe/\t.reqs[i].rel≠wGe):=fun h=>hor.elim h.1 h.2
   rw[if_neg hn] at hk
   refine⟨?_⟩
   simp -zeta only[q01]
   have nx:¬((t.reqs[i].rel=wLe/\(valF e.vals t.reqs[i].name).getD 0>t.reqs[i].val)\/(t.reqs[i].rel=wGe/\(valF e.vals t.reqs[i].name).getD 0<t.reqs[i].val))->q42 e.vals (t.reqs.drop i)=q42 e.vals (t.reqs.drop (i+1)):=fun h=>by
    rw[ed]
    show(if _ then _ else _)=_
    rw[if_neg h0',if_neg hn,if_neg h]
   refine⟨_,m.ld 0,?_⟩
   dsimp -zeta only; rw[hle]
   refine q00.2 ⟨fun h1=>⟨_,m.ld 0,q00.2 ⟨fun h2=>?_,fun h2=>⟨_,m.ld 0,?_⟩⟩⟩,fun h1=>⟨_,m.ld 0,?_⟩⟩
   ·rw[if_pos (.inl ⟨h1,h2⟩)] at hk
    exact hk
   ·dsimp -zeta only; rw[hge]
    have ne:¬t.reqs[i].rel=wGe:=by rw[h1]; decide
    refine q00.2 ⟨fun h3=>absurd h3 ne,fun h3=>?_⟩
    obtain⟨q1,q2⟩:=next (nx fun h=>h.elim (fun h=>h2 h.2) fun h=>ne h.1)
    exact⟨q1,⟨⟨trivial,trivial,trivial,trivial⟩,q2.2⟩,dec⟩
   ·dsimp -zeta only; rw[hge]
    refine q00.2 ⟨fun h3=>⟨_,m.ld 0,q00.2 ⟨fun h4=>?_,fun h4=>?_⟩⟩,fun h3=>?_⟩
    ·rw[if_pos (.inr ⟨h3,h4⟩)] at hk
     exact hk
    ·obtain⟨q1,q2⟩:=next (nx fun h=>h.elim (fun h=>h1 h.1) fun h=>h4 h.2)
     exact⟨q1,⟨⟨trivial,trivial,trivial,trivial⟩,q2.2⟩,dec⟩
    ·obtain⟨q1,q2⟩:=next (nx fun h=>h.elim (fun h=>h1 h.1) fun h=>h3 h.1)
     exact⟨q1,⟨⟨trivial,trivial,trivial,trivial⟩,q2.2⟩,dec⟩
  dsimp -zeta only; rw[hle,← decide_not]
  refine q00.2 ⟨fun h1=>⟨_,m.ld 0,?_⟩,fun h1=>hk3 (.inl (Decidable.not_not.1 h1))⟩
  dsimp -zeta only; rw[hge,← decide_not]
  refine q00.2 ⟨fun h2=>?_,fun h2=>hk3 (.inr (Decidable.not_not.1 h2))⟩
  rw[if_pos ⟨h1,h2⟩] at hk
  exact hk
 ·have hil:i=t.reqs.length:=by omega
  subst hil
  rw[Jj] at hK
  exact hK u f
theorem qex {c:Cr}{n:B}{k:Int}{b:Nat}{K:Bool->World->Prop}(h:Row w b [.string (ofL n),.int .i64 k])(hK:∀ w',Fr F0 w w'->K (decide (c.name=n)) w'):z27_sh (ofL c.name) c.kind c.low c.high c.less ⟨b,0,none⟩ K w:=by
 refine⟨?_⟩
 intro w1
 have m1:Mem w w1 [(w.heap.size,encC c)]:=Mem.nil.allocL (cs:=encC c)
 clear_value w1
 refine⟨ofL c.name,m1.ld 0,ofL n,(m1.1.row h fun h=>h).at rfl,?_⟩
 dsimp -zeta only; rw[q0h]
 exact hK _ m1.1
theorem qaz (rt:Row w bt x.cs)(re:Row w be (encE e))(T:TP w x t)(E:EnOk w e)(hF:Fit t)(hK:∀ w',Fr F0 w w'->K (if e.vals.any (fun v=>!t.crit.any (fun c=>decide (c.name=v.1))) then 13 else q42 e.vals t.reqs) w') :
  z3c_l1 ⟨bt,0,none⟩ ⟨be,0,none⟩ e.v (e.v.l:Int) 0 K w:=by
 have el:=E.v.len
 have hl:=E.len
 have hc:=hF.crit
 refine⟨⟨fun i u=>∃ i':Nat,i=i'/\i'<=e.vals.length/\Fr F0 w u/\(e.vals.take i').any (fun v=>!t.crit.any (fun c=>decide (c.name=v.1)))=false,fun i _=>e.vals.length-i.toNat,⟨0,rfl,by omega,Fr.refl,rfl⟩,?_⟩⟩
 rintro i u ⟨i,rfl,hi,f,hq⟩
 unfold z3c_b1
 refine q00.2 ⟨fun hlt=>?_,fun hge=>?_⟩
 ·have hil:i<e.vals.length:=by omega
  refine ldV (E.v.fr f) i rfl hil ?_
  intro w4
  have m:Mem u w4 [(u.heap.size,[.string (str []),.int .i64 0])]:=Mem.nil.allocL (cs:=[.string (str []),.int .i64 0])
  clear_value w4
  refine⟨m.wr 0,?_⟩
  intro w5
  have m:=m.set (i:=0) (v:=.string (ofL e.vals[i].1)) 0
  refine⟨m.wr 0,?_⟩
  intro w6
  have m:Mem u w6 [(u.heap.size,[.string (ofL e.vals[i].1),.int .i64 e.vals[i].2])]:=m.set (i:=1) (v:=.int .i64 e.vals[i].2) 0
  clear_value w6 w5
  have F:=f.t m.1
  rw[q01]
  refine⟨_,(F.row rt fun h=>h).at (i:=2) rfl,?_⟩
  refine q5w (T.crit.fr F) (by omega) (p:=fun c=>decide (c.name=e.vals[i].1)) (fun c _=>fun v K hu hK=>q05 z27_ok (qex (K:=kk [tB] K) (hu.row (m.row 0) fun h=>h) hK)) fun w38 f38=>?_
  have F:=F.t f38
  have tk:e.vals.take (i+1)=e.vals.take i++[e.vals[i]]:=by rw[J5,J0 hil]; rfl
  refine q04.2 ⟨fun h=>?_,fun h=>⟨q03,⟨⟨rfl,rfl,rfl,rfl,trivial⟩,i+1,by omega,by omega,F,?_⟩,by dsimp only; omega⟩⟩
  ·have:e.vals.any (fun v=>!t.crit.any (fun c=>decide (c.name=v.1)))=true:=Jk.2 ⟨_,J1 hil,h⟩
   have hk:=hK w38 F
   rw[if_pos this] at hk
   exact hk
  ·rw[tk,Jn,hq]
   simpa using h
 ·have hil:i=e.vals.length:=by omega
  subst hil
  rw[J9] at hq
  rw[if_neg (by rw[hq]; simp)] at hK
  rw[q01]
  exact⟨_,(f.row rt fun h=>h).at (i:=3) rfl,qay (f.row re fun h=>h) (T.fr f) (E.fr f) hF fun w' f'=>hK w' (f.t f')⟩
theorem qb0 (rt:Row w bt x.cs)(re:Row w be (encE e))(T:TP w x t)(E:EnOk w e)(hF:Fit t)
  (hK:∀ w',Fr F0 w w'->K (if t.crit.any (badC e.vals) then 16 else if e.vals.any (fun v=>!t.crit.any (fun c=>decide (c.name=v.1))) then 13 else q42 e.vals t.reqs) w') :
  z3c_l0 ⟨bt,0,none⟩ ⟨be,0,none⟩ x.f2 (x.f2.l:Int) 0 K w:=by
 have el:=T.crit.len
 have hc:=hF.crit
 refine⟨⟨fun i u=>∃ i':Nat,i=i'/\i'<=t.crit.length/\Fr F0 w u/\(t.crit.take i').any (badC e.vals)=false,fun i _=>t.crit.length-i.toNat,⟨0,rfl,by omega,Fr.refl,rfl⟩,?_⟩⟩
 rintro i u ⟨i,rfl,hi,f,hq⟩
 unfold z3c_b0
 refine q00.2 ⟨fun hlt=>?_,fun hge=>?_⟩
 ·have hil:i<t.crit.length:=by omega
  refine ldCr (T.crit.fr f) i rfl hil ?_
  intro w21
  refine q11 rfl Mem.nil fun w22 m=>?_
  clear w21
  have m:Mem u w22 [(u.heap.size,encC t.crit[i])]:=m
  have F:=f.t m.1
  rw[q01]
  refine⟨_,(F.row re fun h=>h).at (i:=4) rfl,_,m.ld 0,q8g (E.v.fr F) E.len fun w25 f25=>?_⟩
  have m:=m.fr f25
  have F:=f.t m.1
  have bad:badC e.vals t.crit[i]=true->K 16 w25:=fun h=>by
   have:t.crit.any (badC e.vals)=true:=Jk.2 ⟨_,J1 hil,h⟩
   have hk:=hK w25 F
   rw[if_pos this] at hk
   exact hk
  have tk:t.crit.take (i+1)=t.crit.take i++[t.crit[i]]:=by rw[J5,J0 hil]; rfl
  refine q1s.2 ⟨fun h=>bad ?_,fun h1=>⟨_,m.ld 0,q00.2 ⟨fun h=>bad ?_,fun h2=>⟨_,m.ld 0,q00.2 ⟨fun h=>bad ?_,fun h3=>⟨q03,⟨⟨rfl,rfl,rfl,rfl,trivial⟩,i+1,by omega,by omega,F,?_⟩,by dsimp only; omega⟩⟩⟩⟩⟩⟩
  ·unfold badC
   rw[decide_eq_false (by omega)]
   rfl
  ·unfold badC
   rw[decide_eq_true h]
   simp
  ·unfold badC
   rw[decide_eq_true h]
   simp
  ·rw[tk,Jn,hq]
   unfold badC
   simp only[List.any_cons,List.any_nil,Bool.or_false,Bool.false_or]
   rw[decide_eq_true (by omega),decide_eq_false h2,decide_eq_false h3]
   rfl
 ·have hil:i=t.crit.length:=by omega
  subst hil
  rw[J9] at hq
  rw[if_neg (by rw[hq]; simp)] at hK
  rw[q01]
  exact⟨_,(f.row re fun h=>h).at (i:=4) rfl,qaz (f.row rt fun h=>h) (f.row re fun h=>h) (T.fr f) (E.fr f) hF fun w' f'=>hK w' (f.t f')⟩
theorem qey {l:Int × Int}{b:Nat}{K:Bool->World->Prop}(h:Row w b (encE e))(hK:∀ w',Fr F0 w w'->K (decide (l.1=e.l)) w'):z26_sh l.1 l.2 ⟨b,0,none⟩ K w:=by
 refine⟨?_⟩
 intro w1
 have m1:Mem w w1 [(w.heap.size,[.int .i64 l.1,.int .i64 l.2])]:=Mem.nil.allocL (cs:=[.int .i64 l.1,.int .i64 l.2])
 clear_value w1
 refine⟨l.1,m1.ld 0,e.l,?_,?_⟩
 ·rw[q01]; exact(m1.1.row h fun h=>h).at (i:=1) rfl
 ·dsimp -zeta only; rw[qew]
  exact hK _ m1.1
theorem qa0 (T:TP w x t)(E:EnOk w e)(hF:Fit t)(hlot:∃ m,t.lots.find? (fun l=>decide (l.1=e.l))=some m)(hK:∀ w',Fr F0 w w'->K (admQ (q0m t e.l) e) w'):z3c_sh x e.b e.l e.r e.p e.v K w:=by
 refine⟨?_⟩
 intro w1 w2
 have m:Mem w w2 [(w1.heap.size,encE e),(w.heap.size,x.cs)]:=(Mem.nil.allocL (cs:=x.cs)).allocL (cs:=encE e)
 clear_value w2 w1
 have hll:=hF.lots
 refine⟨_,m.ld (i:=1) 1 rfl rfl,?_⟩
 refine q29 (T.lots.fr m.1) (by omega) (p:=fun l=>decide (l.1=e.l)) (fun l _=>fun u K hu hK=>q05 z26_ok (qey (K:=kk [tB] K) (hu.row (m.row 0) fun h=>h) hK)) fun r w4 f4 hr=>?_
 have m:=m.fr f4
 obtain⟨lm,hlm⟩:=hlot
 refine q00.2 ⟨fun h=>?_,fun h=>?_⟩
 ·rw[hr.none h] at hlm; cases hlm
 obtain⟨i,hil,rfl,hfi⟩:=hr.find h
 rw[hfi] at hlm
 cases hlm
 have em:(q0m t e.l).most=t.lots[i].2:=by unfold q0m; rw[hfi]; rfl
 unfold admQ at hK
 rw[em] at hK
 replace hK:∀ w',Fr F0 w w'->K (if e.p<t.low then 16 else if e.p>min t.high t.lots[i].2 then 16 else if t.crit.any (badC e.vals) then 16 else if e.vals.any (fun v=>!t.crit.any (fun c=>decide (c.name=v.1))) then 13 else q42 e.vals t.reqs) w':=hK
 intro w6
 have m:Mem w w6 [(w1.heap.size,encE e),(w.heap.size,x.cs)]:=m.drew
 clear_value w6
 refine⟨_,m.ld (i:=3) 0 rfl rfl,_,m.ld (i:=4) 1 rfl rfl,?_⟩
 rw[T.low]
 refine q00.2 ⟨fun h1=>?_,fun h1=>⟨_,m.ld (i:=3) 0 rfl rfl,_,m.ld (i:=5) 1 rfl rfl,_,m.ld (i:=1) 1 rfl rfl,?_⟩⟩
 ·have hk:=hK w6 m.1
  rw[if_pos h1] at hk
  exact hk
 rw[if_neg h1] at hK
 refine Vw.go q0s (by decide) (T.lots.fr m.1) i rfl hil fun a hc=>⟨_,hc 1 _ rfl,?_⟩
 rw[T.high]
 refine q00.2 ⟨fun h2=>?_,fun h2=>⟨_,m.ld (i:=2) 1 rfl rfl,?_⟩⟩
 ·have hk:=hK w6 m.1
  rw[if_pos h2] at hk
  exact hk
 rw[if_neg h2] at hK
 exact qb0 (m.row 1) (m.row 0) (T.fr m.1) (E.fr m.1) hF fun w' f'=>hK w' (m.1.t f')
end
section
variable {w w' w0 u:World}{s:Sl}{x:T43}{t:Td}{e:En}
theorem qez {low lot:Int}{K:Int->Int->Int->World->Prop}(T:TP w x t)(E:EnOk w e)(hlow:I64 low)
  (hK:∀ w',Fr F0 w w'->K (ptsQ (q0m t lot) e low).1.1 (ptsQ (q0m t lot) e low).1.2 (ptsQ (q0m t lot) e low).2 w'):z2m_sh x e.b e.l e.r e.p e.v low K w:=by
 refine⟨?_⟩
 intro w1 w2 w3
 have m:Mem w w3 [(w2.heap.size,[.int .i64 0,.int .i64 0]),(w1.heap.size,encE e),(w.heap.size,x.cs)]:=((Mem.nil.allocL (cs:=x.cs)).allocL (cs:=encE e)).allocL (cs:=[.int .i64 0,.int .i64 0])
 clear_value w3 w2 w1
 refine⟨_,m.ld (i:=3) 1 rfl rfl,?_⟩
 intro w5 w6
 have m':Mem w w6 ((w3.heap.size,([(q1m,e.p),(wLow,low)]:List Vl).flatMap encV) :: _):=(m.allocL (cs:=([(q1m,e.p),(wLow,low)]:List Vl).flatMap encV)).drew
 have m:Mem w w6 [(w2.heap.size,[.int .i64 0,.int .i64 0]),(w1.heap.size,encE e),(w.heap.size,x.cs)]:=m'.dr 1
 have hne:∀ p∈([(w2.heap.size,[.int .i64 0,.int .i64 0]),(w1.heap.size,encE e),(w.heap.size,x.cs)]:List (Nat × List Value)),p.1≠w3.heap.size:=fun p hp=>by
  have h:=m'.2.2.1
  rw[List.map_cons,List.pairwise_cons] at h
  have h:=h.1 p.1 (Jm.2 ⟨p,hp,rfl⟩)
  intro e
  rw[e] at h
  exact absurd h (Nat.lt_irrefl _)
 have hw3:w.heap.size<=w3.heap.size:=m'.2.2.2 _ (J2 ..)
 have mk:Mk w 2 encV w6 ⟨some ⟨w3.heap.size,0,none⟩,2,2⟩ [(q1m,e.p),(wLow,low)]:=⟨m'.1,Row.ow q3c (l:=([(q1m,e.p),(wLow,low)]:List Vl)) (m'.row 0),fun b hb=>by
  obtain⟨a,ha,rfl⟩:=hb
  cases ha
  exact hw3⟩
 clear_value w6 w5
 have el:=E.len
 refine⟨fun u=>Mem w u [(w2.heap.size,[.int .i64 0,.int .i64 0]),(w1.heap.size,encE e),(w.heap.size,x.cs)],m,_,fun u h=>h.ld (i:=6) 2 rfl rfl,_,fun u h=>h.ld (i:=7) 2 rfl rfl,_,fun u h=>h.ld (i:=8) 2 rfl rfl,_,fun u h=>h.ld (i:=9) 2 rfl rfl,_,fun u h=>h.ld (i:=10) 2 rfl rfl,_,fun u h=>h.ld (i:=4) 1 rfl rfl,?_⟩
 refine mk.app (m:=e.vals) (E.v.fr m.1) qk3 rfl (by simp; omega) (by simp; omega) fun s14 w15 mk' hf=>?_
 have m:Mem w w15 [(w2.heap.size,[.int .i64 0,.int .i64 0]),(w1.heap.size,encE e),(w.heap.size,x.cs)]:=m.frF hf (fun p hp hb=>by
  obtain⟨a,ha,hb⟩:=hb
  cases ha
  exact hne p hp hb.symm) fun b hb=>by
  obtain⟨a,ha,rfl⟩:=hb
  cases ha
  exact hw3
 refine⟨m,?_⟩
 refine qk8 (e:=t.fm) (c:=⟨x.f6,x.f7,x.f8,x.f9,x.f10⟩) (T.fm.fr m.1) mk'.vw (by simp; omega) (fun v hv=>?_) fun w16 f16=>?_
 ·rcases List.mem_append.1 hv with h | h
  ·simp only[Jd,J8,or_false] at h
   rcases h with rfl | rfl
   ·exact E.p
   ·exact hlow
  ·exact E.i v h
 ·have m:=m.fr f16
  refine⟨m,m.wr 0,?_⟩
  intro w19
  have m:=m.set (i:=0) (v:=.int .i64 (ptsQ (q0m t lot) e low).1.1) 0
  refine⟨m.wr 0,?_⟩
  intro w20
  have m:=m.set (i:=1) (v:=.int .i64 (ptsQ (q0m t lot) e low).1.2) 0
  exact⟨_,m.ld 0,_,m.ld 0,hK _ m.1⟩
theorem qna {n m:B}{k:Int}{b:Nat}{K:Bool->World->Prop}(h:Row w b [.string (ofL m)])(hK:∀ w',Fr F0 w w'->K (decide (n=m)) w'):z23_sh (ofL n) k ⟨b,0,none⟩ K w:=by
 refine⟨?_⟩
 intro w1
 have m1:Mem w w1 [(w.heap.size,[.string (ofL n),.int .i64 k])]:=Mem.nil.allocL (cs:=[.string (ofL n),.int .i64 k])
 clear_value w1
 refine⟨ofL n,m1.ld 0,ofL m,(m1.1.row h fun h=>h).at rfl,?_⟩
 dsimp -zeta only; rw[q0h]
 exact hK _ m1.1
theorem qd5 {n:B}{K:Int->Bool->World->Prop}(E:EnOk w e)(hK:∀ w',Fr F0 w w'->K ((valF e.vals n).getD 0) (valF e.vals n).isSome w'):z30_sh e.b e.l e.r e.p e.v (ofL n) K w:=by
 refine⟨?_⟩
 intro w1 w2
 have m:Mem w w2 [(w1.heap.size,[.string (ofL n)]),(w.heap.size,encE e)]:=(Mem.nil.allocL (cs:=encE e)).allocL (cs:=[.string (ofL n)])
 clear_value w2 w1
 have el:=E.len
 refine⟨_,m.ld (i:=4) 1 rfl rfl,?_⟩
 refine q45 (E.v.fr m.1) (by omega) (p:=fun v=>decide (v.1=n)) (fun x _=>fun u K hu hK=>q05 z23_ok (qna (K:=kk [tB] K) (hu.row (m.row 0) fun h=>h) hK)) fun r w4 f4 hr=>?_
 have m:=m.fr f4
 have hk:=hK w4 m.1
 unfold valF at hk
 refine q00.2 ⟨fun h0=>?_,fun h0=>⟨_,m.ld (i:=4) 1 rfl rfl,?_⟩⟩
 ·rw[hr.none h0] at hk
  exact hk
 ·obtain⟨i,hil,rfl,hf⟩:=hr.find h0
  rw[hf] at hk
  exact Vw.go q3c (by decide) (E.v.fr m.1) i rfl hil fun a hc=>⟨_,hc 1 _ rfl,hk⟩
def TieOk (w:World)(f:Value)(g:En->En->Int):Prop :=
 ∀ (u:World) (a b:En) (K:VW),Fr F0 w u->EnOk u a->EnOk u b->(∀ u',Fr F0 u u'->K (.int .i64 (g a b)) u') ->
  q14 Tryz.prog f [.agg #[.int .i64 a.b,.int .i64 a.l,.int .i64 a.r,.int .i64 a.p,.slice a.v.p a.v.l a.v.c],.agg #[.int .i64 b.b,.int .i64 b.l,.int .i64 b.r,.int .i64 b.p,.slice b.v.p b.v.l b.v.c]] u K
theorem qka {a b:En}{K:Int->World->Prop}(hK:∀ w',Fr F0 w w'->K (cmpI b.p a.p) w'):z2w_sh a.b a.l a.r a.p a.v b.b b.l b.r b.p b.v K w:=by
 refine⟨?_⟩
 intro w1 w2
 have m:Mem w w2 [(w1.heap.size,encE b),(w.heap.size,encE a)]:=(Mem.nil.allocL (cs:=encE a)).allocL (cs:=encE b)
 clear_value w2 w1
 exact⟨_,m.ld (i:=3) 0 rfl rfl,_,m.ld (i:=3) 1 rfl rfl,q7z (hK w2 m.1)⟩
theorem qkb {a b:En}{K:Int->World->Prop}(hK:∀ w',Fr F0 w w'->K 0 w'):z2y_sh a.b a.l a.r a.p a.v b.b b.l b.r b.p b.v K w:=by
 refine⟨?_⟩
 intro w1 w2
 have m:Mem w w2 [(w1.heap.size,encE b),(w.heap.size,encE a)]:=(Mem.nil.allocL (cs:=encE a)).allocL (cs:=encE b)
 exact hK w2 m.1
theorem qps (x y:Int):cmpI x y=-1\/cmpI x y=0\/cmpI x y=1:=by
 unfold cmpI
 split
 ·exact .inl rfl
 ·split
  ·exact .inr (.inr rfl)
  ·exact .inr (.inl rfl)
theorem qkc {a b:En}{n:B}{sg:Int}{bn bs:Nat}{K:Int->World->Prop}(rn:Row w bn [.string (ofL n)])(rs:Row w bs [.int .i64 sg])(hs:sg=1\/sg=-1)(Ea:EnOk w a)(Eb:EnOk w b)
  (hK:∀ w',Fr F0 w w'->K (match valF a.vals n,valF b.vals n with
   | some x,some y=>sg*cmpI x y
   | _,_=>0) w'):z2z_sh a.b a.l a.r a.p a.v b.b b.l b.r b.p b.v ⟨bn,0,none⟩ ⟨bs,0,none⟩ K w:=by
 refine⟨?_⟩
 intro w1 w2
 have m:Mem w w2 [(w1.heap.size,encE b),(w.heap.size,encE a)]:=(Mem.nil.allocL (cs:=encE a)).allocL (cs:=encE b)
 clear_value w2 w1
 have R:∀ {u:World},Fr F0 w u->Row u bn [.string (ofL n)]:=fun f=>f.row rn fun h=>h
 refine⟨_,m.ld (i:=0) 1 rfl rfl,_,m.ld (i:=1) 1 rfl rfl,_,m.ld (i:=2) 1 rfl rfl,_,m.ld (i:=3) 1 rfl rfl,_,m.ld (i:=4) 1 rfl rfl,_,(R m.1).at rfl,?_⟩
 refine qd5 (Ea.fr m.1) fun w9 f9=>?_
 have m:=m.fr f9
 refine⟨_,m.ld (i:=0) 0 rfl rfl,_,m.ld (i:=1) 0 rfl rfl,_,m.ld (i:=2) 0 rfl rfl,_,m.ld (i:=3) 0 rfl rfl,_,m.ld (i:=4) 0 rfl rfl,_,(R m.1).at rfl,?_⟩
 refine qd5 (Eb.fr m.1) fun w18 f18=>?_
 have m:=m.fr f18
 cases ha:valF a.vals n with
 | none =>
  rw[ha] at hK
  exact q44 (hK w18 m.1)
 | some xa =>
  cases hb:valF b.vals n with
  | none =>
   rw[ha,hb] at hK
   exact q3d (q44 (hK w18 m.1))
  | some xb =>
   rw[ha,hb] at hK
   refine q3d (q3d ?_)
   intro w21
   have m:Mem w w21 [(w1.heap.size,encE b),(w.heap.size,encE a)]:=m.drew
   clear_value w21
   refine⟨fun u=>Fr F0 w u,m.1,sg,fun u f=>(f.row rs fun h=>h).at rfl,q7z ⟨m.1,?_,hK w21 m.1⟩⟩
   have:=qps xa xb
   simp only[Option.getD_some]
   rcases hs with rfl | rfl<;>rcases this with h | h | h<;>rw[h]<;>exact q03 (by decide) (by decide)
theorem qkd {c:Cr}{n:B}{b:Nat}{K:Bool->World->Prop}(h:Row w b [.string (ofL n)])(hK:∀ w',Fr F0 w w'->K (decide (c.name=n)) w'):z2x_sh (ofL c.name) c.kind c.low c.high c.less ⟨b,0,none⟩ K w:=by
 refine⟨?_⟩
 intro w1
 have m1:Mem w w1 [(w.heap.size,encC c)]:=Mem.nil.allocL (cs:=encC c)
 clear_value w1
 refine⟨ofL c.name,m1.ld 0,ofL n,(m1.1.row h fun h=>h).at rfl,?_⟩
 dsimp -zeta only; rw[q0h]
 exact hK _ m1.1
theorem qnb {n:B}{lot:Int}{K:Value->World->Prop}(T:TP w x t)(hF:Fit t)(hK:∀ f w',Fr F0 w w'->TieOk w' f (tieQ (q0m t lot) n)->K f w'):z3z_sh x (ofL n) K w:=by
 refine⟨?_⟩
 intro w1 w2
 have m:Mem w w2 [(w1.heap.size,[.string (ofL n)]),(w.heap.size,x.cs)]:=(Mem.nil.allocL (cs:=x.cs)).allocL (cs:=[.string (ofL n)])
 clear_value w2 w1
 have hcl:=hF.crit
 refine⟨_,m.ld 0,?_⟩
 dsimp -zeta only; rw[show decide (ofL n=str [112,114,105,99,101])=decide (n=q1m) from q0h n q1m]
 refine q00.2 ⟨fun h=>hK _ w2 m.1 fun u a b K hu Ea Eb hK=>?_,fun h=>⟨_,m.ld (i:=2) 1 rfl rfl,?_⟩⟩
 ·refine q05 z2w_ok (qka (K:=kk [tI] K) fun w' f=>?_)
  have:=hK w' f
  unfold tieQ at this
  rw[if_pos h] at this
  exact this
 refine q2a (T.crit.fr m.1) (by omega) (p:=fun c=>decide (c.name=n)) (fun c _=>fun u K hu hK=>q05 z2x_ok (qkd (K:=kk [tB] K) (hu.row (m.row 0) fun h=>h) hK)) fun r w5 f5 hr=>?_
 have m:=m.fr f5
 have et:∀ a b,tieQ (q0m t lot) n a b=match t.crit.find? (fun c=>decide (c.name=n)) with
  | none=>0
  | some c=>match valF a.vals n,valF b.vals n with
   | some x,some y=>(if c.less then -1 else 1)*cmpI x y
   | _,_=>0:=fun a b=>by unfold tieQ; rw[if_neg h]; rfl
 refine q00.2 ⟨fun h0=>hK _ w5 m.1 fun u a b K hu Ea Eb hK=>?_,fun h0=>?_⟩
 ·refine q05 z2y_ok (qkb (K:=kk [tI] K) fun w' f=>?_)
  have:=hK w' f
  rw[et,hr.none h0] at this
  exact this
 obtain⟨i,hil,rfl,hf⟩:=hr.find h0
 intro w7
 have m:Mem w w7 ((w5.heap.size,[.int .i64 0]) :: _):=m.allocL (cs:=[.int .i64 0])
 clear_value w7
 refine⟨m.wr 0,?_⟩
 intro w8
 have m:Mem w w8 ((w5.heap.size,[.int .i64 1]) :: _):=m.set (i:=0) (v:=.int .i64 1) 0
 clear_value w8
 have fin:∀ {v:World} {sg:Int},Mem w v [(w5.heap.size,[.int .i64 sg]),(w1.heap.size,[.string (ofL n)]),(w.heap.size,x.cs)]->sg=(if t.crit[i].less then -1 else 1)->z3z_k0 ⟨w1.heap.size,0,none⟩ ⟨w5.heap.size,0,none⟩ K v:=fun {v sg} m hs=>by
  refine⟨?_⟩
  refine hK _ v m.1 fun u a b K hu Ea Eb hK=>?_
  refine q05 z2z_ok (qkc (K:=kk [tI] K) (n:=n) (sg:=sg) (hu.row (m.roW 1 rfl) fun h=>h) (hu.row (m.row 0) fun h=>h) ?_ Ea Eb fun w' f=>?_)
  ·rw[hs]; split
   ·exact .inr rfl
   ·exact .inl rfl
  ·have:=hK w' f
   rw[et,hf] at this
   rw[hs]
   exact this
 refine⟨_,m.ld (i:=2) 2 rfl rfl,?_⟩
 refine Vw.go q10 (by decide) (T.crit.fr m.1) i rfl hil fun a hc=>⟨_,hc 4 _ rfl,?_⟩
 refine q04.2 ⟨fun h=>⟨m.wr 0,?_⟩,fun h=>fin m (by rw[h]; rfl)⟩
 intro w12
 have m:=m.set (i:=0) (v:=.int .i64 (-1)) 0
 exact fin m (by rw[h]; rfl)
theorem qnc {v:Rv}{a b:En}{p q:Int × Int}(h:cmpQ p.1 p.2 q.1 q.2=0):betQ v a b p q=qaw v a b v.ties:=by
 unfold betQ
 rw[if_neg (fun hn=>hn h)]
theorem q8h {a b:En}{p q:Int × Int}{lot:Int}{K:Bool->World->Prop}(T:TP w x t)(hF:Fit t)(Ea:EnOk w a)(Eb:EnOk w b)(hp:I64 p.1/\I64 p.2)(hq:I64 q.1/\I64 q.2)
  (hK:∀ w',Fr F0 w w'->K (betQ (q0m t lot) a b p q) w'):z2a_sh x a.b a.l a.r a.p a.v b.b b.l b.r b.p b.v p.1 p.2 q.1 q.2 K w:=by
 refine⟨?_⟩
 intro w1 w2 w3 w4 w5
 have m:Mem w w5 [(w4.heap.size,[.int .i64 q.1,.int .i64 q.2]),(w3.heap.size,[.int .i64 p.1,.int .i64 p.2]),(w2.heap.size,encE b),(w1.heap.size,encE a),(w.heap.size,x.cs)] :=
  ((((Mem.nil.allocL (cs:=x.cs)).allocL (cs:=encE a)).allocL (cs:=encE b)).allocL (cs:=[.int .i64 p.1,.int .i64 p.2])).allocL (cs:=[.int .i64 q.1,.int .i64 q.2])
 clear_value w5 w4 w3 w2 w1
 refine⟨_,m.ld (i:=0) 1 rfl rfl,_,m.ld (i:=1) 1 rfl rfl,_,m.ld (i:=0) 0 rfl rfl,_,m.ld (i:=1) 0 rfl rfl,?_⟩
 refine q77 hp.1 hp.2 hq.1 hq.2 fun w10 f10=>?_
 have m:=m.fr f10
 refine q1s.2 ⟨fun hn=>?_,fun h0=>⟨_,m.ld (i:=11) 4 rfl rfl,?_⟩⟩
 ·have hk:=hK w10 m.1
  unfold betQ at hk
  rw[if_pos hn] at hk
  exact hk
 rw[qnc h0] at hK
 have el:=T.ties.len
 have hl:=hF.ties
 have et:(q0m t lot).ties=t.ties:=rfl
 rw[et] at hK
 refine⟨⟨fun i u=>∃ i':Nat,i=i'/\i'<=t.ties.length/\Fr F0 w10 u/\qaw (q0m t lot) a b t.ties=qaw (q0m t lot) a b (t.ties.drop i'),fun i _=>t.ties.length-i.toNat,⟨0,rfl,by omega,Fr.refl,rfl⟩,?_⟩⟩
 rintro i u ⟨i,rfl,hi,f,hq⟩
 rw[hq] at hK
 unfold z2a_b0
 have M:=m.fr f
 refine q00.2 ⟨fun hlt=>?_,fun hge=>?_⟩
 ·have hil:i<t.ties.length:=by omega
  have ed:t.ties.drop i=t.ties[i] :: t.ties.drop (i+1):=J3 hil
  refine ldB (T.ties.fr M.1) i rfl hil ?_
  intro w15
  have f15:Fr F0 u w15:=Fr.drew
  have M:=M.fr f15
  have f:=f.t f15
  clear_value w15
  have S:∀ {v:World},Fr F0 w15 v->Mem w v _:=fun g=>M.fr g
  refine⟨fun v=>Fr F0 w15 v,Fr.refl,T43.lds_row (fun v g=>(S g).row 4) ?_⟩
  simp -zeta only[q01]
  refine⟨_,fun v g=>(S g).ld (i:=0) 3 rfl rfl,_,fun v g=>(S g).ld (i:=1) 3 rfl rfl,_,fun v g=>(S g).ld (i:=2) 3 rfl rfl,_,fun v g=>(S g).ld (i:=3) 3 rfl rfl,_,fun v g=>(S g).ld (i:=4) 3 rfl rfl,_,fun v g=>(S g).ld (i:=0) 2 rfl rfl,_,fun v g=>(S g).ld (i:=1) 2 rfl rfl,_,fun v g=>(S g).ld (i:=2) 2 rfl rfl,_,fun v g=>(S g).ld (i:=3) 2 rfl rfl,_,fun v g=>(S g).ld (i:=4) 2 rfl rfl,?_⟩
  refine qnb (lot:=lot) (T.fr M.1) hF fun fn w28 f28 hfn=>⟨f28,?_⟩
  refine hfn w28 a b _ Fr.refl (Ea.fr (S f28).1) (Eb.fr (S f28).1) fun w31 f31=>⟨_,rfl,f28.t f31,?_⟩
  have M:=S (f28.t f31)
  have F:=f.t (f28.t f31)
  have hk:=hK w31 M.1
  rw[ed] at hk
  unfold qaw at hk
  refine q1s.2 ⟨fun hn=>?_,fun h0=>⟨q03,⟨⟨trivial,trivial,trivial,trivial,trivial,trivial⟩,i+1,by omega,by omega,F,?_⟩,by omega⟩⟩
  ·rw[if_pos hn] at hk
   exact hk
  ·rw[hq,ed]
   show(if _ then _ else _)=_
   rw[if_neg (fun hn=>hn h0)]
 ·have hil:i=t.ties.length:=by omega
  subst hil
  rw[Jj] at hK
  rw[q01,q01]
  exact⟨_,M.ld (i:=2) 3 rfl rfl,_,M.ld (i:=2) 2 rfl rfl,hK u M.1⟩
def encS (y:Sc):List Value:=[.int .i64 y.1.b,.int .i64 y.1.l,.int .i64 y.1.r,.int .i64 y.1.p,.slice y.1.v.p y.1.v.l y.1.v.c,.int .i64 y.2.1,.int .i64 y.2.2]
@[simp] theorem q1k (y:Sc):(encS y).length=7:=rfl
theorem qpt (y:Sc):∀ v∈encS y,okC v=true:=by
 intro v hv
 simp only[encS,Jd,J8,or_false] at hv
 rcases hv with rfl | rfl | rfl | rfl | rfl | rfl | rfl<;>rfl
structure ScOk (w:World)(y:Sc):Prop where
 e:EnOk w y.1
 n:I64 y.2.1
 d:I64 y.2.2
theorem ScOk.fr {y:Sc}(h:ScOk w y)(f:Fr F0 w w'):ScOk w' y:=⟨h.e.fr f,h.n,h.d⟩
theorem qb1 {y z:Sc}{lot:Int}{K:Int->World->Prop}(T:TP w x t)(hF:Fit t)(hy:ScOk w y)(hz:ScOk w z)(hK:∀ w',Fr F0 w w'->K (cmpS (q0m t lot) y z) w') :
  z0e_sh x.f0 x.f1 x.f2 x.f3 x.f4 x.f5 x.f6 x.f7 x.f8 x.f9 x.f10 x.f11 x.f12 x.f13 x.f14 x.f15 x.f16 x.f17 x.f18 x.f19 y.1.b y.1.l y.1.r y.1.p y.1.v y.2.1 y.2.2 z.1.b z.1.l z.1.r z.1.p z.1.v z.2.1 z.2.2 K w:=by
 refine⟨?_⟩
 intro w1 w2 w3
 have m:Mem w w3 [(w2.heap.size,encS z),(w1.heap.size,encS y),(w.heap.size,x.cs)]:=((Mem.nil.allocL (cs:=x.cs)).allocL (cs:=encS y)).allocL (cs:=encS z)
 clear_value w3 w2 w1
 unfold cmpS at hK
 refine T43.ld_row (m.row 2 rfl) ⟨_,m.ld (i:=0) 1 rfl rfl,_,m.ld (i:=1) 1 rfl rfl,_,m.ld (i:=2) 1 rfl rfl,_,m.ld (i:=3) 1 rfl rfl,_,m.ld (i:=4) 1 rfl rfl,_,m.ld (i:=0) 0 rfl rfl,_,m.ld (i:=1) 0 rfl rfl,_,m.ld (i:=2) 0 rfl rfl,_,m.ld (i:=3) 0 rfl rfl,_,m.ld (i:=4) 0 rfl rfl,_,m.ld (i:=5) 1 rfl rfl,_,m.ld (i:=6) 1 rfl rfl,_,m.ld (i:=5) 0 rfl rfl,_,m.ld (i:=6) 0 rfl rfl,?_⟩
 refine q8h (lot:=lot) (T.fr m.1) hF (hy.e.fr m.1) (hz.e.fr m.1) ⟨hy.n,hy.d⟩ ⟨hz.n,hz.d⟩ fun w19 f19=>?_
 have m:=m.fr f19
 refine q04.2 ⟨fun h=>?_,fun h=>?_⟩
 ·have hk:=hK w19 m.1
  rw[if_pos h] at hk
  exact hk
 rw[if_neg (by rw[h]; decide)] at hK
 refine T43.ld_row (m.row 2 rfl) ⟨_,m.ld (i:=0) 0 rfl rfl,_,m.ld (i:=1) 0 rfl rfl,_,m.ld (i:=2) 0 rfl rfl,_,m.ld (i:=3) 0 rfl rfl,_,m.ld (i:=4) 0 rfl rfl,_,m.ld (i:=0) 1 rfl rfl,_,m.ld (i:=1) 1 rfl rfl,_,m.ld (i:=2) 1 rfl rfl,_,m.ld (i:=3) 1 rfl rfl,_,m.ld (i:=4) 1 rfl rfl,_,m.ld (i:=5) 0 rfl rfl,_,m.ld (i:=6) 0 rfl rfl,_,m.ld (i:=5) 1 rfl rfl,_,m.ld (i:=6) 1 rfl rfl,?_⟩
 refine q8h (lot:=lot) (T.fr m.1) hF (hz.e.fr m.1) (hy.e.fr m.1) ⟨hz.n,hz.d⟩ ⟨hy.n,hy.d⟩ fun w36 f36=>?_
 have hk:=hK w36 (m.1.t f36)
 refine q04.2 ⟨fun h=>?_,fun h=>?_⟩
 ·rw[if_pos h] at hk
  exact hk
 ·rw[if_neg (by rw[h]; decide)] at hk
  exact hk
end
end Go.Proofs.YtipjnbbfnlfmjaaGreatDoor
namespace Pw
open Go
theorem qke {b o:Nat}{K:World->Prop}:∀ (vs:List Value) (i:Nat) (w:World) (cs:List Value),Row w b cs->o+i+vs.length<=cs.length->K (wrC w ⟨b,o,none⟩ i vs)->stN.go ⟨b,o,none⟩ K vs i w
 | [],_,_,_,_,_,h=>h
 | v :: vs,i,w,cs,hr,hl,h=>by
  simp only[List.length_cons] at hl
  refine⟨by rw[q01]; exact hr.wr (by omega),qke vs (i+1) _ (cs.set (o+i) v) ?_ (by simp; omega) h⟩
  rw[q01]
  exact hr.set (o+i) v
theorem qkf {α:Type}{n:Nat}{enc:α->List Value}(hn:∀ a,(enc a).length=n)(l:List α)(i:Nat)(hi:i<l.length)(a:α)(r:List Value):q1r (l.flatMap enc++r) (i*n) (enc a)=(l.set i a).flatMap enc++r:=by
 have e1:l=l.take i++l[i] :: l.drop (i+1):=by rw[← J3 hi,Je]
 have e2:l.set i a=l.take i++a :: l.drop (i+1):=by rw[List.set_eq_take_append_cons_drop,if_pos hi]
 have hk:((l.take i).flatMap enc).length=i*n:=by rw[q0a hn,J4,Nat.min_eq_left (by omega)]
 rw[e2]
 conv=>lhs; rw[e1]
 simp only[List.flatMap_append,List.flatMap_cons]
 unfold q1r
 generalize (l.take i).flatMap enc=A at *
 generalize (l.drop (i+1)).flatMap enc=C at *
 have hx:=hn l[i]
 generalize enc l[i]=X at *
 rw[← hk]
 have t1:(A++(X++C)++r).take A.length=A:=by simp[J6]
 have t2:(A++(X++C)++r).drop (A.length+(enc a).length)=C++r:=by
  rw[hn a,← hx,J6,← List.drop_drop,Jp,J6,Jp]
 rw[t1,t2]
 simp[J6]
theorem Mk.stN {α:Type}{n:Nat}{enc:α->List Value}{w0 w:World}{s:Sl}{l:List α}{K:World->Prop}(hn:∀ a,(enc a).length=n)(h:Mk w0 n enc w s l){i:Int}(i':Nat)(hii:i=(i':Int))(hi:i'<l.length)(a:α)
  (hK:∀ w',Mk w0 n enc w' s (l.set i' a)->Fr (inB s) w w'->K w'):nz s.p fun ad=>(0<=i/\i<(s.l:Nat))/\Pw.stN w (ad.add (i.toNat*n)) (enc a) K:=by
 subst hii
 obtain⟨hl,hown⟩:=h.ow
 obtain⟨hlen,hnil | ⟨b,cs,hp,hrow,hcs,hle,ht⟩⟩:=hown
 ·omega
 have hb:w0.heap.size<=b:=h.nw b ⟨_,hp,rfl⟩
 rw[hp]
 refine⟨⟨by omega,by omega⟩,?_⟩
 rw[q01,Nat.zero_add,Int.toNat_natCast]
 have hfm:(l.flatMap enc).length=l.length*n:=q0a hn l
 have hcl:(l.flatMap enc).length<=cs.length:=by
  have:=congrArg List.length ht
  rw[J4] at this
  omega
 have hin:i'*n+n<=l.length*n:=by
  have:(i'+1)*n<=l.length*n:=Nat.mul_le_mul_right n hi
  rw[Nat.add_mul] at this
  omega
 have hfit:i'*n+0+(enc a).length<=cs.length:=by rw[hn]; omega
 refine qke (enc a) 0 w cs hrow hfit ?_
 have hr':=q6e (o:=i'*n) (enc a) 0 w cs hrow hfit
 have hF:Fr (inB s) w (wrC w ⟨b,i'*n,none⟩ 0 (enc a)):=⟨by rw[q4c]; exact Nat.le_refl _,fun c _ hnn=>q9g (a:=⟨b,i'*n,none⟩) (fun he=>hnn ⟨_,hp,he⟩) _ _ _,q9f _ _ _,q6d _ _ _,q4d _ _ _⟩
 have ecs:cs=l.flatMap enc++cs.drop (l.flatMap enc).length:=by
  conv=>lhs; rw[← Je (l.flatMap enc).length cs]
  rw[ht]
 refine hK _ ⟨h.fr0.trans hF fun c hc hlt=>absurd (h.nw c hc) (by omega),⟨by rw[Jf]; exact hl,by rw[q0a hn,Jf,← hl],.inr ⟨b,_,hp,hr',by rw[q1o _ _ _ hfit]; exact hcs,hle,?_⟩⟩,h.nw⟩ hF
 rw[Nat.add_zero,ecs,qkf hn l i' hi]
 rw[List.take_left']
 rfl
end Pw
namespace Go.Proofs.YtipjnbbfnlfmjaaGreatDoor
open Go Pw Dp
def qpu (w0:World)(f:Value)(g:Sc->Sc->Int):Prop :=
 ∀ (u:World) (y z:Sc) (K:VW),Fr F0 w0 u->ScOk w0 y->ScOk w0 z->(∀ u',Fr F0 u u'->K (.int .i64 (g y z)) u') ->
  q14 Tryz.prog f [.agg #[.int .i64 y.1.b,.int .i64 y.1.l,.int .i64 y.1.r,.int .i64 y.1.p,.slice y.1.v.p y.1.v.l y.1.v.c,.int .i64 y.2.1,.int .i64 y.2.2],.agg #[.int .i64 z.1.b,.int .i64 z.1.l,.int .i64 z.1.r,.int .i64 z.1.p,.slice z.1.v.p z.1.v.l z.1.v.c,.int .i64 z.2.1,.int .i64 z.2.2]] u K
section
variable {w w' w0 u:World}{s:Sl}
theorem qnd {α:Type}{m:List α}{j:Nat}{y z:α}(hy:y∈m)(hz:z∈m):∀ x∈(m.set (j+1) y).set j z,x∈m:=fun x hx=>by
 rcases Ja hx with h | rfl
 ·rcases Ja h with h | rfl
  ·exact h
  ·exact hy
 ·exact hz
theorem qne {l:List Sc}{f:Value}{g:Sc->Sc->Int}{K:World->Prop}(h:Mk w0 7 encS w s l)(hl:l.length<2^40)(ho:∀ y∈l,ScOk w0 y)(hg:qpu w0 f g)(hK:∀ w',Mk w0 7 encS w' s (q72 g l l.length)->Fr (inB s) w w'->K w') :
  z03_sh s 0 (l.length:Int) f K w:=by
 refine⟨⟨q03,?_⟩⟩
 have h1s:l.length>=1->q72 g l 1=l:=fun _=>rfl
 refine⟨⟨fun i u=>∃ (i':Nat) (m:List Sc),i=i'/\1<=i'/\(l.length=0\/i'<=l.length)/\Mk w0 7 encS u s m/\Fr (inB s) w u/\m.length=l.length/\(∀ y∈m,ScOk w0 y)/\(l.length=0\/m=q72 g l i'),fun i _=>l.length+1-i.toNat,⟨1,l,rfl,by omega,by omega,h,Fr.refl,rfl,ho,.inr rfl⟩,?_⟩⟩
 rintro i u ⟨i,m,rfl,hi1,hi,hm,hF,hml,hmo,hq⟩
 unfold z03_b0
 refine q00.2 ⟨fun hlt=>?_,fun hge=>?_⟩
 ·have hil:i<l.length:=by omega
  have hq:m=q72 g l i:=hq.resolve_left (by omega)
  refine⟨⟨fun j v=>∃ (j':Nat) (m':List Sc),j=j'/\j'<=i/\Mk w0 7 encS v s m'/\Fr (inB s) w v/\m'.length=l.length/\(∀ y∈m',ScOk w0 y)/\sink g m' j'=q72 g l (i+1),fun j _=>j.toNat,⟨i,m,rfl,Nat.le_refl _,hm,hF,hml,hmo,by rw[hq]; rfl⟩,?_⟩⟩
  rintro j v ⟨j,m',rfl,hji,hm',hF',hml',hmo',hs⟩
  unfold z03_b1
  intro w1
  have d1:Fr F0 v w1:=Fr.drew
  have hm1:=hm'.fr d1
  have hF1:=hF'.tF d1
  clear_value w1
  have out:sink g m' j=m'->∀ {v':World},Fr F0 w1 v'->inR .i64 ((i:Int)+1)/\((s=s/\(0:Int)=0/\(l.length:Int)=l.length/\f=f/\True)/\∃ (i':Nat) (m:List Sc),(i:Int)+1=i'/\1<=i'/\(l.length=0\/i'<=l.length)/\Mk w0 7 encS v' s m/\Fr (inB s) w v'/\m.length=l.length/\(∀ y∈m,ScOk w0 y)/\(l.length=0\/m=q72 g l i'))/\l.length+1-((i:Int)+1).toNat<l.length+1-(i:Int).toNat:=fun e {v'} d =>
   ⟨q03,⟨⟨rfl,rfl,rfl,rfl,trivial⟩,i+1,m',by omega,by omega,by omega,hm1.fr d,hF1.tF d,hml',hmo',.inr (by rw[← hs,e])⟩,by omega⟩
  refine⟨fun v'=>Fr F0 w1 v',Fr.refl,?_⟩
  refine q00.2 ⟨fun hj=>?_,fun hj=>?_⟩
  ·obtain⟨j,rfl⟩:∃ k,j=k+1:=⟨j-1,by omega⟩
   have ej:((j+1:Nat):Int)-1=(j:Int):=by omega
   rw[ej]
   have hj1:j+1<m'.length:=by omega
   have hj0:j<m'.length:=by omega
   have V:∀ {x:World},Fr F0 w1 x->Vw 7 encS x s m':=fun d=>(hm1.fr d).vw
   refine Vw.goS (S:=fun v'=>Fr F0 w1 v') q1k (by decide) Fr.refl (fun x d=>V d) (j+1) rfl hj1 fun ad hc=>⟨_,fun x d=>hc 0 _ rfl x d,_,fun x d=>hc 1 _ rfl x d,_,fun x d=>hc 2 _ rfl x d,_,fun x d=>hc 3 _ rfl x d,_,fun x d=>hc 4 _ rfl x d,_,fun x d=>hc 5 _ rfl x d,_,fun x d=>hc 6 _ rfl x d,q03,?_⟩
   refine Vw.goS (S:=fun v'=>Fr F0 w1 v') q1k (by decide) Fr.refl (fun x d=>V d) j rfl hj0 fun ad hc=>⟨_,fun x d=>hc 0 _ rfl x d,_,fun x d=>hc 1 _ rfl x d,_,fun x d=>hc 2 _ rfl x d,_,fun x d=>hc 3 _ rfl x d,_,fun x d=>hc 4 _ rfl x d,_,fun x d=>hc 5 _ rfl x d,_,fun x d=>hc 6 _ rfl x d,?_⟩
   refine hg w1 m'[j+1] m'[j] _ hm1.fr0 (hmo' _ (J1 hj1)) (hmo' _ (J1 hj0)) fun w20 d20=>⟨_,rfl,?_⟩
   have hsk:sink g m' (j+1)=if g m'[j+1] m'[j]<0 then sink g ((m'.set (j+1) m'[j]).set j m'[j+1]) j else m':=by
    conv=>lhs; unfold sink
    rw[J0 hj0,J0 hj1]
   refine q00.2 ⟨fun hc=>?_,fun hc=>out (by rw[hsk,if_neg hc]) d20⟩
   rw[hsk,if_pos hc] at hs
   intro w22
   have d22:Fr F0 w1 w22:=d20.t Fr.drew
   have hm2:=hm1.fr d22
   have hF2:=hF1.tF d22
   clear_value w22
   refine⟨fun v'=>v'=w22,rfl,q03,q03,?_⟩
   refine Vw.goS (S:=fun v'=>v'=w22) q1k (by decide) rfl (fun x d=>by rw[d]; exact hm2.vw) j rfl hj0 fun ad hc=>⟨_,fun x d=>hc 0 _ rfl x d,_,fun x d=>hc 1 _ rfl x d,_,fun x d=>hc 2 _ rfl x d,_,fun x d=>hc 3 _ rfl x d,_,fun x d=>hc 4 _ rfl x d,_,fun x d=>hc 5 _ rfl x d,_,fun x d=>hc 6 _ rfl x d,?_⟩
   refine Vw.goS (S:=fun v'=>v'=w22) q1k (by decide) rfl (fun x d=>by rw[d]; exact hm2.vw) (j+1) rfl hj1 fun ad hc=>⟨_,fun x d=>hc 0 _ rfl x d,_,fun x d=>hc 1 _ rfl x d,_,fun x d=>hc 2 _ rfl x d,_,fun x d=>hc 3 _ rfl x d,_,fun x d=>hc 4 _ rfl x d,_,fun x d=>hc 5 _ rfl x d,_,fun x d=>hc 6 _ rfl x d,?_⟩
   refine hm2.stN q1k (j+1) rfl hj1 m'[j] fun w41 hm3 d41=>?_
   refine hm3.stN q1k j rfl (by rw[Jf]; exact hj0) m'[j+1] fun w43 hm4 d43=>?_
   refine⟨q03,⟨⟨rfl,rfl,rfl,rfl,rfl,trivial⟩,j,_,rfl,by omega,hm4,(hF2.trans d41 fun _ h _=>h).trans d43 fun _ h _=>h,by simp; exact hml',fun y hy=>hmo' y (qnd (J1 hj0) (J1 hj1) y hy),hs⟩,by dsimp only; omega⟩
  ·have:j=0:=by omega
   subst this
   exact out rfl Fr.refl
 ·rcases hi with h0 | hi
  ·have e0:m=[]:=Jc.1 (by omega)
   have el:l=[]:=Jc.1 h0
   subst e0
   subst el
   exact hK u hm hF
  ·have:i=l.length:=by omega
   subst this
   rcases hq with h0 | hq
   ·omega
   ·rw[hq] at hm
    exact hK u hm hF
theorem qnf {n:Nat}{K:Int->World->Prop}(hn:n<256)(hK:∀ r:Nat,K r w):z41_sh (n:Int) K w:=by
 refine⟨⟨?_⟩⟩
 refine q00.2 ⟨fun h=>by omega,fun _=>⟨q00.2 ⟨fun h=>by omega,fun _=>⟨q00.2 ⟨fun h=>by omega,fun _=>⟨?_⟩⟩⟩⟩⟩⟩
 have ht:=qo8 n hn
 have hs:=qfw
 have hb:tabL.getD n 0<=8:=by
  rcases Nat.eq_zero_or_pos n with h | h
  ·subst h; decide
  ·exact(qj3 ⟨n,hn⟩ h).2.1
 have e:((n:Int)).toNat=n:=by omega
 rw[e]
 show inR .u8 (n:Int)/\(0<=(n:Int)/\(n:Int)<(((str tabL).size:Nat):Int))/\inR .i64 ((((str tabL).data.toList.getD n 0).toNat:Nat):Int)/\inR .i64 ((0:Int)+((((str tabL).data.toList.getD n 0).toNat:Nat):Int))/\K ((0:Int)+((((str tabL).data.toList.getD n 0).toNat:Nat):Int)) w
 rw[ht,hs]
 generalize tabL.getD n 0=t at *
 refine⟨?_,⟨by omega,by omega⟩,q03,q03,?_⟩
 ·unfold inR IntKind.wrap
  simp[IntKind.bits,IntKind.signed]
  omega
 ·have:=hK t
  rwa [Int.zero_add]
theorem qb2 {l:List Sc}{f:Value}{g:Sc->Sc->Int}{K:World->Prop}(h:Mk w0 7 encS w s l)(hl:l.length<=12)(ho:∀ y∈l,ScOk w0 y)(hg:qpu w0 f g)(hK:∀ w',Mk w0 7 encS w' s (q72 g l l.length)->Fr (inB s) w w'->K w') :
  z1m_sh s f K w:=by
 have el:=h.len
 refine⟨?_⟩
 rw[el]
 refine⟨by unfold inR IntKind.wrap; simp[IntKind.bits,IntKind.signed]; omega,qnf (by omega) fun r=>?_⟩
 refine⟨?_⟩
 refine⟨⟨fun a b x=>a=0/\b=(l.length:Int)/\x=w,fun _ _ _=>0,⟨rfl,rfl,rfl⟩,?_⟩⟩
 rintro a b x ⟨rfl,rfl,rfl⟩
 unfold z0f_b0
 exact⟨q03,q00.2 ⟨fun _=>qne h (by omega) ho hg hK,fun h=>absurd (by omega) h⟩⟩
end
end Go.Proofs.YtipjnbbfnlfmjaaGreatDoor
namespace Pw
open Go
theorem Mp.congr {w w':World}{r:Nat}{k:IntKind}{l:List (Int × Value)}(h:Mp w r k l)(e:w'.heap[r]?=w.heap[r]?):Mp w' r k l:=by
 obtain⟨es,c,h1,h2⟩:=h
 exact⟨es,c,by rw[e]; exact h1,h2⟩
theorem Mp.frF {w w':World}{r:Nat}{k:IntKind}{l:List (Int × Value)}{F:Nat->Prop}(h:Mp w r k l)(f:Fr F w w')(hn:¬F r):Mp w' r k l:=by
 obtain⟨es,c,h1,h2⟩:=h
 exact Mp.congr ⟨es,c,h1,h2⟩ (f.2.1 r (Array.getElem?_eq_some_iff.1 h1).1 hn)
theorem qb3 {α:Type}{n:Int}{v:α}:∀ {l:List (Int × α)},(∀ p∈l,p.1≠n)->mput n v l=l++[(n,v)]
 | [],_=>rfl
 | p :: l,h=>by
  unfold mput
  rw[if_neg (h p (by simp)),qb3 fun q hq=>h q (by simp[hq])]
  rfl
theorem qge {w:World}{r:Nat}{k:IntKind}{n:Int}{v:Value}:Fr (fun b=>b=r) w (w.mset r k n v):=by
 refine⟨by simp[World.mset],fun b _ hn=>?_,rfl,rfl,rfl⟩
 unfold World.mset
 rw[Array.getElem?_modify,if_neg fun h=>hn h.symm]
end Pw
namespace Go.Proofs.YtipjnbbfnlfmjaaGreatDoor
open Go Pw Dp
section
variable {w w' w0 u:World}{s:Sl}{x:T43}{t:Td}
theorem qb4 {l:Int × Int}{lot:Int}{b:Nat}{K:Bool->World->Prop}(h:Row w b [.int .i64 lot])(hK:∀ w',Fr F0 w w'->K (decide (l.1=lot)) w'):z1k_sh l.1 l.2 ⟨b,0,none⟩ K w:=by
 refine⟨?_⟩
 intro w1
 have m1:Mem w w1 [(w.heap.size,[.int .i64 l.1,.int .i64 l.2])]:=Mem.nil.allocL (cs:=[.int .i64 l.1,.int .i64 l.2])
 clear_value w1
 refine⟨l.1,m1.ld 0,lot,(m1.1.row h fun h=>h).at rfl,?_⟩
 dsimp -zeta only; rw[qew]
 exact hK _ m1.1
theorem ldE {l:List En}{i:Int}{K:Int->Int->Int->Int->Sl->Prop}(h:Vw 5 encE w s l)(i':Nat)(hi:i=(i':Int))(h1:i'<l.length)(hK:K l[i'].b l[i'].l l[i'].r l[i'].p l[i'].v) :
  nz s.p fun a=>(0<=i/\i<(s.l:Nat))/\∃ x:Int,w.cell? (a.add (i.toNat*5))=some (Value.int .i64 x)/\∃ y:Int,w.cell? ((a.add (i.toNat*5)).add 1)=some (Value.int .i64 y)/\∃ z:Int,w.cell? ((a.add (i.toNat*5)).add 2)=some (Value.int .i64 z)/\∃ q:Int,w.cell? ((a.add (i.toNat*5)).add 3)=some (Value.int .i64 q)/\∃ v:Sl,w.cell? ((a.add (i.toNat*5)).add 4)=some (Value.slice v.p v.l v.c)/\K x y z q v :=
 Vw.go qev (by decide) h i' hi h1 fun _ hc=>⟨_,hc 0 _ rfl,_,hc 1 _ rfl,_,hc 2 _ rfl,_,hc 3 _ rfl,_,hc 4 _ rfl,hK⟩
structure EnI (w w7:World)(bl b1 b2:Nat)(lot:Int)(l:List En)(i:Nat)(o:Sl)(u:World):Prop where
 f:Fr F0 w u
 le:w7.heap.size<=u.heap.size
 r:Row u bl [.int .i64 lot]
 ow:Ow 5 encE u o (l.take i)
 os:∀ b,inB o b->w7.heap.size<=b
 m1:Mp u b1 .i64 ((l.take i).map fun e=>(e.b,.bool true))
 m2:Mp u b2 .i64 ((l.take i).map fun e=>(e.r,.bool true))
theorem EnI.fr {w7:World}{bl b1 b2:Nat}{lot:Int}{l:List En}{i:Nat}{o:Sl}(h:EnI w w7 bl b1 b2 lot l i o u)(f:Fr F0 u w'):EnI w w7 bl b1 b2 lot l i o w' :=
 ⟨h.f.t f,Nat.le_trans h.le f.1,f.row h.r fun h=>h,h.ow.fr f,h.os,h.m1.frF f fun h=>h,h.m2.frF f fun h=>h⟩
theorem qd6 {l:List En}{lot:Int}{K:Sl->Int->World->Prop}(T:TP w x t)(hF:Fit t)(hv:Vw 5 encE w s l)(hl:l.length<=40)(hlot:t.lots.any (fun m=>decide (m.1=lot))=true)
  (h1:∀ e∈l,e.l=lot) (hb:(l.map (·.b)).Nodup) (hr:(l.map (·.r)).Nodup) (hK:∀ r w',Mk w 5 encE w' r l->K r 0 w'):z22_sh x lot s K w:=by
 have hll:=hF.lots
 have es:=hv.len
 refine⟨?_⟩
 intro w1 w2
 have m:Mem w w2 [(w1.heap.size,[.int .i64 lot]),(w.heap.size,x.cs)]:=(Mem.nil.allocL (cs:=x.cs)).allocL (cs:=[.int .i64 lot])
 clear_value w2 w1
 refine⟨_,m.ld (i:=1) 1 rfl rfl,?_⟩
 refine q5x (T.lots.fr m.1) (by omega) (p:=fun m=>decide (m.1=lot)) (fun l _=>fun u K hu hK=>q05 z1k_ok (qb4 (K:=kk [tB] K) (hu.row (m.row 0) fun h=>h) hK)) fun w4 f4=>?_
 rw[hlot]
 have m:=m.fr f4
 refine q44 ?_
 intro w6 w7
 have f6:Fr F0 w4 w6:=Fr.alloc
 have f7:Fr F0 w6 w7:=Fr.alloc
 have q1:Mp w6 w4.heap.size .i64 []:=Mp.made _ _
 have q2:Mp w7 w6.heap.size .i64 []:=Mp.made _ _
 have s6:w6.heap.size=w4.heap.size+1:=World.size_alloc _ _
 have s7:w7.heap.size=w6.heap.size+1:=World.size_alloc _ _
 have hbl:=(m.row 0).lt
 have hbw:w.heap.size<=w1.heap.size:=m.2.2.2 _ (J2 ..)
 have hw4:=m.1.1
 have hI:EnI w w7 w1.heap.size w4.heap.size w6.heap.size lot l 0 ⟨none,0,0⟩ w7 :=
  ⟨m.1.t (f6.t f7),Nat.le_refl _,(f6.t f7).row (m.row 0) fun h=>h,⟨rfl,by simpa using OwnV.nil⟩,(fun b ⟨a,ha,_⟩=>by cases ha),q1.frF f7 fun h=>h,q2⟩
 clear_value w7 w6
 refine⟨⟨fun o i u=>∃ i':Nat,i=i'/\i'<=l.length/\EnI w w7 w1.heap.size w4.heap.size w6.heap.size lot l i' o u,fun _ i _=>l.length-i.toNat,⟨0,rfl,by omega,hI⟩,?_⟩⟩
 rintro o i u ⟨i,rfl,hi,I⟩
 unfold z22_b0
 refine q00.2 ⟨fun hlt=>?_,fun hge=>?_⟩
 ·have hil:i<l.length:=by omega
  have tk:l.take (i+1)=l.take i++[l[i]]:=by rw[J5,J0 hil]; rfl
  have tl:(l.take i).length=i:=by rw[J4]; omega
  refine ldE (hv.fr I.f) i rfl hil ?_
  intro w14
  refine q11 rfl Mem.nil fun w15 m15=>?_
  have m15:Mem u w15 [(u.heap.size,encE l[i])]:=m15
  clear w14
  have I5:=I.fr m15.1
  have hub:=I.le
  refine⟨_,m15.ld (i:=1) 0 rfl rfl,lot,I5.r.at,?_⟩
  dsimp -zeta only; rw[qew,h1 _ (J1 hil),decide_eq_true rfl]
  refine q3d ⟨_,m15.ld (i:=0) 0 rfl rfl,_,m15.ld (i:=1) 0 rfl rfl,_,m15.ld (i:=2) 0 rfl rfl,_,m15.ld (i:=3) 0 rfl rfl,_,m15.ld (i:=4) 0 rfl rfl,?_⟩
  intro w23
  have hx:Vw 5 encE w23 ⟨some ⟨w15.heap.size,0,none⟩,1,1⟩ [l[i]]:=Vw.new (enc:=encE) rfl (by
   have:=h1 _ (J1 hil)
   simp only[encE,this])
  have m23:=m15.fr (w':=w23) Fr.alloc
  have I5:=I5.fr (w':=w23) Fr.alloc
  clear_value w23
  refine I5.ow.app hx qk9 rfl (by rw[tl]; simp; omega) (by rw[tl]; simp; omega) fun s24 w25 ho hf hs=>?_
  have no:∀ b,b<w7.heap.size->¬inB o b:=fun b hb hin=>by have:=I5.os b hin; omega
  have le25:=hf.1
  have l23:=I5.le
  have q1:=I5.m1.frF hf (no _ (by omega))
  have q2:=I5.m2.frF hf (no _ (by omega))
  have hnob:¬inB o u.heap.size:=fun hin=>by
   have:=I.ow.lt' hin
   omega
  have r25:=hf.row (m23.row 0) hnob
  have rl25:=hf.row I5.r (no _ (by omega))
  have f25:Fr F0 w w25:=I5.f.trans hf fun b hb hlt=>by have:=I5.os b hb; omega
  have os25:∀ b,inB s24 b->w7.heap.size<=b:=fun b hb=>by
   rcases hs b hb with h | h
   ·exact I5.os b h
   ·omega
  intro w26
  have d:Fr F0 w25 w26:=Fr.drew
  have q1:=q1.frF d fun h=>h
  have q2:=q2.frF d fun h=>h
  have r26:=d.row r25 fun h=>h
  have rl:=d.row rl25 fun h=>h
  have f26:=f25.t d
  have ho:=ho.fr d
  have le26:=d.1
  clear_value w26
  refine⟨fun v=>Row v u.heap.size (encE l[i]),r26,_,fun v h=>h.at (i:=0) rfl,_,fun v h=>h.at (i:=2) rfl,⟨_,q1⟩,?_⟩
  intro w30
  have s30:Fr (fun b=>b=w4.heap.size) w26 w30:=qge
  have q1':Mp w30 w4.heap.size .i64 (mput l[i].b (.bool true) _):=q1.set _ _
  have q2':=q2.frF s30 (by omega)
  have r30:=s30.row r26 (by omega)
  have rl30:=s30.row rl (by omega)
  have f30:Fr F0 w w30:=f26.trans s30 fun b hb hlt=>by omega
  have ho30:=ho.frF s30 fun b hb he=>by have:=os25 b hb; omega
  have le30:=s30.1
  refine⟨r30,⟨_,q2'⟩,?_⟩
  intro w31
  have s31:Fr (fun b=>b=w6.heap.size) w30 w31:=qge
  have q2'':Mp w31 w6.heap.size .i64 (mput l[i].r (.bool true) _):=q2'.set _ _
  have q1'':=q1'.frF s31 (by omega)
  have rl31:=s31.row rl30 (by omega)
  have f31:Fr F0 w w31:=f30.trans s31 fun b hb hlt=>by omega
  have ho31:=ho30.frF s31 fun b hb he=>by have:=os25 b hb; omega
  have le31:=s31.1
  refine⟨q03,⟨⟨rfl,rfl,rfl,rfl,rfl,trivial⟩,i+1,by omega,by omega,f31,by omega,rl31,by rw[tk]; exact ho31,os25,?_,?_⟩,by omega⟩
  ·rw[qb3 fun p hp=>?_] at q1''
   ·rw[tk,Jo]
    exact q1''
   ·obtain⟨e,he,rfl⟩:=Jm.1 hp
    obtain⟨j,hj,rfl⟩:=Jg.1 he
    rw[tl] at hj
    rw[Ji]
    intro hE
    have:=(Jl (h₀:=(by simp; omega:j<(l.map (·.b)).length)) (h₁:=(by simp; omega:i<(l.map (·.b)).length)) hb).1 (by simpa using hE)
    omega
  ·rw[qb3 fun p hp=>?_] at q2''
   ·rw[tk,Jo]
    exact q2''
   ·obtain⟨e,he,rfl⟩:=Jm.1 hp
    obtain⟨j,hj,rfl⟩:=Jg.1 he
    rw[tl] at hj
    rw[Ji]
    intro hE
    have:=(Jl (h₀:=(by simp; omega:j<(l.map (·.r)).length)) (h₁:=(by simp; omega:i<(l.map (·.r)).length)) hr).1 (by simpa using hE)
    omega
 ·have hil:i=l.length:=by omega
  subst hil
  obtain⟨f,le,r,ow,os,m1,m2⟩:=I
  rw[J9] at ow m1 m2
  have eo:=ow.len
  have l1:=m1.len
  have l2:=m2.len
  rw[List.length_map] at l1 l2
  refine q00.2 ⟨fun h=>by omega,fun _=>⟨_,l1,q00.2 ⟨fun h=>by omega,fun _=>⟨_,l2,q00.2 ⟨fun h=>by omega,fun _=>?_⟩⟩⟩⟩⟩
  refine hK o u ⟨f,ow,fun b hb=>?_⟩
  have:=os b hb
  omega
end
