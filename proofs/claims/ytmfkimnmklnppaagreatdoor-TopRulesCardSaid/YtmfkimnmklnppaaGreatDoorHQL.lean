/- ref06: a fair tender: ties and requirements. Conditions: none. -/
import Derived.Test.YtmfkimnmklnppaaGreatDoorHQK
open List renaming getElem?_eq_some_iff->J0,length_map->J1,length_filter_le->J2,mem_map->J3,length_set->J4,getElem?_eq_getElem->J5,getElem_mem->J6,all_eq_true->J7,set_append_right->J8,map_append->J9,length_zip->Ja,drop_succ_cons->Jb,filter_sublist->Jc,flatMap_cons->Jd,map_map->Je,nodup_cons->Jf,nil_append->Jg,mem_cons->Jh,map_cons->Ji,range->Jj
open Int renaming le_refl->Jk,toNat_natCast->Jl,lt_or_le->Jm
open Nat renaming zero_add->Jn,zero_le->Jo,lt_or_ge->Jp,le_refl->Jq
set_option maxRecDepth 20000
namespace Go.Proofs.YtmfkimnmklnppaaGreatDoor
open Go Pw Dp
section
variable{w w' w0:World}{mb bt:Nat}{ls:Sl}{l:List Int}{x x':T43}{t t':Td}{Z:List Sl}{F:Nat->Prop}{fl:Bool}{E:List Pt}{q:Pt}
def relR(r:Int):B:=if decide (r=1)then wGe else wLe
abbrev litR:List Value:=[.string (str [60,61]),.string (str [62,61])]
theorem qov{u:World}{b:Nat}{r:Int}(h:Row u b litR)(h0:0<=r)(h1:r<2):u.cell? ⟨b,r.toNat*1,none⟩=some (.string (ofL (relR r))):=by
 rcases(show r=0\/r=1 by omega)with rfl|rfl
 ·exact h.at (i:=0) rfl
 ·exact h.at (i:=1) rfl
structure RqS(bt cb:Nat)(s:Sl)(nm:B)(u:World):Prop where
 a:u.cell? ⟨bt,3,none⟩=some (.slice s.p s.l s.c)
 b:u.cell? ⟨cb,0,none⟩=some (.string (ofL nm))
theorem FZ.rqs{cb:Nat}{cr:Cr}(h:FZ w0 w mb ls l bt x t Z F fl ((fun d=>d=cb,fun u=>Row u cb (encC cr))::E)):RqS bt cb x.f3 cr.name w:=⟨h.sx.ld 1 rfl rfl,h.sx.ld 9 rfl rfl⟩
theorem FZ.rqs2{cb:Nat}{cr:Cr}(h:FZ w0 w mb ls l bt x t Z F fl (q::(fun d=>d=cb,fun u=>Row u cb (encC cr))::E)):RqS bt cb x.f3 cr.name w:=⟨h.sx.ld 1 rfl rfl,h.sx.ld 10 rfl rfl⟩
theorem qf4{cb t2:Nat}{cr:Cr}{lots criteria i low:Int}{names:Sl}{N1:Addr->Addr->Addr->Int->Sl->Int->Int->World->Prop}{K:T43->World->Prop}
  (h:FZ w0 w mb ls l bt x t Z F true ((fun d=>d=cb,fun u=>Row u cb (encC cr))::E)) (A:NA w0 ls l) (ht:t.ties.length<=4) (hr:t.reqs.length<=4) (hlow:0<=low/\low<=2) (hi:inR .i64 (i+1))
  (hN:∀u x' (o:Option (Bool×Int)),(∀r,o=some r->cr.kind=2/\0<=r.2/\r.2<=9)->FZ w0 u mb ls l bt x' { t with ties:=t.ties++[cr.name],reqs:=t.reqs++(o.map fun r=>(⟨cr.name,if r.1 then wGe else wLe,r.2⟩:Rq)).toList } Z F true ((fun d=>d=cb,fun u=>Row u cb (encC cr))::E)->N1 ⟨t2,0,none⟩ ⟨mb,0,none⟩ ⟨bt,0,none⟩ lots names criteria (i+1) u) :
  z24_k4 ⟨t2,0,none⟩ ⟨mb,0,none⟩ ⟨bt,0,none⟩ lots names criteria i low ⟨cb,0,none⟩ N1 K w:=by
 refine⟨fi ?_⟩
 simp -zeta only[q04,Jn]
 refine⟨x.f11,h.sx.ld 1 rfl rfl,_,h.sx.ld 9 rfl rfl,?_⟩
 intro w1
 have hv:Vw 1 encB w1 ⟨some ⟨w.heap.size,0,none⟩,1,1⟩ [cr.name]:=Vw.new rfl rfl
 have h:=h.fr (w':=w1) Fr.alloc
 clear_value w1
 refine h.sx.app 5 rfl hv qbj rfl oy oy fun r w2 hs _=>⟨hs.wr 1 rfl rfl,?_⟩
 intro w3
 have h:FZ w0 w3 mb ls l bt { x with f11:=r } { t with ties:=t.ties++[cr.name] } Z F true _:=⟨hs.set (i:=11) (v:=.slice r.p r.l r.c) 1 rfl,{ h.sc with }⟩
 clear_value w3
 have fin0:∀ {u:World},FZ w0 u mb ls l bt { x with f11:=r } { t with ties:=t.ties++[cr.name] } Z F true ((fun d=>d=cb,fun u=>Row u cb (encC cr))::E)->inR .i64 (i+1)/\N1 ⟨t2,0,none⟩ ⟨mb,0,none⟩ ⟨bt,0,none⟩ lots names criteria (i+1) u:=fun h =>
  ⟨hi,hN _ _ none (fun _ h=>by cases h) (by simpa using h)⟩
 refine⟨_,h.sx.ld 9 rfl rfl,q0i.2 ⟨fun hk=>?_,fun _=>fin0 h⟩⟩
 refine h.next A od od fun w4 r4 _ _ h=>q0i.2 ⟨fun _=>?_,fun _=>fin0 h⟩
 intro w5
 have h:=h.fr (w':=w5) Fr.drew
 clear_value w5
 have push:∀ {u:World} {lb:Nat} {a v:Int} {S:World->Prop} {K':Sl->World->Prop},FZ w0 u mb ls l bt { x with f11:=r } { t with ties:=t.ties++[cr.name] } Z F true ((fun d=>d=lb,fun u=>Row u lb litR)::(fun d=>d=cb,fun u=>Row u cb (encC cr))::E)->0<=a->a<2->0<=v->v<8 ->
   (∀u,RqS bt cb x.f3 cr.name u/\Row u lb litR->S u)->(∀s u',S u'->wrOk u' ⟨bt,3,none⟩->(inR .i64 (i+1)/\N1 ⟨t2,0,none⟩ ⟨mb,0,none⟩ ⟨bt,0,none⟩ lots names criteria (i+1) (u'.setCell ⟨bt,3,none⟩ (.slice s.p s.l s.c)))->K' s u') ->
   apS 3 40 [(Value.string (str [])),(Value.string (str [])),(Value.int .i64 (0:Int))] 84 x.f3 (Sl.mk (some (Addr.mk u.heap.size 0 none)) 1 1) (u.alloc (Obj.cells #[.string (ofL cr.name),.string (ofL (relR a)),.int .i64 (low+v)] 84)) K':=fun {u lb a v S K'} h a0 a1 v0 v1 hS hK=>by
  have hv:Vw 3 encR (u.alloc (Obj.cells #[.string (ofL cr.name),.string (ofL (relR a)),.int .i64 (low+v)] 84)) ⟨some ⟨u.heap.size,0,none⟩,1,1⟩ [⟨cr.name,relR a,low+v⟩]:=Vw.new rfl rfl
  have h:=h.fr (w':=u.alloc (Obj.cells #[.string (ofL cr.name),.string (ofL (relR a)),.int .i64 (low+v)] 84)) Fr.alloc
  refine h.sx.app 4 rfl hv qmo rfl oy oy fun s u2 hs _=>hK s u2 (hS _ ⟨⟨hs.ld 1 rfl rfl,hs.ld 10 rfl rfl⟩,hs.get 9 rfl⟩) (hs.wr 1 rfl rfl) ⟨hi,?_⟩
  refine hN _ { x with f11:=r,f3:=s } (some (decide (a=1),low+v)) (fun z hz=>by cases hz;exact⟨hk,uo,uo⟩) (FZ.del (q:=(fun d=>d=lb,fun u=>Row u lb litR)) ⟨hs.set (i:=3) (v:=.slice s.p s.l s.c) 1 rfl,{ h.sc with }⟩)
 refine⟨RqS bt cb x.f3 cr.name,h.rqs,x.f3,fun u hu=>hu.a,_,fun u hu=>hu.b,?_,?_⟩
 ·intro w6
  have h:FZ w0 w6 mb ls l bt _ _ Z F true _:=h.row (cs:=litR)
  clear_value w6
  refine⟨fun u=>RqS bt cb x.f3 cr.name u/\Row u w5.heap.size litR,⟨h.rqs2,h.loc⟩,fun u hu=>hu.1,h.next A od od fun w7 r7 a7 b7 h=>?_⟩
  refine⟨fun u=>RqS bt cb x.f3 cr.name u/\Row u w5.heap.size litR,⟨h.rqs2,h.loc⟩,fun u hu=>hu,⟨a7,b7⟩,_,fun u hu=>qov hu.2 a7 b7,h.next A od od fun w8 r8 a8 b8 h=>?_⟩
  refine⟨fun u=>RqS bt cb x.f3 cr.name u/\Row u w5.heap.size litR,⟨h.rqs2,h.loc⟩,fun u hu=>hu,q01,?_⟩
  intro w9
  have h9:=h.fr (w':=w9) Fr.alloc
  refine⟨fun u=>RqS bt cb x.f3 cr.name u/\Row u w5.heap.size litR,⟨h9.rqs2,h9.loc⟩,fun u hu=>hu,push h a7 b7 a8 b8 (fun u hu=>hu) fun s u' hS hw hn=>⟨_,hS,fun u hu=>hu,hw,hn⟩⟩
 ·refine h.next A od od fun w7 r7 a7 b7 h=>⟨RqS bt cb x.f3 cr.name,h.rqs,fun u hu=>hu,?_,?_⟩
  ·intro w6
   have h:FZ w0 w6 mb ls l bt _ _ Z F true _:=h.row (cs:=litR)
   clear_value w6
   refine⟨fun u=>RqS bt cb x.f3 cr.name u/\Row u w7.heap.size litR,⟨h.rqs2,h.loc⟩,fun u hu=>hu.1,⟨a7,b7⟩,_,fun u hu=>qov hu.2 a7 b7,h.next A od od fun w8 r8 a8 b8 h=>?_⟩
   refine⟨fun u=>RqS bt cb x.f3 cr.name u/\Row u w7.heap.size litR,⟨h.rqs2,h.loc⟩,fun u hu=>hu,q01,?_⟩
   intro w9
   have h9:=h.fr (w':=w9) Fr.alloc
   refine⟨fun u=>RqS bt cb x.f3 cr.name u/\Row u w7.heap.size litR,⟨h9.rqs2,h9.loc⟩,fun u hu=>hu,push h a7 b7 a8 b8 (fun u hu=>hu) fun s u' hS hw hn=>⟨_,hS,fun u hu=>hu,hw,hn⟩⟩
  ·refine h.next A od od fun w8 r8 a8 b8 h=>⟨RqS bt cb x.f3 cr.name,h.rqs,fun u hu=>hu,q01,?_⟩
   intro w6
   have h:FZ w0 w6 mb ls l bt _ _ Z F true _:=h.row (cs:=litR)
   clear_value w6
   refine⟨fun u=>RqS bt cb x.f3 cr.name u/\Row u w8.heap.size litR,⟨h.rqs2,h.loc⟩,fun u hu=>hu.1,⟨a7,b7⟩,_,fun u hu=>qov hu.2 a7 b7,?_⟩
   intro w9
   have h9:=h.fr (w':=w9) Fr.alloc
   refine⟨fun u=>RqS bt cb x.f3 cr.name u/\Row u w8.heap.size litR,⟨h9.rqs2,h9.loc⟩,fun u hu=>hu,push h a7 b7 a8 b8 (fun u hu=>hu) fun s u' hS hw hn=>⟨_,hS,fun u hu=>hu,hw,hn⟩⟩
end
section
variable{w w' w0:World}{mb bt:Nat}{ls:Sl}{l:List Int}{x x':T43}{t t':Td}{Z:List Sl}{F:Nat->Prop}{fl:Bool}{E:List Pt}{q:Pt}
theorem qf5{cb pb t2:Nat}{cr:Cr}{lots criteria i low:Int}{names:Sl}{N1:Addr->Addr->Addr->Int->Sl->Int->Int->World->Prop}{K:T43->World->Prop}{P:Nat->Prop}{pe:Fm}{pc:XC}
  (h:FZ w0 w mb ls l bt x t Z F true ((fun d=>d=pb,fun u=>Row u pb (encX pc))::(P,fun u=>XW P u pe pc)::(fun d=>d=cb,fun u=>Row u cb (encC cr))::E))
  (hk:∀u x' F',FZ w0 u mb ls l bt x' { t with fm:=.op (if cr.less then 1 else 0) t.fm pe } Z F' true ((fun d=>d=cb,fun u=>Row u cb (encC cr))::E)->z24_k4 ⟨t2,0,none⟩ ⟨mb,0,none⟩ ⟨bt,0,none⟩ lots names criteria i low ⟨cb,0,none⟩ N1 K u) :
  z24_k3 ⟨t2,0,none⟩ ⟨mb,0,none⟩ ⟨bt,0,none⟩ lots names criteria i low ⟨cb,0,none⟩ ⟨pb,0,none⟩ N1 K w:=by
 have go:∀ {o:Fin 6} {s:ByteArray},s=ofL (opB o)->o=(if cr.less then 1 else 0)->z3d_sh s x.f6 x.f7 x.f8 x.f9 x.f10 pc.op pc.n pc.d pc.nm pc.a (fun r0 r1 r2 r3 r4 w1=>stN w1 ⟨bt,6,none⟩ [.string r0,.int .i64 r1,.int .i64 r2,.string r3,.slice r4.p r4.l r4.c] fun w2=>z24_k4 ⟨t2,0,none⟩ ⟨mb,0,none⟩ ⟨bt,0,none⟩ lots names criteria i low ⟨cb,0,none⟩ N1 K w2) w:=fun {o s} hs ho=>by
  refine q6n (a:=⟨x.f6,x.f7,x.f8,x.f9,x.f10⟩) (b:=pc) fun w1 j f1 hr hj=>?_
  have h2:=Sx.joinM (A:=[_,_,_,_,_,_,_,_,_,_]) (r:=(fun b=>F b\/P b,fun u=>XW F u t.fm ⟨x.f6,x.f7,x.f8,x.f9,x.f10⟩/\XW P u pe pc)) h.sx 8 rfl (q0b.and (XW.rests _ _) (XW.rests _ _)) (fun a b=>⟨a rfl,b⟩) fun b hb=>hb
  have hx:XW (fun b=>(F b\/P b)\/b=j) w1 (.op o t.fm pe) ⟨s,0,0,str [],⟨some ⟨j,0,none⟩,2,2⟩⟩:=by
   obtain⟨g1,g2⟩:=(h2.fr f1).get 8 rfl
   exact⟨_,_,j,⟨hs,rfl,rfl,rfl⟩,rfl,hr,.inr rfl,g1.mono fun b hb=>.inl (.inl hb),g2.mono fun b hb=>.inl (.inr hb)⟩
  have h3:=h2.upd (q:=(fun b=>(F b\/P b)\/b=j,fun u=>true=true->XW (fun b=>(F b\/P b)\/b=j) u (.op o t.fm pe) ⟨s,0,0,str [],⟨some ⟨j,0,none⟩,2,2⟩⟩)) 8 rfl f1.f0 (fun u u' he h _=>(h rfl).go he) (fun _=>hx) fun b hb=>hb.imp id fun e=>by subst e;exact hj
  refine q13 (o:=6) (h3.get 1 rfl:Row w1 bt x.cs) (by show 6+5<=20;decide) fun u f4 r4=>hk u { x with f6:=s,f7:=0,f8:=0,f9:=str [],f10:=⟨some ⟨j,0,none⟩,2,2⟩ } (fun b=>(F b\/P b)\/b=j) ?_
  have h4:=h3.upd (q:=(fun c=>c=bt,fun u=>Row u bt (T43.cs { x with f6:=s,f7:=0,f8:=0,f9:=str [],f10:=⟨some ⟨j,0,none⟩,2,2⟩ }))) 1 rfl f4 (q0b.row _ _) r4 fun _ hb=>.inl hb
  subst ho
  exact FZ.del (q:=(fun d=>d=pb,fun u=>Row u pb (encX pc))) ⟨h4,{ h.sc with }⟩
 refine⟨fi ?_⟩
 simp -zeta only[q04,Jn]
 refine⟨cr.less,h.sx.ld 11 rfl rfl,q09.2 ⟨fun hl=>?_,fun hl=>?_⟩⟩
 ·exact⟨_,h.sx.ld 1 rfl rfl,_,h.sx.ld 1 rfl rfl,_,h.sx.ld 1 rfl rfl,_,h.sx.ld 1 rfl rfl,x.f10,h.sx.ld 1 rfl rfl,_,h.sx.ld 9 rfl rfl,_,h.sx.ld 9 rfl rfl,_,h.sx.ld 9 rfl rfl,_,h.sx.ld 9 rfl rfl,pc.a,h.sx.ld 9 rfl rfl,go (o:=1) rfl (by rw[hl];rfl)⟩
 ·exact⟨_,h.sx.ld 1 rfl rfl,_,h.sx.ld 1 rfl rfl,_,h.sx.ld 1 rfl rfl,_,h.sx.ld 1 rfl rfl,x.f10,h.sx.ld 1 rfl rfl,_,h.sx.ld 9 rfl rfl,_,h.sx.ld 9 rfl rfl,_,h.sx.ld 9 rfl rfl,_,h.sx.ld 9 rfl rfl,pc.a,h.sx.ld 9 rfl rfl,go (o:=0) rfl (by rw[hl];rfl)⟩
abbrev lit4:List Value:=[.int .i64 1,.int .i64 2,.int .i64 10,.int .i64 4]
abbrev qs2(i:Nat):XC:=⟨str [42],0,0,str [],⟨some ⟨i,0,none⟩,2,2⟩⟩
def EX(po lo:Option Nat)(fo:Option (Nat×Int×Int))(nm:B)(E:List Pt):List Pt:=
 (po.map fun b=>((fun c=>c=b,fun u=>Row u b [.string (str []),.int .i64 0,.int .i64 0,.string (str []),.slice none 0 0]):Pt)).toList++((lo.map fun b=>((fun c=>c=b,fun u=>Row u b lit4):Pt)).toList ++
  ((fo.map fun f=>((fun c=>c=f.1,fun u=>XW (fun c=>c=f.1) u (.op 2 (.num f.2.1 f.2.2) (.name nm)) (qs2 f.1)):Pt)).toList++E))
def PX(w0 w:World)(mb:Nat)(ls:Sl)(l:List Int)(bt:Nat)(x:T43)(t:Td)(Z:List Sl)(F:Nat->Prop)(cb:Nat)(cr:Cr)(E:List Pt)(po lo:Option Nat)(fo:Option (Nat×Int×Int)):Prop:=
 FZ w0 w mb ls l bt x t Z F true (EX po lo fo cr.name ((fun d=>d=cb,fun u=>Row u cb (encC cr))::E))
def SX(cb:Nat)(nm:B)(lo:Option Nat)(u:World):Prop:=u.cell? ⟨cb,0,none⟩=some (.string (ofL nm))/\∀b,lo=some b->Row u b lit4
variable{cb:Nat}{cr:Cr}{po lo:Option Nat}{fo:Option (Nat×Int×Int)}
theorem PX.s(h:PX w0 w mb ls l bt x t Z F cb cr E po lo fo):SX cb cr.name lo w:=by
 unfold PX at h
 constructor
 ·cases po<;>cases lo<;>cases fo<;>first|exact h.sx.ld 9 rfl rfl|exact h.sx.ld 10 rfl rfl|exact h.sx.ld 11 rfl rfl|exact h.sx.ld 12 rfl rfl
 ·intro b hb
  subst hb
  cases po<;>first|exact h.sx.get 9 rfl|exact h.sx.get 10 rfl
theorem PX.fr(h:PX w0 w mb ls l bt x t Z F cb cr E po lo fo)(f:Fr F0 w w'):PX w0 w' mb ls l bt x t Z F cb cr E po lo fo:=FZ.fr h f
theorem PX.part{e:Nat}(h:PX w0 w mb ls l bt x t Z F cb cr E none lo fo):PX w0 (w.alloc (Obj.cells #[.string (str []),.int .i64 0,.int .i64 0,.string (str []),.slice none 0 0] e)) mb ls l bt x t Z F cb cr E (some w.heap.size) lo fo:=
 FZ.row (cs:=[.string (str []),.int .i64 0,.int .i64 0,.string (str []),.slice none 0 0]) h
theorem PX.lit{e:Nat}(h:PX w0 w mb ls l bt x t Z F cb cr E po none fo):PX w0 (w.alloc (Obj.cells #[.int .i64 1,.int .i64 2,.int .i64 10,.int .i64 4] e)) mb ls l bt x t Z F cb cr E po (some w.heap.size) fo:=by
 unfold PX at h ⊢
 cases po with
 | none=>exact FZ.row (cs:=lit4) h
 | some b=>exact⟨Sx.ins (A:=[_,_,_,_,_,_,_,_,_,_]) h.sx Fr.alloc (q0b.row _ _) (Row.new (cs:=lit4)) fun b hb=>by subst hb;exact⟨Jq _,og⟩,h.sc⟩
theorem PX.op{b i:Nat}{n d:Int}(h:PX w0 w mb ls l bt x t Z F cb cr E po (some b) none)(f:Fr F0 w w')(hr:Row w' i ([⟨ofL wNum,n,d,str [],⟨none,0,0⟩⟩,⟨str [110,97,109,101],0,0,ofL cr.name,⟨none,0,0⟩⟩].flatMap encX))(hi:w.heap.size<=i/\i<w'.heap.size)(hn:I64 n)(hd:I64 d)(hl:cr.name.length<=2^20) :
  PX w0 w' mb ls l bt x t Z F cb cr E po (some b) (some (i,n,d)):=by
 have hx:XW (fun c=>c=i) w' (.op 2 (.num n d) (.name cr.name)) (qs2 i):=⟨_,_,i,⟨rfl,rfl,rfl,rfl⟩,rfl,hr,rfl,⟨rfl,hn,hd⟩,rfl,hl⟩
 unfold PX at h ⊢
 cases po with
 | none=>exact⟨Sx.ins (A:=[_,_,_,_,_,_,_,_,_,_]) h.sx f (XW.rests _ _) hx fun b hb=>by subst hb;exact hi,h.sc⟩
 | some b=>exact⟨Sx.ins (A:=[_,_,_,_,_,_,_,_,_,_,_]) h.sx f (XW.rests _ _) hx fun b hb=>by subst hb;exact hi,h.sc⟩
end
section
variable{w w' w0:World}{mb bt:Nat}{ls:Sl}{l:List Int}{x x':T43}{t t':Td}{Z:List Sl}{F:Nat->Prop}{fl:Bool}{E:List Pt}{q:Pt}
def denQ(r:Int):Int:=if r=0 then 1 else if r=1 then 2 else if r=2 then 10 else 4
theorem den_rd{u:World}{b:Nat}{r:Int}(h:Row u b lit4)(h0:0<=r)(h1:r<4):u.cell? ⟨b,r.toNat*1,none⟩=some (.int .i64 (denQ r)):=by
 rcases(show r=0\/r=1\/r=2\/r=3 by omega)with rfl|rfl|rfl|rfl
 ·exact h.at (i:=0) rfl
 ·exact h.at (i:=1) rfl
 ·exact h.at (i:=2) rfl
 ·exact h.at (i:=3) rfl
theorem den_bd(r:Int):-1000000000<denQ r/\denQ r<1000000000:=by unfold denQ;split<;>(try split)<;>(try split)<;>omega
theorem den_ne(r:Int):denQ r≠0:=by unfold denQ;split<;>(try split)<;>(try split)<;>omega
theorem PX.next{cb:Nat}{cr:Cr}{po lo:Option Nat}{fo:Option (Nat×Int×Int)}{n:Int}{K:Int->World->Prop}(h:PX w0 w mb ls l bt x t Z F cb cr E po lo fo)(A:NA w0 ls l)(hn:0<n)(hn2:n<10000)
  (hK:∀w' r,0<=r->r<n->PX w0 w' mb ls l bt x t Z F cb cr E po lo fo->K r w'):z07_sh (some ⟨mb,0,none⟩) n K w:=FZ.next h A hn hn2 hK
structure Nd(n d:Int):Prop where
 bd:1<=n/\n<=9
 num:q2h n d=true
 sm:q1x d=true
theorem nd_mk{r s:Int}(h0:0<=r)(h1:r<9):Nd (q2p (1+r) (denQ s)).n (q2p (1+r) (denQ s)).d:=by
 have:=qs0 (1+r) (by simp only[Jh,List.not_mem_nil,or_false];omega) (denQ s) (by unfold denQ;split<;>(try split)<;>(try split)<;>simp)
 exact⟨this.1,this.2.1,this.2.2⟩
theorem qf6{cb t2:Nat}{cr:Cr}{lots criteria i low:Int}{names:Sl}{N1:Addr->Addr->Addr->Int->Sl->Int->Int->World->Prop}{K:T43->World->Prop}
  (h:FZ w0 w mb ls l bt x t Z F true ((fun d=>d=cb,fun u=>Row u cb (encC cr))::E)) (A:NA w0 ls l) (hc:t.crit.length<=4) (ht:t.ties.length<=4) (hr:t.reqs.length<=4) (hlow:0<=low/\low<=2) (hi:inR .i64 (i+1)) (hl:cr.name.length<=2^20)
  (hN:∀u x' F' (n d:Int) (o:Option (Bool×Int)),Nd n d->(∀r,o=some r->cr.kind=2/\0<=r.2/\r.2<=9)->FZ w0 u mb ls l bt x' { t with crit:=t.crit++[cr],fm:=.op (if cr.less then 1 else 0) t.fm (.op 2 (.num n d) (.name cr.name)),ties:=t.ties++[cr.name],reqs:=t.reqs++(o.map fun r=>(⟨cr.name,if r.1 then wGe else wLe,r.2⟩:Rq)).toList } Z F' true E->N1 ⟨t2,0,none⟩ ⟨mb,0,none⟩ ⟨bt,0,none⟩ lots names criteria (i+1) u) :
  z24_k2 ⟨t2,0,none⟩ ⟨mb,0,none⟩ ⟨bt,0,none⟩ lots names criteria i low ⟨cb,0,none⟩ N1 K w:=by
 refine⟨fi ?_⟩
 simp -zeta only[q04,Jn]
 refine⟨x.f2,h.sx.ld 1 rfl rfl,_,h.sx.ld 9 rfl rfl,_,h.sx.ld 9 rfl rfl,_,h.sx.ld 9 rfl rfl,_,h.sx.ld 9 rfl rfl,_,h.sx.ld 9 rfl rfl,?_⟩
 intro w1
 have hv:Vw 5 encC w1 ⟨some ⟨w.heap.size,0,none⟩,1,1⟩ [cr]:=Vw.new rfl rfl
 have h:=h.fr (w':=w1) Fr.alloc
 clear_value w1
 refine h.sx.app 3 rfl hv qmn rfl oy oy fun r w2 hs _=>⟨hs.wr 1 rfl rfl,?_⟩
 intro w3
 have h:PX w0 w3 mb ls l bt { x with f2:=r } { t with crit:=t.crit++[cr] } Z F cb cr E none none none:=⟨hs.set (i:=2) (v:=.slice r.p r.l r.c) 1 rfl,{ h.sc with }⟩
 clear_value w3
 intro w4
 have h:=h.fr (w':=w4) Fr.drew
 clear_value w4
 have fin:∀ {u:World} {pb lb j:Nat} {n d:Int},PX w0 u mb ls l bt { x with f2:=r } { t with crit:=t.crit++[cr] } Z F cb cr E (some pb) (some lb) (some (j,n,d))->Nd n d ->
   stN u ⟨pb,0,none⟩ [.string (str [42]),.int .i64 0,.int .i64 0,.string (str []),.slice (some ⟨j,0,none⟩) 2 2] fun u'=>z24_k3 ⟨t2,0,none⟩ ⟨mb,0,none⟩ ⟨bt,0,none⟩ lots names criteria i low ⟨cb,0,none⟩ ⟨pb,0,none⟩ N1 K u':=fun {u pb lb j n d} h hn=>by
  refine FZ.st (E:=(fun c=>c=lb,fun u=>Row u lb lit4)::(fun c=>c=j,fun u=>XW (fun c=>c=j) u (.op 2 (.num n d) (.name cr.name)) (qs2 j))::(fun d=>d=cb,fun u=>Row u cb (encC cr))::E) h rfl fun u' h=>?_
  have h2:=Sx.del (A:=[_,_,_,_,_,_,_,_,_,_]) h.sx
  refine qf5 (pc:=qs2 j) ⟨h2,h.sc⟩ fun u x' F' h=>qf4 h A ht hr hlow hi fun u x' o ho h=>hN u x' F' n d o hn ho h.del
 refine⟨SX cb cr.name none,h.s,_,fun u hu=>hu.1,?_⟩
 repeat' first
  | exact fin h (nd_mk oo oo)
  | refine PX.next h A od od fun w5 r5 a5 b5 h=>⟨SX cb cr.name _,h.s,fun u hu=>hu,?_⟩
  | refine⟨q01,?_⟩
  | refine⟨⟨oo,oo⟩,denQ _,fun u hu=>den_rd (hu.2 _ rfl) oo oo,?_⟩
  | refine q9k ⟨oo,oo⟩ (den_bd _) (den_ne _) fun w5 f5=>⟨SX cb cr.name _,(PX.fr h f5).s,fun u hu=>hu,?_⟩;have h:=PX.fr h f5
  | refine q6n (a:=⟨_,_,_,_,⟨none,0,0⟩⟩) (b:=⟨_,_,_,_,⟨none,0,0⟩⟩) fun w5 j f5 hr hj=>⟨SX cb cr.name _,(PX.fr h f5).s,fun u hu=>hu,?_⟩;have h:=PX.op h f5 hr hj (q93 _ _).2.1 (q93 _ _).2.2 hl
  | intro w5;have h:PX w0 w5 mb ls l bt _ _ Z F cb cr E _ (some _) _:=h.lit;clear_value w5;refine⟨SX cb cr.name _,h.s,fun u hu=>⟨hu.1,fun b hb=>by cases hb⟩,?_⟩
  | intro w5;have h:PX w0 w5 mb ls l bt _ _ Z F cb cr E (some _) _ _:=h.part;clear_value w5;refine⟨SX cb cr.name _,h.s,fun u hu=>hu,?_⟩
  | apply And.intro
end
end Go.Proofs.YtmfkimnmklnppaaGreatDoor
namespace Dp
open Go Pw
abbrev pA(low high budget most:Int)(ms:List Int)(k:Int)(cs:List FC):FP:=⟨low,high,budget,most,ms,k,cs,false,0,0,0,0,0⟩
theorem qv0{low high budget most k:Int}{ms:List Int}{cs:List FC}{kind lo hi n d:Int}{less:Bool}{o:Option (Bool×Int)}{nm:B}(hn:q1q[cs.length]?=some nm) :
  { q05 (pA low high budget most ms k cs)with crit:=(q05 (pA low high budget most ms k cs)).crit++[⟨nm,kind,lo,hi,less⟩],fm:=.op (if less then 1 else 0) (q05 (pA low high budget most ms k cs)).fm (.op 2 (.num n d) (.name nm)),ties:=(q05 (pA low high budget most ms k cs)).ties++[nm],reqs:=(q05 (pA low high budget most ms k cs)).reqs++(o.map fun r=>(⟨nm,if r.1 then wGe else wLe,r.2⟩:Rq)).toList }=q05 (pA low high budget most ms k (cs++[⟨kind,lo,hi,less,n,d,o⟩])):=by
 have e:=qko (p:=pA low high budget most ms k cs) (c:=⟨kind,lo,hi,less,n,d,o⟩) hn
 have e:(pA low high budget most ms k (cs++[⟨kind,lo,hi,less,n,d,o⟩])).crits=(pA low high budget most ms k cs).crits++[(⟨kind,lo,hi,less,n,d,o⟩,nm)]:=e
 unfold q05 FP.fm
 rw[e]
 rw[J9,List.filterMap_append,List.foldl_append,J9]
 cases o<;>rfl
end Dp
namespace Go.Proofs.YtmfkimnmklnppaaGreatDoor
open Go Pw Dp
section
variable{w w' w0:World}{mb bt:Nat}{ls:Sl}{l:List Int}{x x':T43}{t t':Td}{Z:List Sl}{F:Nat->Prop}{fl:Bool}{E:List Pt}{q:Pt}
def qs3(w0:World)(K:T43->World->Prop):Prop:=∀w' x p,Fr F0 w0 w'->p.Ok->TP w' x (q05 p)->K x w'
abbrev cN:List Value:=[.string (str [115,112,101,101,100]),.string (str [99,111,109,102,111,114,116]),.string (str [119,101,105,103,104,116])]
theorem cN_vw{u:World}{b:Nat}(h:Row u b cN):Vw 1 encB u ⟨some ⟨b,0,none⟩,3,3⟩ q1q:=(Row.ow (n:=1) (enc:=encB) (l:=q1q) (fun _=>rfl) h).vw
theorem qhi{nb t2:Nat}{low high budget most k:Int}{ms:List Int}{cs:List FC}{criteria i:Int}{names:Sl}{N1:Addr->Addr->Addr->Int->Sl->Int->Int->World->Prop}{K:T43->World->Prop}
  (h:FZ w0 w mb ls l bt x (q05 (pA low high budget most ms k cs)) [] F true ((fun d=>d=nb,fun u=>Row u nb cN)::(fun d=>d=t2,fun u=>Row u t2 zX.cs)::[])) (A:NA w0 ls l) (P:PB (pA low high budget most ms k cs)) (hi:¬i<criteria) (hK:qs3 w0 K) :
  z24_b1 ⟨t2,0,none⟩ ⟨mb,0,none⟩ ⟨bt,0,none⟩ (ms.length:Int) names criteria i N1 K w:=by
 have hl:=P.lots
 refine fi ?_
 simp -zeta only[q04,Jn]
 have k5:∀ {u:World},FZ w0 u mb ls l bt x (q05 (pA low high budget most ms k cs)) [] F true ((fun d=>d=nb,fun u=>Row u nb cN)::(fun d=>d=t2,fun u=>Row u t2 zX.cs)::[])->z24_k5 ⟨t2,0,none⟩ ⟨mb,0,none⟩ ⟨bt,0,none⟩ K u:=fun h =>
  q7q h.del A fun w' x' t1 t2 t3 t4 t5 f h1 h2 h3 h4 h5 T=>hK w' x' _ f (P.ok (co:=false) (fun e=>by cases e) h1 h2 h3 h4 h5) T
 refine q00.2 ⟨fun hh=>absurd hh hi,fun _=>q00.2 ⟨fun hl1=>?_,fun _=>k5 h⟩⟩
 refine h.next A od od fun w1 r1 a1 b1 h=>q0i.2 ⟨fun _=>?_,fun _=>k5 h⟩
 have h:=h.del
 intro w2
 have h:FZ w0 w2 mb ls l bt x (q05 (pA low high budget most ms k cs)) [] F true _:=h.row (cs:=[.int .i64 1,.int .i64 3])
 clear_value w2
 intro w3
 have h:FZ w0 w3 mb ls l bt x (q05 (pA low high budget most ms k cs)) [] F true _:=h.row (cs:=[.slice (some ⟨w1.heap.size,0,none⟩) 2 2])
 clear_value w3
 generalize w1.heap.size=ib at h ⊢
 generalize w2.heap.size=ob at h ⊢
 have hs:=h.sx
 have hs:Sx w0 w3 [Nx mb ls l,(fun c=>c=bt,fun u=>Row u bt x.cs),(inB x.f1,fun u=>Ow 2 encL u x.f1 (q05 (pA low high budget most ms k cs)).lots),(inB x.f2,fun u=>Ow 5 encC u x.f2 (q05 (pA low high budget most ms k cs)).crit),(inB x.f3,fun u=>Ow 3 encR u x.f3 (q05 (pA low high budget most ms k cs)).reqs),
   (inB x.f11,fun u=>Ow 1 encB u x.f11 (q05 (pA low high budget most ms k cs)).ties),(fun c=>c=ob,fun u=>Row u ob [.slice (some ⟨ib,0,none⟩) 2 2]),(fun c=>c=ib,fun u=>Row u ib [.int .i64 1,.int .i64 3]),(F,fun u=>true=true->XW F u (q05 (pA low high budget most ms k cs)).fm ⟨x.f6,x.f7,x.f8,x.f9,x.f10⟩),(fun d=>d=t2,fun u=>Row u t2 zX.cs)]:=
  hs.pick [0,1,2,3,4,5,9,10,8,11] od rfl
 have ro:Row w3 ob [.slice (some ⟨ib,0,none⟩) 2 2]:=hs.get 6 rfl
 have ri:Row w3 ib [.int .i64 1,.int .i64 3]:=hs.get 7 rfl
 have hs:=hs.upd (q:=(inB ⟨some ⟨ob,0,none⟩,1,1⟩,fun u=>Ow 1 encZ u ⟨some ⟨ob,0,none⟩,1,1⟩ [⟨some ⟨ib,0,none⟩,2,2⟩])) 6 rfl Fr.refl (q0b.ow _ _) (Row.ow (n:=1) (enc:=encZ) (l:=[⟨some ⟨ib,0,none⟩,2,2⟩]) (fun _=>rfl) ro) fun b ⟨a,ha,hb⟩=>.inl oz
 have hs:=hs.upd (q:=(zB [⟨some ⟨ib,0,none⟩,2,2⟩],fun u=>IZ u [⟨some ⟨ib,0,none⟩,2,2⟩] [[1,3]])) 7 rfl Fr.refl (IZ.rests _ _) ⟨rfl,fun i hi hi'=>by
  have:i=0:=by simp at hi;omega
  subst this
  exact(Row.ow (n:=1) (enc:=encI) (l:=[(1:Int),3]) (fun _=>rfl) ri).vw⟩ fun b ⟨z,hz,a,ha,hb⟩=>.inl oz
 refine⟨hs.wr 1 rfl rfl,?_⟩
 have h:FZ w0 (w3.setCell ⟨bt,13,none⟩ (.slice (some ⟨ob,0,none⟩) 1 1)) mb ls l bt { x with f13:=⟨some ⟨ob,0,none⟩,1,1⟩ } { q05 (pA low high budget most ms k cs)with combos:=[[1,3]] } [⟨some ⟨ib,0,none⟩,2,2⟩] F true [(fun d=>d=t2,fun u=>Row u t2 zX.cs)]:=
  ⟨hs.set (i:=13) (v:=.slice (some ⟨ob,0,none⟩) 1 1) 1 rfl,{ h.sc with }⟩
 exact q7q h A fun w' x' t1 t2 t3 t4 t5 f h1 h2 h3 h4 h5 T=>hK w' x' _ f (P.ok (co:=true) (fun _=>by show 2<=ms.length;omega) h1 h2 h3 h4 h5) T
end
section
variable{w w' w0:World}{mb bt:Nat}{ls:Sl}{l:List Int}{x x':T43}{t t':Td}{Z:List Sl}{F:Nat->Prop}{fl:Bool}{E:List Pt}{q:Pt}
theorem qow{i:Nat}(h:i<3):∃nm,q1q[i]?=some nm/\nm.length<=2^20:=by
 rcases(show i=0\/i=1\/i=2 by omega)with rfl|rfl|rfl<;>exact⟨_,rfl,od⟩
theorem qv1{low high budget most k:Int}{ms:List Int}{cs:List FC}{c:FC}(P:PB (pA low high budget most ms k cs))(hc:c.Ok)(hl:cs.length<3):PB (pA low high budget most ms k (cs++[c])):=
 ⟨P.low,P.high,P.budget,P.most,P.lots,P.lot,P.k,by show(cs++[c]).length<=3;simp;omega,fun d hd=>by
  rcases List.mem_append.1 (show d∈cs++[c]from hd)with h|h
  ·exact P.c d h
  ·grind⟩
theorem qf7{nb t2:Nat}{low high budget most k lots:Int}{ms:List Int}{cs:List FC}{criteria:Int}{N1:Addr->Addr->Addr->Int->Sl->Int->Int->World->Prop}{K:T43->World->Prop}
  (h:FZ w0 w mb ls l bt x (q05 (pA low high budget most ms k cs)) Z F true ((fun d=>d=nb,fun u=>Row u nb cN)::E)) (A:NA w0 ls l) (hl3:cs.length<3) (hlt:(cs.length:Int)<criteria)
  (hN:∀u x' F' (c:FC),c.Ok->FZ w0 u mb ls l bt x' (q05 (pA low high budget most ms k (cs++[c]))) Z F' true ((fun d=>d=nb,fun u=>Row u nb cN)::E)->N1 ⟨t2,0,none⟩ ⟨mb,0,none⟩ ⟨bt,0,none⟩ lots ⟨some ⟨nb,0,none⟩,3,3⟩ criteria ((cs.length:Int)+1) u) :
  z24_b1 ⟨t2,0,none⟩ ⟨mb,0,none⟩ ⟨bt,0,none⟩ lots ⟨some ⟨nb,0,none⟩,3,3⟩ criteria (cs.length:Int) N1 K w:=by
 obtain⟨nm,hn,hnl⟩:=qow hl3
 have e:q1q[cs.length]'hl3=nm:=(J0.1 hn).2
 have hq:(pA low high budget most ms k cs).cs.length=cs.length:=rfl
 have hcr:(q05 (pA low high budget most ms k cs)).crit.length<=4:=by
  show((pA low high budget most ms k cs).crits.map crOf).length<=4
  rw[J1,FP.crits,Ja];omega
 have hti:(q05 (pA low high budget most ms k cs)).ties.length<=4:=by
  show(wPrice::(pA low high budget most ms k cs).crits.map (·.2)).length<=4
  rw[List.length_cons,J1,FP.crits,Ja];omega
 have hrq:(q05 (pA low high budget most ms k cs)).reqs.length<=4:=by
  have:=List.length_filterMap_le rqOf (pA low high budget most ms k cs).crits
  rw[FP.crits,Ja]at this
  show((pA low high budget most ms k cs).crits.filterMap rqOf).length<=4
  rw[FP.crits]
  omega
 refine fi ?_
 simp -zeta only[q04,Jn]
 refine q00.2 ⟨fun _=>?_,fun hh=>absurd hlt hh⟩
 refine h.next A od od fun w1 lo a1 b1 h=>?_
 intro w2
 have h:=h.fr (w':=w2) Fr.drew
 clear_value w2
 have nx:∀ {u:World},FZ w0 u mb ls l bt x (q05 (pA low high budget most ms k cs)) Z F true ((fun d=>d=nb,fun u=>Row u nb cN)::E)->Vw 1 encB u ⟨some ⟨nb,0,none⟩,3,3⟩ q1q:=fun h=>cN_vw h.loc
 have ny:∀ {u:World} {q:Pt},FZ w0 u mb ls l bt x (q05 (pA low high budget most ms k cs)) Z F true (q::(fun d=>d=nb,fun u=>Row u nb cN)::E)->Vw 1 encB u ⟨some ⟨nb,0,none⟩,3,3⟩ q1q:=fun h=>cN_vw (h.sx.get 10 rfl)
 have fin:∀ {u:World} {cb:Nat} {r s:Int} {b:Bool},FZ w0 u mb ls l bt x (q05 (pA low high budget most ms k cs)) Z F true ((fun d=>d=cb,fun u=>Row u cb [.string (str []),.int .i64 0,.int .i64 0,.int .i64 0,.bool false])::(fun d=>d=nb,fun u=>Row u nb cN)::E)->0<=r/\r<2->0<=s/\s<20 ->
   stN u ⟨cb,0,none⟩ [.string (ofL nm),.int .i64 (1+r),.int .i64 lo,.int .i64 (lo+s),.bool b] fun w'=>z24_k2 ⟨t2,0,none⟩ ⟨mb,0,none⟩ ⟨bt,0,none⟩ lots ⟨some ⟨nb,0,none⟩,3,3⟩ criteria (cs.length:Int) lo ⟨cb,0,none⟩ N1 K w':=fun {u cb r s b} h hr hs=>by
  refine h.st rfl fun u' h=>?_
  refine qf6 (cr:=⟨nm,1+r,lo,lo+s,b⟩) h A hcr hti hrq ⟨oo,oo⟩ (q01) hnl fun u x' F' n d o hnd ho h=>?_
  refine hN u x' F' ⟨1+r,lo,lo+s,b,n,d,o⟩ ⟨by show 1+r=1\/1+r=2;omega,by show 0<=lo/\lo<=2;omega,by show lo<=lo+s/\lo+s<=lo+19;omega,hnd.bd,hnd.num,hnd.sm,ho⟩ ?_
  rw[qv0 hn]at h
  exact h
 refine⟨fun u=>Vw 1 encB u ⟨some ⟨nb,0,none⟩,3,3⟩ q1q,nx h,?_⟩
 refine Vw.goS (enc:=encB) (S:=fun u=>Vw 1 encB u ⟨some ⟨nb,0,none⟩,3,3⟩ q1q) (fun _=>rfl) od (nx h) (fun u hu=>hu) cs.length rfl hl3 fun ad hc=>?_
 rw[e]at hc
 refine⟨_,hc 0 _ rfl,?_⟩
 clear hc e
 repeat' first
  | exact fin h ⟨oo,oo⟩ ⟨oo,oo⟩
  | refine FZ.next h A od od fun w5 r5 a5 b5 h=>⟨nx h,?_⟩
  | refine FZ.next h A od od fun w5 r5 a5 b5 h=>⟨ny h,?_⟩
  | refine⟨q01,?_⟩
  | intro w5;have h:FZ w0 w5 mb ls l bt x (q05 (pA low high budget most ms k cs)) Z F true _:=h.row (cs:=[.string (str []),.int .i64 0,.int .i64 0,.int .i64 0,.bool false]);clear_value w5;refine⟨ny h,?_⟩
  | apply And.intro
theorem qf8{nb t2:Nat}{low high budget most k:Int}{ms:List Int}{criteria:Int}{K:T43->World->Prop}
  (h:FZ w0 w mb ls l bt x (q05 (pA low high budget most ms k [])) [] F true ((fun d=>d=nb,fun u=>Row u nb cN)::(fun d=>d=t2,fun u=>Row u t2 zX.cs)::[])) (A:NA w0 ls l) (P:PB (pA low high budget most ms k [])) (hc:0<=criteria/\criteria<4) (hK:qs3 w0 K) :
  z24_l1 ⟨t2,0,none⟩ ⟨mb,0,none⟩ ⟨bt,0,none⟩ (ms.length:Int) ⟨some ⟨nb,0,none⟩,3,3⟩ criteria 0 K w:=by
 refine⟨⟨fun i u=>∃(cs:List FC) (x:T43) (F:Nat->Prop),i=(cs.length:Int)/\(cs.length:Int)<=criteria/\PB (pA low high budget most ms k cs)/\FZ w0 u mb ls l bt x (q05 (pA low high budget most ms k cs)) [] F true ((fun d=>d=nb,fun u=>Row u nb cN)::(fun d=>d=t2,fun u=>Row u t2 zX.cs)::[]),fun i _=>(criteria-i).toNat,⟨[],x,F,rfl,hc.1,P,h⟩,?_⟩⟩
 rintro _ u ⟨cs,x,F,rfl,hle,P,h⟩
 rcases Jm (cs.length:Int) criteria with hlt|hge
 ·refine qf7 h A oo hlt fun u x' F' c hc h=>⟨⟨⟨rfl,rfl,rfl,rfl,rfl,rfl,trivial⟩,cs++[c],x',F',og,oy,qv1 P hc oo,h⟩,uo⟩
 ·exact qhi h A P oo hK
end
section
variable{w w' w0:World}{mb bt:Nat}{ls:Sl}{l:List Int}{x x':T43}{t t':Td}{Z:List Sl}{F:Nat->Prop}{fl:Bool}{E:List Pt}{q:Pt}
abbrev tA(low high budget most:Int)(ms:List Int):Td:=⟨[116],idsL 0 ms,[],[],low,high,.num 0 1,[],most,[],budget,0,0,0,0,0⟩
theorem XW.num{P:Nat->Prop}{n d:Int}(hn:I64 n)(hd:I64 d):XW P w (.num n d) ⟨ofL wNum,n,d,str [],⟨none,0,0⟩⟩:=⟨rfl,hn,hd⟩
theorem XW.opI{P P':Nat->Prop}{o:Fin 6}{s:ByteArray}{a b:Fm}{ca cb:XC}{i:Nat}(hs:s=ofL (opB o))(hr:Row w i ([ca,cb].flatMap encX))(ha:XW P w a ca)(hb:XW P w b cb)(hp:∀b,P b->P' b)(hi:P' i):XW P' w (.op o a b) ⟨s,0,0,str [],⟨some ⟨i,0,none⟩,2,2⟩⟩:=
 ⟨ca,cb,i,⟨hs,rfl,rfl,rfl⟩,rfl,hr,hi,ha.mono hp,hb.mono hp⟩
theorem qhj{t2:Nat}{low high budget most i:Int}{ms:List Int}{N0:Addr->Addr->Addr->Int->Int->World->Prop}{K:T43->World->Prop}
  (h:FZ w0 w mb ls l bt x (tA low high budget most ms) [] F false [(fun d=>d=t2,fun u=>Row u t2 zX.cs)]) (A:NA w0 ls l) (P:∀k,1<=k/\k<=9->PB (pA low high budget most ms k [])) (hi:¬i<(ms.length:Int)) (hK:qs3 w0 K) :
  z24_b0 ⟨t2,0,none⟩ ⟨mb,0,none⟩ ⟨bt,0,none⟩ (ms.length:Int) i N0 K w:=by
 have p1:=(P 1 ⟨od,od⟩).low
 have p2:=(P 1 ⟨od,od⟩).high
 have p1:0<=low/\low<=39:=p1
 have p2:low<high/\high<=low+500:=p2
 have m1:=qsv high ⟨oo,oo⟩
 refine fi ?_
 simp -zeta only[q04,Jn]
 refine q00.2 ⟨fun hh=>absurd hh hi,fun _=>⟨x.f5,h.sx.ld 1 rfl rfl,?_⟩⟩
 rw[h.sc.high]
 refine q9k ⟨by show -1000000000<high;omega,by show high<_;omega⟩ ⟨od,od⟩ od fun w1 f1=>?_
 have h:=h.fr f1
 show stN _ _ [_,.int .i64 (q2p high 1).n,.int .i64 (q2p high 1).d,_,_] _
 rw[m1.1,m1.2]
 refine h.box2 (cs:=[.string (str []),.int .i64 0,.int .i64 0,.string (str []),.slice none 0 0]) (vs:=encX ⟨ofL wNum,high,1,str [],⟨none,0,0⟩⟩) rfl fun w2 f2 h=>?_
 generalize w1.heap.size=tb at h ⊢
 intro w3
 have h:=h.fr (w':=w3) Fr.drew
 clear_value w3
 have S:∀ {u:World} {E:List Pt},FZ w0 u mb ls l bt x (tA low high budget most ms) [] F false ((fun d=>d=tb,fun u=>Row u tb (encX ⟨ofL wNum,high,1,str [],⟨none,0,0⟩⟩))::E)->Row u tb (encX ⟨ofL wNum,high,1,str [],⟨none,0,0⟩⟩):=fun h=>h.loc
 refine⟨fun u=>Row u tb (encX ⟨ofL wNum,high,1,str [],⟨none,0,0⟩⟩),S h,_,fun u hu=>hu.at,_,fun u hu=>hu.at (i:=1) rfl,_,fun u hu=>hu.at (i:=2) rfl,_,fun u hu=>hu.at (i:=3) rfl,⟨none,0,0⟩,fun u hu=>hu.at (i:=4) rfl,_,fun u hu=>hu.at,_,fun u hu=>hu.at (i:=1) rfl,_,fun u hu=>hu.at (i:=2) rfl,_,fun u hu=>hu.at (i:=3) rfl,⟨none,0,0⟩,fun u hu=>hu.at (i:=4) rfl,?_⟩
 refine h.next A od od fun w4 r a4 b4 h=>⟨S h,q01,?_⟩
 have m2:=qsv (1+r) ⟨oo,oo⟩
 refine q9k ⟨oo,oo⟩ ⟨od,od⟩ od fun w5 f5=>?_
 have h5:=h.fr f5
 rw[m2.1,m2.2]
 refine⟨S h5,?_⟩
 refine q6n (a:=⟨ofL wNum,high,1,str [],⟨none,0,0⟩⟩) (b:=⟨str [110,97,109,101],0,0,str [112,114,105,99,101],⟨none,0,0⟩⟩) fun w6 j6 f6 r6 i6=>⟨S (h5.fr f6),?_⟩
 refine q6n (a:=⟨str [45],0,0,str [],⟨some ⟨j6,0,none⟩,2,2⟩⟩) (b:=⟨ofL wNum,high,1,str [],⟨none,0,0⟩⟩) fun w7 j7 f7 r7 i7=>⟨S ((h5.fr f6).fr f7),?_⟩
 refine q6n (a:=⟨ofL wNum,1+r,1,str [],⟨none,0,0⟩⟩) (b:=⟨str [47],0,0,str [],⟨some ⟨j7,0,none⟩,2,2⟩⟩) fun w8 j8 f8 r8 i8=>⟨S (((h5.fr f6).fr f7).fr f8),?_⟩
 have hI:∀n:Int,-1000000000<n/\n<1000000000->I64 n:=fun n hn=>⟨oo,oo⟩
 have s6:=f6.1
 have s7:=f7.1
 have s8:=f8.1
 have x6:XW (fun b=>w5.heap.size<=b/\b<w6.heap.size) w6 (.op 1 (.num high 1) (.name wPrice)) ⟨str [45],0,0,str [],⟨some ⟨j6,0,none⟩,2,2⟩⟩:=XW.opI (P:=fun _=>False) rfl r6 (XW.num (hI _ ⟨oo,oo⟩) (hI 1 ⟨od,od⟩)) ⟨rfl,od⟩ (fun _ h=>h.elim) i6
 have x7:XW (fun b=>w5.heap.size<=b/\b<w7.heap.size) w7 (.op 3 (.op 1 (.num high 1) (.name wPrice)) (.num high 1)) ⟨str [47],0,0,str [],⟨some ⟨j7,0,none⟩,2,2⟩⟩:=
  XW.opI rfl r7 (x6.go fun b hb=>f7.2.1 b hb.2 fun h=>h) (XW.num (hI _ ⟨oo,oo⟩) (hI 1 ⟨od,od⟩)) (fun b hb=>⟨hb.1,oo⟩) ⟨oo,i7.2⟩
 have x8:XW (fun b=>w5.heap.size<=b/\b<w8.heap.size) w8 (fm0 (1+r) high) ⟨str [42],0,0,str [],⟨some ⟨j8,0,none⟩,2,2⟩⟩:=
  XW.opI rfl r8 (XW.num (hI _ ⟨oo,oo⟩) (hI 1 ⟨od,od⟩)) (x7.go fun b hb=>f8.2.1 b hb.2 fun h=>h) (fun b hb=>⟨hb.1,oo⟩) ⟨oo,i8.2⟩
 refine FZ.fm (e:=fm0 (1+r) high) (c:=⟨str [42],0,0,str [],⟨some ⟨j8,0,none⟩,2,2⟩⟩) (F':=fun b=>w5.heap.size<=b/\b<w8.heap.size) h5 ((f6.t f7).t f8) x8 (fun b hb=>.inr hb) fun w9 h=>?_
 intro w10
 have h:FZ w0 w10 mb ls l bt { x with f6:=str [42],f7:=0,f8:=0,f9:=str [],f10:=⟨some ⟨j8,0,none⟩,2,2⟩ } { tA low high budget most ms with fm:=fm0 (1+r) high } [] (fun b=>w5.heap.size<=b/\b<w8.heap.size) true _:=h.del.row (cs:=cN)
 clear_value w10
 generalize w9.heap.size=nb at h ⊢
 refine h.next A od od fun w11 cr a11 b11 h=>?_
 intro w12
 have hrow:Row w12 w11.heap.size [.string (str [112,114,105,99,101])]:=((Sx.nil (w:=w11) Fr.refl).row (cs:=[.string (str [112,114,105,99,101])])).get 0 rfl
 have h:FZ w0 w12 mb ls l bt { x with f6:=str [42],f7:=0,f8:=0,f9:=str [],f10:=⟨some ⟨j8,0,none⟩,2,2⟩ } { tA low high budget most ms with fm:=fm0 (1+r) high } [] (fun b=>w5.heap.size<=b/\b<w8.heap.size) true _:=h.row (cs:=[.string (str [112,114,105,99,101])])
 clear_value w12
 generalize w11.heap.size=pb at h hrow ⊢
 have hsc:=h.sc
 have hs:=h.sx
 have hs:Sx w0 w12 [Nx mb ls l,(fun c=>c=bt,fun u=>Row u bt (T43.cs { x with f6:=str [42],f7:=0,f8:=0,f9:=str [],f10:=⟨some ⟨j8,0,none⟩,2,2⟩ })),(inB x.f1,fun u=>Ow 2 encL u x.f1 (idsL 0 ms)),(inB x.f2,fun u=>Ow 5 encC u x.f2 []),(inB x.f3,fun u=>Ow 3 encR u x.f3 []),(fun c=>c=pb,fun u=>Row u pb [.string (str [112,114,105,99,101])]),(inB x.f13,fun u=>Ow 1 encZ u x.f13 []),(zB [],fun u=>IZ u [] []),
   (fun b=>w5.heap.size<=b/\b<w8.heap.size,fun u=>true=true->XW (fun b=>w5.heap.size<=b/\b<w8.heap.size) u (fm0 (1+r) high) ⟨str [42],0,0,str [],⟨some ⟨j8,0,none⟩,2,2⟩⟩),(fun d=>d=nb,fun u=>Row u nb cN),(fun d=>d=t2,fun u=>Row u t2 zX.cs)]:=hs.pick [0,1,2,3,4,9,6,7,8,10,11] od rfl
 have hs:=hs.upd (q:=(inB ⟨some ⟨pb,0,none⟩,1,1⟩,fun u=>Ow 1 encB u ⟨some ⟨pb,0,none⟩,1,1⟩ [wPrice])) 5 rfl Fr.refl (q0b.ow _ _) (Row.ow (n:=1) (enc:=encB) (l:=[wPrice]) (fun _=>rfl) hrow) fun b ⟨a,ha,hb⟩=>.inl oz
 refine⟨hs.wr 1 rfl rfl,?_⟩
 refine qf8 (x:={ x with f6:=str [42],f7:=0,f8:=0,f9:=str [],f10:=⟨some ⟨j8,0,none⟩,2,2⟩,f11:=⟨some ⟨pb,0,none⟩,1,1⟩ }) (F:=fun b=>w5.heap.size<=b/\b<w8.heap.size) (k:=1+r) ⟨hs.set (i:=11) (v:=.slice (some ⟨pb,0,none⟩) 1 1) 1 rfl,{ hsc with }⟩ A (P _ ⟨oo,oo⟩) ⟨a11,b11⟩ hK
theorem qf9{t2:Nat}{low high budget most lots:Int}{ms:List Int}{N0:Addr->Addr->Addr->Int->Int->World->Prop}{K:T43->World->Prop}
  (h:FZ w0 w mb ls l bt x (tA low high budget most ms) Z F fl E) (A:NA w0 ls l) (hlow:0<=low/\low<=39) (hm:ms.length<3) (hi:(ms.length:Int)<lots)
  (hN:∀u x' m,low<=m/\m<=low+519->FZ w0 u mb ls l bt x' (tA low high budget most (ms++[m])) Z F fl E->N0 ⟨t2,0,none⟩ ⟨mb,0,none⟩ ⟨bt,0,none⟩ lots ((ms.length:Int)+1) u) :
  z24_b0 ⟨t2,0,none⟩ ⟨mb,0,none⟩ ⟨bt,0,none⟩ lots (ms.length:Int) N0 K w:=by
 refine fi ?_
 simp -zeta only[q04,Jn]
 refine q00.2 ⟨fun _=>?_,fun hh=>absurd hi hh⟩
 intro w1
 have h:=h.fr (w':=w1) Fr.drew
 clear_value w1
 have hS:∀ {u:World},FZ w0 u mb ls l bt x (tA low high budget most ms) Z F fl E->u.cell? ⟨bt,1,none⟩=some (.slice x.f1.p x.f1.l x.f1.c)/\u.cell? ⟨bt,4,none⟩=some (.int .i64 low):=fun h=>⟨h.sx.ld 1 rfl rfl,by have:x.f4=low:=h.sc.low;rw[←this];exact h.sx.ld 1 rfl rfl⟩
 refine⟨fun u=>u.cell? ⟨bt,1,none⟩=some (.slice x.f1.p x.f1.l x.f1.c)/\u.cell? ⟨bt,4,none⟩=some (.int .i64 low),hS h,x.f1,fun u hu=>hu.1,q01,q01,low,fun u hu=>hu.2,q01,?_⟩
 refine h.next A od od fun w2 r a2 b2 h=>⟨hS h,q01,?_⟩
 intro w3
 have hv:Vw 2 encL w3 ⟨some ⟨w2.heap.size,0,none⟩,1,1⟩ [(1+2*(ms.length:Int),low+20+r)]:=Vw.new rfl rfl
 have h:=h.fr (w':=w3) Fr.alloc
 clear_value w3
 have hil:(idsL 0 ms).length=ms.length:=q43 ms 0
 refine⟨hS h,h.sx.app 2 rfl hv qc0 rfl oz oz fun s w4 hs _=>?_⟩
 have h4:w4.cell? ⟨bt,4,none⟩=some (.int .i64 low):=by have:x.f4=low:=h.sc.low;rw[←this];exact hs.ld 1 rfl rfl
 refine⟨⟨hs.ld 1 rfl rfl,h4⟩,hs.wr 1 rfl rfl,q01,hN _ { x with f1:=s } (low+20+r) ⟨oo,oo⟩ ⟨?_,{ h.sc with }⟩⟩
 have e:idsL 0 (ms++[low+20+r])=idsL 0 ms++[(1+2*(ms.length:Int),low+20+r)]:=by
  rw[qf3]
  simp
 have hs:=hs.set (i:=1) (v:=.slice s.p s.l s.c) 1 rfl
 show Sx w0 _ (Nx mb ls l::TPs bt { x with f1:=s } ⟨[116],idsL 0 (ms++[low+20+r]),[],[],low,high,.num 0 1,[],most,[],budget,0,0,0,0,0⟩ Z F fl E)
 rw[e]
 exact hs
theorem qox{K:T43->World->Prop}(A:NA w ls l)(hK:qs3 w K):z24_sh ls K w:=by
 refine⟨fi ?_⟩
 intro w1
 have h:Sx w w1 _:=(Sx.nil Fr.refl).row (cs:=zX.cs)
 clear_value w1
 generalize w.heap.size=t2 at h ⊢
 intro w2
 have h:Sx w w2 _:=h.row (cs:=[.slice ls.p ls.l ls.c,.int .i64 0])
 clear_value w2
 generalize w1.heap.size=mb at h ⊢
 have h:Sx w w2 [Nx mb ls l,(fun c=>c=t2,fun u=>Row u t2 zX.cs)]:=h.upd (q:=Nx mb ls l) 0 rfl Fr.refl (Nx.rests mb ls l) ⟨0,Jo _,h.get 0 rfl⟩ fun _ hb=>.inl hb
 refine qs1 h A od od fun w3 low a1 b1 h=>qs1 h A od od fun w4 bu a2 b2 h=>⟨q01,qs1 h A od od fun w5 most a3 b3 h=>?_⟩
 let x0:T43:={ zX with f0:=str [116],f4:=low,f12:=most,f14:=100+bu }
 have noB:∀b,¬inB ⟨none,0,0⟩ b:=fun b ⟨a,ha,_⟩=>by cases ha
 have en:∀ {α:Type} {n:Nat} {enc:α->List Value} (u:World),Ow n enc u ⟨none,0,0⟩ ([]:List α):=fun u=>⟨rfl,OwnV.nil⟩
 refine h.box (cs:=zX.cs) (vs:=x0.cs) rfl fun w6 f6 h=>?_
 generalize w5.heap.size=bt at h ⊢
 have h:=q1m (Q:=fun u=>false=true->XW (fun _=>False) u (.num 0 1) ⟨x0.f6,x0.f7,x0.f8,x0.f9,x0.f10⟩) h (fun _ _ _ _ h=>by cases h) (fun h=>by cases h) (fun _=>False) fun _ h=>h
 have h:=q1m (Q:=fun u=>IZ u [] []) h (fun _ _ _ h=>⟨h.1,fun i hi=>by cases hi⟩) ⟨rfl,fun i hi=>by cases hi⟩ (zB []) fun b ⟨z,hz,_⟩=>by cases hz
 have h:=q1m (Q:=fun u=>Ow 1 encZ u x0.f13 []) h (fun _ _ _ _=>en _) (en _) (inB x0.f13) noB
 have h:=q1m (Q:=fun u=>Ow 1 encB u x0.f11 []) h (fun _ _ _ _=>en _) (en _) (inB x0.f11) noB
 have h:=q1m (Q:=fun u=>Ow 3 encR u x0.f3 []) h (fun _ _ _ _=>en _) (en _) (inB x0.f3) noB
 have h:=q1m (Q:=fun u=>Ow 5 encC u x0.f2 []) h (fun _ _ _ _=>en _) (en _) (inB x0.f2) noB
 have h:=q1m (Q:=fun u=>Ow 2 encL u x0.f1 []) h (fun _ _ _ _=>en _) (en _) (inB x0.f1) noB
 have h:FZ w w6 mb ls l bt x0 ⟨[116],[],[],[],low,0,.num 0 1,[],most,[],100+bu,0,0,0,0,0⟩ [] (fun _=>False) false [(fun c=>c=t2,fun u=>Row u t2 zX.cs)]:=
  ⟨h.pick [8,7,0,1,2,3,4,5,6,9] od rfl,⟨rfl,rfl,rfl,rfl,rfl,rfl,rfl,rfl,rfl,rfl⟩⟩
 intro w7
 have h:=h.fr (w':=w7) Fr.drew
 clear_value w7
 refine⟨fun u=>u.cell? ⟨bt,4,none⟩=some (.int .i64 low),h.sx.ld 1 rfl rfl,low,fun u hu=>hu,q01,h.next A od od fun w8 r a4 b4 h=>⟨h.sx.ld 1 rfl rfl,q01,h.wr rfl,?_⟩⟩
 intro w9
 have h:FZ w w9 mb ls l bt { x0 with f5:=low+1+r } (tA low (low+1+r) (100+bu) most []) [] (fun _=>False) false [(fun c=>c=t2,fun u=>Row u t2 zX.cs)]:=h.put rfl rfl rfl rfl rfl rfl rfl rfl rfl rfl rfl rfl rfl { h.sc with high:=rfl }
 clear_value w9
 refine h.next A od od fun w10 n a5 b5 h=>⟨q01,?_⟩
 refine⟨⟨fun i u=>∃(ms:List Int) (x:T43),i=(ms.length:Int)/\(ms.length:Int)<=1+n/\(∀m∈ms,low<=m/\m<=low+519)/\FZ w u mb ls l bt x (tA low (low+1+r) (100+bu) most ms) [] (fun _=>False) false [(fun c=>c=t2,fun u=>Row u t2 zX.cs)],fun i _=>(1+n-i).toNat,⟨[],_,rfl,by show(0:Int)<=1+n;omega,(fun m hm=>by cases hm),h⟩,?_⟩⟩
 rintro _ u ⟨ms,x,rfl,hle,hb,h⟩
 rcases Jm (ms.length:Int) (1+n)with hlt|hge
 ·refine qf9 h A ⟨a1,oo⟩ oo hlt fun u x' m hm h=>⟨⟨⟨rfl,rfl,rfl,rfl,trivial⟩,ms++[m],x',og,oy,fun z hz=>?_,h⟩,uo⟩
  grind
 ·have e:1+n=(ms.length:Int):=oo
  rw[e]
  exact qhj h A (fun k hk=>⟨⟨a1,by show low<=39;omega⟩,⟨by show low<low+1+r;omega,by show low+1+r<=low+500;omega⟩,⟨by show 100<=100+bu;omega,by show 100+bu<=2099;omega⟩,⟨a3,by show most<=2;omega⟩,⟨by show 1<=ms.length;omega,by show ms.length<=3;omega⟩,hb,hk,Jo _,fun c hc=>by cases hc⟩) oo hK
end
end Go.Proofs.YtmfkimnmklnppaaGreatDoor
namespace Pw
open Go
theorem qoy{α:Type}{n j:Nat}{enc:α->List Value}{v:Value}{a':α}(hn:∀a,(enc a).length=n)(hj:j<n):∀(l:List α) (i:Nat) (h:i<l.length),(enc l[i]).set j v=enc a'->(l.flatMap enc).set (i*n+j) v=(l.set i a').flatMap enc
 | a::l,0,_,e=>oz
 | a::l,i+1,h,e=>by
  rw[Jd,List.set_cons_succ,Jd,J8 _ _ oz,hn,show(i+1)*n+j-n=i*n+j by rw[Nat.add_mul];omega]
  rw[qoy hn hj l i (by simpa using h) e]
theorem Ow.cell{α:Type}{n:Nat}{enc:α->List Value}{w:World}{s:Sl}{l:List α}{K:Addr->Prop}(hn:∀a,(enc a).length=n)(h:Ow n enc w s l){i:Int}(i':Nat)(hii:i=(i':Int))(hi:i'<l.length)(j:Nat)(hj:j<n)
  (hK:∀ad,wrOk w ((ad.add (i.toNat*n)).add j)->(∀v a',(enc l[i']).set j v=enc a'->Ow n enc (w.setCell ((ad.add (i.toNat*n)).add j) v) s (l.set i' a')/\Fr (inB s) w (w.setCell ((ad.add (i.toNat*n)).add j) v))->K ad):nz s.p fun ad=>(0<=i/\i<(s.l:Nat))/\K ad:=by
 subst hii
 obtain⟨hl,hown⟩:=h
 obtain⟨hlen,hnil|⟨b,cs,hp,hrow,hcs,hle,ht⟩⟩:=hown
 ·omega
 have hfm:(l.flatMap enc).length=l.length*n:=q1d hn l
 have hcl:(l.flatMap enc).length<=cs.length:=oz
 have hin:i'*n+n<=l.length*n:=by
  have:(i'+1)*n<=l.length*n:=Nat.mul_le_mul_right n hi
  grind
 rw[hp]
 refine⟨⟨oo,oo⟩,hK _ ?_ fun v a' e=>?_⟩
 ·rw[q04,q04,Jn,Jl]
  exact hrow.wr oo
 ·rw[q04,q04,Jn,Jl]
  refine⟨⟨by rw[J4];exact hl,by rw[q1d hn,J4,←hl],.inr ⟨b,_,hp,hrow.set (i'*n+j) v,by rw[J4];exact hcs,hle,?_⟩⟩,Fr.set ⟨_,hp,rfl⟩⟩
  rw[←qoy hn hj l i' hi e,J4,List.take_set,ht]
end Pw
namespace Dp
open Go Pw
theorem q4a{α:Type}(f:α->Int):∀(l:List α) (i:Nat) (h:i<l.length),(l.map f).Nodup->l.take i++l.drop (i+1)=l.filter fun e=>decide (f e≠f l[i])
 | a::l,0,_,hn=>by
  rw[Ji,Jf]at hn
  rw[List.filter_cons_of_neg og]
  simp only[List.take_zero,Jg,Jn,Jb,List.drop_zero]
  refine(List.filter_eq_self.2 fun e he=>?_).symm
  grind
 | a::l,i+1,h,hn=>by
  have hi:i<l.length:=by simpa using h
  rw[Ji,Jf]at hn
  have e:(a::l)[i+1]=l[i]:=rfl
  have e2:f a≠f l[i]:=fun e=>hn.1 (J3.2 ⟨l[i],J6 hi,e.symm⟩)
  rw[e,List.filter_cons_of_pos oz]
  rw[List.take_succ_cons,Jb,List.cons_append,q4a f l i hi hn.2]
theorem qb5:∀n:Nat,((Jj n).map fun(i:Nat)=>(i:Int)+1).Nodup:=fun n =>
 List.Pairwise.map _ (fun a b h e=>h oo) List.nodup_range
theorem q6q(t:Rv)(es:List En):(q2d t es).length=es.length:=by
 have:=Go.Proofs.YtmfkimnmklnppaaGreatDoor.splQ_len t (lowQ t es).1 es ([],[])
 simp only[List.length_nil,Jn]at this
 unfold q2d splQ
 rw[List.length_append,q49,q4p,this]
theorem qoz{p:FP}(h:p.Ok):p.fm.tiny=true:=by
 have hk:=h.k
 have hh:=h.high
 have hl:=h.low
 have key:∀(l:List (FC×B)) (e:Fm),(∀c∈l,c.1.Ok)->e.tiny=true->(l.foldl fmS e).tiny=true:=by
  intro l
  induction l with
  | nil=>grind
  | cons c l ih =>
   intro e hc he
   refine ih _ (fun d hd=>hc d (by simp[hd])) ?_
   have ok:=hc c og
   have hd:=ok.d
   have hn:=ok.n
   unfold q1x at hd
   simp only[decide_eq_true_eq]at hd
   unfold fmS
   simp only[Fm.tiny,he,Bool.true_and,Bool.and_true,decide_eq_true_eq]
   omega
 refine key _ _ (fun c hc=>h.c _ (q0p hc).1) ?_
 unfold fm0
 simp only[Fm.tiny,Bool.and_true,Bool.and_eq_true,decide_eq_true_eq]
 omega
end Dp
namespace Go.Proofs.YtmfkimnmklnppaaGreatDoor
open Go Pw Dp
theorem qkp{p:FP}(h:p.Ok):SmT (q05 p):=by
 have h0:=h.low
 have h1:=h.high
 have h2:=h.budget
 have h3:=h.most
 have g1:=h.t1
 have g2:=h.t2
 have g3:=h.t3
 have g4:=h.t4
 have g5:=h.t5
 refine⟨by show p.budget<_;omega,by show p.t1<_;omega,by show p.t2<_;omega,by show p.t3<_;omega,by show p.t4<_;omega,by show p.t5<_;omega,by show p.low<_;omega,by show p.high<_;omega,by show p.most<_;omega,fun l hl=>?_,fun c hc=>?_,fun r hr=>?_,fun l hl n hn=>?_,qoz h⟩
 ·obtain⟨a,_,b⟩:=q69 hl
  have:=h.lot _ a
  have:=h.lots
  omega
 ·obtain⟨x,hx,rfl⟩:=J3.1 hc
  have ok:=h.c _ (q0p hx).1
  have k1:=ok.low
  have k2:=ok.high
  exact⟨by show x.1.low<_;omega,by show x.1.high<_;omega⟩
 ·obtain⟨x,hx,e⟩:=List.mem_filterMap.1 hr
  unfold rqOf at e
  cases hq:x.1.req with
  | none=>grind
  | some q =>
   rw[hq]at e
   cases e
   have k:=(h.c _ (q0p hx).1).req q hq
   grind
 ·replace hl:l∈(if p.combo then [[1,3]]else([]:List (List Int))):=hl
  grind
theorem q9n{t:Td}(R:q0m t)(hn:t.name.length<=30):Fit t:=by
 have w:∀ {s:B},q1e s=true->s.length<=2^20:=fun {s} h=>by
  unfold q1e at h
  simp only[Bool.and_eq_true]at h
  have h4:=q1y h.1
  unfold q0w at h4
  grind
 have i:∀ {lo n:Int},inN lo n->0<=lo->I64 n:=fun {lo n} h h0=>⟨by have:=h.1;omega,by have:=h.2;omega⟩
 have z:(0:Int)<=1:=od
 have r1:=R.lots
 have r2:=R.crit
 have r3:=R.reqs
 have r4:=R.ties
 have r5:=R.combos
 have r6:=R.fm.2.1
 refine⟨oo,oo,oo,oo,oo,oo,oo,fun l hl=>⟨i (R.lotN l hl).1 z,i (R.lotN l hl).2 (Jk _)⟩,fun c hc=>?_,fun r hr=>?_,fun s hs=>?_,fun l hl=>⟨by have:=(R.comboN l hl).2.1;omega,fun n hn=>i ((R.comboN l hl).2.2.1 n hn) z⟩,i R.low (Jk _),i R.high (Jk _),i R.most (Jk _),i R.budget (Jk _),i R.t1 (Jk _),i R.t2 (Jk _),i R.t3 (Jk _),i R.t4 (Jk _),i R.t5 (Jk _)⟩
 ·obtain⟨a,b,c,d⟩:=R.critN c hc
  exact⟨w a,⟨oo,oo⟩,i c (Jk _),i d (Jk _)⟩
 ·obtain⟨a,b,c⟩:=R.reqN r hr
  exact⟨w a,by rcases b with e|e<;>rw[e]<;>decide,i c (Jk _)⟩
 ·rcases R.tieN s hs with e|e
  ·rw[e];decide
  ·exact w e
section
variable{w w' w0 u:World}{p:FP}{x:T43}{bt:Nat}{K:Bool->World->Prop}
structure TT(w0:World)(bt:Nat)(x:T43)(p:FP):Prop where
 r:Row w0 bt x.cs
 T:TP w0 x (q05 p)
 P:p.Ok
theorem TT.fr(h:TT w bt x p)(f:Fr F0 w w'):TT w' bt x p:=⟨f.row h.r fun h=>h,h.T.fr f,h.P⟩
theorem pts_I{e:En}{low lot:Int}(T:TP w x (q05 p))(E:EnOk w e)(hlow:I64 low):I64 (ptsQ (q0e (q05 p) lot) e low).1.1/\I64 (ptsQ (q0e (q05 p) lot) e low).1.2:=
 quv (fun v hv=>by
  simp only[Jh]at hv
  rcases hv with rfl|rfl|h
  ·exact E.p
  ·exact hlow
  ·exact E.i v h) T.fm
theorem qhk{bb pb:Nat}{e e':En}{low:Int}(H:TT u bt x p)(hb:Row u bb (encE e'))(hp:Row u pb [.int .i64 (ptF p e).num,.int .i64 ((ptF p e).den:Int)])(E:EnOk u e)(E':EnOk u e')(F:EF p e)(F':EF p e')(hlow:I64 low)
  (hc:0<=cmpQ (ptF p e').num ((ptF p e').den:Int) (ptF p e).num ((ptF p e).den:Int)) (hK:∀w',Fr F0 u w'->K true w'):z13_k3 true ⟨bt,0,none⟩ low ⟨bb,0,none⟩ ⟨pb,0,none⟩ 0 K u:=by
 have e1:=q81 H.P F 1 low
 have e2:=q81 H.P F' 1 low
 have i1:=pts_I (lot:=1) H.T E hlow
 have i2:=pts_I (lot:=1) H.T E' hlow
 rw[e1]at i1
 rw[e2]at i2
 refine⟨fi ?_⟩
 simp -zeta only[q04,Jn]
 refine T43.ld_row H.r ⟨_,hb.at,_,hb.at (i:=1) rfl,_,hb.at (i:=2) rfl,_,hb.at (i:=3) rfl,e'.v,hb.at (i:=4) rfl,?_⟩
 refine q34 (e:=e') (lot:=1) H.T E' hlow fun w1 f1=>?_
 rw[e2]
 intro w2
 have h:Sx w1 w2 _:=(Sx.nil Fr.refl).row (cs:=[.int .i64 0,.int .i64 0])
 clear_value w2
 generalize w1.heap.size=qb at h ⊢
 refine⟨h.wr 0 rfl rfl,?_⟩
 intro w3
 have h:Sx w1 w3 _:=h.set (i:=0) (v:=.int .i64 (ptF p e').num) 0 rfl
 clear_value w3
 refine⟨h.wr 0 rfl rfl,?_⟩
 intro w4
 have h:Sx w1 w4 _:=h.set (i:=1) (v:=.int .i64 ((ptF p e').den:Int)) 0 rfl
 clear_value w4
 have f:Fr F0 u w4:=f1.t h.fr0
 have hp:=f.row hp fun h=>h
 refine q08 (q08 (q08 ⟨_,h.ld 0 rfl rfl,_,h.ld 0 rfl rfl,_,hp.at rfl,_,hp.at (i:=1) rfl,q40 i2.1 i2.2 i1.1 i1.2 fun w5 f5=>?_⟩))
 rw[decide_eq_true hc]
 exact hK w5 (f.t f5)
theorem EnOk.setp{e:En}{q:Int}(h:EnOk w e)(hq:I64 q):EnOk w { e with p:=q }:={ h with p:=hq }
theorem qkq{s s':Sl}{es:List En}{L:List Pt}{g:Nat}{low n i:Int}{N2:Bool->Addr->Sl->Int->Int->Sl->Int->Int->World->Prop}(H:TT w0 bt x p)(h:Sx w0 u ((inB s,fun u=>Ow 5 encE u s es)::EP es::L))(hE:∀e∈es,EF p e)(hg:g<es.length)
  (hl1:p.low<=low) (hl2:low<=es[g].p) (hi:¬i<n) (hK:∀w',Fr F0 w0 w'->K true w'):z13_b2 true ⟨bt,0,none⟩ s (g:Int) low s' n i N2 K u:=by
 have hm:=J6 hg
 have F:=hE _ hm
 have P:=H.P
 have p1:=P.low
 have p2:=P.high
 have p3:=F.lo
 have p4:=F.hi
 obtain⟨e,hge⟩:∃e,es[g]=e:=⟨_,rfl⟩
 have hv:∀ {v:World} {L:List Pt},Sx w0 v ((inB s,fun u=>Ow 5 encE u s es)::L)->Vw 5 encE v s es:=fun h=>(h.get 0 rfl:Ow 5 encE _ s es).vw
 refine fi ?_
 refine q00.2 ⟨fun hh=>absurd hh hi,fun _=>?_⟩
 refine ldE (hv h) g rfl hg ?_
 rw[hge]at hl2 F p3 p4 ⊢
 have hlow:I64 low:=⟨oo,oo⟩
 refine h.box (vs:=encE e) rfl fun w1 f1 h=>?_
 generalize u.heap.size=bb at h ⊢
 refine⟨_,h.ld 0 rfl rfl,q01,h.wr 0 rfl rfl,?_⟩
 intro w2
 have h:Sx w0 w2 ((fun c=>c=bb,fun u=>Row u bb (encE { e with p:=max low (e.p-3) }))::(inB s,fun u=>Ow 5 encE u s es)::EP es::L):=h.set (i:=3) (v:=.int .i64 (max low (e.p-3))) 0 rfl
 clear_value w2
 intro w3
 have h:=h.fr (w':=w3) Fr.drew
 clear_value w3
 have hEn:∀ {v:World} {A:List Pt},Sx w0 v (A++(inB s,fun u=>Ow 5 encE u s es)::EP es::L)->EnOk v e:=fun {v A} h=>by
  have:=(h.drp A).get 1 rfl
  grind
 have F':EF p { e with p:=max low (e.p-3) }:=⟨F.nm,F.vb,by show p.low<=max low _;omega,by show max low _<=p.high;omega⟩
 have hI:I64 (max low (e.p-3)):=⟨oo,oo⟩
 have hc:=qeh (e:=e) (x:=max low (e.p-3)) P oo
 have fin:∀ {v:World} {pb:Nat},Sx w0 v ((fun c=>c=pb,fun u=>Row u pb [.int .i64 (ptF p e).num,.int .i64 ((ptF p e).den:Int)])::(fun c=>c=bb,fun u=>Row u bb (encE { e with p:=max low (e.p-3) }))::(inB s,fun u=>Ow 5 encE u s es)::EP es::L) ->
   z13_k3 true ⟨bt,0,none⟩ low ⟨bb,0,none⟩ ⟨pb,0,none⟩ 0 K v:=fun h =>
  qhk (H.fr h.fr0) (h.get 1 rfl) (h.get 0 rfl) (hEn (A:=[_,_]) h) ((hEn (A:=[_,_]) h).setp hI) F F' hlow hc fun w' f=>hK w' (h.fr0.t f)
 have pt:∀ {v:World} {A:List Pt} {J:Int->Int->Int->World->Prop},Sx w0 v (A++(inB s,fun u=>Ow 5 encE u s es)::EP es::L)->(∀w',Sx w0 w' (A++(inB s,fun u=>Ow 5 encE u s es)::EP es::L)->J (ptF p e).num ((ptF p e).den:Int) 0 w')->z5d_sh x e.b e.l e.r e.p e.v low J v:=fun {v A J} h hJ=>by
  refine q34 (lot:=1) (H.fr h.fr0).T (hEn h) hlow fun w' f=>?_
  rw[q81 P F 1 low]
  exact hJ w' (h.fr f)
 refine⟨fun v=>Sx w0 v ((fun c=>c=bb,fun u=>Row u bb (encE { e with p:=max low (e.p-3) }))::(inB s,fun u=>Ow 5 encE u s es)::EP es::L),h,T43.lds_row (fun v hv=>(H.fr hv.fr0).r) ?_⟩
 refine Vw.goS (enc:=encE) (S:=fun v=>Sx w0 v ((fun c=>c=bb,fun u=>Row u bb (encE { e with p:=max low (e.p-3) }))::(inB s,fun u=>Ow 5 encE u s es)::EP es::L)) (fun _=>rfl) od h (fun v h=>hv h.tail) g rfl hg fun ad hcc=>?_
 rw[hge]at hcc
 refine⟨_,hcc 0 _ rfl,_,hcc 1 _ rfl,_,hcc 2 _ rfl,_,hcc 3 _ rfl,e.v,hcc 4 _ rfl,?_,?_⟩
 ·refine pt (A:=[_]) h fun w4 h=>⟨h,?_⟩
  intro w5
  have h:Sx w0 w5 _:=h.row (cs:=[.int .i64 0,.int .i64 0])
  clear_value w5
  generalize w4.heap.size=pb at h ⊢
  refine⟨h.tail,h.wr 0 rfl rfl,?_⟩
  intro w6
  have h:Sx w0 w6 _:=h.set (i:=0) (v:=.int .i64 (ptF p e).num) 0 rfl
  clear_value w6
  exact⟨h.wr 0 rfl rfl,fin (h.set (i:=1) (v:=.int .i64 ((ptF p e).den:Int)) 0 rfl)⟩
 ·intro w5
  have h:Sx w0 w5 _:=h.row (cs:=[.int .i64 0,.int .i64 0])
  clear_value w5
  generalize w3.heap.size=pb at h ⊢
  refine⟨h.tail,pt (A:=[_,_]) h fun w4 h=>⟨h.wr 0 rfl rfl,?_⟩⟩
  intro w6
  have h:Sx w0 w6 _:=h.set (i:=0) (v:=.int .i64 (ptF p e).num) 0 rfl
  clear_value w6
  exact⟨h.wr 0 rfl rfl,fin (h.set (i:=1) (v:=.int .i64 ((ptF p e).den:Int)) 0 rfl)⟩
end
section
variable{w w' w0 u:World}{p:FP}{x:T43}{bt:Nat}{K:Bool->World->Prop}
structure EL(p:FP)(lot:Int)(es:List En):Prop where
 len:es.length<=6
 b:es.map (·.b)=(Jj es.length).map fun(i:Nat)=>(i:Int)+1
 r:es.map (·.r)=(Jj es.length).map fun(i:Nat)=>(i:Int)+1
 F:∀e∈es,EF p e
 l:∀e∈es,e.l=lot
theorem EL.nb{lot:Int}{es:List En}(h:EL p lot es):(es.map (·.b)).Nodup:=by rw[h.b];exact qb5 _
theorem EL.nr{lot:Int}{es:List En}(h:EL p lot es):(es.map (·.r)).Nodup:=by rw[h.r];exact qb5 _
theorem qhl{s:Sl}{es:List En}{L:List Pt}{g:Nat}(H:TT w0 bt x p)(h:Sx w0 u ((inB s,fun u=>Ow 5 encE u s es)::EP es::L))(hE:∀e∈es,EF p e)(hg:g<es.length)(h6:es.length<=6)
  (hK:∀w',Fr F0 w0 w'->K true w'):z13_l2 true ⟨bt,0,none⟩ s (g:Int) p.high s (s.l:Int) 0 K u:=by
 have hsl:=(h.get 0 rfl:Ow 5 encE u s es).len
 have p1:=H.P.low
 have p2:=H.P.high
 refine⟨⟨fun low i v=>∃i':Nat,i=(i':Int)/\i'<=es.length/\p.low<=low/\low<=p.high/\(∀j (hj:j<es.length),j<i'->low<=es[j].p)/\Sx w0 v ((inB s,fun u=>Ow 5 encE u s es)::EP es::L),fun _ i _=>es.length-i.toNat,⟨0,rfl,Jo _,oo,Jk _,(fun j _ hj=>absurd hj (Nat.not_lt_zero j)),h⟩,?_⟩⟩
 rintro low _ v ⟨i,rfl,hi,l1,l2,l3,h⟩
 rcases Jp i es.length with hlt|hge
 ·refine fi ?_
  refine q00.2 ⟨fun _=>?_,fun hh=>absurd (show(i:Int)<(s.l:Int) by omega) hh⟩
  have F:=hE _ (J6 hlt)
  have p3:=F.lo
  have p4:=F.hi
  refine ldE (h.get 0 rfl:Ow 5 encE v s es).vw i rfl hlt ?_
  obtain⟨e,he⟩:∃e,es[i]=e:=⟨_,rfl⟩
  rw[he]at p3 p4 ⊢
  refine h.box (vs:=encE e) rfl fun w1 f1 h=>⟨_,h.ld 0 rfl rfl,q01,⟨⟨rfl,rfl,rfl,rfl,rfl,rfl,trivial⟩,i+1,oo,oo,oo,oo,fun j hj hj2=>?_,h.tail⟩,uo⟩
  grind
 ·exact qkq H h hE hg l1 (l3 g hg oo) oo hK
theorem qs4{a n:Int}(ha:0<=a)(hn:0<n):∃g:Nat,Int.tmod a n=(g:Int)/\(g:Int)<n:=by
 have h1:=Int.tmod_nonneg n ha
 have h2:=Int.tmod_lt_of_pos a hn
 exact⟨(Int.tmod a n).toNat,oo,oo⟩
theorem qkr{s r o:Sl}{es:List En}{L:List Pt}{which lot n i:Int}{N1:Int->Bool->Addr->Sl->Sl->Sl->Int->Int->World->Prop}(H:TT w0 bt x p)(h:Sx w0 u ((inB s,fun u=>Ow 5 encE u s es)::EP es::L))(hE:EL p lot es)
  (hlot:∃m,(q05 p).lots[0]?=some (lot,m)) (ho:Vw 1 encI u o (q18 (q2d (q0e (q05 p) lot) es))) (hw:0<=which/\which<256) (hi:¬i<n) (hK:∀w',Fr F0 w0 w'->K true w') :
  z13_b1 which true ⟨bt,0,none⟩ s r o n i N1 K u:=by
 have h6:=hE.len
 have hsl:=(h.get 0 rfl:Ow 5 encE u s es).len
 have hcap:=(h.get 0 rfl:Ow 5 encE u s es).vw.cap
 obtain⟨m,hm0⟩:=hlot
 obtain⟨h0l,hm1⟩:=J0.1 hm0
 refine fi ?_
 refine q00.2 ⟨fun hh=>absurd hh hi,fun _=>q0i.2 ⟨fun _=>hK u h.fr0,fun hne=>?_⟩⟩
 obtain⟨g,hg,hgl⟩:=qs4 hw.1 (show 0<(s.l:Int) by omega)
 have hg6:g<es.length:=oo
 rw[hg]
 refine⟨q01,hne,?_⟩
 intro w1
 have h1:=h.fr (w':=w1) Fr.drew
 have f1:Fr F0 u w1:=Fr.drew
 clear_value w1
 refine⟨fun _=>True,trivial,⟨oo,oo,oo⟩,q01,⟨oo,oo⟩,?_⟩
 intro w2
 have hrow:Row w2 w1.heap.size []:=((Sx.nil (w:=w1) Fr.refl).row (cs:=[])).get 0 rfl
 have hm:Mk w1 5 encE w2 ⟨some ⟨w1.heap.size,0,none⟩,0,0⟩ []:=⟨Fr.alloc,Row.ow (l:=[]) (fun _=>rfl) hrow,fun b ⟨a,ha,hb⟩=>by cases ha;subst hb;exact Jq _⟩
 clear_value w2
 have hv:∀ {v:World},Fr F0 w1 v->Vw 5 encE v s es:=fun f=>(((h1.fr f).get 0 rfl):Ow 5 encE _ s es).vw
 have hz:(g:Int).toNat-0=g-0:=oo
 have hz1:((g:Int)+1).toNat=g+1:=oo
 rw[hz1,Jl]
 refine hm.app ((hv hm.fr0).take (fun _=>rfl) (j:=g) oo) encE_ok rfl oy oy fun s3 w3 hm _=>?_
 refine hm.app ((hv hm.fr0).drop (fun _=>rfl) (k:=g+1) oo) encE_ok rfl oy oy fun s4 w4 hm _=>?_
 rw[Jg,q4a (fun e:En=>e.b) es g hg6 hE.nb]at hm
 obtain⟨e,hge⟩:∃e,es[g]=e:=⟨_,rfl⟩
 rw[hge]at hm
 intro w5
 have hm:=hm.fr (w':=w5) Fr.drew
 clear_value w5
 have h5:=h1.fr hm.fr0
 have f5:=f1.t hm.fr0
 have H5:=H.fr h5.fr0
 have hv5:=hm.vw
 have hlots:∀ {v:World},Fr F0 w5 v->Vw 2 encL v x.f1 (q05 p).lots:=fun f=>(H5.fr f).T.lots
 refine⟨Fr F0 w5,Fr.refl,T43.lds_row (fun v f=>(H5.fr f).r) ⟨x.f1,fun v f=>(H5.fr f).r.at (i:=1) rfl,?_⟩⟩
 refine Vw.goS (enc:=encL) (S:=Fr F0 w5) (fun _=>rfl) od Fr.refl (fun v f=>hlots f) 0 rfl h0l fun ad hc=>?_
 rw[hm1]at hc
 refine⟨lot,hc 0 _ rfl,?_⟩
 have R:=q55 H.P
 have hFit:Fit (q05 p):=q9n R (by show 1<=30;decide)
 have hsub:∀e'∈es.filter (fun e'=>decide (e'.b≠e.b)),e'∈es:=fun e' h=>(List.mem_filter.1 h).1
 have hfind:∃m,(q05 p).lots.find? (fun m=>decide (m.1=lot))=some m:=by
  have:((q05 p).lots.find? (fun m=>decide (m.1=lot))).isSome=true:=oz
  exact Option.isSome_iff_exists.1 this
 have hEP:∀ {v:World},Fr F0 w5 v->∀e∈es,EnOk v e:=fun f=>(h5.fr f).get 1 rfl
 refine q9i H5.T ⟨hFit,by have:=J2 (fun e':En=>decide (e'.b≠e.b)) es;omega,hfind,fun e' he=>hE.l _ (hsub e' he)⟩ hv5 (hE.nb.sublist (Jc.map _)) (hE.nr.sublist (Jc.map _)) (fun e' he=>hEP Fr.refl _ (hsub e' he)) fun q w6 f6 hq=>⟨f6,?_⟩
 intro w7
 have f7:Fr F0 w5 w7:=f6.t Fr.drew
 have hq:=hq.fr (w':=w7) Fr.drew
 clear_value w7
 refine⟨Fr F0 w7,Fr.refl,q0r.2 ⟨fun hh=>absurd rfl hh,fun _=>?_⟩⟩
 have hvv:∀ {v:World},Fr F0 w7 v->Vw 5 encE v s es:=fun f=>hv (hm.fr0.t (f7.t f))
 refine Vw.goS (enc:=encE) (S:=Fr F0 w7) (fun _=>rfl) od Fr.refl (fun v f=>hvv f) g rfl hg6 fun ad hc=>?_
 rw[hge]at hc
 refine⟨e.b,hc 0 _ rfl,?_⟩
 have hrl:=q6q (q0e (q05 p) lot) (es.filter fun e'=>decide (e'.b≠e.b))
 have hfl:=J2 (fun e':En=>decide (e'.b≠e.b)) es
 refine q9j hq oo fun w8 s8 f8 ho8=>⟨f8,?_⟩
 have hol:(q18 (q2d (q0e (q05 p) lot) es)).length<=6:=by
  unfold q18
  rw[J1]
  have:=J2 (fun x:Rk=>decide (x.out=0)&&decide (x.place>0)) (q2d (q0e (q05 p) lot) es)
  rw[q6q]at this
  omega
 refine qeu (ho.fr (f5.t (f7.t f8))) oo fun w9 s9 f9 ho9=>?_
 have e1:=qnz H.P hE.F hE.nr lot fun b=>decide (b≠e.b)
 rw[←e1]at ho9
 have hol2:(q18 (q2d (q0e (q05 p) lot) (es.filter fun e'=>decide (e'.b≠e.b)))).length<=1000:=oz
 refine qoc (ho8.fr f9).vw ho9.vw hol2 fun w10 f10=>⟨(f8.t f9).t f10,q0h ?_⟩
 have f10:=(f7.t f8).t (f9.t f10)
 have h10:=h5.fr f10
 have H10:=H5.fr f10
 refine⟨p.high,by rw[show(⟨bt,0,none⟩:Addr).add 5=⟨bt,5,none⟩from rfl];have:=H.T.high;rw[show p.high=x.f5 from this.symm];exact H10.r.at,?_⟩
 exact qhl H h10 hE.F hg6 h6 hK
end
section
variable{w w' w0 u:World}{p:FP}{x:T43}{bt:Nat}{K:Bool->World->Prop}
theorem qhm{s r o:Sl}{es:List En}{L:List Pt}{which lot:Int}(H:TT w0 bt x p)(h:Sx w0 u ((inB s,fun u=>Ow 5 encE u s es)::EP es::L))(hE:EL p lot es)
  (hlot:∃m,(q05 p).lots[0]?=some (lot,m)) (hr:Vw 5 encK u r (q2d (q0e (q05 p) lot) es)) (ho:Vw 1 encI u o (q18 (q2d (q0e (q05 p) lot) es))) (hw:0<=which/\which<256) (hK:∀w',Fr F0 w0 w'->K true w') :
  z13_l1 which true ⟨bt,0,none⟩ s r o (o.l:Int) 0 K u:=by
 have hol:=ho.len
 have hrl:=q6q (q0e (q05 p) lot) es
 have h6:=hE.len
 have hle:(q18 (q2d (q0e (q05 p) lot) es)).length<=(q2d (q0e (q05 p) lot) es).length:=by
  unfold q18
  grind
 refine⟨⟨fun i v=>∃i':Nat,i=(i':Int)/\i'<=(q18 (q2d (q0e (q05 p) lot) es)).length/\v=u,fun i _=>(q18 (q2d (q0e (q05 p) lot) es)).length-i.toNat,⟨0,rfl,Jo _,rfl⟩,?_⟩⟩
 rintro _ _ ⟨i,rfl,hi,rfl⟩
 rcases Jp i (q18 (q2d (q0e (q05 p) lot) es)).length with hlt|hge
 ·refine fi ?_
  refine q00.2 ⟨fun _=>?_,fun hh=>absurd (show(i:Int)<(o.l:Int) by omega) hh⟩
  have hir:i<(q2d (q0e (q05 p) lot) es).length:=oo
  have hp:=qgy (q0e (q05 p) lot) es i hlt hir
  refine Vw.go (enc:=encK) (fun _=>rfl) od hr i rfl hir fun ad hc=>⟨_,hc 3 _ rfl,q01,q0r.2 ⟨fun hh=>absurd hp hh,fun _=>⟨q01,⟨⟨rfl,rfl,rfl,rfl,rfl,rfl,rfl,trivial⟩,i+1,oo,oo,rfl⟩,uo⟩⟩⟩
 ·exact qkr H h hE hlot ho hw oo hK
theorem qks{s:Sl}{es:List En}{L:List Pt}{which lot n i:Int}{N0:Int->Bool->Addr->Sl->Int->Int->World->Prop}(H:TT w0 bt x p)(h:Sx w0 u ((inB s,fun u=>Ow 5 encE u s es)::EP es::L))(hE:EL p lot es)
  (hlot:∃m,(q05 p).lots[0]?=some (lot,m)) (hw:0<=which/\which<256) (hi:¬i<n) (hK:∀w',Fr F0 w0 w'->K true w') :
  z13_b0 which true ⟨bt,0,none⟩ s n i N0 K u:=by
 have h6:=hE.len
 have hsl:=(h.get 0 rfl:Ow 5 encE u s es).len
 obtain⟨m,hm0⟩:=hlot
 obtain⟨h0l,hm1⟩:=J0.1 hm0
 refine fi ?_
 refine q00.2 ⟨fun hh=>absurd hh hi,fun _=>?_⟩
 intro w1
 have h:=h.fr (w':=w1) Fr.drew
 clear_value w1
 have H1:=H.fr h.fr0
 refine⟨Fr F0 w1,Fr.refl,T43.lds_row (fun v f=>(H1.fr f).r) ⟨x.f1,fun v f=>(H1.fr f).r.at (i:=1) rfl,?_⟩⟩
 refine Vw.goS (enc:=encL) (S:=Fr F0 w1) (fun _=>rfl) od Fr.refl (fun v f=>(H1.fr f).T.lots) 0 rfl h0l fun ad hc=>?_
 rw[hm1]at hc
 refine⟨lot,hc 0 _ rfl,?_⟩
 have hFit:Fit (q05 p):=q9n (q55 H.P) (by show 1<=30;decide)
 have hfind:∃m,(q05 p).lots.find? (fun m=>decide (m.1=lot))=some m:=by
  have:((q05 p).lots.find? (fun m=>decide (m.1=lot))).isSome=true:=oz
  exact Option.isSome_iff_exists.1 this
 refine q9i H1.T ⟨hFit,oo,hfind,hE.l⟩ (h.get 0 rfl:Ow 5 encE w1 s es).vw hE.nb hE.nr (h.get 1 rfl) fun r w2 f2 hr=>⟨f2,q0r.2 ⟨fun hh=>absurd rfl hh,fun _=>q0r.2 ⟨fun hh=>absurd ?_ hh,fun _=>?_⟩⟩⟩
 ·have:=hr.len
  rw[q6q]at this
  omega
 ·have hrl:=q6q (q0e (q05 p) lot) es
  refine q9j hr oo fun w3 o f3 ho=>?_
  exact qhm H ((h.fr f2).fr f3) hE ⟨m,hm0⟩ (hr.fr f3) ho.vw hw hK
theorem qhn{s:Sl}{es:List En}{L:List Pt}{which lot:Int}(H:TT w0 bt x p)(h:Sx w0 u ((inB s,fun u=>Ow 5 encE u s es)::EP es::L))(hE:EL p lot (es.map fun e=>{ e with l:=lot }))
  (hlot:∃m,(q05 p).lots[0]?=some (lot,m)) (hw:0<=which/\which<256) (hK:∀w',Fr F0 w0 w'->K true w') :
  z13_l0 which true ⟨bt,0,none⟩ s (s.l:Int) 0 K u:=by
 have h6:=hE.len
 rw[J1]at h6
 have hsl:=(h.get 0 rfl:Ow 5 encE u s es).len
 obtain⟨m,hm0⟩:=hlot
 obtain⟨h0l,hm1⟩:=J0.1 hm0
 refine⟨⟨fun i v=>∃i':Nat,i=(i':Int)/\i'<=es.length/\Sx w0 v ((inB s,fun u=>Ow 5 encE u s ((es.take i').map (fun e=>{ e with l:=lot })++es.drop i'))::EP es::L),fun i _=>es.length-i.toNat,⟨0,rfl,Jo _,by simpa using h⟩,?_⟩⟩
 rintro _ v ⟨i,rfl,hi,h⟩
 rcases Jp i es.length with hlt|hge
 ·refine fi ?_
  have H1:=H.fr h.fr0
  refine q00.2 ⟨fun _=>⟨x.f1,H1.r.at (i:=1) rfl,?_⟩,fun hh=>absurd (show(i:Int)<(s.l:Int) by omega) hh⟩
  refine Vw.go (enc:=encL) (fun _=>rfl) od H1.T.lots 0 rfl h0l fun ad hc=>?_
  rw[hm1]at hc
  refine⟨lot,hc 0 _ rfl,?_⟩
  have hlen:((es.take i).map (fun e=>({ e with l:=lot }:En))).length=i:=oz
  have hil:i<((es.take i).map (fun e=>({ e with l:=lot }:En))++es.drop i).length:=oz
  have he:((es.take i).map (fun e=>({ e with l:=lot }:En))++es.drop i)[i]=es[i]:=oz
  refine Ow.cell (enc:=encE) (fun _=>rfl) (h.get 0 rfl:Ow 5 encE v s _) i rfl hil 1 od fun ad2 hwr hset=>⟨hwr,?_⟩
  obtain⟨ho,hf⟩:=hset (.int .i64 lot) { es[i]with l:=lot } (by rw[he];rfl)
  have hst:((es.take i).map (fun e=>({ e with l:=lot }:En))++es.drop i).set i { es[i]with l:=lot }=(es.take (i+1)).map (fun e=>({ e with l:=lot }:En))++es.drop (i+1):=by
   rw[J8 _ _ oo,hlen,Nat.sub_self,List.drop_eq_getElem_cons hlt,List.set_cons_zero,List.take_add_one,J5 hlt,J9]
   simp
  rw[hst]at ho
  exact⟨q01,⟨⟨rfl,rfl,rfl,rfl,rfl,trivial⟩,i+1,oo,oo,h.upd (q:=(inB s,fun u=>Ow 5 encE u s ((es.take (i+1)).map (fun e=>({ e with l:=lot }:En))++es.drop (i+1)))) 0 rfl hf (q0b.ow _ _) ho fun _ hb=>.inl hb⟩,uo⟩
 ·have hie:i=es.length:=oo
  subst hie
  rw[List.take_length,List.drop_length,List.append_nil]at h
  have h:=h.upd (q:=EP (es.map fun e=>({ e with l:=lot }:En))) 1 rfl Fr.refl (q0b.ep _) (fun e he=>by
   obtain⟨e',he',rfl⟩:=J3.1 he
   have E:EnOk v e':=h.get 1 rfl e' he'
   exact { E with }) fun b ⟨e,he,hb⟩=>by
   obtain⟨e',he',rfl⟩:=J3.1 he
   exact .inl ⟨e',he',hb⟩
  exact qks H h hE ⟨m,hm0⟩ hw oo hK
theorem qho{ls ms:Sl}{l m:List Int}{which:Int}(g:GlT w)(gm:Gm w)(hl:Vw 1 encI w ls l)(hl2:l.length<2^61)(hm:Vw 1 encI w ms m)(hm2:m.length<2^61)(hw:0<=which/\which<256)(hK:∀w',Fr F0 w w'->K true w') :
  z13_sh ls ms which K w:=by
 refine⟨fi ?_⟩
 refine qha g gm fun w1 f1=>?_
 refine qox ⟨hl.fr f1,oo⟩ fun w2 x2 p f2 P T2=>?_
 have R:=q55 P
 have hlen:=qpu P
 have hFit:Fit (q05 p):=q9n R (by show 1<=30;decide)
 refine qhh T2 R hFit (qkp P) hlen fun w3 f3=>?_
 have f03:Fr F0 w w3:=(f1.t f2).t f3
 refine q4x (t:=q05 p) 3 R (qpv P) hlen (g.fr f03) (gm.fr f03) oo (.inr rfl) (qg0 P) (fun _=>qjm P) (fun h=>absurd h oo) (fun _=>qds p) (fun _ w4 x f4 T=>?_) (fun h=>absurd h oo)
 have h:Sx w4 w4 []:=Sx.nil Fr.refl
 refine h.box (cs:=zX.cs) (vs:=x.cs) rfl fun w5 f5 h=>?_
 generalize w4.heap.size=bt at h ⊢
 have r5:Row w5 bt x.cs:=h.get 0 rfl
 have H:TT w5 bt x p:=⟨r5,T.fr f5,P⟩
 have k1:=P.low
 have k2:=P.high
 have hll:=H.T.lots.len
 have hl1:=R.lots.1
 have h0l:0<(q05 p).lots.length:=oo
 refine q0r.2 ⟨fun hh=>absurd rfl hh,fun _=>⟨x.f1,r5.at (i:=1) rfl,q0i.2 ⟨fun hh=>absurd hh oo,fun _=>T43.ld_row r5 ?_⟩⟩⟩
 refine qev H.T R (by show p.low<=p.high;omega) (fun c hc=>?_) (hm.fr (f03.t (f4.t f5))) hm2 fun w6 s es h hes hE=>?_
 ·obtain⟨y,hy,rfl⟩:=J3.1 (show c∈p.crits.map crOf from hc)
  have ok:=P.c _ (q0p hy).1
  have o1:=ok.low
  have o2:=ok.high
  exact⟨o1.1,o2.1,by show y.1.high<=30;omega⟩
 ·refine qhn (lot:=((q05 p).lots[0]).1) H h ⟨by rw[J1];exact hes,?_,?_,fun e he=>?_,fun e he=>?_⟩ ⟨((q05 p).lots[0]).2,by rw[J5 h0l]⟩ hw fun w' f=>hK w' ((f03.t (f4.t f5)).t f)
  ·rw[J1,Je]
   exact hE.b
  ·rw[J1,Je]
   exact hE.r
  ·obtain⟨e',he',rfl⟩:=J3.1 he
   obtain⟨v,lo,hi⟩:=hE.v e' he'
   refine⟨?_,fun y hy=>?_,lo,hi⟩
   ·show e'.vals.map (·.1)=_
    rw[v.nm]
    show(p.crits.map crOf).map Cr.name=_
    rw[Je]
    rfl
   ·have:=v.vb y hy
    omega
  ·grind
end
open Go Pw Dp Go.ChangeShapes Go.WideShapes Go.ChangeAt Go.RowKit
section
variable{H:Type}{enc:TypeId×Value->H}{P:Program}{W:World}
theorem qj2{r:Reach}{b0:Nat}{t e:TypeId}{v:Value}{d:DataW H}{ps:List MemPlace}(ht:P.underlying t=some (.slice e))(he:P.underlying e=some (.int .i64))(hc:P.cellsOf e=1)
  (hval:Value.okWide P W r b0 t v) (h:DataW.Trod enc P W 0 (fun _=>true) true t v d ps) :
  ∃(q:Sl) (l:List Int),v=.slice q.p q.l q.c/\Vw 1 encI W q l/\(∀n∈l,I64 n)/\∀R b,P.bytesOf e=b->(∀n∈d.weights P t,n<=R)->l.length*b<=R:=by
 obtain⟨q,l,h1,h2,h3,_,h5⟩:=qu3 ht he hc hval h
 exact⟨q,l,h1,h2,fun n hn=>wf_i64 (h3 n hn),h5⟩
theorem qfa{w:World}{ls ms:Sl}{l m:List Int}{which:Int}{K:Bool->World->Prop}(g:Gm w)(hl:Vw 1 encI w ls l)(y0:l.length*8<=140737488351232)(hm:Vw 1 encI w ms m)(y1:m.length*8<=140737488351232)(hw:(Lit.int .u8 which).wf=true)(hK:∀w',Fr F0 w w'->K true w') :
  z13_sh ls ms which K w:=
 qho g.tab g hl oo hm oo (wf_u8 hw) hK
end
end Go.Proofs.YtmfkimnmklnppaaGreatDoor
