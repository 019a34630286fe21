/- The card of TopTouches, proved from the law's contract. Conditions: none. -/
import Derived.Test.YtipjnbbfnlfmjaaGreatDoorDAU
import Derived.Test.YtipjnbbfnlfmjaaGreatDoorTCL
namespace Go.Proofs.YtipjnbbfnlfmjaaGreatDoor.topTouches
open Go Go.ChangeShapes Go.WideShapes Go.ChangeAt Go.RowKit Pw Dp
set_option maxRecDepth 100000
theorem own:ownKnob Tryz.prog.godebug=none:=by kernel_rfl
theorem laid:laidOutB Tryz.prog=true:=by kernel_rfl
theorem qm0:Tryz.prog.cellsOf 3=1:=by kernel_rfl
theorem qqv:Tryz.prog.cellsOf 22=1:=by kernel_rfl
theorem qqw:Tryz.prog.cellsOf 23=1:=by kernel_rfl
theorem qqx:Tryz.prog.cellsOf 24=1:=by kernel_rfl
theorem qfh:Tryz.prog.cellsOf 25=1:=by kernel_rfl
theorem qqy:Tryz.prog.cellsOf 26=1:=by kernel_rfl
theorem qqz:Tryz.prog.cellsOf 27=10:=by kernel_rfl
theorem qr0:Tryz.prog.cellsOf 29=16:=by kernel_rfl
theorem qm1:Tryz.prog.cellsOf 46=3:=by kernel_rfl
theorem qm2:Tryz.prog.cellsOf 51=4:=by kernel_rfl
theorem qr1:Tryz.prog.cellsOf 74=2:=by kernel_rfl
theorem parts:(Tryz.f3.params.toList.all fun t=>Tryz.prog.readableRec t && Nat.blt t Tryz.prog.types.size)=true:=by kernel_rfl
theorem parts':∀ t∈Tryz.f3.params.toList,Tryz.prog.readableRec t=true/\t<Tryz.prog.types.size:=fun t ht=>by
 have:=List.all_eq_true.1 parts t ht
 simp only[Bool.and_eq_true] at this
 exact⟨this.1,by simpa [Nat.blt_eq] using this.2⟩
theorem walk (a0:T29)(p0:Pn)(y0:PFit p0)(a1:Sl)(l1:List (Int × Int × Int × Int))(i1:∀ e∈l1,I64 e.1/\I64 e.2.1/\I64 e.2.2.1/\I64 e.2.2.2)(a2:Sl)(l2:List (Int × Int × Int))(i2:∀ e∈l2,I64 e.1/\I64 e.2.1/\I64 e.2.2)(w:World)(g:GlT w)(q0:PP w a0 p0)(q1:Vw 4 encT4 w a1 l1)(q2:Vw 3 q4l w a2 l2) :
  Calls Tryz.prog 3 #[.agg a0.cs.toArray,.slice a1.p a1.l a1.c,.slice a2.p a2.l a2.c] w fun e w'=>e=.returned (.bool true)/\Fr F0 w w':=by
 have h:z0d_S [.agg a0.cs.toArray,.slice a1.p a1.l a1.c,.slice a2.p a2.l a2.c] w (fun v w'=>v=.bool true/\Fr F0 w w') :=
  q95 g q0 y0 q1 i1 q2 i2 fun w' hf=>⟨rfl,hf⟩
 exact(z0d_ok.2 _ _ _ h).mono fun e w' ⟨v,he,hv,hf⟩=>⟨by rw[he,hv],hf⟩
theorem qo1 (H:Type)(enc:TypeId × Value->H)(W:World)(base:Nat)(args:Array Value)(ds gs:List (DataW H))(before:List MemPlace)
  (hval:∀ (j:Nat) t v,Tryz.f3.params[j]?=some t->args[j]?=some v->Value.okWide Tryz.prog W .any base t v)
  (hW:DataW.Whole enc Tryz.prog Tryz.f3.params.toList Rows.topTouchesSpec.vars false W args.toList ds gs before) (hL:laidMetH Tryz.prog LL W) :
  Calls Tryz.prog 3 args W fun e W'=>∃ v,e=.returned v/\Rows.topTouchesSpec.post enc Tryz.prog Tryz.f3 false true false false W args v W':=by
 have g:=glob hL
 have hW':=hW
 obtain⟨p,q,hA0,hV,rfl,hfz,hnd⟩:=hW
 have hA:DataW.TrodAll enc Tryz.prog W 0 (fun _=>true) true Tryz.f3.params.toList args.toList ds p:=hA0
 rw[Tryz.params3] at hA hval
 obtain⟨v0,vs0,d0,ds0,p0,q0,hargs,rfl,rfl,h0,r0⟩:=trodAll_cons hA
 obtain⟨v1,vs1,d1,ds1,p1,q1,rfl,rfl,rfl,h1,r1⟩:=trodAll_cons r0
 obtain⟨v2,vs2,d2,ds2,p2,q2,rfl,rfl,rfl,h2,r2⟩:=trodAll_cons r1
 obtain⟨rfl,rfl,rfl⟩:=trodAll_nil r2
 obtain rfl:args=#[v0,v1,v2]:=by cases args; simp_all
 obtain⟨rfl,rfl⟩:=trodVars_none hV
 obtain⟨a0,p0,rfl,q0,y0⟩:=qn5 Tryz.underlying29 Tryz.underlying22 Tryz.underlying23 Tryz.underlying24 Tryz.underlying25 Tryz.underlying25 Tryz.underlying26 Tryz.underlying27 Tryz.underlying74 Tryz.underlying51 Tryz.underlying46 Tryz.underlying25 Tryz.underlying3 ⟨rfl,rfl,rfl,rfl,rfl,rfl,rfl⟩ ⟨qqv,qqw,qqx,qfh,qfh,qqy,qqz⟩ ⟨qr0,qr1,qm2,qm1,qfh,qm0⟩ (hval 0 29 v0 rfl rfl) h0
 obtain⟨a1,l1,rfl,q1,i1⟩:=arg_l4 Tryz.underlying23 Tryz.underlying51 Tryz.underlying3 qm2 qm0 (hval 1 23 v1 rfl rfl) h1
 obtain⟨a2,l2,rfl,q2,i2⟩:=arg_l3 Tryz.underlying24 Tryz.underlying46 Tryz.underlying3 qm1 qm0 (hval 2 24 v2 rfl rfl) h2
 clear hA0
 refine(walk a0 p0 y0 a1 l1 i1 a2 l2 i2 W g q0 q1 q2).mono fun e W' ⟨he,hg⟩=>?_
 subst he
 exact⟨_,rfl,Pw.post_true laid parts' rfl Tryz.underlying4 hW' rfl rfl rfl rfl hg⟩
theorem reads (os:Os){H:Type}(enc:TypeId × Value->H):∃ places,DataW.whole enc Tryz.prog ((q82 os).forCall (fun _ _=>0) ⟨#[],#[.agg #[.slice none 0 0,.slice none 0 0,.slice none 0 0,.slice none 0 0,.slice none 0 0,.slice none 0 0,.int .i64 0,.int .i64 0,.int .i64 0,.int .i64 0,.int .i64 0,.int .i64 0,.int .i64 0,.int .i64 0,.int .i64 0,.int .i64 0],.slice none 0 0,.slice none 0 0],[]⟩).memory Tryz.f3.params.toList Rows.topTouchesSpec.vars false (#[.agg #[.slice none 0 0,.slice none 0 0,.slice none 0 0,.slice none 0 0,.slice none 0 0,.slice none 0 0,.int .i64 0,.int .i64 0,.int .i64 0,.int .i64 0,.int .i64 0,.int .i64 0,.int .i64 0,.int .i64 0,.int .i64 0,.int .i64 0],.slice none 0 0,.slice none 0 0]:Array Value).toList 8=some ([.agg [.nil,.nil,.nil,.nil,.nil,.nil,.agg [.lit (.int .i64 0),.lit (.int .i64 0),.lit (.int .i64 0),.lit (.int .i64 0),.lit (.int .i64 0),.lit (.int .i64 0),.lit (.int .i64 0),.lit (.int .i64 0),.lit (.int .i64 0),.lit (.int .i64 0)]],.nil,.nil],[],places) :=
 ⟨[],by kernel_rfl⟩
set_option maxRecDepth 100000 in
theorem lifted (os:Os)(started:os.Started)(H:Type)(enc:TypeId × Value->H)(F:Stop.Interp) :
  ReturnsInHanded {} Tryz.checked os 3 .any ((OpenSpec.ofChange Rows.topTouchesSpec).preRow enc Tryz.prog Tryz.f3 Rows.topTouchesRow.domain false Rows.topTouchesRow.laid) (((OpenSpec.ofChange Rows.topTouchesSpec).at F).post enc Tryz.prog Tryz.f3 false true false false):=by
 obtain⟨places,hx⟩:=reads os enc
 refine returnsInHanded_of_row (C:=Tryz.checked) (s:=OpenSpec.ofChange Rows.topTouchesSpec) own started (by kernel_rfl) Tryz.func3
  (witness_row_at (enc:=enc) (C:=Tryz.checked) false (q82 os) #[.agg #[.slice none 0 0,.slice none 0 0,.slice none 0 0,.slice none 0 0,.slice none 0 0,.slice none 0 0,.int .i64 0,.int .i64 0,.int .i64 0,.int .i64 0,.int .i64 0,.int .i64 0,.int .i64 0,.int .i64 0,.int .i64 0,.int .i64 0],.slice none 0 0,.slice none 0 0] rfl (by kernel_rfl) (by kernel_rfl) (by kernel_rfl)
   (OpenSpec.preRow_of_cond 8 hx (by kernel_rfl) (fun k hk=>by cases hk) (by kernel_rfl) (qmt os _))) ?_
 intro W base args ds gs before hval hW _ hcond hsz hL hsh _
 exact qo1 H enc W base args ds gs before hval hW hL
theorem said:Rows.TopTouchesSaid :=
 OpenClaim.holds_of_cond 3 Tryz.f3 rfl rfl rfl rfl rfl rfl rfl ⟨rfl,rfl,rfl,rfl,rfl⟩ rfl rfl rfl rfl rfl (by kernel_rfl) Tryz.func3 closed
  (of_decide_eq_true (by kernel_rfl)) (by unfold Func.isWrapper; first | (rw[if_pos (by decide +kernel)]; kernel_rfl) | (rw[if_neg (by decide +kernel)]; exact⟨rfl,rfl⟩))
  (fun os started H enc _ F=>by rw[OpenClaim.pre_eq_preRow]; exact lifted os started H enc F)
theorem plain (f:FuncId)(fn:Func)(hf:Tryz.pinned.checked.prog.funcNamed "probity/probitytop.TopTouches"=some f)(hfn:Tryz.pinned.checked.prog.funcs[f]?=some fn) :
  true=Tryz.pinned.checked.prog.looks []/\∀ (j:Nat) t,fn.params[j]?=some t->Tryz.pinned.checked.prog.wantsStandIn t=false:=by
 obtain rfl:f=3:=Option.some.inj ((show Tryz.prog.funcNamed "probity/probitytop.TopTouches"=some 3 by kernel_rfl).symm.trans hf) |>.symm
 obtain rfl:fn=Tryz.f3:=(Option.some.inj (Tryz.func3.symm.trans hfn)).symm
 refine⟨by kernel_rfl,fun j t ht=>?_⟩
 rw[Tryz.params3] at ht
 have ht:=Array.mem_of_getElem? ht
 have h:t=23\/t=24\/t=29:=by simp at ht; first | omega | (rcases ht with rfl | rfl<;>simp) | (rcases ht with rfl | rfl | rfl<;>simp)
 rcases h with rfl | rfl | rfl
 ·exact(show Tryz.prog.wantsStandIn 23=false by kernel_rfl)
 ·exact(show Tryz.prog.wantsStandIn 24=false by kernel_rfl)
 ·exact(show Tryz.prog.wantsStandIn 29=false by kernel_rfl)
theorem proved:Rows.TopTouchesCardSaid :=
 Claim7.holds_tied_plain_at .later [] _ _ _ _ said (fun _ h=>by cases h) (by kernel_rfl) (fun _ h=>by cases h) topTouches_row_tie rfl ⟨rfl,rfl⟩ (by kernel_rfl) rfl plain (by kernel_rfl)
