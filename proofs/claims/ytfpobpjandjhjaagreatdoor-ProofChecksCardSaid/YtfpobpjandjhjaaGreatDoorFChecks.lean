/- The card of ProofChecks, proved from the law's contract. Conditions: none. -/
import Derived.Test.YtfpobpjandjhjaaGreatDoorRW
import Derived.Test.YtfpobpjandjhjaaGreatDoorPXV
namespace Go.Proofs.YtfpobpjandjhjaaGreatDoor.proofChecks
open Go Go.ChangeShapes Go.WideShapes Go.ChangeAt Go.RowKit Pw
set_option maxRecDepth 100000
theorem own:ownKnob Tryz.prog.godebug=none:=by kernel_rfl
theorem laid:laidOutB Tryz.prog=true:=by kernel_rfl
theorem qj6:Tryz.prog.cellsOf 3=1:=by kernel_rfl
theorem qm2:Tryz.prog.cellsOf 34=3:=by kernel_rfl
theorem qm3:Tryz.prog.cellsOf 63=4:=by kernel_rfl
theorem qm4:Tryz.prog.cellsOf 64=8:=by kernel_rfl
theorem parts:(Tryz.f7.params.toList.all fun t=>Tryz.prog.readableRec t && Nat.blt t Tryz.prog.types.size)=true:=by kernel_rfl
theorem parts':∀ t∈Tryz.f7.params.toList,Tryz.prog.readableRec t=true/\t<Tryz.prog.types.size:=fun t ht=>by
 have:=List.all_eq_true.1 parts t ht
 simp only[Bool.and_eq_true] at this
 exact⟨this.1,by simpa [Nat.blt_eq] using this.2⟩
theorem walk (a0:Sl)(l0:List Int)(z0:l0.length<2^63)(a1_0:Int)(w1_0:(Lit.int .i64 a1_0).wf=true)(a1_1:Int)(w1_1:(Lit.int .i64 a1_1).wf=true)(a1_2:Int)(w1_2:(Lit.int .i64 a1_2).wf=true)(a2_0:Int)(w2_0:(Lit.int .i64 a2_0).wf=true)(a2_1:Int)(w2_1:(Lit.int .i64 a2_1).wf=true)(a2_2:Int)(w2_2:(Lit.int .i64 a2_2).wf=true)(a2_3:Int)(w2_3:(Lit.int .i64 a2_3).wf=true)(a2_4:Int)(w2_4:(Lit.int .i64 a2_4).wf=true)(a2_5:Int)(w2_5:(Lit.int .i64 a2_5).wf=true)(a2_6:Int)(w2_6:(Lit.int .i64 a2_6).wf=true)(a2_7:Int)(w2_7:(Lit.int .i64 a2_7).wf=true)(w:World)(g:GlT w)(q0:Vw 1 (ie .i64 id) w a0 l0) :
  Calls Tryz.prog 7 #[.slice a0.p a0.l a0.c,.agg #[.int .i64 a1_0,.int .i64 a1_1,.int .i64 a1_2],.agg #[.int .i64 a2_0,.int .i64 a2_1,.int .i64 a2_2,.int .i64 a2_3,.int .i64 a2_4,.int .i64 a2_5,.int .i64 a2_6,.int .i64 a2_7]] w fun e w'=>e=.returned (.bool true)/\Fr F0 w w':=by
 have h:z07_S [.slice a0.p a0.l a0.c,.agg #[.int .i64 a1_0,.int .i64 a1_1,.int .i64 a1_2],.agg #[.int .i64 a2_0,.int .i64 a2_1,.int .i64 a2_2,.int .i64 a2_3,.int .i64 a2_4,.int .i64 a2_5,.int .i64 a2_6,.int .i64 a2_7]] w (fun v w'=>v=.bool true/\Fr F0 w w') :=
  qj5 g q0 z0 ⟨q4m w1_0,q4m w1_1,q4m w1_2⟩ ⟨q4m w2_0,q4m w2_1,q4m w2_2,q4m w2_3,q4m w2_4,q4m w2_5,q4m w2_6,q4m w2_7⟩ fun w' hf=>⟨rfl,hf⟩
 exact(z07_ok.2 _ _ _ h).mono fun e w' ⟨v,he,hv,hf⟩=>⟨by rw[he,hv],hf⟩
theorem qks (H:Type)(enc:TypeId × Value->H)(W:World)(base:Nat)(args:Array Value)(ds gs:List (DataW H))(before:List MemPlace)
  (hval:∀ (j:Nat) t v,Tryz.f7.params[j]?=some t->args[j]?=some v->Value.okWide Tryz.prog W .any base t v)
  (hW:DataW.Whole enc Tryz.prog Tryz.f7.params.toList Rows.proofChecksSpec.vars false W args.toList ds gs before) (hL:laidMetH Tryz.prog LL W) :
  Calls Tryz.prog 7 args W fun e W'=>∃ v,e=.returned v/\Rows.proofChecksSpec.post enc Tryz.prog Tryz.f7 false true false false W args v W':=by
 have g:=glob hL
 have hW':=hW
 obtain⟨p,q,hA0,hV,rfl,hfz,hnd⟩:=hW
 have hA:DataW.TrodAll enc Tryz.prog W 0 (fun _=>true) true Tryz.f7.params.toList args.toList ds p:=hA0
 rw[Tryz.params7] at hA hval
 obtain⟨v0,vs0,d0,ds0,p0,q0,hargs,rfl,rfl,h0,r0⟩:=trodAll_cons hA
 obtain⟨v1,vs1,d1,ds1,p1,q1,rfl,rfl,rfl,h1,r1⟩:=trodAll_cons r0
 obtain⟨v2,vs2,d2,ds2,p2,q2,rfl,rfl,rfl,h2,r2⟩:=trodAll_cons r1
 obtain⟨rfl,rfl,rfl⟩:=trodAll_nil r2
 obtain rfl:args=#[v0,v1,v2]:=by cases args; simp_all
 obtain⟨rfl,rfl⟩:=trodVars_none hV
 obtain⟨a0,l0,rfl,q0,_,z0⟩:=arg_vi Tryz.underlying22 Tryz.underlying3 qj6 (hval 0 22 v0 rfl rfl) h0
 obtain⟨l1,hl1,rfl,hw1⟩:=ql7 Tryz.underlying34 Tryz.underlying3 qj6 qm2 (hval 1 34 v1 rfl rfl) h1
 obtain⟨a1_0,a1_1,a1_2,rfl⟩:=list3 hl1
 have w1_0:=hw1 a1_0 (by simp)
 have w1_1:=hw1 a1_1 (by simp)
 have w1_2:=hw1 a1_2 (by simp)
 obtain⟨a2_0,a2_1,a2_2,a2_3,a2_4,a2_5,a2_6,a2_7,rfl,w2_0,w2_1,w2_2,w2_3,w2_4,w2_5,w2_6,w2_7⟩:=qiz Tryz.underlying64 Tryz.underlying63 Tryz.underlying3 qj6 qm3 qm4 (hval 2 64 v2 rfl rfl) h2
 clear hA0
 refine(walk a0 l0 z0 a1_0 w1_0 a1_1 w1_1 a1_2 w1_2 a2_0 w2_0 a2_1 w2_1 a2_2 w2_2 a2_3 w2_3 a2_4 w2_4 a2_5 w2_5 a2_6 w2_6 a2_7 w2_7 W g q0).mono fun e W' ⟨he,hg⟩=>?_
 subst he
 exact⟨_,rfl,Pw.post_true laid parts' rfl Tryz.underlying4 hW' rfl rfl rfl rfl hg⟩
theorem reads (os:Os){H:Type}(enc:TypeId × Value->H):∃ places,DataW.whole enc Tryz.prog ((q9n os).forCall (fun _ _=>0) ⟨#[],#[.slice none 0 0,.agg #[.int .i64 0,.int .i64 0,.int .i64 0],.agg #[.int .i64 0,.int .i64 0,.int .i64 0,.int .i64 0,.int .i64 0,.int .i64 0,.int .i64 0,.int .i64 0]],[]⟩).memory Tryz.f7.params.toList Rows.proofChecksSpec.vars false (#[.slice none 0 0,.agg #[.int .i64 0,.int .i64 0,.int .i64 0],.agg #[.int .i64 0,.int .i64 0,.int .i64 0,.int .i64 0,.int .i64 0,.int .i64 0,.int .i64 0,.int .i64 0]]:Array Value).toList 8=some ([.nil,.agg [.lit (.int .i64 0),.lit (.int .i64 0),.lit (.int .i64 0)],.agg [.agg [.lit (.int .i64 0),.lit (.int .i64 0),.lit (.int .i64 0),.lit (.int .i64 0)],.agg [.lit (.int .i64 0),.lit (.int .i64 0),.lit (.int .i64 0),.lit (.int .i64 0)]]],[],places) :=
 ⟨[],by kernel_rfl⟩
set_option maxRecDepth 100000 in
theorem lifted (os:Os)(started:os.Started)(H:Type)(enc:TypeId × Value->H)(F:Stop.Interp) :
  ReturnsInHanded {} Tryz.checked os 7 .any ((OpenSpec.ofChange Rows.proofChecksSpec).preRow enc Tryz.prog Tryz.f7 Rows.proofChecksRow.domain false Rows.proofChecksRow.laid) (((OpenSpec.ofChange Rows.proofChecksSpec).at F).post enc Tryz.prog Tryz.f7 false true false false):=by
 obtain⟨places,hx⟩:=reads os enc
 refine returnsInHanded_of_row (C:=Tryz.checked) (s:=OpenSpec.ofChange Rows.proofChecksSpec) own started (by kernel_rfl) Tryz.func7
  (witness_row_at (enc:=enc) (C:=Tryz.checked) false (q9n os) #[.slice none 0 0,.agg #[.int .i64 0,.int .i64 0,.int .i64 0],.agg #[.int .i64 0,.int .i64 0,.int .i64 0,.int .i64 0,.int .i64 0,.int .i64 0,.int .i64 0,.int .i64 0]] rfl (by kernel_rfl) (by kernel_rfl) (by kernel_rfl)
   (OpenSpec.preRow_of_cond 8 hx (by kernel_rfl) (fun k hk=>by cases hk) (by kernel_rfl) (qko os _))) ?_
 intro W base args ds gs before hval hW _ hcond hsz hL hsh _
 exact qks H enc W base args ds gs before hval hW hL
theorem said:Rows.ProofChecksSaid :=
 OpenClaim.holds_of_cond 7 Tryz.f7 rfl rfl rfl rfl rfl rfl rfl ⟨rfl,rfl,rfl,rfl,rfl⟩ rfl rfl rfl rfl rfl (by kernel_rfl) Tryz.func7 (by kernel_rfl)
  (of_decide_eq_true (by kernel_rfl)) (by unfold Func.isWrapper; first | (rw[if_pos (by decide +kernel)]; kernel_rfl) | (rw[if_neg (by decide +kernel)]; exact⟨rfl,rfl⟩))
  (fun os started H enc _ F=>by rw[OpenClaim.pre_eq_preRow]; exact lifted os started H enc F)
theorem plain (f:FuncId)(fn:Func)(hf:Tryz.pinned.checked.prog.funcNamed "probity/probitylaw22.ProofChecks"=some f)(hfn:Tryz.pinned.checked.prog.funcs[f]?=some fn) :
  true=Tryz.pinned.checked.prog.looks []/\∀ (j:Nat) t,fn.params[j]?=some t->Tryz.pinned.checked.prog.wantsStandIn t=false:=by
 obtain rfl:f=7:=Option.some.inj ((show Tryz.prog.funcNamed "probity/probitylaw22.ProofChecks"=some 7 by kernel_rfl).symm.trans hf) |>.symm
 obtain rfl:fn=Tryz.f7:=(Option.some.inj (Tryz.func7.symm.trans hfn)).symm
 refine⟨by kernel_rfl,fun j t ht=>?_⟩
 rw[Tryz.params7] at ht
 have ht:=Array.mem_of_getElem? ht
 have h:t=22\/t=34\/t=64:=by simp at ht; first | omega | (rcases ht with rfl | rfl<;>simp) | (rcases ht with rfl | rfl | rfl<;>simp)
 rcases h with rfl | rfl | rfl
 ·exact(show Tryz.prog.wantsStandIn 22=false by kernel_rfl)
 ·exact(show Tryz.prog.wantsStandIn 34=false by kernel_rfl)
 ·exact(show Tryz.prog.wantsStandIn 64=false by kernel_rfl)
theorem proved:Rows.ProofChecksCardSaid :=
 Claim7.holds_tied_plain_at .later [] _ _ _ _ said (fun _ h=>by cases h) (by kernel_rfl) (fun _ h=>by cases h) proofChecks_row_tie rfl ⟨rfl,rfl⟩ (by kernel_rfl) rfl plain (by kernel_rfl)
end Go.Proofs.YtfpobpjandjhjaaGreatDoor.proofChecks
