/- The card of ProofKeeps, proved from the law's contract. Conditions: none. -/
import Derived.Test.YtfpobpjandjhjaaGreatDoorRWK
import Derived.Test.YtfpobpjandjhjaaGreatDoorPLR
import Derived.Test.YtfpobpjandjhjaaGreatDoorPXZ
import Derived.Test.YtfpobpjandjhjaaGreatDoorPKB
namespace Go.Proofs.YtfpobpjandjhjaaGreatDoor.proofKeeps
open Go Go.ChangeShapes Go.WideShapes Go.ChangeAt Go.RowKit Pw
set_option maxRecDepth 100000
theorem own:ownKnob Tryz.prog.godebug=none:=by kernel_rfl
theorem laid:laidOutB Tryz.prog=true:=by kernel_rfl
theorem cells3:Tryz.prog.cellsOf 3=1:=by kernel_rfl
theorem cells22:Tryz.prog.cellsOf 22=1:=by kernel_rfl
theorem cells40:Tryz.prog.cellsOf 40=1:=by kernel_rfl
theorem cells42:Tryz.prog.cellsOf 42=4:=by kernel_rfl
theorem cells85:Tryz.prog.cellsOf 85=2:=by kernel_rfl
theorem cells87:Tryz.prog.cellsOf 87=4:=by kernel_rfl
theorem bytes87:Tryz.prog.bytesOf 87=48:=by kernel_rfl
theorem bytes3:Tryz.prog.bytesOf 3=8:=by kernel_rfl
theorem parts:(Tryz.f9.params.toList.all fun t=>Tryz.prog.readableRec t && Nat.blt t Tryz.prog.types.size)=true:=by kernel_rfl
theorem parts':∀ t∈Tryz.f9.params.toList,Tryz.prog.readableRec t=true/\t<Tryz.prog.types.size:=fun t ht=>by
 have:=List.all_eq_true.1 parts t ht
 simp only[Bool.and_eq_true] at this
 exact⟨this.1,by simpa [Nat.blt_eq] using this.2⟩
theorem walk (a0:Sl)(l0:List Int)(z0:l0.length<2^63)(a1 b1:Sl)(l1:List Int)(u1 w1:Int)(N1:List Nd)(w:World)(g:Gl w)(q0:Vw 1 (ie .i64 id) w a0 l0)(q1:LieV w a1 l1 u1 w1 b1 N1) :
  Calls Tryz.prog 9 #[.slice a0.p a0.l a0.c,.agg #[.slice a1.p a1.l a1.c,.int .i64 u1,.int .i64 w1,.slice b1.p b1.l b1.c]] w fun e w'=>e=.returned (.bool true)/\Fr F0 w w':=by
 have h:probitylaw22_ProofKeeps_S [.slice a0.p a0.l a0.c,.agg #[.slice a1.p a1.l a1.c,.int .i64 u1,.int .i64 w1,.slice b1.p b1.l b1.c]] w (fun v w'=>v=.bool true/\Fr F0 w w') :=
  Keeps_fr g q0 z0 q1 fun w' hf=>⟨rfl,hf⟩
 exact(probitylaw22_ProofKeeps_ok.2 _ _ _ h).mono fun e w' ⟨v,he,hv,hf⟩=>⟨by rw[he,hv],hf⟩
theorem contract (H:Type)(enc:TypeId × Value->H)(W:World)(base:Nat)(args:Array Value)(ds gs:List (DataW H))(before:List MemPlace)
  (hval:∀ (j:Nat) t v,Tryz.f9.params[j]?=some t->args[j]?=some v->Value.okWide Tryz.prog W .any base t v)
  (hW:DataW.Whole enc Tryz.prog Tryz.f9.params.toList Rows.proofKeepsSpec.vars false W args.toList ds gs before) (hsz:(DataW.weightsEach Tryz.prog (Tryz.f9.params.toList++(OpenSpec.ofChange Rows.proofKeepsSpec).bare.plain.varTypes Tryz.prog) (ds++gs)).all (·<=reachBytes)=true) (hL:laidMetH Tryz.prog LL W) (hsh:W.ShapedOpen Tryz.prog) :
  Calls Tryz.prog 9 args W fun e W'=>∃ v,e=.returned v/\Rows.proofKeepsSpec.post enc Tryz.prog Tryz.f9 false true false false W args v W':=by
 have g:=glob hL hsh
 have hW':=hW
 obtain⟨p,q,hA0,hV,rfl,hfz,hnd⟩:=hW
 have hA:DataW.TrodAll enc Tryz.prog W 0 (fun _=>true) true Tryz.f9.params.toList args.toList ds p:=hA0
 rw[Tryz.params9] at hA hval hsz
 obtain⟨v0,vs0,d0,ds0,p0,q0,hargs,rfl,rfl,h0,r0⟩:=trodAll_cons hA
 obtain⟨v1,vs1,d1,ds1,p1,q1,rfl,rfl,rfl,h1,r1⟩:=trodAll_cons r0
 obtain⟨rfl,rfl,rfl⟩:=trodAll_nil r1
 obtain rfl:args=#[v0,v1]:=by cases args; simp_all
 obtain⟨rfl,rfl⟩:=trodVars_none hV
 obtain⟨a0,l0,rfl,q0,_,z0⟩:=arg_vi Tryz.underlying22 Tryz.underlying3 cells3 (hval 0 22 v0 rfl rfl) h0
 obtain⟨a1,b1,l1,u1,w1,N1,rfl,q1⟩:=arg_lie Tryz.underlying42 Tryz.underlying22 Tryz.underlying3 Tryz.underlying3 Tryz.underlying3 Tryz.underlying40 Tryz.underlying87 Tryz.underlying3 Tryz.underlying85 Tryz.underlying3 Tryz.underlying22 Tryz.underlying3 ⟨rfl,rfl,rfl,rfl⟩ ⟨rfl,rfl,rfl⟩ ⟨cells42,cells22,cells3,cells3,cells40,cells3⟩ ⟨cells87,cells3,cells85,cells3,cells22,cells3⟩ bytes3 bytes3 bytes87 (hval 1 42 v1 rfl rfl) h1 fun n hn=>by
  have:=List.all_eq_true.1 hsz n (DataW.weights_mem_each (j:=1) rfl rfl n hn)
  simpa using this
 clear hA0
 refine(walk a0 l0 z0 a1 b1 l1 u1 w1 N1 W g q0 q1).mono fun e W' ⟨he,hg⟩=>?_
 subst he
 exact⟨_,rfl,Pw.post_true laid parts' rfl Tryz.underlying4 hW' rfl rfl rfl rfl hg⟩
theorem reads (os:Os){H:Type}(enc:TypeId × Value->H):∃ places,DataW.whole enc Tryz.prog ((laidWorld os).forCall (fun _ _=>0) ⟨#[],#[.slice none 0 0,.agg #[.slice none 0 0,.int .i64 0,.int .i64 0,.slice none 0 0]],[]⟩).memory Tryz.f9.params.toList Rows.proofKeepsSpec.vars false (#[.slice none 0 0,.agg #[.slice none 0 0,.int .i64 0,.int .i64 0,.slice none 0 0]]:Array Value).toList 8=some ([.nil,.agg [.nil,.lit (.int .i64 0),.lit (.int .i64 0),.nil]],[],places) :=
 ⟨[],by kernel_rfl⟩
set_option maxRecDepth 100000 in
theorem lifted (os:Os)(started:os.Started)(H:Type)(enc:TypeId × Value->H)(F:Stop.Interp) :
  ReturnsInHanded {} Tryz.checked os 9 .any ((OpenSpec.ofChange Rows.proofKeepsSpec).preRow enc Tryz.prog Tryz.f9 Rows.proofKeepsRow.domain false Rows.proofKeepsRow.laid) (((OpenSpec.ofChange Rows.proofKeepsSpec).at F).post enc Tryz.prog Tryz.f9 false true false false):=by
 obtain⟨places,hx⟩:=reads os enc
 refine returnsInHanded_of_row (C:=Tryz.checked) (s:=OpenSpec.ofChange Rows.proofKeepsSpec) own started (by kernel_rfl) Tryz.func9
  (witness_row_at (enc:=enc) (C:=Tryz.checked) false (laidWorld os) #[.slice none 0 0,.agg #[.slice none 0 0,.int .i64 0,.int .i64 0,.slice none 0 0]] rfl (by kernel_rfl) (by kernel_rfl) (by kernel_rfl)
   (OpenSpec.preRow_of_cond 8 hx (by kernel_rfl) (fun k hk=>by cases hk) (by kernel_rfl) (laid_met os _))) ?_
 intro W base args ds gs before hval hW _ hcond hsz hL hsh _
 exact contract H enc W base args ds gs before hval hW hsz hL hsh
theorem said:Rows.ProofKeepsSaid :=
 OpenClaim.holds_of_cond 9 Tryz.f9 rfl rfl rfl rfl rfl rfl rfl ⟨rfl,rfl,rfl,rfl,rfl⟩ rfl rfl rfl rfl rfl (by kernel_rfl) Tryz.func9 (by kernel_rfl)
  (of_decide_eq_true (by kernel_rfl)) (by unfold Func.isWrapper; first | (rw[if_pos (by decide +kernel)]; kernel_rfl) | (rw[if_neg (by decide +kernel)]; exact⟨rfl,rfl⟩))
  (fun os started H enc _ F=>by rw[OpenClaim.pre_eq_preRow]; exact lifted os started H enc F)
theorem plain (f:FuncId)(fn:Func)(hf:Tryz.pinned.checked.prog.funcNamed "probity/probitylaw22.ProofKeeps"=some f)(hfn:Tryz.pinned.checked.prog.funcs[f]?=some fn) :
  true=Tryz.pinned.checked.prog.looks []/\∀ (j:Nat) t,fn.params[j]?=some t->Tryz.pinned.checked.prog.wantsStandIn t=false:=by
 obtain rfl:f=9:=Option.some.inj ((show Tryz.prog.funcNamed "probity/probitylaw22.ProofKeeps"=some 9 by kernel_rfl).symm.trans hf) |>.symm
 obtain rfl:fn=Tryz.f9:=(Option.some.inj (Tryz.func9.symm.trans hfn)).symm
 refine⟨by kernel_rfl,fun j t ht=>?_⟩
 rw[Tryz.params9] at ht
 have ht:=Array.mem_of_getElem? ht
 have h:t=22\/t=42:=by simp at ht; first | omega | (rcases ht with rfl | rfl<;>simp) | (rcases ht with rfl | rfl | rfl<;>simp)
 rcases h with rfl | rfl
 ·exact(show Tryz.prog.wantsStandIn 22=false by kernel_rfl)
 ·exact(show Tryz.prog.wantsStandIn 42=false by kernel_rfl)
theorem proved:Rows.ProofKeepsCardSaid :=
 Claim7.holds_tied_plain_at .later [] _ _ _ _ said (fun _ h=>by cases h) (by kernel_rfl) (fun _ h=>by cases h) proofKeeps_row_tie rfl ⟨rfl,rfl⟩ (by kernel_rfl) rfl plain (by kernel_rfl)
end Go.Proofs.YtfpobpjandjhjaaGreatDoor.proofKeeps
