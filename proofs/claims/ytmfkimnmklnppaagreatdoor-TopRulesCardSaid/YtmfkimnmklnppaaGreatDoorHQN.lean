/- The card of TopRules, proved from the contract of the law. Conditions: none. -/
import Derived.Test.YtmfkimnmklnppaaGreatDoorHQL
import Derived.Test.YtmfkimnmklnppaaGreatDoorHQM
open List renaming getElem?_eq_some_iff->J0,length_map->J1,length_filter_le->J2,mem_map->J3,length_set->J4,getElem?_eq_getElem->J5,getElem_mem->J6,all_eq_true->J7,set_append_right->J8,map_append->J9,length_zip->Ja,drop_succ_cons->Jb,filter_sublist->Jc,flatMap_cons->Jd,map_map->Je,nodup_cons->Jf,nil_append->Jg,mem_cons->Jh,map_cons->Ji,range->Jj
open Int renaming le_refl->Jk,toNat_natCast->Jl,lt_or_le->Jm
open Nat renaming zero_add->Jn,zero_le->Jo,lt_or_ge->Jp,le_refl->Jq
set_option maxRecDepth 100000
namespace Go.Proofs.YtmfkimnmklnppaaGreatDoor.topRules
open Go Go.ChangeShapes Go.WideShapes Go.ChangeAt Go.RowKit Pw Dp
theorem own:ownKnob Tryz.prog.godebug=none:=by kernel_rfl
theorem laid:laidOutB Tryz.prog=true:=by kernel_rfl
theorem qsw:Tryz.prog.cellsOf 3=1:=by kernel_rfl
theorem qsx:Tryz.prog.bytesOf 3=8:=by kernel_rfl
theorem parts:(Tryz.f3.params.toList.all fun t=>Tryz.prog.readableRec t&&Nat.blt t Tryz.prog.types.size)=true:=by kernel_rfl
theorem parts':∀t∈Tryz.f3.params.toList,Tryz.prog.readableRec t=true/\t<Tryz.prog.types.size:=fun t ht=>by
 have:=J7.1 parts t ht
 simp only[Bool.and_eq_true]at this
 exact⟨this.1,by simpa [Nat.blt_eq]using this.2⟩
theorem walk(a0:Sl)(l0:List Int)(i0:∀n∈l0,I64 n)(y0:l0.length*8<=140737488351232)(a1:Sl)(l1:List Int)(i1:∀n∈l1,I64 n)(y1:l1.length*8<=140737488351232)(a2:Int)(w2:(Lit.int .u8 a2).wf=true)(w:World)(g:Gm w)(q0:Vw 1 encI w a0 l0)(q1:Vw 1 encI w a1 l1) :
  Calls Tryz.prog 3 #[.slice a0.p a0.l a0.c,.slice a1.p a1.l a1.c,.int .u8 a2] w fun e w'=>e=.returned (.bool true)/\Fr F0 w w':=by
 have h:z13_S [.slice a0.p a0.l a0.c,.slice a1.p a1.l a1.c,.int .u8 a2] w (fun v w'=>v=.bool true/\Fr F0 w w'):=
  qfa g q0 y0 q1 y1 w2 fun w' hf=>⟨rfl,hf⟩
 exact(z13_ok.2 _ _ _ h).mono fun e w' ⟨v,he,hv,hf⟩=>⟨by rw[he,hv],hf⟩
theorem qs5(H:Type)(enc:TypeId×Value->H)(W:World)(base:Nat)(args:Array Value)(ds gs:List (DataW H))(before:List MemPlace)
  (hval:∀(j:Nat) t v,Tryz.f3.params[j]?=some t->args[j]?=some v->Value.okWide Tryz.prog W .any base t v)
  (hW:DataW.Whole enc Tryz.prog Tryz.f3.params.toList Rows.topRulesSpec.vars false W args.toList ds gs before) (hsz:(DataW.weightsEach Tryz.prog (Tryz.f3.params.toList++(OpenSpec.ofChange Rows.topRulesSpec).bare.plain.varTypes Tryz.prog) (ds++gs)).all (·<=reachBytes)=true) (hL:laidMetH Tryz.prog LL W) (hsh:W.ShapedOpen Tryz.prog) :
  Calls Tryz.prog 3 args W fun e W'=>∃v,e=.returned v/\Rows.topRulesSpec.post enc Tryz.prog Tryz.f3 false true false false W args v W':=by
 have g:=glob hL hsh
 have hW':=hW
 obtain⟨p,q,hA0,hV,rfl,hfz,hnd⟩:=hW
 have hA:DataW.TrodAll enc Tryz.prog W 0 (fun _=>true) true Tryz.f3.params.toList args.toList ds p:=hA0
 rw[Tryz.params3]at hA hval hsz
 obtain⟨v0,vs0,d0,ds0,p0,q0,hargs,rfl,rfl,h0,r0⟩:=trodAll_cons hA
 obtain⟨v1,vs1,d1,ds1,p1,q1,rfl,rfl,rfl,h1,r1⟩:=trodAll_cons r0
 obtain⟨v2,vs2,d2,ds2,p2,q2,rfl,rfl,rfl,h2,r2⟩:=trodAll_cons r1
 obtain⟨rfl,rfl,rfl⟩:=trodAll_nil r2
 obtain rfl:args=#[v0,v1,v2]:=by cases args;simp_all
 obtain⟨rfl,rfl⟩:=trodVars_none hV
 obtain⟨a0,l0,rfl,q0,i0,x0⟩:=qj2 Tryz.underlying22 Tryz.underlying3 qsw (hval 0 22 v0 rfl rfl) h0
 have y0:l0.length*8<=reachBytes:=x0 reachBytes 8 qsx fun n hn=>by
  have:=J7.1 hsz n (DataW.weights_mem_each (j:=0) rfl rfl n hn)
  simpa using this
 obtain⟨a1,l1,rfl,q1,i1,x1⟩:=qj2 Tryz.underlying22 Tryz.underlying3 qsw (hval 1 22 v1 rfl rfl) h1
 have y1:l1.length*8<=reachBytes:=x1 reachBytes 8 qsx fun n hn=>by
  have:=J7.1 hsz n (DataW.weights_mem_each (j:=1) rfl rfl n hn)
  simpa using this
 obtain⟨a2,rfl,_,_,w2⟩:=open_int Tryz.underlying5 (hval 2 5 v2 rfl rfl) h2
 clear hA0
 refine(walk a0 l0 i0 y0 a1 l1 i1 y1 a2 w2 W g q0 q1).mono fun e W' ⟨he,hg⟩=>?_
 subst he
 exact⟨_,rfl,Pw.post_true laid parts' rfl Tryz.underlying4 hW' rfl rfl rfl rfl hg⟩
theorem reads(os:Os){H:Type}(enc:TypeId×Value->H):∃places,DataW.whole enc Tryz.prog ((q91 os).forCall (fun _ _=>0) ⟨#[],#[.slice none 0 0,.slice none 0 0,.int .u8 0],[]⟩).memory Tryz.f3.params.toList Rows.topRulesSpec.vars false (#[.slice none 0 0,.slice none 0 0,.int .u8 0]:Array Value).toList 8=some ([.nil,.nil,.lit (.int .u8 0)],[],places):=
 ⟨[],by kernel_rfl⟩
set_option maxRecDepth 100000 in
theorem lifted(os:Os)(started:os.Started)(H:Type)(enc:TypeId×Value->H)(F:Stop.Interp) :
  ReturnsInHanded {} Tryz.checked os 3 .any ((OpenSpec.ofChange Rows.topRulesSpec).preRow enc Tryz.prog Tryz.f3 Rows.topRulesRow.domain false Rows.topRulesRow.laid) (((OpenSpec.ofChange Rows.topRulesSpec).at F).post enc Tryz.prog Tryz.f3 false true false false):=by
 obtain⟨places,hx⟩:=reads os enc
 refine returnsInHanded_of_row (C:=Tryz.checked) (s:=OpenSpec.ofChange Rows.topRulesSpec) own started (by kernel_rfl) Tryz.func3
  (witness_row_at (enc:=enc) (C:=Tryz.checked) false (q91 os) #[.slice none 0 0,.slice none 0 0,.int .u8 0] rfl (by kernel_rfl) (by kernel_rfl) (by kernel_rfl)
   (OpenSpec.preRow_of_cond 8 hx (by kernel_rfl) (fun k hk=>by cases hk) (by kernel_rfl) (qq7 os _))) ?_
 intro W base args ds gs before hval hW _ hcond hsz hL hsh _
 exact qs5 H enc W base args ds gs before hval hW hsz hL hsh
theorem said:Rows.TopRulesSaid:=
 OpenClaim.holds_of_cond 3 Tryz.f3 rfl rfl rfl rfl rfl rfl rfl ⟨rfl,rfl,rfl,rfl,rfl⟩ rfl rfl rfl rfl rfl (by kernel_rfl) Tryz.func3 closed
  (of_decide_eq_true (by kernel_rfl)) (by unfold Func.isWrapper;first|(rw[if_pos (by decide +kernel)];kernel_rfl)|(rw[if_neg (by decide +kernel)];exact⟨rfl,rfl⟩))
  (fun os started H enc _ F=>by rw[OpenClaim.pre_eq_preRow];exact lifted os started H enc F)
theorem plain(f:FuncId)(fn:Func)(hf:Tryz.pinned.checked.prog.funcNamed "probity/probitytop.TopRules"=some f)(hfn:Tryz.pinned.checked.prog.funcs[f]?=some fn) :
  true=Tryz.pinned.checked.prog.looks []/\∀(j:Nat) t,fn.params[j]?=some t->Tryz.pinned.checked.prog.wantsStandIn t=false:=by
 obtain rfl:f=3:=Option.some.inj ((show Tryz.prog.funcNamed "probity/probitytop.TopRules"=some 3 by kernel_rfl).symm.trans hf) |>.symm
 obtain rfl:fn=Tryz.f3:=(Option.some.inj (Tryz.func3.symm.trans hfn)).symm
 refine⟨by kernel_rfl,fun j t ht=>?_⟩
 rw[Tryz.params3]at ht
 have ht:=Array.mem_of_getElem? ht
 have h:t=5\/t=22:=by simp at ht;first|omega|(rcases ht with rfl|rfl<;>simp)|(rcases ht with rfl|rfl|rfl<;>simp)
 rcases h with rfl|rfl
 ·exact(show Tryz.prog.wantsStandIn 5=false by kernel_rfl)
 ·exact(show Tryz.prog.wantsStandIn 22=false by kernel_rfl)
theorem proved:Rows.TopRulesCardSaid:=
 Claim7.holds_tied_plain_at .later [] _ _ _ _ said (fun _ h=>by cases h) (by kernel_rfl) (fun _ h=>by cases h) topRules_row_tie rfl ⟨rfl,rfl⟩ (by kernel_rfl) rfl plain (by kernel_rfl)
