/- The card of ProofValid, proved from the law's contract. Conditions: none. -/
import Derived.Test.YtfpobpjandjhjaaDoorRWQ
import Derived.Test.YtfpobpjandjhjaaDoorPLR
import Derived.Test.YtfpobpjandjhjaaDoorPL3
namespace Go.Proofs.YtfpobpjandjhjaaDoor.proofValid
open Go Go.ChangeShapes Go.WideShapes Go.ChangeAt Go.RowKit Pw
set_option maxRecDepth 100000
theorem own : ownKnob Tryd.prog.godebug = none := by kernel_rfl
theorem laid : laidOutB Tryd.prog = true := by kernel_rfl
theorem cells3 : Tryd.prog.cellsOf 3 = 1 := by kernel_rfl
theorem cells23 : Tryd.prog.cellsOf 23 = 3 := by kernel_rfl
theorem bytes3 : Tryd.prog.bytesOf 3 = 8 := by kernel_rfl
theorem parts : (Tryd.f3.params.toList.all fun t => Tryd.prog.readableRec t && Nat.blt t Tryd.prog.types.size) = true := by kernel_rfl
theorem parts' : ∀ t ∈ Tryd.f3.params.toList, Tryd.prog.readableRec t = true /\ t < Tryd.prog.types.size := fun t ht => by
 have := List.all_eq_true.1 parts t ht
 simp only [Bool.and_eq_true] at this
 exact ⟨this.1, by simpa [Nat.blt_eq] using this.2⟩
theorem walk (a0 : Sl) (l0 : List Int) (z0 : l0.length < 2 ^ 63) (a1 : Sl) (l1 : List Int) (z1 : l1.length < 2 ^ 63) (y1 : l1.length * 8 <= 140737488351232) (a2_0 : Int) (w2_0 : (Lit.int .i64 a2_0).wf = true) (a2_1 : Int) (w2_1 : (Lit.int .i64 a2_1).wf = true) (a2_2 : Int) (w2_2 : (Lit.int .i64 a2_2).wf = true) (w : World) (g : GlT w) (q0 : Vw 1 (ie .i64 id) w a0 l0) (q1 : Vw 1 (ie .i64 id) w a1 l1) :
  Calls Tryd.prog 3 #[.slice a0.p a0.l a0.c, .slice a1.p a1.l a1.c, .agg #[.int .i64 a2_0, .int .i64 a2_1, .int .i64 a2_2]] w fun e w' => e = .returned (.bool true) /\ Fr F0 w w' := by
 have h : z04_S [.slice a0.p a0.l a0.c, .slice a1.p a1.l a1.c, .agg #[.int .i64 a2_0, .int .i64 a2_1, .int .i64 a2_2]] w (fun v w' => v = .bool true /\ Fr F0 w w') :=
  Valid_fr g q0 z0 q1 z1 y1 ⟨wf_i64 w2_0, wf_i64 w2_1, wf_i64 w2_2⟩ fun w' hf => ⟨rfl, hf⟩
 exact (z04_ok.2 _ _ _ h).mono fun e w' ⟨v, he, hv, hf⟩ => ⟨by rw [he, hv], hf⟩
theorem contract (H : Type) (enc : TypeId × Value -> H) (W : World) (base : Nat) (args : Array Value) (ds gs : List (DataW H)) (before : List MemPlace)
  (hval : ∀ (j : Nat) t v, Tryd.f3.params[j]? = some t -> args[j]? = some v -> Value.okWide Tryd.prog W .any base t v)
  (hW : DataW.Whole enc Tryd.prog Tryd.f3.params.toList Rows.proofValidSpec.vars false W args.toList ds gs before) (hsz : (DataW.weightsEach Tryd.prog (Tryd.f3.params.toList ++ (OpenSpec.ofChange Rows.proofValidSpec).bare.plain.varTypes Tryd.prog) (ds ++ gs)).all (· <= reachBytes) = true) (hL : laidMetH Tryd.prog LL W) :
  Calls Tryd.prog 3 args W fun e W' => ∃ v, e = .returned v /\ Rows.proofValidSpec.post enc Tryd.prog Tryd.f3 false true false false W args v W' := by
 have g := glob hL
 have hW' := hW
 obtain ⟨p, q, hA0, hV, rfl, hfz, hnd⟩ := hW
 have hA : DataW.TrodAll enc Tryd.prog W 0 (fun _ => true) true Tryd.f3.params.toList args.toList ds p := hA0
 rw [Tryd.params3] at hA hval hsz
 obtain ⟨v0, vs0, d0, ds0, p0, q0, hargs, rfl, rfl, h0, r0⟩ := trodAll_cons hA
 obtain ⟨v1, vs1, d1, ds1, p1, q1, rfl, rfl, rfl, h1, r1⟩ := trodAll_cons r0
 obtain ⟨v2, vs2, d2, ds2, p2, q2, rfl, rfl, rfl, h2, r2⟩ := trodAll_cons r1
 obtain ⟨rfl, rfl, rfl⟩ := trodAll_nil r2
 obtain rfl : args = #[v0, v1, v2] := by cases args; simp_all
 obtain ⟨rfl, rfl⟩ := trodVars_none hV
 obtain ⟨a0, l0, rfl, q0, _, z0⟩ := arg_vi Tryd.underlying22 Tryd.underlying3 cells3 (hval 0 22 v0 rfl rfl) h0
 obtain ⟨a1, l1, rfl, q1, _, z1, x1⟩ := arg_viR Tryd.underlying22 Tryd.underlying3 cells3 (hval 1 22 v1 rfl rfl) h1
 have y1 : l1.length * 8 <= reachBytes := x1 reachBytes 8 bytes3 fun n hn => by
  have := List.all_eq_true.1 hsz n (DataW.weights_mem_each (j := 1) rfl rfl n hn)
  simpa using this
 obtain ⟨l2, hl2, rfl, hw2⟩ := arg_arr Tryd.underlying23 Tryd.underlying3 cells3 cells23 (hval 2 23 v2 rfl rfl) h2
 obtain ⟨a2_0, a2_1, a2_2, rfl⟩ := list3 hl2
 have w2_0 := hw2 a2_0 (by simp)
 have w2_1 := hw2 a2_1 (by simp)
 have w2_2 := hw2 a2_2 (by simp)
 clear hA0
 refine (walk a0 l0 z0 a1 l1 z1 y1 a2_0 w2_0 a2_1 w2_1 a2_2 w2_2 W g q0 q1).mono fun e W' ⟨he, hg⟩ => ?_
 subst he
 exact ⟨_, rfl, Pw.post_true laid parts' rfl Tryd.underlying4 hW' rfl rfl rfl rfl hg⟩
theorem reads (os : Os) {H : Type} (enc : TypeId × Value -> H) : ∃ places, DataW.whole enc Tryd.prog ((laidWorld os).forCall (fun _ _ => 0) ⟨#[], #[.slice none 0 0, .slice none 0 0, .agg #[.int .i64 0, .int .i64 0, .int .i64 0]], []⟩).memory Tryd.f3.params.toList Rows.proofValidSpec.vars false (#[.slice none 0 0, .slice none 0 0, .agg #[.int .i64 0, .int .i64 0, .int .i64 0]] : Array Value).toList 8 = some ([.nil, .nil, .agg [.lit (.int .i64 0), .lit (.int .i64 0), .lit (.int .i64 0)]], [], places) :=
 ⟨[], by kernel_rfl⟩
set_option maxRecDepth 100000 in
theorem lifted (os : Os) (started : os.Started) (H : Type) (enc : TypeId × Value -> H) (F : Stop.Interp) :
  ReturnsInHanded {} Tryd.checked os 3 .any ((OpenSpec.ofChange Rows.proofValidSpec).preRow enc Tryd.prog Tryd.f3 Rows.proofValidRow.domain false Rows.proofValidRow.laid) (((OpenSpec.ofChange Rows.proofValidSpec).at F).post enc Tryd.prog Tryd.f3 false true false false) := by
 obtain ⟨places, hx⟩ := reads os enc
 refine returnsInHanded_of_row (C := Tryd.checked) (s := OpenSpec.ofChange Rows.proofValidSpec) own started (by kernel_rfl) Tryd.func3
  (witness_row_at (enc := enc) (C := Tryd.checked) false (laidWorld os) #[.slice none 0 0, .slice none 0 0, .agg #[.int .i64 0, .int .i64 0, .int .i64 0]] rfl (by kernel_rfl) (by kernel_rfl) (by kernel_rfl)
   (OpenSpec.preRow_of_cond 8 hx (by kernel_rfl) (fun k hk => by cases hk) (by kernel_rfl) (laid_met os _))) ?_
 intro W base args ds gs before hval hW _ hcond hsz hL hsh _
 exact contract H enc W base args ds gs before hval hW hsz hL
theorem said : Rows.ProofValidSaid :=
 OpenClaim.holds_of_cond 3 Tryd.f3 rfl rfl rfl rfl rfl rfl rfl ⟨rfl, rfl, rfl, rfl, rfl⟩ rfl rfl rfl rfl rfl (by kernel_rfl) Tryd.func3 (by kernel_rfl)
  (of_decide_eq_true (by kernel_rfl)) (by unfold Func.isWrapper; first | (rw [if_pos (by decide +kernel)]; kernel_rfl) | (rw [if_neg (by decide +kernel)]; exact ⟨rfl, rfl⟩))
  (fun os started H enc _ F => by rw [OpenClaim.pre_eq_preRow]; exact lifted os started H enc F)
theorem plain (f : FuncId) (fn : Func) (hf : Tryd.pinned.checked.prog.funcNamed "probity/probitylaw22.ProofValid" = some f) (hfn : Tryd.pinned.checked.prog.funcs[f]? = some fn) :
  false = Tryd.pinned.checked.prog.looks [] /\ ∀ (j : Nat) t, fn.params[j]? = some t -> Tryd.pinned.checked.prog.wantsStandIn t = false := by
 obtain rfl : f = 3 := Option.some.inj ((show Tryd.prog.funcNamed "probity/probitylaw22.ProofValid" = some 3 by kernel_rfl).symm.trans hf) |>.symm
 obtain rfl : fn = Tryd.f3 := (Option.some.inj (Tryd.func3.symm.trans hfn)).symm
 refine ⟨by kernel_rfl, fun j t ht => ?_⟩
 rw [Tryd.params3] at ht
 have ht := Array.mem_of_getElem? ht
 have h : t = 22 \/ t = 23 := by simp at ht; first | omega | (rcases ht with rfl | rfl <;> simp) | (rcases ht with rfl | rfl | rfl <;> simp)
 rcases h with rfl | rfl
 ·exact (show Tryd.prog.wantsStandIn 22 = false by kernel_rfl)
 ·exact (show Tryd.prog.wantsStandIn 23 = false by kernel_rfl)
theorem proved : Rows.ProofValidCardSaid :=
 Claim7.holds_tied_plain_at .later [] _ _ _ _ said (fun _ h => by cases h) (by kernel_rfl) (fun _ h => by cases h) proofValid_row_tie rfl ⟨rfl, rfl⟩ (by kernel_rfl) rfl plain (by kernel_rfl)
end Go.Proofs.YtfpobpjandjhjaaDoor.proofValid
