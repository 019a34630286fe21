/- The card of ProofWhole, proved from the law's contract. Conditions: none. -/
import Derived.Test.YtfpobpjandjhjaaGreatDoorRW
import Derived.Test.YtfpobpjandjhjaaGreatDoorPXY
import Derived.Test.YtfpobpjandjhjaaGreatDoorPW4
namespace Go.Proofs.YtfpobpjandjhjaaGreatDoor.proofWhole
open Go Go.ChangeShapes Go.WideShapes Go.ChangeAt Go.RowKit Pw
set_option maxRecDepth 100000
theorem own : ownKnob Tryz.prog.godebug = none := by kernel_rfl
theorem laid : laidOutB Tryz.prog = true := by kernel_rfl
theorem cells3 : Tryz.prog.cellsOf 3 = 1 := by kernel_rfl
theorem bytes3 : Tryz.prog.bytesOf 3 = 8 := by kernel_rfl
theorem parts : (Tryz.f5.params.toList.all fun t => Tryz.prog.readableRec t && Nat.blt t Tryz.prog.types.size) = true := by kernel_rfl
theorem parts' : ∀ t ∈ Tryz.f5.params.toList, Tryz.prog.readableRec t = true /\ t < Tryz.prog.types.size := fun t ht => by
 have := List.all_eq_true.1 parts t ht
 simp only [Bool.and_eq_true] at this
 exact ⟨this.1, by simpa [Nat.blt_eq] using this.2⟩
theorem walk (a0 : Sl) (l0 : List Int) (z0 : l0.length < 2 ^ 63) (a1 : Sl) (l1 : List Int) (z1 : l1.length < 2 ^ 63) (y1 : l1.length * 8 <= 140737488351232) (w : World) (g : GlT w) (q0 : Vw 1 (ie .i64 id) w a0 l0) (q1 : Vw 1 (ie .i64 id) w a1 l1) :
  Calls Tryz.prog 5 #[.slice a0.p a0.l a0.c, .slice a1.p a1.l a1.c] w fun e w' => e = .returned (.bool true) /\ Fr F0 w w' := by
 have h : z0d_S [.slice a0.p a0.l a0.c, .slice a1.p a1.l a1.c] w (fun v w' => v = .bool true /\ Fr F0 w w') :=
  Whole_fr g q0 z0 q1 z1 y1 fun w' hf => ⟨rfl, hf⟩
 exact (z0d_ok.2 _ _ _ h).mono fun e w' ⟨v, he, hv, hf⟩ => ⟨by rw [he, hv], hf⟩
theorem contract (H : Type) (enc : TypeId × Value -> H) (W : World) (base : Nat) (args : Array Value) (ds gs : List (DataW H)) (before : List MemPlace)
  (hval : ∀ (j : Nat) t v, Tryz.f5.params[j]? = some t -> args[j]? = some v -> Value.okWide Tryz.prog W .any base t v)
  (hW : DataW.Whole enc Tryz.prog Tryz.f5.params.toList Rows.proofWholeSpec.vars false W args.toList ds gs before) (hsz : (DataW.weightsEach Tryz.prog (Tryz.f5.params.toList ++ (OpenSpec.ofChange Rows.proofWholeSpec).bare.plain.varTypes Tryz.prog) (ds ++ gs)).all (· <= reachBytes) = true) (hL : laidMetH Tryz.prog LL W) :
  Calls Tryz.prog 5 args W fun e W' => ∃ v, e = .returned v /\ Rows.proofWholeSpec.post enc Tryz.prog Tryz.f5 false true false false W args v W' := by
 have g := glob hL
 have hW' := hW
 obtain ⟨p, q, hA0, hV, rfl, hfz, hnd⟩ := hW
 have hA : DataW.TrodAll enc Tryz.prog W 0 (fun _ => true) true Tryz.f5.params.toList args.toList ds p := hA0
 rw [Tryz.params5] at hA hval hsz
 obtain ⟨v0, vs0, d0, ds0, p0, q0, hargs, rfl, rfl, h0, r0⟩ := trodAll_cons hA
 obtain ⟨v1, vs1, d1, ds1, p1, q1, rfl, rfl, rfl, h1, r1⟩ := trodAll_cons r0
 obtain ⟨rfl, rfl, rfl⟩ := trodAll_nil r1
 obtain rfl : args = #[v0, v1] := by cases args; simp_all
 obtain ⟨rfl, rfl⟩ := trodVars_none hV
 obtain ⟨a0, l0, rfl, q0, _, z0⟩ := arg_vi Tryz.underlying22 Tryz.underlying3 cells3 (hval 0 22 v0 rfl rfl) h0
 obtain ⟨a1, l1, rfl, q1, _, z1, x1⟩ := arg_viR Tryz.underlying22 Tryz.underlying3 cells3 (hval 1 22 v1 rfl rfl) h1
 have y1 : l1.length * 8 <= reachBytes := x1 reachBytes 8 bytes3 fun n hn => by
  have := List.all_eq_true.1 hsz n (DataW.weights_mem_each (j := 1) rfl rfl n hn)
  simpa using this
 clear hA0
 refine (walk a0 l0 z0 a1 l1 z1 y1 W g q0 q1).mono fun e W' ⟨he, hg⟩ => ?_
 subst he
 exact ⟨_, rfl, Pw.post_true laid parts' rfl Tryz.underlying4 hW' rfl rfl rfl rfl hg⟩
theorem reads (os : Os) {H : Type} (enc : TypeId × Value -> H) : ∃ places, DataW.whole enc Tryz.prog ((laidWorld os).forCall (fun _ _ => 0) ⟨#[], #[.slice none 0 0, .slice none 0 0], []⟩).memory Tryz.f5.params.toList Rows.proofWholeSpec.vars false (#[.slice none 0 0, .slice none 0 0] : Array Value).toList 8 = some ([.nil, .nil], [], places) :=
 ⟨[], by kernel_rfl⟩
set_option maxRecDepth 100000 in
theorem lifted (os : Os) (started : os.Started) (H : Type) (enc : TypeId × Value -> H) (F : Stop.Interp) :
  ReturnsInHanded {} Tryz.checked os 5 .any ((OpenSpec.ofChange Rows.proofWholeSpec).preRow enc Tryz.prog Tryz.f5 Rows.proofWholeRow.domain false Rows.proofWholeRow.laid) (((OpenSpec.ofChange Rows.proofWholeSpec).at F).post enc Tryz.prog Tryz.f5 false true false false) := by
 obtain ⟨places, hx⟩ := reads os enc
 refine returnsInHanded_of_row (C := Tryz.checked) (s := OpenSpec.ofChange Rows.proofWholeSpec) own started (by kernel_rfl) Tryz.func5
  (witness_row_at (enc := enc) (C := Tryz.checked) false (laidWorld os) #[.slice none 0 0, .slice none 0 0] rfl (by kernel_rfl) (by kernel_rfl) (by kernel_rfl)
   (OpenSpec.preRow_of_cond 8 hx (by kernel_rfl) (fun k hk => by cases hk) (by kernel_rfl) (laid_met os _))) ?_
 intro W base args ds gs before hval hW _ hcond hsz hL hsh _
 exact contract H enc W base args ds gs before hval hW hsz hL
theorem said : Rows.ProofWholeSaid :=
 OpenClaim.holds_of_cond 5 Tryz.f5 rfl rfl rfl rfl rfl rfl rfl ⟨rfl, rfl, rfl, rfl, rfl⟩ rfl rfl rfl rfl rfl (by kernel_rfl) Tryz.func5 (by kernel_rfl)
  (of_decide_eq_true (by kernel_rfl)) (by unfold Func.isWrapper; first | (rw [if_pos (by decide +kernel)]; kernel_rfl) | (rw [if_neg (by decide +kernel)]; exact ⟨rfl, rfl⟩))
  (fun os started H enc _ F => by rw [OpenClaim.pre_eq_preRow]; exact lifted os started H enc F)
theorem plain (f : FuncId) (fn : Func) (hf : Tryz.pinned.checked.prog.funcNamed "probity/probitylaw22.ProofWhole" = some f) (hfn : Tryz.pinned.checked.prog.funcs[f]? = some fn) :
  true = Tryz.pinned.checked.prog.looks [] /\ ∀ (j : Nat) t, fn.params[j]? = some t -> Tryz.pinned.checked.prog.wantsStandIn t = false := by
 obtain rfl : f = 5 := Option.some.inj ((show Tryz.prog.funcNamed "probity/probitylaw22.ProofWhole" = some 5 by kernel_rfl).symm.trans hf) |>.symm
 obtain rfl : fn = Tryz.f5 := (Option.some.inj (Tryz.func5.symm.trans hfn)).symm
 refine ⟨by kernel_rfl, fun j t ht => ?_⟩
 rw [Tryz.params5] at ht
 have ht := Array.mem_of_getElem? ht
 have h : t = 22 := by simp at ht; first | omega | (rcases ht with rfl | rfl <;> simp) | (rcases ht with rfl | rfl | rfl <;> simp)
 rcases h with rfl
 ·exact (show Tryz.prog.wantsStandIn 22 = false by kernel_rfl)
theorem proved : Rows.ProofWholeCardSaid :=
 Claim7.holds_tied_plain_at .later [] _ _ _ _ said (fun _ h => by cases h) (by kernel_rfl) (fun _ h => by cases h) proofWhole_row_tie rfl ⟨rfl, rfl⟩ (by kernel_rfl) rfl plain (by kernel_rfl)
end Go.Proofs.YtfpobpjandjhjaaGreatDoor.proofWhole
