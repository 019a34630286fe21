/- The card of DependClosed, proved from the law's contract. Conditions: none. -/
import Derived.Test.YtfkmpbpkahcogaaGreatDoorDRW
import Derived.Test.YtfkmpbpkahcogaaGreatDoorDRTX
import Derived.Test.YtfkmpbpkahcogaaGreatDoorDQ7
namespace Go.Proofs.YtfkmpbpkahcogaaGreatDoor.dependClosed
open Go Go.ChangeShapes Go.WideShapes Go.ChangeAt Go.RowKit Pw Dp
set_option maxRecDepth 100000
theorem own : ownKnob Tryz.prog.godebug = none := by kernel_rfl
theorem laid : laidOutB Tryz.prog = true := by kernel_rfl
theorem cells3 : Tryz.prog.cellsOf 3 = 1 := by kernel_rfl
theorem cells22 : Tryz.prog.cellsOf 22 = 1 := by kernel_rfl
theorem cells23 : Tryz.prog.cellsOf 23 = 1 := by kernel_rfl
theorem cells24 : Tryz.prog.cellsOf 24 = 1 := by kernel_rfl
theorem cells25 : Tryz.prog.cellsOf 25 = 1 := by kernel_rfl
theorem cells26 : Tryz.prog.cellsOf 26 = 1 := by kernel_rfl
theorem cells27 : Tryz.prog.cellsOf 27 = 10 := by kernel_rfl
theorem cells29 : Tryz.prog.cellsOf 29 = 16 := by kernel_rfl
theorem cells50 : Tryz.prog.cellsOf 50 = 3 := by kernel_rfl
theorem cells70 : Tryz.prog.cellsOf 70 = 2 := by kernel_rfl
theorem cells71 : Tryz.prog.cellsOf 71 = 4 := by kernel_rfl
theorem parts : (Tryz.f7.params.toList.all fun t => Tryz.prog.readableRec t && Nat.blt t Tryz.prog.types.size) = true := by kernel_rfl
theorem parts' : ∀ t ∈ Tryz.f7.params.toList, Tryz.prog.readableRec t = true /\ t < Tryz.prog.types.size := fun t ht => by
 have := List.all_eq_true.1 parts t ht
 simp only [Bool.and_eq_true] at this
 exact ⟨this.1, by simpa [Nat.blt_eq] using this.2⟩
theorem walk (a0 : T29) (p0 : Pn) (y0 : PFit p0) (a1 : Sl) (l1 : List (Int × Int × Int)) (i1 : ∀ e ∈ l1, I64 e.1 /\ I64 e.2.1 /\ I64 e.2.2) (w : World) (g : GlT w) (q0 : PP w a0 p0) (q1 : Vw 3 encT3 w a1 l1) :
  Calls Tryz.prog 7 #[.agg a0.cs.toArray, .slice a1.p a1.l a1.c] w fun e w' => e = .returned (.bool true) /\ Fr F0 w w' := by
 have h : probitylaw07_DependClosed_S [.agg a0.cs.toArray, .slice a1.p a1.l a1.c] w (fun v w' => v = .bool true /\ Fr F0 w w') :=
  Closed_fr g q0 y0 q1 i1 fun w' hf => ⟨rfl, hf⟩
 exact (probitylaw07_DependClosed_ok.2 _ _ _ h).mono fun e w' ⟨v, he, hv, hf⟩ => ⟨by rw [he, hv], hf⟩
theorem contract (H : Type) (enc : TypeId × Value -> H) (W : World) (base : Nat) (args : Array Value) (ds gs : List (DataW H)) (before : List MemPlace)
  (hval : ∀ (j : Nat) t v, Tryz.f7.params[j]? = some t -> args[j]? = some v -> Value.okWide Tryz.prog W .any base t v)
  (hW : DataW.Whole enc Tryz.prog Tryz.f7.params.toList Rows.dependClosedSpec.vars false W args.toList ds gs before) (hL : laidMetH Tryz.prog LL W) :
  Calls Tryz.prog 7 args W fun e W' => ∃ v, e = .returned v /\ Rows.dependClosedSpec.post enc Tryz.prog Tryz.f7 false true false false W args v W' := by
 have g := glob hL
 have hW' := hW
 obtain ⟨p, q, hA0, hV, rfl, hfz, hnd⟩ := hW
 have hA : DataW.TrodAll enc Tryz.prog W 0 (fun _ => true) true Tryz.f7.params.toList args.toList ds p := hA0
 rw [Tryz.params7] at hA hval
 obtain ⟨v0, vs0, d0, ds0, p0, q0, hargs, rfl, rfl, h0, r0⟩ := trodAll_cons hA
 obtain ⟨v1, vs1, d1, ds1, p1, q1, rfl, rfl, rfl, h1, r1⟩ := trodAll_cons r0
 obtain ⟨rfl, rfl, rfl⟩ := trodAll_nil r1
 obtain rfl : args = #[v0, v1] := by cases args; simp_all
 obtain ⟨rfl, rfl⟩ := trodVars_none hV
 obtain ⟨a0, p0, rfl, q0, y0⟩ := arg_plan Tryz.underlying29 Tryz.underlying22 Tryz.underlying23 Tryz.underlying24 Tryz.underlying25 Tryz.underlying25 Tryz.underlying26 Tryz.underlying27 Tryz.underlying70 Tryz.underlying71 Tryz.underlying50 Tryz.underlying25 Tryz.underlying3 ⟨rfl, rfl, rfl, rfl, rfl, rfl, rfl⟩ ⟨cells22, cells23, cells24, cells25, cells25, cells26, cells27⟩ ⟨cells29, cells70, cells71, cells50, cells25, cells3⟩ (hval 0 29 v0 rfl rfl) h0
 obtain ⟨a1, l1, rfl, q1, i1⟩ := arg_l3 Tryz.underlying24 Tryz.underlying50 Tryz.underlying3 cells50 cells3 (hval 1 24 v1 rfl rfl) h1
 clear hA0
 refine (walk a0 p0 y0 a1 l1 i1 W g q0 q1).mono fun e W' ⟨he, hg⟩ => ?_
 subst he
 exact ⟨_, rfl, Pw.post_true laid parts' rfl Tryz.underlying4 hW' rfl rfl rfl rfl hg⟩
theorem reads (os : Os) {H : Type} (enc : TypeId × Value -> H) : ∃ places, DataW.whole enc Tryz.prog ((laidWorld os).forCall (fun _ _ => 0) ⟨#[], #[.agg #[.slice none 0 0, .slice none 0 0, .slice none 0 0, .slice none 0 0, .slice none 0 0, .slice none 0 0, .int .i64 0, .int .i64 0, .int .i64 0, .int .i64 0, .int .i64 0, .int .i64 0, .int .i64 0, .int .i64 0, .int .i64 0, .int .i64 0], .slice none 0 0], []⟩).memory Tryz.f7.params.toList Rows.dependClosedSpec.vars false (#[.agg #[.slice none 0 0, .slice none 0 0, .slice none 0 0, .slice none 0 0, .slice none 0 0, .slice none 0 0, .int .i64 0, .int .i64 0, .int .i64 0, .int .i64 0, .int .i64 0, .int .i64 0, .int .i64 0, .int .i64 0, .int .i64 0, .int .i64 0], .slice none 0 0] : Array Value).toList 8 = some ([.agg [.nil, .nil, .nil, .nil, .nil, .nil, .agg [.lit (.int .i64 0), .lit (.int .i64 0), .lit (.int .i64 0), .lit (.int .i64 0), .lit (.int .i64 0), .lit (.int .i64 0), .lit (.int .i64 0), .lit (.int .i64 0), .lit (.int .i64 0), .lit (.int .i64 0)]], .nil], [], places) :=
 ⟨[], by kernel_rfl⟩
set_option maxRecDepth 100000 in
theorem lifted (os : Os) (started : os.Started) (H : Type) (enc : TypeId × Value -> H) (F : Stop.Interp) :
  ReturnsInHanded {} Tryz.checked os 7 .any ((OpenSpec.ofChange Rows.dependClosedSpec).preRow enc Tryz.prog Tryz.f7 Rows.dependClosedRow.domain false Rows.dependClosedRow.laid) (((OpenSpec.ofChange Rows.dependClosedSpec).at F).post enc Tryz.prog Tryz.f7 false true false false) := by
 obtain ⟨places, hx⟩ := reads os enc
 refine returnsInHanded_of_row (C := Tryz.checked) (s := OpenSpec.ofChange Rows.dependClosedSpec) own started (by kernel_rfl) Tryz.func7
  (witness_row_at (enc := enc) (C := Tryz.checked) false (laidWorld os) #[.agg #[.slice none 0 0, .slice none 0 0, .slice none 0 0, .slice none 0 0, .slice none 0 0, .slice none 0 0, .int .i64 0, .int .i64 0, .int .i64 0, .int .i64 0, .int .i64 0, .int .i64 0, .int .i64 0, .int .i64 0, .int .i64 0, .int .i64 0], .slice none 0 0] rfl (by kernel_rfl) (by kernel_rfl) (by kernel_rfl)
   (OpenSpec.preRow_of_cond 8 hx (by kernel_rfl) (fun k hk => by cases hk) (by kernel_rfl) (laid_met os _))) ?_
 intro W base args ds gs before hval hW _ hcond hsz hL hsh _
 exact contract H enc W base args ds gs before hval hW hL
theorem said : Rows.DependClosedSaid :=
 OpenClaim.holds_of_cond 7 Tryz.f7 rfl rfl rfl rfl rfl rfl rfl ⟨rfl, rfl, rfl, rfl, rfl⟩ rfl rfl rfl rfl rfl (by kernel_rfl) Tryz.func7 (by kernel_rfl)
  (of_decide_eq_true (by kernel_rfl)) (by unfold Func.isWrapper; first | (rw [if_pos (by decide +kernel)]; kernel_rfl) | (rw [if_neg (by decide +kernel)]; exact ⟨rfl, rfl⟩))
  (fun os started H enc _ F => by rw [OpenClaim.pre_eq_preRow]; exact lifted os started H enc F)
theorem plain (f : FuncId) (fn : Func) (hf : Tryz.pinned.checked.prog.funcNamed "probity/probitylaw07.DependClosed" = some f) (hfn : Tryz.pinned.checked.prog.funcs[f]? = some fn) :
  true = Tryz.pinned.checked.prog.looks [] /\ ∀ (j : Nat) t, fn.params[j]? = some t -> Tryz.pinned.checked.prog.wantsStandIn t = false := by
 obtain rfl : f = 7 := Option.some.inj ((show Tryz.prog.funcNamed "probity/probitylaw07.DependClosed" = some 7 by kernel_rfl).symm.trans hf) |>.symm
 obtain rfl : fn = Tryz.f7 := (Option.some.inj (Tryz.func7.symm.trans hfn)).symm
 refine ⟨by kernel_rfl, fun j t ht => ?_⟩
 rw [Tryz.params7] at ht
 have ht := Array.mem_of_getElem? ht
 have h : t = 24 \/ t = 29 := by simp at ht; first | omega | (rcases ht with rfl | rfl <;> simp) | (rcases ht with rfl | rfl | rfl <;> simp)
 rcases h with rfl | rfl
 ·exact (show Tryz.prog.wantsStandIn 24 = false by kernel_rfl)
 ·exact (show Tryz.prog.wantsStandIn 29 = false by kernel_rfl)
theorem proved : Rows.DependClosedCardSaid :=
 Claim7.holds_tied_plain_at .later [] _ _ _ _ said (fun _ h => by cases h) (by kernel_rfl) (fun _ h => by cases h) dependClosed_row_tie rfl ⟨rfl, rfl⟩ (by kernel_rfl) rfl plain (by kernel_rfl)
end Go.Proofs.YtfkmpbpkahcogaaGreatDoor.dependClosed
