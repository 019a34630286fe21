/- The card of RatioMakes, proved from the law's contract. Conditions: none. -/
import Derived.Test.YtfclokkfnkieoaaDoorRW
import Derived.Test.YtfclokkfnkieoaaDoorRL6
namespace Go.Proofs.YtfclokkfnkieoaaDoor.ratioMakes
open Go Go.ChangeShapes Go.WideShapes Go.ChangeAt Go.RowKit Pw

set_option maxRecDepth 100000
theorem own : ownKnob Tryd.prog.godebug = none := by kernel_rfl
theorem laid : laidOutB Tryd.prog = true := by kernel_rfl
theorem cells22 : Tryd.prog.cellsOf 22 = 1 := by kernel_rfl
theorem cells23 : Tryd.prog.cellsOf 23 = 2 := by kernel_rfl
theorem parts : (Tryd.f3.params.toList.all fun t => Tryd.prog.readableRec t && Nat.blt t Tryd.prog.types.size) = true := by kernel_rfl
theorem parts' : ∀ t ∈ Tryd.f3.params.toList, Tryd.prog.readableRec t = true ∧ t < Tryd.prog.types.size := fun t ht => by
  have := List.all_eq_true.1 parts t ht
  simp only [Bool.and_eq_true] at this
  exact ⟨this.1, by simpa [Nat.blt_eq] using this.2⟩

theorem walk (a0 : Int) (w0 : (Lit.int .i64 a0).wf = true) (a1 : Int) (w1 : (Lit.int .i64 a1).wf = true) (a2_0 : Int) (w2_0 : (Lit.int .i16 a2_0).wf = true) (a2_1 : Int) (w2_1 : (Lit.int .i16 a2_1).wf = true) (w : World) (g : Gl w) :
    Calls Tryd.prog 3 #[.int .i64 a0, .int .i64 a1, .agg #[.int .i16 a2_0, .int .i16 a2_1]] w fun e w' => e = .returned (.bool true) ∧ Pw.Fr Pw.F0 w w' := by
  have h : probitylaw01_RatioMakes_S [.int .i64 a0, .int .i64 a1, .agg #[.int .i16 a2_0, .int .i16 a2_1]] w (fun v w' => v = .bool true ∧ Pw.Fr Pw.F0 w w') :=
    Makes_law g (wf_i64 w0) (wf_i64 w1) ⟨wf_i16 w2_0, wf_i16 w2_1⟩ fun w' hf => ⟨rfl, hf⟩
  exact (probitylaw01_RatioMakes_ok.2 _ _ _ h).mono fun e w' ⟨v, he, hv, hf⟩ => ⟨by rw [he, hv], hf⟩

theorem contract (H : Type) (enc : TypeId × Value → H) (W : World) (base : Nat) (args : Array Value) (ds gs : List (DataW H)) (before : List MemPlace)
    (hval : ∀ (j : Nat) t v, Tryd.f3.params[j]? = some t → args[j]? = some v → Value.okWide Tryd.prog W .any base t v)
    (hW : DataW.Whole enc Tryd.prog Tryd.f3.params.toList Rows.ratioMakesSpec.vars false W args.toList ds gs before) (hL : laidMetH Tryd.prog LL W) (hsh : W.ShapedOpen Tryd.prog) :
    Calls Tryd.prog 3 args W fun e W' => ∃ v, e = .returned v ∧ Rows.ratioMakesSpec.post enc Tryd.prog Tryd.f3 false true false false W args v W' := by
  have g := glob hL hsh
  have hW' := hW
  obtain ⟨p, q, hA0, hV, rfl, hfz, hnd⟩ := hW
  have hA : DataW.TrodAll enc Tryd.prog W 0 (fun _ => true) true Tryd.f3.params.toList args.toList ds p := hA0
  rw [Tryd.params3] at hA hval
  obtain ⟨v0, vs0, d0, ds0, p0, q0, hargs, rfl, rfl, h0, r0⟩ := trodAll_cons hA
  obtain ⟨v1, vs1, d1, ds1, p1, q1, rfl, rfl, rfl, h1, r1⟩ := trodAll_cons r0
  obtain ⟨v2, vs2, d2, ds2, p2, q2, rfl, rfl, rfl, h2, r2⟩ := trodAll_cons r1
  obtain ⟨rfl, rfl, rfl⟩ := trodAll_nil r2
  obtain rfl : args = #[v0, v1, v2] := by cases args; simp_all
  obtain ⟨rfl, rfl⟩ := trodVars_none hV
  obtain ⟨a0, rfl, _, _, w0⟩ := open_int Tryd.underlying3 (hval 0 3 v0 rfl rfl) h0
  obtain ⟨a1, rfl, _, _, w1⟩ := open_int Tryd.underlying3 (hval 1 3 v1 rfl rfl) h1
  obtain ⟨l2, hl2, rfl, hw2⟩ := Pw.arg_arr Tryd.underlying23 Tryd.underlying22 cells22 cells23 (hval 2 23 v2 rfl rfl) h2
  obtain ⟨a2_0, a2_1, rfl⟩ := list2 hl2
  have w2_0 := hw2 a2_0 (by simp)
  have w2_1 := hw2 a2_1 (by simp)
  clear hA0
  refine (walk a0 w0 a1 w1 a2_0 w2_0 a2_1 w2_1 W g).mono fun e W' ⟨he, hg⟩ => ?_
  subst he
  exact ⟨_, rfl, Pw.post_true laid parts' rfl Tryd.underlying4 hW' rfl rfl rfl rfl hg⟩

theorem reads (os : Os) {H : Type} (enc : TypeId × Value → H) : ∃ places, DataW.whole enc Tryd.prog ((laidWorld os).forCall (fun _ _ => 0) ⟨#[], #[.int .i64 0, .int .i64 0, .agg #[.int .i16 0, .int .i16 0]], []⟩).memory Tryd.f3.params.toList Rows.ratioMakesSpec.vars false (#[.int .i64 0, .int .i64 0, .agg #[.int .i16 0, .int .i16 0]] : Array Value).toList 8 = some ([.lit (.int .i64 0), .lit (.int .i64 0), .agg [.lit (.int .i16 0), .lit (.int .i16 0)]], [], places) :=
  ⟨[], by kernel_rfl⟩

set_option maxRecDepth 100000 in
theorem lifted (os : Os) (started : os.Started) (H : Type) (enc : TypeId × Value → H) (F : Stop.Interp) :
    ReturnsInHanded {} Tryd.checked os 3 .any ((OpenSpec.ofChange Rows.ratioMakesSpec).preRow enc Tryd.prog Tryd.f3 Rows.ratioMakesRow.domain false Rows.ratioMakesRow.laid) (((OpenSpec.ofChange Rows.ratioMakesSpec).at F).post enc Tryd.prog Tryd.f3 false true false false) := by
  obtain ⟨places, hx⟩ := reads os enc
  refine returnsInHanded_of_row (C := Tryd.checked) (s := OpenSpec.ofChange Rows.ratioMakesSpec) own started (by kernel_rfl) Tryd.func3
    (witness_row_at (enc := enc) (C := Tryd.checked) false (laidWorld os) #[.int .i64 0, .int .i64 0, .agg #[.int .i16 0, .int .i16 0]] rfl (by kernel_rfl) (by kernel_rfl) (by kernel_rfl)
      (OpenSpec.preRow_of_cond 8 hx (by kernel_rfl) (fun k hk => by cases hk) (by kernel_rfl) (laid_met os _))) ?_
  intro W base args ds gs before hval hW _ hcond _ hL hsh _
  exact contract H enc W base args ds gs before hval hW hL hsh

theorem said : Rows.RatioMakesSaid :=
  OpenClaim.holds_of_cond 3 Tryd.f3 rfl rfl rfl rfl rfl rfl rfl ⟨rfl, rfl, rfl, rfl, rfl⟩ rfl rfl rfl rfl rfl (by kernel_rfl) Tryd.func3 (by kernel_rfl)
    (of_decide_eq_true (by kernel_rfl)) (by unfold Func.isWrapper; first | (rw [if_pos (by decide +kernel)]; kernel_rfl) | (rw [if_neg (by decide +kernel)]; exact ⟨rfl, rfl⟩))
    (fun os started H enc _ F => by rw [OpenClaim.pre_eq_preRow]; exact lifted os started H enc F)

theorem plain (f : FuncId) (fn : Func) (hf : Tryd.pinned.checked.prog.funcNamed "probity/probitylaw01.RatioMakes" = some f) (hfn : Tryd.pinned.checked.prog.funcs[f]? = some fn) :
    true = Tryd.pinned.checked.prog.looks [] ∧ ∀ (j : Nat) t, fn.params[j]? = some t → Tryd.pinned.checked.prog.wantsStandIn t = false := by
  obtain rfl : f = 3 := Option.some.inj ((show Tryd.prog.funcNamed "probity/probitylaw01.RatioMakes" = some 3 by kernel_rfl).symm.trans hf) |>.symm
  obtain rfl : fn = Tryd.f3 := (Option.some.inj (Tryd.func3.symm.trans hfn)).symm
  refine ⟨by kernel_rfl, fun j t ht => ?_⟩
  rw [Tryd.params3] at ht
  have ht := Array.mem_of_getElem? ht
  have h : t = 3 ∨ t = 23 := by simp at ht; omega
  rcases h with rfl | rfl
  · exact (show Tryd.prog.wantsStandIn 3 = false by kernel_rfl)
  · exact (show Tryd.prog.wantsStandIn 23 = false by kernel_rfl)

/-- The card. -/
theorem proved : Rows.RatioMakesCardSaid :=
  Claim7.holds_tied_plain_at .later [] _ _ _ _ said (fun _ h => by cases h) (by kernel_rfl) (fun _ h => by cases h) ratioMakes_row_tie rfl ⟨rfl, rfl⟩ (by kernel_rfl) rfl plain (by kernel_rfl)
end Go.Proofs.YtfclokkfnkieoaaDoor.ratioMakes
