/- The card of ProofCodes where what it reads is of bulk at most 1048576, proved from the law's contract. Conditions: none. -/
import Derived.Test.YtfpobpjandjhjaaGreatDoorRWC
import Derived.Test.YtfpobpjandjhjaaGreatDoorPXZ
import Derived.Test.YtfpobpjandjhjaaGreatDoorPXV
namespace Go.Proofs.YtfpobpjandjhjaaGreatDoor.proofCodes
open Go Go.ChangeShapes Go.WideShapes Go.ChangeAt Go.RowKit Pw
set_option maxRecDepth 100000
theorem own : ownKnob Tryz.prog.godebug = none := by kernel_rfl
theorem laid : laidOutB Tryz.prog = true := by kernel_rfl
theorem cells3 : Tryz.prog.cellsOf 3 = 1 := by kernel_rfl
theorem cells22 : Tryz.prog.cellsOf 22 = 1 := by kernel_rfl
theorem cells34 : Tryz.prog.cellsOf 34 = 3 := by kernel_rfl
theorem cells40 : Tryz.prog.cellsOf 40 = 1 := by kernel_rfl
theorem cells42 : Tryz.prog.cellsOf 42 = 4 := by kernel_rfl
theorem cells85 : Tryz.prog.cellsOf 85 = 2 := by kernel_rfl
theorem cells87 : Tryz.prog.cellsOf 87 = 4 := by kernel_rfl
theorem parts : (Tryz.f8.params.toList.all fun t => Tryz.prog.readableRec t && Nat.blt t Tryz.prog.types.size) = true := by kernel_rfl
theorem parts' : ∀ t ∈ Tryz.f8.params.toList, Tryz.prog.readableRec t = true /\ t < Tryz.prog.types.size := fun t ht => by
 have := List.all_eq_true.1 parts t ht
 simp only [Bool.and_eq_true] at this
 exact ⟨this.1, by simpa [Nat.blt_eq] using this.2⟩
theorem walk (a0 b0 : Sl) (l0 : List Int) (u0 w0 : Int) (N0 : List Nd) (a1 : ByteArray) (a2_0 : Int) (a2_1 : Int) (a2_2 : Int) (w : World) (g : Gl w) (q0 : LieV w a0 l0 u0 w0 b0 N0) (y0 : l0.length <= 1048576) (z0 : ∀ x ∈ N0, x.next.length <= 1048576) (s1 : a1.size <= 1048576) :
  Calls Tryz.prog 8 #[.agg #[.slice a0.p a0.l a0.c, .int .i64 u0, .int .i64 w0, .slice b0.p b0.l b0.c], .string a1, .agg #[.int .i64 a2_0, .int .i64 a2_1, .int .i64 a2_2]] w fun e w' => e = .returned (.bool true) /\ Fr F0 w w' := by
 have h : z0h_S [.agg #[.slice a0.p a0.l a0.c, .int .i64 u0, .int .i64 w0, .slice b0.p b0.l b0.c], .string a1, .agg #[.int .i64 a2_0, .int .i64 a2_1, .int .i64 a2_2]] w (fun v w' => v = .bool true /\ Fr F0 w w') :=
  Codes_fr g q0 y0 z0 s1 fun w' hf => ⟨rfl, hf⟩
 exact (z0h_ok.2 _ _ _ h).mono fun e w' ⟨v, he, hv, hf⟩ => ⟨by rw [he, hv], hf⟩
theorem contract (H : Type) (enc : TypeId × Value -> H) (W : World) (base : Nat) (args : Array Value) (ds gs : List (DataW H)) (before : List MemPlace)
  (hval : ∀ (j : Nat) t v, Tryz.f8.params[j]? = some t -> args[j]? = some v -> Value.okWide Tryz.prog W .any base t v)
  (hW : DataW.Whole enc Tryz.prog Tryz.f8.params.toList Rows.proofCodesSpec.vars false W args.toList ds gs before) (hcond : ∀ k, (Rows.OpenSpec.upto Rows.proofCodesSpec).cond = some k -> k H (ds ++ gs) = true) (hL : laidMetH Tryz.prog LL W) (hsh : W.ShapedOpen Tryz.prog) :
  Calls Tryz.prog 8 args W fun e W' => ∃ v, e = .returned v /\ Rows.proofCodesSpec.post enc Tryz.prog Tryz.f8 false true false false W args v W' := by
 have g := glob hL hsh
 have hW' := hW
 obtain ⟨p, q, hA0, hV, rfl, hfz, hnd⟩ := hW
 have hA : DataW.TrodAll enc Tryz.prog W 0 (fun _ => true) true Tryz.f8.params.toList args.toList ds p := hA0
 rw [Tryz.params8] at hA hval
 obtain ⟨v0, vs0, d0, ds0, p0, q0, hargs, rfl, rfl, h0, r0⟩ := trodAll_cons hA
 obtain ⟨v1, vs1, d1, ds1, p1, q1, rfl, rfl, rfl, h1, r1⟩ := trodAll_cons r0
 obtain ⟨v2, vs2, d2, ds2, p2, q2, rfl, rfl, rfl, h2, r2⟩ := trodAll_cons r1
 obtain ⟨rfl, rfl, rfl⟩ := trodAll_nil r2
 obtain rfl : args = #[v0, v1, v2] := by cases args; simp_all
 obtain ⟨rfl, rfl⟩ := trodVars_none hV
 have hk := hcond _ rfl
 obtain ⟨a1, rfl, e1, _, _⟩ := Go.ChangeMaps.open_string Tryz.underlying9 (hval 1 9 v1 rfl rfl) h1
 rw [e1] at hk
 have hb := of_decide_eq_true hk
 simp only [List.append_nil, Rows.uptoBulkAll, Rows.uptoBulk] at hb
 have s1 : a1.size <= 1048576 := by
  have hl : a1.data.toList.length = a1.size := Pw.bl_length a1
  omega
 obtain ⟨a0, b0, l0, u0, w0, N0, rfl, q0, y0, z0⟩ := arg_lieB Tryz.underlying42 Tryz.underlying22 Tryz.underlying3 Tryz.underlying3 Tryz.underlying3 Tryz.underlying40 Tryz.underlying87 Tryz.underlying3 Tryz.underlying85 Tryz.underlying3 Tryz.underlying22 Tryz.underlying3 ⟨rfl, rfl, rfl, rfl⟩ ⟨rfl, rfl, rfl⟩ ⟨cells42, cells22, cells3, cells3, cells40, cells3⟩ ⟨cells87, cells3, cells85, cells3, cells22, cells3⟩ (hval 0 42 v0 rfl rfl) h0 (R := 1048576) (by decide) (by omega)
 obtain ⟨l2, hl2, rfl, _⟩ := arg_arr Tryz.underlying34 Tryz.underlying3 cells3 cells34 (hval 2 34 v2 rfl rfl) h2
 obtain ⟨a2_0, a2_1, a2_2, rfl⟩ := list3 hl2
 clear hA0
 refine (walk a0 b0 l0 u0 w0 N0 a1 a2_0 a2_1 a2_2 W g q0 y0 z0 s1).mono fun e W' ⟨he, hg⟩ => ?_
 subst he
 exact ⟨_, rfl, Pw.post_true laid parts' rfl Tryz.underlying4 hW' rfl rfl rfl rfl hg⟩
theorem reads (os : Os) {H : Type} (enc : TypeId × Value -> H) : ∃ places, DataW.whole enc Tryz.prog ((laidWorld os).forCall (fun _ _ => 0) ⟨#[], #[.agg #[.slice none 0 0, .int .i64 0, .int .i64 0, .slice none 0 0], .string ByteArray.empty, .agg #[.int .i64 0, .int .i64 0, .int .i64 0]], []⟩).memory Tryz.f8.params.toList Rows.proofCodesSpec.vars false (#[.agg #[.slice none 0 0, .int .i64 0, .int .i64 0, .slice none 0 0], .string ByteArray.empty, .agg #[.int .i64 0, .int .i64 0, .int .i64 0]] : Array Value).toList 8 = some ([.agg [.nil, .lit (.int .i64 0), .lit (.int .i64 0), .nil], .lit (.string []), .agg [.lit (.int .i64 0), .lit (.int .i64 0), .lit (.int .i64 0)]], [], places) :=
 ⟨[], by kernel_rfl⟩
set_option maxRecDepth 100000 in
theorem lifted (os : Os) (started : os.Started) (H : Type) (enc : TypeId × Value -> H) (F : Stop.Interp) :
  ReturnsInHanded {} Tryz.checked os 8 .any ((Rows.OpenSpec.upto Rows.proofCodesSpec).preRow enc Tryz.prog Tryz.f8 Rows.proofCodesUptoRow.domain false Rows.proofCodesUptoRow.laid) (((Rows.OpenSpec.upto Rows.proofCodesSpec).at F).post enc Tryz.prog Tryz.f8 false true false false) := by
 obtain ⟨places, hx⟩ := reads os enc
 refine returnsInHanded_of_row (C := Tryz.checked) (s := Rows.OpenSpec.upto Rows.proofCodesSpec) own started (by kernel_rfl) Tryz.func8
  (witness_row_at (enc := enc) (C := Tryz.checked) false (laidWorld os) #[.agg #[.slice none 0 0, .int .i64 0, .int .i64 0, .slice none 0 0], .string ByteArray.empty, .agg #[.int .i64 0, .int .i64 0, .int .i64 0]] rfl (by kernel_rfl) (by kernel_rfl) (by kernel_rfl)
   (OpenSpec.preRow_of_cond 8 hx (by kernel_rfl) (fun k hk => by cases hk; kernel_rfl) (by kernel_rfl) (laid_met os _))) ?_
 intro W base args ds gs before hval hW _ hcond _ hL hsh _
 exact contract H enc W base args ds gs before hval hW hcond hL hsh
theorem said : Rows.ProofCodesUptoSaid :=
 OpenClaim.holds_of_cond 8 Tryz.f8 rfl rfl rfl rfl rfl rfl rfl ⟨rfl, rfl, rfl, rfl, rfl⟩ rfl rfl rfl rfl rfl (by kernel_rfl) Tryz.func8 (by kernel_rfl)
  (of_decide_eq_true (by kernel_rfl)) (by unfold Func.isWrapper; first | (rw [if_pos (by decide +kernel)]; kernel_rfl) | (rw [if_neg (by decide +kernel)]; exact ⟨rfl, rfl⟩))
  (fun os started H enc _ F => by rw [OpenClaim.pre_eq_preRow]; exact lifted os started H enc F)
theorem plain (f : FuncId) (fn : Func) (hf : Tryz.pinned.checked.prog.funcNamed "probity/probitylaw22.ProofCodes" = some f) (hfn : Tryz.pinned.checked.prog.funcs[f]? = some fn) :
  true = Tryz.pinned.checked.prog.looks [] /\ ∀ (j : Nat) t, fn.params[j]? = some t -> Tryz.pinned.checked.prog.wantsStandIn t = false := by
 obtain rfl : f = 8 := Option.some.inj ((show Tryz.prog.funcNamed "probity/probitylaw22.ProofCodes" = some 8 by kernel_rfl).symm.trans hf) |>.symm
 obtain rfl : fn = Tryz.f8 := (Option.some.inj (Tryz.func8.symm.trans hfn)).symm
 refine ⟨by kernel_rfl, fun j t ht => ?_⟩
 rw [Tryz.params8] at ht
 have ht := Array.mem_of_getElem? ht
 have h : t = 9 \/ t = 34 \/ t = 42 := by simp at ht; first | omega | (rcases ht with rfl | rfl <;> simp) | (rcases ht with rfl | rfl | rfl <;> simp)
 rcases h with rfl | rfl | rfl
 ·exact (show Tryz.prog.wantsStandIn 9 = false by kernel_rfl)
 ·exact (show Tryz.prog.wantsStandIn 34 = false by kernel_rfl)
 ·exact (show Tryz.prog.wantsStandIn 42 = false by kernel_rfl)
theorem proved : Rows.ProofCodesUptoCardSaid :=
 Claim7.holds_tied_plain_at .later [] _ _ _ _ said (fun _ h => by cases h) (by kernel_rfl) (fun _ h => by cases h) proofCodesUpto_row_tie rfl ⟨rfl, rfl⟩ (by kernel_rfl) rfl plain (by kernel_rfl)
end Go.Proofs.YtfpobpjandjhjaaGreatDoor.proofCodes
