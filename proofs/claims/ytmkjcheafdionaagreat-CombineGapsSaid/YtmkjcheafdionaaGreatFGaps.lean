/- The statement CombineGapsSaid, proved from the law's contract. Conditions: none. -/
import Derived.Test.YtmkjcheafdionaaGreatRows
import Derived.Test.YtmkjcheafdionaaGreatCEA
import Derived.Test.YtmkjcheafdionaaGreatCFP
namespace Go.Proofs.YtmkjcheafdionaaGreat.combineGaps
open Go Go.ChangeShapes Go.WideShapes Go.ChangeAt Go.RowKit Pw
theorem own : ownKnob Tryz.prog.godebug = none := by kernel_rfl
theorem laid : laidOutB Tryz.prog = true := by kernel_rfl
theorem cells3 : Tryz.prog.cellsOf 3 = 1 := by kernel_rfl
theorem parts : (Tryz.f5.params.toList.all fun t => Tryz.prog.readableRec t && Nat.blt t Tryz.prog.types.size) = true := by kernel_rfl
theorem parts' : ∀ t ∈ Tryz.f5.params.toList, Tryz.prog.readableRec t = true /\ t < Tryz.prog.types.size := fun t ht => by
 have := List.all_eq_true.1 parts t ht
 simp only [Bool.and_eq_true] at this
 exact ⟨this.1, by simpa [Nat.blt_eq] using this.2⟩
theorem walk (a0 : Sl) (l0 : List Int) (z0 : l0.length < 2 ^ 63) (a1 : Int) (w1 : (Lit.int .u8 a1).wf = true) (w : World) (q0 : Vw 1 (ie .i64 id) w a0 l0) :
  Calls Tryz.prog 5 #[.slice a0.p a0.l a0.c, .int .u8 a1] w fun e w' => e = .returned (.bool true) /\ Fr F0 w w' := by
 have h : z08_S [.slice a0.p a0.l a0.c, .int .u8 a1] w (fun v w' => v = .bool true /\ Fr F0 w w') :=
  Gaps_spec q0 z0 (wf_u8 w1) fun w' hf => ⟨rfl, hf⟩
 exact (z08_ok.2 _ _ _ h).mono fun e w' ⟨v, he, hv, hf⟩ => ⟨by rw [he, hv], hf⟩
set_option maxRecDepth 100000 in
theorem lifted (os : Os) (started : os.Started) (H : Type) (enc : TypeId × Value -> H) :
  ReturnsInHanded {} Tryz.checked os 5 .any (Rows.combineGapsSpec.pre6 enc Tryz.prog Tryz.f5 Rows.combineGapsRow.domain false) (Rows.combineGapsSpec.post enc Tryz.prog Tryz.f5 false true false false) := by
 refine returnsInHanded_of_change (C := Tryz.checked) own started (by kernel_rfl) Tryz.func5
  (ChangeSpec.witness6 (enc := enc) (C := Tryz.checked) false ⟨#[], #[.slice none 0 0, .int .u8 0], []⟩ 8 (by kernel_rfl) (by kernel_rfl) (by kernel_rfl) (by kernel_rfl)) ?_
 intro W base args ds gs before hval0 hW hcnd _
 have hval : ∀ (j : Nat) t v, Tryz.f5.params[j]? = some t -> args[j]? = some v -> Value.okWide Tryz.prog W .any base t v := hval0
 have hW' := hW
 obtain ⟨p, q, hA0, hV, rfl, hfz, hnd⟩ := hW
 have hA : DataW.TrodAll enc Tryz.prog W 0 (fun _ => true) true Tryz.f5.params.toList args.toList ds p := hA0
 rw [Tryz.params5] at hA hval
 obtain ⟨v0, vs0, d0, ds0, p0, q0, hargs, rfl, rfl, h0, r0⟩ := trodAll_cons hA
 obtain ⟨v1, vs1, d1, ds1, p1, q1, rfl, rfl, rfl, h1, r1⟩ := trodAll_cons r0
 obtain ⟨rfl, rfl, rfl⟩ := trodAll_nil r1
 obtain rfl : args = #[v0, v1] := by cases args; simp_all
 obtain ⟨rfl, rfl⟩ := trodVars_none hV
 obtain ⟨a0, l0, rfl, q0, _, z0⟩ := arg_vi Tryz.underlying22 Tryz.underlying3 cells3 (hval 0 22 v0 rfl rfl) h0
 obtain ⟨a1, rfl, _, _, w1⟩ := open_int Tryz.underlying5 (hval 1 5 v1 rfl rfl) h1
 clear hA0 hval0
 refine (walk a0 l0 z0 a1 w1 W q0).mono fun e W' ⟨he, hg⟩ => ?_
 subst he
 exact ⟨_, rfl, Pw.post_true laid parts' rfl Tryz.underlying4 hW' rfl rfl rfl rfl hg⟩
theorem over : Rows.combineGapsRow.holds Tryz.pinned (OpenSpec.ofChange Rows.combineGapsSpec) :=
 OpenClaim.holds_of_wide 5 Tryz.f5 rfl rfl rfl rfl rfl rfl rfl ⟨rfl, rfl, rfl, rfl, rfl⟩ rfl rfl rfl rfl rfl (by kernel_rfl) Tryz.func5 (by kernel_rfl)
  (of_decide_eq_true (by kernel_rfl)) (by unfold Func.isWrapper; first | (rw [if_pos (by decide +kernel)]; kernel_rfl) | (rw [if_neg (by decide +kernel)]; exact ⟨rfl, rfl⟩))
  (fun os started H enc _ => lifted os started H enc)
theorem proved : Rows.CombineGapsSaid := over
end Go.Proofs.YtmkjcheafdionaaGreat.combineGaps
