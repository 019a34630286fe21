/- The statement CombineWrongSaid, proved from the law's contract. Conditions: none. -/
import Derived.Test.YtmkjcheafdionaaRows
import Derived.Test.YtmkjcheafdionaaCEA
import Derived.Test.YtmkjcheafdionaaCEW
namespace Go.Proofs.Ytmkjcheafdionaa.combineWrong
open Go Go.ChangeShapes Go.WideShapes Go.ChangeAt Go.RowKit Pw

theorem own : ownKnob Try.prog.godebug = none := by kernel_rfl
theorem laid : laidOutB Try.prog = true := by kernel_rfl
theorem cells3 : Try.prog.cellsOf 3 = 1 := by kernel_rfl
theorem cells39 : Try.prog.cellsOf 39 = 3 := by kernel_rfl
theorem parts : (Try.f5.params.toList.all fun t => Try.prog.readableRec t && Nat.blt t Try.prog.types.size) = true := by kernel_rfl
theorem parts' : ∀ t ∈ Try.f5.params.toList, Try.prog.readableRec t = true /\ t < Try.prog.types.size := fun t ht => by
  have := List.all_eq_true.1 parts t ht
  simp only [Bool.and_eq_true] at this
  exact ⟨this.1, by simpa [Nat.blt_eq] using this.2⟩

theorem walk (a0 : Sl) (l0 : List Int) (z0 : l0.length < 2 ^ 63) (a1_0 : Int) (a1_1 : Int) (a1_2 : Int) (a2 : Int) (w : World) (q0 : Vw 1 (ie .i64 id) w a0 l0) :
    Calls Try.prog 5 #[.slice a0.p a0.l a0.c, .agg #[.int .i64 a1_0, .int .i64 a1_1, .int .i64 a1_2], .int .i64 a2] w fun e w' => e = .returned (.bool true) /\ Fr F0 w w' := by
  have h : Lw_CombineWrong_S [.slice a0.p a0.l a0.c, .agg #[.int .i64 a1_0, .int .i64 a1_1, .int .i64 a1_2], .int .i64 a2] w (fun v w' => v = .bool true /\ Fr F0 w w') :=
    Wrong_spec q0 z0 fun w' hf => ⟨rfl, hf⟩
  exact (Lw_CombineWrong_ok.2 _ _ _ h).mono fun e w' ⟨v, he, hv, hf⟩ => ⟨by rw [he, hv], hf⟩

set_option maxRecDepth 100000 in
theorem lifted (os : Os) (started : os.Started) (H : Type) (enc : TypeId × Value -> H) :
    ReturnsInHanded {} Try.checked os 5 .any (Rows.combineWrongSpec.pre6 enc Try.prog Try.f5 Rows.combineWrongRow.domain false) (Rows.combineWrongSpec.post enc Try.prog Try.f5 false true false false) := by
  refine returnsInHanded_of_change (C := Try.checked) own started (by kernel_rfl) Try.func5
    (ChangeSpec.witness6 (enc := enc) (C := Try.checked) false ⟨#[], #[.slice none 0 0, .agg #[.int .i64 0, .int .i64 0, .int .i64 0], .int .i64 0], []⟩ 8 (by kernel_rfl) (by kernel_rfl) (by kernel_rfl) (by kernel_rfl)) ?_
  intro W base args ds gs before hval0 hW hcnd _
  have hval : ∀ (j : Nat) t v, Try.f5.params[j]? = some t -> args[j]? = some v -> Value.okWide Try.prog W .any base t v := hval0
  have hW' := hW
  obtain ⟨p, q, hA0, hV, rfl, hfz, hnd⟩ := hW
  have hA : DataW.TrodAll enc Try.prog W 0 (fun _ => true) true Try.f5.params.toList args.toList ds p := hA0
  rw [Try.params5] at hA hval
  obtain ⟨v0, vs0, d0, ds0, p0, q0, hargs, rfl, rfl, h0, r0⟩ := trodAll_cons hA
  obtain ⟨v1, vs1, d1, ds1, p1, q1, rfl, rfl, rfl, h1, r1⟩ := trodAll_cons r0
  obtain ⟨v2, vs2, d2, ds2, p2, q2, rfl, rfl, rfl, h2, r2⟩ := trodAll_cons r1
  obtain ⟨rfl, rfl, rfl⟩ := trodAll_nil r2
  obtain rfl : args = #[v0, v1, v2] := by cases args; simp_all
  obtain ⟨rfl, rfl⟩ := trodVars_none hV
  obtain ⟨a0, l0, rfl, q0, _, z0⟩ := arg_vi Try.underlying22 Try.underlying3 cells3 (hval 0 22 v0 rfl rfl) h0
  obtain ⟨l1, hl1, rfl, _⟩ := arg_arr Try.underlying39 Try.underlying3 cells3 cells39 (hval 1 39 v1 rfl rfl) h1
  obtain ⟨a1_0, a1_1, a1_2, rfl⟩ := list3 hl1

  obtain ⟨a2, rfl, _, _, _⟩ := open_int Try.underlying3 (hval 2 3 v2 rfl rfl) h2
  clear hA0 hval0
  refine (walk a0 l0 z0 a1_0 a1_1 a1_2 a2 W q0).mono fun e W' ⟨he, hg⟩ => ?_
  subst he
  exact ⟨_, rfl, Pw.post_true laid parts' rfl Try.underlying4 hW' rfl rfl rfl rfl hg⟩

theorem over : Rows.combineWrongRow.holds Try.pinned (OpenSpec.ofChange Rows.combineWrongSpec) :=
  OpenClaim.holds_of_wide 5 Try.f5 rfl rfl rfl rfl rfl rfl rfl ⟨rfl, rfl, rfl, rfl, rfl⟩ rfl rfl rfl rfl rfl (by kernel_rfl) Try.func5 (by kernel_rfl)
    (of_decide_eq_true (by kernel_rfl)) (by unfold Func.isWrapper; first | (rw [if_pos (by decide +kernel)]; kernel_rfl) | (rw [if_neg (by decide +kernel)]; exact ⟨rfl, rfl⟩))
    (fun os started H enc _ => lifted os started H enc)

/-- The statement. -/
theorem proved : Rows.CombineWrongSaid := over
end Go.Proofs.Ytmkjcheafdionaa.combineWrong
