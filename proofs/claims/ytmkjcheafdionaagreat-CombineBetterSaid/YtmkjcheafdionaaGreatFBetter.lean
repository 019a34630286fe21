/- The statement CombineBetterSaid, proved from the law's contract. Conditions: none. -/
import Derived.Test.YtmkjcheafdionaaGreatRows
import Derived.Test.YtmkjcheafdionaaGreatCEX
import Derived.Test.YtmkjcheafdionaaGreatCL3
namespace Go.Proofs.YtmkjcheafdionaaGreat.combineBetter
open Go Go.ChangeShapes Go.WideShapes Go.ChangeAt Go.RowKit Pw
theorem own : ownKnob Tryz.prog.godebug = none := by kernel_rfl
theorem laid : laidOutB Tryz.prog = true := by kernel_rfl
theorem cells3 : Tryz.prog.cellsOf 3 = 1 := by kernel_rfl
theorem cells22 : Tryz.prog.cellsOf 22 = 1 := by kernel_rfl
theorem cells47 : Tryz.prog.cellsOf 47 = 3 := by kernel_rfl
theorem cells48 : Tryz.prog.cellsOf 48 = 2 := by kernel_rfl
theorem parts : (Tryz.f7.params.toList.all fun t => Tryz.prog.readableRec t && Nat.blt t Tryz.prog.types.size) = true := by kernel_rfl
theorem parts' : ∀ t ∈ Tryz.f7.params.toList, Tryz.prog.readableRec t = true /\ t < Tryz.prog.types.size := fun t ht => by
  have := List.all_eq_true.1 parts t ht
  simp only [Bool.and_eq_true] at this
  exact ⟨this.1, by simpa [Nat.blt_eq] using this.2⟩
theorem walk (a0 : Sl) (l0 : List Int) (z0 : l0.length < 2 ^ 63) (a1_0 : Int) (a1_1 : Int) (a1_2 : Int) (a2 b2 : Sl) (l2 m2 : List Int) (z2 : l2.length < 2 ^ 63) (y2 : m2.length < 2 ^ 63) (w : World) (q0 : Vw 1 (ie .i64 id) w a0 l0) (q2 : Vw 1 (ie .i64 id) w a2 l2) (r2 : Vw 1 (ie .i64 id) w b2 m2) :
    Calls Tryz.prog 7 #[.slice a0.p a0.l a0.c, .agg #[.int .i64 a1_0, .int .i64 a1_1, .int .i64 a1_2], .agg #[.slice a2.p a2.l a2.c, .slice b2.p b2.l b2.c]] w fun e w' => e = .returned (.bool true) /\ Fr F0 w w' := by
  have h : probitylaw21_CombineBetter_S [.slice a0.p a0.l a0.c, .agg #[.int .i64 a1_0, .int .i64 a1_1, .int .i64 a1_2], .agg #[.slice a2.p a2.l a2.c, .slice b2.p b2.l b2.c]] w (fun v w' => v = .bool true /\ Fr F0 w w') :=
    Better_law q0 z0 q2 z2 r2 y2 fun w' hf => ⟨rfl, hf⟩
  exact (probitylaw21_CombineBetter_ok.2 _ _ _ h).mono fun e w' ⟨v, he, hv, hf⟩ => ⟨by rw [he, hv], hf⟩
set_option maxRecDepth 100000 in
theorem lifted (os : Os) (started : os.Started) (H : Type) (enc : TypeId × Value -> H) :
    ReturnsInHanded {} Tryz.checked os 7 .any (Rows.combineBetterSpec.pre6 enc Tryz.prog Tryz.f7 Rows.combineBetterRow.domain false) (Rows.combineBetterSpec.post enc Tryz.prog Tryz.f7 false true false false) := by
  refine returnsInHanded_of_change (C := Tryz.checked) own started (by kernel_rfl) Tryz.func7
    (ChangeSpec.witness6 (enc := enc) (C := Tryz.checked) false ⟨#[], #[.slice none 0 0, .agg #[.int .i64 0, .int .i64 0, .int .i64 0], .agg #[.slice none 0 0, .slice none 0 0]], []⟩ 8 (by kernel_rfl) (by kernel_rfl) (by kernel_rfl) (by kernel_rfl)) ?_
  intro W base args ds gs before hval0 hW hcnd _
  have hval : ∀ (j : Nat) t v, Tryz.f7.params[j]? = some t -> args[j]? = some v -> Value.okWide Tryz.prog W .any base t v := hval0
  have hW' := hW
  obtain ⟨p, q, hA0, hV, rfl, hfz, hnd⟩ := hW
  have hA : DataW.TrodAll enc Tryz.prog W 0 (fun _ => true) true Tryz.f7.params.toList args.toList ds p := hA0
  rw [Tryz.params7] at hA hval
  obtain ⟨v0, vs0, d0, ds0, p0, q0, hargs, rfl, rfl, h0, r0⟩ := trodAll_cons hA
  obtain ⟨v1, vs1, d1, ds1, p1, q1, rfl, rfl, rfl, h1, r1⟩ := trodAll_cons r0
  obtain ⟨v2, vs2, d2, ds2, p2, q2, rfl, rfl, rfl, h2, r2⟩ := trodAll_cons r1
  obtain ⟨rfl, rfl, rfl⟩ := trodAll_nil r2
  obtain rfl : args = #[v0, v1, v2] := by cases args; simp_all
  obtain ⟨rfl, rfl⟩ := trodVars_none hV
  obtain ⟨a0, l0, rfl, q0, _, z0⟩ := arg_vi Tryz.underlying22 Tryz.underlying3 cells3 (hval 0 22 v0 rfl rfl) h0
  obtain ⟨l1, hl1, rfl, _⟩ := arg_arr Tryz.underlying47 Tryz.underlying3 cells3 cells47 (hval 1 47 v1 rfl rfl) h1
  obtain ⟨a1_0, a1_1, a1_2, rfl⟩ := list3 hl1
  obtain ⟨a2, b2, l2, m2, rfl, ⟨q2, z2⟩, t2, y2⟩ := arg_arr2 Tryz.underlying48 Tryz.underlying22 Tryz.underlying3 cells3 cells22 cells48 (hval 2 48 v2 rfl rfl) h2
  clear hA0 hval0
  refine (walk a0 l0 z0 a1_0 a1_1 a1_2 a2 b2 l2 m2 z2 y2 W q0 q2 t2).mono fun e W' ⟨he, hg⟩ => ?_
  subst he
  exact ⟨_, rfl, Pw.post_true laid parts' rfl Tryz.underlying4 hW' rfl rfl rfl rfl hg⟩
theorem over : Rows.combineBetterRow.holds Tryz.pinned (OpenSpec.ofChange Rows.combineBetterSpec) :=
  OpenClaim.holds_of_wide 7 Tryz.f7 rfl rfl rfl rfl rfl rfl rfl ⟨rfl, rfl, rfl, rfl, rfl⟩ rfl rfl rfl rfl rfl (by kernel_rfl) Tryz.func7 (by kernel_rfl)
    (of_decide_eq_true (by kernel_rfl)) (by unfold Func.isWrapper; first | (rw [if_pos (by decide +kernel)]; kernel_rfl) | (rw [if_neg (by decide +kernel)]; exact ⟨rfl, rfl⟩))
    (fun os started H enc _ => lifted os started H enc)
theorem proved : Rows.CombineBetterSaid := over
end Go.Proofs.YtmkjcheafdionaaGreat.combineBetter
