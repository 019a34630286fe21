/- The statement JournalSameSaid, proved from the law's contract. Conditions: none. -/
import Derived.Test.YtamkecjpcfnpjaaRows
import Derived.Test.YtamkecjpcfnpjaaJF
import Derived.Test.YtamkecjpcfnpjaaJL6
namespace Go.Proofs.Ytamkecjpcfnpjaa.journalSame
open Go Go.ChangeShapes Go.WideShapes Go.ChangeAt Go.RowKit

theorem own : ownKnob Try.prog.godebug = none := by kernel_rfl
theorem laid : laidOutB Try.prog = true := by kernel_rfl
theorem cells3 : Try.prog.cellsOf 3 = 1 := by kernel_rfl
theorem cells9 : Try.prog.cellsOf 9 = 1 := by kernel_rfl
theorem parts : (Try.f5.params.toList.all fun t => Try.prog.readableRec t && Nat.blt t Try.prog.types.size) = true := by kernel_rfl
theorem parts' : ∀ t ∈ Try.f5.params.toList, Try.prog.readableRec t = true ∧ t < Try.prog.types.size := fun t ht => by
  have := List.all_eq_true.1 parts t ht
  simp only [Bool.and_eq_true] at this
  exact ⟨this.1, by simpa [Nat.blt_eq] using this.2⟩

theorem walk (a0 : Pw.Sl) (l0 : List (List UInt8)) (m0 : a0.l ≤ maxLen) (a1 : Int) (w1 : (Lit.int .u8 a1).wf = true) (a2 : Pw.Sl) (l2 : List Int) (_m2 : ∀ n ∈ l2, (Lit.int .i64 n).wf = true) (w : World) (q0 : Pw.rdC w a0.p a0.l (l0.map sv)) (q2 : Pw.rdC w a2.p a2.l (l2.map fun n => .int .i64 n)) :
    Calls Try.prog 5 #[.slice a0.p a0.l a0.c, .int .u8 a1, .slice a2.p a2.l a2.c] w fun e w' => e = .returned (.bool true) ∧ Pw.Fr F0 w w' := by
  have b1 := wf_u8 w1
  have h : probitylaw27_JournalSame_S [.slice a0.p a0.l a0.c, .int .u8 a1, .slice a2.p a2.l a2.c] w (fun v w' => v = .bool true ∧ Pw.Fr F0 w w') :=
    Same_law q0 (show a0.l < 2 ^ 63 by unfold maxLen at m0; omega) b1 q2 fun w' hf => ⟨rfl, hf⟩
  exact (probitylaw27_JournalSame_ok.2 _ _ _ h).mono fun e w' ⟨v, he, hv, hf⟩ => ⟨by rw [he, hv], hf⟩

set_option maxRecDepth 100000 in
theorem lifted (os : Os) (started : os.Started) (H : Type) (enc : TypeId × Value → H) :
    ReturnsInHanded {} Try.checked os 5 .any (Rows.journalSameSpec.pre6 enc Try.prog Try.f5 Rows.journalSameRow.domain false) (Rows.journalSameSpec.post enc Try.prog Try.f5 false true false false) := by
  refine returnsInHanded_of_change (C := Try.checked) own started (by kernel_rfl) Try.func5
    (ChangeSpec.witness6 (enc := enc) (C := Try.checked) false ⟨#[], #[.slice none 0 0, .int .u8 0, .slice none 0 0], []⟩ 8 (by kernel_rfl) (by kernel_rfl) (by kernel_rfl) (by kernel_rfl)) ?_
  intro W base args ds gs before hval0 hW hcnd _
  have hval : ∀ (j : Nat) t v, Try.f5.params[j]? = some t → args[j]? = some v → Value.okWide Try.prog W .any base t v := hval0
  have hW' := hW
  obtain ⟨p, q, hA0, hV, rfl, hfz, hnd⟩ := hW
  have hA : DataW.TrodAll enc Try.prog W 0 (fun _ => true) true Try.f5.params.toList args.toList ds p := hA0
  rw [Try.params5] at hA hval
  obtain ⟨v0, vs0, d0, ds0, p0, q0, hargs, rfl, rfl, h0, r0⟩ := trodAll_cons hA
  obtain ⟨v1, vs1, d1, ds1, p1, q1, rfl, rfl, rfl, h1, r1⟩ := trodAll_cons r0
  obtain ⟨v2, vs2, d2, ds2, p2, q2, rfl, rfl, rfl, h2, r2⟩ := trodAll_cons r1
  obtain ⟨rfl, rfl, rfl⟩ := trodAll_nil r2
  obtain rfl : args = #[v0, v1, v2] := by cases args; simp_all
  obtain ⟨rfl, rfl⟩ := trodVars_none hV
  obtain ⟨a0, l0, rfl, q0, m0⟩ := arg_strsM Try.underlying22 Try.underlying9 cells9 (hval 0 22 v0 rfl rfl) h0
  obtain ⟨a1, rfl, _, _, w1⟩ := open_int Try.underlying5 (hval 1 5 v1 rfl rfl) h1
  obtain ⟨a2, l2, rfl, q2, m2, _⟩ := arg_kints Try.underlying40 Try.underlying3 cells3 (hval 2 40 v2 rfl rfl) h2
  clear hA0 hval0
  refine (walk a0 l0 m0 a1 w1 a2 l2 m2 W q0 q2).mono fun e W' ⟨he, hg⟩ => ?_
  subst he
  exact ⟨_, rfl, Pw.post_true laid parts' rfl Try.underlying4 hW' rfl rfl rfl rfl hg⟩

theorem over : Rows.journalSameRow.holds Try.pinned (OpenSpec.ofChange Rows.journalSameSpec) :=
  OpenClaim.holds_of_wide 5 Try.f5 rfl rfl rfl rfl rfl rfl rfl ⟨rfl, rfl, rfl, rfl, rfl⟩ rfl rfl rfl rfl rfl (by kernel_rfl) Try.func5 (by kernel_rfl)
    (of_decide_eq_true (by kernel_rfl)) (by unfold Func.isWrapper; first | (rw [if_pos (by decide +kernel)]; kernel_rfl) | (rw [if_neg (by decide +kernel)]; exact ⟨rfl, rfl⟩))
    (fun os started H enc _ => lifted os started H enc)

/-- The statement. -/
theorem proved : Rows.JournalSameSaid := over
end Go.Proofs.Ytamkecjpcfnpjaa.journalSame
