/- combine: the memory of a search. Conditions: none. -/
import Derived.Test.YtfpobpjandjhjaaDoorCDY
import Derived.Test.YtfpobpjandjhjaaDoorPwQ
import Derived.Test.YtfpobpjandjhjaaDoorProg
import Derived.KernelRfl
import Derived.Test.YtfpobpjandjhjaaDoorPwY
import Derived.Test.YtfpobpjandjhjaaDoorCG0
import Derived.Test.YtfpobpjandjhjaaDoorCG1
import Derived.Test.YtfpobpjandjhjaaDoorCG2
import Derived.Test.YtfpobpjandjhjaaDoorCBX
namespace Pw
open Go
theorem Ow.row {w : World} {b : Nat} {l : List Int} (h : Row w b (l.map fun n => Value.int .i64 n)) : Ow 1 (ie .i64 id) w ⟨some ⟨b, 0, none⟩, l.length, l.length⟩ l := by
 refine ⟨rfl, ?_, .inr ⟨b, _, rfl, h, by simp, Nat.le_refl _, ?_⟩⟩
 ·simp [fm_length (fun a => ie_length IntKind.i64 (id : Int -> Int) a)]
 ·rw [show l.flatMap (ie .i64 id) = l.map fun n => Value.int .i64 n from fm_one (fun n => Value.int .i64 n) l]
  exact List.take_of_length_le (Nat.le_refl _)
end Pw
namespace Go.Proofs.YtfpobpjandjhjaaDoor
open Go Pw
structure NdC where
 lot : Int
 num : Int
 den : Int
 nx : Sl
def encN (c : NdC) : List Value := [.int .i64 c.lot, .int .i64 c.num, .int .i64 c.den, .slice c.nx.p c.nx.l c.nx.c]
@[simp] theorem encN_length (c : NdC) : (encN c).length = 4 := rfl
theorem encN_ok (c : NdC) : ∀ v ∈ encN c, okC v = true := by intro v hv; simp [encN] at hv; rcases hv with rfl | rfl | rfl | rfl <;> rfl
abbrev OI (w : World) (s : Sl) (l : List Int) : Prop := Ow 1 (ie .i64 id) w s l
end Go.Proofs.YtfpobpjandjhjaaDoor

set_option maxRecDepth 20000



namespace Go.Proofs.YtfpobpjandjhjaaDoor
open Go Pw
section
variable {wB u w : World} {l : List (Nat × List Value)} {R : List (Sl × List Int)} {O : List (Nat × Obj)} {ns t take s0 s1 s2 : Sl} {p : Pr} {T f ds : List Int} {cs : List NdC} {N : List Nd} {left : Int} {jr jp jv sb spb vb fid : Nat} {row row' : List Value}
theorem opts_len (p : Pr) (lot : Int) : (opts p lot).length <= p.ch.length + 1 := by
 have : ∀ (l : List Ch) (i : Nat), (optsFrom lot i l).length <= l.length := by
  intro l
  induction l with
  | nil => intro i; simp [optsFrom]
  | cons c l ih =>
   intro i
   unfold optsFrom
   have := ih (i + 1)
   split <;> simp <;> omega
 have := this p.ch 0
 simp only [opts, List.length_cons]
 omega
end
end Go.Proofs.YtfpobpjandjhjaaDoor

