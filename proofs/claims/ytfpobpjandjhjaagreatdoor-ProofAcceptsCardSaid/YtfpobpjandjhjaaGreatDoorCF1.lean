/- The reference's Prefix, offs, Least, take, Paid and Points. Conditions: none. -/
import Derived.Test.YtfpobpjandjhjaaGreatDoorCEX
namespace Go.Proofs.YtfpobpjandjhjaaGreatDoor
open Go Pw
section
variable {w wB : World} {s x s0 s1 s2 s5 : Sl} {l dl f : List Int} {p : Pr} {pb db : Nat}
theorem decs_take : ∀ (ls f : List Int) (i : Nat), Decs p ls f -> Decs p ls (f.take i)
 | _, _, 0, _ => by simp [Decs]
 | _, [], _ + 1, _ => by simp [Decs]
 | [], _ :: _, _ + 1, h => h.elim
 | _ :: ls, _ :: f, i + 1, h => by
  rw [List.take_succ_cons]
  exact ⟨h.1, decs_take ls f i h.2⟩
theorem fitsB_decs (h : fitsB p f = true) : Decs p p.lots f := by
 unfold fitsB at h
 rw [Bool.and_eq_true] at h
 exact decsB_iff.1 h.2
end
end Go.Proofs.YtfpobpjandjhjaaGreatDoor
