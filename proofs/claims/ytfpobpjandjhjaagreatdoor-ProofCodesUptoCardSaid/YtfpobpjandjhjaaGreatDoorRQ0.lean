/- Rational numbers: what the operations answer, as plain laws. Conditions: none. -/
import Derived.Test.YtfpobpjandjhjaaGreatDoorRXZ
namespace Go.Proofs.YtfpobpjandjhjaaGreatDoor
open Go Pw
theorem fitQ_I64 (q : Rat) : I64 (fitQ q).n /\ I64 (fitQ q).d := by
 unfold fitQ
 split
 ·rename_i h
  refine ⟨⟨h.1, h.2.1⟩, ?_⟩
  have := h.2.2
  show I64 (q.den : Int)
  exact ⟨by omega, by omega⟩
 ·exact ⟨⟨by decide, by decide⟩, ⟨by decide, by decide⟩⟩
theorem rI (n : Int) : rightP n 1 := ⟨by decide, by simp⟩
theorem zr_right : rightP zr.n zr.d := ⟨by decide, by decide⟩
theorem addQ_right (n d n' d' : Int) : rightP (addQ n d n' d').n (addQ n d n' d').d := by
 unfold addQ; split
 ·exact fitQ_right _
 ·exact zr_right
theorem zr_I64 : I64 zr.n /\ I64 zr.d := ⟨⟨by decide, by decide⟩, ⟨by decide, by decide⟩⟩
theorem addQ_I64 (n d n' d' : Int) : I64 (addQ n d n' d').n /\ I64 (addQ n d n' d').d := by
 unfold addQ; split
 ·exact fitQ_I64 _
 ·exact zr_I64
theorem mulQ_I64 (n d n' d' : Int) : I64 (mulQ n d n' d').n /\ I64 (mulQ n d n' d').d := by
 unfold mulQ; split
 ·exact fitQ_I64 _
 ·exact zr_I64
end Go.Proofs.YtfpobpjandjhjaaGreatDoor
