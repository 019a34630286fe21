/- CombineProofs and CombineGaps. Conditions: none. -/
import Derived.Test.YtfpobpjandjhjaaGreatDoorCUX
import Derived.Test.YtfpobpjandjhjaaGreatDoorCEX
namespace Go.Proofs.YtfpobpjandjhjaaGreatDoor
open Go Pw
section
variable {w wB wM : World} {s t s0 s1 s2 n1 ns : Sl} {l a T : List Int} {p : Pr} {pb rb : Nat} {bnd work : Int} {cs : List NdC} {N : List Nd} {L : List (Nat × List Value)}
theorem V.reb (m : Mem wM wB L) (h : V wB w [] [] [] ns t T cs N) : V wM w L [] [] ns t T cs N := by
 have hlt : ∀ q ∈ L, q.1 < wB.heap.size := fun q hq => (m.2.1 q hq).lt
 exact ⟨m.fr h.m.1, fun _ hx => (by cases hx), h.ow, h.tv, h.nv, fun q hq => ⟨fun hb => by have := h.n0 _ hb; have := hlt q hq; omega, fun hb => by have := h.n1 _ hb; have := hlt q hq; omega, fun c hc hb => by have := h.n2 c hc _ hb; have := hlt q hq; omega⟩,
  fun _ hx => (by cases hx), h.a3, fun b hb => Nat.le_trans m.1.1 (h.n0 b hb), fun b hb => Nat.le_trans m.1.1 (h.n1 b hb), fun c hc b hb => Nat.le_trans m.1.1 (h.n2 c hc b hb), h.a4, fun _ ho => (by cases ho)⟩
end
end Go.Proofs.YtfpobpjandjhjaaGreatDoor
