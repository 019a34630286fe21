/- The reference's Mod, Bound and Check. Conditions: none. -/
import Derived.Test.YtfpobpjandjhjaaGreatDoorPXX
import Derived.Test.YtfpobpjandjhjaaGreatDoorPG2
namespace Go.Proofs.YtfpobpjandjhjaaGreatDoor
open Go Pw
section
variable {w w' w0 : World} {s0 s1 s2 s5 t5 ns : Sl} {p : Pr} {f T : List Int} {N : List Nd} {pts bnd dn dd : Int}
theorem rMod_spec {n m : Int} {K : Int -> World -> Prop} (h0 : 0 < m) (h1 : m < 2 ^ 62) (hK : ∀ r, 0 <= r -> r < m -> K r w) : z30_sh n m K w := by
 have a1 := Int.tmod_lt_of_pos n h0
 have a2 := Int.lt_tmod_of_pos n h0
 refine ⟨?_⟩
 unfold z30_sd
 refine ⟨by omega, inR64 (by omega) (by omega), by omega, hK _ (Int.tmod_nonneg _ (by omega)) (Int.tmod_lt_of_pos _ h0)⟩
end
end Go.Proofs.YtfpobpjandjhjaaGreatDoor
