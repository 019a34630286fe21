/- The reference's Mod, Bound and Check. Conditions: none. -/
import Derived.Test.YtfpobpjandjhjaaGreatDoorPRX
import Derived.Test.YtfpobpjandjhjaaGreatDoorPG2
namespace Go.Proofs.YtfpobpjandjhjaaGreatDoor
open Go Pw
section
variable {w w' w0 : World} {s0 s1 s2 s5 t5 ns : Sl} {p : Pr} {f T : List Int} {N : List Nd} {pts bnd dn dd : Int}
theorem rMod_spec {n m : Int} {K : Int -> World -> Prop} (h0 : 0 < m) (h1 : m < 2 ^ 62) (hK : ∀ r, 0 <= r -> r < m -> K r w) : z2k_sh n m K w := by
 have a1 := Int.tmod_lt_of_pos n h0
 have a2 := Int.lt_tmod_of_pos n h0
 refine ⟨?_⟩
 unfold z2k_sd
 refine ⟨by omega, inR64 (by omega) (by omega), by omega, hK _ (Int.tmod_nonneg _ (by omega)) (Int.tmod_lt_of_pos _ h0)⟩
theorem rBound_spec {K : Int -> Bool -> World -> Prop} (h : PF w s0 s1 s2 s5 p f) (hdn : I64 dn) (hdd : I64 dd) (hK : ∀ w', Fr F0 w w' -> K (upR p f dn dd).1 (upR p f dn dd).2 w') : z1t_sh s0 s1 s2 p.most p.budget s5 dn dd K w := by
 refine ⟨?_⟩
 unfold z1t_sd
 intro w1
 have m : Mem w w1 _ := Mem.nil.allocL (cs := prC s0 s1 s2 p.most p.budget)
 clear_value w1
 intro w2
 have m : Mem w w2 [(w1.heap.size, [.int .i64 dn, .int .i64 dd]), (w.heap.size, prC s0 s1 s2 p.most p.budget)] := m.allocL (cs := [.int .i64 dn, .int .i64 dd])
 clear_value w2
 exact ⟨s0, m.ld 1 rfl rfl, s1, m.ld 1 rfl rfl, s2, m.ld 1 rfl rfl, _, m.ld 1 rfl rfl, _, m.ld 1 rfl rfl, _, m.ld 0 rfl rfl, _, m.ld 0 rfl rfl, refUpper_spec (h.fr m.1) hdn hdd fun w' hf => hK w' (m.1.t hf)⟩
end
end Go.Proofs.YtfpobpjandjhjaaGreatDoor
