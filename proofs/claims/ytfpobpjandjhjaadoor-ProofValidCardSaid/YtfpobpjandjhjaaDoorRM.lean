/- The reference's remainder that is not negative. Conditions: none. -/
import Derived.Test.YtfpobpjandjhjaaDoorCG1
import Derived.Test.YtfpobpjandjhjaaDoorRSZ
namespace Go.Proofs.YtfpobpjandjhjaaDoor
open Go Pw
section
variable {w w0 : World}
theorem tmod_bound (n : Int) {m : Int} (hm : 0 < m) : -m < Int.tmod n m /\ Int.tmod n m < m := by
 have := Int.natAbs_tmod n m
 have h7 : n.natAbs % m.natAbs < m.natAbs := Nat.mod_lt _ (by omega)
 rw [← this] at h7
 omega
theorem mod_code (n : Int) {m : Int} (hm : 0 < m) : Int.tmod (Int.tmod n m + m) m = n % m := by
 obtain ⟨h1, h2⟩ := tmod_bound n hm
 have h3 := Int.tmod_add_mul_tdiv n m
 rw [Int.tmod_eq_emod_of_nonneg (by omega), Int.add_emod_right]
 conv => rhs; rw [← h3]
 rw [Int.add_mul_emod_self_left]
theorem Mod_spec {n m : Int} {K : Int -> World -> Prop} (hm : 0 < m) (hm2 : m < 4611686018427387904) (hK : K (n % m) w) : z0s_sh n m K w := by
 refine ⟨?_⟩
 unfold z0s_sd
 obtain ⟨h1, h2⟩ := tmod_bound n hm
 refine ⟨by omega, inR64 (by omega) (by omega), by omega, ?_⟩
 rw [mod_code n hm]
 exact hK
end
end Go.Proofs.YtfpobpjandjhjaaDoor
