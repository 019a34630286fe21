/- math/bits.Div64: quotient and rest. Conditions: none. -/
import Derived.Test.YtfclokkfnkieoaaDoorRS2
namespace Go.Proofs.YtfclokkfnkieoaaDoor
open Go Pw

section
variable {w : World}

theorem Fr0.drew : Fr F0 w w.drew := Fr.drew

theorem Div64_spec {hi lo y : Nat} {K : Int → Int → World → Prop} (hy : hi < y) (hy64 : y < 18446744073709551616) (hlo : lo < 18446744073709551616)
    (hK : ∀ w', Fr F0 w w' → K (((hi * 18446744073709551616 + lo) / y : Nat) : Int) (((hi * 18446744073709551616 + lo) % y : Nat) : Int) w') : bits_Div64_sh hi lo y K w := by
  refine ⟨?_⟩
  unfold bits_Div64_sd
  rw [cnd_beq]
  refine ⟨fun h => by omega, fun _ => ?_⟩
  rw [cnd_prop]
  refine ⟨fun h => by omega, fun _ => ?_⟩
  rw [cnd_beq]
  refine ⟨fun h => ?_, fun h => ?_⟩
  · have h0 : hi = 0 := by omega
    subst h0
    have e : 0 * 18446744073709551616 + lo = lo := by omega
    rw [e] at hK
    refine ⟨by omega, ?_, by omega, ?_⟩
    · rw [tdivN]
      exact inRu (Int.natCast_nonneg _) (by have := Nat.div_le_self lo y; omega)
    · exact hK _ Fr.drew
  · refine LeadingZeros64_spec (by omega) hy64 fun s hs h1 h2 => ?_
    obtain ⟨o1, o2, _⟩ := shl_words (s := s) (by omega) hy h2 hlo
    have ew : IntKind.wrap .u64 (s : Int) = (s : Int) := wu64_in (by omega) (by omega)
    have ew2 : IntKind.wrap .u64 ((64 : Int) - (s : Int)) = ((64 - s : Nat) : Int) := by rw [wu64_in (by omega) (by omega)]; omega
    have hhi : hi * 2 ^ s < 18446744073709551616 := by
      have : hi * 2 ^ s ≤ y * 2 ^ s := Nat.mul_le_mul_right _ (by omega)
      omega
    have hl2 : lo / 2 ^ (64 - s) < 18446744073709551616 := by
      have := Nat.div_le_self lo (2 ^ (64 - s))
      omega
    simp only [ew, ew2, shlN _ s (show s ≤ 64 by omega), shrN _ (64 - s) (show 64 - s ≤ 64 by omega), Nat.mod_eq_of_lt h2, Nat.mod_eq_of_lt hhi, orN _ _ hhi hl2, o1, shr32]
    have hml : lo * 2 ^ s % 18446744073709551616 < 18446744073709551616 := Nat.mod_lt _ (by omega)
    generalize hY : y * 2 ^ s = Y at *
    generalize hu : hi * 2 ^ s + lo / 2 ^ (64 - s) = u at *
    generalize hd : lo * 2 ^ s % 18446744073709551616 = d at *
    simp only [and32 Y (by omega), and32 d hml, tdivN]
    have hdm := Nat.div_add_mod u (Y / 4294967296)
    have hle : u / (Y / 4294967296) * (Y / 4294967296) ≤ u := Nat.div_mul_le_self _ _
    have e : IntKind.wrap .u64 ((u : Int) - IntKind.wrap .u64 (((u / (Y / 4294967296) : Nat) : Int) * ((Y / 4294967296 : Nat) : Int))) = ((u % (Y / 4294967296) : Nat) : Int) := by
      rw [mulN, wu64, Nat.mod_eq_of_lt (by omega)]
      rw [Nat.mul_comm (Y / 4294967296)] at hdm
      rw [wu64_in (n := (u : Int) - ((u / (Y / 4294967296) * (Y / 4294967296) : Nat) : Int)) (by omega) (by omega)]
      omega
    rw [e]
    refine ⟨by omega, by omega, by omega, by omega, by omega, by omega, by omega, inRu (Int.natCast_nonneg _) (by have := Nat.div_le_self u (Y / 4294967296); omega), ?_⟩
    refine Div64_l0_spec (by omega) (by omega) (by omega) (by omega) (by omega) o2 (by omega) (by omega) fun R hR => ?_
    have ed : d / 4294967296 * 4294967296 + d % 4294967296 = d := Nat.div_add_mod' d 4294967296
    have o3 := (shl_words (s := s) (by omega) hy (by rw [hY]; exact h2) hlo).2.2
    rw [hu, hd] at o3
    rw [ed] at hR ⊢
    rw [o3] at hR ⊢
    have hp : 0 < 2 ^ s := Nat.two_pow_pos s
    rw [← hY] at hR ⊢
    rw [Nat.mul_div_mul_right _ _ hp]
    rw [Nat.mul_mod_mul_right] at hR
    rw [← hR, Nat.mul_div_cancel _ hp]
    exact hK w Fr.refl
end
end Go.Proofs.YtfclokkfnkieoaaDoor
