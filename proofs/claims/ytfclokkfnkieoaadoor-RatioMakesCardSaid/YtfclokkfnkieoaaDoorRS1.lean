/- Products and quotients of words, as the library's code computes them. Conditions: none. -/
import Derived.Test.YtfclokkfnkieoaaDoorRG0
import Derived.Test.YtfclokkfnkieoaaDoorPwM
namespace Go.Proofs.YtfclokkfnkieoaaDoor
open Go Pw

def tabL : List Nat := [0, 1, 2, 2, 3, 3, 3, 3, 4, 4, 4, 4, 4, 4, 4, 4, 5, 5, 5, 5, 5, 5, 5, 5, 5, 5, 5, 5, 5, 5, 5, 5, 6, 6, 6, 6, 6, 6, 6, 6, 6, 6, 6, 6, 6, 6, 6, 6, 6, 6, 6, 6, 6, 6, 6, 6, 6, 6, 6, 6, 6, 6, 6, 6, 7, 7, 7, 7, 7, 7, 7, 7, 7, 7, 7, 7, 7, 7, 7, 7, 7, 7, 7, 7, 7, 7, 7, 7, 7, 7, 7, 7, 7, 7, 7, 7, 7, 7, 7, 7, 7, 7, 7, 7, 7, 7, 7, 7, 7, 7, 7, 7, 7, 7, 7, 7, 7, 7, 7, 7, 7, 7, 7, 7, 7, 7, 7, 7, 8, 8, 8, 8, 8, 8, 8, 8, 8, 8, 8, 8, 8, 8, 8, 8, 8, 8, 8, 8, 8, 8, 8, 8, 8, 8, 8, 8, 8, 8, 8, 8, 8, 8, 8, 8, 8, 8, 8, 8, 8, 8, 8, 8, 8, 8, 8, 8, 8, 8, 8, 8, 8, 8, 8, 8, 8, 8, 8, 8, 8, 8, 8, 8, 8, 8, 8, 8, 8, 8, 8, 8, 8, 8, 8, 8, 8, 8, 8, 8, 8, 8, 8, 8, 8, 8, 8, 8, 8, 8, 8, 8, 8, 8, 8, 8, 8, 8, 8, 8, 8, 8, 8, 8, 8, 8, 8, 8, 8, 8, 8, 8, 8, 8, 8, 8, 8, 8, 8, 8, 8, 8, 8, 8, 8, 8, 8, 8]

theorem tab_all : ∀ x : Fin 256, 0 < x.val → 1 ≤ tabL.getD x.val 0 ∧ tabL.getD x.val 0 ≤ 8 ∧ 2 ^ (tabL.getD x.val 0 - 1) ≤ x.val ∧ x.val < 2 ^ tabL.getD x.val 0 := by decide +kernel

theorem tab_size : (str tabL).size = 256 := by decide +kernel

theorem tab_at (x : Nat) (h : x < 256) : ((str tabL).data.toList.getD x 0).toNat = tabL.getD x 0 := by
  have : ∀ x : Fin 256, ((str tabL).data.toList.getD x.val 0).toNat = tabL.getD x.val 0 := by decide +kernel
  exact this ⟨x, h⟩

section
variable {w : World}

theorem Len64_k2_spec {X n x : Nat} {K : Int → World → Prop} (hx : x = X / 2 ^ n) (h0 : 0 < x) (h : x < 256) (hn : n ≤ 56) (hK : ∀ r : Nat, 1 ≤ r → r ≤ n + 8 → 2 ^ (r - 1) ≤ X → X < 2 ^ r → K r w) : bits_Len64_k2 x n K w := by
  obtain ⟨t1, t2, t3, t4⟩ := tab_all ⟨x, h⟩ h0
  have ht := tab_at x h
  have hs := tab_size
  simp only at t1 t2 t3 t4
  refine ⟨?_⟩
  unfold bits_Len64_k2d
  have e : ((x : Int)).toNat = x := by omega
  rw [e]
  show inR .u8 (x : Int) ∧ (0 ≤ (x : Int) ∧ (x : Int) < (((str tabL).size : Nat) : Int)) ∧ inR .i64 ((((str tabL).data.toList.getD x 0).toNat : Nat) : Int) ∧ inR .i64 ((n : Int) + ((((str tabL).data.toList.getD x 0).toNat : Nat) : Int)) ∧ K ((n : Int) + ((((str tabL).data.toList.getD x 0).toNat : Nat) : Int)) w
  rw [ht, hs]
  generalize tabL.getD x 0 = t at *
  refine ⟨?_, ⟨by omega, by omega⟩, inR64 (by omega) (by omega), inR64 (by omega) (by omega), ?_⟩
  · unfold inR IntKind.wrap
    simp [IntKind.bits, IntKind.signed]
    omega
  · have := hK (n + t) (by omega) (by omega) ?_ ?_
    · rw [Int.natCast_add] at this
      exact this
    · rw [hx, Nat.le_div_iff_mul_le (Nat.two_pow_pos _), ← Nat.pow_add] at t3
      rw [show n + t - 1 = t - 1 + n by omega]
      exact t3
    · rw [hx, Nat.div_lt_iff_lt_mul (Nat.two_pow_pos _), ← Nat.pow_add] at t4
      rw [show n + t = t + n by omega]
      exact t4

theorem Len64_spec {x : Nat} {K : Int → World → Prop} (h0 : 0 < x) (h : x < 18446744073709551616) (hK : ∀ r : Nat, 1 ≤ r → r ≤ 64 → 2 ^ (r - 1) ≤ x → x < 2 ^ r → K r w) : bits_Len64_sh x K w := by
  have fd : ∀ (a k : Nat), k ≤ 64 → Int.fdiv (a : Int) (2 ^ (min k (IntKind.bits .u64))) = ((a / 2 ^ k : Nat) : Int) := fun a k hk => by
    have := shrN a k hk
    simpa using this
  have s1 : ∀ {n y : Nat}, n ≤ 48 → y = x / 2 ^ n → 0 < y → y < 65536 → bits_Len64_k1 (y : Int) (n : Int) K w := by
    intro n y hn hy hy0 hyl
    refine ⟨?_⟩
    unfold bits_Len64_k1d
    rw [cnd_prop]
    constructor
    · intro hc
      refine ⟨by omega, inR64 (by omega) (by omega), ?_⟩
      rw [fd y 8 (by omega)]
      have e : (n : Int) + 8 = ((n + 8 : Nat) : Int) := by omega
      rw [e]
      refine Len64_k2_spec (X := x) (by rw [hy, Nat.div_div_eq_div_mul, ← Nat.pow_add]) (by omega) (by omega) (by omega) fun r h1 h2 h3 h4 => hK r h1 (by omega) h3 h4
    · intro hc
      exact Len64_k2_spec (X := x) hy hy0 (by omega) (by omega) fun r h1 h2 h3 h4 => hK r h1 (by omega) h3 h4
  have s0 : ∀ {n y : Nat}, n ≤ 32 → y = x / 2 ^ n → 0 < y → y < 4294967296 → bits_Len64_k0 (y : Int) (n : Int) K w := by
    intro n y hn hy hy0 hyl
    refine ⟨?_⟩
    unfold bits_Len64_k0d
    rw [cnd_prop]
    constructor
    · intro hc
      refine ⟨by omega, inR64 (by omega) (by omega), ?_⟩
      rw [fd y 16 (by omega)]
      have e : (n : Int) + 16 = ((n + 16 : Nat) : Int) := by omega
      rw [e]
      exact s1 (by omega) (by rw [hy, Nat.div_div_eq_div_mul, ← Nat.pow_add]) (by omega) (by omega)
    · intro hc
      exact s1 (by omega) hy hy0 (by omega)
  refine ⟨?_⟩
  unfold bits_Len64_sd
  rw [cnd_prop]
  constructor
  · intro hc
    refine ⟨by omega, ?_⟩
    rw [fd x 32 (by omega)]
    exact s0 (n := 32) (by omega) rfl (by omega) (by omega)
  · intro hc
    exact s0 (n := 0) (by omega) (by simp) (by omega) (by omega)

theorem LeadingZeros64_spec {x : Nat} {K : Int → World → Prop} (h0 : 0 < x) (h : x < 18446744073709551616) (hK : ∀ s : Nat, s ≤ 63 → 9223372036854775808 ≤ x * 2 ^ s → x * 2 ^ s < 18446744073709551616 → K s w) : bits_LeadingZeros64_sh x K w := by
  refine ⟨Len64_spec h0 h fun r h1 h2 h3 h4 => ⟨inR64 (by omega) (by omega), ?_⟩⟩
  have e : (64 : Int) - (r : Int) = ((64 - r : Nat) : Int) := by omega
  rw [e]
  refine hK (64 - r) (by omega) ?_ ?_
  · have : 2 ^ (r - 1) * 2 ^ (64 - r) ≤ x * 2 ^ (64 - r) := Nat.mul_le_mul_right _ h3
    rw [← Nat.pow_add, show r - 1 + (64 - r) = 63 by omega] at this
    exact this
  · have : x * 2 ^ (64 - r) < 2 ^ r * 2 ^ (64 - r) := Nat.mul_lt_mul_of_pos_right h4 (Nat.two_pow_pos _)
    rw [← Nat.pow_add, show r + (64 - r) = 64 by omega] at this
    exact this

theorem Mul64_spec {x y : Nat} {K : Int → Int → World → Prop} (hx : x < 18446744073709551616) (hy : y < 18446744073709551616)
    (hK : K ((x * y / 18446744073709551616 : Nat) : Int) ((x * y % 18446744073709551616 : Nat) : Int) w) : bits_Mul64_sh x y K w := by
  obtain ⟨bd, bt, bw, hhi⟩ := Lib.mul64_hi x y hx hy
  have ba := Lib.half_mul_le (a := x / 4294967296) (b := y / 4294967296) (by omega) (by omega)
  have bb := Lib.half_mul_le (a := x / 4294967296) (b := y % 4294967296) (by omega) (by omega)
  have bc := Lib.half_mul_le (a := x % 4294967296) (b := y / 4294967296) (by omega) (by omega)
  refine ⟨?_⟩
  unfold bits_Mul64_sd
  refine ⟨by omega, by omega, by omega, by omega, by omega, ?_⟩
  simp only [shr32, and32' x hx, and32' y hy, mulN, addN, wu64, mod_mod_word]
  generalize hA : x / 4294967296 * (y / 4294967296) = A at *
  generalize hB : x / 4294967296 * (y % 4294967296) = B at *
  generalize hC : x % 4294967296 * (y / 4294967296) = C at *
  generalize hD : x % 4294967296 * (y % 4294967296) = D at *
  have e1 : D % 18446744073709551616 = D := Nat.mod_eq_of_lt bd
  have e2 : B % 18446744073709551616 = B := Nat.mod_eq_of_lt (by omega)
  have e3 : C % 18446744073709551616 = C := Nat.mod_eq_of_lt (by omega)
  have e4 : A % 18446744073709551616 = A := Nat.mod_eq_of_lt (by omega)
  have e5 : (B + D / 4294967296) % 18446744073709551616 = B + D / 4294967296 := Nat.mod_eq_of_lt bt
  simp only [e1, e2, e3, e4, e5, and32' _ bt, mod_mod_word]
  generalize x * y = P at *
  have h1 : ((A + (B + D / 4294967296) / 4294967296) % 18446744073709551616 + ((B + D / 4294967296) % 4294967296 + C) % 18446744073709551616 / 4294967296) % 18446744073709551616 = P / 18446744073709551616 := by
    rw [← hhi]
    clear hhi hK
    omega
  rw [h1]
  exact hK
end
end Go.Proofs.YtfclokkfnkieoaaDoor
