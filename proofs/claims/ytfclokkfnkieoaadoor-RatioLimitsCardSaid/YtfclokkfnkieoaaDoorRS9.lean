/- Sums of two numbers, as package ratio computes them. Conditions: none. -/
import Derived.Test.YtfclokkfnkieoaaDoorRS8
namespace Go.Proofs.YtfclokkfnkieoaaDoor
open Go Pw

section
variable {w : World}

set_option maxHeartbeats 1000000 in
theorem sum_spec {xs ys : Bool} {xn xd yn yd : Nat} {K : Int → Int → Bool → World → Prop} (hx : Nat.Coprime xn xd) (hy : Nat.Coprime yn yd) (hxd : 0 < xd) (hyd : 0 < yd)
    (bxn : xn ≤ 9223372036854775808) (bxd : xd ≤ 9223372036854775808) (byn : yn ≤ 9223372036854775808) (byd : yd ≤ 9223372036854775808)
    (hK : ∀ w', Fr F0 w w' → Kr K (fitQ (mkRat (sgn xs xn) xd + mkRat (sgn ys yn) yd)) w') : ratio_sum_sh xs xn xd ys yn yd K w := by
  have hg : 0 < Nat.gcd xd yd := Nat.gcd_pos_of_pos_right _ hyd
  have bg : Nat.gcd xd yd < 18446744073709551616 := by have := Nat.gcd_le_left yd hxd; omega
  have l1 : yd / Nat.gcd xd yd ≤ 9223372036854775808 := Nat.le_trans (Nat.div_le_self _ _) byd
  have l2 : xd / Nat.gcd xd yd ≤ 9223372036854775808 := Nat.le_trans (Nat.div_le_self _ _) bxd
  have hA : xn * (yd / Nat.gcd xd yd) < 170141183460469231731687303715884105728 := Nat.lt_of_le_of_lt (Nat.mul_le_mul bxn l1) (by decide)
  have hB : yn * (xd / Nat.gcd xd yd) < 170141183460469231731687303715884105728 := Nat.lt_of_le_of_lt (Nat.mul_le_mul byn l2) (by decide)
  have i1 : xn < 18446744073709551616 := by omega
  have i2 : yd / Nat.gcd xd yd < 18446744073709551616 := by omega
  have i3 : yn < 18446744073709551616 := by omega
  have i4 : xd / Nat.gcd xd yd < 18446744073709551616 := by omega
  have bxd' : xd < 18446744073709551616 := by omega
  have byd' : yd < 18446744073709551616 := by omega
  have hfin : ∀ s n, sumS xs ys (xn * (yd / Nat.gcd xd yd)) (yn * (xd / Nat.gcd xd yd)) = (s, n) → (n = 0 → ∀ w', Fr F0 w w' → K 0 1 true w') ∧ ∀ w', Fr F0 w w' → Kr K (ratI s (n / Nat.gcd (Nat.gcd xd yd) (n % Nat.gcd xd yd)) (xd / Nat.gcd xd yd * (yd / Nat.gcd (Nat.gcd xd yd) (n % Nat.gcd xd yd)))) w' := by
    intro s n hs
    obtain ⟨h1, h2⟩ := sum_q hx hy (by omega) (by omega) rfl hs
    refine ⟨fun h0 w' hf => ?_, fun w' hf => ?_⟩
    · have := hK w' hf
      rw [h1 h0] at this
      exact this
    · rw [h2]
      exact hK w' hf
  have r : ∀ a b : Nat, a / b < 18446744073709551616 → inR .u64 (Int.tdiv (a : Int) (b : Int)) := fun a b h => by
    rw [tdivN]
    exact inRu (Int.natCast_nonneg _) (by omega)
  refine ⟨?_⟩
  unfold ratio_sum_sd
  intro w1
  have m : Mem w w1 _ := Mem.nil.alloc
  clear_value w1
  intro w2
  have m : Mem w w2 _ := m.alloc
  clear_value w2
  intro w3
  have m : Mem w w3 _ := m.alloc
  clear_value w3
  refine ⟨_, m.ld 2 rfl rfl, _, m.ld 1 rfl rfl, gcd_spec fun w4 hf => ?_⟩
  have m : Mem w w4 _ := m.fr hf
  intro w5
  have m : Mem w w5 _ := m.drew
  clear_value w5
  refine ⟨fun u => Rs u _, m.sub 0 rfl, _, fun _ h => h.ld 2 rfl rfl, _, fun _ h => h.ld 1 rfl rfl, by omega, r _ _ i2, _, fun _ h => h.ld 1 rfl rfl, _, fun _ h => h.ld 2 rfl rfl, by omega, r _ _ i4, ?_⟩
  simp -zeta only [tdivN]
  generalize Nat.gcd xd yd = g at *
  generalize yd / g = q at *
  repeat' first
    | exact sum_k0_spec m 0 1 rfl rfl hA hB hg bg bxd' byd' hfin
    | exact sum_k0_spec m 1 0 rfl rfl hA hB hg bg bxd' byd' hfin
    | refine ⟨m.sub 0 rfl, ?_⟩
    | refine ⟨m.sub 1 rfl, ?_⟩
    | refine ⟨m.sub 2 rfl, ?_⟩
    | refine ⟨m.wr 0 rfl rfl, ?_⟩
    | refine ⟨m.wr 1 rfl rfl, ?_⟩
    | (refine product_spec i1 i2 fun w1 hf => ?_; have m := m.fr hf)
    | (refine product_spec i3 i4 fun w1 hf => ?_; have m := m.fr hf)
    | (intro w1; have m : Mem w w1 _ := m.alloc; clear_value w1)
    | (intro w1; have m : Mem w w1 _ := m.set 0 rfl; clear_value w1)
    | (intro w1; have m : Mem w w1 _ := m.set 1 rfl; clear_value w1)
    | refine ⟨?_, ?_⟩
end
end Go.Proofs.YtfclokkfnkieoaaDoor
