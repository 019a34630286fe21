/- Wide numbers: products, sums, differences, quotients, comparisons. Conditions: none. -/
import Derived.Test.YtfclokkfnkieoaaDoorRS5
namespace Go.Proofs.YtfclokkfnkieoaaDoor
open Go Pw

section
variable {w : World}

theorem of_spec {n d : Int} {K : Bool → Int → Int → World → Prop} (hn : I64 n) (hd : I64 d) (hK : ∀ w', Fr F0 w w' → K (decide (n < 0)) n.natAbs d.natAbs w') : ratio_of_sh n d K w := by
  refine ⟨?_⟩
  unfold ratio_of_sd
  intro w1
  have m : Mem w w1 _ := Mem.nil.alloc
  clear_value w1
  intro w2
  have m : Mem w w2 _ := m.alloc
  clear_value w2
  intro w3
  have m : Mem w w3 _ := m.drew
  clear_value w3
  refine ⟨fun u => Rs u _, m.sub 0 rfl, _, fun _ h => h.ld 1 rfl rfl, _, fun _ h => h.ld 1 rfl rfl, _, fun _ h => h.ld 1 rfl rfl, size_spec hn ⟨m.sub 0 rfl, size_spec hd ⟨m.sub 0 rfl, ?_⟩⟩⟩
  exact put3 m 0 rfl hK

theorem Of_spec {n : Int} {K : Int → Int → World → Prop} (hK : ∀ w', Fr F0 w w' → K n 1 w') : ratio_Of_sh n K w := by
  refine ⟨?_⟩
  unfold ratio_Of_sd
  intro w1
  have m : Mem w w1 _ := Mem.nil.alloc
  clear_value w1
  exact put2 m 0 rfl hK

theorem product_spec {x y : Nat} {K : Int → Int → World → Prop} (hx : x < 18446744073709551616) (hy : y < 18446744073709551616)
    (hK : ∀ w', Fr F0 w w' → K ((x * y / 18446744073709551616 : Nat) : Int) ((x * y % 18446744073709551616 : Nat) : Int) w') : ratio_product_sh x y K w := by
  refine ⟨?_⟩
  unfold ratio_product_sd
  intro w1
  have m : Mem w w1 _ := Mem.nil.alloc
  clear_value w1
  exact Mul64_spec hx hy (put2 m 0 rfl hK)

theorem wadd_spec {A B : Nat} {K : Int → Int → World → Prop} (hA : A < 170141183460469231731687303715884105728) (hB : B < 170141183460469231731687303715884105728)
    (hK : ∀ w', Fr F0 w w' → K (((A + B) / 18446744073709551616 : Nat) : Int) (((A + B) % 18446744073709551616 : Nat) : Int) w') :
    ratio_wide_add_sh ((A / 18446744073709551616 : Nat) : Int) ((A % 18446744073709551616 : Nat) : Int) ((B / 18446744073709551616 : Nat) : Int) ((B % 18446744073709551616 : Nat) : Int) K w := by
  obtain ⟨e1, e2⟩ := wd_add (M := 18446744073709551616) (A := A) (B := B) (by decide)
  have a1 : A / 18446744073709551616 < 9223372036854775808 := by rw [Nat.div_lt_iff_lt_mul (by decide)]; exact hA
  have b1 : B / 18446744073709551616 < 9223372036854775808 := by rw [Nat.div_lt_iff_lt_mul (by decide)]; exact hB
  have a2 : A % 18446744073709551616 < 18446744073709551616 := Nat.mod_lt _ (by decide)
  have b2 : B % 18446744073709551616 < 18446744073709551616 := Nat.mod_lt _ (by decide)
  rw [← e1, ← e2] at hK
  clear e1 e2 hA hB
  generalize A / 18446744073709551616 = p at *
  generalize A % 18446744073709551616 = q at *
  generalize B / 18446744073709551616 = r at *
  generalize B % 18446744073709551616 = s at *
  refine ⟨?_⟩
  unfold ratio_wide_add_sd
  intro w1
  have m : Mem w w1 _ := Mem.nil.alloc
  clear_value w1
  intro w2
  have m : Mem w w2 _ := m.alloc
  clear_value w2
  intro w3
  have m : Mem w w3 _ := m.alloc
  clear_value w3
  refine ⟨_, m.ld 2 rfl rfl, _, m.ld 1 rfl rfl, ⟨⟨by omega, by omega, by omega, by omega, by omega, by omega⟩, ?_⟩⟩
  refine ⟨_, m.ld 2 rfl rfl, _, m.ld 1 rfl rfl, ⟨⟨by omega, by omega, by omega, by omega, by omega, by omega⟩, ?_⟩⟩
  have f1 : ((p : Int) + (r : Int) + ((q : Int) + (s : Int) + 0) / 18446744073709551616) % 18446744073709551616 = ((p + r + (q + s) / 18446744073709551616 : Nat) : Int) := by omega
  have f2 : ((q : Int) + (s : Int) + 0) % 18446744073709551616 = (((q + s) % 18446744073709551616 : Nat) : Int) := by omega
  rw [f1, f2]
  exact put2 m 0 rfl hK

theorem wsub_spec {A B : Nat} {K : Int → Int → World → Prop} (hA : A < 340282366920938463463374607431768211456) (hB : B ≤ A)
    (hK : ∀ w', Fr F0 w w' → K (((A - B) / 18446744073709551616 : Nat) : Int) (((A - B) % 18446744073709551616 : Nat) : Int) w') :
    ratio_wide_sub_sh ((A / 18446744073709551616 : Nat) : Int) ((A % 18446744073709551616 : Nat) : Int) ((B / 18446744073709551616 : Nat) : Int) ((B % 18446744073709551616 : Nat) : Int) K w := by
  obtain ⟨C, rfl⟩ : ∃ C, A = B + C := ⟨A - B, by omega⟩
  rw [Nat.add_sub_cancel_left] at hK
  obtain ⟨e1, e2⟩ := wd_add (M := 18446744073709551616) (A := B) (B := C) (by decide)
  have a1 : (B + C) / 18446744073709551616 < 18446744073709551616 := by rw [Nat.div_lt_iff_lt_mul (by decide)]; exact hA
  rw [← e2] at a1
  have a2 : C % 18446744073709551616 < 18446744073709551616 := Nat.mod_lt _ (by decide)
  have b2 : B % 18446744073709551616 < 18446744073709551616 := Nat.mod_lt _ (by decide)
  rw [← e1, ← e2]
  clear e1 e2 hA hB
  generalize C / 18446744073709551616 = p at *
  generalize C % 18446744073709551616 = q at *
  generalize B / 18446744073709551616 = r at *
  generalize B % 18446744073709551616 = s at *
  refine ⟨?_⟩
  unfold ratio_wide_sub_sd
  intro w1
  have m : Mem w w1 _ := Mem.nil.alloc
  clear_value w1
  intro w2
  have m : Mem w w2 _ := m.alloc
  clear_value w2
  intro w3
  have m : Mem w w3 _ := m.alloc
  clear_value w3
  refine ⟨_, m.ld 2 rfl rfl, _, m.ld 1 rfl rfl, ⟨⟨by omega, by omega, by omega, by omega, by omega, by omega⟩, ?_⟩⟩
  refine ⟨_, m.ld 2 rfl rfl, _, m.ld 1 rfl rfl, ⟨⟨by omega, by omega, by omega, by omega, ?_, ?_⟩, ?_⟩⟩
  · split <;> omega
  · split <;> omega
  have f2 : ((((s + q) % 18446744073709551616 : Nat) : Int) - (s : Int) - 0) % 18446744073709551616 = (q : Int) := by omega
  have f1 : (((r + p + (s + q) / 18446744073709551616 : Nat) : Int) - (r : Int) - (if (((s + q) % 18446744073709551616 : Nat) : Int) < (s : Int) + 0 then 1 else 0)) % 18446744073709551616 = (p : Int) := by
    split <;> omega
  rw [f1, f2]
  exact put2 m 0 rfl hK

theorem wover_spec {A b : Nat} {K : Int → Int → Int → World → Prop} (hA : A < 340282366920938463463374607431768211456) (hb : 0 < b) (hb' : b < 18446744073709551616)
    (hK : ∀ w', Fr F0 w w' → K ((A / b / 18446744073709551616 : Nat) : Int) ((A / b % 18446744073709551616 : Nat) : Int) ((A % b : Nat) : Int) w') :
    ratio_wide_over_sh ((A / 18446744073709551616 : Nat) : Int) ((A % 18446744073709551616 : Nat) : Int) b K w := by
  obtain ⟨e1, e2, e3⟩ := wd_over (M := 18446744073709551616) (A := A) hb (by omega)
  have a1 : A / 18446744073709551616 < 18446744073709551616 := by rw [Nat.div_lt_iff_lt_mul (by decide)]; exact hA
  have a2 : A % 18446744073709551616 < 18446744073709551616 := Nat.mod_lt _ (by decide)
  rw [e1, e2, e3] at hK
  clear e1 e2 e3 hA
  generalize A / 18446744073709551616 = p at *
  generalize A % 18446744073709551616 = q at *
  refine ⟨?_⟩
  unfold ratio_wide_over_sd
  intro w1
  have m : Mem w w1 _ := Mem.nil.alloc
  clear_value w1
  intro w2
  have m : Mem w w2 _ := m.alloc
  clear_value w2
  intro w3
  have m : Mem w w3 _ := m.drew
  clear_value w3
  have hm := Nat.mod_lt p hb
  refine ⟨_, m.ld 1 rfl rfl, by omega, ?_, _, m.ld 1 rfl rfl, by omega, _, m.ld 1 rfl rfl, ?_⟩
  · rw [tdivN]
    exact inRu (Int.natCast_nonneg _) (by have := Nat.div_le_self p b; omega)
  · rw [tmodN, tdivN]
    refine Div64_spec hm (by omega) a2 fun w4 hf => ?_
    exact put2 (K := fun a c w => K a c _ w) (m.fr hf) 0 rfl hK

theorem isNaN_u {x : Int} {K : Bool → World → Prop} (hK : K false w) : cmp_isNaN_uint64_sh x K w := by
  refine ⟨?_⟩
  unfold cmp_isNaN_uint64_sd
  simpa using hK

theorem isNaN_i {x : Int} {K : Bool → World → Prop} (hK : K false w) : cmp_isNaN_sh x K w := by
  refine ⟨?_⟩
  unfold cmp_isNaN_sd
  simpa using hK

theorem Compare_u {x y : Int} {K : Int → World → Prop} (hK : K (cmpI x y) w) : cmp_Compare_uint64_sh x y K w := by
  refine ⟨isNaN_u (isNaN_u ?_)⟩
  rw [cnd_false, cnd_false, cnd_prop]
  unfold cmpI at hK
  refine ⟨fun h => by rw [if_pos h] at hK; exact hK, fun h => ?_⟩
  rw [if_neg h] at hK
  rw [cnd_prop]
  exact ⟨fun h => by rw [if_pos h] at hK; exact hK, fun h => by rw [if_neg h] at hK; exact hK⟩

theorem Compare_i {x y : Int} {K : Int → World → Prop} (hK : K (cmpI x y) w) : cmp_Compare_sh x y K w := by
  refine ⟨isNaN_i (isNaN_i ?_)⟩
  rw [cnd_false, cnd_false, cnd_prop]
  unfold cmpI at hK
  refine ⟨fun h => by rw [if_pos h] at hK; exact hK, fun h => ?_⟩
  rw [if_neg h] at hK
  rw [cnd_prop]
  exact ⟨fun h => by rw [if_pos h] at hK; exact hK, fun h => by rw [if_neg h] at hK; exact hK⟩

theorem Or_two {b : Nat} {x y : Int} {K : Int → World → Prop} (hx : w.cell? ⟨b, 0, none⟩ = some (.int .i64 x)) (hy : w.cell? ⟨b, 1, none⟩ = some (.int .i64 y)) (hK : K (if x ≠ 0 then x else y) w) :
    cmp_Or_sh (Sl.mk (some (Addr.mk b 0 none)) 2 2) K w := by
  refine ⟨⟨fun i w' => w' = w ∧ (i = 0 ∨ x = 0 ∧ i = 1 ∨ x = 0 ∧ y = 0 ∧ i = 2), fun i _ => (2 - i).toNat, ⟨rfl, .inl rfl⟩, ?_⟩⟩
  rintro i w1 ⟨rfl, hi⟩
  unfold cmp_Or_b0
  rw [cnd_prop]
  constructor
  · intro hlt
    rw [nz_some]
    simp only at hlt
    rcases hi with rfl | ⟨h0, rfl⟩ | ⟨_, _, rfl⟩
    · refine ⟨⟨by omega, by simp⟩, x, by simp only [add_mk]; exact hx, ?_⟩
      rw [cnd_bne]
      constructor
      · intro h; rw [if_pos h] at hK; exact hK
      · intro h
        exact ⟨inR64 (by omega) (by omega), ⟨⟨rfl, rfl, rfl, trivial⟩, rfl, .inr (.inl ⟨h, by omega⟩)⟩, by simp only; omega⟩
    · refine ⟨⟨by omega, by simp⟩, y, by simp only [add_mk]; exact hy, ?_⟩
      rw [cnd_bne]
      constructor
      · intro h; rw [if_neg (by simp [h0])] at hK; exact hK
      · intro h
        exact ⟨inR64 (by omega) (by omega), ⟨⟨rfl, rfl, rfl, trivial⟩, rfl, .inr (.inr ⟨h0, h, by omega⟩)⟩, by simp only; omega⟩
    · simp at hlt
  · intro hlt
    simp only at hlt
    rcases hi with rfl | ⟨h0, rfl⟩ | ⟨h0, h1, rfl⟩
    · simp at hlt
    · simp at hlt
    · rw [if_neg (by simp [h0]), h1] at hK
      exact hK

theorem compare_spec {A B : Nat} {K : Int → World → Prop} (hK : ∀ w', Fr F0 w w' → K (cmpI A B) w') :
    ratio_compare_sh ((A / 18446744073709551616 : Nat) : Int) ((A % 18446744073709551616 : Nat) : Int) ((B / 18446744073709551616 : Nat) : Int) ((B % 18446744073709551616 : Nat) : Int) K w := by
  rw [← wd_cmp (M := 18446744073709551616) (by decide)] at hK
  generalize ((A / 18446744073709551616 : Nat) : Int) = p at *
  generalize ((A % 18446744073709551616 : Nat) : Int) = q at *
  generalize ((B / 18446744073709551616 : Nat) : Int) = r at *
  generalize ((B % 18446744073709551616 : Nat) : Int) = s at *
  refine ⟨?_⟩
  unfold ratio_compare_sd
  intro w1
  have m : Mem w w1 _ := Mem.nil.alloc
  clear_value w1
  intro w2
  have m : Mem w w2 _ := m.alloc
  clear_value w2
  intro w3
  have m : Mem w w3 _ := m.drew
  clear_value w3
  refine ⟨fun u => Rs u _, m.sub 0 rfl, _, fun _ h => h.ld 1 rfl rfl, _, fun _ h => h.ld 0 rfl rfl, _, fun _ h => h.ld 1 rfl rfl, _, fun _ h => h.ld 0 rfl rfl, ?_⟩
  refine Compare_u ⟨m.sub 0 rfl, Compare_u ⟨m.sub 0 rfl, ?_⟩⟩
  intro w4
  have m : Mem w w4 _ := m.alloc
  clear_value w4
  refine ⟨m.sub 1 rfl, Or_two (m.ld 0 rfl rfl) (m.ld 0 rfl rfl) ⟨m.sub 1 rfl, ?_⟩⟩
  exact hK w4 m.1
end
end Go.Proofs.YtfclokkfnkieoaaDoor
