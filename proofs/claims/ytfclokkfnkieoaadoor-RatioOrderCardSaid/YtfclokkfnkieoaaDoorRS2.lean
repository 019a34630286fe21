/- Division of two words by one, as the library's code computes it. Conditions: none. -/
import Derived.Test.YtfclokkfnkieoaaDoorRS1
namespace Go.Proofs.YtfclokkfnkieoaaDoor
open Go Pw

section
variable {w : World}

theorem Div64_k5_spec {Y s d0 q1 u2 q0 : Nat} {K : Int → Int → World → Prop} (hs : s ≤ 64) (hY : Y < 18446744073709551616) (h1 : q0 * Y ≤ u2 * 4294967296 + d0) (h2 : u2 * 4294967296 + d0 < (q0 + 1) * Y) (hu : u2 < Y) (hd : d0 < 4294967296) (hq1 : q1 < 4294967296)
    (hK : ∀ R : Nat, u2 * 4294967296 + d0 = q0 * Y + R → R < Y → K ((q1 * 4294967296 + q0 : Nat) : Int) ((R / 2 ^ s : Nat) : Int) w) : bits_Div64_k5 Y s d0 q1 u2 q0 K w := by
  have hlt := kn_lt h1 hu hd
  rw [Nat.add_mul, Nat.one_mul] at h2
  obtain ⟨R, hR⟩ : ∃ R, u2 * 4294967296 + d0 = q0 * Y + R := ⟨u2 * 4294967296 + d0 - q0 * Y, by omega⟩
  have hRY : R < Y := by omega
  refine ⟨by omega, ?_⟩
  rw [kn_rest hR (by omega), shrN _ _ hs]
  have e : IntKind.wrap .u64 (IntKind.wrap .u64 ((q1 : Int) * 4294967296) + (q0 : Int)) = ((q1 * 4294967296 + q0 : Nat) : Int) := by
    rw [wu64_in (n := (q1 : Int) * 4294967296) (by omega) (by omega), wu64_in (by omega) (by omega)]
    omega
  rw [e]
  exact hK R hR hRY

theorem Div64_l3_spec {Y s y1 y0 d0 q1 u2 : Nat} {K : Int → Int → World → Prop} (hs : s ≤ 64) (hYe : Y = y1 * 4294967296 + y0) (hy0 : y0 < 4294967296) (hy1 : 2147483648 ≤ y1) (hy1' : y1 < 4294967296) (hu : u2 < Y) (hd : d0 < 4294967296) (hq1 : q1 < 4294967296)
    (hK : ∀ q0 R : Nat, u2 * 4294967296 + d0 = q0 * Y + R → R < Y → K ((q1 * 4294967296 + q0 : Nat) : Int) ((R / 2 ^ s : Nat) : Int) w) : bits_Div64_l3 Y s y1 y0 d0 q1 ((u2 % y1 : Nat) : Int) u2 ((u2 / y1 : Nat) : Int) K w := by
  have hY : Y < 18446744073709551616 := by omega
  refine ⟨⟨fun rh q w' => ∃ q' r' : Nat, rh = r' ∧ q = q' ∧ q' * y1 + r' = u2 ∧ r' < 4294967296 ∧ q' ≤ 4294967297 ∧ u2 * 4294967296 + d0 < (q' + 1) * Y ∧ w' = w, fun _ q _ => q.toNat, ⟨u2 / y1, u2 % y1, rfl, rfl, ?_, ?_, kn_first hYe hy0 hy1 hu, kn_start hYe (by omega) hd, rfl⟩, ?_⟩⟩
  · have := Nat.div_add_mod u2 y1
    rw [Nat.mul_comm] at this
    exact this
  · have := Nat.mod_lt u2 (show 0 < y1 by omega)
    omega
  · rintro rh q w1 ⟨q, r, rfl, rfl, hqr, hr, hq, hN, rfl⟩
    have hgo : u2 * 4294967296 + d0 < q * Y → bits_Div64_k4 Y s y1 y0 d0 q1 r u2 q (fun (y_2' : Int) (s_8' : Int) (yn1_9' : Int) (yn0_10' : Int) (un0_14' : Int) (q1_15' : Int) (rhat_16' : Int) (un21_17' : Int) (q0_18' : Int) (w' : World) => ((y_2' = (Y : Int) ∧ s_8' = (s : Int) ∧ yn1_9' = (y1 : Int) ∧ yn0_10' = (y0 : Int) ∧ un0_14' = (d0 : Int) ∧ q1_15' = (q1 : Int) ∧ un21_17' = (u2 : Int) ∧ True) ∧ (∃ q' r' : Nat, rhat_16' = r' ∧ q0_18' = q' ∧ q' * y1 + r' = u2 ∧ r' < 4294967296 ∧ q' ≤ 4294967297 ∧ u2 * 4294967296 + d0 < (q' + 1) * Y ∧ w' = w1)) ∧ q0_18'.toNat < (q : Int).toNat) K w1 := by
      intro hlt
      have hq0 : 0 < q := by
        rcases Nat.eq_zero_or_pos q with h | h
        · subst h; omega
        · exact h
      obtain ⟨p, rfl⟩ : ∃ p, q = p + 1 := ⟨q - 1, by omega⟩
      have e1 : IntKind.wrap .u64 (((p + 1 : Nat) : Int) - 1) = (p : Int) := by rw [wu64_in (by omega) (by omega)]; omega
      have e2 : IntKind.wrap .u64 ((r : Int) + (y1 : Int)) = ((r + y1 : Nat) : Int) := by rw [wu64_in (by omega) (by omega)]; omega
      have hpr : p * y1 + (r + y1) = u2 := by
        rw [Nat.add_mul, Nat.one_mul] at hqr
        omega
      refine ⟨?_⟩
      unfold bits_Div64_k4d
      rw [e1, e2, cnd_prop]
      constructor
      · intro hb
        exact Div64_k5_spec hs hY (kn_break hYe hy0 hpr (by omega) (by omega)) hlt hu hd hq1 (hK p)
      · intro hb
        exact ⟨⟨⟨rfl, rfl, rfl, rfl, rfl, rfl, rfl, trivial⟩, p, r + y1, rfl, rfl, hpr, by omega, by omega, hlt, rfl⟩, by omega⟩
    unfold bits_Div64_b3
    rw [cnd_prop]
    constructor
    · intro hc
      exact hgo (kn_go hYe hqr hu hd (.inl (by omega)))
    · intro hc
      have hqlt : q < 4294967296 := by omega
      have hprod : q * y0 ≤ 4294967295 * 4294967295 := Nat.mul_le_mul (by omega) (by omega)
      have e3 : IntKind.wrap .u64 ((q : Int) * (y0 : Int)) = ((q * y0 : Nat) : Int) := by
        rw [mulN, wu64, Nat.mod_eq_of_lt (by omega)]
      have e4 : IntKind.wrap .u64 (IntKind.wrap .u64 ((4294967296 : Int) * (r : Int)) + (d0 : Int)) = ((4294967296 * r + d0 : Nat) : Int) := by
        rw [wu64_in (n := (4294967296 : Int) * (r : Int)) (by omega) (by omega), wu64_in (by omega) (by omega)]
        omega
      rw [e3, e4, cnd_prop]
      constructor
      · intro hc2
        exact hgo (kn_go hYe hqr hu hd (.inr (by omega)))
      · intro hc2
        exact Div64_k5_spec hs hY (kn_stop hYe hqr (by omega)) hN hu hd hq1 (hK q)

theorem Div64_k2_spec {Y s y1 y0 u d1 d0 q1 : Nat} {K : Int → Int → World → Prop} (hs : s ≤ 64) (hYe : Y = y1 * 4294967296 + y0) (hy0 : y0 < 4294967296) (hy1 : 2147483648 ≤ y1) (hy1' : y1 < 4294967296) (hu : u < Y) (hd1 : d1 < 4294967296) (hd : d0 < 4294967296)
    (h1 : q1 * Y ≤ u * 4294967296 + d1) (h2 : u * 4294967296 + d1 < (q1 + 1) * Y)
    (hK : ∀ R : Nat, (u * 18446744073709551616 + (d1 * 4294967296 + d0)) % Y = R → K (((u * 18446744073709551616 + (d1 * 4294967296 + d0)) / Y : Nat) : Int) ((R / 2 ^ s : Nat) : Int) w) : bits_Div64_k2 Y s y1 y0 u d1 d0 q1 K w := by
  have hlt := kn_lt h1 hu hd1
  rw [Nat.add_mul, Nat.one_mul] at h2
  obtain ⟨u2, hu2⟩ : ∃ R, u * 4294967296 + d1 = q1 * Y + R := ⟨u * 4294967296 + d1 - q1 * Y, by omega⟩
  have hu2Y : u2 < Y := by omega
  refine ⟨?_⟩
  unfold bits_Div64_k2d
  rw [kn_rest hu2 (by omega), tdivN]
  have hdm := Nat.div_add_mod u2 y1
  have hle : u2 / y1 * y1 ≤ u2 := Nat.div_mul_le_self _ _
  have e : IntKind.wrap .u64 ((u2 : Int) - IntKind.wrap .u64 (((u2 / y1 : Nat) : Int) * (y1 : Int))) = ((u2 % y1 : Nat) : Int) := by
    rw [mulN, wu64, Nat.mod_eq_of_lt (by omega)]
    rw [Nat.mul_comm y1] at hdm
    rw [wu64_in (n := (u2 : Int) - ((u2 / y1 * y1 : Nat) : Int)) (by omega) (by omega)]
    omega
  rw [e]
  refine ⟨by omega, inRu (Int.natCast_nonneg _) (by have := Nat.div_le_self u2 y1; omega), ?_⟩
  refine Div64_l3_spec hs hYe hy0 hy1 hy1' hu2Y hd hlt fun q0 R hR hRY => ?_
  obtain ⟨k1, k2⟩ := kn_two hu2 hR hRY
  have := hK R k2
  rw [k1] at this
  exact this

theorem Div64_l0_spec {Y s y1 y0 u d1 d0 : Nat} {K : Int → Int → World → Prop} (hs : s ≤ 64) (hYe : Y = y1 * 4294967296 + y0) (hy0 : y0 < 4294967296) (hy1 : 2147483648 ≤ y1) (hy1' : y1 < 4294967296) (hu : u < Y) (hd1 : d1 < 4294967296) (hd : d0 < 4294967296)
    (hK : ∀ R : Nat, (u * 18446744073709551616 + (d1 * 4294967296 + d0)) % Y = R → K (((u * 18446744073709551616 + (d1 * 4294967296 + d0)) / Y : Nat) : Int) ((R / 2 ^ s : Nat) : Int) w) : bits_Div64_l0 Y s y1 y0 u d1 d0 ((u / y1 : Nat) : Int) ((u % y1 : Nat) : Int) K w := by
  have hY : Y < 18446744073709551616 := by omega
  refine ⟨⟨fun q rh w' => ∃ q' r' : Nat, rh = r' ∧ q = q' ∧ q' * y1 + r' = u ∧ r' < 4294967296 ∧ q' ≤ 4294967297 ∧ u * 4294967296 + d1 < (q' + 1) * Y ∧ w' = w, fun q _ _ => q.toNat, ⟨u / y1, u % y1, rfl, rfl, ?_, ?_, kn_first hYe hy0 hy1 hu, kn_start hYe (by omega) hd1, rfl⟩, ?_⟩⟩
  · have := Nat.div_add_mod u y1
    rw [Nat.mul_comm] at this
    exact this
  · have := Nat.mod_lt u (show 0 < y1 by omega)
    omega
  · rintro q rh w1 ⟨q, r, rfl, rfl, hqr, hr, hq, hN, rfl⟩
    have hgo : u * 4294967296 + d1 < q * Y → bits_Div64_k1 Y s y1 y0 u d1 d0 q r (fun (y_2' : Int) (s_8' : Int) (yn1_9' : Int) (yn0_10' : Int) (un32_11' : Int) (un1_13' : Int) (un0_14' : Int) (q1_15' : Int) (rhat_16' : Int) (w' : World) => ((y_2' = (Y : Int) ∧ s_8' = (s : Int) ∧ yn1_9' = (y1 : Int) ∧ yn0_10' = (y0 : Int) ∧ un32_11' = (u : Int) ∧ un1_13' = (d1 : Int) ∧ un0_14' = (d0 : Int) ∧ True) ∧ (∃ q' r' : Nat, rhat_16' = r' ∧ q1_15' = q' ∧ q' * y1 + r' = u ∧ r' < 4294967296 ∧ q' ≤ 4294967297 ∧ u * 4294967296 + d1 < (q' + 1) * Y ∧ w' = w1)) ∧ q1_15'.toNat < (q : Int).toNat) K w1 := by
      intro hlt
      have hq0 : 0 < q := by
        rcases Nat.eq_zero_or_pos q with h | h
        · subst h; omega
        · exact h
      obtain ⟨p, rfl⟩ : ∃ p, q = p + 1 := ⟨q - 1, by omega⟩
      have e1 : IntKind.wrap .u64 (((p + 1 : Nat) : Int) - 1) = (p : Int) := by rw [wu64_in (by omega) (by omega)]; omega
      have e2 : IntKind.wrap .u64 ((r : Int) + (y1 : Int)) = ((r + y1 : Nat) : Int) := by rw [wu64_in (by omega) (by omega)]; omega
      have hpr : p * y1 + (r + y1) = u := by
        rw [Nat.add_mul, Nat.one_mul] at hqr
        omega
      refine ⟨?_⟩
      unfold bits_Div64_k1d
      rw [e1, e2, cnd_prop]
      constructor
      · intro hb
        exact Div64_k2_spec hs hYe hy0 hy1 hy1' hu hd1 hd (kn_break hYe hy0 hpr (by omega) (by omega)) hlt hK
      · intro hb
        exact ⟨⟨⟨rfl, rfl, rfl, rfl, rfl, rfl, rfl, trivial⟩, p, r + y1, rfl, rfl, hpr, by omega, by omega, hlt, rfl⟩, by omega⟩
    unfold bits_Div64_b0
    rw [cnd_prop]
    constructor
    · intro hc
      exact hgo (kn_go hYe hqr hu hd1 (.inl (by omega)))
    · intro hc
      have hqlt : q < 4294967296 := by omega
      have hprod : q * y0 ≤ 4294967295 * 4294967295 := Nat.mul_le_mul (by omega) (by omega)
      have e3 : IntKind.wrap .u64 ((q : Int) * (y0 : Int)) = ((q * y0 : Nat) : Int) := by
        rw [mulN, wu64, Nat.mod_eq_of_lt (by omega)]
      have e4 : IntKind.wrap .u64 (IntKind.wrap .u64 ((4294967296 : Int) * (r : Int)) + (d1 : Int)) = ((4294967296 * r + d1 : Nat) : Int) := by
        rw [wu64_in (n := (4294967296 : Int) * (r : Int)) (by omega) (by omega), wu64_in (by omega) (by omega)]
        omega
      rw [e3, e4, cnd_prop]
      constructor
      · intro hc2
        exact hgo (kn_go hYe hqr hu hd1 (.inr (by omega)))
      · intro hc2
        exact Div64_k2_spec hs hYe hy0 hy1 hy1' hu hd1 hd (kn_stop hYe hqr (by omega)) hN hK
end
end Go.Proofs.YtfclokkfnkieoaaDoor
