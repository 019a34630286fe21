/- Products and quotients of words, as the library's code computes them. Conditions: none. -/
import Derived.Test.YtfclokkfnkieoaaGreatDoorRG0
import Derived.Test.YtfclokkfnkieoaaGreatDoorPwM
import Derived.Test.YtfclokkfnkieoaaGreatDoorPwR
import Derived.Test.YtfclokkfnkieoaaGreatDoorPwS
namespace Go.Proofs.YtfclokkfnkieoaaGreatDoor
open Go Pw

def tabL : List Nat := [0, 1, 2, 2, 3, 3, 3, 3, 4, 4, 4, 4, 4, 4, 4, 4, 5, 5, 5, 5, 5, 5, 5, 5, 5, 5, 5, 5, 5, 5, 5, 5, 6, 6, 6, 6, 6, 6, 6, 6, 6, 6, 6, 6, 6, 6, 6, 6, 6, 6, 6, 6, 6, 6, 6, 6, 6, 6, 6, 6, 6, 6, 6, 6, 7, 7, 7, 7, 7, 7, 7, 7, 7, 7, 7, 7, 7, 7, 7, 7, 7, 7, 7, 7, 7, 7, 7, 7, 7, 7, 7, 7, 7, 7, 7, 7, 7, 7, 7, 7, 7, 7, 7, 7, 7, 7, 7, 7, 7, 7, 7, 7, 7, 7, 7, 7, 7, 7, 7, 7, 7, 7, 7, 7, 7, 7, 7, 7, 8, 8, 8, 8, 8, 8, 8, 8, 8, 8, 8, 8, 8, 8, 8, 8, 8, 8, 8, 8, 8, 8, 8, 8, 8, 8, 8, 8, 8, 8, 8, 8, 8, 8, 8, 8, 8, 8, 8, 8, 8, 8, 8, 8, 8, 8, 8, 8, 8, 8, 8, 8, 8, 8, 8, 8, 8, 8, 8, 8, 8, 8, 8, 8, 8, 8, 8, 8, 8, 8, 8, 8, 8, 8, 8, 8, 8, 8, 8, 8, 8, 8, 8, 8, 8, 8, 8, 8, 8, 8, 8, 8, 8, 8, 8, 8, 8, 8, 8, 8, 8, 8, 8, 8, 8, 8, 8, 8, 8, 8, 8, 8, 8, 8, 8, 8, 8, 8, 8, 8, 8, 8, 8, 8, 8, 8, 8, 8]

theorem tab_all : ∀ x : Fin 256, 0 < x.val → 1 ≤ tabL.getD x.val 0 ∧ tabL.getD x.val 0 ≤ 8 ∧ 2 ^ (tabL.getD x.val 0 - 1) ≤ x.val ∧ x.val < 2 ^ tabL.getD x.val 0 := by decide +kernel

theorem tab_size : (str tabL).size = 256 := by decide +kernel

theorem tab_at (x : Nat) (h : x < 256) : ((str tabL).data.toList.getD x 0).toNat = tabL.getD x 0 := by
  have : ∀ x : Fin 256, ((str tabL).data.toList.getD x.val 0).toNat = tabL.getD x.val 0 := by decide +kernel
  exact this ⟨x, h⟩

section
variable {w : World}

theorem Len64_k2_spec {X n x : Nat} {K : Int → World → Prop} (hx : x = X / 2 ^ n) (h0 : 0 < x) (h : x < 256) (hn : n ≤ 56) (hK : ∀ r : Nat, 1 ≤ r → r ≤ n + 8 → 2 ^ (r - 1) ≤ X → X < 2 ^ r → K r w) : bits_Len64_k2 x n K w := by
  obtain ⟨t1, t2, t3, t4⟩ := tab_all ⟨x, h⟩ h0
  have ht := tab_at x h
  have hs := tab_size
  simp only at t1 t2 t3 t4
  refine ⟨?_⟩
  unfold bits_Len64_k2d
  have e : ((x : Int)).toNat = x := by omega
  rw [e]
  show inR .u8 (x : Int) ∧ (0 ≤ (x : Int) ∧ (x : Int) < (((str tabL).size : Nat) : Int)) ∧ inR .i64 ((((str tabL).data.toList.getD x 0).toNat : Nat) : Int) ∧ inR .i64 ((n : Int) + ((((str tabL).data.toList.getD x 0).toNat : Nat) : Int)) ∧ K ((n : Int) + ((((str tabL).data.toList.getD x 0).toNat : Nat) : Int)) w
  rw [ht, hs]
  generalize tabL.getD x 0 = t at *
  refine ⟨?_, ⟨by omega, by omega⟩, inR64 (by omega) (by omega), inR64 (by omega) (by omega), ?_⟩
  · unfold inR IntKind.wrap
    simp [IntKind.bits, IntKind.signed]
    omega
  · have := hK (n + t) (by omega) (by omega) ?_ ?_
    · rw [Int.natCast_add] at this
      exact this
    · rw [hx, Nat.le_div_iff_mul_le (Nat.two_pow_pos _), ← Nat.pow_add] at t3
      rw [show n + t - 1 = t - 1 + n by omega]
      exact t3
    · rw [hx, Nat.div_lt_iff_lt_mul (Nat.two_pow_pos _), ← Nat.pow_add] at t4
      rw [show n + t = t + n by omega]
      exact t4

theorem Len64_spec {x : Nat} {K : Int → World → Prop} (h0 : 0 < x) (h : x < 18446744073709551616) (hK : ∀ r : Nat, 1 ≤ r → r ≤ 64 → 2 ^ (r - 1) ≤ x → x < 2 ^ r → K r w) : bits_Len64_sh x K w := by
  have fd : ∀ (a k : Nat), k ≤ 64 → Int.fdiv (a : Int) (2 ^ (min k (IntKind.bits .u64))) = ((a / 2 ^ k : Nat) : Int) := fun a k hk => by
    have := shrN a k hk
    simpa using this
  have s1 : ∀ {n y : Nat}, n ≤ 48 → y = x / 2 ^ n → 0 < y → y < 65536 → bits_Len64_k1 (y : Int) (n : Int) K w := by
    intro n y hn hy hy0 hyl
    refine ⟨?_⟩
    unfold bits_Len64_k1d
    rw [cnd_prop]
    constructor
    · intro hc
      refine ⟨by omega, inR64 (by omega) (by omega), ?_⟩
      rw [fd y 8 (by omega)]
      have e : (n : Int) + 8 = ((n + 8 : Nat) : Int) := by omega
      rw [e]
      refine Len64_k2_spec (X := x) (by rw [hy, Nat.div_div_eq_div_mul, ← Nat.pow_add]) (by omega) (by omega) (by omega) fun r h1 h2 h3 h4 => hK r h1 (by omega) h3 h4
    · intro hc
      exact Len64_k2_spec (X := x) hy hy0 (by omega) (by omega) fun r h1 h2 h3 h4 => hK r h1 (by omega) h3 h4
  have s0 : ∀ {n y : Nat}, n ≤ 32 → y = x / 2 ^ n → 0 < y → y < 4294967296 → bits_Len64_k0 (y : Int) (n : Int) K w := by
    intro n y hn hy hy0 hyl
    refine ⟨?_⟩
    unfold bits_Len64_k0d
    rw [cnd_prop]
    constructor
    · intro hc
      refine ⟨by omega, inR64 (by omega) (by omega), ?_⟩
      rw [fd y 16 (by omega)]
      have e : (n : Int) + 16 = ((n + 16 : Nat) : Int) := by omega
      rw [e]
      exact s1 (by omega) (by rw [hy, Nat.div_div_eq_div_mul, ← Nat.pow_add]) (by omega) (by omega)
    · intro hc
      exact s1 (by omega) hy hy0 (by omega)
  refine ⟨?_⟩
  unfold bits_Len64_sd
  rw [cnd_prop]
  constructor
  · intro hc
    refine ⟨by omega, ?_⟩
    rw [fd x 32 (by omega)]
    exact s0 (n := 32) (by omega) rfl (by omega) (by omega)
  · intro hc
    exact s0 (n := 0) (by omega) (by simp) (by omega) (by omega)

theorem LeadingZeros64_spec {x : Nat} {K : Int → World → Prop} (h0 : 0 < x) (h : x < 18446744073709551616) (hK : ∀ s : Nat, s ≤ 63 → 9223372036854775808 ≤ x * 2 ^ s → x * 2 ^ s < 18446744073709551616 → K s w) : bits_LeadingZeros64_sh x K w := by
  refine ⟨Len64_spec h0 h fun r h1 h2 h3 h4 => ⟨inR64 (by omega) (by omega), ?_⟩⟩
  have e : (64 : Int) - (r : Int) = ((64 - r : Nat) : Int) := by omega
  rw [e]
  refine hK (64 - r) (by omega) ?_ ?_
  · have : 2 ^ (r - 1) * 2 ^ (64 - r) ≤ x * 2 ^ (64 - r) := Nat.mul_le_mul_right _ h3
    rw [← Nat.pow_add, show r - 1 + (64 - r) = 63 by omega] at this
    exact this
  · have : x * 2 ^ (64 - r) < 2 ^ r * 2 ^ (64 - r) := Nat.mul_lt_mul_of_pos_right h4 (Nat.two_pow_pos _)
    rw [← Nat.pow_add, show r + (64 - r) = 64 by omega] at this
    exact this

theorem Mul64_spec {x y : Nat} {K : Int → Int → World → Prop} (hx : x < 18446744073709551616) (hy : y < 18446744073709551616)
    (hK : K ((x * y / 18446744073709551616 : Nat) : Int) ((x * y % 18446744073709551616 : Nat) : Int) w) : bits_Mul64_sh x y K w := by
  obtain ⟨bd, bt, bw, hhi⟩ := Lib.mul64_hi x y hx hy
  have ba := Lib.half_mul_le (a := x / 4294967296) (b := y / 4294967296) (by omega) (by omega)
  have bb := Lib.half_mul_le (a := x / 4294967296) (b := y % 4294967296) (by omega) (by omega)
  have bc := Lib.half_mul_le (a := x % 4294967296) (b := y / 4294967296) (by omega) (by omega)
  refine ⟨?_⟩
  unfold bits_Mul64_sd
  refine ⟨by omega, by omega, by omega, by omega, by omega, ?_⟩
  simp only [shr32, and32' x hx, and32' y hy, mulN, addN, wu64, mod_mod_word]
  generalize hA : x / 4294967296 * (y / 4294967296) = A at *
  generalize hB : x / 4294967296 * (y % 4294967296) = B at *
  generalize hC : x % 4294967296 * (y / 4294967296) = C at *
  generalize hD : x % 4294967296 * (y % 4294967296) = D at *
  have e1 : D % 18446744073709551616 = D := Nat.mod_eq_of_lt bd
  have e2 : B % 18446744073709551616 = B := Nat.mod_eq_of_lt (by omega)
  have e3 : C % 18446744073709551616 = C := Nat.mod_eq_of_lt (by omega)
  have e4 : A % 18446744073709551616 = A := Nat.mod_eq_of_lt (by omega)
  have e5 : (B + D / 4294967296) % 18446744073709551616 = B + D / 4294967296 := Nat.mod_eq_of_lt bt
  simp only [e1, e2, e3, e4, e5, and32' _ bt, mod_mod_word]
  generalize x * y = P at *
  have h1 : ((A + (B + D / 4294967296) / 4294967296) % 18446744073709551616 + ((B + D / 4294967296) % 4294967296 + C) % 18446744073709551616 / 4294967296) % 18446744073709551616 = P / 18446744073709551616 := by
    rw [← hhi]
    clear hhi hK
    omega
  rw [h1]
  exact hK
end
end Go.Proofs.YtfclokkfnkieoaaGreatDoor

/- Division of two words by one, as the library's code computes it. Conditions: none. -/
namespace Go.Proofs.YtfclokkfnkieoaaGreatDoor
open Go Pw

section
variable {w : World}

theorem Div64_k5_spec {Y s d0 q1 u2 q0 : Nat} {K : Int → Int → World → Prop} (hs : s ≤ 64) (hY : Y < 18446744073709551616) (h1 : q0 * Y ≤ u2 * 4294967296 + d0) (h2 : u2 * 4294967296 + d0 < (q0 + 1) * Y) (hu : u2 < Y) (hd : d0 < 4294967296) (hq1 : q1 < 4294967296)
    (hK : ∀ R : Nat, u2 * 4294967296 + d0 = q0 * Y + R → R < Y → K ((q1 * 4294967296 + q0 : Nat) : Int) ((R / 2 ^ s : Nat) : Int) w) : bits_Div64_k5 Y s d0 q1 u2 q0 K w := by
  have hlt := kn_lt h1 hu hd
  rw [Nat.add_mul, Nat.one_mul] at h2
  obtain ⟨R, hR⟩ : ∃ R, u2 * 4294967296 + d0 = q0 * Y + R := ⟨u2 * 4294967296 + d0 - q0 * Y, by omega⟩
  have hRY : R < Y := by omega
  refine ⟨by omega, ?_⟩
  rw [kn_rest hR (by omega), shrN _ _ hs]
  have e : IntKind.wrap .u64 (IntKind.wrap .u64 ((q1 : Int) * 4294967296) + (q0 : Int)) = ((q1 * 4294967296 + q0 : Nat) : Int) := by
    rw [wu64_in (n := (q1 : Int) * 4294967296) (by omega) (by omega), wu64_in (by omega) (by omega)]
    omega
  rw [e]
  exact hK R hR hRY

theorem Div64_l3_spec {Y s y1 y0 d0 q1 u2 : Nat} {K : Int → Int → World → Prop} (hs : s ≤ 64) (hYe : Y = y1 * 4294967296 + y0) (hy0 : y0 < 4294967296) (hy1 : 2147483648 ≤ y1) (hy1' : y1 < 4294967296) (hu : u2 < Y) (hd : d0 < 4294967296) (hq1 : q1 < 4294967296)
    (hK : ∀ q0 R : Nat, u2 * 4294967296 + d0 = q0 * Y + R → R < Y → K ((q1 * 4294967296 + q0 : Nat) : Int) ((R / 2 ^ s : Nat) : Int) w) : bits_Div64_l3 Y s y1 y0 d0 q1 ((u2 % y1 : Nat) : Int) u2 ((u2 / y1 : Nat) : Int) K w := by
  have hY : Y < 18446744073709551616 := by omega
  refine ⟨⟨fun rh q w' => ∃ q' r' : Nat, rh = r' ∧ q = q' ∧ q' * y1 + r' = u2 ∧ r' < 4294967296 ∧ q' ≤ 4294967297 ∧ u2 * 4294967296 + d0 < (q' + 1) * Y ∧ w' = w, fun _ q _ => q.toNat, ⟨u2 / y1, u2 % y1, rfl, rfl, ?_, ?_, kn_first hYe hy0 hy1 hu, kn_start hYe (by omega) hd, rfl⟩, ?_⟩⟩
  · have := Nat.div_add_mod u2 y1
    rw [Nat.mul_comm] at this
    exact this
  · have := Nat.mod_lt u2 (show 0 < y1 by omega)
    omega
  · rintro rh q w1 ⟨q, r, rfl, rfl, hqr, hr, hq, hN, rfl⟩
    have hgo : u2 * 4294967296 + d0 < q * Y → bits_Div64_k4 Y s y1 y0 d0 q1 r u2 q (fun (y_2' : Int) (s_8' : Int) (yn1_9' : Int) (yn0_10' : Int) (un0_14' : Int) (q1_15' : Int) (rhat_16' : Int) (un21_17' : Int) (q0_18' : Int) (w' : World) => ((y_2' = (Y : Int) ∧ s_8' = (s : Int) ∧ yn1_9' = (y1 : Int) ∧ yn0_10' = (y0 : Int) ∧ un0_14' = (d0 : Int) ∧ q1_15' = (q1 : Int) ∧ un21_17' = (u2 : Int) ∧ True) ∧ (∃ q' r' : Nat, rhat_16' = r' ∧ q0_18' = q' ∧ q' * y1 + r' = u2 ∧ r' < 4294967296 ∧ q' ≤ 4294967297 ∧ u2 * 4294967296 + d0 < (q' + 1) * Y ∧ w' = w1)) ∧ q0_18'.toNat < (q : Int).toNat) K w1 := by
      intro hlt
      have hq0 : 0 < q := by
        rcases Nat.eq_zero_or_pos q with h | h
        · subst h; omega
        · exact h
      obtain ⟨p, rfl⟩ : ∃ p, q = p + 1 := ⟨q - 1, by omega⟩
      have e1 : IntKind.wrap .u64 (((p + 1 : Nat) : Int) - 1) = (p : Int) := by rw [wu64_in (by omega) (by omega)]; omega
      have e2 : IntKind.wrap .u64 ((r : Int) + (y1 : Int)) = ((r + y1 : Nat) : Int) := by rw [wu64_in (by omega) (by omega)]; omega
      have hpr : p * y1 + (r + y1) = u2 := by
        rw [Nat.add_mul, Nat.one_mul] at hqr
        omega
      refine ⟨?_⟩
      unfold bits_Div64_k4d
      rw [e1, e2, cnd_prop]
      constructor
      · intro hb
        exact Div64_k5_spec hs hY (kn_break hYe hy0 hpr (by omega) (by omega)) hlt hu hd hq1 (hK p)
      · intro hb
        exact ⟨⟨⟨rfl, rfl, rfl, rfl, rfl, rfl, rfl, trivial⟩, p, r + y1, rfl, rfl, hpr, by omega, by omega, hlt, rfl⟩, by omega⟩
    unfold bits_Div64_b3
    rw [cnd_prop]
    constructor
    · intro hc
      exact hgo (kn_go hYe hqr hu hd (.inl (by omega)))
    · intro hc
      have hqlt : q < 4294967296 := by omega
      have hprod : q * y0 ≤ 4294967295 * 4294967295 := Nat.mul_le_mul (by omega) (by omega)
      have e3 : IntKind.wrap .u64 ((q : Int) * (y0 : Int)) = ((q * y0 : Nat) : Int) := by
        rw [mulN, wu64, Nat.mod_eq_of_lt (by omega)]
      have e4 : IntKind.wrap .u64 (IntKind.wrap .u64 ((4294967296 : Int) * (r : Int)) + (d0 : Int)) = ((4294967296 * r + d0 : Nat) : Int) := by
        rw [wu64_in (n := (4294967296 : Int) * (r : Int)) (by omega) (by omega), wu64_in (by omega) (by omega)]
        omega
      rw [e3, e4, cnd_prop]
      constructor
      · intro hc2
        exact hgo (kn_go hYe hqr hu hd (.inr (by omega)))
      · intro hc2
        exact Div64_k5_spec hs hY (kn_stop hYe hqr (by omega)) hN hu hd hq1 (hK q)

theorem Div64_k2_spec {Y s y1 y0 u d1 d0 q1 : Nat} {K : Int → Int → World → Prop} (hs : s ≤ 64) (hYe : Y = y1 * 4294967296 + y0) (hy0 : y0 < 4294967296) (hy1 : 2147483648 ≤ y1) (hy1' : y1 < 4294967296) (hu : u < Y) (hd1 : d1 < 4294967296) (hd : d0 < 4294967296)
    (h1 : q1 * Y ≤ u * 4294967296 + d1) (h2 : u * 4294967296 + d1 < (q1 + 1) * Y)
    (hK : ∀ R : Nat, (u * 18446744073709551616 + (d1 * 4294967296 + d0)) % Y = R → K (((u * 18446744073709551616 + (d1 * 4294967296 + d0)) / Y : Nat) : Int) ((R / 2 ^ s : Nat) : Int) w) : bits_Div64_k2 Y s y1 y0 u d1 d0 q1 K w := by
  have hlt := kn_lt h1 hu hd1
  rw [Nat.add_mul, Nat.one_mul] at h2
  obtain ⟨u2, hu2⟩ : ∃ R, u * 4294967296 + d1 = q1 * Y + R := ⟨u * 4294967296 + d1 - q1 * Y, by omega⟩
  have hu2Y : u2 < Y := by omega
  refine ⟨?_⟩
  unfold bits_Div64_k2d
  rw [kn_rest hu2 (by omega), tdivN]
  have hdm := Nat.div_add_mod u2 y1
  have hle : u2 / y1 * y1 ≤ u2 := Nat.div_mul_le_self _ _
  have e : IntKind.wrap .u64 ((u2 : Int) - IntKind.wrap .u64 (((u2 / y1 : Nat) : Int) * (y1 : Int))) = ((u2 % y1 : Nat) : Int) := by
    rw [mulN, wu64, Nat.mod_eq_of_lt (by omega)]
    rw [Nat.mul_comm y1] at hdm
    rw [wu64_in (n := (u2 : Int) - ((u2 / y1 * y1 : Nat) : Int)) (by omega) (by omega)]
    omega
  rw [e]
  refine ⟨by omega, inRu (Int.natCast_nonneg _) (by have := Nat.div_le_self u2 y1; omega), ?_⟩
  refine Div64_l3_spec hs hYe hy0 hy1 hy1' hu2Y hd hlt fun q0 R hR hRY => ?_
  obtain ⟨k1, k2⟩ := kn_two hu2 hR hRY
  have := hK R k2
  rw [k1] at this
  exact this

theorem Div64_l0_spec {Y s y1 y0 u d1 d0 : Nat} {K : Int → Int → World → Prop} (hs : s ≤ 64) (hYe : Y = y1 * 4294967296 + y0) (hy0 : y0 < 4294967296) (hy1 : 2147483648 ≤ y1) (hy1' : y1 < 4294967296) (hu : u < Y) (hd1 : d1 < 4294967296) (hd : d0 < 4294967296)
    (hK : ∀ R : Nat, (u * 18446744073709551616 + (d1 * 4294967296 + d0)) % Y = R → K (((u * 18446744073709551616 + (d1 * 4294967296 + d0)) / Y : Nat) : Int) ((R / 2 ^ s : Nat) : Int) w) : bits_Div64_l0 Y s y1 y0 u d1 d0 ((u / y1 : Nat) : Int) ((u % y1 : Nat) : Int) K w := by
  have hY : Y < 18446744073709551616 := by omega
  refine ⟨⟨fun q rh w' => ∃ q' r' : Nat, rh = r' ∧ q = q' ∧ q' * y1 + r' = u ∧ r' < 4294967296 ∧ q' ≤ 4294967297 ∧ u * 4294967296 + d1 < (q' + 1) * Y ∧ w' = w, fun q _ _ => q.toNat, ⟨u / y1, u % y1, rfl, rfl, ?_, ?_, kn_first hYe hy0 hy1 hu, kn_start hYe (by omega) hd1, rfl⟩, ?_⟩⟩
  · have := Nat.div_add_mod u y1
    rw [Nat.mul_comm] at this
    exact this
  · have := Nat.mod_lt u (show 0 < y1 by omega)
    omega
  · rintro q rh w1 ⟨q, r, rfl, rfl, hqr, hr, hq, hN, rfl⟩
    have hgo : u * 4294967296 + d1 < q * Y → bits_Div64_k1 Y s y1 y0 u d1 d0 q r (fun (y_2' : Int) (s_8' : Int) (yn1_9' : Int) (yn0_10' : Int) (un32_11' : Int) (un1_13' : Int) (un0_14' : Int) (q1_15' : Int) (rhat_16' : Int) (w' : World) => ((y_2' = (Y : Int) ∧ s_8' = (s : Int) ∧ yn1_9' = (y1 : Int) ∧ yn0_10' = (y0 : Int) ∧ un32_11' = (u : Int) ∧ un1_13' = (d1 : Int) ∧ un0_14' = (d0 : Int) ∧ True) ∧ (∃ q' r' : Nat, rhat_16' = r' ∧ q1_15' = q' ∧ q' * y1 + r' = u ∧ r' < 4294967296 ∧ q' ≤ 4294967297 ∧ u * 4294967296 + d1 < (q' + 1) * Y ∧ w' = w1)) ∧ q1_15'.toNat < (q : Int).toNat) K w1 := by
      intro hlt
      have hq0 : 0 < q := by
        rcases Nat.eq_zero_or_pos q with h | h
        · subst h; omega
        · exact h
      obtain ⟨p, rfl⟩ : ∃ p, q = p + 1 := ⟨q - 1, by omega⟩
      have e1 : IntKind.wrap .u64 (((p + 1 : Nat) : Int) - 1) = (p : Int) := by rw [wu64_in (by omega) (by omega)]; omega
      have e2 : IntKind.wrap .u64 ((r : Int) + (y1 : Int)) = ((r + y1 : Nat) : Int) := by rw [wu64_in (by omega) (by omega)]; omega
      have hpr : p * y1 + (r + y1) = u := by
        rw [Nat.add_mul, Nat.one_mul] at hqr
        omega
      refine ⟨?_⟩
      unfold bits_Div64_k1d
      rw [e1, e2, cnd_prop]
      constructor
      · intro hb
        exact Div64_k2_spec hs hYe hy0 hy1 hy1' hu hd1 hd (kn_break hYe hy0 hpr (by omega) (by omega)) hlt hK
      · intro hb
        exact ⟨⟨⟨rfl, rfl, rfl, rfl, rfl, rfl, rfl, trivial⟩, p, r + y1, rfl, rfl, hpr, by omega, by omega, hlt, rfl⟩, by omega⟩
    unfold bits_Div64_b0
    rw [cnd_prop]
    constructor
    · intro hc
      exact hgo (kn_go hYe hqr hu hd1 (.inl (by omega)))
    · intro hc
      have hqlt : q < 4294967296 := by omega
      have hprod : q * y0 ≤ 4294967295 * 4294967295 := Nat.mul_le_mul (by omega) (by omega)
      have e3 : IntKind.wrap .u64 ((q : Int) * (y0 : Int)) = ((q * y0 : Nat) : Int) := by
        rw [mulN, wu64, Nat.mod_eq_of_lt (by omega)]
      have e4 : IntKind.wrap .u64 (IntKind.wrap .u64 ((4294967296 : Int) * (r : Int)) + (d1 : Int)) = ((4294967296 * r + d1 : Nat) : Int) := by
        rw [wu64_in (n := (4294967296 : Int) * (r : Int)) (by omega) (by omega), wu64_in (by omega) (by omega)]
        omega
      rw [e3, e4, cnd_prop]
      constructor
      · intro hc2
        exact hgo (kn_go hYe hqr hu hd1 (.inr (by omega)))
      · intro hc2
        exact Div64_k2_spec hs hYe hy0 hy1 hy1' hu hd1 hd (kn_stop hYe hqr (by omega)) hN hK
end
end Go.Proofs.YtfclokkfnkieoaaGreatDoor

/- math/bits.Div64: quotient and rest. Conditions: none. -/
namespace Go.Proofs.YtfclokkfnkieoaaGreatDoor
open Go Pw

section
variable {w : World}

theorem Fr0.drew : Fr F0 w w.drew := Fr.drew

theorem Div64_spec {hi lo y : Nat} {K : Int → Int → World → Prop} (hy : hi < y) (hy64 : y < 18446744073709551616) (hlo : lo < 18446744073709551616)
    (hK : ∀ w', Fr F0 w w' → K (((hi * 18446744073709551616 + lo) / y : Nat) : Int) (((hi * 18446744073709551616 + lo) % y : Nat) : Int) w') : bits_Div64_sh hi lo y K w := by
  refine ⟨?_⟩
  unfold bits_Div64_sd
  rw [cnd_beq]
  refine ⟨fun h => by omega, fun _ => ?_⟩
  rw [cnd_prop]
  refine ⟨fun h => by omega, fun _ => ?_⟩
  rw [cnd_beq]
  refine ⟨fun h => ?_, fun h => ?_⟩
  · have h0 : hi = 0 := by omega
    subst h0
    have e : 0 * 18446744073709551616 + lo = lo := by omega
    rw [e] at hK
    refine ⟨by omega, ?_, by omega, ?_⟩
    · rw [tdivN]
      exact inRu (Int.natCast_nonneg _) (by have := Nat.div_le_self lo y; omega)
    · exact hK _ Fr.drew
  · refine LeadingZeros64_spec (by omega) hy64 fun s hs h1 h2 => ?_
    obtain ⟨o1, o2, _⟩ := shl_words (s := s) (by omega) hy h2 hlo
    have ew : IntKind.wrap .u64 (s : Int) = (s : Int) := wu64_in (by omega) (by omega)
    have ew2 : IntKind.wrap .u64 ((64 : Int) - (s : Int)) = ((64 - s : Nat) : Int) := by rw [wu64_in (by omega) (by omega)]; omega
    have hhi : hi * 2 ^ s < 18446744073709551616 := by
      have : hi * 2 ^ s ≤ y * 2 ^ s := Nat.mul_le_mul_right _ (by omega)
      omega
    have hl2 : lo / 2 ^ (64 - s) < 18446744073709551616 := by
      have := Nat.div_le_self lo (2 ^ (64 - s))
      omega
    simp only [ew, ew2, shlN _ s (show s ≤ 64 by omega), shrN _ (64 - s) (show 64 - s ≤ 64 by omega), Nat.mod_eq_of_lt h2, Nat.mod_eq_of_lt hhi, orN _ _ hhi hl2, o1, shr32]
    have hml : lo * 2 ^ s % 18446744073709551616 < 18446744073709551616 := Nat.mod_lt _ (by omega)
    generalize hY : y * 2 ^ s = Y at *
    generalize hu : hi * 2 ^ s + lo / 2 ^ (64 - s) = u at *
    generalize hd : lo * 2 ^ s % 18446744073709551616 = d at *
    simp only [and32 Y (by omega), and32 d hml, tdivN]
    have hdm := Nat.div_add_mod u (Y / 4294967296)
    have hle : u / (Y / 4294967296) * (Y / 4294967296) ≤ u := Nat.div_mul_le_self _ _
    have e : IntKind.wrap .u64 ((u : Int) - IntKind.wrap .u64 (((u / (Y / 4294967296) : Nat) : Int) * ((Y / 4294967296 : Nat) : Int))) = ((u % (Y / 4294967296) : Nat) : Int) := by
      rw [mulN, wu64, Nat.mod_eq_of_lt (by omega)]
      rw [Nat.mul_comm (Y / 4294967296)] at hdm
      rw [wu64_in (n := (u : Int) - ((u / (Y / 4294967296) * (Y / 4294967296) : Nat) : Int)) (by omega) (by omega)]
      omega
    rw [e]
    refine ⟨by omega, by omega, by omega, by omega, by omega, by omega, by omega, inRu (Int.natCast_nonneg _) (by have := Nat.div_le_self u (Y / 4294967296); omega), ?_⟩
    refine Div64_l0_spec (by omega) (by omega) (by omega) (by omega) (by omega) o2 (by omega) (by omega) fun R hR => ?_
    have ed : d / 4294967296 * 4294967296 + d % 4294967296 = d := Nat.div_add_mod' d 4294967296
    have o3 := (shl_words (s := s) (by omega) hy (by rw [hY]; exact h2) hlo).2.2
    rw [hu, hd] at o3
    rw [ed] at hR ⊢
    rw [o3] at hR ⊢
    have hp : 0 < 2 ^ s := Nat.two_pow_pos s
    rw [← hY] at hR ⊢
    rw [Nat.mul_div_mul_right _ _ hp]
    rw [Nat.mul_mod_mul_right] at hR
    rw [← hR, Nat.mul_div_cancel _ hp]
    exact hK w Fr.refl
end
end Go.Proofs.YtfclokkfnkieoaaGreatDoor

/- The small functions of package ratio: sizes, the greatest common divisor, a number in lowest terms. Conditions: none. -/
namespace Go.Proofs.YtfclokkfnkieoaaGreatDoor
open Go Pw

def I64 (n : Int) : Prop := -9223372036854775808 ≤ n ∧ n < 9223372036854775808

section
variable {w : World}

theorem size_spec {n : Int} {K : Int → World → Prop} (h : I64 n) (hK : K (n.natAbs : Int) w) : ratio_size_sh n K w := by
  obtain ⟨h1, h2⟩ := h
  refine ⟨?_⟩
  unfold ratio_size_sd
  rw [cnd_prop]
  constructor
  · intro hn
    have e : IntKind.wrap .u64 ((0 : Int) - IntKind.wrap .u64 n) = (n.natAbs : Int) := by
      simp only [wu64_mod]
      omega
    rw [e]
    exact hK
  · intro hn
    have e : IntKind.wrap .u64 n = (n.natAbs : Int) := by
      simp only [wu64_mod]
      omega
    rw [e]
    exact hK

theorem gcd_spec {a b : Nat} {K : Int → World → Prop} (hK : ∀ w', Fr F0 w w' → K ((Nat.gcd a b : Nat) : Int) w') : ratio_gcd_sh a b K w := by
  refine ⟨⟨fun x y w' => ∃ m n : Nat, x = m ∧ y = n ∧ Nat.gcd m n = Nat.gcd a b ∧ Fr F0 w w', fun _ y _ => y.toNat, ⟨a, b, rfl, rfl, rfl, Fr.refl⟩, ?_⟩⟩
  rintro x y w1 ⟨m, n, rfl, rfl, hg, hf⟩
  unfold ratio_gcd_b0
  rw [cnd_prop]
  constructor
  · intro h
    refine ⟨by omega, ⟨trivial, n, m % n, rfl, rfl, ?_, hf.trans (G := F0) Fr.drew fun b hb _ => hb⟩, ?_⟩
    · rw [← hg, Nat.gcd_comm n, ← Nat.gcd_rec, Nat.gcd_comm]
    · rw [tmodN]
      have := Nat.mod_lt m (show 0 < n by omega)
      show ((m % n : Nat) : Int).toNat < (n : Int).toNat
      rw [Int.toNat_natCast, Int.toNat_natCast]
      exact this
  · intro h
    have h0 : n = 0 := by omega
    subst h0
    rw [Nat.gcd_zero_right] at hg
    rw [hg]
    exact hK w1 hf

theorem zero_spec {K : Int → Int → World → Prop} (hK : ∀ w', Fr F0 w w' → K 0 1 w') : ratio_zero_sh K w := by
  refine ⟨?_⟩
  unfold ratio_zero_sd
  intro w1
  have m : Mem w w1 _ := Mem.nil.alloc
  clear_value w1
  refine ⟨m.wr 0 rfl rfl, ?_⟩
  intro w2
  have m : Mem w w2 _ := m.set 0 rfl
  clear_value w2
  refine ⟨m.wr 0 rfl rfl, ?_⟩
  intro w3
  have m : Mem w w3 _ := m.set 0 rfl
  clear_value w3
  exact ⟨_, m.ld 0 rfl rfl, _, m.ld 0 rfl rfl, hK w3 m.1⟩

/-- A result of two ints and a truth value, as it is handed on. -/
def Kr (K : Int → Int → Bool → World → Prop) (r : RR) (w : World) : Prop := K r.n r.d r.ok w

theorem wi64_in {n : Int} (h : I64 n) : IntKind.wrap .i64 n = n := wrap64_in h.1 h.2

theorem rat_k0_spec {w0 : World} {l : List (Nat × List Value)} {b : Nat} {x y : Value} {K : Int → Int → Bool → World → Prop} (m : Mem w0 w l) (j : Nat) (hj : l[j]? = some (b, [x, y])) (hK : ∀ w', Fr F0 w0 w' → K 0 1 false w') : ratio_rat_k0 ⟨b, 0, none⟩ K w := by
  refine ⟨zero_spec fun w1 hf => ?_⟩
  have m : Mem w0 w1 _ := m.fr hf
  have hlt : j < l.length := (List.getElem?_eq_some_iff.1 hj).1
  simp -zeta only [add_mk, Nat.zero_add]
  refine ⟨m.wr j hj rfl, ?_⟩
  intro w2
  have m : Mem w0 w2 _ := m.set j hj
  clear_value w2
  refine ⟨m.wr j (cs := [Value.int .i64 0, y]) (by simp [hlt]) rfl, ?_⟩
  intro w3
  have m : Mem w0 w3 _ := m.set j (cs := [Value.int .i64 0, y]) (by simp [hlt])
  clear_value w3
  exact ⟨_, m.ld j (cs := [Value.int .i64 0, Value.int .i64 1]) (by simp [hlt]) rfl, _, m.ld j (cs := [Value.int .i64 0, Value.int .i64 1]) (by simp [hlt]) rfl, hK w3 m.1⟩

theorem rat_k2_spec {w0 : World} {d : Nat} {num x0 x1 : Value} {n : Int} {bd bt : Nat} {l : List (Nat × List Value)} {K : Int → Int → Bool → World → Prop} (m : Mem w0 w l) (jd jt : Nat) (hd : l[jd]? = some (bd, [num, .int .u64 d])) (ht : l[jt]? = some (bt, [x0, x1])) (hlt : d < 9223372036854775808)
    (hK : ∀ w', Fr F0 w0 w' → K n d true w') : ratio_rat_k2 ⟨bd, 0, none⟩ ⟨bt, 0, none⟩ n K w := by
  refine ⟨?_⟩
  unfold ratio_rat_k2d
  have hl : jt < l.length := (List.getElem?_eq_some_iff.1 ht).1
  simp -zeta only [add_mk, Nat.zero_add]
  refine ⟨_, m.ld jd hd rfl, m.wr jt ht rfl, ?_⟩
  intro w2
  have m : Mem w0 w2 _ := m.set jt ht
  clear_value w2
  refine ⟨m.wr jt (cs := [Value.int .i64 n, x1]) (by simp [hl]) rfl, ?_⟩
  intro w3
  have m : Mem w0 w3 _ := m.set jt (cs := [Value.int .i64 n, x1]) (by simp [hl])
  clear_value w3
  refine ⟨_, m.ld jt (cs := [Value.int .i64 n, Value.int .i64 (IntKind.wrap .i64 d)]) (by simp [hl]) rfl, _, m.ld jt (cs := [Value.int .i64 n, Value.int .i64 (IntKind.wrap .i64 d)]) (by simp [hl]) rfl, ?_⟩
  rw [wi64_in ⟨by omega, by omega⟩]
  exact hK w3 m.1

theorem rat_spec {neg : Bool} {n d : Nat} {K : Int → Int → Bool → World → Prop} (hK : ∀ w', Fr F0 w w' → Kr K (ratI neg n d) w') :
    ratio_rat_sh neg ((n / 18446744073709551616 : Nat) : Int) ((n % 18446744073709551616 : Nat) : Int) ((d / 18446744073709551616 : Nat) : Int) ((d % 18446744073709551616 : Nat) : Int) K w := by
  have bad : ¬ (d < 9223372036854775808 ∧ (n < 9223372036854775808 ∨ n = 9223372036854775808 ∧ neg = true)) → ∀ w', Fr F0 w w' → K 0 1 false w' := by
    intro h w' hf
    have := hK w' hf
    unfold ratI at this
    rw [if_neg h] at this
    exact this
  have good : (d < 9223372036854775808 ∧ (n < 9223372036854775808 ∨ n = 9223372036854775808 ∧ neg = true)) → ∀ w', Fr F0 w w' → K (if neg then -(n : Int) else n) d true w' := by
    intro h w' hf
    have := hK w' hf
    unfold ratI at this
    rw [if_pos h] at this
    exact this
  have hn1 : n / 18446744073709551616 * 18446744073709551616 + n % 18446744073709551616 = n := Nat.div_add_mod' _ _
  have hd1 : d / 18446744073709551616 * 18446744073709551616 + d % 18446744073709551616 = d := Nat.div_add_mod' _ _
  have hn2 : n % 18446744073709551616 < 18446744073709551616 := Nat.mod_lt _ (by omega)
  have hd2 : d % 18446744073709551616 < 18446744073709551616 := Nat.mod_lt _ (by omega)
  generalize hna : n / 18446744073709551616 = na at *
  generalize hnb : n % 18446744073709551616 = nb at *
  generalize hda : d / 18446744073709551616 = da at *
  generalize hdb : d % 18446744073709551616 = db at *
  clear hna hnb hda hdb
  refine ⟨?_⟩
  unfold ratio_rat_sd
  intro w1
  have m : Mem w w1 _ := Mem.nil.alloc
  clear_value w1
  intro w2
  have m : Mem w w2 _ := m.alloc
  clear_value w2
  intro w3
  have m : Mem w w3 _ := m.alloc
  clear_value w3
  refine ⟨_, m.ld 2 rfl rfl, ?_⟩
  rw [cnd_prop]
  refine ⟨fun h => rat_k0_spec m 0 rfl (bad (by omega)), fun h1 => ?_⟩
  refine ⟨_, m.ld 1 rfl rfl, ?_⟩
  rw [cnd_prop]
  refine ⟨fun h => rat_k0_spec m 0 rfl (bad (by omega)), fun h2 => ?_⟩
  have h1' : na = 0 := by omega
  have h2' : da = 0 := by omega
  subst h1'
  subst h2'
  simp only [Nat.zero_mul, Nat.zero_add] at hn1 hd1
  subst hn1
  subst hd1
  refine ⟨_, m.ld 1 rfl rfl, ?_⟩
  rw [cnd_prop]
  refine ⟨fun h => rat_k0_spec m 0 rfl (bad (by omega)), fun h3 => ?_⟩
  refine ⟨_, m.ld 2 rfl rfl, ?_⟩
  rw [cnd_prop]
  refine ⟨fun h => rat_k0_spec m 0 rfl (bad (by omega)), fun h4 => ?_⟩
  have k1 : (nb < 9223372036854775808 ∨ nb = 9223372036854775808 ∧ neg = true) → ratio_rat_k1 neg ⟨w.heap.size, 0, none⟩ ⟨w1.heap.size, 0, none⟩ ⟨w2.heap.size, 0, none⟩ K w3 := by
    intro hfit
    refine ⟨?_⟩
    unfold ratio_rat_k1d
    simp -zeta only [add_mk, Nat.zero_add]
    refine ⟨_, m.ld 2 rfl rfl, ?_⟩
    have hg := good ⟨by omega, hfit⟩
    cases neg
    · rw [cnd_false]
      refine rat_k2_spec m 1 0 rfl rfl (by omega) ?_
      rw [wi64_in ⟨by omega, by simp at hfit; omega⟩]
      exact hg
    · rw [cnd_true]
      refine rat_k2_spec m 1 0 rfl rfl (by omega) ?_
      have e : IntKind.wrap .i64 ((0 : Int) - IntKind.wrap .i64 (nb : Int)) = -(nb : Int) := by
        rcases hfit with hfit | ⟨rfl, _⟩
        · rw [wi64_in (n := (nb : Int)) ⟨by omega, by omega⟩, wi64_in ⟨by omega, by omega⟩]
          omega
        · decide
      rw [e]
      exact hg
  refine ⟨_, m.ld 2 rfl rfl, ?_⟩
  rw [cnd_beq]
  refine ⟨fun h => ?_, fun h5 => k1 (.inl (by omega))⟩
  cases neg
  · rw [Bool.not_false, cnd_true]
    exact rat_k0_spec m 0 rfl (bad (by simp; omega))
  · rw [Bool.not_true, cnd_false]
    exact k1 (.inr ⟨by omega, rfl⟩)
end
end Go.Proofs.YtfclokkfnkieoaaGreatDoor

/- Lowest terms, right numbers, wide numbers: what the functions of package ratio compute. Conditions: none. -/
namespace Go.Proofs.YtfclokkfnkieoaaGreatDoor
open Go Pw

section
variable {w : World}

theorem Right_spec {n d : Int} {K : Bool → World → Prop} (hn : I64 n) (hd : I64 d) (hK : ∀ w', Fr F0 w w' → K (decide (rightP n d)) w') : ratio_Right_sh n d K w := by
  refine ⟨?_⟩
  unfold ratio_Right_sd
  intro w1
  have m : Mem w w1 _ := Mem.nil.alloc
  clear_value w1
  intro w2
  have m : Mem w w2 _ := m.drew
  clear_value w2
  refine ⟨fun u => Rs u _, m.sub 0 rfl, ?_⟩
  refine ⟨_, fun _ h => h.ld 0 rfl rfl, ?_⟩
  rw [cnd_prop]
  constructor
  · intro h0
    obtain ⟨D, rfl⟩ : ∃ D : Nat, d = D := ⟨d.natAbs, by omega⟩
    refine ⟨_, fun _ h => h.ld 0 rfl rfl, _, fun _ h => h.ld 0 rfl rfl, ?_⟩
    refine ⟨inRu (by omega) (by have := hd.2; omega), size_spec hn ⟨m.sub 0 rfl, ?_⟩⟩
    refine gcd_spec fun w3 hf => ⟨(m.fr hf).sub 0 rfl, ?_⟩
    have := hK w3 (m.fr hf).1
    have e2 : ((((n.natAbs).gcd D : Nat) : Int) == 1) = decide (rightP n D) := by
      rw [Bool.eq_iff_iff]
      simp only [beq_iff_eq, decide_eq_true_eq]
      unfold rightP
      rw [Int.natAbs_natCast]
      constructor
      · intro h; exact ⟨by omega, by omega⟩
      · intro h; have := h.2; omega
    rw [e2]
    exact this
  · intro h0
    have := hK w2 m.1
    rw [decide_eq_false (fun h => h0 (by have := h.1; omega))] at this
    exact this

theorem both_spec {n d n' d' : Int} {K : Bool → World → Prop} (hn : I64 n) (hd : I64 d) (hn' : I64 n') (hd' : I64 d') (hK : ∀ w', Fr F0 w w' → K (decide (rightP n d) && decide (rightP n' d')) w') : ratio_both_sh n d n' d' K w := by
  refine ⟨?_⟩
  unfold ratio_both_sd
  intro w1
  have m : Mem w w1 _ := Mem.nil.alloc
  clear_value w1
  intro w2
  have m : Mem w w2 _ := m.alloc
  clear_value w2
  refine ⟨_, m.ld 1 rfl rfl, _, m.ld 1 rfl rfl, Right_spec hn hd fun w3 hf => ?_⟩
  have m : Mem w w3 _ := m.fr hf
  cases hr : decide (rightP n d)
  · rw [cnd_false]
    have := hK w3 m.1
    rw [hr] at this
    exact this
  · rw [cnd_true]
    refine ⟨_, m.ld 0 rfl rfl, _, m.ld 0 rfl rfl, Right_spec hn' hd' fun w4 hf => ?_⟩
    have := hK w4 (m.fr hf).1
    rw [hr] at this
    exact this

theorem rat_small {neg : Bool} {n d : Nat} {K : Int → Int → Bool → World → Prop} (hn : n < 18446744073709551616) (hd : d < 18446744073709551616) (hK : ∀ w', Fr F0 w w' → Kr K (ratI neg n d) w') :
    ratio_rat_sh neg 0 (n : Int) 0 (d : Int) K w := by
  have := rat_spec (neg := neg) (n := n) (d := d) hK
  rw [Nat.div_eq_of_lt hn, Nat.div_eq_of_lt hd, Nat.mod_eq_of_lt hn, Nat.mod_eq_of_lt hd] at this
  exact this

theorem lowest_spec {neg : Bool} {n d : Nat} {K : Int → Int → Bool → World → Prop} (hn : n < 18446744073709551616) (hd : 0 < d) (hd' : d < 18446744073709551616)
    (hK : ∀ w', Fr F0 w w' → Kr K (fitQ (mkRat (sgn neg n) d)) w') : ratio_lowest_sh neg n d K w := by
  have hg : 0 < Nat.gcd n d := Nat.gcd_pos_of_pos_right n hd
  have b1 := Nat.div_le_self n (Nat.gcd n d)
  have b2 := Nat.div_le_self d (Nat.gcd n d)
  have key : ∀ ng : Bool, ng = (neg && decide (0 < n)) → ratI ng (n / Nat.gcd n d) (d / Nat.gcd n d) = fitQ (mkRat (sgn neg n) d) := by
    intro ng hng
    rw [lowest_rat ng n d (by omega)]
    have : sgn ng n = sgn neg n := by
      subst hng
      cases neg
      · rfl
      · by_cases h : 0 < n
        · simp [h]
        · have : n = 0 := by omega
          subst this
          rfl
    rw [this]
  refine ⟨?_⟩
  unfold ratio_lowest_sd
  intro w1
  have m : Mem w w1 _ := Mem.nil.alloc
  clear_value w1
  intro w2
  have m : Mem w w2 _ := m.alloc
  clear_value w2
  refine ⟨_, m.ld 1 rfl rfl, _, m.ld 1 rfl rfl, gcd_spec fun w3 hf => ?_⟩
  have m : Mem w w3 _ := m.fr hf
  intro w4
  have m : Mem w w4 _ := m.drew
  clear_value w4
  refine ⟨fun u => Rs u _, m.sub 0 rfl, ?_⟩
  refine ⟨_, fun _ h => h.ld 1 rfl rfl, _, fun _ h => h.ld 1 rfl rfl, ?_⟩
  have q1 : inR .u64 (Int.tdiv (n : Int) ((Nat.gcd n d : Nat) : Int)) := by
    rw [tdivN]; exact inRu (Int.natCast_nonneg _) (by omega)
  have q2 : inR .u64 (Int.tdiv (d : Int) ((Nat.gcd n d : Nat) : Int)) := by
    rw [tdivN]; exact inRu (Int.natCast_nonneg _) (by omega)
  refine ⟨by omega, q1, _, fun _ h => h.ld 1 rfl rfl, by omega, q2, ?_⟩
  simp -zeta only [tdivN]
  cases neg
  · rw [cnd_false]
    refine rat_small (by omega) (by omega) fun w5 hf => ?_
    have m : Mem w w5 _ := m.fr hf
    refine ⟨m.sub 0 rfl, put2b m 0 rfl fun w6 hf6 => ?_⟩
    have := hK w6 hf6
    rw [← key false (by simp)] at this
    exact this
  · rw [cnd_true]
    refine ⟨_, fun _ h => h.ld 1 rfl rfl, ?_⟩
    refine rat_small (by omega) (by omega) fun w5 hf => ?_
    have m : Mem w w5 _ := m.fr hf
    refine ⟨m.sub 0 rfl, put2b m 0 rfl fun w6 hf6 => ?_⟩
    have := hK w6 hf6
    rw [← key (decide ((n : Int) > 0)) (by simp)] at this
    exact this

theorem Make_spec {n d : Int} {K : Int → Int → Bool → World → Prop} (hn : I64 n) (hd : I64 d)
    (hK : ∀ w', Fr F0 w w' → Kr K (if d = 0 then zr else fitQ (Rat.divInt n d)) w') : ratio_Make_sh n d K w := by
  refine ⟨?_⟩
  unfold ratio_Make_sd
  intro w1
  have m : Mem w w1 _ := Mem.nil.alloc
  clear_value w1
  rw [cnd_beq]
  constructor
  · intro h0
    rw [if_pos h0] at hK
    exact zero_spec fun w2 hf => put2b (m.fr hf) 0 rfl fun w3 hf3 => hK w3 hf3
  · intro h0
    rw [if_neg h0] at hK
    refine size_spec hn (size_spec hd (lowest_spec (by have := hn.1; have := hn.2; omega) (by omega) (by have := hd.1; have := hd.2; omega) fun w2 hf => put2b (m.fr hf) 0 rfl fun w3 hf3 => ?_))
    have := hK w3 hf3
    have e : mkRat (sgn (!((decide (n < 0)) == (decide (d < 0)))) n.natAbs) d.natAbs = Rat.divInt n d := by
      rcases Int.lt_or_le d 0 with hneg | hpos
      · have e1 : Rat.divInt n d = Rat.divInt (-n) (-d) := (Rat.neg_divInt_neg n d).symm
        have e2 : -d = ((d.natAbs : Nat) : Int) := by omega
        rw [e1, e2, Rat.divInt_ofNat]
        congr 1
        rcases Int.lt_or_le n 0 with h | h
        · simp [sgn, h, hneg]; omega
        · have h' : ¬ n < 0 := by omega
          simp [sgn, h', hneg]; omega
      · have e2 : d = ((d.natAbs : Nat) : Int) := by omega
        have hd' : ¬ d < 0 := by omega
        conv => rhs; rw [e2]
        rw [Rat.divInt_ofNat]
        congr 1
        rcases Int.lt_or_le n 0 with h | h
        · simp [sgn, h, hd']; omega
        · have h' : ¬ n < 0 := by omega
          simp [sgn, h', hd']; omega
    rw [← e] at this
    exact this
end
end Go.Proofs.YtfclokkfnkieoaaGreatDoor

/- Wide numbers: products, sums, differences, quotients, comparisons. Conditions: none. -/
namespace Go.Proofs.YtfclokkfnkieoaaGreatDoor
open Go Pw

section
variable {w : World}

theorem of_spec {n d : Int} {K : Bool → Int → Int → World → Prop} (hn : I64 n) (hd : I64 d) (hK : ∀ w', Fr F0 w w' → K (decide (n < 0)) n.natAbs d.natAbs w') : ratio_of_sh n d K w := by
  refine ⟨?_⟩
  unfold ratio_of_sd
  intro w1
  have m : Mem w w1 _ := Mem.nil.alloc
  clear_value w1
  intro w2
  have m : Mem w w2 _ := m.alloc
  clear_value w2
  intro w3
  have m : Mem w w3 _ := m.drew
  clear_value w3
  refine ⟨fun u => Rs u _, m.sub 0 rfl, _, fun _ h => h.ld 1 rfl rfl, _, fun _ h => h.ld 1 rfl rfl, _, fun _ h => h.ld 1 rfl rfl, size_spec hn ⟨m.sub 0 rfl, size_spec hd ⟨m.sub 0 rfl, ?_⟩⟩⟩
  exact put3 m 0 rfl hK

theorem Of_spec {n : Int} {K : Int → Int → World → Prop} (hK : ∀ w', Fr F0 w w' → K n 1 w') : ratio_Of_sh n K w := by
  refine ⟨?_⟩
  unfold ratio_Of_sd
  intro w1
  have m : Mem w w1 _ := Mem.nil.alloc
  clear_value w1
  exact put2 m 0 rfl hK

theorem product_spec {x y : Nat} {K : Int → Int → World → Prop} (hx : x < 18446744073709551616) (hy : y < 18446744073709551616)
    (hK : ∀ w', Fr F0 w w' → K ((x * y / 18446744073709551616 : Nat) : Int) ((x * y % 18446744073709551616 : Nat) : Int) w') : ratio_product_sh x y K w := by
  refine ⟨?_⟩
  unfold ratio_product_sd
  intro w1
  have m : Mem w w1 _ := Mem.nil.alloc
  clear_value w1
  exact Mul64_spec hx hy (put2 m 0 rfl hK)

theorem wadd_spec {A B : Nat} {K : Int → Int → World → Prop} (hA : A < 170141183460469231731687303715884105728) (hB : B < 170141183460469231731687303715884105728)
    (hK : ∀ w', Fr F0 w w' → K (((A + B) / 18446744073709551616 : Nat) : Int) (((A + B) % 18446744073709551616 : Nat) : Int) w') :
    ratio_wide_add_sh ((A / 18446744073709551616 : Nat) : Int) ((A % 18446744073709551616 : Nat) : Int) ((B / 18446744073709551616 : Nat) : Int) ((B % 18446744073709551616 : Nat) : Int) K w := by
  obtain ⟨e1, e2⟩ := wd_add (M := 18446744073709551616) (A := A) (B := B) (by decide)
  have a1 : A / 18446744073709551616 < 9223372036854775808 := by rw [Nat.div_lt_iff_lt_mul (by decide)]; exact hA
  have b1 : B / 18446744073709551616 < 9223372036854775808 := by rw [Nat.div_lt_iff_lt_mul (by decide)]; exact hB
  have a2 : A % 18446744073709551616 < 18446744073709551616 := Nat.mod_lt _ (by decide)
  have b2 : B % 18446744073709551616 < 18446744073709551616 := Nat.mod_lt _ (by decide)
  rw [← e1, ← e2] at hK
  clear e1 e2 hA hB
  generalize A / 18446744073709551616 = p at *
  generalize A % 18446744073709551616 = q at *
  generalize B / 18446744073709551616 = r at *
  generalize B % 18446744073709551616 = s at *
  refine ⟨?_⟩
  unfold ratio_wide_add_sd
  intro w1
  have m : Mem w w1 _ := Mem.nil.alloc
  clear_value w1
  intro w2
  have m : Mem w w2 _ := m.alloc
  clear_value w2
  intro w3
  have m : Mem w w3 _ := m.alloc
  clear_value w3
  refine ⟨_, m.ld 2 rfl rfl, _, m.ld 1 rfl rfl, ⟨⟨by omega, by omega, by omega, by omega, by omega, by omega⟩, ?_⟩⟩
  refine ⟨_, m.ld 2 rfl rfl, _, m.ld 1 rfl rfl, ⟨⟨by omega, by omega, by omega, by omega, by omega, by omega⟩, ?_⟩⟩
  have f1 : ((p : Int) + (r : Int) + ((q : Int) + (s : Int) + 0) / 18446744073709551616) % 18446744073709551616 = ((p + r + (q + s) / 18446744073709551616 : Nat) : Int) := by omega
  have f2 : ((q : Int) + (s : Int) + 0) % 18446744073709551616 = (((q + s) % 18446744073709551616 : Nat) : Int) := by omega
  rw [f1, f2]
  exact put2 m 0 rfl hK

theorem wsub_spec {A B : Nat} {K : Int → Int → World → Prop} (hA : A < 340282366920938463463374607431768211456) (hB : B ≤ A)
    (hK : ∀ w', Fr F0 w w' → K (((A - B) / 18446744073709551616 : Nat) : Int) (((A - B) % 18446744073709551616 : Nat) : Int) w') :
    ratio_wide_sub_sh ((A / 18446744073709551616 : Nat) : Int) ((A % 18446744073709551616 : Nat) : Int) ((B / 18446744073709551616 : Nat) : Int) ((B % 18446744073709551616 : Nat) : Int) K w := by
  obtain ⟨C, rfl⟩ : ∃ C, A = B + C := ⟨A - B, by omega⟩
  rw [Nat.add_sub_cancel_left] at hK
  obtain ⟨e1, e2⟩ := wd_add (M := 18446744073709551616) (A := B) (B := C) (by decide)
  have a1 : (B + C) / 18446744073709551616 < 18446744073709551616 := by rw [Nat.div_lt_iff_lt_mul (by decide)]; exact hA
  rw [← e2] at a1
  have a2 : C % 18446744073709551616 < 18446744073709551616 := Nat.mod_lt _ (by decide)
  have b2 : B % 18446744073709551616 < 18446744073709551616 := Nat.mod_lt _ (by decide)
  rw [← e1, ← e2]
  clear e1 e2 hA hB
  generalize C / 18446744073709551616 = p at *
  generalize C % 18446744073709551616 = q at *
  generalize B / 18446744073709551616 = r at *
  generalize B % 18446744073709551616 = s at *
  refine ⟨?_⟩
  unfold ratio_wide_sub_sd
  intro w1
  have m : Mem w w1 _ := Mem.nil.alloc
  clear_value w1
  intro w2
  have m : Mem w w2 _ := m.alloc
  clear_value w2
  intro w3
  have m : Mem w w3 _ := m.alloc
  clear_value w3
  refine ⟨_, m.ld 2 rfl rfl, _, m.ld 1 rfl rfl, ⟨⟨by omega, by omega, by omega, by omega, by omega, by omega⟩, ?_⟩⟩
  refine ⟨_, m.ld 2 rfl rfl, _, m.ld 1 rfl rfl, ⟨⟨by omega, by omega, by omega, by omega, ?_, ?_⟩, ?_⟩⟩
  · split <;> omega
  · split <;> omega
  have f2 : ((((s + q) % 18446744073709551616 : Nat) : Int) - (s : Int) - 0) % 18446744073709551616 = (q : Int) := by omega
  have f1 : (((r + p + (s + q) / 18446744073709551616 : Nat) : Int) - (r : Int) - (if (((s + q) % 18446744073709551616 : Nat) : Int) < (s : Int) + 0 then 1 else 0)) % 18446744073709551616 = (p : Int) := by
    split <;> omega
  rw [f1, f2]
  exact put2 m 0 rfl hK

theorem wover_spec {A b : Nat} {K : Int → Int → Int → World → Prop} (hA : A < 340282366920938463463374607431768211456) (hb : 0 < b) (hb' : b < 18446744073709551616)
    (hK : ∀ w', Fr F0 w w' → K ((A / b / 18446744073709551616 : Nat) : Int) ((A / b % 18446744073709551616 : Nat) : Int) ((A % b : Nat) : Int) w') :
    ratio_wide_over_sh ((A / 18446744073709551616 : Nat) : Int) ((A % 18446744073709551616 : Nat) : Int) b K w := by
  obtain ⟨e1, e2, e3⟩ := wd_over (M := 18446744073709551616) (A := A) hb (by omega)
  have a1 : A / 18446744073709551616 < 18446744073709551616 := by rw [Nat.div_lt_iff_lt_mul (by decide)]; exact hA
  have a2 : A % 18446744073709551616 < 18446744073709551616 := Nat.mod_lt _ (by decide)
  rw [e1, e2, e3] at hK
  clear e1 e2 e3 hA
  generalize A / 18446744073709551616 = p at *
  generalize A % 18446744073709551616 = q at *
  refine ⟨?_⟩
  unfold ratio_wide_over_sd
  intro w1
  have m : Mem w w1 _ := Mem.nil.alloc
  clear_value w1
  intro w2
  have m : Mem w w2 _ := m.alloc
  clear_value w2
  intro w3
  have m : Mem w w3 _ := m.drew
  clear_value w3
  have hm := Nat.mod_lt p hb
  refine ⟨_, m.ld 1 rfl rfl, by omega, ?_, _, m.ld 1 rfl rfl, by omega, _, m.ld 1 rfl rfl, ?_⟩
  · rw [tdivN]
    exact inRu (Int.natCast_nonneg _) (by have := Nat.div_le_self p b; omega)
  · rw [tmodN, tdivN]
    refine Div64_spec hm (by omega) a2 fun w4 hf => ?_
    exact put2 (K := fun a c w => K a c _ w) (m.fr hf) 0 rfl hK

theorem isNaN_u {x : Int} {K : Bool → World → Prop} (hK : K false w) : cmp_isNaN_uint64_sh x K w := by
  refine ⟨?_⟩
  unfold cmp_isNaN_uint64_sd
  simpa using hK

theorem isNaN_i {x : Int} {K : Bool → World → Prop} (hK : K false w) : cmp_isNaN_sh x K w := by
  refine ⟨?_⟩
  unfold cmp_isNaN_sd
  simpa using hK

theorem Compare_u {x y : Int} {K : Int → World → Prop} (hK : K (cmpI x y) w) : cmp_Compare_uint64_sh x y K w := by
  refine ⟨isNaN_u (isNaN_u ?_)⟩
  rw [cnd_false, cnd_false, cnd_prop]
  unfold cmpI at hK
  refine ⟨fun h => by rw [if_pos h] at hK; exact hK, fun h => ?_⟩
  rw [if_neg h] at hK
  rw [cnd_prop]
  exact ⟨fun h => by rw [if_pos h] at hK; exact hK, fun h => by rw [if_neg h] at hK; exact hK⟩

theorem Compare_i {x y : Int} {K : Int → World → Prop} (hK : K (cmpI x y) w) : cmp_Compare_sh x y K w := by
  refine ⟨isNaN_i (isNaN_i ?_)⟩
  rw [cnd_false, cnd_false, cnd_prop]
  unfold cmpI at hK
  refine ⟨fun h => by rw [if_pos h] at hK; exact hK, fun h => ?_⟩
  rw [if_neg h] at hK
  rw [cnd_prop]
  exact ⟨fun h => by rw [if_pos h] at hK; exact hK, fun h => by rw [if_neg h] at hK; exact hK⟩

theorem Or_two {b : Nat} {x y : Int} {K : Int → World → Prop} (hx : w.cell? ⟨b, 0, none⟩ = some (.int .i64 x)) (hy : w.cell? ⟨b, 1, none⟩ = some (.int .i64 y)) (hK : K (if x ≠ 0 then x else y) w) :
    cmp_Or_sh (Sl.mk (some (Addr.mk b 0 none)) 2 2) K w := by
  refine ⟨⟨fun i w' => w' = w ∧ (i = 0 ∨ x = 0 ∧ i = 1 ∨ x = 0 ∧ y = 0 ∧ i = 2), fun i _ => (2 - i).toNat, ⟨rfl, .inl rfl⟩, ?_⟩⟩
  rintro i w1 ⟨rfl, hi⟩
  unfold cmp_Or_b0
  rw [cnd_prop]
  constructor
  · intro hlt
    rw [nz_some]
    simp only at hlt
    rcases hi with rfl | ⟨h0, rfl⟩ | ⟨_, _, rfl⟩
    · refine ⟨⟨by omega, by simp⟩, x, by simp only [add_mk]; exact hx, ?_⟩
      rw [cnd_bne]
      constructor
      · intro h; rw [if_pos h] at hK; exact hK
      · intro h
        exact ⟨inR64 (by omega) (by omega), ⟨⟨rfl, rfl, rfl, trivial⟩, rfl, .inr (.inl ⟨h, by omega⟩)⟩, by simp only; omega⟩
    · refine ⟨⟨by omega, by simp⟩, y, by simp only [add_mk]; exact hy, ?_⟩
      rw [cnd_bne]
      constructor
      · intro h; rw [if_neg (by simp [h0])] at hK; exact hK
      · intro h
        exact ⟨inR64 (by omega) (by omega), ⟨⟨rfl, rfl, rfl, trivial⟩, rfl, .inr (.inr ⟨h0, h, by omega⟩)⟩, by simp only; omega⟩
    · simp at hlt
  · intro hlt
    simp only at hlt
    rcases hi with rfl | ⟨h0, rfl⟩ | ⟨h0, h1, rfl⟩
    · simp at hlt
    · simp at hlt
    · rw [if_neg (by simp [h0]), h1] at hK
      exact hK

theorem compare_spec {A B : Nat} {K : Int → World → Prop} (hK : ∀ w', Fr F0 w w' → K (cmpI A B) w') :
    ratio_compare_sh ((A / 18446744073709551616 : Nat) : Int) ((A % 18446744073709551616 : Nat) : Int) ((B / 18446744073709551616 : Nat) : Int) ((B % 18446744073709551616 : Nat) : Int) K w := by
  rw [← wd_cmp (M := 18446744073709551616) (by decide)] at hK
  generalize ((A / 18446744073709551616 : Nat) : Int) = p at *
  generalize ((A % 18446744073709551616 : Nat) : Int) = q at *
  generalize ((B / 18446744073709551616 : Nat) : Int) = r at *
  generalize ((B % 18446744073709551616 : Nat) : Int) = s at *
  refine ⟨?_⟩
  unfold ratio_compare_sd
  intro w1
  have m : Mem w w1 _ := Mem.nil.alloc
  clear_value w1
  intro w2
  have m : Mem w w2 _ := m.alloc
  clear_value w2
  intro w3
  have m : Mem w w3 _ := m.drew
  clear_value w3
  refine ⟨fun u => Rs u _, m.sub 0 rfl, _, fun _ h => h.ld 1 rfl rfl, _, fun _ h => h.ld 0 rfl rfl, _, fun _ h => h.ld 1 rfl rfl, _, fun _ h => h.ld 0 rfl rfl, ?_⟩
  refine Compare_u ⟨m.sub 0 rfl, Compare_u ⟨m.sub 0 rfl, ?_⟩⟩
  intro w4
  have m : Mem w w4 _ := m.alloc
  clear_value w4
  refine ⟨m.sub 1 rfl, Or_two (m.ld 0 rfl rfl) (m.ld 0 rfl rfl) ⟨m.sub 1 rfl, ?_⟩⟩
  exact hK w4 m.1
end
end Go.Proofs.YtfclokkfnkieoaaGreatDoor

/- Sums and products, as package ratio computes them. Conditions: none. -/
namespace Go.Proofs.YtfclokkfnkieoaaGreatDoor
open Go Pw

section
variable {w w0 : World}

theorem times_k0_spec {l : List (Nat × List Value)} {b : Nat} {x y : Value} {K : Int → Int → Bool → World → Prop} (m : Mem w0 w l) (j : Nat) (hj : l[j]? = some (b, [x, y])) (hK : ∀ w', Fr F0 w0 w' → K 0 1 true w') : ratio_times_k0 ⟨b, 0, none⟩ K w := by
  refine ⟨?_⟩
  unfold ratio_times_k0d
  simp -zeta only [add_mk, Nat.zero_add]
  exact zero_spec fun w1 hf => put2b (m.fr hf) j hj hK

theorem fitQ_zero : fitQ 0 = ⟨0, 1, true⟩ := rfl

theorem times_spec {xs ys : Bool} {xn xd yn yd : Nat} {K : Int → Int → Bool → World → Prop} (hx : Nat.Coprime xn xd) (hy : Nat.Coprime yn yd) (hxd : 0 < xd) (hyd : 0 < yd)
    (bxn : xn < 18446744073709551616) (bxd : xd < 18446744073709551616) (byn : yn < 18446744073709551616) (byd : yd < 18446744073709551616)
    (hK : ∀ w', Fr F0 w w' → Kr K (fitQ (mkRat (sgn xs xn) xd * mkRat (sgn ys yn) yd)) w') : ratio_times_sh xs xn xd ys yn yd K w := by
  have sz : ∀ s : Bool, sgn s 0 = 0 := fun s => by cases s <;> rfl
  refine ⟨?_⟩
  unfold ratio_times_sd
  intro w1
  have m : Mem w w1 _ := Mem.nil.alloc
  clear_value w1
  intro w2
  have m : Mem w w2 _ := m.alloc
  clear_value w2
  intro w3
  have m : Mem w w3 _ := m.alloc
  clear_value w3
  refine ⟨_, m.ld 2 rfl rfl, ?_⟩
  rw [cnd_beq]
  refine ⟨fun h => ?_, fun h1 => ?_⟩
  · have h0 : xn = 0 := by omega
    subst h0
    simp only [sz, Rat.zero_mkRat, Rat.zero_mul, fitQ_zero] at hK
    exact times_k0_spec m 0 rfl hK
  refine ⟨_, m.ld 1 rfl rfl, ?_⟩
  rw [cnd_beq]
  refine ⟨fun h => ?_, fun h2 => ?_⟩
  · have h0 : yn = 0 := by omega
    subst h0
    simp only [sz, Rat.zero_mkRat, Rat.mul_zero, fitQ_zero] at hK
    exact times_k0_spec m 0 rfl hK
  intro w4
  have m : Mem w w4 _ := m.drew
  clear_value w4
  refine ⟨fun u => Rs u _, m.sub 0 rfl, _, fun _ h => h.ld 2 rfl rfl, _, fun _ h => h.ld 1 rfl rfl, _, fun _ h => h.ld 1 rfl rfl, _, fun _ h => h.ld 2 rfl rfl, ?_⟩
  refine gcd_spec fun w5 hf => ?_
  have m : Mem w w5 _ := m.fr hf
  refine ⟨m.sub 0 rfl, gcd_spec fun w6 hf => ?_⟩
  have m : Mem w w6 _ := m.fr hf
  refine ⟨m.sub 0 rfl, ?_⟩
  intro w7
  have m : Mem w w7 _ := m.drew
  clear_value w7
  have hg : 0 < Nat.gcd xn yd := Nat.gcd_pos_of_pos_right _ hyd
  have hh : 0 < Nat.gcd yn xd := Nat.gcd_pos_of_pos_right _ hxd
  have i1 : xn / Nat.gcd xn yd < 18446744073709551616 := Nat.lt_of_le_of_lt (Nat.div_le_self _ _) bxn
  have i2 : yn / Nat.gcd yn xd < 18446744073709551616 := Nat.lt_of_le_of_lt (Nat.div_le_self _ _) byn
  have i3 : xd / Nat.gcd yn xd < 18446744073709551616 := Nat.lt_of_le_of_lt (Nat.div_le_self _ _) bxd
  have i4 : yd / Nat.gcd xn yd < 18446744073709551616 := Nat.lt_of_le_of_lt (Nat.div_le_self _ _) byd
  have r : ∀ a b : Nat, a / b < 18446744073709551616 → inR .u64 (Int.tdiv (a : Int) (b : Int)) := fun a b h => by
    rw [tdivN]
    exact inRu (Int.natCast_nonneg _) (by omega)
  refine ⟨fun u => Rs u _, m.sub 0 rfl, _, fun _ h => h.ld 2 rfl rfl, _, fun _ h => h.ld 1 rfl rfl, _, fun _ h => h.ld 2 rfl rfl, by omega, r _ _ i1, _, fun _ h => h.ld 1 rfl rfl, by omega, r _ _ i2, _, fun _ h => h.ld 2 rfl rfl, by omega, r _ _ i3, _, fun _ h => h.ld 1 rfl rfl, by omega, r _ _ i4, ?_⟩
  simp -zeta only [tdivN]
  refine product_spec i1 i2 fun w8 hf => ?_
  have m : Mem w w8 _ := m.fr hf
  refine ⟨m.sub 0 rfl, product_spec i3 i4 fun w9 hf => ?_⟩
  have m : Mem w w9 _ := m.fr hf
  refine ⟨m.sub 0 rfl, rat_spec fun w10 hf => ?_⟩
  have m : Mem w w10 _ := m.fr hf
  refine ⟨m.sub 0 rfl, put2b m 0 rfl fun w11 hf => ?_⟩
  have := hK w11 hf
  rw [← times_q hx hy (by omega) (by omega)] at this
  have e : (!(xs == ys)) = (xs != ys) := rfl
  rw [e]
  exact this

theorem sum_k1_spec {bn b1 b2 bt bx by' : Nat} {c1 c2 : List Value} {t0 t1 : Value} {xs ys s : Bool} {xn xd yn yd g n : Nat} {K : Int → Int → Bool → World → Prop}
    (m : Mem w0 w [(bn, [.int .u64 ((n / 18446744073709551616 : Nat) : Int), .int .u64 ((n % 18446744073709551616 : Nat) : Int)]), (b1, c1), (b2, c2), (bt, [t0, t1]), (by', [.bool ys, .int .u64 yn, .int .u64 yd]), (bx, [.bool xs, .int .u64 xn, .int .u64 xd])])
    (hn : n < 340282366920938463463374607431768211456) (hg : 0 < g) (bg : g < 18446744073709551616) (bxd : xd < 18446744073709551616) (byd : yd < 18446744073709551616)
    (hz : n = 0 → ∀ w', Fr F0 w0 w' → K 0 1 true w')
    (hK : ∀ w', Fr F0 w0 w' → Kr K (ratI s (n / Nat.gcd g (n % g)) (xd / g * (yd / Nat.gcd g (n % g)))) w') :
    ratio_sum_k1 ⟨bx, 0, none⟩ ⟨by', 0, none⟩ ⟨bt, 0, none⟩ g ⟨bn, 0, none⟩ s K w := by
  refine ⟨?_⟩
  unfold ratio_sum_k1d
  simp -zeta only [add_mk, Nat.zero_add]
  refine ⟨_, m.ld 0 rfl rfl, _, m.ld 0 rfl rfl, ?_⟩
  rw [cnd_iff]
  constructor
  · intro h
    simp only [Bool.and_eq_true, beq_iff_eq, and_true] at h
    have h0 : n = 0 := by
      have := Nat.div_add_mod n 18446744073709551616
      omega
    exact zero_spec fun w1 hf => put2b (m.fr hf) 3 rfl (hz h0)
  · intro _
    refine ⟨_, m.ld 0 rfl rfl, _, m.ld 0 rfl rfl, wover_spec hn hg bg fun w1 hf => ?_⟩
    have m : Mem w0 w1 _ := m.fr hf
    intro w2
    have m : Mem w0 w2 _ := m.alloc
    clear_value w2
    refine ⟨m.wr 0 rfl rfl, ?_⟩
    intro w3
    have m : Mem w0 w3 _ := m.set 0 rfl
    clear_value w3
    refine ⟨m.wr 0 rfl rfl, ?_⟩
    intro w4
    have m : Mem w0 w4 _ := m.set 0 rfl
    clear_value w4
    refine gcd_spec fun w5 hf => ?_
    have m : Mem w0 w5 _ := m.fr hf
    have hh : 0 < Nat.gcd g (n % g) := Nat.gcd_pos_of_pos_left _ hg
    have bh : Nat.gcd g (n % g) < 18446744073709551616 := Nat.lt_of_le_of_lt (Nat.gcd_le_left _ hg) bg
    refine ⟨_, m.ld 1 rfl rfl, _, m.ld 1 rfl rfl, wover_spec hn hh bh fun w6 hf => ?_⟩
    have m : Mem w0 w6 _ := m.fr hf
    refine ⟨m.wr 1 rfl rfl, ?_⟩
    intro w7
    have m : Mem w0 w7 _ := m.set 1 rfl
    clear_value w7
    refine ⟨m.wr 1 rfl rfl, ?_⟩
    intro w8
    have m : Mem w0 w8 _ := m.set 1 rfl
    clear_value w8
    intro w9
    have m : Mem w0 w9 _ := m.drew
    clear_value w9
    have i1 : xd / g < 18446744073709551616 := Nat.lt_of_le_of_lt (Nat.div_le_self _ _) bxd
    have i2 : yd / Nat.gcd g (n % g) < 18446744073709551616 := Nat.lt_of_le_of_lt (Nat.div_le_self _ _) byd
    have r : ∀ a b : Nat, a / b < 18446744073709551616 → inR .u64 (Int.tdiv (a : Int) (b : Int)) := fun a b h => by
      rw [tdivN]
      exact inRu (Int.natCast_nonneg _) (by omega)
    refine ⟨fun u => Rs u _, m.sub 0 rfl, _, fun _ h => h.ld 1 rfl rfl, _, fun _ h => h.ld 1 rfl rfl, _, fun _ h => h.ld 6 rfl rfl, by omega, r _ _ i1, _, fun _ h => h.ld 5 rfl rfl, by omega, r _ _ i2, ?_⟩
    simp -zeta only [tdivN]
    refine product_spec i1 i2 fun w10 hf => ?_
    have m : Mem w0 w10 _ := m.fr hf
    refine ⟨m.sub 0 rfl, rat_spec fun w11 hf => ?_⟩
    have m : Mem w0 w11 _ := m.fr hf
    exact ⟨m.sub 0 rfl, put2b m 4 rfl hK⟩
end
end Go.Proofs.YtfclokkfnkieoaaGreatDoor

/- Sums, as package ratio computes them, in every order that Go leaves open. Conditions: none. -/
namespace Go.Proofs.YtfclokkfnkieoaaGreatDoor
open Go Pw

section
variable {w w0 : World}

theorem sum_k0_spec {ba bb b1 b2 bt bx by' : Nat} {c1 c2 : List Value} {t0 t1 : Value} {xs ys : Bool} {xn xd yn yd g A B : Nat} {K : Int → Int → Bool → World → Prop}
    (m : Mem w0 w [(b1, c1), (b2, c2), (bt, [t0, t1]), (by', [.bool ys, .int .u64 yn, .int .u64 yd]), (bx, [.bool xs, .int .u64 xn, .int .u64 xd])]) (ja jb : Nat)
    (ha : [(b1, c1), (b2, c2), (bt, [t0, t1]), (by', [.bool ys, .int .u64 yn, .int .u64 yd]), (bx, [.bool xs, .int .u64 xn, .int .u64 xd])][ja]? = some (ba, [.int .u64 ((A / 18446744073709551616 : Nat) : Int), .int .u64 ((A % 18446744073709551616 : Nat) : Int)]))
    (hb : [(b1, c1), (b2, c2), (bt, [t0, t1]), (by', [.bool ys, .int .u64 yn, .int .u64 yd]), (bx, [.bool xs, .int .u64 xn, .int .u64 xd])][jb]? = some (bb, [.int .u64 ((B / 18446744073709551616 : Nat) : Int), .int .u64 ((B % 18446744073709551616 : Nat) : Int)]))
    (hA : A < 170141183460469231731687303715884105728) (hB : B < 170141183460469231731687303715884105728) (hg : 0 < g) (bg : g < 18446744073709551616) (bxd : xd < 18446744073709551616) (byd : yd < 18446744073709551616)
    (hK : ∀ s n, sumS xs ys A B = (s, n) → (n = 0 → ∀ w', Fr F0 w0 w' → K 0 1 true w') ∧ ∀ w', Fr F0 w0 w' → Kr K (ratI s (n / Nat.gcd g (n % g)) (xd / g * (yd / Nat.gcd g (n % g)))) w') :
    ratio_sum_k0 ⟨bx, 0, none⟩ ⟨by', 0, none⟩ ⟨bt, 0, none⟩ g ⟨ba, 0, none⟩ ⟨bb, 0, none⟩ K w := by
  refine ⟨?_⟩
  unfold ratio_sum_k0d
  simp -zeta only [add_mk, Nat.zero_add]
  intro w1
  have m : Mem w0 w1 _ := m.alloc
  clear_value w1
  refine ⟨_, m.ld 5 rfl rfl, _, m.ld 5 rfl rfl, _, m.ld 4 rfl rfl, ?_⟩
  rw [cnd_iff]
  constructor
  · intro h
    have hxy : xs = ys := by simpa using h
    have hs : sumS xs ys A B = (xs, A + B) := by unfold sumS; rw [if_pos hxy]
    obtain ⟨hz, hk⟩ := hK _ _ hs
    refine ⟨_, m.ld (ja + 1) ha rfl, _, m.ld (ja + 1) ha rfl, _, m.ld (jb + 1) hb rfl, _, m.ld (jb + 1) hb rfl, wadd_spec hA hB fun w2 hf => ?_⟩
    have m : Mem w0 w2 _ := m.fr hf
    refine ⟨m.wr 0 rfl rfl, ?_⟩
    intro w3
    have m : Mem w0 w3 _ := m.set 0 rfl
    clear_value w3
    refine ⟨m.wr 0 rfl rfl, ?_⟩
    intro w4
    have m : Mem w0 w4 _ := m.set 0 rfl
    clear_value w4
    exact sum_k1_spec m (by omega) hg bg bxd byd hz hk
  · intro h
    have hxy : ¬ xs = ys := by
      intro he
      subst he
      simp at h
    refine ⟨_, m.ld (ja + 1) ha rfl, _, m.ld (ja + 1) ha rfl, _, m.ld (jb + 1) hb rfl, _, m.ld (jb + 1) hb rfl, compare_spec fun w2 hf => ?_⟩
    have m : Mem w0 w2 _ := m.fr hf
    rw [cnd_prop]
    constructor
    · intro hc
      have hle : B ≤ A := by
        unfold cmpI at hc
        split at hc
        · omega
        · omega
      have hs : sumS xs ys A B = (xs, A - B) := by unfold sumS; rw [if_neg hxy, if_pos hle]
      obtain ⟨hz, hk⟩ := hK _ _ hs
      refine ⟨_, m.ld (ja + 1) ha rfl, _, m.ld (ja + 1) ha rfl, _, m.ld (jb + 1) hb rfl, _, m.ld (jb + 1) hb rfl, wsub_spec (by omega) hle fun w3 hf => ?_⟩
      have m : Mem w0 w3 _ := m.fr hf
      refine ⟨m.wr 0 rfl rfl, ?_⟩
      intro w4
      have m : Mem w0 w4 _ := m.set 0 rfl
      clear_value w4
      refine ⟨m.wr 0 rfl rfl, ?_⟩
      intro w5
      have m : Mem w0 w5 _ := m.set 0 rfl
      clear_value w5
      exact sum_k1_spec m (by omega) hg bg bxd byd hz hk
    · intro hc
      have hle : ¬ B ≤ A := by
        intro hle
        apply hc
        unfold cmpI
        split
        · omega
        · split <;> omega
      have hs : sumS xs ys A B = (ys, B - A) := by unfold sumS; rw [if_neg hxy, if_neg hle]
      obtain ⟨hz, hk⟩ := hK _ _ hs
      intro w3
      have m : Mem w0 w3 _ := m.drew
      clear_value w3
      refine ⟨fun u => u.cell? ⟨bb, 0, none⟩ = some (.int .u64 ((B / 18446744073709551616 : Nat) : Int)) ∧ u.cell? ⟨bb, 1, none⟩ = some (.int .u64 ((B % 18446744073709551616 : Nat) : Int)) ∧ u.cell? ⟨ba, 0, none⟩ = some (.int .u64 ((A / 18446744073709551616 : Nat) : Int)) ∧ u.cell? ⟨ba, 1, none⟩ = some (.int .u64 ((A % 18446744073709551616 : Nat) : Int)) ∧ u.cell? ⟨by', 0, none⟩ = some (.bool ys), ?_, ?_⟩
      · exact ⟨m.ld (jb + 1) hb rfl, m.ld (jb + 1) hb rfl, m.ld (ja + 1) ha rfl, m.ld (ja + 1) ha rfl, m.ld 4 rfl rfl⟩
      refine ⟨_, fun _ h => h.1, _, fun _ h => h.2.1, _, fun _ h => h.2.2.1, _, fun _ h => h.2.2.2.1, _, fun _ h => h.2.2.2.2, ?_⟩
      refine wsub_spec (by omega) (by omega) fun w4 hf => ?_
      have m : Mem w0 w4 _ := m.fr hf
      refine ⟨?_, ?_⟩
      · exact ⟨m.ld (jb + 1) hb rfl, m.ld (jb + 1) hb rfl, m.ld (ja + 1) ha rfl, m.ld (ja + 1) ha rfl, m.ld 4 rfl rfl⟩
      refine ⟨m.wr 0 rfl rfl, ?_⟩
      intro w5
      have m : Mem w0 w5 _ := m.set 0 rfl
      clear_value w5
      refine ⟨m.wr 0 rfl rfl, ?_⟩
      intro w6
      have m : Mem w0 w6 _ := m.set 0 rfl
      clear_value w6
      refine ⟨?_, ?_⟩
      · exact ⟨m.ld (jb + 1) hb rfl, m.ld (jb + 1) hb rfl, m.ld (ja + 1) ha rfl, m.ld (ja + 1) ha rfl, m.ld 4 rfl rfl⟩
      exact sum_k1_spec m (by omega) hg bg bxd byd hz hk
end
end Go.Proofs.YtfclokkfnkieoaaGreatDoor

/- Sums of two numbers, as package ratio computes them. Conditions: none. -/
namespace Go.Proofs.YtfclokkfnkieoaaGreatDoor
open Go Pw

section
variable {w : World}

set_option maxHeartbeats 1000000 in
theorem sum_spec {xs ys : Bool} {xn xd yn yd : Nat} {K : Int → Int → Bool → World → Prop} (hx : Nat.Coprime xn xd) (hy : Nat.Coprime yn yd) (hxd : 0 < xd) (hyd : 0 < yd)
    (bxn : xn ≤ 9223372036854775808) (bxd : xd ≤ 9223372036854775808) (byn : yn ≤ 9223372036854775808) (byd : yd ≤ 9223372036854775808)
    (hK : ∀ w', Fr F0 w w' → Kr K (fitQ (mkRat (sgn xs xn) xd + mkRat (sgn ys yn) yd)) w') : ratio_sum_sh xs xn xd ys yn yd K w := by
  have hg : 0 < Nat.gcd xd yd := Nat.gcd_pos_of_pos_right _ hyd
  have bg : Nat.gcd xd yd < 18446744073709551616 := by have := Nat.gcd_le_left yd hxd; omega
  have l1 : yd / Nat.gcd xd yd ≤ 9223372036854775808 := Nat.le_trans (Nat.div_le_self _ _) byd
  have l2 : xd / Nat.gcd xd yd ≤ 9223372036854775808 := Nat.le_trans (Nat.div_le_self _ _) bxd
  have hA : xn * (yd / Nat.gcd xd yd) < 170141183460469231731687303715884105728 := Nat.lt_of_le_of_lt (Nat.mul_le_mul bxn l1) (by decide)
  have hB : yn * (xd / Nat.gcd xd yd) < 170141183460469231731687303715884105728 := Nat.lt_of_le_of_lt (Nat.mul_le_mul byn l2) (by decide)
  have i1 : xn < 18446744073709551616 := by omega
  have i2 : yd / Nat.gcd xd yd < 18446744073709551616 := by omega
  have i3 : yn < 18446744073709551616 := by omega
  have i4 : xd / Nat.gcd xd yd < 18446744073709551616 := by omega
  have bxd' : xd < 18446744073709551616 := by omega
  have byd' : yd < 18446744073709551616 := by omega
  have hfin : ∀ s n, sumS xs ys (xn * (yd / Nat.gcd xd yd)) (yn * (xd / Nat.gcd xd yd)) = (s, n) → (n = 0 → ∀ w', Fr F0 w w' → K 0 1 true w') ∧ ∀ w', Fr F0 w w' → Kr K (ratI s (n / Nat.gcd (Nat.gcd xd yd) (n % Nat.gcd xd yd)) (xd / Nat.gcd xd yd * (yd / Nat.gcd (Nat.gcd xd yd) (n % Nat.gcd xd yd)))) w' := by
    intro s n hs
    obtain ⟨h1, h2⟩ := sum_q hx hy (by omega) (by omega) rfl hs
    refine ⟨fun h0 w' hf => ?_, fun w' hf => ?_⟩
    · have := hK w' hf
      rw [h1 h0] at this
      exact this
    · rw [h2]
      exact hK w' hf
  have r : ∀ a b : Nat, a / b < 18446744073709551616 → inR .u64 (Int.tdiv (a : Int) (b : Int)) := fun a b h => by
    rw [tdivN]
    exact inRu (Int.natCast_nonneg _) (by omega)
  refine ⟨?_⟩
  unfold ratio_sum_sd
  intro w1
  have m : Mem w w1 _ := Mem.nil.alloc
  clear_value w1
  intro w2
  have m : Mem w w2 _ := m.alloc
  clear_value w2
  intro w3
  have m : Mem w w3 _ := m.alloc
  clear_value w3
  refine ⟨_, m.ld 2 rfl rfl, _, m.ld 1 rfl rfl, gcd_spec fun w4 hf => ?_⟩
  have m : Mem w w4 _ := m.fr hf
  intro w5
  have m : Mem w w5 _ := m.drew
  clear_value w5
  refine ⟨fun u => Rs u _, m.sub 0 rfl, _, fun _ h => h.ld 2 rfl rfl, _, fun _ h => h.ld 1 rfl rfl, by omega, r _ _ i2, _, fun _ h => h.ld 1 rfl rfl, _, fun _ h => h.ld 2 rfl rfl, by omega, r _ _ i4, ?_⟩
  simp -zeta only [tdivN]
  generalize Nat.gcd xd yd = g at *
  generalize yd / g = q at *
  repeat' first
    | exact sum_k0_spec m 0 1 rfl rfl hA hB hg bg bxd' byd' hfin
    | exact sum_k0_spec m 1 0 rfl rfl hA hB hg bg bxd' byd' hfin
    | refine ⟨m.sub 0 rfl, ?_⟩
    | refine ⟨m.sub 1 rfl, ?_⟩
    | refine ⟨m.sub 2 rfl, ?_⟩
    | refine ⟨m.wr 0 rfl rfl, ?_⟩
    | refine ⟨m.wr 1 rfl rfl, ?_⟩
    | (refine product_spec i1 i2 fun w1 hf => ?_; have m := m.fr hf)
    | (refine product_spec i3 i4 fun w1 hf => ?_; have m := m.fr hf)
    | (intro w1; have m : Mem w w1 _ := m.alloc; clear_value w1)
    | (intro w1; have m : Mem w w1 _ := m.set 0 rfl; clear_value w1)
    | (intro w1; have m : Mem w w1 _ := m.set 1 rfl; clear_value w1)
    | refine ⟨?_, ?_⟩
end
end Go.Proofs.YtfclokkfnkieoaaGreatDoor

/- The operations of package ratio: Add, Sub, Mul, Quo. Conditions: none. -/
namespace Go.Proofs.YtfclokkfnkieoaaGreatDoor
open Go Pw

section
variable {w : World}

theorem right_cop {n d : Int} (h : rightP n d) : Nat.Coprime n.natAbs d.natAbs := h.2

def fv (s : Bool) (n d : Nat) : Value := .agg #[.bool s, .int .u64 n, .int .u64 d]
def rv (r : RR) : Value := .tuple #[.agg #[.int .i64 r.n, .int .i64 r.d], .bool r.ok]

theorem checked_spec {n d n' d' : Int} {f : Value} {r : RR} {K : Int → Int → Bool → World → Prop} (hn : I64 n) (hd : I64 d) (hn' : I64 n') (hd' : I64 d')
    (hf : rightP n d → rightP n' d' → ∀ w1, Fr F0 w w1 → CallV Tryz.prog f [fv (decide (n < 0)) n.natAbs d.natAbs, fv (decide (n' < 0)) n'.natAbs d'.natAbs] w1 fun u w2 => u = rv r ∧ Fr F0 w1 w2)
    (hK : ∀ w', Fr F0 w w' → Kr K (if rightP n d ∧ rightP n' d' then r else zr) w') : ratio_checked_sh n d n' d' f K w := by
  refine ⟨?_⟩
  unfold ratio_checked_sd
  intro w1
  have m : Mem w w1 _ := Mem.nil.alloc
  clear_value w1
  intro w2
  have m : Mem w w2 _ := m.alloc
  clear_value w2
  intro w3
  have m : Mem w w3 _ := m.alloc
  clear_value w3
  refine ⟨_, m.ld 2 rfl rfl, _, m.ld 2 rfl rfl, _, m.ld 1 rfl rfl, _, m.ld 1 rfl rfl, both_spec hn hd hn' hd' fun w4 hf4 => ?_⟩
  have m : Mem w w4 _ := m.fr hf4
  by_cases h : rightP n d ∧ rightP n' d'
  · rw [if_pos h] at hK
    have e : (!(decide (rightP n d) && decide (rightP n' d'))) = false := by simp [h.1, h.2]
    rw [e, cnd_false]
    intro w5
    have m : Mem w w5 _ := m.drew
    clear_value w5
    refine ⟨fun u => Rs u _, m.sub 0 rfl, _, fun _ h => h.ld 2 rfl rfl, _, fun _ h => h.ld 2 rfl rfl, _, fun _ h => h.ld 1 rfl rfl, _, fun _ h => h.ld 1 rfl rfl, ?_⟩
    refine of_spec hn hd fun w6 hf6 => ?_
    have m : Mem w w6 _ := m.fr hf6
    refine ⟨m.sub 0 rfl, of_spec hn' hd' fun w7 hf7 => ?_⟩
    have m : Mem w w7 _ := m.fr hf7
    refine ⟨m.sub 0 rfl, ?_⟩
    refine (hf h.1 h.2 w7 m.1).mono fun u w8 hu => ?_
    obtain ⟨rfl, hf8⟩ := hu
    have m : Mem w w8 _ := m.fr hf8
    exact ⟨_, _, _, rfl, m.sub 0 rfl, put2b m 0 rfl hK⟩
  · rw [if_neg h] at hK
    have e : (!(decide (rightP n d) && decide (rightP n' d'))) = true := by
      simp only [Bool.not_eq_true', Bool.and_eq_false_iff, decide_eq_false_iff_not]
      by_cases h1 : rightP n d
      · exact .inr fun h2 => h ⟨h1, h2⟩
      · exact .inl h1
    rw [e, cnd_true]
    exact zero_spec fun w5 hf5 => put2b (m.fr hf5) 0 rfl hK

theorem I64.abs {n : Int} (h : I64 n) : n.natAbs ≤ 9223372036854775808 := by have := h.1; have := h.2; omega
theorem I64.abs' {n : Int} (h : I64 n) : n.natAbs < 18446744073709551616 := by have := h.1; have := h.2; omega

theorem Add_spec {n d n' d' : Int} {K : Int → Int → Bool → World → Prop} (hn : I64 n) (hd : I64 d) (hn' : I64 n') (hd' : I64 d')
    (hK : ∀ w', Fr F0 w w' → Kr K (addQ n d n' d') w') : ratio_Add_sh n d n' d' K w := by
  refine ⟨?_⟩
  unfold ratio_Add_sd
  intro w1
  have m : Mem w w1 _ := Mem.nil.alloc
  clear_value w1
  intro w2
  have m : Mem w w2 _ := m.alloc
  clear_value w2
  intro w3
  have m : Mem w w3 _ := m.alloc
  clear_value w3
  refine ⟨_, m.ld 2 rfl rfl, _, m.ld 2 rfl rfl, _, m.ld 1 rfl rfl, _, m.ld 1 rfl rfl, ?_⟩
  refine checked_spec (r := fitQ (val n d + val n' d')) hn hd hn' hd' (fun h h' w4 hf4 => callV_of ratio_sum_ok ?_) fun w4 hf4 => put2b (m.fr hf4) 0 rfl hK
  refine sum_spec (right_cop h) (right_cop h') (by have := h.1; omega) (by have := h'.1; omega) hn.abs hd.abs hn'.abs hd'.abs fun w5 hf5 => ?_
  rw [val_eq h.1, val_eq h'.1]
  exact ⟨rfl, hf5⟩

theorem Mul_spec {n d n' d' : Int} {K : Int → Int → Bool → World → Prop} (hn : I64 n) (hd : I64 d) (hn' : I64 n') (hd' : I64 d')
    (hK : ∀ w', Fr F0 w w' → Kr K (mulQ n d n' d') w') : ratio_Mul_sh n d n' d' K w := by
  refine ⟨?_⟩
  unfold ratio_Mul_sd
  intro w1
  have m : Mem w w1 _ := Mem.nil.alloc
  clear_value w1
  intro w2
  have m : Mem w w2 _ := m.alloc
  clear_value w2
  intro w3
  have m : Mem w w3 _ := m.alloc
  clear_value w3
  refine ⟨_, m.ld 2 rfl rfl, _, m.ld 2 rfl rfl, _, m.ld 1 rfl rfl, _, m.ld 1 rfl rfl, ?_⟩
  refine checked_spec (r := fitQ (val n d * val n' d')) hn hd hn' hd' (fun h h' w4 hf4 => callV_of ratio_times_ok ?_) fun w4 hf4 => put2b (m.fr hf4) 0 rfl hK
  refine times_spec (right_cop h) (right_cop h') (by have := h.1; omega) (by have := h'.1; omega) hn.abs' hd.abs' hn'.abs' hd'.abs' fun w5 hf5 => ?_
  rw [val_eq h.1, val_eq h'.1]
  exact ⟨rfl, hf5⟩

theorem Sub1_spec {xs ys : Bool} {xn xd yn yd : Nat} {K : Int → Int → Bool → World → Prop} (hx : Nat.Coprime xn xd) (hy : Nat.Coprime yn yd) (hxd : 0 < xd) (hyd : 0 < yd)
    (bxn : xn ≤ 9223372036854775808) (bxd : xd ≤ 9223372036854775808) (byn : yn ≤ 9223372036854775808) (byd : yd ≤ 9223372036854775808)
    (hK : ∀ w', Fr F0 w w' → Kr K (fitQ (mkRat (sgn xs xn) xd + mkRat (sgn (!ys) yn) yd)) w') : ratio_Sub_1_sh xs xn xd ys yn yd K w := by
  refine ⟨?_⟩
  unfold ratio_Sub_1_sd
  intro w1
  have m : Mem w w1 _ := Mem.nil.alloc
  clear_value w1
  intro w2
  have m : Mem w w2 _ := m.alloc
  clear_value w2
  intro w3
  have m : Mem w w3 _ := m.alloc
  clear_value w3
  refine ⟨_, m.ld 1 rfl rfl, m.wr 1 rfl rfl, ?_⟩
  intro w4
  have m : Mem w w4 _ := m.set 1 rfl
  clear_value w4
  refine ⟨_, m.ld 2 rfl rfl, _, m.ld 2 rfl rfl, _, m.ld 2 rfl rfl, _, m.ld 1 rfl rfl, _, m.ld 1 rfl rfl, _, m.ld 1 rfl rfl, ?_⟩
  exact sum_spec hx hy hxd hyd bxn bxd byn byd fun w5 hf5 => put2b (m.fr hf5) 0 rfl hK

theorem Sub_spec {n d n' d' : Int} {K : Int → Int → Bool → World → Prop} (hn : I64 n) (hd : I64 d) (hn' : I64 n') (hd' : I64 d')
    (hK : ∀ w', Fr F0 w w' → Kr K (subQ n d n' d') w') : ratio_Sub_sh n d n' d' K w := by
  refine ⟨?_⟩
  unfold ratio_Sub_sd
  intro w1
  have m : Mem w w1 _ := Mem.nil.alloc
  clear_value w1
  intro w2
  have m : Mem w w2 _ := m.alloc
  clear_value w2
  intro w3
  have m : Mem w w3 _ := m.alloc
  clear_value w3
  refine ⟨_, m.ld 2 rfl rfl, _, m.ld 2 rfl rfl, _, m.ld 1 rfl rfl, _, m.ld 1 rfl rfl, ?_⟩
  refine checked_spec (r := fitQ (val n d - val n' d')) hn hd hn' hd' (fun h h' w4 hf4 => callV_of ratio_Sub_1_ok ?_) fun w4 hf4 => put2b (m.fr hf4) 0 rfl hK
  refine Sub1_spec (right_cop h) (right_cop h') (by have := h.1; omega) (by have := h'.1; omega) hn.abs hd.abs hn'.abs hd'.abs fun w5 hf5 => ?_
  rw [val_eq h.1, val_neg h'.1, ← Rat.sub_eq_add_neg]
  exact ⟨rfl, hf5⟩

theorem Quo1_spec {xs ys : Bool} {xn xd yn yd : Nat} {b : Nat} {n' y : Int} {K : Int → Int → Bool → World → Prop} (hb : Row w b [.int .i64 n', .int .i64 y]) (hyn : n' = 0 ↔ yn = 0) (hx : Nat.Coprime xn xd) (hy : Nat.Coprime yn yd) (hxd : 0 < xd)
    (bxn : xn < 18446744073709551616) (bxd : xd < 18446744073709551616) (byn : yn < 18446744073709551616) (byd : yd < 18446744073709551616)
    (hK : ∀ w', Fr F0 w w' → Kr K (if n' = 0 then zr else fitQ (mkRat (sgn xs xn) xd * mkRat (sgn ys yd) yn)) w') : ratio_Quo_1_sh xs xn xd ys yn yd ⟨b, 0, none⟩ K w := by
  refine ⟨?_⟩
  unfold ratio_Quo_1_sd
  intro w1
  have m : Mem w w1 _ := Mem.nil.alloc
  clear_value w1
  intro w2
  have m : Mem w w2 _ := m.alloc
  clear_value w2
  intro w3
  have m : Mem w w3 _ := m.alloc
  clear_value w3
  have hb3 : Row w3 b _ := m.1.row hb fun h => h
  refine ⟨_, hb3.at rfl, ?_⟩
  rw [cnd_beq]
  constructor
  · intro h0
    rw [if_pos h0] at hK
    exact zero_spec fun w4 hf4 => put2b (m.fr hf4) 0 rfl hK
  · intro h0
    rw [if_neg h0] at hK
    refine ⟨_, m.ld 2 rfl rfl, _, m.ld 2 rfl rfl, _, m.ld 2 rfl rfl, _, m.ld 1 rfl rfl, _, m.ld 1 rfl rfl, _, m.ld 1 rfl rfl, ?_⟩
    refine times_spec hx hy.symm hxd (by rcases Nat.eq_zero_or_pos yn with h | h; exact absurd (hyn.2 h) h0; exact h) bxn bxd byd byn fun w5 hf5 => put2b (m.fr hf5) 0 rfl hK

theorem Quo_spec {n d n' d' : Int} {K : Int → Int → Bool → World → Prop} (hn : I64 n) (hd : I64 d) (hn' : I64 n') (hd' : I64 d')
    (hK : ∀ w', Fr F0 w w' → Kr K (quoQ n d n' d') w') : ratio_Quo_sh n d n' d' K w := by
  refine ⟨?_⟩
  unfold ratio_Quo_sd
  intro w1
  have m : Mem w w1 _ := Mem.nil.alloc
  clear_value w1
  intro w2
  have m : Mem w w2 _ := m.alloc
  clear_value w2
  intro w3
  have m : Mem w w3 _ := m.alloc
  clear_value w3
  have hrow : Row w3 w1.heap.size [.int .i64 n', .int .i64 d'] := m.2.1 (w1.heap.size, [.int .i64 n', .int .i64 d']) (by simp)
  refine ⟨_, m.ld 2 rfl rfl, _, m.ld 2 rfl rfl, _, m.ld 1 rfl rfl, _, m.ld 1 rfl rfl, ?_⟩
  refine checked_spec (r := if n' = 0 then zr else fitQ (val n d / val n' d')) hn hd hn' hd' (fun h h' w4 hf4 => callV_of ratio_Quo_1_ok ?_) fun w4 hf4 => put2b (m.fr hf4) 0 rfl hK
  refine Quo1_spec (hf4.row hrow fun h => h) (by omega) (right_cop h) (right_cop h') (by have := h.1; omega) hn.abs' hd.abs' hn'.abs' hd'.abs' fun w5 hf5 => ?_
  rw [val_eq h.1, val_inv h'.1, ← Rat.div_def]
  exact ⟨rfl, hf5⟩
end
end Go.Proofs.YtfclokkfnkieoaaGreatDoor

/- The operations of package ratio: Cmp, Floor. Conditions: none. -/
namespace Go.Proofs.YtfclokkfnkieoaaGreatDoor
open Go Pw

theorem cmpI_lt {x y : Int} (h : x < y) : cmpI x y = -1 := by unfold cmpI; rw [if_pos h]
theorem cmpI_gt {x y : Int} (h : y < x) : cmpI x y = 1 := by unfold cmpI; rw [if_neg (by omega), if_pos h]
theorem cmpI_eq {x y : Int} (h : x = y) : cmpI x y = 0 := by unfold cmpI; rw [if_neg (by omega), if_neg (by omega)]
theorem cmpI_neg {x y : Int} : cmpI (-x) (-y) = -cmpI x y := by
  rcases Int.lt_trichotomy x y with h | h | h
  · rw [cmpI_lt h, cmpI_gt (by omega)]; rfl
  · rw [cmpI_eq h, cmpI_eq (by omega)]; rfl
  · rw [cmpI_gt h, cmpI_lt (by omega)]

theorem cmp_apart {n d n' d' : Int} (hd : 0 < d) (hd' : 0 < d') (h : ¬ (decide (n < 0) = decide (n' < 0))) : cmpI n n' = cmpI (n * d') (n' * d) := by
  rcases Int.lt_or_le n 0 with h1 | h1
  · have h2 : 0 ≤ n' := by
      rcases Int.lt_or_le n' 0 with h2 | h2
      · exact absurd (by simp [h1, h2]) h
      · exact h2
    rw [cmpI_lt (by omega)]
    have e1 : n * d' < 0 := Int.mul_neg_of_neg_of_pos h1 hd'
    have e2 : 0 ≤ n' * d := Int.mul_nonneg h2 (by omega)
    rw [cmpI_lt (by omega)]
  · have h2 : n' < 0 := by
      rcases Int.lt_or_le n' 0 with h2 | h2
      · exact h2
      · exact absurd (by simp [show ¬ n < 0 by omega, show ¬ n' < 0 by omega]) h
    rw [cmpI_gt (by omega)]
    have e1 : n' * d < 0 := Int.mul_neg_of_neg_of_pos h2 hd
    have e2 : 0 ≤ n * d' := Int.mul_nonneg h1 (by omega)
    rw [cmpI_gt (by omega)]

theorem cmp_alike {n d n' d' : Int} (hd : 0 < d) (hd' : 0 < d') (h : decide (n < 0) = decide (n' < 0)) :
    (if n < 0 then -cmpI ((n.natAbs * d'.natAbs : Nat) : Int) ((n'.natAbs * d.natAbs : Nat) : Int) else cmpI ((n.natAbs * d'.natAbs : Nat) : Int) ((n'.natAbs * d.natAbs : Nat) : Int)) = cmpI (n * d') (n' * d) := by
  have ed : (d.natAbs : Int) = d := by omega
  have ed' : (d'.natAbs : Int) = d' := by omega
  rw [Int.natCast_mul, Int.natCast_mul, ed, ed']
  by_cases h1 : n < 0
  · have h2 : n' < 0 := by simpa [h1] using h.symm
    rw [if_pos h1]
    have e1 : (n.natAbs : Int) = -n := by omega
    have e2 : (n'.natAbs : Int) = -n' := by omega
    rw [e1, e2, Int.neg_mul, Int.neg_mul, cmpI_neg, Int.neg_neg]
  · have h2 : ¬ n' < 0 := by simpa [h1] using h.symm
    rw [if_neg h1]
    have e1 : (n.natAbs : Int) = n := by omega
    have e2 : (n'.natAbs : Int) = n' := by omega
    rw [e1, e2]

theorem cmpI_range (x y : Int) : -1 ≤ cmpI x y ∧ cmpI x y ≤ 1 := by
  unfold cmpI
  split
  · decide
  · split <;> decide

section
variable {w w0 : World}

theorem Cmp_k0_spec {ba bb b1 b2 bx by' : Nat} {c1 c2 : List Value} {n d n' d' : Int} {K : Int → World → Prop} (hn : I64 n) (hd : I64 d) (hn' : I64 n') (hd' : I64 d') (pd : 0 < d) (pd' : 0 < d')
    (m : Mem w0 w [(b1, c1), (b2, c2), (bb, [.int .i64 n', .int .i64 d']), (ba, [.int .i64 n, .int .i64 d])]) (jx jy : Nat)
    (hx : [(b1, c1), (b2, c2), (bb, [.int .i64 n', .int .i64 d']), (ba, [.int .i64 n, .int .i64 d])][jx]? = some (bx, [.bool (decide (n < 0)), .int .u64 (n.natAbs : Int), .int .u64 (d.natAbs : Int)]))
    (hy : [(b1, c1), (b2, c2), (bb, [.int .i64 n', .int .i64 d']), (ba, [.int .i64 n, .int .i64 d])][jy]? = some (by', [.bool (decide (n' < 0)), .int .u64 (n'.natAbs : Int), .int .u64 (d'.natAbs : Int)]))
    (hK : ∀ w', Fr F0 w0 w' → K (cmpI (n * d') (n' * d)) w') : ratio_Cmp_k0 ⟨ba, 0, none⟩ ⟨bb, 0, none⟩ ⟨bx, 0, none⟩ ⟨by', 0, none⟩ K w := by
  refine ⟨?_⟩
  unfold ratio_Cmp_k0d
  simp -zeta only [add_mk, Nat.zero_add]
  refine ⟨_, m.ld jx hx rfl, _, m.ld jy hy rfl, ?_⟩
  rw [cnd_iff]
  constructor
  · intro h
    refine ⟨_, m.ld 3 rfl rfl, _, m.ld 2 rfl rfl, Compare_i ?_⟩
    rw [cmp_apart pd pd' (by simpa using h)]
    exact hK w m.1
  · intro h
    have hs : decide (n < 0) = decide (n' < 0) := by simpa using h
    intro w1
    have m : Mem w0 w1 _ := m.drew
    clear_value w1
    refine ⟨fun u => Rs u _, m.sub 0 rfl, _, fun _ h => h.ld jx hx rfl, _, fun _ h => h.ld jy hy rfl, _, fun _ h => h.ld jy hy rfl, _, fun _ h => h.ld jx hx rfl, ?_⟩
    refine product_spec hn.abs' hd'.abs' fun w2 hf => ?_
    have m : Mem w0 w2 _ := m.fr hf
    refine ⟨m.sub 0 rfl, product_spec hn'.abs' hd.abs' fun w3 hf => ?_⟩
    have m : Mem w0 w3 _ := m.fr hf
    refine ⟨m.sub 0 rfl, compare_spec fun w4 hf => ?_⟩
    have m : Mem w0 w4 _ := m.fr hf
    have hr := cmpI_range ((n.natAbs * d'.natAbs : Nat) : Int) ((n'.natAbs * d.natAbs : Nat) : Int)
    have hc := cmp_alike pd pd' hs
    refine ⟨m.sub 0 rfl, _, m.ld jx hx rfl, ?_⟩
    rw [cnd_prop]
    constructor
    · intro h1
      rw [if_pos h1] at hc
      rw [hc]
      have hr2 := cmpI_range (n * d') (n' * d)
      exact ⟨inR64 (by omega) (by omega), hK w4 m.1⟩
    · intro h1
      rw [if_neg h1] at hc
      rw [hc]
      exact hK w4 m.1

set_option maxHeartbeats 1000000 in
theorem Cmp_spec {n d n' d' : Int} {K : Int → World → Prop} (hn : I64 n) (hd : I64 d) (hn' : I64 n') (hd' : I64 d')
    (hK : ∀ w', Fr F0 w w' → K (cmpQ n d n' d') w') : ratio_Cmp_sh n d n' d' K w := by
  unfold cmpQ at hK
  refine ⟨?_⟩
  unfold ratio_Cmp_sd
  intro w1
  have m : Mem w w1 _ := Mem.nil.alloc
  clear_value w1
  intro w2
  have m : Mem w w2 _ := m.alloc
  clear_value w2
  refine ⟨_, m.ld 1 rfl rfl, _, m.ld 1 rfl rfl, _, m.ld 0 rfl rfl, _, m.ld 0 rfl rfl, both_spec hn hd hn' hd' fun w4 hf4 => ?_⟩
  have m : Mem w w4 _ := m.fr hf4
  by_cases h : rightP n d ∧ rightP n' d'
  · rw [if_pos h] at hK
    have e : (!(decide (rightP n d) && decide (rightP n' d'))) = false := by simp [h.1, h.2]
    rw [e, cnd_false]
    have pd := h.1.1
    have pd' := h.2.1
    intro w5
    have m : Mem w w5 _ := m.drew
    clear_value w5
    refine ⟨fun u => Rs u _, m.sub 0 rfl, _, fun _ h => h.ld 1 rfl rfl, _, fun _ h => h.ld 1 rfl rfl, _, fun _ h => h.ld 0 rfl rfl, _, fun _ h => h.ld 0 rfl rfl, ?_⟩
    repeat' first
      | exact Cmp_k0_spec hn hd hn' hd' pd pd' m 0 1 rfl rfl hK
      | exact Cmp_k0_spec hn hd hn' hd' pd pd' m 1 0 rfl rfl hK
      | refine ⟨m.sub 0 rfl, ?_⟩
      | refine ⟨m.sub 1 rfl, ?_⟩
      | refine ⟨m.sub 2 rfl, ?_⟩
      | refine ⟨m.wr 0 rfl rfl, ?_⟩
      | refine ⟨m.wr 1 rfl rfl, ?_⟩
      | (refine of_spec hn hd fun w1 hf => ?_; have m := m.fr hf)
      | (refine of_spec hn' hd' fun w1 hf => ?_; have m := m.fr hf)
      | (intro w1; have m : Mem w w1 _ := m.alloc; clear_value w1)
      | (intro w1; have m : Mem w w1 _ := m.set 0 rfl; clear_value w1)
      | (intro w1; have m : Mem w w1 _ := m.set 1 rfl; clear_value w1)
      | refine ⟨?_, ?_⟩
  · rw [if_neg h] at hK
    have e : (!(decide (rightP n d) && decide (rightP n' d'))) = true := by
      simp only [Bool.not_eq_true', Bool.and_eq_false_iff, decide_eq_false_iff_not]
      by_cases h1 : rightP n d
      · exact .inr fun h2 => h ⟨h1, h2⟩
      · exact .inl h1
    rw [e, cnd_true]
    exact hK w4 m.1

/-- The quotient rounded down, as the code reckons it. -/
theorem floor_code {n d : Int} (hd : 0 < d) : (Int.tmod n d < 0 → Int.tdiv n d - 1 = n / d) ∧ (¬ Int.tmod n d < 0 → Int.tdiv n d = n / d) := by
  have h1 := Int.tmod_add_mul_tdiv n d
  have h2 := Int.emod_add_mul_ediv n d
  have h3 := Int.emod_nonneg n (show d ≠ 0 by omega)
  have h4 := Int.emod_lt_of_pos n hd
  have h5 : -d < Int.tmod n d ∧ Int.tmod n d < d := by
    have := Int.natAbs_tmod n d
    have h7 : n.natAbs % d.natAbs < d.natAbs := Nat.mod_lt _ (by omega)
    rw [← this] at h7
    omega
  generalize Int.tmod n d = r at *
  generalize Int.tdiv n d = q at *
  generalize n % d = r' at *
  generalize n / d = q' at *
  have h6 : d * (q - q') = r' - r := by rw [Int.mul_sub]; omega
  constructor
  · intro hr
    have g1 : d * 0 < d * (q - q') := by rw [h6]; omega
    have g2 : d * (q - q') < d * 2 := by rw [h6]; omega
    have := Int.lt_of_mul_lt_mul_left g1 (by omega)
    have := Int.lt_of_mul_lt_mul_left g2 (by omega)
    omega
  · intro hr
    have g1 : d * (-1) < d * (q - q') := by rw [h6]; omega
    have g2 : d * (q - q') < d * 1 := by rw [h6]; omega
    have := Int.lt_of_mul_lt_mul_left g1 (by omega)
    have := Int.lt_of_mul_lt_mul_left g2 (by omega)
    omega

theorem Floor_spec {n d : Int} {K : Int → World → Prop} (hn : I64 n) (hd : I64 d) (hK : ∀ w', Fr F0 w w' → K (floorQ n d) w') : ratio_Floor_sh n d K w := by
  unfold floorQ at hK
  refine ⟨?_⟩
  unfold ratio_Floor_sd
  intro w1
  have m : Mem w w1 _ := Mem.nil.alloc
  clear_value w1
  refine ⟨_, m.ld 0 rfl rfl, _, m.ld 0 rfl rfl, Right_spec hn hd fun w2 hf => ?_⟩
  have m : Mem w w2 _ := m.fr hf
  by_cases h : rightP n d
  · rw [if_pos h] at hK
    rw [decide_eq_true h, Bool.not_true, cnd_false]
    have hpos := h.1
    have hb1 : n / d ≤ 9223372036854775807 ∧ -9223372036854775808 ≤ n / d := by
      have a1 := hn.1
      have a2 := hn.2
      constructor
      · rcases Int.lt_or_le n 0 with hh | hh
        · have := Int.ediv_neg_of_neg_of_pos hh hpos; omega
        · have := Int.ediv_le_self d hh; omega
      · rw [Int.le_ediv_iff_mul_le hpos]
        have : -9223372036854775808 * d ≤ -9223372036854775808 * 1 := Int.mul_le_mul_of_nonpos_left (by omega) (by omega)
        omega
    obtain ⟨f1, f2⟩ := floor_code (n := n) hpos
    have hq : I64 (Int.tdiv n d) := by
      by_cases hr : Int.tmod n d < 0
      · have h1 := f1 hr
        have h2 : n < 0 := by
          rcases Int.lt_or_le n 0 with hh | hh
          · exact hh
          · have := Int.tmod_nonneg d hh
            omega
        have h3 := Int.ediv_neg_of_neg_of_pos h2 hpos
        unfold I64
        omega
      · have h1 := f2 hr
        unfold I64
        omega
    refine ⟨_, m.ld 0 rfl rfl, _, m.ld 0 rfl rfl, by omega, inR64 hq.1 hq.2, _, m.ld 0 rfl rfl, _, m.ld 0 rfl rfl, by omega, ?_⟩
    rw [cnd_prop]
    constructor
    · intro hr
      rw [f1 hr]
      exact ⟨inR64 (by omega) (by omega), hK w2 m.1⟩
    · intro hr
      rw [f2 hr]
      exact hK w2 m.1
  · rw [if_neg h] at hK
    rw [decide_eq_false h, Bool.not_false, cnd_true]
    exact hK w2 m.1
end
end Go.Proofs.YtfclokkfnkieoaaGreatDoor

