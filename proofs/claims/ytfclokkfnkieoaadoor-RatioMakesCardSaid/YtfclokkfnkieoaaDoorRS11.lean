/- The operations of package ratio: Cmp, Floor. Conditions: none. -/
import Derived.Test.YtfclokkfnkieoaaDoorRS10
namespace Go.Proofs.YtfclokkfnkieoaaDoor
open Go Pw

theorem cmpI_lt {x y : Int} (h : x < y) : cmpI x y = -1 := by unfold cmpI; rw [if_pos h]
theorem cmpI_gt {x y : Int} (h : y < x) : cmpI x y = 1 := by unfold cmpI; rw [if_neg (by omega), if_pos h]
theorem cmpI_eq {x y : Int} (h : x = y) : cmpI x y = 0 := by unfold cmpI; rw [if_neg (by omega), if_neg (by omega)]
theorem cmpI_neg {x y : Int} : cmpI (-x) (-y) = -cmpI x y := by
  rcases Int.lt_trichotomy x y with h | h | h
  · rw [cmpI_lt h, cmpI_gt (by omega)]; rfl
  · rw [cmpI_eq h, cmpI_eq (by omega)]; rfl
  · rw [cmpI_gt h, cmpI_lt (by omega)]

theorem cmp_apart {n d n' d' : Int} (hd : 0 < d) (hd' : 0 < d') (h : ¬ (decide (n < 0) = decide (n' < 0))) : cmpI n n' = cmpI (n * d') (n' * d) := by
  rcases Int.lt_or_le n 0 with h1 | h1
  · have h2 : 0 ≤ n' := by
      rcases Int.lt_or_le n' 0 with h2 | h2
      · exact absurd (by simp [h1, h2]) h
      · exact h2
    rw [cmpI_lt (by omega)]
    have e1 : n * d' < 0 := Int.mul_neg_of_neg_of_pos h1 hd'
    have e2 : 0 ≤ n' * d := Int.mul_nonneg h2 (by omega)
    rw [cmpI_lt (by omega)]
  · have h2 : n' < 0 := by
      rcases Int.lt_or_le n' 0 with h2 | h2
      · exact h2
      · exact absurd (by simp [show ¬ n < 0 by omega, show ¬ n' < 0 by omega]) h
    rw [cmpI_gt (by omega)]
    have e1 : n' * d < 0 := Int.mul_neg_of_neg_of_pos h2 hd
    have e2 : 0 ≤ n * d' := Int.mul_nonneg h1 (by omega)
    rw [cmpI_gt (by omega)]

theorem cmp_alike {n d n' d' : Int} (hd : 0 < d) (hd' : 0 < d') (h : decide (n < 0) = decide (n' < 0)) :
    (if n < 0 then -cmpI ((n.natAbs * d'.natAbs : Nat) : Int) ((n'.natAbs * d.natAbs : Nat) : Int) else cmpI ((n.natAbs * d'.natAbs : Nat) : Int) ((n'.natAbs * d.natAbs : Nat) : Int)) = cmpI (n * d') (n' * d) := by
  have ed : (d.natAbs : Int) = d := by omega
  have ed' : (d'.natAbs : Int) = d' := by omega
  rw [Int.natCast_mul, Int.natCast_mul, ed, ed']
  by_cases h1 : n < 0
  · have h2 : n' < 0 := by simpa [h1] using h.symm
    rw [if_pos h1]
    have e1 : (n.natAbs : Int) = -n := by omega
    have e2 : (n'.natAbs : Int) = -n' := by omega
    rw [e1, e2, Int.neg_mul, Int.neg_mul, cmpI_neg, Int.neg_neg]
  · have h2 : ¬ n' < 0 := by simpa [h1] using h.symm
    rw [if_neg h1]
    have e1 : (n.natAbs : Int) = n := by omega
    have e2 : (n'.natAbs : Int) = n' := by omega
    rw [e1, e2]

theorem cmpI_range (x y : Int) : -1 ≤ cmpI x y ∧ cmpI x y ≤ 1 := by
  unfold cmpI
  split
  · decide
  · split <;> decide

section
variable {w w0 : World}

theorem Cmp_k0_spec {ba bb b1 b2 bx by' : Nat} {c1 c2 : List Value} {n d n' d' : Int} {K : Int → World → Prop} (hn : I64 n) (hd : I64 d) (hn' : I64 n') (hd' : I64 d') (pd : 0 < d) (pd' : 0 < d')
    (m : Mem w0 w [(b1, c1), (b2, c2), (bb, [.int .i64 n', .int .i64 d']), (ba, [.int .i64 n, .int .i64 d])]) (jx jy : Nat)
    (hx : [(b1, c1), (b2, c2), (bb, [.int .i64 n', .int .i64 d']), (ba, [.int .i64 n, .int .i64 d])][jx]? = some (bx, [.bool (decide (n < 0)), .int .u64 (n.natAbs : Int), .int .u64 (d.natAbs : Int)]))
    (hy : [(b1, c1), (b2, c2), (bb, [.int .i64 n', .int .i64 d']), (ba, [.int .i64 n, .int .i64 d])][jy]? = some (by', [.bool (decide (n' < 0)), .int .u64 (n'.natAbs : Int), .int .u64 (d'.natAbs : Int)]))
    (hK : ∀ w', Fr F0 w0 w' → K (cmpI (n * d') (n' * d)) w') : ratio_Cmp_k0 ⟨ba, 0, none⟩ ⟨bb, 0, none⟩ ⟨bx, 0, none⟩ ⟨by', 0, none⟩ K w := by
  refine ⟨?_⟩
  unfold ratio_Cmp_k0d
  simp -zeta only [add_mk, Nat.zero_add]
  refine ⟨_, m.ld jx hx rfl, _, m.ld jy hy rfl, ?_⟩
  rw [cnd_iff]
  constructor
  · intro h
    refine ⟨_, m.ld 3 rfl rfl, _, m.ld 2 rfl rfl, Compare_i ?_⟩
    rw [cmp_apart pd pd' (by simpa using h)]
    exact hK w m.1
  · intro h
    have hs : decide (n < 0) = decide (n' < 0) := by simpa using h
    intro w1
    have m : Mem w0 w1 _ := m.drew
    clear_value w1
    refine ⟨fun u => Rs u _, m.sub 0 rfl, _, fun _ h => h.ld jx hx rfl, _, fun _ h => h.ld jy hy rfl, _, fun _ h => h.ld jy hy rfl, _, fun _ h => h.ld jx hx rfl, ?_⟩
    refine product_spec hn.abs' hd'.abs' fun w2 hf => ?_
    have m : Mem w0 w2 _ := m.fr hf
    refine ⟨m.sub 0 rfl, product_spec hn'.abs' hd.abs' fun w3 hf => ?_⟩
    have m : Mem w0 w3 _ := m.fr hf
    refine ⟨m.sub 0 rfl, compare_spec fun w4 hf => ?_⟩
    have m : Mem w0 w4 _ := m.fr hf
    have hr := cmpI_range ((n.natAbs * d'.natAbs : Nat) : Int) ((n'.natAbs * d.natAbs : Nat) : Int)
    have hc := cmp_alike pd pd' hs
    refine ⟨m.sub 0 rfl, _, m.ld jx hx rfl, ?_⟩
    rw [cnd_prop]
    constructor
    · intro h1
      rw [if_pos h1] at hc
      rw [hc]
      have hr2 := cmpI_range (n * d') (n' * d)
      exact ⟨inR64 (by omega) (by omega), hK w4 m.1⟩
    · intro h1
      rw [if_neg h1] at hc
      rw [hc]
      exact hK w4 m.1

set_option maxHeartbeats 1000000 in
theorem Cmp_spec {n d n' d' : Int} {K : Int → World → Prop} (hn : I64 n) (hd : I64 d) (hn' : I64 n') (hd' : I64 d')
    (hK : ∀ w', Fr F0 w w' → K (cmpQ n d n' d') w') : ratio_Cmp_sh n d n' d' K w := by
  unfold cmpQ at hK
  refine ⟨?_⟩
  unfold ratio_Cmp_sd
  intro w1
  have m : Mem w w1 _ := Mem.nil.alloc
  clear_value w1
  intro w2
  have m : Mem w w2 _ := m.alloc
  clear_value w2
  refine ⟨_, m.ld 1 rfl rfl, _, m.ld 1 rfl rfl, _, m.ld 0 rfl rfl, _, m.ld 0 rfl rfl, both_spec hn hd hn' hd' fun w4 hf4 => ?_⟩
  have m : Mem w w4 _ := m.fr hf4
  by_cases h : rightP n d ∧ rightP n' d'
  · rw [if_pos h] at hK
    have e : (!(decide (rightP n d) && decide (rightP n' d'))) = false := by simp [h.1, h.2]
    rw [e, cnd_false]
    have pd := h.1.1
    have pd' := h.2.1
    intro w5
    have m : Mem w w5 _ := m.drew
    clear_value w5
    refine ⟨fun u => Rs u _, m.sub 0 rfl, _, fun _ h => h.ld 1 rfl rfl, _, fun _ h => h.ld 1 rfl rfl, _, fun _ h => h.ld 0 rfl rfl, _, fun _ h => h.ld 0 rfl rfl, ?_⟩
    repeat' first
      | exact Cmp_k0_spec hn hd hn' hd' pd pd' m 0 1 rfl rfl hK
      | exact Cmp_k0_spec hn hd hn' hd' pd pd' m 1 0 rfl rfl hK
      | refine ⟨m.sub 0 rfl, ?_⟩
      | refine ⟨m.sub 1 rfl, ?_⟩
      | refine ⟨m.sub 2 rfl, ?_⟩
      | refine ⟨m.wr 0 rfl rfl, ?_⟩
      | refine ⟨m.wr 1 rfl rfl, ?_⟩
      | (refine of_spec hn hd fun w1 hf => ?_; have m := m.fr hf)
      | (refine of_spec hn' hd' fun w1 hf => ?_; have m := m.fr hf)
      | (intro w1; have m : Mem w w1 _ := m.alloc; clear_value w1)
      | (intro w1; have m : Mem w w1 _ := m.set 0 rfl; clear_value w1)
      | (intro w1; have m : Mem w w1 _ := m.set 1 rfl; clear_value w1)
      | refine ⟨?_, ?_⟩
  · rw [if_neg h] at hK
    have e : (!(decide (rightP n d) && decide (rightP n' d'))) = true := by
      simp only [Bool.not_eq_true', Bool.and_eq_false_iff, decide_eq_false_iff_not]
      by_cases h1 : rightP n d
      · exact .inr fun h2 => h ⟨h1, h2⟩
      · exact .inl h1
    rw [e, cnd_true]
    exact hK w4 m.1

/-- The quotient rounded down, as the code reckons it. -/
theorem floor_code {n d : Int} (hd : 0 < d) : (Int.tmod n d < 0 → Int.tdiv n d - 1 = n / d) ∧ (¬ Int.tmod n d < 0 → Int.tdiv n d = n / d) := by
  have h1 := Int.tmod_add_mul_tdiv n d
  have h2 := Int.emod_add_mul_ediv n d
  have h3 := Int.emod_nonneg n (show d ≠ 0 by omega)
  have h4 := Int.emod_lt_of_pos n hd
  have h5 : -d < Int.tmod n d ∧ Int.tmod n d < d := by
    have := Int.natAbs_tmod n d
    have h7 : n.natAbs % d.natAbs < d.natAbs := Nat.mod_lt _ (by omega)
    rw [← this] at h7
    omega
  generalize Int.tmod n d = r at *
  generalize Int.tdiv n d = q at *
  generalize n % d = r' at *
  generalize n / d = q' at *
  have h6 : d * (q - q') = r' - r := by rw [Int.mul_sub]; omega
  constructor
  · intro hr
    have g1 : d * 0 < d * (q - q') := by rw [h6]; omega
    have g2 : d * (q - q') < d * 2 := by rw [h6]; omega
    have := Int.lt_of_mul_lt_mul_left g1 (by omega)
    have := Int.lt_of_mul_lt_mul_left g2 (by omega)
    omega
  · intro hr
    have g1 : d * (-1) < d * (q - q') := by rw [h6]; omega
    have g2 : d * (q - q') < d * 1 := by rw [h6]; omega
    have := Int.lt_of_mul_lt_mul_left g1 (by omega)
    have := Int.lt_of_mul_lt_mul_left g2 (by omega)
    omega

theorem Floor_spec {n d : Int} {K : Int → World → Prop} (hn : I64 n) (hd : I64 d) (hK : ∀ w', Fr F0 w w' → K (floorQ n d) w') : ratio_Floor_sh n d K w := by
  unfold floorQ at hK
  refine ⟨?_⟩
  unfold ratio_Floor_sd
  intro w1
  have m : Mem w w1 _ := Mem.nil.alloc
  clear_value w1
  refine ⟨_, m.ld 0 rfl rfl, _, m.ld 0 rfl rfl, Right_spec hn hd fun w2 hf => ?_⟩
  have m : Mem w w2 _ := m.fr hf
  by_cases h : rightP n d
  · rw [if_pos h] at hK
    rw [decide_eq_true h, Bool.not_true, cnd_false]
    have hpos := h.1
    have hb1 : n / d ≤ 9223372036854775807 ∧ -9223372036854775808 ≤ n / d := by
      have a1 := hn.1
      have a2 := hn.2
      constructor
      · rcases Int.lt_or_le n 0 with hh | hh
        · have := Int.ediv_neg_of_neg_of_pos hh hpos; omega
        · have := Int.ediv_le_self d hh; omega
      · rw [Int.le_ediv_iff_mul_le hpos]
        have : -9223372036854775808 * d ≤ -9223372036854775808 * 1 := Int.mul_le_mul_of_nonpos_left (by omega) (by omega)
        omega
    obtain ⟨f1, f2⟩ := floor_code (n := n) hpos
    have hq : I64 (Int.tdiv n d) := by
      by_cases hr : Int.tmod n d < 0
      · have h1 := f1 hr
        have h2 : n < 0 := by
          rcases Int.lt_or_le n 0 with hh | hh
          · exact hh
          · have := Int.tmod_nonneg d hh
            omega
        have h3 := Int.ediv_neg_of_neg_of_pos h2 hpos
        unfold I64
        omega
      · have h1 := f2 hr
        unfold I64
        omega
    refine ⟨_, m.ld 0 rfl rfl, _, m.ld 0 rfl rfl, by omega, inR64 hq.1 hq.2, _, m.ld 0 rfl rfl, _, m.ld 0 rfl rfl, by omega, ?_⟩
    rw [cnd_prop]
    constructor
    · intro hr
      rw [f1 hr]
      exact ⟨inR64 (by omega) (by omega), hK w2 m.1⟩
    · intro hr
      rw [f2 hr]
      exact hK w2 m.1
  · rw [if_neg h] at hK
    rw [decide_eq_false h, Bool.not_false, cnd_true]
    exact hK w2 m.1
end
end Go.Proofs.YtfclokkfnkieoaaDoor
