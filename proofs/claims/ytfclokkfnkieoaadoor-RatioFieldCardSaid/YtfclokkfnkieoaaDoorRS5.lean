/- Lowest terms, right numbers, wide numbers: what the functions of package ratio compute. Conditions: none. -/
import Derived.Test.YtfclokkfnkieoaaDoorRS4
namespace Go.Proofs.YtfclokkfnkieoaaDoor
open Go Pw

section
variable {w : World}

theorem Right_spec {n d : Int} {K : Bool → World → Prop} (hn : I64 n) (hd : I64 d) (hK : ∀ w', Fr F0 w w' → K (decide (rightP n d)) w') : ratio_Right_sh n d K w := by
  refine ⟨?_⟩
  unfold ratio_Right_sd
  intro w1
  have m : Mem w w1 _ := Mem.nil.alloc
  clear_value w1
  intro w2
  have m : Mem w w2 _ := m.drew
  clear_value w2
  refine ⟨fun u => Rs u _, m.sub 0 rfl, ?_⟩
  refine ⟨_, fun _ h => h.ld 0 rfl rfl, ?_⟩
  rw [cnd_prop]
  constructor
  · intro h0
    obtain ⟨D, rfl⟩ : ∃ D : Nat, d = D := ⟨d.natAbs, by omega⟩
    refine ⟨_, fun _ h => h.ld 0 rfl rfl, _, fun _ h => h.ld 0 rfl rfl, ?_⟩
    refine ⟨inRu (by omega) (by have := hd.2; omega), size_spec hn ⟨m.sub 0 rfl, ?_⟩⟩
    refine gcd_spec fun w3 hf => ⟨(m.fr hf).sub 0 rfl, ?_⟩
    have := hK w3 (m.fr hf).1
    have e2 : ((((n.natAbs).gcd D : Nat) : Int) == 1) = decide (rightP n D) := by
      rw [Bool.eq_iff_iff]
      simp only [beq_iff_eq, decide_eq_true_eq]
      unfold rightP
      rw [Int.natAbs_natCast]
      constructor
      · intro h; exact ⟨by omega, by omega⟩
      · intro h; have := h.2; omega
    rw [e2]
    exact this
  · intro h0
    have := hK w2 m.1
    rw [decide_eq_false (fun h => h0 (by have := h.1; omega))] at this
    exact this

theorem both_spec {n d n' d' : Int} {K : Bool → World → Prop} (hn : I64 n) (hd : I64 d) (hn' : I64 n') (hd' : I64 d') (hK : ∀ w', Fr F0 w w' → K (decide (rightP n d) && decide (rightP n' d')) w') : ratio_both_sh n d n' d' K w := by
  refine ⟨?_⟩
  unfold ratio_both_sd
  intro w1
  have m : Mem w w1 _ := Mem.nil.alloc
  clear_value w1
  intro w2
  have m : Mem w w2 _ := m.alloc
  clear_value w2
  refine ⟨_, m.ld 1 rfl rfl, _, m.ld 1 rfl rfl, Right_spec hn hd fun w3 hf => ?_⟩
  have m : Mem w w3 _ := m.fr hf
  cases hr : decide (rightP n d)
  · rw [cnd_false]
    have := hK w3 m.1
    rw [hr] at this
    exact this
  · rw [cnd_true]
    refine ⟨_, m.ld 0 rfl rfl, _, m.ld 0 rfl rfl, Right_spec hn' hd' fun w4 hf => ?_⟩
    have := hK w4 (m.fr hf).1
    rw [hr] at this
    exact this

theorem rat_small {neg : Bool} {n d : Nat} {K : Int → Int → Bool → World → Prop} (hn : n < 18446744073709551616) (hd : d < 18446744073709551616) (hK : ∀ w', Fr F0 w w' → Kr K (ratI neg n d) w') :
    ratio_rat_sh neg 0 (n : Int) 0 (d : Int) K w := by
  have := rat_spec (neg := neg) (n := n) (d := d) hK
  rw [Nat.div_eq_of_lt hn, Nat.div_eq_of_lt hd, Nat.mod_eq_of_lt hn, Nat.mod_eq_of_lt hd] at this
  exact this

theorem lowest_spec {neg : Bool} {n d : Nat} {K : Int → Int → Bool → World → Prop} (hn : n < 18446744073709551616) (hd : 0 < d) (hd' : d < 18446744073709551616)
    (hK : ∀ w', Fr F0 w w' → Kr K (fitQ (mkRat (sgn neg n) d)) w') : ratio_lowest_sh neg n d K w := by
  have hg : 0 < Nat.gcd n d := Nat.gcd_pos_of_pos_right n hd
  have b1 := Nat.div_le_self n (Nat.gcd n d)
  have b2 := Nat.div_le_self d (Nat.gcd n d)
  have key : ∀ ng : Bool, ng = (neg && decide (0 < n)) → ratI ng (n / Nat.gcd n d) (d / Nat.gcd n d) = fitQ (mkRat (sgn neg n) d) := by
    intro ng hng
    rw [lowest_rat ng n d (by omega)]
    have : sgn ng n = sgn neg n := by
      subst hng
      cases neg
      · rfl
      · by_cases h : 0 < n
        · simp [h]
        · have : n = 0 := by omega
          subst this
          rfl
    rw [this]
  refine ⟨?_⟩
  unfold ratio_lowest_sd
  intro w1
  have m : Mem w w1 _ := Mem.nil.alloc
  clear_value w1
  intro w2
  have m : Mem w w2 _ := m.alloc
  clear_value w2
  refine ⟨_, m.ld 1 rfl rfl, _, m.ld 1 rfl rfl, gcd_spec fun w3 hf => ?_⟩
  have m : Mem w w3 _ := m.fr hf
  intro w4
  have m : Mem w w4 _ := m.drew
  clear_value w4
  refine ⟨fun u => Rs u _, m.sub 0 rfl, ?_⟩
  refine ⟨_, fun _ h => h.ld 1 rfl rfl, _, fun _ h => h.ld 1 rfl rfl, ?_⟩
  have q1 : inR .u64 (Int.tdiv (n : Int) ((Nat.gcd n d : Nat) : Int)) := by
    rw [tdivN]; exact inRu (Int.natCast_nonneg _) (by omega)
  have q2 : inR .u64 (Int.tdiv (d : Int) ((Nat.gcd n d : Nat) : Int)) := by
    rw [tdivN]; exact inRu (Int.natCast_nonneg _) (by omega)
  refine ⟨by omega, q1, _, fun _ h => h.ld 1 rfl rfl, by omega, q2, ?_⟩
  simp -zeta only [tdivN]
  cases neg
  · rw [cnd_false]
    refine rat_small (by omega) (by omega) fun w5 hf => ?_
    have m : Mem w w5 _ := m.fr hf
    refine ⟨m.sub 0 rfl, put2b m 0 rfl fun w6 hf6 => ?_⟩
    have := hK w6 hf6
    rw [← key false (by simp)] at this
    exact this
  · rw [cnd_true]
    refine ⟨_, fun _ h => h.ld 1 rfl rfl, ?_⟩
    refine rat_small (by omega) (by omega) fun w5 hf => ?_
    have m : Mem w w5 _ := m.fr hf
    refine ⟨m.sub 0 rfl, put2b m 0 rfl fun w6 hf6 => ?_⟩
    have := hK w6 hf6
    rw [← key (decide ((n : Int) > 0)) (by simp)] at this
    exact this

theorem Make_spec {n d : Int} {K : Int → Int → Bool → World → Prop} (hn : I64 n) (hd : I64 d)
    (hK : ∀ w', Fr F0 w w' → Kr K (if d = 0 then zr else fitQ (Rat.divInt n d)) w') : ratio_Make_sh n d K w := by
  refine ⟨?_⟩
  unfold ratio_Make_sd
  intro w1
  have m : Mem w w1 _ := Mem.nil.alloc
  clear_value w1
  rw [cnd_beq]
  constructor
  · intro h0
    rw [if_pos h0] at hK
    exact zero_spec fun w2 hf => put2b (m.fr hf) 0 rfl fun w3 hf3 => hK w3 hf3
  · intro h0
    rw [if_neg h0] at hK
    refine size_spec hn (size_spec hd (lowest_spec (by have := hn.1; have := hn.2; omega) (by omega) (by have := hd.1; have := hd.2; omega) fun w2 hf => put2b (m.fr hf) 0 rfl fun w3 hf3 => ?_))
    have := hK w3 hf3
    have e : mkRat (sgn (!((decide (n < 0)) == (decide (d < 0)))) n.natAbs) d.natAbs = Rat.divInt n d := by
      rcases Int.lt_or_le d 0 with hneg | hpos
      · have e1 : Rat.divInt n d = Rat.divInt (-n) (-d) := (Rat.neg_divInt_neg n d).symm
        have e2 : -d = ((d.natAbs : Nat) : Int) := by omega
        rw [e1, e2, Rat.divInt_ofNat]
        congr 1
        rcases Int.lt_or_le n 0 with h | h
        · simp [sgn, h, hneg]; omega
        · have h' : ¬ n < 0 := by omega
          simp [sgn, h', hneg]; omega
      · have e2 : d = ((d.natAbs : Nat) : Int) := by omega
        have hd' : ¬ d < 0 := by omega
        conv => rhs; rw [e2]
        rw [Rat.divInt_ofNat]
        congr 1
        rcases Int.lt_or_le n 0 with h | h
        · simp [sgn, h, hd']; omega
        · have h' : ¬ n < 0 := by omega
          simp [sgn, h', hd']; omega
    rw [← e] at this
    exact this
end
end Go.Proofs.YtfclokkfnkieoaaDoor
