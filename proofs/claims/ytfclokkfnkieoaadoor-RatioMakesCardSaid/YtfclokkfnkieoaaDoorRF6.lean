/- The reference's integers: reading them back, lowest terms. Conditions: none. -/
import Derived.Test.YtfclokkfnkieoaaDoorRF5
namespace Go.Proofs.YtfclokkfnkieoaaDoor
open Go Pw

/-- What a number of digits gives as an int. -/
def fitI (neg : Bool) (n : Nat) : Int × Bool := if neg = true ∧ n ≤ 9223372036854775808 then (-(n : Int), true) else if 9223372036854775808 ≤ n then (0, false) else ((n : Int), true)

section
variable {w w' w0 : World} {s a b : Sl} {k j n m : Nat}

theorem fit_spec {neg : Bool} {K : Int → Bool → World → Prop} (h : Nm k w s n) (hk : k ≤ 2 ^ 40) (hK : ∀ w', Fr F0 w w' → K (fitI neg n).1 (fitI neg n).2 w') : probityref01_fit_sh neg s K w := by
  unfold fitI at hK
  refine ⟨?_⟩
  unfold probityref01_fit_sd
  intro w1
  have hf1 : Fr F0 w w1 := Fr.alloc
  have m : Mem w w1 _ := Mem.nil.alloc
  clear_value w1
  refine ⟨s, m.ld 0 rfl rfl, trim_spec (h.fr hf1) hk fun s4 h4 _ => ?_⟩
  obtain ⟨l, hv, hd, ht, rfl, hl⟩ := h4
  have hlen := hv.len
  have hpow : (65536 : Nat) ^ 4 = 18446744073709551616 := by decide
  rw [cnd_prop]
  constructor
  · intro hgt
    have h5 := ht.le (by omega)
    have h6 : 65536 ^ 4 ≤ 65536 ^ (l.length - 1) := Nat.pow_le_pow_right (by decide) (by omega)
    have := hK w1 hf1
    rw [if_neg (by omega), if_pos (by omega)] at this
    exact this
  · intro hle
    have hlt : vl l < 18446744073709551616 := by
      have h5 := vl_lt hd
      have h6 : 65536 ^ l.length ≤ 65536 ^ 4 := Nat.pow_le_pow_right (by decide) (by omega)
      omega
    have ew : IntKind.wrap .i64 ((s4.l : Int) - 1) = (l.length : Int) - 1 := by rw [hlen]; exact wi64_in ⟨by omega, by omega⟩
    rw [ew]
    refine ⟨⟨fun mm i w' => ∃ i' : Nat, i = (i' : Int) - 1 ∧ i' ≤ l.length ∧ mm = (vl (l.drop i') : Nat) ∧ w' = w1, fun _ i _ => (i + 1).toNat, ⟨l.length, rfl, Nat.le_refl _, by rw [List.drop_length]; rfl, rfl⟩, ?_⟩⟩
    rintro mm i w2 ⟨i', rfl, hi, rfl, rfl⟩
    unfold probityref01_fit_b0
    have hdle : vl (l.drop i') ≤ vl l := by
      rw [vl_split l i' hi]
      have : 1 * vl (l.drop i') ≤ 65536 ^ i' * vl (l.drop i') := Nat.mul_le_mul_right _ (Nat.pow_pos (by decide))
      omega
    rw [cnd_prop]
    constructor
    · intro hpos
      obtain ⟨i, rfl⟩ : ∃ i, i' = i + 1 := ⟨i' - 1, by omega⟩
      have hdle2 : vl (l.drop i) ≤ vl l := by
        rw [vl_split l i (by omega)]
        have : 1 * vl (l.drop i) ≤ 65536 ^ i * vl (l.drop i) := Nat.mul_le_mul_right _ (Nat.pow_pos (by decide))
        omega
      have hx := hd.getD i
      have e := vl_drop l i (by omega)
      refine hv.ld 0 i (by omega) (by omega) ?_
      have e1 : IntKind.wrap .u64 (IntKind.wrap .u64 ((vl (l.drop (i + 1)) : Nat) * 65536) + IntKind.wrap .u64 ((l.getD i 0 : Nat) : Int)) = ((vl (l.drop i) : Nat) : Int) := by
        rw [wu64_mod, wu64_mod, wu64_mod]
        omega
      have e2 : IntKind.wrap .i64 (((i + 1 : Nat) : Int) - 1 - 1) = (i : Int) - 1 := by rw [wi64_in ⟨by omega, by omega⟩]; omega
      rw [e1, e2]
      exact ⟨⟨⟨rfl, rfl, trivial⟩, i, rfl, by omega, rfl, rfl⟩, by dsimp only; omega⟩
    · intro hneg
      have h0 : i' = 0 := by omega
      subst h0
      rw [List.drop_zero]
      have k1 : ¬ (neg = true ∧ vl l ≤ 9223372036854775808) → probityref01_fit_k1 ((vl l : Nat) : Int) K w2 := by
        intro hn
        have := hK w2 hf1
        rw [if_neg hn] at this
        refine ⟨?_⟩
        unfold probityref01_fit_k1d
        rw [cnd_prop]
        constructor
        · intro h
          rw [if_pos (by omega)] at this
          exact this
        · intro h
          rw [if_neg (by omega)] at this
          rw [wi64_in ⟨by omega, by omega⟩]
          exact this
      refine ⟨neg, m.ld 0 rfl rfl, ?_⟩
      cases neg
      · rw [cnd_false]
        exact k1 (by simp)
      · rw [cnd_true, cnd_prop]
        constructor
        · intro h
          have := hK w2 hf1
          rw [if_pos ⟨rfl, by omega⟩] at this
          have e : IntKind.wrap .i64 (IntKind.wrap .u64 ((0 : Int) - (vl l : Nat))) = -((vl l : Nat) : Int) := by
            rw [wu64_mod]
            unfold IntKind.wrap
            simp [IntKind.bits, IntKind.signed]
            omega
          rw [e]
          exact this
        · intro h
          exact k1 (by omega)
end
end Go.Proofs.YtfclokkfnkieoaaDoor
