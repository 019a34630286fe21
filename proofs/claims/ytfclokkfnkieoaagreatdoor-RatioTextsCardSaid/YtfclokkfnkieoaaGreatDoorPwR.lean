/- Rational numbers in lowest terms, as the code reckons them: plain laws. Conditions: none. -/
import Derived.Test.YtfclokkfnkieoaaGreatDoorPwN
namespace Pw
open Go

/-- The result of an operation: numerator, denominator, does it fit? -/
structure RR where
  n : Int
  d : Int
  ok : Bool
deriving DecidableEq

def zr : RR := ⟨0, 1, false⟩

/-- A rational number as a result, if it fits. -/
def fitQ (q : Rat) : RR := if -9223372036854775808 ≤ q.num ∧ q.num < 9223372036854775808 ∧ q.den < 9223372036854775808 then ⟨q.num, q.den, true⟩ else zr

/-- A number with a sign, as the code makes it of natural numbers in lowest terms. -/
def ratI (neg : Bool) (n d : Nat) : RR := if d < 9223372036854775808 ∧ (n < 9223372036854775808 ∨ n = 9223372036854775808 ∧ neg = true) then ⟨if neg then -(n : Int) else n, d, true⟩ else zr

def sgn (neg : Bool) (n : Nat) : Int := if neg then -(n : Int) else n

theorem sgn_natAbs (neg : Bool) (n : Nat) : (sgn neg n).natAbs = n := by
  cases neg <;> simp [sgn]

theorem fitQ_rat (neg : Bool) (n d : Nat) (hd : d ≠ 0) (hc : Nat.Coprime n d) : ratI neg n d = fitQ (mkRat (sgn neg n) d) := by
  have h1 : (mkRat (sgn neg n) d).num = sgn neg n := by
    rw [Rat.num_mkRat, if_neg hd, sgn_natAbs, Nat.gcd_comm, hc]
    simp
  have h2 : (mkRat (sgn neg n) d).den = d := by
    rw [Rat.den_mkRat, if_neg hd, sgn_natAbs, Nat.gcd_comm, hc]
    simp
  have hz : n = 0 → d = 1 := by
    rintro rfl
    simpa using hc
  cases neg
  · have h1 : (mkRat (sgn false n) d).num = (n : Int) := h1
    unfold fitQ ratI
    rw [h1, h2]
    simp only [Bool.false_eq_true, and_false, or_false, if_false]
    by_cases h : d < 9223372036854775808 ∧ n < 9223372036854775808
    · rw [if_pos h, if_pos ⟨by omega, by omega, h.1⟩]
    · rw [if_neg h, if_neg]
      rintro ⟨_, h2, h3⟩
      exact h ⟨h3, by omega⟩
  · have h1 : (mkRat (sgn true n) d).num = -(n : Int) := h1
    unfold fitQ ratI
    rw [h1, h2]
    simp only [and_true, if_true]
    by_cases h : d < 9223372036854775808 ∧ n ≤ 9223372036854775808
    · rw [if_pos ⟨h.1, by omega⟩, if_pos ⟨by omega, by omega, h.1⟩]
    · rw [if_neg, if_neg]
      · rintro ⟨h1, h2, h3⟩
        exact h ⟨h3, by omega⟩
      · rintro ⟨h1, h2⟩
        exact h ⟨h1, by omega⟩

/-- Divided by their greatest common divisor. -/
theorem lowest_rat (neg : Bool) (n d : Nat) (hd : d ≠ 0) : ratI neg (n / Nat.gcd n d) (d / Nat.gcd n d) = fitQ (mkRat (sgn neg n) d) := by
  have hg : 0 < Nat.gcd n d := Nat.gcd_pos_of_pos_right n (by omega)
  have hd' : d / Nat.gcd n d ≠ 0 := by
    have := Nat.div_pos (Nat.gcd_le_right n (by omega : 0 < d)) hg
    omega
  rw [fitQ_rat neg _ _ hd' (Nat.coprime_div_gcd_div_gcd hg)]
  congr 1
  have e : sgn neg n = sgn neg (n / Nat.gcd n d) * (Nat.gcd n d : Nat) := by
    have := Nat.div_mul_cancel (Nat.gcd_dvd_left n d)
    cases neg
    · simp only [sgn]
      simp
      exact_mod_cast this.symm
    · simp only [sgn, if_true, Int.neg_mul]
      congr 1
      exact_mod_cast this.symm
  have e2 : d = d / Nat.gcd n d * Nat.gcd n d := (Nat.div_mul_cancel (Nat.gcd_dvd_right n d)).symm
  generalize hG : Nat.gcd n d = g at *
  have hq : mkRat (sgn neg (n / g) * (g : Nat)) (d / g * g) = mkRat (sgn neg (n / g)) (d / g) := Rat.mkRat_mul_right (by omega)
  rw [← hq, ← e, ← e2]

/-- A number is right: a positive denominator, lowest terms. -/
def rightP (n d : Int) : Prop := 0 < d ∧ Nat.gcd n.natAbs d.natAbs = 1

instance (n d : Int) : Decidable (rightP n d) := inferInstanceAs (Decidable (_ ∧ _))

/-- The value of a pair. -/
def val (n d : Int) : Rat := mkRat n d.toNat

theorem val_num {n d : Int} (h : rightP n d) : (val n d).num = n := by
  have : d.toNat = d.natAbs := by have := h.1; omega
  have hd : d.natAbs ≠ 0 := by have := h.1; omega
  unfold val
  rw [Rat.num_mkRat, this, if_neg hd, Nat.gcd_comm, h.2]
  simp

theorem val_den {n d : Int} (h : rightP n d) : ((val n d).den : Int) = d := by
  have : d.toNat = d.natAbs := by have := h.1; omega
  have hd : d.natAbs ≠ 0 := by have := h.1; omega
  unfold val
  rw [Rat.den_mkRat, this, if_neg hd, Nat.gcd_comm, h.2]
  have := h.1
  simp
  omega

theorem val_inj {n d n' d' : Int} (h : rightP n d) (h' : rightP n' d') (e : val n d = val n' d') : n = n' ∧ d = d' := by
  have h1 := val_num h
  have h2 := val_den h
  rw [e, val_num h'] at h1
  rw [e, val_den h'] at h2
  exact ⟨h1.symm, h2.symm⟩

theorem right_num_den (q : Rat) : rightP q.num q.den := ⟨by have := q.den_pos; omega, by simpa using q.reduced⟩

theorem val_num_den (q : Rat) : val q.num q.den = q := by
  unfold val
  simp [Rat.mkRat_self]

theorem fitQ_ok {q : Rat} (h : (fitQ q).ok = true) : (fitQ q).n = q.num ∧ (fitQ q).d = q.den := by
  unfold fitQ at *
  split at h
  · rename_i hc
    rw [if_pos hc]
    exact ⟨rfl, rfl⟩
  · cases h

theorem fitQ_right (q : Rat) : rightP (fitQ q).n (fitQ q).d := by
  unfold fitQ
  split
  · exact right_num_den q
  · decide

theorem fitQ_val {q : Rat} (h : (fitQ q).ok = true) : val (fitQ q).n (fitQ q).d = q := by
  obtain ⟨h1, h2⟩ := fitQ_ok h
  rw [h1, h2, val_num_den]
end Pw
namespace Pw
open Go
/-- Comparing two numbers: -1, 0 or 1. -/
def cmpI (x y : Int) : Int := if x < y then -1 else if x > y then 1 else 0

theorem wd_add {M A B : Nat} (hM : 0 < M) : (A % M + B % M) % M = (A + B) % M ∧ A / M + B / M + (A % M + B % M) / M = (A + B) / M := by
  refine ⟨(Nat.add_mod A B M).symm, ?_⟩
  have e : A + B = M * (A / M + B / M) + (A % M + B % M) := by
    have h1 := Nat.div_add_mod A M
    have h2 := Nat.div_add_mod B M
    rw [Nat.mul_add]
    omega
  conv => rhs; rw [e]
  rw [Nat.mul_add_div hM]

theorem wd_over {M A b : Nat} (hb : 0 < b) (hbM : b ≤ M) : A / b / M = A / M / b ∧ A / b % M = ((A / M % b) * M + A % M) / b ∧ A % b = ((A / M % b) * M + A % M) % b := by
  have hM : 0 < M := by omega
  have e : A = b * (A / M / b * M) + ((A / M % b) * M + A % M) := by
    have h1 := Nat.div_add_mod A M
    have h2 := Nat.div_add_mod (A / M) b
    have h3 : M * (A / M) = M * (b * (A / M / b)) + M * (A / M % b) := by rw [← Nat.mul_add, h2]
    have h4 : b * (A / M / b * M) = M * (b * (A / M / b)) := by rw [Nat.mul_left_comm, Nat.mul_comm, Nat.mul_comm b, ← Nat.mul_assoc, Nat.mul_comm]
    rw [Nat.mul_comm (A / M % b) M, h4]
    omega
  have hlt : ((A / M % b) * M + A % M) / b < M := by
    rw [Nat.div_lt_iff_lt_mul hb]
    have h1 : A / M % b < b := Nat.mod_lt _ hb
    have h2 : A % M < M := Nat.mod_lt _ hM
    have h3 : (A / M % b + 1) * M ≤ b * M := Nat.mul_le_mul_right _ h1
    rw [Nat.add_mul] at h3
    rw [Nat.mul_comm M b]
    omega
  have hq : A / b = A / M / b * M + ((A / M % b) * M + A % M) / b := by
    conv => lhs; rw [e]
    rw [Nat.mul_add_div hb]
  refine ⟨?_, ?_, ?_⟩
  · rw [Nat.div_div_eq_div_mul, Nat.div_div_eq_div_mul, Nat.mul_comm]
  · rw [hq, Nat.mul_comm (A / M / b) M, Nat.mul_add_mod, Nat.mod_eq_of_lt hlt]
  · conv => lhs; rw [e]
    rw [Nat.mul_add_mod]

theorem wd_cmp {M A B : Nat} (hM : 0 < M) : (if cmpI ((A / M : Nat) : Int) ((B / M : Nat) : Int) ≠ 0 then cmpI ((A / M : Nat) : Int) ((B / M : Nat) : Int) else cmpI ((A % M : Nat) : Int) ((B % M : Nat) : Int)) = cmpI A B := by
  have h1 := Nat.div_add_mod A M
  have h2 := Nat.div_add_mod B M
  have h3 := Nat.mod_lt A hM
  have h4 := Nat.mod_lt B hM
  rcases Nat.lt_trichotomy (A / M) (B / M) with h | h | h
  · have : M * (A / M + 1) ≤ M * (B / M) := Nat.mul_le_mul_left _ h
    rw [Nat.mul_add] at this
    have hlt : A < B := by omega
    unfold cmpI
    rw [if_pos (by omega : ((A / M : Nat) : Int) < ((B / M : Nat) : Int)), if_pos (by omega : (A : Int) < B), if_pos (by decide)]
  · unfold cmpI
    rw [h] at h1
    rw [h]
    have e1 : ((A : Int) < B) ↔ (((A % M : Nat) : Int) < ((B % M : Nat) : Int)) := by omega
    have e2 : ((A : Int) > B) ↔ (((A % M : Nat) : Int) > ((B % M : Nat) : Int)) := by omega
    simp only [e1, e2]
    simp
  · have : M * (B / M + 1) ≤ M * (A / M) := Nat.mul_le_mul_left _ h
    rw [Nat.mul_add] at this
    have hlt : B < A := by omega
    unfold cmpI
    rw [if_neg (by omega : ¬ ((A / M : Nat) : Int) < ((B / M : Nat) : Int)), if_pos (by omega : ((A / M : Nat) : Int) > ((B / M : Nat) : Int)), if_neg (by omega : ¬ (A : Int) < B), if_pos (by omega : (A : Int) > B), if_pos (by decide)]
end Pw
