/- Words of 64 bits as natural numbers; products of two words; division of two words by one. Conditions: none. -/
import Derived.Test.YtfclokkfnkieoaaGreatDoorPwX
import Derived.Lib.Mul64
namespace Pw
open Go

theorem wu64 (n : Nat) : IntKind.wrap .u64 (n : Int) = ((n % 18446744073709551616 : Nat) : Int) := by
  unfold IntKind.wrap
  simp [IntKind.bits, IntKind.signed]

theorem wu64_in {n : Int} (h0 : 0 ≤ n) (h1 : n < 18446744073709551616) : IntKind.wrap .u64 n = n := by
  obtain ⟨m, rfl⟩ := Int.eq_ofNat_of_zero_le h0
  rw [wu64]; omega

theorem wu64_mod (n : Int) : IntKind.wrap .u64 n = n % 18446744073709551616 := by
  unfold IntKind.wrap
  simp [IntKind.bits, IntKind.signed]

theorem inRu {n : Int} (h0 : 0 ≤ n) (h1 : n < 18446744073709551616) : inR .u64 n := wu64_in h0 h1

theorem shr32 (n : Nat) : Int.fdiv (n : Int) (2 ^ (min 32 (IntKind.bits .u64))) = ((n / 4294967296 : Nat) : Int) := by
  have e : (2 : Int) ^ (min 32 (IntKind.bits .u64)) = 4294967296 := by decide
  rw [e, Int.fdiv_eq_ediv_of_nonneg _ (by omega)]
  omega

theorem and32 (n : Nat) (h : n < 18446744073709551616) : IntKind.wrap .u64 ((((BitVec.ofInt (IntKind.bits .u64) (n : Int) &&& BitVec.ofInt (IntKind.bits .u64) (4294967295 : Int))).toNat : Nat) : Int) = ((n % 4294967296 : Nat) : Int) := by
  have e : (BitVec.ofInt (IntKind.bits .u64) (n : Int) &&& BitVec.ofInt (IntKind.bits .u64) (4294967295 : Int)).toNat = n % 4294967296 := by
    show (BitVec.ofInt 64 (n : Int) &&& BitVec.ofInt 64 (4294967295 : Int)).toNat = _
    rw [BitVec.toNat_and, BitVec.toNat_ofInt, BitVec.toNat_ofInt]
    have h1 : ((n : Int) % ((2 ^ 64 : Nat) : Int)).toNat = n := by
      have : ((2 ^ 64 : Nat) : Int) = 18446744073709551616 := by decide
      rw [this]; omega
    have h2 : ((4294967295 : Int) % ((2 ^ 64 : Nat) : Int)).toNat = 2 ^ 32 - 1 := by decide
    rw [h1, h2, Nat.and_two_pow_sub_one_eq_mod]
  rw [e, wu64]
  omega

theorem and32' (n : Nat) (h : n < 18446744073709551616) : (BitVec.ofInt (IntKind.bits .u64) (n : Int) &&& BitVec.ofInt (IntKind.bits .u64) (4294967295 : Int)).toNat = n % 4294967296 := by
  have := and32 n h
  rw [wu64] at this
  have hlt : (BitVec.ofInt (IntKind.bits .u64) (n : Int) &&& BitVec.ofInt (IntKind.bits .u64) (4294967295 : Int)).toNat < 18446744073709551616 := BitVec.isLt _
  omega

theorem mod_mod_word (n : Nat) : n % 4294967296 % 18446744073709551616 = n % 4294967296 := by omega

theorem mulN (a b : Nat) : (a : Int) * (b : Int) = ((a * b : Nat) : Int) := (Int.natCast_mul a b).symm
theorem addN (a b : Nat) : (a : Int) + (b : Int) = ((a + b : Nat) : Int) := (Int.natCast_add a b).symm
theorem tdivN (a b : Nat) : Int.tdiv (a : Int) (b : Int) = ((a / b : Nat) : Int) := rfl
theorem tmodN (a b : Nat) : Int.tmod (a : Int) (b : Int) = ((a % b : Nat) : Int) := rfl

/-- One digit's division: when it may stop, the digit is not too great. -/
theorem kn_stop {Y y1 y0 u d q r : Nat} (hY : Y = y1 * 4294967296 + y0) (hu : q * y1 + r = u) (h : q * y0 ≤ 4294967296 * r + d) : q * Y ≤ u * 4294967296 + d := by
  subst hY; subst hu
  rw [Nat.mul_add, ← Nat.mul_assoc, Nat.add_mul]
  omega

theorem kn_break {Y y1 y0 u d q r : Nat} (hY : Y = y1 * 4294967296 + y0) (hy : y0 < 4294967296) (hu : q * y1 + r = u) (hq : q ≤ 4294967296) (hr : 4294967296 ≤ r) : q * Y ≤ u * 4294967296 + d := by
  refine kn_stop hY hu ?_
  have h1 : q * y0 ≤ 4294967296 * 4294967295 := Nat.mul_le_mul hq (by omega)
  have h2 : 4294967296 * 4294967296 ≤ 4294967296 * r := Nat.mul_le_mul_left _ hr
  omega

theorem kn_go {Y y1 y0 u d q r : Nat} (hY : Y = y1 * 4294967296 + y0) (hu : q * y1 + r = u) (huY : u < Y) (hd : d < 4294967296) (h : 4294967296 ≤ q ∨ 4294967296 * r + d < q * y0) :
    u * 4294967296 + d < q * Y := by
  have h1 : (u + 1) * 4294967296 ≤ Y * 4294967296 := Nat.mul_le_mul_right _ huY
  rcases h with h | h
  · have h2 : 4294967296 * Y ≤ q * Y := Nat.mul_le_mul_right _ h
    rw [Nat.add_mul] at h1
    generalize q * Y = A at *
    omega
  · subst hY; subst hu
    rw [Nat.mul_add, ← Nat.mul_assoc, Nat.add_mul]
    omega

theorem kn_first {Y y1 y0 u : Nat} (hY : Y = y1 * 4294967296 + y0) (hy : y0 < 4294967296) (h1 : 2147483648 ≤ y1) (huY : u < Y) : u / y1 ≤ 4294967297 := by
  have : u < 4294967298 * y1 := by omega
  have := (Nat.div_lt_iff_lt_mul (by omega : 0 < y1)).2 this
  omega

theorem kn_digit {Y u d q : Nat} (hq : q * Y ≤ u * 4294967296 + d) (hq' : u * 4294967296 + d < (q + 1) * Y) : q = (u * 4294967296 + d) / Y ∧ u * 4294967296 + d - q * Y = (u * 4294967296 + d) % Y := by
  have hY : 0 < Y := by
    rcases Nat.eq_zero_or_pos Y with h | h
    · subst h; omega
    · exact h
  have e : (u * 4294967296 + d) / Y = q := by
    apply Nat.le_antisymm
    · have := (Nat.div_lt_iff_lt_mul hY).2 hq'
      omega
    · exact (Nat.le_div_iff_mul_le hY).2 hq
  have := Nat.div_add_mod (u * 4294967296 + d) Y
  rw [e] at this
  rw [Nat.mul_comm] at this
  omega

theorem kn_gather {β Y u d1 d0 q1 q0 u2 r : Nat} (h1 : u * β + d1 = q1 * Y + u2) (h0 : u2 * β + d0 = q0 * Y + r) :
    u * (β * β) + (d1 * β + d0) = (q1 * β + q0) * Y + r := by
  have e1 : u * (β * β) + d1 * β = (u * β + d1) * β := by rw [Nat.add_mul, Nat.mul_assoc]
  have e2 : (q1 * β + q0) * Y = q1 * Y * β + q0 * Y := by rw [Nat.add_mul, Nat.mul_right_comm]
  rw [← Nat.add_assoc, e1, h1, e2, Nat.add_mul]
  generalize q1 * Y * β = A at *
  generalize u2 * β = B at *
  generalize q0 * Y = C at *
  omega

/-- Two digits. -/
theorem kn_two {Y u d1 d0 q1 q0 u2 r : Nat} (h1 : u * 4294967296 + d1 = q1 * Y + u2) (h0 : u2 * 4294967296 + d0 = q0 * Y + r) (hr : r < Y) :
    (u * 18446744073709551616 + (d1 * 4294967296 + d0)) / Y = q1 * 4294967296 + q0 ∧ (u * 18446744073709551616 + (d1 * 4294967296 + d0)) % Y = r := by
  have e := kn_gather h1 h0
  rw [show (4294967296 : Nat) * 4294967296 = 18446744073709551616 by decide] at e
  rw [e]
  refine ⟨?_, ?_⟩
  · rw [Nat.mul_comm, Nat.mul_add_div (by omega), Nat.div_eq_of_lt hr, Nat.add_zero]
  · rw [Nat.mul_comm, Nat.mul_add_mod, Nat.mod_eq_of_lt hr]
end Pw
namespace Pw
open Go
def F0 : Nat → Prop := fun _ => False

theorem shlN (a s : Nat) (hs : s ≤ 64) : IntKind.wrap .u64 ((a : Int) * 2 ^ (min ((s : Int)).toNat (IntKind.bits .u64))) = ((a * 2 ^ s % 18446744073709551616 : Nat) : Int) := by
  have e : min ((s : Int)).toNat (IntKind.bits .u64) = s := by
    have : IntKind.bits .u64 = 64 := rfl
    omega
  rw [e, ← wu64, Int.natCast_mul, Int.natCast_pow]
  rfl

theorem shrN (a s : Nat) (hs : s ≤ 64) : Int.fdiv (a : Int) (2 ^ (min ((s : Int)).toNat (IntKind.bits .u64))) = ((a / 2 ^ s : Nat) : Int) := by
  have e : min ((s : Int)).toNat (IntKind.bits .u64) = s := by
    have : IntKind.bits .u64 = 64 := rfl
    omega
  have p : (2 : Int) ^ s = ((2 ^ s : Nat) : Int) := by rw [Int.natCast_pow]; rfl
  rw [e, p, Int.fdiv_eq_ediv_of_nonneg _ (Int.natCast_nonneg _)]
  rfl

theorem orN (a b : Nat) (ha : a < 18446744073709551616) (hb : b < 18446744073709551616) : IntKind.wrap .u64 ((((BitVec.ofInt (IntKind.bits .u64) (a : Int) ||| BitVec.ofInt (IntKind.bits .u64) (b : Int))).toNat : Nat) : Int) = ((a ||| b : Nat) : Int) := by
  have hlt : a ||| b < 2 ^ 64 := Nat.or_lt_two_pow (by simpa using ha) (by simpa using hb)
  have e : (BitVec.ofInt (IntKind.bits .u64) (a : Int) ||| BitVec.ofInt (IntKind.bits .u64) (b : Int)).toNat = a ||| b := by
    show (BitVec.ofInt 64 (a : Int) ||| BitVec.ofInt 64 (b : Int)).toNat = _
    rw [BitVec.toNat_or, BitVec.toNat_ofInt, BitVec.toNat_ofInt]
    have h2 : ((2 ^ 64 : Nat) : Int) = 18446744073709551616 := by decide
    have ea : ((a : Int) % ((2 ^ 64 : Nat) : Int)).toNat = a := by rw [h2]; omega
    have eb : ((b : Int) % ((2 ^ 64 : Nat) : Int)).toNat = b := by rw [h2]; omega
    rw [ea, eb]
  rw [e, wu64, Nat.mod_eq_of_lt (by simpa using hlt)]

/-- The dividend shifted to the left, as two words. -/
theorem shl_words {hi lo y s : Nat} (hs : s ≤ 64) (h : hi < y) (_ : y * 2 ^ s < 18446744073709551616) (hlo : lo < 18446744073709551616) :
    (hi * 2 ^ s ||| lo / 2 ^ (64 - s)) = hi * 2 ^ s + lo / 2 ^ (64 - s) ∧ hi * 2 ^ s + lo / 2 ^ (64 - s) < y * 2 ^ s ∧
    (hi * 2 ^ s + lo / 2 ^ (64 - s)) * 18446744073709551616 + lo * 2 ^ s % 18446744073709551616 = (hi * 18446744073709551616 + lo) * 2 ^ s := by
  have hp : 18446744073709551616 = 2 ^ (64 - s) * 2 ^ s := by
    rw [← Nat.pow_add, Nat.sub_add_cancel hs]
  have hlt : lo / 2 ^ (64 - s) < 2 ^ s := by
    rw [Nat.div_lt_iff_lt_mul (Nat.two_pow_pos _), Nat.mul_comm, ← hp]
    exact hlo
  have h1 : (hi + 1) * 2 ^ s ≤ y * 2 ^ s := Nat.mul_le_mul_right _ h
  refine ⟨?_, ?_, ?_⟩
  · rw [← Nat.shiftLeft_eq, Nat.shiftLeft_add_eq_or_of_lt hlt]
  · rw [Nat.add_mul] at h1
    omega
  · have e : lo * 2 ^ s / 18446744073709551616 = lo / 2 ^ (64 - s) := by
      rw [hp, Nat.mul_div_mul_right _ _ (Nat.two_pow_pos _)]
    have := Nat.div_add_mod (lo * 2 ^ s) 18446744073709551616
    rw [e] at this
    have e2 : (hi * 18446744073709551616 + lo) * 2 ^ s = hi * 2 ^ s * 18446744073709551616 + lo * 2 ^ s := by
      rw [Nat.add_mul, Nat.mul_right_comm]
    rw [e2, Nat.add_mul]
    clear hp e e2 hlt h1
    generalize lo * 2 ^ s % 18446744073709551616 = C at *
    generalize lo / 2 ^ (64 - s) = A at *
    generalize hi * 2 ^ s = B at *
    generalize lo * 2 ^ s = D at *
    omega
end Pw
namespace Pw
open Go
theorem kn_start {Y y1 y0 u d : Nat} (hY : Y = y1 * 4294967296 + y0) (h1 : 0 < y1) (hd : d < 4294967296) : u * 4294967296 + d < (u / y1 + 1) * Y := by
  have hle : y1 * 4294967296 ≤ Y := by omega
  have h : u < (u / y1 + 1) * y1 := by
    have := Nat.lt_div_mul_add h1 (a := u)
    rw [Nat.add_mul, Nat.one_mul]
    exact this
  have h2 : (u + 1) * 4294967296 ≤ (u / y1 + 1) * y1 * 4294967296 := Nat.mul_le_mul_right _ h
  have h3 : (u / y1 + 1) * y1 * 4294967296 ≤ (u / y1 + 1) * Y := by
    rw [Nat.mul_assoc]
    exact Nat.mul_le_mul_left _ hle
  have h4 := Nat.le_trans h2 h3
  rw [Nat.add_mul] at h4
  generalize (u / y1 + 1) * Y = A at *
  clear h2 h3 h hle hY
  omega

/-- The rest, as the code reckons it with words that wrap round. -/
theorem kn_rest {u d q Y R : Nat} (h : u * 4294967296 + d = q * Y + R) (hR : R < 18446744073709551616) :
    IntKind.wrap .u64 (IntKind.wrap .u64 (IntKind.wrap .u64 ((u : Int) * 4294967296) + (d : Int)) - IntKind.wrap .u64 ((q : Int) * (Y : Int))) = (R : Int) := by
  simp only [wu64_mod]
  rw [Int.emod_add_emod, ← Int.sub_emod]
  have e : (u : Int) * 4294967296 + (d : Int) - (q : Int) * (Y : Int) = (R : Int) := by
    have := congrArg (fun n : Nat => (n : Int)) h
    simp only [Int.natCast_add, Int.natCast_mul] at this
    have h4 : (((4294967296 : Nat) : Int)) = 4294967296 := by omega
    rw [h4] at this
    generalize (q : Int) * (Y : Int) = A at *
    generalize (u : Int) * 4294967296 = B at *
    omega
  rw [e]
  exact Int.emod_eq_of_lt (by omega) (by omega)

theorem kn_lt {u d q Y : Nat} (h : q * Y ≤ u * 4294967296 + d) (hu : u < Y) (hd : d < 4294967296) : q < 4294967296 := by
  rcases Nat.lt_or_ge q 4294967296 with hq | hq
  · exact hq
  · have h1 : 4294967296 * Y ≤ q * Y := Nat.mul_le_mul_right _ hq
    have h2 : (u + 1) * 4294967296 ≤ Y * 4294967296 := Nat.mul_le_mul_right _ hu
    generalize q * Y = A at *
    omega
end Pw
