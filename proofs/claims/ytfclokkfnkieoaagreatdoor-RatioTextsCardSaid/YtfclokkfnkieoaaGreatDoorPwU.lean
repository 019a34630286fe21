/- Decimal texts: an int's text read again. Conditions: none. -/
import Derived.Lib.ItoaMem
import Derived.Lib.AtoiAllCases
import Derived.Lib.IndexBytes
import Derived.Lib.IndexMore
import Derived.Test.YtfclokkfnkieoaaGreatDoorPwS
namespace Pw
open Go

theorem digit_nat {d : Nat} (h : d < 10) : (UInt8.ofNat (48 + d)).toNat = 48 + d := by
  rw [UInt8.toNat_ofNat']
  omega

theorem dec_digit : ∀ (u : Nat) (c : UInt8), c ∈ Lib.decDigits u → 48 ≤ c.toNat ∧ c.toNat ≤ 57 := by
  intro u
  induction u using Nat.strongRecOn with
  | ind u ih =>
    intro c hc
    rw [Lib.decDigits] at hc
    split at hc
    · rename_i h
      simp only [List.mem_singleton] at hc
      subst hc
      rw [digit_nat h]
      omega
    · rename_i h
      rcases List.mem_append.1 hc with hc | hc
      · exact ih (u / 10) (by omega) c hc
      · simp only [List.mem_singleton] at hc
        subst hc
        rw [digit_nat (by omega)]
        omega

theorem dec_ne (u : Nat) : Lib.decDigits u ≠ [] := by
  rw [Lib.decDigits]
  split <;> simp

theorem parse_app : ∀ (l : List UInt8) (acc v : Nat) (m : List UInt8), Lib.parseUint10 acc l = .ok v → Lib.parseUint10 acc (l ++ m) = Lib.parseUint10 v m
  | [], acc, v, m, h => by
    simp only [Lib.parseUint10] at h
    injection h with h
    subst h
    rfl
  | c :: l, acc, v, m, h => by
    simp only [List.cons_append, Lib.parseUint10] at h ⊢
    split at h
    · rename_i h1
      rw [if_pos h1]
      split at h
      · cases h
      · rename_i h2
        rw [if_neg h2]
        split at h
        · cases h
        · rename_i h3
          rw [if_neg h3]
          exact parse_app l _ v m h
    · cases h

theorem parse_dec : ∀ (u : Nat), u < 18446744073709551616 → Lib.parseUint10 0 (Lib.decDigits u) = .ok u := by
  intro u
  induction u using Nat.strongRecOn with
  | ind u ih =>
    intro hu
    rw [Lib.decDigits]
    split
    · rename_i h
      simp only [Lib.parseUint10, digit_nat h]
      rw [if_pos (by omega), if_neg (by omega), if_neg (by omega)]
      congr 1
      omega
    · rename_i h
      rw [parse_app _ _ _ _ (ih (u / 10) (by omega) (by omega))]
      simp only [Lib.parseUint10, digit_nat (show u % 10 < 10 by omega)]
      rw [if_pos (by omega), if_neg (by omega), if_neg (by omega)]
      congr 1
      omega

theorem mag_dec (u : Nat) (h : u < 18446744073709551616) : Lib.parseMag (Lib.decDigits u) = .ok u := by
  unfold Lib.parseMag
  rw [if_neg (dec_ne u), parse_dec u h]

theorem atoi_itoa {n : Int} (h0 : -9223372036854775808 ≤ n) (h1 : n < 9223372036854775808) : Lib.atoiAll (Lib.itoa n) = .ok n := by
  unfold Lib.itoa
  split
  · rename_i h
    rw [Lib.atoiAll_minus, mag_dec _ (by omega)]
    unfold Lib.signed
    simp only
    rw [if_neg (by omega)]
    congr 1
    omega
  · rename_i h
    have hd := dec_digit n.toNat
    have hm := mag_dec n.toNat (by omega)
    cases hl : Lib.decDigits n.toNat with
    | nil => exact absurd hl (dec_ne _)
    | cons c r =>
      have hc := hd c (by rw [hl]; simp)
      rw [Lib.atoiAll_plain c r (by omega) (by omega), ← hl, hm]
      unfold Lib.signless
      simp only
      rw [if_neg (by omega)]
      congr 1
      omega

theorem itoa_noslash (n : Int) : (47 : UInt8) ∉ Lib.itoa n := by
  unfold Lib.itoa
  split
  · intro h
    rcases List.mem_cons.1 h with h | h
    · cases h
    · have := (dec_digit _ _ h).1
      exact absurd this (by decide)
  · intro h
    have := (dec_digit _ _ h).1
    exact absurd this (by decide)

theorem itoa_ne (n : Int) : Lib.itoa n ≠ [] := by
  unfold Lib.itoa
  split
  · simp
  · exact dec_ne _

theorem occ_one (l : List UInt8) (c : UInt8) (j : Nat) : Lib.occAt l [c] j = (l[j]? == some c) := by
  unfold Lib.occAt
  have e : l[j]? = (l.drop j)[0]? := by rw [List.getElem?_drop]; rfl
  rw [e]
  cases l.drop j with
  | nil => rfl
  | cons x r =>
    by_cases h : c = x
    · subst h; simp [List.isPrefixOf]
    · simp [List.isPrefixOf, BEq.comm]

theorem cut_hit {a b : List UInt8} {c : UInt8} (h : c ∉ a) : Lib.cut (a ++ c :: b) [c] = (a, b, true) := by
  have hi : Lib.index (a ++ c :: b) [c] = (a.length : Nat) := by
    refine Lib.index_first (by simp) ?_ fun j hj => ?_
    · rw [occ_one]; simp
    · rw [occ_one, List.getElem?_append_left hj]
      simp only [beq_eq_false_iff_ne, ne_eq]
      intro he
      exact h (List.mem_of_getElem? he)
  unfold Lib.cut
  rw [hi, if_pos (by omega)]
  simp

theorem cut_miss {a : List UInt8} {c : UInt8} (h : c ∉ a) : Lib.cut a [c] = (a, [], false) := by
  have hi : Lib.index a [c] = -1 := by
    refine Lib.index_none fun j _ => ?_
    rw [occ_one]
    simp only [beq_eq_false_iff_ne, ne_eq]
    intro he
    exact h (List.mem_of_getElem? he)
  unfold Lib.cut
  rw [hi, if_neg (by omega)]

theorem mem_first {c : UInt8} : ∀ {l : List UInt8}, c ∈ l → ∃ a b, l = a ++ c :: b ∧ c ∉ a
  | x :: l, h => by
    by_cases hx : c = x
    · subst hx
      exact ⟨[], l, rfl, by simp⟩
    · obtain ⟨a, b, rfl, hn⟩ := mem_first (l := l) (by simpa [hx] using h)
      exact ⟨x :: a, b, rfl, by simp [hx, hn]⟩

/-- A rational number's text. -/
def textL (n d : Int) : List UInt8 := if d = 1 then Lib.itoa n else Lib.itoa n ++ 47 :: Lib.itoa d
end Pw
