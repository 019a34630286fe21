/- Natural numbers as digits to the base 65536, the least significant one first: plain laws. Conditions: none. -/
import Derived.Test.YtfclokkfnkieoaaGreatDoorPwV
import Derived.Test.YtfclokkfnkieoaaGreatDoorPwS
namespace Pw
open Go

def Dg (l : List Nat) : Prop := ∀ x ∈ l, x < 65536
def vl : List Nat → Nat
  | [] => 0
  | d :: l => d + 65536 * vl l

theorem vl_append : ∀ (l m : List Nat), vl (l ++ m) = vl l + 65536 ^ l.length * vl m
  | [], m => by simp [vl]
  | d :: l, m => by
    simp only [List.cons_append, vl, vl_append l m, List.length_cons, Nat.pow_succ]
    rw [Nat.mul_add, Nat.mul_comm (65536 ^ l.length) 65536, Nat.mul_assoc, Nat.add_assoc]

theorem vl_lt : ∀ {l : List Nat}, Dg l → vl l < 65536 ^ l.length
  | [], _ => by simp [vl]
  | d :: l, h => by
    have ih := vl_lt (l := l) fun x hx => h x (by simp [hx])
    have h1 := h d (by simp)
    simp only [vl, List.length_cons, Nat.pow_succ]
    omega

theorem vl_split (l : List Nat) (i : Nat) (hi : i ≤ l.length) : vl l = vl (l.take i) + 65536 ^ i * vl (l.drop i) := by
  conv => lhs; rw [← List.take_append_drop i l, vl_append]
  rw [List.length_take, Nat.min_eq_left hi]

theorem vl_take_succ (l : List Nat) (i : Nat) (hi : i < l.length) : vl (l.take (i + 1)) = vl (l.take i) + 65536 ^ i * l.getD i 0 := by
  rw [List.take_add_one, List.getElem?_eq_getElem hi, vl_append]
  simp [vl, List.getD_eq_getElem?_getD, hi, Nat.min_eq_left (Nat.le_of_lt hi)]

theorem vl_drop (l : List Nat) (i : Nat) (hi : i < l.length) : vl (l.drop i) = l.getD i 0 + 65536 * vl (l.drop (i + 1)) := by
  rw [List.drop_eq_getElem_cons hi, vl]
  simp [hi]

theorem vl_take_all (l : List Nat) (i : Nat) (hi : l.length ≤ i) : vl (l.take i) = vl l := by rw [List.take_of_length_le hi]

theorem vl_set : ∀ (l : List Nat) (i v : Nat), i < l.length → vl (l.set i v) + 65536 ^ i * l.getD i 0 = vl l + 65536 ^ i * v
  | [], i, v, h => by simp at h
  | d :: l, 0, v, _ => by simp [vl]; omega
  | d :: l, i + 1, v, h => by
    have ih := vl_set l i v (by simpa using h)
    have e : ∀ a b : Nat, 65536 ^ a * 65536 * b = 65536 * (65536 ^ a * b) := fun a b => by rw [Nat.mul_comm (65536 ^ a) 65536, Nat.mul_assoc]
    simp only [List.set_cons_succ, vl, Nat.pow_succ, List.getD_cons_succ, e]
    omega

theorem vl_zero : ∀ {l : List Nat}, (∀ x ∈ l, x = 0) → vl l = 0
  | [], _ => rfl
  | d :: l, h => by simp [vl, h d (by simp), vl_zero (l := l) fun _ hx => h _ (by simp [hx])]

theorem vl_replicate (n : Nat) : vl (List.replicate n 0) = 0 := vl_zero fun _ hx => (List.mem_replicate.1 hx).2

theorem Dg.nil : Dg [] := fun _ hx => by cases hx
theorem Dg.push {l : List Nat} {d : Nat} (h : Dg l) (hd : d < 65536) : Dg (l ++ [d]) := by
  intro x hx
  rcases List.mem_append.1 hx with hx | hx
  · exact h x hx
  · simp at hx; subst hx; exact hd
theorem Dg.cons {l : List Nat} {d : Nat} (h : Dg l) (hd : d < 65536) : Dg (d :: l) := by
  intro x hx
  rcases List.mem_cons.1 hx with rfl | hx
  · exact hd
  · exact h x hx
theorem Dg.take {l : List Nat} (h : Dg l) (i : Nat) : Dg (l.take i) := fun x hx => h x (List.mem_of_mem_take hx)
theorem Dg.drop {l : List Nat} (h : Dg l) (i : Nat) : Dg (l.drop i) := fun x hx => h x (List.mem_of_mem_drop hx)
theorem Dg.set {l : List Nat} (h : Dg l) (i : Nat) {v : Nat} (hv : v < 65536) : Dg (l.set i v) := fun x hx => by
  rcases List.mem_or_eq_of_mem_set hx with hx | rfl
  · exact h x hx
  · exact hv
theorem Dg.getD {l : List Nat} (h : Dg l) (i : Nat) : l.getD i 0 < 65536 := by
  rw [List.getD_eq_getElem?_getD]
  cases hi : l[i]? with
  | none => simp
  | some x => simp; exact h x (List.mem_of_getElem? hi)
theorem Dg.replicate (n : Nat) : Dg (List.replicate n 0) := fun x hx => by rw [(List.mem_replicate.1 hx).2]; decide

/-- No zero at the end. -/
def Tr (l : List Nat) : Prop := l.length = 0 ∨ l.getD (l.length - 1) 0 ≠ 0

theorem Tr.le {l : List Nat} (h : Tr l) (hl : 0 < l.length) : 65536 ^ (l.length - 1) ≤ vl l := by
  have h1 : l.getD (l.length - 1) 0 ≠ 0 := by
    rcases h with h | h
    · omega
    · exact h
  have h2 := vl_take_succ l (l.length - 1) (by omega)
  rw [vl_take_all _ _ (by omega)] at h2
  have h3 : 65536 ^ (l.length - 1) * 1 ≤ 65536 ^ (l.length - 1) * l.getD (l.length - 1) 0 := Nat.mul_le_mul_left _ (by omega)
  omega

theorem Tr.zero {l : List Nat} (h : Tr l) : vl l = 0 ↔ l.length = 0 := by
  constructor
  · intro h0
    rcases Nat.eq_zero_or_pos l.length with hl | hl
    · exact hl
    · have := h.le hl
      have : 0 < 65536 ^ (l.length - 1) := Nat.pow_pos (by decide)
      omega
  · intro h0
    rw [List.eq_nil_of_length_eq_zero h0]; rfl

theorem Tr.short {l : List Nat} (h : Tr l) {k : Nat} (hk : vl l < 65536 ^ k) : l.length ≤ k := by
  rcases Nat.lt_or_ge k l.length with hl | hl
  · have h1 := h.le (by omega)
    have : 65536 ^ k ≤ 65536 ^ (l.length - 1) := Nat.pow_le_pow_right (by decide) (by omega)
    omega
  · exact hl

theorem vl_lt_of_length {a b : List Nat} (ha : Dg a) (hb : Tr b) (h : a.length < b.length) : vl a < vl b := by
  have h1 := vl_lt ha
  have h2 := hb.le (by omega)
  have : 65536 ^ a.length ≤ 65536 ^ (b.length - 1) := Nat.pow_le_pow_right (by decide) (by omega)
  omega

theorem vl_lt_at {a b : List Nat} {i : Nat} (ha : Dg a) (hi : i < a.length) (hib : i < b.length) (hd : a.drop (i + 1) = b.drop (i + 1)) (h : a.getD i 0 < b.getD i 0) : vl a < vl b := by
  rw [vl_split a i (by omega), vl_split b i (by omega), vl_drop a i hi, vl_drop b i hib, hd]
  have h1 := vl_lt (ha.take i)
  rw [List.length_take, Nat.min_eq_left (by omega)] at h1
  have h2 : 65536 ^ i * (a.getD i 0 + 65536 * vl (b.drop (i + 1)) + 1) ≤ 65536 ^ i * (b.getD i 0 + 65536 * vl (b.drop (i + 1))) := Nat.mul_le_mul_left _ (by omega)
  rw [Nat.mul_add] at h2
  omega

theorem drop_eq_at {a b : List Nat} {i : Nat} (hi : i < a.length) (hib : i < b.length) (hd : a.drop (i + 1) = b.drop (i + 1)) (h : a.getD i 0 = b.getD i 0) : a.drop i = b.drop i := by
  rw [List.drop_eq_getElem_cons hi, List.drop_eq_getElem_cons hib, hd]
  simp [hi, hib] at h
  rw [h]

theorem natAbs_pow_four {n : Int} (h : -9223372036854775808 ≤ n ∧ n < 9223372036854775808) : n.natAbs < 65536 ^ 4 := by
  have : (65536 : Nat) ^ 4 = 18446744073709551616 := by decide
  omega
end Pw
