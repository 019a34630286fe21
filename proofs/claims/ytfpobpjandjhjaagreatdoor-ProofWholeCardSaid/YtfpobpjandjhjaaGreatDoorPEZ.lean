/- append(s, make(..)...). Conditions: none. -/
import Derived.Test.YtfpobpjandjhjaaGreatDoorPXZ
namespace Pw
open Go
theorem Mk.appZ {α : Type} {n : Nat} {enc : α -> List Value} {w0 w : World} {s : Sl} {l : List α} {z : α} {bytes : Nat} {zero : List Value} {e : Nat} {k : Nat} {K : SW} (h : Mk w0 n enc w s l) (hz : zero = enc z) (hn : (enc z).length = n)
  (hb : (l.length + k) * bytes <= 2 ^ 47) (hm : l.length + k < 2 ^ 63) (hK : ∀ r w', Mk w0 n enc w' r (l ++ List.replicate k z) -> K r w') : apZ n bytes zero e s (k : Int) w K := by
 subst hz
 have key : rowZ (enc z) (k * (enc z).length) = (List.replicate k z).flatMap enc := by
  clear hb hm hK
  have hlen : ((List.replicate k z).flatMap enc).length = k * n := by
   induction k with
   | zero => simp
   | succ j ih => simp only [List.replicate_succ, List.flatMap_cons, List.length_append, ih, hn, Nat.add_mul]; omega
  apply List.ext_getElem
  ·rw [rowZ_length, hlen, hn]
  ·intro i h1 h2
   have hn0 : 0 < n := by
    rcases Nat.eq_zero_or_pos n with h | h
    ·rw [rowZ_length, hn, h] at h1; omega
    ·exact h
   rw [hlen] at h2
   have h3 : ∀ (j i : Nat), i < j * n -> ((List.replicate j z).flatMap enc)[i]? = (enc z)[i % n]? := by
    intro j
    induction j with
    | zero => intro i hi; simp at hi
    | succ j ih =>
     intro i hi
     simp only [List.replicate_succ, List.flatMap_cons]
     rcases Nat.lt_or_ge i n with hin | hin
     ·rw [List.getElem?_append_left (by omega), Nat.mod_eq_of_lt hin]
     ·rw [List.getElem?_append_right (by omega), hn, ih _ (by rw [Nat.add_mul] at hi; omega), Nat.mod_eq_sub_mod hin]
   have h4 := h3 k i h2
   have h5 : i % n < (enc z).length := by rw [hn]; exact Nat.mod_lt _ hn0
   rw [List.getElem?_eq_getElem h5, List.getElem?_eq_getElem (by rw [hlen]; exact h2)] at h4
   rw [Option.some.inj h4]
   simp [rowZ, hn, Nat.mod_lt _ hn0]
 have hl := h.len
 have hbk : k * bytes <= (l.length + k) * bytes := Nat.mul_le_mul_right _ (by omega)
 refine ⟨by omega, by omega, by rw [show ((k : Int) * (bytes : Int)) = ((k * bytes : Nat) : Int) by simp]; omega, ?_⟩
 rw [Int.toNat_natCast, key]
 refine apG_own h.ow.own (by rw [← key, rowZ_length, hn]) hn (by rw [hl]; exact hb) (by rw [hl]; exact hm) fun r w' ho hr hf hi => hK r w' ⟨h.fr0.trans hf fun b hb hlt => absurd (h.nw b hb) (by omega), ⟨by rw [hr, hl]; simp, by rw [List.flatMap_append]; exact ho⟩, fun b hb => ?_⟩
 rcases hi b hb with h1 | h1
 ·exact h.nw b h1
 ·exact Nat.le_trans h.fr0.1 h1
end Pw
