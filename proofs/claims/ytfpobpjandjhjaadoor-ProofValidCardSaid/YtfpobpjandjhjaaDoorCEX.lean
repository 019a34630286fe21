/- The reference's numbers, and the problem that numbers determine, in plain terms. Conditions: none. -/
import Derived.Test.YtfpobpjandjhjaaDoorCBX
import Derived.Test.YtfpobpjandjhjaaDoorProg
import Derived.KernelRfl
import Derived.Test.YtfpobpjandjhjaaDoorPwY
import Derived.Test.YtfpobpjandjhjaaDoorCG0
import Derived.Test.YtfpobpjandjhjaaDoorCG1
import Derived.Test.YtfpobpjandjhjaaDoorCG2
namespace Pw
def nv (l : List Int) (j : Nat) (n : Int) : Int := l.getD j 0 % n
theorem nv_range {l : List Int} {j : Nat} {n : Int} (h : 0 < n) : 0 <= nv l j n /\ nv l j n < n := ⟨Int.emod_nonneg _ (by omega), Int.emod_lt_of_pos _ h⟩
theorem nv_out {l : List Int} {j : Nat} {n : Int} (h : l.length <= j) : nv l j n = 0 := by
 unfold nv
 rw [List.getD_eq_getElem?_getD, List.getElem?_eq_none h]
 exact Int.zero_emod n
def mLots (l : List Int) : Int := 1 + nv l 2 4
def mLot (l : List Int) (i : Nat) : Int := 10 + 3 * i - 2 * nv l (3 + i) 2
def mLotsL (l : List Int) : List Int := (List.range (mLots l).toNat).map (mLot l)
def mChoices (l : List Int) : Int := nv l (3 + (mLots l).toNat) 13
def mC0 (l : List Int) : Nat := 4 + (mLots l).toNat
def mCh (l : List Int) (i : Nat) : Ch := ⟨(mLotsL l).getD (nv l (mC0 l + 4 * i) (mLots l)).toNat 0, 1 + nv l (mC0 l + 4 * i + 1) 4, nv l (mC0 l + 4 * i + 2) 12, nv l (mC0 l + 4 * i + 3) 6⟩
def mChL (l : List Int) : List Ch := (List.range (mChoices l).toNat).map (mCh l)
def mDeals (l : List Int) : Int := nv l (mC0 l + 4 * (mChoices l).toNat) 4
def mD0 (l : List Int) : Nat := mC0 l + 4 * (mChoices l).toNat + 1
def mSet (l : List Int) (i : Nat) : Int := 1 + nv l (mD0 l + 3 * i + 2) (2 ^ (mLots l).toNat - 1)
def bitI (n : Int) (k : Nat) : Bool := decide ((n / 2 ^ k) % 2 = 1)
def mDe (l : List Int) (i : Nat) : De := ⟨1 + nv l (mD0 l + 3 * i) 4, (List.range (mLots l).toNat).filterMap (fun k => if bitI (mSet l i) k then some (mLot l k) else none), nv l (mD0 l + 3 * i + 1) 6⟩
def mDeL (l : List Int) : List De := (List.range (mDeals l).toNat).map (mDe l)
def madeP (l : List Int) : Pr := ⟨mLotsL l, mChL l, mDeL l, nv l 0 4, nv l 1 30⟩
section
variable {l : List Int}
theorem mLots_range : 1 <= mLots l /\ mLots l <= 4 := by
 have := nv_range (l := l) (j := 2) (n := 4) (by decide)
 unfold mLots; omega
theorem mLot_lt {i j : Nat} (h : i < j) : mLot l i < mLot l j := by
 have h1 := nv_range (l := l) (j := 3 + i) (n := 2) (by decide)
 have h2 := nv_range (l := l) (j := 3 + j) (n := 2) (by decide)
 unfold mLot; omega
theorem mLotsL_nodup : (mLotsL l).Nodup := by
 unfold mLotsL
 rw [List.nodup_iff_pairwise_ne, List.pairwise_map]
 exact List.pairwise_lt_range.imp fun h => by have := mLot_lt (l := l) h; omega
theorem mLotsL_len : (mLotsL l).length = (mLots l).toNat := by simp [mLotsL]
theorem mDe_lots_ne {i : Nat} : (mDe l i).lots ≠ [] := by
 have hL := mLots_range (l := l)
 obtain ⟨k, hk⟩ : ∃ k, (mLots l).toNat = k := ⟨_, rfl⟩
 have hp : (0 : Int) < 2 ^ (mLots l).toNat - 1 := by
  rw [hk]
  have : k = 1 \/ k = 2 \/ k = 3 \/ k = 4 := by omega
  rcases this with rfl | rfl | rfl | rfl <;> decide
 have hs := nv_range (l := l) (j := mD0 l + 3 * i + 2) hp
 intro h
 simp only [mDe, List.filterMap_eq_nil_iff, List.mem_range] at h
 have key : ∀ k, k < (mLots l).toNat -> bitI (mSet l i) k = false := by
  intro k hk
  have := h k hk
  split at this
  ·cases this
  ·rename_i hb; simpa using hb
 have hset : 1 <= mSet l i /\ mSet l i < 2 ^ (mLots l).toNat := by unfold mSet; omega
 generalize mSet l i = m at *
 rw [hk] at hset key
 have : k = 1 \/ k = 2 \/ k = 3 \/ k = 4 := by omega
 simp only [bitI, decide_eq_false_iff_not] at key
 have h0 := key 0
 have h1 := key 1
 have h2 := key 2
 have h3 := key 3
 simp only [Int.pow_zero, Int.ediv_one, Int.pow_one, show (2 : Int) ^ 2 = 4 from rfl, show (2 : Int) ^ 3 = 8 from rfl] at h0 h1 h2 h3
 rcases this with rfl | rfl | rfl | rfl
 ·have := h0 (by omega); simp at hset; omega
 ·have a := h0 (by omega); have b := h1 (by omega); simp at hset; omega
 ·have a := h0 (by omega); have b := h1 (by omega); have c := h2 (by omega); simp at hset; omega
 ·have a := h0 (by omega); have b := h1 (by omega); have c := h2 (by omega); have d := h3 (by omega); simp at hset; omega
theorem filterMap_sub {ks : List Nat} (hs : ks.Pairwise (· < ·)) (q : Nat -> Bool) : ((ks.filterMap fun k => if q k then some (mLot l k) else none)).Pairwise (· < ·) /\ ∀ x ∈ ks.filterMap (fun k => if q k then some (mLot l k) else none), ∃ k ∈ ks, x = mLot l k := by
 constructor
 ·rw [List.pairwise_filterMap]
  refine hs.imp fun {a b} hab x hx y hy => ?_
  have e1 : x = mLot l a := by
   split at hx
   ·exact (Option.some.inj hx).symm
   ·cases hx
  have e2 : y = mLot l b := by
   split at hy
   ·exact (Option.some.inj hy).symm
   ·cases hy
  rw [e1, e2]
  exact mLot_lt hab
 ·intro x hx
  obtain ⟨k, hk, hx⟩ := List.mem_filterMap.1 hx
  split at hx
  ·exact ⟨k, hk, (Option.some.inj hx).symm⟩
  ·cases hx
theorem madeP_right (l : List Int) : RightPr (madeP l) := by
 have hL := mLots_range (l := l)
 have hlen := mLotsL_len (l := l)
 refine ⟨?_, ?_, mLotsL_nodup, ?_, ?_, ?_, ?_, fun c hc => ?_, fun d hd => ?_⟩
 ·show 0 < (mLotsL l).length; omega
 ·show (mLotsL l).length <= 12; omega
 ·have := nv_range (l := l) (j := 3 + (mLots l).toNat) (n := 13) (by decide)
  show (mChL l).length <= 480
  simp only [mChL, List.length_map, List.length_range, mChoices]; omega
 ·have := nv_range (l := l) (j := mC0 l + 4 * (mChoices l).toNat) (n := 4) (by decide)
  show (mDeL l).length <= 100
  simp only [mDeL, List.length_map, List.length_range, mDeals]; omega
 ·have := nv_range (l := l) (j := 0) (n := 4) (by decide)
  show Wi (nv l 0 4) _
  exact ⟨this.1, by omega⟩
 ·have := nv_range (l := l) (j := 1) (n := 30) (by decide)
  show Wi (nv l 1 30) _
  exact ⟨this.1, by omega⟩
 ·obtain ⟨i, _, rfl⟩ := List.mem_map.1 hc
  have h1 := nv_range (l := l) (j := mC0 l + 4 * i) (n := mLots l) (by omega)
  have h2 := nv_range (l := l) (j := mC0 l + 4 * i + 2) (n := 12) (by decide)
  have h3 := nv_range (l := l) (j := mC0 l + 4 * i + 3) (n := 6) (by decide)
  refine ⟨?_, ⟨h2.1, by show nv l (mC0 l + 4 * i + 2) 12 <= _; omega⟩, ⟨h3.1, by show nv l (mC0 l + 4 * i + 3) 6 <= _; omega⟩⟩
  show (mLotsL l).getD _ 0 ∈ mLotsL l
  have hlt : (nv l (mC0 l + 4 * i) (mLots l)).toNat < (mLotsL l).length := by omega
  rw [List.getD_eq_getElem?_getD, List.getElem?_eq_getElem hlt]
  exact List.getElem_mem hlt
 ·obtain ⟨i, _, rfl⟩ := List.mem_map.1 hd
  have h2 := nv_range (l := l) (j := mD0 l + 3 * i + 1) (n := 6) (by decide)
  obtain ⟨q1, q2⟩ := filterMap_sub (l := l) (List.pairwise_lt_range (n := (mLots l).toNat)) (bitI (mSet l i))
  refine ⟨mDe_lots_ne, ?_, fun x hx => ?_, ⟨h2.1, by show nv l (mD0 l + 3 * i + 1) 6 <= _; omega⟩⟩
  ·rw [List.nodup_iff_pairwise_ne]
   exact q1.imp fun h => by omega
  ·obtain ⟨k, hk, rfl⟩ := q2 x hx
   exact List.mem_map.2 ⟨k, hk, rfl⟩
end
end Pw
set_option maxRecDepth 20000
