/- The reference's Mod, Name, decimal, Lot. Conditions: none. -/
import Derived.Test.YtfkmpbpkahcogaaGreatDoorDZTX
import Derived.Test.YtfkmpbpkahcogaaGreatDoorDG4
namespace Dp
open Go Pw
def modP (n m : Int) : Int := Int.tmod (Int.tmod n m + m) m
def names5 : List B := [[113, 117, 97, 108, 105, 116, 121], [100, 97, 121, 115], [115, 116, 97, 102, 102], [112, 114, 105, 99, 101], [108, 111, 119]]
def namP (n : Int) : B := names5.getD (modP n 5).toNat []
theorem modP_in (n : Int) {m : Int} (h0 : 0 < m) : 0 <= modP n m /\ modP n m < m := by
 have a1 := Int.tmod_lt_of_pos n h0
 have a2 := Int.lt_tmod_of_pos n h0
 exact ⟨Int.tmod_nonneg _ (by omega), Int.tmod_lt_of_pos _ h0⟩
theorem itoa_big {n : Int} (h : 10 <= n) : Lib.itoa n = Lib.itoa (Int.tdiv n 10) ++ [UInt8.ofNat (48 + (Int.tmod n 10).toNat)] := by
 obtain ⟨u, rfl⟩ := Int.eq_ofNat_of_zero_le (show 0 <= n by omega)
 unfold Lib.itoa
 have e1 : Int.tdiv (u : Int) 10 = ((u / 10 : Nat) : Int) := rfl
 have e2 : Int.tmod (u : Int) 10 = ((u % 10 : Nat) : Int) := rfl
 rw [e1, e2, if_neg (by omega), if_neg (by omega)]
 simp only [Int.toNat_natCast]
 conv => lhs; rw [Lib.decDigits]
 rw [dif_neg (by omega)]
theorem itoa_dig {n : Int} (h0 : 0 <= n) (h : n < 10) : Lib.itoa n = [UInt8.ofNat (48 + n.toNat)] := by
 unfold Lib.itoa
 rw [if_neg (by omega), Lib.decDigits, dif_pos (by omega)]
theorem itoa_negbig {n : Int} (h : n <= -10) : Lib.itoa n = 45 :: (Lib.itoa (-(Int.tdiv n 10)) ++ [UInt8.ofNat (48 + (-(Int.tmod n 10)).toNat)]) := by
 have := itoa_big (n := -n) (by omega)
 have e1 : Int.tdiv (-n) 10 = -(Int.tdiv n 10) := Int.neg_tdiv _ _
 have e2 : Int.tmod (-n) 10 = -(Int.tmod n 10) := Int.neg_tmod _ _
 rw [e1, e2] at this
 rw [← this]
 unfold Lib.itoa
 rw [if_pos (by omega), if_neg (by omega)]
 congr 2
 omega
theorem itoa_negdig {n : Int} (h0 : n < 0) (h : -10 < n) : Lib.itoa n = 45 :: [UInt8.ofNat (48 + (-(Int.tmod n 10)).toNat)] := by
 unfold Lib.itoa
 have e : Int.tmod n 10 = n := by
  have := Int.neg_tmod (-n) 10
  rw [Int.neg_neg] at this
  rw [this, Int.tmod_eq_of_lt (by omega) (by omega), Int.neg_neg]
 rw [if_pos h0, Lib.decDigits, dif_pos (by omega), e]
 congr 4
 omega
end Dp
namespace Go.Proofs.YtfkmpbpkahcogaaGreatDoor
open Go Pw Dp
section
variable {w w' u : World} {s s' : Sl} {x : T43}
theorem Mod_spec {n m : Int} {K : Int -> World -> Prop} (h0 : 0 < m) (h1 : m < 2 ^ 62) (hK : K (modP n m) w) : z1y_sh n m K w := by
 have a1 := Int.tmod_lt_of_pos n h0
 have a2 := Int.lt_tmod_of_pos n h0
 refine ⟨?_⟩
 unfold z1y_sd
 exact ⟨by omega, inR64 (by omega) (by omega), by omega, hK⟩
theorem str_at {l : List B} {b : Nat} {i : Int} {n : Nat} (hr : Row w b (l.flatMap encB)) (h0 : 0 <= i) (hn : n = l.length) (h1 : i < n) : w.cell? ((⟨b, 0, none⟩ : Addr).add (i.toNat * 1)) = some (.string (ofL (l.getD i.toNat []))) := by
 subst hn
 rw [add_mk, Nat.zero_add, Nat.mul_one, hr.cell]
 have hi : i.toNat < l.length := by omega
 have := fm_at encB_length l i.toNat 0 (l[i.toNat]) (List.getElem?_eq_getElem hi) (by decide)
 rw [Nat.mul_one, Nat.add_zero] at this
 rw [this, List.getD_eq_getElem?_getD, List.getElem?_eq_getElem hi]
 rfl
theorem Name_spec {n : Int} {K : ByteArray -> World -> Prop} (hK : ∀ w', Fr F0 w w' -> K (ofL (namP n)) w') : z1j_sh n K w := by
 refine ⟨?_⟩
 unfold z1j_sd
 intro w1
 have r : Row w1 w.heap.size (names5.flatMap encB) := Row.new
 have f : Fr F0 w w1 := Fr.alloc
 clear_value w1
 have hm := modP_in n (m := 5) (by decide)
 refine Mod_spec (by decide) (by decide) ⟨hm, _, str_at r hm.1 rfl hm.2, hK w1 f⟩
theorem dig1 {b : Nat} {e : Int} {d : Nat} {K : ByteArray -> Prop} (hd : d < 10) (hc : w.cell? ⟨b, 0, none⟩ = some (.int .u8 e)) (he : e = 48 + (d : Int)) (hK : K (ofL [UInt8.ofNat (48 + d)])) : btsS ⟨some ⟨b, 0, none⟩, 1, 1⟩ w K := by
 refine btsS_rd (l := [UInt8.ofNat (48 + d)]) ⟨rfl, fun i hi => ?_⟩ hK
 have : i = 0 := by simp at hi; omega
 subst this
 rw [add_mk, hc, he]
 simp only [List.map_cons, List.map_nil, List.getElem_cons_zero, bv, digit_nat hd]
 rfl
theorem inU8 {n : Int} (h : 0 <= n /\ n < 256) : inR .u8 n := by
 unfold inR
 simp [IntKind.wrap, IntKind.bits, IntKind.signed]
 omega
theorem rdec_spec : ∀ (k : Nat) {n : Int} {K : ByteArray -> World -> Prop} {w : World}, n.natAbs <= k -> I64 n -> (∀ w', Fr F0 w w' -> K (ofL (Lib.itoa n)) w') -> z0l_sh n K w := by
 intro k
 induction k using Nat.strongRecOn with
 | ind k ih =>
 intro n K w hk h hK
 obtain ⟨i0, i1⟩ := h
 refine z0l_mk n ?_
 unfold z0l_sd
 have hlow : ∀ {u : World}, 10 <= n \/ n < 0 -> z0l_k0 n K w := by
  intro _ hc
  refine ⟨?_⟩
  unfold z0l_k0d
  refine cnd_prop.2 ⟨fun hneg => ?_, fun hge => ?_⟩
  ·have hm1 : -10 < Int.tmod n 10 := Int.lt_tmod_of_pos n (by decide)
   have hm0 : Int.tmod n 10 <= 0 := by
    have := Int.tmod_nonneg (a := -n) 10 (by omega)
    rw [Int.neg_tmod] at this
    omega
   have k1 : ∀ (r : B) (u : World), Fr F0 w u -> r.length <= 21 -> Lib.itoa n = 45 :: (r ++ [UInt8.ofNat (48 + (-(Int.tmod n 10)).toNat)]) -> z0l_k1 n (ofL r) K u := by
    intro r u hf hr he
    refine ⟨?_⟩
    unfold z0l_k1d
    have e45 : str [45] = ofL [45] := rfl
    rw [e45, ofL_sz, ofL_sz]
    refine ⟨by unfold maxI; simp; omega, by decide, inR64 (by omega) (by omega), inU8 (by omega), ?_⟩
    intro u1
    have r1 : Row u1 u.heap.size [.int .u8 (48 - Int.tmod n 10)] := Row.new
    have f1 : Fr F0 u u1 := Fr.alloc
    clear_value u1
    refine dig1 (d := (-(Int.tmod n 10)).toNat) (by omega) (r1.at rfl) (by omega) ?_
    rw [ofL_app, ofL_sz, ofL_sz, ofL_app]
    refine ⟨by unfold maxI; simp; omega, ?_⟩
    have := hK u1 (hf.t f1)
    rw [he] at this
    exact this
   refine cnd_prop.2 ⟨fun h10 => ?_, fun h10 => ?_⟩
   ·have hd : -(Int.tdiv n 10) = ((n.natAbs / 10 : Nat) : Int) := by
     rw [← Int.neg_tdiv]
     obtain ⟨u, hu⟩ := Int.eq_ofNat_of_zero_le (show 0 <= -n by omega)
     rw [hu]
     have : n.natAbs = u := by omega
     rw [this]
     rfl
    have hI : I64 (-(Int.tdiv n 10)) := by rw [hd]; exact ⟨by omega, by omega⟩
    refine ⟨by decide, inR64 (by omega) (by omega), inR64 (by omega) (by omega), ih (n.natAbs / 10) (by omega) (by rw [hd]; omega) hI fun u hf => ?_⟩
    exact k1 _ u hf (Lib.itoa_length_le _ hI.1 (by have := hI.2; omega)) (itoa_negbig h10)
   ·exact k1 [] w Fr.refl (by simp) (itoa_negdig hneg (by omega))
  ·have h10 : 10 <= n := by omega
   have hm1 : Int.tmod n 10 < 10 := Int.tmod_lt_of_pos n (by decide)
   have hm0 : 0 <= Int.tmod n 10 := Int.tmod_nonneg _ (by omega)
   have hd : Int.tdiv n 10 = ((n.natAbs / 10 : Nat) : Int) := by
    obtain ⟨u, hu⟩ := Int.eq_ofNat_of_zero_le (show 0 <= n by omega)
    rw [hu]
    rfl
   have hI : I64 (Int.tdiv n 10) := by rw [hd]; exact ⟨by omega, by omega⟩
   have hl := Lib.itoa_length_le _ hI.1 (by have := hI.2; omega)
   have he := itoa_big h10
   have rcl : ∀ {u : World} {J : ByteArray -> World -> Prop}, (∀ w', Fr F0 u w' -> J (ofL (Lib.itoa (Int.tdiv n 10))) w') -> z0l_sh (Int.tdiv n 10) J u := fun hJ => ih (n.natAbs / 10) (by omega) (by rw [hd]; omega) hI hJ
   have fin : ∀ {u : World}, Fr F0 w u -> ((((ofL (Lib.itoa (Int.tdiv n 10))).size + (ofL [UInt8.ofNat (48 + (Int.tmod n 10).toNat)]).size : Nat) : Int) <= maxI) /\ K (ofL (Lib.itoa (Int.tdiv n 10)) ++ ofL [UInt8.ofNat (48 + (Int.tmod n 10).toNat)]) u := by
    intro u hf
    rw [ofL_app, ofL_sz, ofL_sz]
    refine ⟨by unfold maxI; simp; omega, ?_⟩
    have := hK u hf
    rw [he] at this
    exact this
   have he48 : (48 : Int) + Int.tmod n 10 = 48 + (((Int.tmod n 10).toNat : Nat) : Int) := by omega
   intro w7
   have f7 : Fr F0 w w7 := Fr.drew
   clear_value w7
   refine ⟨fun u => Fr F0 w7 u, Fr.refl, by decide, inR64 (by omega) (by omega), by decide, inR64 (by omega) (by omega), inU8 (by omega), rcl fun w9 f9 => ⟨f9, ?_⟩, ?_⟩
   ·intro w11
    have r1 : Row w11 w9.heap.size [.int .u8 (48 + Int.tmod n 10)] := Row.new
    have f1 : Fr F0 w9 w11 := Fr.alloc
    clear_value w11
    exact dig1 (by omega) (r1.at rfl) he48 (fin (f7.t (f9.t f1)))
   ·intro w13
    have r1 : Row w13 w7.heap.size [.int .u8 (48 + Int.tmod n 10)] := Row.new
    have f1 : Fr F0 w7 w13 := Fr.alloc
    clear_value w13
    refine ⟨f1, rcl fun w14 f14 => ⟨f1.t f14, dig1 (by omega) ((f14.row r1 fun h => h).at rfl) he48 (fin (f7.t (f1.t f14)))⟩, dig1 (by omega) (r1.at rfl) he48 ⟨f1, rcl fun w18 f18 => fin (f7.t (f1.t f18))⟩⟩
 refine cnd_prop.2 ⟨fun h0 => cnd_prop.2 ⟨fun h10 => ?_, fun h10 => hlow (u := w) (by omega)⟩, fun h0 => hlow (u := w) (by omega)⟩
 refine ⟨inR64 (by omega) (by omega), inU8 (by omega), ?_⟩
 intro w1
 have r1 : Row w1 w.heap.size [.int .u8 (48 + n)] := Row.new
 have f1 : Fr F0 w w1 := Fr.alloc
 clear_value w1
 refine dig1 (d := n.toNat) (by omega) (r1.at rfl) (by omega) ?_
 have := hK w1 f1
 rw [itoa_dig h0 h10] at this
 exact this
theorem rdecimal_spec {n : Int} {K : ByteArray -> World -> Prop} (h : I64 n) (hK : ∀ w', Fr F0 w w' -> K (ofL (Lib.itoa n)) w') : z0l_sh n K w := rdec_spec n.natAbs (Nat.le_refl _) h hK
end
end Go.Proofs.YtfkmpbpkahcogaaGreatDoor
