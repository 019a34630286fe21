/- combine: the memory of a search. Conditions: none. -/
import Derived.Test.YtfpobpjandjhjaaGreatDoorCXY
import Derived.Test.YtfpobpjandjhjaaGreatDoorPwQ
import Derived.Test.YtfpobpjandjhjaaGreatDoorCG2
import Derived.Test.YtfpobpjandjhjaaGreatDoorCXX
import Derived.Test.YtfpobpjandjhjaaGreatDoorRXZ
import Derived.Test.YtfpobpjandjhjaaGreatDoorCG5
import Derived.Test.YtfpobpjandjhjaaGreatDoorPWX
import Derived.Test.YtfpobpjandjhjaaGreatDoorPwS
import Derived.Test.YtfpobpjandjhjaaGreatDoorCG0
import Derived.Test.YtfpobpjandjhjaaGreatDoorRQ0
namespace Pw
open Go
theorem Ow.row {w : World} {b : Nat} {l : List Int} (h : Row w b (l.map fun n => Value.int .i64 n)) : Ow 1 (ie .i64 id) w ⟨some ⟨b, 0, none⟩, l.length, l.length⟩ l := by
 refine ⟨rfl, ?_, .inr ⟨b, _, rfl, h, by simp, Nat.le_refl _, ?_⟩⟩
 ·simp [fm_length (fun a => ie_length IntKind.i64 (id : Int -> Int) a)]
 ·rw [show l.flatMap (ie .i64 id) = l.map fun n => Value.int .i64 n from fm_one (fun n => Value.int .i64 n) l]
  exact List.take_of_length_le (Nat.le_refl _)
end Pw
namespace Go.Proofs.YtfpobpjandjhjaaGreatDoor
open Go Pw
structure NdC where
 lot : Int
 num : Int
 den : Int
 nx : Sl
def encN (c : NdC) : List Value := [.int .i64 c.lot, .int .i64 c.num, .int .i64 c.den, .slice c.nx.p c.nx.l c.nx.c]
@[simp] theorem encN_length (c : NdC) : (encN c).length = 4 := rfl
theorem encN_ok (c : NdC) : ∀ v ∈ encN c, okC v = true := by intro v hv; simp [encN] at hv; rcases hv with rfl | rfl | rfl | rfl <;> rfl
abbrev OI (w : World) (s : Sl) (l : List Int) : Prop := Ow 1 (ie .i64 id) w s l
end Go.Proofs.YtfpobpjandjhjaaGreatDoor




namespace Go.Proofs.YtfpobpjandjhjaaGreatDoor
open Go Pw
section
variable {wB u w : World} {l : List (Nat × List Value)} {R : List (Sl × List Int)} {O : List (Nat × Obj)} {ns t take s0 s1 s2 : Sl} {p : Pr} {T f ds : List Int} {cs : List NdC} {N : List Nd} {left : Int} {jr jp jv sb spb vb fid : Nat} {row row' : List Value}
theorem opts_len (p : Pr) (lot : Int) : (opts p lot).length <= p.ch.length + 1 := by
 have : ∀ (l : List Ch) (i : Nat), (optsFrom lot i l).length <= l.length := by
  intro l
  induction l with
  | nil => intro i; simp [optsFrom]
  | cons c l ih =>
   intro i
   unfold optsFrom
   have := ih (i + 1)
   split <;> simp <;> omega
 have := this p.ch 0
 simp only [opts, List.length_cons]
 omega
end
end Go.Proofs.YtfpobpjandjhjaaGreatDoor

namespace Go.Proofs.YtfpobpjandjhjaaGreatDoor
open Go Pw
section
variable {w w' w0 : World} {s t : Sl} {L : List (Nat × List Value)} {l : List Int} {mb : Nat}
theorem Ints_spec {a b : List Int} {K : Bool -> World -> Prop} (ha : VI w s a) (hb : VI w t b) (hl : a.length < 2 ^ 63) (hK : ∀ w', Fr F0 w w' -> K (decide (a = b)) w') : z2g_sh s t K w := by
 refine ⟨?_⟩
 unfold z2g_sd
 have ea := ha.len; have eb := hb.len
 rw [cnd_bne]
 refine ⟨fun hne => ?_, fun heq => ?_⟩
 ·have := hK w Fr.refl
  rwa [decide_eq_false (by rintro rfl; omega)] at this
 ·have hlen : a.length = b.length := by omega
  refine ⟨⟨fun i w' => ∃ i' : Nat, i = i' /\ i' <= a.length /\ a.take i' = b.take i' /\ Fr F0 w w', fun i _ => a.length - i.toNat, ⟨0, rfl, by omega, rfl, Fr.refl⟩, ?_⟩⟩
  rintro i w1 ⟨i, rfl, hi, ht, hf⟩
  unfold z2g_b0
  rw [cnd_prop]
  refine ⟨fun hlt => ?_, fun hge => ?_⟩
  ·have hlt : i < a.length := by omega
   intro w2
   have hf2 : Fr F0 w w2 := hf.t Fr.drew
   clear_value w2
   refine VI.ld (ha.fr hf2) i rfl hlt ?_
   refine VI.ld (hb.fr hf2) i rfl (by omega) ?_
   rw [cnd_bne]
   refine ⟨fun hne => ?_, fun he => ⟨inR64 (by omega) (by omega), ⟨⟨rfl, rfl, trivial⟩, i + 1, by omega, by omega, ?_, hf2⟩, by dsimp only; omega⟩⟩
   ·have := hK w2 hf2
    rwa [decide_eq_false (by rintro rfl; exact hne rfl)] at this
   ·rw [take_succ' hlt, take_succ' (by omega), ht, he]
  ·have : i = a.length := by omega
   subst this
   rw [List.take_length, List.take_of_length_le (by omega)] at ht
   have := hK w1 hf
   rwa [decide_eq_true ht] at this
end
end Go.Proofs.YtfpobpjandjhjaaGreatDoor

namespace Pw
open Go
theorem Row.ow {α : Type} {n : Nat} {enc : α -> List Value} {w : World} {b : Nat} {l : List α} (hn : ∀ a, (enc a).length = n) (h : Row w b (l.flatMap enc)) : Ow n enc w ⟨some ⟨b, 0, none⟩, l.length, l.length⟩ l := by
 refine ⟨rfl, ?_, .inr ⟨b, _, rfl, h, ?_, Nat.le_refl _, ?_⟩⟩
 ·simp [fm_length hn]
 ·rw [fm_length hn]
 ·exact List.take_of_length_le (by rw [fm_length hn]; exact Nat.le_refl _)
end Pw


namespace Pw
open Go
section
variable {α : Type} {n : Nat} {enc : α -> List Value} {w w' : World} {s : Sl} {l : List α}
theorem Vw.drop (h : Vw n enc w s l) (hn : ∀ a, (enc a).length = n) {j : Nat} (hj : j <= l.length) : Vw n enc w ⟨subP s.p j s.c n, s.l - j, s.c - j⟩ (l.drop j) := by
 have hl := h.len
 have hc := h.cap
 refine ⟨by simp; omega, by simp; omega, ?_⟩
 have hlen : ((l.drop j).flatMap enc).length = (s.l - j) * n := by rw [fm_length hn, List.length_drop, hl]
 refine ⟨hlen, ?_⟩
 obtain ⟨h1, h2⟩ := h.rd
 have hpre : (l.drop j).flatMap enc = (l.flatMap enc).drop (j * n) := by
  have h3 : l.flatMap enc = (l.take j).flatMap enc ++ (l.drop j).flatMap enc := by rw [← List.flatMap_append, List.take_append_drop]
  have h4 : ((l.take j).flatMap enc).length = j * n := by rw [fm_length hn]; simp; rw [Nat.min_eq_left hj]
  rw [h3, ← h4, List.drop_left']
  rfl
 by_cases he : s.c = j
 ·have e0 : s.l - j = 0 := by omega
  have hsp : subP s.p j s.c n = s.p := if_pos he
  rw [hsp, e0, Nat.zero_mul]
  rw [e0, Nat.zero_mul] at hlen
  cases s.p with
  | none => rfl
  | some a => intro i hi; rw [hlen] at hi; omega
 ·have hsp : subP s.p j s.c n = s.p.map (·.add (j * n)) := if_neg he
  rw [hsp]
  cases hs : s.p with
  | none =>
   rw [hs] at h2
   simp only [Option.map_none] at h2 ⊢
   rw [hl] at h2
   rcases Nat.mul_eq_zero.1 h2 with h | h
   ·rw [hl, h]; simp
   ·rw [h]; simp
  | some a =>
   rw [hs] at h2
   simp only [Option.map_some] at h2 ⊢
   intro i hi
   rw [hlen] at hi
   have hm : j * n + (s.l - j) * n = s.l * n := by rw [← Nat.add_mul]; congr 1; omega
   have h3 := h2 (j * n + i) (by rw [h1]; omega)
   rw [add_add, h3]
   congr 1
   have h4 : ((l.drop j).flatMap enc)[i]? = ((l.flatMap enc).drop (j * n))[i]? := by rw [hpre]
   rw [List.getElem?_drop, List.getElem?_eq_getElem (by rw [hlen]; exact hi), List.getElem?_eq_getElem (by rw [h1]; omega)] at h4
   exact (Option.some.inj h4).symm
theorem Sp.empty {w0 : World} {L : List (Nat × List Value)} {e : TypeId} (hn : ∀ a, (enc a).length = n) (h : Mem w0 w L) : Sp w0 (w.alloc (Obj.cells #[] e)) L (fun _ => False) (fun _ => True) n enc ⟨some ⟨w.heap.size, 0, none⟩, 0, 0⟩ ([] : List α) := by
 refine ⟨h.fr Fr.alloc, Rests.top, trivial, fun _ hb => hb.elim, Row.ow hn (l := ([] : List α)) Row.new, fun b ⟨a, ha, hb⟩ => ?_⟩
 cases ha
 subst hb
 exact ⟨h.1.1, fun h => h, fun p hp e => by have := (h.2.1 p hp).lt; simp only at e; omega⟩
end
end Pw

namespace Go.Proofs.YtfpobpjandjhjaaGreatDoor
open Go Pw
section
variable {w wB : World} {s x s0 s1 s2 s5 : Sl} {l dl f : List Int} {p : Pr} {pb db : Nat}
theorem decs_take : ∀ (ls f : List Int) (i : Nat), Decs p ls f -> Decs p ls (f.take i)
 | _, _, 0, _ => by simp [Decs]
 | _, [], _ + 1, _ => by simp [Decs]
 | [], _ :: _, _ + 1, h => h.elim
 | _ :: ls, _ :: f, i + 1, h => by
  rw [List.take_succ_cons]
  exact ⟨h.1, decs_take ls f i h.2⟩
theorem fitsB_decs (h : fitsB p f = true) : Decs p p.lots f := by
 unfold fitsB at h
 rw [Bool.and_eq_true] at h
 exact decsB_iff.1 h.2
end
end Go.Proofs.YtfpobpjandjhjaaGreatDoor











