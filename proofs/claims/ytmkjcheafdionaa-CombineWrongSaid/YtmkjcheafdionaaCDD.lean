/- combine: slices.Repeat, and what a search's steps lean on. Conditions: none. -/
import Derived.Test.YtmkjcheafdionaaCDC
import Derived.Test.YtmkjcheafdionaaCG4
namespace Go.Proofs.Ytmkjcheafdionaa
open Go Pw

section
variable {wB u u' w w' : World} {l : List (Nat × List Value)} {R : List (Sl × List Int)} {O : List (Nat × Obj)} {ns t s : Sl} {T : List Int} {cs : List NdC} {N : List Nd}

theorem V.sub {k : List (Nat × List Value)} (h : V wB u l R O ns t T cs N) (n : Nat) (hk : l.drop n = k) : Rs u k := h.m.sub n hk
theorem V.row {b : Nat} {vs : List Value} (h : V wB u l R O ns t T cs N) (j : Nat) (hj : l[j]? = some (b, vs)) : Row u b vs := h.m.row j hj

theorem V.setN {b : Nat} : ∀ (vs : List Value) (i j : Nat) (u : World) (l : List (Nat × List Value)) (xs : List Value) (K : World -> Prop), V wB u l R O ns t T cs N -> l[j]? = some (b, xs) -> i + vs.length <= xs.length ->
    (∀ u', V wB u' (l.set j (b, xs.take i ++ vs ++ xs.drop (i + vs.length))) R O ns t T cs N -> K u') -> stN.go ⟨b, 0, none⟩ K vs i u
  | [], i, j, u, l, xs, K, m, hj, _, hK => by
    refine hK u ?_
    have e : xs.take i ++ [] ++ xs.drop (i + ([] : List Value).length) = xs := by simp
    rw [e, set_self hj]
    exact m
  | v :: vs, i, j, u, l, xs, K, m, hj, hi, hK => by
    simp only [List.length_cons] at hi
    unfold stN.go
    have hl : j < l.length := (List.getElem?_eq_some_iff.1 hj).1
    simp only [add_mk, Nat.zero_add]
    refine ⟨m.wr j hj (by simp [Nat.blt_eq]; omega), ?_⟩
    refine V.setN vs (i + 1) j _ (l.set j (b, xs.set i v)) (xs.set i v) K (m.set j hj) (by simp [hl]) (by simp; omega) fun u' m' => hK u' ?_
    have e : (xs.set i v).take (i + 1) ++ vs ++ (xs.set i v).drop (i + 1 + vs.length) = xs.take i ++ v :: vs ++ xs.drop (i + (v :: vs).length) := by
      apply List.ext_getElem?
      intro k
      have h3 : min (i + 1) xs.length = i + 1 := by omega
      have h4 : min i xs.length = i := by omega
      simp only [List.getElem?_append, List.length_append, List.length_take, List.length_set, List.length_cons, h3, h4, List.getElem?_take, List.getElem?_drop, List.getElem?_set]
      by_cases h1 : k < i
      · rw [if_pos (by omega), if_pos (by omega), if_pos (by omega), if_neg (by omega), if_pos (by omega), if_pos (by omega), if_pos h1]
      · by_cases h2 : k = i
        · subst h2
          rw [if_pos (by omega), if_pos (by omega), if_pos (by omega), if_pos rfl, if_pos (by omega), if_pos (by omega), if_neg (by omega)]
          simp
        · by_cases h5 : k < i + 1 + vs.length
          · rw [if_pos (by omega), if_neg (by omega), if_pos (by omega), if_neg (by omega)]
            have : k - i = (k - (i + 1)) + 1 := by omega
            rw [this, List.getElem?_cons_succ]
          · rw [if_neg (by omega), if_neg (by omega), if_neg (by omega)]
            congr 1
            omega
    rw [List.set_set, e] at m'
    exact m'

theorem stN_atV {b : Nat} {xs vs : List Value} {K : World -> Prop} (m : V wB u l R O ns t T cs N) (j : Nat) (hj : l[j]? = some (b, xs)) (hl : xs.length = vs.length) (hK : ∀ u', V wB u' (l.set j (b, vs)) R O ns t T cs N -> K u') : stN u ⟨b, 0, none⟩ vs K := by
  refine V.setN vs 0 j u l xs K m hj (by omega) fun u' m' => hK u' ?_
  have e : xs.take 0 ++ vs ++ xs.drop (0 + vs.length) = vs := by simp [← hl]
  rw [e] at m'
  exact m'

/-- Where a search's variables stand in the list. -/
structure Ix (l : List (Nat × List Value)) (jr jp jv sb spb vb fid : Nat) (row : List Value) : Prop where
  r : l[jr]? = some (sb, row)
  p : l[jp]? = some (spb, [.pointer (some ⟨sb, 0, none⟩)])
  v : l[jv]? = some (vb, [fnv fid [spb, vb]])
  np : jr ≠ jp
  nv : jr ≠ jv

theorem Ix.set {jr jp jv sb spb vb fid : Nat} {row : List Value} (h : Ix l jr jp jv sb spb vb fid row) (row' : List Value) : Ix (l.set jr (sb, row')) jr jp jv sb spb vb fid row' := by
  have hl : jr < l.length := (List.getElem?_eq_some_iff.1 h.r).1
  exact ⟨by simp [hl], by rw [List.getElem?_set_ne h.np]; exact h.p, by rw [List.getElem?_set_ne h.nv]; exact h.v, h.np, h.nv⟩

theorem Ix.front {jr jp jv sb spb vb fid : Nat} {row : List Value} (h : Ix l jr jp jv sb spb vb fid row) (f : List (Nat × List Value)) : Ix (f ++ l) (jr + f.length) (jp + f.length) (jv + f.length) sb spb vb fid row := by
  have key : ∀ j, (f ++ l)[j + f.length]? = l[j]? := fun j => by rw [List.getElem?_append_right (by omega), Nat.add_sub_cancel]
  exact ⟨by rw [key]; exact h.r, by rw [key]; exact h.p, by rw [key]; exact h.v, by have := h.np; omega, by have := h.nv; omega⟩

theorem Mul_one_spec {x y : Nat} {K : Int -> Int -> World -> Prop} (hx : x < 18446744073709551616) (hy : y < 18446744073709551616)
    (hK : K ((x * y / 18446744073709551616 : Nat) : Int) ((x * y % 18446744073709551616 : Nat) : Int) w) : bits_Mul_sh x y K w := ⟨Mul64_spec hx hy hK⟩

theorem replicate_drop_take {k n : Nat} {v : Int} {l : List Int} (hl : l.length = k) (hn : n <= k) (ht : l.take n = List.replicate n v) {c : Nat} (hc : c = min n (k - n)) :
    (l.take n ++ (List.replicate n v).take (k - n) ++ l.drop (n + c)).take (n + c) = List.replicate (n + c) v /\ (l.take n ++ (List.replicate n v).take (k - n) ++ l.drop (n + c)).length = k := by
  have e1 : (List.replicate n v).take (k - n) = List.replicate c v := by rw [List.take_replicate, hc, Nat.min_comm]
  rw [e1, ht]
  have e2 : (List.replicate n v ++ List.replicate c v) = List.replicate (n + c) v := by rw [List.replicate_append_replicate]
  rw [e2]
  refine ⟨?_, by simp; omega⟩
  rw [List.take_append_of_le_length (by simp), List.take_of_length_le (by simp)]

theorem Repeat_spec {v : Int} {k : Nat} {K : Sl -> World -> Prop} (h : VI w s [v]) (hk0 : 1 <= k) (hk : k < 2 ^ 20) (hK : ∀ s' w', Mk w 1 (ie .i64 id) w' s' (List.replicate k v) -> K s' w') : slices_Repeat_sh s k K w := by
  have hlen := h.len
  simp only [List.length_singleton] at hlen
  refine ⟨?_⟩
  unfold slices_Repeat_sd
  rw [cnd_prop]
  refine ⟨fun h => by omega, fun _ => ⟨inRu (by omega) (by omega), inRu (by omega) (by omega), ?_⟩⟩
  refine Mul_one_spec (by omega) (by omega) ?_
  rw [hlen, Nat.one_mul, Nat.div_eq_of_lt (by omega), Nat.mod_eq_of_lt (by omega)]
  rw [cnd_prop]
  refine ⟨fun h => by simp at h, fun _ => ?_⟩
  rw [cnd_prop]
  refine ⟨fun h => by omega, fun _ => ⟨inR64 (by omega) (by omega), ?_⟩⟩
  refine Mk.make (z := (0 : Int)) (enc := ie .i64 id) (n := 1) Fr.refl rfl rfl (by omega) (by omega) (by omega) fun r w1 hm hf1 => ?_
  simp only [Int.toNat_natCast] at hm
  have hrl := hm.len
  simp only [List.length_replicate] at hrl
  have hcap := hm.vw.cap
  refine Mk.cp (off := 0) hm (h.fr hf1) (by omega) ?_ (by simp [hrl]) fun w2 hm2 hf2 => ?_
  · unfold subP
    split
    · rfl
    · cases r.p with
      | none => rfl
      | some a => simp [Addr.add]
  simp only [List.length_singleton, List.length_replicate, Nat.sub_zero, Nat.zero_add, List.take_zero, List.nil_append] at hm2 ⊢
  rw [Nat.min_eq_left hk0] at hm2 ⊢
  have ht1 : ([v].take k : List Int) = [v] := List.take_of_length_le (by simpa using hk0)
  rw [ht1] at hm2
  refine ⟨⟨fun n w' => ∃ (n' : Nat) (l : List Int), n = n' /\ 1 <= n' /\ n' <= k /\ Mk w 1 (ie .i64 id) w' r l /\ l.length = k /\ l.take n' = List.replicate n' v, fun n _ => k - n.toNat, ⟨1, _, rfl, Nat.le_refl _, hk0, hm2, by simp; omega, by simp⟩, ?_⟩⟩
  rintro n w3 ⟨n, l, rfl, h1, h2, hm3, hll, htk⟩
  unfold slices_Repeat_b1
  rw [cnd_prop]
  refine ⟨fun hlt => ?_, fun hge => ?_⟩
  · have hlt : n < k := by omega
    intro w4
    have hm4 : Mk w 1 (ie .i64 id) w4 r l := hm3.fr Fr.drew
    clear_value w4
    refine ⟨fun _ => True, trivial, ⟨by omega, by omega⟩, ⟨by omega, by omega, by omega⟩, ?_⟩
    have hsrc : VI w4 (Sl.mk (subP r.p 0 r.c 1) ((n : Int).toNat - 0) (r.c - 0)) (l.take n) := Vw.take hm4.vw (fun a => ie_length _ _ a) (by omega)
    have hob := replicate_drop_take hll h2 htk (c := min n (k - n)) rfl
    refine Mk.cp (off := n) hm4 hsrc (by omega) rfl (by simp only [Int.toNat_natCast]; omega) fun w5 hm5 _ => ?_
    have e3 : (l.take n).length = n := by rw [List.length_take]; omega
    rw [e3, hll] at hm5 ⊢
    rw [htk] at hm5
    rw [htk] at hob
    exact ⟨inR64 (by omega) (by omega), ⟨⟨rfl, trivial⟩, n + min n (k - n), _, by omega, by omega, by omega, hm5, hob.2, hob.1⟩, by dsimp only; omega⟩
  · have : n = k := by omega
    subst this
    rw [List.take_of_length_le (by omega)] at htk
    rw [htk] at hm3
    exact hK r w3 hm3
end
end Go.Proofs.Ytmkjcheafdionaa
