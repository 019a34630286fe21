/- What contents carry, and what writes and crashes leave of it: plain laws of bytes. Conditions: none. -/
import Derived.Test.YtamkecjpcfnpjaaJN10
namespace Go.Proofs.Ytamkecjpcfnpjaa
open Go Pw

theorem getD_eq (l : List UInt8) (j : Nat) : l.getD j 0 = (l[j]?).getD 0 := by rw [List.getD_eq_getElem?_getD]

theorem putL_getD (c : List UInt8) (off : Nat) (s : List UInt8) (j : Nat) : (putL c off s).getD j 0 = if off ≤ j ∧ j < off + s.length then s.getD (j - off) 0 else c.getD j 0 := by
  have hlen : off ≤ (c ++ List.replicate (off + s.length - c.length) (0 : UInt8)).length := by simp; omega
  have hc : ∀ k, (c ++ List.replicate (off + s.length - c.length) (0 : UInt8)).getD k 0 = c.getD k 0 := by
    intro k
    simp only [getD_eq, List.getElem?_append]
    split
    · rfl
    · rename_i h
      rw [List.getElem?_eq_none (l := c) (by omega)]
      simp only [List.getElem?_replicate]
      split <;> rfl
  unfold putL spB
  rw [← hc j]
  generalize c ++ List.replicate (off + s.length - c.length) (0 : UInt8) = d at *
  have ht : (d.take off).length = off := by simp; omega
  by_cases h1 : j < off
  · rw [if_neg (by omega)]
    simp only [getD_eq, List.append_assoc]
    rw [List.getElem?_append_left (by omega)]
    simp [h1]
  · by_cases h2 : j < off + s.length
    · rw [if_pos (by omega)]
      simp only [getD_eq]
      rw [List.getElem?_append_left (by simp; omega), List.getElem?_append_right (by omega), ht]
    · rw [if_neg (by omega)]
      simp only [getD_eq]
      rw [List.getElem?_append_right (by simp; omega), List.getElem?_drop]
      congr 2
      simp; omega

theorem readL_getD {c : List UInt8} {a k : Nat} {j : Nat} (hj : j < k) : (readL c (a : Int) (k : Int)).getD j 0 = c.getD (a + j) 0 := by
  unfold readL
  rw [if_neg (by omega)]
  simp only [getD_eq, Int.toNat_natCast, List.getElem?_take, List.getElem?_drop]
  rw [if_pos hj]

theorem readL_congr {c c' : List UInt8} {a k : Nat} (h : ∀ j, a ≤ j → j < a + k → c.getD j 0 = c'.getD j 0) (hl : a + k ≤ c.length) (hl' : a + k ≤ c'.length) : readL c (a : Int) (k : Int) = readL c' (a : Int) (k : Int) := by
  by_cases hk : k = 0
  · simp [readL, hk]
  apply List.ext_getElem?
  intro j
  by_cases hj : j < k
  · have e := h (a + j) (by omega) (by omega)
    simp only [getD_eq] at e
    unfold readL
    rw [if_neg (by omega), if_neg (by omega)]
    simp only [Int.toNat_natCast, List.getElem?_take, List.getElem?_drop, if_pos hj]
    rw [List.getElem?_eq_getElem (by omega), List.getElem?_eq_getElem (by omega)] at e ⊢
    simpa using e
  · rw [List.getElem?_eq_none (by have := readL_length c a k; omega), List.getElem?_eq_none (by have := readL_length c' a k; omega)]

theorem four_congr {c c' : List UInt8} {a : Nat} (h : ∀ j, a ≤ j → j < a + 4 → c.getD j 0 = c'.getD j 0) : valF (readL c (a : Int) 4) 4 = valF (readL c' (a : Int) 4) 4 :=
  valF_congr 4 fun j hj => by
    have h1 := readL_getD (c := c) (a := a) (k := 4) hj
    have h2 := readL_getD (c := c') (a := a) (k := 4) hj
    rw [show ((4 : Nat) : Int) = 4 from rfl] at h1 h2
    rw [h1, h2, h _ (by omega) (by omega)]

theorem hdr_congr {c c' : List UInt8} (h : ∀ j, j < 8 → c.getD j 0 = c'.getD j 0) : hdr c = hdr c' :=
  valF_congr 8 fun j hj => by
    have h1 := readL_getD (c := c) (a := 0) (k := 8) hj
    have h2 := readL_getD (c := c') (a := 0) (k := 8) hj
    rw [show ((8 : Nat) : Int) = 8 from rfl, show ((0 : Nat) : Int) = 0 from rfl] at h1 h2
    rw [h1, h2, Nat.zero_add, h j hj]

theorem prs_congr {c c' : List UInt8} {en : Nat} (h : ∀ j, 64 ≤ j → j < en → c.getD j 0 = c'.getD j 0) (hl : en ≤ c.length) (hl' : en ≤ c'.length) : ∀ f a, 64 ≤ a → prs f c a en = prs f c' a en
  | 0, a, _ => rfl
  | f + 1, a, h64 => by
    by_cases ha : a < en
    · rw [prs_lt ha, prs_lt ha]
      have v1 := valF_four (readL c (a : Int) 4)
      have v2 := valF_four (readL c' (a : Int) 4)
      by_cases h4 : a + 4 ≤ en
      · have e4 := four_congr (c := c) (c' := c') (a := a) fun j hj' hj => h j (by omega) (by omega)
        rw [← e4]
        split
        · rfl
        · rename_i hle
          rw [prs_congr h hl hl' f _ (by omega)]
          have e : valF (readL c (a : Int) 4) 4 = (((valF (readL c (a : Int) 4) 4).toNat : Nat) : Int) := by omega
          rw [e, readL_congr (c := c) (c' := c') (a := a + 4) (fun j hj' hj => h j (by omega) (by omega)) (by omega) (by omega)]
      · rw [if_pos (by omega), if_pos (by omega)]
    · rw [prs_ge ha, prs_ge ha]

/-- Where the part that counts ends. -/
def endOf (c : List UInt8) : Nat := 64 + (hdr c).toNat

theorem recsOf_some {c : List UInt8} {rs : List (List UInt8)} (h : recsOf c = some rs) : 0 ≤ hdr c ∧ hdr c ≤ 16777216 ∧ (0 < hdr c → endOf c ≤ c.length) ∧ prs (hdr c).toNat c 64 (endOf c) = some rs := by
  unfold recsOf at h
  split at h
  · cases h
  · rename_i hn
    refine ⟨by omega, by omega, fun hp => by unfold endOf; omega, h⟩

theorem recsOf_keep {c c' : List UInt8} {rs : List (List UInt8)} (h : recsOf c = some rs) (hg : ∀ j, j < endOf c → c.getD j 0 = c'.getD j 0) (hl : c.length ≤ c'.length) : recsOf c' = some rs ∧ hdr c' = hdr c := by
  obtain ⟨h0, h1, h2, h3⟩ := recsOf_some h
  have hh : hdr c' = hdr c := (hdr_congr fun j hj => hg j (by unfold endOf; omega)).symm
  refine ⟨?_, hh⟩
  unfold recsOf
  rw [hh]
  by_cases hz : hdr c = 0
  · rw [if_neg (by omega), hz]
    rw [hz] at h3
    have : rs = [] := by
      have e : prs (Int.toNat 0) c 64 (endOf c) = some [] := prs_ge (by unfold endOf; omega)
      rw [e] at h3
      exact (Option.some.inj h3).symm
    rw [this]
    exact prs_ge (by simp)
  · have := h2 (by omega)
    have e64 : endOf c = 64 + (hdr c).toNat := rfl
    rw [if_neg (by omega), ← e64, ← prs_congr (fun j _ hj => hg j hj) (by omega) (by omega) _ _ (Nat.le_refl _)]
    exact h3

theorem recsOf_put {c s : List UInt8} {rs : List (List UInt8)} {off : Nat} (h : recsOf c = some rs) (ho : endOf c ≤ off) : recsOf (putL c off s) = some rs ∧ hdr (putL c off s) = hdr c :=
  recsOf_keep h (fun j hj => by rw [putL_getD, if_neg (by omega)]) (by rw [putL_length]; omega)

theorem recsOf_crash {surv : List Int} {syn : List UInt8} {pcs : List (Nat × List UInt8)} {rs : List (List UInt8)} (h : recsOf syn = some rs) (ho : ∀ p ∈ pcs, endOf syn ≤ p.1) : ∀ k, k ≤ pcs.length → recsOf (crashTo surv syn pcs k) = some rs ∧ hdr (crashTo surv syn pcs k) = hdr syn
  | 0, _ => ⟨h, rfl⟩
  | k + 1, hk => by
    obtain ⟨i1, i2⟩ := recsOf_crash (surv := surv) h ho k (by omega)
    unfold crashTo
    split
    · have hm := ho _ (List.getElem_mem (show k < pcs.length by omega))
      have e : pcs.getD k (0, []) = pcs[k] := by rw [List.getD_eq_getElem?_getD, List.getElem?_eq_getElem (by omega)]; rfl
      rw [e]
      have := recsOf_put (s := pcs[k].2) (off := pcs[k].1) i1 (by unfold endOf at *; rw [i2]; exact hm)
      exact ⟨this.1, by rw [this.2, i2]⟩
    · exact ⟨i1, i2⟩

theorem prs_more {c : List UInt8} {en en2 : Nat} (hle : en ≤ en2) : ∀ (f a : Nat) (rs : List (List UInt8)) (g : Nat), a ≤ en → en2 ≤ a + g → prs f c a en = some rs → ∃ g', en2 ≤ en + g' ∧ prs g c a en2 = (prs g' c en en2).map (rs ++ ·)
  | f, a, rs, g, ha, hg, h => by
    by_cases hlt : a < en
    · cases f with
      | zero => simp [prs, hlt] at h
      | succ f =>
        obtain ⟨g, rfl⟩ : ∃ g', g = g' + 1 := ⟨g - 1, by omega⟩
        rw [prs_lt hlt] at h
        rw [prs_lt (by omega)]
        split at h
        · cases h
        · rename_i hle2
          rw [if_neg (by omega)]
          simp only [Option.map_eq_some_iff] at h
          obtain ⟨rs', hrs', rfl⟩ := h
          obtain ⟨g', h1, h2⟩ := prs_more hle f _ rs' g (by omega) (by omega) hrs'
          refine ⟨g', h1, ?_⟩
          rw [h2]
          cases prs g' c en en2 <;> simp
    · have : a = en := by omega
      subst this
      rw [prs_ge (by omega)] at h
      cases h
      exact ⟨g, hg, by simp⟩
end Go.Proofs.Ytamkecjpcfnpjaa
