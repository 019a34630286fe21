/- Clauses: which use which, and facts of changes: plain. Conditions: none. -/
import Derived.Test.YtfkmpbpkahcogaaGreatDoorDP1
namespace Dp
open Go Pw
section
variable {t a b : Td} {c o u : B}
theorem cl_cases (h : c ∈ clauses t) : c = wName \/ (∃ l ∈ t.lots, c = lotC l.1) \/ (∃ x ∈ t.crit, c = critC x.name) \/ (∃ k, k < t.reqs.length /\ c = reqC k) \/ c ∈ fixed := by
 rcases mem_clauses.1 h with h | h
 ·unfold heads at h
  rcases List.mem_cons.1 h with h | h
  ·exact .inl h
  rcases List.mem_append.1 h with h | h
  ·obtain ⟨l, hl, rfl⟩ := List.mem_map.1 h
   exact .inr (.inl ⟨l, hl, rfl⟩)
  rcases List.mem_append.1 h with h | h
  ·obtain ⟨l, hl, rfl⟩ := List.mem_map.1 h
   exact .inr (.inr (.inl ⟨l, hl, rfl⟩))
  ·obtain ⟨k, hk, rfl⟩ := List.mem_map.1 h
   exact .inr (.inr (.inr (.inl ⟨k, by simpa using hk, rfl⟩)))
 ·exact .inr (.inr (.inr (.inr h)))
theorem critC_iff : wCrit.isPrefixOf c = true ↔ c = critC (c.drop 10) := by
 rw [List.isPrefixOf_iff_prefix]
 constructor
 ·rintro ⟨r, rfl⟩
  rfl
 ·intro h
  rw [h]
  exact ⟨_, rfl⟩
theorem critC_drop (n : B) : (critC n).drop 10 = n := rfl
theorem reqC_inj {j k : Nat} (hj : j < 2 ^ 62) (hk : k < 2 ^ 62) (h : reqC j = reqC k) : j = k := by
 have h := List.append_cancel_left h
 have h1 := atoi_itoa (n := (j : Int) + 1) (by omega) (by omega)
 have h2 := atoi_itoa (n := (k : Int) + 1) (by omega) (by omega)
 rw [h, h2] at h1
 injection h1 with h1
 omega
theorem reqC_ne {k : Nat} : ∀ w ∈ [wName, wRange, wForm, wTies, wMost, wCombos, wBudget, wTimes], reqC k ≠ w := by
 intro w hw e
 have h1 : ∀ w ∈ [wName, wRange, wForm, wTies, wMost, wCombos, wBudget, wTimes], (32 : UInt8) ∉ w := by decide
 exact h1 w hw (e ▸ List.mem_append.2 (.inl (by decide)))
theorem noreq (h : wReq.isPrefixOf c = false) (k : Nat) : c ≠ reqC k := fun e => by
 subst e
 have : wReq.isPrefixOf (reqC k) = true := List.isPrefixOf_iff_prefix.2 ⟨_, rfl⟩
 rw [this] at h
 cases h
theorem wants_noreq (h : wReq.isPrefixOf c = false) : ((List.range t.reqs.length).filter (fun k => decide (c = reqC k))).map (fun k => critC ((t.reqs[k]?.map (·.name)).getD [])) = [] := by
 have : (List.range t.reqs.length).filter (fun k => decide (c = reqC k)) = [] := List.filter_eq_nil_iff.2 fun k _ => by simpa using noreq h k
 rw [this]
 rfl
theorem find_req {k : Nat} (hk : k < t.reqs.length) (hl : t.reqs.length < 2 ^ 62) : (List.range t.reqs.length).find? (fun j => decide (reqC k = reqC j)) = some k := by
 rw [List.find?_range_eq_some]
 refine ⟨by simp, by simpa using hk, fun j hj => ?_⟩
 have : ¬ reqC k = reqC j := fun e => by
  have := reqC_inj (by omega) (by omega) e
  omega
 simp [this]
theorem reqF_at {k : Nat} (hk : k < t.reqs.length) (hl : t.reqs.length < 2 ^ 62) : reqF t (reqC k) = some t.reqs[k] := by
 unfold reqF
 rw [find_req hk hl]
 simp [hk]
def usedB (t : Td) (c o : B) : Bool :=
 if wReq.isPrefixOf c then wCrit.isPrefixOf o && decide (((reqF t c).map (·.name)).getD [] = o.drop 10)
 else if c = wForm then (if o = wRange then decide (wPrice ∈ t.fm.namesR) || decide (wLow ∈ t.fm.namesR) else wCrit.isPrefixOf o && decide (o.drop 10 ∈ t.fm.namesR))
 else if c = wTies then (if o = wRange then decide (wPrice ∈ t.ties) else wCrit.isPrefixOf o && decide (o.drop 10 ∈ t.ties))
 else if c = wMost then wLot.isPrefixOf o
 else if c = wBudget then wLot.isPrefixOf o || decide (o = wCombos)
 else if c = wCombos then t.combos.any (fun l => l.any fun id => decide (lotC id = o))
 else false
theorem crit_and {N : List B} : (wCrit.isPrefixOf o && decide (o.drop 10 ∈ N)) = true ↔ ∃ n ∈ N, o = critC n := by
 simp only [Bool.and_eq_true, decide_eq_true_eq, critC_iff]
 constructor
 ·rintro ⟨h, h'⟩
  exact ⟨_, h', h⟩
 ·rintro ⟨n, hn, rfl⟩
  exact ⟨rfl, hn⟩
theorem lot_iff (ho : o ∈ clauses t) : wLot.isPrefixOf o = true ↔ o ∈ t.lots.map (fun l => lotC l.1) := by
 constructor
 ·intro h
  rcases cl_cases ho with rfl | ⟨l, hl, rfl⟩ | ⟨x, _, rfl⟩ | ⟨k, _, rfl⟩ | hf
  ·exact absurd h (by decide)
  ·exact List.mem_map.2 ⟨l, hl, rfl⟩
  ·exact absurd h (by simp [critC, wLot, wCrit, List.isPrefixOf])
  ·exact absurd h (by simp [reqC, wLot, wReq, List.isPrefixOf])
  ·have : ∀ o ∈ fixed, wLot.isPrefixOf o = false := by decide
   rw [this o hf] at h
   cases h
 ·intro h
  obtain ⟨l, _, rfl⟩ := List.mem_map.1 h
  exact List.isPrefixOf_iff_prefix.2 ⟨_, rfl⟩
theorem crit_ne_range (n : B) : wRange ≠ critC n := by simp [critC, wRange, wCrit]
theorem used_eq (hl : t.reqs.length < 2 ^ 62) (hc : c ∈ clauses t) (ho : o ∈ clauses t) : usedB t c o = decide (o ∈ wants t c) := by
 rw [Bool.eq_iff_iff, decide_eq_true_eq]
 by_cases hr : wReq.isPrefixOf c = true
 ·obtain ⟨k, hk, rfl⟩ : ∃ k, k < t.reqs.length /\ c = reqC k := by
   rcases cl_cases hc with rfl | ⟨l, hl, rfl⟩ | ⟨x, _, rfl⟩ | h | hf
   ·exact absurd hr (by decide)
   ·exact absurd hr (by simp [lotC, wLot, wReq, List.isPrefixOf])
   ·exact absurd hr (by simp [critC, wReq, wCrit, List.isPrefixOf])
   ·exact h
   ·have : ∀ o ∈ fixed, wReq.isPrefixOf o = false := by decide
    rw [this c hf] at hr
    cases hr
  have hn := reqC_ne (k := k)
  have hw : wants t (reqC k) = ((List.range t.reqs.length).filter (fun j => decide (reqC k = reqC j))).map (fun j => critC ((t.reqs[j]?.map (·.name)).getD [])) := by
   unfold wants
   rw [if_neg (hn _ (by decide)), if_neg (hn _ (by decide)), if_neg (hn _ (by decide)), if_neg (hn _ (by decide)), if_neg (hn _ (by decide)), List.append_nil]
  unfold usedB
  rw [if_pos hr, hw, reqF_at hk hl]
  simp only [Option.map_some, Option.getD_some, Bool.and_eq_true, decide_eq_true_eq, critC_iff, List.mem_map, List.mem_filter, List.mem_range]
  constructor
  ·rintro ⟨h1, h2⟩
   exact ⟨k, ⟨hk, rfl⟩, by rw [h1, ← h2]; simp [hk]⟩
  ·rintro ⟨j, ⟨hj, e⟩, rfl⟩
   have := reqC_inj (by omega) (by omega) e
   subst this
   refine ⟨rfl, ?_⟩
   rw [critC_drop]
   simp [hk]
 ·have hr : wReq.isPrefixOf c = false := Bool.eq_false_iff.2 hr
  unfold usedB wants
  rw [wants_noreq hr, List.nil_append, hr]
  simp only [Bool.false_eq_true, if_false]
  split
  ·split
   ·rename_i h
    subst h
    simp only [Bool.or_eq_true, decide_eq_true_eq, List.mem_flatMap, List.mem_cons, crit_ne_range, false_or]
    constructor
    ·rintro (h | h)
     ·exact ⟨_, h, by simp⟩
     ·exact ⟨_, h, by simp⟩
    ·rintro ⟨n, hn, h⟩
     split at h
     ·rename_i hp
      rcases hp with rfl | rfl
      ·exact .inl hn
      ·exact .inr hn
     ·cases h
   ·rename_i hne
    rw [crit_and]
    simp only [List.mem_flatMap, List.mem_cons]
    constructor
    ·rintro ⟨n, hn, rfl⟩
     exact ⟨n, hn, .inl rfl⟩
    ·rintro ⟨n, hn, h | h⟩
     ·exact ⟨n, hn, h⟩
     ·split at h
      ·exact absurd (List.mem_singleton.1 h) hne
      ·cases h
  ·split
   ·split
    ·rename_i h
     subst h
     simp only [decide_eq_true_eq, List.mem_flatMap, List.mem_cons, crit_ne_range, false_or]
     constructor
     ·intro h
      exact ⟨_, h, by simp⟩
     ·rintro ⟨n, hn, h⟩
      split at h
      ·rename_i hp
       subst hp
       exact hn
      ·cases h
    ·rename_i hne
     rw [crit_and]
     simp only [List.mem_flatMap, List.mem_cons]
     constructor
     ·rintro ⟨n, hn, rfl⟩
      exact ⟨n, hn, .inl rfl⟩
     ·rintro ⟨n, hn, h | h⟩
      ·exact ⟨n, hn, h⟩
      ·split at h
       ·exact absurd (List.mem_singleton.1 h) hne
       ·cases h
   ·split
    ·exact lot_iff ho
    ·split
     ·rw [Bool.or_eq_true, lot_iff ho, List.mem_append]
      simp
     ·split
      ·simp only [List.any_eq_true, decide_eq_true_eq, List.mem_flatMap, List.mem_map]
      ·simp
theorem nodup_changed : (changed a b).Nodup := (nodup_both a b).sublist List.filter_sublist
theorem nodup_affected : (affected a b).Nodup := (nodup_both a b).sublist List.filter_sublist
end
end Dp
