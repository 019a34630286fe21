/- A change of most, combos, budget, times alone touches nothing: plain. Conditions: none. -/
import Derived.Test.YtfkmpbpkahcogaaGreatDoorDP2
namespace Dp
open Go Pw
def quiet : List B := [wMost, wCombos, wBudget, wTimes]
structure Akin (a b : Td) : Prop where
 name : a.name = b.name
 lots : a.lots = b.lots
 crit : a.crit = b.crit
 reqs : a.reqs = b.reqs
 low : a.low = b.low
 high : a.high = b.high
 fm : a.fm = b.fm
 ties : a.ties = b.ties
theorem Akin.cl {a b : Td} (h : Akin a b) : clauses a = clauses b := by
 unfold clauses heads
 rw [h.lots, h.crit, h.reqs]
theorem Akin.eqc {a b : Td} (h : Akin a b) {c : B} (hc : c ∉ quiet) : eqc a b c = true := by
 simp only [quiet, List.mem_cons, List.not_mem_nil, or_false, not_or] at hc
 obtain ⟨h1, h2, h3, h4⟩ := hc
 unfold Dp.eqc lotM critF reqF
 rw [h.name, h.low, h.high, h.fm, h.ties, h.lots, h.crit, h.reqs]
 simp [h1, h2, h3, h4]
theorem wants_quiet {t : Td} {c u : B} (h : u ∈ wants t c) (hu : u ∈ quiet) : c = wBudget := by
 have hcr : ∀ n, critC n ∉ quiet := fun n => by simp [quiet, critC, wCrit, wMost, wCombos, wBudget, wTimes]
 have hlo : ∀ n, lotC n ∉ quiet := fun n => by simp [quiet, lotC, wLot, wMost, wCombos, wBudget, wTimes]
 have hra : wRange ∉ quiet := by decide
 unfold wants at h
 rcases List.mem_append.1 h with h | h
 ·obtain ⟨k, _, rfl⟩ := List.mem_map.1 h
  exact absurd hu (hcr _)
 ·split at h
  ·obtain ⟨n, _, h⟩ := List.mem_flatMap.1 h
   rcases List.mem_cons.1 h with rfl | h
   ·exact absurd hu (hcr _)
   ·split at h
    ·rw [List.mem_singleton.1 h] at hu; exact absurd hu hra
    ·cases h
  ·split at h
   ·obtain ⟨n, _, h⟩ := List.mem_flatMap.1 h
    rcases List.mem_cons.1 h with rfl | h
    ·exact absurd hu (hcr _)
    ·split at h
     ·rw [List.mem_singleton.1 h] at hu; exact absurd hu hra
     ·cases h
   ·split at h
    ·obtain ⟨n, _, rfl⟩ := List.mem_map.1 h
     exact absurd hu (hlo _)
    ·split at h
     ·rename_i hb
      exact hb
     ·split at h
      ·obtain ⟨l, _, h⟩ := List.mem_flatMap.1 h
       obtain ⟨n, _, rfl⟩ := List.mem_map.1 h
       exact absurd hu (hlo _)
      ·cases h
theorem uses_wants {t : Td} {c u : B} (h : u ∈ uses t c) : u ∈ wants t c := by
 unfold uses at h
 split at h
 ·exact of_decide_eq_true (List.mem_filter.1 h).2
 ·cases h
theorem aff_quiet {a b : Td} (h : Akin a b) {c : B} (hA : Aff a b c) : c ∈ quiet := by
 induction hA with
 | base hc =>
  rename_i c
  obtain ⟨h1, h2⟩ := mem_changed.1 hc
  rcases Decidable.em (c ∈ quiet) with hq | hq
  ·exact hq
  ·have hm : c ∈ clauses b := (mem_both.1 h1).elim id fun h' => h.cl ▸ h'
   have hm' : c ∈ clauses a := by rw [h.cl]; exact hm
   unfold isCh at h2
   rw [h.eqc hq] at h2
   simp [hm, hm'] at h2
 | step _ hu _ ih =>
  have : _ = wBudget := hu.elim (fun hu => wants_quiet (uses_wants hu) ih) fun hu => wants_quiet (uses_wants hu) ih
  rw [this]
  decide
theorem touches_quiet {a b : Td} (h : Akin a b) (lots : List Int) : touches a b lots = false := by
 unfold touches
 rw [List.any_eq_false]
 intro c hc
 have hq := aff_quiet h (mem_affected.1 hc)
 simp only [quiet, List.mem_cons, List.not_mem_nil, or_false] at hq
 rcases hq with rfl | rfl | rfl | rfl
 all_goals
  unfold hitsB
  rw [if_neg (by decide)]
  decide
end Dp
