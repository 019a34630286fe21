/- The reference's wishes and its closure, plain. Conditions: none. -/
import Derived.Test.YtfkmpbpkahcogaaGreatDoorDC1
namespace Dp
open Go Pw
def wantsR (t : Td) (c : B) (N : List B) : List B :=
 ((List.range t.reqs.length).filter (fun k => decide (c = reqC k))).map (fun k => critC ((t.reqs[k]?.map (·.name)).getD [])) ++
 ((if c = wTies \/ c = wForm then (if c = wTies then t.ties else N).flatMap (fun n => critC n :: if n = wPrice \/ (n = wLow /\ c = wForm) then [wRange] else []) else []) ++
 ((if c = wMost \/ c = wBudget then t.lots.map (fun l => lotC l.1) else []) ++
 ((if c = wBudget then [wCombos] else []) ++ (if c = wCombos then t.combos.flatMap (fun l => l.map lotC) else []))))
theorem mem_wantsR {t : Td} {c o : B} {N : List B} (hN : ∀ s, s ∈ N ↔ s ∈ t.fm.namesR) : o ∈ wantsR t c N ↔ o ∈ wants t c := by
 unfold wantsR wants
 refine Iff.trans List.mem_append (Iff.trans (or_congr Iff.rfl ?_) List.mem_append.symm)
 by_cases h1 : c = wForm
 ·subst h1
  have e1 : ¬ wForm = wTies := by decide
  have e2 : ¬ (wForm = wMost \/ wForm = wBudget) := by decide
  have e3 : ¬ wForm = wBudget := by decide
  have e4 : ¬ wForm = wCombos := by decide
  rw [if_pos (Or.inr rfl), if_neg e1, if_neg e2, if_neg e3, if_neg e4, if_pos rfl]
  simp only [List.append_nil, List.mem_flatMap, and_true, hN]
 rw [if_neg h1]
 by_cases h2 : c = wTies
 ·subst h2
  have e2 : ¬ (wTies = wMost \/ wTies = wBudget) := by decide
  have e3 : ¬ wTies = wBudget := by decide
  have e4 : ¬ wTies = wCombos := by decide
  rw [if_pos (Or.inl rfl), if_pos rfl, if_neg e2, if_neg e3, if_neg e4, if_pos rfl]
  simp only [List.append_nil, List.mem_flatMap, h1, and_false, or_false]
 rw [if_neg h2, if_neg (show ¬ (c = wTies \/ c = wForm) by simp [h1, h2]), List.nil_append, if_neg h2]
 by_cases h3 : c = wMost
 ·subst h3
  have e3 : ¬ wMost = wBudget := by decide
  have e4 : ¬ wMost = wCombos := by decide
  rw [if_pos (Or.inl rfl), if_neg e3, if_neg e4, if_pos rfl]
  simp
 rw [if_neg h3]
 by_cases h4 : c = wBudget
 ·subst h4
  have e4 : ¬ wBudget = wCombos := by decide
  rw [if_pos (Or.inr rfl), if_pos rfl, if_neg e4, if_pos rfl]
  simp
 rw [if_neg h4, if_neg (by simp [h3, h4]), if_neg h4]
 simp
theorem uses_ref {t : Td} {c : B} {N : List B} (hN : ∀ s, s ∈ N ↔ s ∈ t.fm.namesR) (hc : c ∈ clauses t) : (clauses t).filter (fun o => decide (o ∈ wantsR t c N)) = uses t c := by
 unfold uses
 rw [if_pos hc]
 exact List.filter_congr fun o _ => decide_eq_decide.2 (mem_wantsR hN)
section
variable {a b : Td}
theorem steps_len {a b : Td} : ∀ {l S : List B}, S.length <= (stepsA a b S l).length
 | [], _ => Nat.le_refl _
 | c :: l, S => by
  have h1 := steps_len (a := a) (b := b) (l := l) (S := stepA a b S c)
  have h2 : S.length <= (stepA a b S c).length := by
   unfold stepA addB
   split
   ·split
    ·exact Nat.le_refl _
    ·simp
   ·exact Nat.le_refl _
  exact Nat.le_trans h2 h1
theorem round_closed {S : List B} (h : (roundA a b S).length = S.length) : ClosedA a b S := by
 have key : ∀ {l S : List B}, (stepsA a b S l).length = S.length -> ∀ c ∈ l, hitB a b S c = true -> c ∈ S := by
  intro l
  induction l with
  | nil => intro _ _ c hc; cases hc
  | cons x l ih =>
   intro S hl c hc hh
   have e : (stepsA a b (stepA a b S x) l).length = S.length := hl
   have h1 := steps_len (a := a) (b := b) (l := l) (S := stepA a b S x)
   have e2 : stepA a b S x = S := by
    unfold stepA addB at h1 ⊢
    split
    ·rename_i h2
     rw [if_pos h2] at h1
     split
     ·rfl
     ·rename_i h3
      rw [if_neg h3] at h1
      simp only [List.length_append, List.length_cons, List.length_nil] at h1
      have : (stepsA a b (stepA a b S x) l) = (stepsA a b (if hitB a b S x = true then if x ∈ S then S else S ++ [x] else S) l) := rfl
      rw [this, if_pos h2, if_neg h3] at e
      omega
    ·rfl
   rw [e2] at e
   rcases List.mem_cons.1 hc with rfl | hc
   ·have : stepA a b S c = addB S c := by unfold stepA; rw [if_pos hh]
    rw [this] at e2
    rw [← e2]
    exact mem_addB.2 (.inr rfl)
   ·exact ih e c hc hh
 intro c hc hh
 exact key h c hc hh
theorem nodup_step {S : List B} {c : B} (h : S.Nodup) : (stepA a b S c).Nodup := by
 unfold stepA
 split
 ·exact nodup_addB h
 ·exact h
theorem nodup_steps : ∀ {l S : List B}, S.Nodup -> (stepsA a b S l).Nodup
 | [], _, h => h
 | _ :: l, _, h => nodup_steps (l := l) (nodup_step h)
theorem nodup_sub_len : ∀ {l m : List B}, l.Nodup -> (∀ c ∈ l, c ∈ m) -> l.length <= m.length
 | [], _, _, _ => Nat.zero_le _
 | c :: l, m, hn, hs => by
  rw [List.nodup_cons] at hn
  have hm := hs c (by simp)
  have := nodup_sub_len (l := l) (m := m.erase c) hn.2 fun x hx => by
   have hne : x ≠ c := fun e => hn.1 (e ▸ hx)
   exact (List.mem_erase_of_ne hne).2 (hs x (by simp [hx]))
  rw [List.length_erase_of_mem hm] at this
  have := List.length_pos_of_mem hm
  simp only [List.length_cons]
  omega
theorem ref_done {S : List B} (h1 : ∀ c ∈ changed a b, c ∈ S) (h2 : ∀ c ∈ S, Aff a b c) (h3 : ClosedA a b S) : (both a b).filter (fun c => decide (c ∈ S)) = affected a b :=
 affected_eq fun _ _ => ⟨h2 _, closed_aff h3 h1⟩
end
end Dp
