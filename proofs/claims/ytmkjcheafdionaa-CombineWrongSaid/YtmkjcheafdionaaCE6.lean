/- More money, or a higher limit, brings no fewer points. Conditions: none. -/
import Derived.Test.YtmkjcheafdionaaCE5
namespace Pw

/-- The same problem, with another limit and another budget. -/
abbrev wt (p : Pr) (m b : Int) : Pr := ⟨p.lots, p.ch, p.de, m, b⟩

section
variable {p : Pr} {m b : Int}

theorem wt_decs : ∀ ls f : List Int, Decs (wt p m b) ls f ↔ Decs p ls f
  | _, [] => by simp [Decs]
  | [], _ :: _ => by simp [Decs]
  | lot :: ls, n :: f => by
    unfold Decs
    rw [wt_decs ls f]
    exact Iff.rfl

theorem wt_prefN : ∀ ls : List Int, prefN (wt p m b) ls = prefN p ls
  | [] => rfl
  | lot :: ls => by
    unfold prefN
    rw [wt_prefN ls]
    rfl

theorem wt_right (h : RightPr p) (hm : Wi m 1000000000) (hb : Wi b 1000000000) : RightPr (wt p m b) := ⟨h.some, h.few, h.diff, h.chs, h.des, hm, hb, h.ch, h.de⟩

/-- Where more is permitted, the best take has no fewer points. -/
theorem more_pts {a c : List Int} (ha : IsBest p a) (hc : IsBest (wt p m b) c) (hb : p.budget <= b) (hm : m = 0 \/ 0 < p.most /\ p.most <= m) : ptsOf p a <= ptsOf p c := by
  obtain ⟨⟨h1, h2, h3, h4⟩, _⟩ := ha
  have hpa : Perm (wt p m b) a := by
    refine ⟨h1, (wt_decs _ _).2 h2, Int.le_trans h3 hb, fun h => h4 ?_⟩
    obtain ⟨q1, bd, q2⟩ := h
    rcases hm with hm | ⟨hm, hm'⟩
    · have : 0 < m := q1
      omega
    · exact ⟨hm, bd, Int.lt_of_le_of_lt hm' q2⟩
  have hw : ¬ worth (wt p m b) c < worth (wt p m b) a := fun h => hc.2 a hpa (.inl h)
  have e1 : worth (wt p m b) c = ptsOf p c * (b + 1) - leastOf p c := rfl
  have e2 : worth (wt p m b) a = ptsOf p a * (b + 1) - leastOf p a := rfl
  rw [e1, e2] at hw
  have l1 : 0 <= leastOf p c := by unfold leastOf; omega
  have l2 : 0 <= leastOf p a := by unfold leastOf; omega
  have l3 : leastOf p a <= b := Int.le_trans h3 hb
  apply Decidable.byContradiction
  intro hlt
  have : (ptsOf p c + 1) * (b + 1) <= ptsOf p a * (b + 1) := Int.mul_le_mul_of_nonneg_right (by omega) (by omega)
  rw [Int.add_mul] at this
  omega

/-- How many prefixes there are at most, for some lots. -/
def prB : Nat -> Nat
  | 0 => 1
  | k + 1 => 1 + 13 * prB k

theorem prefN_le (h : p.ch.length <= 12) : ∀ ls : List Int, prefN p ls <= prB ls.length
  | [] => Nat.le_refl _
  | lot :: ls => by
    have ih := prefN_le h ls
    have hl : (opts p lot).length <= 13 := by
      have := Go.Proofs.Ytmkjcheafdionaa.optsFrom_len (lot := lot) p.ch 0
      have := List.countP_le_length (p := fun c : Ch => c.lot == lot) (l := p.ch)
      simp only [opts, List.length_cons]
      omega
    have := Nat.mul_le_mul hl ih
    show 1 + (opts p lot).length * prefN p ls <= 1 + 13 * prB ls.length
    omega

theorem made_prefN (l : List Int) : prefN (madeP l) (madeP l).lots <= 30941 := by
  have h1 := nv_range (l := l) (j := 3 + (mLots l).toNat) (n := 13) (by decide)
  have h2 := mLots_range (l := l)
  have h3 := prefN_le (p := madeP l) (by simp only [madeP, mChL, List.length_map, List.length_range, mChoices]; omega) (madeP l).lots
  have h4 : (madeP l).lots.length = (mLots l).toNat := mLotsL_len
  rw [h4] at h3
  have : (mLots l).toNat = 1 \/ (mLots l).toNat = 2 \/ (mLots l).toNat = 3 \/ (mLots l).toNat = 4 := by omega
  refine Nat.le_trans h3 ?_
  rcases this with h | h | h | h <;> rw [h] <;> decide
end
end Pw
namespace Go.Proofs.Ytmkjcheafdionaa
open Go Pw

section
variable {w w4 : World} {s t s0 s1 s2 : Sl} {l : List Int}

/-- A result's cells. -/
abbrev reC (t : Sl) (a b : Int) (n : Sl) : List Value := [.slice t.p t.l t.c, .int .i64 a, .int .i64 b, .slice n.p n.l n.c]
end
end Go.Proofs.Ytmkjcheafdionaa
