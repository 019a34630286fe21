/- A problem without one of its choices. Conditions: none. -/
import Derived.Test.YtmkjcheafdionaaCE6
namespace Pw
open Go

/-- A number of a choice, when the choice k has been removed, and back. -/
def dn (k : Nat) (n : Int) : Int := if (k : Int) < n then n - 1 else n
def upN (k : Nat) (n : Int) : Int := if (k : Int) ≤ n then n + 1 else n

/-- The problem without the choice k. -/
abbrev rmC (p : Pr) (k : Nat) : Pr := ⟨p.lots, p.ch.take k ++ p.ch.drop (k + 1), p.de, p.most, p.budget⟩

theorem upN_dn {k : Nat} {n : Int} (h : n ≠ k) : upN k (dn k n) = n := by
  unfold upN dn
  by_cases h1 : (k : Int) < n
  · rw [if_pos h1, if_pos (by omega)]; omega
  · rw [if_neg h1, if_neg (by omega)]

theorem upN_lt {k : Nat} {a b : Int} : upN k a < upN k b ↔ a < b := by
  unfold upN
  split <;> split <;> omega

theorem upN_eq {k : Nat} {a b : Int} : upN k a = upN k b ↔ a = b := by
  unfold upN
  split <;> split <;> omega

theorem gtL_up (k : Nat) : ∀ a b : List Int, gtL (a.map (upN k)) (b.map (upN k)) = gtL a b
  | x :: a, y :: b => by
    simp only [List.map_cons, gtL]
    rw [gtL_up k a b]
    by_cases h : x = y
    · rw [if_pos h, if_pos (upN_eq.2 h)]
    · rw [if_neg h, if_neg (fun e => h (upN_eq.1 e))]
      exact decide_eq_decide.2 upN_lt
  | [], [] => rfl
  | [], _ :: _ => rfl
  | _ :: _, [] => rfl

section
variable {p : Pr} {k : Nat} (hk : k < p.ch.length)
include hk

theorem rm_chAt (n : Int) : chAt (rmC p k) n = chAt p (upN k n) := by
  unfold chAt upN
  by_cases h0 : 0 ≤ n
  · obtain ⟨m, rfl⟩ := Int.eq_ofNat_of_zero_le h0
    rw [if_pos h0]
    have hl : (p.ch.take k).length = k := by simp; omega
    by_cases h : k ≤ m
    · rw [if_pos (show (k : Int) ≤ (m : Int) by omega), if_pos (by omega)]
      show (p.ch.take k ++ p.ch.drop (k + 1))[m]? = _
      rw [List.getElem?_append_right (by omega), hl, List.getElem?_drop]
      congr 1
      omega
    · rw [if_neg (show ¬ (k : Int) ≤ (m : Int) by omega), if_pos h0]
      show (p.ch.take k ++ p.ch.drop (k + 1))[m]? = _
      rw [List.getElem?_append_left (by omega), List.getElem?_take, if_pos (by omega)]
      rfl
  · rw [if_neg h0, if_neg (by split <;> omega)]

theorem rm_took (u : List Int) : took (rmC p k) u = took p (u.map (upN k)) := by
  unfold took
  rw [List.filterMap_map]
  congr 1
  funext n
  exact rm_chAt hk n

theorem rm_decs : ∀ ls u : List Int, Decs (rmC p k) ls u ↔ Decs p ls (u.map (upN k))
  | _, [] => by simp [Decs]
  | [], _ :: _ => by simp [Decs]
  | lot :: ls, n :: u => by
    rw [List.map_cons, Decs, Decs, rm_decs ls u, Dec, Dec, rm_chAt hk]
    have : n = -1 ↔ upN k n = -1 := by unfold upN; split <;> omega
    rw [this]

theorem rm_least (hp : RightPr p) {u : List Int} (hu : u.length = p.lots.length) : leastOf (rmC p k) u = leastOf p (u.map (upN k)) := by
  unfold leastOf costOf offs
  rw [rm_took hk]
  congr 3
  apply List.map_congr_left
  intro d hd
  unfold offOf
  have : d.lots.all (may (rmC p k) u d.bid) = d.lots.all (may p (u.map (upN k)) d.bid) := by
    have hm : ∀ x ∈ d.lots, may (rmC p k) u d.bid x = may p (u.map (upN k)) d.bid x := by
      intro x hx
      have hi : p.lots.idxOf x < u.length := by rw [hu]; exact List.idxOf_lt_length_of_mem ((hp.de d hd).2.2.1 x hx)
      unfold may
      show (match u[p.lots.idxOf x]? with | some n => _ | none => _) = _
      rw [List.getElem?_map, List.getElem?_eq_getElem hi]
      simp only [Option.map_some]
      rw [rm_chAt hk]
    rw [Bool.eq_iff_iff, List.all_eq_true, List.all_eq_true]
    constructor
    · intro h x hx; rw [← hm x hx]; exact h x hx
    · intro h x hx; rw [hm x hx]; exact h x hx
  rw [this]

theorem rm_worth (hp : RightPr p) {u : List Int} (hu : u.length = p.lots.length) : worth (rmC p k) u = worth p (u.map (upN k)) := by
  unfold worth
  rw [rm_least hk hp hu]
  unfold ptsOf
  rw [rm_took hk]

theorem rm_perm (hp : RightPr p) {u : List Int} : Perm (rmC p k) u ↔ Perm p (u.map (upN k)) := by
  unfold Perm
  rw [rm_decs hk, List.length_map]
  have hc : Crowd (rmC p k) u ↔ Crowd p (u.map (upN k)) := by
    unfold Crowd
    rw [rm_took hk]
  rw [hc]
  constructor
  · rintro ⟨h1, h2, h3, h4⟩
    exact ⟨h1, h2, by rw [rm_least hk hp h1] at h3; exact h3, h4⟩
  · rintro ⟨h1, h2, h3, h4⟩
    exact ⟨h1, h2, by rw [rm_least hk hp h1]; exact h3, h4⟩

/-- A choice that is not taken can be removed. -/
theorem losers (hp : RightPr p) {a : List Int} (ha : IsBest p a) (hn : (k : Int) ∉ a) : IsBest (rmC p k) (a.map (dn k)) ∧ ptsOf (rmC p k) (a.map (dn k)) = ptsOf p a := by
  have hb : (a.map (dn k)).map (upN k) = a := by
    rw [List.map_map]
    conv => rhs; rw [← List.map_id a]
    apply List.map_congr_left
    intro n hm
    exact upN_dn fun e => hn (e ▸ hm)
  have hla : (a.map (dn k)).length = p.lots.length := by rw [List.length_map]; exact ha.1.1
  refine ⟨⟨(rm_perm hk hp).2 (by rw [hb]; exact ha.1), fun u hu hbt => ?_⟩, ?_⟩
  · refine ha.2 _ ((rm_perm hk hp).1 hu) ?_
    have e1 := rm_worth hk hp hu.1
    have e2 := rm_worth hk hp hla
    rw [hb] at e2
    rcases hbt with h | ⟨h, g⟩
    · rw [e1, e2] at h
      exact .inl h
    · rw [e1, e2] at h
      refine .inr ⟨h, ?_⟩
      rw [← gtL_up k, hb] at g
      exact g
  · unfold ptsOf
    rw [rm_took hk, hb]

omit hk in
theorem rm_prefN : ∀ ls : List Int, prefN (rmC p k) ls ≤ prefN p ls
  | [] => Nat.le_refl _
  | lot :: ls => by
    have ih := rm_prefN ls
    have hl : (opts (rmC p k) lot).length ≤ (opts p lot).length := by
      simp only [opts, List.length_cons, Go.Proofs.Ytmkjcheafdionaa.optsFrom_len, List.countP_append]
      have e : p.ch.countP (fun c => c.lot == lot) = (p.ch.take k).countP (fun c => c.lot == lot) + (p.ch.drop k).countP (fun c => c.lot == lot) := by
        rw [← List.countP_append, List.take_append_drop]
      have : (p.ch.drop (k + 1)).countP (fun c => c.lot == lot) ≤ (p.ch.drop k).countP (fun c => c.lot == lot) := by
        rw [← List.drop_drop]
        exact ((p.ch.drop k).drop_sublist 1).countP_le
      omega
    exact Nat.add_le_add_left (Nat.mul_le_mul hl ih) 1

omit hk in
theorem rm_right (h : RightPr p) : RightPr (rmC p k) := by
  have hsub : ∀ c ∈ p.ch.take k ++ p.ch.drop (k + 1), c ∈ p.ch := fun c hc => by
    rcases List.mem_append.1 hc with hc | hc
    · exact List.mem_of_mem_take hc
    · exact List.mem_of_mem_drop hc
  refine ⟨h.some, h.few, h.diff, ?_, h.des, h.most, h.budget, fun c hc => h.ch c (hsub c hc), h.de⟩
  have := h.chs
  simp
  omega
end

section
variable {α : Type} {n : Nat} {enc : α → List Value} {w w' : World} {s : Sl} {l : List α}

/-- The rest of a slice. -/
theorem Vw.drop (h : Vw n enc w s l) (hn : ∀ a, (enc a).length = n) {j : Nat} (hj : j ≤ l.length) : Vw n enc w ⟨subP s.p j s.c n, s.l - j, s.c - j⟩ (l.drop j) := by
  have hl := h.len
  have hc := h.cap
  refine ⟨by simp; omega, by simp; omega, ?_⟩
  have hlen : ((l.drop j).flatMap enc).length = (s.l - j) * n := by rw [fm_length hn, List.length_drop, hl]
  refine ⟨hlen, ?_⟩
  obtain ⟨h1, h2⟩ := h.rd
  have hpre : (l.drop j).flatMap enc = (l.flatMap enc).drop (j * n) := by
    have h3 : l.flatMap enc = (l.take j).flatMap enc ++ (l.drop j).flatMap enc := by rw [← List.flatMap_append, List.take_append_drop]
    have h4 : ((l.take j).flatMap enc).length = j * n := by rw [fm_length hn]; simp; rw [Nat.min_eq_left hj]
    rw [h3, ← h4, List.drop_left']
    rfl
  by_cases he : s.c = j
  · have e0 : s.l - j = 0 := by omega
    have hsp : subP s.p j s.c n = s.p := if_pos he
    rw [hsp, e0, Nat.zero_mul]
    rw [e0, Nat.zero_mul] at hlen
    cases s.p with
    | none => rfl
    | some a => intro i hi; rw [hlen] at hi; omega
  · have hsp : subP s.p j s.c n = s.p.map (·.add (j * n)) := if_neg he
    rw [hsp]
    cases hs : s.p with
    | none =>
      rw [hs] at h2
      simp only [Option.map_none] at h2 ⊢
      rw [hl] at h2
      rcases Nat.mul_eq_zero.1 h2 with h | h
      · rw [hl, h]; simp
      · rw [h]; simp
    | some a =>
      rw [hs] at h2
      simp only [Option.map_some] at h2 ⊢
      intro i hi
      rw [hlen] at hi
      have hm : j * n + (s.l - j) * n = s.l * n := by rw [← Nat.add_mul]; congr 1; omega
      have h3 := h2 (j * n + i) (by rw [h1]; omega)
      rw [add_add, h3]
      congr 1
      have h4 : ((l.drop j).flatMap enc)[i]? = ((l.flatMap enc).drop (j * n))[i]? := by rw [hpre]
      rw [List.getElem?_drop, List.getElem?_eq_getElem (by rw [hlen]; exact hi), List.getElem?_eq_getElem (by rw [h1]; omega)] at h4
      exact (Option.some.inj h4).symm

/-- A slice of one's own in a block of its own, with nothing in it. -/
theorem Sp.empty {w0 : World} {L : List (Nat × List Value)} {e : TypeId} (hn : ∀ a, (enc a).length = n) (h : Mem w0 w L) : Sp w0 (w.alloc (Obj.cells #[] e)) L (fun _ => False) (fun _ => True) n enc ⟨some ⟨w.heap.size, 0, none⟩, 0, 0⟩ ([] : List α) := by
  refine ⟨h.fr Fr.alloc, Rests.top, trivial, fun _ hb => hb.elim, Row.ow hn (l := ([] : List α)) Row.new, fun b ⟨a, ha, hb⟩ => ?_⟩
  cases ha
  subst hb
  exact ⟨h.1.1, fun h => h, fun p hp e => by have := (h.2.1 p hp).lt; simp only at e; omega⟩
end
end Pw
