/- Slices: the rest of one, one in a block of its own, stores into one; what Solve has made. Conditions: none. -/
import Derived.Test.YtmkjcheafdionaaCE6
namespace Pw
open Go
section
variable {α : Type} {n : Nat} {enc : α -> List Value} {w w' : World} {s : Sl} {l : List α}

/-- The rest of a slice. -/
theorem Vw.drop (h : Vw n enc w s l) (hn : ∀ a, (enc a).length = n) {j : Nat} (hj : j <= l.length) : Vw n enc w ⟨subP s.p j s.c n, s.l - j, s.c - j⟩ (l.drop j) := by
  have hl := h.len
  have hc := h.cap
  refine ⟨by simp; omega, by simp; omega, ?_⟩
  have hlen : ((l.drop j).flatMap enc).length = (s.l - j) * n := by rw [fm_length hn, List.length_drop, hl]
  refine ⟨hlen, ?_⟩
  obtain ⟨h1, h2⟩ := h.rd
  have hpre : (l.drop j).flatMap enc = (l.flatMap enc).drop (j * n) := by
    have h3 : l.flatMap enc = (l.take j).flatMap enc ++ (l.drop j).flatMap enc := by rw [← List.flatMap_append, List.take_append_drop]
    have h4 : ((l.take j).flatMap enc).length = j * n := by rw [fm_length hn]; simp; rw [Nat.min_eq_left hj]
    rw [h3, ← h4, List.drop_left']
    rfl
  by_cases he : s.c = j
  · have e0 : s.l - j = 0 := by omega
    have hsp : subP s.p j s.c n = s.p := if_pos he
    rw [hsp, e0, Nat.zero_mul]
    rw [e0, Nat.zero_mul] at hlen
    cases s.p with
    | none => rfl
    | some a => intro i hi; rw [hlen] at hi; omega
  · have hsp : subP s.p j s.c n = s.p.map (·.add (j * n)) := if_neg he
    rw [hsp]
    cases hs : s.p with
    | none =>
      rw [hs] at h2
      simp only [Option.map_none] at h2 ⊢
      rw [hl] at h2
      rcases Nat.mul_eq_zero.1 h2 with h | h
      · rw [hl, h]; simp
      · rw [h]; simp
    | some a =>
      rw [hs] at h2
      simp only [Option.map_some] at h2 ⊢
      intro i hi
      rw [hlen] at hi
      have hm : j * n + (s.l - j) * n = s.l * n := by rw [← Nat.add_mul]; congr 1; omega
      have h3 := h2 (j * n + i) (by rw [h1]; omega)
      rw [add_add, h3]
      congr 1
      have h4 : ((l.drop j).flatMap enc)[i]? = ((l.flatMap enc).drop (j * n))[i]? := by rw [hpre]
      rw [List.getElem?_drop, List.getElem?_eq_getElem (by rw [hlen]; exact hi), List.getElem?_eq_getElem (by rw [h1]; omega)] at h4
      exact (Option.some.inj h4).symm

/-- A slice of one's own in a block of its own, with nothing in it. -/
theorem Sp.empty {w0 : World} {L : List (Nat × List Value)} {e : TypeId} (hn : ∀ a, (enc a).length = n) (h : Mem w0 w L) : Sp w0 (w.alloc (Obj.cells #[] e)) L (fun _ => False) (fun _ => True) n enc ⟨some ⟨w.heap.size, 0, none⟩, 0, 0⟩ ([] : List α) := by
  refine ⟨h.fr Fr.alloc, Rests.top, trivial, fun _ hb => hb.elim, Row.ow hn (l := ([] : List α)) Row.new, fun b ⟨a, ha, hb⟩ => ?_⟩
  cases ha
  subst hb
  exact ⟨h.1.1, fun h => h, fun p hp e => by have := (h.2.1 p hp).lt; simp only at e; omega⟩
end
end Pw
namespace Go.Proofs.Ytmkjcheafdionaa
open Go Pw

section
variable {w wB wM : World} {s t : Sl} {l : List Int}

/-- A slice of ints of one's own may be stored into. -/
theorem Sp.put {L : List (Nat × List Value)} {B : Nat -> Prop} {Q : World -> Prop} (h : Sp wB w L B Q 1 (ie .i64 (id : Int -> Int)) s l) {i : Nat} (hi : i < l.length) :
    ∃ b, s.p = some ⟨b, 0, none⟩ /\ wrOk w ⟨b, i, none⟩ /\ ∀ v : Int, Sp wB (w.setCell ⟨b, i, none⟩ (.int .i64 v)) L B Q 1 (ie .i64 id) s (l.set i v) := by
  obtain ⟨hl, hown⟩ := h.ow
  obtain ⟨hol, hnil | ⟨b, vs, hp, hrow, hcs, hle, ht⟩⟩ := hown
  · omega
  · rw [fm_length (fun a => ie_length _ _ a)] at hol ht
    have hvs : l.length <= vs.length := by omega
    refine ⟨b, hp, hrow.wr (by omega), fun v => ?_⟩
    have hf : Fr (fun c => c = b) w (w.setCell ⟨b, i, none⟩ (.int .i64 v)) := Fr.set rfl
    have hb : inB s b := ⟨_, hp, rfl⟩
    refine ⟨h.m.frF hf (fun p hp e => (h.os b hb).2.2 p hp e) fun c hc => hc ▸ (h.os b hb).1, h.rs, h.rs _ _ (fun c hc => hf.2.1 c (h.ap c hc).1 fun e => (h.os b hb).2.1 (e ▸ hc)) h.q, fun c hc => ⟨Nat.lt_of_lt_of_le (h.ap c hc).1 hf.1, (h.ap c hc).2⟩, ⟨by simp [hl], ?_, .inr ⟨b, _, hp, hrow.set i _, by simpa using hcs, hle, ?_⟩⟩, h.os⟩
    · rw [fm_length (fun a => ie_length _ _ a)]; simp [hl]
    · rw [fm_length (fun a => ie_length _ _ a), List.length_set, List.take_set, ht]
      rw [show l.flatMap (ie .i64 id) = l.map fun n => Value.int .i64 n from fm_one (fun n => Value.int .i64 n) l, show (l.set i v).flatMap (ie .i64 id) = (l.set i v).map fun n => Value.int .i64 n from fm_one (fun n => Value.int .i64 n) _, List.map_set]

/-- What Solve has made lies apart from the rows. -/
theorem Sp.ofV {L : List (Nat × List Value)} {ns : Sl} {T : List Int} {cs : List NdC} {N : List Nd} {α : Type} {n : Nat} {enc : α -> List Value} (m : Mem wM wB L) (hV : V wB w [] [] [] ns t T cs N) :
    Sp wM w L (inB t) (fun w => Ow 1 (ie .i64 (id : Int -> Int)) w t T) n enc ⟨none, 0, 0⟩ ([] : List α) := by
  refine ⟨m.fr hV.m.1, Rests.ow t T, hV.tv, fun b hb => ⟨hV.tv.lt hb, Nat.le_trans m.1.1 (hV.n1 b hb), fun p hp e => ?_⟩, ⟨rfl, by simpa using OwnV.nil⟩, fun b ⟨a, ha, _⟩ => by cases ha⟩
  have h1 := (m.2.1 p hp).lt
  have h2 := hV.n1 b hb
  omega
end
end Go.Proofs.Ytmkjcheafdionaa
