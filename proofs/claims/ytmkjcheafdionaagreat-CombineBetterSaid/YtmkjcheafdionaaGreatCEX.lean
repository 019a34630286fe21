/- What the arguments of the laws are in memory. Conditions: none. -/
import Derived.Test.YtmkjcheafdionaaGreatPwK
import Derived.Test.YtmkjcheafdionaaGreatPwV
import Derived.SliceStrings
namespace Pw
open Go Go.ChangeShapes Go.WideShapes Go.ChangeAt Go.RowKit
section
variable {H : Type} {enc : TypeId × Value -> H} {P : Program} {W : World}
theorem arg_vi {k : IntKind} {r : Reach} {b0 : Nat} {t e : TypeId} {v : Value} {d : DataW H} {ps : List MemPlace} (ht : P.underlying t = some (.slice e)) (he : P.underlying e = some (.int k)) (hc : P.cellsOf e = 1)
    (hval : Value.okWide P W r b0 t v) (h : DataW.Trod enc P W 0 (fun _ => true) true t v d ps) :
    ∃ (q : Sl) (l : List Int), v = .slice q.p q.l q.c /\ Vw 1 (ie k id) W q l /\ (∀ n ∈ l, (Lit.int k n).wf = true) /\ l.length < 2 ^ 63 := by
  obtain ⟨a, len, cap, rfl⟩ := okWide_slice ht hval
  obtain ⟨fuel, hf⟩ := h
  rcases open_ints ht he hc hf with ⟨hcs, _⟩ | ⟨a', len', cap', zs, hcs, _, hle, hm, hz, _, hcell, hwf⟩
  . simp only [Value.cells, List.cons.injEq, Value.slice.injEq, and_true] at hcs
    obtain ⟨rfl, rfl, rfl⟩ := hcs
    exact ⟨⟨none, 0, 0⟩, [], rfl, Vw.nil, by simp, by simp⟩
  . simp only [Value.cells, List.cons.injEq, Value.slice.injEq, and_true] at hcs
    obtain ⟨rfl, rfl, rfl⟩ := hcs
    simp only [if_true] at hz
    have hlen : (zs.take len).length = len := by simp; omega
    refine ⟨⟨some a', len, cap⟩, zs.take len, rfl, ⟨hlen.symm, hle, ?_⟩, fun n hn => hwf n (List.mem_of_mem_take hn), ?_⟩
    . rw [show (zs.take len).flatMap (ie k id) = (zs.take len).map (fun n => Value.int k n) from fm_one (fun n => Value.int k n) _]
      refine ⟨by simp; omega, fun i hi => ?_⟩
      simp at hi
      rw [hcell i (by omega)]
      have : i < zs.length := by omega
      simp [this]
    . rw [hlen]
      have : maxLen = 2 ^ 63 - 1 := rfl
      omega
end
end Pw
namespace Pw
open Go Go.ChangeShapes Go.WideShapes Go.ChangeAt Go.RowKit
section
variable {H : Type} {enc : TypeId × Value -> H} {P : Program} {W : World}
theorem cell_vi {k : IntKind} {t e : TypeId} {cs : List Value} {x : DataW H × List MemPlace} {fuel : Nat} (ht : P.underlying t = some (.slice e)) (he : P.underlying e = some (.int k)) (hc : P.cellsOf e = 1)
    (h : DataW.trod enc P W 0 (fun _ => true) true fuel t cs = some x) :
    ∃ (q : Sl) (l : List Int), cs = [.slice q.p q.l q.c] /\ Vw 1 (ie k id) W q l /\ (∀ n ∈ l, (Lit.int k n).wf = true) /\ l.length < 2 ^ 63 := by
  rcases open_ints ht he hc h with ⟨rfl, _⟩ | ⟨a, len, cap, zs, rfl, _, hle, hm, hz, _, hcell, hwf⟩
  . exact ⟨⟨none, 0, 0⟩, [], rfl, Vw.nil, by simp, by simp⟩
  . simp only [if_true] at hz
    have hlen : (zs.take len).length = len := by simp; omega
    refine ⟨⟨some a, len, cap⟩, zs.take len, rfl, ⟨hlen.symm, hle, ?_⟩, fun n hn => hwf n (List.mem_of_mem_take hn), ?_⟩
    . rw [show (zs.take len).flatMap (ie k id) = (zs.take len).map (fun n => Value.int k n) from fm_one (fun n => Value.int k n) _]
      refine ⟨by simp; omega, fun i hi => ?_⟩
      simp at hi
      rw [hcell i (by omega)]
      have : i < zs.length := by omega
      simp [this]
    . rw [hlen]
      have : maxLen = 2 ^ 63 - 1 := rfl
      omega
theorem arg_arr2 {k : IntKind} {r : Reach} {b0 : Nat} {t e f : TypeId} {v : Value} {d : DataW H} {ps : List MemPlace} (ht : P.underlying t = some (.array 2 e)) (he : P.underlying e = some (.slice f)) (hf : P.underlying f = some (.int k)) (hc : P.cellsOf f = 1) (hce : P.cellsOf e = 1) (hct : P.cellsOf t = 2)
    (hval : Value.okWide P W r b0 t v) (h : DataW.Trod enc P W 0 (fun _ => true) true t v d ps) :
    ∃ (q q' : Sl) (l l' : List Int), v = .agg #[.slice q.p q.l q.c, .slice q'.p q'.l q'.c] /\ (Vw 1 (ie k id) W q l /\ l.length < 2 ^ 63) /\ Vw 1 (ie k id) W q' l' /\ l'.length < 2 ^ 63 := by
  unfold Value.okWide at hval
  rw [ht] at hval
  obtain ⟨cs, rfl, hsz, _⟩ := hval
  obtain ⟨fuel, hfu⟩ := h
  obtain ⟨xs, m, _, _, _, hx, hat⟩ := DataW.trod_array ht hfu
  rw [hct] at hsz
  obtain ⟨c0, c1, rfl⟩ : ∃ c0 c1, cs = #[c0, c1] := by
    rcases cs with ⟨l⟩
    match l, hsz with
    | [a, b], _ => exact ⟨a, b, rfl⟩
  have h0 := hat 0 (by omega)
  have h1 := hat 1 (by omega)
  rw [hce, List.getElem?_eq_getElem (by omega)] at h0 h1
  obtain ⟨q, l, e0, v0, _, l0⟩ := cell_vi he hf hc h0
  obtain ⟨q', l', e1, v1, _, l1⟩ := cell_vi he hf hc h1
  simp [Value.cells] at e0 e1
  exact ⟨q, q', l, l', by rw [e0, e1], ⟨v0, l0⟩, v1, l1⟩
end
end Pw
