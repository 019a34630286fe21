/- Opening a law's arguments: arrays of ints, structs of two ints. Conditions: none. -/
import Derived.Test.YtmkjcheafdionaaGreatPwL
import Derived.ChangeSame
namespace Pw
open Go Go.ChangeShapes Go.WideShapes Go.ChangeAt Go.RowKit
section
variable {H : Type} {enc : TypeId × Value -> H} {P : Program} {W W' : World}
theorem arg_arr {r : Reach} {b0 n : Nat} {k : IntKind} {t e : TypeId} {v : Value} {d : DataW H} {ps : List MemPlace} (ht : P.underlying t = some (.array n e)) (he : P.underlying e = some (.int k)) (hc : P.cellsOf e = 1) (hct : P.cellsOf t = n)
    (hval : Value.okWide P W r b0 t v) (h : DataW.Trod enc P W 0 (fun _ => true) true t v d ps) :
    ∃ l : List Int, l.length = n /\ v = .agg (l.map (Value.int k)).toArray /\ ∀ x ∈ l, (Lit.int k x).wf = true := by
  unfold Value.okWide at hval
  rw [ht] at hval
  obtain ⟨cs, rfl, hsz, _⟩ := hval
  obtain ⟨fuel, hf⟩ := h
  obtain ⟨xs, m, _, _, _, hx, hat⟩ := DataW.trod_array ht hf
  rw [hct] at hsz
  have key : ∀ i (hi : i < cs.size), ∃ x : Int, cs[i] = Value.int k x /\ (Lit.int k x).wf = true := by
    intro i hi
    have h0 := hat i (by omega)
    rw [hc, Nat.mul_one] at h0
    have hxi : i < xs.length := by omega
    rw [List.getElem?_eq_getElem hxi] at h0
    obtain ⟨x, hx', _, hw⟩ := DataW.trod_int he h0
    refine ⟨x, ?_, hw⟩
    simp only [Value.cells] at hx'
    rw [List.drop_eq_getElem_cons (by simpa using hi)] at hx'
    simp at hx'
    exact hx'
  refine ⟨cs.toList.map fun v => match v with | .int _ x => x | _ => 0, by simp [hsz], ?_, ?_⟩
  . congr 1
    apply Array.ext
    . simp
    . intro i h1 h2
      obtain ⟨x, hx', _⟩ := key i h1
      simp [hx']
  . intro x hx
    simp only [List.mem_map] at hx
    obtain ⟨v, hv, rfl⟩ := hx
    obtain ⟨i, hi, rfl⟩ := List.getElem_of_mem hv
    obtain ⟨y, hy, hw⟩ := key i (by simpa using hi)
    simp only [Array.getElem_toList]
    rw [hy]
    exact hw
end
end Pw
namespace Pw
open Go
theorem list3 {α : Type} {l : List α} (h : l.length = 3) : ∃ a b c, l = [a, b, c] := by
  match l, h with
  | [a, b, c], _ => exact ⟨a, b, c, rfl⟩
end Pw
