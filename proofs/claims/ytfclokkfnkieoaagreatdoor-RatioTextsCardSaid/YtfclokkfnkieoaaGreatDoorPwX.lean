/- The two calls that the model answers at once: sums and differences of words with a carry. Conditions: none. -/
import Derived.Test.YtfclokkfnkieoaaGreatDoorPwL
import Derived.Laws.Externs
import Derived.Shelf.Spec.BitsCarry
namespace Pw
open Go

theorem bits_Add64_run {P : Program} {f : FuncId} {fn : Func} {a b c : Int} {K : VW} {w : World} (hf : P.funcs[f]? = some fn) (h1 : (fn.name == "runtime.NumGoroutine") = false)
    (h2 : fn.body.isNone = true) (h3 : Extern.findNext fn = none) (h4 : Extern.find fn = some add64Entry)
    (ha : 0 ≤ a) (_ : a < 18446744073709551616) (hb : 0 ≤ b) (_ : b < 18446744073709551616) (hc : 0 ≤ c) (hc' : c ≤ 1)
    (hk : K (.tuple #[.int .u64 ((a + b + c) % 18446744073709551616), .int .u64 ((a + b + c) / 18446744073709551616)]) w) :
    ∃ v w', (callFunc f ([Value.int .u64 a, .int .u64 b, .int .u64 c] : List Value).toArray).run P w = .ok (.value v) w' ∧ K v w' := by
  refine ⟨_, w, ?_, hk⟩
  rw [run_callFunc_extern hf h1 h2 h3 h4]
  rw [show ([Value.int .u64 a, .int .u64 b, .int .u64 c] : List Value).toArray = #[.int .u64 a, .int .u64 b, .int .u64 c] from rfl, run_add64 a b c ha hb hc hc']
  rfl

theorem bits_Sub64_run {P : Program} {f : FuncId} {fn : Func} {a b c : Int} {K : VW} {w : World} (hf : P.funcs[f]? = some fn) (h1 : (fn.name == "runtime.NumGoroutine") = false)
    (h2 : fn.body.isNone = true) (h3 : Extern.findNext fn = none) (h4 : Extern.find fn = some Go.Proofs.sub64Entry)
    (ha : 0 ≤ a) (ha' : a < 18446744073709551616) (hb : 0 ≤ b) (hb' : b < 18446744073709551616) (hc : 0 ≤ c) (hc' : c ≤ 1)
    (hk : K (.tuple #[.int .u64 ((a - b - c) % 18446744073709551616), .int .u64 (if a < b + c then 1 else 0)]) w) :
    ∃ v w', (callFunc f ([Value.int .u64 a, .int .u64 b, .int .u64 c] : List Value).toArray).run P w = .ok (.value v) w' ∧ K v w' := by
  refine ⟨_, w, ?_, hk⟩
  rw [run_callFunc_extern hf h1 h2 h3 h4]
  obtain ⟨x, rfl⟩ := Int.eq_ofNat_of_zero_le ha
  obtain ⟨y, rfl⟩ := Int.eq_ofNat_of_zero_le hb
  obtain ⟨z, rfl⟩ := Int.eq_ofNat_of_zero_le hc
  rw [show ([Value.int .u64 (x : Int), .int .u64 (y : Int), .int .u64 (z : Int)] : List Value).toArray = #[.int .u64 x, .int .u64 y, .int .u64 z] from rfl, Go.Proofs.run_sub64 x y z (by omega)]
  show Result.ok _ _ = _
  have e1 : (((x + 18446744073709551616 - y - z) % 18446744073709551616 : Nat) : Int) = ((x : Int) - y - z) % 18446744073709551616 := by omega
  have e2 : ((if x < y + z then 1 else 0 : Nat) : Int) = if (x : Int) < y + z then 1 else 0 := by
    by_cases h : x < y + z
    · have h' : (x : Int) < y + z := by omega
      simp [h, h']
    · have h' : ¬ (x : Int) < y + z := by omega
      simp [h, h']
  rw [e1, e2]
end Pw
namespace Pw
open Go
theorem nif_nil {K : Bool → Prop} : nif .nilIface K = K true := rfl
theorem nif_if {t : TypeId} {u : Value} {K : Bool → Prop} : nif (.iface t u) K = K false := rfl
end Pw
