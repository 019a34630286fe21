/- The frame of a law's statement: what its arguments are in memory, and that they read as before. Conditions: none. -/
import Derived.WalkKit
import Derived.ProofKit
import Derived.OpenShut
import Derived.Test.YtmkjcheafdionaaGreatPwI
namespace Pw
open Go Go.ChangeShapes Go.WideShapes Go.ChangeAt Go.RowKit
theorem Fr.below {w w' : World} (h : Fr (fun _ => False) w w') : Below w.heap.size w w' :=
 ⟨h.2.2.1, h.2.2.2.2, h.2.2.2.1, h.1, fun k hk => h.2.1 k hk fun h => h⟩
section
variable {H : Type} {enc : TypeId × Value -> H} {P : Program} {W W' : World}
theorem trodAll_below (hl : laidOutB P = true) : ∀ {ts : List TypeId} {vs : List Value} {ds : List (DataW H)} {ps : List MemPlace}, (∀ t ∈ ts, P.readableRec t = true /\ t < P.types.size) ->
  DataW.TrodAll enc P W 0 (fun _ => true) true ts vs ds ps -> Below W.heap.size W W' -> (∀ x ∈ ps, x.block < W.heap.size) ->
  DataW.TrodAll enc P W' 0 (fun b => decide (b < W.heap.size)) true ts vs ds ps
 | [], vs, ds, ps, _, h, _, _ => by
  obtain ⟨rfl, rfl, rfl⟩ := trodAll_nil h
  exact trodAll_mk0
 | t :: ts, vs, ds, ps, ht, h, hb, hlt => by
  obtain ⟨v, vs', d, ds', p, q, rfl, rfl, rfl, h0, hr⟩ := trodAll_cons h
  have h1 := ht t (by simp)
  exact trodAll_cons_mk (Below.trod hl h1.1 h1.2 h0 hb fun x hx => hlt x (by simp [hx])) (trodAll_below hl (fun t ht' => ht t (by simp [ht'])) hr hb fun x hx => hlt x (by simp [hx]))
theorem post_true {f : Func} {s : ChangeSpec} {args : Array Value} {ds gs : List (DataW H)} {before : List MemPlace} {tb : TypeId} (hl : laidOutB P = true) (hts : ∀ t ∈ f.params.toList, P.readableRec t = true /\ t < P.types.size)
  (hrt : f.resultTypes = #[tb]) (hb : P.underlying tb = some .bool) (hW : DataW.Whole enc P f.params.toList s.vars false W args.toList ds gs before) (hv : s.vars = [])
  (hres : (s.fn H (ds ++ gs)).results = [.lit (.bool true)]) (harg : (s.fn H (ds ++ gs)).args = ds) (hvar : (s.fn H (ds ++ gs)).vars = []) (hf : Fr (fun _ => False) W W') :
  s.post enc P f false true false false W args (.bool true) W' := by
 have hW0 := hW
 have hlt := hW.lt
 obtain ⟨p, q, hA, hV, rfl, hfz, hnd⟩ := hW
 rw [hv] at hV
 obtain ⟨rfl, rfl⟩ := trodVars_none hV
 refine ⟨ds, [], _, [], p, [], hW0, ?_, ?_, ?_, hf.kept _, fun h => by cases h⟩
 ·rw [hres, hrt]
  exact trodAll_cons_mk (shut_bool hb _) trodAll_mk0
 ·rw [harg]
  exact trodAll_below hl hts hA hf.below fun x hx => hlt x (by simp [hx])
 ·rw [hvar, hv]
  rfl
end
end Pw
