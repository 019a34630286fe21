/- DependClosed. Conditions: none. -/
import Derived.Test.YtfkmpbpkahcogaaGreatDoorDRTX
import Derived.Test.YtfkmpbpkahcogaaGreatDoorDL5
import Derived.Maps.RangeRun
namespace Dp
open Go Pw
section
variable {a b : Td} {c : B}
theorem changed_sub (h : c ∈ changed a b) : c ∈ affected a b := mem_affected.2 (.base h)
theorem hit_sub (hc : c ∈ both a b) (h : (uses a c ++ uses b c).any (fun u => decide (u ∈ affected a b)) = true) : c ∈ affected a b := by
 obtain ⟨u, hu, h⟩ := List.any_eq_true.1 h
 rw [mem_affected]
 exact .step hc (by simpa using hu) (mem_affected.1 (of_decide_eq_true h))
theorem miss_sub (hc : c ∈ affected a b) (h : (uses a c ++ uses b c).any (fun u => decide (u ∈ affected a b)) = false) : c ∈ changed a b := by
 match mem_affected.1 hc with
 | .base h => exact h
 | .step (u := u) _ h1 h2 =>
  have := List.any_eq_false.1 h u (by simpa using h1)
  exact absurd (decide_eq_true (mem_affected.2 h2)) this
end
end Dp
namespace Go.Proofs.YtfkmpbpkahcogaaGreatDoor
open Go Pw Dp
open Go.ChangeMaps (setBlock)
section
variable {w w' u w0 : World} {x : T29} {p : Pn} {K : Bool -> World -> Prop} {l m : List B} {s s' : Sl} {mb r : Nat}
theorem sput_new {α : Type} {n : ByteArray} {v : α} : ∀ {l : List (ByteArray × α)}, (∀ p ∈ l, p.1 ≠ n) -> sput n v l = l ++ [(n, v)]
 | [], _ => rfl
 | p :: l, h => by
  unfold sput
  rw [if_neg (h p (List.mem_cons_self ..)), sput_new fun q hq => h q (List.mem_cons_of_mem _ hq)]
  rfl
theorem sget_true : ∀ {l : List B} {c : B}, sgetD false (ofL c) (l.map fun c => (ofL c, true)) = decide (c ∈ l)
 | [], c => by simp [sgetD]
 | a :: l, c => by
  simp only [List.map_cons, sgetD]
  by_cases h : a = c
  ·subst h
   simp
  ·rw [if_neg (fun e => h (ofL_inj.1 e)), sget_true]
   rw [decide_eq_decide]
   exact ⟨fun h => List.mem_cons_of_mem _ h, fun hm => (List.mem_cons.1 hm).resolve_left fun e => h e.symm⟩
theorem FitK.mono {k k' : Nat} {t : Td} (h : FitK k t) (hk : k' <= k) : FitK k' t :=
 { h with fp := by have := h.fp; omega, lots := by have := h.lots; omega, ties := by have := h.ties; omega, combos := by have := h.combos; omega }
def StM (w : World) (r : Nat) : Prop := ∃ es clock, w.heap[r]? = some (.map es clock) /\ ∀ x ∈ es.toList, x.born < clock
theorem StM.set (h : StM w r) (n : ByteArray) (v : Value) : StM (w.sset r n v) r := by
 obtain ⟨es, clock, hb, he⟩ := h
 have hnew : (w.sset r n v).heap[r]? = some (oseS n v (.map es clock)) := by
  unfold World.sset
  simp only [Array.getElem?_modify, if_true, hb, Option.map_some]
 have push : ∃ es' c', Obj.map (es.push { key := .string n, val := v, born := clock }) (clock + 1) = Obj.map es' c' /\ ∀ x ∈ es'.toList, x.born < c' := ⟨_, _, rfl, fun x hx => by
  rw [Array.toList_push] at hx
  rcases List.mem_append.1 hx with hx | hx
  ·have := he x hx; omega
  ·have : x = { key := .string n, val := v, born := clock } := by simpa using hx
   rw [this]
   exact Nat.lt_succ_self _⟩
 have mod : ∀ i, ∃ es' c', Obj.map (es.modify i fun e => { e with key := .string n, val := v }) clock = Obj.map es' c' /\ ∀ x ∈ es'.toList, x.born < c' := fun i => ⟨_, _, rfl, fun x hx => by
  obtain ⟨j, hj, rfl⟩ := List.mem_iff_getElem.1 hx
  have hj' : j < es.size := by simpa using hj
  rw [Array.getElem_toList, Array.getElem_modify]
  have hm : es[j] ∈ es.toList := by simp
  split
  ·exact he es[j] hm
  ·exact he es[j] hm⟩
 have key : ∃ es' c', oseS n v (.map es clock) = Obj.map es' c' /\ ∀ x ∈ es'.toList, x.born < c' := by
  unfold oseS
  simp only
  split
  ·exact mod _
  ·exact push
 obtain ⟨es', c', e, h'⟩ := key
 exact ⟨es', c', by rw [hnew, e], h'⟩
theorem set_spec {J : Option Nat -> World -> Prop} (hv : Vw 1 encB w s l) (hl : l.length < 2 ^ 62) (hnd : l.Nodup) (hJ : ∀ w' mb, Fr F0 w w' -> Ms w' mb ((l.map fun c => (ofL c, true)).map fun p => (p.1, Value.bool p.2)) -> StM w' mb -> J (some mb) w') : z1v_sh s J w := by
 have el := hv.len
 refine ⟨?_⟩
 unfold z1v_sd
 intro w1
 have hM : Ms w1 w.heap.size [] := Ms.made w
 have hT : StM w1 w.heap.size := ⟨#[], 0, (by show (w.heap.push _)[w.heap.size]? = _; simp), fun x hx => by simp at hx⟩
 have hf : Fr F0 w w1 := Fr.alloc
 clear_value w1
 refine ⟨⟨fun i u => ∃ i' : Nat, i = i' /\ i' <= l.length /\ Fr F0 w u /\ Ms u w.heap.size (((l.take i').map fun c => (ofL c, true)).map fun p => (p.1, Value.bool p.2)) /\ StM u w.heap.size, fun i _ => l.length - i.toNat, ⟨0, rfl, by omega, hf, hM, hT⟩, ?_⟩⟩
 rintro i u ⟨i, rfl, hi, hf, hM, hT⟩
 unfold z1v_b0
 refine cnd_prop.2 ⟨fun hlt => ?_, fun hge => ?_⟩
 ·have hil : i < l.length := by omega
  refine ldB (hv.fr hf) i rfl hil ⟨⟨_, hM⟩, ?_⟩
  have h2 := hM.set (ofL l[i]) (.bool true)
  refine ⟨inR64 (by omega) (by omega), ⟨⟨rfl, rfl, rfl, trivial⟩, i + 1, by omega, by omega, ?_, ?_, hT.set _ _⟩, by dsimp only; omega⟩
  ·exact hf.trans (F := F0) (G := fun c => c = w.heap.size) sset_frB fun c hc hlt => by omega
  ·rw [take_succ_map _ _ hil, List.map_append, List.map_cons, List.map_nil]
   rw [sput_new] at h2
   ·exact h2
   ·intro q hq e
    obtain ⟨z, hz, rfl⟩ := List.mem_map.1 hq
    obtain ⟨c, hc, rfl⟩ := List.mem_map.1 hz
    have := ofL_inj.1 e
    subst this
    obtain ⟨j, hj, he⟩ := List.mem_iff_getElem.1 hc
    rw [List.getElem_take] at he
    simp only [List.length_take] at hj
    exact List.pairwise_iff_getElem.1 hnd j i (by omega) hil (by omega) he
 ·have : l.take i = l := List.take_of_length_le (by omega)
  rw [this] at hM
  exact hJ _ _ hf hM hT
def ItM (w : World) (mb r : Nat) (n : Nat) : Prop :=
 ∃ es clock since seen, w.heap[mb]? = some (.map es clock) /\ w.heap[r]? = some (.mapIter (some mb) since seen clock) /\ (∀ x ∈ es.toList, x.born < since) /\ since <= clock /\ (leftOf es seen).size = n
def lftM (w : World) (mb r : Nat) : Nat := match w.heap[mb]?, w.heap[r]? with
 | some (.map es _), some (.mapIter _ _ seen _) => (leftOf es seen).size
 | _, _ => 0
theorem ItM.lft {n : Nat} (h : ItM w mb r n) : lftM w mb r = n := by
 obtain ⟨es, clock, since, seen, h1, h2, _, _, h3⟩ := h
 unfold lftM
 rw [h1, h2]
 exact h3
theorem StM.start {es : Array MapEntry} {c : Nat} (h : StM w mb) (hb : w.heap[mb]? = some (.map es c)) : ∃ n, ItM (w.alloc (Obj.mapIter (some mb) c #[] c)) mb w.heap.size n := by
 obtain ⟨es', c', h1, h2⟩ := h
 rw [hb] at h1
 cases h1
 refine ⟨_, es, c, c, #[], ?_, ?_, h2, Nat.le_refl _, rfl⟩
 ·have hlt := (Array.getElem?_eq_some_iff.1 hb).1
  show (w.heap.push _)[mb]? = _
  rw [Array.getElem?_push_lt hlt]
  rw [Array.getElem?_eq_getElem hlt] at hb
  exact hb
 ·show (w.heap.push _)[w.heap.size]? = _
  simp
theorem Fr.setB {o : Obj} : Fr (fun b => b = r) w (setBlock w r o) :=
 ⟨by simp [setBlock], fun b _ hn => by
  show (w.heap.setIfInBounds r o)[b]? = _
  rw [Array.getElem?_setIfInBounds, if_neg (fun h => hn h.symm)], rfl, rfl, rfl⟩
theorem ItM.next {n : Nat} {ty : TypeId} {J : Bool -> World -> Prop} (h : ItM w mb r n)
  (hno : J false w) (hyes : ∀ w', Fr (fun b => b = r) w w' -> (∃ k, ItM w' mb r k /\ k < n) -> (∃ e : MapEntry, (∃ es c, w.heap[mb]? = some (.map es c) /\ e ∈ es.toList) /\ (Instr.entry (.pointer (some ⟨r, 0, none⟩))).run Tryz.prog w' = .ok (.tuple #[e.key, e.val]) w') -> J true w') :
  ∃ (b : Bool) (l : List Value) (w' : World), (Instr.next (Value.pointer (some ⟨r, 0, none⟩)) false ty).run Tryz.prog w = Result.ok (Value.tuple ⟨Value.bool b :: l⟩) w' /\ J b w' := by
 obtain ⟨es, clock, since, seen, hb, hr, hold, hsc, hn⟩ := h
 rcases run_next_at (P := Tryz.prog) w ty r mb since clock seen es clock hr hb hold hsc with ⟨_, hrun⟩ | ⟨e, he, w1, hal, hrun⟩
 ·exact ⟨false, [], w, hrun, hno⟩
 ·obtain ⟨hem, _⟩ := mem_left he
  have hne : r ≠ mb := fun e => by rw [e, hb] at hr; cases hr
  have hr1 : w1.heap[r]? = some (.mapIter (some mb) since seen clock) := by rcases hal with rfl | rfl <;> exact hr
  have hb1 : w1.heap[mb]? = some (.map es clock) := by rcases hal with rfl | rfl <;> exact hb
  have hrl := (Array.getElem?_eq_some_iff.1 hr1).1
  have f1 : Fr (fun b => b = r) w w1 := by
   rcases hal with rfl | rfl
   ·exact Fr.refl
   ·exact Fr.drew
  have hr2 : (setBlock w1 r (.mapIter (some mb) since (seen.push e.born) clock)).heap[r]? = some (.mapIter (some mb) since (seen.push e.born) clock) := by
   show (w1.heap.setIfInBounds r _)[r]? = _
   rw [Array.getElem?_setIfInBounds, if_pos rfl, if_pos hrl]
  have hb2 : (setBlock w1 r (.mapIter (some mb) since (seen.push e.born) clock)).heap[mb]? = some (.map es clock) := by
   show (w1.heap.setIfInBounds r _)[mb]? = _
   rw [Array.getElem?_setIfInBounds, if_neg hne]
   exact hb1
  refine ⟨true, _, _, hrun, hyes _ (f1.trans Fr.setB fun _ h _ => h) ⟨_, ⟨es, clock, since, _, hb2, hr2, hold, hsc, rfl⟩, by rw [← hn]; exact left_shrinks es seen e he⟩ ?_⟩
  have hf : ∃ e', es.find? (·.born == e.born) = some e' /\ e' ∈ es.toList := by
   cases hfd : es.find? (·.born == e.born) with
   | none =>
    have := Array.find?_eq_none.1 hfd e (by simpa using hem)
    simp at this
   | some e' => exact ⟨e', rfl, by simpa using Array.mem_of_find?_eq_some hfd⟩
  obtain ⟨e', hf, he'⟩ := hf
  refine ⟨e', ⟨es, clock, hb, he'⟩, ?_⟩
  simp only [Instr.entry, getObj, Sem.run_bind, Sem.run, hr2, hb2, Result.andThen, Array.back?_push, bne_self_eq_false, Bool.false_eq_true, if_false, hf]
  rfl
variable {y z : T43} {ta tb : Td}
structure CI (w u : World) (ba bo ma mc : Nat) (y z : T43) (ta tb : Td) : Prop where
 fr : Fr F0 w u
 ra : Row u ba y.cs
 rb : Row u bo z.cs
 ms : Ms u ma (((affected ta tb).map fun c => (ofL c, true)).map fun p => (p.1, Value.bool p.2))
 mc : Ms u mc (((changed ta tb).map fun c => (ofL c, true)).map fun p => (p.1, Value.bool p.2))
theorem CI.t {ba bo ma mc : Nat} (h : CI w u ba bo ma mc y z ta tb) (hf : Fr F0 u w') : CI w w' ba bo ma mc y z ta tb :=
 ⟨h.fr.t hf, hf.row h.ra fun h => h, hf.row h.rb fun h => h, Ms.fr h.ms hf, Ms.fr h.mc hf⟩
theorem Closed_l4 {ba bo ma mc : Nat} {c : B} {us t60 : Sl} {U : List B} {j61 j62 : Int} {N3 : Bool -> Addr -> Addr -> Option Nat -> Option Nat -> Sl -> Int -> Int -> World -> Prop} (hI : CI w u ba bo ma mc y z ta tb) (hu : Vw 1 encB u us U) (hU : U = uses ta c ++ uses tb c) (hl : U.length < 2 ^ 62) (hc : c ∈ both ta tb)
  (hN : inR .i64 (j62 + 1) /\ N3 true ⟨ba, 0, none⟩ ⟨bo, 0, none⟩ (some ma) (some mc) t60 j61 (j62 + 1) u) : probitylaw07_DependClosed_l4 true ⟨ba, 0, none⟩ ⟨bo, 0, none⟩ (some ma) (some mc) (ofL c) false t60 j61 j62 us (us.l : Int) 0 N3 K u := by
 have el := hu.len
 refine ⟨⟨fun hit j v => ∃ j' : Nat, j = j' /\ j' <= U.length /\ v = u /\ hit = (U.take j').any (fun d => decide (d ∈ affected ta tb)), fun _ j _ => U.length - j.toNat, ⟨0, rfl, by omega, rfl, by simp⟩, ?_⟩⟩
 rintro hit j v ⟨j, rfl, hj, rfl, rfl⟩
 unfold probitylaw07_DependClosed_b4
 refine cnd_prop.2 ⟨fun hlt => ?_, fun hge => ?_⟩
 ·have hjl : j < U.length := by omega
  have et : (U.take (j + 1)).any (fun d => decide (d ∈ affected ta tb)) = ((U.take j).any (fun d => decide (d ∈ affected ta tb)) || decide (U[j] ∈ affected ta tb)) := by
   rw [List.take_add_one, List.getElem?_eq_getElem hjl, List.any_append]
   simp
  refine ldB hu j rfl hjl (cnd_iff.2 ⟨fun h => ?_, fun h => ⟨_, hI.ms, ?_⟩⟩)
  ·exact ⟨inR64 (by omega) (by omega), ⟨⟨rfl, rfl, rfl, rfl, rfl, rfl, rfl, rfl, rfl, rfl, rfl, trivial⟩, j + 1, by omega, by omega, rfl, by rw [et, h]; rfl⟩, by dsimp only; omega⟩
  ·exact ⟨inR64 (by omega) (by omega), ⟨⟨rfl, rfl, rfl, rfl, rfl, rfl, rfl, rfl, rfl, rfl, rfl, trivial⟩, j + 1, by omega, by omega, rfl, by rw [sget_true, et, h, Bool.false_or]⟩, by dsimp only; omega⟩
 ·have : j = U.length := by omega
  subst this
  rw [List.take_length, hU]
  refine ⟨_, hI.ms, ?_⟩
  rw [sget_true]
  refine cnd_iff.2 ⟨fun h => ⟨_, hI.ms, ?_⟩, fun h => hN⟩
  rw [sget_true]
  have h : ¬ (uses ta c ++ uses tb c).any (fun d => decide (d ∈ affected ta tb)) = decide (c ∈ affected ta tb) := by simpa using h
  cases ha : (uses ta c ++ uses tb c).any (fun d => decide (d ∈ affected ta tb)) with
  | true => exact absurd (by rw [ha, decide_eq_true (hit_sub hc ha)]) h
  | false =>
   by_cases hm : c ∈ affected ta tb
   ·rw [decide_eq_true hm, cnd_true]
    refine ⟨_, hI.mc, ?_⟩
    rw [sget_true, decide_eq_true (miss_sub hm ha)]
    show cnd false _ _
    rw [cnd_false]
    exact hN
   ·exact absurd (by rw [ha, decide_eq_false hm]) h
theorem Closed_k1_spec {ba bo : Nat} (ra : Row w ba y.cs) (rb : Row w bo z.cs) (U1 : TP w y ta) (U2 : TP w z tb) (hA : Fit ta) (hB : Fit tb) (g : GlT w) (hK : ∀ w', Fr F0 w w' -> K true w') : probitylaw07_DependClosed_k1 true ⟨ba, 0, none⟩ ⟨bo, 0, none⟩ K w := by
 have a1 := hA.lots; have a2 := hA.crit; have a3 := hA.reqs
 have b1 := hB.lots; have b2 := hB.crit; have b3 := hB.reqs
 have hca := clauses_len ta
 have hcb := clauses_len tb
 have hbl : (both ta tb).length <= 2 ^ 30 := by
  have := foldB_len (clauses ta) (clauses tb)
  unfold both
  omega
 have hch : (changed ta tb).length <= (both ta tb).length := List.length_filter_le _ _
 have haf : (affected ta tb).length <= (both ta tb).length := List.length_filter_le _ _
 refine ⟨?_⟩
 unfold probitylaw07_DependClosed_k1d
 intro w29
 have f29 : Fr F0 w w29 := Fr.drew
 clear_value w29
 have R1 : ∀ e, Fr F0 w29 e -> Row e ba y.cs := fun e he => (f29.t he).row ra fun h => h
 have R2 : ∀ e, Fr F0 w29 e -> Row e bo z.cs := fun e he => (f29.t he).row rb fun h => h
 refine ⟨fun e => Fr F0 w29 e, Fr.refl, T43.lds_row R1 (T43.lds_row R2 (T43.lds_row R1 (T43.lds_row R2 ?_)))⟩
 refine Affected_spec (U1.fr f29) (U2.fr f29) hA hB (g.fr f29) fun w35 r36 m36 => ⟨m36.fr0, ?_⟩
 refine set_spec m36.vw (by omega) nodup_affected fun w37 ma f37 M1 _ => ⟨m36.fr0.t f37, ?_⟩
 have F37 := m36.fr0.t f37
 have W37 := f29.t F37
 refine Changed_spec (U1.fr W37) (U2.fr W37) hA hB (g.fr W37) fun w39 r40 m40 => ⟨F37.t m40.fr0, ?_⟩
 refine set_spec m40.vw (by omega) nodup_changed fun w41 mc f41 M2 S2 => ⟨F37.t (m40.fr0.t f41), ?_⟩
 have F41 := F37.t (m40.fr0.t f41)
 have M1 := Ms.fr M1 (m40.fr0.t f41)
 obtain ⟨es, cl, hb, hst⟩ := S2
 refine ⟨es, cl, hb, ?_⟩
 obtain ⟨n, hIt⟩ := StM.start ⟨es, cl, hb, hst⟩ hb
 intro w46
 have f46 : Fr F0 w41 w46 := Fr.alloc
 change ItM w46 mc w41.heap.size n at hIt
 clear_value w46
 have hW : Fr F0 w w41 := f29.t F41
 have hsz := hW.1
 have c1 : CI w w46 ba bo ma mc y z ta tb := ⟨hW.t f46, R1 _ (F41.t f46), R2 _ (F41.t f46), Ms.fr M1 f46, Ms.fr M2 f46⟩
 have nr : ∀ {v : World} {l : List (ByteArray × Value)} {q : Nat}, Ms w41 q l -> q ≠ w41.heap.size := fun {v l q} h => by
  obtain ⟨_, _, h1, _⟩ := h
  have := (Array.getElem?_eq_some_iff.1 h1).1
  omega
 have na := nr (v := w) M1
 have nc := nr (v := w) M2
 have nba := (R1 _ F41).lt
 have nbo := (R2 _ F41).lt
 generalize w41.heap.size = r at *
 refine ⟨⟨fun u => ∃ k, ItM u mc r k /\ CI w u ba bo ma mc y z ta tb, fun u => lftM u mc r, ⟨n, hIt, c1⟩, ?_⟩⟩
 rintro u ⟨k, hIt, hI⟩
 unfold probitylaw07_DependClosed_b2
 refine hIt.next ?_ fun w' f' hk he => ?_
 ·rw [cnd_false]
  intro w54
  have f54 : Fr F0 u w54 := Fr.drew
  clear_value w54
  have hI := hI.t f54
  refine ⟨fun e => Fr F0 w54 e, Fr.refl, T43.lds_row (fun e he => he.row hI.ra fun h => h) (T43.lds_row (fun e he => he.row hI.rb fun h => h) ?_)⟩
  refine Clauses_spec (U1.fr hI.fr) hA (g.fr hI.fr) fun w58 r59 m59 => ⟨m59.fr0, ?_⟩
  have F58 := hI.fr.t m59.fr0
  refine Clauses_spec (U2.fr F58) hB (g.fr F58) fun w60 r61 m61 => ⟨m59.fr0.t m61.fr0, ?_⟩
  refine (m59.fr m61.fr0).app m61.vw encB_ok rfl (by omega) (by omega) fun s62 w63 h63 _ => ⟨h63.fr0, ?_⟩
  have hI := hI.t h63.fr0
  have e62 := h63.len
  generalize hL : clauses ta ++ clauses tb = L at *
  have hLl : L.length <= 2 ^ 30 := by rw [← hL, List.length_append]; omega
  have hLb : ∀ c ∈ L, c ∈ both ta tb := fun c hc => by
   rw [← hL, List.mem_append] at hc
   exact mem_both.2 hc.symm
  refine ⟨⟨fun j v => ∃ j' : Nat, j = j' /\ j' <= L.length /\ Fr F0 w63 v, fun j _ => L.length - j.toNat, ⟨0, rfl, by omega, Fr.refl⟩, ?_⟩⟩
  rintro j v ⟨j, rfl, hj, hf⟩
  unfold probitylaw07_DependClosed_b3
  have hI := hI.t hf
  refine cnd_prop.2 ⟨fun hlt => ?_, fun hge => hK v hI.fr⟩
  have hjl : j < L.length := by omega
  refine ldB (h63.vw.fr hf) j rfl hjl ?_
  intro w66
  have f66 : Fr F0 v w66 := Fr.drew
  clear_value w66
  have hI := hI.t f66
  have l1 : (uses ta L[j]).length <= (clauses ta).length := uses_len _ _
  have l2 : (uses tb L[j]).length <= (clauses tb).length := uses_len _ _
  refine ⟨fun e => Fr F0 w66 e, Fr.refl, T43.lds_row (fun e he => he.row hI.ra fun h => h) (T43.lds_row (fun e he => he.row hI.rb fun h => h) ?_)⟩
  refine Uses_spec (U1.fr hI.fr) hA (g.fr hI.fr) fun w70 r71 m71 => ⟨m71.fr0, ?_⟩
  have F70 := hI.fr.t m71.fr0
  refine Uses_spec (U2.fr F70) hB (g.fr F70) fun w72 r73 m73 => ⟨m71.fr0.t m73.fr0, ?_⟩
  refine (m71.fr m73.fr0).app m73.vw encB_ok rfl (by omega) (by omega) fun s74 w75 h75 _ => ⟨h75.fr0, ?_⟩
  refine Closed_l4 (hI.t h75.fr0) h75.vw rfl (by rw [List.length_append]; omega) (hLb _ (List.getElem_mem hjl)) ⟨inR64 (by omega) (by omega), ⟨⟨rfl, rfl, rfl, rfl, rfl, rfl, rfl, trivial⟩, j + 1, by omega, by omega, hf.t (f66.t h75.fr0)⟩, by dsimp only; omega⟩
 ·rw [cnd_true]
  obtain ⟨e, ⟨es', c', hb', hem⟩, hrun⟩ := he
  obtain ⟨k', hIt', hlt⟩ := hk
  have hI' : CI w w' ba bo ma mc y z ta tb := by
   have fms : ∀ {q : Nat} {l : List (ByteArray × Value)}, q ≠ r -> Ms u q l -> Ms w' q l := fun hq h => by
    obtain ⟨es, c, h1, h2⟩ := h
    exact ⟨es, c, by rw [f'.2.1 _ (Array.getElem?_eq_some_iff.1 h1).1 hq]; exact h1, h2⟩
   exact ⟨hI.fr.nb f' fun b hb => by rw [show b = r from hb]; exact hsz, f'.row hI.ra (by omega), f'.row hI.rb (by omega), fms na hI.ms, fms nc hI.mc⟩
  obtain ⟨es2, c2, h1, h2⟩ := hI.mc
  rw [hb'] at h1
  cases h1
  obtain ⟨c, hc, hek⟩ : ∃ c ∈ changed ta tb, e.key = .string (ofL c) := by
   have : (e.key, e.val) ∈ es'.toList.map fun e => (e.key, e.val) := List.mem_map.2 ⟨e, hem, rfl⟩
   rw [h2] at this
   obtain ⟨q, hq, e1⟩ := List.mem_map.1 this
   obtain ⟨q2, hq2, rfl⟩ := List.mem_map.1 hq
   obtain ⟨c, hc, rfl⟩ := List.mem_map.1 hq2
   exact ⟨c, hc, by injection e1 with e1 _; exact e1.symm⟩
  rw [hek] at hrun
  refine ⟨ofL c, e.val, hrun, ⟨_, hI'.ms, ?_⟩⟩
  rw [sget_true, decide_eq_true (changed_sub hc)]
  show cnd false _ _
  rw [cnd_false]
  refine ⟨⟨⟨rfl, rfl, rfl, rfl, rfl, rfl, trivial⟩, k', hIt', hI'⟩, ?_⟩
  dsimp only
  rw [hIt'.lft, hIt.lft]
  exact hlt
theorem Closed_l0_spec {ba bo lo : Nat} {es : Sl} {el : List (Int × Int × Int)} {Za Zb : List Sl} {D : Nat -> Prop} (f0 : Fr F0 w0 w) (hbo : w0.heap.size <= bo) (hne : ba ≠ bo) (ra : Row w ba y.cs) (rb : Row w bo z.cs) (Ua : TD D w y ta Za) (hD : D bo) (Ub : TE lo w z tb Zb) (hA : Fit ta) (hB : FitK 4 tb) (g : GlT w0)
  (he : Vw 3 encT3 w0 es el) (hei : ∀ e ∈ el, I64 e.2.2) (hK : ∀ w', Fr F0 w0 w' -> K true w') :
  probitylaw07_DependClosed_l0 es true ⟨ba, 0, none⟩ ⟨bo, 0, none⟩ 0 K w := by
 have eel := he.len
 refine ⟨⟨fun i u => ∃ (i' lo : Nat) (z : T43) (tb : Td) (Zb : List Sl), i = i' /\ i' <= 4 /\ i' <= el.length /\ Fr F0 w0 u /\ Row u ba y.cs /\ Row u bo z.cs /\ TD D u y ta Za /\ TE lo u z tb Zb /\ FitK (4 - i') tb, fun i _ => 4 - i.toNat, ⟨0, lo, z, tb, Zb, rfl, by omega, by omega, f0, ra, rb, Ua, Ub, hB⟩, ?_⟩⟩
 rintro i u ⟨i, lo, z, tb, Zb, rfl, h4, hil, f0, ra, rb, Ua, Ub, hB⟩
 unfold probitylaw07_DependClosed_b0
 have hend : probitylaw07_DependClosed_k1 true ⟨ba, 0, none⟩ ⟨bo, 0, none⟩ K u := Closed_k1_spec ra rb Ua.tp Ub.tp hA hB.fit (g.fr f0) fun w' f => hK w' (f0.t f)
 refine cnd_prop.2 ⟨fun h1 => cnd_prop.2 ⟨fun h2 => ?_, fun _ => hend⟩, fun _ => hend⟩
 have hlt : i < el.length := by omega
 intro w33
 have d : Fr F0 u w33 := Fr.drew
 clear_value w33
 have f0 := f0.t d
 have ra := d.row ra fun h => h
 have rb := d.row rb fun h => h
 have Ua := Ua.fr d
 have Ub := Ub.fr d
 refine ⟨fun v => v = w33, rfl, T43.lds_row (fun v hv => by rw [hv]; exact rb) ?_⟩
 refine Vw.goS (S := fun v => v = w33) encT3_length (by decide) rfl (fun v hv => by rw [hv]; exact he.fr f0) i rfl hlt fun a hc => ⟨_, hc 0 _ rfl, _, hc 1 _ rfl, _, hc 2 _ rfl, ?_⟩
 obtain ⟨k, hk⟩ : ∃ k, 4 - i = k + 1 := ⟨3 - i, by omega⟩
 rw [hk] at hB
 have hq := hei _ (List.getElem_mem hlt)
 refine edit_store rb Ub hB fun v z' Z' fv rb' U' => ⟨inR64 (by omega) (by omega), ⟨⟨rfl, rfl, rfl, rfl, trivial⟩, i + 1, _, z', _, Z', by omega, by omega, by omega, ?_, fv.row ra hne, rb', ?_, U', ?_⟩, by dsimp only; omega⟩
 ·exact f0.trans fv fun b hb hlt => by omega
 ·exact Ua.frB (F := fun c => c = bo) (fun c hc => by rw [show c = bo from hc]; exact hD) (fun c hc => ⟨z, by rw [show c = bo from hc]; exact rb⟩) (fun c hc => ⟨z', by rw [show c = bo from hc]; exact rb'⟩) fv
 ·exact FitK.mono (edit_fit hB hq) (by omega)
theorem Closed_fr {es : Sl} {el : List (Int × Int × Int)} (g : GlT w) (hp : PP w x p) (hf : PFit p) (he : Vw 3 encT3 w es el) (hei : ∀ e ∈ el, I64 e.1 /\ I64 e.2.1 /\ I64 e.2.2) (hK : ∀ w', Fr F0 w w' -> K true w') : probitylaw07_DependClosed_sh x es K w := by
 refine ⟨?_⟩
 unfold probitylaw07_DependClosed_sd
 intro w1
 have m : Mem w w1 [(w.heap.size, x.cs)] := Mem.nil.allocL
 clear_value w1
 refine sanity_spec (g.fr m.1) fun w2 f2 => ?_
 have m := m.fr f2
 intro w4
 have m : Mem w w4 [(w.heap.size, x.cs)] := m.drew
 clear_value w4
 have hR : ∀ {u : World}, Fr F0 w4 u -> Row u w.heap.size x.cs := fun f => (m.fr f).row 0 rfl
 have hP : ∀ {u : World}, Fr F0 w4 u -> PP u x p := fun f => hp.fr (m.1.t f)
 refine ⟨fun u => Fr F0 w4 u, Fr.refl, T29.lds_row (fun u hu => hR hu) (T29.lds_row (fun u hu => hR hu) ⟨fun u u' h hs => hs.t h.f0, ⟨fun u => ExtL.alloc, fun u => ExtL.alloc, trivial⟩, fun w8 e8 => ?_⟩)⟩
 refine TenderW_spec (hP e8.f0) hf fun w9 r10 Z1 f9 T1 O1 => ⟨f9.ext, fun w11 e11 => ?_⟩
 have f11 := e8.f0.t (f9.t e11.f0)
 refine TenderW_spec (hP f11) hf fun w12 r13 Z2 f12 T2 O2 => ⟨f12.ext, fun w14 e14 w15 e15 _ g15 w16 e16 n16 g16 => ?_⟩
 have f14 := f11.t (f12.t e14.f0)
 have ga := e11.f0.t (f12.t e14.f0)
 have r15 := g15.f0.row (Row.new (cs := zT)) fun h => h
 have r16 := g16.f0.row (Row.new (cs := zT)) fun h => h
 have hne : w15.heap.size ≠ w16.heap.size := n16 _ (List.mem_cons_self ..)
 have l15 := e15.f0.1
 have l16 := e16.f0.1
 generalize w15.heap.size = ba at hne r15 l15 ⊢
 generalize w16.heap.size = bo at hne r16 l16 ⊢
 refine two_box r15 r16 hne (T1.fr ga) (O1.fr ga) (T2.fr e14.f0) (O2.fr e14.f0) (fun u f => f14.trans f fun b hb _ => by omega) fun w18 f18 v1 v2 U1 U2 => ?_
 have F18 : Fr F0 w4 w18 := f14.trans f18 fun b hb _ => by omega
 have A1 := tdP_fitK hf
 have B1 := A1.fit
 have W18 := m.1.t F18
 have kw := m.1.1
 exact Closed_l0_spec (lo := 0) W18 (by omega) hne v1 v2 U1 (.inr rfl) U2.te B1 (FitK.mono A1 (by omega)) g he (fun e h => (hei e h).2.2) fun w' f => hK w' f
end
end Go.Proofs.YtfkmpbpkahcogaaGreatDoor
